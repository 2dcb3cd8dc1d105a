/- A sequence in WpAt whose first part may panic; what one operation is asked. -/
import Derived.Test.YtjcfppbahalgbaaF
import Derived.Test.YtjcfppbahalgbaaO
namespace Go.Proofs.Ytjcfppbahalgbaa
set_option linter.unusedSimpArgs false
set_option linter.unusedVariables false
open Go.RowKit
/-- A post under which a panic alone leaves, with nothing deferred. -/
def panicPost (R : Ending → World → Prop) : Exit → Act → World → Prop
  | .panic ch, a, w => a.defers = [] ∧ R (.panicked ch) w
  | _, _, _ => False
theorem wpAt_seq_p {P : Program} {f : FuncId} {Q : Exit → Act → World → Prop} {a : Act} {w : World} {x y : Code} (R : Ending → World → Prop) (hQ : ∀ ch a w, a.defers = [] → R (.panicked ch) w → Q (.panic ch) a w)
    (h : ∀ K : Act → World → Prop, (∀ a w, WpAt P f y Q a w → K a w) → x.wp P (Exit.then K (panicPost R)) a w) : WpAt P f (Code.seq x y) Q a w := by
  refine wpAt_seq (wpAt_of_wp (Code.wp_mono ?_ (h _ fun _ _ h => h)))
  intro e a w he
  cases e with
  | normal => exact he
  | panic ch => exact hQ ch a w he.1 he.2
  | ret => exact he.elim
  | exit id => exact he.elim
  | goto t => exact he.elim
  | outgrown => exact he.elim
theorem bodyPostP_panic {P : Program} {fn : Func} {R : Ending → World → Prop} (ch : List PanicEntry) (a : Act) (w : World) (hd : a.defers = []) (h : R (.panicked ch) w) : bodyPostP P fn R (.panic ch) a w := by
  show LeavesInM Fence.wide 0 P fn a.tmps R a.defers (.panicking ch) w
  rw [hd]
  simp [LeavesInM, LeavesIn, h]
def opHead (t : Trc) (mk : List Bool) (at_ : Int) (o : TOp) : Bool :=
  (rowOf o.op).is && (decide ((rowOf o.op).args < 0) || (rowOf o.op).args == o.args.length) && numS (rowOf o.op) o.op o.args.length o.kk o.c &&
    o.args.all (fun s => madeS t.virts.length t.ins.length mk s at_) && (o.op != 32 || (o.args.getD 1 ⟨0, 0, 0, 0⟩).k == 0) && decide (-1 ≤ o.snap) && decide (o.snap < t.links.length)
def madeV (t : Trc) (mk : List Bool) (at_ : Int) (s : TSrc) : Bool := s.k == 2 || madeS t.virts.length t.ins.length mk s at_
def OpOk (t : Trc) (mk : List Bool) (at_ : Int) (o : TOp) : Prop := opHead t mk at_ o = true ∧ ∃ xs, TakenBy t o.snap xs ∧ xs.all (madeV t mk at_) = true
def srcCs (x : TSrc) : Array Value := #[.int .i64 x.k, .int .i64 x.vk, .int .i64 x.vn, .int .i64 x.n]
/-- A range over the sources that a link takes, the loop's variable being boxed in slot pb each round. -/
theorem wpAt_rangeSrc {P : Program} {f : FuncId} {fn : Func} {g : Operand} {pv pb : Nat} {assign body : Code} {Q : Exit → Act → World → Prop} {a : Act} {w : World} (hf : P.funcs[f]? = some fn)
    {gf : Nat} {lb : Array Value} (hg : a.eval g = .func (.func gf) #[] lb) (eg : ∀ args w, (callFunc gf args).run P w = .ok (.enter gf args) w)
    {S : List TSrc → Prop} {G : List TSrc → TSrc → Prop} {MB : Nat → Obj → Prop} {W0 : World} (hit : IterP P gf lb encS S G MB (fun D k o => D ≤ k ∧ ownObj o) W0) (hb0 : Below W0.heap.size W0 w)
    (hMB : ∀ r, MB (w.heap.size + 1) (.loop r))
    (I : List TSrc → World → Prop) (E : List PanicEntry → World → Prop) (hI : Stable (fun k o => w.heap.size ≤ k ∧ (ownObj o ∨ isRec o)) I) (h0 : I [] w)
    (hassign : ∀ (l : Nat) (x : TSrc) (W : World) (K : Act → World → Prop), (∀ W₁, Below W.heap.size W W₁ → W₁.heap[W.heap.size]? = some (.cells (srcCs x) 63 (0, 0)) →
        K { tmps := (a.tmps.setIfInBounds pv (.agg (srcCs x))).setIfInBounds pb (.pointer (some ⟨W.heap.size, 0, none⟩)), defers := [] } W₁) →
      assign.wpIn (Fence.wide.inRound l) 0 P (Exit.then K (fun _ _ _ => False)) { tmps := a.tmps.setIfInBounds pv (.agg (srcCs x)), defers := [] } W)
    (hbody : ∀ (l : Nat) (pre : List TSrc) (x : TSrc) (bx : Nat) (W : World), w.heap.size + 2 ≤ W.heap.size → I pre W → G pre x → W.heap[bx]? = some (.cells (srcCs x) 63 (0, 0)) →
      body.wpIn (Fence.wide.inRound l) 0 P (roundEnd MB I E (pre ++ [x]) W) { tmps := (a.tmps.setIfInBounds pv (.agg (srcCs x))).setIfInBounds pb (.pointer (some ⟨bx, 0, none⟩)), defers := [] } W)
    (hdone : ∀ (D : Nat) (xs : List TSrc) (W : World), w.heap.size ≤ D → S xs → I xs W → W.heap[D]? = some (.deferred (some [])) → Q .normal { a with defers := { target := .collected D, args := #[] } :: a.defers } W)
    (hpanic : ∀ (D : Nat) (ch : List PanicEntry) (W : World), w.heap.size ≤ D → E ch W → W.heap[D]? = some (.deferred (some [])) → Q (.panic ch) { a with defers := { target := .collected D, args := #[] } :: a.defers } W) :
    WpAt P f (Code.rangeFunc g #[pv] assign body) Q a w := by
  refine wpAt_rangeFunc hf hg eg hit hb0 hMB (fun _ => rfl) I E hI h0
    (fun x a' W => ∃ bx, a' = { tmps := (a.tmps.setIfInBounds pv (.agg (srcCs x))).setIfInBounds pb (.pointer (some ⟨bx, 0, none⟩)), defers := [] } ∧ W.heap[bx]? = some (.cells (srcCs x) 63 (0, 0)))
    ?_ ?_ ?_ hdone hpanic
  · rintro x a' A B hst ⟨bx, rfl, hb⟩
    exact ⟨bx, rfl, hst.same _ _ hb (fun h => h.2)⟩
  · intro l x W K hK
    have h1 := hassign l x W K (fun W₁ hb hc => hK _ _ hb ⟨_, rfl, hc⟩)
    simpa [encS, srcCs] using h1
  · rintro l pre x a' W _ h2 hi hg ⟨bx, rfl, hb⟩
    exact hbody l pre x bx W h2 hi hg hb
end Go.Proofs.Ytjcfppbahalgbaa
