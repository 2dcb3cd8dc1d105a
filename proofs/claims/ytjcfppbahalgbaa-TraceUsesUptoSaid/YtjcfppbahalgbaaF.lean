/- A range over a function whose body may panic: the law of one round, and of the statement, at the wide fence. -/
import Derived.RangeFuncNested
import Derived.RangeFuncBound
import Derived.RangeFuncCalls
import Derived.RangeFuncLeaves
import Derived.Test.YtjcfppbahalgbaaK
namespace Go.Proofs.Ytjcfppbahalgbaa
open Go.RowKit
section
variable {P : Program} {n : Nat}
/-- How a round's body may be left here: off its end, or by a panic. -/
def roundPostP (P : Program) (l : Nat) (R : Ending → World → Prop) : Exit → Act → World → Prop
  | .normal, _, w => ∃ v w', (Instr.endRound l none).run P w = .ok v w' ∧ R (.returned v) w'
  | .panic ch, a, w => a.defers = [] ∧ R (.panicked ch) w
  | _, _, _ => False
theorem roundIn_of_wpInP {F : Fence} {l : Nat} {f : FuncId} {fn : Func} {tmps : Array Value} {assign body : Code} {w : World} {R : Ending → World → Prop} (hF : F.fn f) (hfn : P.funcs[f]? = some fn)
    (h : assign.wpIn (F.inRound l) n P (Exit.then (fun a₁ w₁ => ∃ w₂, (Instr.beginRound l).run P w₁ = .ok () w₂ ∧ body.wpIn (F.inRound l) n P (roundPostP P l R) a₁ w₂) (fun _ _ _ => False))
      { tmps := tmps, defers := [] } w) :
    RoundIn F n P l f tmps assign body w R := by
  refine ⟨hF, fun c cs hr => ?_⟩
  let b : Frame := { (default : Frame) with fn := f, kind := .normal, roundOf := some l }
  have hb0 : Frame.round l f tmps assign body .normal = b.atR { tmps := tmps, defers := [] } [.code assign, .beginRound, .code body] := by
    simp [Frame.round, Frame.atR, b]
  have hr' : (F.inRound l).room ((c :: cs).length + 1 + n) := hr
  have hF' : (F.inRound l).fn b.fn := hF
  obtain ⟨e, a₁, w₁, hq, harr⟩ := h b [.beginRound, .code body] (c :: cs) rfl hF' hr'
  rw [← hb0] at harr
  cases e with
  | normal =>
    obtain ⟨w₂, hbr, hbody⟩ := hq
    have s1 : StepsIn (Machine.fenced P (F.inRound l)) P (lone (b.atR a₁ [.beginRound, .code body]) (c :: cs) w₁) (lone (b.atR a₁ [.code body]) (c :: cs) w₂) :=
      .one (fenced_calm (fr := b.atR a₁ [.beginRound, .code body]) hF' hr' rfl) (stepR_beginRound rfl hbr)
    obtain ⟨e₂, a₂, w₃, hq₂, harr₂⟩ := hbody b [] (c :: cs) rfl hF' hr'
    cases e₂ with
    | normal =>
      obtain ⟨v, w₄, hend, hR⟩ := hq₂
      exact ⟨.returned v, w₄, hR, (StepsIn.trans harr s1).trans (StepsIn.trans harr₂ (.one (fenced_calm (fr := b.atR a₂ []) hF' hr' rfl) (stepR_round_end rfl rfl hend)))⟩
    | ret => exact hq₂.elim
    | exit id => exact hq₂.elim
    | goto t => exact hq₂.elim
    | panic chain =>
      obtain ⟨hd, hR⟩ := hq₂
      obtain ⟨todo, hs⟩ := harr₂
      have hlv : ({ b.atR a₂ todo with mode := .panicking chain } : Frame).leaving P w₃ (.panicked chain) := ⟨rfl, hd, fn, hfn⟩
      exact ⟨.panicked chain, w₃, hR, (StepsIn.trans harr s1).trans (StepsIn.trans hs (.one (fenced_leaving (fr := { b.atR a₂ todo with mode := .panicking chain }) hF' hr' hlv) (step_leave_panicked hlv)))⟩
    | outgrown => exact hq₂.elim
  | exit id => exact hq.elim
  | goto t => exact hq.elim
  | ret => exact hq.elim
  | panic chain => exact hq.elim
  | outgrown => exact hq.elim
/-- A statement's walk in the frames of one function. -/
def WpAt (P : Program) (f : FuncId) (c : Code) (Q : Exit → Act → World → Prop) (a : Act) (w : World) : Prop :=
  ∀ (b : Frame) (k : List Item) (cs : List Frame), b.fn = f → ∃ e a' w', Q e a' w' ∧ Arrives P (lone (b.at a (.code c :: k)) cs w) b k cs e a' w'
section
variable {f : FuncId} {Q : Exit → Act → World → Prop} {a : Act} {w : World}
theorem wpAt_of_wp {c : Code} (h : c.wp P Q a w) : WpAt P f c Q a w := fun b k cs _ => h b k cs
theorem wpAt_seq {x y : Code} (h : WpAt P f x (Exit.then (WpAt P f y Q) Q) a w) : WpAt P f (Code.seq x y) Q a w := by
  intro b k cs hf
  obtain ⟨e, a₁, w₁, hq, harr⟩ := h b (.code y :: k) cs hf
  cases e with
  | normal =>
    obtain ⟨e₂, a₂, w₂, hq₂, harr₂⟩ := hq b k cs hf
    exact ⟨e₂, a₂, w₂, hq₂, .of_steps (.head step_seq harr) harr₂⟩
  | exit id => exact ⟨_, a₁, w₁, hq, .of_steps (.one step_seq) (.pass (x := .code y) rfl (fun _ _ => .inl (by simp)) harr)⟩
  | goto l => exact ⟨_, a₁, w₁, hq, .of_steps (.one step_seq) (.pass (x := .code y) rfl (fun _ _ => .inl (by simp)) harr)⟩
  | ret => exact ⟨_, a₁, w₁, hq, .of_steps (.one step_seq) (.pass (x := .code y) rfl (fun _ _ => .inl (by simp)) harr)⟩
  | panic ch => exact ⟨_, a₁, w₁, hq, .of_steps (.one step_seq) (.pass (x := .code y) rfl (fun _ _ => .inl (by simp)) harr)⟩
  | outgrown => exact ⟨_, a₁, w₁, hq, .of_steps (.one step_seq) (.pass (x := .code y) rfl (fun _ _ => .inl (by simp)) harr)⟩
/-- The first part is walked as any code; what it comes to is handed to the second. -/
theorem wpAt_seq_k {x y : Code} (h : ∀ K : Act → World → Prop, (∀ a w, WpAt P f y Q a w → K a w) → x.wp P (Exit.then K Q) a w) : WpAt P f (Code.seq x y) Q a w :=
  wpAt_seq (wpAt_of_wp (h _ fun _ _ h => h))
theorem wpAt_block {id : Nat} {c : Code} (h : WpAt P f c (Exit.inBlock id Q) a w) : WpAt P f (Code.block id c) Q a w := by
  intro b k cs hf
  obtain ⟨e, a₁, w₁, hq, harr⟩ := h b (.inBlock id :: k) cs hf
  cases e with
  | normal => exact ⟨.normal, a₁, w₁, hq, .head step_block (Steps.trans harr (.one step_inBlock))⟩
  | exit id' =>
    by_cases hid : id' = id
    · simp only [Exit.inBlock, hid, if_true] at hq
      exact ⟨.normal, a₁, w₁, hq, .head step_block (harr k (by simp [exitTo, hid]))⟩
    · simp only [Exit.inBlock, hid, if_false] at hq
      refine ⟨.exit id', a₁, w₁, hq, fun k' hk => .head step_block (harr k' ?_)⟩
      have : (id == id') = false := by simp; exact fun h => hid h.symm
      simp [exitTo, this, hk]
  | goto l => exact ⟨_, a₁, w₁, hq, fun k' hk => .head step_block (harr k' (by simp [gotoIn, hk]))⟩
  | ret => exact ⟨_, a₁, w₁, hq, .of_steps (.one step_block) harr⟩
  | panic ch => exact ⟨_, a₁, w₁, hq, .of_steps (.one step_block) harr⟩
  | outgrown => exact ⟨_, a₁, w₁, hq, .of_steps (b := b) (k := k) (cs := cs) (e := .outgrown) (.one step_block) harr⟩
/-- What a function's body must come to, marks of its loops taken in. -/
def bodyPostP (P : Program) (fn : Func) (R : Ending → World → Prop) : Exit → Act → World → Prop
  | .normal, a, w | .ret, a, w => LeavesInM Fence.wide 0 P fn a.tmps R a.defers .returning w
  | .panic chain, a, w => LeavesInM Fence.wide 0 P fn a.tmps R a.defers (.panicking chain) w
  | .outgrown, _, w => R .outgrown w
  | _, _, _ => False
theorem calls_of_wpAt {fn : Func} {c : Code} {args : Array Value} {R : Ending → World → Prop} (hf : P.funcs[f]? = some fn) (hb : fn.body = some c)
    (h : WpAt P f c (bodyPostP P fn R) { tmps := args ++ Array.replicate (fn.ntmps - args.size) undef, defers := [] } w) : Calls P f args w R := by
  intro cs
  let b : Frame := { (default : Frame) with fn := f, kind := .normal, roundOf := none }
  have henter : Frame.enter P f args .normal = b.at { tmps := args ++ Array.replicate (fn.ntmps - args.size) undef, defers := [] } [.code c] := by
    simp [Frame.enter, Frame.at, hf, hb, b]
  obtain ⟨e, a', w', hq, harr⟩ := h b [] cs rfl
  rw [← henter] at harr
  cases e with
  | normal =>
    obtain ⟨e', w'', fr', hR, hs, hfn, hl⟩ := leaves_stepsInM (F := Fence.wide) (n := 0) a'.defers .returning w' { b.at a' [] with mode := .returning } cs rfl rfl rfl hf rfl trivial (room_wide _) hq
    exact ⟨e', w'', fr', hR, Comes.of_steps (Steps.trans harr (.one step_end)) hs.comes, hfn, hl⟩
  | ret =>
    obtain ⟨todo, hs₀⟩ := harr
    obtain ⟨e', w'', fr', hR, hs, hfn, hl⟩ := leaves_stepsInM (F := Fence.wide) (n := 0) a'.defers .returning w' { b.at a' todo with mode := .returning } cs rfl rfl rfl hf rfl trivial (room_wide _) hq
    exact ⟨e', w'', fr', hR, Comes.of_steps hs₀ hs.comes, hfn, hl⟩
  | panic chain =>
    obtain ⟨todo, hs₀⟩ := harr
    obtain ⟨e', w'', fr', hR, hs, hfn, hl⟩ := leaves_stepsInM (F := Fence.wide) (n := 0) a'.defers (.panicking chain) w' { b.at a' todo with mode := .panicking chain } cs rfl rfl rfl hf rfl trivial (room_wide _) hq
    exact ⟨e', w'', fr', hR, Comes.of_steps hs₀ hs.comes, hfn, hl⟩
  | exit id => exact hq.elim
  | goto l => exact hq.elim
  | outgrown => exact ⟨.outgrown, w', b, hq, harr.resolve_left (by simp [b]), rfl, trivial⟩
end
/-! ### what a step of one side keeps of the other's -/
/-- Only blocks that M lets turn have turned; there may be new ones. -/
structure StepM (M : Nat → Obj → Prop) (A B : World) : Prop where
  os : B.os = A.os
  tape : B.tape = A.tape
  output : B.output = A.output
  size : A.heap.size ≤ B.heap.size
  same : ∀ k o, A.heap[k]? = some o → ¬ M k o → B.heap[k]? = some o
theorem StepM.refl (M : Nat → Obj → Prop) (A : World) : StepM M A A := ⟨rfl, rfl, rfl, Nat.le_refl _, fun _ _ h _ => h⟩
theorem StepM.of_below {M : Nat → Obj → Prop} {A B : World} (h : Below A.heap.size A B) : StepM M A B :=
  ⟨h.os, h.tape, h.output, h.size, fun k _ hk _ => (h.block k (Array.getElem?_eq_some_iff.1 hk).1).trans hk⟩
theorem StepM.below {M : Nat → Obj → Prop} {A B : World} (h : StepM M A B) {n : Nat} (hM : ∀ k o, M k o → n ≤ k) (hn : n ≤ A.heap.size) : Below n A B :=
  ⟨h.os, h.tape, h.output, h.size, fun k hk => by
    have hl : k < A.heap.size := by omega
    rw [Array.getElem?_eq_getElem hl]
    exact h.same k _ (Array.getElem?_eq_getElem hl) (fun hm => by have := hM _ _ hm; omega)⟩
def Stable {β : Type} (M : Nat → Obj → Prop) (J : β → World → Prop) : Prop := ∀ s A B, StepM M A B → J s A → J s B
/-- The contract of an iterator whose rounds may panic: it hands over the elements of a list of which S is told, each of which is good (G). MB: what a round may turn; MI D: what the iterator turns itself, entered at a heap of D blocks. -/
def IterP {α : Type} (P : Program) (gf : FuncId) (lb : Array Value) (encs : α → Array Value) (S : List α → Prop) (G : List α → α → Prop) (MB : Nat → Obj → Prop) (MI : Nat → Nat → Obj → Prop) (W0 : World) : Prop :=
  ∀ (l : Nat) (J : List α → World → Prop) (E : List PanicEntry → World → Prop) (W : World), Below W0.heap.size W0 W → Stable (MI W.heap.size) J →
    (∀ pre x W1, J pre W1 → G pre x → W.heap.size ≤ W1.heap.size → YieldAt Fence.wide 0 P l (encs x) W1 fun e W' => (e = .returned (.bool true) ∧ J (pre ++ [x]) W' ∧ StepM MB W1 W') ∨ (∃ ch, e = .panicked ch ∧ E ch W')) →
    J [] W →
    Calls P gf (#[.func (.yield l) #[] #[]] ++ lb) W fun e W' => (e = .returned (.tuple #[]) ∧ ∃ xs, S xs ∧ J xs W') ∨ (∃ ch, e = .panicked ch ∧ E ch W')
/-- The loop's own record and its block for deferred calls. -/
def isRec : Obj → Prop
  | .loop _ | .deferred _ => True
  | _ => False
/-- How a round's body may be left: off its end, or by a panic; what it may turn: MB, but no record. -/
def roundEnd {α : Type} (MB : Nat → Obj → Prop) (I : List α → World → Prop) (E : List PanicEntry → World → Prop) (xs : List α) (W : World) : Exit → Act → World → Prop
  | .normal, _, W' => StepM (fun k o => MB k o ∧ ¬ isRec o) W W' ∧ I xs W'
  | .panic ch, a, W' => a.defers = [] ∧ StepM (fun k o => MB k o ∧ ¬ isRec o) W W' ∧ E ch W'
  | _, _, _ => False
theorem stepM_putObj (M : Nat → Obj → Prop) (W : World) (l : Nat) (o : Obj) (h : ∀ o', W.heap[l]? = some o' → M l o') : StepM M W (W.putObj l o) :=
  ⟨rfl, rfl, rfl, by simp, fun k o' hk hn => (World.putObj_heap_other (fun e => hn (by rw [e] at hk ⊢; exact h _ hk))).trans hk⟩
theorem StepM.trans {M : Nat → Obj → Prop} {A B C : World} (h : StepM M A B) (k : StepM M B C) : StepM M A C :=
  ⟨k.os.trans h.os, k.tape.trans h.tape, k.output.trans h.output, Nat.le_trans h.size k.size, fun i o hi hn => k.same i o (h.same i o hi hn) hn⟩
theorem StepM.mono {M M' : Nat → Obj → Prop} {A B : World} (h : StepM M A B) (hm : ∀ k o, M k o → M' k o) : StepM M' A B :=
  ⟨h.os, h.tape, h.output, h.size, fun k o hk hn => h.same k o hk (fun hq => hn (hm _ _ hq))⟩
theorem wpAt_rangeFunc {α : Type} {f : FuncId} {fn : Func} {g : Operand} {ps : Array Tmp} {assign body : Code} {Q : Exit → Act → World → Prop} {a : Act} {w : World} (hf : P.funcs[f]? = some fn)
    {gf : Nat} {lb : Array Value} (hg : a.eval g = .func (.func gf) #[] lb) (eg : ∀ args w, (callFunc gf args).run P w = .ok (.enter gf args) w)
    {encs : α → Array Value} {S : List α → Prop} {G : List α → α → Prop} {MB : Nat → Obj → Prop} {own : Obj → Prop} {W0 : World} (hit : IterP P gf lb encs S G MB (fun D k o => D ≤ k ∧ own o) W0) (hb0 : Below W0.heap.size W0 w)
    (hMB : ∀ r, MB (w.heap.size + 1) (.loop r)) (hps : ∀ x, (encs x).size = ps.size)
    (I : List α → World → Prop) (E : List PanicEntry → World → Prop) (hI : Stable (fun k o => w.heap.size ≤ k ∧ (own o ∨ isRec o)) I) (h0 : I [] w)
    (Ax : α → Act → World → Prop) (hAx : ∀ x a' A B, StepM (fun k o => w.heap.size ≤ k ∧ isRec o) A B → Ax x a' A → Ax x a' B)
    (hassign : ∀ (l : Nat) (x : α) (W : World) (K : Act → World → Prop), (∀ a₁ W₁, Below W.heap.size W W₁ → Ax x a₁ W₁ → K a₁ W₁) →
      assign.wpIn (Fence.wide.inRound l) 0 P (Exit.then K (fun _ _ _ => False)) { tmps := (ps.zip (encs x)).foldl (fun t (p, v) => t.setIfInBounds p v) a.tmps, defers := [] } W)
    (hbody : ∀ (l : Nat) (pre : List α) (x : α) (a₁ : Act) (W : World), l = w.heap.size + 1 → w.heap.size + 2 ≤ W.heap.size → I pre W → G pre x → Ax x a₁ W → body.wpIn (Fence.wide.inRound l) 0 P (roundEnd MB I E (pre ++ [x]) W) a₁ W)
    (hdone : ∀ (D : Nat) (xs : List α) (W : World), w.heap.size ≤ D → S xs → I xs W → W.heap[D]? = some (.deferred (some [])) → Q .normal { a with defers := { target := .collected D, args := #[] } :: a.defers } W)
    (hpanic : ∀ (D : Nat) (ch : List PanicEntry) (W : World), w.heap.size ≤ D → E ch W → W.heap[D]? = some (.deferred (some [])) → Q (.panic ch) { a with defers := { target := .collected D, args := #[] } :: a.defers } W) :
    WpAt P f (Code.rangeFunc g ps assign body) Q a w := by
  intro b k cs hbf
  obtain ⟨rec, hrec⟩ : ∃ rec : LoopState → Option Code → Loop, rec = fun st pe => { state := st, pending := pe, fn := b.fn, tmps := a.tmps, params := ps, assign, body, defers := w.heap.size } := ⟨_, rfl⟩
  obtain ⟨W1, hW1⟩ : ∃ W1, (w.alloc (.deferred (some []))).alloc (.loop (rec .ready none)) = W1 := ⟨_, rfl⟩
  have hs1 : W1.heap.size = w.heap.size + 2 := by rw [← hW1]; simp
  have hL1 : W1.heap[w.heap.size + 1]? = some (.loop (rec .ready none)) := by
    rw [← hW1]; have := World.alloc_heap_new (w.alloc (.deferred (some []))) (.loop (rec .ready none)); rwa [World.size_alloc] at this
  have hK1 : W1.heap[w.heap.size]? = some (.deferred (some [])) := by
    rw [← hW1]; exact (Below.heap_alloc _ _ _ (by simp)).trans (World.alloc_heap_new w _)
  have hbw : Below w.heap.size w W1 := by rw [← hW1]; exact below_alloc (below_alloc (Below.refl _ _) _) _
  have hI1 : I [] W1 := hI _ _ _ (StepM.of_below hbw) h0
  have hb1 : Below W0.heap.size W0 W1 := hb0.trans (hbw.mono hb0.size)
  have he : (Instr.enterLoop b.fn a.tmps ps assign body none).run P w = .ok (w.heap.size + 1, [{ target := .collected w.heap.size, args := #[] }]) W1 := by
    rw [← hW1, hrec]; exact run_enterLoop_outer _ _ _ _ _
  have hres : (resolve a.eval (rangeCall g (w.heap.size + 1)) 0).run P W1 = .ok { target := .fn (.func gf) lb, args := #[.func (.yield (w.heap.size + 1)) #[] #[]] } W1 := by
    simp only [resolve, hg]
    simp [go_sem]
  have hinv : (invoke (.fn (.func gf) lb) #[.func (.yield (w.heap.size + 1)) #[] #[]]).run P W1 = .ok (.enter gf (#[.func (.yield (w.heap.size + 1)) #[] #[]] ++ lb)) W1 := by simp [invoke, go_sem, eg]
  let b' : Frame := { b with roundOf := none }
  have hat : ∀ (a : Act) (t : List Item), b'.atR a t = b.at a t := fun _ _ => rfl
  have henter := stepR_rangeFunc (P := P) (b := b') (a := a) (k := k) (cs := cs) (w := w) he hres hinv
  rw [hat, hat] at henter
  have hcall := hit (w.heap.size + 1)
    (fun pre W => I pre W ∧ W.heap[w.heap.size + 1]? = some (.loop (rec .ready none)) ∧ W.heap[w.heap.size]? = some (.deferred (some [])))
    (fun ch W => E ch W ∧ W.heap[w.heap.size]? = some (.deferred (some []))) W1 hb1
    (by
      rw [hs1]
      rintro s A B hst ⟨h1, h2, h3⟩
      refine ⟨hI s A B (hst.mono fun k o ⟨hk, ho⟩ => ⟨by omega, .inl ho⟩) h1, hst.same _ _ h2 (fun h => by omega), hst.same _ _ h3 (fun h => by omega)⟩)
    (by
      rintro pre x W ⟨hi, hl, hk⟩ hgx hsz
      have hlt : w.heap.size + 1 < W.heap.size := (Array.getElem?_eq_some_iff.1 hl).1
      have hy := run_yield (P := P) (args := encs x) hl (by rw [hrec]; exact hps x)
      refine ⟨_, _, _, _, hy, roundIn_of_wpInP (fn := fn) trivial (by rw [hrec]; simpa [hbf] using hf) ?_⟩
      rw [hrec]
      refine hassign _ x W _ ?_
      intro a₁ W₂ hbl hax
      have hl2 : W₂.heap[w.heap.size + 1]? = some (.loop (rec .ready none)) := (hbl.block _ hlt).trans hl
      have hk2 : W₂.heap[w.heap.size]? = some (.deferred (some [])) := (hbl.block _ (by omega)).trans hk
      have hlt2 := (Array.getElem?_eq_some_iff.1 hl2).1
      refine ⟨_, run_beginRound hl2 (by rw [hrec]), ?_⟩
      have hst2 : StepM (fun k o => w.heap.size ≤ k ∧ isRec o) W₂ (W₂.putObj (w.heap.size + 1) (.loop { rec .ready none with state := .busy })) :=
        stepM_putObj _ _ _ _ (fun o' ho => by rw [hl2] at ho; cases ho; exact ⟨by omega, trivial⟩)
      have hl3 : (W₂.putObj (w.heap.size + 1) (.loop { rec .ready none with state := .busy })).heap[w.heap.size + 1]? = some (.loop { rec .ready none with state := .busy }) := World.putObj_heap_same hlt2
      have hk3 : (W₂.putObj (w.heap.size + 1) (.loop { rec .ready none with state := .busy })).heap[w.heap.size]? = some (.deferred (some [])) := (World.putObj_heap_other (by omega)).trans hk2
      have hi3 : I pre (W₂.putObj (w.heap.size + 1) (.loop { rec .ready none with state := .busy })) :=
        hI _ _ _ (hst2.mono fun k o ⟨h1, h2⟩ => ⟨h1, .inr h2⟩) (hI _ _ _ (StepM.of_below hbl) hi)
      have hMBl : StepM MB W (W₂.putObj (w.heap.size + 1) (.loop { rec .ready none with state := .busy })) :=
        (StepM.of_below hbl).trans (stepM_putObj _ _ _ _ (fun o' ho => by rw [hl2] at ho; cases ho; exact hMB _))
      refine wpIn_mono (hbody _ pre x a₁ _ rfl (by simp; omega) hi3 hgx (hAx _ _ _ _ hst2 hax)) ?_
      rintro e a3 W3 hp
      cases e with
      | normal =>
        obtain ⟨hst, hi4⟩ := hp
        have hl4 := hst.same _ _ hl3 (fun h => h.2 trivial)
        have hk4 := hst.same _ _ hk3 (fun h => h.2 trivial)
        have hr := run_endRound (P := P) none hl4
        have hlt4 := (Array.getElem?_eq_some_iff.1 hl4).1
        refine ⟨_, _, hr, .inl ⟨rfl, ⟨hI _ _ _ (stepM_putObj _ _ _ _ (fun o' ho => by rw [hl4] at ho; cases ho; exact ⟨by omega, .inr trivial⟩)) hi4, ?_, (World.putObj_heap_other (by omega)).trans hk4⟩, ?_⟩⟩
        · rw [World.putObj_heap_same hlt4, hrec]; rfl
        · exact (hMBl.trans (hst.mono fun _ _ h => h.1)).trans (stepM_putObj _ _ _ _ (fun o' ho => by rw [hl4] at ho; cases ho; exact hMB _))
      | panic ch =>
        obtain ⟨hd, hst, hE⟩ := hp
        exact ⟨hd, .inr ⟨ch, rfl, hE, hst.same _ _ hk3 (fun h => h.2 trivial)⟩⟩
      | ret => exact hp.elim
      | exit id => exact hp.elim
      | goto t => exact hp.elim
      | outgrown => exact hp.elim)
    ⟨hI1, hL1, hK1⟩
  obtain ⟨e, w₃, fr, hR, hsteps, hfn, hleave⟩ := hcall (b.at { a with defers := [{ target := .collected w.heap.size, args := #[] }] ++ a.defers } (.inRangeFunc (w.heap.size + 1) :: k) :: cs)
  rcases hR with ⟨rfl, xs, hS, hi, hl, hk⟩ | ⟨ch, rfl, hE, hk⟩
  · have hend : (Instr.endLoop (w.heap.size + 1)).run P w₃ = .ok none (w₃.putObj (w.heap.size + 1) (.loop { rec .ready none with state := .exhausted })) := by
      have h0 := run_endLoop (P := P) hl (by rw [hrec]; simp)
      rw [hrec] at h0 ⊢
      exact h0
    refine ⟨.normal, _, w₃.putObj (w.heap.size + 1) (.loop { rec .ready none with state := .exhausted }), hdone w.heap.size xs _ (Nat.le_refl _) hS (hI _ _ _ (stepM_putObj _ _ _ _ (fun o' ho => by rw [hl] at ho; cases ho; exact ⟨by omega, .inr trivial⟩)) hi) ((World.putObj_heap_other (by omega)).trans hk), ?_⟩
    refine Steps.head henter (Steps.trans hsteps (Steps.head (step_leave_returned hleave) ?_))
    have h1 := finish_atR_inRangeFunc (b := b') (a := { a with defers := [{ target := .collected w.heap.size, args := #[] }] ++ a.defers }) (k := k) (w.heap.size + 1) (.tuple #[])
    rw [hat, hat] at h1
    rw [h1]
    have h2 := stepR_endRangeFunc (P := P) (b := b') (a := { a with defers := [{ target := .collected w.heap.size, args := #[] }] ++ a.defers }) (k := k) (cs := cs) hend
    rw [hat, hat] at h2
    exact Steps.one h2
  · refine ⟨.panic ch, _, _, hpanic w.heap.size ch _ (Nat.le_refl _) hE hk, .inRangeFunc (w.heap.size + 1) :: k, Steps.head henter (Steps.trans hsteps (Steps.one (step_leave_panicked hleave)))⟩
end
end Go.Proofs.Ytjcfppbahalgbaa
