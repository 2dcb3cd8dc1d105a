/- swathref16.op: one operation. -/
import Derived.Test.YtjcfppbahalgbaaRefTaken
import Derived.Deep.DeepCutAuto
namespace Go.Proofs.Ytjcfppbahalgbaa
open Go.RowKit
open Go.Proofs.YtjcfppbahalgbaaW.PrintWords (QRow q_append q_drop q_take q_cells q_of_own q_move q_lt q_typed q_slice q_lower)
set_option linter.unusedSimpArgs false
set_option linter.unusedVariables false
/-- What an operation is asked of its arguments, by the document. -/
def argR (t : Trc) (o : TOp) (at_ : Int) (i : Nat) (s : TSrc) : Bool := plainS 0 s && madeR t.ins.length (mkOf t) s at_ && !(o.op == 32 && i == 1 && s.k != 0)
theorem allI_and {α : Type} {p : α → Bool} {q : Nat → α → Bool} : ∀ (l : List α), allI (fun i x => p x && q i x) l = (l.all p && allI q l) := by
  intro l
  unfold allI
  rw [Bool.eq_iff_iff]
  simp only [List.all_eq_true, Bool.and_eq_true]
  constructor
  · intro h
    refine ⟨fun x hx => ?_, fun x hx => (h x hx).2⟩
    obtain ⟨i, hi⟩ := List.getElem?_of_mem hx
    exact (h (x, i) (List.mem_zipIdx_iff_getElem?.2 hi)).1
  · rintro ⟨h1, h2⟩ x hx
    exact ⟨h1 x.1 (List.mem_of_getElem? (List.mem_zipIdx_iff_getElem?.1 hx)), h2 x hx⟩
theorem args_law (t : Trc) (o : TOp) (at_ : Int) (h : o.op = 32 → o.args.length = 2) :
    allI (argR t o at_) o.args = (o.args.all (fun s => madeS t.virts.length t.ins.length (mkOf t) s at_) && (o.op != 32 || (o.args.getD 1 ⟨0, 0, 0, 0⟩).k == 0)) := by
  have h1 : argR t o at_ = fun i s => madeS t.virts.length t.ins.length (mkOf t) s at_ && !(o.op == 32 && i == 1 && s.k != 0) := by
    funext i s
    unfold argR
    rw [made_and]
  rw [h1, allI_and (p := fun s => madeS t.virts.length t.ins.length (mkOf t) s at_) (q := fun i s => !(o.op == 32 && i == 1 && s.k != 0))]
  congr 1
  by_cases ho : o.op = 32
  · obtain ⟨a, b, hab⟩ : ∃ a b, o.args = [a, b] := by
      have := h ho
      match o.args, this with
      | [a, b], _ => exact ⟨a, b, rfl⟩
    rw [hab]
    simp [allI, ho]
    rfl
  · have e1 : (o.op == 32) = false := by simpa using ho
    have e2 : (o.op != 32) = true := by simpa using ho
    rw [e2, Bool.true_or]
    simp only [e1, Bool.false_and, Bool.not_false]
    unfold allI
    simp
theorem rowL_name2 : ∀ n : Fin 36, (rowL.getD n.val noRow).name.data.toList.isEmpty = !(rowL.getD n.val noRow).is := by decide
theorem name_nil (op : Int) : (rowOf op).name.toList.isEmpty = !(rowOf op).is := by
  rw [ByteArray.toList_eq]
  unfold rowOf
  by_cases hr : 0 ≤ op ∧ op < 36
  · rw [if_pos hr]
    cases his : (rowL.getD op.toNat noRow).is with
    | false => rfl
    | true =>
      have := rowL_name2 ⟨op.toNat, by omega⟩
      simp only [his] at this
      rw [if_pos rfl, this, his]
  · rw [if_neg hr]
    rfl
def headOk (o : TOp) : Bool := (rowOf o.op).is && (decide ((rowOf o.op).args < 0) || (rowOf o.op).args == o.args.length) && numS (rowOf o.op) o.op o.args.length o.kk o.c
theorem opHead_is (t : Trc) (at_ : Int) (o : TOp) : opHead t (mkOf t) at_ o = (headOk o && allI (argR t o at_) o.args && decide (-1 ≤ o.snap) && decide (o.snap < t.links.length)) := by
  cases hh : headOk o with
  | false =>
    have : opHead t (mkOf t) at_ o = (headOk o && o.args.all (fun s => madeS t.virts.length t.ins.length (mkOf t) s at_) && (o.op != 32 || (o.args.getD 1 ⟨0, 0, 0, 0⟩).k == 0) && decide (-1 ≤ o.snap) && decide (o.snap < t.links.length)) := rfl
    rw [this, hh]
    simp
  | true =>
    have : opHead t (mkOf t) at_ o = (headOk o && o.args.all (fun s => madeS t.virts.length t.ins.length (mkOf t) s at_) && (o.op != 32 || (o.args.getD 1 ⟨0, 0, 0, 0⟩).k == 0) && decide (-1 ≤ o.snap) && decide (o.snap < t.links.length)) := rfl
    rw [this, args_law t o at_ (fun h32 => ?_), hh]
    · simp [Bool.and_assoc]
    · unfold headOk at hh
      rw [h32] at hh
      simp only [Bool.and_eq_true, Bool.or_eq_true, decide_eq_true_eq, beq_iff_eq, row32] at hh
      rcases hh.1.2 with h | h
      · omega
      · omega
theorem taken_good {vs : List TVrt} (hc : ∀ v ∈ vs, ∀ s ∈ v.cells, GoodS vs.length s) {todo : List TSrc} {seen : List Int} {out : List TSrc} (h : Taken vs todo seen out) : (∀ s ∈ todo, GoodS vs.length s) → ∀ s ∈ out, GoodS vs.length s := by
  induction h with
  | nil seen => exact fun _ s h => by cases h
  | skip hn ht ih =>
    intro hg s hs
    rcases List.mem_cons.1 hs with rfl | hs
    · exact hg _ List.mem_cons_self
    · exact ih (fun z hz => hg z (List.mem_cons_of_mem _ hz)) s hs
  | virt h2 hn hv ht ih =>
    intro hg s hs
    rcases List.mem_cons.1 hs with rfl | hs
    · exact hg _ List.mem_cons_self
    · exact ih (fun z hz => by
        rcases List.mem_append.1 hz with hz | hz
        · exact hg z (List.mem_cons_of_mem _ hz)
        · exact hc _ (List.mem_of_getElem? hv) z hz) s hs
theorem takenBy_good {t : Trc} (ht : TakeOk t) {n : Int} {xs : List TSrc} (h : TakenBy t n xs) : ∀ s ∈ xs, GoodS t.virts.length s := by
  obtain ⟨l, -, h⟩ := h
  refine taken_good ht.cells h fun s hs => ?_
  obtain ⟨x, _, hx⟩ := List.mem_flatMap.1 hs
  split at hx
  · rename_i k hk; exact ht.regs k (List.mem_of_getElem? hk) s hx
  · cases hx
theorem wpList_load_gd {P : Program} {ops : Array Oper} {Q : Exit → Act → World → Prop} {rest : List Oper} {o : Oper} {a : Act} {w : World} (hw : Region.wanted o (yielded ops a.tmps) = true) (ty : TypeId) (x : Operand) (ho : o.op = .load ty x)
    (g : Nat) (hx : a.eval x = .pointer (some ⟨g, 0, none⟩)) (cs : List Value) (d : TypeDesc) (hg : At w g 0 cs)
    (hu : P.underlying ty = some d) (hd : (match d with | .struct _ | .array _ _ => true | _ => false) = true) (hi : (P.info? ty).map (·.size) = some cs.length)
    (h : wpList P ops Q rest (a.put o.dst (.agg cs.toArray)) w) : wpList P ops Q (o :: rest) a w := by
  unfold wpList
  rw [if_pos hw]
  left
  unfold Oper.wp
  simp only [exec_load_at ty x ho g hx cs d hg hu hd hi]
  exact h
def OpPost (T : TV) (at_ : Nat) (w : World) (e : Ending) (w' : World) : Prop := ∃ b, e = .returned (.bool b) ∧ (b = true ↔ OpAt T.t at_) ∧ Below w.heap.size w w'
set_option maxRecDepth 100000 in
set_option maxHeartbeats 3200000 in
theorem refop_any (T : TV) (at_ : Nat) (w : World) (hT : T.ok w) (ht : TakeOk T.t) (hat : at_ < T.t.ops.length) :
    Calls Try.prog 51 #[.agg T.cells.toArray, .int .i64 at_] w (OpPost T at_ w) := by
  obtain ⟨W1, hW1⟩ : ∃ W1, w.alloc (.cells T.cells.toArray 33) = W1 := ⟨_, rfl⟩
  have hB1 : Below w.heap.size w W1 := by rw [← hW1]; exact below_alloc (Below.refl _ _) _
  have hat1 : At W1 w.heap.size 0 T.cells := by rw [← hW1]; exact At.of_obj (heap_alloc_last w _)
  have hz1 : W1.heap.size = w.heap.size + 1 := by rw [← hW1]; simp
  have x13 := hat1 13 _ rfl
  have x14 := hat1 14 _ rfl
  rw [Nat.zero_add] at x13 x14
  obtain ⟨o, ho⟩ : ∃ o, T.t.ops[at_]? = some o := ⟨_, List.getElem?_eq_getElem hat⟩
  obtain ⟨b, oo, Aa, ca, hA, hb, e0, e1, e2, e3, e4, hra⟩ := op_get (hT.below hB1).o.2.2.2 ho
  rw [hA] at x13
  obtain ⟨W2, hW2⟩ : ∃ W2, W1.alloc (.cells #[.int .i64 o.op, .slice Aa o.args.length ca, .int .i64 o.kk, .int .i64 o.c, .int .i64 o.snap] 41) = W2 := ⟨_, rfl⟩
  have hB12 : Below W1.heap.size W1 W2 := by rw [← hW2]; exact below_alloc (Below.refl _ _) _
  have hb2 := heap_alloc_last W1 (.cells #[.int .i64 o.op, .slice Aa o.args.length ca, .int .i64 o.kk, .int .i64 o.c, .int .i64 o.snap] 41)
  rw [hW2] at hb2
  rw [hz1] at hb2
  have c0 := cell_of_row W2 (w.heap.size + 1) 0 _ _ _ hb2
  have c1 := cell_of_row W2 (w.heap.size + 1) 1 _ _ _ hb2
  have c2 := cell_of_row W2 (w.heap.size + 1) 2 _ _ _ hb2
  have c3 := cell_of_row W2 (w.heap.size + 1) 3 _ _ _ hb2
  have c4 := cell_of_row W2 (w.heap.size + 1) 4 _ _ _ hb2
  simp only [List.getElem?_toArray, List.getElem?_cons_zero, List.getElem?_cons_succ] at c0 c1 c2 c3 c4
  have HB2 := Lib.hid (below_then hB1 hB12)
  have HT := Lib.hid ((hT.below hB1).below hB12)
  have HAT := Lib.hid (hat1.below hB12)
  have z14 := cell_later hB12 x14
  have HRA := Lib.hid (hra.2.2.2.below hB12 (fun _ _ h => h))
  have hal : (o.args.length : Int) ≤ 1048576 := by have := hra.2.2.1; omega
  have hll : (T.t.links.length : Int) ≤ 1048576 := by have := hT.l.2.2.1; omega
  have hol : (T.t.ops.length : Int) ≤ 1048576 := by have := hT.o.2.2.1; omega
  have HTK := Lib.hid ht
  have HOP : Hid (OpAt T.t at_ ↔ OpOk T.t (mkOf T.t) at_ o) := by
    constructor
    · exact fun h => h o ho
    · intro h o' ho'
      rw [ho] at ho'
      cases ho'
      exact h
  have hmade := fun (s : TSrc) (w' : World) (h : Below W2.heap.size W2 w') => refmade_any T s at_ w' (HT.out.below h) (by omega)
  have htaken := fun (h1 : o.snap < T.t.links.length) (h2 : -1 ≤ o.snap) (w' : World) (h : Below W2.heap.size W2 w') => reftaken_any T o.snap w' (HT.out.below h) ht h1 h2
  obtain ⟨cs, hcs⟩ : ∃ cs, T.cells.toArray = cs := ⟨_, rfl⟩
  rw [hcs] at hW1 hmade htaken ⊢
  simp only [srcCs] at hmade
  have HMADE := Lib.hid hmade
  have HTAKEN := Lib.hid htaken
  have HCS := Lib.hid hcs
  have HNO : Hid (opHead T.t (mkOf T.t) at_ o = false → (false = true ↔ OpAt T.t at_)) := fun h => by
    rw [HOP.out]
    refine ⟨fun h => (by cases h), fun h2 => ?_⟩
    have := h2.1
    rw [h] at this
    cases this
  clear hcs hat1 hT ht hA hb hra ho hmade htaken hb2 hB1 hB12
  go_enter Try.func51, Try.ntmps51
  go_upto_region 2 with fail
  go_cut [40] from 17 to 40 (fun s40 wx => s40 = .bool (!headOk o) ∧ Below W2.heap.size W2 wx)
  case first =>
    (try simp only [Act.put, List.setIfInBounds_toArray, List.set_cons_zero, List.set_cons_succ])
    obtain ⟨r, hr⟩ : ∃ r, rowOf o.op = r := ⟨_, rfl⟩
    have hname := fun w => refname_any o.op w
    have hargs := fun w => refargs_any o.op w
    have hnum := fun w => refnumber_any Aa o.args.length ca o.op o.kk o.c o.snap w
    have hni := name_nil o.op
    have hH : headOk o = (r.is && (decide (r.args < 0) || r.args == o.args.length) && numS r o.op o.args.length o.kk o.c) := by
      rw [← hr]
      rfl
    rw [hr] at hname hargs hnum hni
    have HNAME := Lib.hid hname
    have HARGS := Lib.hid hargs
    obtain ⟨nb, hnb⟩ : ∃ nb, numS r o.op o.args.length o.kk o.c = nb := ⟨_, rfl⟩
    rw [hnb] at hnum hH
    have HNUM := Lib.hid hnum
    clear hname hargs hnum hnb hr
    cases hi : r.is with
    | false =>
      have i1 : r.name.toList.isEmpty = true := by rw [hni, hi]; rfl
      have i2 : r.name.toList = [] := by simpa using i1
      have HD : Hid (headOk o = false) := by show _ = _; rw [hH, hi]; rfl
      clear hi hni hH
      refine drawn_begin (fun w' => Below W2.heap.size W2 w' ∧ w'.cell? ⟨w.heap.size + 1, 0, none⟩ = some (.int .i64 o.op) ∧ w'.cell? ⟨w.heap.size + 1, 1, none⟩ = some (.slice Aa o.args.length ca) ∧ w'.cell? ⟨w.heap.size + 1, 2, none⟩ = some (.int .i64 o.kk) ∧ w'.cell? ⟨w.heap.size + 1, 3, none⟩ = some (.int .i64 o.c) ∧ w'.cell? ⟨w.heap.size + 1, 4, none⟩ = some (.int .i64 o.snap)) (fun c a d v w h => ?_) (by kernel_rfl) ?_ (fun hside hHeld => ?_)
      · (obtain ⟨h1, h2⟩ := h; exact And.intro (put_nil h1) h2)
      · exact ⟨below_drewN (Below.refl _ _) 1, c0, c1, c2, c3, c4⟩
      refine wpAnyH_take (i := 0) (v := ?_) (op_at rfl) (by kernel_rfl) (by kernel_rfl) (by kernel_rfl) (fun _ _ _ h => hside _ _ _ _ _ h) (Or.inl ⟨by rfl, ?_⟩) (by assumption) ?_
      rotate_left
      · (intro w hSw; (try dsimp only at hSw); go_simp; all_goals with_reducible rfl)
      (try simp only [Act.put, List.setIfInBounds_toArray, List.set_cons_zero, List.set_cons_succ])
      refine wpAnyH_take (i := 1) (v := ?_) (op_at rfl) (by kernel_rfl) (by kernel_rfl) (by kernel_rfl) (fun _ _ _ h => hside _ _ _ _ _ h) (Or.inl ⟨by rfl, ?_⟩) (by assumption) ?_
      rotate_left
      · (intro w hSw; (try dsimp only at hSw); go_simp; all_goals with_reducible rfl)
      (try simp only [Act.put, List.setIfInBounds_toArray, List.set_cons_zero, List.set_cons_succ])
      refine wpAnyH_ready (rs := [2]) (by kernel_rfl) (by simp) (AllReadyH.cons (op_at rfl) (fun Kr hK => ?_) AllReadyH.nil)
      go_simp
      refine (HNAME.out _).mono ?_
      rintro e w3 ⟨rfl, rfl⟩
      refine hK.out _ _ ?_ (fun hHeld => ?_)
      · exact hHeld
      clear hK
      (try simp only [Act.put, List.setIfInBounds_toArray, List.set_cons_zero, List.set_cons_succ])
      refine wpAnyH_take (i := 3) (v := ?_) (op_at rfl) (by kernel_rfl) (by kernel_rfl) (by kernel_rfl) (fun _ _ _ h => hside _ _ _ _ _ h) (Or.inl ⟨by rfl, ?_⟩) (by assumption) ?_
      rotate_left
      · (intro w hSw; (try dsimp only at hSw); go_simp; all_goals with_reducible rfl)
      (try simp only [Act.put, List.setIfInBounds_toArray, List.set_cons_zero, List.set_cons_succ])
      refine wpAnyH_take (i := 4) (v := ?_) (op_at rfl) (by kernel_rfl) (by kernel_rfl) (by kernel_rfl) (fun _ _ _ h => hside _ _ _ _ _ h) (Or.inl ⟨by rfl, ?_⟩) (by assumption) ?_
      rotate_left
      · (intro w hSw; (try dsimp only at hSw); go_simp; all_goals with_reducible rfl)
      (try simp only [Act.put, List.setIfInBounds_toArray, List.set_cons_zero, List.set_cons_succ])
      refine wpAnyH_take (i := 5) (v := undef) (op_at rfl) (by kernel_rfl) (by kernel_rfl) (by kernel_rfl) (fun _ _ _ h => hside _ _ _ _ _ h) (Or.inr ⟨by rfl, rfl⟩) (by assumption) ?_
      (try simp only [Act.put, List.setIfInBounds_toArray, List.set_cons_zero, List.set_cons_succ])
      refine wpAnyH_take (i := 6) (v := undef) (op_at rfl) (by kernel_rfl) (by kernel_rfl) (by kernel_rfl) (fun _ _ _ h => hside _ _ _ _ _ h) (Or.inr ⟨by rfl, rfl⟩) (by assumption) ?_
      (try simp only [Act.put, List.setIfInBounds_toArray, List.set_cons_zero, List.set_cons_succ])
      refine wpAnyH_take (i := 7) (v := undef) (op_at rfl) (by kernel_rfl) (by kernel_rfl) (by kernel_rfl) (fun _ _ _ h => hside _ _ _ _ _ h) (Or.inr ⟨by rfl, rfl⟩) (by assumption) ?_
      (try simp only [Act.put, List.setIfInBounds_toArray, List.set_cons_zero, List.set_cons_succ])
      refine wpAnyH_take (i := 8) (v := undef) (op_at rfl) (by kernel_rfl) (by kernel_rfl) (by kernel_rfl) (fun _ _ _ h => hside _ _ _ _ _ h) (Or.inr ⟨by rfl, rfl⟩) (by assumption) ?_
      (try simp only [Act.put, List.setIfInBounds_toArray, List.set_cons_zero, List.set_cons_succ])
      refine wpAnyH_take (i := 9) (v := undef) (op_at rfl) (by kernel_rfl) (by kernel_rfl) (by kernel_rfl) (fun _ _ _ h => hside _ _ _ _ _ h) (Or.inr ⟨by rfl, rfl⟩) (by assumption) ?_
      (try simp only [Act.put, List.setIfInBounds_toArray, List.set_cons_zero, List.set_cons_succ])
      refine wpAnyH_take (i := 10) (v := undef) (op_at rfl) (by kernel_rfl) (by kernel_rfl) (by kernel_rfl) (fun _ _ _ h => hside _ _ _ _ _ h) (Or.inr ⟨by rfl, rfl⟩) (by assumption) ?_
      (try simp only [Act.put, List.setIfInBounds_toArray, List.set_cons_zero, List.set_cons_succ])
      refine wpAnyH_take (i := 11) (v := undef) (op_at rfl) (by kernel_rfl) (by kernel_rfl) (by kernel_rfl) (fun _ _ _ h => hside _ _ _ _ _ h) (Or.inr ⟨by rfl, rfl⟩) (by assumption) ?_
      (try simp only [Act.put, List.setIfInBounds_toArray, List.set_cons_zero, List.set_cons_succ])
      refine wpAnyH_take (i := 12) (v := undef) (op_at rfl) (by kernel_rfl) (by kernel_rfl) (by kernel_rfl) (fun _ _ _ h => hside _ _ _ _ _ h) (Or.inr ⟨by rfl, rfl⟩) (by assumption) ?_
      (try simp only [Act.put, List.setIfInBounds_toArray, List.set_cons_zero, List.set_cons_succ])
      refine wpAnyH_take (i := 13) (v := undef) (op_at rfl) (by kernel_rfl) (by kernel_rfl) (by kernel_rfl) (fun _ _ _ h => hside _ _ _ _ _ h) (Or.inr ⟨by rfl, rfl⟩) (by assumption) ?_
      (try simp only [Act.put, List.setIfInBounds_toArray, List.set_cons_zero, List.set_cons_succ])
      refine wpAnyH_take (i := 14) (v := undef) (op_at rfl) (by kernel_rfl) (by kernel_rfl) (by kernel_rfl) (fun _ _ _ h => hside _ _ _ _ _ h) (Or.inr ⟨by rfl, rfl⟩) (by assumption) ?_
      (try simp only [Act.put, List.setIfInBounds_toArray, List.set_cons_zero, List.set_cons_succ])
      refine wpAnyH_take (i := 15) (v := undef) (op_at rfl) (by kernel_rfl) (by kernel_rfl) (by kernel_rfl) (fun _ _ _ h => hside _ _ _ _ _ h) (Or.inr ⟨by rfl, rfl⟩) (by assumption) ?_
      (try simp only [Act.put, List.setIfInBounds_toArray, List.set_cons_zero, List.set_cons_succ])
      refine wpAnyH_take (i := 16) (v := undef) (op_at rfl) (by kernel_rfl) (by kernel_rfl) (by kernel_rfl) (fun _ _ _ h => hside _ _ _ _ _ h) (Or.inr ⟨by rfl, rfl⟩) (by assumption) ?_
      (try simp only [Act.put, List.setIfInBounds_toArray, List.set_cons_zero, List.set_cons_succ])
      refine wpAnyH_take (i := 17) (v := undef) (op_at rfl) (by kernel_rfl) (by kernel_rfl) (by kernel_rfl) (fun _ _ _ h => hside _ _ _ _ _ h) (Or.inr ⟨by rfl, rfl⟩) (by assumption) ?_
      (try simp only [Act.put, List.setIfInBounds_toArray, List.set_cons_zero, List.set_cons_succ])
      refine wpAnyH_take (i := 18) (v := ?_) (op_at rfl) (by kernel_rfl) (by kernel_rfl) (by kernel_rfl) (fun _ _ _ h => hside _ _ _ _ _ h) (Or.inl ⟨by rfl, ?_⟩) (by assumption) ?_
      rotate_left
      · (intro w hSw; (try dsimp only at hSw); go_simp; all_goals with_reducible rfl)
      (try simp only [Act.put, List.setIfInBounds_toArray, List.set_cons_zero, List.set_cons_succ])
      refine wpAnyH_take (i := 19) (v := ?_) (op_at rfl) (by kernel_rfl) (by kernel_rfl) (by kernel_rfl) (fun _ _ _ h => hside _ _ _ _ _ h) (Or.inl ⟨by rfl, ?_⟩) (by assumption) ?_
      rotate_left
      · (intro w hSw; (try dsimp only at hSw); go_simp; all_goals with_reducible rfl)
      (try simp only [Act.put, List.setIfInBounds_toArray, List.set_cons_zero, List.set_cons_succ])
      refine wpAnyH_take (i := 20) (v := undef) (op_at rfl) (by kernel_rfl) (by kernel_rfl) (by kernel_rfl) (fun _ _ _ h => hside _ _ _ _ _ h) (Or.inr ⟨by rfl, rfl⟩) (by assumption) ?_
      (try simp only [Act.put, List.setIfInBounds_toArray, List.set_cons_zero, List.set_cons_succ])
      refine wpAnyH_take (i := 21) (v := undef) (op_at rfl) (by kernel_rfl) (by kernel_rfl) (by kernel_rfl) (fun _ _ _ h => hside _ _ _ _ _ h) (Or.inr ⟨by rfl, rfl⟩) (by assumption) ?_
      (try simp only [Act.put, List.setIfInBounds_toArray, List.set_cons_zero, List.set_cons_succ])
      refine wpAnyH_take (i := 22) (v := undef) (op_at rfl) (by kernel_rfl) (by kernel_rfl) (by kernel_rfl) (fun _ _ _ h => hside _ _ _ _ _ h) (Or.inr ⟨by rfl, rfl⟩) (by assumption) ?_
      (try simp only [Act.put, List.setIfInBounds_toArray, List.set_cons_zero, List.set_cons_succ])
      refine wpAnyH_take (i := 23) (v := ?_) (op_at rfl) (by kernel_rfl) (by kernel_rfl) (by kernel_rfl) (fun _ _ _ h => hside _ _ _ _ _ h) (Or.inl ⟨by rfl, ?_⟩) (by assumption) ?_
      rotate_left
      · (intro w hSw; (try dsimp only at hSw); go_simp; all_goals with_reducible rfl)
      (try simp only [Act.put, List.setIfInBounds_toArray, List.set_cons_zero, List.set_cons_succ])
      refine wpAnyH_done (by kernel_rfl) ?_ _
      go_wp2_with fail
      go_meet
      exact ⟨by rw [HD.out]; rfl, hHeld.1⟩
    | true =>
      have i1 : r.name.toList.isEmpty = false := by rw [hni, hi]; rfl
      have i2 : ¬ r.name.toList = [] := by simpa using i1
      rw [hi, Bool.true_and] at hH
      clear hi hni
      by_cases ha : r.args < 0
      · have a1 : decide (0 ≤ r.args) = false := by rw [decide_eq_false_iff_not]; omega
        rw [decide_eq_true ha, Bool.true_or, Bool.true_and] at hH
        have HD := Lib.hid hH
        clear hH ha
        cases nb
        all_goals
          refine drawn_begin (fun w' => Below W2.heap.size W2 w' ∧ w'.cell? ⟨w.heap.size + 1, 0, none⟩ = some (.int .i64 o.op) ∧ w'.cell? ⟨w.heap.size + 1, 1, none⟩ = some (.slice Aa o.args.length ca) ∧ w'.cell? ⟨w.heap.size + 1, 2, none⟩ = some (.int .i64 o.kk) ∧ w'.cell? ⟨w.heap.size + 1, 3, none⟩ = some (.int .i64 o.c) ∧ w'.cell? ⟨w.heap.size + 1, 4, none⟩ = some (.int .i64 o.snap)) (fun c a d v w h => ?_) (by kernel_rfl) ?_ (fun hside hHeld => ?_)
          · (obtain ⟨h1, h2⟩ := h; exact And.intro (put_nil h1) h2)
          · exact ⟨below_drewN (Below.refl _ _) 1, c0, c1, c2, c3, c4⟩
          refine wpAnyH_take (i := 0) (v := ?_) (op_at rfl) (by kernel_rfl) (by kernel_rfl) (by kernel_rfl) (fun _ _ _ h => hside _ _ _ _ _ h) (Or.inl ⟨by rfl, ?_⟩) (by assumption) ?_
          rotate_left
          · (intro w hSw; (try dsimp only at hSw); go_simp; all_goals with_reducible rfl)
          (try simp only [Act.put, List.setIfInBounds_toArray, List.set_cons_zero, List.set_cons_succ])
          refine wpAnyH_take (i := 1) (v := ?_) (op_at rfl) (by kernel_rfl) (by kernel_rfl) (by kernel_rfl) (fun _ _ _ h => hside _ _ _ _ _ h) (Or.inl ⟨by rfl, ?_⟩) (by assumption) ?_
          rotate_left
          · (intro w hSw; (try dsimp only at hSw); go_simp; all_goals with_reducible rfl)
          (try simp only [Act.put, List.setIfInBounds_toArray, List.set_cons_zero, List.set_cons_succ])
          refine wpAnyH_ready (rs := [2]) (by kernel_rfl) (by simp) (AllReadyH.cons (op_at rfl) (fun Kr hK => ?_) AllReadyH.nil)
          go_simp
          refine (HNAME.out _).mono ?_
          rintro e w3 ⟨rfl, rfl⟩
          refine hK.out _ _ ?_ (fun hHeld => ?_)
          · exact hHeld
          clear hK
          (try simp only [Act.put, List.setIfInBounds_toArray, List.set_cons_zero, List.set_cons_succ])
          refine wpAnyH_take (i := 3) (v := ?_) (op_at rfl) (by kernel_rfl) (by kernel_rfl) (by kernel_rfl) (fun _ _ _ h => hside _ _ _ _ _ h) (Or.inl ⟨by rfl, ?_⟩) (by assumption) ?_
          rotate_left
          · (intro w hSw; (try dsimp only at hSw); go_simp; all_goals with_reducible rfl)
          (try simp only [Act.put, List.setIfInBounds_toArray, List.set_cons_zero, List.set_cons_succ])
          refine wpAnyH_take (i := 4) (v := ?_) (op_at rfl) (by kernel_rfl) (by kernel_rfl) (by kernel_rfl) (fun _ _ _ h => hside _ _ _ _ _ h) (Or.inl ⟨by rfl, ?_⟩) (by assumption) ?_
          rotate_left
          · (intro w hSw; (try dsimp only at hSw); go_simp; all_goals with_reducible rfl)
          (try simp only [Act.put, List.setIfInBounds_toArray, List.set_cons_zero, List.set_cons_succ])
          refine wpAnyH_take (i := 5) (v := ?_) (op_at rfl) (by kernel_rfl) (by kernel_rfl) (by kernel_rfl) (fun _ _ _ h => hside _ _ _ _ _ h) (Or.inl ⟨by rfl, ?_⟩) (by assumption) ?_
          rotate_left
          · (intro w hSw; (try dsimp only at hSw); go_simp; all_goals with_reducible rfl)
          (try simp only [Act.put, List.setIfInBounds_toArray, List.set_cons_zero, List.set_cons_succ])
          refine wpAnyH_take (i := 6) (v := ?_) (op_at rfl) (by kernel_rfl) (by kernel_rfl) (by kernel_rfl) (fun _ _ _ h => hside _ _ _ _ _ h) (Or.inl ⟨by rfl, ?_⟩) (by assumption) ?_
          rotate_left
          · (intro w hSw; (try dsimp only at hSw); go_simp; all_goals with_reducible rfl)
          (try simp only [Act.put, List.setIfInBounds_toArray, List.set_cons_zero, List.set_cons_succ])
          refine wpAnyH_ready (rs := [7]) (by kernel_rfl) (by simp) (AllReadyH.cons (op_at rfl) (fun Kr hK => ?_) AllReadyH.nil)
          go_simp
          refine (HARGS.out _).mono ?_
          rintro e w3 ⟨rfl, rfl⟩
          refine hK.out _ _ ?_ (fun hHeld => ?_)
          · exact hHeld
          clear hK
          (try simp only [Act.put, List.setIfInBounds_toArray, List.set_cons_zero, List.set_cons_succ])
          refine wpAnyH_take (i := 8) (v := ?_) (op_at rfl) (by kernel_rfl) (by kernel_rfl) (by kernel_rfl) (fun _ _ _ h => hside _ _ _ _ _ h) (Or.inl ⟨by rfl, ?_⟩) (by assumption) ?_
          rotate_left
          · (intro w hSw; (try dsimp only at hSw); go_simp; all_goals with_reducible rfl)
          (try simp only [Act.put, List.setIfInBounds_toArray, List.set_cons_zero, List.set_cons_succ])
          refine wpAnyH_take (i := 9) (v := ?_) (op_at rfl) (by kernel_rfl) (by kernel_rfl) (by kernel_rfl) (fun _ _ _ h => hside _ _ _ _ _ h) (Or.inl ⟨by rfl, ?_⟩) (by assumption) ?_
          rotate_left
          · (intro w hSw; (try dsimp only at hSw); go_simp; all_goals with_reducible rfl)
          (try simp only [Act.put, List.setIfInBounds_toArray, List.set_cons_zero, List.set_cons_succ])
          refine wpAnyH_take (i := 10) (v := undef) (op_at rfl) (by kernel_rfl) (by kernel_rfl) (by kernel_rfl) (fun _ _ _ h => hside _ _ _ _ _ h) (Or.inr ⟨by rfl, rfl⟩) (by assumption) ?_
          (try simp only [Act.put, List.setIfInBounds_toArray, List.set_cons_zero, List.set_cons_succ])
          refine wpAnyH_take (i := 11) (v := undef) (op_at rfl) (by kernel_rfl) (by kernel_rfl) (by kernel_rfl) (fun _ _ _ h => hside _ _ _ _ _ h) (Or.inr ⟨by rfl, rfl⟩) (by assumption) ?_
          (try simp only [Act.put, List.setIfInBounds_toArray, List.set_cons_zero, List.set_cons_succ])
          refine wpAnyH_take (i := 12) (v := undef) (op_at rfl) (by kernel_rfl) (by kernel_rfl) (by kernel_rfl) (fun _ _ _ h => hside _ _ _ _ _ h) (Or.inr ⟨by rfl, rfl⟩) (by assumption) ?_
          (try simp only [Act.put, List.setIfInBounds_toArray, List.set_cons_zero, List.set_cons_succ])
          refine wpAnyH_take (i := 13) (v := undef) (op_at rfl) (by kernel_rfl) (by kernel_rfl) (by kernel_rfl) (fun _ _ _ h => hside _ _ _ _ _ h) (Or.inr ⟨by rfl, rfl⟩) (by assumption) ?_
          (try simp only [Act.put, List.setIfInBounds_toArray, List.set_cons_zero, List.set_cons_succ])
          refine wpAnyH_take (i := 14) (v := undef) (op_at rfl) (by kernel_rfl) (by kernel_rfl) (by kernel_rfl) (fun _ _ _ h => hside _ _ _ _ _ h) (Or.inr ⟨by rfl, rfl⟩) (by assumption) ?_
          (try simp only [Act.put, List.setIfInBounds_toArray, List.set_cons_zero, List.set_cons_succ])
          refine wpAnyH_take (i := 15) (v := undef) (op_at rfl) (by kernel_rfl) (by kernel_rfl) (by kernel_rfl) (fun _ _ _ h => hside _ _ _ _ _ h) (Or.inr ⟨by rfl, rfl⟩) (by assumption) ?_
          (try simp only [Act.put, List.setIfInBounds_toArray, List.set_cons_zero, List.set_cons_succ])
          refine wpAnyH_take (i := 16) (v := undef) (op_at rfl) (by kernel_rfl) (by kernel_rfl) (by kernel_rfl) (fun _ _ _ h => hside _ _ _ _ _ h) (Or.inr ⟨by rfl, rfl⟩) (by assumption) ?_
          (try simp only [Act.put, List.setIfInBounds_toArray, List.set_cons_zero, List.set_cons_succ])
          refine wpAnyH_take (i := 17) (v := ?_) (op_at rfl) (by kernel_rfl) (by kernel_rfl) (by kernel_rfl) (fun _ _ _ h => hside _ _ _ _ _ h) (Or.inl ⟨by rfl, ?_⟩) (by assumption) ?_
          rotate_left
          · (intro w hSw; (try dsimp only at hSw); go_simp; all_goals with_reducible rfl)
          (try simp only [Act.put, List.setIfInBounds_toArray, List.set_cons_zero, List.set_cons_succ])
          refine wpAnyH_take (i := 18) (v := ?_) (op_at rfl) (by kernel_rfl) (by kernel_rfl) (by kernel_rfl) (fun _ _ _ h => hside _ _ _ _ _ h) (Or.inl ⟨by rfl, ?_⟩) (by assumption) ?_
          rotate_left
          · (intro w hSw; (try dsimp only at hSw); go_simp; all_goals with_reducible rfl)
          (try simp only [Act.put, List.setIfInBounds_toArray, List.set_cons_zero, List.set_cons_succ])
          refine wpAnyH_take (i := 19) (v := ?_) (op_at rfl) (by kernel_rfl) (by kernel_rfl) (by kernel_rfl) (fun _ _ _ h => hside _ _ _ _ _ h) (Or.inl ⟨by rfl, ?_⟩) (by assumption) ?_
          rotate_left
          · (intro w hSw; (try dsimp only at hSw); go_simp; all_goals with_reducible rfl)
          (try simp only [Act.put, List.setIfInBounds_toArray, List.set_cons_zero, List.set_cons_succ])
          refine wpAnyH_take (i := 20) (v := ?_) (op_at rfl) (by kernel_rfl) (by kernel_rfl) (by kernel_rfl) (fun _ _ _ h => hside _ _ _ _ _ h) (Or.inl ⟨by rfl, ?_⟩) (by assumption) ?_
          rotate_left
          · (intro w hSw; (try dsimp only at hSw); go_simp; all_goals with_reducible rfl)
          (try simp only [Act.put, List.setIfInBounds_toArray, List.set_cons_zero, List.set_cons_succ])
          refine wpAnyH_ready (rs := [21]) (by kernel_rfl) (by simp) (AllReadyH.cons (op_at rfl) (fun Kr hK => ?_) AllReadyH.nil)
          go_simp
          refine (HNUM.out _).mono ?_
          rintro e w3 ⟨rfl, hB3⟩
          have hS3 : Below W2.heap.size W2 w3 := hHeld.1.trans (hB3.mono hHeld.1.size)
          refine hK.out _ _ ?_ (fun hHeld => ?_)
          · exact ⟨hS3, cell_later hS3 c0, cell_later hS3 c1, cell_later hS3 c2, cell_later hS3 c3, cell_later hS3 c4⟩
          clear hK
          (try simp only [Act.put, List.setIfInBounds_toArray, List.set_cons_zero, List.set_cons_succ])
          refine wpAnyH_take (i := 22) (v := ?_) (op_at rfl) (by kernel_rfl) (by kernel_rfl) (by kernel_rfl) (fun _ _ _ h => hside _ _ _ _ _ h) (Or.inl ⟨by rfl, ?_⟩) (by assumption) ?_
          rotate_left
          · (intro w hSw; (try dsimp only at hSw); go_simp; all_goals with_reducible rfl)
          (try simp only [Act.put, List.setIfInBounds_toArray, List.set_cons_zero, List.set_cons_succ])
          refine wpAnyH_take (i := 23) (v := ?_) (op_at rfl) (by kernel_rfl) (by kernel_rfl) (by kernel_rfl) (fun _ _ _ h => hside _ _ _ _ _ h) (Or.inl ⟨by rfl, ?_⟩) (by assumption) ?_
          rotate_left
          · (intro w hSw; (try dsimp only at hSw); go_simp; all_goals with_reducible rfl)
          (try simp only [Act.put, List.setIfInBounds_toArray, List.set_cons_zero, List.set_cons_succ])
          refine wpAnyH_done (by kernel_rfl) ?_ _
          go_wp2_with fail
          go_meet
          exact ⟨by rw [HD.out]; rfl, hS3⟩
      · have a1 : decide (0 ≤ r.args) = true := by rw [decide_eq_true_eq]; omega
        rw [decide_eq_false ha, Bool.false_or] at hH
        by_cases he : r.args = o.args.length
        rotate_left
        · have b1 : ((o.args.length : Int) != r.args) = true := by simp; omega
          have HD : Hid (headOk o = false) := by
            show _ = _
            rw [hH, show (r.args == (o.args.length : Int)) = false by simp; omega]
            rfl
          clear hH ha he
          refine drawn_begin (fun w' => Below W2.heap.size W2 w' ∧ w'.cell? ⟨w.heap.size + 1, 0, none⟩ = some (.int .i64 o.op) ∧ w'.cell? ⟨w.heap.size + 1, 1, none⟩ = some (.slice Aa o.args.length ca) ∧ w'.cell? ⟨w.heap.size + 1, 2, none⟩ = some (.int .i64 o.kk) ∧ w'.cell? ⟨w.heap.size + 1, 3, none⟩ = some (.int .i64 o.c) ∧ w'.cell? ⟨w.heap.size + 1, 4, none⟩ = some (.int .i64 o.snap)) (fun c a d v w h => ?_) (by kernel_rfl) ?_ (fun hside hHeld => ?_)
          · (obtain ⟨h1, h2⟩ := h; exact And.intro (put_nil h1) h2)
          · exact ⟨below_drewN (Below.refl _ _) 1, c0, c1, c2, c3, c4⟩
          refine wpAnyH_take (i := 0) (v := ?_) (op_at rfl) (by kernel_rfl) (by kernel_rfl) (by kernel_rfl) (fun _ _ _ h => hside _ _ _ _ _ h) (Or.inl ⟨by rfl, ?_⟩) (by assumption) ?_
          rotate_left
          · (intro w hSw; (try dsimp only at hSw); go_simp; all_goals with_reducible rfl)
          (try simp only [Act.put, List.setIfInBounds_toArray, List.set_cons_zero, List.set_cons_succ])
          refine wpAnyH_take (i := 1) (v := ?_) (op_at rfl) (by kernel_rfl) (by kernel_rfl) (by kernel_rfl) (fun _ _ _ h => hside _ _ _ _ _ h) (Or.inl ⟨by rfl, ?_⟩) (by assumption) ?_
          rotate_left
          · (intro w hSw; (try dsimp only at hSw); go_simp; all_goals with_reducible rfl)
          (try simp only [Act.put, List.setIfInBounds_toArray, List.set_cons_zero, List.set_cons_succ])
          refine wpAnyH_ready (rs := [2]) (by kernel_rfl) (by simp) (AllReadyH.cons (op_at rfl) (fun Kr hK => ?_) AllReadyH.nil)
          go_simp
          refine (HNAME.out _).mono ?_
          rintro e w3 ⟨rfl, rfl⟩
          refine hK.out _ _ ?_ (fun hHeld => ?_)
          · exact hHeld
          clear hK
          (try simp only [Act.put, List.setIfInBounds_toArray, List.set_cons_zero, List.set_cons_succ])
          refine wpAnyH_take (i := 3) (v := ?_) (op_at rfl) (by kernel_rfl) (by kernel_rfl) (by kernel_rfl) (fun _ _ _ h => hside _ _ _ _ _ h) (Or.inl ⟨by rfl, ?_⟩) (by assumption) ?_
          rotate_left
          · (intro w hSw; (try dsimp only at hSw); go_simp; all_goals with_reducible rfl)
          (try simp only [Act.put, List.setIfInBounds_toArray, List.set_cons_zero, List.set_cons_succ])
          refine wpAnyH_take (i := 4) (v := ?_) (op_at rfl) (by kernel_rfl) (by kernel_rfl) (by kernel_rfl) (fun _ _ _ h => hside _ _ _ _ _ h) (Or.inl ⟨by rfl, ?_⟩) (by assumption) ?_
          rotate_left
          · (intro w hSw; (try dsimp only at hSw); go_simp; all_goals with_reducible rfl)
          (try simp only [Act.put, List.setIfInBounds_toArray, List.set_cons_zero, List.set_cons_succ])
          refine wpAnyH_take (i := 5) (v := ?_) (op_at rfl) (by kernel_rfl) (by kernel_rfl) (by kernel_rfl) (fun _ _ _ h => hside _ _ _ _ _ h) (Or.inl ⟨by rfl, ?_⟩) (by assumption) ?_
          rotate_left
          · (intro w hSw; (try dsimp only at hSw); go_simp; all_goals with_reducible rfl)
          (try simp only [Act.put, List.setIfInBounds_toArray, List.set_cons_zero, List.set_cons_succ])
          refine wpAnyH_take (i := 6) (v := ?_) (op_at rfl) (by kernel_rfl) (by kernel_rfl) (by kernel_rfl) (fun _ _ _ h => hside _ _ _ _ _ h) (Or.inl ⟨by rfl, ?_⟩) (by assumption) ?_
          rotate_left
          · (intro w hSw; (try dsimp only at hSw); go_simp; all_goals with_reducible rfl)
          (try simp only [Act.put, List.setIfInBounds_toArray, List.set_cons_zero, List.set_cons_succ])
          refine wpAnyH_ready (rs := [7]) (by kernel_rfl) (by simp) (AllReadyH.cons (op_at rfl) (fun Kr hK => ?_) AllReadyH.nil)
          go_simp
          refine (HARGS.out _).mono ?_
          rintro e w3 ⟨rfl, rfl⟩
          refine hK.out _ _ ?_ (fun hHeld => ?_)
          · exact hHeld
          clear hK
          (try simp only [Act.put, List.setIfInBounds_toArray, List.set_cons_zero, List.set_cons_succ])
          refine wpAnyH_take (i := 8) (v := ?_) (op_at rfl) (by kernel_rfl) (by kernel_rfl) (by kernel_rfl) (fun _ _ _ h => hside _ _ _ _ _ h) (Or.inl ⟨by rfl, ?_⟩) (by assumption) ?_
          rotate_left
          · (intro w hSw; (try dsimp only at hSw); go_simp; all_goals with_reducible rfl)
          (try simp only [Act.put, List.setIfInBounds_toArray, List.set_cons_zero, List.set_cons_succ])
          refine wpAnyH_take (i := 9) (v := ?_) (op_at rfl) (by kernel_rfl) (by kernel_rfl) (by kernel_rfl) (fun _ _ _ h => hside _ _ _ _ _ h) (Or.inl ⟨by rfl, ?_⟩) (by assumption) ?_
          rotate_left
          · (intro w hSw; (try dsimp only at hSw); go_simp; all_goals with_reducible rfl)
          (try simp only [Act.put, List.setIfInBounds_toArray, List.set_cons_zero, List.set_cons_succ])
          refine wpAnyH_take (i := 10) (v := ?_) (op_at rfl) (by kernel_rfl) (by kernel_rfl) (by kernel_rfl) (fun _ _ _ h => hside _ _ _ _ _ h) (Or.inl ⟨by rfl, ?_⟩) (by assumption) ?_
          rotate_left
          · (intro w hSw; (try dsimp only at hSw); go_simp; all_goals with_reducible rfl)
          (try simp only [Act.put, List.setIfInBounds_toArray, List.set_cons_zero, List.set_cons_succ])
          refine wpAnyH_take (i := 11) (v := ?_) (op_at rfl) (by kernel_rfl) (by kernel_rfl) (by kernel_rfl) (fun _ _ _ h => hside _ _ _ _ _ h) (Or.inl ⟨by rfl, ?_⟩) (by assumption) ?_
          rotate_left
          · (intro w hSw; (try dsimp only at hSw); go_simp; all_goals with_reducible rfl)
          (try simp only [Act.put, List.setIfInBounds_toArray, List.set_cons_zero, List.set_cons_succ])
          refine wpAnyH_take (i := 12) (v := ?_) (op_at rfl) (by kernel_rfl) (by kernel_rfl) (by kernel_rfl) (fun _ _ _ h => hside _ _ _ _ _ h) (Or.inl ⟨by rfl, ?_⟩) (by assumption) ?_
          rotate_left
          · (intro w hSw; (try dsimp only at hSw); go_simp; all_goals with_reducible rfl)
          (try simp only [Act.put, List.setIfInBounds_toArray, List.set_cons_zero, List.set_cons_succ])
          refine wpAnyH_take (i := 13) (v := ?_) (op_at rfl) (by kernel_rfl) (by kernel_rfl) (by kernel_rfl) (fun _ _ _ h => hside _ _ _ _ _ h) (Or.inl ⟨by rfl, ?_⟩) (by assumption) ?_
          rotate_left
          · (intro w hSw; (try dsimp only at hSw); go_simp; all_goals with_reducible rfl)
          (try simp only [Act.put, List.setIfInBounds_toArray, List.set_cons_zero, List.set_cons_succ])
          refine wpAnyH_take (i := 14) (v := ?_) (op_at rfl) (by kernel_rfl) (by kernel_rfl) (by kernel_rfl) (fun _ _ _ h => hside _ _ _ _ _ h) (Or.inl ⟨by rfl, ?_⟩) (by assumption) ?_
          rotate_left
          · (intro w hSw; (try dsimp only at hSw); go_simp; all_goals with_reducible rfl)
          (try simp only [Act.put, List.setIfInBounds_toArray, List.set_cons_zero, List.set_cons_succ])
          refine wpAnyH_ready (rs := [15]) (by kernel_rfl) (by simp) (AllReadyH.cons (op_at rfl) (fun Kr hK => ?_) AllReadyH.nil)
          go_simp
          refine (HARGS.out _).mono ?_
          rintro e w3 ⟨rfl, rfl⟩
          refine hK.out _ _ ?_ (fun hHeld => ?_)
          · exact hHeld
          clear hK
          (try simp only [Act.put, List.setIfInBounds_toArray, List.set_cons_zero, List.set_cons_succ])
          refine wpAnyH_take (i := 16) (v := ?_) (op_at rfl) (by kernel_rfl) (by kernel_rfl) (by kernel_rfl) (fun _ _ _ h => hside _ _ _ _ _ h) (Or.inl ⟨by rfl, ?_⟩) (by assumption) ?_
          rotate_left
          · (intro w hSw; (try dsimp only at hSw); go_simp; all_goals with_reducible rfl)
          (try simp only [Act.put, List.setIfInBounds_toArray, List.set_cons_zero, List.set_cons_succ])
          refine wpAnyH_take (i := 17) (v := ?_) (op_at rfl) (by kernel_rfl) (by kernel_rfl) (by kernel_rfl) (fun _ _ _ h => hside _ _ _ _ _ h) (Or.inl ⟨by rfl, ?_⟩) (by assumption) ?_
          rotate_left
          · (intro w hSw; (try dsimp only at hSw); go_simp; all_goals with_reducible rfl)
          (try simp only [Act.put, List.setIfInBounds_toArray, List.set_cons_zero, List.set_cons_succ])
          refine wpAnyH_take (i := 18) (v := ?_) (op_at rfl) (by kernel_rfl) (by kernel_rfl) (by kernel_rfl) (fun _ _ _ h => hside _ _ _ _ _ h) (Or.inl ⟨by rfl, ?_⟩) (by assumption) ?_
          rotate_left
          · (intro w hSw; (try dsimp only at hSw); go_simp; all_goals with_reducible rfl)
          (try simp only [Act.put, List.setIfInBounds_toArray, List.set_cons_zero, List.set_cons_succ])
          refine wpAnyH_take (i := 19) (v := ?_) (op_at rfl) (by kernel_rfl) (by kernel_rfl) (by kernel_rfl) (fun _ _ _ h => hside _ _ _ _ _ h) (Or.inl ⟨by rfl, ?_⟩) (by assumption) ?_
          rotate_left
          · (intro w hSw; (try dsimp only at hSw); go_simp; all_goals with_reducible rfl)
          (try simp only [Act.put, List.setIfInBounds_toArray, List.set_cons_zero, List.set_cons_succ])
          refine wpAnyH_take (i := 20) (v := undef) (op_at rfl) (by kernel_rfl) (by kernel_rfl) (by kernel_rfl) (fun _ _ _ h => hside _ _ _ _ _ h) (Or.inr ⟨by rfl, rfl⟩) (by assumption) ?_
          (try simp only [Act.put, List.setIfInBounds_toArray, List.set_cons_zero, List.set_cons_succ])
          refine wpAnyH_take (i := 21) (v := undef) (op_at rfl) (by kernel_rfl) (by kernel_rfl) (by kernel_rfl) (fun _ _ _ h => hside _ _ _ _ _ h) (Or.inr ⟨by rfl, rfl⟩) (by assumption) ?_
          (try simp only [Act.put, List.setIfInBounds_toArray, List.set_cons_zero, List.set_cons_succ])
          refine wpAnyH_take (i := 22) (v := undef) (op_at rfl) (by kernel_rfl) (by kernel_rfl) (by kernel_rfl) (fun _ _ _ h => hside _ _ _ _ _ h) (Or.inr ⟨by rfl, rfl⟩) (by assumption) ?_
          (try simp only [Act.put, List.setIfInBounds_toArray, List.set_cons_zero, List.set_cons_succ])
          refine wpAnyH_take (i := 23) (v := ?_) (op_at rfl) (by kernel_rfl) (by kernel_rfl) (by kernel_rfl) (fun _ _ _ h => hside _ _ _ _ _ h) (Or.inl ⟨by rfl, ?_⟩) (by assumption) ?_
          rotate_left
          · (intro w hSw; (try dsimp only at hSw); go_simp; all_goals with_reducible rfl)
          (try simp only [Act.put, List.setIfInBounds_toArray, List.set_cons_zero, List.set_cons_succ])
          refine wpAnyH_done (by kernel_rfl) ?_ _
          go_wp2_with fail
          go_meet
          exact ⟨by rw [HD.out]; rfl, hHeld.1⟩
        · have b1 : ((o.args.length : Int) != r.args) = false := by simp; omega
          rw [show (r.args == (o.args.length : Int)) = true by simp; omega, Bool.true_and] at hH
          have HD := Lib.hid hH
          clear hH ha he
          cases nb
          all_goals
            refine drawn_begin (fun w' => Below W2.heap.size W2 w' ∧ w'.cell? ⟨w.heap.size + 1, 0, none⟩ = some (.int .i64 o.op) ∧ w'.cell? ⟨w.heap.size + 1, 1, none⟩ = some (.slice Aa o.args.length ca) ∧ w'.cell? ⟨w.heap.size + 1, 2, none⟩ = some (.int .i64 o.kk) ∧ w'.cell? ⟨w.heap.size + 1, 3, none⟩ = some (.int .i64 o.c) ∧ w'.cell? ⟨w.heap.size + 1, 4, none⟩ = some (.int .i64 o.snap)) (fun c a d v w h => ?_) (by kernel_rfl) ?_ (fun hside hHeld => ?_)
            · (obtain ⟨h1, h2⟩ := h; exact And.intro (put_nil h1) h2)
            · exact ⟨below_drewN (Below.refl _ _) 1, c0, c1, c2, c3, c4⟩
            refine wpAnyH_take (i := 0) (v := ?_) (op_at rfl) (by kernel_rfl) (by kernel_rfl) (by kernel_rfl) (fun _ _ _ h => hside _ _ _ _ _ h) (Or.inl ⟨by rfl, ?_⟩) (by assumption) ?_
            rotate_left
            · (intro w hSw; (try dsimp only at hSw); go_simp; all_goals with_reducible rfl)
            (try simp only [Act.put, List.setIfInBounds_toArray, List.set_cons_zero, List.set_cons_succ])
            refine wpAnyH_take (i := 1) (v := ?_) (op_at rfl) (by kernel_rfl) (by kernel_rfl) (by kernel_rfl) (fun _ _ _ h => hside _ _ _ _ _ h) (Or.inl ⟨by rfl, ?_⟩) (by assumption) ?_
            rotate_left
            · (intro w hSw; (try dsimp only at hSw); go_simp; all_goals with_reducible rfl)
            (try simp only [Act.put, List.setIfInBounds_toArray, List.set_cons_zero, List.set_cons_succ])
            refine wpAnyH_ready (rs := [2]) (by kernel_rfl) (by simp) (AllReadyH.cons (op_at rfl) (fun Kr hK => ?_) AllReadyH.nil)
            go_simp
            refine (HNAME.out _).mono ?_
            rintro e w3 ⟨rfl, rfl⟩
            refine hK.out _ _ ?_ (fun hHeld => ?_)
            · exact hHeld
            clear hK
            (try simp only [Act.put, List.setIfInBounds_toArray, List.set_cons_zero, List.set_cons_succ])
            refine wpAnyH_take (i := 3) (v := ?_) (op_at rfl) (by kernel_rfl) (by kernel_rfl) (by kernel_rfl) (fun _ _ _ h => hside _ _ _ _ _ h) (Or.inl ⟨by rfl, ?_⟩) (by assumption) ?_
            rotate_left
            · (intro w hSw; (try dsimp only at hSw); go_simp; all_goals with_reducible rfl)
            (try simp only [Act.put, List.setIfInBounds_toArray, List.set_cons_zero, List.set_cons_succ])
            refine wpAnyH_take (i := 4) (v := ?_) (op_at rfl) (by kernel_rfl) (by kernel_rfl) (by kernel_rfl) (fun _ _ _ h => hside _ _ _ _ _ h) (Or.inl ⟨by rfl, ?_⟩) (by assumption) ?_
            rotate_left
            · (intro w hSw; (try dsimp only at hSw); go_simp; all_goals with_reducible rfl)
            (try simp only [Act.put, List.setIfInBounds_toArray, List.set_cons_zero, List.set_cons_succ])
            refine wpAnyH_take (i := 5) (v := ?_) (op_at rfl) (by kernel_rfl) (by kernel_rfl) (by kernel_rfl) (fun _ _ _ h => hside _ _ _ _ _ h) (Or.inl ⟨by rfl, ?_⟩) (by assumption) ?_
            rotate_left
            · (intro w hSw; (try dsimp only at hSw); go_simp; all_goals with_reducible rfl)
            (try simp only [Act.put, List.setIfInBounds_toArray, List.set_cons_zero, List.set_cons_succ])
            refine wpAnyH_take (i := 6) (v := ?_) (op_at rfl) (by kernel_rfl) (by kernel_rfl) (by kernel_rfl) (fun _ _ _ h => hside _ _ _ _ _ h) (Or.inl ⟨by rfl, ?_⟩) (by assumption) ?_
            rotate_left
            · (intro w hSw; (try dsimp only at hSw); go_simp; all_goals with_reducible rfl)
            (try simp only [Act.put, List.setIfInBounds_toArray, List.set_cons_zero, List.set_cons_succ])
            refine wpAnyH_ready (rs := [7]) (by kernel_rfl) (by simp) (AllReadyH.cons (op_at rfl) (fun Kr hK => ?_) AllReadyH.nil)
            go_simp
            refine (HARGS.out _).mono ?_
            rintro e w3 ⟨rfl, rfl⟩
            refine hK.out _ _ ?_ (fun hHeld => ?_)
            · exact hHeld
            clear hK
            (try simp only [Act.put, List.setIfInBounds_toArray, List.set_cons_zero, List.set_cons_succ])
            refine wpAnyH_take (i := 8) (v := ?_) (op_at rfl) (by kernel_rfl) (by kernel_rfl) (by kernel_rfl) (fun _ _ _ h => hside _ _ _ _ _ h) (Or.inl ⟨by rfl, ?_⟩) (by assumption) ?_
            rotate_left
            · (intro w hSw; (try dsimp only at hSw); go_simp; all_goals with_reducible rfl)
            (try simp only [Act.put, List.setIfInBounds_toArray, List.set_cons_zero, List.set_cons_succ])
            refine wpAnyH_take (i := 9) (v := ?_) (op_at rfl) (by kernel_rfl) (by kernel_rfl) (by kernel_rfl) (fun _ _ _ h => hside _ _ _ _ _ h) (Or.inl ⟨by rfl, ?_⟩) (by assumption) ?_
            rotate_left
            · (intro w hSw; (try dsimp only at hSw); go_simp; all_goals with_reducible rfl)
            (try simp only [Act.put, List.setIfInBounds_toArray, List.set_cons_zero, List.set_cons_succ])
            refine wpAnyH_take (i := 10) (v := ?_) (op_at rfl) (by kernel_rfl) (by kernel_rfl) (by kernel_rfl) (fun _ _ _ h => hside _ _ _ _ _ h) (Or.inl ⟨by rfl, ?_⟩) (by assumption) ?_
            rotate_left
            · (intro w hSw; (try dsimp only at hSw); go_simp; all_goals with_reducible rfl)
            (try simp only [Act.put, List.setIfInBounds_toArray, List.set_cons_zero, List.set_cons_succ])
            refine wpAnyH_take (i := 11) (v := ?_) (op_at rfl) (by kernel_rfl) (by kernel_rfl) (by kernel_rfl) (fun _ _ _ h => hside _ _ _ _ _ h) (Or.inl ⟨by rfl, ?_⟩) (by assumption) ?_
            rotate_left
            · (intro w hSw; (try dsimp only at hSw); go_simp; all_goals with_reducible rfl)
            (try simp only [Act.put, List.setIfInBounds_toArray, List.set_cons_zero, List.set_cons_succ])
            refine wpAnyH_take (i := 12) (v := ?_) (op_at rfl) (by kernel_rfl) (by kernel_rfl) (by kernel_rfl) (fun _ _ _ h => hside _ _ _ _ _ h) (Or.inl ⟨by rfl, ?_⟩) (by assumption) ?_
            rotate_left
            · (intro w hSw; (try dsimp only at hSw); go_simp; all_goals with_reducible rfl)
            (try simp only [Act.put, List.setIfInBounds_toArray, List.set_cons_zero, List.set_cons_succ])
            refine wpAnyH_take (i := 13) (v := ?_) (op_at rfl) (by kernel_rfl) (by kernel_rfl) (by kernel_rfl) (fun _ _ _ h => hside _ _ _ _ _ h) (Or.inl ⟨by rfl, ?_⟩) (by assumption) ?_
            rotate_left
            · (intro w hSw; (try dsimp only at hSw); go_simp; all_goals with_reducible rfl)
            (try simp only [Act.put, List.setIfInBounds_toArray, List.set_cons_zero, List.set_cons_succ])
            refine wpAnyH_take (i := 14) (v := ?_) (op_at rfl) (by kernel_rfl) (by kernel_rfl) (by kernel_rfl) (fun _ _ _ h => hside _ _ _ _ _ h) (Or.inl ⟨by rfl, ?_⟩) (by assumption) ?_
            rotate_left
            · (intro w hSw; (try dsimp only at hSw); go_simp; all_goals with_reducible rfl)
            (try simp only [Act.put, List.setIfInBounds_toArray, List.set_cons_zero, List.set_cons_succ])
            refine wpAnyH_ready (rs := [15]) (by kernel_rfl) (by simp) (AllReadyH.cons (op_at rfl) (fun Kr hK => ?_) AllReadyH.nil)
            go_simp
            refine (HARGS.out _).mono ?_
            rintro e w3 ⟨rfl, rfl⟩
            refine hK.out _ _ ?_ (fun hHeld => ?_)
            · exact hHeld
            clear hK
            (try simp only [Act.put, List.setIfInBounds_toArray, List.set_cons_zero, List.set_cons_succ])
            refine wpAnyH_take (i := 16) (v := ?_) (op_at rfl) (by kernel_rfl) (by kernel_rfl) (by kernel_rfl) (fun _ _ _ h => hside _ _ _ _ _ h) (Or.inl ⟨by rfl, ?_⟩) (by assumption) ?_
            rotate_left
            · (intro w hSw; (try dsimp only at hSw); go_simp; all_goals with_reducible rfl)
            (try simp only [Act.put, List.setIfInBounds_toArray, List.set_cons_zero, List.set_cons_succ])
            refine wpAnyH_take (i := 17) (v := ?_) (op_at rfl) (by kernel_rfl) (by kernel_rfl) (by kernel_rfl) (fun _ _ _ h => hside _ _ _ _ _ h) (Or.inl ⟨by rfl, ?_⟩) (by assumption) ?_
            rotate_left
            · (intro w hSw; (try dsimp only at hSw); go_simp; all_goals with_reducible rfl)
            (try simp only [Act.put, List.setIfInBounds_toArray, List.set_cons_zero, List.set_cons_succ])
            refine wpAnyH_take (i := 18) (v := ?_) (op_at rfl) (by kernel_rfl) (by kernel_rfl) (by kernel_rfl) (fun _ _ _ h => hside _ _ _ _ _ h) (Or.inl ⟨by rfl, ?_⟩) (by assumption) ?_
            rotate_left
            · (intro w hSw; (try dsimp only at hSw); go_simp; all_goals with_reducible rfl)
            (try simp only [Act.put, List.setIfInBounds_toArray, List.set_cons_zero, List.set_cons_succ])
            refine wpAnyH_take (i := 19) (v := ?_) (op_at rfl) (by kernel_rfl) (by kernel_rfl) (by kernel_rfl) (fun _ _ _ h => hside _ _ _ _ _ h) (Or.inl ⟨by rfl, ?_⟩) (by assumption) ?_
            rotate_left
            · (intro w hSw; (try dsimp only at hSw); go_simp; all_goals with_reducible rfl)
            (try simp only [Act.put, List.setIfInBounds_toArray, List.set_cons_zero, List.set_cons_succ])
            refine wpAnyH_take (i := 20) (v := ?_) (op_at rfl) (by kernel_rfl) (by kernel_rfl) (by kernel_rfl) (fun _ _ _ h => hside _ _ _ _ _ h) (Or.inl ⟨by rfl, ?_⟩) (by assumption) ?_
            rotate_left
            · (intro w hSw; (try dsimp only at hSw); go_simp; all_goals with_reducible rfl)
            (try simp only [Act.put, List.setIfInBounds_toArray, List.set_cons_zero, List.set_cons_succ])
            refine wpAnyH_ready (rs := [21]) (by kernel_rfl) (by simp) (AllReadyH.cons (op_at rfl) (fun Kr hK => ?_) AllReadyH.nil)
            go_simp
            refine (HNUM.out _).mono ?_
            rintro e w3 ⟨rfl, hB3⟩
            have hS3 : Below W2.heap.size W2 w3 := hHeld.1.trans (hB3.mono hHeld.1.size)
            refine hK.out _ _ ?_ (fun hHeld => ?_)
            · exact ⟨hS3, cell_later hS3 c0, cell_later hS3 c1, cell_later hS3 c2, cell_later hS3 c3, cell_later hS3 c4⟩
            clear hK
            (try simp only [Act.put, List.setIfInBounds_toArray, List.set_cons_zero, List.set_cons_succ])
            refine wpAnyH_take (i := 22) (v := ?_) (op_at rfl) (by kernel_rfl) (by kernel_rfl) (by kernel_rfl) (fun _ _ _ h => hside _ _ _ _ _ h) (Or.inl ⟨by rfl, ?_⟩) (by assumption) ?_
            rotate_left
            · (intro w hSw; (try dsimp only at hSw); go_simp; all_goals with_reducible rfl)
            (try simp only [Act.put, List.setIfInBounds_toArray, List.set_cons_zero, List.set_cons_succ])
            refine wpAnyH_take (i := 23) (v := ?_) (op_at rfl) (by kernel_rfl) (by kernel_rfl) (by kernel_rfl) (fun _ _ _ h => hside _ _ _ _ _ h) (Or.inl ⟨by rfl, ?_⟩) (by assumption) ?_
            rotate_left
            · (intro w hSw; (try dsimp only at hSw); go_simp; all_goals with_reducible rfl)
            (try simp only [Act.put, List.setIfInBounds_toArray, List.set_cons_zero, List.set_cons_succ])
            refine wpAnyH_done (by kernel_rfl) ?_ _
            go_wp2_with fail
            go_meet
            exact ⟨by rw [HD.out]; rfl, hS3⟩
  case rest =>
    obtain ⟨rfl, hBx⟩ := hcut
    have g1 := cell_later hBx c1
    have HBX := Lib.hid hBx
    cases hd : headOk o with
    | false =>
      have HF := HNO.out (by rw [opHead_is, hd]; rfl)
      clear hd hBx
      go_wp2_with fail
      go_ret
      exact ⟨false, rfl, HF, below_then HB2.out HBX.out⟩
    | true =>
      have HD := Lib.hid hd
      clear hd hBx
      go_wp2_with fail
      go_loopw [44] (fun s44 wr => ∃ (k : Nat), s44 = .int .i64 k ∧ k ≤ o.args.length ∧ Hid (allI (argR T.t o at_) (o.args.take k) = true) ∧ Below W2.heap.size W2 wr)
        (fun s44 _ => o.args.length - (intOf s44).toNat)
      case atStart => exact ⟨0, rfl, Nat.zero_le _, rfl, HBX.out⟩
      case round =>
        clear g1 HBX
        obtain ⟨k, rfl, hk, hall, hB⟩ := hrel
        by_cases hlt : k < o.args.length
        · obtain ⟨s, hs⟩ : ∃ s, o.args[k]? = some s := ⟨_, List.getElem?_eq_getElem hlt⟩
          obtain ⟨b5, o5, rfl, hb5, e5, e6, e7, e8⟩ := src_get (HRA.out.below hB (fun _ _ h => h)) hs
          have HS := Lib.hid hs
          clear hs
          go_upto_region 7 with fail
          obtain ⟨W7, hW7⟩ : ∃ W7, wr.alloc (.cells #[.int .i64 s.k, .int .i64 s.vk, .int .i64 s.vn, .int .i64 s.n] 63) = W7 := ⟨_, rfl⟩
          have hB7 : Below wr.heap.size wr W7 := by rw [← hW7]; exact below_alloc (Below.refl _ _) _
          have hb7 := heap_alloc_last wr (.cells #[.int .i64 s.k, .int .i64 s.vk, .int .i64 s.vn, .int .i64 s.n] 63)
          rw [hW7] at hb7 ⊢
          obtain ⟨bx, hbx⟩ : ∃ bx, wr.heap.size = bx := ⟨_, rfl⟩
          rw [hbx] at hb7 ⊢
          have f0 := cell_of_row W7 bx 0 _ _ _ hb7
          have f1 := cell_of_row W7 bx 1 _ _ _ hb7
          have f2 := cell_of_row W7 bx 2 _ _ _ hb7
          have f3 := cell_of_row W7 bx 3 _ _ _ hb7
          simp only [List.getElem?_toArray, List.getElem?_cons_zero, List.getElem?_cons_succ] at f0 f1 f2 f3
          have HB7 := Lib.hid (hB.trans (hB7.mono hB.size))
          have HP7 := Lib.hid (refplain_any 0 s W7)
          clear hB hB7 hb7 hW7 hbx e5 e6 e7 e8
          cases hp : plainS 0 s with
          | false =>
            have HF := HNO.out (by
              rw [opHead_is, allI_no (p := argR T.t o at_) HS.out (by simp [argR, hp])]
              simp)
            have hp7 := HP7.out
            rw [hp] at hp7
            have HP7 := Lib.hid hp7
            clear hp7 hp
            go_wp2_with (go_at_call 100; refine HP7.out.mono ?_)
            rintro e w9 ⟨rfl, hB9⟩
            have HB9 := Lib.hid (HB7.out.trans (hB9.mono HB7.out.size))
            clear hB9
            go_wp2_with fail
            go_ret
            exact ⟨false, rfl, HF, below_then HB2.out HB9.out⟩
          | true =>
            have hp7 := HP7.out
            rw [hp] at hp7
            have HP7 := Lib.hid hp7
            clear hp7
            go_wp2_with (go_at_call 100; refine HP7.out.mono ?_)
            rintro e w9 ⟨rfl, hB9⟩
            have h0 := cell_later hB9 f0
            have h1 := cell_later hB9 f1
            have h2 := cell_later hB9 f2
            have h3 := cell_later hB9 f3
            have HB9 := Lib.hid (HB7.out.trans (hB9.mono HB7.out.size))
            have HAT9 := Lib.hid (HAT.out.below HB9.out)
            have HM9 := Lib.hid (HMADE.out s w9 HB9.out)
            have r0 := cell_later HB9.out c0
            clear hB9 f0 f1 f2 f3
            cases hm : madeR T.t.ins.length (mkOf T.t) s at_ with
            | false =>
              have HF := HNO.out (by
                rw [opHead_is, allI_no (p := argR T.t o at_) HS.out (by simp [argR, hm])]
                simp)
              have hm9 := HM9.out
              rw [hm] at hm9
              have HM9 := Lib.hid hm9
              clear hm9 hm hp
              go_wp2_with (first | (refine wpList_load_gd rfl 33 _ rfl w.heap.size rfl T.cells _ HAT9.out Try.underlying33 rfl info33 ?_; rw [HCS.out]) | (go_at_call 52; refine HM9.out.mono ?_))
              rintro e w10 ⟨rfl, hB10⟩
              have r10 := cell_later hB10 r0
              have HB10 := Lib.hid (HB9.out.trans (hB10.mono HB9.out.size))
              clear hB10
              go_wp2_with fail
              go_ret
              exact ⟨false, rfl, HF, below_then HB2.out HB10.out⟩
            | true =>
              have hm9 := HM9.out
              rw [hm] at hm9
              have HM9 := Lib.hid hm9
              clear hm9
              by_cases k32 : o.op = 32
              rotate_left
              · have n1 : (o.op == 32) = false := by simpa using k32
                have HK : Hid (allI (argR T.t o at_) (o.args.take (k + 1)) = true) := by
                  show _ = _
                  rw [allI_take_succ HS.out, hall.out]
                  simp [argR, hp, hm, n1]
                clear k32 hm hp
                go_wp2_with (first | (refine wpList_load_gd rfl 33 _ rfl w.heap.size rfl T.cells _ HAT9.out Try.underlying33 rfl info33 ?_; rw [HCS.out]) | (go_at_call 52; refine HM9.out.mono ?_))
                rintro e w10 ⟨rfl, hB10⟩
                have r10 := cell_later hB10 r0
                have HB10 := Lib.hid (HB9.out.trans (hB10.mono HB9.out.size))
                clear hB10
                go_wp2_with fail
                go_roundw
                case rel => exact ⟨k + 1, by go_num, by omega, HK, HB10.out⟩
                case measure => simp [intOf]; omega
              have n1 : (o.op == 32) = true := by simpa using k32
              by_cases k1 : k = 1
              rotate_left
              · have m1 : (k == 1) = false := by simpa using k1
                have m2 : decide (k = 1) = false := by simpa using k1
                have m3 : ((k : Int) == 1) = false := by simp; omega
                have HK : Hid (allI (argR T.t o at_) (o.args.take (k + 1)) = true) := by
                  show _ = _
                  rw [allI_take_succ HS.out, hall.out]
                  simp [argR, hp, hm, m1]
                clear k32 k1 hm hp
                go_wp2_with (first | (refine wpList_load_gd rfl 33 _ rfl w.heap.size rfl T.cells _ HAT9.out Try.underlying33 rfl info33 ?_; rw [HCS.out]) | (go_at_call 52; refine HM9.out.mono ?_))
                rintro e w10 ⟨rfl, hB10⟩
                have r10 := cell_later hB10 r0
                have HB10 := Lib.hid (HB9.out.trans (hB10.mono HB9.out.size))
                clear hB10
                go_wp2_with fail
                go_roundw
                case rel => exact ⟨k + 1, by go_num, by omega, HK, HB10.out⟩
                case measure => simp [intOf]; omega
              have m1 : (k == 1) = true := by simpa using k1
              have m2 : decide (k = 1) = true := by simpa using k1
              have m3 : ((k : Int) == 1) = true := by simp; omega
              by_cases ks : s.k = 0
              · have n2 : (s.k != 0) = false := by simpa using ks
                have HK : Hid (allI (argR T.t o at_) (o.args.take (k + 1)) = true) := by
                  show _ = _
                  rw [allI_take_succ HS.out, hall.out]
                  simp [argR, hp, hm, n2]
                clear k32 k1 ks hm hp
                go_wp2_with (first | (refine wpList_load_gd rfl 33 _ rfl w.heap.size rfl T.cells _ HAT9.out Try.underlying33 rfl info33 ?_; rw [HCS.out]) | (go_at_call 52; refine HM9.out.mono ?_))
                rintro e w10 ⟨rfl, hB10⟩
                have r10 := cell_later hB10 r0
                have HB10 := Lib.hid (HB9.out.trans (hB10.mono HB9.out.size))
                have t0 := cell_later hB10 h0
                clear hB10
                go_wp2_with fail
                go_roundw
                case rel => exact ⟨k + 1, by go_num, by omega, HK, HB10.out⟩
                case measure => simp [intOf]; omega
              · have n2 : (s.k != 0) = true := by simpa using ks
                have HF := HNO.out (by
                  rw [opHead_is, allI_no (p := argR T.t o at_) HS.out (by simp [argR, n1, m1, n2])]
                  simp)
                clear k32 k1 ks hm hp
                go_wp2_with (first | (refine wpList_load_gd rfl 33 _ rfl w.heap.size rfl T.cells _ HAT9.out Try.underlying33 rfl info33 ?_; rw [HCS.out]) | (go_at_call 52; refine HM9.out.mono ?_))
                rintro e w10 ⟨rfl, hB10⟩
                have r10 := cell_later hB10 r0
                have HB10 := Lib.hid (HB9.out.trans (hB10.mono HB9.out.size))
                have t0 := cell_later hB10 h0
                clear hB10
                go_wp2_with fail
                go_ret
                exact ⟨false, rfl, HF, below_then HB2.out HB10.out⟩
        · have hkl : k = o.args.length := by omega
          subst hkl
          rw [List.take_length] at hall
          have HALL := Lib.hid hall.out
          have g4 := cell_later hB c4
          have y14 := cell_later hB z14
          have HB := Lib.hid hB
          clear hall hlt hB
          by_cases s1 : o.snap < -1
          · have q1 : decide (o.snap < -1) = true := by rw [decide_eq_true_eq]; exact s1
            have HF := HNO.out (by rw [opHead_is]; simp; omega)
            clear s1
            go_wp2_with fail
            go_ret
            exact ⟨false, rfl, HF, below_then HB2.out HB.out⟩
          have q1 : decide (o.snap < -1) = false := by rw [decide_eq_false_iff_not]; exact s1
          by_cases s2 : (T.t.links.length : Int) ≤ o.snap
          · have q2 : decide ((T.t.links.length : Int) ≤ o.snap) = true := by rw [decide_eq_true_eq]; exact s2
            have HF := HNO.out (by rw [opHead_is]; simp; omega)
            clear s1 s2
            go_wp2_with fail
            go_ret
            exact ⟨false, rfl, HF, below_then HB2.out HB.out⟩
          have q2 : decide ((T.t.links.length : Int) ≤ o.snap) = false := by rw [decide_eq_false_iff_not]; exact s2
          have HH : Hid (opHead T.t (mkOf T.t) at_ o = true) := by
            show _ = _
            rw [opHead_is, HD.out, HALL.out, decide_eq_true (show -1 ≤ o.snap by omega), decide_eq_true (show o.snap < T.t.links.length by omega)]
            rfl
          by_cases s3 : o.snap < 0
          · have q3 : decide (o.snap < 0) = true := by rw [decide_eq_true_eq]; exact s3
            have HY : Hid (OpAt T.t at_) := HOP.out.2 ⟨HH.out, [], ⟨[], .nil s3, .nil _⟩, rfl⟩
            clear s1 s2 s3
            go_wp2_with fail
            go_ret
            exact ⟨true, rfl, ⟨fun _ => HY.out, fun _ => rfl⟩, below_then HB2.out HB.out⟩
          have q3 : decide (o.snap < 0) = false := by rw [decide_eq_false_iff_not]; exact s3
          have HT70 := Lib.hid (HTAKEN.out (by omega) (by omega) wr HB.out)
          have HATr := Lib.hid (HAT.out.below HB.out)
          have HLEN := Lib.hid (fun xs (h : TakenBy T.t o.snap xs) => takenBy_len HT.out HTK.out (by omega) (by omega) h)
          clear s1 s2 s3
          go_wp2_with (first | (refine wpList_load_at rfl 33 _ rfl w.heap.size rfl T.cells _ HATr.out Try.underlying33 rfl info33 ?_; rw [HCS.out]) | (go_at_call 70; refine HT70.out.mono ?_))
          rintro e w5 ⟨v, z, xs, rfl, hq, htb, hB5⟩
          obtain ⟨A5, c5, rfl, hnc5⟩ := q_slice hq
          have hxl : (xs.length : Int) ≤ 2199023255552 := by have := HLEN.out xs htb; omega
          have HRX := Lib.hid (rowAt_q (R := SrcR) TSrc.cells 4 (fun _ => rfl) (by omega) (fun _ _ => rfl) hq).2
          have HTB := Lib.hid htb
          have HB5 := Lib.hid (below_then HB.out hB5)
          clear hq htb hB5 g4 y14
          go_wp2_with fail
          go_loopw [97] (fun s97 wq => ∃ (k : Nat), s97 = .int .i64 k ∧ k ≤ xs.length ∧ Hid ((xs.take k).all (madeV T.t (mkOf T.t) at_) = true) ∧ Below w5.heap.size w5 wq)
            (fun s97 _ => xs.length - (intOf s97).toNat)
          case atStart => exact ⟨0, rfl, Nat.zero_le _, rfl, Below.refl _ _⟩
          case round =>
            obtain ⟨k, rfl, hk, hall, hB⟩ := hrel
            by_cases hlt : k < xs.length
            · obtain ⟨s, hs⟩ : ∃ s, xs[k]? = some s := ⟨_, List.getElem?_eq_getElem hlt⟩
              obtain ⟨b5, o5, rfl, hb5, e5, e6, e7, e8⟩ := src_get (HRX.out.below hB (fun _ _ h => h)) hs
              have HS := Lib.hid hs
              have hgood := (takenBy_good HTK.out HTB.out s (List.mem_of_getElem? hs)).1
              clear hs
              go_upto_region 18 with fail
              obtain ⟨W7, hW7⟩ : ∃ W7, wr.alloc (.cells #[.int .i64 s.k, .int .i64 s.vk, .int .i64 s.vn, .int .i64 s.n] 63) = W7 := ⟨_, rfl⟩
              have hB7 : Below wr.heap.size wr W7 := by rw [← hW7]; exact below_alloc (Below.refl _ _) _
              have hb7 := heap_alloc_last wr (.cells #[.int .i64 s.k, .int .i64 s.vk, .int .i64 s.vn, .int .i64 s.n] 63)
              rw [hW7] at hb7 ⊢
              obtain ⟨bx, hbx⟩ : ∃ bx, wr.heap.size = bx := ⟨_, rfl⟩
              rw [hbx] at hb7 ⊢
              have f0 := cell_of_row W7 bx 0 _ _ _ hb7
              have f1 := cell_of_row W7 bx 1 _ _ _ hb7
              have f2 := cell_of_row W7 bx 2 _ _ _ hb7
              have f3 := cell_of_row W7 bx 3 _ _ _ hb7
              simp only [List.getElem?_toArray, List.getElem?_cons_zero, List.getElem?_cons_succ] at f0 f1 f2 f3
              have HB7 := Lib.hid (hB.trans (hB7.mono hB.size))
              have HB57 := Lib.hid (below_then HB5.out HB7.out)
              have HAT9 := Lib.hid (HAT.out.below HB57.out)
              have HM9 := Lib.hid (HMADE.out s W7 HB57.out)
              clear hB hB7 hb7 hW7 hbx e5 e6 e7 e8
              by_cases k2 : s.k = 2
              · have n1 : (s.k != 2) = false := by simpa using k2
                have HK : Hid ((xs.take (k + 1)).all (madeV T.t (mkOf T.t) at_) = true) := by
                  show _ = _
                  rw [all_take_succ HS.out, hall.out]
                  simp [madeV, k2]
                clear k2 hgood
                go_wp2_with fail
                go_roundw
                case rel => exact ⟨k + 1, by go_num, by omega, HK, HB7.out⟩
                case measure => simp [intOf]; omega
              · have n1 : (s.k != 2) = true := by simpa using k2
                have hmv : madeV T.t (mkOf T.t) at_ s = madeR T.t.ins.length (mkOf T.t) s at_ := by
                  unfold madeV
                  rw [made_of hgood k2]
                  simp [k2]
                cases hm : madeR T.t.ins.length (mkOf T.t) s at_ with
                | false =>
                  have HF : Hid (false = true ↔ OpAt T.t at_) := by
                    show _ ↔ _
                    rw [HOP.out]
                    refine ⟨fun h => (by cases h), fun h => ?_⟩
                    obtain ⟨_, ys, hys, hal2⟩ := h
                    rw [takenBy_fun hys HTB.out] at hal2
                    rw [all_no HS.out (by rw [hmv, hm])] at hal2
                    cases hal2
                  have hm9 := HM9.out
                  rw [hm] at hm9
                  have HM9 := Lib.hid hm9
                  clear hm9 hm hmv k2 hgood
                  go_wp2_with (first | (refine wpList_load_gd rfl 33 _ rfl w.heap.size rfl T.cells _ HAT9.out Try.underlying33 rfl info33 ?_; rw [HCS.out]) | (go_at_call 52; refine HM9.out.mono ?_))
                  rintro e w10 ⟨rfl, hB10⟩
                  have HB10 := Lib.hid (below_then HB57.out hB10)
                  clear hB10
                  go_wp2_with fail
                  go_ret
                  exact ⟨false, rfl, HF.out, below_then HB2.out HB10.out⟩
                | true =>
                  have HK : Hid ((xs.take (k + 1)).all (madeV T.t (mkOf T.t) at_) = true) := by
                    show _ = _
                    rw [all_take_succ HS.out, hall.out, hmv, hm]
                    rfl
                  have hm9 := HM9.out
                  rw [hm] at hm9
                  have HM9 := Lib.hid hm9
                  clear hm9 hm hmv k2 hgood
                  go_wp2_with (first | (refine wpList_load_gd rfl 33 _ rfl w.heap.size rfl T.cells _ HAT9.out Try.underlying33 rfl info33 ?_; rw [HCS.out]) | (go_at_call 52; refine HM9.out.mono ?_))
                  rintro e w10 ⟨rfl, hB10⟩
                  have HB10 := Lib.hid (HB7.out.trans (hB10.mono HB7.out.size))
                  clear hB10
                  go_wp2_with fail
                  go_roundw
                  case rel => exact ⟨k + 1, by go_num, by omega, HK, HB10.out⟩
                  case measure => simp [intOf]; omega
            · have hkl : k = xs.length := by omega
              subst hkl
              rw [List.take_length] at hall
              have HY : Hid (OpAt T.t at_) := HOP.out.2 ⟨HH.out, xs, HTB.out, hall.out⟩
              have HB6 := Lib.hid (below_then HB5.out hB)
              clear hall hlt hB
              go_wp2_with fail
              go_ret
              exact ⟨true, rfl, ⟨fun _ => HY.out, fun _ => rfl⟩, below_then HB2.out HB6.out⟩
end Go.Proofs.Ytjcfppbahalgbaa
