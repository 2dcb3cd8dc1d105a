/- The table of operations, as data: trace.rows, trace.of, Makes, May, Args, each by its contract. -/
import Derived.Test.YtjcfppbahalgbaaChecked
import Derived.Test.YtjcfppbahalgbaaK
import Derived.Deep.WholeRow
namespace Go.Proofs.Ytjcfppbahalgbaa
open Go.RowKit
structure Row where
  name : ByteArray
  args : Int
  k : Bool
  c : Bool
  makes : Bool
  may : Bool
  is : Bool
def Row.cells (r : Row) : List Value := [.string r.name, .int .i64 r.args, .bool r.k, .bool r.c, .bool r.makes, .bool r.may, .bool r.is]
abbrev Row.val (r : Row) : Value := .agg #[.string r.name, .int .i64 r.args, .bool r.k, .bool r.c, .bool r.makes, .bool r.may, .bool r.is]
def rowL : List Row := [
  ⟨⟨#[]⟩, 0, false, false, false, false, false⟩,
  ⟨⟨#[]⟩, 0, false, false, false, false, false⟩,
  ⟨⟨#[]⟩, 0, false, false, false, false, false⟩,
  ⟨⟨#[]⟩, 0, false, false, false, false, false⟩,
  ⟨⟨#[98, 105, 110]⟩, 2, true, false, true, true, true⟩,
  ⟨⟨#[117, 110]⟩, 1, true, false, true, true, true⟩,
  ⟨⟨#[101, 113]⟩, 2, false, false, true, false, true⟩,
  ⟨⟨#[110, 101]⟩, 2, false, false, true, false, true⟩,
  ⟨⟨#[103, 101, 116]⟩, 1, true, true, true, true, true⟩,
  ⟨⟨#[112, 117, 116]⟩, 2, true, true, false, true, true⟩,
  ⟨⟨#[101, 108, 101, 109]⟩, 2, false, false, true, true, true⟩,
  ⟨⟨#[115, 101, 116, 101, 108, 101, 109]⟩, 3, false, false, false, true, true⟩,
  ⟨⟨#[108, 101, 110]⟩, 1, false, false, true, true, true⟩,
  ⟨⟨#[110, 101, 119]⟩, 0, true, true, true, true, true⟩,
  ⟨⟨#[97, 114, 114]⟩, 1, false, false, true, true, true⟩,
  ⟨⟨#[105, 110]⟩, 0, false, false, true, false, true⟩,
  ⟨⟨#[111, 117, 116]⟩, 1, false, false, false, true, true⟩,
  ⟨⟨#[105, 109, 103]⟩, 1, false, false, true, true, true⟩,
  ⟨⟨#[]⟩, 0, false, false, false, false, false⟩,
  ⟨⟨#[114, 111, 111, 116]⟩, 0, false, false, true, false, true⟩,
  ⟨⟨#[115, 101, 116, 114, 111, 111, 116]⟩, 1, false, false, false, false, true⟩,
  ⟨⟨#[]⟩, 0, false, false, false, false, false⟩,
  ⟨⟨#[]⟩, 0, false, false, false, false, false⟩,
  ⟨⟨#[]⟩, 0, false, false, false, false, false⟩,
  ⟨⟨#[]⟩, 0, false, false, false, false, false⟩,
  ⟨⟨#[]⟩, 0, false, false, false, false, false⟩,
  ⟨⟨#[115, 116, 101, 112]⟩, 0, false, false, false, true, true⟩,
  ⟨⟨#[]⟩, 0, false, false, false, false, false⟩,
  ⟨⟨#[]⟩, 0, false, false, false, false, false⟩,
  ⟨⟨#[]⟩, 0, false, false, false, false, false⟩,
  ⟨⟨#[121, 101, 115]⟩, 1, false, false, false, true, true⟩,
  ⟨⟨#[110, 111]⟩, 1, false, false, false, true, true⟩,
  ⟨⟨#[105, 115]⟩, 2, false, false, false, true, true⟩,
  ⟨⟨#[100, 101, 112, 116, 104]⟩, 0, true, false, false, true, true⟩,
  ⟨⟨#[99, 104, 97, 114, 103, 101]⟩, 0, true, false, false, true, true⟩,
  ⟨⟨#[108, 97, 121]⟩, (-1), true, false, true, false, true⟩]
def rowCs : Array Value := (rowL.flatMap Row.cells).toArray
def noRow : Row := ⟨⟨#[]⟩, -1, false, false, false, false, false⟩
def rowOf (op : Int) : Row := if 0 ≤ op ∧ op < 36 then (if (rowL.getD op.toNat noRow).is then rowL.getD op.toNat noRow else noRow) else noRow

/-- Operations that yield a value or nothing, none guarded. -/
def vals (P : Program) : List Oper → Act → World → Option (Act × World)
  | [], a, w => some (a, w)
  | o :: r, a, w =>
    if o.guard.isNone then
      match (execOp a.eval o).run P w with
      | .ok (.value v) w' => vals P r (a.put o.dst v) w'
      | .ok .skip w' => vals P r (a.put o.dst undef) w'
      | _ => none
    else none
theorem wpList_vals {P : Program} {ops : Array Oper} {Q : Exit → Act → World → Prop} {rest : List Oper} {a' : Act} {w' : World} : ∀ (l : List Oper) (a : Act) (w : World),
    vals P l a w = some (a', w') → wpList P ops Q rest a' w' → wpList P ops Q (l ++ rest) a w
  | [], a, w, h, hk => by
    simp only [vals, Option.some.injEq, Prod.mk.injEq] at h
    obtain ⟨rfl, rfl⟩ := h
    exact hk
  | o :: r, a, w, h, hk => by
    unfold vals at h
    split at h
    · rename_i hg
      have hg' : o.guard = none := by simpa using hg
      rw [List.cons_append]
      refine wpList_plain hg' fun K hK => ?_
      unfold Oper.wp
      split at h
      · rename_i v w1 hr
        rw [hr]
        exact hK _ _ (wpList_vals r _ _ h hk)
      · rename_i w1 hr
        rw [hr]
        exact hK _ _ (wpList_vals r _ _ h hk)
      · cases h
    · cases h
theorem wpList_store_new {P : Program} {ops : Array Oper} {Q : Exit → Act → World → Prop} {rest : List Oper} {o : Oper} {a : Act} {w : World} (hg : o.guard = none) {t : TypeId} {x v : Operand} (ho : o.op = .store t x v)
    {c c' : Array Value} (hx : a.eval x = .pointer (some ⟨w.heap.size, 0, none⟩)) (hv : a.eval v = .agg c') (hi : (P.info? t).map (·.size) = some c'.size) (hs : c.size = c'.size) (h1 : c'.all (·.oneCell') = true)
    (hk : wpList P ops Q rest (a.put o.dst undef) (w.alloc (.cells c' t))) : wpList P ops Q (o :: rest) a (w.alloc (.cells c t)) := by
  refine wpList_plain hg fun K hK => ?_
  unfold Oper.wp execOp
  simp only [ho, hx, hv, Sem.run_bind, run_storeAt_new (P := P) w t c c' hi hs h1, Result.andThen_ok, Sem.run_pure]
  exact hK _ _ hk

theorem rowCs_size : rowCs.size = 252 := by kernel_rfl
theorem rowCs_one : rowCs.all (·.oneCell') = true := by kernel_rfl
theorem info170 : (Try.prog.info? 170).map (·.size) = some rowCs.size := by kernel_rfl
def zerosCs : Array Value := (List.replicate 36 [Value.string ⟨#[]⟩, .int .i64 0, .bool false, .bool false, .bool false, .bool false, .bool false]).flatten.toArray
def actOf (P : Program) (l : List Oper) (a : Act) (w : World) : Act := ((vals P l a w).getD (a, w)).1
theorem wpList_valsA {P : Program} {ops : Array Oper} {Q : Exit → Act → World → Prop} {rest : List Oper} (l : List Oper) (a : Act) (w : World)
    (h : vals P l a w = some (actOf P l a w, w)) (hk : wpList P ops Q rest (actOf P l a w) w) : wpList P ops Q (l ++ rest) a w := wpList_vals l a w h hk
theorem alloc170 (w : World) : (Instr.alloc 170 true (.tuple #[])).run Try.prog w = .ok (.pointer (some ⟨w.heap.size, 0, none⟩)) (w.alloc (.cells zerosCs 170)) := by kernel_rfl
theorem zeros_size : zerosCs.size = rowCs.size := by kernel_rfl
theorem rows_any (w : World) : Calls Try.prog 114 #[] w fun e w' => e = .returned (.agg rowCs) ∧ w' = w.alloc (.cells rowCs 170) := by
  go_enter Try.func114, Try.ntmps114
  refine wp_seq (wp_region_lit ?_)
  refine wpList_plain rfl fun K hK => ?_
  unfold Oper.wp execOp
  simp only [Sem.run_bind, alloc170, Result.andThen_ok, Sem.run_pure]
  refine hK _ _ (wpList_nil ?_)
  refine wp_seq (wp_region_lit ?_)
  show wpList _ _ _ ([_,_,_,_,_,_,_,_,_,_,_,_,_,_,_,_,_,_,_,_,_,_,_,_] ++ [_]) _ _
  refine wpList_valsA _ _ _ ?_ ?_
  · kernel_rfl
  refine wpList_store_new rfl rfl (c' := rowCs) ?_ ?_ info170 zeros_size rowCs_one ?_
  · kernel_rfl
  · kernel_rfl
  refine wpList_nil (wp_ret ?_)
  refine bodyPost_ret (results_cell_row rfl _ _ w.heap.size 170 rowCs (0, 0) _ (by kernel_rfl) (heap_alloc_last w _) Try.underlying170 rfl info170) (by kernel_rfl) ?_
  exact ⟨rfl, rfl⟩
theorem flat_cells : ∀ (l : List Row) (n : Nat), n < l.length → ∀ j, j < 7 → (l.flatMap Row.cells)[n * 7 + j]? = (l.getD n noRow).cells[j]?
  | [], n, h, _, _ => by simp at h
  | r :: l, 0, _, j, hj => by
    rw [List.flatMap_cons, List.getElem?_append_left (by simp [Row.cells]; omega)]
    simp
  | r :: l, n + 1, h, j, hj => by
    rw [List.flatMap_cons, List.getElem?_append_right (by simp [Row.cells]; omega)]
    have e : (n + 1) * 7 + j - r.cells.length = n * 7 + j := by simp only [Row.cells, List.length_cons, List.length_nil]; omega
    rw [e, flat_cells l n (by simpa using h) j hj]
    simp
theorem rowL_length : rowL.length = 36 := rfl
theorem row_cells (n : Nat) (hn : n < 36) (j : Nat) (hj : j < 7) : rowCs[n * 7 + j]? = (rowL.getD n noRow).cells[j]? := by
  unfold rowCs
  rw [List.getElem?_toArray, flat_cells rowL n (by rw [rowL_length]; exact hn) j hj]
theorem set7 (W : World) (g t : Nat) (a0 a1 a2 a3 a4 a5 a6 v0 v1 v2 v3 v4 v5 v6 : Value) (h : W.heap[g]? = some (.cells #[a0, a1, a2, a3, a4, a5, a6] t (0, 0))) :
    (((((((W.setCell ⟨g, 0, none⟩ v0).setCell ⟨g, 1, none⟩ v1).setCell ⟨g, 2, none⟩ v2).setCell ⟨g, 3, none⟩ v3).setCell ⟨g, 4, none⟩ v4).setCell ⟨g, 5, none⟩ v5).setCell ⟨g, 6, none⟩ v6).heap[g]? = some (.cells #[v0, v1, v2, v3, v4, v5, v6] t (0, 0)) := by
  have h0 := heap_setCell_same W g 0 _ t v0 h
  have h1 := heap_setCell_same _ g 1 _ t v1 h0
  have h2 := heap_setCell_same _ g 2 _ t v2 h1
  have h3 := heap_setCell_same _ g 3 _ t v3 h2
  have h4 := heap_setCell_same _ g 4 _ t v4 h3
  have h5 := heap_setCell_same _ g 5 _ t v5 h4
  have h6 := heap_setCell_same _ g 6 _ t v6 h5
  simp only [List.setIfInBounds_toArray, List.set] at h6
  exact h6
theorem below_set7 (w W : World) (hB : Below w.heap.size w W) (v0 v1 v2 v3 v4 v5 v6 : Value) :
    Below w.heap.size w (((((((W.setCell ⟨w.heap.size, 0, none⟩ v0).setCell ⟨w.heap.size, 1, none⟩ v1).setCell ⟨w.heap.size, 2, none⟩ v2).setCell ⟨w.heap.size, 3, none⟩ v3).setCell ⟨w.heap.size, 4, none⟩ v4).setCell ⟨w.heap.size, 5, none⟩ v5).setCell ⟨w.heap.size, 6, none⟩ v6) :=
  ((((((hB.setCell (Nat.le_refl _) _).setCell (Nat.le_refl _) _).setCell (Nat.le_refl _) _).setCell (Nat.le_refl _) _).setCell (Nat.le_refl _) _).setCell (Nat.le_refl _) _).setCell (Nat.le_refl _) _
theorem info112 : (Try.prog.info? 112).map (·.size) = some 7 := by kernel_rfl
set_option maxHeartbeats 1600000 in
theorem of_any (op : Int) (w : World) : Calls Try.prog 63 #[.int .i64 op] w fun e w' => e = .returned (rowOf op).val ∧ Below w.heap.size w w' := by
  go_enter Try.func63, Try.ntmps63
  go_wp2_with fail
  refine (rows_any _).mono ?_
  rintro e w' ⟨rfl, rfl⟩
  rename_i hK
  refine hK _ _ ?_
  clear hK
  refine wpList_plain rfl fun K hK => ?_
  unfold Oper.wp execOp
  simp only [Sem.run_bind, alloc170, Result.andThen_ok, Sem.run_pure]
  refine hK _ _ ?_
  clear hK
  refine wpList_store_new rfl rfl (c' := rowCs) rfl rfl info170 zeros_size rowCs_one ?_
  refine wpList_nil ?_
  obtain ⟨W, hW⟩ : ∃ W, (((w.alloc (.cells #[.string ⟨#[]⟩, .int .i64 0, .bool false, .bool false, .bool false, .bool false, .bool false] 112)).alloc (.cells rowCs 170)).alloc (.cells rowCs 170)) = W := ⟨_, rfl⟩
  have hB : Below w.heap.size w W := by rw [← hW]; exact below_alloc (below_alloc (below_alloc (Below.refl _ _) _) _) _
  have hg : W.heap[w.heap.size + 2]? = some (.cells rowCs 170 (0, 0)) := by rw [← hW]; have := heap_alloc_last ((w.alloc (.cells #[.string ⟨#[]⟩, .int .i64 0, .bool false, .bool false, .bool false, .bool false, .bool false] 112)).alloc (.cells rowCs 170)) (.cells rowCs 170); simpa using this
  have h2 : W.heap[w.heap.size]? = some (.cells #[.string ⟨#[]⟩, .int .i64 0, .bool false, .bool false, .bool false, .bool false, .bool false] 112 (0, 0)) := by
    rw [← hW]; rw [Below.heap_alloc _ _ _ (by simp; omega), Below.heap_alloc _ _ _ (by simp)]; exact heap_alloc_last w _
  rw [hW]
  simp only [Exit.then, Act.put, World.size_alloc, List.setIfInBounds_toArray, List.set]
  clear hW
  have hz : w.heap.size + 2 < W.heap.size := (Array.getElem?_eq_some_iff.1 hg).1
  have f0 : ∀ j, W.frozen? ⟨w.heap.size, j, none⟩ = false := fun j => frozen_of_row W _ j _ _ h2
  have c0 : W.cell? ⟨w.heap.size, 0, none⟩ = some (.string ⟨#[]⟩) := by rw [cell_of_row W _ 0 _ _ _ h2]; rfl
  have c1 : W.cell? ⟨w.heap.size, 1, none⟩ = some (.int .i64 0) := by rw [cell_of_row W _ 1 _ _ _ h2]; rfl
  have c2 : W.cell? ⟨w.heap.size, 2, none⟩ = some (.bool false) := by rw [cell_of_row W _ 2 _ _ _ h2]; rfl
  have c3 : W.cell? ⟨w.heap.size, 3, none⟩ = some (.bool false) := by rw [cell_of_row W _ 3 _ _ _ h2]; rfl
  have c4 : W.cell? ⟨w.heap.size, 4, none⟩ = some (.bool false) := by rw [cell_of_row W _ 4 _ _ _ h2]; rfl
  have c5 : W.cell? ⟨w.heap.size, 5, none⟩ = some (.bool false) := by rw [cell_of_row W _ 5 _ _ _ h2]; rfl
  have c6 : W.cell? ⟨w.heap.size, 6, none⟩ = some (.bool false) := by rw [cell_of_row W _ 6 _ _ _ h2]; rfl
  by_cases h : 0 ≤ op ∧ op < 36
  · obtain ⟨n, rfl⟩ : ∃ n : Nat, op = n := ⟨op.toNat, by omega⟩
    have hn : n < 36 := by omega
    have r0 := row_cells n hn 0 (by decide)
    have r1 := row_cells n hn 1 (by decide)
    have r2 := row_cells n hn 2 (by decide)
    have r3 := row_cells n hn 3 (by decide)
    have r4 := row_cells n hn 4 (by decide)
    have r5 := row_cells n hn 5 (by decide)
    have r6 := row_cells n hn 6 (by decide)
    have hr : rowOf (n : Int) = if (rowL.getD n noRow).is then rowL.getD n noRow else noRow := by
      unfold rowOf; rw [if_pos h]; simp
    generalize rowL.getD n noRow = r at *
    rw [← cell_of_row W _ _ _ _ _ hg] at r0 r1 r2 r3 r4 r5 r6
    have Hr := Lib.hid hr
    have H2 := Lib.hid h2
    clear hr hg h2 h
    simp only [Row.cells, Nat.add_zero, List.getElem?_cons_zero, List.getElem?_cons_succ] at r0 r1 r2 r3 r4 r5 r6
    cases his : r.is
    · rw [his] at r6
      have Hr' : Hid (rowOf (n : Int) = noRow) := by have := Hr.out; rw [his] at this; exact this
      have hlt : (n : Int) < 36 := by omega
      have hge : 0 ≤ (n : Int) := by omega
      clear his Hr
      go_wp2
      refine bodyPost_ret (results_cell_row rfl _ _ w.heap.size 112 _ (0, 0) _ rfl (set7 W _ 112 _ _ _ _ _ _ _ _ _ _ _ _ _ _ H2.out) Try.underlying112 rfl info112) rfl ⟨?_, below_set7 w W hB _ _ _ _ _ _ _⟩
      rw [Hr'.out]; rfl
    · rw [his] at r6
      have Hr' : Hid (rowOf (n : Int) = r) := by have := Hr.out; rw [his] at this; exact this
      have Hi := Lib.hid his
      have hlt : (n : Int) < 36 := by omega
      have hge : 0 ≤ (n : Int) := by omega
      clear his Hr
      go_wp2
      refine bodyPost_ret (results_cell_row rfl _ _ w.heap.size 112 _ (0, 0) _ rfl (set7 W _ 112 _ _ _ _ _ _ _ _ _ _ _ _ _ _ H2.out) Try.underlying112 rfl info112) rfl ⟨?_, below_set7 w W hB _ _ _ _ _ _ _⟩
      rw [Hr'.out]; simp only [Row.val, Hi.out]
  · have hr : rowOf op = noRow := by unfold rowOf; rw [if_neg h]
    have Hr := Lib.hid hr
    have H2 := Lib.hid h2
    clear hr hg h2
    by_cases hneg : op < 0
    · clear h
      go_wp2
      refine bodyPost_ret (results_cell_row rfl _ _ w.heap.size 112 _ (0, 0) _ rfl (set7 W _ 112 _ _ _ _ _ _ _ _ _ _ _ _ _ _ H2.out) Try.underlying112 rfl info112) rfl ⟨?_, below_set7 w W hB _ _ _ _ _ _ _⟩
      rw [Hr.out]; rfl
    · have hge : 36 ≤ op := by omega
      clear h
      go_wp2
      refine bodyPost_ret (results_cell_row rfl _ _ w.heap.size 112 _ (0, 0) _ rfl (set7 W _ 112 _ _ _ _ _ _ _ _ _ _ _ _ _ _ H2.out) Try.underlying112 rfl info112) rfl ⟨?_, below_set7 w W hB _ _ _ _ _ _ _⟩
      rw [Hr.out]; rfl
attribute [irreducible] rowOf
@[go_sem] theorem fld112_1 (a0 a1 a2 a3 a4 a5 a6 : Value) (w : World) : (Instr.field 112 (.agg #[a0, a1, a2, a3, a4, a5, a6]) 1).run Try.prog w = .ok a1 w := by kernel_rfl
@[go_sem] theorem fld112_2 (a0 a1 a2 a3 a4 a5 a6 : Value) (w : World) : (Instr.field 112 (.agg #[a0, a1, a2, a3, a4, a5, a6]) 2).run Try.prog w = .ok a2 w := by kernel_rfl
@[go_sem] theorem fld112_3 (a0 a1 a2 a3 a4 a5 a6 : Value) (w : World) : (Instr.field 112 (.agg #[a0, a1, a2, a3, a4, a5, a6]) 3).run Try.prog w = .ok a3 w := by kernel_rfl
@[go_sem] theorem fld112_4 (a0 a1 a2 a3 a4 a5 a6 : Value) (w : World) : (Instr.field 112 (.agg #[a0, a1, a2, a3, a4, a5, a6]) 4).run Try.prog w = .ok a4 w := by kernel_rfl
@[go_sem] theorem fld112_5 (a0 a1 a2 a3 a4 a5 a6 : Value) (w : World) : (Instr.field 112 (.agg #[a0, a1, a2, a3, a4, a5, a6]) 5).run Try.prog w = .ok a5 w := by kernel_rfl
@[go_sem] theorem fld112_6 (a0 a1 a2 a3 a4 a5 a6 : Value) (w : World) : (Instr.field 112 (.agg #[a0, a1, a2, a3, a4, a5, a6]) 6).run Try.prog w = .ok a6 w := by kernel_rfl
theorem makes_any (op : Int) (w : World) : Calls Try.prog 28 #[.int .i64 op] w fun e w' => e = .returned (.bool (rowOf op).makes) ∧ Below w.heap.size w w' := by
  go_enter Try.func28, Try.ntmps28
  go_wp2_with (go_at_call 63; refine (of_any _ _).mono ?_; rintro e w' ⟨rfl, hB⟩)
  go_ret
  exact ⟨rfl, hB⟩
theorem may_any (op : Int) (w : World) : Calls Try.prog 30 #[.int .i64 op] w fun e w' => e = .returned (.bool (rowOf op).may) ∧ Below w.heap.size w w' := by
  go_enter Try.func30, Try.ntmps30
  go_wp2_with (go_at_call 63; refine (of_any _ _).mono ?_; rintro e w' ⟨rfl, hB⟩)
  go_ret
  exact ⟨rfl, hB⟩
theorem args_any (op : Int) (w : World) : Calls Try.prog 32 #[.int .i64 op] w fun e w' => e = .returned (.int .i64 (rowOf op).args) ∧ Below w.heap.size w w' := by
  go_enter Try.func32, Try.ntmps32
  go_wp2_with (go_at_call 63; refine (of_any _ _).mono ?_; rintro e w' ⟨rfl, hB⟩)
  go_ret
  exact ⟨rfl, hB⟩
end Go.Proofs.Ytjcfppbahalgbaa
