/- swathlaw16.awake: chapter 16's example. -/
import Derived.Test.YtjcfppbahalgbaaQ
namespace Go.Proofs.Ytjcfppbahalgbaa
set_option linter.unusedSimpArgs false
set_option linter.unusedVariables false
open Go.RowKit
open Go.Proofs.YtjcfppbahalgbaaW.PrintWords (QRow q_append q_drop q_cells q_of_own q_move q_lt q_typed q_slice q_take q_lower)
theorem loop_check (b : Nat) (n : Int) (w : World) (hn : -9223372036854775808 ≤ n ∧ n ≤ 9223372036854775807) (h : LoopAt w b n) : Calls Try.prog 37 #[.agg (loopTV b n).cells.toArray] w fun e w' => ∃ r, CheckR (loopT n) r ∧ e = .returned (.tuple #[.int .i64 (atOf r), .int .i64 (erOf r)]) ∧ Below w.heap.size w w' :=
  check_any (loopTV b n) w (loop_ok h) (loop_take n) (by
    intro o ho s hs
    simp [loopTV, loopT, vS] at ho
    rcases ho with rfl | rfl <;> simp at hs
    rcases hs with rfl | rfl <;> simp [I64]) (by
    intro s hs
    simp [loopTV, loopT, vS] at hs
    subst hs
    exact hn.2)
theorem loop_use (b : Nat) (w : World) (h : LoopAt w b 2) : Calls Try.prog 35 #[.agg (loopTV b 2).cells.toArray, .int .i64 1] w fun e w' => ∃ v, e = .returned v ∧ IntsQ w' w.heap.size v [0] ∧ Below w.heap.size w w' := by
  refine (uses_any (loopTV b 2) 1 w (loop_ok h) (loop_take 2) ?_ ?_).mono ?_
  · intro o ho s hs
    simp [loopTV, loopT, vS] at ho
    rcases ho with rfl | rfl <;> simp at hs
    rcases hs with rfl | rfl <;> simp [I64]
  · intro s hs
    simp [loopTV, loopT, vS] at hs
    subst hs
    simp
  · rintro e w' ⟨v, l, rfl, hq, hu, hB⟩
    have := loop_uses hu
    subst this
    exact ⟨v, rfl, hq, hB⟩
theorem makes4 (w : World) : Calls Try.prog 28 #[.int .i64 4] w fun e w' => e = .returned (.bool true) ∧ Below w.heap.size w w' := by
  have := makes_any 4 w
  rw [row4] at this
  exact this
theorem may26 (w : World) : Calls Try.prog 30 #[.int .i64 26] w fun e w' => e = .returned (.bool true) ∧ Below w.heap.size w w' := by
  have := may_any 26 w
  rw [row26] at this
  exact this
theorem args32 (w : World) : Calls Try.prog 32 #[.int .i64 32] w fun e w' => e = .returned (.int .i64 2) ∧ Below w.heap.size w w' := by
  have := args_any 32 w
  rw [show (rowOf 32).args = 2 from row32] at this
  exact this
set_option maxRecDepth 100000 in
set_option maxHeartbeats 1600000 in
theorem awake_any (w : World) : Calls Try.prog 27 #[] w fun e w' => e = .returned (.bool true) ∧ Below w.heap.size w w' := by
  go_enter Try.func27, Try.ntmps27
  go_wp2_with (go_at_call 62; refine (loop_any w).mono ?_)
  rintro e w1 ⟨rfl, ha1, hB1⟩
  have HB1 := Lib.hid hB1
  have HC1 := Lib.hid (loop_check w.heap.size 2 w1 (by omega) ha1)
  clear hB1 ha1
  go_wp2_with (go_at_call 37; refine HC1.out.mono ?_)
  rintro e w2 ⟨r, hr, rfl, hB2⟩
  have hr' := CheckR.fn hr loop_check2
  subst hr'
  have HB2 := Lib.hid (below_then HB1.out hB2)
  clear hr hB2 HB1 HC1
  simp only [atOf, erOf]
  go_wp2_with (go_at_call 62; refine (loop_any w2).mono ?_)
  rintro e w3 ⟨rfl, ha3, hB3⟩
  obtain ⟨b, hb⟩ : ∃ b, w2.heap.size = b := ⟨_, rfl⟩
  rw [hb] at ha3 ⊢
  obtain ⟨W4, hW4⟩ : ∃ W4, w3.alloc (.cells (loopTV b 2).cells.toArray 33) = W4 := ⟨_, rfl⟩
  have hB4 : Below w3.heap.size w3 W4 := by rw [← hW4]; exact below_alloc (Below.refl _ _) _
  have hat4 : At W4 w3.heap.size 0 (loopTV b 2).cells := by rw [← hW4]; exact At.of_obj (heap_alloc_last w3 _)
  have ha4 := ha3.below hB4
  have c16 : W4.cell? ⟨w3.heap.size, 16, none⟩ = some (.slice (some ⟨b + 1 + 1 + 1 + 1 + 1 + 1 + 1, 0, none⟩) 1 1) := by
    have := hat4 16 _ rfl
    rw [Nat.zero_add] at this
    exact this
  have c3 : W4.cell? ⟨b + 1 + 1 + 1 + 1 + 1 + 1 + 1, 3, none⟩ = some (.int .i64 2) := by rw [cell_of_row _ _ 3 _ _ _ ha4.k]; rfl
  have z3 : W4.frozen? ⟨b + 1 + 1 + 1 + 1 + 1 + 1 + 1, 3, none⟩ = false := by simp [World.frozen?, ha4.k]
  have hlt3 : b + 1 + 1 + 1 + 1 + 1 + 1 + 1 < w3.heap.size := (Array.getElem?_eq_some_iff.1 ha3.k).1
  go_upto_region 3 with (refine wpList_store_new2 rfl 33 (.tmp 3) (.tmp 12) rfl w3.heap.size (loopTV b 2).cells.toArray rfl rfl rfl info33 rfl (loopTV b 2).cells_one ?_)
  obtain ⟨W5, hW5⟩ : ∃ W5, W4.setCell ⟨b + 1 + 1 + 1 + 1 + 1 + 1 + 1, 3, none⟩ (.int .i64 3) = W5 := ⟨_, rfl⟩
  have ha5 : LoopAt W5 b 3 := by
    rw [← hW5]
    refine ⟨?_, ?_, ?_, ?_, ?_⟩
    · exact (Below.heap_setCell _ _ _ _ (by simp)).trans ha4.i
    · exact (Below.heap_setCell _ _ _ _ (by simp)).trans ha4.a
    · exact (Below.heap_setCell _ _ _ _ (by simp)).trans ha4.o
    · exact (Below.heap_setCell _ _ _ _ (by simp)).trans ha4.l
    · rw [heap_setCell_same ha4.k]; rfl
  have hat5 : At W5 w3.heap.size 0 (loopTV b 3).cells := by
    intro i v hv
    rw [← hW5, cell_setCell_far (by omega)]
    exact hat4 i v hv
  have HB5 : Hid (Below w.heap.size w W5) := by
    rw [← hW5]
    exact Below.setCell (p := ⟨b + 1 + 1 + 1 + 1 + 1 + 1 + 1, 3, none⟩) (HB2.out.trans ((hB3.mono (Nat.le_refl _)).mono HB2.out.size |>.trans (hB4.mono (Nat.le_trans HB2.out.size hB3.size)))) (by have := HB2.out.size; simp; omega) _
  have HC5 := Lib.hid (loop_check b 3 W5 (by omega) ha5)
  have HAT5 := Lib.hid hat5
  clear hat4 ha4 ha3 hat5 ha5 hB3 hB4 HB2
  go_wp2_with (first | (refine wpList_load_at rfl 33 _ rfl w3.heap.size rfl (loopTV b 3).cells _ HAT5.out Try.underlying33 rfl info33 ?_) | (go_at_call 37; refine HC5.out.mono ?_))
  rintro e w6 ⟨r, hr, rfl, hB6⟩
  have hr' := CheckR.fn hr loop_check3
  subst hr'
  have HB6 := Lib.hid (HB5.out.trans (hB6.mono HB5.out.size))
  clear hr hB6 HB5 HC5 HAT5 c16 c3 z3 hW4 hW5
  simp only [atOf, erOf]
  go_wp2_with (go_at_call 62; refine (loop_any w6).mono ?_)
  rintro e w7 ⟨rfl, ha7, hB7⟩
  have HB7 := Lib.hid (HB6.out.trans (hB7.mono HB6.out.size))
  have HU7 := Lib.hid (loop_use w6.heap.size w7 ha7)
  clear hB7 ha7 HB6
  go_wp2_with (go_at_call 35; refine HU7.out.mono ?_)
  rintro e w8 ⟨v, rfl, hq, hB8⟩
  obtain ⟨g, off, cap, cur, rfl, hg, hh, hnc, hm, hcs, ht⟩ := intsQ_form hq (by simp)
  have c8 : w8.cell? ⟨g, off, none⟩ = some (.int .i64 0) := by
    have hc := (intsQ_holds hh ht 0 (by simp)).1
    simpa using hc
  have HB8 := Lib.hid (HB7.out.trans (hB8.mono HB7.out.size))
  clear hB8 HB7 HU7 hq hh ht hcs hm hnc hg
  go_wp2_with (first | (go_at_call 28; refine (makes4 _).mono ?_; rintro e w9 ⟨rfl, hB9⟩) | (go_at_call 30; refine (may26 _).mono ?_; rintro e w10 ⟨rfl, hB10⟩) | (go_at_call 32; refine (args32 _).mono ?_; rintro e w11 ⟨rfl, hB11⟩))
  go_ret
  exact ⟨rfl, below_then (below_then (below_then HB8.out hB9) hB10) hB11⟩
end Go.Proofs.Ytjcfppbahalgbaa
