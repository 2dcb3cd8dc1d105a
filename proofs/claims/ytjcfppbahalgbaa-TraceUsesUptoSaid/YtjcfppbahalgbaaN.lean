/- trace.Check. -/
import Derived.Recover
import Derived.Test.YtjcfppbahalgbaaV
namespace Go.Proofs.Ytjcfppbahalgbaa
set_option linter.unusedSimpArgs false
set_option linter.unusedVariables false
open Go.RowKit
theorem assert_wrong (n : Int) (w : World) : (Instr.typeAssert (.iface 125 (.agg #[.int .i64 n])) 20 125 true).run Try.prog w = .ok (.tuple #[.agg #[.int .i64 n], .bool true]) w := by
  unfold Instr.typeAssert
  simp only [Sem.run_bind, run_underlying Try.underlying125, Result.andThen_ok, if_true]
  rfl
set_option maxRecDepth 100000 in
theorem catch_panicking (p q : Nat) (n x y : Int) (w : World) (hc : w.cell? ⟨p, 0, none⟩ = some (.int .i64 x)) (hz : w.frozen? ⟨p, 0, none⟩ = false) (hc2 : w.cell? ⟨q, 0, none⟩ = some (.int .i64 y)) (hz2 : w.frozen? ⟨q, 0, none⟩ = false) (hpq : p ≠ q) :
    CallsD Try.prog 71 #[.pointer (some ⟨p, 0, none⟩), .pointer (some ⟨q, 0, none⟩)] (.panicking (wrongE n)) w fun e u' w' =>
      e = .returned (.tuple #[]) ∧ u' = .panicking [{ v := .iface 125 (.agg #[.int .i64 n]), recovered := true }] ∧ w' = ((w.alloc (.cells #[.int .i64 n] 125)).setCell ⟨p, 0, none⟩ (.int .i64 n)).setCell ⟨q, 0, none⟩ (.int .i64 160) := by
  unfold wrongE
  have hp : p < w.heap.size := lt_of_cell hc
  have hq : q < w.heap.size := lt_of_cell hc2
  have k1 := cell_alloc hc (.cells #[.int .i64 n] 125)
  have k2 := cell_alloc hc2 (.cells #[.int .i64 n] 125)
  have hta := assert_wrong n
  refine callsD_of_wpS Try.func71 rfl fun c₀ cs hu => ?_
  apply wpS_seq
  apply wpS_region
  simp [wpOpsS, go_sem, recoverD, hu, Try.ntmps71, Exit.thenS]
  apply wpS_seq
  apply wpS_region
  simp [wpOpsS, go_sem, Exit.thenS]
  refine wpS_cond (t := true) (by simp [Act.eval, Array.replicate]) ?_
  simp only [if_true]
  refine wpS_of_wp ?_
  (try simp only [Array.replicate_succ, Array.replicate_zero, List.push_toArray, List.append_toArray, List.nil_append, List.cons_append, List.setIfInBounds_toArray, List.set_cons_zero, List.set_cons_succ])
  go_upto_region 3 with fail
  have k3 : (w.alloc (.cells #[.int .i64 n] 125)).cell? ⟨w.heap.size, 0, none⟩ = some (.int .i64 n) := by rw [cell_of_row _ _ 0 _ _ _ (heap_alloc_last w _)]; rfl
  have z1 : (w.alloc (.cells #[.int .i64 n] 125)).frozen? ⟨p, 0, none⟩ = false := by rw [World.frozen?_alloc_old w _ _ (by simp; omega)]; exact hz
  have z2 : (w.alloc (.cells #[.int .i64 n] 125)).frozen? ⟨q, 0, none⟩ = false := by rw [World.frozen?_alloc_old w _ _ (by simp; omega)]; exact hz2
  obtain ⟨W1, hW1⟩ : ∃ W1, w.alloc (.cells #[.int .i64 n] 125) = W1 := ⟨_, rfl⟩
  rw [hW1] at k1 k2 k3 z1 z2 ⊢
  have k4 : (W1.setCell ⟨p, 0, none⟩ (.int .i64 n)).cell? ⟨q, 0, none⟩ = some (.int .i64 y) := by rw [cell_setCell_far (Ne.symm hpq)]; exact k2
  have z4 : (W1.setCell ⟨p, 0, none⟩ (.int .i64 n)).frozen? ⟨q, 0, none⟩ = false := by rw [World.frozen?_setCell]; exact z2
  clear hc hc2 hz hz2
  go_wp2_with fail
  exact ⟨rfl, _, rfl, _, results_none rfl _ _ _, rfl, rfl, by rw [hW1]⟩
theorem catch_idle (p q : Addr) (w : World) :
    CallsD Try.prog 71 #[.pointer (some p), .pointer (some q)] .returning w fun e u' w' => e = .returned (.tuple #[]) ∧ u' = .returning ∧ w' = w := by
  refine callsD_of_wpS Try.func71 rfl fun c₀ cs hu => ?_
  apply wpS_seq
  apply wpS_region
  simp [wpOpsS, go_sem, recoverD, hu, Try.ntmps71, Exit.thenS]
  apply wpS_seq
  apply wpS_region
  simp [wpOpsS, go_sem, Exit.thenS]
  refine wpS_cond (t := false) (by simp [Act.eval, Array.replicate]) ?_
  simp only [Bool.false_eq_true, if_false]
  refine wpS_of_wp (wp_skip ?_)
  cases c₀
  simp_all [bodyPostS, results, Try.results71]
theorem build_x (T : TV) (W : World) : (Instr.build 129 #[(0, .agg T.cells.toArray)]).run Try.prog W = .ok (.agg (xCells T 0 none 0 0).toArray) W := by
  unfold xCells TV.cells
  kernel_rfl
theorem wpList_build_x {ops : Array Oper} {Q : Exit → Act → World → Prop} {rest : List Oper} {o : Oper} {a : Act} {w : World} (hgd : o.guard = none) (x : Operand) (ho : o.op = .build 129 #[(0, x)]) (T : TV)
    (hx : a.eval x = .agg T.cells.toArray) (h : wpList Try.prog ops Q rest (a.put o.dst (.agg (xCells T 0 none 0 0).toArray)) w) : wpList Try.prog ops Q (o :: rest) a w := by
  refine wpList_plain hgd fun K hK => ?_
  unfold Oper.wp execOp
  simp only [ho, List.map_toArray, List.map_cons, List.map_nil, hx, Sem.run_bind, build_x, Result.andThen_ok, Sem.run_pure]
  exact hK _ _ h
theorem res37 (tmps : Array Value) (p q : Addr) (x y : Int) (W : World) (h2 : tmps.getD 2 undef = .pointer (some p)) (h3 : tmps.getD 3 undef = .pointer (some q)) (c1 : W.cell? p = some (.int .i64 x)) (c2 : W.cell? q = some (.int .i64 y)) :
    (results Try.f37 tmps).run Try.prog W = .ok (.tuple #[.int .i64 x, .int .i64 y]) W := by
  simp only [Array.getD_eq_getD_getElem?] at h2 h3
  simp [results, Try.results37, go_sem, h2, h3, c1, c2]
def atOf : Option Nat → Int
  | none => 0
  | some n => n
def erOf : Option Nat → Int
  | none => 0
  | some _ => 160
set_option maxRecDepth 100000 in
set_option maxHeartbeats 1600000 in
theorem check_any (T : TV) (w : World) (hT : T.ok w) (hI : outS T.t = true → TakeOk T.t) (hI2 : ∀ o ∈ T.t.ops, ∀ s ∈ o.args, I64 s.n) (hI3 : ∀ s ∈ T.t.back, s.n ≤ 9223372036854775807) :
    Calls Try.prog 37 #[.agg T.cells.toArray] w fun e w' => ∃ r, CheckR T.t r ∧ e = .returned (.tuple #[.int .i64 (atOf r), .int .i64 (erOf r)]) ∧ Below w.heap.size w w' := by
  have hmf : ∀ (fn : Fn) (first cap : Array Value) (w : World), (Instr.makeFunc fn first cap).run Try.prog w = .ok (.func fn first cap) w := fun _ _ _ _ => rfl
  obtain ⟨cs, hcs⟩ : ∃ cs, T.cells.toArray = cs := ⟨_, rfl⟩
  obtain ⟨xs, hxs⟩ : ∃ xs, (xCells T 0 none 0 0).toArray = xs := ⟨_, rfl⟩
  rw [hcs]
  have hAt : At (((w.alloc (.cells cs 33)).alloc (.cells #[.int .i64 0] 3)).alloc (.cells #[.int .i64 0] 37)) w.heap.size 0 T.cells := by
    rw [← hcs]
    exact (((At.of_obj (heap_alloc_last w _)).below (below_alloc (Below.refl _ _) _)).below (below_alloc (Below.refl _ _) _))
  go_enter_defers Try.func37, Try.ntmps37
  go_wp2_with (first | (refine wpList_load_at rfl 33 _ rfl w.heap.size rfl T.cells _ hAt Try.underlying33 rfl info33 ?_; rw [hcs]) | (refine wpList_build_x rfl _ rfl T (by rw [hcs]; rfl) ?_; rw [hxs]))
  obtain ⟨W4, hW4⟩ : ∃ W4, (((w.alloc (.cells cs 33)).alloc (.cells #[.int .i64 0] 3)).alloc (.cells #[.int .i64 0] 37)).alloc (.cells xs 129) = W4 := ⟨_, rfl⟩
  have hB4 : Below w.heap.size w W4 := by rw [← hW4]; exact below_alloc (below_alloc (below_alloc (below_alloc (Below.refl _ _) _) _) _) _
  have hX4 : XAt W4 (w.heap.size + 1 + 1 + 1) T 0 none 0 0 := by
    rw [← hW4]
    unfold XAt
    rw [hxs]
    have := heap_alloc_last (((w.alloc (.cells cs 33)).alloc (.cells #[.int .i64 0] 3)).alloc (.cells #[.int .i64 0] 37)) (.cells xs 129)
    simpa using this
  have hp4 : W4.heap[w.heap.size + 1]? = some (.cells #[.int .i64 0] 3 (0, 0)) := by
    rw [← hW4, Below.heap_alloc _ _ _ (by simp), Below.heap_alloc _ _ _ (by simp)]
    have := heap_alloc_last (w.alloc (.cells cs 33)) (.cells #[.int .i64 0] 3)
    simpa using this
  have hq4 : W4.heap[w.heap.size + 1 + 1]? = some (.cells #[.int .i64 0] 37 (0, 0)) := by
    rw [← hW4, Below.heap_alloc _ _ _ (by simp)]
    have := heap_alloc_last ((w.alloc (.cells cs 33)).alloc (.cells #[.int .i64 0] 3)) (.cells #[.int .i64 0] 37)
    simpa using this
  rw [hW4]
  clear hW4 hAt
  refine (all_any T (w.heap.size + 1 + 1 + 1) w W4 hT (by omega) hB4 hX4 hI hI2 hI3).mono ?_
  rintro e W5 ⟨r, hr, rfl, hB5⟩
  have hp5 := (hB5.block (w.heap.size + 1) (by omega)).trans hp4
  have hq5 := (hB5.block (w.heap.size + 1 + 1) (by omega)).trans hq4
  have p5 : W5.cell? ⟨w.heap.size + 1, 0, none⟩ = some (.int .i64 0) := by rw [cell_of_row _ _ 0 _ _ _ hp5]; rfl
  have q5 : W5.cell? ⟨w.heap.size + 1 + 1, 0, none⟩ = some (.int .i64 0) := by rw [cell_of_row _ _ 0 _ _ _ hq5]; rfl
  have zp : W5.frozen? ⟨w.heap.size + 1, 0, none⟩ = false := by simp [World.frozen?, hp5]
  have zq : W5.frozen? ⟨w.heap.size + 1 + 1, 0, none⟩ = false := by simp [World.frozen?, hq5]
  have HB := Lib.hid (hB4.trans (hB5.mono (by omega)))
  have HR := Lib.hid hr
  clear hr hB4 hX4 hp4 hq4 hB5 hp5 hq5
  cases r with
  | none =>
    have z6 : (W5.setCell ⟨w.heap.size + 1, 0, none⟩ (.int .i64 0)).frozen? ⟨w.heap.size + 1 + 1, 0, none⟩ = false := by rw [World.frozen?_setCell]; exact zq
    have q6 : (W5.setCell ⟨w.heap.size + 1, 0, none⟩ (.int .i64 0)).cell? ⟨w.heap.size + 1 + 1, 0, none⟩ = some (.int .i64 0) := by rw [cell_setCell_far (by omega)]; exact q5
    simp only [thrown]
    go_wp2_with fail
    refine leaves_cons (f := 71) (args := #[.pointer (some ⟨w.heap.size + 1, 0, none⟩), .pointer (some ⟨w.heap.size + 1 + 1, 0, none⟩)]) (by simp) (by simp [go_sem]) ?_
    refine (catch_idle _ _ _).mono ?_
    rintro e u' w'' ⟨rfl, rfl, rfl⟩
    have c1 : ((W5.setCell ⟨w.heap.size + 1, 0, none⟩ (.int .i64 0)).setCell ⟨w.heap.size + 1 + 1, 0, none⟩ (.int .i64 0)).cell? ⟨w.heap.size + 1, 0, none⟩ = some (.int .i64 0) := by
      rw [cell_setCell_far (by omega), World.cell?_setCell_same _ _ _ p5]
    have c2 := World.cell?_setCell_same (W5.setCell ⟨w.heap.size + 1, 0, none⟩ (.int .i64 0)) ⟨w.heap.size + 1 + 1, 0, none⟩ (.int .i64 0) q6
    refine ⟨_, res37 _ _ _ _ _ _ rfl rfl c1 c2, none, HR.out, rfl, ?_⟩
    exact Below.setCell (Below.setCell HB.out (p := ⟨w.heap.size + 1, 0, none⟩) (by simp) _) (p := ⟨w.heap.size + 1 + 1, 0, none⟩) (by simp; omega) _
  | some n =>
    simp only [thrown]
    refine leaves_cons (f := 71) (args := #[.pointer (some ⟨w.heap.size + 1, 0, none⟩), .pointer (some ⟨w.heap.size + 1 + 1, 0, none⟩)]) (by simp) (by simp [go_sem]) ?_
    refine (catch_panicking (w.heap.size + 1) (w.heap.size + 1 + 1) n 0 0 W5 p5 zp q5 zq (by omega)).mono ?_
    rintro e u' w'' ⟨rfl, rfl, rfl⟩
    have p6 := cell_alloc p5 (.cells #[.int .i64 n] 125)
    have q6 := cell_alloc q5 (.cells #[.int .i64 n] 125)
    obtain ⟨W6, hW6⟩ : ∃ W6, W5.alloc (.cells #[.int .i64 n] 125) = W6 := ⟨_, rfl⟩
    have hB6 : Below w.heap.size w W6 := by rw [← hW6]; exact below_alloc HB.out _
    rw [hW6] at p6 q6 ⊢
    have q7 : (W6.setCell ⟨w.heap.size + 1, 0, none⟩ (.int .i64 n)).cell? ⟨w.heap.size + 1 + 1, 0, none⟩ = some (.int .i64 0) := by rw [cell_setCell_far (by omega)]; exact q6
    have c1 : ((W6.setCell ⟨w.heap.size + 1, 0, none⟩ (.int .i64 n)).setCell ⟨w.heap.size + 1 + 1, 0, none⟩ (.int .i64 160)).cell? ⟨w.heap.size + 1, 0, none⟩ = some (.int .i64 n) := by
      rw [cell_setCell_far (by omega), World.cell?_setCell_same _ _ _ p6]
    have c2 := World.cell?_setCell_same (W6.setCell ⟨w.heap.size + 1, 0, none⟩ (.int .i64 n)) ⟨w.heap.size + 1 + 1, 0, none⟩ (.int .i64 160) q7
    refine (show Leaves _ _ _ _ [] .returning _ from ?_)
    refine ⟨_, res37 _ _ _ _ _ _ rfl rfl c1 c2, some n, HR.out, rfl, ?_⟩
    exact Below.setCell (Below.setCell hB6 (p := ⟨w.heap.size + 1, 0, none⟩) (by simp) _) (p := ⟨w.heap.size + 1 + 1, 0, none⟩) (by simp; omega) _
end Go.Proofs.Ytjcfppbahalgbaa
