/- trace's checker: plain and made, by their contracts. -/
import Derived.Test.YtjcfppbahalgbaaA
namespace Go.Proofs.Ytjcfppbahalgbaa
open Go.RowKit
def noneV (vk vn : Int) : Bool := vk == 0 && vn == 0
def plainS (nv : Nat) (s : TSrc) : Bool :=
  if s.k = 0 then s.n == 0 else if s.k = 1 then decide (0 ≤ s.n) && noneV s.vk s.vn else if s.k = 2 then decide (0 ≤ s.n) && decide (s.n < nv) && noneV s.vk s.vn else false
theorem plain01 (b : Nat) (nv : Nat) (k vk vn n : Int) (w : World) (hk : k ≠ 2) :
    Calls Try.prog 159 #[.pointer (some ⟨b, 0, none⟩), .agg #[.int .i64 k, .int .i64 vk, .int .i64 vn, .int .i64 n]] w fun e w' => e = .returned (.bool (plainS nv ⟨k, vk, vn, n⟩)) ∧ Below w.heap.size w w' := by
  go_enter Try.func159, Try.ntmps159
  go_wp2
  all_goals
    go_ret
    refine ⟨ret_bool ?_, below_alloc (Below.refl _ _) _⟩
    simp only [beq_iff_eq, beq_eq_false_iff_ne] at *
    simp only [plainS, noneV]
    grind
theorem plain2 (b : Nat) (A : Option Addr) (nv cv : Nat) (k vk vn n : Int) (w : World) (h : w.cell? ⟨b, 15, none⟩ = some (.slice A nv cv)) (hk : k = 2) :
    Calls Try.prog 159 #[.pointer (some ⟨b, 0, none⟩), .agg #[.int .i64 k, .int .i64 vk, .int .i64 vn, .int .i64 n]] w fun e w' => e = .returned (.bool (plainS nv ⟨k, vk, vn, n⟩)) ∧ Below w.heap.size w w' := by
  subst hk
  have hc := cell_alloc h
  have hlt : ¬ b = w.heap.size := by have := lt_of_cell h; omega
  by_cases h1 : 0 ≤ n
  · by_cases h2 : n < nv
    · have hd : decide (n < (nv : Int)) = true := by simpa using h2
      have hd1 : decide (0 ≤ n) = true := by simpa using h1
      go_enter Try.func159, Try.ntmps159
      go_wp2
      all_goals
        go_quiet (fail)
        go_wp2
      all_goals
        go_ret
        refine ⟨ret_bool ?_, below_drewN (below_alloc (Below.refl _ _) _) _⟩
        simp [plainS, noneV, *]
    · have hd : decide (n < (nv : Int)) = false := by simpa using h2
      have hd1 : decide (0 ≤ n) = true := by simpa using h1
      go_enter Try.func159, Try.ntmps159
      go_wp2
      all_goals
        go_quiet (fail)
        go_wp2
      all_goals
        go_ret
        refine ⟨ret_bool ?_, below_drewN (below_alloc (Below.refl _ _) _) _⟩
        simp [plainS, noneV, *]
  · have hd1 : decide (0 ≤ n) = false := by simpa using h1
    go_enter Try.func159, Try.ntmps159
    go_wp2
    all_goals
      go_quiet (fail)
      go_wp2
    all_goals
      go_ret
      refine ⟨ret_bool ?_, below_drewN (below_alloc (Below.refl _ _) _) _⟩
      simp [plainS, noneV, *]
theorem plain_any (b : Nat) (A : Option Addr) (nv cv : Nat) (k vk vn n : Int) (w : World) (h : w.cell? ⟨b, 15, none⟩ = some (.slice A nv cv)) :
    Calls Try.prog 159 #[.pointer (some ⟨b, 0, none⟩), .agg #[.int .i64 k, .int .i64 vk, .int .i64 vn, .int .i64 n]] w fun e w' => e = .returned (.bool (plainS nv ⟨k, vk, vn, n⟩)) ∧ Below w.heap.size w w' := by
  by_cases hk : k = 2
  · exact plain2 b A nv cv k vk vn n w h hk
  · exact plain01 b nv k vk vn n w hk
/-- Whether a source is a constant, or a variable that is there ahead of an operation. mk: what the operations make a value. -/
def madeS (nv ni : Nat) (mk : List Bool) (s : TSrc) (at_ : Int) : Bool :=
  plainS nv s && s.k != 2 && (if s.k = 1 then decide (s.n - ni < at_) && (decide (s.n - ni < 0) || mk.getD (s.n - ni).toNat false) else true)

theorem cell_box {w w' : World} {cs : Array Value} {t : TypeId} (hB : Below (w.alloc (.cells cs t)).heap.size (w.alloc (.cells cs t)) w') (j : Nat) {v : Value} (hv : cs[j]? = some v) : w'.cell? ⟨w.heap.size, j, none⟩ = some v := by
  rw [hB.cell (p := ⟨w.heap.size, j, none⟩) (by simp)]
  rw [cell_of_row _ _ j cs t (0, 0) (heap_alloc_last w _)]
  exact hv
theorem below_box {w w' : World} {o : Obj} (hB : Below (w.alloc o).heap.size (w.alloc o) w') : Below w.heap.size w w' := below_then (below_alloc (Below.refl _ _) o) hB
set_option maxHeartbeats 1600000 in
theorem made_any (b : Nat) (Ai Av Am : Option Addr) (ni ci nv cv cm : Nat) (n : Int) (mk : List Bool) (s : TSrc) (at_ : Int) (w : World)
    (h12 : w.cell? ⟨b, 12, none⟩ = some (.slice Ai ni ci)) (h15 : w.cell? ⟨b, 15, none⟩ = some (.slice Av nv cv)) (h17 : w.cell? ⟨b, 17, none⟩ = some (.int .i64 n))
    (h18 : w.cell? ⟨b, 18, none⟩ = some (.slice Am mk.length cm)) (hm : RowAt BoolR 1 w Am mk) (hat : at_ ≤ mk.length) (hni : ni ≤ 1048576) (hml : mk.length ≤ 1048576) (hn : s.n ≤ 9223372036854775807) :
    Calls Try.prog 121 #[.pointer (some ⟨b, 0, none⟩), .agg #[.int .i64 s.k, .int .i64 s.vk, .int .i64 s.vn, .int .i64 s.n], .int .i64 at_] w
      fun e w' => e = mustE (madeS nv ni mk s at_) n ∧ Below w.heap.size w w' := by
  have hpl := plain_any b Av nv cv s.k s.vk s.vn s.n _ (cell_alloc h15 (.cells #[.int .i64 s.k, .int .i64 s.vk, .int .i64 s.vn, .int .i64 s.n] 63))
  have hbs := lt_of_cell h12
  go_enter Try.func121, Try.ntmps121
  go_wp2_with fail
  cases hp : plainS nv s with
  | false =>
    rw [show plainS nv ⟨s.k, s.vk, s.vn, s.n⟩ = false from hp] at hpl
    refine hpl.mono ?_
    clear hpl
    rintro e w' ⟨rfl, hB⟩
    have g17 : w'.cell? ⟨b, 17, none⟩ = some (.int .i64 n) := cell_later (below_box hB) h17
    have HB := Lib.hid (below_box hB)
    clear hB
    go_wp2_with (go_at_call 157; refine calls_must g17 (fun hok => ?_) (fun hok => ?_); cases hok)
    refine ⟨rfl, mustE_no ?_, HB.out⟩
    simp [madeS, hp]
  | true =>
    rw [show plainS nv ⟨s.k, s.vk, s.vn, s.n⟩ = true from hp] at hpl
    refine hpl.mono ?_
    clear hpl
    rintro e w' ⟨rfl, hB⟩
    have HP := Lib.hid hp
    clear hp
    have g17 : w'.cell? ⟨b, 17, none⟩ = some (.int .i64 n) := cell_later (below_box hB) h17
    have g12 : w'.cell? ⟨b, 12, none⟩ = some (.slice Ai ni ci) := cell_later (below_box hB) h12
    have g18 : w'.cell? ⟨b, 18, none⟩ = some (.slice Am mk.length cm) := cell_later (below_box hB) h18
    have gm := RowAt.below hm (below_box hB) (fun _ _ h => h)
    have c0 := cell_box hB 0 (v := .int .i64 s.k) rfl
    have c3 := cell_box hB 3 (v := .int .i64 s.n) rfl
    have HB := Lib.hid (below_box hB)
    clear hB h12 h15 h17 h18 hm
    by_cases hk2 : s.k = 2
    · rw [hk2] at c0
      have Hk := Lib.hid hk2
      clear hk2
      go_wp2_with (go_at_call 157; refine calls_must g17 (fun hok => ?_) (fun hok => ?_); cases hok)
      refine ⟨rfl, mustE_no ?_, HB.out⟩
      simp [madeS, Hk.out]
    · by_cases hk1 : s.k = 1
      · have h0 : 0 ≤ s.n := by
          have := HP.out
          simp only [plainS, hk1, noneV] at this
          simp at this
          exact this.1
        rw [hk1] at c0
        have Hk := Lib.hid hk1
        clear hk1 hk2
        go_wp2_with (go_at_call 157; refine calls_must g17 (fun hok => ?_) (fun hok => ?_); rotate_left; cases hok)
        clear hok
        have hsub : IntKind.i64.wrap (s.n - (ni : Int)) = s.n - ni := IntWalk.i64_in _ (by omega)
        by_cases hlt : s.n - (ni : Int) < at_
        · by_cases hneg : s.n - (ni : Int) < 0
          · go_quiet (fail)
            clear hsub
            go_wp2_with (go_at_call 157; refine calls_must (by simpa using g17) (fun hok => ?_) (fun hok => ?_); rotate_left; cases hok)
            refine bodyPost_end (results_none rfl _ _ _) rfl ⟨mustE_yes ?_, below_drewN HB.out _⟩
            simp [madeS, HP.out, Hk.out, hlt, hneg]
          · obtain ⟨j, hj⟩ : ∃ j : Nat, s.n - (ni : Int) = j := ⟨(s.n - ni).toNat, by omega⟩
            have hjl : j < mk.length := by omega
            obtain ⟨bm, om, rfl, hbm, hcell⟩ := bool_get gm (List.getElem?_eq_getElem hjl)
            have hlt' : (j : Int) < at_ := by omega
            have hmd : madeS nv ni mk s at_ = mk[j] := by
              have hj0 : ¬ (j : Int) < 0 := by omega
              simp [madeS, HP.out, Hk.out, hlt', hj0, hj, List.getD_eq_getElem?_getD, List.getElem?_eq_getElem hjl]
            have Hmd := Lib.hid hmd
            clear hmd
            generalize mk[j] = mj at *
            go_quiet (fail)
            clear hsub
            have hnl : (mk.length : Int) ≤ 9223372036854775807 := by omega
            have Hj := Lib.hid hj
            clear hj hlt hneg
            go_wp2_with (go_at_call 157; refine calls_must (by simpa using g17) (fun hok => ?_) (fun hok => ?_))
            · refine bodyPost_end (results_none rfl _ _ _) rfl ⟨mustE_yes ?_, below_drewN HB.out _⟩
              rw [Hmd.out]; exact hok
            · refine ⟨rfl, mustE_no ?_, below_drewN HB.out _⟩
              rw [Hmd.out]; exact hok
        · have hmd : madeS nv ni mk s at_ = false := by simp [madeS, HP.out, Hk.out, hlt]
          have Hmd := Lib.hid hmd
          clear hmd
          go_quiet (fail)
          clear hsub
          go_wp2_with (go_at_call 157; refine calls_must (by simpa using g17) (fun hok => ?_) (fun hok => ?_))
          · cases hok
          · exact ⟨rfl, mustE_no Hmd.out, below_drewN HB.out _⟩
      · have hk2' : (s.k != 2) = true := by simpa using hk2
        have hk1' : (s.k == 1) = false := by simpa using hk1
        go_wp2_with (go_at_call 157; refine calls_must g17 (fun hok => ?_) (fun hok => ?_); rotate_left; cases hok)
        refine bodyPost_end (results_none rfl _ _ _) rfl ⟨mustE_yes ?_, HB.out⟩
        simp [madeS, HP.out, hk1, hk2]
end Go.Proofs.Ytjcfppbahalgbaa
