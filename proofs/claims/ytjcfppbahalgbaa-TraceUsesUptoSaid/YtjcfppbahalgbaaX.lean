/- swathref16.row and what is read of it; swathlaw16.TraceKinds. -/
import Derived.Test.YtjcfppbahalgbaaS
namespace Go.Proofs.Ytjcfppbahalgbaa
set_option linter.unusedSimpArgs false
set_option linter.unusedVariables false
open Go.RowKit
def kinds : List Nat := [4, 5, 6, 7, 8, 9, 10, 11, 12, 13, 14, 15, 16, 17, 19, 20, 26, 30, 31, 32, 33, 34, 35]
theorem rowL_is : ∀ n : Fin 36, (rowL.getD n.val noRow).is = true → n.val ∈ kinds := by decide
theorem row_at (n : Nat) (hn : n < 36) (his : (rowL.getD n noRow).is = true) : rowOf (n : Int) = rowL.getD n noRow := by
  unfold rowOf
  rw [if_pos ⟨by omega, by omega⟩, Int.toNat_natCast, if_pos his]
theorem row_no (op : Int) (h : ∀ n ∈ kinds, op ≠ (n : Int)) : rowOf op = noRow := by
  unfold rowOf
  by_cases hr : 0 ≤ op ∧ op < 36
  · rw [if_pos hr]
    cases his : (rowL.getD op.toNat noRow).is with
    | false => rfl
    | true => exact absurd (by omega) (h op.toNat (rowL_is ⟨op.toNat, by omega⟩ his))
  · rw [if_neg hr]
abbrev rowE (r : Row) : Ending := .returned (.tuple #[.string r.name, .int .i64 r.args, .bool r.k, .bool r.c, .bool r.makes, .bool r.may])
set_option maxRecDepth 100000 in
set_option maxHeartbeats 3200000 in
theorem refrow_any (op : Int) (w : World) : Calls Try.prog 64 #[.int .i64 op] w fun e w' => e = rowE (rowOf op) ∧ w' = w := by
  by_cases h4 : op = 4
  · subst h4
    rw [show rowOf 4 = _ from row_at 4 (by decide) rfl]
    go_enter Try.func64, Try.ntmps64
    go_wp2_with fail
    refine bodyPost_ret (by simp [results, Try.results64]; exact ⟨rfl, rfl, rfl, rfl, rfl, rfl⟩) rfl ⟨rfl, rfl⟩
  by_cases h5 : op = 5
  · subst h5
    rw [show rowOf 5 = _ from row_at 5 (by decide) rfl]
    go_enter Try.func64, Try.ntmps64
    go_wp2_with fail
    refine bodyPost_ret (by simp [results, Try.results64]; exact ⟨rfl, rfl, rfl, rfl, rfl, rfl⟩) rfl ⟨rfl, rfl⟩
  by_cases h6 : op = 6
  · subst h6
    rw [show rowOf 6 = _ from row_at 6 (by decide) rfl]
    go_enter Try.func64, Try.ntmps64
    go_wp2_with fail
    refine bodyPost_ret (by simp [results, Try.results64]; exact ⟨rfl, rfl, rfl, rfl, rfl, rfl⟩) rfl ⟨rfl, rfl⟩
  by_cases h7 : op = 7
  · subst h7
    rw [show rowOf 7 = _ from row_at 7 (by decide) rfl]
    go_enter Try.func64, Try.ntmps64
    go_wp2_with fail
    refine bodyPost_ret (by simp [results, Try.results64]; exact ⟨rfl, rfl, rfl, rfl, rfl, rfl⟩) rfl ⟨rfl, rfl⟩
  by_cases h8 : op = 8
  · subst h8
    rw [show rowOf 8 = _ from row_at 8 (by decide) rfl]
    go_enter Try.func64, Try.ntmps64
    go_wp2_with fail
    refine bodyPost_ret (by simp [results, Try.results64]; exact ⟨rfl, rfl, rfl, rfl, rfl, rfl⟩) rfl ⟨rfl, rfl⟩
  by_cases h9 : op = 9
  · subst h9
    rw [show rowOf 9 = _ from row_at 9 (by decide) rfl]
    go_enter Try.func64, Try.ntmps64
    go_wp2_with fail
    refine bodyPost_ret (by simp [results, Try.results64]; exact ⟨rfl, rfl, rfl, rfl, rfl, rfl⟩) rfl ⟨rfl, rfl⟩
  by_cases h10 : op = 10
  · subst h10
    rw [show rowOf 10 = _ from row_at 10 (by decide) rfl]
    go_enter Try.func64, Try.ntmps64
    go_wp2_with fail
    refine bodyPost_ret (by simp [results, Try.results64]; exact ⟨rfl, rfl, rfl, rfl, rfl, rfl⟩) rfl ⟨rfl, rfl⟩
  by_cases h11 : op = 11
  · subst h11
    rw [show rowOf 11 = _ from row_at 11 (by decide) rfl]
    go_enter Try.func64, Try.ntmps64
    go_wp2_with fail
    refine bodyPost_ret (by simp [results, Try.results64]; exact ⟨rfl, rfl, rfl, rfl, rfl, rfl⟩) rfl ⟨rfl, rfl⟩
  by_cases h12 : op = 12
  · subst h12
    rw [show rowOf 12 = _ from row_at 12 (by decide) rfl]
    go_enter Try.func64, Try.ntmps64
    go_wp2_with fail
    refine bodyPost_ret (by simp [results, Try.results64]; exact ⟨rfl, rfl, rfl, rfl, rfl, rfl⟩) rfl ⟨rfl, rfl⟩
  by_cases h13 : op = 13
  · subst h13
    rw [show rowOf 13 = _ from row_at 13 (by decide) rfl]
    go_enter Try.func64, Try.ntmps64
    go_wp2_with fail
    refine bodyPost_ret (by simp [results, Try.results64]; exact ⟨rfl, rfl, rfl, rfl, rfl, rfl⟩) rfl ⟨rfl, rfl⟩
  by_cases h14 : op = 14
  · subst h14
    rw [show rowOf 14 = _ from row_at 14 (by decide) rfl]
    go_enter Try.func64, Try.ntmps64
    go_wp2_with fail
    refine bodyPost_ret (by simp [results, Try.results64]; exact ⟨rfl, rfl, rfl, rfl, rfl, rfl⟩) rfl ⟨rfl, rfl⟩
  by_cases h15 : op = 15
  · subst h15
    rw [show rowOf 15 = _ from row_at 15 (by decide) rfl]
    go_enter Try.func64, Try.ntmps64
    go_wp2_with fail
    refine bodyPost_ret (by simp [results, Try.results64]; exact ⟨rfl, rfl, rfl, rfl, rfl, rfl⟩) rfl ⟨rfl, rfl⟩
  by_cases h16 : op = 16
  · subst h16
    rw [show rowOf 16 = _ from row_at 16 (by decide) rfl]
    go_enter Try.func64, Try.ntmps64
    go_wp2_with fail
    refine bodyPost_ret (by simp [results, Try.results64]; exact ⟨rfl, rfl, rfl, rfl, rfl, rfl⟩) rfl ⟨rfl, rfl⟩
  by_cases h17 : op = 17
  · subst h17
    rw [show rowOf 17 = _ from row_at 17 (by decide) rfl]
    go_enter Try.func64, Try.ntmps64
    go_wp2_with fail
    refine bodyPost_ret (by simp [results, Try.results64]; exact ⟨rfl, rfl, rfl, rfl, rfl, rfl⟩) rfl ⟨rfl, rfl⟩
  by_cases h19 : op = 19
  · subst h19
    rw [show rowOf 19 = _ from row_at 19 (by decide) rfl]
    go_enter Try.func64, Try.ntmps64
    go_wp2_with fail
    refine bodyPost_ret (by simp [results, Try.results64]; exact ⟨rfl, rfl, rfl, rfl, rfl, rfl⟩) rfl ⟨rfl, rfl⟩
  by_cases h20 : op = 20
  · subst h20
    rw [show rowOf 20 = _ from row_at 20 (by decide) rfl]
    go_enter Try.func64, Try.ntmps64
    go_wp2_with fail
    refine bodyPost_ret (by simp [results, Try.results64]; exact ⟨rfl, rfl, rfl, rfl, rfl, rfl⟩) rfl ⟨rfl, rfl⟩
  by_cases h26 : op = 26
  · subst h26
    rw [show rowOf 26 = _ from row_at 26 (by decide) rfl]
    go_enter Try.func64, Try.ntmps64
    go_wp2_with fail
    refine bodyPost_ret (by simp [results, Try.results64]; exact ⟨rfl, rfl, rfl, rfl, rfl, rfl⟩) rfl ⟨rfl, rfl⟩
  by_cases h30 : op = 30
  · subst h30
    rw [show rowOf 30 = _ from row_at 30 (by decide) rfl]
    go_enter Try.func64, Try.ntmps64
    go_wp2_with fail
    refine bodyPost_ret (by simp [results, Try.results64]; exact ⟨rfl, rfl, rfl, rfl, rfl, rfl⟩) rfl ⟨rfl, rfl⟩
  by_cases h31 : op = 31
  · subst h31
    rw [show rowOf 31 = _ from row_at 31 (by decide) rfl]
    go_enter Try.func64, Try.ntmps64
    go_wp2_with fail
    refine bodyPost_ret (by simp [results, Try.results64]; exact ⟨rfl, rfl, rfl, rfl, rfl, rfl⟩) rfl ⟨rfl, rfl⟩
  by_cases h32 : op = 32
  · subst h32
    rw [show rowOf 32 = _ from row_at 32 (by decide) rfl]
    go_enter Try.func64, Try.ntmps64
    go_wp2_with fail
    refine bodyPost_ret (by simp [results, Try.results64]; exact ⟨rfl, rfl, rfl, rfl, rfl, rfl⟩) rfl ⟨rfl, rfl⟩
  by_cases h33 : op = 33
  · subst h33
    rw [show rowOf 33 = _ from row_at 33 (by decide) rfl]
    go_enter Try.func64, Try.ntmps64
    go_wp2_with fail
    refine bodyPost_ret (by simp [results, Try.results64]; exact ⟨rfl, rfl, rfl, rfl, rfl, rfl⟩) rfl ⟨rfl, rfl⟩
  by_cases h34 : op = 34
  · subst h34
    rw [show rowOf 34 = _ from row_at 34 (by decide) rfl]
    go_enter Try.func64, Try.ntmps64
    go_wp2_with fail
    refine bodyPost_ret (by simp [results, Try.results64]; exact ⟨rfl, rfl, rfl, rfl, rfl, rfl⟩) rfl ⟨rfl, rfl⟩
  by_cases h35 : op = 35
  · subst h35
    rw [show rowOf 35 = _ from row_at 35 (by decide) rfl]
    go_enter Try.func64, Try.ntmps64
    go_wp2_with fail
    refine bodyPost_ret (by simp [results, Try.results64]; exact ⟨rfl, rfl, rfl, rfl, rfl, rfl⟩) rfl ⟨rfl, rfl⟩
  rw [row_no op (by simp [kinds, *])]
  go_enter Try.func64, Try.ntmps64
  go_wp2_with fail
  refine bodyPost_ret (by simp [results, Try.results64]; exact ⟨rfl, rfl, rfl, rfl, rfl, rfl⟩) rfl ⟨rfl, rfl⟩
theorem refmakes_any (op : Int) (w : World) : Calls Try.prog 29 #[.int .i64 op] w fun e w' => e = .returned (.bool (rowOf op).makes) ∧ w' = w := by
  go_enter Try.func29, Try.ntmps29
  go_wp2_with (go_at_call 64; refine (refrow_any _ _).mono ?_; rintro e w' ⟨rfl, rfl⟩)
  go_ret
  exact ⟨rfl, rfl⟩
theorem refmay_any (op : Int) (w : World) : Calls Try.prog 31 #[.int .i64 op] w fun e w' => e = .returned (.bool (rowOf op).may) ∧ w' = w := by
  go_enter Try.func31, Try.ntmps31
  go_wp2_with (go_at_call 64; refine (refrow_any _ _).mono ?_; rintro e w' ⟨rfl, rfl⟩)
  go_ret
  exact ⟨rfl, rfl⟩
theorem refargs_any (op : Int) (w : World) : Calls Try.prog 33 #[.int .i64 op] w fun e w' => e = .returned (.int .i64 (rowOf op).args) ∧ w' = w := by
  go_enter Try.func33, Try.ntmps33
  go_wp2_with (go_at_call 64; refine (refrow_any _ _).mono ?_; rintro e w' ⟨rfl, rfl⟩)
  go_ret
  exact ⟨rfl, rfl⟩
set_option maxRecDepth 100000 in
theorem kinds_any (op : Int) (w : World) : Calls Try.prog 8 #[.int .i64 op] w fun e w' => e = .returned (.bool true) ∧ Below w.heap.size w w' := by
  generalize hr : rowOf op = r
  have h1 := fun w => makes_any op w
  have h2 := fun w => may_any op w
  have h3 := fun w => args_any op w
  have h4 := fun w => refmakes_any op w
  have h5 := fun w => refmay_any op w
  have h6 := fun w => refargs_any op w
  rw [hr] at h1 h2 h3 h4 h5 h6
  have H := Lib.hid (And.intro h1 (And.intro h2 (And.intro h3 (And.intro h4 (And.intro h5 h6)))))
  clear h1 h2 h3 h4 h5 h6 hr
  go_enter Try.func8, Try.ntmps8
  go_wp2_with (first | (go_at_call 27; refine (awake_any _).mono ?_; rintro e w1 ⟨rfl, hB1⟩) | (go_at_call 28; refine (H.out.1 _).mono ?_; rintro e w2 ⟨rfl, hB2⟩) | (go_at_call 30; refine (H.out.2.1 _).mono ?_; rintro e w3 ⟨rfl, hB3⟩) | (go_at_call 32; refine (H.out.2.2.1 _).mono ?_; rintro e w4 ⟨rfl, hB4⟩) | (go_at_call 29; refine (H.out.2.2.2.1 _).mono ?_; rintro e w5 ⟨rfl, rfl⟩) | (go_at_call 31; refine (H.out.2.2.2.2.1 _).mono ?_; rintro e w6 ⟨rfl, rfl⟩) | (go_at_call 33; refine (H.out.2.2.2.2.2 _).mono ?_; rintro e w7 ⟨rfl, rfl⟩))
  go_ret
  exact ⟨rfl, below_then (below_then (below_then hB1 hB2) hB3) hB4⟩
end Go.Proofs.Ytjcfppbahalgbaa
