/- The small methods of trace's checker, each by its contract: must, plain, made, numbers. -/
import Derived.Test.YtjcfppbahalgbaaChecked
import Derived.Test.YtjcfppbahalgbaaK
import Derived.Test.YtjcfppbahalgbaaR
import Derived.Deep.DeepCutAuto
namespace Go.Proofs.Ytjcfppbahalgbaa
open Go.RowKit
/-- What 'must' comes to: nothing, or the panic that bears the operation's number. -/
def mustE (ok : Bool) (at_ : Int) : Ending := if ok then .returned (.tuple #[]) else .panicked [{ v := .iface 125 (.agg #[.int .i64 at_]), recovered := false }]
theorem must_true (p : Option Addr) (w : World) :
    Calls Try.prog 157 #[.pointer p, .bool true] w fun e w' => e = .returned (.tuple #[]) ∧ w = w' := by
  go_enter Try.func157, Try.ntmps157
  go_wp2
  go_end0
  exact ⟨rfl, rfl⟩
theorem must_false (b : Nat) (n : Int) (w : World) (h : w.cell? ⟨b, 17, none⟩ = some (.int .i64 n)) :
    Calls Try.prog 157 #[.pointer (some ⟨b, 0, none⟩), .bool false] w fun e w' => e = .panicked [{ v := .iface 125 (.agg #[.int .i64 n]), recovered := false }] ∧ w = w' := by
  go_enter Try.func157, Try.ntmps157
  go_wp2
  exact ⟨rfl, rfl, rfl⟩
theorem must_any (b : Nat) (n : Int) (ok : Bool) (w : World) (h : w.cell? ⟨b, 17, none⟩ = some (.int .i64 n)) :
    Calls Try.prog 157 #[.pointer (some ⟨b, 0, none⟩), .bool ok] w fun e w' => e = mustE ok n ∧ w = w' := by
  cases ok
  · exact must_false b n w h
  · exact must_true _ w
theorem calls_must {b : Nat} {n : Int} {ok : Bool} {w : World} {R : Ending → World → Prop} (h : w.cell? ⟨b, 17, none⟩ = some (.int .i64 n))
    (yes : ok = true → R (.returned (.tuple #[])) w) (no : ok = false → R (.panicked [{ v := .iface 125 (.agg #[.int .i64 n]), recovered := false }]) w) :
    Calls Try.prog 157 #[.pointer (some ⟨b, 0, none⟩), .bool ok] w R := by
  cases ok
  · exact (must_false b n w h).mono (by rintro e w' ⟨rfl, rfl⟩; exact no rfl)
  · exact (must_true _ w).mono (by rintro e w' ⟨rfl, rfl⟩; exact yes rfl)
theorem mustE_yes {x : Bool} {n : Int} (h : x = true) : Ending.returned (.tuple #[]) = mustE x n := by rw [h]; rfl
theorem mustE_no {x : Bool} {n : Int} (h : x = false) : Ending.panicked [{ v := .iface 125 (.agg #[.int .i64 n]), recovered := false }] = mustE x n := by rw [h]; rfl
def numSw (op : Int) (na : Nat) (kk c : Int) : Bool :=
  if op = 4 then decide (1 ≤ kk) && decide (kk ≤ 12)
  else if op = 5 then decide (13 ≤ kk) && decide (kk ≤ 15)
  else if op = 8 ∨ op = 9 ∨ op = 13 then decide (0 ≤ kk) && decide (kk ≤ 1000) && decide (0 ≤ c) && decide (c ≤ 1000)
  else if op = 35 then decide (0 ≤ kk) && decide (kk ≤ 1000) && decide (na ≤ 1000)
  else if op = 33 ∨ op = 34 then decide (0 ≤ kk) && decide (kk ≤ 1000000)
  else true
def numS (r : Row) (op : Int) (na : Nat) (kk c : Int) : Bool := (r.k || kk == 0) && (r.c || c == 0) && numSw op na kk c
set_option maxRecDepth 100000 in
set_option maxHeartbeats 1600000 in
theorem numbers_any (b : Nat) (n : Int) (r : Row) (A : Option Addr) (na ca : Nat) (op kk c snap : Int) (w : World) (h : w.cell? ⟨b, 17, none⟩ = some (.int .i64 n)) :
    Calls Try.prog 160 #[.pointer (some ⟨b, 0, none⟩), .agg #[.int .i64 op, .slice A na ca, .int .i64 kk, .int .i64 c, .int .i64 snap], .agg #[.string r.name, .int .i64 r.args, .bool r.k, .bool r.c, .bool r.makes, .bool r.may, .bool r.is]] w
      fun e w' => e = mustE (numS r op na kk c) n ∧ Below w.heap.size w w' := by
  go_enter Try.func160, Try.ntmps160
  go_upto_region 1 with fail
  go_cut [1, 2] (fun _ _ wx => Hid (((r.k || kk == 0) && (r.c || c == 0)) = true) ∧ wx = (w.alloc (.cells #[.int .i64 op, .slice A na ca, .int .i64 kk, .int .i64 c, .int .i64 snap] 41)).alloc
    (.cells #[.string r.name, .int .i64 r.args, .bool r.k, .bool r.c, .bool r.makes, .bool r.may, .bool r.is] 112))
  case first =>
    go_wp2_with fail
    all_goals refine calls_must (cell_alloc (cell_alloc h _) _) (fun hok => ?_) (fun hok => ?_)
    all_goals first | cases hok | skip
    all_goals go_wp2_with fail
    all_goals first
      | (go_meet; refine ⟨?_, ?_⟩; (show _ = true; simp [*]); simp [*])
      | (refine ⟨rfl, mustE_no ?_, below_alloc (below_alloc (Below.refl _ _) _) _⟩; unfold numS; simp [*])
  case rest =>
    obtain ⟨h1, rfl⟩ := hcut
    have h3 := cell_alloc (cell_alloc h (.cells #[.int .i64 op, .slice A na ca, .int .i64 kk, .int .i64 c, .int .i64 snap] 41)) (.cells #[.string r.name, .int .i64 r.args, .bool r.k, .bool r.c, .bool r.makes, .bool r.may, .bool r.is] 112)
    have H3 := Lib.hid h3
    clear h3 h
    go_wp2_with fail
    all_goals try refine calls_must H3.out (fun hok => ?_) (fun hok => ?_)
    all_goals first | cases hok | skip
    all_goals go_wp2_with fail
    all_goals first
      | refine bodyPost_end (results_none rfl _ _ _) rfl ⟨mustE_yes ?_, below_alloc (below_alloc (Below.refl _ _) _) _⟩
      | refine ⟨rfl, mustE_no ?_, below_alloc (below_alloc (Below.refl _ _) _) _⟩
    all_goals (unfold numS; rw [h1.out, Bool.true_and]; unfold numSw; clear h1 H3)
    all_goals simp only [beq_iff_eq, beq_eq_false_iff_ne, decide_eq_true_eq, decide_eq_false_iff_not] at *
    all_goals grind
end Go.Proofs.Ytjcfppbahalgbaa
