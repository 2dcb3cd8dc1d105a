/- What Check tells is one thing; the example trace is as it should be. -/
import Derived.Test.YtjcfppbahalgbaaM
namespace Go.Proofs.Ytjcfppbahalgbaa
set_option linter.unusedSimpArgs false
set_option linter.unusedVariables false
theorem CheckR.fn {t : Trc} {r1 r2 : Option Nat} (h1 : CheckR t r1) (h2 : CheckR t r2) : r1 = r2 := by
  cases h1 with
  | out a1 =>
    cases h2 with
    | out _ => rfl
    | op k b _ _ _ => exact absurd b (by simp [a1])
    | back b _ _ => exact absurd b (by simp [a1])
    | ok b _ _ => exact absurd b (by simp [a1])
  | op k a1 a2 a3 a4 =>
    cases h2 with
    | out b => exact absurd b (by simp [a1])
    | op k2 b1 b2 b3 b4 =>
      rcases Nat.lt_trichotomy k k2 with h | h | h
      · exact absurd (b3 k h) a4
      · rw [h]
      · exact absurd (a3 k2 h) b4
    | back _ b _ => exact absurd (b k a2) a4
    | ok _ b _ => exact absurd (b k a2) a4
  | back a1 a2 a3 =>
    cases h2 with
    | out b => rfl
    | op k2 b1 b2 b3 b4 => exact absurd (a2 k2 b2) b4
    | back _ b _ => rfl
    | ok _ _ b => exact absurd b (by simp [a3])
  | ok a1 a2 a3 =>
    cases h2 with
    | out b => exact absurd b (by simp [a1])
    | op k2 b1 b2 b3 b4 => exact absurd (a2 k2 b2) b4
    | back _ _ b => exact absurd b (by simp [a3])
    | ok _ _ b => rfl
theorem takeOk_of {t : Trc} (h : outS t = true) (h1 : ∀ k ∈ t.links, ∀ s ∈ k.regs, I64 s.n) (h2 : ∀ v ∈ t.virts, ∀ s ∈ v.cells, I64 s.n) : TakeOk t := by
  unfold outS at h
  simp only [Bool.and_eq_true] at h
  obtain ⟨⟨⟨⟨-, -⟩, hl⟩, hv⟩, -⟩ := h
  refine ⟨fun i k hk => ?_, fun k hk s hs => ⟨?_, h1 k hk s hs⟩, fun v hvm s hs => ⟨?_, h2 v hvm s hs⟩⟩
  · have := allI_at hl hk
    unfold linkP at this
    simp only [Bool.and_eq_true, decide_eq_true_eq] at this
    exact this.1
  · obtain ⟨j, hj⟩ := List.getElem?_of_mem hk
    have := allI_at hl hj
    unfold linkP allS at this
    simp only [Bool.and_eq_true, List.all_eq_true] at this
    exact this.2.2 s hs
  · have := List.all_eq_true.1 hv v hvm
    unfold virtP allS at this
    simp only [Bool.and_eq_true, List.all_eq_true] at this
    exact this.2.2 s hs
theorem loop_out (n : Int) (h0 : 0 ≤ n) : outS (loopT n) = true := by
  have hp : plainS 0 ⟨1, 0, 0, n⟩ = true := by simp [plainS, noneV, h0]
  unfold outS
  simp [loopT, headS, allI, insP, linkP, backP, hp, allS, vS]
theorem loop_take (n : Int) (h : outS (loopT n) = true) : TakeOk (loopT n) := takeOk_of h (by simp [loopT]) (by simp [loopT])
theorem row4 : rowOf 4 = rowL.getD 4 noRow := by unfold rowOf; rfl
theorem row26 : rowOf 26 = rowL.getD 26 noRow := by unfold rowOf; rfl
theorem loop_mk (n : Int) : mkOf (loopT n) = [false, true] := by
  simp only [mkOf, loopT, List.map_cons, List.map_nil, row4, row26]
  rfl
theorem loop_taken (n : Int) : TakenBy (loopT n) 0 [] :=
  ⟨[0], .cons (k := ⟨-1, 0, 0, 0, []⟩) (by omega) rfl (.nil (by decide)), .nil _⟩
theorem loop_op (n : Int) (j : Nat) (hj : j < 2) : OpAt (loopT n) j := by
  intro o ho
  rw [loop_mk]
  have h01 : j = 0 ∨ j = 1 := by omega
  rcases h01 with rfl | rfl
  · cases ho
    refine ⟨?_, [], loop_taken n, rfl⟩
    unfold opHead
    simp only [row26]
    rfl
  · cases ho
    refine ⟨?_, [], loop_taken n, rfl⟩
    unfold opHead
    simp only [row4]
    rfl
theorem loop_check2 : CheckR (loopT 2) none := .ok (loop_out 2 (by omega)) (fun j hj => loop_op 2 j hj) (by unfold backM; rw [loop_mk]; rfl)
theorem loop_check3 : CheckR (loopT 3) (some 2) := .back (loop_out 3 (by omega)) (fun j hj => loop_op 3 j hj) (by unfold backM; rw [loop_mk]; rfl)
theorem loop_uses {l : List Int} (h : UsesR (loopT 2) 1 l) : l = [0] := by
  cases h with
  | bad n hn => have := CheckR.fn hn loop_check2; cases this
  | low h => omega
  | high h => simp [loopT] at h
  | back _ h => simp [loopT] at h
  | op k o xs _ hk ho hx =>
    obtain rfl : k = 1 := by omega
    cases ho
    rw [takenBy_fun hx (loop_taken 2)]
    show norm [0] = [0]
    unfold norm
    rw [List.mergeSort_singleton]
    rfl
end Go.Proofs.Ytjcfppbahalgbaa
