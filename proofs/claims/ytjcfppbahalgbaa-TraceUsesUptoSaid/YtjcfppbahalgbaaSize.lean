/- swathref16.Size and swathlaw16.few: that they return. -/
import Derived.Test.YtjcfppbahalgbaaX
namespace Go.Proofs.Ytjcfppbahalgbaa
open Go.RowKit
set_option linter.unusedSimpArgs false
set_option linter.unusedVariables false
set_option maxRecDepth 100000 in
set_option maxHeartbeats 1600000 in
theorem size_any (T : TV) (w : World) (hT : T.ok w) : Calls Try.prog 13 #[.agg T.cells.toArray] w fun e w' => (∃ n, e = .returned (.int .i64 n)) ∧ Below w.heap.size w w' := by
  obtain ⟨W1, hW1⟩ : ∃ W1, w.alloc (.cells T.cells.toArray 33) = W1 := ⟨_, rfl⟩
  have hB1 : Below w.heap.size w W1 := by rw [← hW1]; exact below_alloc (Below.refl _ _) _
  have hat : At W1 w.heap.size 0 T.cells := by rw [← hW1]; exact At.of_obj (heap_alloc_last w _)
  have x12 := hat 12 _ rfl
  have x13 := hat 13 _ rfl
  have x14 := hat 14 _ rfl
  have x15 := hat 15 _ rfl
  have x16 := hat 16 _ rfl
  rw [Nat.zero_add] at x12 x13 x14 x15 x16
  have hol : (T.t.ops.length : Int) ≤ 1048576 := by have := hT.o.2.2.1; omega
  have hll : (T.t.links.length : Int) ≤ 1048576 := by have := hT.l.2.2.1; omega
  have hvl : (T.t.virts.length : Int) ≤ 1048576 := by have := hT.v.2.2.1; omega
  obtain ⟨cs, hcs⟩ : ∃ cs, T.cells.toArray = cs := ⟨_, rfl⟩
  rw [hcs] at hW1 ⊢
  have HT := Lib.hid hT
  clear hcs hat hT
  go_enter Try.func13, Try.ntmps13
  go_wp2_with fail
  go_loopw [32, 3] (fun s32 s3 wr => ∃ (k : Nat) (n : Int), s32 = .int .i64 k ∧ s3 = .int .i64 n ∧ k ≤ T.t.ops.length ∧ Below W1.heap.size W1 wr)
    (fun s32 _ _ => T.t.ops.length - (intOf s32).toNat)
  case atStart => exact ⟨0, _, rfl, rfl, Nat.zero_le _, Below.refl _ _⟩
  case round =>
    obtain ⟨k, n, rfl, rfl, hk, hB⟩ := hrel
    by_cases hlt : k < T.t.ops.length
    · obtain ⟨o, ho⟩ : ∃ o, T.t.ops[k]? = some o := ⟨_, List.getElem?_eq_getElem hlt⟩
      obtain ⟨b, oo, Aa, ca, hA, hb, e0, e1, e2, e3, e4, hargs⟩ := op_get (HT.out.below (below_then hB1 hB)).o.2.2.2 ho
      rw [hA] at x13 ⊢
      have HA := Lib.hid hA
      have HB := Lib.hid hB
      have HO := Lib.hid ho
      clear hargs hA hB ho
      go_wp2_with fail
      go_roundw
      case rel => exact ⟨k + 1, _, by go_num, rfl, by omega, below_alloc HB.out _⟩
      case measure => simp [intOf]; omega
    · have hkl : k = T.t.ops.length := by omega
      subst hkl
      have y14 := cell_later hB x14
      have HB := Lib.hid hB
      clear hB
      go_wp2_with fail
      go_loopw [45, 3] (fun s45 s3 w2 => ∃ (k : Nat) (n : Int), s45 = .int .i64 k ∧ s3 = .int .i64 n ∧ k ≤ T.t.links.length ∧ Below W1.heap.size W1 w2)
        (fun s45 _ _ => T.t.links.length - (intOf s45).toNat)
      case atStart => exact ⟨0, _, rfl, rfl, Nat.zero_le _, HB.out⟩
      case round =>
        clear hlt hk HB y14
        obtain ⟨k, n, rfl, rfl, hk, hB⟩ := hrel
        by_cases hlt : k < T.t.links.length
        · obtain ⟨o, ho⟩ : ∃ o, T.t.links[k]? = some o := ⟨_, List.getElem?_eq_getElem hlt⟩
          obtain ⟨b, oo, Aa, ca, hA, hb, e0, e1, e2, e3, e4, hargs⟩ := lnk_get (HT.out.below (below_then hB1 hB)).l.2.2.2 ho
          rw [hA] at x14 ⊢
          have HA := Lib.hid hA
          have HB := Lib.hid hB
          have HO := Lib.hid ho
          clear hargs hA hB ho
          go_wp2_with fail
          go_roundw
          case rel => exact ⟨k + 1, _, by go_num, rfl, by omega, below_alloc HB.out _⟩
          case measure => simp [intOf]; omega
        · have hkl : k = T.t.links.length := by omega
          subst hkl
          have y15 := cell_later hB x15
          have HB := Lib.hid hB
          clear hB
          go_wp2_with fail
          go_loopw [58, 3] (fun s58 s3 w2 => ∃ (k : Nat) (n : Int), s58 = .int .i64 k ∧ s3 = .int .i64 n ∧ k ≤ T.t.virts.length ∧ Below W1.heap.size W1 w2)
            (fun s58 _ _ => T.t.virts.length - (intOf s58).toNat)
          case atStart => exact ⟨0, _, rfl, rfl, Nat.zero_le _, HB.out⟩
          case round =>
            clear hlt hk HB y15
            obtain ⟨k, n, rfl, rfl, hk, hB⟩ := hrel
            by_cases hlt : k < T.t.virts.length
            · obtain ⟨o, ho⟩ : ∃ o, T.t.virts[k]? = some o := ⟨_, List.getElem?_eq_getElem hlt⟩
              obtain ⟨b, oo, Aa, ca, hA, hb, e0, e1, hargs⟩ := vrt_get (HT.out.below (below_then hB1 hB)).v.2.2.2 ho
              rw [hA] at x15 ⊢
              have HA := Lib.hid hA
              have HB := Lib.hid hB
              have HO := Lib.hid ho
              clear hargs hA hB ho
              go_wp2_with fail
              go_roundw
              case rel => exact ⟨k + 1, _, by go_num, rfl, by omega, below_alloc HB.out _⟩
              case measure => simp [intOf]; omega
            · have hkl : k = T.t.virts.length := by omega
              subst hkl
              go_wp2_with fail
              go_ret
              exact ⟨⟨_, rfl⟩, below_then hB1 hB⟩
theorem few_any (T : TV) (w : World) (hT : T.ok w) : Calls Try.prog 34 #[.agg T.cells.toArray] w fun e w' => (∃ b, e = .returned (.bool b)) ∧ Below w.heap.size w w' := by
  obtain ⟨W1, hW1⟩ : ∃ W1, w.alloc (.cells T.cells.toArray 33) = W1 := ⟨_, rfl⟩
  have hB1 : Below w.heap.size w W1 := by rw [← hW1]; exact below_alloc (Below.refl _ _) _
  have hat : At W1 w.heap.size 0 T.cells := by rw [← hW1]; exact At.of_obj (heap_alloc_last w _)
  have hs := size_any T W1 (hT.below hB1)
  obtain ⟨cs, hcs⟩ : ∃ cs, T.cells.toArray = cs := ⟨_, rfl⟩
  rw [hcs] at hW1 hs ⊢
  have HS := Lib.hid hs
  have HAT := Lib.hid hat
  have HC := Lib.hid hcs
  clear hs hat hcs hT
  go_enter Try.func34, Try.ntmps34
  go_wp2_with (first | (refine wpList_load_at rfl 33 _ rfl w.heap.size rfl T.cells _ HAT.out Try.underlying33 rfl info33 ?_; rw [HC.out]) | (go_at_call 13; refine HS.out.mono ?_; rintro e w2 ⟨⟨n, rfl⟩, hB2⟩))
  go_ret
  exact ⟨⟨_, rfl⟩, below_then hB1 hB2⟩
end Go.Proofs.Ytjcfppbahalgbaa
