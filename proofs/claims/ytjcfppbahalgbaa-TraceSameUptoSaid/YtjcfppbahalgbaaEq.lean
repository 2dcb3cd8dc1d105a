/- slices.Equal of sources, and the reference's. -/
import Derived.Test.YtjcfppbahalgbaaCmp
namespace Go.Proofs.Ytjcfppbahalgbaa
open Go.RowKit
set_option linter.unusedSimpArgs false
set_option linter.unusedVariables false
set_option maxRecDepth 100000 in
set_option maxHeartbeats 1600000 in
theorem eqs_any (A B : Option Addr) (c d : Nat) (xs ys : List TSrc) (w : World) (hx : RowAt SrcR 4 w A xs) (hy : RowAt SrcR 4 w B ys) (hxl : xs.length ≤ 1048576) (hyl : ys.length ≤ 1048576) :
    Calls Try.prog 74 #[.slice A xs.length c, .slice B ys.length d] w fun e w' => e = .returned (.bool (decide (xs = ys))) ∧ Below w.heap.size w w' := by
  by_cases hl : xs.length = ys.length
  · have hl1 : ((xs.length : Int) != ys.length) = false := by simp [hl]
    have HX := Lib.hid hx
    have HY := Lib.hid hy
    have HL := Lib.hid hl
    clear hx hy
    rw [← hl] at hyl ⊢
    clear hl hl1
    go_enter Try.func74, Try.ntmps74
    go_wp2_with fail
    go_loopw [13] (fun s13 wr => ∃ (k : Nat), s13 = .int .i64 k ∧ k ≤ xs.length ∧ Hid (xs.take k = ys.take k) ∧ Below w.heap.size w wr)
      (fun s13 _ => xs.length - (intOf s13).toNat)
    case atStart => exact ⟨0, rfl, Nat.zero_le _, rfl, Below.refl _ _⟩
    case round =>
      obtain ⟨k, rfl, hk, htk, hB⟩ := hrel
      by_cases hlt : k < xs.length
      · obtain ⟨s, hs⟩ : ∃ s, xs[k]? = some s := ⟨_, List.getElem?_eq_getElem hlt⟩
        obtain ⟨s', hs'⟩ : ∃ s', ys[k]? = some s' := ⟨_, List.getElem?_eq_getElem (by have := HL.out; omega)⟩
        obtain ⟨b, o, rfl, hb, e0, e1, e2, e3⟩ := src_get (HX.out.below hB (fun _ _ h => h)) hs
        obtain ⟨b', o', rfl, hb', f0, f1, f2, f3⟩ := src_get (HY.out.below hB (fun _ _ h => h)) hs'
        have HS := Lib.hid hs
        have HS' := Lib.hid hs'
        have HB := Lib.hid hB
        clear hs hs' hB
        go_upto_region 6 with fail
        have g0 : Below w.heap.size w wr := HB.out
        (try simp only [Act.put, List.setIfInBounds_toArray, List.set_cons_zero, List.set_cons_succ])
        refine drawn_begin (fun w' => Below wr.heap.size wr w' ∧ w'.cell? ⟨b, o + k * 4, none⟩ = some (.int .i64 s.k) ∧ w'.cell? ⟨b, o + k * 4 + 1, none⟩ = some (.int .i64 s.vk) ∧ w'.cell? ⟨b, o + k * 4 + 2, none⟩ = some (.int .i64 s.vn) ∧ w'.cell? ⟨b, o + k * 4 + 3, none⟩ = some (.int .i64 s.n) ∧
          w'.cell? ⟨b', o' + k * 4, none⟩ = some (.int .i64 s'.k) ∧ w'.cell? ⟨b', o' + k * 4 + 1, none⟩ = some (.int .i64 s'.vk) ∧ w'.cell? ⟨b', o' + k * 4 + 2, none⟩ = some (.int .i64 s'.vn) ∧ w'.cell? ⟨b', o' + k * 4 + 3, none⟩ = some (.int .i64 s'.n)) (fun c a d v w h => ?_) (by kernel_rfl) ?_ (fun hside hHeld => ?_)
        · (obtain ⟨h1, h2⟩ := h; exact And.intro (put_nil h1) h2)
        · exact ⟨below_drewN (Below.refl _ _) 1, e0, e1, e2, e3, f0, f1, f2, f3⟩
        refine wpAnyH_take (i := 0) (v := ?_) (op_at rfl) (by kernel_rfl) (by kernel_rfl) (by kernel_rfl) (fun _ _ _ h => hside _ _ _ _ _ h) (Or.inl ⟨by rfl, ?_⟩) (by assumption) ?_
        rotate_left
        · (intro w hSw; (try dsimp only at hSw); go_simp; all_goals with_reducible rfl)
        (try simp only [Act.put, List.setIfInBounds_toArray, List.set_cons_zero, List.set_cons_succ])
        refine wpAnyH_take (i := 1) (v := ?_) (op_at rfl) (by kernel_rfl) (by kernel_rfl) (by kernel_rfl) (fun _ _ _ h => hside _ _ _ _ _ h) (Or.inl ⟨by rfl, ?_⟩) (by assumption) ?_
        rotate_left
        · (intro w hSw; (try dsimp only at hSw); go_simp; all_goals with_reducible rfl)
        (try simp only [Act.put, List.setIfInBounds_toArray, List.set_cons_zero, List.set_cons_succ])
        refine wpAnyH_take (i := 2) (v := ?_) (op_at rfl) (by kernel_rfl) (by kernel_rfl) (by kernel_rfl) (fun _ _ _ h => hside _ _ _ _ _ h) (Or.inl ⟨by rfl, ?_⟩) (by assumption) ?_
        rotate_left
        · (intro w hSw; (try dsimp only at hSw); go_simp; all_goals with_reducible rfl)
        (try simp only [Act.put, List.setIfInBounds_toArray, List.set_cons_zero, List.set_cons_succ])
        refine wpAnyH_take (i := 3) (v := ?_) (op_at rfl) (by kernel_rfl) (by kernel_rfl) (by kernel_rfl) (fun _ _ _ h => hside _ _ _ _ _ h) (Or.inl ⟨by rfl, ?_⟩) (by assumption) ?_
        rotate_left
        · (intro w hSw; (try dsimp only at hSw); go_simp; all_goals with_reducible rfl)
        (try simp only [Act.put, List.setIfInBounds_toArray, List.set_cons_zero, List.set_cons_succ])
        refine wpAnyH_take (i := 4) (v := ?_) (op_at rfl) (by kernel_rfl) (by kernel_rfl) (by kernel_rfl) (fun _ _ _ h => hside _ _ _ _ _ h) (Or.inl ⟨by rfl, ?_⟩) (by assumption) ?_
        rotate_left
        · (intro w hSw; (try dsimp only at hSw); go_simp; all_goals with_reducible rfl)
        (try simp only [Act.put, List.setIfInBounds_toArray, List.set_cons_zero, List.set_cons_succ])
        refine wpAnyH_take (i := 5) (v := ?_) (op_at rfl) (by kernel_rfl) (by kernel_rfl) (by kernel_rfl) (fun _ _ _ h => hside _ _ _ _ _ h) (Or.inl ⟨by rfl, ?_⟩) (by assumption) ?_
        rotate_left
        · (intro w hSw; (try dsimp only at hSw); go_simp; all_goals with_reducible rfl)
        (try simp only [Act.put, List.setIfInBounds_toArray, List.set_cons_zero, List.set_cons_succ])
        refine wpAnyH_take (i := 6) (v := ?_) (op_at rfl) (by kernel_rfl) (by kernel_rfl) (by kernel_rfl) (fun _ _ _ h => hside _ _ _ _ _ h) (Or.inl ⟨by rfl, ?_⟩) (by assumption) ?_
        rotate_left
        · (intro w hSw; (try dsimp only at hSw); go_simp; all_goals with_reducible rfl)
        (try simp only [Act.put, List.setIfInBounds_toArray, List.set_cons_zero, List.set_cons_succ])
        refine wpAnyH_take (i := 7) (v := ?_) (op_at rfl) (by kernel_rfl) (by kernel_rfl) (by kernel_rfl) (fun _ _ _ h => hside _ _ _ _ _ h) (Or.inl ⟨by rfl, ?_⟩) (by assumption) ?_
        rotate_left
        · (intro w hSw; (try dsimp only at hSw); go_simp; all_goals with_reducible rfl)
        (try simp only [Act.put, List.setIfInBounds_toArray, List.set_cons_zero, List.set_cons_succ])
        refine wpAnyH_take (i := 8) (v := (.bool (!decide (s = s')))) (op_at rfl) (by kernel_rfl) (by kernel_rfl) (by kernel_rfl) (fun _ _ _ h => hside _ _ _ _ _ h) (Or.inl ⟨by rfl, ?_⟩) (by assumption) ?_
        · (intro w hSw; exact exec_neq63 _ _ _ rfl s s' rfl rfl)
        (try simp only [Act.put, List.setIfInBounds_toArray, List.set_cons_zero, List.set_cons_succ])
        refine wpAnyH_done (by kernel_rfl) ?_ _
        have HBd := Lib.hid (HB.out.trans ((below_drewN (Below.refl wr.heap.size wr) 1).mono HB.out.size))
        by_cases hss : s = s'
        · have hd : decide (s = s') = true := by simpa using hss
          rw [hd]
          clear hHeld hside e0 e1 e2 e3 f0 f1 f2 f3
          have HK : Hid (xs.take (k + 1) = ys.take (k + 1)) := by
            show _ = _
            rw [List.take_succ_eq_append_getElem hlt, List.take_succ_eq_append_getElem (by have := HL.out; omega), htk.out, (List.getElem?_eq_some_iff.1 HS.out).2, (List.getElem?_eq_some_iff.1 HS'.out).2, hss]
          clear hss hd
          go_wp2_with fail
          go_roundw
          case rel => exact ⟨k + 1, by go_num, by omega, HK, HBd.out⟩
          case measure => simp [intOf]; omega
        · have hd : decide (s = s') = false := by simpa using hss
          have hne : decide (xs = ys) = false := by
            simp only [decide_eq_false_iff_not]
            rintro rfl
            have := HS.out.symm.trans HS'.out
            exact hss (Option.some.inj this)
          rw [hd]
          clear hHeld hside e0 e1 e2 e3 f0 f1 f2 f3 hss hd
          go_wp2_with fail
          go_ret
          exact ⟨by rw [hne]; rfl, HBd.out⟩
      · have hkl : k = xs.length := by omega
        subst hkl
        go_wp2_with fail
        go_ret
        have h1 := htk.out
        rw [List.take_length, HL.out, List.take_length] at h1
        exact ⟨by simp [h1], hB⟩
  · have hl1 : ((xs.length : Int) != ys.length) = true := by simp; omega
    have hne : ¬ xs = ys := fun h => hl (by rw [h])
    go_enter Try.func74, Try.ntmps74
    go_wp2_with fail
    go_ret
    exact ⟨by simp [hne], Below.refl _ _⟩
set_option maxRecDepth 100000 in
set_option maxHeartbeats 1600000 in
theorem refsame_any (A B : Option Addr) (c d : Nat) (xs ys : List TSrc) (w : World) (hx : RowAt SrcR 4 w A xs) (hy : RowAt SrcR 4 w B ys) (hxl : xs.length ≤ 1048576) (hyl : ys.length ≤ 1048576) :
    Calls Try.prog 61 #[.slice A xs.length c, .slice B ys.length d] w fun e w' => e = .returned (.bool (decide (xs = ys))) ∧ Below w.heap.size w w' := by
  by_cases hl : xs.length = ys.length
  · have hl1 : ((xs.length : Int) != ys.length) = false := by simp [hl]
    have HX := Lib.hid hx
    have HY := Lib.hid hy
    have HL := Lib.hid hl
    clear hx hy
    rw [← hl] at hyl ⊢
    clear hl hl1
    go_enter Try.func61, Try.ntmps61
    go_wp2_with fail
    go_loopw [13] (fun s13 wr => ∃ (k : Nat), s13 = .int .i64 k ∧ k ≤ xs.length ∧ Hid (xs.take k = ys.take k) ∧ Below w.heap.size w wr)
      (fun s13 _ => xs.length - (intOf s13).toNat)
    case atStart => exact ⟨0, rfl, Nat.zero_le _, rfl, Below.refl _ _⟩
    case round =>
      obtain ⟨k, rfl, hk, htk, hB⟩ := hrel
      by_cases hlt : k < xs.length
      · obtain ⟨s, hs⟩ : ∃ s, xs[k]? = some s := ⟨_, List.getElem?_eq_getElem hlt⟩
        obtain ⟨s', hs'⟩ : ∃ s', ys[k]? = some s' := ⟨_, List.getElem?_eq_getElem (by have := HL.out; omega)⟩
        obtain ⟨b, o, rfl, hb, e0, e1, e2, e3⟩ := src_get (HX.out.below hB (fun _ _ h => h)) hs
        obtain ⟨b', o', rfl, hb', f0, f1, f2, f3⟩ := src_get (HY.out.below hB (fun _ _ h => h)) hs'
        have HS := Lib.hid hs
        have HS' := Lib.hid hs'
        have HB := Lib.hid hB
        clear hs hs' hB
        go_upto_region 6 with fail
        have g0 : Below w.heap.size w wr := HB.out
        (try simp only [Act.put, List.setIfInBounds_toArray, List.set_cons_zero, List.set_cons_succ])
        refine drawn_begin (fun w' => Below wr.heap.size wr w' ∧ w'.cell? ⟨b, o + k * 4, none⟩ = some (.int .i64 s.k) ∧ w'.cell? ⟨b, o + k * 4 + 1, none⟩ = some (.int .i64 s.vk) ∧ w'.cell? ⟨b, o + k * 4 + 2, none⟩ = some (.int .i64 s.vn) ∧ w'.cell? ⟨b, o + k * 4 + 3, none⟩ = some (.int .i64 s.n) ∧
          w'.cell? ⟨b', o' + k * 4, none⟩ = some (.int .i64 s'.k) ∧ w'.cell? ⟨b', o' + k * 4 + 1, none⟩ = some (.int .i64 s'.vk) ∧ w'.cell? ⟨b', o' + k * 4 + 2, none⟩ = some (.int .i64 s'.vn) ∧ w'.cell? ⟨b', o' + k * 4 + 3, none⟩ = some (.int .i64 s'.n)) (fun c a d v w h => ?_) (by kernel_rfl) ?_ (fun hside hHeld => ?_)
        · (obtain ⟨h1, h2⟩ := h; exact And.intro (put_nil h1) h2)
        · exact ⟨below_drewN (Below.refl _ _) 1, e0, e1, e2, e3, f0, f1, f2, f3⟩
        refine wpAnyH_take (i := 0) (v := ?_) (op_at rfl) (by kernel_rfl) (by kernel_rfl) (by kernel_rfl) (fun _ _ _ h => hside _ _ _ _ _ h) (Or.inl ⟨by rfl, ?_⟩) (by assumption) ?_
        rotate_left
        · (intro w hSw; (try dsimp only at hSw); go_simp; all_goals with_reducible rfl)
        (try simp only [Act.put, List.setIfInBounds_toArray, List.set_cons_zero, List.set_cons_succ])
        refine wpAnyH_take (i := 1) (v := ?_) (op_at rfl) (by kernel_rfl) (by kernel_rfl) (by kernel_rfl) (fun _ _ _ h => hside _ _ _ _ _ h) (Or.inl ⟨by rfl, ?_⟩) (by assumption) ?_
        rotate_left
        · (intro w hSw; (try dsimp only at hSw); go_simp; all_goals with_reducible rfl)
        (try simp only [Act.put, List.setIfInBounds_toArray, List.set_cons_zero, List.set_cons_succ])
        refine wpAnyH_take (i := 2) (v := ?_) (op_at rfl) (by kernel_rfl) (by kernel_rfl) (by kernel_rfl) (fun _ _ _ h => hside _ _ _ _ _ h) (Or.inl ⟨by rfl, ?_⟩) (by assumption) ?_
        rotate_left
        · (intro w hSw; (try dsimp only at hSw); go_simp; all_goals with_reducible rfl)
        (try simp only [Act.put, List.setIfInBounds_toArray, List.set_cons_zero, List.set_cons_succ])
        refine wpAnyH_take (i := 3) (v := ?_) (op_at rfl) (by kernel_rfl) (by kernel_rfl) (by kernel_rfl) (fun _ _ _ h => hside _ _ _ _ _ h) (Or.inl ⟨by rfl, ?_⟩) (by assumption) ?_
        rotate_left
        · (intro w hSw; (try dsimp only at hSw); go_simp; all_goals with_reducible rfl)
        (try simp only [Act.put, List.setIfInBounds_toArray, List.set_cons_zero, List.set_cons_succ])
        refine wpAnyH_take (i := 4) (v := ?_) (op_at rfl) (by kernel_rfl) (by kernel_rfl) (by kernel_rfl) (fun _ _ _ h => hside _ _ _ _ _ h) (Or.inl ⟨by rfl, ?_⟩) (by assumption) ?_
        rotate_left
        · (intro w hSw; (try dsimp only at hSw); go_simp; all_goals with_reducible rfl)
        (try simp only [Act.put, List.setIfInBounds_toArray, List.set_cons_zero, List.set_cons_succ])
        refine wpAnyH_take (i := 5) (v := ?_) (op_at rfl) (by kernel_rfl) (by kernel_rfl) (by kernel_rfl) (fun _ _ _ h => hside _ _ _ _ _ h) (Or.inl ⟨by rfl, ?_⟩) (by assumption) ?_
        rotate_left
        · (intro w hSw; (try dsimp only at hSw); go_simp; all_goals with_reducible rfl)
        (try simp only [Act.put, List.setIfInBounds_toArray, List.set_cons_zero, List.set_cons_succ])
        refine wpAnyH_take (i := 6) (v := ?_) (op_at rfl) (by kernel_rfl) (by kernel_rfl) (by kernel_rfl) (fun _ _ _ h => hside _ _ _ _ _ h) (Or.inl ⟨by rfl, ?_⟩) (by assumption) ?_
        rotate_left
        · (intro w hSw; (try dsimp only at hSw); go_simp; all_goals with_reducible rfl)
        (try simp only [Act.put, List.setIfInBounds_toArray, List.set_cons_zero, List.set_cons_succ])
        refine wpAnyH_take (i := 7) (v := ?_) (op_at rfl) (by kernel_rfl) (by kernel_rfl) (by kernel_rfl) (fun _ _ _ h => hside _ _ _ _ _ h) (Or.inl ⟨by rfl, ?_⟩) (by assumption) ?_
        rotate_left
        · (intro w hSw; (try dsimp only at hSw); go_simp; all_goals with_reducible rfl)
        (try simp only [Act.put, List.setIfInBounds_toArray, List.set_cons_zero, List.set_cons_succ])
        refine wpAnyH_take (i := 8) (v := (.bool (!decide (s = s')))) (op_at rfl) (by kernel_rfl) (by kernel_rfl) (by kernel_rfl) (fun _ _ _ h => hside _ _ _ _ _ h) (Or.inl ⟨by rfl, ?_⟩) (by assumption) ?_
        · (intro w hSw; exact exec_neq63 _ _ _ rfl s s' rfl rfl)
        (try simp only [Act.put, List.setIfInBounds_toArray, List.set_cons_zero, List.set_cons_succ])
        refine wpAnyH_done (by kernel_rfl) ?_ _
        have HBd := Lib.hid (HB.out.trans ((below_drewN (Below.refl wr.heap.size wr) 1).mono HB.out.size))
        by_cases hss : s = s'
        · have hd : decide (s = s') = true := by simpa using hss
          rw [hd]
          clear hHeld hside e0 e1 e2 e3 f0 f1 f2 f3
          have HK : Hid (xs.take (k + 1) = ys.take (k + 1)) := by
            show _ = _
            rw [List.take_succ_eq_append_getElem hlt, List.take_succ_eq_append_getElem (by have := HL.out; omega), htk.out, (List.getElem?_eq_some_iff.1 HS.out).2, (List.getElem?_eq_some_iff.1 HS'.out).2, hss]
          clear hss hd
          go_wp2_with fail
          go_roundw
          case rel => exact ⟨k + 1, by go_num, by omega, HK, HBd.out⟩
          case measure => simp [intOf]; omega
        · have hd : decide (s = s') = false := by simpa using hss
          have hne : decide (xs = ys) = false := by
            simp only [decide_eq_false_iff_not]
            rintro rfl
            have := HS.out.symm.trans HS'.out
            exact hss (Option.some.inj this)
          rw [hd]
          clear hHeld hside e0 e1 e2 e3 f0 f1 f2 f3 hss hd
          go_wp2_with fail
          go_ret
          exact ⟨by rw [hne]; rfl, HBd.out⟩
      · have hkl : k = xs.length := by omega
        subst hkl
        go_wp2_with fail
        go_ret
        have h1 := htk.out
        rw [List.take_length, HL.out, List.take_length] at h1
        exact ⟨by simp [h1], hB⟩
  · have hl1 : ((xs.length : Int) != ys.length) = true := by simp; omega
    have hne : ¬ xs = ys := fun h => hl (by rw [h])
    go_enter Try.func61, Try.ntmps61
    go_wp2_with fail
    go_ret
    exact ⟨by simp [hne], Below.refl _ _⟩
end Go.Proofs.Ytjcfppbahalgbaa
