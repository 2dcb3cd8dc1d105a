/- swathref16.Same, where what is compared first is equal. -/
import Derived.Test.YtjcfppbahalgbaaRefSame
import Derived.Deep.DeepCutAuto
namespace Go.Proofs.Ytjcfppbahalgbaa
open Go.RowKit
set_option linter.unusedSimpArgs false
set_option linter.unusedVariables false
set_option maxRecDepth 100000 in
set_option maxHeartbeats 3200000 in
theorem refSame2_any (T S : TV) (w : World) (hT : T.ok w) (hS : S.ok w) (hk : T.t.key = S.t.key) (h_fn : T.t.fn = S.t.fn) (h_pc : T.t.pc = S.t.pc) (l_ins : T.t.ins.length = S.t.ins.length) (l_ops : T.t.ops.length = S.t.ops.length) (l_links : T.t.links.length = S.t.links.length) (l_virts : T.t.virts.length = S.t.virts.length) : Calls Try.prog 26 #[.agg T.cells.toArray, .agg S.cells.toArray] w fun e w' => e = .returned (.bool (decide (T.t = S.t))) ∧ Below w.heap.size w w' := by
  obtain ⟨W2, hW2⟩ : ∃ W2, (w.alloc (.cells T.cells.toArray 33)).alloc (.cells S.cells.toArray 33) = W2 := ⟨_, rfl⟩
  have hB2 : Below w.heap.size w W2 := by rw [← hW2]; exact below_alloc (below_alloc (Below.refl _ _) _) _
  have hatT : At W2 w.heap.size 0 T.cells := by rw [← hW2]; exact (At.of_obj (heap_alloc_last w _)).below (below_alloc (Below.refl _ _) _)
  have hatS : At W2 (w.heap.size + 1) 0 S.cells := by
    rw [← hW2]
    have := heap_alloc_last (w.alloc (.cells T.cells.toArray 33)) (.cells S.cells.toArray 33)
    rw [World.size_alloc] at this
    exact At.of_obj this
  have cells17 : ∀ (V : TV) (b : Nat) (w : World), At w b 0 V.cells → w.cell? ⟨b, 10, none⟩ = some (.int .i64 V.t.fn) ∧ w.cell? ⟨b, 11, none⟩ = some (.int .i64 V.t.pc) ∧ w.cell? ⟨b, 12, none⟩ = some (.slice V.i.A V.t.ins.length V.i.c) ∧
      w.cell? ⟨b, 13, none⟩ = some (.slice V.o.A V.t.ops.length V.o.c) ∧ w.cell? ⟨b, 14, none⟩ = some (.slice V.l.A V.t.links.length V.l.c) ∧ w.cell? ⟨b, 15, none⟩ = some (.slice V.v.A V.t.virts.length V.v.c) ∧ w.cell? ⟨b, 16, none⟩ = some (.slice V.b.A V.t.back.length V.b.c) := by
    intro V b w h
    have h10 := h 10 _ rfl
    have h11 := h 11 _ rfl
    have h12 := h 12 _ rfl
    have h13 := h 13 _ rfl
    have h14 := h 14 _ rfl
    have h15 := h 15 _ rfl
    have h16 := h 16 _ rfl
    rw [Nat.zero_add] at h10 h11 h12 h13 h14 h15 h16
    exact ⟨h10, h11, h12, h13, h14, h15, h16⟩
  have hKT := Lib.hid (key_at hatT)
  have hKS := Lib.hid (key_at hatS)
  obtain ⟨t10, t11, t12, t13, t14, t15, t16⟩ := cells17 T _ _ hatT
  obtain ⟨s10, s11, s12, s13, s14, s15, s16⟩ := cells17 S _ _ hatS
  have HT := Lib.hid (hT.below hB2)
  have HS := Lib.hid (hS.below hB2)
  obtain ⟨cs, hcs⟩ : ∃ cs, T.cells.toArray = cs := ⟨_, rfl⟩
  obtain ⟨ds, hds⟩ : ∃ ds, S.cells.toArray = ds := ⟨_, rfl⟩
  rw [hcs, hds] at hW2
  rw [hcs, hds]
  have HB2 := Lib.hid hB2
  clear hcs hds hatT hatS hT hS hB2 cells17
  have hne : ∀ {p : Prop} [Decidable p], ¬ p → (T.t = S.t → p) → decide (T.t = S.t) = false := by
    intro p _ hp hi
    simp only [decide_eq_false_iff_not]
    exact fun h => hp (hi h)
  have hkd : (!decide (T.t.key = S.t.key)) = false := by simpa using hk
  have d1_fn : (T.t.fn != S.t.fn) = false := by simpa using h_fn
  have d1_pc : (T.t.pc != S.t.pc) = false := by simpa using h_pc
  have d1_ins : ((T.t.ins.length : Int) != S.t.ins.length) = false := by simp [l_ins]
  have d1_ops : ((T.t.ops.length : Int) != S.t.ops.length) = false := by simp [l_ops]
  have d1_links : ((T.t.links.length : Int) != S.t.links.length) = false := by simp [l_links]
  have d1_virts : ((T.t.virts.length : Int) != S.t.virts.length) = false := by simp [l_virts]
  have hall : T.t.ins = S.t.ins → T.t.back = S.t.back → T.t.ops = S.t.ops → T.t.links = S.t.links → T.t.virts = S.t.virts → T.t = S.t := by
    intro a b c d e
    have hh : ∀ x y : Trc, x.key = y.key → x.fn = y.fn → x.pc = y.pc → x.ins = y.ins → x.back = y.back → x.ops = y.ops → x.links = y.links → x.virts = y.virts → x = y := by
      rintro ⟨⟩ ⟨⟩ h1 h2 h3 h4 h5 h6 h7 h8
      simp only at h1 h2 h3 h4 h5 h6 h7 h8
      subst h1; subst h2; subst h3; subst h4; subst h5; subst h6; subst h7; subst h8
      rfl
    exact hh _ _ hk h_fn h_pc a b c d e
  have HALL := Lib.hid hall
  have HNE : Hid (∀ (p : Prop), ¬ p → (T.t = S.t → p) → decide (T.t = S.t) = false) := fun p hp hi => by
    simp only [decide_eq_false_iff_not]
    exact fun h => hp (hi h)
  obtain ⟨res, hres⟩ : ∃ res, decide (T.t = S.t) = res := ⟨_, rfl⟩
  rw [hres]
  have HRES := Lib.hid hres
  have HLI := Lib.hid l_ins
  have HLO := Lib.hid l_ops
  have HLL := Lib.hid l_links
  have HLV := Lib.hid l_virts
  clear hne hall hk h_fn h_pc hres l_ins l_ops l_links l_virts
  have hil : (T.t.ins.length : Int) ≤ 1048576 := by have := HT.out.i.2.2.1; omega
  go_enter Try.func26, Try.ntmps26
  go_wp2_with (first | (refine ld26 w.heap.size T.t.key hKT.out rfl ?_) | (refine ld26 (w.heap.size + 1) S.t.key hKS.out rfl ?_) | (refine ne26 T.t.key S.t.key false hkd (by simp [Act.eval, Act.put]) (by simp [Act.eval, Act.put]) ?_; refine Stop.out ?_))
  refine Stop.mk ?_
  go_wp2_with (go_at_call 61; refine (refsame_any T.b.A S.b.A T.b.c S.b.c T.t.back S.t.back _ HT.out.b.2.2.2 HS.out.b.2.2.2 HT.out.b.2.2.1 HS.out.b.2.2.1).mono ?_)
  rintro e v0 ⟨rfl, hB⟩
  have HBC := Lib.hid hB
  cases hd0 : decide (T.t.back = S.t.back) with
  | false =>
    go_wp2_with fail
    go_ret
    refine ⟨?_, below_then HB2.out HBC.out⟩
    rw [← HRES.out, HNE.out (T.t.back = S.t.back) (by simpa using hd0) (fun h => by rw [h])]
    rfl
  | true =>
    have HD0 := Lib.hid hd0
    have t12n := cell_later hB t12
    have s12n := cell_later hB s12
    clear hd0 hB t10 t11 s10 s11 d1_fn d1_pc d1_ins d1_ops d1_links d1_virts hkd
    go_wp2_with fail
    have HB0 := HBC
    go_loopw [79] (fun s79 wr => ∃ (k : Nat), s79 = .int .i64 k ∧ k ≤ T.t.ins.length ∧ Hid (T.t.ins.take k = S.t.ins.take k) ∧ Below v0.heap.size v0 wr)
      (fun s79 _ => T.t.ins.length - (intOf s79).toNat)
    case atStart => exact ⟨0, rfl, Nat.zero_le _, rfl, Below.refl _ _⟩
    case round =>
      obtain ⟨k, rfl, hk, htk, hB⟩ := hrel
      have HBr := Lib.hid (below_then HB0.out hB)
      by_cases hlt : k < T.t.ins.length
      · obtain ⟨x, hx⟩ : ∃ x, T.t.ins[k]? = some x := ⟨_, List.getElem?_eq_getElem hlt⟩
        obtain ⟨y, hy⟩ : ∃ y, S.t.ins[k]? = some y := ⟨_, List.getElem?_eq_getElem (by have := HLI.out; omega)⟩
        obtain ⟨b, o, hA, hb, e0⟩ := int_get (HT.out.below HBr.out).i.2.2.2 hx
        obtain ⟨b', o', hA', hb', f0⟩ := int_get (HS.out.below HBr.out).i.2.2.2 hy
        have y12 := cell_later hB t12n
        have z12 := cell_later hB s12n
        rw [hA] at y12
        rw [hA', ← HLI.out] at z12
        have HX := Lib.hid hx
        have HY := Lib.hid hy
        have HBv := Lib.hid hB
        clear hx hy hA hA' hb hb' hB
        go_upto_region 6 with fail
        (try simp only [Act.put, List.setIfInBounds_toArray, List.set_cons_zero, List.set_cons_succ])
        by_cases hxy : x = y
        · have hne : (x != y) = false := by simpa using hxy
          have HK : Hid (T.t.ins.take (k + 1) = S.t.ins.take (k + 1)) := by
            show _ = _
            rw [List.take_succ_eq_append_getElem hlt, List.take_succ_eq_append_getElem (by have := HLI.out; omega), htk.out, (List.getElem?_eq_some_iff.1 HX.out).2, (List.getElem?_eq_some_iff.1 HY.out).2, hxy]
          refine drawn_begin (fun w' => Below wr.heap.size wr w' ∧ w'.cell? ⟨w.heap.size, 12, none⟩ = some (.slice (some ⟨b, o, none⟩) T.t.ins.length T.i.c) ∧ w'.cell? ⟨w.heap.size + 1, 12, none⟩ = some (.slice (some ⟨b', o', none⟩) T.t.ins.length S.i.c) ∧ w'.cell? ⟨b, o + k, none⟩ = some (.int .i64 x) ∧ w'.cell? ⟨b', o' + k, none⟩ = some (.int .i64 y)) (fun c a d v w h => ?_) (by kernel_rfl) ?_ (fun hside hHeld => ?_)
          · (obtain ⟨h1, h2⟩ := h; exact And.intro (put_nil h1) h2)
          · exact ⟨below_drewN (Below.refl _ _) 1, y12, z12, e0, f0⟩
          refine wpAnyH_take (i := 0) (v := ?_) (op_at rfl) (by kernel_rfl) (by kernel_rfl) (by kernel_rfl) (fun _ _ _ h => hside _ _ _ _ _ h) (Or.inl ⟨by rfl, ?_⟩) (by assumption) ?_
          rotate_left
          · (intro w hSw; (try dsimp only at hSw); go_simp; all_goals with_reducible rfl)
          (try simp only [Act.put, List.setIfInBounds_toArray, List.set_cons_zero, List.set_cons_succ])
          refine wpAnyH_take (i := 1) (v := ?_) (op_at rfl) (by kernel_rfl) (by kernel_rfl) (by kernel_rfl) (fun _ _ _ h => hside _ _ _ _ _ h) (Or.inl ⟨by rfl, ?_⟩) (by assumption) ?_
          rotate_left
          · (intro w hSw; (try dsimp only at hSw); go_simp; all_goals with_reducible rfl)
          (try simp only [Act.put, List.setIfInBounds_toArray, List.set_cons_zero, List.set_cons_succ])
          refine wpAnyH_take (i := 2) (v := ?_) (op_at rfl) (by kernel_rfl) (by kernel_rfl) (by kernel_rfl) (fun _ _ _ h => hside _ _ _ _ _ h) (Or.inl ⟨by rfl, ?_⟩) (by assumption) ?_
          rotate_left
          · (intro w hSw; (try dsimp only at hSw); go_simp; all_goals with_reducible rfl)
          (try simp only [Act.put, List.setIfInBounds_toArray, List.set_cons_zero, List.set_cons_succ])
          refine wpAnyH_take (i := 3) (v := ?_) (op_at rfl) (by kernel_rfl) (by kernel_rfl) (by kernel_rfl) (fun _ _ _ h => hside _ _ _ _ _ h) (Or.inl ⟨by rfl, ?_⟩) (by assumption) ?_
          rotate_left
          · (intro w hSw; (try dsimp only at hSw); go_simp; all_goals with_reducible rfl)
          (try simp only [Act.put, List.setIfInBounds_toArray, List.set_cons_zero, List.set_cons_succ])
          refine wpAnyH_take (i := 4) (v := ?_) (op_at rfl) (by kernel_rfl) (by kernel_rfl) (by kernel_rfl) (fun _ _ _ h => hside _ _ _ _ _ h) (Or.inl ⟨by rfl, ?_⟩) (by assumption) ?_
          rotate_left
          · (intro w hSw; (try dsimp only at hSw); go_simp; all_goals with_reducible rfl)
          (try simp only [Act.put, List.setIfInBounds_toArray, List.set_cons_zero, List.set_cons_succ])
          refine wpAnyH_take (i := 5) (v := ?_) (op_at rfl) (by kernel_rfl) (by kernel_rfl) (by kernel_rfl) (fun _ _ _ h => hside _ _ _ _ _ h) (Or.inl ⟨by rfl, ?_⟩) (by assumption) ?_
          rotate_left
          · (intro w hSw; (try dsimp only at hSw); go_simp; all_goals with_reducible rfl)
          (try simp only [Act.put, List.setIfInBounds_toArray, List.set_cons_zero, List.set_cons_succ])
          refine wpAnyH_take (i := 6) (v := ?_) (op_at rfl) (by kernel_rfl) (by kernel_rfl) (by kernel_rfl) (fun _ _ _ h => hside _ _ _ _ _ h) (Or.inl ⟨by rfl, ?_⟩) (by assumption) ?_
          rotate_left
          · (intro w hSw; (try dsimp only at hSw); go_simp; all_goals with_reducible rfl)
          (try simp only [Act.put, List.setIfInBounds_toArray, List.set_cons_zero, List.set_cons_succ])
          refine wpAnyH_take (i := 7) (v := ?_) (op_at rfl) (by kernel_rfl) (by kernel_rfl) (by kernel_rfl) (fun _ _ _ h => hside _ _ _ _ _ h) (Or.inl ⟨by rfl, ?_⟩) (by assumption) ?_
          rotate_left
          · (intro w hSw; (try dsimp only at hSw); go_simp; all_goals with_reducible rfl)
          (try simp only [Act.put, List.setIfInBounds_toArray, List.set_cons_zero, List.set_cons_succ])
          refine wpAnyH_take (i := 8) (v := ?_) (op_at rfl) (by kernel_rfl) (by kernel_rfl) (by kernel_rfl) (fun _ _ _ h => hside _ _ _ _ _ h) (Or.inl ⟨by rfl, ?_⟩) (by assumption) ?_
          rotate_left
          · (intro w hSw; (try dsimp only at hSw); go_simp; all_goals with_reducible rfl)
          (try simp only [Act.put, List.setIfInBounds_toArray, List.set_cons_zero, List.set_cons_succ])
          refine wpAnyH_take (i := 9) (v := ?_) (op_at rfl) (by kernel_rfl) (by kernel_rfl) (by kernel_rfl) (fun _ _ _ h => hside _ _ _ _ _ h) (Or.inl ⟨by rfl, ?_⟩) (by assumption) ?_
          rotate_left
          · (intro w hSw; (try dsimp only at hSw); go_simp; all_goals with_reducible rfl)
          (try simp only [Act.put, List.setIfInBounds_toArray, List.set_cons_zero, List.set_cons_succ])
          refine wpAnyH_take (i := 10) (v := ?_) (op_at rfl) (by kernel_rfl) (by kernel_rfl) (by kernel_rfl) (fun _ _ _ h => hside _ _ _ _ _ h) (Or.inl ⟨by rfl, ?_⟩) (by assumption) ?_
          rotate_left
          · (intro w hSw; (try dsimp only at hSw); go_simp; all_goals with_reducible rfl)
          (try simp only [Act.put, List.setIfInBounds_toArray, List.set_cons_zero, List.set_cons_succ])
          refine wpAnyH_done (by kernel_rfl) ?_ _
          have HBn := Lib.hid (HBv.out.trans ((below_drewN (Below.refl wr.heap.size wr) 1).mono HBv.out.size))
          clear hHeld hside e0 f0 y12 z12
          go_wp2_with fail
          go_roundw
          case rel => exact ⟨k + 1, by go_num, by omega, HK, HBn.out⟩
          case measure => simp [intOf]; omega
        · have hne : (x != y) = true := by simpa using hxy
          have hno : ¬ T.t.ins = S.t.ins := fun h => by
            have h1 := HX.out
            rw [h, HY.out] at h1
            exact hxy (Option.some.inj h1).symm
          refine drawn_begin (fun w' => Below wr.heap.size wr w' ∧ w'.cell? ⟨w.heap.size, 12, none⟩ = some (.slice (some ⟨b, o, none⟩) T.t.ins.length T.i.c) ∧ w'.cell? ⟨w.heap.size + 1, 12, none⟩ = some (.slice (some ⟨b', o', none⟩) T.t.ins.length S.i.c) ∧ w'.cell? ⟨b, o + k, none⟩ = some (.int .i64 x) ∧ w'.cell? ⟨b', o' + k, none⟩ = some (.int .i64 y)) (fun c a d v w h => ?_) (by kernel_rfl) ?_ (fun hside hHeld => ?_)
          · (obtain ⟨h1, h2⟩ := h; exact And.intro (put_nil h1) h2)
          · exact ⟨below_drewN (Below.refl _ _) 1, y12, z12, e0, f0⟩
          refine wpAnyH_take (i := 0) (v := ?_) (op_at rfl) (by kernel_rfl) (by kernel_rfl) (by kernel_rfl) (fun _ _ _ h => hside _ _ _ _ _ h) (Or.inl ⟨by rfl, ?_⟩) (by assumption) ?_
          rotate_left
          · (intro w hSw; (try dsimp only at hSw); go_simp; all_goals with_reducible rfl)
          (try simp only [Act.put, List.setIfInBounds_toArray, List.set_cons_zero, List.set_cons_succ])
          refine wpAnyH_take (i := 1) (v := ?_) (op_at rfl) (by kernel_rfl) (by kernel_rfl) (by kernel_rfl) (fun _ _ _ h => hside _ _ _ _ _ h) (Or.inl ⟨by rfl, ?_⟩) (by assumption) ?_
          rotate_left
          · (intro w hSw; (try dsimp only at hSw); go_simp; all_goals with_reducible rfl)
          (try simp only [Act.put, List.setIfInBounds_toArray, List.set_cons_zero, List.set_cons_succ])
          refine wpAnyH_take (i := 2) (v := ?_) (op_at rfl) (by kernel_rfl) (by kernel_rfl) (by kernel_rfl) (fun _ _ _ h => hside _ _ _ _ _ h) (Or.inl ⟨by rfl, ?_⟩) (by assumption) ?_
          rotate_left
          · (intro w hSw; (try dsimp only at hSw); go_simp; all_goals with_reducible rfl)
          (try simp only [Act.put, List.setIfInBounds_toArray, List.set_cons_zero, List.set_cons_succ])
          refine wpAnyH_take (i := 3) (v := ?_) (op_at rfl) (by kernel_rfl) (by kernel_rfl) (by kernel_rfl) (fun _ _ _ h => hside _ _ _ _ _ h) (Or.inl ⟨by rfl, ?_⟩) (by assumption) ?_
          rotate_left
          · (intro w hSw; (try dsimp only at hSw); go_simp; all_goals with_reducible rfl)
          (try simp only [Act.put, List.setIfInBounds_toArray, List.set_cons_zero, List.set_cons_succ])
          refine wpAnyH_take (i := 4) (v := ?_) (op_at rfl) (by kernel_rfl) (by kernel_rfl) (by kernel_rfl) (fun _ _ _ h => hside _ _ _ _ _ h) (Or.inl ⟨by rfl, ?_⟩) (by assumption) ?_
          rotate_left
          · (intro w hSw; (try dsimp only at hSw); go_simp; all_goals with_reducible rfl)
          (try simp only [Act.put, List.setIfInBounds_toArray, List.set_cons_zero, List.set_cons_succ])
          refine wpAnyH_take (i := 5) (v := ?_) (op_at rfl) (by kernel_rfl) (by kernel_rfl) (by kernel_rfl) (fun _ _ _ h => hside _ _ _ _ _ h) (Or.inl ⟨by rfl, ?_⟩) (by assumption) ?_
          rotate_left
          · (intro w hSw; (try dsimp only at hSw); go_simp; all_goals with_reducible rfl)
          (try simp only [Act.put, List.setIfInBounds_toArray, List.set_cons_zero, List.set_cons_succ])
          refine wpAnyH_take (i := 6) (v := ?_) (op_at rfl) (by kernel_rfl) (by kernel_rfl) (by kernel_rfl) (fun _ _ _ h => hside _ _ _ _ _ h) (Or.inl ⟨by rfl, ?_⟩) (by assumption) ?_
          rotate_left
          · (intro w hSw; (try dsimp only at hSw); go_simp; all_goals with_reducible rfl)
          (try simp only [Act.put, List.setIfInBounds_toArray, List.set_cons_zero, List.set_cons_succ])
          refine wpAnyH_take (i := 7) (v := ?_) (op_at rfl) (by kernel_rfl) (by kernel_rfl) (by kernel_rfl) (fun _ _ _ h => hside _ _ _ _ _ h) (Or.inl ⟨by rfl, ?_⟩) (by assumption) ?_
          rotate_left
          · (intro w hSw; (try dsimp only at hSw); go_simp; all_goals with_reducible rfl)
          (try simp only [Act.put, List.setIfInBounds_toArray, List.set_cons_zero, List.set_cons_succ])
          refine wpAnyH_take (i := 8) (v := ?_) (op_at rfl) (by kernel_rfl) (by kernel_rfl) (by kernel_rfl) (fun _ _ _ h => hside _ _ _ _ _ h) (Or.inl ⟨by rfl, ?_⟩) (by assumption) ?_
          rotate_left
          · (intro w hSw; (try dsimp only at hSw); go_simp; all_goals with_reducible rfl)
          (try simp only [Act.put, List.setIfInBounds_toArray, List.set_cons_zero, List.set_cons_succ])
          refine wpAnyH_take (i := 9) (v := ?_) (op_at rfl) (by kernel_rfl) (by kernel_rfl) (by kernel_rfl) (fun _ _ _ h => hside _ _ _ _ _ h) (Or.inl ⟨by rfl, ?_⟩) (by assumption) ?_
          rotate_left
          · (intro w hSw; (try dsimp only at hSw); go_simp; all_goals with_reducible rfl)
          (try simp only [Act.put, List.setIfInBounds_toArray, List.set_cons_zero, List.set_cons_succ])
          refine wpAnyH_take (i := 10) (v := ?_) (op_at rfl) (by kernel_rfl) (by kernel_rfl) (by kernel_rfl) (fun _ _ _ h => hside _ _ _ _ _ h) (Or.inl ⟨by rfl, ?_⟩) (by assumption) ?_
          rotate_left
          · (intro w hSw; (try dsimp only at hSw); go_simp; all_goals with_reducible rfl)
          (try simp only [Act.put, List.setIfInBounds_toArray, List.set_cons_zero, List.set_cons_succ])
          refine wpAnyH_done (by kernel_rfl) ?_ _
          have HBn := Lib.hid (HBv.out.trans ((below_drewN (Below.refl wr.heap.size wr) 1).mono HBv.out.size))
          clear hHeld hside e0 f0 y12 z12
          go_wp2_with fail
          go_ret
          refine ⟨?_, below_then HB2.out (below_then HB0.out HBn.out)⟩
          rw [← HRES.out, HNE.out (T.t.ins = S.t.ins) hno (fun h => by rw [h])]
          rfl
      · have hkl : k = T.t.ins.length := by omega
        subst hkl
        have HINS : Hid (T.t.ins = S.t.ins) := by
          have h1 := htk.out
          rw [List.take_length, HLI.out, List.take_length] at h1
          exact h1
        have pt13 := cell_later hB (cell_later HB0.out t13)
        have ps13 := cell_later hB (cell_later HB0.out s13)
        have HB1 := Lib.hid (below_then HB0.out hB)
        clear hlt hk htk hB t12n s12n HBr
        obtain ⟨wv, rfl⟩ : ∃ wv, wv = wr := ⟨_, rfl⟩
        go_wp2_with fail
        have hol : (T.t.ops.length : Int) ≤ 1048576 := by have := HT.out.o.2.2.1; omega
        go_loopw [97] (fun s97 wq => ∃ (k : Nat), s97 = .int .i64 k ∧ k ≤ T.t.ops.length ∧ Hid (T.t.ops.take k = S.t.ops.take k) ∧ Below wv.heap.size wv wq)
          (fun s97 _ => T.t.ops.length - (intOf s97).toNat)
        case atStart => exact ⟨0, rfl, Nat.zero_le _, rfl, Below.refl _ _⟩
        case round =>
          obtain ⟨k, rfl, hk, htk, hB⟩ := hrel
          have HBr := Lib.hid (below_then HB1.out hB)
          have HBv := Lib.hid hB
          by_cases hlt : k < T.t.ops.length
          · obtain ⟨s, hs⟩ : ∃ s, T.t.ops[k]? = some s := ⟨_, List.getElem?_eq_getElem hlt⟩
            obtain ⟨s', hs'⟩ : ∃ s', S.t.ops[k]? = some s' := ⟨_, List.getElem?_eq_getElem (by have := HLO.out; omega)⟩
            obtain ⟨b, o, Aa, ca, hA, hb, e0, e1, e2, e3, e4, hra⟩ := op_get (HT.out.below HBr.out).o.2.2.2 hs
            obtain ⟨b', o', Ab, cb, hA', hb', f0, f1, f2, f3, f4, hrb⟩ := op_get (HS.out.below HBr.out).o.2.2.2 hs'
            have y13 := cell_later hB pt13
            have z13 := cell_later hB ps13
            rw [hA] at y13
            rw [hA', ← HLO.out] at z13
            have HX := Lib.hid hs
            have HY := Lib.hid hs'
            have HRA := Lib.hid hra
            have HRB := Lib.hid hrb
            clear hs hs' hA hA' hb hb' hB hra hrb
            go_upto_region 12 with fail
            go_cut [7, 8] from 100 to 109 (fun s7 s8 wx => ∃ b1 b2 : Nat, s7 = .pointer (some ⟨b1, 0, none⟩) ∧ s8 = .pointer (some ⟨b2, 0, none⟩) ∧ Hid (wx.heap[b1]? = some (.cells #[.int .i64 s.op, .slice Aa s.args.length ca, .int .i64 s.kk, .int .i64 s.c, .int .i64 s.snap] 41 (0, 0))) ∧ Hid (wx.heap[b2]? = some (.cells #[.int .i64 s'.op, .slice Ab s'.args.length cb, .int .i64 s'.kk, .int .i64 s'.c, .int .i64 s'.snap] 41 (0, 0))) ∧ Below wr.heap.size wr wx)
            case first =>
              (try simp only [Act.put, List.setIfInBounds_toArray, List.set_cons_zero, List.set_cons_succ])
              refine drawn_begin (fun w' => Below wr.heap.size wr w' ∧ w'.cell? ⟨w.heap.size, 13, none⟩ = some (.slice (some ⟨b, o, none⟩) T.t.ops.length T.o.c) ∧ w'.cell? ⟨w.heap.size + 1, 13, none⟩ = some (.slice (some ⟨b', o', none⟩) T.t.ops.length S.o.c) ∧
                w'.cell? ⟨b, o + k * 5, none⟩ = some (.int .i64 s.op) ∧ w'.cell? ⟨b, o + k * 5 + 1, none⟩ = some (.slice Aa s.args.length ca) ∧ w'.cell? ⟨b, o + k * 5 + 2, none⟩ = some (.int .i64 s.kk) ∧ w'.cell? ⟨b, o + k * 5 + 3, none⟩ = some (.int .i64 s.c) ∧ w'.cell? ⟨b, o + k * 5 + 4, none⟩ = some (.int .i64 s.snap) ∧
                w'.cell? ⟨b', o' + k * 5, none⟩ = some (.int .i64 s'.op) ∧ w'.cell? ⟨b', o' + k * 5 + 1, none⟩ = some (.slice Ab s'.args.length cb) ∧ w'.cell? ⟨b', o' + k * 5 + 2, none⟩ = some (.int .i64 s'.kk) ∧ w'.cell? ⟨b', o' + k * 5 + 3, none⟩ = some (.int .i64 s'.c) ∧ w'.cell? ⟨b', o' + k * 5 + 4, none⟩ = some (.int .i64 s'.snap)) (fun c a d v w h => ?_) (by kernel_rfl) ?_ (fun hside hHeld => ?_)
              · (obtain ⟨h1, h2⟩ := h; exact And.intro (put_nil h1) h2)
              · exact ⟨below_drewN (Below.refl _ _) 1, y13, z13, e0, e1, e2, e3, e4, f0, f1, f2, f3, f4⟩
              refine wpAnyH_take (i := 0) (v := ?_) (op_at rfl) (by kernel_rfl) (by kernel_rfl) (by kernel_rfl) (fun _ _ _ h => hside _ _ _ _ _ h) (Or.inl ⟨by rfl, ?_⟩) (by assumption) ?_
              rotate_left
              · (intro w hSw; (try dsimp only at hSw); go_simp; all_goals with_reducible rfl)
              (try simp only [Act.put, List.setIfInBounds_toArray, List.set_cons_zero, List.set_cons_succ])
              refine wpAnyH_take (i := 1) (v := ?_) (op_at rfl) (by kernel_rfl) (by kernel_rfl) (by kernel_rfl) (fun _ _ _ h => hside _ _ _ _ _ h) (Or.inl ⟨by rfl, ?_⟩) (by assumption) ?_
              rotate_left
              · (intro w hSw; (try dsimp only at hSw); go_simp; all_goals with_reducible rfl)
              (try simp only [Act.put, List.setIfInBounds_toArray, List.set_cons_zero, List.set_cons_succ])
              refine wpAnyH_take (i := 2) (v := ?_) (op_at rfl) (by kernel_rfl) (by kernel_rfl) (by kernel_rfl) (fun _ _ _ h => hside _ _ _ _ _ h) (Or.inl ⟨by rfl, ?_⟩) (by assumption) ?_
              rotate_left
              · (intro w hSw; (try dsimp only at hSw); go_simp; all_goals with_reducible rfl)
              (try simp only [Act.put, List.setIfInBounds_toArray, List.set_cons_zero, List.set_cons_succ])
              refine wpAnyH_take (i := 3) (v := ?_) (op_at rfl) (by kernel_rfl) (by kernel_rfl) (by kernel_rfl) (fun _ _ _ h => hside _ _ _ _ _ h) (Or.inl ⟨by rfl, ?_⟩) (by assumption) ?_
              rotate_left
              · (intro w hSw; (try dsimp only at hSw); go_simp; all_goals with_reducible rfl)
              (try simp only [Act.put, List.setIfInBounds_toArray, List.set_cons_zero, List.set_cons_succ])
              refine wpAnyH_take (i := 4) (v := ?_) (op_at rfl) (by kernel_rfl) (by kernel_rfl) (by kernel_rfl) (fun _ _ _ h => hside _ _ _ _ _ h) (Or.inl ⟨by rfl, ?_⟩) (by assumption) ?_
              rotate_left
              · (intro w hSw; (try dsimp only at hSw); go_simp; all_goals with_reducible rfl)
              (try simp only [Act.put, List.setIfInBounds_toArray, List.set_cons_zero, List.set_cons_succ])
              refine wpAnyH_take (i := 5) (v := ?_) (op_at rfl) (by kernel_rfl) (by kernel_rfl) (by kernel_rfl) (fun _ _ _ h => hside _ _ _ _ _ h) (Or.inl ⟨by rfl, ?_⟩) (by assumption) ?_
              rotate_left
              · (intro w hSw; (try dsimp only at hSw); go_simp; all_goals with_reducible rfl)
              (try simp only [Act.put, List.setIfInBounds_toArray, List.set_cons_zero, List.set_cons_succ])
              refine wpAnyH_take (i := 6) (v := ?_) (op_at rfl) (by kernel_rfl) (by kernel_rfl) (by kernel_rfl) (fun _ _ _ h => hside _ _ _ _ _ h) (Or.inl ⟨by rfl, ?_⟩) (by assumption) ?_
              rotate_left
              · (intro w hSw; (try dsimp only at hSw); go_simp; all_goals with_reducible rfl)
              (try simp only [Act.put, List.setIfInBounds_toArray, List.set_cons_zero, List.set_cons_succ])
              refine wpAnyH_take (i := 7) (v := ?_) (op_at rfl) (by kernel_rfl) (by kernel_rfl) (by kernel_rfl) (fun _ _ _ h => hside _ _ _ _ _ h) (Or.inl ⟨by rfl, ?_⟩) (by assumption) ?_
              rotate_left
              · (intro w hSw; (try dsimp only at hSw); go_simp; all_goals with_reducible rfl)
              (try simp only [Act.put, List.setIfInBounds_toArray, List.set_cons_zero, List.set_cons_succ])
              refine wpAnyH_take (i := 8) (v := ?_) (op_at rfl) (by kernel_rfl) (by kernel_rfl) (by kernel_rfl) (fun _ _ _ h => hside _ _ _ _ _ h) (Or.inl ⟨by rfl, ?_⟩) (by assumption) ?_
              rotate_left
              · (intro w hSw; (try dsimp only at hSw); go_simp; all_goals with_reducible rfl)
              (try simp only [Act.put, List.setIfInBounds_toArray, List.set_cons_zero, List.set_cons_succ])
              refine wpAnyH_take (i := 9) (v := ?_) (op_at rfl) (by kernel_rfl) (by kernel_rfl) (by kernel_rfl) (fun _ _ _ h => hside _ _ _ _ _ h) (Or.inl ⟨by rfl, ?_⟩) (by assumption) ?_
              rotate_left
              · (intro w hSw; (try dsimp only at hSw); go_simp; all_goals with_reducible rfl)
              (try simp only [Act.put, List.setIfInBounds_toArray, List.set_cons_zero, List.set_cons_succ])
              have hD : Below wr.heap.size wr wr.drew := below_drewN (Below.refl _ _) 1
              refine wpAnyH_ready (rs := [10, 11]) (by kernel_rfl) (by simp) (AllReadyH.cons (op_at rfl) (fun K hK => ?_) (AllReadyH.cons (op_at rfl) (fun K hK => ?_) AllReadyH.nil))
              · go_simp
                have hHeldB : Below wr.heap.size wr (wr.alloc (.cells #[.int .i64 0, .slice none 0 0, .int .i64 0, .int .i64 0, .int .i64 0] 41)).drew := (below_alloc (Below.refl _ _) _ : Below wr.heap.size wr (wr.alloc (.cells #[.int .i64 0, .slice none 0 0, .int .i64 0, .int .i64 0, .int .i64 0] 41))).drew
                refine hK.out _ _ ?_ (fun hHeld => ?_)
                · exact ⟨hHeldB, cell_later hHeldB y13, cell_later hHeldB z13, cell_later hHeldB e0, cell_later hHeldB e1, cell_later hHeldB e2, cell_later hHeldB e3, cell_later hHeldB e4, cell_later hHeldB f0, cell_later hHeldB f1, cell_later hHeldB f2, cell_later hHeldB f3, cell_later hHeldB f4⟩
                clear hK
                (try simp only [Act.put, List.setIfInBounds_toArray, List.set_cons_zero, List.set_cons_succ])
                clear hHeldB
                refine wpAnyH_ready (rs := [11]) (by kernel_rfl) (by simp) (AllReadyH.cons (op_at rfl) (fun Kr hK => ?_) AllReadyH.nil)
                go_simp
                have hHeldB : Below wr.heap.size wr ((wr.alloc (.cells #[.int .i64 0, .slice none 0 0, .int .i64 0, .int .i64 0, .int .i64 0] 41)).alloc (.cells #[.int .i64 0, .slice none 0 0, .int .i64 0, .int .i64 0, .int .i64 0] 41)).drew := (below_alloc (below_alloc (Below.refl _ _) _) _ : Below wr.heap.size wr ((wr.alloc (.cells #[.int .i64 0, .slice none 0 0, .int .i64 0, .int .i64 0, .int .i64 0] 41)).alloc (.cells #[.int .i64 0, .slice none 0 0, .int .i64 0, .int .i64 0, .int .i64 0] 41))).drew
                refine hK.out _ _ ?_ (fun hHeld => ?_)
                · exact ⟨hHeldB, cell_later hHeldB y13, cell_later hHeldB z13, cell_later hHeldB e0, cell_later hHeldB e1, cell_later hHeldB e2, cell_later hHeldB e3, cell_later hHeldB e4, cell_later hHeldB f0, cell_later hHeldB f1, cell_later hHeldB f2, cell_later hHeldB f3, cell_later hHeldB f4⟩
                clear hK
                (try simp only [Act.put, List.setIfInBounds_toArray, List.set_cons_zero, List.set_cons_succ])
                clear hHeldB
                refine wpAnyH_ready (rs := [12]) (by kernel_rfl) (by simp) (AllReadyH.cons (op_at rfl) (fun Kr hK => ?_) AllReadyH.nil)
                go_simp
                have hHeldB : Below wr.heap.size wr ((wr.alloc (.cells #[.int .i64 s.op, .slice Aa s.args.length ca, .int .i64 s.kk, .int .i64 s.c, .int .i64 s.snap] 41)).alloc (.cells #[.int .i64 0, .slice none 0 0, .int .i64 0, .int .i64 0, .int .i64 0] 41)).drew := (below_alloc (below_alloc (Below.refl _ _) _) _ : Below wr.heap.size wr ((wr.alloc (.cells #[.int .i64 s.op, .slice Aa s.args.length ca, .int .i64 s.kk, .int .i64 s.c, .int .i64 s.snap] 41)).alloc (.cells #[.int .i64 0, .slice none 0 0, .int .i64 0, .int .i64 0, .int .i64 0] 41))).drew
                refine hK.out _ _ ?_ (fun hHeld => ?_)
                · exact ⟨hHeldB, cell_later hHeldB y13, cell_later hHeldB z13, cell_later hHeldB e0, cell_later hHeldB e1, cell_later hHeldB e2, cell_later hHeldB e3, cell_later hHeldB e4, cell_later hHeldB f0, cell_later hHeldB f1, cell_later hHeldB f2, cell_later hHeldB f3, cell_later hHeldB f4⟩
                clear hK
                (try simp only [Act.put, List.setIfInBounds_toArray, List.set_cons_zero, List.set_cons_succ])
                clear hHeldB
                refine wpAnyH_ready (rs := [13]) (by kernel_rfl) (by simp) (AllReadyH.cons (op_at rfl) (fun Kr hK => ?_) AllReadyH.nil)
                go_simp
                have hHeldB : Below wr.heap.size wr ((wr.alloc (.cells #[.int .i64 s.op, .slice Aa s.args.length ca, .int .i64 s.kk, .int .i64 s.c, .int .i64 s.snap] 41)).alloc (.cells #[.int .i64 s'.op, .slice Ab s'.args.length cb, .int .i64 s'.kk, .int .i64 s'.c, .int .i64 s'.snap] 41)).drew := (below_alloc (below_alloc (Below.refl _ _) _) _ : Below wr.heap.size wr ((wr.alloc (.cells #[.int .i64 s.op, .slice Aa s.args.length ca, .int .i64 s.kk, .int .i64 s.c, .int .i64 s.snap] 41)).alloc (.cells #[.int .i64 s'.op, .slice Ab s'.args.length cb, .int .i64 s'.kk, .int .i64 s'.c, .int .i64 s'.snap] 41))).drew
                refine hK.out _ _ ?_ (fun hHeld => ?_)
                · exact ⟨hHeldB, cell_later hHeldB y13, cell_later hHeldB z13, cell_later hHeldB e0, cell_later hHeldB e1, cell_later hHeldB e2, cell_later hHeldB e3, cell_later hHeldB e4, cell_later hHeldB f0, cell_later hHeldB f1, cell_later hHeldB f2, cell_later hHeldB f3, cell_later hHeldB f4⟩
                clear hK
                (try simp only [Act.put, List.setIfInBounds_toArray, List.set_cons_zero, List.set_cons_succ])
                clear hHeldB
                refine wpAnyH_done (by kernel_rfl) ?_ _
                go_wp2_with fail
                go_meet
                have h1 := heap_alloc_last wr (.cells #[.int .i64 s.op, .slice Aa s.args.length ca, .int .i64 s.kk, .int .i64 s.c, .int .i64 s.snap] 41)
                have h2 := heap_alloc_last (wr.alloc (.cells #[.int .i64 s.op, .slice Aa s.args.length ca, .int .i64 s.kk, .int .i64 s.c, .int .i64 s.snap] 41)) (.cells #[.int .i64 s'.op, .slice Ab s'.args.length cb, .int .i64 s'.kk, .int .i64 s'.c, .int .i64 s'.snap] 41)
                rw [World.size_alloc] at h2
                have h3 := (Below.heap_alloc (wr.alloc (.cells #[.int .i64 s.op, .slice Aa s.args.length ca, .int .i64 s.kk, .int .i64 s.c, .int .i64 s.snap] 41)) (.cells #[.int .i64 s'.op, .slice Ab s'.args.length cb, .int .i64 s'.kk, .int .i64 s'.c, .int .i64 s'.snap] 41) wr.heap.size (by simp)).trans h1
                exact ⟨_, _, rfl, rfl, h3, h2, (below_alloc (below_alloc (Below.refl wr.heap.size wr) _) _).drew⟩
              · go_simp
                have hHeldB : Below wr.heap.size wr (wr.alloc (.cells #[.int .i64 0, .slice none 0 0, .int .i64 0, .int .i64 0, .int .i64 0] 41)).drew := (below_alloc (Below.refl _ _) _ : Below wr.heap.size wr (wr.alloc (.cells #[.int .i64 0, .slice none 0 0, .int .i64 0, .int .i64 0, .int .i64 0] 41))).drew
                refine hK.out _ _ ?_ (fun hHeld => ?_)
                · exact ⟨hHeldB, cell_later hHeldB y13, cell_later hHeldB z13, cell_later hHeldB e0, cell_later hHeldB e1, cell_later hHeldB e2, cell_later hHeldB e3, cell_later hHeldB e4, cell_later hHeldB f0, cell_later hHeldB f1, cell_later hHeldB f2, cell_later hHeldB f3, cell_later hHeldB f4⟩
                clear hK
                (try simp only [Act.put, List.setIfInBounds_toArray, List.set_cons_zero, List.set_cons_succ])
                clear hHeldB
                refine wpAnyH_ready (rs := [10]) (by kernel_rfl) (by simp) (AllReadyH.cons (op_at rfl) (fun Kr hK => ?_) AllReadyH.nil)
                go_simp
                have hHeldB : Below wr.heap.size wr ((wr.alloc (.cells #[.int .i64 0, .slice none 0 0, .int .i64 0, .int .i64 0, .int .i64 0] 41)).alloc (.cells #[.int .i64 0, .slice none 0 0, .int .i64 0, .int .i64 0, .int .i64 0] 41)).drew := (below_alloc (below_alloc (Below.refl _ _) _) _ : Below wr.heap.size wr ((wr.alloc (.cells #[.int .i64 0, .slice none 0 0, .int .i64 0, .int .i64 0, .int .i64 0] 41)).alloc (.cells #[.int .i64 0, .slice none 0 0, .int .i64 0, .int .i64 0, .int .i64 0] 41))).drew
                refine hK.out _ _ ?_ (fun hHeld => ?_)
                · exact ⟨hHeldB, cell_later hHeldB y13, cell_later hHeldB z13, cell_later hHeldB e0, cell_later hHeldB e1, cell_later hHeldB e2, cell_later hHeldB e3, cell_later hHeldB e4, cell_later hHeldB f0, cell_later hHeldB f1, cell_later hHeldB f2, cell_later hHeldB f3, cell_later hHeldB f4⟩
                clear hK
                (try simp only [Act.put, List.setIfInBounds_toArray, List.set_cons_zero, List.set_cons_succ])
                clear hHeldB
                refine wpAnyH_ready (rs := [12]) (by kernel_rfl) (by simp) (AllReadyH.cons (op_at rfl) (fun Kr hK => ?_) AllReadyH.nil)
                go_simp
                have hHeldB : Below wr.heap.size wr ((wr.alloc (.cells #[.int .i64 0, .slice none 0 0, .int .i64 0, .int .i64 0, .int .i64 0] 41)).alloc (.cells #[.int .i64 s.op, .slice Aa s.args.length ca, .int .i64 s.kk, .int .i64 s.c, .int .i64 s.snap] 41)).drew := (below_alloc (below_alloc (Below.refl _ _) _) _ : Below wr.heap.size wr ((wr.alloc (.cells #[.int .i64 0, .slice none 0 0, .int .i64 0, .int .i64 0, .int .i64 0] 41)).alloc (.cells #[.int .i64 s.op, .slice Aa s.args.length ca, .int .i64 s.kk, .int .i64 s.c, .int .i64 s.snap] 41))).drew
                refine hK.out _ _ ?_ (fun hHeld => ?_)
                · exact ⟨hHeldB, cell_later hHeldB y13, cell_later hHeldB z13, cell_later hHeldB e0, cell_later hHeldB e1, cell_later hHeldB e2, cell_later hHeldB e3, cell_later hHeldB e4, cell_later hHeldB f0, cell_later hHeldB f1, cell_later hHeldB f2, cell_later hHeldB f3, cell_later hHeldB f4⟩
                clear hK
                (try simp only [Act.put, List.setIfInBounds_toArray, List.set_cons_zero, List.set_cons_succ])
                clear hHeldB
                refine wpAnyH_ready (rs := [13]) (by kernel_rfl) (by simp) (AllReadyH.cons (op_at rfl) (fun Kr hK => ?_) AllReadyH.nil)
                go_simp
                have hHeldB : Below wr.heap.size wr ((wr.alloc (.cells #[.int .i64 s'.op, .slice Ab s'.args.length cb, .int .i64 s'.kk, .int .i64 s'.c, .int .i64 s'.snap] 41)).alloc (.cells #[.int .i64 s.op, .slice Aa s.args.length ca, .int .i64 s.kk, .int .i64 s.c, .int .i64 s.snap] 41)).drew := (below_alloc (below_alloc (Below.refl _ _) _) _ : Below wr.heap.size wr ((wr.alloc (.cells #[.int .i64 s'.op, .slice Ab s'.args.length cb, .int .i64 s'.kk, .int .i64 s'.c, .int .i64 s'.snap] 41)).alloc (.cells #[.int .i64 s.op, .slice Aa s.args.length ca, .int .i64 s.kk, .int .i64 s.c, .int .i64 s.snap] 41))).drew
                refine hK.out _ _ ?_ (fun hHeld => ?_)
                · exact ⟨hHeldB, cell_later hHeldB y13, cell_later hHeldB z13, cell_later hHeldB e0, cell_later hHeldB e1, cell_later hHeldB e2, cell_later hHeldB e3, cell_later hHeldB e4, cell_later hHeldB f0, cell_later hHeldB f1, cell_later hHeldB f2, cell_later hHeldB f3, cell_later hHeldB f4⟩
                clear hK
                (try simp only [Act.put, List.setIfInBounds_toArray, List.set_cons_zero, List.set_cons_succ])
                clear hHeldB
                refine wpAnyH_done (by kernel_rfl) ?_ _
                go_wp2_with fail
                go_meet
                have h1 := heap_alloc_last wr (.cells #[.int .i64 s'.op, .slice Ab s'.args.length cb, .int .i64 s'.kk, .int .i64 s'.c, .int .i64 s'.snap] 41)
                have h2 := heap_alloc_last (wr.alloc (.cells #[.int .i64 s'.op, .slice Ab s'.args.length cb, .int .i64 s'.kk, .int .i64 s'.c, .int .i64 s'.snap] 41)) (.cells #[.int .i64 s.op, .slice Aa s.args.length ca, .int .i64 s.kk, .int .i64 s.c, .int .i64 s.snap] 41)
                rw [World.size_alloc] at h2
                have h3 := (Below.heap_alloc (wr.alloc (.cells #[.int .i64 s'.op, .slice Ab s'.args.length cb, .int .i64 s'.kk, .int .i64 s'.c, .int .i64 s'.snap] 41)) (.cells #[.int .i64 s.op, .slice Aa s.args.length ca, .int .i64 s.kk, .int .i64 s.c, .int .i64 s.snap] 41) wr.heap.size (by simp)).trans h1
                exact ⟨_, _, rfl, rfl, h2, h3, (below_alloc (below_alloc (Below.refl wr.heap.size wr) _) _).drew⟩
            case rest =>
              obtain ⟨b1, b2, rfl, rfl, hb1, hb2, hBx⟩ := hcut
              have g0 := cell_of_row _ b1 0 _ _ _ hb1.out
              have g1 := cell_of_row _ b1 1 _ _ _ hb1.out
              have g2 := cell_of_row _ b1 2 _ _ _ hb1.out
              have g3 := cell_of_row _ b1 3 _ _ _ hb1.out
              have g4 := cell_of_row _ b1 4 _ _ _ hb1.out
              have i0 := cell_of_row _ b2 0 _ _ _ hb2.out
              have i1 := cell_of_row _ b2 1 _ _ _ hb2.out
              have i2 := cell_of_row _ b2 2 _ _ _ hb2.out
              have i3 := cell_of_row _ b2 3 _ _ _ hb2.out
              have i4 := cell_of_row _ b2 4 _ _ _ hb2.out
              simp only [List.getElem?_toArray, List.getElem?_cons_zero, List.getElem?_cons_succ] at g0 g1 g2 g3 g4 i0 i1 i2 i3 i4
              have HBX := Lib.hid (HBv.out.trans (hBx.mono HBv.out.size))
              have HRA2 := Lib.hid (HRA.out.2.2.2.below hBx (fun _ _ h => h))
              have HRB2 := Lib.hid (HRB.out.2.2.2.below hBx (fun _ _ h => h))
              have hno : ¬ s = s' → decide (T.t = S.t) = false := fun hss => HNE.out (T.t.ops = S.t.ops) (fun h => by
                have h1 := HX.out
                rw [h, HY.out] at h1
                exact hss (Option.some.inj h1).symm) (fun h => by rw [h])
              have HNO := Lib.hid hno
              clear hno hBx y13 z13 e0 e1 e2 e3 e4 f0 f1 f2 f3 f4 pt13 ps13
              by_cases q_op : s.op = s'.op
              rotate_left
              · have d1 : (s.op != s'.op) = true := by simpa using q_op
                go_wp2_with fail
                go_ret
                refine ⟨?_, below_then HB2.out (below_then HB1.out HBX.out)⟩
                rw [← HRES.out, HNO.out (fun h => q_op (by rw [h]))]
                rfl
              have d_op : (s.op != s'.op) = false := by simpa using q_op
              by_cases q_kk : s.kk = s'.kk
              rotate_left
              · have d1 : (s.kk != s'.kk) = true := by simpa using q_kk
                go_wp2_with fail
                go_ret
                refine ⟨?_, below_then HB2.out (below_then HB1.out HBX.out)⟩
                rw [← HRES.out, HNO.out (fun h => q_kk (by rw [h]))]
                rfl
              have d_kk : (s.kk != s'.kk) = false := by simpa using q_kk
              by_cases q_c : s.c = s'.c
              rotate_left
              · have d1 : (s.c != s'.c) = true := by simpa using q_c
                go_wp2_with fail
                go_ret
                refine ⟨?_, below_then HB2.out (below_then HB1.out HBX.out)⟩
                rw [← HRES.out, HNO.out (fun h => q_c (by rw [h]))]
                rfl
              have d_c : (s.c != s'.c) = false := by simpa using q_c
              by_cases q_snap : s.snap = s'.snap
              rotate_left
              · have d1 : (s.snap != s'.snap) = true := by simpa using q_snap
                go_wp2_with fail
                go_ret
                refine ⟨?_, below_then HB2.out (below_then HB1.out HBX.out)⟩
                rw [← HRES.out, HNO.out (fun h => q_snap (by rw [h]))]
                rfl
              have d_snap : (s.snap != s'.snap) = false := by simpa using q_snap
              go_wp2_with (go_at_call 61; refine (refsame_any Aa Ab ca cb s.args s'.args _ HRA2.out HRB2.out HRA.out.2.2.1 HRB.out.2.2.1).mono ?_)
              rintro e w9 rfl hB9
              have HB9 := Lib.hid (below_then HBX.out hB9)
              clear hB9
              cases hda : decide (s.args = s'.args) with
              | false =>
                go_wp2_with fail
                go_ret
                refine ⟨?_, below_then HB2.out (below_then HB1.out HB9.out)⟩
                rw [← HRES.out, HNO.out (fun h => by rw [h] at hda; simp at hda)]
                rfl
              | true =>
                have hss : s = s' := by
                  have ha : s.args = s'.args := by simpa using hda
                  have hh : ∀ x y : TOp, x.op = y.op → x.args = y.args → x.kk = y.kk → x.c = y.c → x.snap = y.snap → x = y := by
                    rintro ⟨⟩ ⟨⟩ h1 h2 h3 h4 h5
                    simp only at h1 h2 h3 h4 h5
                    subst h1; subst h2; subst h3; subst h4; subst h5
                    rfl
                  exact hh _ _ q_op ha q_kk q_c q_snap
                have HK : Hid (T.t.ops.take (k + 1) = S.t.ops.take (k + 1)) := by
                  show _ = _
                  rw [List.take_succ_eq_append_getElem hlt, List.take_succ_eq_append_getElem (by have := HLO.out; omega), htk.out, (List.getElem?_eq_some_iff.1 HX.out).2, (List.getElem?_eq_some_iff.1 HY.out).2, hss]
                clear hss hda
                go_wp2_with fail
                go_roundw
                case rel => exact ⟨k + 1, by go_num, by omega, HK, HB9.out⟩
                case measure => simp [intOf]; omega
          · have hkl : k = T.t.ops.length := by omega
            subst hkl
            have HOPS : Hid (T.t.ops = S.t.ops) := by
              have h1 := htk.out
              rw [List.take_length, HLO.out, List.take_length] at h1
              exact h1
            have pt14 := cell_later hB (cell_later HB1.out t14)
            have ps14 := cell_later hB (cell_later HB1.out s14)
            have HB2' := Lib.hid (below_then HB1.out hB)
            clear hlt hk htk hB HBv
            obtain ⟨wl, rfl⟩ : ∃ wl, wl = wr := ⟨_, rfl⟩
            go_wp2_with fail
            have hll : (T.t.links.length : Int) ≤ 1048576 := by have := HT.out.l.2.2.1; omega
            go_loopw [148] (fun s148 wq => ∃ (k : Nat), s148 = .int .i64 k ∧ k ≤ T.t.links.length ∧ Hid (T.t.links.take k = S.t.links.take k) ∧ Below wl.heap.size wl wq)
              (fun s148 _ => T.t.links.length - (intOf s148).toNat)
            case atStart => exact ⟨0, rfl, Nat.zero_le _, rfl, Below.refl _ _⟩
            case round =>
              obtain ⟨k, rfl, hk, htk, hB⟩ := hrel
              have HBr := Lib.hid (below_then HB2'.out hB)
              have HBu := Lib.hid hB
              by_cases hlt : k < T.t.links.length
              · obtain ⟨s, hs⟩ : ∃ s, T.t.links[k]? = some s := ⟨_, List.getElem?_eq_getElem hlt⟩
                obtain ⟨s', hs'⟩ : ∃ s', S.t.links[k]? = some s' := ⟨_, List.getElem?_eq_getElem (by have := HLL.out; omega)⟩
                obtain ⟨b, o, Aa, ca, hA, hb, e0, e1, e2, e3, e4, hra⟩ := lnk_get (HT.out.below HBr.out).l.2.2.2 hs
                obtain ⟨b', o', Ab, cb, hA', hb', f0, f1, f2, f3, f4, hrb⟩ := lnk_get (HS.out.below HBr.out).l.2.2.2 hs'
                have y14 := cell_later hB pt14
                have z14 := cell_later hB ps14
                rw [hA] at y14
                rw [hA', ← HLL.out] at z14
                have HX := Lib.hid hs
                have HY := Lib.hid hs'
                have HRA := Lib.hid hra
                have HRB := Lib.hid hrb
                clear hs hs' hA hA' hb hb' hB hra hrb
                go_upto_region 19 with fail
                go_cut [10, 11] from 151 to 160 (fun s10 s11 wx => ∃ b1 b2 : Nat, s10 = .pointer (some ⟨b1, 0, none⟩) ∧ s11 = .pointer (some ⟨b2, 0, none⟩) ∧ Hid (wx.heap[b1]? = some (.cells #[.int .i64 s.up, .int .i64 s.fn, .int .i64 s.pc, .int .i64 s.into, .slice Aa s.regs.length ca] 66 (0, 0))) ∧ Hid (wx.heap[b2]? = some (.cells #[.int .i64 s'.up, .int .i64 s'.fn, .int .i64 s'.pc, .int .i64 s'.into, .slice Ab s'.regs.length cb] 66 (0, 0))) ∧ Below wr.heap.size wr wx)
                case first =>
                  (try simp only [Act.put, List.setIfInBounds_toArray, List.set_cons_zero, List.set_cons_succ])
                  refine drawn_begin (fun w' => Below wr.heap.size wr w' ∧ w'.cell? ⟨w.heap.size, 14, none⟩ = some (.slice (some ⟨b, o, none⟩) T.t.links.length T.l.c) ∧ w'.cell? ⟨w.heap.size + 1, 14, none⟩ = some (.slice (some ⟨b', o', none⟩) T.t.links.length S.l.c) ∧
                    w'.cell? ⟨b, o + k * 5, none⟩ = some (.int .i64 s.up) ∧ w'.cell? ⟨b, o + k * 5 + 1, none⟩ = some (.int .i64 s.fn) ∧ w'.cell? ⟨b, o + k * 5 + 2, none⟩ = some (.int .i64 s.pc) ∧ w'.cell? ⟨b, o + k * 5 + 3, none⟩ = some (.int .i64 s.into) ∧ w'.cell? ⟨b, o + k * 5 + 4, none⟩ = some (.slice Aa s.regs.length ca) ∧
                    w'.cell? ⟨b', o' + k * 5, none⟩ = some (.int .i64 s'.up) ∧ w'.cell? ⟨b', o' + k * 5 + 1, none⟩ = some (.int .i64 s'.fn) ∧ w'.cell? ⟨b', o' + k * 5 + 2, none⟩ = some (.int .i64 s'.pc) ∧ w'.cell? ⟨b', o' + k * 5 + 3, none⟩ = some (.int .i64 s'.into) ∧ w'.cell? ⟨b', o' + k * 5 + 4, none⟩ = some (.slice Ab s'.regs.length cb)) (fun c a d v w h => ?_) (by kernel_rfl) ?_ (fun hside hHeld => ?_)
                  · (obtain ⟨h1, h2⟩ := h; exact And.intro (put_nil h1) h2)
                  · exact ⟨below_drewN (Below.refl _ _) 1, y14, z14, e0, e1, e2, e3, e4, f0, f1, f2, f3, f4⟩
                  refine wpAnyH_take (i := 0) (v := ?_) (op_at rfl) (by kernel_rfl) (by kernel_rfl) (by kernel_rfl) (fun _ _ _ h => hside _ _ _ _ _ h) (Or.inl ⟨by rfl, ?_⟩) (by assumption) ?_
                  rotate_left
                  · (intro w hSw; (try dsimp only at hSw); go_simp; all_goals with_reducible rfl)
                  (try simp only [Act.put, List.setIfInBounds_toArray, List.set_cons_zero, List.set_cons_succ])
                  refine wpAnyH_take (i := 1) (v := ?_) (op_at rfl) (by kernel_rfl) (by kernel_rfl) (by kernel_rfl) (fun _ _ _ h => hside _ _ _ _ _ h) (Or.inl ⟨by rfl, ?_⟩) (by assumption) ?_
                  rotate_left
                  · (intro w hSw; (try dsimp only at hSw); go_simp; all_goals with_reducible rfl)
                  (try simp only [Act.put, List.setIfInBounds_toArray, List.set_cons_zero, List.set_cons_succ])
                  refine wpAnyH_take (i := 2) (v := ?_) (op_at rfl) (by kernel_rfl) (by kernel_rfl) (by kernel_rfl) (fun _ _ _ h => hside _ _ _ _ _ h) (Or.inl ⟨by rfl, ?_⟩) (by assumption) ?_
                  rotate_left
                  · (intro w hSw; (try dsimp only at hSw); go_simp; all_goals with_reducible rfl)
                  (try simp only [Act.put, List.setIfInBounds_toArray, List.set_cons_zero, List.set_cons_succ])
                  refine wpAnyH_take (i := 3) (v := ?_) (op_at rfl) (by kernel_rfl) (by kernel_rfl) (by kernel_rfl) (fun _ _ _ h => hside _ _ _ _ _ h) (Or.inl ⟨by rfl, ?_⟩) (by assumption) ?_
                  rotate_left
                  · (intro w hSw; (try dsimp only at hSw); go_simp; all_goals with_reducible rfl)
                  (try simp only [Act.put, List.setIfInBounds_toArray, List.set_cons_zero, List.set_cons_succ])
                  refine wpAnyH_take (i := 4) (v := ?_) (op_at rfl) (by kernel_rfl) (by kernel_rfl) (by kernel_rfl) (fun _ _ _ h => hside _ _ _ _ _ h) (Or.inl ⟨by rfl, ?_⟩) (by assumption) ?_
                  rotate_left
                  · (intro w hSw; (try dsimp only at hSw); go_simp; all_goals with_reducible rfl)
                  (try simp only [Act.put, List.setIfInBounds_toArray, List.set_cons_zero, List.set_cons_succ])
                  refine wpAnyH_take (i := 5) (v := ?_) (op_at rfl) (by kernel_rfl) (by kernel_rfl) (by kernel_rfl) (fun _ _ _ h => hside _ _ _ _ _ h) (Or.inl ⟨by rfl, ?_⟩) (by assumption) ?_
                  rotate_left
                  · (intro w hSw; (try dsimp only at hSw); go_simp; all_goals with_reducible rfl)
                  (try simp only [Act.put, List.setIfInBounds_toArray, List.set_cons_zero, List.set_cons_succ])
                  refine wpAnyH_take (i := 6) (v := ?_) (op_at rfl) (by kernel_rfl) (by kernel_rfl) (by kernel_rfl) (fun _ _ _ h => hside _ _ _ _ _ h) (Or.inl ⟨by rfl, ?_⟩) (by assumption) ?_
                  rotate_left
                  · (intro w hSw; (try dsimp only at hSw); go_simp; all_goals with_reducible rfl)
                  (try simp only [Act.put, List.setIfInBounds_toArray, List.set_cons_zero, List.set_cons_succ])
                  refine wpAnyH_take (i := 7) (v := ?_) (op_at rfl) (by kernel_rfl) (by kernel_rfl) (by kernel_rfl) (fun _ _ _ h => hside _ _ _ _ _ h) (Or.inl ⟨by rfl, ?_⟩) (by assumption) ?_
                  rotate_left
                  · (intro w hSw; (try dsimp only at hSw); go_simp; all_goals with_reducible rfl)
                  (try simp only [Act.put, List.setIfInBounds_toArray, List.set_cons_zero, List.set_cons_succ])
                  refine wpAnyH_take (i := 8) (v := ?_) (op_at rfl) (by kernel_rfl) (by kernel_rfl) (by kernel_rfl) (fun _ _ _ h => hside _ _ _ _ _ h) (Or.inl ⟨by rfl, ?_⟩) (by assumption) ?_
                  rotate_left
                  · (intro w hSw; (try dsimp only at hSw); go_simp; all_goals with_reducible rfl)
                  (try simp only [Act.put, List.setIfInBounds_toArray, List.set_cons_zero, List.set_cons_succ])
                  refine wpAnyH_take (i := 9) (v := ?_) (op_at rfl) (by kernel_rfl) (by kernel_rfl) (by kernel_rfl) (fun _ _ _ h => hside _ _ _ _ _ h) (Or.inl ⟨by rfl, ?_⟩) (by assumption) ?_
                  rotate_left
                  · (intro w hSw; (try dsimp only at hSw); go_simp; all_goals with_reducible rfl)
                  (try simp only [Act.put, List.setIfInBounds_toArray, List.set_cons_zero, List.set_cons_succ])
                  have hD : Below wr.heap.size wr wr.drew := below_drewN (Below.refl _ _) 1
                  refine wpAnyH_ready (rs := [10, 11]) (by kernel_rfl) (by simp) (AllReadyH.cons (op_at rfl) (fun K hK => ?_) (AllReadyH.cons (op_at rfl) (fun K hK => ?_) AllReadyH.nil))
                  · go_simp
                    have hHeldB : Below wr.heap.size wr (wr.alloc (.cells #[.int .i64 0, .int .i64 0, .int .i64 0, .int .i64 0, .slice none 0 0] 66)).drew := (below_alloc (Below.refl _ _) _ : Below wr.heap.size wr (wr.alloc (.cells #[.int .i64 0, .int .i64 0, .int .i64 0, .int .i64 0, .slice none 0 0] 66))).drew
                    refine hK.out _ _ ?_ (fun hHeld => ?_)
                    · exact ⟨hHeldB, cell_later hHeldB y14, cell_later hHeldB z14, cell_later hHeldB e0, cell_later hHeldB e1, cell_later hHeldB e2, cell_later hHeldB e3, cell_later hHeldB e4, cell_later hHeldB f0, cell_later hHeldB f1, cell_later hHeldB f2, cell_later hHeldB f3, cell_later hHeldB f4⟩
                    clear hK
                    (try simp only [Act.put, List.setIfInBounds_toArray, List.set_cons_zero, List.set_cons_succ])
                    clear hHeldB
                    refine wpAnyH_ready (rs := [11]) (by kernel_rfl) (by simp) (AllReadyH.cons (op_at rfl) (fun Kr hK => ?_) AllReadyH.nil)
                    go_simp
                    have hHeldB : Below wr.heap.size wr ((wr.alloc (.cells #[.int .i64 0, .int .i64 0, .int .i64 0, .int .i64 0, .slice none 0 0] 66)).alloc (.cells #[.int .i64 0, .int .i64 0, .int .i64 0, .int .i64 0, .slice none 0 0] 66)).drew := (below_alloc (below_alloc (Below.refl _ _) _) _ : Below wr.heap.size wr ((wr.alloc (.cells #[.int .i64 0, .int .i64 0, .int .i64 0, .int .i64 0, .slice none 0 0] 66)).alloc (.cells #[.int .i64 0, .int .i64 0, .int .i64 0, .int .i64 0, .slice none 0 0] 66))).drew
                    refine hK.out _ _ ?_ (fun hHeld => ?_)
                    · exact ⟨hHeldB, cell_later hHeldB y14, cell_later hHeldB z14, cell_later hHeldB e0, cell_later hHeldB e1, cell_later hHeldB e2, cell_later hHeldB e3, cell_later hHeldB e4, cell_later hHeldB f0, cell_later hHeldB f1, cell_later hHeldB f2, cell_later hHeldB f3, cell_later hHeldB f4⟩
                    clear hK
                    (try simp only [Act.put, List.setIfInBounds_toArray, List.set_cons_zero, List.set_cons_succ])
                    clear hHeldB
                    refine wpAnyH_ready (rs := [12]) (by kernel_rfl) (by simp) (AllReadyH.cons (op_at rfl) (fun Kr hK => ?_) AllReadyH.nil)
                    go_simp
                    have hHeldB : Below wr.heap.size wr ((wr.alloc (.cells #[.int .i64 s.up, .int .i64 s.fn, .int .i64 s.pc, .int .i64 s.into, .slice Aa s.regs.length ca] 66)).alloc (.cells #[.int .i64 0, .int .i64 0, .int .i64 0, .int .i64 0, .slice none 0 0] 66)).drew := (below_alloc (below_alloc (Below.refl _ _) _) _ : Below wr.heap.size wr ((wr.alloc (.cells #[.int .i64 s.up, .int .i64 s.fn, .int .i64 s.pc, .int .i64 s.into, .slice Aa s.regs.length ca] 66)).alloc (.cells #[.int .i64 0, .int .i64 0, .int .i64 0, .int .i64 0, .slice none 0 0] 66))).drew
                    refine hK.out _ _ ?_ (fun hHeld => ?_)
                    · exact ⟨hHeldB, cell_later hHeldB y14, cell_later hHeldB z14, cell_later hHeldB e0, cell_later hHeldB e1, cell_later hHeldB e2, cell_later hHeldB e3, cell_later hHeldB e4, cell_later hHeldB f0, cell_later hHeldB f1, cell_later hHeldB f2, cell_later hHeldB f3, cell_later hHeldB f4⟩
                    clear hK
                    (try simp only [Act.put, List.setIfInBounds_toArray, List.set_cons_zero, List.set_cons_succ])
                    clear hHeldB
                    refine wpAnyH_ready (rs := [13]) (by kernel_rfl) (by simp) (AllReadyH.cons (op_at rfl) (fun Kr hK => ?_) AllReadyH.nil)
                    go_simp
                    have hHeldB : Below wr.heap.size wr ((wr.alloc (.cells #[.int .i64 s.up, .int .i64 s.fn, .int .i64 s.pc, .int .i64 s.into, .slice Aa s.regs.length ca] 66)).alloc (.cells #[.int .i64 s'.up, .int .i64 s'.fn, .int .i64 s'.pc, .int .i64 s'.into, .slice Ab s'.regs.length cb] 66)).drew := (below_alloc (below_alloc (Below.refl _ _) _) _ : Below wr.heap.size wr ((wr.alloc (.cells #[.int .i64 s.up, .int .i64 s.fn, .int .i64 s.pc, .int .i64 s.into, .slice Aa s.regs.length ca] 66)).alloc (.cells #[.int .i64 s'.up, .int .i64 s'.fn, .int .i64 s'.pc, .int .i64 s'.into, .slice Ab s'.regs.length cb] 66))).drew
                    refine hK.out _ _ ?_ (fun hHeld => ?_)
                    · exact ⟨hHeldB, cell_later hHeldB y14, cell_later hHeldB z14, cell_later hHeldB e0, cell_later hHeldB e1, cell_later hHeldB e2, cell_later hHeldB e3, cell_later hHeldB e4, cell_later hHeldB f0, cell_later hHeldB f1, cell_later hHeldB f2, cell_later hHeldB f3, cell_later hHeldB f4⟩
                    clear hK
                    (try simp only [Act.put, List.setIfInBounds_toArray, List.set_cons_zero, List.set_cons_succ])
                    clear hHeldB
                    refine wpAnyH_done (by kernel_rfl) ?_ _
                    go_wp2_with fail
                    go_meet
                    have h1 := heap_alloc_last wr (.cells #[.int .i64 s.up, .int .i64 s.fn, .int .i64 s.pc, .int .i64 s.into, .slice Aa s.regs.length ca] 66)
                    have h2 := heap_alloc_last (wr.alloc (.cells #[.int .i64 s.up, .int .i64 s.fn, .int .i64 s.pc, .int .i64 s.into, .slice Aa s.regs.length ca] 66)) (.cells #[.int .i64 s'.up, .int .i64 s'.fn, .int .i64 s'.pc, .int .i64 s'.into, .slice Ab s'.regs.length cb] 66)
                    rw [World.size_alloc] at h2
                    have h3 := (Below.heap_alloc (wr.alloc (.cells #[.int .i64 s.up, .int .i64 s.fn, .int .i64 s.pc, .int .i64 s.into, .slice Aa s.regs.length ca] 66)) (.cells #[.int .i64 s'.up, .int .i64 s'.fn, .int .i64 s'.pc, .int .i64 s'.into, .slice Ab s'.regs.length cb] 66) wr.heap.size (by simp)).trans h1
                    exact ⟨_, _, rfl, rfl, h3, h2, (below_alloc (below_alloc (Below.refl wr.heap.size wr) _) _).drew⟩
                  · go_simp
                    have hHeldB : Below wr.heap.size wr (wr.alloc (.cells #[.int .i64 0, .int .i64 0, .int .i64 0, .int .i64 0, .slice none 0 0] 66)).drew := (below_alloc (Below.refl _ _) _ : Below wr.heap.size wr (wr.alloc (.cells #[.int .i64 0, .int .i64 0, .int .i64 0, .int .i64 0, .slice none 0 0] 66))).drew
                    refine hK.out _ _ ?_ (fun hHeld => ?_)
                    · exact ⟨hHeldB, cell_later hHeldB y14, cell_later hHeldB z14, cell_later hHeldB e0, cell_later hHeldB e1, cell_later hHeldB e2, cell_later hHeldB e3, cell_later hHeldB e4, cell_later hHeldB f0, cell_later hHeldB f1, cell_later hHeldB f2, cell_later hHeldB f3, cell_later hHeldB f4⟩
                    clear hK
                    (try simp only [Act.put, List.setIfInBounds_toArray, List.set_cons_zero, List.set_cons_succ])
                    clear hHeldB
                    refine wpAnyH_ready (rs := [10]) (by kernel_rfl) (by simp) (AllReadyH.cons (op_at rfl) (fun Kr hK => ?_) AllReadyH.nil)
                    go_simp
                    have hHeldB : Below wr.heap.size wr ((wr.alloc (.cells #[.int .i64 0, .int .i64 0, .int .i64 0, .int .i64 0, .slice none 0 0] 66)).alloc (.cells #[.int .i64 0, .int .i64 0, .int .i64 0, .int .i64 0, .slice none 0 0] 66)).drew := (below_alloc (below_alloc (Below.refl _ _) _) _ : Below wr.heap.size wr ((wr.alloc (.cells #[.int .i64 0, .int .i64 0, .int .i64 0, .int .i64 0, .slice none 0 0] 66)).alloc (.cells #[.int .i64 0, .int .i64 0, .int .i64 0, .int .i64 0, .slice none 0 0] 66))).drew
                    refine hK.out _ _ ?_ (fun hHeld => ?_)
                    · exact ⟨hHeldB, cell_later hHeldB y14, cell_later hHeldB z14, cell_later hHeldB e0, cell_later hHeldB e1, cell_later hHeldB e2, cell_later hHeldB e3, cell_later hHeldB e4, cell_later hHeldB f0, cell_later hHeldB f1, cell_later hHeldB f2, cell_later hHeldB f3, cell_later hHeldB f4⟩
                    clear hK
                    (try simp only [Act.put, List.setIfInBounds_toArray, List.set_cons_zero, List.set_cons_succ])
                    clear hHeldB
                    refine wpAnyH_ready (rs := [12]) (by kernel_rfl) (by simp) (AllReadyH.cons (op_at rfl) (fun Kr hK => ?_) AllReadyH.nil)
                    go_simp
                    have hHeldB : Below wr.heap.size wr ((wr.alloc (.cells #[.int .i64 0, .int .i64 0, .int .i64 0, .int .i64 0, .slice none 0 0] 66)).alloc (.cells #[.int .i64 s.up, .int .i64 s.fn, .int .i64 s.pc, .int .i64 s.into, .slice Aa s.regs.length ca] 66)).drew := (below_alloc (below_alloc (Below.refl _ _) _) _ : Below wr.heap.size wr ((wr.alloc (.cells #[.int .i64 0, .int .i64 0, .int .i64 0, .int .i64 0, .slice none 0 0] 66)).alloc (.cells #[.int .i64 s.up, .int .i64 s.fn, .int .i64 s.pc, .int .i64 s.into, .slice Aa s.regs.length ca] 66))).drew
                    refine hK.out _ _ ?_ (fun hHeld => ?_)
                    · exact ⟨hHeldB, cell_later hHeldB y14, cell_later hHeldB z14, cell_later hHeldB e0, cell_later hHeldB e1, cell_later hHeldB e2, cell_later hHeldB e3, cell_later hHeldB e4, cell_later hHeldB f0, cell_later hHeldB f1, cell_later hHeldB f2, cell_later hHeldB f3, cell_later hHeldB f4⟩
                    clear hK
                    (try simp only [Act.put, List.setIfInBounds_toArray, List.set_cons_zero, List.set_cons_succ])
                    clear hHeldB
                    refine wpAnyH_ready (rs := [13]) (by kernel_rfl) (by simp) (AllReadyH.cons (op_at rfl) (fun Kr hK => ?_) AllReadyH.nil)
                    go_simp
                    have hHeldB : Below wr.heap.size wr ((wr.alloc (.cells #[.int .i64 s'.up, .int .i64 s'.fn, .int .i64 s'.pc, .int .i64 s'.into, .slice Ab s'.regs.length cb] 66)).alloc (.cells #[.int .i64 s.up, .int .i64 s.fn, .int .i64 s.pc, .int .i64 s.into, .slice Aa s.regs.length ca] 66)).drew := (below_alloc (below_alloc (Below.refl _ _) _) _ : Below wr.heap.size wr ((wr.alloc (.cells #[.int .i64 s'.up, .int .i64 s'.fn, .int .i64 s'.pc, .int .i64 s'.into, .slice Ab s'.regs.length cb] 66)).alloc (.cells #[.int .i64 s.up, .int .i64 s.fn, .int .i64 s.pc, .int .i64 s.into, .slice Aa s.regs.length ca] 66))).drew
                    refine hK.out _ _ ?_ (fun hHeld => ?_)
                    · exact ⟨hHeldB, cell_later hHeldB y14, cell_later hHeldB z14, cell_later hHeldB e0, cell_later hHeldB e1, cell_later hHeldB e2, cell_later hHeldB e3, cell_later hHeldB e4, cell_later hHeldB f0, cell_later hHeldB f1, cell_later hHeldB f2, cell_later hHeldB f3, cell_later hHeldB f4⟩
                    clear hK
                    (try simp only [Act.put, List.setIfInBounds_toArray, List.set_cons_zero, List.set_cons_succ])
                    clear hHeldB
                    refine wpAnyH_done (by kernel_rfl) ?_ _
                    go_wp2_with fail
                    go_meet
                    have h1 := heap_alloc_last wr (.cells #[.int .i64 s'.up, .int .i64 s'.fn, .int .i64 s'.pc, .int .i64 s'.into, .slice Ab s'.regs.length cb] 66)
                    have h2 := heap_alloc_last (wr.alloc (.cells #[.int .i64 s'.up, .int .i64 s'.fn, .int .i64 s'.pc, .int .i64 s'.into, .slice Ab s'.regs.length cb] 66)) (.cells #[.int .i64 s.up, .int .i64 s.fn, .int .i64 s.pc, .int .i64 s.into, .slice Aa s.regs.length ca] 66)
                    rw [World.size_alloc] at h2
                    have h3 := (Below.heap_alloc (wr.alloc (.cells #[.int .i64 s'.up, .int .i64 s'.fn, .int .i64 s'.pc, .int .i64 s'.into, .slice Ab s'.regs.length cb] 66)) (.cells #[.int .i64 s.up, .int .i64 s.fn, .int .i64 s.pc, .int .i64 s.into, .slice Aa s.regs.length ca] 66) wr.heap.size (by simp)).trans h1
                    exact ⟨_, _, rfl, rfl, h2, h3, (below_alloc (below_alloc (Below.refl wr.heap.size wr) _) _).drew⟩
                case rest =>
                  obtain ⟨b1, b2, rfl, rfl, hb1, hb2, hBx⟩ := hcut
                  have g0 := cell_of_row _ b1 0 _ _ _ hb1.out
                  have g1 := cell_of_row _ b1 1 _ _ _ hb1.out
                  have g2 := cell_of_row _ b1 2 _ _ _ hb1.out
                  have g3 := cell_of_row _ b1 3 _ _ _ hb1.out
                  have g4 := cell_of_row _ b1 4 _ _ _ hb1.out
                  have i0 := cell_of_row _ b2 0 _ _ _ hb2.out
                  have i1 := cell_of_row _ b2 1 _ _ _ hb2.out
                  have i2 := cell_of_row _ b2 2 _ _ _ hb2.out
                  have i3 := cell_of_row _ b2 3 _ _ _ hb2.out
                  have i4 := cell_of_row _ b2 4 _ _ _ hb2.out
                  simp only [List.getElem?_toArray, List.getElem?_cons_zero, List.getElem?_cons_succ] at g0 g1 g2 g3 g4 i0 i1 i2 i3 i4
                  have HBX := Lib.hid (HBu.out.trans (hBx.mono HBu.out.size))
                  have HRA2 := Lib.hid (HRA.out.2.2.2.below hBx (fun _ _ h => h))
                  have HRB2 := Lib.hid (HRB.out.2.2.2.below hBx (fun _ _ h => h))
                  have hno : ¬ s = s' → decide (T.t = S.t) = false := fun hss => HNE.out (T.t.links = S.t.links) (fun h => by
                    have h1 := HX.out
                    rw [h, HY.out] at h1
                    exact hss (Option.some.inj h1).symm) (fun h => by rw [h])
                  have HNO := Lib.hid hno
                  clear hno hBx y14 z14 e0 e1 e2 e3 e4 f0 f1 f2 f3 f4 pt14 ps14
                  by_cases q_up : s.up = s'.up
                  rotate_left
                  · have d1 : (s.up != s'.up) = true := by simpa using q_up
                    go_wp2_with fail
                    go_ret
                    refine ⟨?_, below_then HB2.out (below_then HB2'.out HBX.out)⟩
                    rw [← HRES.out, HNO.out (fun h => q_up (by rw [h]))]
                    rfl
                  have d_up : (s.up != s'.up) = false := by simpa using q_up
                  by_cases q_fn : s.fn = s'.fn
                  rotate_left
                  · have d1 : (s.fn != s'.fn) = true := by simpa using q_fn
                    go_wp2_with fail
                    go_ret
                    refine ⟨?_, below_then HB2.out (below_then HB2'.out HBX.out)⟩
                    rw [← HRES.out, HNO.out (fun h => q_fn (by rw [h]))]
                    rfl
                  have d_fn : (s.fn != s'.fn) = false := by simpa using q_fn
                  by_cases q_pc : s.pc = s'.pc
                  rotate_left
                  · have d1 : (s.pc != s'.pc) = true := by simpa using q_pc
                    go_wp2_with fail
                    go_ret
                    refine ⟨?_, below_then HB2.out (below_then HB2'.out HBX.out)⟩
                    rw [← HRES.out, HNO.out (fun h => q_pc (by rw [h]))]
                    rfl
                  have d_pc : (s.pc != s'.pc) = false := by simpa using q_pc
                  by_cases q_into : s.into = s'.into
                  rotate_left
                  · have d1 : (s.into != s'.into) = true := by simpa using q_into
                    go_wp2_with fail
                    go_ret
                    refine ⟨?_, below_then HB2.out (below_then HB2'.out HBX.out)⟩
                    rw [← HRES.out, HNO.out (fun h => q_into (by rw [h]))]
                    rfl
                  have d_into : (s.into != s'.into) = false := by simpa using q_into
                  go_wp2_with (go_at_call 61; refine (refsame_any Aa Ab ca cb s.regs s'.regs _ HRA2.out HRB2.out HRA.out.2.2.1 HRB.out.2.2.1).mono ?_)
                  rintro e w9 rfl hB9
                  have HB9 := Lib.hid (below_then HBX.out hB9)
                  clear hB9
                  cases hda : decide (s.regs = s'.regs) with
                  | false =>
                    go_wp2_with fail
                    go_ret
                    refine ⟨?_, below_then HB2.out (below_then HB2'.out HB9.out)⟩
                    rw [← HRES.out, HNO.out (fun h => by rw [h] at hda; simp at hda)]
                    rfl
                  | true =>
                    have hss : s = s' := by
                      have ha : s.regs = s'.regs := by simpa using hda
                      have hh : ∀ x y : TLnk, x.up = y.up → x.fn = y.fn → x.pc = y.pc → x.into = y.into → x.regs = y.regs → x = y := by
                        rintro ⟨⟩ ⟨⟩ h1 h2 h3 h4 h5
                        simp only at h1 h2 h3 h4 h5
                        subst h1; subst h2; subst h3; subst h4; subst h5
                        rfl
                      exact hh _ _ q_up q_fn q_pc q_into ha
                    have HK : Hid (T.t.links.take (k + 1) = S.t.links.take (k + 1)) := by
                      show _ = _
                      rw [List.take_succ_eq_append_getElem hlt, List.take_succ_eq_append_getElem (by have := HLL.out; omega), htk.out, (List.getElem?_eq_some_iff.1 HX.out).2, (List.getElem?_eq_some_iff.1 HY.out).2, hss]
                    clear hss hda
                    go_wp2_with fail
                    go_roundw
                    case rel => exact ⟨k + 1, by go_num, by omega, HK, HB9.out⟩
                    case measure => simp [intOf]; omega
              · have hkl : k = T.t.links.length := by omega
                subst hkl
                have HLNK : Hid (T.t.links = S.t.links) := by
                  have h1 := htk.out
                  rw [List.take_length, HLL.out, List.take_length] at h1
                  exact h1
                have pt15 := cell_later hB (cell_later HB2'.out t15)
                have ps15 := cell_later hB (cell_later HB2'.out s15)
                have HB3' := Lib.hid (below_then HB2'.out hB)
                clear hlt hk htk hB HBu
                obtain ⟨wm, rfl⟩ : ∃ wm, wm = wr := ⟨_, rfl⟩
                go_wp2_with fail
                have hvl : (T.t.virts.length : Int) ≤ 1048576 := by have := HT.out.v.2.2.1; omega
                go_loopw [199] (fun s199 wq => ∃ (k : Nat), s199 = .int .i64 k ∧ k ≤ T.t.virts.length ∧ Hid (T.t.virts.take k = S.t.virts.take k) ∧ Below wm.heap.size wm wq)
                  (fun s199 _ => T.t.virts.length - (intOf s199).toNat)
                case atStart => exact ⟨0, rfl, Nat.zero_le _, rfl, Below.refl _ _⟩
                case round =>
                  obtain ⟨k, rfl, hk, htk, hB⟩ := hrel
                  have HBr := Lib.hid (below_then HB3'.out hB)
                  by_cases hlt : k < T.t.virts.length
                  · obtain ⟨s, hs⟩ : ∃ s, T.t.virts[k]? = some s := ⟨_, List.getElem?_eq_getElem hlt⟩
                    obtain ⟨s', hs'⟩ : ∃ s', S.t.virts[k]? = some s' := ⟨_, List.getElem?_eq_getElem (by have := HLV.out; omega)⟩
                    obtain ⟨b, o, Aa, ca, hA, hb, e0, e1, hra⟩ := vrt_get (HT.out.below HBr.out).v.2.2.2 hs
                    obtain ⟨b', o', Ab, cb, hA', hb', f0, f1, hrb⟩ := vrt_get (HS.out.below HBr.out).v.2.2.2 hs'
                    have y15 := cell_later hB pt15
                    have z15 := cell_later hB ps15
                    rw [hA] at y15
                    rw [hA', ← HLV.out] at z15
                    have HX := Lib.hid hs
                    have HY := Lib.hid hs'
                    have HRA := Lib.hid hra
                    have HRB := Lib.hid hrb
                    have HBw := Lib.hid hB
                    have HCALL := Lib.hid (fun w' (h : Below wr.heap.size wr w') => refsame_any Aa Ab ca cb s.cells s'.cells w' (hra.2.2.2.below h (fun _ _ h => h)) (hrb.2.2.2.below h (fun _ _ h => h)) hra.2.2.1 hrb.2.2.1)
                    clear hs hs' hA hA' hb hb' hB hra hrb pt15 ps15
                    go_upto_region 26 with fail
                    (try simp only [Act.put, List.setIfInBounds_toArray, List.set_cons_zero, List.set_cons_succ])
                    have hno : ¬ s = s' → decide (T.t = S.t) = false := fun hss => HNE.out (T.t.virts = S.t.virts) (fun h => by
                      have h1 := HX.out
                      rw [h, HY.out] at h1
                      exact hss (Option.some.inj h1).symm) (fun h => by rw [h])
                    have HNO := Lib.hid hno
                    clear hno
                    by_cases hxy : s.rc = s'.rc
                    rotate_left
                    · have hne : (s.rc != s'.rc) = true := by simpa using hxy
                      refine drawn_begin (fun w' => Below wr.heap.size wr w' ∧ w'.cell? ⟨w.heap.size, 15, none⟩ = some (.slice (some ⟨b, o, none⟩) T.t.virts.length T.v.c) ∧ w'.cell? ⟨w.heap.size + 1, 15, none⟩ = some (.slice (some ⟨b', o', none⟩) T.t.virts.length S.v.c) ∧ w'.cell? ⟨b, o + k * 2, none⟩ = some (.int .i64 s.rc) ∧ w'.cell? ⟨b, o + k * 2 + 1, none⟩ = some (.slice Aa s.cells.length ca) ∧ w'.cell? ⟨b', o' + k * 2, none⟩ = some (.int .i64 s'.rc) ∧ w'.cell? ⟨b', o' + k * 2 + 1, none⟩ = some (.slice Ab s'.cells.length cb)) (fun c a d v w h => ?_) (by kernel_rfl) ?_ (fun hside hHeld => ?_)
                      · (obtain ⟨h1, h2⟩ := h; exact And.intro (put_nil h1) h2)
                      · exact ⟨below_drewN (Below.refl _ _) 1, y15, z15, e0, e1, f0, f1⟩
                      refine wpAnyH_take (i := 0) (v := ?_) (op_at rfl) (by kernel_rfl) (by kernel_rfl) (by kernel_rfl) (fun _ _ _ h => hside _ _ _ _ _ h) (Or.inl ⟨by rfl, ?_⟩) (by assumption) ?_
                      rotate_left
                      · (intro w hSw; (try dsimp only at hSw); go_simp; all_goals with_reducible rfl)
                      (try simp only [Act.put, List.setIfInBounds_toArray, List.set_cons_zero, List.set_cons_succ])
                      refine wpAnyH_take (i := 1) (v := ?_) (op_at rfl) (by kernel_rfl) (by kernel_rfl) (by kernel_rfl) (fun _ _ _ h => hside _ _ _ _ _ h) (Or.inl ⟨by rfl, ?_⟩) (by assumption) ?_
                      rotate_left
                      · (intro w hSw; (try dsimp only at hSw); go_simp; all_goals with_reducible rfl)
                      (try simp only [Act.put, List.setIfInBounds_toArray, List.set_cons_zero, List.set_cons_succ])
                      refine wpAnyH_take (i := 2) (v := ?_) (op_at rfl) (by kernel_rfl) (by kernel_rfl) (by kernel_rfl) (fun _ _ _ h => hside _ _ _ _ _ h) (Or.inl ⟨by rfl, ?_⟩) (by assumption) ?_
                      rotate_left
                      · (intro w hSw; (try dsimp only at hSw); go_simp; all_goals with_reducible rfl)
                      (try simp only [Act.put, List.setIfInBounds_toArray, List.set_cons_zero, List.set_cons_succ])
                      refine wpAnyH_take (i := 3) (v := ?_) (op_at rfl) (by kernel_rfl) (by kernel_rfl) (by kernel_rfl) (fun _ _ _ h => hside _ _ _ _ _ h) (Or.inl ⟨by rfl, ?_⟩) (by assumption) ?_
                      rotate_left
                      · (intro w hSw; (try dsimp only at hSw); go_simp; all_goals with_reducible rfl)
                      (try simp only [Act.put, List.setIfInBounds_toArray, List.set_cons_zero, List.set_cons_succ])
                      refine wpAnyH_take (i := 4) (v := ?_) (op_at rfl) (by kernel_rfl) (by kernel_rfl) (by kernel_rfl) (fun _ _ _ h => hside _ _ _ _ _ h) (Or.inl ⟨by rfl, ?_⟩) (by assumption) ?_
                      rotate_left
                      · (intro w hSw; (try dsimp only at hSw); go_simp; all_goals with_reducible rfl)
                      (try simp only [Act.put, List.setIfInBounds_toArray, List.set_cons_zero, List.set_cons_succ])
                      refine wpAnyH_take (i := 5) (v := ?_) (op_at rfl) (by kernel_rfl) (by kernel_rfl) (by kernel_rfl) (fun _ _ _ h => hside _ _ _ _ _ h) (Or.inl ⟨by rfl, ?_⟩) (by assumption) ?_
                      rotate_left
                      · (intro w hSw; (try dsimp only at hSw); go_simp; all_goals with_reducible rfl)
                      (try simp only [Act.put, List.setIfInBounds_toArray, List.set_cons_zero, List.set_cons_succ])
                      refine wpAnyH_take (i := 6) (v := ?_) (op_at rfl) (by kernel_rfl) (by kernel_rfl) (by kernel_rfl) (fun _ _ _ h => hside _ _ _ _ _ h) (Or.inl ⟨by rfl, ?_⟩) (by assumption) ?_
                      rotate_left
                      · (intro w hSw; (try dsimp only at hSw); go_simp; all_goals with_reducible rfl)
                      (try simp only [Act.put, List.setIfInBounds_toArray, List.set_cons_zero, List.set_cons_succ])
                      refine wpAnyH_take (i := 7) (v := ?_) (op_at rfl) (by kernel_rfl) (by kernel_rfl) (by kernel_rfl) (fun _ _ _ h => hside _ _ _ _ _ h) (Or.inl ⟨by rfl, ?_⟩) (by assumption) ?_
                      rotate_left
                      · (intro w hSw; (try dsimp only at hSw); go_simp; all_goals with_reducible rfl)
                      (try simp only [Act.put, List.setIfInBounds_toArray, List.set_cons_zero, List.set_cons_succ])
                      refine wpAnyH_take (i := 8) (v := ?_) (op_at rfl) (by kernel_rfl) (by kernel_rfl) (by kernel_rfl) (fun _ _ _ h => hside _ _ _ _ _ h) (Or.inl ⟨by rfl, ?_⟩) (by assumption) ?_
                      rotate_left
                      · (intro w hSw; (try dsimp only at hSw); go_simp; all_goals with_reducible rfl)
                      (try simp only [Act.put, List.setIfInBounds_toArray, List.set_cons_zero, List.set_cons_succ])
                      refine wpAnyH_take (i := 9) (v := ?_) (op_at rfl) (by kernel_rfl) (by kernel_rfl) (by kernel_rfl) (fun _ _ _ h => hside _ _ _ _ _ h) (Or.inl ⟨by rfl, ?_⟩) (by assumption) ?_
                      rotate_left
                      · (intro w hSw; (try dsimp only at hSw); go_simp; all_goals with_reducible rfl)
                      (try simp only [Act.put, List.setIfInBounds_toArray, List.set_cons_zero, List.set_cons_succ])
                      refine wpAnyH_take (i := 10) (v := ?_) (op_at rfl) (by kernel_rfl) (by kernel_rfl) (by kernel_rfl) (fun _ _ _ h => hside _ _ _ _ _ h) (Or.inl ⟨by rfl, ?_⟩) (by assumption) ?_
                      rotate_left
                      · (intro w hSw; (try dsimp only at hSw); go_simp; all_goals with_reducible rfl)
                      (try simp only [Act.put, List.setIfInBounds_toArray, List.set_cons_zero, List.set_cons_succ])
                      refine wpAnyH_take (i := 11) (v := ?_) (op_at rfl) (by kernel_rfl) (by kernel_rfl) (by kernel_rfl) (fun _ _ _ h => hside _ _ _ _ _ h) (Or.inl ⟨by rfl, ?_⟩) (by assumption) ?_
                      rotate_left
                      · (intro w hSw; (try dsimp only at hSw); go_simp; all_goals with_reducible rfl)
                      (try simp only [Act.put, List.setIfInBounds_toArray, List.set_cons_zero, List.set_cons_succ])
                      refine wpAnyH_take (i := 12) (v := ?_) (op_at rfl) (by kernel_rfl) (by kernel_rfl) (by kernel_rfl) (fun _ _ _ h => hside _ _ _ _ _ h) (Or.inl ⟨by rfl, ?_⟩) (by assumption) ?_
                      rotate_left
                      · (intro w hSw; (try dsimp only at hSw); go_simp; all_goals with_reducible rfl)
                      (try simp only [Act.put, List.setIfInBounds_toArray, List.set_cons_zero, List.set_cons_succ])
                      refine wpAnyH_take (i := 13) (v := ?_) (op_at rfl) (by kernel_rfl) (by kernel_rfl) (by kernel_rfl) (fun _ _ _ h => hside _ _ _ _ _ h) (Or.inl ⟨by rfl, ?_⟩) (by assumption) ?_
                      rotate_left
                      · (intro w hSw; (try dsimp only at hSw); go_simp; all_goals with_reducible rfl)
                      (try simp only [Act.put, List.setIfInBounds_toArray, List.set_cons_zero, List.set_cons_succ])
                      refine wpAnyH_take (i := 14) (v := undef) (op_at rfl) (by kernel_rfl) (by kernel_rfl) (by kernel_rfl) (fun _ _ _ h => hside _ _ _ _ _ h) (Or.inr ⟨by rfl, rfl⟩) (by assumption) ?_
                      (try simp only [Act.put, List.setIfInBounds_toArray, List.set_cons_zero, List.set_cons_succ])
                      refine wpAnyH_take (i := 15) (v := undef) (op_at rfl) (by kernel_rfl) (by kernel_rfl) (by kernel_rfl) (fun _ _ _ h => hside _ _ _ _ _ h) (Or.inr ⟨by rfl, rfl⟩) (by assumption) ?_
                      (try simp only [Act.put, List.setIfInBounds_toArray, List.set_cons_zero, List.set_cons_succ])
                      refine wpAnyH_take (i := 16) (v := undef) (op_at rfl) (by kernel_rfl) (by kernel_rfl) (by kernel_rfl) (fun _ _ _ h => hside _ _ _ _ _ h) (Or.inr ⟨by rfl, rfl⟩) (by assumption) ?_
                      (try simp only [Act.put, List.setIfInBounds_toArray, List.set_cons_zero, List.set_cons_succ])
                      refine wpAnyH_take (i := 17) (v := undef) (op_at rfl) (by kernel_rfl) (by kernel_rfl) (by kernel_rfl) (fun _ _ _ h => hside _ _ _ _ _ h) (Or.inr ⟨by rfl, rfl⟩) (by assumption) ?_
                      (try simp only [Act.put, List.setIfInBounds_toArray, List.set_cons_zero, List.set_cons_succ])
                      refine wpAnyH_take (i := 18) (v := undef) (op_at rfl) (by kernel_rfl) (by kernel_rfl) (by kernel_rfl) (fun _ _ _ h => hside _ _ _ _ _ h) (Or.inr ⟨by rfl, rfl⟩) (by assumption) ?_
                      (try simp only [Act.put, List.setIfInBounds_toArray, List.set_cons_zero, List.set_cons_succ])
                      refine wpAnyH_take (i := 19) (v := undef) (op_at rfl) (by kernel_rfl) (by kernel_rfl) (by kernel_rfl) (fun _ _ _ h => hside _ _ _ _ _ h) (Or.inr ⟨by rfl, rfl⟩) (by assumption) ?_
                      (try simp only [Act.put, List.setIfInBounds_toArray, List.set_cons_zero, List.set_cons_succ])
                      refine wpAnyH_take (i := 20) (v := undef) (op_at rfl) (by kernel_rfl) (by kernel_rfl) (by kernel_rfl) (fun _ _ _ h => hside _ _ _ _ _ h) (Or.inr ⟨by rfl, rfl⟩) (by assumption) ?_
                      (try simp only [Act.put, List.setIfInBounds_toArray, List.set_cons_zero, List.set_cons_succ])
                      refine wpAnyH_take (i := 21) (v := undef) (op_at rfl) (by kernel_rfl) (by kernel_rfl) (by kernel_rfl) (fun _ _ _ h => hside _ _ _ _ _ h) (Or.inr ⟨by rfl, rfl⟩) (by assumption) ?_
                      (try simp only [Act.put, List.setIfInBounds_toArray, List.set_cons_zero, List.set_cons_succ])
                      refine wpAnyH_take (i := 22) (v := undef) (op_at rfl) (by kernel_rfl) (by kernel_rfl) (by kernel_rfl) (fun _ _ _ h => hside _ _ _ _ _ h) (Or.inr ⟨by rfl, rfl⟩) (by assumption) ?_
                      (try simp only [Act.put, List.setIfInBounds_toArray, List.set_cons_zero, List.set_cons_succ])
                      refine wpAnyH_take (i := 23) (v := undef) (op_at rfl) (by kernel_rfl) (by kernel_rfl) (by kernel_rfl) (fun _ _ _ h => hside _ _ _ _ _ h) (Or.inr ⟨by rfl, rfl⟩) (by assumption) ?_
                      (try simp only [Act.put, List.setIfInBounds_toArray, List.set_cons_zero, List.set_cons_succ])
                      refine wpAnyH_take (i := 24) (v := undef) (op_at rfl) (by kernel_rfl) (by kernel_rfl) (by kernel_rfl) (fun _ _ _ h => hside _ _ _ _ _ h) (Or.inr ⟨by rfl, rfl⟩) (by assumption) ?_
                      (try simp only [Act.put, List.setIfInBounds_toArray, List.set_cons_zero, List.set_cons_succ])
                      refine wpAnyH_take (i := 25) (v := undef) (op_at rfl) (by kernel_rfl) (by kernel_rfl) (by kernel_rfl) (fun _ _ _ h => hside _ _ _ _ _ h) (Or.inr ⟨by rfl, rfl⟩) (by assumption) ?_
                      (try simp only [Act.put, List.setIfInBounds_toArray, List.set_cons_zero, List.set_cons_succ])
                      refine wpAnyH_take (i := 26) (v := undef) (op_at rfl) (by kernel_rfl) (by kernel_rfl) (by kernel_rfl) (fun _ _ _ h => hside _ _ _ _ _ h) (Or.inr ⟨by rfl, rfl⟩) (by assumption) ?_
                      (try simp only [Act.put, List.setIfInBounds_toArray, List.set_cons_zero, List.set_cons_succ])
                      refine wpAnyH_take (i := 27) (v := undef) (op_at rfl) (by kernel_rfl) (by kernel_rfl) (by kernel_rfl) (fun _ _ _ h => hside _ _ _ _ _ h) (Or.inr ⟨by rfl, rfl⟩) (by assumption) ?_
                      (try simp only [Act.put, List.setIfInBounds_toArray, List.set_cons_zero, List.set_cons_succ])
                      refine wpAnyH_take (i := 28) (v := ?_) (op_at rfl) (by kernel_rfl) (by kernel_rfl) (by kernel_rfl) (fun _ _ _ h => hside _ _ _ _ _ h) (Or.inl ⟨by rfl, ?_⟩) (by assumption) ?_
                      rotate_left
                      · (intro w hSw; (try dsimp only at hSw); go_simp; all_goals with_reducible rfl)
                      (try simp only [Act.put, List.setIfInBounds_toArray, List.set_cons_zero, List.set_cons_succ])
                      refine wpAnyH_done (by kernel_rfl) ?_ _
                      clear hHeld hside e0 e1 f0 f1 y15 z15
                      go_wp2_with fail
                      go_ret
                      refine ⟨?_, below_then HB2.out (below_then HBr.out (below_drewN (Below.refl wr.heap.size wr) 1))⟩
                      rw [← HRES.out, HNO.out (fun h => hxy (by rw [h]))]
                      rfl
                    have hne : (s.rc != s'.rc) = false := by simpa using hxy
                    cases hda : decide (s.cells = s'.cells) with
                    | false =>
                      have HC2 := HCALL.out
                      rw [hda] at HC2
                      have HC3 := Lib.hid HC2
                      clear HC2
                      refine drawn_begin (fun w' => Below wr.heap.size wr w' ∧ w'.cell? ⟨w.heap.size, 15, none⟩ = some (.slice (some ⟨b, o, none⟩) T.t.virts.length T.v.c) ∧ w'.cell? ⟨w.heap.size + 1, 15, none⟩ = some (.slice (some ⟨b', o', none⟩) T.t.virts.length S.v.c) ∧ w'.cell? ⟨b, o + k * 2, none⟩ = some (.int .i64 s.rc) ∧ w'.cell? ⟨b, o + k * 2 + 1, none⟩ = some (.slice Aa s.cells.length ca) ∧ w'.cell? ⟨b', o' + k * 2, none⟩ = some (.int .i64 s'.rc) ∧ w'.cell? ⟨b', o' + k * 2 + 1, none⟩ = some (.slice Ab s'.cells.length cb)) (fun c a d v w h => ?_) (by kernel_rfl) ?_ (fun hside hHeld => ?_)
                      · (obtain ⟨h1, h2⟩ := h; exact And.intro (put_nil h1) h2)
                      · exact ⟨below_drewN (Below.refl _ _) 1, y15, z15, e0, e1, f0, f1⟩
                      refine wpAnyH_take (i := 0) (v := ?_) (op_at rfl) (by kernel_rfl) (by kernel_rfl) (by kernel_rfl) (fun _ _ _ h => hside _ _ _ _ _ h) (Or.inl ⟨by rfl, ?_⟩) (by assumption) ?_
                      rotate_left
                      · (intro w hSw; (try dsimp only at hSw); go_simp; all_goals with_reducible rfl)
                      (try simp only [Act.put, List.setIfInBounds_toArray, List.set_cons_zero, List.set_cons_succ])
                      refine wpAnyH_take (i := 1) (v := ?_) (op_at rfl) (by kernel_rfl) (by kernel_rfl) (by kernel_rfl) (fun _ _ _ h => hside _ _ _ _ _ h) (Or.inl ⟨by rfl, ?_⟩) (by assumption) ?_
                      rotate_left
                      · (intro w hSw; (try dsimp only at hSw); go_simp; all_goals with_reducible rfl)
                      (try simp only [Act.put, List.setIfInBounds_toArray, List.set_cons_zero, List.set_cons_succ])
                      refine wpAnyH_take (i := 2) (v := ?_) (op_at rfl) (by kernel_rfl) (by kernel_rfl) (by kernel_rfl) (fun _ _ _ h => hside _ _ _ _ _ h) (Or.inl ⟨by rfl, ?_⟩) (by assumption) ?_
                      rotate_left
                      · (intro w hSw; (try dsimp only at hSw); go_simp; all_goals with_reducible rfl)
                      (try simp only [Act.put, List.setIfInBounds_toArray, List.set_cons_zero, List.set_cons_succ])
                      refine wpAnyH_take (i := 3) (v := ?_) (op_at rfl) (by kernel_rfl) (by kernel_rfl) (by kernel_rfl) (fun _ _ _ h => hside _ _ _ _ _ h) (Or.inl ⟨by rfl, ?_⟩) (by assumption) ?_
                      rotate_left
                      · (intro w hSw; (try dsimp only at hSw); go_simp; all_goals with_reducible rfl)
                      (try simp only [Act.put, List.setIfInBounds_toArray, List.set_cons_zero, List.set_cons_succ])
                      refine wpAnyH_take (i := 4) (v := ?_) (op_at rfl) (by kernel_rfl) (by kernel_rfl) (by kernel_rfl) (fun _ _ _ h => hside _ _ _ _ _ h) (Or.inl ⟨by rfl, ?_⟩) (by assumption) ?_
                      rotate_left
                      · (intro w hSw; (try dsimp only at hSw); go_simp; all_goals with_reducible rfl)
                      (try simp only [Act.put, List.setIfInBounds_toArray, List.set_cons_zero, List.set_cons_succ])
                      refine wpAnyH_take (i := 5) (v := ?_) (op_at rfl) (by kernel_rfl) (by kernel_rfl) (by kernel_rfl) (fun _ _ _ h => hside _ _ _ _ _ h) (Or.inl ⟨by rfl, ?_⟩) (by assumption) ?_
                      rotate_left
                      · (intro w hSw; (try dsimp only at hSw); go_simp; all_goals with_reducible rfl)
                      (try simp only [Act.put, List.setIfInBounds_toArray, List.set_cons_zero, List.set_cons_succ])
                      refine wpAnyH_take (i := 6) (v := ?_) (op_at rfl) (by kernel_rfl) (by kernel_rfl) (by kernel_rfl) (fun _ _ _ h => hside _ _ _ _ _ h) (Or.inl ⟨by rfl, ?_⟩) (by assumption) ?_
                      rotate_left
                      · (intro w hSw; (try dsimp only at hSw); go_simp; all_goals with_reducible rfl)
                      (try simp only [Act.put, List.setIfInBounds_toArray, List.set_cons_zero, List.set_cons_succ])
                      refine wpAnyH_take (i := 7) (v := ?_) (op_at rfl) (by kernel_rfl) (by kernel_rfl) (by kernel_rfl) (fun _ _ _ h => hside _ _ _ _ _ h) (Or.inl ⟨by rfl, ?_⟩) (by assumption) ?_
                      rotate_left
                      · (intro w hSw; (try dsimp only at hSw); go_simp; all_goals with_reducible rfl)
                      (try simp only [Act.put, List.setIfInBounds_toArray, List.set_cons_zero, List.set_cons_succ])
                      refine wpAnyH_take (i := 8) (v := ?_) (op_at rfl) (by kernel_rfl) (by kernel_rfl) (by kernel_rfl) (fun _ _ _ h => hside _ _ _ _ _ h) (Or.inl ⟨by rfl, ?_⟩) (by assumption) ?_
                      rotate_left
                      · (intro w hSw; (try dsimp only at hSw); go_simp; all_goals with_reducible rfl)
                      (try simp only [Act.put, List.setIfInBounds_toArray, List.set_cons_zero, List.set_cons_succ])
                      refine wpAnyH_take (i := 9) (v := ?_) (op_at rfl) (by kernel_rfl) (by kernel_rfl) (by kernel_rfl) (fun _ _ _ h => hside _ _ _ _ _ h) (Or.inl ⟨by rfl, ?_⟩) (by assumption) ?_
                      rotate_left
                      · (intro w hSw; (try dsimp only at hSw); go_simp; all_goals with_reducible rfl)
                      (try simp only [Act.put, List.setIfInBounds_toArray, List.set_cons_zero, List.set_cons_succ])
                      refine wpAnyH_take (i := 10) (v := ?_) (op_at rfl) (by kernel_rfl) (by kernel_rfl) (by kernel_rfl) (fun _ _ _ h => hside _ _ _ _ _ h) (Or.inl ⟨by rfl, ?_⟩) (by assumption) ?_
                      rotate_left
                      · (intro w hSw; (try dsimp only at hSw); go_simp; all_goals with_reducible rfl)
                      (try simp only [Act.put, List.setIfInBounds_toArray, List.set_cons_zero, List.set_cons_succ])
                      refine wpAnyH_take (i := 11) (v := ?_) (op_at rfl) (by kernel_rfl) (by kernel_rfl) (by kernel_rfl) (fun _ _ _ h => hside _ _ _ _ _ h) (Or.inl ⟨by rfl, ?_⟩) (by assumption) ?_
                      rotate_left
                      · (intro w hSw; (try dsimp only at hSw); go_simp; all_goals with_reducible rfl)
                      (try simp only [Act.put, List.setIfInBounds_toArray, List.set_cons_zero, List.set_cons_succ])
                      refine wpAnyH_take (i := 12) (v := ?_) (op_at rfl) (by kernel_rfl) (by kernel_rfl) (by kernel_rfl) (fun _ _ _ h => hside _ _ _ _ _ h) (Or.inl ⟨by rfl, ?_⟩) (by assumption) ?_
                      rotate_left
                      · (intro w hSw; (try dsimp only at hSw); go_simp; all_goals with_reducible rfl)
                      (try simp only [Act.put, List.setIfInBounds_toArray, List.set_cons_zero, List.set_cons_succ])
                      refine wpAnyH_take (i := 13) (v := ?_) (op_at rfl) (by kernel_rfl) (by kernel_rfl) (by kernel_rfl) (fun _ _ _ h => hside _ _ _ _ _ h) (Or.inl ⟨by rfl, ?_⟩) (by assumption) ?_
                      rotate_left
                      · (intro w hSw; (try dsimp only at hSw); go_simp; all_goals with_reducible rfl)
                      (try simp only [Act.put, List.setIfInBounds_toArray, List.set_cons_zero, List.set_cons_succ])
                      refine wpAnyH_take (i := 14) (v := ?_) (op_at rfl) (by kernel_rfl) (by kernel_rfl) (by kernel_rfl) (fun _ _ _ h => hside _ _ _ _ _ h) (Or.inl ⟨by rfl, ?_⟩) (by assumption) ?_
                      rotate_left
                      · (intro w hSw; (try dsimp only at hSw); go_simp; all_goals with_reducible rfl)
                      (try simp only [Act.put, List.setIfInBounds_toArray, List.set_cons_zero, List.set_cons_succ])
                      refine wpAnyH_take (i := 15) (v := ?_) (op_at rfl) (by kernel_rfl) (by kernel_rfl) (by kernel_rfl) (fun _ _ _ h => hside _ _ _ _ _ h) (Or.inl ⟨by rfl, ?_⟩) (by assumption) ?_
                      rotate_left
                      · (intro w hSw; (try dsimp only at hSw); go_simp; all_goals with_reducible rfl)
                      (try simp only [Act.put, List.setIfInBounds_toArray, List.set_cons_zero, List.set_cons_succ])
                      refine wpAnyH_take (i := 16) (v := ?_) (op_at rfl) (by kernel_rfl) (by kernel_rfl) (by kernel_rfl) (fun _ _ _ h => hside _ _ _ _ _ h) (Or.inl ⟨by rfl, ?_⟩) (by assumption) ?_
                      rotate_left
                      · (intro w hSw; (try dsimp only at hSw); go_simp; all_goals with_reducible rfl)
                      (try simp only [Act.put, List.setIfInBounds_toArray, List.set_cons_zero, List.set_cons_succ])
                      refine wpAnyH_take (i := 17) (v := ?_) (op_at rfl) (by kernel_rfl) (by kernel_rfl) (by kernel_rfl) (fun _ _ _ h => hside _ _ _ _ _ h) (Or.inl ⟨by rfl, ?_⟩) (by assumption) ?_
                      rotate_left
                      · (intro w hSw; (try dsimp only at hSw); go_simp; all_goals with_reducible rfl)
                      (try simp only [Act.put, List.setIfInBounds_toArray, List.set_cons_zero, List.set_cons_succ])
                      refine wpAnyH_take (i := 18) (v := ?_) (op_at rfl) (by kernel_rfl) (by kernel_rfl) (by kernel_rfl) (fun _ _ _ h => hside _ _ _ _ _ h) (Or.inl ⟨by rfl, ?_⟩) (by assumption) ?_
                      rotate_left
                      · (intro w hSw; (try dsimp only at hSw); go_simp; all_goals with_reducible rfl)
                      (try simp only [Act.put, List.setIfInBounds_toArray, List.set_cons_zero, List.set_cons_succ])
                      refine wpAnyH_take (i := 19) (v := ?_) (op_at rfl) (by kernel_rfl) (by kernel_rfl) (by kernel_rfl) (fun _ _ _ h => hside _ _ _ _ _ h) (Or.inl ⟨by rfl, ?_⟩) (by assumption) ?_
                      rotate_left
                      · (intro w hSw; (try dsimp only at hSw); go_simp; all_goals with_reducible rfl)
                      (try simp only [Act.put, List.setIfInBounds_toArray, List.set_cons_zero, List.set_cons_succ])
                      refine wpAnyH_take (i := 20) (v := ?_) (op_at rfl) (by kernel_rfl) (by kernel_rfl) (by kernel_rfl) (fun _ _ _ h => hside _ _ _ _ _ h) (Or.inl ⟨by rfl, ?_⟩) (by assumption) ?_
                      rotate_left
                      · (intro w hSw; (try dsimp only at hSw); go_simp; all_goals with_reducible rfl)
                      (try simp only [Act.put, List.setIfInBounds_toArray, List.set_cons_zero, List.set_cons_succ])
                      refine wpAnyH_take (i := 21) (v := ?_) (op_at rfl) (by kernel_rfl) (by kernel_rfl) (by kernel_rfl) (fun _ _ _ h => hside _ _ _ _ _ h) (Or.inl ⟨by rfl, ?_⟩) (by assumption) ?_
                      rotate_left
                      · (intro w hSw; (try dsimp only at hSw); go_simp; all_goals with_reducible rfl)
                      (try simp only [Act.put, List.setIfInBounds_toArray, List.set_cons_zero, List.set_cons_succ])
                      refine wpAnyH_take (i := 22) (v := ?_) (op_at rfl) (by kernel_rfl) (by kernel_rfl) (by kernel_rfl) (fun _ _ _ h => hside _ _ _ _ _ h) (Or.inl ⟨by rfl, ?_⟩) (by assumption) ?_
                      rotate_left
                      · (intro w hSw; (try dsimp only at hSw); go_simp; all_goals with_reducible rfl)
                      (try simp only [Act.put, List.setIfInBounds_toArray, List.set_cons_zero, List.set_cons_succ])
                      refine wpAnyH_take (i := 23) (v := ?_) (op_at rfl) (by kernel_rfl) (by kernel_rfl) (by kernel_rfl) (fun _ _ _ h => hside _ _ _ _ _ h) (Or.inl ⟨by rfl, ?_⟩) (by assumption) ?_
                      rotate_left
                      · (intro w hSw; (try dsimp only at hSw); go_simp; all_goals with_reducible rfl)
                      (try simp only [Act.put, List.setIfInBounds_toArray, List.set_cons_zero, List.set_cons_succ])
                      refine wpAnyH_take (i := 24) (v := ?_) (op_at rfl) (by kernel_rfl) (by kernel_rfl) (by kernel_rfl) (fun _ _ _ h => hside _ _ _ _ _ h) (Or.inl ⟨by rfl, ?_⟩) (by assumption) ?_
                      rotate_left
                      · (intro w hSw; (try dsimp only at hSw); go_simp; all_goals with_reducible rfl)
                      (try simp only [Act.put, List.setIfInBounds_toArray, List.set_cons_zero, List.set_cons_succ])
                      refine wpAnyH_take (i := 25) (v := ?_) (op_at rfl) (by kernel_rfl) (by kernel_rfl) (by kernel_rfl) (fun _ _ _ h => hside _ _ _ _ _ h) (Or.inl ⟨by rfl, ?_⟩) (by assumption) ?_
                      rotate_left
                      · (intro w hSw; (try dsimp only at hSw); go_simp; all_goals with_reducible rfl)
                      (try simp only [Act.put, List.setIfInBounds_toArray, List.set_cons_zero, List.set_cons_succ])
                      refine wpAnyH_ready (rs := [26]) (by kernel_rfl) (by simp) (AllReadyH.cons (op_at rfl) (fun Kr hK => ?_) AllReadyH.nil)
                      go_simp
                      refine (HC3.out _ hHeld.1).mono ?_
                      rintro e v1 ⟨rfl, hC1⟩
                      have hS1 : Below wr.heap.size wr v1 := hHeld.1.trans (hC1.mono hHeld.1.size)
                      refine hK.out _ _ ?_ (fun hHeld => ?_)
                      · exact ⟨hS1, cell_later hS1 y15, cell_later hS1 z15, cell_later hS1 e0, cell_later hS1 e1, cell_later hS1 f0, cell_later hS1 f1⟩
                      clear hK
                      (try simp only [Act.put, List.setIfInBounds_toArray, List.set_cons_zero, List.set_cons_succ])
                      refine wpAnyH_take (i := 27) (v := ?_) (op_at rfl) (by kernel_rfl) (by kernel_rfl) (by kernel_rfl) (fun _ _ _ h => hside _ _ _ _ _ h) (Or.inl ⟨by rfl, ?_⟩) (by assumption) ?_
                      rotate_left
                      · (intro w hSw; (try dsimp only at hSw); go_simp; all_goals with_reducible rfl)
                      (try simp only [Act.put, List.setIfInBounds_toArray, List.set_cons_zero, List.set_cons_succ])
                      refine wpAnyH_take (i := 28) (v := ?_) (op_at rfl) (by kernel_rfl) (by kernel_rfl) (by kernel_rfl) (fun _ _ _ h => hside _ _ _ _ _ h) (Or.inl ⟨by rfl, ?_⟩) (by assumption) ?_
                      rotate_left
                      · (intro w hSw; (try dsimp only at hSw); go_simp; all_goals with_reducible rfl)
                      (try simp only [Act.put, List.setIfInBounds_toArray, List.set_cons_zero, List.set_cons_succ])
                      refine wpAnyH_done (by kernel_rfl) ?_ _
                      clear hHeld hside e0 e1 f0 f1 y15 z15
                      go_wp2_with fail
                      go_ret
                      refine ⟨?_, below_then HB2.out (below_then HBr.out hS1)⟩
                      rw [← HRES.out, HNO.out (fun h => by rw [h] at hda; simp at hda)]
                      rfl
                    | true =>
                      have HC2 := HCALL.out
                      rw [hda] at HC2
                      have HC3 := Lib.hid HC2
                      clear HC2
                      have hss : s = s' := by
                        have ha : s.cells = s'.cells := by simpa using hda
                        have hh : ∀ x y : TVrt, x.rc = y.rc → x.cells = y.cells → x = y := by
                          rintro ⟨⟩ ⟨⟩ h1 h2
                          simp only at h1 h2
                          subst h1; subst h2
                          rfl
                        exact hh _ _ hxy ha
                      have HK : Hid (T.t.virts.take (k + 1) = S.t.virts.take (k + 1)) := by
                        show _ = _
                        rw [List.take_succ_eq_append_getElem hlt, List.take_succ_eq_append_getElem (by have := HLV.out; omega), htk.out, (List.getElem?_eq_some_iff.1 HX.out).2, (List.getElem?_eq_some_iff.1 HY.out).2, hss]
                      clear hss hda
                      refine drawn_begin (fun w' => Below wr.heap.size wr w' ∧ w'.cell? ⟨w.heap.size, 15, none⟩ = some (.slice (some ⟨b, o, none⟩) T.t.virts.length T.v.c) ∧ w'.cell? ⟨w.heap.size + 1, 15, none⟩ = some (.slice (some ⟨b', o', none⟩) T.t.virts.length S.v.c) ∧ w'.cell? ⟨b, o + k * 2, none⟩ = some (.int .i64 s.rc) ∧ w'.cell? ⟨b, o + k * 2 + 1, none⟩ = some (.slice Aa s.cells.length ca) ∧ w'.cell? ⟨b', o' + k * 2, none⟩ = some (.int .i64 s'.rc) ∧ w'.cell? ⟨b', o' + k * 2 + 1, none⟩ = some (.slice Ab s'.cells.length cb)) (fun c a d v w h => ?_) (by kernel_rfl) ?_ (fun hside hHeld => ?_)
                      · (obtain ⟨h1, h2⟩ := h; exact And.intro (put_nil h1) h2)
                      · exact ⟨below_drewN (Below.refl _ _) 1, y15, z15, e0, e1, f0, f1⟩
                      refine wpAnyH_take (i := 0) (v := ?_) (op_at rfl) (by kernel_rfl) (by kernel_rfl) (by kernel_rfl) (fun _ _ _ h => hside _ _ _ _ _ h) (Or.inl ⟨by rfl, ?_⟩) (by assumption) ?_
                      rotate_left
                      · (intro w hSw; (try dsimp only at hSw); go_simp; all_goals with_reducible rfl)
                      (try simp only [Act.put, List.setIfInBounds_toArray, List.set_cons_zero, List.set_cons_succ])
                      refine wpAnyH_take (i := 1) (v := ?_) (op_at rfl) (by kernel_rfl) (by kernel_rfl) (by kernel_rfl) (fun _ _ _ h => hside _ _ _ _ _ h) (Or.inl ⟨by rfl, ?_⟩) (by assumption) ?_
                      rotate_left
                      · (intro w hSw; (try dsimp only at hSw); go_simp; all_goals with_reducible rfl)
                      (try simp only [Act.put, List.setIfInBounds_toArray, List.set_cons_zero, List.set_cons_succ])
                      refine wpAnyH_take (i := 2) (v := ?_) (op_at rfl) (by kernel_rfl) (by kernel_rfl) (by kernel_rfl) (fun _ _ _ h => hside _ _ _ _ _ h) (Or.inl ⟨by rfl, ?_⟩) (by assumption) ?_
                      rotate_left
                      · (intro w hSw; (try dsimp only at hSw); go_simp; all_goals with_reducible rfl)
                      (try simp only [Act.put, List.setIfInBounds_toArray, List.set_cons_zero, List.set_cons_succ])
                      refine wpAnyH_take (i := 3) (v := ?_) (op_at rfl) (by kernel_rfl) (by kernel_rfl) (by kernel_rfl) (fun _ _ _ h => hside _ _ _ _ _ h) (Or.inl ⟨by rfl, ?_⟩) (by assumption) ?_
                      rotate_left
                      · (intro w hSw; (try dsimp only at hSw); go_simp; all_goals with_reducible rfl)
                      (try simp only [Act.put, List.setIfInBounds_toArray, List.set_cons_zero, List.set_cons_succ])
                      refine wpAnyH_take (i := 4) (v := ?_) (op_at rfl) (by kernel_rfl) (by kernel_rfl) (by kernel_rfl) (fun _ _ _ h => hside _ _ _ _ _ h) (Or.inl ⟨by rfl, ?_⟩) (by assumption) ?_
                      rotate_left
                      · (intro w hSw; (try dsimp only at hSw); go_simp; all_goals with_reducible rfl)
                      (try simp only [Act.put, List.setIfInBounds_toArray, List.set_cons_zero, List.set_cons_succ])
                      refine wpAnyH_take (i := 5) (v := ?_) (op_at rfl) (by kernel_rfl) (by kernel_rfl) (by kernel_rfl) (fun _ _ _ h => hside _ _ _ _ _ h) (Or.inl ⟨by rfl, ?_⟩) (by assumption) ?_
                      rotate_left
                      · (intro w hSw; (try dsimp only at hSw); go_simp; all_goals with_reducible rfl)
                      (try simp only [Act.put, List.setIfInBounds_toArray, List.set_cons_zero, List.set_cons_succ])
                      refine wpAnyH_take (i := 6) (v := ?_) (op_at rfl) (by kernel_rfl) (by kernel_rfl) (by kernel_rfl) (fun _ _ _ h => hside _ _ _ _ _ h) (Or.inl ⟨by rfl, ?_⟩) (by assumption) ?_
                      rotate_left
                      · (intro w hSw; (try dsimp only at hSw); go_simp; all_goals with_reducible rfl)
                      (try simp only [Act.put, List.setIfInBounds_toArray, List.set_cons_zero, List.set_cons_succ])
                      refine wpAnyH_take (i := 7) (v := ?_) (op_at rfl) (by kernel_rfl) (by kernel_rfl) (by kernel_rfl) (fun _ _ _ h => hside _ _ _ _ _ h) (Or.inl ⟨by rfl, ?_⟩) (by assumption) ?_
                      rotate_left
                      · (intro w hSw; (try dsimp only at hSw); go_simp; all_goals with_reducible rfl)
                      (try simp only [Act.put, List.setIfInBounds_toArray, List.set_cons_zero, List.set_cons_succ])
                      refine wpAnyH_take (i := 8) (v := ?_) (op_at rfl) (by kernel_rfl) (by kernel_rfl) (by kernel_rfl) (fun _ _ _ h => hside _ _ _ _ _ h) (Or.inl ⟨by rfl, ?_⟩) (by assumption) ?_
                      rotate_left
                      · (intro w hSw; (try dsimp only at hSw); go_simp; all_goals with_reducible rfl)
                      (try simp only [Act.put, List.setIfInBounds_toArray, List.set_cons_zero, List.set_cons_succ])
                      refine wpAnyH_take (i := 9) (v := ?_) (op_at rfl) (by kernel_rfl) (by kernel_rfl) (by kernel_rfl) (fun _ _ _ h => hside _ _ _ _ _ h) (Or.inl ⟨by rfl, ?_⟩) (by assumption) ?_
                      rotate_left
                      · (intro w hSw; (try dsimp only at hSw); go_simp; all_goals with_reducible rfl)
                      (try simp only [Act.put, List.setIfInBounds_toArray, List.set_cons_zero, List.set_cons_succ])
                      refine wpAnyH_take (i := 10) (v := ?_) (op_at rfl) (by kernel_rfl) (by kernel_rfl) (by kernel_rfl) (fun _ _ _ h => hside _ _ _ _ _ h) (Or.inl ⟨by rfl, ?_⟩) (by assumption) ?_
                      rotate_left
                      · (intro w hSw; (try dsimp only at hSw); go_simp; all_goals with_reducible rfl)
                      (try simp only [Act.put, List.setIfInBounds_toArray, List.set_cons_zero, List.set_cons_succ])
                      refine wpAnyH_take (i := 11) (v := ?_) (op_at rfl) (by kernel_rfl) (by kernel_rfl) (by kernel_rfl) (fun _ _ _ h => hside _ _ _ _ _ h) (Or.inl ⟨by rfl, ?_⟩) (by assumption) ?_
                      rotate_left
                      · (intro w hSw; (try dsimp only at hSw); go_simp; all_goals with_reducible rfl)
                      (try simp only [Act.put, List.setIfInBounds_toArray, List.set_cons_zero, List.set_cons_succ])
                      refine wpAnyH_take (i := 12) (v := ?_) (op_at rfl) (by kernel_rfl) (by kernel_rfl) (by kernel_rfl) (fun _ _ _ h => hside _ _ _ _ _ h) (Or.inl ⟨by rfl, ?_⟩) (by assumption) ?_
                      rotate_left
                      · (intro w hSw; (try dsimp only at hSw); go_simp; all_goals with_reducible rfl)
                      (try simp only [Act.put, List.setIfInBounds_toArray, List.set_cons_zero, List.set_cons_succ])
                      refine wpAnyH_take (i := 13) (v := ?_) (op_at rfl) (by kernel_rfl) (by kernel_rfl) (by kernel_rfl) (fun _ _ _ h => hside _ _ _ _ _ h) (Or.inl ⟨by rfl, ?_⟩) (by assumption) ?_
                      rotate_left
                      · (intro w hSw; (try dsimp only at hSw); go_simp; all_goals with_reducible rfl)
                      (try simp only [Act.put, List.setIfInBounds_toArray, List.set_cons_zero, List.set_cons_succ])
                      refine wpAnyH_take (i := 14) (v := ?_) (op_at rfl) (by kernel_rfl) (by kernel_rfl) (by kernel_rfl) (fun _ _ _ h => hside _ _ _ _ _ h) (Or.inl ⟨by rfl, ?_⟩) (by assumption) ?_
                      rotate_left
                      · (intro w hSw; (try dsimp only at hSw); go_simp; all_goals with_reducible rfl)
                      (try simp only [Act.put, List.setIfInBounds_toArray, List.set_cons_zero, List.set_cons_succ])
                      refine wpAnyH_take (i := 15) (v := ?_) (op_at rfl) (by kernel_rfl) (by kernel_rfl) (by kernel_rfl) (fun _ _ _ h => hside _ _ _ _ _ h) (Or.inl ⟨by rfl, ?_⟩) (by assumption) ?_
                      rotate_left
                      · (intro w hSw; (try dsimp only at hSw); go_simp; all_goals with_reducible rfl)
                      (try simp only [Act.put, List.setIfInBounds_toArray, List.set_cons_zero, List.set_cons_succ])
                      refine wpAnyH_take (i := 16) (v := ?_) (op_at rfl) (by kernel_rfl) (by kernel_rfl) (by kernel_rfl) (fun _ _ _ h => hside _ _ _ _ _ h) (Or.inl ⟨by rfl, ?_⟩) (by assumption) ?_
                      rotate_left
                      · (intro w hSw; (try dsimp only at hSw); go_simp; all_goals with_reducible rfl)
                      (try simp only [Act.put, List.setIfInBounds_toArray, List.set_cons_zero, List.set_cons_succ])
                      refine wpAnyH_take (i := 17) (v := ?_) (op_at rfl) (by kernel_rfl) (by kernel_rfl) (by kernel_rfl) (fun _ _ _ h => hside _ _ _ _ _ h) (Or.inl ⟨by rfl, ?_⟩) (by assumption) ?_
                      rotate_left
                      · (intro w hSw; (try dsimp only at hSw); go_simp; all_goals with_reducible rfl)
                      (try simp only [Act.put, List.setIfInBounds_toArray, List.set_cons_zero, List.set_cons_succ])
                      refine wpAnyH_take (i := 18) (v := ?_) (op_at rfl) (by kernel_rfl) (by kernel_rfl) (by kernel_rfl) (fun _ _ _ h => hside _ _ _ _ _ h) (Or.inl ⟨by rfl, ?_⟩) (by assumption) ?_
                      rotate_left
                      · (intro w hSw; (try dsimp only at hSw); go_simp; all_goals with_reducible rfl)
                      (try simp only [Act.put, List.setIfInBounds_toArray, List.set_cons_zero, List.set_cons_succ])
                      refine wpAnyH_take (i := 19) (v := ?_) (op_at rfl) (by kernel_rfl) (by kernel_rfl) (by kernel_rfl) (fun _ _ _ h => hside _ _ _ _ _ h) (Or.inl ⟨by rfl, ?_⟩) (by assumption) ?_
                      rotate_left
                      · (intro w hSw; (try dsimp only at hSw); go_simp; all_goals with_reducible rfl)
                      (try simp only [Act.put, List.setIfInBounds_toArray, List.set_cons_zero, List.set_cons_succ])
                      refine wpAnyH_take (i := 20) (v := ?_) (op_at rfl) (by kernel_rfl) (by kernel_rfl) (by kernel_rfl) (fun _ _ _ h => hside _ _ _ _ _ h) (Or.inl ⟨by rfl, ?_⟩) (by assumption) ?_
                      rotate_left
                      · (intro w hSw; (try dsimp only at hSw); go_simp; all_goals with_reducible rfl)
                      (try simp only [Act.put, List.setIfInBounds_toArray, List.set_cons_zero, List.set_cons_succ])
                      refine wpAnyH_take (i := 21) (v := ?_) (op_at rfl) (by kernel_rfl) (by kernel_rfl) (by kernel_rfl) (fun _ _ _ h => hside _ _ _ _ _ h) (Or.inl ⟨by rfl, ?_⟩) (by assumption) ?_
                      rotate_left
                      · (intro w hSw; (try dsimp only at hSw); go_simp; all_goals with_reducible rfl)
                      (try simp only [Act.put, List.setIfInBounds_toArray, List.set_cons_zero, List.set_cons_succ])
                      refine wpAnyH_take (i := 22) (v := ?_) (op_at rfl) (by kernel_rfl) (by kernel_rfl) (by kernel_rfl) (fun _ _ _ h => hside _ _ _ _ _ h) (Or.inl ⟨by rfl, ?_⟩) (by assumption) ?_
                      rotate_left
                      · (intro w hSw; (try dsimp only at hSw); go_simp; all_goals with_reducible rfl)
                      (try simp only [Act.put, List.setIfInBounds_toArray, List.set_cons_zero, List.set_cons_succ])
                      refine wpAnyH_take (i := 23) (v := ?_) (op_at rfl) (by kernel_rfl) (by kernel_rfl) (by kernel_rfl) (fun _ _ _ h => hside _ _ _ _ _ h) (Or.inl ⟨by rfl, ?_⟩) (by assumption) ?_
                      rotate_left
                      · (intro w hSw; (try dsimp only at hSw); go_simp; all_goals with_reducible rfl)
                      (try simp only [Act.put, List.setIfInBounds_toArray, List.set_cons_zero, List.set_cons_succ])
                      refine wpAnyH_take (i := 24) (v := ?_) (op_at rfl) (by kernel_rfl) (by kernel_rfl) (by kernel_rfl) (fun _ _ _ h => hside _ _ _ _ _ h) (Or.inl ⟨by rfl, ?_⟩) (by assumption) ?_
                      rotate_left
                      · (intro w hSw; (try dsimp only at hSw); go_simp; all_goals with_reducible rfl)
                      (try simp only [Act.put, List.setIfInBounds_toArray, List.set_cons_zero, List.set_cons_succ])
                      refine wpAnyH_take (i := 25) (v := ?_) (op_at rfl) (by kernel_rfl) (by kernel_rfl) (by kernel_rfl) (fun _ _ _ h => hside _ _ _ _ _ h) (Or.inl ⟨by rfl, ?_⟩) (by assumption) ?_
                      rotate_left
                      · (intro w hSw; (try dsimp only at hSw); go_simp; all_goals with_reducible rfl)
                      (try simp only [Act.put, List.setIfInBounds_toArray, List.set_cons_zero, List.set_cons_succ])
                      refine wpAnyH_ready (rs := [26]) (by kernel_rfl) (by simp) (AllReadyH.cons (op_at rfl) (fun Kr hK => ?_) AllReadyH.nil)
                      go_simp
                      refine (HC3.out _ hHeld.1).mono ?_
                      rintro e v1 ⟨rfl, hC1⟩
                      have hS1 : Below wr.heap.size wr v1 := hHeld.1.trans (hC1.mono hHeld.1.size)
                      refine hK.out _ _ ?_ (fun hHeld => ?_)
                      · exact ⟨hS1, cell_later hS1 y15, cell_later hS1 z15, cell_later hS1 e0, cell_later hS1 e1, cell_later hS1 f0, cell_later hS1 f1⟩
                      clear hK
                      (try simp only [Act.put, List.setIfInBounds_toArray, List.set_cons_zero, List.set_cons_succ])
                      refine wpAnyH_take (i := 27) (v := ?_) (op_at rfl) (by kernel_rfl) (by kernel_rfl) (by kernel_rfl) (fun _ _ _ h => hside _ _ _ _ _ h) (Or.inl ⟨by rfl, ?_⟩) (by assumption) ?_
                      rotate_left
                      · (intro w hSw; (try dsimp only at hSw); go_simp; all_goals with_reducible rfl)
                      (try simp only [Act.put, List.setIfInBounds_toArray, List.set_cons_zero, List.set_cons_succ])
                      refine wpAnyH_take (i := 28) (v := ?_) (op_at rfl) (by kernel_rfl) (by kernel_rfl) (by kernel_rfl) (fun _ _ _ h => hside _ _ _ _ _ h) (Or.inl ⟨by rfl, ?_⟩) (by assumption) ?_
                      rotate_left
                      · (intro w hSw; (try dsimp only at hSw); go_simp; all_goals with_reducible rfl)
                      (try simp only [Act.put, List.setIfInBounds_toArray, List.set_cons_zero, List.set_cons_succ])
                      refine wpAnyH_done (by kernel_rfl) ?_ _
                      have HBn := Lib.hid (HBw.out.trans (hS1.mono HBw.out.size))
                      clear hHeld hside e0 e1 f0 f1 y15 z15
                      go_wp2_with fail
                      go_roundw
                      case rel => exact ⟨k + 1, by go_num, by omega, HK, HBn.out⟩
                      case measure => simp [intOf]; omega
                  · have hkl : k = T.t.virts.length := by omega
                    subst hkl
                    have HVRT : Hid (T.t.virts = S.t.virts) := by
                      have h1 := htk.out
                      rw [List.take_length, HLV.out, List.take_length] at h1
                      exact h1
                    clear hlt hk htk hB pt15 ps15
                    go_wp2_with fail
                    go_ret
                    refine ⟨?_, below_then HB2.out HBr.out⟩
                    rw [← HRES.out]
                    have : T.t = S.t := HALL.out HINS.out (by simpa using HD0.out) HOPS.out HLNK.out HVRT.out
                    rw [show decide (T.t = S.t) = true from decide_eq_true this]
                    rfl
/-- What swathref16.Same answers. -/
theorem refSame_any (T S : TV) (w : World) (hT : T.ok w) (hS : S.ok w) : Calls Try.prog 26 #[.agg T.cells.toArray, .agg S.cells.toArray] w fun e w' => e = .returned (.bool (decide (T.t = S.t))) ∧ Below w.heap.size w w' := by
  by_cases h : T.t.key = S.t.key ∧ T.t.fn = S.t.fn ∧ T.t.pc = S.t.pc ∧ T.t.ins.length = S.t.ins.length ∧ T.t.ops.length = S.t.ops.length ∧ T.t.links.length = S.t.links.length ∧ T.t.virts.length = S.t.virts.length
  · exact refSame2_any T S w hT hS h.1 h.2.1 h.2.2.1 h.2.2.2.1 h.2.2.2.2.1 h.2.2.2.2.2.1 h.2.2.2.2.2.2
  · exact refSame1_any T S w hT hS h
end Go.Proofs.Ytjcfppbahalgbaa
