/- trace.Same. -/
import Derived.Test.YtjcfppbahalgbaaEqs
namespace Go.Proofs.Ytjcfppbahalgbaa
open Go.RowKit
set_option linter.unusedSimpArgs false
set_option linter.unusedVariables false
theorem eqints_any (A B : Option Addr) (c d : Nat) (xs ys : List Int) (w : World) (hx : RowAt IntR 1 w A xs) (hy : RowAt IntR 1 w B ys) (hxl : xs.length ≤ 1048576) (hyl : ys.length ≤ 1048576) :
    Calls Try.prog 73 #[.slice A xs.length c, .slice B ys.length d] w fun e w' => e = .returned (.bool (decide (xs = ys))) ∧ Below w.heap.size w w' := by
  by_cases hl : xs.length = ys.length
  · by_cases h0 : 0 < xs.length
    · obtain ⟨b1, o1, rfl, _, _⟩ := hx h0
      obtain ⟨b2, o2, rfl, _, _⟩ := hy (by omega)
      refine (Try.slices_Equal_int b1 o1 xs.length c b2 o2 ys.length d xs ys w (Nat.le_refl _) (Nat.le_refl _) (by omega) (by omega) (fun j hj => ?_) (fun j hj => ?_)).mono ?_
      · obtain ⟨x, hxj⟩ : ∃ x, xs[j]? = some x := ⟨_, List.getElem?_eq_getElem hj⟩
        obtain ⟨b, o, he, _, hc⟩ := int_get hx hxj
        cases he
        rw [hc, List.getD_eq_getElem?_getD, hxj]
        rfl
      · obtain ⟨x, hxj⟩ : ∃ x, ys[j]? = some x := ⟨_, List.getElem?_eq_getElem hj⟩
        obtain ⟨b, o, he, _, hc⟩ := int_get hy hxj
        cases he
        rw [hc, List.getD_eq_getElem?_getD, hxj]
        rfl
      · rintro e w' ⟨rfl, q, rfl⟩
        refine ⟨?_, below_drewN (Below.refl _ _) q⟩
        rw [List.take_length, List.take_length]
        congr 2
        rw [Bool.eq_iff_iff]
        simp
    · have h1 : xs = [] := List.eq_nil_of_length_eq_zero (by omega)
      have h2 : ys = [] := List.eq_nil_of_length_eq_zero (by omega)
      subst h1
      subst h2
      refine (Try.slices_Equal_int_empty A B c 0 d w (by omega)).mono ?_
      rintro e w' ⟨rfl, rfl⟩
      exact ⟨rfl, Below.refl _ _⟩
  · refine (Try.slices_Equal_int_lens A B xs.length c ys.length d w hl).mono ?_
    rintro e w' ⟨rfl, rfl⟩
    have hne : ¬ xs = ys := fun h => hl (by rw [h])
    exact ⟨by simp [hne], Below.refl _ _⟩
theorem wpList_value {P : Program} {ops : Array Oper} {Q : Exit → Act → World → Prop} {rest : List Oper} {o : Oper} {a : Act} {w : World} {v : Value} (hgd : o.guard = none) (h : (execOp a.eval o).run P w = .ok (.value v) w)
    (hk : wpList P ops Q rest (a.put o.dst v) w) : wpList P ops Q (o :: rest) a w := by
  refine wpList_plain hgd fun K hK => ?_
  unfold Oper.wp
  simp only [h]
  exact hK _ _ hk
theorem info26 : (Try.prog.info? 26).map (·.size) = some 10 := by kernel_rfl
theorem key_at {T : TV} {w : World} {b : Nat} (h : At w b 0 T.cells) : At w b 0 (keyCs T.t.key) := by
  intro i v hv
  refine h i v ?_
  have hl := (List.getElem?_eq_some_iff.1 hv).1
  have : T.cells = keyCs T.t.key ++ T.cells.drop 10 := rfl
  rw [this, List.getElem?_append_left hl]
  exact hv
set_option maxRecDepth 100000 in
set_option maxHeartbeats 3200000 in
theorem same_any (T S : TV) (w : World) (hT : T.ok w) (hS : S.ok w) : Calls Try.prog 38 #[.agg T.cells.toArray, .agg S.cells.toArray] w fun e w' => e = .returned (.bool (decide (T.t = S.t))) ∧ Below w.heap.size w w' := by
  obtain ⟨W2, hW2⟩ : ∃ W2, (w.alloc (.cells T.cells.toArray 33)).alloc (.cells S.cells.toArray 33) = W2 := ⟨_, rfl⟩
  have hB2 : Below w.heap.size w W2 := by rw [← hW2]; exact below_alloc (below_alloc (Below.refl _ _) _) _
  have hatT : At W2 w.heap.size 0 T.cells := by rw [← hW2]; exact (At.of_obj (heap_alloc_last w _)).below (below_alloc (Below.refl _ _) _)
  have hatS : At W2 (w.heap.size + 1) 0 S.cells := by
    rw [← hW2]
    have := heap_alloc_last (w.alloc (.cells T.cells.toArray 33)) (.cells S.cells.toArray 33)
    rw [World.size_alloc] at this
    exact At.of_obj this
  have cells17 : ∀ (V : TV) (b : Nat) (w : World), At w b 0 V.cells → w.cell? ⟨b, 10, none⟩ = some (.int .i64 V.t.fn) ∧ w.cell? ⟨b, 11, none⟩ = some (.int .i64 V.t.pc) ∧ w.cell? ⟨b, 12, none⟩ = some (.slice V.i.A V.t.ins.length V.i.c) ∧
      w.cell? ⟨b, 13, none⟩ = some (.slice V.o.A V.t.ops.length V.o.c) ∧ w.cell? ⟨b, 14, none⟩ = some (.slice V.l.A V.t.links.length V.l.c) ∧ w.cell? ⟨b, 15, none⟩ = some (.slice V.v.A V.t.virts.length V.v.c) ∧ w.cell? ⟨b, 16, none⟩ = some (.slice V.b.A V.t.back.length V.b.c) := by
    intro V b w h
    have h10 := h 10 _ rfl
    have h11 := h 11 _ rfl
    have h12 := h 12 _ rfl
    have h13 := h 13 _ rfl
    have h14 := h 14 _ rfl
    have h15 := h 15 _ rfl
    have h16 := h 16 _ rfl
    rw [Nat.zero_add] at h10 h11 h12 h13 h14 h15 h16
    exact ⟨h10, h11, h12, h13, h14, h15, h16⟩
  have hKT := Lib.hid (key_at hatT)
  have hKS := Lib.hid (key_at hatS)
  obtain ⟨t10, t11, t12, t13, t14, t15, t16⟩ := cells17 T _ _ hatT
  obtain ⟨s10, s11, s12, s13, s14, s15, s16⟩ := cells17 S _ _ hatS
  have HT := Lib.hid (hT.below hB2)
  have HS := Lib.hid (hS.below hB2)
  obtain ⟨cs, hcs⟩ : ∃ cs, T.cells.toArray = cs := ⟨_, rfl⟩
  obtain ⟨ds, hds⟩ : ∃ ds, S.cells.toArray = ds := ⟨_, rfl⟩
  rw [hcs, hds] at hW2
  rw [hcs, hds]
  have HB2 := Lib.hid hB2
  clear hcs hds hatT hatS hT hS hB2 cells17
  have hne : ∀ {p : Prop} [Decidable p], ¬ p → (T.t = S.t → p) → decide (T.t = S.t) = false := by
    intro p _ hp hi
    simp only [decide_eq_false_iff_not]
    exact fun h => hp (hi h)
  by_cases hk : T.t.key = S.t.key
  rotate_left
  · rw [hne hk (fun h => by rw [h])]
    have hkd : decide (T.t.key = S.t.key) = false := by simpa using hk
    clear hne hk
    go_enter Try.func38, Try.ntmps38
    go_wp2_with (first | (refine wpList_load_at rfl 26 (.tmp 5) rfl w.heap.size rfl (keyCs T.t.key) _ hKT.out Try.underlying26 rfl info26 ?_) | (refine wpList_load_at rfl 26 (.tmp 7) rfl (w.heap.size + 1) rfl (keyCs S.t.key) _ hKS.out Try.underlying26 rfl info26 ?_) | (refine wpList_value rfl (exec_eql26 _ _ _ rfl T.t.key S.t.key rfl rfl) ?_; rw [hkd]))
    go_ret
    exact ⟨rfl, HB2.out⟩
  have hkd : decide (T.t.key = S.t.key) = true := by simpa using hk
  by_cases h_fn : T.t.fn = S.t.fn
  rotate_left
  · rw [hne h_fn (fun h => by rw [h])]
    have d1 : (T.t.fn == S.t.fn) = false := by simpa using h_fn
    have d2 : decide (T.t.fn = S.t.fn) = false := by simpa using h_fn
    clear hne hk h_fn
    go_enter Try.func38, Try.ntmps38
    go_wp2_with (first | (refine wpList_load_at rfl 26 (.tmp 5) rfl w.heap.size rfl (keyCs T.t.key) _ hKT.out Try.underlying26 rfl info26 ?_) | (refine wpList_load_at rfl 26 (.tmp 7) rfl (w.heap.size + 1) rfl (keyCs S.t.key) _ hKS.out Try.underlying26 rfl info26 ?_) | (refine wpList_value rfl (exec_eql26 _ _ _ rfl T.t.key S.t.key rfl rfl) ?_; rw [hkd]))
    go_ret
    exact ⟨rfl, HB2.out⟩
  have d1_fn : (T.t.fn == S.t.fn) = true := by simpa using h_fn
  have d2_fn : decide (T.t.fn = S.t.fn) = true := by simpa using h_fn
  by_cases h_pc : T.t.pc = S.t.pc
  rotate_left
  · rw [hne h_pc (fun h => by rw [h])]
    have d1 : (T.t.pc == S.t.pc) = false := by simpa using h_pc
    have d2 : decide (T.t.pc = S.t.pc) = false := by simpa using h_pc
    clear hne hk h_pc
    go_enter Try.func38, Try.ntmps38
    go_wp2_with (first | (refine wpList_load_at rfl 26 (.tmp 5) rfl w.heap.size rfl (keyCs T.t.key) _ hKT.out Try.underlying26 rfl info26 ?_) | (refine wpList_load_at rfl 26 (.tmp 7) rfl (w.heap.size + 1) rfl (keyCs S.t.key) _ hKS.out Try.underlying26 rfl info26 ?_) | (refine wpList_value rfl (exec_eql26 _ _ _ rfl T.t.key S.t.key rfl rfl) ?_; rw [hkd]))
    go_ret
    exact ⟨rfl, HB2.out⟩
  have d1_pc : (T.t.pc == S.t.pc) = true := by simpa using h_pc
  have d2_pc : decide (T.t.pc = S.t.pc) = true := by simpa using h_pc
  have hall : T.t.ins = S.t.ins → T.t.back = S.t.back → T.t.ops = S.t.ops → T.t.links = S.t.links → T.t.virts = S.t.virts → T.t = S.t := by
    intro a b c d e
    have hh : ∀ x y : Trc, x.key = y.key → x.fn = y.fn → x.pc = y.pc → x.ins = y.ins → x.back = y.back → x.ops = y.ops → x.links = y.links → x.virts = y.virts → x = y := by
      rintro ⟨⟩ ⟨⟩ h1 h2 h3 h4 h5 h6 h7 h8
      simp only at h1 h2 h3 h4 h5 h6 h7 h8
      subst h1; subst h2; subst h3; subst h4; subst h5; subst h6; subst h7; subst h8
      rfl
    exact hh _ _ hk h_fn h_pc a b c d e
  have HALL := Lib.hid hall
  have HNE : Hid (∀ (p : Prop), ¬ p → (T.t = S.t → p) → decide (T.t = S.t) = false) := fun p hp hi => by
    simp only [decide_eq_false_iff_not]
    exact fun h => hp (hi h)
  obtain ⟨res, hres⟩ : ∃ res, decide (T.t = S.t) = res := ⟨_, rfl⟩
  rw [hres]
  have HRES := Lib.hid hres
  clear hne hall hk h_fn h_pc hres
  go_enter Try.func38, Try.ntmps38
  have HBC : Hid (Below W2.heap.size W2 W2) := Below.refl _ _
  go_wp2_with (first | (refine wpList_load_at rfl 26 (.tmp 5) rfl w.heap.size rfl (keyCs T.t.key) _ hKT.out Try.underlying26 rfl info26 ?_) | (refine wpList_load_at rfl 26 (.tmp 7) rfl (w.heap.size + 1) rfl (keyCs S.t.key) _ hKS.out Try.underlying26 rfl info26 ?_) | (refine wpList_value rfl (exec_eql26 _ _ _ rfl T.t.key S.t.key rfl rfl) ?_; rw [hkd]) | (go_at_call 73; refine (eqints_any T.i.A S.i.A T.i.c S.i.c T.t.ins S.t.ins _ (HT.out.below HBC.out).i.2.2.2 (HS.out.below HBC.out).i.2.2.2 HT.out.i.2.2.1 HS.out.i.2.2.1).mono ?_))
  rintro e v0 ⟨rfl, hB⟩
  have t16n := cell_later hB t16
  have s16n := cell_later hB s16
  have t13n := cell_later hB t13
  have s13n := cell_later hB s13
  have t14n := cell_later hB t14
  have s14n := cell_later hB s14
  have t15n := cell_later hB t15
  have s15n := cell_later hB s15
  clear t12 s12 t16 s16 t13 s13 t14 s14 t15 s15
  have t16 := t16n
  have s16 := s16n
  have t13 := t13n
  have s13 := s13n
  have t14 := t14n
  have s14 := s14n
  have t15 := t15n
  have s15 := s15n
  clear t16n s16n t13n s13n t14n s14n t15n s15n
  have HBD := Lib.hid (below_then HBC.out hB)
  clear hB HBC
  have HBC := HBD
  clear HBD
  cases hd0 : decide (T.t.ins = S.t.ins) with
  | false =>
    go_wp2_with fail
    go_ret
    refine ⟨?_, below_then HB2.out HBC.out⟩
    rw [← HRES.out, HNE.out (T.t.ins = S.t.ins) (by simpa using hd0) (fun h => by rw [h])]
    rfl
  | true =>
    go_wp2_with (go_at_call 74; refine (eqs_any T.b.A S.b.A T.b.c S.b.c T.t.back S.t.back _ (HT.out.below HBC.out).b.2.2.2 (HS.out.below HBC.out).b.2.2.2 HT.out.b.2.2.1 HS.out.b.2.2.1).mono ?_)
    rintro e v1 ⟨rfl, hB⟩
    have t13n := cell_later hB t13
    have s13n := cell_later hB s13
    have t14n := cell_later hB t14
    have s14n := cell_later hB s14
    have t15n := cell_later hB t15
    have s15n := cell_later hB s15
    clear t16 s16 t13 s13 t14 s14 t15 s15
    have t13 := t13n
    have s13 := s13n
    have t14 := t14n
    have s14 := s14n
    have t15 := t15n
    have s15 := s15n
    clear t13n s13n t14n s14n t15n s15n
    have HBD := Lib.hid (below_then HBC.out hB)
    clear hB HBC
    have HBC := HBD
    clear HBD
    cases hd1 : decide (T.t.back = S.t.back) with
    | false =>
      go_wp2_with fail
      go_ret
      refine ⟨?_, below_then HB2.out HBC.out⟩
      rw [← HRES.out, HNE.out (T.t.back = S.t.back) (by simpa using hd1) (fun h => by rw [h])]
      rfl
    | true =>
      go_wp2_with (go_at_call 75; refine (eqops_any T.o.A S.o.A T.o.c S.o.c T.t.ops S.t.ops _ (HT.out.below HBC.out).o.2.2.2 (HS.out.below HBC.out).o.2.2.2 HT.out.o.2.2.1 HS.out.o.2.2.1).mono ?_)
      rintro e v2 ⟨rfl, hB⟩
      have t14n := cell_later hB t14
      have s14n := cell_later hB s14
      have t15n := cell_later hB t15
      have s15n := cell_later hB s15
      clear t13 s13 t14 s14 t15 s15
      have t14 := t14n
      have s14 := s14n
      have t15 := t15n
      have s15 := s15n
      clear t14n s14n t15n s15n
      have HBD := Lib.hid (below_then HBC.out hB)
      clear hB HBC
      have HBC := HBD
      clear HBD
      cases hd2 : decide (T.t.ops = S.t.ops) with
      | false =>
        go_wp2_with fail
        go_ret
        refine ⟨?_, below_then HB2.out HBC.out⟩
        rw [← HRES.out, HNE.out (T.t.ops = S.t.ops) (by simpa using hd2) (fun h => by rw [h])]
        rfl
      | true =>
        go_wp2_with (go_at_call 77; refine (eqlnks_any T.l.A S.l.A T.l.c S.l.c T.t.links S.t.links _ (HT.out.below HBC.out).l.2.2.2 (HS.out.below HBC.out).l.2.2.2 HT.out.l.2.2.1 HS.out.l.2.2.1).mono ?_)
        rintro e v3 ⟨rfl, hB⟩
        have t15n := cell_later hB t15
        have s15n := cell_later hB s15
        clear t14 s14 t15 s15
        have t15 := t15n
        have s15 := s15n
        clear t15n s15n
        have HBD := Lib.hid (below_then HBC.out hB)
        clear hB HBC
        have HBC := HBD
        clear HBD
        cases hd3 : decide (T.t.links = S.t.links) with
        | false =>
          go_wp2_with fail
          go_ret
          refine ⟨?_, below_then HB2.out HBC.out⟩
          rw [← HRES.out, HNE.out (T.t.links = S.t.links) (by simpa using hd3) (fun h => by rw [h])]
          rfl
        | true =>
          go_wp2_with (go_at_call 79; refine (eqvrts_any T.v.A S.v.A T.v.c S.v.c T.t.virts S.t.virts _ (HT.out.below HBC.out).v.2.2.2 (HS.out.below HBC.out).v.2.2.2 HT.out.v.2.2.1 HS.out.v.2.2.1).mono ?_)
          rintro e v4 ⟨rfl, hB⟩
          clear t15 s15
          have HBD := Lib.hid (below_then HBC.out hB)
          clear hB HBC
          have HBC := HBD
          clear HBD
          cases hd4 : decide (T.t.virts = S.t.virts) with
          | false =>
            go_wp2_with fail
            go_ret
            refine ⟨?_, below_then HB2.out HBC.out⟩
            rw [← HRES.out, HNE.out (T.t.virts = S.t.virts) (by simpa using hd4) (fun h => by rw [h])]
            rfl
          | true =>
            go_wp2_with fail
            go_ret
            refine ⟨?_, below_then HB2.out HBC.out⟩
            have := HALL.out (by simpa using hd0) (by simpa using hd1) (by simpa using hd2) (by simpa using hd3) (by simpa using hd4)
            rw [← HRES.out]
            simp [this]
end Go.Proofs.Ytjcfppbahalgbaa
