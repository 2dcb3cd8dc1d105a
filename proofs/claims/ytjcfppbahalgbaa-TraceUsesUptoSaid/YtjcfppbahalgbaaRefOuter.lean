/- swathref16.outer: all beside the operations. -/
import Derived.Test.YtjcfppbahalgbaaRefA
namespace Go.Proofs.Ytjcfppbahalgbaa
open Go.RowKit
set_option linter.unusedSimpArgs false
set_option linter.unusedVariables false
theorem outS_ins {t : Trc} (h : allI (insP t.ins) t.ins = false) : outS t = false := by simp [outS, h]
theorem outS_links {t : Trc} (h : allI (linkP t.virts.length) t.links = false) : outS t = false := by simp [outS, h]
theorem outS_virts {t : Trc} (h : t.virts.all (virtP t.virts.length) = false) : outS t = false := by rw [outS, h]; simp
theorem back0 (nv : Nat) : backP nv = plainS 0 := funext fun s => (plain0 nv s).symm
set_option maxRecDepth 100000 in
set_option maxHeartbeats 3200000 in
theorem refouter_any (T : TV) (w : World) (hT : T.ok w) : Calls Try.prog 50 #[.agg T.cells.toArray] w fun e w' => e = .returned (.bool (outS T.t)) ∧ Below w.heap.size w w' := by
  obtain ⟨W1, hW1⟩ : ∃ W1, w.alloc (.cells T.cells.toArray 33) = W1 := ⟨_, rfl⟩
  have hB1 : Below w.heap.size w W1 := by rw [← hW1]; exact below_alloc (Below.refl _ _) _
  have hat1 : At W1 w.heap.size 0 T.cells := by rw [← hW1]; exact At.of_obj (heap_alloc_last w _)
  have x1 := hat1 1 _ rfl
  have x12 := hat1 12 _ rfl
  have x14 := hat1 14 _ rfl
  have x15 := hat1 15 _ rfl
  have x16 := hat1 16 _ rfl
  rw [Nat.zero_add] at x1 x12 x14 x15 x16
  have hil : (T.t.ins.length : Int) ≤ 1048576 := by have := hT.i.2.2.1; omega
  have hll : (T.t.links.length : Int) ≤ 1048576 := by have := hT.l.2.2.1; omega
  have hvl : (T.t.virts.length : Int) ≤ 1048576 := by have := hT.v.2.2.1; omega
  have hbl : (T.t.back.length : Int) ≤ 1048576 := by have := hT.b.2.2.1; omega
  have HT := Lib.hid (hT.below hB1)
  have HB1 := Lib.hid hB1
  obtain ⟨cs, hcs⟩ : ∃ cs, T.cells.toArray = cs := ⟨_, rfl⟩
  rw [hcs] at hW1 ⊢
  clear hcs hat1 hB1 hT
  by_cases g1 : T.t.key.n < 0
  · rw [outS_head (t := T.t) (by simp [headS]; omega)]
    have d1 : decide (T.t.key.n < 0) = true := by simpa using g1
    clear g1
    go_enter Try.func50, Try.ntmps50
    go_wp2_with fail
    go_ret
    exact ⟨rfl, HB1.out⟩
  have d1 : decide (T.t.key.n < 0) = false := by simpa using g1
  by_cases g2 : 4 < T.t.key.n
  · rw [outS_head (t := T.t) (by simp [headS]; omega)]
    have d2 : decide (4 < T.t.key.n) = true := by simpa using g2
    clear g2
    go_enter Try.func50, Try.ntmps50
    go_wp2_with fail
    go_ret
    exact ⟨rfl, HB1.out⟩
  have d2 : decide (4 < T.t.key.n) = false := by simpa using g2
  by_cases g3 : ¬ T.t.back.length = T.t.ins.length
  · rw [outS_head (t := T.t) (by simp [headS, g3])]
    have d3 : ((T.t.back.length : Int) != T.t.ins.length) = true := by simp; omega
    clear g3
    go_enter Try.func50, Try.ntmps50
    go_wp2_with fail
    go_ret
    exact ⟨rfl, HB1.out⟩
  have d3 : ((T.t.back.length : Int) != T.t.ins.length) = false := by simp; omega
  have HHEAD : Hid (headS T.t = true) := by
    show _ = _
    simp [headS]
    omega
  clear g1 g2 g3
  go_enter Try.func50, Try.ntmps50
  go_wp2_with fail
  go_loopw [31] (fun s31 wr => ∃ (k : Nat), s31 = .int .i64 k ∧ k ≤ T.t.ins.length ∧ Hid (allI (insP T.t.ins) (T.t.ins.take k) = true) ∧ Below W1.heap.size W1 wr)
    (fun s31 _ => T.t.ins.length - (intOf s31).toNat)
  case atStart => exact ⟨0, rfl, Nat.zero_le _, rfl, Below.refl _ _⟩
  case round =>
    obtain ⟨k, rfl, hk, hall, hB⟩ := hrel
    have HB := Lib.hid (below_then HB1.out hB)
    have HBW := Lib.hid hB
    by_cases hlt : k < T.t.ins.length
    · obtain ⟨x, hx⟩ : ∃ x, T.t.ins[k]? = some x := ⟨_, List.getElem?_eq_getElem hlt⟩
      obtain ⟨b, o, hA, hb, e0⟩ := int_get (HT.out.below hB).i.2.2.2 hx
      have y12 := cell_later hB x12
      rw [hA] at y12 ⊢
      have HA := Lib.hid hA
      have HX := Lib.hid hx
      clear hx hA hB
      by_cases p1 : x < 0
      · have q1 : decide (x < 0) = true := by simpa using p1
        have HF : Hid (outS T.t = false) := outS_ins (allI_no HX.out (by simp [insP]; omega))
        clear p1
        go_wp2_with fail
        go_ret
        exact ⟨ret_bool HF.out.symm, HB.out⟩
      have q1 : decide (x < 0) = false := by simpa using p1
      by_cases p2 : 1000 ≤ x
      · have q2 : decide (1000 ≤ x) = true := by simpa using p2
        have HF : Hid (outS T.t = false) := outS_ins (allI_no HX.out (by simp [insP]; omega))
        clear p1 p2
        go_wp2_with fail
        go_ret
        exact ⟨ret_bool HF.out.symm, HB.out⟩
      have q2 : decide (1000 ≤ x) = false := by simpa using p2
      by_cases p3 : k = 0
      · have q3 : decide (0 < k) = false := by simp; omega
        have HK : Hid (allI (insP T.t.ins) (T.t.ins.take (k + 1)) = true) := by
          show _ = _
          rw [allI_take_succ HX.out, hall.out]
          simp [insP, p3]
          omega
        clear p1 p2 p3
        go_wp2_with fail
        go_roundw
        case rel => exact ⟨k + 1, by go_num, by omega, HK, HBW.out⟩
        case measure => simp [intOf]; omega
      obtain ⟨k', rfl⟩ : ∃ k', k = k' + 1 := ⟨k - 1, by omega⟩
      obtain ⟨y, hy⟩ : ∃ y, T.t.ins[k']? = some y := ⟨_, List.getElem?_eq_getElem (by omega)⟩
      obtain ⟨b2, o2, hA2, hb2, e2⟩ := int_get (HT.out.below HBW.out).i.2.2.2 hy
      rw [HA.out] at hA2
      cases hA2
      have q3 : decide (0 < k' + 1) = true := by simp
      have q4 : decide ((0 : Int) < (k' : Int) + 1) = true := by rw [decide_eq_true_eq]; omega
      have HG : Hid (T.t.ins.getD k' 0 = y) := by
        show _ = _
        rw [List.getD_eq_getElem?_getD, hy]
        rfl
      by_cases p4 : x ≤ y
      · have q5 : decide (x ≤ y) = true := by simpa using p4
        have HF : Hid (outS T.t = false) := outS_ins (allI_no HX.out (by simp [insP, -List.getD_eq_getElem?_getD, HG.out]; omega))
        clear p1 p2 p3 p4 hy
        go_wp2_with fail
        go_ret
        exact ⟨ret_bool HF.out.symm, HB.out⟩
      have q5 : decide (x ≤ y) = false := by simpa using p4
      have HK : Hid (allI (insP T.t.ins) (T.t.ins.take (k' + 1 + 1)) = true) := by
        show _ = _
        rw [allI_take_succ HX.out, hall.out]
        simp [insP, -List.getD_eq_getElem?_getD, HG.out]
        omega
      clear p1 p2 p3 p4 hy
      go_wp2_with fail
      go_roundw
      case rel => exact ⟨k' + 1 + 1, by go_num, by omega, HK, HBW.out⟩
      case measure => simp [intOf]; omega
    · have hkl : k = T.t.ins.length := by omega
      subst hkl
      rw [List.take_length] at hall
      have y14 := cell_later hB x14
      have HINS := Lib.hid hall.out
      have HBL := Lib.hid hB
      clear hall HBW hB hlt
      obtain ⟨wl, rfl⟩ : ∃ wl, wl = wr := ⟨_, rfl⟩
      go_wp2_with fail
      go_loopw [60] (fun s60 wq => ∃ (k : Nat), s60 = .int .i64 k ∧ k ≤ T.t.links.length ∧ Hid (allI (linkP T.t.virts.length) (T.t.links.take k) = true) ∧ Below W1.heap.size W1 wq)
        (fun s60 _ => T.t.links.length - (intOf s60).toNat)
      case atStart => exact ⟨0, rfl, Nat.zero_le _, rfl, HBL.out⟩
      case round =>
        clear y14 HBL HB
        obtain ⟨k, rfl, hk, hall, hB⟩ := hrel
        have HB := Lib.hid (below_then HB1.out hB)
        have HBW := Lib.hid hB
        by_cases hlt : k < T.t.links.length
        · obtain ⟨x, hx⟩ : ∃ x, T.t.links[k]? = some x := ⟨_, List.getElem?_eq_getElem hlt⟩
          obtain ⟨b, o, Aa, ca, hA, hb, e0, e1, e2, e3, e4, hra⟩ := lnk_get (HT.out.below hB).l.2.2.2 hx
          rw [hA]
          have HX := Lib.hid hx
          have HRA := Lib.hid hra.2.2.2
          have hrl := hra.2.2.1
          clear hx hA hB hra
          go_upto_region 12 with fail
          obtain ⟨W7, hW7⟩ : ∃ W7, wr.alloc (.cells #[.int .i64 x.up, .int .i64 x.fn, .int .i64 x.pc, .int .i64 x.into, .slice Aa x.regs.length ca] 66) = W7 := ⟨_, rfl⟩
          have hB7 : Below wr.heap.size wr W7 := by rw [← hW7]; exact below_alloc (Below.refl _ _) _
          have hb7 := heap_alloc_last wr (.cells #[.int .i64 x.up, .int .i64 x.fn, .int .i64 x.pc, .int .i64 x.into, .slice Aa x.regs.length ca] 66)
          rw [hW7] at hb7 ⊢
          have f0 := cell_of_row W7 wr.heap.size 0 _ _ _ hb7
          have f4 := cell_of_row W7 wr.heap.size 4 _ _ _ hb7
          simp only [List.getElem?_toArray, List.getElem?_cons_zero, List.getElem?_cons_succ] at f0 f4
          have HB7 := Lib.hid (HB.out.trans (hB7.mono HB.out.size))
          have HBW7 := Lib.hid (HBW.out.trans (hB7.mono HBW.out.size))
          have y15 := cell_later HBW7.out x15
          have HC := Lib.hid (refplains_any Aa ca T.t.virts.length x.regs W7 (HRA.out.below hB7 (fun _ _ h => h)) (by omega))
          obtain ⟨bx, hbx⟩ : ∃ bx, wr.heap.size = bx := ⟨_, rfl⟩
          rw [hbx] at f0 f4 ⊢
          clear hB7 hb7 hW7 hbx e0 e1 e2 e3 e4
          by_cases p1 : x.up < -1
          · have qp1 : decide (x.up < -1) = true := by rw [decide_eq_true_eq]; omega
            have HF : Hid (outS T.t = false) := outS_links (allI_no HX.out (by simp [linkP, allS]; omega))
            clear p1
            go_wp2_with fail
            go_ret
            exact ⟨ret_bool HF.out.symm, HB7.out⟩
          have qp1 : decide (x.up < -1) = false := by rw [decide_eq_false_iff_not]; omega
          by_cases p2 : (k : Int) ≤ x.up
          · have qp2 : decide ((k : Int) ≤ x.up) = true := by rw [decide_eq_true_eq]; omega
            have HF : Hid (outS T.t = false) := outS_links (allI_no HX.out (by simp [linkP, allS]; omega))
            clear p2
            go_wp2_with fail
            go_ret
            exact ⟨ret_bool HF.out.symm, HB7.out⟩
          have qp2 : decide ((k : Int) ≤ x.up) = false := by rw [decide_eq_false_iff_not]; omega
          by_cases p3 : 1000 < x.regs.length
          · have qp3 : decide (1000 < x.regs.length) = true := by rw [decide_eq_true_eq]; omega
            have HF : Hid (outS T.t = false) := outS_links (allI_no HX.out (by simp [linkP, allS]; omega))
            have qp4 : decide ((1000 : Int) < x.regs.length) = true := by rw [decide_eq_true_eq]; omega
            clear p3
            go_wp2_with fail
            go_ret
            exact ⟨ret_bool HF.out.symm, HB7.out⟩
          have qp4 : decide ((1000 : Int) < x.regs.length) = false := by rw [decide_eq_false_iff_not]; omega
          have qp3 : decide (1000 < x.regs.length) = false := by rw [decide_eq_false_iff_not]; omega
          cases hp : x.regs.all (plainS T.t.virts.length) with
          | false =>
            have HF : Hid (outS T.t = false) := outS_links (allI_no HX.out (by simp [linkP, allS, hp]))
            have HC2 := HC.out
            rw [hp] at HC2
            have HC3 := Lib.hid HC2
            clear HC2 p1 p2 p3 hp
            go_wp2_with (go_at_call 97; refine HC3.out.mono ?_)
            rintro e w9 rfl hB9
            have HB9 := Lib.hid (HB7.out.trans (hB9.mono HB7.out.size))
            clear hB9
            go_wp2_with fail
            go_ret
            exact ⟨ret_bool HF.out.symm, HB9.out⟩
          | true =>
            have HK : Hid (allI (linkP T.t.virts.length) (T.t.links.take (k + 1)) = true) := by
              show _ = _
              rw [allI_take_succ HX.out, hall.out]
              simp [linkP, allS, hp]
              omega
            have HC2 := HC.out
            rw [hp] at HC2
            have HC3 := Lib.hid HC2
            clear HC2 p1 p2 p3 hp
            go_wp2_with (go_at_call 97; refine HC3.out.mono ?_)
            rintro e w9 rfl hB9
            have HB9 := Lib.hid (below_then HBW7.out hB9)
            clear hB9
            go_wp2_with fail
            go_roundw
            case rel => exact ⟨k + 1, by go_num, by omega, HK, HB9.out⟩
            case measure => simp [intOf]; omega
        · have hkl : k = T.t.links.length := by omega
          subst hkl
          rw [List.take_length] at hall
          have y15 := cell_later hB x15
          have HLNK := Lib.hid hall.out
          have HBV := Lib.hid hB
          clear hall HBW hB hlt
          obtain ⟨wm, rfl⟩ : ∃ wm, wm = wr := ⟨_, rfl⟩
          go_wp2_with fail
          go_loopw [93] (fun s93 wq => ∃ (k : Nat), s93 = .int .i64 k ∧ k ≤ T.t.virts.length ∧ Hid ((T.t.virts.take k).all (virtP T.t.virts.length) = true) ∧ Below W1.heap.size W1 wq)
            (fun s93 _ => T.t.virts.length - (intOf s93).toNat)
          case atStart => exact ⟨0, rfl, Nat.zero_le _, rfl, HBV.out⟩
          case round =>
            clear y15 HBV HB
            obtain ⟨k, rfl, hk, hall, hB⟩ := hrel
            have HB := Lib.hid (below_then HB1.out hB)
            have HBW := Lib.hid hB
            by_cases hlt : k < T.t.virts.length
            · obtain ⟨x, hx⟩ : ∃ x, T.t.virts[k]? = some x := ⟨_, List.getElem?_eq_getElem hlt⟩
              obtain ⟨b, o, Aa, ca, hA, hb, e0, e1, hra⟩ := vrt_get (HT.out.below hB).v.2.2.2 hx
              rw [hA]
              have HX := Lib.hid hx
              have HRA := Lib.hid hra.2.2.2
              have hrl := hra.2.2.1
              clear hx hA hB hra
              go_upto_region 18 with fail
              obtain ⟨W7, hW7⟩ : ∃ W7, wr.alloc (.cells #[.int .i64 x.rc, .slice Aa x.cells.length ca] 69) = W7 := ⟨_, rfl⟩
              have hB7 : Below wr.heap.size wr W7 := by rw [← hW7]; exact below_alloc (Below.refl _ _) _
              have hb7 := heap_alloc_last wr (.cells #[.int .i64 x.rc, .slice Aa x.cells.length ca] 69)
              rw [hW7] at hb7 ⊢
              have f0 := cell_of_row W7 wr.heap.size 0 _ _ _ hb7
              have f4 := cell_of_row W7 wr.heap.size 1 _ _ _ hb7
              simp only [List.getElem?_toArray, List.getElem?_cons_zero, List.getElem?_cons_succ] at f0 f4
              have HB7 := Lib.hid (HB.out.trans (hB7.mono HB.out.size))
              have HBW7 := Lib.hid (HBW.out.trans (hB7.mono HBW.out.size))
              have y15 := cell_later HBW7.out x15
              have HC := Lib.hid (refplains_any Aa ca T.t.virts.length x.cells W7 (HRA.out.below hB7 (fun _ _ h => h)) (by omega))
              obtain ⟨bx, hbx⟩ : ∃ bx, wr.heap.size = bx := ⟨_, rfl⟩
              rw [hbx] at f0 f4 ⊢
              clear hB7 hb7 hW7 hbx e0 e1
              by_cases p1 : x.rc < 0
              · have qp1 : decide (x.rc < 0) = true := by rw [decide_eq_true_eq]; omega
                have HF : Hid (outS T.t = false) := outS_virts (all_no HX.out (by simp [virtP, allS]; omega))
                clear p1
                go_wp2_with fail
                go_ret
                exact ⟨ret_bool HF.out.symm, HB7.out⟩
              have qp1 : decide (x.rc < 0) = false := by rw [decide_eq_false_iff_not]; omega
              by_cases p2 : 1000 < x.rc
              · have qp2 : decide (1000 < x.rc) = true := by rw [decide_eq_true_eq]; omega
                have HF : Hid (outS T.t = false) := outS_virts (all_no HX.out (by simp [virtP, allS]; omega))
                clear p2
                go_wp2_with fail
                go_ret
                exact ⟨ret_bool HF.out.symm, HB7.out⟩
              have qp2 : decide (1000 < x.rc) = false := by rw [decide_eq_false_iff_not]; omega
              by_cases p3 : 1000 < x.cells.length
              · have qp3 : decide (1000 < x.cells.length) = true := by rw [decide_eq_true_eq]; omega
                have HF : Hid (outS T.t = false) := outS_virts (all_no HX.out (by simp [virtP, allS]; omega))
                have qp4 : decide ((1000 : Int) < x.cells.length) = true := by rw [decide_eq_true_eq]; omega
                clear p3
                go_wp2_with fail
                go_ret
                exact ⟨ret_bool HF.out.symm, HB7.out⟩
              have qp4 : decide ((1000 : Int) < x.cells.length) = false := by rw [decide_eq_false_iff_not]; omega
              have qp3 : decide (1000 < x.cells.length) = false := by rw [decide_eq_false_iff_not]; omega
              cases hp : x.cells.all (plainS T.t.virts.length) with
              | false =>
                have HF : Hid (outS T.t = false) := outS_virts (all_no HX.out (by simp [virtP, allS, hp]))
                have HC2 := HC.out
                rw [hp] at HC2
                have HC3 := Lib.hid HC2
                clear HC2 p1 p2 p3 hp
                go_wp2_with (go_at_call 97; refine HC3.out.mono ?_)
                rintro e w9 rfl hB9
                have HB9 := Lib.hid (HB7.out.trans (hB9.mono HB7.out.size))
                clear hB9
                go_wp2_with fail
                go_ret
                exact ⟨ret_bool HF.out.symm, HB9.out⟩
              | true =>
                have HK : Hid ((T.t.virts.take (k + 1)).all (virtP T.t.virts.length) = true) := by
                  show _ = _
                  rw [all_take_succ HX.out, hall.out]
                  simp [virtP, allS, hp]
                  omega
                have HC2 := HC.out
                rw [hp] at HC2
                have HC3 := Lib.hid HC2
                clear HC2 p1 p2 p3 hp
                go_wp2_with (go_at_call 97; refine HC3.out.mono ?_)
                rintro e w9 rfl hB9
                have HB9 := Lib.hid (below_then HBW7.out hB9)
                clear hB9
                go_wp2_with fail
                go_roundw
                case rel => exact ⟨k + 1, by go_num, by omega, HK, HB9.out⟩
                case measure => simp [intOf]; omega
            · have hkl : k = T.t.virts.length := by omega
              subst hkl
              rw [List.take_length] at hall
              have y16 := cell_later hB x16
              have HBK := Lib.hid (refplains_any T.b.A T.b.c 0 T.t.back wr (HT.out.below hB).b.2.2.2 (by omega))
              have HO : Hid (outS T.t = T.t.back.all (plainS 0)) := by
                show _ = _
                unfold outS
                rw [HHEAD.out, HINS.out, HLNK.out, hall.out, back0]
                simp
              clear hall HBW hB hlt
              go_wp2_with (go_at_call 97; refine HBK.out.mono ?_)
              rintro e w9 ⟨rfl, hB9⟩
              have HB9 := Lib.hid (HB.out.trans (hB9.mono HB.out.size))
              clear hB9
              go_wp2_with fail
              go_ret
              exact ⟨ret_bool HO.out.symm, HB9.out⟩
end Go.Proofs.Ytjcfppbahalgbaa
