/- slices.EqualFunc over operations, links and Virts, and what it is handed. -/
import Derived.Test.YtjcfppbahalgbaaEq
namespace Go.Proofs.Ytjcfppbahalgbaa
open Go.RowKit
set_option linter.unusedSimpArgs false
set_option linter.unusedVariables false
set_option maxRecDepth 100000 in
set_option maxHeartbeats 1600000 in
theorem eqop_any (A B : Option Addr) (ca cb : Nat) (o o' : TOp) (w : World) (hx : RowAt SrcR 4 w A o.args) (hy : RowAt SrcR 4 w B o'.args) (hxl : o.args.length ≤ 1048576) (hyl : o'.args.length ≤ 1048576) :
    Calls Try.prog 76 #[.agg #[.int .i64 o.op, .slice A o.args.length ca, .int .i64 o.kk, .int .i64 o.c, .int .i64 o.snap], .agg #[.int .i64 o'.op, .slice B o'.args.length cb, .int .i64 o'.kk, .int .i64 o'.c, .int .i64 o'.snap]] w fun e w' => e = .returned (.bool (decide (o = o'))) ∧ Below w.heap.size w w' := by
  obtain ⟨f_op, xs, f_kk, f_c, f_snap⟩ := o
  obtain ⟨g_op, ys, g_kk, g_c, g_snap⟩ := o'
  simp only at hx hy hxl hyl ⊢
  by_cases h_op : f_op = g_op
  rotate_left
  · have d1 : (f_op == g_op) = false := by simpa using h_op
    have d2 : decide (f_op = g_op) = false := by simpa using h_op
    clear hx hy
    go_enter Try.func76, Try.ntmps76
    go_wp2_with fail
    go_ret
    exact ⟨by simp [h_op], below_alloc (below_alloc (Below.refl _ _) _) _⟩
  subst h_op
  by_cases h_kk : f_kk = g_kk
  rotate_left
  · have d1 : (f_kk == g_kk) = false := by simpa using h_kk
    have d2 : decide (f_kk = g_kk) = false := by simpa using h_kk
    clear hx hy
    go_enter Try.func76, Try.ntmps76
    go_wp2_with fail
    go_ret
    exact ⟨by simp [h_kk], below_alloc (below_alloc (Below.refl _ _) _) _⟩
  subst h_kk
  by_cases h_c : f_c = g_c
  rotate_left
  · have d1 : (f_c == g_c) = false := by simpa using h_c
    have d2 : decide (f_c = g_c) = false := by simpa using h_c
    clear hx hy
    go_enter Try.func76, Try.ntmps76
    go_wp2_with fail
    go_ret
    exact ⟨by simp [h_c], below_alloc (below_alloc (Below.refl _ _) _) _⟩
  subst h_c
  by_cases h_snap : f_snap = g_snap
  rotate_left
  · have d1 : (f_snap == g_snap) = false := by simpa using h_snap
    have d2 : decide (f_snap = g_snap) = false := by simpa using h_snap
    clear hx hy
    go_enter Try.func76, Try.ntmps76
    go_wp2_with fail
    go_ret
    exact ⟨by simp [h_snap], below_alloc (below_alloc (Below.refl _ _) _) _⟩
  subst h_snap
  have HX := Lib.hid hx
  have HY := Lib.hid hy
  clear hx hy
  go_enter Try.func76, Try.ntmps76
  go_wp2_with (go_at_call 74; refine (eqs_any A B ca cb xs ys _ (HX.out.below (below_alloc (below_alloc (Below.refl _ _) _) _) (fun _ _ h => h)) (HY.out.below (below_alloc (below_alloc (Below.refl _ _) _) _) (fun _ _ h => h)) hxl hyl).mono ?_)
  rintro e w' ⟨rfl, hB⟩
  have hB2 := below_then (below_alloc (below_alloc (Below.refl w.heap.size w) _) _) hB
  cases hd : decide (xs = ys)
  all_goals
    go_wp2_with fail
    go_ret
    refine ⟨?_, hB2⟩
    simp at hd
    simp [hd]
set_option maxRecDepth 100000 in
set_option maxHeartbeats 1600000 in
theorem eqops_any (A B : Option Addr) (c d : Nat) (xs ys : List TOp) (w : World) (hx : RowAt OpR 5 w A xs) (hy : RowAt OpR 5 w B ys) (hxl : xs.length ≤ 1048576) (hyl : ys.length ≤ 1048576) :
    Calls Try.prog 75 #[.slice A xs.length c, .slice B ys.length d, .func (.func 76) #[] #[]] w fun e w' => e = .returned (.bool (decide (xs = ys))) ∧ Below w.heap.size w w' := by
  by_cases hl : xs.length = ys.length
  · have HX := Lib.hid hx
    have HY := Lib.hid hy
    have HL := Lib.hid hl
    clear hx hy
    rw [← hl] at hyl ⊢
    clear hl
    go_enter Try.func75, Try.ntmps75
    go_wp2_with fail
    go_loopw [17] (fun s17 wr => ∃ (k : Nat), s17 = .int .i64 k ∧ k ≤ xs.length ∧ Hid (xs.take k = ys.take k) ∧ Below w.heap.size w wr)
      (fun s17 _ => xs.length - (intOf s17).toNat)
    case atStart => exact ⟨0, rfl, Nat.zero_le _, rfl, Below.refl _ _⟩
    case round =>
      obtain ⟨k, rfl, hk, htk, hB⟩ := hrel
      by_cases hlt : k < xs.length
      · obtain ⟨s, hs⟩ : ∃ s, xs[k]? = some s := ⟨_, List.getElem?_eq_getElem hlt⟩
        obtain ⟨s', hs'⟩ : ∃ s', ys[k]? = some s' := ⟨_, List.getElem?_eq_getElem (by have := HL.out; omega)⟩
        obtain ⟨b, o, Aa, ca, rfl, hb, e0, e1, e2, e3, e4, hra⟩ := op_get (HX.out.below hB (fun _ _ ⟨v, e, h⟩ => ⟨v, e, sl_src_below hB h⟩)) hs
        obtain ⟨b', o', Ab, cb, rfl, hb', f0, f1, f2, f3, f4, hrb⟩ := op_get (HY.out.below hB (fun _ _ ⟨v, e, h⟩ => ⟨v, e, sl_src_below hB h⟩)) hs'
        have HS := Lib.hid hs
        have HS' := Lib.hid hs'
        have HB := Lib.hid hB
        have HRA := Lib.hid hra
        have HRB := Lib.hid hrb
        clear hs hs' hB hra hrb
        go_wp2_with (go_at_call 76; refine (eqop_any Aa Ab ca cb s s' _ (HRA.out.2.2.2.below (below_alloc (below_alloc (Below.refl _ _) _) _) (fun _ _ h => h)) (HRB.out.2.2.2.below (below_alloc (below_alloc (Below.refl _ _) _) _) (fun _ _ h => h)) HRA.out.2.2.1 HRB.out.2.2.1).mono ?_)
        rintro e w7 ⟨rfl, hB7⟩
        have HB7 := Lib.hid (HB.out.trans ((below_then (below_alloc (below_alloc (Below.refl wr.heap.size wr) _) _) hB7).mono HB.out.size))
        clear hB7
        by_cases hss : s = s'
        · have HK : Hid (xs.take (k + 1) = ys.take (k + 1)) := by
            show _ = _
            rw [List.take_succ_eq_append_getElem hlt, List.take_succ_eq_append_getElem (by have := HL.out; omega), htk.out, (List.getElem?_eq_some_iff.1 HS.out).2, (List.getElem?_eq_some_iff.1 HS'.out).2, hss]
          have hd : decide (s = s') = true := by simpa using hss
          rw [hd]
          clear hss hd
          go_wp2_with fail
          go_roundw
          case rel => exact ⟨k + 1, by go_num, by omega, HK, HB7.out⟩
          case measure => simp [intOf]; omega
        · have hne : decide (xs = ys) = false := by
            simp only [decide_eq_false_iff_not]
            rintro rfl
            have := HS.out.symm.trans HS'.out
            exact hss (Option.some.inj this)
          have hd : decide (s = s') = false := by simpa using hss
          rw [hd]
          clear hss hd
          go_wp2_with fail
          go_ret
          exact ⟨by rw [hne]; rfl, HB7.out⟩
      · have hkl : k = xs.length := by omega
        subst hkl
        go_wp2_with fail
        go_ret
        have h1 := htk.out
        rw [List.take_length, HL.out, List.take_length] at h1
        exact ⟨by simp [h1], hB⟩
  · have hl1 : ((xs.length : Int) != ys.length) = true := by simp; omega
    have hne : ¬ xs = ys := fun h => hl (by rw [h])
    go_enter Try.func75, Try.ntmps75
    go_wp2_with fail
    go_ret
    exact ⟨by simp [hne], Below.refl _ _⟩
set_option maxRecDepth 100000 in
set_option maxHeartbeats 1600000 in
theorem eqlnk_any (A B : Option Addr) (ca cb : Nat) (o o' : TLnk) (w : World) (hx : RowAt SrcR 4 w A o.regs) (hy : RowAt SrcR 4 w B o'.regs) (hxl : o.regs.length ≤ 1048576) (hyl : o'.regs.length ≤ 1048576) :
    Calls Try.prog 78 #[.agg #[.int .i64 o.up, .int .i64 o.fn, .int .i64 o.pc, .int .i64 o.into, .slice A o.regs.length ca], .agg #[.int .i64 o'.up, .int .i64 o'.fn, .int .i64 o'.pc, .int .i64 o'.into, .slice B o'.regs.length cb]] w fun e w' => e = .returned (.bool (decide (o = o'))) ∧ Below w.heap.size w w' := by
  obtain ⟨f_up, f_fn, f_pc, f_into, xs⟩ := o
  obtain ⟨g_up, g_fn, g_pc, g_into, ys⟩ := o'
  simp only at hx hy hxl hyl ⊢
  by_cases h_up : f_up = g_up
  rotate_left
  · have d1 : (f_up == g_up) = false := by simpa using h_up
    have d2 : decide (f_up = g_up) = false := by simpa using h_up
    clear hx hy
    go_enter Try.func78, Try.ntmps78
    go_wp2_with fail
    go_ret
    exact ⟨by simp [h_up], below_alloc (below_alloc (Below.refl _ _) _) _⟩
  subst h_up
  by_cases h_fn : f_fn = g_fn
  rotate_left
  · have d1 : (f_fn == g_fn) = false := by simpa using h_fn
    have d2 : decide (f_fn = g_fn) = false := by simpa using h_fn
    clear hx hy
    go_enter Try.func78, Try.ntmps78
    go_wp2_with fail
    go_ret
    exact ⟨by simp [h_fn], below_alloc (below_alloc (Below.refl _ _) _) _⟩
  subst h_fn
  by_cases h_pc : f_pc = g_pc
  rotate_left
  · have d1 : (f_pc == g_pc) = false := by simpa using h_pc
    have d2 : decide (f_pc = g_pc) = false := by simpa using h_pc
    clear hx hy
    go_enter Try.func78, Try.ntmps78
    go_wp2_with fail
    go_ret
    exact ⟨by simp [h_pc], below_alloc (below_alloc (Below.refl _ _) _) _⟩
  subst h_pc
  by_cases h_into : f_into = g_into
  rotate_left
  · have d1 : (f_into == g_into) = false := by simpa using h_into
    have d2 : decide (f_into = g_into) = false := by simpa using h_into
    clear hx hy
    go_enter Try.func78, Try.ntmps78
    go_wp2_with fail
    go_ret
    exact ⟨by simp [h_into], below_alloc (below_alloc (Below.refl _ _) _) _⟩
  subst h_into
  have HX := Lib.hid hx
  have HY := Lib.hid hy
  clear hx hy
  go_enter Try.func78, Try.ntmps78
  go_wp2_with (go_at_call 74; refine (eqs_any A B ca cb xs ys _ (HX.out.below (below_alloc (below_alloc (Below.refl _ _) _) _) (fun _ _ h => h)) (HY.out.below (below_alloc (below_alloc (Below.refl _ _) _) _) (fun _ _ h => h)) hxl hyl).mono ?_)
  rintro e w' ⟨rfl, hB⟩
  have hB2 := below_then (below_alloc (below_alloc (Below.refl w.heap.size w) _) _) hB
  cases hd : decide (xs = ys)
  all_goals
    go_wp2_with fail
    go_ret
    refine ⟨?_, hB2⟩
    simp at hd
    simp [hd]
set_option maxRecDepth 100000 in
set_option maxHeartbeats 1600000 in
theorem eqlnks_any (A B : Option Addr) (c d : Nat) (xs ys : List TLnk) (w : World) (hx : RowAt LnkR 5 w A xs) (hy : RowAt LnkR 5 w B ys) (hxl : xs.length ≤ 1048576) (hyl : ys.length ≤ 1048576) :
    Calls Try.prog 77 #[.slice A xs.length c, .slice B ys.length d, .func (.func 78) #[] #[]] w fun e w' => e = .returned (.bool (decide (xs = ys))) ∧ Below w.heap.size w w' := by
  by_cases hl : xs.length = ys.length
  · have HX := Lib.hid hx
    have HY := Lib.hid hy
    have HL := Lib.hid hl
    clear hx hy
    rw [← hl] at hyl ⊢
    clear hl
    go_enter Try.func77, Try.ntmps77
    go_wp2_with fail
    go_loopw [17] (fun s17 wr => ∃ (k : Nat), s17 = .int .i64 k ∧ k ≤ xs.length ∧ Hid (xs.take k = ys.take k) ∧ Below w.heap.size w wr)
      (fun s17 _ => xs.length - (intOf s17).toNat)
    case atStart => exact ⟨0, rfl, Nat.zero_le _, rfl, Below.refl _ _⟩
    case round =>
      obtain ⟨k, rfl, hk, htk, hB⟩ := hrel
      by_cases hlt : k < xs.length
      · obtain ⟨s, hs⟩ : ∃ s, xs[k]? = some s := ⟨_, List.getElem?_eq_getElem hlt⟩
        obtain ⟨s', hs'⟩ : ∃ s', ys[k]? = some s' := ⟨_, List.getElem?_eq_getElem (by have := HL.out; omega)⟩
        obtain ⟨b, o, Aa, ca, rfl, hb, e0, e1, e2, e3, e4, hra⟩ := lnk_get (HX.out.below hB (fun _ _ ⟨v, e, h⟩ => ⟨v, e, sl_src_below hB h⟩)) hs
        obtain ⟨b', o', Ab, cb, rfl, hb', f0, f1, f2, f3, f4, hrb⟩ := lnk_get (HY.out.below hB (fun _ _ ⟨v, e, h⟩ => ⟨v, e, sl_src_below hB h⟩)) hs'
        have HS := Lib.hid hs
        have HS' := Lib.hid hs'
        have HB := Lib.hid hB
        have HRA := Lib.hid hra
        have HRB := Lib.hid hrb
        clear hs hs' hB hra hrb
        go_wp2_with (go_at_call 78; refine (eqlnk_any Aa Ab ca cb s s' _ (HRA.out.2.2.2.below (below_alloc (below_alloc (Below.refl _ _) _) _) (fun _ _ h => h)) (HRB.out.2.2.2.below (below_alloc (below_alloc (Below.refl _ _) _) _) (fun _ _ h => h)) HRA.out.2.2.1 HRB.out.2.2.1).mono ?_)
        rintro e w7 ⟨rfl, hB7⟩
        have HB7 := Lib.hid (HB.out.trans ((below_then (below_alloc (below_alloc (Below.refl wr.heap.size wr) _) _) hB7).mono HB.out.size))
        clear hB7
        by_cases hss : s = s'
        · have HK : Hid (xs.take (k + 1) = ys.take (k + 1)) := by
            show _ = _
            rw [List.take_succ_eq_append_getElem hlt, List.take_succ_eq_append_getElem (by have := HL.out; omega), htk.out, (List.getElem?_eq_some_iff.1 HS.out).2, (List.getElem?_eq_some_iff.1 HS'.out).2, hss]
          have hd : decide (s = s') = true := by simpa using hss
          rw [hd]
          clear hss hd
          go_wp2_with fail
          go_roundw
          case rel => exact ⟨k + 1, by go_num, by omega, HK, HB7.out⟩
          case measure => simp [intOf]; omega
        · have hne : decide (xs = ys) = false := by
            simp only [decide_eq_false_iff_not]
            rintro rfl
            have := HS.out.symm.trans HS'.out
            exact hss (Option.some.inj this)
          have hd : decide (s = s') = false := by simpa using hss
          rw [hd]
          clear hss hd
          go_wp2_with fail
          go_ret
          exact ⟨by rw [hne]; rfl, HB7.out⟩
      · have hkl : k = xs.length := by omega
        subst hkl
        go_wp2_with fail
        go_ret
        have h1 := htk.out
        rw [List.take_length, HL.out, List.take_length] at h1
        exact ⟨by simp [h1], hB⟩
  · have hl1 : ((xs.length : Int) != ys.length) = true := by simp; omega
    have hne : ¬ xs = ys := fun h => hl (by rw [h])
    go_enter Try.func77, Try.ntmps77
    go_wp2_with fail
    go_ret
    exact ⟨by simp [hne], Below.refl _ _⟩
set_option maxRecDepth 100000 in
set_option maxHeartbeats 1600000 in
theorem eqvrt_any (A B : Option Addr) (ca cb : Nat) (o o' : TVrt) (w : World) (hx : RowAt SrcR 4 w A o.cells) (hy : RowAt SrcR 4 w B o'.cells) (hxl : o.cells.length ≤ 1048576) (hyl : o'.cells.length ≤ 1048576) :
    Calls Try.prog 80 #[.agg #[.int .i64 o.rc, .slice A o.cells.length ca], .agg #[.int .i64 o'.rc, .slice B o'.cells.length cb]] w fun e w' => e = .returned (.bool (decide (o = o'))) ∧ Below w.heap.size w w' := by
  obtain ⟨f_rc, xs⟩ := o
  obtain ⟨g_rc, ys⟩ := o'
  simp only at hx hy hxl hyl ⊢
  by_cases h_rc : f_rc = g_rc
  rotate_left
  · have d1 : (f_rc == g_rc) = false := by simpa using h_rc
    have d2 : decide (f_rc = g_rc) = false := by simpa using h_rc
    clear hx hy
    go_enter Try.func80, Try.ntmps80
    go_wp2_with fail
    go_ret
    exact ⟨by simp [h_rc], below_alloc (below_alloc (Below.refl _ _) _) _⟩
  subst h_rc
  have HX := Lib.hid hx
  have HY := Lib.hid hy
  clear hx hy
  go_enter Try.func80, Try.ntmps80
  go_wp2_with (go_at_call 74; refine (eqs_any A B ca cb xs ys _ (HX.out.below (below_alloc (below_alloc (Below.refl _ _) _) _) (fun _ _ h => h)) (HY.out.below (below_alloc (below_alloc (Below.refl _ _) _) _) (fun _ _ h => h)) hxl hyl).mono ?_)
  rintro e w' ⟨rfl, hB⟩
  have hB2 := below_then (below_alloc (below_alloc (Below.refl w.heap.size w) _) _) hB
  cases hd : decide (xs = ys)
  all_goals
    go_wp2_with fail
    go_ret
    refine ⟨?_, hB2⟩
    simp at hd
    simp [hd]
set_option maxRecDepth 100000 in
set_option maxHeartbeats 1600000 in
theorem eqvrts_any (A B : Option Addr) (c d : Nat) (xs ys : List TVrt) (w : World) (hx : RowAt VrtR 2 w A xs) (hy : RowAt VrtR 2 w B ys) (hxl : xs.length ≤ 1048576) (hyl : ys.length ≤ 1048576) :
    Calls Try.prog 79 #[.slice A xs.length c, .slice B ys.length d, .func (.func 80) #[] #[]] w fun e w' => e = .returned (.bool (decide (xs = ys))) ∧ Below w.heap.size w w' := by
  by_cases hl : xs.length = ys.length
  · have HX := Lib.hid hx
    have HY := Lib.hid hy
    have HL := Lib.hid hl
    clear hx hy
    rw [← hl] at hyl ⊢
    clear hl
    go_enter Try.func79, Try.ntmps79
    go_wp2_with fail
    go_loopw [17] (fun s17 wr => ∃ (k : Nat), s17 = .int .i64 k ∧ k ≤ xs.length ∧ Hid (xs.take k = ys.take k) ∧ Below w.heap.size w wr)
      (fun s17 _ => xs.length - (intOf s17).toNat)
    case atStart => exact ⟨0, rfl, Nat.zero_le _, rfl, Below.refl _ _⟩
    case round =>
      obtain ⟨k, rfl, hk, htk, hB⟩ := hrel
      by_cases hlt : k < xs.length
      · obtain ⟨s, hs⟩ : ∃ s, xs[k]? = some s := ⟨_, List.getElem?_eq_getElem hlt⟩
        obtain ⟨s', hs'⟩ : ∃ s', ys[k]? = some s' := ⟨_, List.getElem?_eq_getElem (by have := HL.out; omega)⟩
        obtain ⟨b, o, Aa, ca, rfl, hb, e0, e1, hra⟩ := vrt_get (HX.out.below hB (fun _ _ ⟨v, e, h⟩ => ⟨v, e, sl_src_below hB h⟩)) hs
        obtain ⟨b', o', Ab, cb, rfl, hb', f0, f1, hrb⟩ := vrt_get (HY.out.below hB (fun _ _ ⟨v, e, h⟩ => ⟨v, e, sl_src_below hB h⟩)) hs'
        have HS := Lib.hid hs
        have HS' := Lib.hid hs'
        have HB := Lib.hid hB
        have HRA := Lib.hid hra
        have HRB := Lib.hid hrb
        clear hs hs' hB hra hrb
        go_wp2_with (go_at_call 80; refine (eqvrt_any Aa Ab ca cb s s' _ (HRA.out.2.2.2.below (below_alloc (below_alloc (Below.refl _ _) _) _) (fun _ _ h => h)) (HRB.out.2.2.2.below (below_alloc (below_alloc (Below.refl _ _) _) _) (fun _ _ h => h)) HRA.out.2.2.1 HRB.out.2.2.1).mono ?_)
        rintro e w7 ⟨rfl, hB7⟩
        have HB7 := Lib.hid (HB.out.trans ((below_then (below_alloc (below_alloc (Below.refl wr.heap.size wr) _) _) hB7).mono HB.out.size))
        clear hB7
        by_cases hss : s = s'
        · have HK : Hid (xs.take (k + 1) = ys.take (k + 1)) := by
            show _ = _
            rw [List.take_succ_eq_append_getElem hlt, List.take_succ_eq_append_getElem (by have := HL.out; omega), htk.out, (List.getElem?_eq_some_iff.1 HS.out).2, (List.getElem?_eq_some_iff.1 HS'.out).2, hss]
          have hd : decide (s = s') = true := by simpa using hss
          rw [hd]
          clear hss hd
          go_wp2_with fail
          go_roundw
          case rel => exact ⟨k + 1, by go_num, by omega, HK, HB7.out⟩
          case measure => simp [intOf]; omega
        · have hne : decide (xs = ys) = false := by
            simp only [decide_eq_false_iff_not]
            rintro rfl
            have := HS.out.symm.trans HS'.out
            exact hss (Option.some.inj this)
          have hd : decide (s = s') = false := by simpa using hss
          rw [hd]
          clear hss hd
          go_wp2_with fail
          go_ret
          exact ⟨by rw [hne]; rfl, HB7.out⟩
      · have hkl : k = xs.length := by omega
        subst hkl
        go_wp2_with fail
        go_ret
        have h1 := htk.out
        rw [List.take_length, HL.out, List.take_length] at h1
        exact ⟨by simp [h1], hB⟩
  · have hl1 : ((xs.length : Int) != ys.length) = true := by simp; omega
    have hne : ¬ xs = ys := fun h => hl (by rw [h])
    go_enter Try.func79, Try.ntmps79
    go_wp2_with fail
    go_ret
    exact ⟨by simp [hne], Below.refl _ _⟩
end Go.Proofs.Ytjcfppbahalgbaa
