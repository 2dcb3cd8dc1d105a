/- swathref16.Check: what the trace layer's Check tells. -/
import Derived.Test.YtjcfppbahalgbaaRefOuter
import Derived.Test.YtjcfppbahalgbaaRefOp
namespace Go.Proofs.Ytjcfppbahalgbaa
open Go.RowKit
set_option linter.unusedSimpArgs false
set_option linter.unusedVariables false
/-- Whether there is a fault: its number. -/
def badOf : Option Nat → Int
  | none => 0
  | some _ => 160
def RefCheckPost (T : TV) (w : World) (e : Ending) (w' : World) : Prop := ∃ r x, CheckR T.t r ∧ e = .returned (.tuple #[.int .i64 x, .int .i64 (badOf r)]) ∧ Below w.heap.size w w'
set_option maxRecDepth 100000 in
set_option maxHeartbeats 3200000 in
theorem refcheck_any (T : TV) (w : World) (hT : T.ok w) (hn : Nums T.t) : Calls Try.prog 18 #[.agg T.cells.toArray] w (RefCheckPost T w) := by
  obtain ⟨W1, hW1⟩ : ∃ W1, w.alloc (.cells T.cells.toArray 33) = W1 := ⟨_, rfl⟩
  have hB1 : Below w.heap.size w W1 := by rw [← hW1]; exact below_alloc (Below.refl _ _) _
  have hat1 : At W1 w.heap.size 0 T.cells := by rw [← hW1]; exact At.of_obj (heap_alloc_last w _)
  have x13 := hat1 13 _ rfl
  have x16 := hat1 16 _ rfl
  rw [Nat.zero_add] at x13 x16
  have hol : (T.t.ops.length : Int) ≤ 1048576 := by have := hT.o.2.2.1; omega
  have hbl : (T.t.back.length : Int) ≤ 1048576 := by have := hT.b.2.2.1; omega
  have HT := Lib.hid (hT.below hB1)
  have HB1 := Lib.hid hB1
  have HAT := Lib.hid hat1
  have HTK : Hid (outS T.t = true → TakeOk T.t) := fun h => takeOk_of h hn.regs hn.cells
  have houter := fun (w' : World) (h : Below W1.heap.size W1 w') => refouter_any T w' (HT.out.below h)
  have hop := fun (h : outS T.t = true) (k : Nat) (hk : k < T.t.ops.length) (w' : World) (hw : Below W1.heap.size W1 w') => refop_any T k w' (HT.out.below hw) (HTK.out h) hk
  have hmade := fun (s : TSrc) (w' : World) (h : Below W1.heap.size W1 w') => refmade_any T s T.t.ops.length w' (HT.out.below h) (Nat.le_refl _)
  obtain ⟨cs, hcs⟩ : ∃ cs, T.cells.toArray = cs := ⟨_, rfl⟩
  rw [hcs] at hW1 houter hop hmade ⊢
  simp only [srcCs] at hmade
  have HOUT := Lib.hid houter
  have HOP := Lib.hid hop
  have HMADE := Lib.hid hmade
  have HCS := Lib.hid hcs
  clear hcs hat1 hB1 hT hn houter hop hmade
  cases ho : outS T.t with
  | false =>
    have HC : Hid (CheckR T.t (some T.t.ops.length)) := CheckR.out ho
    have h0 := HOUT.out
    rw [ho] at h0
    have HOUT := Lib.hid h0
    clear h0 ho HOP
    go_enter Try.func18, Try.ntmps18
    go_wp2_with (first | (refine wpList_load_at rfl 33 _ rfl w.heap.size rfl T.cells _ HAT.out Try.underlying33 rfl info33 ?_; rw [HCS.out]) | (go_at_call 50; refine (HOUT.out _ (Below.refl _ _)).mono ?_))
    rintro e w2 ⟨rfl, hB2⟩
    have y13 := cell_later hB2 x13
    have HB2 := Lib.hid hB2
    clear hB2
    go_wp2_with fail
    refine bodyPost_ret (by simp [results, Try.results18]; rfl) rfl ?_
    exact ⟨some _, _, HC.out, rfl, below_then HB1.out HB2.out⟩
  | true =>
    have HO := Lib.hid ho
    have h0 := HOUT.out
    rw [ho] at h0
    have HOUT := Lib.hid h0
    have HOP2 := Lib.hid (HOP.out ho)
    clear h0 ho HOP
    go_enter Try.func18, Try.ntmps18
    go_wp2_with (first | (refine wpList_load_at rfl 33 _ rfl w.heap.size rfl T.cells _ HAT.out Try.underlying33 rfl info33 ?_; rw [HCS.out]) | (go_at_call 50; refine (HOUT.out _ (Below.refl _ _)).mono ?_))
    rintro e w2 ⟨rfl, hB2⟩
    have y13 := cell_later hB2 x13
    have HB2 := Lib.hid hB2
    clear hB2
    go_wp2_with fail
    go_loopw [16] (fun s16 wr => ∃ (k : Nat), s16 = .int .i64 k ∧ k ≤ T.t.ops.length ∧ Hid (∀ j < k, OpAt T.t j) ∧ Below W1.heap.size W1 wr)
      (fun s16 _ => T.t.ops.length - (intOf s16).toNat)
    case atStart => exact ⟨0, rfl, Nat.zero_le _, fun j hj => absurd hj (by omega), HB2.out⟩
    case round =>
      clear y13 HB2
      obtain ⟨k, rfl, hk, hall, hB⟩ := hrel
      have HATr := Lib.hid (HAT.out.below hB)
      have HB := Lib.hid hB
      clear hB
      by_cases hlt : k < T.t.ops.length
      · have HP := Lib.hid (HOP2.out k hlt wr HB.out)
        go_wp2_with (first | (refine wpList_load_at rfl 33 _ rfl w.heap.size rfl T.cells _ HATr.out Try.underlying33 rfl info33 ?_; rw [HCS.out]) | (go_at_call 51; refine HP.out.mono ?_))
        rintro e w3 ⟨b, rfl, hb, hB3⟩
        have HB3 := Lib.hid (below_then HB.out hB3)
        have HIFF := Lib.hid hb
        clear hB3 hb
        cases b with
        | false =>
          have HC : Hid (CheckR T.t (some k)) := CheckR.op k HO.out hlt hall.out (fun h => by have := HIFF.out.2 h; cases this)
          clear HIFF
          go_wp2_with fail
          refine bodyPost_ret (by simp [results, Try.results18]; rfl) rfl ?_
          exact ⟨some _, _, HC.out, rfl, below_then HB1.out HB3.out⟩
        | true =>
          have HK : Hid (∀ j < k + 1, OpAt T.t j) := fun j hj => by
            rcases Nat.lt_or_ge j k with h | h
            · exact hall.out j h
            · have : j = k := by omega
              subst this
              exact HIFF.out.1 rfl
          clear HIFF
          go_wp2_with fail
          go_roundw
          case rel => exact ⟨k + 1, by go_num, by omega, HK, HB3.out⟩
          case measure => simp [intOf]; omega
      · have hkl : k = T.t.ops.length := by omega
        subst hkl
        have HALL := Lib.hid hall.out
        have y16 := cell_later HB.out x16
        clear hall hlt
        obtain ⟨wc, rfl⟩ : ∃ wc, wc = wr := ⟨_, rfl⟩
        go_wp2_with fail
        go_loopw [28] (fun s28 wq => ∃ (k : Nat), s28 = .int .i64 k ∧ k ≤ T.t.back.length ∧ Hid ((T.t.back.take k).all (fun s => madeS T.t.virts.length T.t.ins.length (mkOf T.t) s T.t.ops.length) = true) ∧ Below W1.heap.size W1 wq)
          (fun s28 _ => T.t.back.length - (intOf s28).toNat)
        case atStart => exact ⟨0, rfl, Nat.zero_le _, rfl, HB.out⟩
        case round =>
          clear y16 HATr HB
          obtain ⟨k, rfl, hk, hall, hB⟩ := hrel
          by_cases hlt : k < T.t.back.length
          · obtain ⟨s, hs⟩ : ∃ s, T.t.back[k]? = some s := ⟨_, List.getElem?_eq_getElem hlt⟩
            obtain ⟨b5, o5, hA, hb5, e5, e6, e7, e8⟩ := src_get (HT.out.below hB).b.2.2.2 hs
            rw [hA]
            have hbk : backP T.t.virts.length s = true := by
              have h := HO.out
              unfold outS at h
              simp only [Bool.and_eq_true] at h
              exact List.all_eq_true.1 h.2 s (List.mem_of_getElem? hs)
            unfold backP at hbk
            simp only [Bool.and_eq_true] at hbk
            have HMS : Hid (madeS T.t.virts.length T.t.ins.length (mkOf T.t) s T.t.ops.length = madeR T.t.ins.length (mkOf T.t) s T.t.ops.length) := made_of hbk.1 (by simpa using hbk.2)
            have HS := Lib.hid hs
            clear hs hA hbk
            go_upto_region 12 with fail
            obtain ⟨W7, hW7⟩ : ∃ W7, wr.alloc (.cells #[.int .i64 s.k, .int .i64 s.vk, .int .i64 s.vn, .int .i64 s.n] 63) = W7 := ⟨_, rfl⟩
            have hB7 : Below wr.heap.size wr W7 := by rw [← hW7]; exact below_alloc (Below.refl _ _) _
            have hb7 := heap_alloc_last wr (.cells #[.int .i64 s.k, .int .i64 s.vk, .int .i64 s.vn, .int .i64 s.n] 63)
            rw [hW7] at hb7 ⊢
            obtain ⟨bx, hbx⟩ : ∃ bx, wr.heap.size = bx := ⟨_, rfl⟩
            rw [hbx] at hb7 ⊢
            have f0 := cell_of_row W7 bx 0 _ _ _ hb7
            have f1 := cell_of_row W7 bx 1 _ _ _ hb7
            have f2 := cell_of_row W7 bx 2 _ _ _ hb7
            have f3 := cell_of_row W7 bx 3 _ _ _ hb7
            simp only [List.getElem?_toArray, List.getElem?_cons_zero, List.getElem?_cons_succ] at f0 f1 f2 f3
            have HB7 := Lib.hid (hB.trans (hB7.mono hB.size))
            have HAT7 := Lib.hid (HAT.out.below HB7.out)
            have z13 := cell_later HB7.out x13
            have HM7 := Lib.hid (HMADE.out s W7 HB7.out)
            clear hB hB7 hb7 hW7 hbx e5 e6 e7 e8
            cases hm : madeR T.t.ins.length (mkOf T.t) s T.t.ops.length with
            | false =>
              have HC : Hid (CheckR T.t (some T.t.ops.length)) := CheckR.back HO.out HALL.out (all_no HS.out (by rw [HMS.out, hm]))
              have hm7 := HM7.out
              rw [hm] at hm7
              have HM7 := Lib.hid hm7
              clear hm7 hm
              go_wp2_with (first | (refine wpList_load_at rfl 33 _ rfl w.heap.size rfl T.cells _ HAT7.out Try.underlying33 rfl info33 ?_; rw [HCS.out]) | (go_at_call 52; refine HM7.out.mono ?_))
              rintro e w10 ⟨rfl, hB10⟩
              have z13 := cell_later hB10 z13
              have HB10 := Lib.hid (below_then HB7.out hB10)
              clear hB10
              go_wp2_with fail
              refine bodyPost_ret (by simp [results, Try.results18]; rfl) rfl ?_
              exact ⟨some _, _, HC.out, rfl, below_then HB1.out HB10.out⟩
            | true =>
              have HK : Hid ((T.t.back.take (k + 1)).all (fun s => madeS T.t.virts.length T.t.ins.length (mkOf T.t) s T.t.ops.length) = true) := by
                show _ = _
                rw [all_take_succ HS.out, hall.out, HMS.out, hm]
                rfl
              have hm7 := HM7.out
              rw [hm] at hm7
              have HM7 := Lib.hid hm7
              clear hm7 hm
              go_wp2_with (first | (refine wpList_load_at rfl 33 _ rfl w.heap.size rfl T.cells _ HAT7.out Try.underlying33 rfl info33 ?_; rw [HCS.out]) | (go_at_call 52; refine HM7.out.mono ?_))
              rintro e w10 ⟨rfl, hB10⟩
              have HB10 := Lib.hid (below_then HB7.out hB10)
              clear hB10
              go_wp2_with fail
              go_roundw
              case rel => exact ⟨k + 1, by go_num, by omega, HK, HB10.out⟩
              case measure => simp [intOf]; omega
          · have hkl : k = T.t.back.length := by omega
            subst hkl
            rw [List.take_length] at hall
            have HC : Hid (CheckR T.t none) := CheckR.ok HO.out HALL.out hall.out
            have HB6 := Lib.hid hB
            clear hall hlt hB
            go_wp2_with fail
            refine bodyPost_ret (by simp [results, Try.results18]; rfl) rfl ?_
            exact ⟨none, _, HC.out, rfl, below_then HB1.out HB6.out⟩
end Go.Proofs.Ytjcfppbahalgbaa
