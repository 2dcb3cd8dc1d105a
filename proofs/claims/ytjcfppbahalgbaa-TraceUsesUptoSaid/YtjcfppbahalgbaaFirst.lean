/- swathlaw16.TraceFirst: the plain law and the walk. -/
import Derived.Test.YtjcfppbahalgbaaSize
import Derived.Test.YtjcfppbahalgbaaY
namespace Go.Proofs.Ytjcfppbahalgbaa
open Go.RowKit
open Go.Proofs.YtjcfppbahalgbaaW.PrintWords (QRow q_append q_drop q_cells q_of_own q_move q_lt q_typed q_slice q_take q_lower)
set_option linter.unusedSimpArgs false
set_option linter.unusedVariables false
theorem norm_mem {l : List Int} {x : Int} (h : x ∈ norm l) : x ∈ l := by
  unfold norm Lib.compact Lib.compactUpTo at h
  obtain ⟨i, hi, rfl⟩ := List.mem_map.1 h
  have h1 := List.mem_range.1 (List.mem_filter.1 hi).1
  have h2 : (l.mergeSort fun x y => decide (x ≤ y)).toArray[i]! ∈ (l.mergeSort fun x y => decide (x ≤ y)) := by
    rw [getElem!_pos _ _ (by simpa using h1)]
    simp
  exact (List.mem_mergeSort).1 h2
theorem vars_mem {l : List TSrc} {x : Int} (h : x ∈ varsOf l) : ∃ s ∈ l, s.k = 1 ∧ s.n = x := by
  obtain ⟨s, hs, rfl⟩ := List.mem_map.1 h
  obtain ⟨h1, h2⟩ := List.mem_filter.1 hs
  exact ⟨s, h1, by simpa using h2, rfl⟩
/-- What is used is made ahead. -/
def Ahead (t : Trc) (at_ : Int) (x : Int) : Prop := 0 ≤ x ∧ x < t.ins.length + at_ ∧ (x < t.ins.length ∨ ∃ m : Nat, x = t.ins.length + m ∧ (mkOf t).getD m false = true)
theorem ahead_of {t : Trc} {nv : Nat} {at_ : Int} {s : TSrc} (h : madeS nv t.ins.length (mkOf t) s at_ = true) (hk : s.k = 1) : Ahead t at_ s.n := by
  unfold madeS at h
  simp only [hk, if_true, Bool.and_eq_true, Bool.or_eq_true, decide_eq_true_eq] at h
  obtain ⟨⟨hp, -⟩, h1, h2⟩ := h
  unfold plainS at hp
  simp [hk] at hp
  refine ⟨hp.1, by omega, ?_⟩
  rcases h2 with h2 | h2
  · exact .inl (by omega)
  · by_cases hlt : s.n < t.ins.length
    · exact .inl hlt
    · exact .inr ⟨(s.n - t.ins.length).toNat, by omega, h2⟩
theorem first_law {t : Trc} {at_ : Int} {l : List Int} (hc : CheckR t none) (hu : UsesR t at_ l) {x : Int} (hx : x ∈ l) : Ahead t at_ x := by
  cases hc with
  | ok ho hops hb =>
    cases hu with
    | bad n hn => have := CheckR.fn hn (.ok ho hops hb); cases this
    | low _ => cases hx
    | high _ => cases hx
    | back _ ha =>
      obtain ⟨s, hs, hk, rfl⟩ := vars_mem (norm_mem hx)
      subst ha
      exact ahead_of (List.all_eq_true.1 hb s hs) hk
    | op k o xs _ ha hok ht =>
      have hkl := (List.getElem?_eq_some_iff.1 hok).1
      have hop := hops k hkl o hok
      subst ha
      rcases List.mem_append.1 (norm_mem hx) with h | h
      · obtain ⟨s, hs, hk, rfl⟩ := vars_mem h
        exact ahead_of (List.all_eq_true.1 hop.parts.args s hs) hk
      · obtain ⟨s, hs, hk, rfl⟩ := vars_mem h
        obtain ⟨_, ys, hys, hal⟩ := hop
        rw [takenBy_fun ht hys] at hs
        have := List.all_eq_true.1 hal s hs
        unfold madeV at this
        rw [hk] at this
        exact ahead_of (by simpa using this) hk
theorem mk_get {t : Trc} {m : Nat} (h : (mkOf t).getD m false = true) : ∃ o, t.ops[m]? = some o ∧ (rowOf o.op).makes = true := by
  rw [List.getD_eq_getElem?_getD, mkOf, List.getElem?_map] at h
  cases ho : t.ops[m]? with
  | none => rw [ho] at h; simp at h
  | some o => rw [ho] at h; exact ⟨o, rfl, by simpa using h⟩
theorem intsQ_row {w : World} {base c : Nat} {A : Option Addr} {l : List Int} (h : IntsQ w base (.slice A l.length c) l) : RowAt IntR 1 w A l := by
  unfold IntsQ ints at h
  rw [List.map_eq_flatMap] at h
  exact (rowAt_q (R := IntR) (fun n => [Value.int .i64 n]) 1 (fun _ => rfl) (by decide) (fun _ _ => rfl) h).2
set_option maxRecDepth 100000 in
set_option maxHeartbeats 3200000 in
theorem first_any (T : TV) (w : World) (hT : T.ok w) (hn : Nums T.t) : Calls Try.prog 10 #[.agg T.cells.toArray] w fun e w' => e = .returned (.bool true) ∧ Below w.heap.size w w' := by
  obtain ⟨W1, hW1⟩ : ∃ W1, w.alloc (.cells T.cells.toArray 33) = W1 := ⟨_, rfl⟩
  have hB1 : Below w.heap.size w W1 := by rw [← hW1]; exact below_alloc (Below.refl _ _) _
  have hat : At W1 w.heap.size 0 T.cells := by rw [← hW1]; exact At.of_obj (heap_alloc_last w _)
  have HTake : Hid (outS T.t = true → TakeOk T.t) := fun h => takeOk_of h hn.regs hn.cells
  have HN := Lib.hid hn
  have HT := Lib.hid (hT.below hB1)
  have hol : (T.t.ops.length : Int) ≤ 1048576 := by have := hT.o.2.2.1; omega
  have hil : (T.t.ins.length : Int) ≤ 1048576 := by have := hT.i.2.2.1; omega
  have hfew := fun w2 (h : Below W1.heap.size W1 w2) => few_any T w2 (HT.out.below h)
  have hchk := fun w2 (h : Below W1.heap.size W1 w2) => check_any T w2 (HT.out.below h) HTake.out hn.args (fun s hs => (hn.back s hs).2)
  have huse := fun w2 op (h : Below W1.heap.size W1 w2) => uses_any T op w2 (HT.out.below h) HTake.out hn.args (fun s hs => (hn.back s hs).2)
  obtain ⟨cs, hcs⟩ : ∃ cs, T.cells.toArray = cs := ⟨_, rfl⟩
  rw [hcs] at hW1 hfew hchk huse ⊢
  have HF := Lib.hid hfew
  have HC := Lib.hid hchk
  have HU := Lib.hid huse
  have HAT := Lib.hid hat
  have HCS := Lib.hid hcs
  have HB1 := Lib.hid hB1
  clear hfew hchk huse hat hcs hT hn hB1
  go_enter Try.func10, Try.ntmps10
  go_wp2_with (go_at_call 27; refine (awake_any _).mono ?_)
  rintro e W2 ⟨rfl, hB2⟩
  have HAT2 := Lib.hid (HAT.out.below hB2)
  have HB2 := Lib.hid hB2
  clear hB2
  go_wp2_with (first | (refine wpList_load_at rfl 33 _ rfl w.heap.size rfl T.cells _ HAT2.out Try.underlying33 rfl info33 ?_; rw [HCS.out]) | (go_at_call 34; refine (HF.out _ HB2.out).mono ?_))
  rintro e W3 ⟨⟨b, rfl⟩, hB3⟩
  have HB3 := Lib.hid (below_then HB2.out hB3)
  have HAT3 := Lib.hid (HAT2.out.below hB3)
  clear hB3
  cases b with
  | false =>
    go_wp2_with fail
    go_ret
    exact ⟨rfl, below_then HB1.out HB3.out⟩
  | true =>
    go_wp2_with (first | (refine wpList_load_at rfl 33 _ rfl w.heap.size rfl T.cells _ HAT3.out Try.underlying33 rfl info33 ?_; rw [HCS.out]) | (go_at_call 37; refine (HC.out _ HB3.out).mono ?_))
    rintro e W4 ⟨r, hr, rfl, hB4⟩
    have HB4 := Lib.hid (below_then HB3.out hB4)
    have HAT4 := Lib.hid (HAT3.out.below hB4)
    have HR := Lib.hid hr
    clear hB4 hr
    cases r with
    | some n =>
      simp only [atOf, erOf]
      go_wp2_with fail
      go_ret
      exact ⟨rfl, below_then HB1.out HB4.out⟩
    | none =>
      simp only [atOf, erOf]
      go_wp2_with fail
      go_loopw [5] (fun s5 wr => ∃ (k : Nat), s5 = .int .i64 k ∧ k ≤ T.t.ops.length + 1 ∧ Below W1.heap.size W1 wr)
        (fun s5 _ => T.t.ops.length + 1 - (intOf s5).toNat)
      case atStart => exact ⟨0, rfl, Nat.zero_le _, HB4.out⟩
      case round =>
        obtain ⟨k, rfl, hk, hB⟩ := hrel
        have HATr := Lib.hid (HAT.out.below hB)
        have x13 := HATr.out 13 _ rfl
        rw [Nat.zero_add] at x13
        have HB := Lib.hid hB
        clear hB
        by_cases hlt : k ≤ T.t.ops.length
        · go_wp2_with (first | (refine wpList_load_at rfl 33 _ rfl w.heap.size rfl T.cells _ HATr.out Try.underlying33 rfl info33 ?_; rw [HCS.out]) | (go_at_call 35; refine (HU.out _ _ HB.out).mono ?_))
          rintro e W5 ⟨v, l, rfl, hq, hu, hB5⟩
          obtain ⟨A, c, rfl, hlc⟩ := q_slice hq
          have hlm : (l.length : Int) ≤ 9223372036854775807 := by have := YtjcfppbahalgbaaW.PrintWords.q_max hq; omega
          have HRow := Lib.hid (intsQ_row hq)
          have HLaw : Hid (∀ x ∈ l, Ahead T.t k x) := fun x hx => first_law HR.out hu hx
          have HB5 := Lib.hid (below_then HB.out hB5)
          have HAT5 := Lib.hid (HATr.out.below hB5)
          clear hq hu hB5
          go_wp2_with fail
          go_loopw [31] (fun s31 w2 => ∃ (j : Nat), s31 = .int .i64 j ∧ j ≤ l.length ∧ Below W5.heap.size W5 w2)
            (fun s31 _ => l.length - (intOf s31).toNat)
          case atStart => exact ⟨0, rfl, Nat.zero_le _, Below.refl _ _⟩
          case round =>
            obtain ⟨j, rfl, hj, hB6⟩ := hrel
            by_cases hjl : j < l.length
            · obtain ⟨x, hx⟩ : ∃ x, l[j]? = some x := ⟨_, List.getElem?_eq_getElem hjl⟩
              obtain ⟨g, off, rfl, hg, c0⟩ := int_get (HRow.out.below hB6 (fun _ _ h => h)) hx
              obtain ⟨a0, a1, a2⟩ := HLaw.out x (List.mem_of_getElem? hx)
              have HATw := HAT5.out.below hB6
              have x12 := HATw 12 _ rfl
              have x13 := HATw 13 _ rfl
              rw [Nat.zero_add] at x12 x13
              have HX := Lib.hid hx
              have HB6 := Lib.hid hB6
              clear hx hB6 HATw
              have d0 : decide (x < 0) = false := by simpa using a0
              by_cases hxi : x < T.t.ins.length
              · have d2 : decide ((T.t.ins.length : Int) ≤ x) = false := by simpa using hxi
                clear a2
                go_wp2_with fail
                refine ⟨⟨j + 1, by go_num, by omega, HB6.out⟩, ?_⟩
                simp [intOf]
                omega
              · obtain ⟨m, rfl, hm⟩ : ∃ m : Nat, x = T.t.ins.length + m ∧ (mkOf T.t).getD m false = true := a2.resolve_left hxi
                obtain ⟨o, ho, hmk⟩ := mk_get hm
                have hml := (List.getElem?_eq_some_iff.1 ho).1
                obtain ⟨b, oo, Aa, ca, hA, hb, e0, -, -, -, -, -⟩ := op_get (HT.out.below (below_then HB5.out HB6.out)).o.2.2.2 ho
                rw [hA] at x13
                have HMK := Lib.hid (fun w => by have := makes_any o.op w; rw [hmk] at this; exact this)
                clear hm ho hmk hA hb
                go_wp2_with (go_at_call 28; refine (HMK.out _).mono ?_)
                rintro e w7 rfl hB7
                have HB7 := Lib.hid (below_then HB6.out hB7)
                clear hB7
                go_wp2_with fail
                refine ⟨⟨j + 1, by go_num, by omega, HB7.out⟩, ?_⟩
                simp [intOf]
                omega
            · go_wp2_with fail
              go_roundw
              case rel => exact ⟨k + 1, by go_num, by omega, below_then HB5.out hB6⟩
              case measure => simp [intOf]; omega
        · go_wp2_with fail
          go_ret
          exact ⟨rfl, below_then HB1.out HB.out⟩
end Go.Proofs.Ytjcfppbahalgbaa
