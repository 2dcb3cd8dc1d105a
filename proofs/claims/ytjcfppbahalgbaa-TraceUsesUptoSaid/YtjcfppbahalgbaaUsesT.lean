/- swathlaw16.TraceUses: the plain law and the walk. -/
import Derived.Test.YtjcfppbahalgbaaRefUses
import Derived.Test.YtjcfppbahalgbaaRefCheck
namespace Go.Proofs.Ytjcfppbahalgbaa
open Go.RowKit
open Go.Proofs.YtjcfppbahalgbaaW.PrintWords (QRow q_append q_drop q_cells q_of_own q_move q_lt q_typed q_slice q_take q_lower)
set_option linter.unusedSimpArgs false
set_option linter.unusedVariables false
theorem uses_bad {t : Trc} {op : Int} {l : List Int} {n : Nat} (hc : CheckR t (some n)) (h : UsesR t op l) : l = [] := by
  cases h with
  | bad _ _ => rfl
  | low _ => rfl
  | high _ => rfl
  | back h _ => have := CheckR.fn h hc; cases this
  | op _ _ _ h _ _ _ => have := CheckR.fn h hc; cases this
theorem uses_fun {t : Trc} {op : Int} {l1 l2 : List Int} (hc : CheckR t none) (h1 : UsesR t op l1) (h2 : UsesR t op l2) : l1 = l2 := by
  have key : ∀ {l : List Int}, UsesR t op l → (op < 0 ∧ l = []) ∨ ((t.ops.length : Int) < op ∧ l = []) ∨ (op = t.ops.length ∧ l = norm (varsOf t.back)) ∨ ∃ k o xs, op = (k : Nat) ∧ t.ops[k]? = some o ∧ TakenBy t o.snap xs ∧ l = norm (varsOf o.args ++ varsOf xs) := by
    intro l h
    cases h with
    | bad n h => have := CheckR.fn h hc; cases this
    | low h => exact .inl ⟨h, rfl⟩
    | high h => exact .inr (.inl ⟨h, rfl⟩)
    | back _ h => exact .inr (.inr (.inl ⟨h, rfl⟩))
    | op k o xs _ h1 h2 h3 => exact .inr (.inr (.inr ⟨k, o, xs, h1, h2, h3, rfl⟩))
  rcases key h1 with ⟨a, ha⟩ | ⟨a, ha⟩ | ⟨a, ha⟩ | ⟨k, o, xs, a, b, c, ha⟩ <;> rcases key h2 with ⟨a', ha'⟩ | ⟨a', ha'⟩ | ⟨a', ha'⟩ | ⟨k', o', xs', a', b', c', ha'⟩
  all_goals first
    | (exact ha.trans ha'.symm)
    | omega
    | (have := (List.getElem?_eq_some_iff.1 b).1; omega)
    | (have := (List.getElem?_eq_some_iff.1 b').1; omega)
    | (have hk : k = k' := by omega
       subst hk
       rw [b] at b'
       cases b'
       rw [ha, ha', takenBy_fun c c'])
set_option maxRecDepth 100000 in
set_option maxHeartbeats 3200000 in
theorem usesLaw_any (T : TV) (op : Int) (w : World) (hT : T.ok w) (hn : Nums T.t) : Calls Try.prog 9 #[.agg T.cells.toArray, .int .i64 op] w fun e w' => e = .returned (.bool true) ∧ Below w.heap.size w w' := by
  obtain ⟨W1, hW1⟩ : ∃ W1, w.alloc (.cells T.cells.toArray 33) = W1 := ⟨_, rfl⟩
  have hB1 : Below w.heap.size w W1 := by rw [← hW1]; exact below_alloc (Below.refl _ _) _
  have hat : At W1 w.heap.size 0 T.cells := by rw [← hW1]; exact At.of_obj (heap_alloc_last w _)
  have HTake : Hid (outS T.t = true → TakeOk T.t) := fun h => takeOk_of h hn.regs hn.cells
  have HT := Lib.hid (hT.below hB1)
  have hfew := fun w2 (h : Below W1.heap.size W1 w2) => few_any T w2 (HT.out.below h)
  have hchk := fun w2 (h : Below W1.heap.size W1 w2) => refcheck_any T w2 (HT.out.below h) hn
  have huse := fun w2 (h : Below W1.heap.size W1 w2) => uses_any T op w2 (HT.out.below h) HTake.out hn.args (fun s hs => (hn.back s hs).2)
  have hruse := fun w2 (h : Below W1.heap.size W1 w2) (hc : CheckR T.t none) => refuses_any T op w2 (HT.out.below h) hc (HTake.out (by cases hc with | ok h _ _ => exact h))
  obtain ⟨cs, hcs⟩ : ∃ cs, T.cells.toArray = cs := ⟨_, rfl⟩
  rw [hcs] at hW1 hfew hchk huse hruse ⊢
  have HF := Lib.hid hfew
  have HC := Lib.hid hchk
  have HU := Lib.hid huse
  have HRU := Lib.hid hruse
  have HAT := Lib.hid hat
  have HCS := Lib.hid hcs
  have HB1 := Lib.hid hB1
  clear hfew hchk huse hruse hat hcs hT hn hB1
  go_enter Try.func9, Try.ntmps9
  go_wp2_with (go_at_call 27; refine (awake_any _).mono ?_)
  rintro e W2 ⟨rfl, hB2⟩
  have HAT2 := Lib.hid (HAT.out.below hB2)
  have HB2 := Lib.hid hB2
  clear hB2
  go_wp2_with (first | (refine wpList_load_at rfl 33 _ rfl w.heap.size rfl T.cells _ HAT2.out Try.underlying33 rfl info33 ?_; rw [HCS.out]) | (go_at_call 34; refine (HF.out _ HB2.out).mono ?_))
  rintro e W3 ⟨⟨b, rfl⟩, hB3⟩
  have HB3 := Lib.hid (below_then HB2.out hB3)
  have HAT3 := Lib.hid (HAT2.out.below hB3)
  clear hB3
  cases b with
  | false =>
    go_wp2_with fail
    go_ret
    exact ⟨rfl, below_then HB1.out HB3.out⟩
  | true =>
    go_wp2_with (first | (refine wpList_load_at rfl 33 _ rfl w.heap.size rfl T.cells _ HAT3.out Try.underlying33 rfl info33 ?_; rw [HCS.out]) | (go_at_call 35; refine (HU.out _ HB3.out).mono ?_))
    rintro e W4 ⟨v, l, rfl, hq, hu, hB4⟩
    obtain ⟨A, c, rfl, hlc⟩ := q_slice hq
    have hlm : (l.length : Int) ≤ 9223372036854775807 := by have := YtjcfppbahalgbaaW.PrintWords.q_max hq; omega
    have HQ4 := Lib.hid hq
    have HUL := Lib.hid hu
    have HB4 := Lib.hid (below_then HB3.out hB4)
    have HAT4 := Lib.hid (HAT3.out.below hB4)
    clear hq hu hB4
    go_wp2_with (first | (refine wpList_load_at rfl 33 _ rfl w.heap.size rfl T.cells _ HAT4.out Try.underlying33 rfl info33 ?_; rw [HCS.out]) | (go_at_call 18; refine (HC.out _ HB4.out).mono ?_))
    rintro e W5 ⟨r, x, hr, rfl, hB5⟩
    have HQ5 := Lib.hid (q_below HQ4.out hB5)
    have HB5 := Lib.hid (below_then HB4.out hB5)
    have HAT5 := Lib.hid (HAT4.out.below hB5)
    have HR := Lib.hid hr
    clear hB5 hr
    cases r with
    | some n =>
      obtain rfl : l = [] := uses_bad HR.out HUL.out
      simp only [badOf, List.length_nil]
      go_wp2_with fail
      go_ret
      exact ⟨rfl, below_then HB1.out HB5.out⟩
    | none =>
      simp only [badOf]
      go_wp2_with (first | (refine wpList_load_at rfl 33 _ rfl w.heap.size rfl T.cells _ HAT5.out Try.underlying33 rfl info33 ?_; rw [HCS.out]) | (go_at_call 36; refine (HRU.out _ HB5.out HR.out).mono ?_))
      rintro e W6 ⟨v2, l2, rfl, hq6, hu6, hB6⟩
      obtain rfl : l2 = l := uses_fun HR.out hu6 HUL.out
      obtain ⟨A6, c6, rfl, hlc6⟩ := q_slice hq6
      have HRow1 := Lib.hid (intsQ_row (q_below HQ5.out hB6))
      have HRow2 := Lib.hid (intsQ_row hq6)
      have HB6 := Lib.hid (below_then HB5.out hB6)
      clear hq6 hu6 hB6
      go_wp2_with fail
      go_loopw [38] (fun s38 wr => ∃ (k : Nat), s38 = .int .i64 k ∧ k ≤ l2.length ∧ Below W6.heap.size W6 wr)
        (fun s38 _ => l2.length - (intOf s38).toNat)
      case atStart => exact ⟨0, rfl, Nat.zero_le _, Below.refl _ _⟩
      case round =>
        obtain ⟨k, rfl, hk, hB⟩ := hrel
        by_cases hlt : k < l2.length
        · obtain ⟨y, hy⟩ : ∃ y, l2[k]? = some y := ⟨_, List.getElem?_eq_getElem hlt⟩
          obtain ⟨b1, o1, rfl, hb1, e1⟩ := int_get (HRow1.out.below hB (fun _ _ h => h)) hy
          obtain ⟨b2, o2, rfl, hb2, e2⟩ := int_get (HRow2.out.below hB (fun _ _ h => h)) hy
          have HB := Lib.hid hB
          clear hB hy
          go_upto_region 15 with fail
          (try simp only [Act.put, List.setIfInBounds_toArray, List.set_cons_zero, List.set_cons_succ])
          refine drawn_begin (fun w' => Below wr.heap.size wr w' ∧ w'.cell? ⟨b1, o1 + k, none⟩ = some (.int .i64 y) ∧ w'.cell? ⟨b2, o2 + k, none⟩ = some (.int .i64 y)) (fun c a d v w h => ?_) (by kernel_rfl) ?_ (fun hside hHeld => ?_)
          · (obtain ⟨h1, h2⟩ := h; exact And.intro (put_nil h1) h2)
          · exact ⟨below_drewN (Below.refl _ _) 1, e1, e2⟩
          refine wpAnyH_take (i := 0) (v := ?_) (op_at rfl) (by kernel_rfl) (by kernel_rfl) (by kernel_rfl) (fun _ _ _ h => hside _ _ _ _ _ h) (Or.inl ⟨by rfl, ?_⟩) (by assumption) ?_
          rotate_left
          · (intro w hSw; (try dsimp only at hSw); go_simp; all_goals with_reducible rfl)
          (try simp only [Act.put, List.setIfInBounds_toArray, List.set_cons_zero, List.set_cons_succ])
          refine wpAnyH_take (i := 1) (v := ?_) (op_at rfl) (by kernel_rfl) (by kernel_rfl) (by kernel_rfl) (fun _ _ _ h => hside _ _ _ _ _ h) (Or.inl ⟨by rfl, ?_⟩) (by assumption) ?_
          rotate_left
          · (intro w hSw; (try dsimp only at hSw); go_simp; all_goals with_reducible rfl)
          (try simp only [Act.put, List.setIfInBounds_toArray, List.set_cons_zero, List.set_cons_succ])
          refine wpAnyH_take (i := 2) (v := ?_) (op_at rfl) (by kernel_rfl) (by kernel_rfl) (by kernel_rfl) (fun _ _ _ h => hside _ _ _ _ _ h) (Or.inl ⟨by rfl, ?_⟩) (by assumption) ?_
          rotate_left
          · (intro w hSw; (try dsimp only at hSw); go_simp; all_goals with_reducible rfl)
          (try simp only [Act.put, List.setIfInBounds_toArray, List.set_cons_zero, List.set_cons_succ])
          refine wpAnyH_take (i := 3) (v := ?_) (op_at rfl) (by kernel_rfl) (by kernel_rfl) (by kernel_rfl) (fun _ _ _ h => hside _ _ _ _ _ h) (Or.inl ⟨by rfl, ?_⟩) (by assumption) ?_
          rotate_left
          · (intro w hSw; (try dsimp only at hSw); go_simp; all_goals with_reducible rfl)
          (try simp only [Act.put, List.setIfInBounds_toArray, List.set_cons_zero, List.set_cons_succ])
          refine wpAnyH_take (i := 4) (v := ?_) (op_at rfl) (by kernel_rfl) (by kernel_rfl) (by kernel_rfl) (fun _ _ _ h => hside _ _ _ _ _ h) (Or.inl ⟨by rfl, ?_⟩) (by assumption) ?_
          rotate_left
          · (intro w hSw; (try dsimp only at hSw); go_simp; all_goals with_reducible rfl)
          (try simp only [Act.put, List.setIfInBounds_toArray, List.set_cons_zero, List.set_cons_succ])
          refine wpAnyH_take (i := 5) (v := ?_) (op_at rfl) (by kernel_rfl) (by kernel_rfl) (by kernel_rfl) (fun _ _ _ h => hside _ _ _ _ _ h) (Or.inl ⟨by rfl, ?_⟩) (by assumption) ?_
          rotate_left
          · (intro w hSw; (try dsimp only at hSw); go_simp; all_goals with_reducible rfl)
          (try simp only [Act.put, List.setIfInBounds_toArray, List.set_cons_zero, List.set_cons_succ])
          refine wpAnyH_take (i := 6) (v := ?_) (op_at rfl) (by kernel_rfl) (by kernel_rfl) (by kernel_rfl) (fun _ _ _ h => hside _ _ _ _ _ h) (Or.inl ⟨by rfl, ?_⟩) (by assumption) ?_
          rotate_left
          · (intro w hSw; (try dsimp only at hSw); go_simp; all_goals with_reducible rfl)
          (try simp only [Act.put, List.setIfInBounds_toArray, List.set_cons_zero, List.set_cons_succ])
          refine wpAnyH_take (i := 7) (v := ?_) (op_at rfl) (by kernel_rfl) (by kernel_rfl) (by kernel_rfl) (fun _ _ _ h => hside _ _ _ _ _ h) (Or.inl ⟨by rfl, ?_⟩) (by assumption) ?_
          rotate_left
          · (intro w hSw; (try dsimp only at hSw); go_simp; all_goals with_reducible rfl)
          (try simp only [Act.put, List.setIfInBounds_toArray, List.set_cons_zero, List.set_cons_succ])
          refine wpAnyH_take (i := 8) (v := ?_) (op_at rfl) (by kernel_rfl) (by kernel_rfl) (by kernel_rfl) (fun _ _ _ h => hside _ _ _ _ _ h) (Or.inl ⟨by rfl, ?_⟩) (by assumption) ?_
          rotate_left
          · (intro w hSw; (try dsimp only at hSw); go_simp; all_goals with_reducible rfl)
          (try simp only [Act.put, List.setIfInBounds_toArray, List.set_cons_zero, List.set_cons_succ])
          refine wpAnyH_done (by kernel_rfl) ?_ _
          have HB7 := Lib.hid (HB.out.trans ((below_drewN (Below.refl wr.heap.size wr) 1).mono HB.out.size))
          clear hHeld hside e1 e2
          go_wp2_with fail
          go_roundw
          case rel => exact ⟨k + 1, by go_num, by omega, HB7.out⟩
          case measure => simp [intOf]; omega
        · have HB := Lib.hid (below_then HB6.out hB)
          clear hB
          go_wp2_with fail
          go_ret
          exact ⟨rfl, below_then HB1.out HB.out⟩
end Go.Proofs.Ytjcfppbahalgbaa
