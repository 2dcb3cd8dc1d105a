/- swathref16.Uses, of a trace that may be: what the trace layer's Uses tells. -/
import Derived.Test.YtjcfppbahalgbaaRefTaken
namespace Go.Proofs.Ytjcfppbahalgbaa
open Go.RowKit
open Go.Proofs.YtjcfppbahalgbaaW.PrintWords (QRow q_append q_drop q_take q_cells q_of_own q_move q_lt q_typed q_slice q_lower)
set_option linter.unusedSimpArgs false
set_option linter.unusedVariables false
set_option maxRecDepth 100000 in
set_option maxHeartbeats 3200000 in
theorem refuses_any (T : TV) (op : Int) (w : World) (hT : T.ok w) (hc : CheckR T.t none) (ht : TakeOk T.t) :
    Calls Try.prog 36 #[.agg T.cells.toArray, .int .i64 op] w (UsesPost T op w) := by
  obtain ⟨i6, hi6, hz60, hz61, hz62⟩ := info_parts info63
  obtain ⟨W1, hW1⟩ : ∃ W1, w.alloc (.cells T.cells.toArray 33) = W1 := ⟨_, rfl⟩
  have hB1 : Below w.heap.size w W1 := by rw [← hW1]; exact below_alloc (Below.refl _ _) _
  have hat1 : At W1 w.heap.size 0 T.cells := by rw [← hW1]; exact At.of_obj (heap_alloc_last w _)
  have x13 := hat1 13 _ rfl
  have x16 := hat1 16 _ rfl
  rw [Nat.zero_add] at x13 x16
  have HT := Lib.hid (hT.below hB1)
  have HB1 := Lib.hid hB1
  have HTK := Lib.hid ht
  have HCK := Lib.hid hc
  have HAT := Lib.hid hat1
  have htk := fun (n : Int) (h1 : n < T.t.links.length) (h2 : -1 ≤ n) (w' : World) (h : Below W1.heap.size W1 w') => reftaken_any T n w' (HT.out.below h) ht h1 h2
  obtain ⟨cs, hcs⟩ : ∃ cs, T.cells.toArray = cs := ⟨_, rfl⟩
  rw [hcs] at hW1 htk ⊢
  have HTKN := Lib.hid htk
  have HCS := Lib.hid hcs
  clear hcs hat1 hB1 hT ht hc htk
  by_cases h0 : op < 0
  · have d0 : decide (op < 0) = true := by simpa using h0
    have HU : Hid (UsesR T.t op []) := .low h0
    clear h0
    go_enter Try.func36, Try.ntmps36
    go_wp2_with fail
    go_ret
    exact ⟨_, [], rfl, intsQ_nil _ _, HU.out, HB1.out⟩
  have d0 : decide (op < 0) = false := by simpa using h0
  by_cases h1 : (T.t.ops.length : Int) < op
  · have d1 : decide ((T.t.ops.length : Int) < op) = true := by simpa using h1
    have HU : Hid (UsesR T.t op []) := .high h1
    clear h0 h1
    go_enter Try.func36, Try.ntmps36
    go_wp2_with fail
    go_ret
    exact ⟨_, [], rfl, intsQ_nil _ _, HU.out, HB1.out⟩
  have d1 : decide ((T.t.ops.length : Int) < op) = false := by simpa using h1
  by_cases h2 : op = T.t.ops.length
  · have HU : Hid (UsesR T.t op (norm (varsOf T.t.back))) := .back HCK.out h2
    have d2 : (op == (T.t.ops.length : Int)) = true := by simpa using h2
    have HV := Lib.hid (fun w' (h : Below W1.heap.size W1 w') => refvars_any T.b.A T.b.c T.t.back w' (HT.out.below h).b.2.2.2 (by have := HT.out.b.2.2.1; omega))
    clear h0 h1 h2
    go_enter Try.func36, Try.ntmps36
    go_wp2_with (go_at_call 69; refine (HV.out _ (Below.refl _ _)).mono ?_)
    rintro e w2 ⟨v, rfl, hq, hB2⟩
    have HQ := Lib.hid hq
    have HB2 := Lib.hid hB2
    clear hq hB2
    go_wp2_with fail
    go_ret
    exact ⟨_, _, rfl, q_lower HQ.out HB1.out.size, HU.out, below_then HB1.out HB2.out⟩
  have d2 : (op == (T.t.ops.length : Int)) = false := by simpa using h2
  obtain ⟨k, rfl⟩ : ∃ k : Nat, op = k := ⟨op.toNat, by omega⟩
  have hkl : k < T.t.ops.length := by omega
  obtain ⟨o, ho⟩ : ∃ o, T.t.ops[k]? = some o := ⟨_, List.getElem?_eq_getElem hkl⟩
  obtain ⟨b, oo, Aa, ca, hA, hb, e0, e1, e2, e3, e4, hra⟩ := op_get HT.out.o.2.2.2 ho
  have d3 : decide (k = T.t.ops.length) = false := by rw [decide_eq_false_iff_not]; omega
  have d4 : (k == T.t.ops.length) = false := by simp; omega
  rw [hA] at x13
  have hop : OpAt T.t k := by
    cases HCK.out with
    | ok _ h _ => exact h k hkl
  have HP := Lib.hid (hop o ho).parts
  have HO := Lib.hid ho
  have HRA := Lib.hid hra.2.2.2
  have hal : (o.args.length : Int) ≤ 1048576 := by have := hra.2.2.1; omega
  clear h0 h1 h2 hA hop ho hra hb e0 e2 e3
  go_enter Try.func36, Try.ntmps36
  go_wp2_with (at_builtin; refine wpList_append_q W1.heap.size rfl _ _ 31 63 i6 _ 4 32 rfl Try.underlying31 hi6 hz60 hz61 hz62 rfl (by decide) rfl (srcsQ_nil W1 W1.heap.size) (o.args.flatMap TSrc.cells) rfl (flatMap_length _ 4 (fun _ => rfl) _) ?c1 (srcCells_one _) ?c3 ?c4 ?c5 ?_)
  case c1 => exact srcRow HRA.out
  case c3 => simp only [maxLen]; omega
  case c4 => omega
  intro v1 w2 hq1 hg1 hat
  have hB2 : Below W1.heap.size W1 w2 := ⟨hg1.os, hg1.tape, hg1.output, hg1.size, fun k hk => hg1.block k hk (by simp [Value.ownBlock])⟩
  have hq2 : SrcsQ w2 W1.heap.size v1 o.args := by
    simpa [SrcsQ] using hq1
  obtain ⟨A2, c2, rfl, hnc2⟩ := q_slice hq2
  have f4 := cell_later hB2 e4
  have f13 := cell_later hB2 x13
  have HQ2 := Lib.hid hq2
  have HB2 := Lib.hid hB2
  clear hq1 hq2 hg1 hat hB2
  by_cases hs : o.snap < 0
  · have d5 : decide (0 ≤ o.snap) = false := by simpa using hs
    have HU : Hid (UsesR T.t k (norm (varsOf o.args))) := by
      have := UsesR.op (t := T.t) (op := (k : Int)) k o [] HCK.out rfl HO.out ⟨[], .nil hs, .nil _⟩
      show UsesR _ _ _
      simpa [varsOf] using this
    have HV := Lib.hid (refvars_any A2 c2 o.args w2 (rowAt_q (R := SrcR) TSrc.cells 4 (fun _ => rfl) (by omega) (fun _ _ => rfl) HQ2.out).2 (by omega))
    clear hs
    go_wp2_with (go_at_call 69; refine HV.out.mono ?_)
    rintro e w3 ⟨v, rfl, hq, hB3⟩
    have HQ := Lib.hid hq
    have HB3 := Lib.hid hB3
    clear hq hB3
    go_wp2_with fail
    go_ret
    exact ⟨_, _, rfl, q_lower HQ.out (Nat.le_trans HB1.out.size HB2.out.size), HU.out, below_then HB1.out (below_then HB2.out HB3.out)⟩
  · have d5 : decide (0 ≤ o.snap) = true := by simpa using hs
    have hs1 : o.snap < T.t.links.length := by simpa using HP.out.high
    have HTN := Lib.hid (HTKN.out o.snap hs1 (by omega))
    have HL := Lib.hid (fun xs (h : TakenBy T.t o.snap xs) => takenBy_len HT.out HTK.out hs1 (by omega) h)
    have HAT2 := Lib.hid (HAT.out.below HB2.out)
    clear hs hs1
    go_upto_region 7 with fail
    (try simp only [Act.put, List.setIfInBounds_toArray, List.set_cons_zero, List.set_cons_succ])
    rw [← HCS.out] at HTN
    refine drawn_begin (fun w' => Below w2.heap.size w2 w' ∧ Hid (At w' w.heap.size 0 T.cells) ∧ w'.cell? ⟨w.heap.size, 13, none⟩ = some (.slice (some ⟨b, oo, none⟩) T.t.ops.length T.o.c) ∧ w'.cell? ⟨b, oo + k * 5 + 4, none⟩ = some (.int .i64 o.snap)) (fun c a d v w h => ?_) (by kernel_rfl) ?_ (fun hside hHeld => ?_)
    · (obtain ⟨h1, h2⟩ := h; exact And.intro (put_nil h1) h2)
    · exact ⟨below_drewN (Below.refl _ _) 1, Lib.hid (HAT2.out.below (below_drewN (Below.refl _ _) 1)), f13, f4⟩
    refine wpAnyH_take (i := 0) (v := (.agg T.cells.toArray)) (op_at rfl) (by kernel_rfl) (by kernel_rfl) (by kernel_rfl) (fun _ _ _ h => hside _ _ _ _ _ h) (Or.inl ⟨by rfl, ?_⟩) (by assumption) ?_
    · (intro w hSw; exact exec_load_at 33 _ rfl _ rfl T.cells _ hSw.2.1.out Try.underlying33 rfl info33)
    (try simp only [Act.put, List.setIfInBounds_toArray, List.set_cons_zero, List.set_cons_succ])
    refine wpAnyH_take (i := 1) (v := ?_) (op_at rfl) (by kernel_rfl) (by kernel_rfl) (by kernel_rfl) (fun _ _ _ h => hside _ _ _ _ _ h) (Or.inl ⟨by rfl, ?_⟩) (by assumption) ?_
    rotate_left
    · (intro w hSw; (try dsimp only at hSw); go_simp; all_goals with_reducible rfl)
    (try simp only [Act.put, List.setIfInBounds_toArray, List.set_cons_zero, List.set_cons_succ])
    refine wpAnyH_take (i := 2) (v := ?_) (op_at rfl) (by kernel_rfl) (by kernel_rfl) (by kernel_rfl) (fun _ _ _ h => hside _ _ _ _ _ h) (Or.inl ⟨by rfl, ?_⟩) (by assumption) ?_
    rotate_left
    · (intro w hSw; (try dsimp only at hSw); go_simp; all_goals with_reducible rfl)
    (try simp only [Act.put, List.setIfInBounds_toArray, List.set_cons_zero, List.set_cons_succ])
    refine wpAnyH_take (i := 3) (v := ?_) (op_at rfl) (by kernel_rfl) (by kernel_rfl) (by kernel_rfl) (fun _ _ _ h => hside _ _ _ _ _ h) (Or.inl ⟨by rfl, ?_⟩) (by assumption) ?_
    rotate_left
    · (intro w hSw; (try dsimp only at hSw); go_simp; all_goals with_reducible rfl)
    (try simp only [Act.put, List.setIfInBounds_toArray, List.set_cons_zero, List.set_cons_succ])
    refine wpAnyH_take (i := 4) (v := ?_) (op_at rfl) (by kernel_rfl) (by kernel_rfl) (by kernel_rfl) (fun _ _ _ h => hside _ _ _ _ _ h) (Or.inl ⟨by rfl, ?_⟩) (by assumption) ?_
    rotate_left
    · (intro w hSw; (try dsimp only at hSw); go_simp; all_goals with_reducible rfl)
    (try simp only [Act.put, List.setIfInBounds_toArray, List.set_cons_zero, List.set_cons_succ])
    refine wpAnyH_take (i := 5) (v := ?_) (op_at rfl) (by kernel_rfl) (by kernel_rfl) (by kernel_rfl) (fun _ _ _ h => hside _ _ _ _ _ h) (Or.inl ⟨by rfl, ?_⟩) (by assumption) ?_
    rotate_left
    · (intro w hSw; (try dsimp only at hSw); go_simp; all_goals with_reducible rfl)
    (try simp only [Act.put, List.setIfInBounds_toArray, List.set_cons_zero, List.set_cons_succ])
    refine wpAnyH_take (i := 6) (v := ?_) (op_at rfl) (by kernel_rfl) (by kernel_rfl) (by kernel_rfl) (fun _ _ _ h => hside _ _ _ _ _ h) (Or.inl ⟨by rfl, ?_⟩) (by assumption) ?_
    rotate_left
    · (intro w hSw; (try dsimp only at hSw); go_simp; all_goals with_reducible rfl)
    (try simp only [Act.put, List.setIfInBounds_toArray, List.set_cons_zero, List.set_cons_succ])
    refine wpAnyH_ready (rs := [7]) (by kernel_rfl) (by simp) (AllReadyH.cons (op_at rfl) (fun Kr hK => ?_) AllReadyH.nil)
    go_simp
    refine (HTN.out _ (HB2.out.trans (hHeld.1.mono HB2.out.size))).mono ?_
    rintro e w3 ⟨v, z, xs, rfl, hq3, htb, hB3⟩
    have hS3 : Below w2.heap.size w2 w3 := hHeld.1.trans (hB3.mono hHeld.1.size)
    have hz3 : W1.heap.size ≤ w3.heap.size := Nat.le_trans HB2.out.size hS3.size
    have HQ3 := Lib.hid (q_lower hq3 (Nat.le_trans HB2.out.size hHeld.1.size))
    refine hK.out _ _ ?_ (fun hHeld => ?_)
    · exact ⟨hS3, Lib.hid (HAT2.out.below hS3), cell_later hS3 f13, cell_later hS3 f4⟩
    clear hK
    (try simp only [Act.put, List.setIfInBounds_toArray, List.set_cons_zero, List.set_cons_succ])
    have HTB := Lib.hid htb
    obtain ⟨A3, c3, rfl, hnc3⟩ := q_slice HQ3.out
    have hxl : (xs.length : Int) ≤ 2199023255552 := by have := HL.out xs htb; omega
    clear hq3 htb hB3
    refine wpAnyH_take (i := 8) (v := ?_) (op_at rfl) (by kernel_rfl) (by kernel_rfl) (by kernel_rfl) (fun _ _ _ h => hside _ _ _ _ _ h) (Or.inl ⟨by rfl, ?_⟩) (by assumption) ?_
    rotate_left
    · (intro w hSw; (try dsimp only at hSw); go_simp; all_goals with_reducible rfl)
    (try simp only [Act.put, List.setIfInBounds_toArray, List.set_cons_zero, List.set_cons_succ])
    refine wpAnyH_take (i := 9) (v := ?_) (op_at rfl) (by kernel_rfl) (by kernel_rfl) (by kernel_rfl) (fun _ _ _ h => hside _ _ _ _ _ h) (Or.inl ⟨by rfl, ?_⟩) (by assumption) ?_
    rotate_left
    · (intro w hSw; (try dsimp only at hSw); go_simp; all_goals with_reducible rfl)
    (try simp only [Act.put, List.setIfInBounds_toArray, List.set_cons_zero, List.set_cons_succ])
    refine wpAnyH_take (i := 10) (v := ?_) (op_at rfl) (by kernel_rfl) (by kernel_rfl) (by kernel_rfl) (fun _ _ _ h => hside _ _ _ _ _ h) (Or.inl ⟨by rfl, ?_⟩) (by assumption) ?_
    rotate_left
    · (intro w hSw; (try dsimp only at hSw); go_simp; all_goals with_reducible rfl)
    (try simp only [Act.put, List.setIfInBounds_toArray, List.set_cons_zero, List.set_cons_succ])
    refine wpAnyH_take (i := 11) (v := ?_) (op_at rfl) (by kernel_rfl) (by kernel_rfl) (by kernel_rfl) (fun _ _ _ h => hside _ _ _ _ _ h) (Or.inl ⟨by rfl, ?_⟩) (by assumption) ?_
    rotate_left
    · (intro w hSw; (try dsimp only at hSw); go_simp; all_goals with_reducible rfl)
    (try simp only [Act.put, List.setIfInBounds_toArray, List.set_cons_zero, List.set_cons_succ])
    refine wpAnyH_take (i := 12) (v := ?_) (op_at rfl) (by kernel_rfl) (by kernel_rfl) (by kernel_rfl) (fun _ _ _ h => hside _ _ _ _ _ h) (Or.inl ⟨by rfl, ?_⟩) (by assumption) ?_
    rotate_left
    · (intro w hSw; (try dsimp only at hSw); go_simp; all_goals with_reducible rfl)
    (try simp only [Act.put, List.setIfInBounds_toArray, List.set_cons_zero, List.set_cons_succ])
    refine wpAnyH_done (by kernel_rfl) ?_ _
    have HQ2' := Lib.hid (q_below HQ2.out hS3)
    have HB3 := Lib.hid (below_then HB2.out hS3)
    clear hHeld hside hS3
    go_wp2_with (at_builtin; refine wpList_append_q W1.heap.size rfl _ _ 31 63 i6 _ 4 32 rfl Try.underlying31 hi6 hz60 hz61 hz62 rfl (by decide) rfl HQ2'.out (xs.flatMap TSrc.cells) rfl (flatMap_length _ 4 (fun _ => rfl) _) ?p1 (srcCells_one _) ?p3 ?p4 ?p5 ?_)
    case p1 => exact fun h => q_cells HQ3.out h
    case p3 => simp only [maxLen]; omega
    case p4 => omega
    case p5 => exact hz3
    intro v5 w5 hq5 hg5 hat5
    have HB5 : Hid (Below W1.heap.size W1 w5) := HB3.out.grown hg5 hz3 (fun k e => (q_typed HQ2'.out k e).1)
    have hq6 : SrcsQ w5 W1.heap.size v5 (o.args ++ xs) := by
      unfold SrcsQ
      rw [List.flatMap_append, List.length_append]
      exact hq5
    have hyl : ((o.args ++ xs).length : Int) ≤ 4398046511104 := by rw [List.length_append]; omega
    have htb2 := HTB.out
    obtain ⟨ys, hys⟩ : ∃ ys, o.args ++ xs = ys := ⟨_, rfl⟩
    rw [hys] at hq6 hyl
    obtain ⟨A5, c5, rfl, hnc5⟩ := q_slice hq6
    have HU : Hid (UsesR T.t k (norm (varsOf ys))) := by
      have := UsesR.op (t := T.t) (op := (k : Int)) k o xs HCK.out rfl HO.out HTB.out
      show UsesR _ _ _
      rw [← hys, varsOf_append]
      exact this
    have HV := Lib.hid (refvars_any A5 c5 ys w5 (rowAt_q (R := SrcR) TSrc.cells 4 (fun _ => rfl) (by omega) (fun _ _ => rfl) hq6).2 hyl)
    have HZ5 : Hid (w.heap.size ≤ w5.heap.size) := Nat.le_trans HB1.out.size HB5.out.size
    clear hq5 hg5 hat5 hq6 hys htb2 f4 f13 e1 e4 x13 x16
    go_wp2_with (go_at_call 69; refine HV.out.mono ?_)
    rintro e w6 ⟨v, rfl, hq, hB6⟩
    have HQ := Lib.hid hq
    have HB6 := Lib.hid hB6
    clear hq hB6
    go_wp2_with fail
    go_ret
    exact ⟨_, _, rfl, q_lower HQ.out HZ5.out, HU.out, below_then HB1.out (below_then HB5.out HB6.out)⟩
end Go.Proofs.Ytjcfppbahalgbaa
