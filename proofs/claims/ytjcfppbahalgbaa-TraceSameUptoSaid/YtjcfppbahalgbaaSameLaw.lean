/- swathlaw16.TraceSame, given what swathref16.Same answers. -/
import Derived.Test.YtjcfppbahalgbaaSame
namespace Go.Proofs.Ytjcfppbahalgbaa
open Go.RowKit
set_option linter.unusedSimpArgs false
set_option linter.unusedVariables false
theorem wpList_load_g {P : Program} {ops : Array Oper} {Q : Exit → Act → World → Prop} {rest : List Oper} {o : Oper} {a : Act} {w : World} (hw : Region.wanted o (yielded ops a.tmps) = true) (ty : TypeId) (x : Operand) (ho : o.op = .load ty x)
    (g : Nat) (hx : a.eval x = .pointer (some ⟨g, 0, none⟩)) (cs : List Value) (d : TypeDesc) (hg : At w g 0 cs)
    (hu : P.underlying ty = some d) (hd : (match d with | .struct _ | .array _ _ => true | _ => false) = true) (hi : (P.info? ty).map (·.size) = some cs.length)
    (h : wpList P ops Q rest (a.put o.dst (.agg cs.toArray)) w) : wpList P ops Q (o :: rest) a w := by
  unfold wpList
  rw [if_pos hw]
  left
  unfold Oper.wp
  simp only [exec_load_at ty x ho g hx cs d hg hu hd hi]
  exact h
def RefSameSaid : Prop := ∀ (T S : TV) (w : World), T.ok w → S.ok w → Calls Try.prog 26 #[.agg T.cells.toArray, .agg S.cells.toArray] w fun e w' => e = .returned (.bool (decide (T.t = S.t))) ∧ Below w.heap.size w w'
set_option maxRecDepth 100000 in
set_option maxHeartbeats 1600000 in
theorem sameLaw_any (hRef : RefSameSaid) (T S : TV) (w : World) (hT : T.ok w) (hS : S.ok w) : Calls Try.prog 11 #[.agg T.cells.toArray, .agg S.cells.toArray] w fun e w' => e = .returned (.bool true) ∧ Below w.heap.size w w' := by
  obtain ⟨W2, hW2⟩ : ∃ W2, (w.alloc (.cells T.cells.toArray 33)).alloc (.cells S.cells.toArray 33) = W2 := ⟨_, rfl⟩
  have hB2 : Below w.heap.size w W2 := by rw [← hW2]; exact below_alloc (below_alloc (Below.refl _ _) _) _
  have hatT : At W2 w.heap.size 0 T.cells := by rw [← hW2]; exact (At.of_obj (heap_alloc_last w _)).below (below_alloc (Below.refl _ _) _)
  have hatS : At W2 (w.heap.size + 1) 0 S.cells := by
    rw [← hW2]
    have := heap_alloc_last (w.alloc (.cells T.cells.toArray 33)) (.cells S.cells.toArray 33)
    rw [World.size_alloc] at this
    exact At.of_obj this
  have HT := Lib.hid (hT.below hB2)
  have HS := Lib.hid (hS.below hB2)
  have fT := fun w' (h : Below W2.heap.size W2 w') => few_any T w' (HT.out.below h)
  have fS := fun w' (h : Below W2.heap.size W2 w') => few_any S w' (HS.out.below h)
  have sTS := fun w' (h : Below W2.heap.size W2 w') => same_any T S w' (HT.out.below h) (HS.out.below h)
  have sTT := fun w' (h : Below W2.heap.size W2 w') => same_any T T w' (HT.out.below h) (HT.out.below h)
  have sST := fun w' (h : Below W2.heap.size W2 w') => same_any S T w' (HS.out.below h) (HT.out.below h)
  have rTS := fun w' (h : Below W2.heap.size W2 w') => hRef T S w' (HT.out.below h) (HS.out.below h)
  have e1 : decide (T.t = T.t) = true := by simp
  have e2 : decide (S.t = T.t) = decide (T.t = S.t) := by
    rw [Bool.eq_iff_iff]
    simp [eq_comm]
  rw [e1] at sTT
  rw [e2] at sST
  obtain ⟨b, hb⟩ : ∃ b, decide (T.t = S.t) = b := ⟨_, rfl⟩
  rw [hb] at sTS sST rTS
  have HAT := Lib.hid hatT
  have HAS := Lib.hid hatS
  obtain ⟨cs, hcs⟩ : ∃ cs, T.cells.toArray = cs := ⟨_, rfl⟩
  obtain ⟨ds, hds⟩ : ∃ ds, S.cells.toArray = ds := ⟨_, rfl⟩
  rw [hcs] at fT sTS sTT sST rTS hW2
  rw [hds] at fS sTS sST rTS hW2
  rw [hcs, hds]
  have HCS := Lib.hid hcs
  have HDS := Lib.hid hds
  have HFT := Lib.hid fT
  have HFS := Lib.hid fS
  have HTS := Lib.hid sTS
  have HTT := Lib.hid sTT
  have HST := Lib.hid sST
  have HR := Lib.hid rTS
  have HB2 := Lib.hid hB2
  clear hcs hds hatT hatS hT hS hB2 fT fS sTS sTT sST rTS e1 e2 hb hRef
  go_enter Try.func11, Try.ntmps11
  go_wp2_with (go_at_call 27; refine (awake_any _).mono ?_)
  rintro e W3 ⟨rfl, hB3⟩
  have HAT3 := Lib.hid (HAT.out.below hB3)
  have HAS3 := Lib.hid (HAS.out.below hB3)
  have HB3 := Lib.hid hB3
  clear hB3
  go_wp2_with (first | (refine wpList_load_at rfl 33 (.tmp 2) rfl w.heap.size rfl T.cells _ HAT3.out Try.underlying33 rfl info33 ?_; rw [HCS.out]) | (go_at_call 34; refine (HFT.out _ HB3.out).mono ?_))
  rintro e W4 ⟨⟨bt, rfl⟩, hB4⟩
  have HAT4 := Lib.hid (HAT3.out.below hB4)
  have HAS4 := Lib.hid (HAS3.out.below hB4)
  have HB4 := Lib.hid (below_then HB3.out hB4)
  clear hB4
  cases bt with
  | false =>
    go_wp2_with fail
    go_ret
    exact ⟨rfl, below_then HB2.out HB4.out⟩
  | true =>
    go_wp2_with (first | (refine wpList_load_g rfl 33 (.tmp 3) rfl (w.heap.size + 1) rfl S.cells _ HAS4.out Try.underlying33 rfl info33 ?_; rw [HDS.out]) | (go_at_call 34; refine (HFS.out _ HB4.out).mono ?_))
    rintro e W5 ⟨⟨bs, rfl⟩, hB5⟩
    have HAT5 := Lib.hid (HAT4.out.below hB5)
    have HAS5 := Lib.hid (HAS4.out.below hB5)
    have HB5 := Lib.hid (below_then HB4.out hB5)
    clear hB5
    cases bs with
    | false =>
      go_wp2_with fail
      go_ret
      exact ⟨rfl, below_then HB2.out HB5.out⟩
    | true =>
      go_wp2_with fail
      rw [← HCS.out, ← HDS.out]
      have hB0 := HB5.out
      (try simp only [Act.put, List.setIfInBounds_toArray, List.set_cons_zero, List.set_cons_succ])
      have QTS := HTS.out
      have QTT := HTT.out
      have QST := HST.out
      have QR := HR.out
      rw [← HCS.out] at QTT QTS QST QR
      rw [← HDS.out] at QTS QST QR
      have HTS := Lib.hid QTS
      have HTT := Lib.hid QTT
      have HST := Lib.hid QST
      have HR := Lib.hid QR
      clear QTS QTT QST QR
      cases b
      all_goals
        refine drawn_begin (fun w' => Below W2.heap.size W2 w' ∧ Hid (At w' w.heap.size 0 T.cells) ∧ Hid (At w' (w.heap.size + 1) 0 S.cells)) (fun c a d v w h => ?_) (by kernel_rfl) ?_ (fun hside hHeld => ?_)
        · (obtain ⟨h1, h2⟩ := h; exact And.intro (put_nil h1) h2)
        · exact ⟨hB0.trans ((below_drewN (Below.refl W5.heap.size W5) 1).mono hB0.size), Lib.hid (HAT5.out.below (below_drewN (Below.refl _ _) 1)), Lib.hid (HAS5.out.below (below_drewN (Below.refl _ _) 1))⟩
        refine wpAnyH_take (i := 0) (v := (.agg T.cells.toArray)) (op_at rfl) (by kernel_rfl) (by kernel_rfl) (by kernel_rfl) (fun _ _ _ h => hside _ _ _ _ _ h) (Or.inl ⟨by rfl, ?_⟩) (by assumption) ?_
        · (intro w hSw; exact exec_load_at 33 _ rfl _ rfl T.cells _ hSw.2.1.out Try.underlying33 rfl info33)
        (try simp only [Act.put, List.setIfInBounds_toArray, List.set_cons_zero, List.set_cons_succ])
        refine wpAnyH_take (i := 1) (v := (.agg S.cells.toArray)) (op_at rfl) (by kernel_rfl) (by kernel_rfl) (by kernel_rfl) (fun _ _ _ h => hside _ _ _ _ _ h) (Or.inl ⟨by rfl, ?_⟩) (by assumption) ?_
        · (intro w hSw; exact exec_load_at 33 _ rfl _ rfl S.cells _ hSw.2.2.out Try.underlying33 rfl info33)
        (try simp only [Act.put, List.setIfInBounds_toArray, List.set_cons_zero, List.set_cons_succ])
        refine wpAnyH_take (i := 3) (v := (.agg T.cells.toArray)) (op_at rfl) (by kernel_rfl) (by kernel_rfl) (by kernel_rfl) (fun _ _ _ h => hside _ _ _ _ _ h) (Or.inl ⟨by rfl, ?_⟩) (by assumption) ?_
        · (intro w hSw; exact exec_load_at 33 _ rfl _ rfl T.cells _ hSw.2.1.out Try.underlying33 rfl info33)
        (try simp only [Act.put, List.setIfInBounds_toArray, List.set_cons_zero, List.set_cons_succ])
        refine wpAnyH_take (i := 4) (v := (.agg S.cells.toArray)) (op_at rfl) (by kernel_rfl) (by kernel_rfl) (by kernel_rfl) (fun _ _ _ h => hside _ _ _ _ _ h) (Or.inl ⟨by rfl, ?_⟩) (by assumption) ?_
        · (intro w hSw; exact exec_load_at 33 _ rfl _ rfl S.cells _ hSw.2.2.out Try.underlying33 rfl info33)
        (try simp only [Act.put, List.setIfInBounds_toArray, List.set_cons_zero, List.set_cons_succ])
        refine wpAnyH_ready (rs := [2]) (by kernel_rfl) (by simp) (AllReadyH.cons (op_at rfl) (fun Kr hK => ?_) AllReadyH.nil)
        go_simp
        refine (HTS.out _ hHeld.1).mono ?_
        rintro e v1 ⟨rfl, hC1⟩
        have hS1 : Below W2.heap.size W2 v1 ∧ Hid (At v1 w.heap.size 0 T.cells) ∧ Hid (At v1 (w.heap.size + 1) 0 S.cells) := ⟨hHeld.1.trans (hC1.mono hHeld.1.size), Lib.hid (hHeld.2.1.out.below hC1), Lib.hid (hHeld.2.2.out.below hC1)⟩
        refine hK.out _ _ ?_ (fun hHeld => ?_)
        · exact hS1
        clear hK
        (try simp only [Act.put, List.setIfInBounds_toArray, List.set_cons_zero, List.set_cons_succ])
        refine wpAnyH_ready (rs := [5]) (by kernel_rfl) (by simp) (AllReadyH.cons (op_at rfl) (fun Kr hK => ?_) AllReadyH.nil)
        go_simp
        refine (HR.out _ hHeld.1).mono ?_
        rintro e v2 ⟨rfl, hC2⟩
        have hS2 : Below W2.heap.size W2 v2 ∧ Hid (At v2 w.heap.size 0 T.cells) ∧ Hid (At v2 (w.heap.size + 1) 0 S.cells) := ⟨hHeld.1.trans (hC2.mono hHeld.1.size), Lib.hid (hHeld.2.1.out.below hC2), Lib.hid (hHeld.2.2.out.below hC2)⟩
        refine hK.out _ _ ?_ (fun hHeld => ?_)
        · exact hS2
        clear hK
        (try simp only [Act.put, List.setIfInBounds_toArray, List.set_cons_zero, List.set_cons_succ])
        refine wpAnyH_take (i := 6) (v := ?_) (op_at rfl) (by kernel_rfl) (by kernel_rfl) (by kernel_rfl) (fun _ _ _ h => hside _ _ _ _ _ h) (Or.inl ⟨by rfl, ?_⟩) (by assumption) ?_
        rotate_left
        · (intro w hSw; (try dsimp only at hSw); go_simp; all_goals with_reducible rfl)
        (try simp only [Act.put, List.setIfInBounds_toArray, List.set_cons_zero, List.set_cons_succ])
        refine wpAnyH_take (i := 7) (v := ?_) (op_at rfl) (by kernel_rfl) (by kernel_rfl) (by kernel_rfl) (fun _ _ _ h => hside _ _ _ _ _ h) (Or.inl ⟨by rfl, ?_⟩) (by assumption) ?_
        rotate_left
        · (intro w hSw; (try dsimp only at hSw); go_simp; all_goals with_reducible rfl)
        (try simp only [Act.put, List.setIfInBounds_toArray, List.set_cons_zero, List.set_cons_succ])
        refine wpAnyH_take (i := 8) (v := (.agg T.cells.toArray)) (op_at rfl) (by kernel_rfl) (by kernel_rfl) (by kernel_rfl) (fun _ _ _ h => hside _ _ _ _ _ h) (Or.inl ⟨by rfl, ?_⟩) (by assumption) ?_
        · (intro w hSw; exact exec_load_at 33 _ rfl _ rfl T.cells _ hSw.2.1.out Try.underlying33 rfl info33)
        (try simp only [Act.put, List.setIfInBounds_toArray, List.set_cons_zero, List.set_cons_succ])
        refine wpAnyH_take (i := 9) (v := (.agg T.cells.toArray)) (op_at rfl) (by kernel_rfl) (by kernel_rfl) (by kernel_rfl) (fun _ _ _ h => hside _ _ _ _ _ h) (Or.inl ⟨by rfl, ?_⟩) (by assumption) ?_
        · (intro w hSw; exact exec_load_at 33 _ rfl _ rfl T.cells _ hSw.2.1.out Try.underlying33 rfl info33)
        (try simp only [Act.put, List.setIfInBounds_toArray, List.set_cons_zero, List.set_cons_succ])
        refine wpAnyH_ready (rs := [10]) (by kernel_rfl) (by simp) (AllReadyH.cons (op_at rfl) (fun Kr hK => ?_) AllReadyH.nil)
        go_simp
        refine (HTT.out _ hHeld.1).mono ?_
        rintro e v3 ⟨rfl, hC3⟩
        have hS3 : Below W2.heap.size W2 v3 ∧ Hid (At v3 w.heap.size 0 T.cells) ∧ Hid (At v3 (w.heap.size + 1) 0 S.cells) := ⟨hHeld.1.trans (hC3.mono hHeld.1.size), Lib.hid (hHeld.2.1.out.below hC3), Lib.hid (hHeld.2.2.out.below hC3)⟩
        refine hK.out _ _ ?_ (fun hHeld => ?_)
        · exact hS3
        clear hK
        (try simp only [Act.put, List.setIfInBounds_toArray, List.set_cons_zero, List.set_cons_succ])
        refine wpAnyH_take (i := 11) (v := ?_) (op_at rfl) (by kernel_rfl) (by kernel_rfl) (by kernel_rfl) (fun _ _ _ h => hside _ _ _ _ _ h) (Or.inl ⟨by rfl, ?_⟩) (by assumption) ?_
        rotate_left
        · (intro w hSw; (try dsimp only at hSw); go_simp; all_goals with_reducible rfl)
        (try simp only [Act.put, List.setIfInBounds_toArray, List.set_cons_zero, List.set_cons_succ])
        refine wpAnyH_take (i := 12) (v := ?_) (op_at rfl) (by kernel_rfl) (by kernel_rfl) (by kernel_rfl) (fun _ _ _ h => hside _ _ _ _ _ h) (Or.inl ⟨by rfl, ?_⟩) (by assumption) ?_
        rotate_left
        · (intro w hSw; (try dsimp only at hSw); go_simp; all_goals with_reducible rfl)
        (try simp only [Act.put, List.setIfInBounds_toArray, List.set_cons_zero, List.set_cons_succ])
        refine wpAnyH_take (i := 13) (v := (.agg T.cells.toArray)) (op_at rfl) (by kernel_rfl) (by kernel_rfl) (by kernel_rfl) (fun _ _ _ h => hside _ _ _ _ _ h) (Or.inl ⟨by rfl, ?_⟩) (by assumption) ?_
        · (intro w hSw; exact exec_load_at 33 _ rfl _ rfl T.cells _ hSw.2.1.out Try.underlying33 rfl info33)
        (try simp only [Act.put, List.setIfInBounds_toArray, List.set_cons_zero, List.set_cons_succ])
        refine wpAnyH_take (i := 14) (v := (.agg S.cells.toArray)) (op_at rfl) (by kernel_rfl) (by kernel_rfl) (by kernel_rfl) (fun _ _ _ h => hside _ _ _ _ _ h) (Or.inl ⟨by rfl, ?_⟩) (by assumption) ?_
        · (intro w hSw; exact exec_load_at 33 _ rfl _ rfl S.cells _ hSw.2.2.out Try.underlying33 rfl info33)
        (try simp only [Act.put, List.setIfInBounds_toArray, List.set_cons_zero, List.set_cons_succ])
        refine wpAnyH_take (i := 16) (v := (.agg S.cells.toArray)) (op_at rfl) (by kernel_rfl) (by kernel_rfl) (by kernel_rfl) (fun _ _ _ h => hside _ _ _ _ _ h) (Or.inl ⟨by rfl, ?_⟩) (by assumption) ?_
        · (intro w hSw; exact exec_load_at 33 _ rfl _ rfl S.cells _ hSw.2.2.out Try.underlying33 rfl info33)
        (try simp only [Act.put, List.setIfInBounds_toArray, List.set_cons_zero, List.set_cons_succ])
        refine wpAnyH_take (i := 17) (v := (.agg T.cells.toArray)) (op_at rfl) (by kernel_rfl) (by kernel_rfl) (by kernel_rfl) (fun _ _ _ h => hside _ _ _ _ _ h) (Or.inl ⟨by rfl, ?_⟩) (by assumption) ?_
        · (intro w hSw; exact exec_load_at 33 _ rfl _ rfl T.cells _ hSw.2.1.out Try.underlying33 rfl info33)
        (try simp only [Act.put, List.setIfInBounds_toArray, List.set_cons_zero, List.set_cons_succ])
        refine wpAnyH_ready (rs := [15]) (by kernel_rfl) (by simp) (AllReadyH.cons (op_at rfl) (fun Kr hK => ?_) AllReadyH.nil)
        go_simp
        refine (HTS.out _ hHeld.1).mono ?_
        rintro e v4 ⟨rfl, hC4⟩
        have hS4 : Below W2.heap.size W2 v4 ∧ Hid (At v4 w.heap.size 0 T.cells) ∧ Hid (At v4 (w.heap.size + 1) 0 S.cells) := ⟨hHeld.1.trans (hC4.mono hHeld.1.size), Lib.hid (hHeld.2.1.out.below hC4), Lib.hid (hHeld.2.2.out.below hC4)⟩
        refine hK.out _ _ ?_ (fun hHeld => ?_)
        · exact hS4
        clear hK
        (try simp only [Act.put, List.setIfInBounds_toArray, List.set_cons_zero, List.set_cons_succ])
        refine wpAnyH_ready (rs := [18]) (by kernel_rfl) (by simp) (AllReadyH.cons (op_at rfl) (fun Kr hK => ?_) AllReadyH.nil)
        go_simp
        refine (HST.out _ hHeld.1).mono ?_
        rintro e v5 ⟨rfl, hC5⟩
        have hS5 : Below W2.heap.size W2 v5 ∧ Hid (At v5 w.heap.size 0 T.cells) ∧ Hid (At v5 (w.heap.size + 1) 0 S.cells) := ⟨hHeld.1.trans (hC5.mono hHeld.1.size), Lib.hid (hHeld.2.1.out.below hC5), Lib.hid (hHeld.2.2.out.below hC5)⟩
        refine hK.out _ _ ?_ (fun hHeld => ?_)
        · exact hS5
        clear hK
        (try simp only [Act.put, List.setIfInBounds_toArray, List.set_cons_zero, List.set_cons_succ])
        refine wpAnyH_take (i := 19) (v := ?_) (op_at rfl) (by kernel_rfl) (by kernel_rfl) (by kernel_rfl) (fun _ _ _ h => hside _ _ _ _ _ h) (Or.inl ⟨by rfl, ?_⟩) (by assumption) ?_
        rotate_left
        · (intro w hSw; (try dsimp only at hSw); go_simp; all_goals with_reducible rfl)
        (try simp only [Act.put, List.setIfInBounds_toArray, List.set_cons_zero, List.set_cons_succ])
        refine wpAnyH_take (i := 20) (v := ?_) (op_at rfl) (by kernel_rfl) (by kernel_rfl) (by kernel_rfl) (fun _ _ _ h => hside _ _ _ _ _ h) (Or.inl ⟨by rfl, ?_⟩) (by assumption) ?_
        rotate_left
        · (intro w hSw; (try dsimp only at hSw); go_simp; all_goals with_reducible rfl)
        (try simp only [Act.put, List.setIfInBounds_toArray, List.set_cons_zero, List.set_cons_succ])
        refine wpAnyH_take (i := 21) (v := ?_) (op_at rfl) (by kernel_rfl) (by kernel_rfl) (by kernel_rfl) (fun _ _ _ h => hside _ _ _ _ _ h) (Or.inl ⟨by rfl, ?_⟩) (by assumption) ?_
        rotate_left
        · (intro w hSw; (try dsimp only at hSw); go_simp; all_goals with_reducible rfl)
        (try simp only [Act.put, List.setIfInBounds_toArray, List.set_cons_zero, List.set_cons_succ])
        refine wpAnyH_done (by kernel_rfl) ?_ _
        clear hHeld
        go_wp2_with fail
        go_ret
        exact ⟨rfl, below_then HB2.out hS5.1⟩
end Go.Proofs.Ytjcfppbahalgbaa
