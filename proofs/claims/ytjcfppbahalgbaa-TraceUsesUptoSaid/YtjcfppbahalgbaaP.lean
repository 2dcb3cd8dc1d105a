/- trace's checker: one operation. -/
import Derived.Test.YtjcfppbahalgbaaU
namespace Go.Proofs.Ytjcfppbahalgbaa
set_option linter.unusedSimpArgs false
set_option linter.unusedVariables false
open Go.RowKit
attribute [local go_sem] Oper.semAt_some
structure OpParts (t : Trc) (mk : List Bool) (at_ : Int) (o : TOp) : Prop where
  row : ((rowOf o.op).is && (decide ((rowOf o.op).args < 0) || (rowOf o.op).args == o.args.length)) = true
  num : numS (rowOf o.op) o.op o.args.length o.kk o.c = true
  args : o.args.all (fun s => madeS t.virts.length t.ins.length mk s at_) = true
  konst : (o.op != 32 || (o.args.getD 1 ⟨0, 0, 0, 0⟩).k == 0) = true
  low : decide (-1 ≤ o.snap) = true
  high : decide (o.snap < t.links.length) = true
theorem opHead_parts {t : Trc} {mk : List Bool} {at_ : Int} {o : TOp} : opHead t mk at_ o = true ↔ OpParts t mk at_ o := by
  constructor
  · intro h
    unfold opHead at h
    simp only [Bool.and_eq_true] at h
    obtain ⟨⟨⟨⟨⟨⟨h1, h2⟩, h3⟩, h4⟩, h5⟩, h6⟩, h7⟩ := h
    exact ⟨by rw [h1, h2]; rfl, h3, h4, h5, h6, h7⟩
  · rintro ⟨h1, h3, h4, h5, h6, h7⟩
    simp only [Bool.and_eq_true] at h1
    unfold opHead
    rw [h1.1, h1.2, h3, h4, h5, h6, h7]
    rfl
theorem OpOk.parts {t : Trc} {mk : List Bool} {at_ : Int} {o : TOp} (h : OpOk t mk at_ o) : OpParts t mk at_ o := opHead_parts.1 h.1
theorem exec_load_at {P : Program} {o : Oper} {a : Act} {w : World} (ty : TypeId) (x : Operand) (ho : o.op = .load ty x)
    (g : Nat) (hx : a.eval x = .pointer (some ⟨g, 0, none⟩)) (cs : List Value) (d : TypeDesc) (hg : At w g 0 cs)
    (hu : P.underlying ty = some d) (hd : (match d with | .struct _ | .array _ _ => true | _ => false) = true) (hi : (P.info? ty).map (·.size) = some cs.length) :
    (execOp a.eval o).run P w = .ok (.value (.agg cs.toArray)) w := by
  unfold execOp
  simp only [ho, hx, Instr.loadAt, Instr.sureAddr, Sem.run_bind, Sem.run_pure, Result.andThen_ok, run_loadVar_at w g ty cs d hg hu hd hi]
theorem row32 : (rowOf 32).args = 2 := by unfold rowOf; rfl
theorem below_put {n l : Nat} {W : World} {o : Obj} (hn : n ≤ W.heap.size) (hl : n ≤ l) : Below n W (W.putObj l o) :=
  (stepM_putObj (fun k _ => k = l) W l o (fun _ _ => rfl)).below (fun k _ h => by rw [h]; exact hl) hn
def wrongE (n : Int) : List PanicEntry := [{ v := .iface 125 (.agg #[.int .i64 n]), recovered := false }]
set_option maxRecDepth 100000 in
set_option maxHeartbeats 3200000 in
theorem op_any (T : TV) (X at_ : Nat) (Am : Option Addr) (cm : Nat) (mk : List Bool) (o : TOp) (w : World) (hT : T.ok w) (ht : TakeOk T.t) (hX : At w X 0 T.cells) (h17 : w.cell? ⟨X, 17, none⟩ = some (.int .i64 at_))
    (h18 : w.cell? ⟨X, 18, none⟩ = some (.slice Am mk.length cm)) (hm : RowAt BoolR 1 w Am mk) (hml : mk.length ≤ 1048576) (hat : at_ ≤ mk.length) (ho : T.t.ops[at_]? = some o) (hI : ∀ s ∈ o.args, I64 s.n) :
    Calls Try.prog 120 #[.pointer (some ⟨X, 0, none⟩), .int .i64 at_] w fun e w' => ((e = .returned (.tuple #[]) ∧ OpOk T.t mk at_ o) ∨ (e = .panicked (wrongE at_) ∧ ¬ OpOk T.t mk at_ o)) ∧ Below w.heap.size w w' := by
  obtain ⟨b, oo, Aa, ca, hA, hb, e0, e1, e2, e3, e4, hargs⟩ := op_get hT.o.2.2.2 ho
  have k13 := hX 13 _ rfl
  have k12 := hX 12 _ rfl
  have k14 := hX 14 _ rfl
  have k15 := hX 15 _ rfl
  rw [Nat.zero_add] at k12 k13 k14 k15
  have hol := (List.getElem?_eq_some_iff.1 ho).1
  rw [hA] at k13
  refine calls_of_wpAt (fn := Try.f120) Try.func120 rfl ?_
  simp only [Try.ntmps120, List.size_toArray, List.length_cons, List.length_nil, Nat.reduceAdd, Nat.reduceSub, Array.replicate_succ, Array.replicate_zero, List.push_toArray, List.append_toArray, List.nil_append, List.cons_append]
  unfold Try.f120
  refine wpAt_seq_p _ bodyPostP_panic (fun K hK => ?_)
  go_wp2_with fail
  obtain ⟨W2, hW2⟩ : ∃ W2, (w.alloc (.cells #[.pointer (some ⟨X, 0, none⟩)] 127)).alloc (.cells #[.int .i64 at_] 3) = W2 := ⟨_, rfl⟩
  have hB2 : Below w.heap.size w W2 := by rw [← hW2]; exact below_alloc (below_alloc (Below.refl _ _) _) _
  have hb2 : W2.heap[w.heap.size + 1]? = some (.cells #[.int .i64 at_] 3 (0, 0)) := by rw [← hW2]; have := heap_alloc_last (w.alloc (.cells #[.pointer (some ⟨X, 0, none⟩)] 127)) (.cells #[.int .i64 at_] 3); simpa using this
  have hb1 : W2.heap[w.heap.size]? = some (.cells #[.pointer (some ⟨X, 0, none⟩)] 127 (0, 0)) := by rw [← hW2, Below.heap_alloc _ _ _ (by simp)]; exact heap_alloc_last w _
  have hs2 : W2.heap.size = w.heap.size + 2 := by rw [← hW2]; simp
  rw [hW2]
  have kb : W2.cell? ⟨w.heap.size, 0, none⟩ = some (.pointer (some ⟨X, 0, none⟩)) := by rw [cell_of_row W2 _ 0 _ _ _ hb1]; rfl
  have ka : W2.cell? ⟨w.heap.size + 1, 0, none⟩ = some (.int .i64 at_) := by rw [cell_of_row W2 _ 0 _ _ _ hb2]; rfl
  have g13 := cell_later hB2 k13
  have f0 := cell_later hB2 e0
  have f1 := cell_later hB2 e1
  have f2 := cell_later hB2 e2
  have f3 := cell_later hB2 e3
  have f4 := cell_later hB2 e4
  have hol' : (at_ : Int) < T.t.ops.length := by omega
  have HB2 := Lib.hid hB2
  have HS2 := Lib.hid hs2
  clear hW2 hb1 hb2 hB2 hs2 e0 e1 e2 e3 e4 k13
  refine wpAt_seq_p _ bodyPostP_panic (fun K hK => ?_)
  (try simp only [Act.put, List.setIfInBounds_toArray, List.set_cons_zero, List.set_cons_succ])
  refine drawn_begin (fun w' => (Below W2.heap.size W2 w' ∧ w'.cell? ⟨w.heap.size, 0, none⟩ = some (.pointer (some ⟨X, 0, none⟩)) ∧ w'.cell? ⟨w.heap.size + 1, 0, none⟩ = some (.int .i64 at_) ∧ w'.cell? ⟨X, 13, none⟩ = some (.slice (some ⟨b, oo, none⟩) T.t.ops.length T.o.c)) ∧
      w'.cell? ⟨b, oo + at_ * 5, none⟩ = some (.int .i64 o.op) ∧ w'.cell? ⟨b, oo + at_ * 5 + 1, none⟩ = some (.slice Aa o.args.length ca) ∧ w'.cell? ⟨b, oo + at_ * 5 + 2, none⟩ = some (.int .i64 o.kk) ∧ w'.cell? ⟨b, oo + at_ * 5 + 3, none⟩ = some (.int .i64 o.c) ∧ w'.cell? ⟨b, oo + at_ * 5 + 4, none⟩ = some (.int .i64 o.snap)) (fun c a d v w h => ?_) (by kernel_rfl) ?_ (fun hside hHeld => ?_)
  · (obtain ⟨h1, h2⟩ := h; exact And.intro (put_nil h1) h2)
  · exact ⟨⟨below_drewN (Below.refl _ _) 1, kb, ka, g13⟩, f0, f1, f2, f3, f4⟩
  refine wpAnyH_take (i := 0) (v := ?_) (op_at rfl) (by kernel_rfl) (by kernel_rfl) (by kernel_rfl) (fun _ _ _ h => hside _ _ _ _ _ h) (Or.inl ⟨by rfl, ?_⟩) (by assumption) ?_
  rotate_left
  · (intro w hSw; (try dsimp only at hSw); go_simp; all_goals with_reducible rfl)
  (try simp only [Act.put, List.setIfInBounds_toArray, List.set_cons_zero, List.set_cons_succ])
  refine wpAnyH_take (i := 1) (v := ?_) (op_at rfl) (by kernel_rfl) (by kernel_rfl) (by kernel_rfl) (fun _ _ _ h => hside _ _ _ _ _ h) (Or.inl ⟨by rfl, ?_⟩) (by assumption) ?_
  rotate_left
  · (intro w hSw; (try dsimp only at hSw); go_simp; all_goals with_reducible rfl)
  (try simp only [Act.put, List.setIfInBounds_toArray, List.set_cons_zero, List.set_cons_succ])
  refine wpAnyH_take (i := 2) (v := ?_) (op_at rfl) (by kernel_rfl) (by kernel_rfl) (by kernel_rfl) (fun _ _ _ h => hside _ _ _ _ _ h) (Or.inl ⟨by rfl, ?_⟩) (by assumption) ?_
  rotate_left
  · (intro w hSw; (try dsimp only at hSw); go_simp; all_goals with_reducible rfl)
  (try simp only [Act.put, List.setIfInBounds_toArray, List.set_cons_zero, List.set_cons_succ])
  refine wpAnyH_take (i := 3) (v := ?_) (op_at rfl) (by kernel_rfl) (by kernel_rfl) (by kernel_rfl) (fun _ _ _ h => hside _ _ _ _ _ h) (Or.inl ⟨by rfl, ?_⟩) (by assumption) ?_
  rotate_left
  · (intro w hSw; (try dsimp only at hSw); go_simp; all_goals with_reducible rfl)
  (try simp only [Act.put, List.setIfInBounds_toArray, List.set_cons_zero, List.set_cons_succ])
  refine wpAnyH_take (i := 4) (v := ?_) (op_at rfl) (by kernel_rfl) (by kernel_rfl) (by kernel_rfl) (fun _ _ _ h => hside _ _ _ _ _ h) (Or.inl ⟨by rfl, ?_⟩) (by assumption) ?_
  rotate_left
  · (intro w hSw; (try dsimp only at hSw); go_simp; all_goals with_reducible rfl)
  (try simp only [Act.put, List.setIfInBounds_toArray, List.set_cons_zero, List.set_cons_succ])
  refine wpAnyH_take (i := 5) (v := ?_) (op_at rfl) (by kernel_rfl) (by kernel_rfl) (by kernel_rfl) (fun _ _ _ h => hside _ _ _ _ _ h) (Or.inl ⟨by rfl, ?_⟩) (by assumption) ?_
  rotate_left
  · (intro w hSw; (try dsimp only at hSw); go_simp; all_goals with_reducible rfl)
  (try simp only [Act.put, List.setIfInBounds_toArray, List.set_cons_zero, List.set_cons_succ])
  refine wpAnyH_take (i := 6) (v := ?_) (op_at rfl) (by kernel_rfl) (by kernel_rfl) (by kernel_rfl) (fun _ _ _ h => hside _ _ _ _ _ h) (Or.inl ⟨by rfl, ?_⟩) (by assumption) ?_
  rotate_left
  · (intro w hSw; (try dsimp only at hSw); go_simp; all_goals with_reducible rfl)
  (try simp only [Act.put, List.setIfInBounds_toArray, List.set_cons_zero, List.set_cons_succ])
  refine wpAnyH_take (i := 7) (v := ?_) (op_at rfl) (by kernel_rfl) (by kernel_rfl) (by kernel_rfl) (fun _ _ _ h => hside _ _ _ _ _ h) (Or.inl ⟨by rfl, ?_⟩) (by assumption) ?_
  rotate_left
  · (intro w hSw; (try dsimp only at hSw); go_simp; all_goals with_reducible rfl)
  (try simp only [Act.put, List.setIfInBounds_toArray, List.set_cons_zero, List.set_cons_succ])
  refine wpAnyH_ready (rs := [8]) (by kernel_rfl) (by simp) (AllReadyH.cons (op_at rfl) (fun Kr hK => ?_) AllReadyH.nil)
  go_simp
  have hBa : Below W2.heap.size W2 (W2.alloc (.cells #[.int .i64 0, .slice none 0 0, .int .i64 0, .int .i64 0, .int .i64 0] 41)).drew := below_drewN (below_alloc (Below.refl _ _) _) 1
  refine hK.out _ _ ?_ (fun hHeld => ?_)
  · exact ⟨⟨hBa, cell_later hBa kb, cell_later hBa ka, cell_later hBa g13⟩, cell_later hBa f0, cell_later hBa f1, cell_later hBa f2, cell_later hBa f3, cell_later hBa f4⟩
  clear hK
  (try simp only [Act.put, List.setIfInBounds_toArray, List.set_cons_zero, List.set_cons_succ])
  refine wpAnyH_ready (rs := [9]) (by kernel_rfl) (by simp) (AllReadyH.cons (op_at rfl) (fun Kr hK => ?_) AllReadyH.nil)
  go_simp
  obtain ⟨W3, hW3⟩ : ∃ W3, (W2.alloc (.cells #[.int .i64 o.op, .slice Aa o.args.length ca, .int .i64 o.kk, .int .i64 o.c, .int .i64 o.snap] 41)).drew = W3 := ⟨_, rfl⟩
  have hB3 : Below W2.heap.size W2 W3 := by rw [← hW3]; exact below_drewN (below_alloc (Below.refl _ _) _) 1
  have hb3 : W3.heap[W2.heap.size]? = some (.cells #[.int .i64 o.op, .slice Aa o.args.length ca, .int .i64 o.kk, .int .i64 o.c, .int .i64 o.snap] 41 (0, 0)) := by rw [← hW3]; exact heap_alloc_last W2 _
  rw [hW3]
  have hB3w : Below w.heap.size w W3 := HB2.out.trans (hB3.mono HB2.out.size)
  refine hK.out _ _ ?_ (fun hHeld => ?_)
  · exact ⟨⟨hB3, cell_later hB3 kb, cell_later hB3 ka, cell_later hB3 g13⟩, cell_later hB3 f0, cell_later hB3 f1, cell_later hB3 f2, cell_later hB3 f3, cell_later hB3 f4⟩
  clear hK
  (try simp only [Act.put, List.setIfInBounds_toArray, List.set_cons_zero, List.set_cons_succ])
  refine wpAnyH_done (by kernel_rfl) ?_ _
  obtain ⟨bo, hbo⟩ : ∃ bo, W2.heap.size = bo := ⟨_, rfl⟩
  rw [hbo] at hb3
  obtain ⟨⟨-, kb3, ka3, -⟩, -⟩ := hHeld
  have q17 := cell_later hB3w h17
  have q18 := cell_later hB3w h18
  have q12 := cell_later hB3w k12
  have q14 := cell_later hB3w k14
  have q15 := cell_later hB3w k15
  have o0 := cell_of_row W3 bo 0 _ _ _ hb3
  have o1 := cell_of_row W3 bo 1 _ _ _ hb3
  have o2 := cell_of_row W3 bo 2 _ _ _ hb3
  have o3 := cell_of_row W3 bo 3 _ _ _ hb3
  have o4 := cell_of_row W3 bo 4 _ _ _ hb3
  simp only [List.getElem?_toArray, List.getElem?_cons_zero, List.getElem?_cons_succ] at o0 o1 o2 o3 o4
  have HB3 := Lib.hid hB3w
  have HT := Lib.hid hT
  have HX := Lib.hid hX
  have HM := Lib.hid hm
  have HARGS := Lib.hid hargs
  have hnar : o.args.length ≤ 1048576 := hargs.2.2.1
  have hnin : T.t.ins.length ≤ 1048576 := hT.i.2.2.1
  have hcell : w.heap.size + 1 < bo := by rw [← hbo]; have := lt_of_cell ka; exact this
  apply hK
  clear hside
  clear hW3 hB3 hb3 hB3w kb ka g13 f0 f1 f2 f3 f4 hBa HS2 HB2 hT hX hm hargs k12 k14 k15 h17 h18 hK K hol' hA
  rw [hbo]
  clear hbo
  obtain ⟨r, hr⟩ : ∃ r, rowOf o.op = r := ⟨_, rfl⟩
  refine wpAt_seq_p _ bodyPostP_panic (fun K hK => ?_)
  (try simp only [Act.put, List.setIfInBounds_toArray, List.set_cons_zero, List.set_cons_succ])
  go_wp2_with (go_at_call 63; refine (of_any o.op _).mono ?_; rintro e w4 ⟨rfl, hB4⟩; rw [hr])
  obtain ⟨W5, hW5⟩ : ∃ W5, w4.alloc (.cells #[.string r.name, .int .i64 r.args, .bool r.k, .bool r.c, .bool r.makes, .bool r.may, .bool r.is] 112) = W5 := ⟨_, rfl⟩
  have hB5 : Below W3.heap.size W3 W5 := by rw [← hW5]; exact below_alloc hB4 _
  have hb5 := heap_alloc_last w4 (.cells #[.string r.name, .int .i64 r.args, .bool r.k, .bool r.c, .bool r.makes, .bool r.may, .bool r.is] 112)
  rw [hW5] at hb5 ⊢
  have x17 := cell_later hB5 q17
  have x18 := cell_later hB5 q18
  have x12 := cell_later hB5 q12
  have x14 := cell_later hB5 q14
  have x15 := cell_later hB5 q15
  have p0 := cell_later hB5 o0
  have p1 := cell_later hB5 o1
  have p2 := cell_later hB5 o2
  have p3 := cell_later hB5 o3
  have p4 := cell_later hB5 o4
  have xb := cell_later hB5 kb3
  have xa := cell_later hB5 ka3
  obtain ⟨br, hbr⟩ : ∃ br, w4.heap.size = br := ⟨_, rfl⟩
  rw [hbr] at hb5 ⊢
  have r1 := cell_of_row W5 br 1 _ _ _ hb5
  have r6 := cell_of_row W5 br 6 _ _ _ hb5
  simp only [List.getElem?_toArray, List.getElem?_cons_zero, List.getElem?_cons_succ] at r1 r6
  have HROW := Lib.hid hb5
  have HB5 := Lib.hid (HB3.out.trans (hB5.mono HB3.out.size))
  have HBr := Lib.hid hr
  clear hW5 hB5 hb5 hB4 q17 q18 q12 q14 q15 o0 o1 o2 o3 o4 kb3 ka3 HB3 hbr hr
  refine wpAt_seq_p _ bodyPostP_panic (fun K hK => ?_)
  (try simp only [Act.put, List.setIfInBounds_toArray, List.set_cons_zero, List.set_cons_succ])
  go_cut [] from 20 to 36 (fun wx => Hid ((r.is && (decide (r.args < 0) || r.args == o.args.length)) = true) ∧ wx = W5)
  case first =>
    go_wp2_with fail
    all_goals refine calls_must x17 (fun hok => ?_) (fun hok => ?_)
    all_goals first | cases hok | skip
    all_goals go_wp2_with fail
    all_goals first
      | (go_meet; refine ⟨?_, rfl⟩; (show _ = true); simp [*])
      | (refine ⟨rfl, .inr ⟨rfl, fun hh => ?_⟩, HB5.out⟩; have hh1 := hh.parts.row; rw [HBr.out] at hh1; simp [*] at hh1)
  case rest =>
    obtain ⟨hc1, rfl⟩ := hcut
    apply hK
    clear hK K
    refine wpAt_seq_p _ bodyPostP_panic (fun K hK => ?_)
    go_wp2_with (first | (refine wpList_load_at rfl 41 (.tmp 4) rfl bo rfl [.int .i64 o.op, .slice Aa o.args.length ca, .int .i64 o.kk, .int .i64 o.c, .int .i64 o.snap] _ (by intro i v hv; rcases i with _ | _ | _ | _ | _ | i <;> simp at hv <;> subst hv <;> simpa) Try.underlying41 rfl rfl ?_) | (refine wpList_load_row rfl 112 (.tmp 5) rfl br rfl 112 _ _ _ HROW.out Try.underlying112 rfl info112 ?_) | (go_at_call 160; refine (numbers_any X at_ r Aa o.args.length ca o.op o.kk o.c o.snap _ x17).mono ?_))
    rintro e w6 ⟨rfl, hB6⟩
    have HB6 := Lib.hid (HB5.out.trans (hB6.mono HB5.out.size))
    have y17 := cell_later hB6 x17
    have y18 := cell_later hB6 x18
    have y12 := cell_later hB6 x12
    have y14 := cell_later hB6 x14
    have y15 := cell_later hB6 x15
    have z0 := cell_later hB6 p0
    have z1 := cell_later hB6 p1
    have z4 := cell_later hB6 p4
    have yb := cell_later hB6 xb
    have ya := cell_later hB6 xa
    clear x17 x18 x12 x14 x15 p0 p1 p2 p3 p4 xb xa r1 r6 HROW hB6 HB5
    cases hn : numS r o.op o.args.length o.kk o.c with
    | false =>
      refine ⟨rfl, .inr ⟨rfl, fun hh => ?_⟩, HB6.out⟩
      have hh1 := hh.parts.num
      rw [HBr.out, hn] at hh1
      cases hh1
    | true =>
      have HN := Lib.hid hn
      clear hn
      simp only [mustE, if_true]
      go_wp2_with fail
      refine wpAt_seq_p _ bodyPostP_panic (fun K hK => ?_)
      go_wp2_with fail
      go_loopw [44] (fun s44 wr => ∃ k : Nat, s44 = .int .i64 k ∧ k ≤ o.args.length ∧ Hid ((o.args.take k).all (fun s => madeS T.t.virts.length T.t.ins.length mk s at_) = true) ∧ Below w6.heap.size w6 wr)
        (fun s44 _ => o.args.length - (intOf s44).toNat)
      case atStart => exact ⟨0, rfl, Nat.zero_le _, rfl, Below.refl _ _⟩
      case round =>
        obtain ⟨k, rfl, hk, hal, hB⟩ := hrel
        by_cases hlt : k < o.args.length
        · obtain ⟨s, hs⟩ : ∃ s, o.args[k]? = some s := ⟨_, List.getElem?_eq_getElem hlt⟩
          obtain ⟨ba, oa, rfl, hba, e0, e1, e2, e3⟩ := src_get (RowAt.below HARGS.out.2.2.2 (HB6.out.trans (hB.mono HB6.out.size)) (fun _ _ h => h)) hs
          go_upto_region 8 with fail
          obtain ⟨W7, hW7⟩ : ∃ W7, wr.alloc (.cells #[.int .i64 s.k, .int .i64 s.vk, .int .i64 s.vn, .int .i64 s.n] 63) = W7 := ⟨_, rfl⟩
          have hB7 : Below w6.heap.size w6 W7 := by rw [← hW7]; exact below_alloc hB _
          have hb7 := heap_alloc_last wr (.cells #[.int .i64 s.k, .int .i64 s.vk, .int .i64 s.vn, .int .i64 s.n] 63)
          rw [hW7] at hb7 ⊢
          have t17 := cell_later hB7 y17
          have t18 := cell_later hB7 y18
          have t12 := cell_later hB7 y12
          have t15 := cell_later hB7 y15
          have tb := cell_later hB7 yb
          have ta := cell_later hB7 ya
          have f0 := cell_of_row W7 wr.heap.size 0 _ _ _ hb7
          have f1 := cell_of_row W7 wr.heap.size 1 _ _ _ hb7
          have f2 := cell_of_row W7 wr.heap.size 2 _ _ _ hb7
          have f3 := cell_of_row W7 wr.heap.size 3 _ _ _ hb7
          simp only [List.getElem?_toArray, List.getElem?_cons_zero, List.getElem?_cons_succ] at f0 f1 f2 f3
          have HS := Lib.hid hs
          have HBW : Hid (Below w.heap.size w W7) := HB6.out.trans (hB7.mono HB6.out.size)
          have HB7 := Lib.hid hB7
          have hmk := RowAt.below HM.out HBW.out (fun _ _ h => h)
          have HMK := Lib.hid hmk
          have hsn := (hI s (List.mem_of_getElem? hs)).2
          have hatI : (at_ : Int) ≤ mk.length := by omega
          clear hs hB hB7 hb7 hW7 e0 e1 e2 e3 hmk
          go_wp2_with (go_at_call 121; refine (made_any X T.i.A T.v.A Am T.t.ins.length T.i.c T.t.virts.length T.v.c cm at_ mk s at_ _ t12 t15 t17 t18 HMK.out hatI hnin hml hsn).mono ?_)
          rintro e w8 ⟨rfl, hB8⟩
          have HBn := Lib.hid (below_then HB7.out hB8)
          have hbw : Below w.heap.size w w8 := HBW.out.trans (hB8.mono HBW.out.size)
          have HBX := Lib.hid hbw
          clear hB8 hbw
          cases hmd : madeS T.t.virts.length T.t.ins.length mk s at_ with
          | false =>
            refine ⟨rfl, .inr ⟨rfl, fun hh => ?_⟩, HBX.out⟩
            have hh1 := hh.parts.args
            rw [all_no HS.out hmd] at hh1
            cases hh1
          | true =>
            have HMD := Lib.hid hmd
            clear hmd
            simp only [mustE, if_true]
            go_wp2_with fail
            go_roundw
            case rel =>
              refine ⟨k + 1, by go_num, by omega, ?_, HBn.out⟩
              show _ = _
              rw [all_take_succ HS.out, hal.out, HMD.out]
              rfl
            case measure => simp [intOf]; omega
        · have hkl : k = o.args.length := by omega
          subst hkl
          rw [List.take_length] at hal
          have HB := Lib.hid (HB6.out.trans (hB.mono HB6.out.size))
          have v17 := cell_later hB y17
          have v18 := cell_later hB y18
          have v12 := cell_later hB y12
          have v14 := cell_later hB y14
          have v15 := cell_later hB y15
          have v0 := cell_later hB z0
          have v1 := cell_later hB z1
          have v4 := cell_later hB z4
          have vb := cell_later hB yb
          have va := cell_later hB ya
          clear y17 y18 y12 y14 y15 z0 z1 z4 yb ya hB HB6
          go_wp2_with fail
          refine wpAt_seq_p _ bodyPostP_panic (fun K hK => ?_)
          (try simp only [Act.put, List.setIfInBounds_toArray, List.set_cons_zero, List.set_cons_succ])
          have HARG := Lib.hid (RowAt.below HARGS.out.2.2.2 HB.out (fun _ _ h => h))
          go_cut [] from 53 to 65 (fun wx => Hid ((o.op != 32 || (o.args.getD 1 ⟨0, 0, 0, 0⟩).k == 0) = true) ∧ Below wr.heap.size wr wx)
          case first =>
            by_cases hop : o.op = 32
            · have hrow := HBr.out
              rw [hop] at hrow v0
              have hra : r.args = 2 := by rw [← hrow, row32]
              have hc2 := hc1.out
              rw [hra] at hc2
              simp at hc2
              have hlen2 : o.args.length = 2 := by have := hc2.2; omega
              obtain ⟨s1, hs1⟩ : ∃ s1, o.args[1]? = some s1 := ⟨_, List.getElem?_eq_getElem (by omega)⟩
              obtain ⟨ba, oa, rfl, hba, e0, -, -, -⟩ := src_get HARG.out hs1
              rw [Nat.one_mul] at e0
              rw [hlen2] at v1
              have HO := Lib.hid hop
              have HS1 := Lib.hid hs1
              clear hop hs1 hrow hra hc2 hlen2
              refine drawn_begin (fun w' => Below wr.heap.size wr w' ∧ w'.cell? ⟨w.heap.size, 0, none⟩ = some (.pointer (some ⟨X, 0, none⟩)) ∧ w'.cell? ⟨bo, 0, none⟩ = some (.int .i64 32) ∧ w'.cell? ⟨bo, 1, none⟩ = some (.slice (some ⟨ba, oa, none⟩) 2 ca) ∧ w'.cell? ⟨ba, oa + 4, none⟩ = some (.int .i64 s1.k)) (fun c a d v w h => ?_) (by kernel_rfl) ?_ (fun hside hHeld => ?_)
              · (obtain ⟨h1, h2⟩ := h; exact And.intro (put_nil h1) h2)
              · exact ⟨below_drewN (Below.refl _ _) 1, vb, v0, v1, e0⟩
              refine wpAnyH_take (i := 0) (v := ?_) (op_at rfl) (by kernel_rfl) (by kernel_rfl) (by kernel_rfl) (fun _ _ _ h => hside _ _ _ _ _ h) (Or.inl ⟨by rfl, ?_⟩) (by assumption) ?_
              rotate_left
              · (intro w hSw; (try dsimp only at hSw); go_simp; all_goals with_reducible rfl)
              (try simp only [Act.put, List.setIfInBounds_toArray, List.set_cons_zero, List.set_cons_succ])
              refine wpAnyH_take (i := 1) (v := ?_) (op_at rfl) (by kernel_rfl) (by kernel_rfl) (by kernel_rfl) (fun _ _ _ h => hside _ _ _ _ _ h) (Or.inl ⟨by rfl, ?_⟩) (by assumption) ?_
              rotate_left
              · (intro w hSw; (try dsimp only at hSw); go_simp; all_goals with_reducible rfl)
              (try simp only [Act.put, List.setIfInBounds_toArray, List.set_cons_zero, List.set_cons_succ])
              refine wpAnyH_take (i := 2) (v := ?_) (op_at rfl) (by kernel_rfl) (by kernel_rfl) (by kernel_rfl) (fun _ _ _ h => hside _ _ _ _ _ h) (Or.inl ⟨by rfl, ?_⟩) (by assumption) ?_
              rotate_left
              · (intro w hSw; (try dsimp only at hSw); go_simp; all_goals with_reducible rfl)
              (try simp only [Act.put, List.setIfInBounds_toArray, List.set_cons_zero, List.set_cons_succ])
              refine wpAnyH_take (i := 3) (v := ?_) (op_at rfl) (by kernel_rfl) (by kernel_rfl) (by kernel_rfl) (fun _ _ _ h => hside _ _ _ _ _ h) (Or.inl ⟨by rfl, ?_⟩) (by assumption) ?_
              rotate_left
              · (intro w hSw; (try dsimp only at hSw); go_simp; all_goals with_reducible rfl)
              (try simp only [Act.put, List.setIfInBounds_toArray, List.set_cons_zero, List.set_cons_succ])
              refine wpAnyH_take (i := 4) (v := ?_) (op_at rfl) (by kernel_rfl) (by kernel_rfl) (by kernel_rfl) (fun _ _ _ h => hside _ _ _ _ _ h) (Or.inl ⟨by rfl, ?_⟩) (by assumption) ?_
              rotate_left
              · (intro w hSw; (try dsimp only at hSw); go_simp; all_goals with_reducible rfl)
              (try simp only [Act.put, List.setIfInBounds_toArray, List.set_cons_zero, List.set_cons_succ])
              refine wpAnyH_take (i := 5) (v := ?_) (op_at rfl) (by kernel_rfl) (by kernel_rfl) (by kernel_rfl) (fun _ _ _ h => hside _ _ _ _ _ h) (Or.inl ⟨by rfl, ?_⟩) (by assumption) ?_
              rotate_left
              · (intro w hSw; (try dsimp only at hSw); go_simp; all_goals with_reducible rfl)
              (try simp only [Act.put, List.setIfInBounds_toArray, List.set_cons_zero, List.set_cons_succ])
              refine wpAnyH_take (i := 6) (v := ?_) (op_at rfl) (by kernel_rfl) (by kernel_rfl) (by kernel_rfl) (fun _ _ _ h => hside _ _ _ _ _ h) (Or.inl ⟨by rfl, ?_⟩) (by assumption) ?_
              rotate_left
              · (intro w hSw; (try dsimp only at hSw); go_simp; all_goals with_reducible rfl)
              (try simp only [Act.put, List.setIfInBounds_toArray, List.set_cons_zero, List.set_cons_succ])
              refine wpAnyH_take (i := 7) (v := ?_) (op_at rfl) (by kernel_rfl) (by kernel_rfl) (by kernel_rfl) (fun _ _ _ h => hside _ _ _ _ _ h) (Or.inl ⟨by rfl, ?_⟩) (by assumption) ?_
              rotate_left
              · (intro w hSw; (try dsimp only at hSw); go_simp; all_goals with_reducible rfl)
              (try simp only [Act.put, List.setIfInBounds_toArray, List.set_cons_zero, List.set_cons_succ])
              refine wpAnyH_take (i := 8) (v := ?_) (op_at rfl) (by kernel_rfl) (by kernel_rfl) (by kernel_rfl) (fun _ _ _ h => hside _ _ _ _ _ h) (Or.inl ⟨by rfl, ?_⟩) (by assumption) ?_
              rotate_left
              · (intro w hSw; (try dsimp only at hSw); go_simp; all_goals with_reducible rfl)
              (try simp only [Act.put, List.setIfInBounds_toArray, List.set_cons_zero, List.set_cons_succ])
              refine wpAnyH_take (i := 9) (v := ?_) (op_at rfl) (by kernel_rfl) (by kernel_rfl) (by kernel_rfl) (fun _ _ _ h => hside _ _ _ _ _ h) (Or.inl ⟨by rfl, ?_⟩) (by assumption) ?_
              rotate_left
              · (intro w hSw; (try dsimp only at hSw); go_simp; all_goals with_reducible rfl)
              (try simp only [Act.put, List.setIfInBounds_toArray, List.set_cons_zero, List.set_cons_succ])
              refine wpAnyH_take (i := 10) (v := ?_) (op_at rfl) (by kernel_rfl) (by kernel_rfl) (by kernel_rfl) (fun _ _ _ h => hside _ _ _ _ _ h) (Or.inl ⟨by rfl, ?_⟩) (by assumption) ?_
              rotate_left
              · (intro w hSw; (try dsimp only at hSw); go_simp; all_goals with_reducible rfl)
              (try simp only [Act.put, List.setIfInBounds_toArray, List.set_cons_zero, List.set_cons_succ])
              refine wpAnyH_take (i := 11) (v := ?_) (op_at rfl) (by kernel_rfl) (by kernel_rfl) (by kernel_rfl) (fun _ _ _ h => hside _ _ _ _ _ h) (Or.inl ⟨by rfl, ?_⟩) (by assumption) ?_
              rotate_left
              · (intro w hSw; (try dsimp only at hSw); go_simp; all_goals with_reducible rfl)
              (try simp only [Act.put, List.setIfInBounds_toArray, List.set_cons_zero, List.set_cons_succ])
              refine wpAnyH_ready (rs := [12]) (by kernel_rfl) (by simp) (AllReadyH.cons (op_at rfl) (fun Kr hK => ?_) AllReadyH.nil)
              go_simp
              refine calls_must (cell_later hHeld.1 v17) (fun hok => ?_) (fun hok => ?_)
              · refine hK.out _ _ ?_ (fun hHeld => ?_)
                · exact hHeld
                clear hK
                (try simp only [Act.put, List.setIfInBounds_toArray, List.set_cons_zero, List.set_cons_succ])
                refine wpAnyH_done (by kernel_rfl) ?_ _
                go_wp2_with fail
                go_meet
                refine ⟨?_, hHeld.1⟩
                show _ = true
                rw [List.getD_eq_getElem?_getD, HS1.out]
                simpa using Or.inr hok
              · refine ⟨rfl, .inr ⟨rfl, fun hh => ?_⟩, HB.out.trans (hHeld.1.mono HB.out.size)⟩
                have hh1 := hh.parts.konst
                rw [List.getD_eq_getElem?_getD, HS1.out, HO.out] at hh1
                simp at hh1 hok
                exact hok hh1
            · have hop1 : (o.op == 32) = false := by simpa using hop
              have hop2 : (o.op != 32) = true := by simpa using hop
              have hop3 : decide (o.op = 32) = false := by simpa using hop
              refine drawn_begin (fun w' => Below wr.heap.size wr w' ∧ w'.cell? ⟨w.heap.size, 0, none⟩ = some (.pointer (some ⟨X, 0, none⟩)) ∧ w'.cell? ⟨bo, 0, none⟩ = some (.int .i64 o.op)) (fun c a d v w h => ?_) (by kernel_rfl) ?_ (fun hside hHeld => ?_)
              · (obtain ⟨h1, h2⟩ := h; exact And.intro (put_nil h1) h2)
              · exact ⟨below_drewN (Below.refl _ _) 1, vb, v0⟩
              refine wpAnyH_take (i := 0) (v := ?_) (op_at rfl) (by kernel_rfl) (by kernel_rfl) (by kernel_rfl) (fun _ _ _ h => hside _ _ _ _ _ h) (Or.inl ⟨by rfl, ?_⟩) (by assumption) ?_
              rotate_left
              · (intro w hSw; (try dsimp only at hSw); go_simp; all_goals with_reducible rfl)
              (try simp only [Act.put, List.setIfInBounds_toArray, List.set_cons_zero, List.set_cons_succ])
              refine wpAnyH_take (i := 1) (v := ?_) (op_at rfl) (by kernel_rfl) (by kernel_rfl) (by kernel_rfl) (fun _ _ _ h => hside _ _ _ _ _ h) (Or.inl ⟨by rfl, ?_⟩) (by assumption) ?_
              rotate_left
              · (intro w hSw; (try dsimp only at hSw); go_simp; all_goals with_reducible rfl)
              (try simp only [Act.put, List.setIfInBounds_toArray, List.set_cons_zero, List.set_cons_succ])
              refine wpAnyH_take (i := 2) (v := ?_) (op_at rfl) (by kernel_rfl) (by kernel_rfl) (by kernel_rfl) (fun _ _ _ h => hside _ _ _ _ _ h) (Or.inl ⟨by rfl, ?_⟩) (by assumption) ?_
              rotate_left
              · (intro w hSw; (try dsimp only at hSw); go_simp; all_goals with_reducible rfl)
              (try simp only [Act.put, List.setIfInBounds_toArray, List.set_cons_zero, List.set_cons_succ])
              refine wpAnyH_take (i := 3) (v := ?_) (op_at rfl) (by kernel_rfl) (by kernel_rfl) (by kernel_rfl) (fun _ _ _ h => hside _ _ _ _ _ h) (Or.inl ⟨by rfl, ?_⟩) (by assumption) ?_
              rotate_left
              · (intro w hSw; (try dsimp only at hSw); go_simp; all_goals with_reducible rfl)
              (try simp only [Act.put, List.setIfInBounds_toArray, List.set_cons_zero, List.set_cons_succ])
              refine wpAnyH_take (i := 4) (v := ?_) (op_at rfl) (by kernel_rfl) (by kernel_rfl) (by kernel_rfl) (fun _ _ _ h => hside _ _ _ _ _ h) (Or.inl ⟨by rfl, ?_⟩) (by assumption) ?_
              rotate_left
              · (intro w hSw; (try dsimp only at hSw); go_simp; all_goals with_reducible rfl)
              (try simp only [Act.put, List.setIfInBounds_toArray, List.set_cons_zero, List.set_cons_succ])
              refine wpAnyH_take (i := 5) (v := undef) (op_at rfl) (by kernel_rfl) (by kernel_rfl) (by kernel_rfl) (fun _ _ _ h => hside _ _ _ _ _ h) (Or.inr ⟨by rfl, rfl⟩) (by assumption) ?_
              (try simp only [Act.put, List.setIfInBounds_toArray, List.set_cons_zero, List.set_cons_succ])
              refine wpAnyH_take (i := 6) (v := undef) (op_at rfl) (by kernel_rfl) (by kernel_rfl) (by kernel_rfl) (fun _ _ _ h => hside _ _ _ _ _ h) (Or.inr ⟨by rfl, rfl⟩) (by assumption) ?_
              (try simp only [Act.put, List.setIfInBounds_toArray, List.set_cons_zero, List.set_cons_succ])
              refine wpAnyH_take (i := 7) (v := undef) (op_at rfl) (by kernel_rfl) (by kernel_rfl) (by kernel_rfl) (fun _ _ _ h => hside _ _ _ _ _ h) (Or.inr ⟨by rfl, rfl⟩) (by assumption) ?_
              (try simp only [Act.put, List.setIfInBounds_toArray, List.set_cons_zero, List.set_cons_succ])
              refine wpAnyH_take (i := 8) (v := undef) (op_at rfl) (by kernel_rfl) (by kernel_rfl) (by kernel_rfl) (fun _ _ _ h => hside _ _ _ _ _ h) (Or.inr ⟨by rfl, rfl⟩) (by assumption) ?_
              (try simp only [Act.put, List.setIfInBounds_toArray, List.set_cons_zero, List.set_cons_succ])
              refine wpAnyH_take (i := 9) (v := undef) (op_at rfl) (by kernel_rfl) (by kernel_rfl) (by kernel_rfl) (fun _ _ _ h => hside _ _ _ _ _ h) (Or.inr ⟨by rfl, rfl⟩) (by assumption) ?_
              (try simp only [Act.put, List.setIfInBounds_toArray, List.set_cons_zero, List.set_cons_succ])
              refine wpAnyH_take (i := 10) (v := undef) (op_at rfl) (by kernel_rfl) (by kernel_rfl) (by kernel_rfl) (fun _ _ _ h => hside _ _ _ _ _ h) (Or.inr ⟨by rfl, rfl⟩) (by assumption) ?_
              (try simp only [Act.put, List.setIfInBounds_toArray, List.set_cons_zero, List.set_cons_succ])
              refine wpAnyH_take (i := 11) (v := ?_) (op_at rfl) (by kernel_rfl) (by kernel_rfl) (by kernel_rfl) (fun _ _ _ h => hside _ _ _ _ _ h) (Or.inl ⟨by rfl, ?_⟩) (by assumption) ?_
              rotate_left
              · (intro w hSw; (try dsimp only at hSw); go_simp; all_goals with_reducible rfl)
              (try simp only [Act.put, List.setIfInBounds_toArray, List.set_cons_zero, List.set_cons_succ])
              refine wpAnyH_ready (rs := [12]) (by kernel_rfl) (by simp) (AllReadyH.cons (op_at rfl) (fun Kr hK => ?_) AllReadyH.nil)
              go_simp
              refine calls_must (cell_later hHeld.1 v17) (fun hok => ?_) (fun hok => ?_)
              · refine hK.out _ _ ?_ (fun hHeld => ?_)
                · exact hHeld
                clear hK
                (try simp only [Act.put, List.setIfInBounds_toArray, List.set_cons_zero, List.set_cons_succ])
                refine wpAnyH_done (by kernel_rfl) ?_ _
                go_wp2_with fail
                go_meet
                refine ⟨?_, hHeld.1⟩
                show _ = true
                simp [hop]
              · cases hok
          case rest =>
            obtain ⟨hc3, hBc⟩ := hcut
            apply hK
            clear hK K
            have u17 := cell_later hBc v17
            have u14 := cell_later hBc v14
            have u4 := cell_later hBc v4
            have ub := cell_later hBc vb
            have ua := cell_later hBc va
            have u12 := cell_later hBc v12
            have u15 := cell_later hBc v15
            have u18 := cell_later hBc v18
            have HBc := Lib.hid (HB.out.trans (hBc.mono HB.out.size))
            clear v17 v14 v4 vb va v12 v15 v18 v0 v1 hBc HB HARG
            refine wpAt_seq_p _ bodyPostP_panic (fun K hK => ?_)
            (try simp only [Act.put, List.setIfInBounds_toArray, List.set_cons_zero, List.set_cons_succ])
            obtain ⟨b0, hb0⟩ : ∃ b0, decide (-1 ≤ o.snap) = b0 := ⟨_, rfl⟩
            cases b0
            · refine drawn_begin (fun w' => Below wc.heap.size wc w' ∧ w'.cell? ⟨w.heap.size, 0, none⟩ = some (.pointer (some ⟨X, 0, none⟩)) ∧ w'.cell? ⟨bo, 4, none⟩ = some (.int .i64 o.snap) ∧ w'.cell? ⟨X, 14, none⟩ = some (.slice T.l.A T.t.links.length T.l.c)) (fun c a d v w h => ?_) (by kernel_rfl) ?_ (fun hside hHeld => ?_)
              · (obtain ⟨h1, h2⟩ := h; exact And.intro (put_nil h1) h2)
              · exact ⟨below_drewN (Below.refl _ _) 1, ub, u4, u14⟩
              refine wpAnyH_take (i := 0) (v := ?_) (op_at rfl) (by kernel_rfl) (by kernel_rfl) (by kernel_rfl) (fun _ _ _ h => hside _ _ _ _ _ h) (Or.inl ⟨by rfl, ?_⟩) (by assumption) ?_
              rotate_left
              · (intro w hSw; (try dsimp only at hSw); go_simp; all_goals with_reducible rfl)
              (try simp only [Act.put, List.setIfInBounds_toArray, List.set_cons_zero, List.set_cons_succ])
              refine wpAnyH_take (i := 1) (v := ?_) (op_at rfl) (by kernel_rfl) (by kernel_rfl) (by kernel_rfl) (fun _ _ _ h => hside _ _ _ _ _ h) (Or.inl ⟨by rfl, ?_⟩) (by assumption) ?_
              rotate_left
              · (intro w hSw; (try dsimp only at hSw); go_simp; all_goals with_reducible rfl)
              (try simp only [Act.put, List.setIfInBounds_toArray, List.set_cons_zero, List.set_cons_succ])
              refine wpAnyH_take (i := 2) (v := ?_) (op_at rfl) (by kernel_rfl) (by kernel_rfl) (by kernel_rfl) (fun _ _ _ h => hside _ _ _ _ _ h) (Or.inl ⟨by rfl, ?_⟩) (by assumption) ?_
              rotate_left
              · (intro w hSw; (try dsimp only at hSw); go_simp; all_goals with_reducible rfl)
              (try simp only [Act.put, List.setIfInBounds_toArray, List.set_cons_zero, List.set_cons_succ])
              refine wpAnyH_take (i := 3) (v := ?_) (op_at rfl) (by kernel_rfl) (by kernel_rfl) (by kernel_rfl) (fun _ _ _ h => hside _ _ _ _ _ h) (Or.inl ⟨by rfl, ?_⟩) (by assumption) ?_
              rotate_left
              · (intro w hSw; (try dsimp only at hSw); go_simp; all_goals with_reducible rfl)
              (try simp only [Act.put, List.setIfInBounds_toArray, List.set_cons_zero, List.set_cons_succ])
              refine wpAnyH_take (i := 4) (v := ?_) (op_at rfl) (by kernel_rfl) (by kernel_rfl) (by kernel_rfl) (fun _ _ _ h => hside _ _ _ _ _ h) (Or.inl ⟨by rfl, ?_⟩) (by assumption) ?_
              rotate_left
              · (intro w hSw; (try dsimp only at hSw); go_simp; all_goals with_reducible rfl)
              (try simp only [Act.put, List.setIfInBounds_toArray, List.set_cons_zero, List.set_cons_succ])
              refine wpAnyH_take (i := 5) (v := undef) (op_at rfl) (by kernel_rfl) (by kernel_rfl) (by kernel_rfl) (fun _ _ _ h => hside _ _ _ _ _ h) (Or.inr ⟨by rfl, rfl⟩) (by assumption) ?_
              (try simp only [Act.put, List.setIfInBounds_toArray, List.set_cons_zero, List.set_cons_succ])
              refine wpAnyH_take (i := 6) (v := undef) (op_at rfl) (by kernel_rfl) (by kernel_rfl) (by kernel_rfl) (fun _ _ _ h => hside _ _ _ _ _ h) (Or.inr ⟨by rfl, rfl⟩) (by assumption) ?_
              (try simp only [Act.put, List.setIfInBounds_toArray, List.set_cons_zero, List.set_cons_succ])
              refine wpAnyH_take (i := 7) (v := undef) (op_at rfl) (by kernel_rfl) (by kernel_rfl) (by kernel_rfl) (fun _ _ _ h => hside _ _ _ _ _ h) (Or.inr ⟨by rfl, rfl⟩) (by assumption) ?_
              (try simp only [Act.put, List.setIfInBounds_toArray, List.set_cons_zero, List.set_cons_succ])
              refine wpAnyH_take (i := 8) (v := undef) (op_at rfl) (by kernel_rfl) (by kernel_rfl) (by kernel_rfl) (fun _ _ _ h => hside _ _ _ _ _ h) (Or.inr ⟨by rfl, rfl⟩) (by assumption) ?_
              (try simp only [Act.put, List.setIfInBounds_toArray, List.set_cons_zero, List.set_cons_succ])
              refine wpAnyH_take (i := 9) (v := undef) (op_at rfl) (by kernel_rfl) (by kernel_rfl) (by kernel_rfl) (fun _ _ _ h => hside _ _ _ _ _ h) (Or.inr ⟨by rfl, rfl⟩) (by assumption) ?_
              (try simp only [Act.put, List.setIfInBounds_toArray, List.set_cons_zero, List.set_cons_succ])
              refine wpAnyH_take (i := 10) (v := undef) (op_at rfl) (by kernel_rfl) (by kernel_rfl) (by kernel_rfl) (fun _ _ _ h => hside _ _ _ _ _ h) (Or.inr ⟨by rfl, rfl⟩) (by assumption) ?_
              (try simp only [Act.put, List.setIfInBounds_toArray, List.set_cons_zero, List.set_cons_succ])
              refine wpAnyH_take (i := 11) (v := undef) (op_at rfl) (by kernel_rfl) (by kernel_rfl) (by kernel_rfl) (fun _ _ _ h => hside _ _ _ _ _ h) (Or.inr ⟨by rfl, rfl⟩) (by assumption) ?_
              (try simp only [Act.put, List.setIfInBounds_toArray, List.set_cons_zero, List.set_cons_succ])
              refine wpAnyH_take (i := 12) (v := undef) (op_at rfl) (by kernel_rfl) (by kernel_rfl) (by kernel_rfl) (fun _ _ _ h => hside _ _ _ _ _ h) (Or.inr ⟨by rfl, rfl⟩) (by assumption) ?_
              (try simp only [Act.put, List.setIfInBounds_toArray, List.set_cons_zero, List.set_cons_succ])
              refine wpAnyH_take (i := 13) (v := undef) (op_at rfl) (by kernel_rfl) (by kernel_rfl) (by kernel_rfl) (fun _ _ _ h => hside _ _ _ _ _ h) (Or.inr ⟨by rfl, rfl⟩) (by assumption) ?_
              (try simp only [Act.put, List.setIfInBounds_toArray, List.set_cons_zero, List.set_cons_succ])
              refine wpAnyH_take (i := 14) (v := ?_) (op_at rfl) (by kernel_rfl) (by kernel_rfl) (by kernel_rfl) (fun _ _ _ h => hside _ _ _ _ _ h) (Or.inl ⟨by rfl, ?_⟩) (by assumption) ?_
              rotate_left
              · (intro w hSw; (try dsimp only at hSw); go_simp; all_goals with_reducible rfl)
              (try simp only [Act.put, List.setIfInBounds_toArray, List.set_cons_zero, List.set_cons_succ])
              refine wpAnyH_ready (rs := [15]) (by kernel_rfl) (by simp) (AllReadyH.cons (op_at rfl) (fun Kr hK => ?_) AllReadyH.nil)
              go_simp
              refine calls_must (cell_later hHeld.1 u17) (fun hok => ?_) (fun hok => ?_)
              · cases hok
              · refine ⟨rfl, .inr ⟨rfl, fun hh => ?_⟩, HBc.out.trans (hHeld.1.mono HBc.out.size)⟩
                have hh1 := hh.parts.low
                rw [hb0] at hh1
                cases hh1
            · refine drawn_begin (fun w' => Below wc.heap.size wc w' ∧ w'.cell? ⟨w.heap.size, 0, none⟩ = some (.pointer (some ⟨X, 0, none⟩)) ∧ w'.cell? ⟨bo, 4, none⟩ = some (.int .i64 o.snap) ∧ w'.cell? ⟨X, 14, none⟩ = some (.slice T.l.A T.t.links.length T.l.c)) (fun c a d v w h => ?_) (by kernel_rfl) ?_ (fun hside hHeld => ?_)
              · (obtain ⟨h1, h2⟩ := h; exact And.intro (put_nil h1) h2)
              · exact ⟨below_drewN (Below.refl _ _) 1, ub, u4, u14⟩
              refine wpAnyH_take (i := 0) (v := ?_) (op_at rfl) (by kernel_rfl) (by kernel_rfl) (by kernel_rfl) (fun _ _ _ h => hside _ _ _ _ _ h) (Or.inl ⟨by rfl, ?_⟩) (by assumption) ?_
              rotate_left
              · (intro w hSw; (try dsimp only at hSw); go_simp; all_goals with_reducible rfl)
              (try simp only [Act.put, List.setIfInBounds_toArray, List.set_cons_zero, List.set_cons_succ])
              refine wpAnyH_take (i := 1) (v := ?_) (op_at rfl) (by kernel_rfl) (by kernel_rfl) (by kernel_rfl) (fun _ _ _ h => hside _ _ _ _ _ h) (Or.inl ⟨by rfl, ?_⟩) (by assumption) ?_
              rotate_left
              · (intro w hSw; (try dsimp only at hSw); go_simp; all_goals with_reducible rfl)
              (try simp only [Act.put, List.setIfInBounds_toArray, List.set_cons_zero, List.set_cons_succ])
              refine wpAnyH_take (i := 2) (v := ?_) (op_at rfl) (by kernel_rfl) (by kernel_rfl) (by kernel_rfl) (fun _ _ _ h => hside _ _ _ _ _ h) (Or.inl ⟨by rfl, ?_⟩) (by assumption) ?_
              rotate_left
              · (intro w hSw; (try dsimp only at hSw); go_simp; all_goals with_reducible rfl)
              (try simp only [Act.put, List.setIfInBounds_toArray, List.set_cons_zero, List.set_cons_succ])
              refine wpAnyH_take (i := 3) (v := ?_) (op_at rfl) (by kernel_rfl) (by kernel_rfl) (by kernel_rfl) (fun _ _ _ h => hside _ _ _ _ _ h) (Or.inl ⟨by rfl, ?_⟩) (by assumption) ?_
              rotate_left
              · (intro w hSw; (try dsimp only at hSw); go_simp; all_goals with_reducible rfl)
              (try simp only [Act.put, List.setIfInBounds_toArray, List.set_cons_zero, List.set_cons_succ])
              refine wpAnyH_take (i := 4) (v := ?_) (op_at rfl) (by kernel_rfl) (by kernel_rfl) (by kernel_rfl) (fun _ _ _ h => hside _ _ _ _ _ h) (Or.inl ⟨by rfl, ?_⟩) (by assumption) ?_
              rotate_left
              · (intro w hSw; (try dsimp only at hSw); go_simp; all_goals with_reducible rfl)
              (try simp only [Act.put, List.setIfInBounds_toArray, List.set_cons_zero, List.set_cons_succ])
              refine wpAnyH_take (i := 5) (v := ?_) (op_at rfl) (by kernel_rfl) (by kernel_rfl) (by kernel_rfl) (fun _ _ _ h => hside _ _ _ _ _ h) (Or.inl ⟨by rfl, ?_⟩) (by assumption) ?_
              rotate_left
              · (intro w hSw; (try dsimp only at hSw); go_simp; all_goals with_reducible rfl)
              (try simp only [Act.put, List.setIfInBounds_toArray, List.set_cons_zero, List.set_cons_succ])
              refine wpAnyH_take (i := 6) (v := ?_) (op_at rfl) (by kernel_rfl) (by kernel_rfl) (by kernel_rfl) (fun _ _ _ h => hside _ _ _ _ _ h) (Or.inl ⟨by rfl, ?_⟩) (by assumption) ?_
              rotate_left
              · (intro w hSw; (try dsimp only at hSw); go_simp; all_goals with_reducible rfl)
              (try simp only [Act.put, List.setIfInBounds_toArray, List.set_cons_zero, List.set_cons_succ])
              refine wpAnyH_take (i := 7) (v := ?_) (op_at rfl) (by kernel_rfl) (by kernel_rfl) (by kernel_rfl) (fun _ _ _ h => hside _ _ _ _ _ h) (Or.inl ⟨by rfl, ?_⟩) (by assumption) ?_
              rotate_left
              · (intro w hSw; (try dsimp only at hSw); go_simp; all_goals with_reducible rfl)
              (try simp only [Act.put, List.setIfInBounds_toArray, List.set_cons_zero, List.set_cons_succ])
              refine wpAnyH_take (i := 8) (v := ?_) (op_at rfl) (by kernel_rfl) (by kernel_rfl) (by kernel_rfl) (fun _ _ _ h => hside _ _ _ _ _ h) (Or.inl ⟨by rfl, ?_⟩) (by assumption) ?_
              rotate_left
              · (intro w hSw; (try dsimp only at hSw); go_simp; all_goals with_reducible rfl)
              (try simp only [Act.put, List.setIfInBounds_toArray, List.set_cons_zero, List.set_cons_succ])
              refine wpAnyH_take (i := 9) (v := ?_) (op_at rfl) (by kernel_rfl) (by kernel_rfl) (by kernel_rfl) (fun _ _ _ h => hside _ _ _ _ _ h) (Or.inl ⟨by rfl, ?_⟩) (by assumption) ?_
              rotate_left
              · (intro w hSw; (try dsimp only at hSw); go_simp; all_goals with_reducible rfl)
              (try simp only [Act.put, List.setIfInBounds_toArray, List.set_cons_zero, List.set_cons_succ])
              refine wpAnyH_take (i := 10) (v := ?_) (op_at rfl) (by kernel_rfl) (by kernel_rfl) (by kernel_rfl) (fun _ _ _ h => hside _ _ _ _ _ h) (Or.inl ⟨by rfl, ?_⟩) (by assumption) ?_
              rotate_left
              · (intro w hSw; (try dsimp only at hSw); go_simp; all_goals with_reducible rfl)
              (try simp only [Act.put, List.setIfInBounds_toArray, List.set_cons_zero, List.set_cons_succ])
              refine wpAnyH_take (i := 11) (v := ?_) (op_at rfl) (by kernel_rfl) (by kernel_rfl) (by kernel_rfl) (fun _ _ _ h => hside _ _ _ _ _ h) (Or.inl ⟨by rfl, ?_⟩) (by assumption) ?_
              rotate_left
              · (intro w hSw; (try dsimp only at hSw); go_simp; all_goals with_reducible rfl)
              (try simp only [Act.put, List.setIfInBounds_toArray, List.set_cons_zero, List.set_cons_succ])
              refine wpAnyH_take (i := 12) (v := ?_) (op_at rfl) (by kernel_rfl) (by kernel_rfl) (by kernel_rfl) (fun _ _ _ h => hside _ _ _ _ _ h) (Or.inl ⟨by rfl, ?_⟩) (by assumption) ?_
              rotate_left
              · (intro w hSw; (try dsimp only at hSw); go_simp; all_goals with_reducible rfl)
              (try simp only [Act.put, List.setIfInBounds_toArray, List.set_cons_zero, List.set_cons_succ])
              refine wpAnyH_take (i := 13) (v := ?_) (op_at rfl) (by kernel_rfl) (by kernel_rfl) (by kernel_rfl) (fun _ _ _ h => hside _ _ _ _ _ h) (Or.inl ⟨by rfl, ?_⟩) (by assumption) ?_
              rotate_left
              · (intro w hSw; (try dsimp only at hSw); go_simp; all_goals with_reducible rfl)
              (try simp only [Act.put, List.setIfInBounds_toArray, List.set_cons_zero, List.set_cons_succ])
              refine wpAnyH_take (i := 14) (v := ?_) (op_at rfl) (by kernel_rfl) (by kernel_rfl) (by kernel_rfl) (fun _ _ _ h => hside _ _ _ _ _ h) (Or.inl ⟨by rfl, ?_⟩) (by assumption) ?_
              rotate_left
              · (intro w hSw; (try dsimp only at hSw); go_simp; all_goals with_reducible rfl)
              (try simp only [Act.put, List.setIfInBounds_toArray, List.set_cons_zero, List.set_cons_succ])
              refine wpAnyH_ready (rs := [15]) (by kernel_rfl) (by simp) (AllReadyH.cons (op_at rfl) (fun Kr hK => ?_) AllReadyH.nil)
              go_simp
              refine calls_must (cell_later hHeld.1 u17) (fun hok => ?_) (fun hok => ?_)
              rotate_left
              · refine ⟨rfl, .inr ⟨rfl, fun hh => ?_⟩, HBc.out.trans (hHeld.1.mono HBc.out.size)⟩
                have hh1 := hh.parts.high
                rw [hok] at hh1
                cases hh1
              · refine hK.out _ _ ?_ (fun hHeld => ?_)
                · exact hHeld
                clear hK
                (try simp only [Act.put, List.setIfInBounds_toArray, List.set_cons_zero, List.set_cons_succ])
                refine wpAnyH_done (by kernel_rfl) ?_ _
                have HSN := Lib.hid hok
                have HLOW := Lib.hid hb0
                have HB9 := Lib.hid (HBc.out.trans (hHeld.1.mono HBc.out.size))
                obtain ⟨W9, hW9⟩ : ∃ W9, wc.drew = W9 := ⟨_, rfl⟩
                show K _ _
                apply hK
                rw [hW9]
                have hBd : Below wc.heap.size wc W9 := by rw [← hW9]; exact below_drewN (Below.refl _ _) 1
                have s17 := cell_later hBd u17
                have s18 := cell_later hBd u18
                have s12 := cell_later hBd u12
                have s15 := cell_later hBd u15
                have s4 := cell_later hBd u4
                have sb := cell_later hBd ub
                have sa := cell_later hBd ua
                rw [hW9] at HB9
                have HX9 := Lib.hid (HX.out.below HB9.out)
                clear hHeld hside hK K hok hBd hW9 u17 u18 u12 u15 u4 ub ua u14 hb0 HBc
                refine wpAt_seq_p _ bodyPostP_panic (fun K hK => ?_)
                (try simp only [Act.put, List.setIfInBounds_toArray, List.set_cons_zero, List.set_cons_succ])
                refine drawn_begin (fun w' => Below W9.heap.size W9 w' ∧ w'.cell? ⟨w.heap.size, 0, none⟩ = some (.pointer (some ⟨X, 0, none⟩)) ∧ w'.cell? ⟨bo, 4, none⟩ = some (.int .i64 o.snap) ∧ Hid (At w' X 0 T.cells)) (fun c a d v w h => ?_) (by kernel_rfl) ?_ (fun hside hHeld => ?_)
                · (obtain ⟨h1, h2⟩ := h; exact And.intro (put_nil h1) h2)
                · exact ⟨below_drewN (Below.refl _ _) 1, sb, s4, HX9.out⟩
                refine wpAnyH_take (i := 0) (v := ?_) (op_at rfl) (by kernel_rfl) (by kernel_rfl) (by kernel_rfl) (fun _ _ _ h => hside _ _ _ _ _ h) (Or.inl ⟨by rfl, ?_⟩) (by assumption) ?_
                rotate_left
                · (intro w hSw; (try dsimp only at hSw); go_simp; all_goals with_reducible rfl)
                (try simp only [Act.put, List.setIfInBounds_toArray, List.set_cons_zero, List.set_cons_succ])
                refine wpAnyH_take (i := 1) (v := ?_) (op_at rfl) (by kernel_rfl) (by kernel_rfl) (by kernel_rfl) (fun _ _ _ h => hside _ _ _ _ _ h) (Or.inl ⟨by rfl, ?_⟩) (by assumption) ?_
                rotate_left
                · (intro w hSw; (try dsimp only at hSw); go_simp; all_goals with_reducible rfl)
                (try simp only [Act.put, List.setIfInBounds_toArray, List.set_cons_zero, List.set_cons_succ])
                refine wpAnyH_take (i := 2) (v := ?_) (op_at rfl) (by kernel_rfl) (by kernel_rfl) (by kernel_rfl) (fun _ _ _ h => hside _ _ _ _ _ h) (Or.inl ⟨by rfl, ?_⟩) (by assumption) ?_
                rotate_left
                · (intro w hSw; (try dsimp only at hSw); go_simp; all_goals with_reducible rfl)
                (try simp only [Act.put, List.setIfInBounds_toArray, List.set_cons_zero, List.set_cons_succ])
                refine wpAnyH_take (i := 3) (v := (.agg T.cells.toArray)) (op_at rfl) (by kernel_rfl) (by kernel_rfl) (by kernel_rfl) (fun _ _ _ h => hside _ _ _ _ _ h) (Or.inl ⟨by rfl, ?_⟩) (by assumption) ?_
                · (intro w hSw; exact exec_load_at 33 _ rfl X rfl T.cells _ hSw.2.2.2.out Try.underlying33 rfl info33)
                (try simp only [Act.put, List.setIfInBounds_toArray, List.set_cons_zero, List.set_cons_succ])
                refine wpAnyH_take (i := 4) (v := ?_) (op_at rfl) (by kernel_rfl) (by kernel_rfl) (by kernel_rfl) (fun _ _ _ h => hside _ _ _ _ _ h) (Or.inl ⟨by rfl, ?_⟩) (by assumption) ?_
                rotate_left
                · (intro w hSw; (try dsimp only at hSw); go_simp; all_goals with_reducible rfl)
                (try simp only [Act.put, List.setIfInBounds_toArray, List.set_cons_zero, List.set_cons_succ])
                refine wpAnyH_take (i := 5) (v := ?_) (op_at rfl) (by kernel_rfl) (by kernel_rfl) (by kernel_rfl) (fun _ _ _ h => hside _ _ _ _ _ h) (Or.inl ⟨by rfl, ?_⟩) (by assumption) ?_
                rotate_left
                · (intro w hSw; (try dsimp only at hSw); go_simp; all_goals with_reducible rfl)
                (try simp only [Act.put, List.setIfInBounds_toArray, List.set_cons_zero, List.set_cons_succ])
                refine wpAnyH_ready (rs := [6]) (by kernel_rfl) (by simp) (AllReadyH.cons (op_at rfl) (fun Kr hK => ?_) AllReadyH.nil)
                go_simp
                refine (taken_any T o.snap _).mono ?_
                rintro e w10 ⟨rfl, hw10⟩
                obtain ⟨bt, hbt⟩ : ∃ bt, W9.heap.size = bt := ⟨_, rfl⟩
                have hB10 : Below W9.heap.size W9 w10 := by rw [hw10]; exact below_alloc (below_alloc (below_drewN (Below.refl _ _) 1) _) _
                refine hK.out _ _ ?_ (fun hHeld => ?_)
                · exact ⟨hB10, cell_later hB10 sb, cell_later hB10 s4, HX9.out.below hB10⟩
                clear hK
                (try simp only [Act.put, List.setIfInBounds_toArray, List.set_cons_zero, List.set_cons_succ])
                refine wpAnyH_done (by kernel_rfl) ?_ _
                show K _ _
                apply hK
                have hbt1 : w10.heap[bt]? = some (.cells T.cells.toArray 33 (0, 0)) := by
                  rw [hw10, Below.heap_alloc _ _ _ (by rw [← hbt]; simp), ← hbt]
                  exact heap_alloc_last W9.drew _
                have hbn1 : w10.cell? ⟨bt + 1, 0, none⟩ = some (.int .i64 o.snap) := by
                  have h1 := heap_alloc_last (W9.drew.alloc (.cells T.cells.toArray 33)) (.cells #[.int .i64 o.snap] 3)
                  rw [← hw10, World.size_alloc, show W9.drew.heap.size = bt from hbt] at h1
                  rw [cell_of_row w10 _ 0 _ _ _ h1]
                  rfl
                have hsz10 : w10.heap.size = bt + 2 := by rw [hw10, World.size_alloc, World.size_alloc, show W9.drew.heap.size = bt from hbt]
                have hlow := by have := HSN.out; exact of_decide_eq_true this
                have hT9 := HT.out.below HB9.out
                have n17 := cell_later hB10 s17
                have n18 := cell_later hB10 s18
                have n12 := cell_later hB10 s12
                have n15 := cell_later hB10 s15
                have nb := cell_later hB10 sb
                have na := cell_later hB10 sa
                have HBA := Lib.hid (HB9.out.trans (hB10.mono HB9.out.size))
                have hw10s : w.heap.size ≤ w10.heap.size := HBA.out.size
                have HM10 := Lib.hid (RowAt.below HM.out HBA.out (fun _ _ h => h))
                have hatI : (at_ : Int) ≤ mk.length := by omega
                rw [show W9.drew.heap.size = bt from hbt]
                refine wpAt_block ?_
                refine wpAt_rangeSrc (gf := 115) (lb := #[.pointer (some ⟨bt, 0, none⟩), .pointer (some ⟨bt + 1, 0, none⟩)]) (pb := 8) (MB := fun k q => k = w10.heap.size + 1 ∧ ∃ r, q = .loop r) Try.func120 rfl (enters_of Try.func115 (by kernel_rfl) rfl)
                  (taken1_any T o.snap bt (bt + 1) W9 w10 hT9 ht hlow ?low hB10 hbt1 hbn1 _ ?mb (by omega)) (Below.refl _ _) (fun r => ⟨rfl, r, rfl⟩)
                  (fun pre W => Below w10.heap.size w10 W ∧ pre.all (madeV T.t mk at_) = true)
                  (fun ch W => ch = wrongE at_ ∧ (¬ ∃ xs, TakenBy T.t o.snap xs ∧ xs.all (madeV T.t mk at_) = true) ∧ Below w.heap.size w W) ?stab ⟨Below.refl _ _, rfl⟩ ?assign ?body ?done ?stop
                case low => have := HLOW.out; exact of_decide_eq_true this
                case mb =>
                  rintro k q ⟨rfl, r, rfl⟩
                  exact ⟨by omega, by omega, fun h => h⟩
                case stab =>
                  rintro s A B hst ⟨h1, h2⟩
                  exact ⟨h1.trans (hst.below (fun k o h => h.1) h1.size), h2⟩
                case assign =>
                  intro l x W K hK
                  simp only [List.setIfInBounds_toArray, List.set_cons_zero, List.set_cons_succ] at hK ⊢
                  have HK := Lib.hid hK
                  clear hK
                  unfold srcCs
                  gi_wp2_with fail
                  refine HK.out _ (below_alloc (Below.refl _ _) _) (heap_alloc_last W _)
                case body =>
                  rintro l pre x bx W hsz ⟨hI1, hI2⟩ ⟨⟨hgp, hg64⟩, out, hout⟩ hbx
                  simp only [List.setIfInBounds_toArray, List.set_cons_zero, List.set_cons_succ]
                  have i17 := cell_later hI1 n17
                  have i18 := cell_later hI1 n18
                  have i12 := cell_later hI1 n12
                  have i15 := cell_later hI1 n15
                  have ib := cell_later hI1 nb
                  have ia := cell_later hI1 na
                  have f0 := cell_of_row W bx 0 _ _ _ hbx
                  have f1 := cell_of_row W bx 1 _ _ _ hbx
                  have f2 := cell_of_row W bx 2 _ _ _ hbx
                  have f3 := cell_of_row W bx 3 _ _ _ hbx
                  simp only [srcCs, List.getElem?_toArray, List.getElem?_cons_zero, List.getElem?_cons_succ] at f0 f1 f2 f3
                  have HMW := Lib.hid (RowAt.below HM10.out hI1 (fun _ _ h => h))
                  have HI1 := Lib.hid hI1
                  have HI2 := Lib.hid hI2
                  have HOUT := Lib.hid hout
                  have HBX := Lib.hid hbx
                  clear hI1 hI2 hout hbx n17 n18 n12 n15 nb na hB10 hw10 hbt1 hbn1
                  by_cases hk2 : x.k = 2
                  · rw [hk2] at f0
                    have HK2 := Lib.hid hk2
                    clear hk2
                    gi_wp2_with fail
                    refine ⟨StepM.refl _ _, HI1.out, ?_⟩
                    rw [List.all_append, HI2.out]
                    simp [madeV, HK2.out]
                  · have hk3 : (x.k == 2) = false := by simpa using hk2
                    have hk4 : (x.k != 2) = true := by simpa using hk2
                    gi_wp2_with (refine ⟨trivial, rfl, ?_⟩; gi_at_call 121; refine (callsIn_wide.2 (made_any X T.i.A T.v.A Am T.t.ins.length T.i.c T.t.virts.length T.v.c cm at_ mk x at_ _ i12 i15 i17 i18 HMW.out hatI hnin hml hg64.2)).mono ?_)
                    rintro e w11 ⟨rfl, hB11⟩
                    have hB12 : Below w10.heap.size w10 w11 := HI1.out.trans (hB11.mono HI1.out.size)
                    cases hmd : madeS T.t.virts.length T.t.ins.length mk x at_ with
                    | true =>
                      simp only [mustE, if_true]
                      gi_wp2_with fail
                      refine ⟨StepM.of_below hB11, hB12, ?_⟩
                      rw [List.all_append, HI2.out]
                      simp [madeV, hmd]
                    | false =>
                      simp only [mustE]
                      refine ⟨rfl, StepM.of_below hB11, rfl, ?_, HBA.out.trans (hB12.mono HBA.out.size)⟩
                      rintro ⟨xs, hxs, hal⟩
                      rw [takenBy_fun hxs HOUT.out] at hal
                      simp [madeV, hmd, hk3] at hal
                case done =>
                  rintro D xs W hD hS ⟨hI1, hI2⟩ hDb
                  refine ⟨by simp, .inl ⟨_, _, rfl, run_takeDeferred hDb, ?_⟩⟩
                  refine ⟨_, results_none rfl _ _ _, ?_⟩
                  refine ⟨.inl ⟨rfl, opHead_parts.2 ⟨?_, (by rw [HBr.out]; exact HN.out), hal.out, hc3.out, HLOW.out, HSN.out⟩, xs, hS, hI2⟩, ?_⟩
                  · rw [HBr.out, hc1.out]
                  · have hB12 := HBA.out.trans (hI1.mono HBA.out.size)
                    exact hB12.trans (below_put hB12.size (by omega))
                case stop =>
                  rintro D ch W hD ⟨rfl, hno, hB⟩ hDb
                  refine ⟨by simp, .inl ⟨_, _, rfl, run_takeDeferred hDb, ?_⟩⟩
                  exact ⟨.inr ⟨rfl, fun hh => hno hh.2⟩, hB.trans (below_put hB.size (by omega))⟩
end Go.Proofs.Ytjcfppbahalgbaa
