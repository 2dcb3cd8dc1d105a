/- trace.Uses. -/
import Derived.Laws.EntriesVeiled
import Derived.Test.YtjcfppbahalgbaaJ
namespace Go.Proofs.Ytjcfppbahalgbaa
set_option linter.unusedSimpArgs false
set_option linter.unusedVariables false
open Go.RowKit
open Go.Proofs.YtjcfppbahalgbaaW.PrintWords (QRow q_append q_drop q_cells q_of_own q_move q_lt q_typed q_slice q_take q_lower)
attribute [local go_sem] Oper.semAt_some
theorem wpAt_cond {P : Program} {f : FuncId} {Q : Exit → Act → World → Prop} {a : Act} {w : World} {c : Operand} {x y : Code} {t : Bool} (hc : a.eval c = .bool t) (h : WpAt P f (if t then x else y) Q a w) : WpAt P f (Code.cond c x y) Q a w :=
  fun b k cs hf => let ⟨e, a', w', q, r⟩ := h b k cs hf; ⟨e, a', w', q, .of_steps (.one (step_cond hc)) r⟩
def norm (l : List Int) : List Int := Lib.compact (l.mergeSort fun x y => decide (x ≤ y))
/-- What Uses hands back. -/
inductive UsesR (t : Trc) (op : Int) : List Int → Prop
  | bad (n : Nat) : CheckR t (some n) → UsesR t op []
  | low : op < 0 → UsesR t op []
  | high : (t.ops.length : Int) < op → UsesR t op []
  | back : CheckR t none → op = t.ops.length → UsesR t op (norm (varsOf t.back))
  | op (k : Nat) (o : TOp) (xs : List TSrc) : CheckR t none → op = k → t.ops[k]? = some o → TakenBy t o.snap xs → UsesR t op (norm (varsOf o.args ++ varsOf xs))
theorem vars_step {l : List TSrc} {k : Nat} {s : TSrc} (h : l[k]? = some s) : varsOf (l.take (k + 1)) = varsOf (l.take k) ++ varsOf [s] := by
  rw [List.take_succ_eq_append_getElem (List.getElem?_eq_some_iff.1 h).1, (List.getElem?_eq_some_iff.1 h).2, varsOf_append]
def UsesPost (T : TV) (op : Int) (w : World) (e : Ending) (w' : World) : Prop := ∃ v l, e = .returned v ∧ IntsQ w' w.heap.size v l ∧ UsesR T.t op l ∧ Below w.heap.size w w'
set_option maxRecDepth 100000 in
set_option maxHeartbeats 3200000 in
theorem uses_any (T : TV) (op : Int) (w : World) (hT : T.ok w) (hI : outS T.t = true → TakeOk T.t) (hI2 : ∀ o ∈ T.t.ops, ∀ s ∈ o.args, I64 s.n) (hI3 : ∀ s ∈ T.t.back, s.n ≤ 9223372036854775807) :
    Calls Try.prog 35 #[.agg T.cells.toArray, .int .i64 op] w (UsesPost T op w) := by
  obtain ⟨cs, hcs⟩ : ∃ cs, T.cells.toArray = cs := ⟨_, rfl⟩
  rw [hcs]
  refine calls_of_wpAt (fn := Try.f35) Try.func35 rfl ?_
  obtain ⟨Q, hQ⟩ : ∃ Q, bodyPostP Try.prog Try.f35 (UsesPost T op w) = Q := ⟨_, rfl⟩
  rw [hQ]
  have HQQ := Lib.hid hQ
  clear hQ
  simp only [Try.ntmps35, List.size_toArray, List.length_cons, List.length_nil, Nat.reduceAdd, Nat.reduceSub, Array.replicate_succ, Array.replicate_zero, List.push_toArray, List.append_toArray, List.nil_append, List.cons_append]
  refine wpAt_seq_k (fun K hK => ?_)
  go_wp2_with fail
  have hAt : At (w.alloc (.cells cs 33)) w.heap.size 0 T.cells := by
    rw [← hcs]
    exact At.of_obj (heap_alloc_last w _)
  have hbx : (w.alloc (.cells cs 33)).heap[w.heap.size]? = some (.cells cs 33 (0, 0)) := heap_alloc_last w _
  obtain ⟨W1, hW1⟩ : ∃ W1, w.alloc (.cells cs 33) = W1 := ⟨_, rfl⟩
  have hB1 : Below w.heap.size w W1 := by rw [← hW1]; exact below_alloc (Below.refl _ _) _
  rw [hW1] at hAt hbx ⊢
  have hs1 : w.heap.size < W1.heap.size := (Array.getElem?_eq_some_iff.1 hbx).1
  clear hW1
  have HT1 := Lib.hid (hT.below hB1)
  have hck := check_any T W1 HT1.out hI hI2 hI3
  rw [hcs] at hck
  have HCK := Lib.hid hck
  clear hck
  refine wpAt_seq_k (fun K hK => ?_)
  (try simp only [Act.put, List.setIfInBounds_toArray, List.set_cons_zero, List.set_cons_succ])
  go_wp2_with (first | (refine wpList_load_at rfl 33 _ rfl w.heap.size rfl T.cells _ hAt Try.underlying33 rfl info33 ?_) | (go_at_call 37; refine HCK.out.mono ?_))
  rintro e W2 ⟨r, hr, rfl, hB2⟩
  have hx13 := (hAt.below hB2) 13 _ rfl
  rw [Nat.zero_add] at hx13
  have HR := Lib.hid hr
  have HB2 := Lib.hid (below_then hB1 hB2)
  have HAt2 := Lib.hid (hAt.below hB2)
  have HX2 := Lib.hid ((hB2.block _ hs1).trans hbx)
  have hs2 : w.heap.size < W2.heap.size := Nat.lt_of_lt_of_le hs1 hB2.size
  clear hr hAt hbx hB1 hB2
  have early : ∀ (s : Array Value), UsesR T.t op [] → s.getD 4 undef = .slice none 0 0 → Q .ret { tmps := s, defers := [] } W2 := by
    intro s hu hs
    rw [← HQQ.out]
    refine ⟨_, results_tmp rfl _ _ _, .slice none 0 0, [], by rw [hs], intsQ_nil _ _, hu, HB2.out⟩
  cases r with
  | some n =>
    simp only [atOf, erOf]
    go_wp2_with fail
    exact early _ (.bad n HR.out) rfl
  | none =>
    simp only [atOf, erOf]
    by_cases h0 : op < 0
    · have h1 : decide (op < 0) = true := by simpa using h0
      go_wp2_with fail
      exact early _ (.low h0) rfl
    · have h1 : decide (op < 0) = false := by simpa using h0
      by_cases h2 : (T.t.ops.length : Int) < op
      · have h3 : decide ((T.t.ops.length : Int) < op) = true := by simpa using h2
        go_wp2_with fail
        exact early _ (.high h2) rfl
      · have h3 : decide ((T.t.ops.length : Int) < op) = false := by simpa using h2
        go_wp2_with fail
        clear early
        have hmf : ∀ (fn : Fn) (first cap : Array Value) (w : World), (Instr.makeFunc fn first cap).run Try.prog w = .ok (.func fn first cap) w := fun _ _ _ _ => rfl
        refine wpAt_seq_k (fun K hK => ?_)
        go_wp2_with fail
        obtain ⟨L, hL⟩ : ∃ L, W2.heap.size = L := ⟨_, rfl⟩
        have hb3 := heap_alloc_last W2 (.cells #[.slice none 0 0] 27)
        have hB3 : Below W2.heap.size W2 (W2.alloc (.cells #[.slice none 0 0] 27)) := below_alloc (Below.refl _ _) _
        obtain ⟨W3, hW3⟩ : ∃ W3, W2.alloc (.cells #[.slice none 0 0] 27) = W3 := ⟨_, rfl⟩
        have hs3 : W3.heap.size = L + 1 := by rw [← hW3, World.size_alloc, hL]
        rw [hW3] at hb3 hB3 ⊢
        rw [hL] at hb3 ⊢
        clear hW3
        refine wpAt_seq_k (fun K hK => ?_)
        go_wp2_with fail
        have hF := heap_alloc_last W3 (.cells #[.func (.func 65) #[] #[.pointer (some ⟨L, 0, none⟩)]] 116)
        rw [hs3] at hF
        have HL5 : Hid ((W3.alloc (.cells #[.func (.func 65) #[] #[.pointer (some ⟨L, 0, none⟩)]] 116)).heap[L]? = some (.cells #[.slice none 0 0] 27 (0, 0))) := (Below.heap_alloc _ _ _ (by omega)).trans hb3
        have HB5 : Hid (Below L W2 (W3.alloc (.cells #[.func (.func 65) #[] #[.pointer (some ⟨L, 0, none⟩)]] 116))) := (below_alloc hB3 _).mono (by omega)
        obtain ⟨W5, hW5⟩ : ∃ W5, W3.alloc (.cells #[.func (.func 65) #[] #[.pointer (some ⟨L, 0, none⟩)]] 116) = W5 := ⟨_, rfl⟩
        have hs5 : W5.heap.size = L + 2 := by rw [← hW5, World.size_alloc, hs3]
        rw [hW5] at hF HL5 HB5
        rw [hW5]
        clear hb3 hB3 hW5
        have HF5 := Lib.hid hF
        have HX5 : Hid (W5.heap[w.heap.size]? = some (.cells cs 33 (0, 0))) := (HB5.out.block _ (by omega)).trans HX2.out
        have HW5 : Hid (Below w.heap.size w W5) := HB2.out.trans (HB5.out.mono (by omega))
        have x13 : W5.cell? ⟨w.heap.size, 13, none⟩ = some (.slice T.o.A T.t.ops.length T.o.c) := by
          rw [HB5.out.cell (p := ⟨w.heap.size, 13, none⟩) (by simp; omega)]; exact hx13
        have HA0 : Hid (AccQ W5 L (L + 2) []) := ⟨none, 0, HL5.out, intsQ_nil _ _, by omega, by omega⟩
        clear hF hx13
        refine wpAt_seq ?_
        by_cases hop : op = T.t.ops.length
        · subst hop
          refine wpAt_of_wp ?_
          have x16 : W5.cell? ⟨w.heap.size, 16, none⟩ = some (.slice T.b.A T.t.back.length T.b.c) := by
            have := HAt2.out 16 _ rfl
            rw [Nat.zero_add] at this
            rw [HB5.out.cell (p := ⟨w.heap.size, 16, none⟩) (by simp; omega)]; exact this
          have hbl : T.t.back.length ≤ 1048576 := hT.b.2.2.1
          go_wp2_with fail
          go_loopw [41] (fun s41 wr => ∃ (k : Nat), s41 = .int .i64 k ∧ k ≤ T.t.back.length ∧ AccQ wr L (L + 2) (varsOf (T.t.back.take k)) ∧ StepM (accMay L (L + 2)) W5 wr)
            (fun s41 _ => T.t.back.length - (intOf s41).toNat)
          case atStart => exact ⟨0, rfl, Nat.zero_le _, HA0.out, StepM.refl _ _⟩
          case round =>
            obtain ⟨k, rfl, hk, hacc, hst⟩ := hrel
            have hBw : Below w.heap.size w wr := HW5.out.trans (hst.below (fun i o h => by rcases h with ⟨h, _⟩ | ⟨h, _⟩ <;> omega) (by omega))
            have hF := hst.same _ _ HF5.out (by rintro (⟨_, _, _, h⟩ | ⟨h, _⟩); · cases h
                                                · omega)
            have HAC := Lib.hid hacc
            have HST := Lib.hid hst
            have HBW := Lib.hid hBw
            clear hacc hst hBw
            by_cases hlt : k < T.t.back.length
            · obtain ⟨s, hs⟩ : ∃ s, T.t.back[k]? = some s := ⟨_, List.getElem?_eq_getElem hlt⟩
              obtain ⟨b, oo, hA, hb, e0, e1, e2, e3⟩ := src_get (hT.below HBW.out).b.2.2.2 hs
              have HS := Lib.hid hs
              have HF := Lib.hid hF
              rw [hA]
              clear hA hs hF
              go_upto_region 10 with fail
              obtain ⟨W7, hW7⟩ : ∃ W7, wr.alloc (.cells #[.int .i64 s.k, .int .i64 s.vk, .int .i64 s.vn, .int .i64 s.n] 63) = W7 := ⟨_, rfl⟩
              have hB7 : Below wr.heap.size wr W7 := by rw [← hW7]; exact below_alloc (Below.refl _ _) _
              have hb7 := heap_alloc_last wr (.cells #[.int .i64 s.k, .int .i64 s.vk, .int .i64 s.vn, .int .i64 s.n] 63)
              rw [hW7] at hb7 ⊢
              have f0 := cell_of_row W7 wr.heap.size 0 _ _ _ hb7
              have f1 := cell_of_row W7 wr.heap.size 1 _ _ _ hb7
              have f2 := cell_of_row W7 wr.heap.size 2 _ _ _ hb7
              have f3 := cell_of_row W7 wr.heap.size 3 _ _ _ hb7
              simp only [List.getElem?_toArray, List.getElem?_cons_zero, List.getElem?_cons_succ] at f0 f1 f2 f3
              have fF : W7.cell? ⟨L + 1, 0, none⟩ = some (.func (.func 65) #[] #[.pointer (some ⟨L, 0, none⟩)]) := by
                rw [hB7.cell (p := ⟨L + 1, 0, none⟩) (Array.getElem?_eq_some_iff.1 HF.out).1, cell_of_row _ _ 0 _ _ _ HF.out]; rfl
              have HA7 := Lib.hid (HAC.out.below hB7)
              have HB7 := Lib.hid hB7
              clear hB7 hb7 hW7 e0 e1 e2 e3
              go_wp2_with (go_at_call 65; refine (add_any L (L + 2) s _ W7 HA7.out (by have := varsOf_len (T.t.back.take k); rw [List.length_take] at this; omega)).mono ?_)
              rintro e w8 ⟨rfl, hacc8, hst8⟩
              have HA8 := Lib.hid hacc8
              have HS8 := Lib.hid (HST.out.trans ((StepM.of_below HB7.out).trans hst8))
              clear hacc8 hst8
              go_wp2_with fail
              go_roundw
              case rel =>
                refine ⟨k + 1, by go_num, by omega, ?_, HS8.out⟩
                have h8 := HA8.out
                rw [vars_step HS.out]
                exact h8
              case measure => simp [intOf]; omega
            · have hkl : k = T.t.back.length := by omega
              subst hkl
              rw [List.take_length] at HAC
              go_wp2_with fail
              obtain ⟨A9, c9, hL9, hq9, -, -⟩ := HAC.out
              have cL9 : wr.cell? ⟨L, 0, none⟩ = some (.slice A9 (varsOf T.t.back).length c9) := by rw [cell_of_row _ _ 0 _ _ _ hL9]; rfl
              have HQ9 := Lib.hid hq9
              have HL9 := Lib.hid hL9
              clear hq9 hL9
              refine wpAt_of_wp ?_
              go_wp2_with (go_at_call 67; refine (sort_q HQ9.out (by have := varsOf_len T.t.back; omega)).mono ?_)
              rintro e w10 ⟨rfl, hq10, hst10⟩
              have HS10 := Lib.hid (HST.out.trans (hst10.mono (fun k o h => .inr h)))
              have hL10 := hst10.same _ _ HL9.out (by rintro ⟨h, _⟩; omega)
              have cL10 : w10.cell? ⟨L, 0, none⟩ = some (.slice A9 (varsOf T.t.back).length c9) := by rw [cell_of_row _ _ 0 _ _ _ hL10]; rfl
              have HQ10 := Lib.hid hq10
              clear hq10 hst10 hL10 cL9
              go_wp2_with (go_at_call 68; refine (compact_q HQ10.out (by have := varsOf_len T.t.back; rw [List.length_mergeSort]; omega)).mono ?_)
              rintro e w11 ⟨v, rfl, hq11, hst11⟩
              have HS11 := Lib.hid (HS10.out.trans (hst11.mono (fun k o h => .inr h)))
              have HQ11 := Lib.hid hq11
              clear hq11 hst11
              go_wp2_with fail
              rw [← HQQ.out]
              refine ⟨_, results_tmp rfl _ _ _, v, _, rfl, q_lower HQ11.out (by omega), .back HR.out rfl, HW5.out.trans (HS11.out.below (fun i o h => by rcases h with ⟨h, _⟩ | ⟨h, _⟩ <;> omega) (by omega))⟩
        · obtain ⟨k, rfl⟩ : ∃ k : Nat, op = k := ⟨op.toNat, by omega⟩
          have hkl : k < T.t.ops.length := by omega
          obtain ⟨o, ho⟩ : ∃ o, T.t.ops[k]? = some o := ⟨_, List.getElem?_eq_getElem hkl⟩
          obtain ⟨ob, oo, Aa, ca, hA, hb, e0, e1, e2, e3, e4, hargs⟩ := op_get hT.o.2.2.2 ho
          have v1 := cell_later HW5.out e1
          have v4 := cell_later HW5.out e4
          clear e0 e1 e2 e3 e4
          have hop1 : ((k : Int) == T.t.ops.length) = false := by simpa using hop
          have hop2 : decide ((k : Int) = T.t.ops.length) = false := by simpa using hop
          have hal := hargs.2.2.1
          have HARGS := Lib.hid hargs.2.2.2
          have HO := Lib.hid ho
          rw [hA] at x13
          refine wpAt_seq_k (fun K hK => ?_)
          go_wp2_with fail
          refine wpAt_cond (t := false) (by first | rfl | simp [Act.eval]) ?_
          simp only [Bool.false_eq_true, if_false]
          refine wpAt_seq_k (fun K hK => ?_)
          go_wp2_with fail
          go_loopw [56] (fun s56 wr => ∃ (k2 : Nat), s56 = .int .i64 k2 ∧ k2 ≤ o.args.length ∧ AccQ wr L (L + 2) (varsOf (o.args.take k2)) ∧ StepM (accMay L (L + 2)) W5 wr)
            (fun s56 _ => o.args.length - (intOf s56).toNat)
          case atStart => exact ⟨0, rfl, Nat.zero_le _, HA0.out, StepM.refl _ _⟩
          case round =>
            obtain ⟨k2, rfl, hk, hacc, hst⟩ := hrel
            have hBL : Below L W5 wr := hst.below (fun i o h => by rcases h with ⟨h, _⟩ | ⟨h, _⟩ <;> omega) (by omega)
            have hF := hst.same _ _ HF5.out (by rintro (⟨_, _, _, h⟩ | ⟨h, _⟩); · cases h
                                                · omega)
            have HAC := Lib.hid hacc
            have HST := Lib.hid hst
            have HBL := Lib.hid hBL
            clear hacc hst hBL
            by_cases hlt : k2 < o.args.length
            · obtain ⟨s, hs⟩ : ∃ s, o.args[k2]? = some s := ⟨_, List.getElem?_eq_getElem hlt⟩
              obtain ⟨b, oo, rfl, hb, e0, e1, e2, e3⟩ := src_get (RowAt.below HARGS.out (HW5.out.trans (HBL.out.mono (by omega))) (fun _ _ h => h)) hs
              have HS := Lib.hid hs
              have HF := Lib.hid hF
              clear hs hF
              go_upto_region 15 with fail
              obtain ⟨W7, hW7⟩ : ∃ W7, wr.alloc (.cells #[.int .i64 s.k, .int .i64 s.vk, .int .i64 s.vn, .int .i64 s.n] 63) = W7 := ⟨_, rfl⟩
              have hB7 : Below wr.heap.size wr W7 := by rw [← hW7]; exact below_alloc (Below.refl _ _) _
              have hb7 := heap_alloc_last wr (.cells #[.int .i64 s.k, .int .i64 s.vk, .int .i64 s.vn, .int .i64 s.n] 63)
              rw [hW7] at hb7 ⊢
              have f0 := cell_of_row W7 wr.heap.size 0 _ _ _ hb7
              have f1 := cell_of_row W7 wr.heap.size 1 _ _ _ hb7
              have f2 := cell_of_row W7 wr.heap.size 2 _ _ _ hb7
              have f3 := cell_of_row W7 wr.heap.size 3 _ _ _ hb7
              simp only [List.getElem?_toArray, List.getElem?_cons_zero, List.getElem?_cons_succ] at f0 f1 f2 f3
              have fF : W7.cell? ⟨L + 1, 0, none⟩ = some (.func (.func 65) #[] #[.pointer (some ⟨L, 0, none⟩)]) := by
                rw [hB7.cell (p := ⟨L + 1, 0, none⟩) (Array.getElem?_eq_some_iff.1 HF.out).1, cell_of_row _ _ 0 _ _ _ HF.out]; rfl
              have HA7 := Lib.hid (HAC.out.below hB7)
              have HB7 := Lib.hid hB7
              clear hB7 hb7 hW7 e0 e1 e2 e3
              go_wp2_with (go_at_call 65; refine (add_any L (L + 2) s _ W7 HA7.out (by have := varsOf_len (o.args.take k2); rw [List.length_take] at this; omega)).mono ?_)
              rintro e w8 ⟨rfl, hacc8, hst8⟩
              have HA8 := Lib.hid hacc8
              have HS8 := Lib.hid (HST.out.trans ((StepM.of_below HB7.out).trans hst8))
              clear hacc8 hst8
              go_wp2_with fail
              go_roundw
              case rel =>
                refine ⟨k2 + 1, by go_num, by omega, ?_, HS8.out⟩
                have h8 := HA8.out
                rw [vars_step HS.out]
                exact h8
              case measure => simp [intOf]; omega
            · have hk2 : k2 = o.args.length := by omega
              subst hk2
              rw [List.take_length] at HAC
              have hX := HST.out.same _ _ HX5.out (by rintro (⟨_, _, _, h⟩ | ⟨h, _⟩)
                                                      · cases h
                                                      · omega)
              have HX := Lib.hid (show At wr w.heap.size 0 T.cells from by rw [← hcs] at hX; exact At.of_obj hX)
              have y13 : wr.cell? ⟨w.heap.size, 13, none⟩ = some (.slice (some ⟨ob, oo, none⟩) T.t.ops.length T.o.c) := by rw [HBL.out.cell (p := ⟨w.heap.size, 13, none⟩) (by simp; omega)]; exact x13
              have y4 : wr.cell? ⟨ob, oo + k * 5 + 4, none⟩ = some (.int .i64 o.snap) := by rw [HBL.out.cell (p := ⟨ob, oo + k * 5 + 4, none⟩) (by simp; omega)]; exact v4
              clear hX
              go_wp2_with fail
              refine wpAt_seq_p (fun _ _ => False) (fun _ _ _ _ h => h.elim) (fun K hK => ?_)
              (try simp only [Act.put, List.setIfInBounds_toArray, List.set_cons_zero, List.set_cons_succ])
              refine drawn_begin (fun w' => Below wr.heap.size wr w' ∧ w'.cell? ⟨w.heap.size, 13, none⟩ = some (.slice (some ⟨ob, oo, none⟩) T.t.ops.length T.o.c) ∧ w'.cell? ⟨ob, oo + k * 5 + 4, none⟩ = some (.int .i64 o.snap) ∧ Hid (At w' w.heap.size 0 T.cells)) (fun c a d v w h => ?_) (by kernel_rfl) ?_ (fun hside hHeld => ?_)
              · (obtain ⟨h1, h2⟩ := h; exact And.intro (put_nil h1) h2)
              · exact ⟨below_drewN (Below.refl _ _) 1, y13, y4, HX.out⟩
              refine wpAnyH_take (i := 0) (v := (.agg T.cells.toArray)) (op_at rfl) (by kernel_rfl) (by kernel_rfl) (by kernel_rfl) (fun _ _ _ h => hside _ _ _ _ _ h) (Or.inl ⟨by rfl, ?_⟩) (by assumption) ?_
              · (intro w hSw; exact exec_load_at 33 _ rfl _ rfl T.cells _ hSw.2.2.2.out Try.underlying33 rfl info33)
              (try simp only [Act.put, List.setIfInBounds_toArray, List.set_cons_zero, List.set_cons_succ])
              refine wpAnyH_take (i := 1) (v := ?_) (op_at rfl) (by kernel_rfl) (by kernel_rfl) (by kernel_rfl) (fun _ _ _ h => hside _ _ _ _ _ h) (Or.inl ⟨by rfl, ?_⟩) (by assumption) ?_
              rotate_left
              · (intro w hSw; (try dsimp only at hSw); go_simp; all_goals with_reducible rfl)
              (try simp only [Act.put, List.setIfInBounds_toArray, List.set_cons_zero, List.set_cons_succ])
              refine wpAnyH_take (i := 2) (v := ?_) (op_at rfl) (by kernel_rfl) (by kernel_rfl) (by kernel_rfl) (fun _ _ _ h => hside _ _ _ _ _ h) (Or.inl ⟨by rfl, ?_⟩) (by assumption) ?_
              rotate_left
              · (intro w hSw; (try dsimp only at hSw); go_simp; all_goals with_reducible rfl)
              (try simp only [Act.put, List.setIfInBounds_toArray, List.set_cons_zero, List.set_cons_succ])
              refine wpAnyH_take (i := 3) (v := ?_) (op_at rfl) (by kernel_rfl) (by kernel_rfl) (by kernel_rfl) (fun _ _ _ h => hside _ _ _ _ _ h) (Or.inl ⟨by rfl, ?_⟩) (by assumption) ?_
              rotate_left
              · (intro w hSw; (try dsimp only at hSw); go_simp; all_goals with_reducible rfl)
              (try simp only [Act.put, List.setIfInBounds_toArray, List.set_cons_zero, List.set_cons_succ])
              refine wpAnyH_take (i := 4) (v := ?_) (op_at rfl) (by kernel_rfl) (by kernel_rfl) (by kernel_rfl) (fun _ _ _ h => hside _ _ _ _ _ h) (Or.inl ⟨by rfl, ?_⟩) (by assumption) ?_
              rotate_left
              · (intro w hSw; (try dsimp only at hSw); go_simp; all_goals with_reducible rfl)
              (try simp only [Act.put, List.setIfInBounds_toArray, List.set_cons_zero, List.set_cons_succ])
              refine wpAnyH_take (i := 5) (v := ?_) (op_at rfl) (by kernel_rfl) (by kernel_rfl) (by kernel_rfl) (fun _ _ _ h => hside _ _ _ _ _ h) (Or.inl ⟨by rfl, ?_⟩) (by assumption) ?_
              rotate_left
              · (intro w hSw; (try dsimp only at hSw); go_simp; all_goals with_reducible rfl)
              (try simp only [Act.put, List.setIfInBounds_toArray, List.set_cons_zero, List.set_cons_succ])
              refine wpAnyH_take (i := 6) (v := ?_) (op_at rfl) (by kernel_rfl) (by kernel_rfl) (by kernel_rfl) (fun _ _ _ h => hside _ _ _ _ _ h) (Or.inl ⟨by rfl, ?_⟩) (by assumption) ?_
              rotate_left
              · (intro w hSw; (try dsimp only at hSw); go_simp; all_goals with_reducible rfl)
              (try simp only [Act.put, List.setIfInBounds_toArray, List.set_cons_zero, List.set_cons_succ])
              refine wpAnyH_ready (rs := [7]) (by kernel_rfl) (by simp) (AllReadyH.cons (op_at rfl) (fun Kr hK => ?_) AllReadyH.nil)
              go_simp
              have htk := taken_any T o.snap wr.drew
              rw [hcs] at htk
              refine htk.mono ?_
              clear htk
              rintro e w10 ⟨rfl, hw10⟩
              rw [← hcs] at hw10
              obtain ⟨bt, hbt⟩ : ∃ bt, wr.heap.size = bt := ⟨_, rfl⟩
              have hB10 : Below wr.heap.size wr w10 := by rw [hw10]; exact below_alloc (below_alloc (below_drewN (Below.refl _ _) 1) _) _
              refine hK.out _ _ ?_ (fun hHeld => ?_)
              · exact ⟨hB10, cell_later hB10 y13, cell_later hB10 y4, Lib.hid (HX.out.below hB10)⟩
              clear hK
              (try simp only [Act.put, List.setIfInBounds_toArray, List.set_cons_zero, List.set_cons_succ])
              refine wpAnyH_done (by kernel_rfl) ?_ _
              show K _ _
              apply hK
              have hbt1 : w10.heap[bt]? = some (.cells T.cells.toArray 33 (0, 0)) := by
                rw [hw10, Below.heap_alloc _ _ _ (by rw [← hbt]; simp), ← hbt]
                exact heap_alloc_last wr.drew _
              have hbn1 : w10.cell? ⟨bt + 1, 0, none⟩ = some (.int .i64 o.snap) := by
                have h1 := heap_alloc_last (wr.drew.alloc (.cells T.cells.toArray 33)) (.cells #[.int .i64 o.snap] 3)
                rw [← hw10, World.size_alloc, show wr.drew.heap.size = bt from hbt] at h1
                rw [cell_of_row w10 _ 0 _ _ _ h1]
                rfl
              have hsz10 : w10.heap.size = bt + 2 := by rw [hw10, World.size_alloc, World.size_alloc, show wr.drew.heap.size = bt from hbt]
              rw [show wr.drew.heap.size = bt from hbt]
              have hout : outS T.t = true := by cases HR.out; assumption
              have hat : OpAt T.t k := by cases HR.out with | ok _ h _ => exact h k hkl
              have hpt := (hat o HO.out).parts
              have hlow := of_decide_eq_true hpt.low
              have hhigh := of_decide_eq_true hpt.high
              have ht := hI hout
              have hT2 := hT.below HB2.out
              have hszL : L ≤ wr.heap.size := Nat.le_trans (by omega) HBL.out.size
              have hB2w : Below W2.heap.size W2 w10 := by
                rw [hL]
                exact HB5.out.trans (HBL.out.trans (hB10.mono hszL))
              have hF10 : w10.heap[L + 1]? = some (.cells #[.func (.func 65) #[] #[.pointer (some ⟨L, 0, none⟩)]] 116 (0, 0)) := (hB10.block _ (Array.getElem?_eq_some_iff.1 hF).1).trans hF
              have hA10 := HAC.out.below hB10
              have HB10 := Lib.hid hB10
              have hbtL : L + 2 ≤ bt := by rw [← hbt]; exact Nat.le_trans (by omega) HST.out.size
              clear hw10 hHeld hside hB10
              refine wpAt_block ?_
              refine wpAt_rangeSrc (gf := 115) (lb := #[.pointer (some ⟨bt, 0, none⟩), .pointer (some ⟨bt + 1, 0, none⟩)]) (pb := 13) (MB := fun i q => i ≠ bt ∧ (accMay L (L + 2) i q ∨ i = w10.heap.size + 1 ∧ ∃ r, q = .loop r)) Try.func35 rfl (enters_of Try.func115 (by kernel_rfl) rfl)
                (taken1_any T o.snap bt (bt + 1) W2 w10 hT2 ht hhigh hlow hB2w hbt1 hbn1 _ ?mb (by omega)) (Below.refl _ _) (fun r => ⟨by omega, .inr ⟨rfl, r, rfl⟩⟩)
                (fun pre W => AccQ W L (L + 2) (varsOf o.args ++ varsOf pre) ∧ StepM (fun i q => accMay L (L + 2) i q ∨ w10.heap.size ≤ i ∧ (ownObj q ∨ isRec q)) w10 W)
                (fun ch W => False) ?stab ⟨by simpa [varsOf] using hA10, StepM.refl _ _⟩ ?assign ?body ?done (fun _ _ _ _ h => h.elim)
              case mb =>
                rintro i q ⟨h1, h2 | ⟨rfl, r, rfl⟩⟩
                · refine ⟨?_, h1, ?_⟩
                  · rcases h2 with ⟨h, _⟩ | ⟨h, _⟩ <;> omega
                  · rcases h2 with ⟨_, _, _, h⟩ | ⟨_, _, _, h⟩ <;> subst h <;> simp [ownObj]
                · exact ⟨by omega, h1, fun h => h⟩
              case stab =>
                rintro s A B hst ⟨h1, h2⟩
                refine ⟨h1.step hst (fun i cs fr h => ?_) (fun i cs fr h => ?_), h2.trans (hst.mono (fun i q h => .inr h))⟩
                · rcases h.2 with h | h <;> simp [ownObj, isRec] at h
                · rcases h.2 with h | h <;> simp [ownObj, isRec] at h
              case assign =>
                intro l x W K hK
                simp only [List.setIfInBounds_toArray, List.set_cons_zero, List.set_cons_succ] at hK ⊢
                have HK := Lib.hid hK
                clear hK
                unfold srcCs
                gi_wp2_with fail
                refine HK.out _ (below_alloc (Below.refl _ _) _) (heap_alloc_last W _)
              case body =>
                rintro l pre x bx W hsz ⟨hI1, hI2s⟩ ⟨⟨hgp, hg64⟩, out, hout2⟩ hbx
                simp only [List.setIfInBounds_toArray, List.set_cons_zero, List.set_cons_succ]
                have hF := hI2s.same _ _ hF10 (by
                  rintro ((⟨_, _, _, h⟩ | ⟨h, _⟩) | ⟨h, _⟩)
                  · cases h
                  · omega
                  · omega)
                have hbt3 := hI2s.same _ _ hbt1 (by
                  rintro ((⟨h, _⟩ | ⟨_, _, _, h⟩) | ⟨h, _⟩)
                  · omega
                  · cases h
                  · omega)
                have fF : W.cell? ⟨L + 1, 0, none⟩ = some (.func (.func 65) #[] #[.pointer (some ⟨L, 0, none⟩)]) := by rw [cell_of_row _ _ 0 _ _ _ hF]; rfl
                have f0 := cell_of_row W bx 0 _ _ _ hbx
                have f1 := cell_of_row W bx 1 _ _ _ hbx
                have f2 := cell_of_row W bx 2 _ _ _ hbx
                have f3 := cell_of_row W bx 3 _ _ _ hbx
                simp only [srcCs, List.getElem?_toArray, List.getElem?_cons_zero, List.getElem?_cons_succ] at f0 f1 f2 f3
                have hpl := takenBy_len hT2 ht hhigh hlow hout2
                rw [List.length_append, List.length_cons] at hpl
                have HA1 := Lib.hid hI1
                have HS1 := Lib.hid hI2s
                have HBT := Lib.hid hbt3
                have HADD := Lib.hid (add_any L (L + 2) x _ W hI1 (by
                  have := varsOf_len o.args
                  have := varsOf_len pre
                  rw [List.length_append]
                  omega))
                clear hI1 hI2s hF hbt3 hbx hout2
                gi_wp2_with (refine ⟨trivial, rfl, ?_⟩; gi_at_call 65; refine (callsIn_wide.2 HADD.out).mono ?_)
                rintro e w11 ⟨rfl, hacc11, hst11⟩
                have HA11 := Lib.hid hacc11
                have HS11 := Lib.hid hst11
                clear hacc11 hst11
                gi_wp2_with fail
                refine ⟨⟨HS11.out.os, HS11.out.tape, HS11.out.output, HS11.out.size, fun i q hi hn => ?_⟩, ?_, HS1.out.trans (HS11.out.mono (fun i q h => .inl h))⟩
                · by_cases hib : i = bt
                  · subst hib
                    exact HS11.out.same _ _ hi (by
                      rw [HBT.out] at hi
                      cases hi
                      rintro (⟨h, _⟩ | ⟨_, _, _, h⟩)
                      · omega
                      · cases h)
                  · refine HS11.out.same _ _ hi (fun h => hn ⟨⟨hib, .inl h⟩, ?_⟩)
                    rcases h with ⟨_, _, _, h⟩ | ⟨_, _, _, h⟩ <;> subst h <;> exact fun h => h
                · have := HA11.out
                  rw [List.append_assoc, ← varsOf_append] at this
                  exact this
              case done =>
                rintro D xs W hD hS ⟨hI1, hI2s⟩ hDb
                have hxl := takenBy_len hT2 ht hhigh hlow hS
                have hszW : w10.heap.size ≤ W.heap.size := hI2s.size
                obtain ⟨acc, hacc⟩ : ∃ acc, varsOf o.args ++ varsOf xs = acc := ⟨_, rfl⟩
                have hlacc : acc.length ≤ 1048576 + 2199023255552 := by
                  have := varsOf_len o.args
                  have := varsOf_len xs
                  rw [← hacc, List.length_append]
                  omega
                rw [hacc] at hI1
                have HACC := Lib.hid hacc
                clear hacc
                obtain ⟨A9, c9, hL9, hq9, -, -⟩ := hI1
                have cL9 : W.cell? ⟨L, 0, none⟩ = some (.slice A9 acc.length c9) := by rw [cell_of_row _ _ 0 _ _ _ hL9]; rfl
                have HQ9 := Lib.hid hq9
                have HL9 := Lib.hid hL9
                clear hq9 hL9
                refine wpAt_of_wp ?_
                go_wp2_with (go_at_call 67; refine (sort_q HQ9.out (by omega)).mono ?_)
                rintro e w10 ⟨rfl, hq10, hst10⟩
                have HS10 := Lib.hid (hst10)
                have hL10 := hst10.same _ _ HL9.out (by rintro ⟨h, _⟩; omega)
                have cL10 : w10.cell? ⟨L, 0, none⟩ = some (.slice A9 acc.length c9) := by rw [cell_of_row _ _ 0 _ _ _ hL10]; rfl
                have HQ10 := Lib.hid hq10
                clear hq10 hst10 hL10 cL9
                go_wp2_with (go_at_call 68; refine (compact_q HQ10.out (by rw [List.length_mergeSort]; omega)).mono ?_)
                rintro e w11 ⟨v, rfl, hq11, hst11⟩
                have HS11 := Lib.hid (HS10.out.trans hst11)
                have HQ11 := Lib.hid hq11
                clear hq11 hst11
                go_wp2_with fail
                have hD11 := HS11.out.same _ _ hDb (by rintro ⟨_, _, _, h⟩; cases h)
                have hu : UsesR T.t k (norm acc) := by rw [← HACC.out]; exact .op k o xs HR.out rfl HO.out hS
                rw [← HQQ.out]
                refine ⟨by simp, .inl ⟨_, _, rfl, run_takeDeferred hD11, ?_⟩⟩
                have hBW : Below w.heap.size w w11 := HW5.out.trans ((HBL.out.mono (by omega)).trans (((HB10.out.mono (by omega)).trans (hI2s.below (fun i o h => by rcases h with (⟨h, _⟩ | ⟨h, _⟩) | ⟨h, _⟩ <;> omega) (by omega))).trans (HS11.out.below (fun i o h => by have := h.1; omega) (by omega))))
                refine ⟨_, results_tmp rfl _ _ _, v, _, rfl, ?_, hu, hBW.trans (below_put hBW.size (by omega))⟩
                refine q_move (q_lower HQ11.out (by omega)) (fun i hi => World.putObj_heap_other (fun e => ?_))
                obtain ⟨_, cs', hc'⟩ := q_typed HQ11.out i hi
                rw [e, hD11] at hc'
                cases hc'
end Go.Proofs.Ytjcfppbahalgbaa
