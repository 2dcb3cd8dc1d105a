/- trace.Uses: its closure; sorting and making compact. -/
import Derived.Lib.RowBridge
import Derived.Test.YtjcfppbahalgbaaN
namespace Go.Proofs.Ytjcfppbahalgbaa
set_option linter.unusedSimpArgs false
set_option linter.unusedVariables false
open Go.RowKit
open Go.Sort (Holds putRow putCells mapBlock onCells grow)
open Go.Proofs.YtjcfppbahalgbaaW.PrintWords (QRow q_append q_drop q_cells q_of_own q_move q_lt q_typed q_slice q_take q_lower)
def varsOf (l : List TSrc) : List Int := (l.filter (fun s => s.k == 1)).map (·.n)
theorem varsOf_append (a b : List TSrc) : varsOf (a ++ b) = varsOf a ++ varsOf b := by simp [varsOf]
theorem varsOf_len (a : List TSrc) : (varsOf a).length ≤ a.length := by
  unfold varsOf
  rw [List.length_map]
  exact List.length_filter_le _ _
def AccQ (w : World) (L base : Nat) (acc : List Int) : Prop := ∃ A c, w.heap[L]? = some (.cells #[.slice A acc.length c] 27 (0, 0)) ∧ IntsQ w base (.slice A acc.length c) acc ∧ L < base ∧ base ≤ w.heap.size
def accMay (L base : Nat) (k : Nat) (o : Obj) : Prop := (k = L ∧ ∃ cs fr, o = .cells cs 27 fr) ∨ base ≤ k ∧ ∃ cs fr, o = .cells cs 3 fr
theorem AccQ.below {w w' : World} {L base : Nat} {acc : List Int} (h : AccQ w L base acc) (hb : Below w.heap.size w w') : AccQ w' L base acc := by
  obtain ⟨A, c, h1, h2, h3, h4⟩ := h
  exact ⟨A, c, (hb.block L (Array.getElem?_eq_some_iff.1 h1).1).trans h1, q_below h2 hb, h3, Nat.le_trans h4 hb.size⟩
theorem AccQ.step {M : Nat → Obj → Prop} {w w' : World} {L base : Nat} {acc : List Int} (h : AccQ w L base acc) (hs : StepM M w w') (h27 : ∀ k cs fr, ¬ M k (.cells cs 27 fr)) (h3 : ∀ k cs fr, ¬ M k (.cells cs 3 fr)) : AccQ w' L base acc := by
  obtain ⟨A, c, h1, h2, h4, h5⟩ := h
  refine ⟨A, c, hs.same _ _ h1 (h27 _ _ _), q_move h2 (fun k hk => ?_), h4, Nat.le_trans h5 hs.size⟩
  obtain ⟨_, cs, hc⟩ := q_typed h2 k hk
  rw [hc]
  exact hs.same k _ hc (h3 _ _ _)
theorem stepM_setCell {M : Nat → Obj → Prop} {w : World} {L i : Nat} {v : Value} {o : Obj} (h : w.heap[L]? = some o) (hM : M L o) : StepM M w (w.setCell ⟨L, i, none⟩ v) :=
  ⟨rfl, rfl, rfl, by simp [World.setCell], fun k o' hk hn => by
    by_cases e : k = L
    · subst e
      rw [h] at hk
      cases hk
      exact absurd hM hn
    · exact (Below.heap_setCell _ _ _ _ e).trans hk⟩
set_option maxRecDepth 100000 in
set_option maxHeartbeats 1600000 in
theorem add_any (L base : Nat) (x : TSrc) (acc : List Int) (w : World) (hacc : AccQ w L base acc) (hlen : acc.length + 1 ≤ 8796093022208) :
    Calls Try.prog 65 #[.agg (srcCs x), .pointer (some ⟨L, 0, none⟩)] w fun e w' => e = .returned (.tuple #[]) ∧ AccQ w' L base (acc ++ varsOf [x]) ∧ StepM (accMay L base) w w' := by
  obtain ⟨i0, hi, hz0, hz1, hz2⟩ := info_parts info3
  obtain ⟨A, c, hL, hq, hLb, hbw⟩ := id hacc
  have hLw := (Array.getElem?_eq_some_iff.1 hL).1
  have HA := Lib.hid hacc
  clear hacc
  have cL : w.cell? ⟨L, 0, none⟩ = some (.slice A acc.length c) := by rw [cell_of_row _ _ 0 _ _ _ hL]; rfl
  have zL : w.frozen? ⟨L, 0, none⟩ = false := by simp [World.frozen?, hL]
  unfold srcCs
  by_cases hk : x.k = 1
  · obtain ⟨kk, vk, vn, n⟩ := x
    simp only at hk
    subst hk
    have hv : varsOf [⟨1, vk, vn, n⟩] = [n] := by simp [varsOf]
    rw [hv]
    simp only
    have hb1 := heap_alloc_last w (.cells #[.int .i64 1, .int .i64 vk, .int .i64 vn, .int .i64 n] 63)
    have f0 := cell_of_row _ w.heap.size 0 _ _ _ hb1
    have f3 := cell_of_row _ w.heap.size 3 _ _ _ hb1
    simp only [List.getElem?_toArray, List.getElem?_cons_zero, List.getElem?_cons_succ] at f0 f3
    have cL1 := cell_alloc cL (.cells #[.int .i64 1, .int .i64 vk, .int .i64 vn, .int .i64 n] 63)
    obtain ⟨W1, hW1⟩ : ∃ W1, w.alloc (.cells #[.int .i64 1, .int .i64 vk, .int .i64 vn, .int .i64 n] 63) = W1 := ⟨_, rfl⟩
    have hB1 : Below w.heap.size w W1 := by rw [← hW1]; exact below_alloc (Below.refl _ _) _
    rw [hW1] at f0 f3 cL1
    have HQ := Lib.hid (q_below hq hB1)
    have HL1 := Lib.hid ((hB1.block L hLw).trans hL)
    have HB1 := Lib.hid hB1
    clear hq hL hb1 hB1 cL
    go_enter Try.func65, Try.ntmps65
    go_wp2_with (at_builtin; refine wpList_append_q base rfl _ _ 27 3 i0 (.int .i64 0) 1 8 rfl Try.underlying27 hi hz0 hz1 hz2 rfl (by decide) rfl (q_below HQ.out (below_alloc (Below.refl _ _) _)) [.int .i64 n] rfl rfl ?c1 ?c2 ?c3 ?c4 ?c5 ?_)
    case c1 =>
      intro _
      refine ⟨_, rfl, fun j u hj => ?_⟩
      rw [add_at', cell_of_row _ W1.heap.size _ _ 3 (0, 0) (heap_alloc_last W1 _), Nat.zero_add]
      simpa using hj
    case c2 => simp [Value.oneCell']
    case c3 => simp only [maxLen]; omega
    case c4 => omega
    case c5 => have := HB1.out.size; simp; omega
    intro v1 w2 hq1 hg1 hat
    obtain ⟨A2, c2, rfl, hn2⟩ := q_slice hq1
    have hqt := fun k hk => q_typed HQ.out k hk
    have hsB : StepM (accMay L base) w (W1.alloc (.cells #[.int .i64 n] 3)) := StepM.of_below (below_alloc HB1.out _)
    have hsG : StepM (accMay L base) (W1.alloc (.cells #[.int .i64 n] 3)) w2 := stepM_grown hg1 (fun k o hk ho => by
      obtain ⟨hbk, cs, hcs⟩ := hqt k hk
      rw [Below.heap_alloc _ _ _ (Array.getElem?_eq_some_iff.1 hcs).1, hcs] at ho
      cases ho
      exact .inr ⟨hbk, cs, _, rfl⟩)
    have hL2 : w2.heap[L]? = some (.cells #[.slice A acc.length c] 27 (0, 0)) := by
      refine (hg1.block L (by have := HB1.out.size; simp; omega) (fun e => ?_)).trans ?_
      · have := (hqt L e.symm).1; omega
      · rw [Below.heap_alloc _ _ _ (by have := HB1.out.size; omega)]; exact HL1.out
    have cL2 : w2.cell? ⟨L, 0, none⟩ = some (.slice A acc.length c) := by rw [cell_of_row _ _ 0 _ _ _ hL2]; rfl
    have zL2 : w2.frozen? ⟨L, 0, none⟩ = false := by simp [World.frozen?, hL2]
    have HS := Lib.hid (hsB.trans hsG)
    have HQ2 := Lib.hid hq1
    have HL2 := Lib.hid hL2
    clear hq1 hg1 hat hqt hsB hsG hL2
    go_wp2_with fail
    have hs3 : StepM (accMay L base) w2 (w2.setCell ⟨L, 0, none⟩ (.slice A2 (acc.length + 1) c2)) := stepM_setCell HL2.out (.inl ⟨rfl, _, _, rfl⟩)
    refine bodyPost_end (results_none rfl _ _ _) rfl ⟨rfl, ⟨A2, c2, ?_, ?_, hLb, ?_⟩, HS.out.trans hs3⟩
    · rw [heap_setCell_same HL2.out]
      simp
    · have h2 := HQ2.out
      rw [IntsQ, List.length_append]
      refine q_move (by simpa [ints] using h2) (fun k hk => Below.heap_setCell _ _ _ _ (fun e => ?_))
      have := (q_typed h2 k hk).1
      simp at e
      omega
    · exact Nat.le_trans hbw (HS.out.trans hs3).size
  · have hk1 : (x.k == 1) = false := by simpa using hk
    have hv : varsOf [x] = [] := by simp [varsOf, hk]
    rw [hv, List.append_nil]
    have hb1 := heap_alloc_last w (.cells #[.int .i64 x.k, .int .i64 x.vk, .int .i64 x.vn, .int .i64 x.n] 63)
    have f0 := cell_of_row _ w.heap.size 0 _ _ _ hb1
    simp only [List.getElem?_toArray, List.getElem?_cons_zero] at f0
    clear hb1
    go_enter Try.func65, Try.ntmps65
    go_wp2_with fail
    refine bodyPost_end (results_none rfl _ _ _) rfl ⟨rfl, HA.out.below (below_alloc (Below.refl _ _) _), StepM.of_below (below_alloc (Below.refl _ _) _)⟩
theorem heap_grow_old (w : World) (os : Array Obj) {k : Nat} (hk : k < w.heap.size) : (grow w os).heap[k]? = w.heap[k]? := by
  simp [grow, Array.getElem?_append_left hk]
theorem below_grow {n : Nat} (w : World) (os : Array Obj) (hn : n ≤ w.heap.size) : Below n w (grow w os) :=
  ⟨rfl, rfl, rfl, by simp, fun k hk => heap_grow_old w os (by omega)⟩
def may3 (base : Nat) (k : Nat) (o : Obj) : Prop := base ≤ k ∧ ∃ cs fr, o = .cells cs 3 fr
theorem stepM_put {base : Nat} {w : World} {g : Nat} {cur : Array Value} {fr : Nat × Nat} (n : Nat) (hg : base ≤ g) (hh : w.heap[g]? = some (.cells cur 3 fr)) (f : Array Value → Array Value) : StepM (may3 base) w (mapBlock (Sort.ahead w n) g f) :=
  ⟨rfl, rfl, rfl, by simp [mapBlock, Sort.ahead], fun k o hk hn => by
    by_cases e : k = g
    · subst e
      rw [hh] at hk
      cases hk
      exact absurd ⟨hg, _, _, rfl⟩ hn
    · exact (heap_mapBlock_other (Sort.ahead w n) g k f e).trans hk⟩
theorem sort_q {w : World} {base : Nat} {v : Value} {l : List Int} (h : IntsQ w base v l) (hl : l.length < 4611686018427387904) : Calls Try.prog 67 #[v] w fun e w' => e = .returned (.tuple #[]) ∧ IntsQ w' base v (l.mergeSort fun x y => decide (x ≤ y)) ∧ StepM (may3 base) w w' := by
  by_cases h0 : 0 < l.length
  · obtain ⟨g, off, cap, cur, rfl, hg, hh, hnc, hm, hcs, ht⟩ := intsQ_form h h0
    refine (Try.slices_Sort_int g off cap l w (intsQ_holds hh ht) (Array.getElem?_eq_some_iff.1 hh).1 hl).mono ?_
    rintro e w' ⟨rfl, n, os, rfl⟩
    have h1 := intsQ_put (l' := l.mergeSort fun x y => decide (x ≤ y)) hg hh hnc hm hcs (by simp) n
    refine ⟨rfl, ?_, ?_⟩
    · have hml : (l.mergeSort fun x y => decide (x ≤ y)).length = l.length := by simp
      rw [IntsQ, hml]
      rw [IntsQ, hml] at h1
      refine q_move h1 (fun k hk => heap_grow_old _ _ (q_lt h1 k hk))
    · exact (stepM_put n hg hh _).trans (StepM.of_below (below_grow _ _ (Nat.le_refl _)))
  · have hl0 : l = [] := List.eq_nil_of_length_eq_zero (by omega)
    subst hl0
    obtain ⟨A, c, rfl, _⟩ := q_slice h
    refine (Try.slices_Sort_int_none A c w).mono ?_
    rintro e w' ⟨rfl, rfl⟩
    exact ⟨rfl, by simpa using h, StepM.refl _ _⟩
theorem compact_q {w : World} {base : Nat} {v : Value} {l : List Int} (h : IntsQ w base v l) (hl : l.length ≤ 9223372036854775807) :
    Calls Try.prog 68 #[v] w fun e w' => ∃ v', e = .returned v' ∧ IntsQ w' base v' (Lib.compact l) ∧ StepM (may3 base) w w' := by
  by_cases h0 : 0 < l.length
  · obtain ⟨g, off, cap, cur, rfl, hg, hh, hnc, hm, hcs, ht⟩ := intsQ_form h h0
    refine (Try.slices_Compact_int g off cap l w (intsQ_holds hh ht) hl hnc).mono ?_
    rintro e w' ⟨rfl, n, rfl⟩
    have hcl : (Lib.compact l).length ≤ l.length := Lib.compact_length_le l
    have hlen : (Lib.compact l ++ List.replicate (l.length - (Lib.compact l).length) 0).length = l.length := by simp; omega
    have h1 := intsQ_put (l' := Lib.compact l ++ List.replicate (l.length - (Lib.compact l).length) 0) hg hh hnc hm hcs hlen n
    refine ⟨_, rfl, ?_, stepM_put n hg hh _⟩
    rw [IntsQ, hlen] at h1
    have h2 := q_take h1 (m := (Lib.compact l).length) (by omega)
    rw [IntsQ]
    rw [Nat.mul_one] at h2
    simpa [ints] using h2
  · have hl0 : l = [] := List.eq_nil_of_length_eq_zero (by omega)
    subst hl0
    obtain ⟨A, c, rfl, _⟩ := q_slice h
    refine (Try.slices_Compact_int_empty A c w).mono ?_
    rintro e w' ⟨rfl, rfl⟩
    exact ⟨_, rfl, h, StepM.refl _ _⟩
theorem taken_len {vs : List TVrt} {todo : List TSrc} {seen : List Int} {out : List TSrc} (h : Taken vs todo seen out) (hg : ∀ s ∈ todo, GoodS vs.length s) (hc : ∀ v ∈ vs, ∀ s ∈ v.cells, GoodS vs.length s) : out.length ≤ todo.length + wtF vs 0 seen := by
  induction h with
  | nil _ => simp
  | skip hn _ ih =>
    have := ih (fun x hx => hg x (List.mem_cons_of_mem _ hx))
    simp only [List.length_cons]
    omega
  | @virt s todo seen v out hk hn hv _ ih =>
    have h1 := ih (fun x hx => by
      rcases List.mem_append.1 hx with h | h
      · exact hg x (List.mem_cons_of_mem _ h)
      · exact hc _ (List.mem_of_getElem? hv) x h)
    have hp := (hg s (List.mem_cons_self)).1
    have h0 : (0 : Int) ≤ s.n := by
      unfold plainS at hp
      simp [hk] at hp
      omega
    have hw := wtF_open vs 0 s.n.toNat seen v hv (by rw [Nat.zero_add]; rw [show ((s.n.toNat : Nat) : Int) = s.n by omega]; exact hn)
    rw [Nat.zero_add, show ((s.n.toNat : Nat) : Int) = s.n by omega] at hw
    simp only [List.length_cons, List.length_append] at h1 ⊢
    omega
theorem regsOf_len (ls : List TLnk) (B : Nat) (h : ∀ k ∈ ls, k.regs.length ≤ B) : ∀ l : List Int, (regsOf ls l).length ≤ l.length * B
  | [] => by simp [regsOf]
  | n :: l => by
    have h1 := regsOf_len ls B h l
    unfold regsOf at h1 ⊢
    rw [List.flatMap_cons, List.length_append, List.length_cons, Nat.add_mul, Nat.one_mul]
    cases hk : ls[n.toNat]? with
    | none => simp only [List.length_nil]; omega
    | some k => have := h k (List.mem_of_getElem? hk); simp only; omega
theorem takenBy_len {T : TV} {w : World} (hT : T.ok w) (ht : TakeOk T.t) {n : Int} (hn : n < T.t.links.length) (hn1 : -1 ≤ n) {xs : List TSrc} (h : TakenBy T.t n xs) : xs.length ≤ 2199023255552 := by
  obtain ⟨l, hc, htk⟩ := h
  have hlr : ∀ k ∈ T.t.links, k.regs.length ≤ 1048576 := by
    intro k hk
    obtain ⟨j, hj⟩ := List.getElem?_of_mem hk
    obtain ⟨b, o, Aa, ca, hA, hb, c0, _, _, _, _, h4⟩ := lnk_get hT.l.2.2.2 hj
    exact h4.2.2.1
  have hvc : ∀ v ∈ T.t.virts, v.cells.length ≤ 1048576 := by
    intro v hv
    obtain ⟨j, hj⟩ := List.getElem?_of_mem hv
    obtain ⟨_, _, _, _, _, _, _, _, h4⟩ := vrt_get hT.v.2.2.2 hj
    exact h4.2.2.1
  have h1 := taken_len htk (fun s hs => by
    obtain ⟨x, _, hx⟩ := List.mem_flatMap.1 hs
    split at hx
    · rename_i k hk; exact ht.regs k (List.mem_of_getElem? hk) s hx
    · cases hx) ht.cells
  have h2 := regsOf_len T.t.links 1048576 hlr l
  have h3 := wtF_le T.t.virts 0 [] 1048576 hvc
  have h4 := hT.l.2.2.1
  have h5 := hT.v.2.2.1
  have h6 : l.length ≤ 1048576 := by
    have := chain_len ht.up hc hn1
    rw [List.length_reverse] at this
    omega
  have h7 : l.length * 1048576 ≤ 1048576 * 1048576 := Nat.mul_le_mul_right _ h6
  have h8 : T.t.virts.length * 1048576 ≤ 1048576 * 1048576 := Nat.mul_le_mul_right _ h5
  omega
end Go.Proofs.Ytjcfppbahalgbaa
