/- trace.taken: the iterator over what a link takes, by its contract. -/
import Derived.Test.YtjcfppbahalgbaaG
import Derived.Shelf.Abstract
import Derived.OwnWalkIn
import Derived.TacticsInMore
import Derived.LoopNIn
import Derived.LoopIn
import Derived.Sort.LoopGhostIn
namespace Go.Proofs.Ytjcfppbahalgbaa
open Go.RowKit
open Go.Proofs.YtjcfppbahalgbaaW.PrintWords (QRow q_append q_drop q_cells q_of_own q_move q_lt q_typed q_slice)
attribute [local go_sem] Oper.semAt_some
/-- The blocks that the iterator turns: rows of sources; maps. -/
def ownObj : Obj → Prop
  | .cells _ e _ => e = 63
  | .map _ _ => True
  | _ => False
def TSrc.cells (s : TSrc) : List Value := [.int .i64 s.k, .int .i64 s.vk, .int .i64 s.vn, .int .i64 s.n]
def encS (s : TSrc) : Array Value := #[.agg #[.int .i64 s.k, .int .i64 s.vk, .int .i64 s.vn, .int .i64 s.n]]
theorem info33 : (Try.prog.info? 33).map (·.size) = some 17 := by kernel_rfl
def SrcsQ (w : World) (base : Nat) (v : Value) (l : List TSrc) : Prop := QRow w base 63 4 v l.length (l.flatMap TSrc.cells)
theorem at17 {T : TV} {w : World} {b : Nat} (h : At w b 0 T.cells) :
    w.cell? ⟨b, 0, none⟩ = some (.int .i64 T.t.key.m) ∧
    w.cell? ⟨b, 1, none⟩ = some (.int .i64 T.t.key.n) ∧
    w.cell? ⟨b, 2, none⟩ = some (.int .i64 T.t.key.a0) ∧
    w.cell? ⟨b, 3, none⟩ = some (.int .i64 T.t.key.b0) ∧
    w.cell? ⟨b, 4, none⟩ = some (.int .i64 T.t.key.a1) ∧
    w.cell? ⟨b, 5, none⟩ = some (.int .i64 T.t.key.b1) ∧
    w.cell? ⟨b, 6, none⟩ = some (.int .i64 T.t.key.a2) ∧
    w.cell? ⟨b, 7, none⟩ = some (.int .i64 T.t.key.b2) ∧
    w.cell? ⟨b, 8, none⟩ = some (.int .i64 T.t.key.a3) ∧
    w.cell? ⟨b, 9, none⟩ = some (.int .i64 T.t.key.b3) ∧
    w.cell? ⟨b, 10, none⟩ = some (.int .i64 T.t.fn) ∧
    w.cell? ⟨b, 11, none⟩ = some (.int .i64 T.t.pc) ∧
    w.cell? ⟨b, 12, none⟩ = some (.slice T.i.A T.t.ins.length T.i.c) ∧
    w.cell? ⟨b, 13, none⟩ = some (.slice T.o.A T.t.ops.length T.o.c) ∧
    w.cell? ⟨b, 14, none⟩ = some (.slice T.l.A T.t.links.length T.l.c) ∧
    w.cell? ⟨b, 15, none⟩ = some (.slice T.v.A T.t.virts.length T.v.c) ∧
    w.cell? ⟨b, 16, none⟩ = some (.slice T.b.A T.t.back.length T.b.c) := by
  refine ⟨?_, ?_, ?_, ?_, ?_, ?_, ?_, ?_, ?_, ?_, ?_, ?_, ?_, ?_, ?_, ?_, ?_⟩
  · have := h 0 _ rfl; rwa [Nat.zero_add] at this
  · have := h 1 _ rfl; rwa [Nat.zero_add] at this
  · have := h 2 _ rfl; rwa [Nat.zero_add] at this
  · have := h 3 _ rfl; rwa [Nat.zero_add] at this
  · have := h 4 _ rfl; rwa [Nat.zero_add] at this
  · have := h 5 _ rfl; rwa [Nat.zero_add] at this
  · have := h 6 _ rfl; rwa [Nat.zero_add] at this
  · have := h 7 _ rfl; rwa [Nat.zero_add] at this
  · have := h 8 _ rfl; rwa [Nat.zero_add] at this
  · have := h 9 _ rfl; rwa [Nat.zero_add] at this
  · have := h 10 _ rfl; rwa [Nat.zero_add] at this
  · have := h 11 _ rfl; rwa [Nat.zero_add] at this
  · have := h 12 _ rfl; rwa [Nat.zero_add] at this
  · have := h 13 _ rfl; rwa [Nat.zero_add] at this
  · have := h 14 _ rfl; rwa [Nat.zero_add] at this
  · have := h 15 _ rfl; rwa [Nat.zero_add] at this
  · have := h 16 _ rfl; rwa [Nat.zero_add] at this
theorem srcsQ_nil (w : World) (base : Nat) : SrcsQ w base (.slice none 0 0) [] := q_of_own (World.ownsRow_nil w base 63 4)
theorem chain_mem {ls : List TLnk} {n : Int} {l : List Int} (h : Chain ls n l) : ∀ x ∈ l, 0 ≤ x ∧ ∃ k, ls[x.toNat]? = some k := by
  induction h with
  | nil _ => intro x hx; cases hx
  | cons h0 hk _ ih =>
    intro x hx
    rcases List.mem_cons.1 hx with rfl | hx
    · exact ⟨h0, _, hk⟩
    · exact ih x hx
theorem chain_len {ls : List TLnk} (hu : UpOk ls) {n : Int} {l : List Int} (h : Chain ls n l) : -1 ≤ n → (l.length : Int) ≤ n + 1 := by
  induction h with
  | nil _ => intro h; simp; omega
  | cons h0 hk _ ih =>
    intro _
    obtain ⟨h1, h2⟩ := hu _ _ hk
    have := ih h1
    simp only [List.length_cons]
    omega
theorem intsRow {w : World} {base n c : Nat} {A : Option Addr} {l : List Int} (h : IntsQ w base (.slice A n c) l) : RowAt IntR 1 w A l := by
  have hn : n = l.length := by
    obtain ⟨A', c', he, _⟩ := q_slice h
    injection he
  subst hn
  refine (rowAt_q (R := IntR) (fun x => [.int .i64 x]) 1 (fun _ => rfl) (by omega) (fun _ _ => rfl) (base := base) (e := 3) (n := l.length) (c := c) ?_).2
  unfold IntsQ ints at h
  rw [List.map_eq_flatMap] at h
  exact h
/-- Two rows of unlike types: one is written, the other lies as it lay. -/
theorem q_unlike {w w1 : World} {base base' e e' size size' n n' : Nat} {v v' : Value} {xs xs' : List Value} (h : QRow w base e size v n xs) (h' : QRow w base' e' size' v' n' xs') (he : e ≠ e') (hg : w.grownBy w1 v'.ownBlock) : QRow w1 base e size v n xs :=
  q_move h fun k hk => hg.block k (q_lt h k hk) fun hc => by
    obtain ⟨_, c1, h1⟩ := q_typed h k hk
    obtain ⟨_, c2, h2⟩ := q_typed h' k hc.symm
    rw [h1] at h2
    injection h2 with h2
    injection h2 with _ h2
    exact he h2
theorem regsOf_snoc (ls : List TLnk) (l : List Int) (x : Int) (k : TLnk) (h : ls[x.toNat]? = some k) : regsOf ls (l ++ [x]) = regsOf ls l ++ k.regs := by
  simp [regsOf, List.flatMap_append, h]
theorem srcCells_one (l : List TSrc) : ∀ u ∈ l.flatMap TSrc.cells, u.oneCell' = true := by
  intro u hu
  obtain ⟨s, _, hs⟩ := List.mem_flatMap.1 hu
  simp only [TSrc.cells, List.mem_cons, List.not_mem_nil, or_false] at hs
  rcases hs with rfl | rfl | rfl | rfl <;> rfl
theorem srcRow {w : World} {A : Option Addr} {ys : List TSrc} (h : RowAt SrcR 4 w A ys) : 0 < ys.length → ∃ a, A = some a ∧ ∀ j u, (ys.flatMap TSrc.cells)[j]? = some u → w.cell? (a.add j) = some u :=
  rowAt_flat TSrc.cells 4 (fun _ => rfl) (by omega) (fun _ _ _ h => h) h
theorem map_move {w w' : World} {k e : TypeId} {b n : Nat} {D : DataW Unit} (h : w.ownsMap Try.prog k (plainElem Try.prog e) b n D) (hm : w'.heap[b]? = w.heap[b]?) : w'.ownsMap Try.prog k (plainElem Try.prog e) b n D := by
  obtain ⟨es, clock, hb, r⟩ := h
  exact ⟨es, clock, hm.trans hb, r⟩
theorem map_at {w : World} {k e : TypeId} {b n : Nat} {D : DataW Unit} (h : w.ownsMap Try.prog k (plainElem Try.prog e) b n D) : ∃ es clock, w.heap[b]? = some (.map es clock) := by
  obtain ⟨es, clock, hb, r⟩ := h
  exact ⟨es, clock, hb⟩
theorem stepM_alloc (M : Nat → Obj → Prop) (w : World) (o : Obj) : StepM M w (w.alloc o) := StepM.of_below (below_alloc (Below.refl _ _) _)
theorem stepM_grown {M : Nat → Obj → Prop} {w w' : World} {row : Option Nat} (h : w.grownBy w' row) (hr : ∀ k o, row = some k → w.heap[k]? = some o → M k o) : StepM M w w' :=
  ⟨h.os, h.tape, h.output, h.size, fun k o hk hn => (h.block k (Array.getElem?_eq_some_iff.1 hk).1 (fun e => hn (hr k o e.symm hk))).trans hk⟩
theorem stepM_row {M : Nat → Obj → Prop} {w w' : World} {base e size n : Nat} {v : Value} {xs : List Value} (h : StepM M w w') (hq : QRow w base e size v n xs) (hM : ∀ k c fr, ¬ M k (.cells c e fr)) : QRow w' base e size v n xs :=
  q_move hq fun k hk => by
    obtain ⟨_, c, hc⟩ := q_typed hq k hk
    rw [hc]
    exact h.same k _ hc (hM _ _ _)
/-- The kit's law on a look-up, for an operation behind a guard that says yes. -/
theorem wpListIn_lookup_g {F : Fence} {nF : Nat} {P : Program} (w : World) {ops : Array Oper} {rest : List Oper} {o : Oper} {a : Act} {Q : Exit → Act → World → Prop}
    (hw : Region.wanted o (yielded ops a.tmps) = true) (m x : Operand) (t : TypeId) (hop : o.op = Op.lookup t m x false)
    (k e : TypeId) (q : IntKind) (K : Maps.Keyed P k) (ht : P.underlying t = some (.map k e)) (he : P.underlying e = some (.int q)) (hz : (zeroValue e).run P w = .ok (.int q 0) w) (b n : Nat) (D : DataW Unit)
    (hm : a.eval m = .map (some b)) (hown : w.ownsMap P k (plainElem P e) b n D) (key : Value) (kl : Lit) (hx : a.eval x = key) (hkey : keyOf P k key = some kl)
    (hK : ∀ c : Int, D.atKey kl (.lit (.int q 0)) = .lit (.int q c) → (Lit.int q c).wf = true → wpListIn F nF P ops Q rest (a.put o.dst (.int q c)) w) :
    wpListIn F nF P ops Q (o :: rest) a w := by
  refine BigFrame.wpListIn_want hw fun K' hK' => ?_
  obtain ⟨c, hrun, hat, hwc⟩ := hown.lookup_int K ht he hz hkey
  unfold Oper.wpIn
  refine ⟨by simp [Oper.about, hop], ?_⟩
  rw [Oper.semAt_plain F _ _ (by rw [hop]; intro c hc'; cases hc')]
  simp [execOp, hop, hm, hx, hrun, Result.andThen]
  exact hK' _ _ (hK c hat hwc)
set_option maxRecDepth 100000 in
set_option maxHeartbeats 3200000 in
theorem taken1_any (T : TV) (n : Int) (bt bn : Nat) (W0 W1 : World) (hT : T.ok W0) (ht : TakeOk T.t) (hn : n < T.t.links.length) (hn1 : -1 ≤ n) (hB1 : Below W0.heap.size W0 W1)
    (hbt : W1.heap[bt]? = some (.cells T.cells.toArray 33 (0, 0))) (hbn : W1.cell? ⟨bn, 0, none⟩ = some (.int .i64 n)) (MB : Nat → Obj → Prop) (hMB : ∀ k o, MB k o → W0.heap.size ≤ k ∧ k ≠ bt ∧ ¬ ownObj o) (hb0 : W0.heap.size ≤ bt) :
    IterP Try.prog 115 #[.pointer (some ⟨bt, 0, none⟩), .pointer (some ⟨bn, 0, none⟩)] encS (TakenBy T.t n) (fun pre x => GoodS T.t.virts.length x ∧ ∃ out, TakenBy T.t n (pre ++ x :: out)) MB (fun D k o => D ≤ k ∧ ownObj o) W1 := by
  intro l J E W hW hJ hY h0
  rw [← callsIn_wide (n := 0)]
  refine callsIn_of_wp Try.func115 rfl trivial ?_ rfl
  simp only [Try.ntmps115, List.size_toArray, List.length_cons, List.length_nil, Nat.reduceAdd, Nat.reduceSub, Array.replicate_succ, Array.replicate_zero, List.push_toArray, List.append_toArray, List.nil_append, List.cons_append]
  obtain ⟨i0, hi, hz0, hz1, hz2⟩ := info_parts info63
  have hBW : Below W0.heap.size W0 W := hB1.trans (hW.mono hB1.size)
  have hTW := hT.below hBW
  have hbx : W.heap[bt]? = some (.cells T.cells.toArray 33 (0, 0)) := (hW.block bt (Array.getElem?_eq_some_iff.1 hbt).1).trans hbt
  have hbn' := cell_later hW hbn
  have HJ := Lib.hid hJ
  have HY := Lib.hid hY
  have HMB := Lib.hid hMB
  have HW0 := Lib.hid hBW
  clear hJ hY hMB hBW
  have HX := Lib.hid hbx
  clear hbx hbt
  gi_wp2_with (first | (refine wpListIn_load_row rfl 33 (.tmp 1) rfl bt rfl 33 _ _ _ HX.out Try.underlying33 rfl info33 ?_) | (refine ⟨trivial, rfl, ?_⟩; gi_at_call 116; refine (callsIn_wide.2 (chain_any T n _ hTW ht.up hn hn1)).mono ?_; rintro e w' ⟨v, lc, rfl, hq, hch, hB⟩; obtain ⟨Ac, cc, rfl, hcc⟩ := q_slice hq))
  have hlc : (lc.length : Int) ≤ 1048577 := by
    have h1 := chain_len ht.up hch hn1
    have h2 := hTW.l.2.2.1
    rw [List.length_reverse] at h1
    omega
  have HQ0 := Lib.hid hq
  have HC := Lib.hid hch
  have h14 : W.cell? ⟨bt, 14, none⟩ = some (.slice T.l.A T.t.links.length T.l.c) := by rw [cell_of_row W bt 14 _ _ _ HX.out]; rfl
  have hD : bt < W.heap.size := lt_of_cell h14
  have hlenl : (T.t.links.length : Int) ≤ 1048576 := by have := hTW.l.2.2.1; omega
  clear hq hch hbn'
  gi_loopw [4, 6, 13] (fun s4 _ s13 wr => ∃ (k : Nat) (todo : List TSrc), s13 = .int .i64 k ∧ k ≤ lc.length ∧ SrcsQ wr W.heap.size s4 todo ∧ Hid (todo = regsOf T.t.links (lc.take k)) ∧ (todo.length : Int) ≤ k * 1048576 ∧ Below W.heap.size W wr ∧
      Hid (IntsQ wr W.heap.size (.slice Ac lc.length cc) lc))
    (fun _ _ s13 _ => lc.length - (intOf s13).toNat)
  case atStart => exact ⟨0, [], rfl, Nat.zero_le _, srcsQ_nil _ _, rfl, by simp, hB, HQ0.out⟩
  case round =>
    obtain ⟨k, todo, rfl, hk, hq, htd, htl, hBr, hqc⟩ := hrel
    by_cases hlt : k < lc.length
    · obtain ⟨x, hx⟩ : ∃ x, lc[k]? = some x := ⟨_, List.getElem?_eq_getElem hlt⟩
      obtain ⟨hx0, lk, hlk⟩ := chain_mem HC.out x (by rw [List.mem_reverse]; exact List.mem_of_getElem? hx)
      obtain ⟨c, rfl⟩ : ∃ c : Nat, x = c := ⟨x.toNat, by omega⟩
      rw [Int.toNat_natCast] at hlk
      have hcl := (List.getElem?_eq_some_iff.1 hlk).1
      obtain ⟨bc, oc, hAc, hbc, d0⟩ := int_get (intsRow hqc.out) hx
      have hTr := hTW.below (hBr.mono (Nat.le_refl _))
      obtain ⟨b, o, Aa, ca, hA, hb, _, _, _, _, e4, hok⟩ := lnk_get hTr.l.2.2.2 hlk
      have g14 := cell_later (hBr.mono (Nat.le_refl _)) h14
      obtain ⟨A4, c4, rfl, hc4⟩ := q_slice hq
      have HQ := Lib.hid hq
      have HLK := Lib.hid hlk
      have HXX := Lib.hid hx
      have hrl := hok.2.2.1
      subst hAc
      rw [hA] at g14
      have HA := Lib.hid hA
      have HTr := Lib.hid hTr
      clear hq hlk hx hA hTr h14 hTW
      gi_wp2_with (first | (gi_at_builtin; refine wpListIn_append_q W.heap.size rfl _ _ 31 63 i0 _ 4 32 rfl Try.underlying31 hi hz0 hz1 hz2 rfl (by decide) rfl HQ.out (lk.regs.flatMap TSrc.cells) rfl (flatMap_length _ 4 (fun _ => rfl) _) ?c1 (srcCells_one _) ?c3 ?c4 ?c5 ?_))
      case c1 => exact srcRow hok.2.2.2
      case c3 => simp only [maxLen]; omega
      case c4 => omega
      case c5 => exact hBr.size
      intro v1 w1 hq1 hg1 hat
      have hb1 : Below W.heap.size W w1 := hBr.grown hg1 hBr.size (fun k e => (q_typed HQ.out k e).1)
      have HQ1 := Lib.hid hq1
      have HB1 := Lib.hid hb1
      have HC1 : Hid (IntsQ w1 W.heap.size (.slice (some ⟨bc, oc, none⟩) lc.length cc) lc) := q_unlike hqc.out HQ.out (by decide) hg1
      clear hq1 hb1 hg1 hat
      gi_wp2_with fail
      go_roundw
      case rel =>
        refine ⟨k + 1, todo ++ lk.regs, by go_num, by omega, ?_, ?_, by simp; omega, HB1.out, HC1⟩
        · have := HQ1.out
          unfold SrcsQ
          rw [List.flatMap_append, List.length_append]
          exact this
        · show _ = _
          rw [List.take_succ_eq_append_getElem hlt, htd.out]
          have hx' : lc[k] = (c : Int) := (List.getElem?_eq_some_iff.1 HXX.out).2
          rw [hx', regsOf_snoc _ _ _ lk (by simpa using HLK.out)]
      case measure => simp [intOf]; omega
    · have hkl : k = lc.length := by omega
      subst hkl
      rw [List.take_length] at htd
      obtain ⟨A4, c4, rfl, hc4⟩ := q_slice hq
      have HQ := Lib.hid hq
      clear hq
      have hmm := @run_makeMap Try.prog
      gi_wp2_with fail
      have HR := Lib.hid hqc
      have hD2 := hBr.size
      obtain ⟨W2, hW2⟩ : ∃ W2, wr.alloc (.map #[] 0) = W2 := ⟨_, rfl⟩
      have hB2 : Below W.heap.size W W2 := by rw [← hW2]; exact hBr.alloc hBr.size _
      have hown0 : W2.ownsMap Try.prog 3 (plainElem (H := Unit) Try.prog 3) wr.heap.size 0 (seenD []) := by rw [← hW2]; exact World.ownsMap_made wr _ _ _
      have hq0 : SrcsQ W2 W.heap.size (.slice A4 todo.length c4) todo := by
        rw [← hW2]; exact q_below HQ.out (below_alloc (Below.refl _ _) _)
      have hbt2 : W2.heap[bt]? = some (.cells T.cells.toArray 33 (0, 0)) := (hB2.block bt hD).trans HX.out
      have hj0 : J [] W2 := HJ.out _ _ _ (StepM.of_below hB2) h0
      have hgood0 : ∀ s ∈ todo, GoodS T.t.virts.length s := by
        intro s hs
        rw [htd.out] at hs
        obtain ⟨x, _, hx⟩ := List.mem_flatMap.1 hs
        split at hx
        · rename_i k hk; exact ht.regs k (List.mem_of_getElem? hk) s hx
        · cases hx
      have hwt0 := wtF_le T.t.virts 0 [] 1048576 (fun v hv => ?c0)
      case c0 =>
        obtain ⟨j, hj⟩ := List.getElem?_of_mem hv
        obtain ⟨_, _, _, _, _, _, _, _, h4⟩ := vrt_get hTW.v.2.2.2 hj
        exact h4.2.2.1
      have hvl := hTW.v.2.2.1
      have htk0 : ∀ out, Taken T.t.virts todo [] out → TakenBy T.t n ([] ++ out) := fun out h => ⟨lc, HC.out, by rw [← htd.out]; exact h⟩
      have HM := Lib.hid hown0
      have HQ2 := Lib.hid hq0
      have HX2 := Lib.hid hbt2
      have HG := Lib.hid hgood0
      have HT := Lib.hid htk0
      have HT0 := Lib.hid hT
      have hBx : Below W0.heap.size W0 W2 := HW0.out.trans (hB2.mono HW0.out.size)
      have hD3 : W.heap.size ≤ W2.heap.size := hB2.size
      rw [hW2]
      obtain ⟨M, hMe⟩ : ∃ M, wr.heap.size = M := ⟨_, rfl⟩
      have hMb : W.heap.size ≤ M := by rw [← hMe]; exact hD2
      rw [hMe] at HM
      rw [hMe]
      clear hown0 hq0 hbt2 hgood0 htk0 hW2 HQ htd hqc hTW hT hmm h14 HC HX h0
      gi_loopg [4] (todo.length + wtF T.t.virts 0 []) (fun g s4 wr2 => ∃ pre todo2 seen, SrcsQ wr2 W.heap.size s4 todo2 ∧ Hid (J pre wr2) ∧ Below W0.heap.size W0 wr2 ∧ W.heap.size ≤ wr2.heap.size ∧ Hid (wr2.heap[bt]? = some (.cells T.cells.toArray 33 (0, 0))) ∧
          Hid (wr2.ownsMap Try.prog 3 (plainElem (H := Unit) Try.prog 3) M seen.length (seenD seen)) ∧ Hid (g = todo2.length + wtF T.t.virts 0 seen) ∧ Hid (seen.length + g ≤ todo.length + wtF T.t.virts 0 []) ∧ Hid (∀ s ∈ todo2, GoodS T.t.virts.length s) ∧ Hid (∀ out, Taken T.t.virts todo2 seen out → TakenBy T.t n (pre ++ out)))
      case atStart => exact ⟨[], todo, [], HQ2.out, hj0, hBx, hD3, HX2.out, HM.out, rfl, by simp [Hid], HG.out, HT.out⟩
      case round =>
        obtain ⟨pre, todo2, seen, hq, hj, hBx2, hD4, hX, hM, hg, hs, hG, hK⟩ := hrel
        obtain ⟨A5, c5, rfl, hc5⟩ := q_slice hq
        cases todo2 with
        | nil =>
          gi_wp2_with fail
          refine bodyPost_end (results_none rfl _ _ _) rfl (.inl ⟨rfl, pre, ?_, hj.out⟩)
          have := hK.out [] (.nil _)
          simpa using this
        | cons s rest =>
          obtain ⟨_, hrow⟩ := rowAt_q (R := SrcR) TSrc.cells 4 (fun _ => rfl) (by omega) (fun _ _ => rfl) hq
          obtain ⟨b, o, rfl, hb, e0, e1, e2, e3⟩ := src_get hrow (j := 0) (s := s) rfl
          simp only [Nat.zero_mul, Nat.add_zero] at e0 e1 e2 e3
          obtain ⟨hp, hn63⟩ := hG.out s List.mem_cons_self
          have hcut := YtjcfppbahalgbaaW.PrintWords.cut_from 31 63 .i64 Try.underlying31 hi 4 hz1 (some ⟨b, o, none⟩) (rest.length + 1) c5 1 (by omega) (by omega)
          have hq' : SrcsQ wr W.heap.size _ rest := q_drop (k := 1) hq (by simp)
          have hq2 := q_below hq' (below_alloc (Below.refl _ _) (.cells #[.int .i64 s.k, .int .i64 s.vk, .int .i64 s.vn, .int .i64 s.n] 63))
          simp only [show (1 : Int).toNat = 1 from rfl, Nat.add_sub_cancel, List.length_cons] at hcut hq2
          obtain ⟨A6, hA6⟩ : ∃ A6, (if c5 = 1 then some (⟨b, o, none⟩ : Addr) else (some (⟨b, o, none⟩ : Addr)).map (·.add (1 * 4))) = A6 := ⟨_, rfl⟩
          rw [hA6] at hcut hq2
          obtain ⟨W5, hW5⟩ : ∃ W5, wr.alloc (.cells #[.int .i64 s.k, .int .i64 s.vk, .int .i64 s.vn, .int .i64 s.n] 63) = W5 := ⟨_, rfl⟩
          rw [hW5] at hq2
          have hstep : StepM (fun k o => W.heap.size ≤ k ∧ ownObj o) wr W5 := by rw [← hW5]; exact stepM_alloc _ _ _
          have hbelow5 : Below wr.heap.size wr W5 := by rw [← hW5]; exact below_alloc (Below.refl _ _) _
          have hj5 := HJ.out _ _ _ hstep hj.out
          have hbox5 : W5.heap[wr.heap.size]? = some (.cells #[.int .i64 s.k, .int .i64 s.vk, .int .i64 s.vn, .int .i64 s.n] 63 (0, 0)) := by rw [← hW5]; exact heap_alloc_last wr _
          obtain ⟨fn, tmps, assign, body, hy, hR⟩ := HY.out pre s W5 hj5 ⟨hG.out s List.mem_cons_self, taken_head ht.cells hG.out hK.out⟩ (Nat.le_trans hD4 hbelow5.size)
          have f0 := cell_of_row W5 wr.heap.size 0 _ _ _ hbox5
          have f1 := cell_of_row W5 wr.heap.size 1 _ _ _ hbox5
          have f2 := cell_of_row W5 wr.heap.size 2 _ _ _ hbox5
          have f3 := cell_of_row W5 wr.heap.size 3 _ _ _ hbox5
          simp only [List.getElem?_toArray, List.getElem?_cons_zero, List.getElem?_cons_succ] at f0 f1 f2 f3
          have HQ := Lib.hid hq2
          have HP := Lib.hid hp
          have HN := Lib.hid hn63
          have HB5 := Lib.hid hbelow5
          have HX5 := Lib.hid hbox5
          have HW5 := Lib.hid hW5
          simp only [encS] at hy
          clear hq hq' hq2 hrow hp hn63 hA6 hbelow5 hbox5 hstep
          gi_wp2_with (first | (rw [HW5.out]; gi_wp2_with fail))
          refine ⟨rfl, hR.mono ?_⟩
          rintro e W6 (⟨rfl, hj6, hst6⟩ | ⟨ch, rfl, hE6⟩)
          rotate_left
          · gi_wp2_with fail
            exact ⟨rfl, .inr ⟨ch, rfl, hE6⟩⟩
          have hb6 := hst6.same _ _ HX5.out (fun hm => (HMB.out _ _ hm).2.2 rfl)
          have g0 := cell_of_row W6 wr.heap.size 0 _ _ _ hb6
          have g3 := cell_of_row W6 wr.heap.size 3 _ _ _ hb6
          simp only [List.getElem?_toArray, List.getElem?_cons_zero, List.getElem?_cons_succ] at g0 g3
          have hq6 := stepM_row hst6 HQ.out (fun k c fr hm => (HMB.out _ _ hm).2.2 rfl)
          have hbx6 := hst6.same _ _ ((HB5.out.block bt (by have := hBx2.size; exact (Array.getElem?_eq_some_iff.1 hX.out).1)).trans hX.out) (fun hm => (HMB.out _ _ hm).2.1 rfl)
          obtain ⟨es, clk, hme⟩ := map_at hM.out
          have hm5 := (HB5.out.block M (Array.getElem?_eq_some_iff.1 hme).1).trans hme
          have hm6 := map_move hM.out ((hst6.same _ _ hm5 (fun hm => (HMB.out _ _ hm).2.2 trivial)).trans hme.symm)
          have hB56 : Below W0.heap.size W5 W6 := hst6.below (fun k o hm => (HMB.out _ _ hm).1) (Nat.le_trans hBx2.size HB5.out.size)
          have hBx6 : Below W0.heap.size W0 W6 := (hBx2.trans (HB5.out.mono hBx2.size)).trans hB56
          have hD6 : W.heap.size ≤ W6.heap.size := Nat.le_trans hD4 (Nat.le_trans HB5.out.size hst6.size)
          have hT6 := HT0.out.below hBx6
          have HJ6 := Lib.hid hj6
          have HQ6 := Lib.hid hq6
          have HX6 := Lib.hid hbx6
          have HM6 := Lib.hid hm6
          have HB6 := Lib.hid hb6
          have HST := Lib.hid hst6
          clear hb6 hq6 hbx6 hme hm5 hm6 hB56 hst6 hj6 f0 f1 f2 f3
          by_cases hk2 : s.k = 2
          · have hpp := HP.out
            simp only [plainS, hk2] at hpp
            simp at hpp
            obtain ⟨⟨hn0, hn1⟩, _⟩ := hpp
            obtain ⟨c, hc⟩ : ∃ c : Nat, s.n = c := ⟨s.n.toNat, by omega⟩
            obtain ⟨v, hv⟩ : ∃ v, T.t.virts[c]? = some v := ⟨_, List.getElem?_eq_getElem (by omega)⟩
            obtain ⟨vb, vo, Aa, ca, hA, hvb, v0, v1, hok⟩ := vrt_get HT0.out.v.2.2.2 hv
            have g15 : W6.cell? ⟨bt, 15, none⟩ = some (.slice T.v.A T.t.virts.length T.v.c) := by rw [cell_of_row W6 bt 15 _ _ _ HX6.out]; rfl
            rw [hA] at g15
            have hwf : (Lit.int .i64 s.n).wf = true := WalkArith.wf_i64 HN.out
            rw [hk2] at g0
            rw [hc] at g3 hwf
            have hcv : (c : Int) < T.t.virts.length := by omega
            have hcv0 : c < T.t.virts.length := by omega
            have HK2 := Lib.hid hk2
            have HC := Lib.hid hc
            have HV := Lib.hid hv
            have HOK := Lib.hid hok
            clear hk2 hc hv hok hA hT6
            by_cases hmem : (c : Int) ∈ seen
            · have HME := Lib.hid hmem
              clear hmem
              gi_wp2_with (gi_at_lookup; refine wpListIn_lookup_g _ rfl _ _ 80 rfl 3 3 .i64 (Maps.int_keyed Try.underlying3) Try.underlying80 Try.underlying3 (Try.zeroValue3 _) M seen.length (seenD seen) rfl HM6.out _ (.int .i64 c) rfl (Maps.keyOf_int_mk Try.underlying3 hwf) ?_; intro lkv hat hlw; obtain rfl : lkv = 1 := by (rw [seenD_at, if_pos HME.out] at hat; injection hat with h1; injection h1 with _ h2; exact h2.symm))
              gi_roundg (rest.length + wtF T.t.virts 0 seen)
              case measure => rw [hg.out]; simp
              case rel =>
                refine ⟨pre ++ [s], rest, seen, HQ6.out, HJ6.out, hBx6, hD6, HX6.out, HM6.out, rfl, ?_, fun x hx => hG.out x (List.mem_cons_of_mem _ hx), ?_⟩
                · have h1 := hs.out
                  have h2 := hg.out
                  simp only [List.length_cons] at h2
                  show _ ≤ _
                  omega
                · intro out h
                  rw [List.append_assoc]
                  exact hK.out _ (.skip (fun hh => hh.2 (by rw [HC.out]; exact HME.out)) h)
            · have HME := Lib.hid hmem
              clear hmem
              have hwt := wtF_open T.t.virts 0 c seen v HV.out (by simpa using HME.out)
              rw [Nat.zero_add] at hwt
              have hgg := hg.out
              have hss := hs.out
              rw [hwt, List.length_cons] at hgg
              have hlen : seen.length < maxLen := by simp only [maxLen]; omega
              have HLEN := Lib.hid hlen
              have HGG := Lib.hid hgg
              have HSS := Lib.hid hss
              clear hwt hgg hss hlen
              gi_wp2_with (first | (gi_at_lookup; refine wpListIn_lookup_g _ rfl _ _ 80 rfl 3 3 .i64 (Maps.int_keyed Try.underlying3) Try.underlying80 Try.underlying3 (Try.zeroValue3 _) M seen.length (seenD seen) rfl HM6.out _ (.int .i64 c) rfl (Maps.keyOf_int_mk Try.underlying3 hwf) ?_; intro lkv hat hlw; obtain rfl : lkv = 0 := by (rw [seenD_at, if_neg HME.out] at hat; injection hat with h1; injection h1 with _ h2; exact h2.symm)) | (gi_at_mapUpdate; refine wpListIn_mapUpdate_own (H := Unit) _ rfl _ _ _ 80 rfl 3 3 (Maps.int_keyed Try.underlying3) Try.underlying80 _ M seen.length (seenD seen) rfl HM6.out HLEN.out _ _ (.int .i64 c) rfl rfl (Maps.keyOf_int_mk Try.underlying3 hwf) (.lit (.int .i64 1)) [] (plainElem_int Try.underlying3 (by decide)) ?_))
              intro w7 hm7 hg7
              obtain ⟨es6, clk6, hme6⟩ := map_at HM6.out
              have hMlt := (Array.getElem?_eq_some_iff.1 hme6).1
              have hWlt := (Array.getElem?_eq_some_iff.1 HB6.out).1
              have hMne : wr.heap.size ≠ M := fun e => by have h1 := HB6.out; rw [e, hme6] at h1; cases h1
              have hB7 : Below W0.heap.size W0 w7 := hBx6.grown hg7 hBx6.size (fun k e => by cases e; omega)
              have hbx7 : w7.heap[bt]? = some (.cells T.cells.toArray 33 (0, 0)) := (hg7.block bt (Array.getElem?_eq_some_iff.1 HX6.out).1 (fun e => by cases e; omega)).trans HX6.out
              have q15 : w7.cell? ⟨bt, 15, none⟩ = some (.slice (some ⟨vb, vo, none⟩) T.t.virts.length T.v.c) := hg7.cell g15 (by show some bt ≠ some M; intro e; injection e with e; omega)
              have q3 : w7.cell? ⟨wr.heap.size, 3, none⟩ = some (.int .i64 c) := hg7.cell g3 (fun e => by injection e with e; exact hMne e)
              have q1 := cell_later hB7 v1
              have hq7 := q_move HQ6.out (w1 := w7) (fun k hk => hg7.block k (q_lt HQ6.out k hk) (fun e => by
                obtain ⟨_, cc, h1⟩ := q_typed HQ6.out k hk
                cases e
                rw [hme6] at h1
                cases h1))
              have hst7 : StepM (fun k o => W.heap.size ≤ k ∧ ownObj o) W6 w7 := stepM_grown hg7 (fun k o e ho => by cases e; rw [hme6] at ho; cases ho; exact ⟨hMb, trivial⟩)
              have hj7 := HJ.out _ _ _ hst7 HJ6.out
              have hcl : v.cells.length ≤ 1048576 := HOK.out.2.2.1
              have hD7 : W.heap.size ≤ w7.heap.size := Nat.le_trans hD6 hg7.size
              have HM7 := Lib.hid hm7
              have HQ7 := Lib.hid hq7
              have HX7 := Lib.hid hbx7
              have HJ7 := Lib.hid hj7
              have HN7 := Lib.hid hMne
              clear hm7 hq7 hbx7 hj7 hst7 hg7 hme6 g0 g3 g15 hMne
              have hgg := HGG.out
              have hss := HSS.out
              gi_wp2_with (first | (gi_at_builtin; refine wpListIn_append_q W.heap.size rfl _ _ 31 63 i0 _ 4 32 rfl Try.underlying31 hi hz0 hz1 hz2 rfl (by decide) rfl HQ7.out (v.cells.flatMap TSrc.cells) rfl (flatMap_length _ 4 (fun _ => rfl) _) ?d1 (srcCells_one _) ?d3 ?d4 ?d5 ?_))
              case d1 => exact srcRow (RowAt.below HOK.out.2.2.2 hB7 (fun _ _ h => h))
              case d3 => simp only [maxLen]; omega
              case d4 => omega
              case d5 => exact hD7
              intro v8 w8 hq8 hg8 hat8
              have hst8 : StepM (fun k o => W.heap.size ≤ k ∧ ownObj o) w7 w8 := stepM_grown hg8 (fun k o e ho => by
                obtain ⟨h1, cc, h2⟩ := q_typed HQ7.out k e
                rw [h2] at ho
                cases ho
                exact ⟨h1, rfl⟩)
              have hj8 := HJ.out _ _ _ hst8 HJ7.out
              have hB8 : Below W0.heap.size W0 w8 := hB7.grown hg8 hB7.size (fun k e => by have := (q_typed HQ7.out k e).1; omega)
              have hbx8 := (hg8.block bt (Array.getElem?_eq_some_iff.1 HX7.out).1 (fun e => by have := (q_typed HQ7.out bt e.symm).1; omega)).trans HX7.out
              obtain ⟨es7, clk7, hme7⟩ := map_at HM7.out
              have hm8 := map_move HM7.out (hg8.block M (Array.getElem?_eq_some_iff.1 hme7).1 (fun e => by
                obtain ⟨_, cc, h2⟩ := q_typed HQ7.out M e.symm
                rw [hme7] at h2
                cases h2))
              have HJ8 := Lib.hid hj8
              have HX8 := Lib.hid hbx8
              have HM8 := Lib.hid hm8
              have HQ8 := Lib.hid hq8
              have hD8 : W.heap.size ≤ w8.heap.size := Nat.le_trans hD7 hg8.size
              clear hj8 hbx8 hm8 hq8 hg8 hat8 hst8 hme7 q15 q3 q1
              gi_wp2_with fail
              gi_roundg ((rest ++ v.cells).length + wtF T.t.virts 0 ((c : Int) :: seen))
              case measure => rw [hg.out, wtF_open T.t.virts 0 c seen v HV.out (by simpa using HME.out)]; simp; omega
              case rel =>
                refine ⟨pre ++ [s], rest ++ v.cells, (c : Int) :: seen, ?_, HJ8.out, hB8, hD8, HX8.out, HM8.out, rfl, ?_, ?_, ?_⟩
                · have := HQ8.out
                  unfold SrcsQ
                  rw [List.flatMap_append, List.length_append]
                  exact this
                · show _ ≤ _
                  simp only [List.length_append, List.length_cons]
                  omega
                · intro x hx
                  rcases List.mem_append.1 hx with hx | hx
                  · exact hG.out x (List.mem_cons_of_mem _ hx)
                  · exact ht.cells v (List.mem_of_getElem? HV.out) x hx
                · intro out h
                  rw [List.append_assoc]
                  refine hK.out _ (.virt HK2.out (by rw [HC.out]; exact HME.out) (by rw [HC.out]; simpa using HV.out) ?_)
                  rw [HC.out]
                  exact h
          · have HK2 := Lib.hid hk2
            clear hk2
            have hkk : (s.k == 2) = false := by simpa using HK2.out
            gi_wp2_with fail
            gi_roundg (rest.length + wtF T.t.virts 0 seen)
            case measure => rw [hg.out]; simp
            case rel =>
              refine ⟨pre ++ [s], rest, seen, HQ6.out, HJ6.out, hBx6, hD6, HX6.out, HM6.out, rfl, ?_, fun x hx => hG.out x (List.mem_cons_of_mem _ hx), ?_⟩
              · have h1 := hs.out
                have h2 := hg.out
                simp only [List.length_cons] at h2
                show _ ≤ _
                omega
              · intro out h
                rw [List.append_assoc]
                exact hK.out _ (.skip (fun hh => HK2.out hh.1) h)
end Go.Proofs.Ytjcfppbahalgbaa
