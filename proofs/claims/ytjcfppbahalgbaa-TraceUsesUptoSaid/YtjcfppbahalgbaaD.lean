/- trace.chain: a link and those above it, the outermost one first. -/
import Derived.Test.YtjcfppbahalgbaaB
import Derived.Test.YtjcfppbahalgbaaE
import Derived.Test.YtjcfppbahalgbaaShelf
namespace Go.Proofs.Ytjcfppbahalgbaa
open Go.RowKit
open Go.Proofs.YtjcfppbahalgbaaW.PrintWords (QRow q_append q_drop q_cells q_of_own q_move q_lt q_typed q_slice)
theorem info3 : (Try.prog.info? 3).map (fun i => (i.zero, i.size, i.bytes)) = some (some (.int .i64 0), 1, 8) := by kernel_rfl
theorem info63 : (Try.prog.info? 63).map (fun i => (i.zero, i.size, i.bytes)) = some (some (.agg #[.int .i64 0, .int .i64 0, .int .i64 0, .int .i64 0]), 4, 32) := by kernel_rfl
/-- l is link n and those above it, the innermost one first. -/
inductive Chain (ls : List TLnk) : Int → List Int → Prop
  | nil {n : Int} : n < 0 → Chain ls n []
  | cons {n : Int} {k : TLnk} {l : List Int} : 0 ≤ n → ls[n.toNat]? = some k → Chain ls k.up l → Chain ls n (n :: l)
/-- Links as they should be: each above one lies ahead of it. -/
def UpOk (ls : List TLnk) : Prop := ∀ (i : Nat) (k : TLnk), ls[i]? = some k → -1 ≤ k.up ∧ k.up < i
/-- slices.Reverse at a row that the call owns. -/
theorem reverse_q {w : World} {base B : Nat} {v : Value} {l : List Int} (h : IntsQ w base v l) (hB : B ≤ base) : Calls Try.prog 131 #[v] w fun e w' => e = .returned (.tuple #[]) ∧ IntsQ w' base v l.reverse ∧ Below B w w' := by
  by_cases h0 : 0 < l.length
  · obtain ⟨g, off, cap, cur, rfl, hg, hh, hnc, hm, hcs, ht⟩ := intsQ_form h h0
    refine (Try.slices_Reverse_int g off cap l w (intsQ_holds hh ht) (by simp only [maxLen] at hm; omega)).mono ?_
    rintro e w' ⟨rfl, n, rfl⟩
    exact ⟨rfl, intsQ_put hg hh hnc hm hcs (by simp) n, below_mapBlock (below_ahead (Below.refl _ _) n) (by omega) _⟩
  · have hl : l = [] := List.eq_nil_of_length_eq_zero (by omega)
    subst hl
    obtain ⟨A, c, rfl, _⟩ := q_slice h
    refine (Try.slices_Reverse_int_empty A c w).mono ?_
    rintro e w' ⟨rfl, rfl⟩
    exact ⟨rfl, h, Below.refl _ _⟩
set_option maxRecDepth 100000 in
set_option maxHeartbeats 1600000 in
theorem chain_any (T : TV) (n : Int) (w : World) (hT : T.ok w) (hup : UpOk T.t.links) (hn : n < T.t.links.length) (hn1 : -1 ≤ n) :
    Calls Try.prog 116 #[.agg T.cells.toArray, .int .i64 n] w fun e w' => ∃ v l, e = .returned v ∧ IntsQ w' w.heap.size v l ∧ Chain T.t.links n l.reverse ∧ Below w.heap.size w w' := by
  obtain ⟨i0, hi, hz0, hz1, hz2⟩ := info_parts info3
  have hl := hT.l
  unfold TV.cells
  go_enter Try.func116, Try.ntmps116
  go_wp2_with fail
  have hbox := cell_of_row _ w.heap.size 14 T.cells.toArray 33 (0, 0) (heap_alloc_last w (.cells T.cells.toArray 33))
  obtain ⟨W0, hW0⟩ : ∃ W0, w.alloc (.cells T.cells.toArray 33) = W0 := ⟨_, rfl⟩
  have hB0 : Below w.heap.size w W0 := by rw [← hW0]; exact below_alloc (Below.refl _ _) _
  have hz0' : W0.heap.size = w.heap.size + 1 := by rw [← hW0]; simp
  have h14 : W0.cell? ⟨w.heap.size, 14, none⟩ = some (.slice T.l.A T.t.links.length T.l.c) := by rw [← hW0]; exact hbox
  have hl0 := RowAt.below hl.2.2.2 hB0 (fun _ _ ⟨v, e, h⟩ => ⟨v, e, sl_src_below hB0 h⟩)
  have hlen : (T.t.links.length : Int) ≤ 1048576 := by have := hl.2.2.1; omega
  unfold TV.cells at hW0
  rw [hW0]
  clear hbox hW0 hl
  have HZ := Lib.hid hz0'
  clear hz0'
  go_loopw [1, 5] (fun s1 s5 wr => ∃ (cur : Int) (acc : List Int), s1 = .int .i64 cur ∧ IntsQ wr W0.heap.size s5 acc ∧ Below W0.heap.size W0 wr ∧ (acc.length : Int) + cur ≤ n ∧ -1 ≤ cur ∧ cur < T.t.links.length ∧
      Hid (∀ l, Chain T.t.links cur l → Chain T.t.links n (acc ++ l)))
    (fun s1 _ _ => (intOf s1 + 1).toNat)
  case atStart => exact ⟨n, [], rfl, intsQ_nil _ _, Below.refl _ _, by simp, hn1, hn, fun l h => h⟩
  case round =>
    obtain ⟨cur, acc, rfl, hq, hB, hac, h1, h2, hch⟩ := hrel
    obtain ⟨A5, c5, rfl, hnc5⟩ := q_slice hq
    have HQ := Lib.hid hq
    clear hq
    by_cases hc : 0 ≤ cur
    · obtain ⟨c, rfl⟩ : ∃ c : Nat, cur = c := ⟨cur.toNat, by omega⟩
      have hcl : c < T.t.links.length := by omega
      obtain ⟨lk, hlk⟩ : ∃ lk, T.t.links[c]? = some lk := ⟨_, List.getElem?_eq_getElem hcl⟩
      obtain ⟨b, o, Aa, ca, hA, hb, c0, _, _, _, _, _⟩ := lnk_get hl0 hlk
      obtain ⟨hu1, hu2⟩ := hup c lk hlk
      have HL := Lib.hid hlk
      clear hlk
      rw [hA] at h14
      have HA := Lib.hid hA
      clear hA
      go_wp2_with (at_builtin; refine wpList_append_q W0.heap.size rfl _ _ 27 3 i0 (.int .i64 0) 1 8 rfl Try.underlying27 hi hz0 hz1 hz2 rfl (by decide) rfl (q_below HQ.out (below_alloc (Below.refl _ _) _)) [.int .i64 c] rfl rfl ?c1 ?c2 ?c3 ?c4 ?c5 ?_)
      case c1 =>
        intro _
        refine ⟨_, rfl, fun j u hj => ?_⟩
        rw [add_at', cell_of_row _ wr.heap.size _ _ 3 (0, 0) (heap_alloc_last wr _), Nat.zero_add]
        simpa using hj
      case c2 => simp [Value.oneCell']
      case c3 => simp only [maxLen]; omega
      case c4 => omega
      case c5 => have := hB.size; simp; omega
      intro v1 w1 hq1 hg1 hat
      have hB1 : Below W0.heap.size W0 w1 := (hB.alloc hB.size _).grown hg1 (by have := hB.size; simp; omega) (fun k e => (q_typed HQ.out k e).1)
      have g14 := cell_later hB1 h14
      have d0 := cell_later hB1 c0
      have HQ1 := Lib.hid hq1
      clear hq1 hg1 hat hB
      go_wp2_with fail
      go_roundw
      case rel =>
        refine ⟨lk.up, acc ++ [(c : Int)], rfl, ?_, hB1, by simp; omega, hu1, by omega, ?_⟩
        · have := HQ1.out
          unfold IntsQ
          simpa [ints] using this
        · intro l hl
          rw [List.append_assoc]
          exact hch.out _ (.cons (by omega) (by simpa using HL.out) hl)
      case measure => simp [intOf]; omega
    · have hneg : cur < 0 := by omega
      go_wp2_with (go_at_call 131; refine (reverse_q (B := W0.heap.size) HQ.out (Nat.le_refl _)).mono ?_; rintro e w' ⟨rfl, hq2, hB2⟩)
      go_ret
      refine ⟨_, acc.reverse, rfl, ?_, ?_, hB0.trans ((hB.trans hB2).mono (by rw [HZ.out]; omega))⟩
      · have := YtjcfppbahalgbaaW.PrintWords.q_lower hq2 (show w.heap.size ≤ W0.heap.size by rw [HZ.out]; omega)
        unfold IntsQ
        simpa using this
      · rw [List.reverse_reverse]
        have := hch.out [] (.nil hneg)
        simpa using this
end Go.Proofs.Ytjcfppbahalgbaa
