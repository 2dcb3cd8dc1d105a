/- swathref16.Taken: what a link takes, with those above it, and with the Virts that are reached. -/
import Derived.Test.YtjcfppbahalgbaaRefVars
namespace Go.Proofs.Ytjcfppbahalgbaa
open Go.RowKit
open Go.Proofs.YtjcfppbahalgbaaW.PrintWords (QRow q_append q_drop q_take q_cells q_of_own q_move q_lt q_typed q_slice q_lower)
set_option linter.unusedSimpArgs false
set_option linter.unusedVariables false
/-- A row of one number that has just been made. -/
theorem q_one (w : World) (base : Nat) (x : Int) (h : base ≤ w.heap.size) : QRow (w.alloc (.cells #[.int .i64 x] 3)) base 3 1 (.slice (some ⟨w.heap.size, 0, none⟩) 1 1) 1 [.int .i64 x] :=
  ⟨rfl, .inr ⟨w.heap.size, 0, 1, #[.int .i64 x], rfl, h, heap_alloc_last w _, Nat.le_refl _, by simp [maxLen], rfl, rfl⟩⟩
theorem ints_one (l : List Int) : ∀ u ∈ ints l, u.oneCell' = true := by
  intro u hu
  obtain ⟨x, -, rfl⟩ := List.mem_map.1 hu
  rfl
set_option maxRecDepth 100000 in
set_option maxHeartbeats 3200000 in
theorem reftaken_any (T : TV) (n : Int) (w : World) (hT : T.ok w) (ht : TakeOk T.t) (hn : n < T.t.links.length) (hn1 : -1 ≤ n) :
    Calls Try.prog 70 #[.agg T.cells.toArray, .int .i64 n] w fun e w' => ∃ v z xs, e = .returned (.tuple #[v, z]) ∧ SrcsQ w' w.heap.size v xs ∧ TakenBy T.t n xs ∧ Below w.heap.size w w' := by
  obtain ⟨i3, hi3, hz30, hz31, hz32⟩ := info_parts info3
  obtain ⟨i6, hi6, hz60, hz61, hz62⟩ := info_parts info63
  obtain ⟨W1, hW1⟩ : ∃ W1, w.alloc (.cells T.cells.toArray 33) = W1 := ⟨_, rfl⟩
  have hB1 : Below w.heap.size w W1 := by rw [← hW1]; exact below_alloc (Below.refl _ _) _
  have hat1 : At W1 w.heap.size 0 T.cells := by rw [← hW1]; exact At.of_obj (heap_alloc_last w _)
  have x14 := hat1 14 _ rfl
  have x15 := hat1 15 _ rfl
  rw [Nat.zero_add] at x14 x15
  have hll : (T.t.links.length : Int) ≤ 1048576 := by have := hT.l.2.2.1; omega
  have hvl : (T.t.virts.length : Int) ≤ 1048576 := by have := hT.v.2.2.1; omega
  have HT := Lib.hid (hT.below hB1)
  have HB1 := Lib.hid hB1
  have HTK := Lib.hid ht
  obtain ⟨cs, hcs⟩ : ∃ cs, T.cells.toArray = cs := ⟨_, rfl⟩
  rw [hcs] at hW1 ⊢
  clear hcs hat1 hB1 hT ht
  go_enter Try.func70, Try.ntmps70
  go_wp2_with fail
  clear hW1
  go_loopw [9, 8] (fun s9 s8 wr => ∃ (cur : Int) (acc : List Int), s9 = .int .i64 cur ∧ IntsQ wr W1.heap.size s8 acc ∧ Below W1.heap.size W1 wr ∧ (acc.length : Int) + cur ≤ n ∧ -1 ≤ cur ∧ cur < T.t.links.length ∧ Hid (Above T.t.links n cur acc))
    (fun s9 _ _ => (intOf s9 + 1).toNat)
  case atStart => exact ⟨n, [], rfl, intsQ_nil _ _, Below.refl _ _, by simp, hn1, hn, above_start _ _⟩
  case round =>
    obtain ⟨cur, acc, rfl, hq, hB, hac, h1, h2, hch⟩ := hrel
    obtain ⟨A8, c8, rfl, hnc8⟩ := q_slice hq
    have HQ := Lib.hid hq
    clear hq
    by_cases hc : 0 ≤ cur
    · obtain ⟨c, rfl⟩ : ∃ c : Nat, cur = c := ⟨cur.toNat, by omega⟩
      have hcl : c < T.t.links.length := by omega
      obtain ⟨lk, hlk⟩ : ∃ lk, T.t.links[c]? = some lk := ⟨_, List.getElem?_eq_getElem hcl⟩
      obtain ⟨b, o, Aa, ca, hA, hb, c0, _, _, _, _, _⟩ := lnk_get HT.out.l.2.2.2 hlk
      obtain ⟨hu1, hu2⟩ := HTK.out.up c lk hlk
      have HL := Lib.hid hlk
      clear hlk
      rw [hA] at x14
      clear hA
      go_wp2_with (at_builtin; refine wpList_append_q W1.heap.size rfl _ _ 27 3 i3 (.int .i64 0) 1 8 rfl Try.underlying27 hi3 hz30 hz31 hz32 rfl (by decide) rfl (q_one wr W1.heap.size c hB.size) (ints acc) rfl ?c0 ?c1 ?c2 ?c3 ?c4 ?c5 ?_)
      case c0 => simp [ints]
      case c1 => exact fun h => q_cells (q_below HQ.out (below_alloc (Below.refl _ _) _)) h
      case c2 => exact ints_one acc
      case c3 => simp only [maxLen]; omega
      case c4 => omega
      case c5 => have := hB.size; simp; omega
      intro v1 w1 hq1 hg1 hat
      have hB1 : Below W1.heap.size W1 w1 := (hB.alloc hB.size _).grown hg1 (by have := hB.size; simp; omega) (fun k e => by have := hB.size; simp [Value.ownBlock] at e; omega)
      have g14 := cell_later hB1 x14
      have d0 := cell_later hB1 c0
      have HQ1 := Lib.hid hq1
      clear hq1 hg1 hat hB
      go_wp2_with fail
      go_roundw
      case rel =>
        refine ⟨lk.up, (c : Int) :: acc, rfl, ?_, hB1, by simp; omega, hu1, by omega, above_step hch.out (by omega) (by simpa using HL.out)⟩
        have := HQ1.out
        unfold IntsQ
        rw [List.length_cons, Nat.add_comm acc.length 1]
        exact this
      case measure => simp [intOf]; omega
    · have HCH := Lib.hid (above_end hch.out (by omega))
      have hal : (acc.length : Int) ≤ 1048576 := by omega
      clear hch hac
      obtain ⟨wc, rfl⟩ : ∃ wc, wc = wr := ⟨_, rfl⟩
      go_wp2_with fail
      go_loopw [31, 6] (fun s31 s6 wq => ∃ (k : Nat) (out : List TSrc), s31 = .int .i64 k ∧ k ≤ acc.length ∧ SrcsQ wq W1.heap.size s6 out ∧ Hid (out = regsOf T.t.links (acc.take k)) ∧ (out.length : Int) ≤ k * 1048576 ∧ Below W1.heap.size W1 wq ∧ Hid (IntsQ wq W1.heap.size (.slice A8 acc.length c8) acc))
        (fun s31 _ _ => acc.length - (intOf s31).toNat)
      case atStart => exact ⟨0, [], rfl, Nat.zero_le _, srcsQ_nil _ _, rfl, by simp, hB, HQ.out⟩
      case round =>
        clear hB HQ
        obtain ⟨k, out, rfl, hk, hq, hout, hol, hB, hqc⟩ := hrel
        obtain ⟨A6, c6, rfl, hnc6⟩ := q_slice hq
        have HQ := Lib.hid hq
        clear hq
        by_cases hlt : k < acc.length
        · obtain ⟨x, hx⟩ : ∃ x, acc[k]? = some x := ⟨_, List.getElem?_eq_getElem hlt⟩
          obtain ⟨hx0, lk, hlk⟩ := chain_mem HCH.out x (by rw [List.mem_reverse]; exact List.mem_of_getElem? hx)
          obtain ⟨c, rfl⟩ : ∃ c : Nat, x = c := ⟨x.toNat, by omega⟩
          rw [Int.toNat_natCast] at hlk
          have hcl := (List.getElem?_eq_some_iff.1 hlk).1
          obtain ⟨bc, oc, rfl, hbc, d0⟩ := int_get (intsQ_row hqc.out) hx
          obtain ⟨b, o, Aa, ca, hA, hb, _, _, _, _, e4, hok⟩ := lnk_get (HT.out.below hB).l.2.2.2 hlk
          have g14 := cell_later hB x14
          have HLK := Lib.hid hlk
          have HXX := Lib.hid hx
          have hrl := hok.2.2.1
          have HOK := Lib.hid hok.2.2.2
          rw [hA] at g14
          clear hlk hx hA hok
          go_wp2_with (at_builtin; refine wpList_append_q W1.heap.size rfl _ _ 31 63 i6 _ 4 32 rfl Try.underlying31 hi6 hz60 hz61 hz62 rfl (by decide) rfl HQ.out (lk.regs.flatMap TSrc.cells) rfl (flatMap_length _ 4 (fun _ => rfl) _) ?c1 (srcCells_one _) ?c3 ?c4 ?c5 ?_)
          case c1 => exact srcRow HOK.out
          case c3 => simp only [maxLen]; omega
          case c4 => omega
          case c5 => exact hB.size
          intro v1 w1 hq1 hg1 hat
          have hb1 : Below W1.heap.size W1 w1 := hB.grown hg1 hB.size (fun k e => (q_typed HQ.out k e).1)
          have HQ1 := Lib.hid hq1
          have HC1 : Hid (IntsQ w1 W1.heap.size (.slice (some ⟨bc, oc, none⟩) acc.length c8) acc) := q_unlike hqc.out HQ.out (by decide) hg1
          have HB2 := Lib.hid hb1
          clear hq1 hb1 hg1 hat hB
          go_wp2_with fail
          go_roundw
          case rel =>
            refine ⟨k + 1, out ++ lk.regs, by go_num, by omega, ?_, ?_, by simp; omega, HB2.out, HC1⟩
            · have := HQ1.out
              unfold SrcsQ
              rw [List.flatMap_append, List.length_append]
              exact this
            · show _ = _
              rw [take_at HXX.out, hout.out, regsOf_snoc _ _ _ lk (by simpa using HLK.out)]
          case measure => simp [intOf]; omega
        · have hkl : k = acc.length := by omega
          subst hkl
          rw [List.take_length] at hout
          go_wp2_with fail
          obtain ⟨wd, rfl⟩ : ∃ wd, wd = wr := ⟨_, rfl⟩
          have hgood0 : ∀ s ∈ out, GoodS T.t.virts.length s := by
            intro s hs
            rw [hout.out] at hs
            obtain ⟨x, _, hx⟩ := List.mem_flatMap.1 hs
            split at hx
            · rename_i k hk; exact HTK.out.regs k (List.mem_of_getElem? hk) s hx
            · cases hx
          have hwt0 := wtF_le T.t.virts 0 [] 1048576 (fun v hv => by
            obtain ⟨j, hj⟩ := List.getElem?_of_mem hv
            obtain ⟨_, _, _, _, _, _, _, _, h4⟩ := vrt_get HT.out.v.2.2.2 hj
            exact h4.2.2.1)
          have HW0 : Hid (wtF T.t.virts 0 [] ≤ 1099511627776) := by
            have : T.t.virts.length * 1048576 ≤ 1048576 * 1048576 := Nat.mul_le_mul_right _ (by omega)
            show _ ≤ _
            omega
          have hob : (out.length : Int) ≤ 1099511627776 := by
            have : (acc.length : Int) * 1048576 ≤ 1048576 * 1048576 := Int.mul_le_mul_of_nonneg_right hal (by decide)
            omega
          obtain ⟨Bd, hBd⟩ : ∃ Bd, out.length + wtF T.t.virts 0 [] = Bd := ⟨_, rfl⟩
          have hBdl : (Bd : Int) ≤ 2199023255552 := by have := HW0.out; omega
          have HBd := Lib.hid hBd
          have HG0 := Lib.hid hgood0
          have HBC := Lib.hid hB
          clear hwt0 hBd hgood0 hB hol hqc
          go_loopw [12, 6, 7] (fun s12 s6 s7 wq => ∃ (i : Nat) (out2 : List TSrc) (virts : List Int), s12 = .int .i64 i ∧ i ≤ out2.length ∧ SrcsQ wq W1.heap.size s6 out2 ∧ IntsQ wq W1.heap.size s7 virts ∧ Below W1.heap.size W1 wq ∧ Hid (OpensR T.t.virts out out2 i virts) ∧
              Hid (∀ s ∈ out2, GoodS T.t.virts.length s) ∧ Hid (out2.length + wtF T.t.virts 0 virts.reverse = Bd) ∧ virts.length ≤ i)
            (fun s12 _ _ _ => Bd + 1 - (intOf s12).toNat)
          case atStart => exact ⟨0, out, [], rfl, Nat.zero_le _, HQ.out, intsQ_nil _ _, HBC.out, opensR_start _ _, HG0.out, HBd.out, Nat.le_refl _⟩
          case round =>
            clear HQ HBC
            obtain ⟨i, out2, virts, rfl, hi, hq, hqv, hB, hop, hgd, htot, hvi⟩ := hrel
            obtain ⟨A6, c6, rfl, hnc6⟩ := q_slice hq
            obtain ⟨A7, c7, rfl, hnc7⟩ := q_slice hqv
            have ho2 : (out2.length : Int) ≤ 2199023255552 := by have := htot.out; omega
            have hv2 : (virts.length : Int) ≤ 2199023255552 := by omega
            have HQ := Lib.hid hq
            have HQV := Lib.hid hqv
            have HBQ := Lib.hid hB
            clear hq hqv hB
            by_cases hlt : i < out2.length
            · obtain ⟨s, hs⟩ : ∃ s, out2[i]? = some s := ⟨_, List.getElem?_eq_getElem hlt⟩
              obtain ⟨_, hrow⟩ := rowAt_q (R := SrcR) TSrc.cells 4 (fun _ => rfl) (by omega) (fun _ _ => rfl) HQ.out
              obtain ⟨b, o, rfl, hb, e0, e1, e2, e3⟩ := src_get hrow hs
              have hgs := hgd.out s (List.mem_of_getElem? hs)
              have HS := Lib.hid hs
              have htl := htot.out
              have hBi : i + 1 ≤ Bd := by omega
              clear hs hrow htl
              by_cases hk2 : s.k = 2
              rotate_left
              · have d1 : (s.k != 2) = true := by simpa using hk2
                have HO : Hid (OpensR T.t.virts out out2 (i + 1) virts) := opensR_skip hop.out HS.out (fun h => hk2 h.1)
                clear hk2 hgs
                go_wp2_with fail
                go_roundw
                case rel => exact ⟨i + 1, out2, virts, by go_num, by omega, HQ.out, HQV.out, HBQ.out, HO, hgd, htot, by omega⟩
                case measure => simp [intOf]; omega
              have d1 : (s.k != 2) = false := by simpa using hk2
              obtain ⟨m, hm⟩ : ∃ m : Nat, s.n = m ∧ m < T.t.virts.length := by
                have hp := hgs.1
                unfold plainS at hp
                simp [hk2] at hp
                exact ⟨s.n.toNat, by omega, by omega⟩
              obtain ⟨hm, hml⟩ := hm
              have HK2 := Lib.hid hk2
              have HM := Lib.hid hm
              clear hk2 hgs hm
              obtain ⟨we, rfl⟩ : ∃ we, we = wr := ⟨_, rfl⟩
              go_wp2_with fail
              go_loopw [58, 13] (fun s58 s13 wz => ∃ j : Nat, s58 = .int .i64 j ∧ j ≤ virts.length ∧ s13 = .bool (decide (s.n ∈ virts.take j)) ∧ wz = we)
                (fun s58 _ _ => virts.length - (intOf s58).toNat)
              case atStart => exact ⟨0, rfl, Nat.zero_le _, by simp, rfl⟩
              case round =>
                obtain ⟨j, rfl, hj, rfl, rfl⟩ := hrel
                by_cases hjl : j < virts.length
                · obtain ⟨x, hx⟩ : ∃ x, virts[j]? = some x := ⟨_, List.getElem?_eq_getElem hjl⟩
                  obtain ⟨bv, ov, rfl, hbv, ex⟩ := int_get (intsQ_row HQV.out) hx
                  have hnew : decide (s.n ∈ virts.take (j + 1)) = (decide (s.n ∈ virts.take j) || (x == s.n)) := by
                    rw [take_at hx, Bool.eq_iff_iff]
                    simp only [decide_eq_true_eq, Bool.or_eq_true, beq_iff_eq, List.mem_append, List.mem_singleton]
                    constructor
                    · rintro (h | h)
                      · exact .inl h
                      · exact .inr h.symm
                    · rintro (h | h)
                      · exact .inl h
                      · exact .inr h.symm
                  have HNEW := Lib.hid hnew
                  clear hnew hx
                  cases hkn : decide (s.n ∈ virts.take j) with
                  | true =>
                    have HKN := Lib.hid hkn
                    clear hkn
                    go_wp2_with fail
                    go_roundw
                    case rel => exact ⟨j + 1, by go_num, by omega, by rw [HNEW.out, HKN.out]; rfl, trivial⟩
                    case measure => simp [intOf]; omega
                  | false =>
                    have HKN := Lib.hid hkn
                    clear hkn
                    go_wp2_with fail
                    go_roundw
                    case rel => exact ⟨j + 1, by go_num, by omega, by rw [HNEW.out, HKN.out]; simp, trivial⟩
                    case measure => simp [intOf]; omega
                · have hjv : j = virts.length := by omega
                  subst hjv
                  rw [List.take_length]
                  cases hkn : decide (s.n ∈ virts) with
                  | true =>
                    have HO : Hid (OpensR T.t.virts out out2 (i + 1) virts) := opensR_skip hop.out HS.out (fun h => h.2 (by simpa using hkn))
                    clear hkn
                    go_wp2_with fail
                    go_roundw
                    case rel => exact ⟨i + 1, out2, virts, by go_num, by omega, HQ.out, HQV.out, HBQ.out, HO, hgd, htot, by omega⟩
                    case measure => simp [intOf]; omega
                  | false =>
                    have hnm : s.n ∉ virts := by simpa using hkn
                    obtain ⟨v, hv⟩ : ∃ v, T.t.virts[m]? = some v := ⟨_, List.getElem?_eq_getElem hml⟩
                    have HV := Lib.hid hv
                    have hwt : wtF T.t.virts 0 virts.reverse = v.cells.length + wtF T.t.virts 0 (s.n :: virts.reverse) := by
                      have := wtF_open T.t.virts 0 m virts.reverse v hv (by rw [Nat.zero_add, ← HM.out]; simpa using hnm)
                      rw [Nat.zero_add, ← HM.out] at this
                      exact this
                    have HO : Hid (OpensR T.t.virts out (out2 ++ v.cells) (i + 1) (virts ++ [s.n])) := opensR_virt hop.out HS.out HK2.out hnm (by rw [HM.out]; simpa using hv)
                    have HG : Hid (∀ s ∈ out2 ++ v.cells, GoodS T.t.virts.length s) := by
                      intro z hz
                      rcases List.mem_append.1 hz with hz | hz
                      · exact hgd.out z hz
                      · exact HTK.out.cells v (List.mem_of_getElem? hv) z hz
                    have HTOT : Hid ((out2 ++ v.cells).length + wtF T.t.virts 0 (virts ++ [s.n]).reverse = Bd) := by
                      show _ = _
                      have := htot.out
                      rw [List.reverse_append, List.reverse_singleton, List.singleton_append, List.length_append]
                      omega
                    have hcl2 : out2.length + v.cells.length ≤ Bd := by have := htot.out; omega
                    clear hkn hnm hv hwt
                    go_wp2_with (at_builtin; refine wpList_append_q W1.heap.size rfl _ _ 27 3 i3 (.int .i64 0) 1 8 rfl Try.underlying27 hi3 hz30 hz31 hz32 rfl (by decide) rfl (q_below HQV.out (below_alloc (Below.refl _ _) _)) [.int .i64 s.n] rfl rfl ?e1 ?e2 ?e3 ?e4 ?e5 ?_)
                    case e2 => simp [Value.oneCell']
                    case e3 => simp only [maxLen]; omega
                    case e4 => omega
                    case e5 => have := HBQ.out.size; simp; omega
                    · intro _
                      refine ⟨_, rfl, fun j u hj => ?_⟩
                      rw [add_at', cell_of_row _ wr.heap.size _ _ 3 (0, 0) (heap_alloc_last wr _), Nat.zero_add]
                      simpa using hj
                    intro v1 w5 hq1 hg1 hat
                    obtain ⟨A9, c9, rfl, hnc9⟩ := q_slice hq1
                    have hB5 : Below W1.heap.size W1 w5 := (HBQ.out.alloc HBQ.out.size _).grown hg1 (by have := HBQ.out.size; simp; omega) (fun k e => (q_typed HQV.out k e).1)
                    have HQ5 : Hid (SrcsQ w5 W1.heap.size (.slice (some ⟨b, o, none⟩) out2.length c6) out2) := q_unlike (q_below HQ.out (below_alloc (Below.refl wr.heap.size wr) (.cells #[.int .i64 s.n] 3))) (q_below HQV.out (below_alloc (Below.refl wr.heap.size wr) (.cells #[.int .i64 s.n] 3))) (by decide) hg1
                    have HQV5 := Lib.hid hq1
                    clear hg1 hat e0 e1 e2 e3
                    go_upto_region 25 with fail
                    (try simp only [Act.put, List.setIfInBounds_toArray, List.set_cons_zero, List.set_cons_succ])
                    refine drawn_begin (fun _ => True) (fun c a d v w h => ?_) (by kernel_rfl) ?_ (fun hside hHeld => ?_)
                    · (obtain ⟨h1, h2⟩ := h; exact And.intro (put_nil h1) h2)
                    · trivial
                    obtain ⟨W6, hW6⟩ : ∃ W6, w5.drew = W6 := ⟨_, rfl⟩
                    have hB56 : Below w5.heap.size w5 W6 := by rw [← hW6]; exact below_drewN (Below.refl _ _) 1
                    rw [hW6]
                    have hB6 := hB5.trans (hB56.mono hB5.size)
                    have HQ6 := Lib.hid (q_below HQ5.out hB56)
                    have HQV6 := Lib.hid (q_below HQV5.out hB56)
                    clear hB5 HQ5 HQV5 hW6 hB56
                    have z15 := cell_later hB6 x15
                    obtain ⟨bw, ow, Aw, cw, hAw, hbw, w0, w1, hwr⟩ := vrt_get (HT.out.below hB6).v.2.2.2 HV.out
                    rw [hAw] at z15
                    have HWR := Lib.hid hwr.2.2.2
                    obtain ⟨_, hrow5⟩ := rowAt_q (R := SrcR) TSrc.cells 4 (fun _ => rfl) (by omega) (fun _ _ => rfl) HQ6.out
                    obtain ⟨b', o', hbo, hb', e0, e1, e2, e3⟩ := src_get hrow5 HS.out
                    cases hbo
                    rw [HM.out] at e3
                    clear hAw hwr hrow5 w0 e0 e1 e2
                    refine wpAnyH_take (i := 0) (v := ?_) (op_at rfl) (by kernel_rfl) (by kernel_rfl) (by kernel_rfl) (fun _ _ _ h => hside _ _ _ _ _ h) (Or.inl ⟨by rfl, ?_⟩) (by assumption) ?_
                    rotate_left
                    · (intro w hSw; (try dsimp only at hSw); go_simp; all_goals with_reducible rfl)
                    (try simp only [Act.put, List.setIfInBounds_toArray, List.set_cons_zero, List.set_cons_succ])
                    refine wpAnyH_take (i := 1) (v := ?_) (op_at rfl) (by kernel_rfl) (by kernel_rfl) (by kernel_rfl) (fun _ _ _ h => hside _ _ _ _ _ h) (Or.inl ⟨by rfl, ?_⟩) (by assumption) ?_
                    rotate_left
                    · (intro w hSw; (try dsimp only at hSw); go_simp; all_goals with_reducible rfl)
                    (try simp only [Act.put, List.setIfInBounds_toArray, List.set_cons_zero, List.set_cons_succ])
                    refine wpAnyH_take (i := 3) (v := ?_) (op_at rfl) (by kernel_rfl) (by kernel_rfl) (by kernel_rfl) (fun _ _ _ h => hside _ _ _ _ _ h) (Or.inl ⟨by rfl, ?_⟩) (by assumption) ?_
                    rotate_left
                    · (intro w hSw; (try dsimp only at hSw); go_simp; all_goals with_reducible rfl)
                    (try simp only [Act.put, List.setIfInBounds_toArray, List.set_cons_zero, List.set_cons_succ])
                    refine wpAnyH_take (i := 4) (v := ?_) (op_at rfl) (by kernel_rfl) (by kernel_rfl) (by kernel_rfl) (fun _ _ _ h => hside _ _ _ _ _ h) (Or.inl ⟨by rfl, ?_⟩) (by assumption) ?_
                    rotate_left
                    · (intro w hSw; (try dsimp only at hSw); go_simp; all_goals with_reducible rfl)
                    (try simp only [Act.put, List.setIfInBounds_toArray, List.set_cons_zero, List.set_cons_succ])
                    refine wpAnyH_take (i := 5) (v := ?_) (op_at rfl) (by kernel_rfl) (by kernel_rfl) (by kernel_rfl) (fun _ _ _ h => hside _ _ _ _ _ h) (Or.inl ⟨by rfl, ?_⟩) (by assumption) ?_
                    rotate_left
                    · (intro w hSw; (try dsimp only at hSw); go_simp; all_goals with_reducible rfl)
                    (try simp only [Act.put, List.setIfInBounds_toArray, List.set_cons_zero, List.set_cons_succ])
                    refine wpAnyH_take (i := 6) (v := ?_) (op_at rfl) (by kernel_rfl) (by kernel_rfl) (by kernel_rfl) (fun _ _ _ h => hside _ _ _ _ _ h) (Or.inl ⟨by rfl, ?_⟩) (by assumption) ?_
                    rotate_left
                    · (intro w hSw; (try dsimp only at hSw); go_simp; all_goals with_reducible rfl)
                    (try simp only [Act.put, List.setIfInBounds_toArray, List.set_cons_zero, List.set_cons_succ])
                    refine wpAnyH_ready (rs := [2, 7]) (by kernel_rfl) (by simp) (AllReadyH.cons (op_at rfl) (fun K hK => ?_) (AllReadyH.cons (op_at rfl) (fun K hK => ?_) AllReadyH.nil))
                    · go_simp
                      refine hK.out _ _ ?_ (fun hHeld => ?_)
                      · trivial
                      clear hK
                      (try simp only [Act.put, List.setIfInBounds_toArray, List.set_cons_zero, List.set_cons_succ])
                      refine wpAnyH_ready (rs := [7]) (by kernel_rfl) (by simp) (AllReadyH.cons (op_at rfl) (fun Kr hK => ?_) AllReadyH.nil)
                      go_simp
                      refine hK.out _ _ ?_ (fun hHeld => ?_)
                      · trivial
                      clear hK
                      (try simp only [Act.put, List.setIfInBounds_toArray, List.set_cons_zero, List.set_cons_succ])
                      refine wpAnyH_take (i := 8) (v := ?_) (op_at rfl) (by kernel_rfl) (by kernel_rfl) (by kernel_rfl) (fun _ _ _ h => hside _ _ _ _ _ h) (Or.inl ⟨by rfl, ?_⟩) (by assumption) ?_
                      rotate_left
                      · (intro w hSw; (try dsimp only at hSw); go_simp; all_goals with_reducible rfl)
                      (try simp only [Act.put, List.setIfInBounds_toArray, List.set_cons_zero, List.set_cons_succ])
                      refine wpAnyH_take (i := 9) (v := ?_) (op_at rfl) (by kernel_rfl) (by kernel_rfl) (by kernel_rfl) (fun _ _ _ h => hside _ _ _ _ _ h) (Or.inl ⟨by rfl, ?_⟩) (by assumption) ?_
                      rotate_left
                      · (intro w hSw; (try dsimp only at hSw); go_simp; all_goals with_reducible rfl)
                      (try simp only [Act.put, List.setIfInBounds_toArray, List.set_cons_zero, List.set_cons_succ])
                      refine wpAnyH_ready (rs := [10]) (by kernel_rfl) (by simp) (AllReadyH.cons (op_at rfl) (fun Kr hK => ?_) AllReadyH.nil)
                      go_simp
                      refine hK.out _ _ ?_ (fun hHeld => ?_)
                      · trivial
                      clear hK
                      (try simp only [Act.put, List.setIfInBounds_toArray, List.set_cons_zero, List.set_cons_succ])
                      refine wpAnyH_ready (rs := [11]) (by kernel_rfl) (by simp) (AllReadyH.cons (op_at rfl) (fun K hK => ?_) AllReadyH.nil)
                      rw [if_pos (by rfl)]
                      refine oper_append_q (v := .slice (some ⟨b, o, none⟩) out2.length c6) W1.heap.size _ _ 31 63 i6 _ 4 32 rfl Try.underlying31 hi6 hz60 hz61 hz62 rfl (by decide) rfl HQ6.out (A := Aw) (m := v.cells.length) (c := cw) (v.cells.flatMap TSrc.cells) rfl (flatMap_length _ 4 (fun _ => rfl) _) ?_ (srcCells_one _) ?_ ?_ ?_ ?_
                      · exact srcRow HWR.out
                      · simp only [maxLen]
                        omega
                      · omega
                      · exact hB6.size
                      intro v6 w6 hq6 hg6 hat6
                      have HB7 : Hid (Below W1.heap.size W1 w6) := hB6.grown hg6 hB6.size (fun k e => (q_typed HQ6.out k e).1)
                      have HQV7 : Hid (QRow w6 W1.heap.size 3 1 (.slice A9 (virts.length + 1) c9) (virts.length + 1) (ints virts ++ [.int .i64 s.n])) := q_unlike HQV6.out HQ6.out (by decide) hg6
                      have HQ7 := Lib.hid hq6
                      clear hq6 hg6
                      refine hK.out _ _ ?_ (fun hHeld => ?_)
                      · trivial
                      clear hK
                      (try simp only [Act.put, List.setIfInBounds_toArray, List.set_cons_zero, List.set_cons_succ])
                      refine wpAnyH_take (i := 12) (v := ?_) (op_at rfl) (by kernel_rfl) (by kernel_rfl) (by kernel_rfl) (fun _ _ _ h => hside _ _ _ _ _ h) (Or.inl ⟨by rfl, ?_⟩) (by assumption) ?_
                      rotate_left
                      · (intro w hSw; (try dsimp only at hSw); go_simp; all_goals with_reducible rfl)
                      (try simp only [Act.put, List.setIfInBounds_toArray, List.set_cons_zero, List.set_cons_succ])
                      refine wpAnyH_done (by kernel_rfl) ?_ _
                      clear hHeld hside e3 w1 z15 hB6
                      go_wp2_with fail
                      go_roundw
                      case rel =>
                        refine ⟨i + 1, out2 ++ v.cells, virts ++ [s.n], by go_num, by simp; omega, ?_, ?_, HB7.out, HO, HG, HTOT, by simp; omega⟩
                        · have := HQ7.out
                          unfold SrcsQ
                          rw [List.flatMap_append, List.length_append]
                          exact this
                        · have := HQV7.out
                          unfold IntsQ
                          rw [List.length_append, show ints (virts ++ [s.n]) = ints virts ++ [.int .i64 s.n] by simp [ints]]
                          exact this
                      case measure => simp [intOf]; omega
                    · go_simp
                      refine hK.out _ _ ?_ (fun hHeld => ?_)
                      · trivial
                      clear hK
                      (try simp only [Act.put, List.setIfInBounds_toArray, List.set_cons_zero, List.set_cons_succ])
                      refine wpAnyH_ready (rs := [2]) (by kernel_rfl) (by simp) (AllReadyH.cons (op_at rfl) (fun Kr hK => ?_) AllReadyH.nil)
                      go_simp
                      refine hK.out _ _ ?_ (fun hHeld => ?_)
                      · trivial
                      clear hK
                      (try simp only [Act.put, List.setIfInBounds_toArray, List.set_cons_zero, List.set_cons_succ])
                      refine wpAnyH_take (i := 8) (v := ?_) (op_at rfl) (by kernel_rfl) (by kernel_rfl) (by kernel_rfl) (fun _ _ _ h => hside _ _ _ _ _ h) (Or.inl ⟨by rfl, ?_⟩) (by assumption) ?_
                      rotate_left
                      · (intro w hSw; (try dsimp only at hSw); go_simp; all_goals with_reducible rfl)
                      (try simp only [Act.put, List.setIfInBounds_toArray, List.set_cons_zero, List.set_cons_succ])
                      refine wpAnyH_take (i := 9) (v := ?_) (op_at rfl) (by kernel_rfl) (by kernel_rfl) (by kernel_rfl) (fun _ _ _ h => hside _ _ _ _ _ h) (Or.inl ⟨by rfl, ?_⟩) (by assumption) ?_
                      rotate_left
                      · (intro w hSw; (try dsimp only at hSw); go_simp; all_goals with_reducible rfl)
                      (try simp only [Act.put, List.setIfInBounds_toArray, List.set_cons_zero, List.set_cons_succ])
                      refine wpAnyH_ready (rs := [10]) (by kernel_rfl) (by simp) (AllReadyH.cons (op_at rfl) (fun Kr hK => ?_) AllReadyH.nil)
                      go_simp
                      refine hK.out _ _ ?_ (fun hHeld => ?_)
                      · trivial
                      clear hK
                      (try simp only [Act.put, List.setIfInBounds_toArray, List.set_cons_zero, List.set_cons_succ])
                      refine wpAnyH_ready (rs := [11]) (by kernel_rfl) (by simp) (AllReadyH.cons (op_at rfl) (fun K hK => ?_) AllReadyH.nil)
                      rw [if_pos (by rfl)]
                      refine oper_append_q (v := .slice (some ⟨b, o, none⟩) out2.length c6) W1.heap.size _ _ 31 63 i6 _ 4 32 rfl Try.underlying31 hi6 hz60 hz61 hz62 rfl (by decide) rfl HQ6.out (A := Aw) (m := v.cells.length) (c := cw) (v.cells.flatMap TSrc.cells) rfl (flatMap_length _ 4 (fun _ => rfl) _) ?_ (srcCells_one _) ?_ ?_ ?_ ?_
                      · exact srcRow HWR.out
                      · simp only [maxLen]
                        omega
                      · omega
                      · exact hB6.size
                      intro v6 w6 hq6 hg6 hat6
                      have HB7 : Hid (Below W1.heap.size W1 w6) := hB6.grown hg6 hB6.size (fun k e => (q_typed HQ6.out k e).1)
                      have HQV7 : Hid (QRow w6 W1.heap.size 3 1 (.slice A9 (virts.length + 1) c9) (virts.length + 1) (ints virts ++ [.int .i64 s.n])) := q_unlike HQV6.out HQ6.out (by decide) hg6
                      have HQ7 := Lib.hid hq6
                      clear hq6 hg6
                      refine hK.out _ _ ?_ (fun hHeld => ?_)
                      · trivial
                      clear hK
                      (try simp only [Act.put, List.setIfInBounds_toArray, List.set_cons_zero, List.set_cons_succ])
                      refine wpAnyH_take (i := 12) (v := ?_) (op_at rfl) (by kernel_rfl) (by kernel_rfl) (by kernel_rfl) (fun _ _ _ h => hside _ _ _ _ _ h) (Or.inl ⟨by rfl, ?_⟩) (by assumption) ?_
                      rotate_left
                      · (intro w hSw; (try dsimp only at hSw); go_simp; all_goals with_reducible rfl)
                      (try simp only [Act.put, List.setIfInBounds_toArray, List.set_cons_zero, List.set_cons_succ])
                      refine wpAnyH_done (by kernel_rfl) ?_ _
                      clear hHeld hside e3 w1 z15 hB6
                      go_wp2_with fail
                      go_roundw
                      case rel =>
                        refine ⟨i + 1, out2 ++ v.cells, virts ++ [s.n], by go_num, by simp; omega, ?_, ?_, HB7.out, HO, HG, HTOT, by simp; omega⟩
                        · have := HQ7.out
                          unfold SrcsQ
                          rw [List.flatMap_append, List.length_append]
                          exact this
                        · have := HQV7.out
                          unfold IntsQ
                          rw [List.length_append, show ints (virts ++ [s.n]) = ints virts ++ [.int .i64 s.n] by simp [ints]]
                          exact this
                      case measure => simp [intOf]; omega
            · have hil : i = out2.length := by omega
              subst hil
              have HE := Lib.hid (opensR_end hop.out)
              go_wp2_with fail
              refine bodyPost_ret (by simp [results, Try.results70]; rfl) rfl ?_
              exact ⟨_, _, out2, rfl, q_lower HQ.out HB1.out.size, ⟨acc, HCH.out, by rw [← hout.out]; exact HE.out⟩, HB1.out.trans (HBQ.out.mono HB1.out.size)⟩
end Go.Proofs.Ytjcfppbahalgbaa
