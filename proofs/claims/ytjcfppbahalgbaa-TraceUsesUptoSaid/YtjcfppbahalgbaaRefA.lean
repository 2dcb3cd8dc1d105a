/- swathref16: plain, plains, made, Name, number. -/
import Derived.Test.YtjcfppbahalgbaaUsesLaw
namespace Go.Proofs.Ytjcfppbahalgbaa
open Go.RowKit
set_option linter.unusedSimpArgs false
set_option linter.unusedVariables false
set_option maxHeartbeats 1600000 in
theorem refplain_any (nv : Nat) (s : TSrc) (w : World) : Calls Try.prog 100 #[.agg #[.int .i64 s.k, .int .i64 s.vk, .int .i64 s.vn, .int .i64 s.n], .int .i64 nv] w fun e w' => e = .returned (.bool (plainS nv s)) ∧ Below w.heap.size w w' := by
  obtain ⟨k, vk, vn, n⟩ := s
  simp only
  go_enter Try.func100, Try.ntmps100
  go_wp2
  all_goals
    go_ret
    refine ⟨ret_bool ?_, below_alloc (Below.refl _ _) _⟩
    simp only [beq_iff_eq, beq_eq_false_iff_ne] at *
    simp only [plainS, noneV]
    grind
set_option maxHeartbeats 1600000 in
theorem refplains_any (A : Option Addr) (c nv : Nat) (l : List TSrc) (w : World) (hrow : RowAt SrcR 4 w A l) (hl : (l.length : Int) ≤ 9223372036854775807) : Calls Try.prog 97 #[.slice A l.length c, .int .i64 nv] w fun e w' => e = .returned (.bool (l.all (plainS nv))) ∧ Below w.heap.size w w' := by
  have HRow := Lib.hid hrow
  clear hrow
  go_enter Try.func97, Try.ntmps97
  go_wp2_with fail
  go_loopw [9] (fun s9 wr => ∃ (k : Nat), s9 = .int .i64 k ∧ k ≤ l.length ∧ Hid ((l.take k).all (plainS nv) = true) ∧ Below w.heap.size w wr)
    (fun s9 _ => l.length - (intOf s9).toNat)
  case atStart => exact ⟨0, rfl, Nat.zero_le _, rfl, Below.refl _ _⟩
  case round =>
    obtain ⟨k, rfl, hk, hall, hB⟩ := hrel
    have HB := Lib.hid hB
    clear hB
    by_cases hlt : k < l.length
    · obtain ⟨s, hs⟩ : ∃ s, l[k]? = some s := ⟨_, List.getElem?_eq_getElem hlt⟩
      obtain ⟨b, o, rfl, hb, e0, e1, e2, e3⟩ := src_get (HRow.out.below HB.out (fun _ _ h => h)) hs
      have HS := Lib.hid hs
      clear hs
      go_wp2_with (go_at_call 100; refine (refplain_any nv s _).mono ?_)
      rintro e w2 ⟨rfl, hB2⟩
      have HB2 := Lib.hid (HB.out.trans ((below_then (below_alloc (Below.refl _ _) _) hB2).mono HB.out.size))
      clear hB2
      cases hp : plainS nv s with
      | false =>
        go_wp2_with fail
        go_ret
        exact ⟨ret_bool (all_no HS.out hp).symm, HB2.out⟩
      | true =>
        have HK : Hid ((l.take (k + 1)).all (plainS nv) = true) := by
          show _ = _
          rw [all_take_succ HS.out, hall.out, hp]
          rfl
        clear hp
        go_wp2_with fail
        go_roundw
        case rel => exact ⟨k + 1, by go_num, by omega, HK, HB2.out⟩
        case measure => simp [intOf]; omega
    · have hkl : k = l.length := by omega
      subst hkl
      rw [List.take_length] at hall
      go_wp2_with fail
      go_ret
      exact ⟨ret_bool hall.out.symm, HB.out⟩
theorem mkOf_at {t : Trc} {m : Nat} {o : TOp} (h : t.ops[m]? = some o) : (mkOf t).getD m false = (rowOf o.op).makes := by
  rw [List.getD_eq_getElem?_getD, mkOf, List.getElem?_map, h]
  rfl
set_option maxRecDepth 100000 in
set_option maxHeartbeats 1600000 in
theorem refmade_any (T : TV) (s : TSrc) (at_ : Nat) (w : World) (hT : T.ok w) (hat : at_ ≤ T.t.ops.length) : Calls Try.prog 52 #[.agg T.cells.toArray, .agg (srcCs s), .int .i64 at_] w
    fun e w' => e = .returned (.bool (madeR T.t.ins.length (mkOf T.t) s at_)) ∧ Below w.heap.size w w' := by
  obtain ⟨W1, hW1⟩ : ∃ W1, w.alloc (.cells T.cells.toArray 33) = W1 := ⟨_, rfl⟩
  have hB1 : Below w.heap.size w W1 := by rw [← hW1]; exact below_alloc (Below.refl _ _) _
  have hz1 : W1.heap.size = w.heap.size + 1 := by rw [← hW1]; simp
  have hat1 : At W1 w.heap.size 0 T.cells := by rw [← hW1]; exact At.of_obj (heap_alloc_last w _)
  obtain ⟨W2, hW2⟩ : ∃ W2, W1.alloc (.cells #[.int .i64 s.k, .int .i64 s.vk, .int .i64 s.vn, .int .i64 s.n] 63) = W2 := ⟨_, rfl⟩
  have hB2' : Below W1.heap.size W1 W2 := by rw [← hW2]; exact below_alloc (Below.refl _ _) _
  have hb2 := heap_alloc_last W1 (.cells #[.int .i64 s.k, .int .i64 s.vk, .int .i64 s.vn, .int .i64 s.n] 63)
  rw [hW2, hz1] at hb2
  have hB2 := below_then hB1 hB2'
  have x12 := (hat1.below hB2') 12 _ rfl
  have x13 := (hat1.below hB2') 13 _ rfl
  rw [Nat.zero_add] at x12 x13
  have f0 := cell_of_row _ (w.heap.size + 1) 0 _ _ _ hb2
  have f2 := cell_of_row _ (w.heap.size + 1) 2 _ _ _ hb2
  have f3 := cell_of_row _ (w.heap.size + 1) 3 _ _ _ hb2
  simp only [List.getElem?_toArray, List.getElem?_cons_zero, List.getElem?_cons_succ] at f0 f2 f3
  have hil : (T.t.ins.length : Int) ≤ 1048576 := by have := hT.i.2.2.1; omega
  have hol : (T.t.ops.length : Int) ≤ 1048576 := by have := hT.o.2.2.1; omega
  have HT := Lib.hid (hT.below hB2)
  have HB2 := Lib.hid hB2
  unfold srcCs
  obtain ⟨cs, hcs⟩ : ∃ cs, T.cells.toArray = cs := ⟨_, rfl⟩
  rw [hcs] at hW1 ⊢
  rw [← hW1] at hW2
  clear hcs hW1 hB1 hat1 hB2' hb2 hB2 hT
  have HZ := Lib.hid hz1
  clear hz1
  by_cases k0 : s.k = 0
  · have d0 : (s.k == 0) = true := by simpa using k0
    rw [show madeR T.t.ins.length (mkOf T.t) s at_ = true by simp [madeR, k0]]
    clear k0
    go_enter Try.func52, Try.ntmps52
    go_wp2_with fail
    go_ret
    exact ⟨rfl, HB2.out⟩
  have d0 : (s.k == 0) = false := by simpa using k0
  by_cases k1 : s.k = 1
  rotate_left
  · have d1 : (s.k != 1) = true := by simpa using k1
    rw [show madeR T.t.ins.length (mkOf T.t) s at_ = false by simp [madeR, k0, k1]]
    clear k0 k1
    go_enter Try.func52, Try.ntmps52
    go_wp2_with fail
    go_ret
    exact ⟨rfl, HB2.out⟩
  have d1 : (s.k != 1) = false := by simpa using k1
  by_cases hlt : s.n < T.t.ins.length + at_
  rotate_left
  · have d2 : decide (((T.t.ins.length : Int) + at_) ≤ s.n) = true := by simpa using hlt
    rw [show madeR T.t.ins.length (mkOf T.t) s at_ = false by simp [madeR, k0, k1, hlt]]
    clear k0 k1 hlt
    go_enter Try.func52, Try.ntmps52
    go_wp2_with fail
    go_ret
    exact ⟨rfl, HB2.out⟩
  have d2 : decide (((T.t.ins.length : Int) + at_) ≤ s.n) = false := by simpa using hlt
  by_cases hli : s.n < T.t.ins.length
  · have d3 : decide (s.n < (T.t.ins.length : Int)) = true := by simpa using hli
    rw [show madeR T.t.ins.length (mkOf T.t) s at_ = true by simp [madeR, k0, k1, hlt, hli]]
    clear k0 k1 hlt hli
    go_enter Try.func52, Try.ntmps52
    go_wp2_with fail
    go_ret
    exact ⟨rfl, HB2.out⟩
  have d3 : decide (s.n < (T.t.ins.length : Int)) = false := by simpa using hli
  obtain ⟨m, hm⟩ : ∃ m : Nat, s.n = T.t.ins.length + m := ⟨(s.n - T.t.ins.length).toNat, by omega⟩
  obtain ⟨o, ho⟩ : ∃ o, T.t.ops[m]? = some o := ⟨_, List.getElem?_eq_getElem (by omega)⟩
  have hml : m < T.t.ops.length := (List.getElem?_eq_some_iff.1 ho).1
  obtain ⟨b, oo, Aa, ca, hA, hb, e0, -, -, -, -, -⟩ := op_get HT.out.o.2.2.2 ho
  rw [hA] at x13
  rw [show madeR T.t.ins.length (mkOf T.t) s at_ = (rowOf o.op).makes by
    unfold madeR
    rw [show (s.n - (T.t.ins.length : Int)).toNat = m by omega, mkOf_at ho]
    simp [k0, k1, hlt, hli]]
  have d4 : decide (at_ ≤ m) = false := by
    rw [decide_eq_false_iff_not]
    omega
  rw [hm] at f3 d2 d3 hW2
  clear ho hA k0 k1 hlt hli
  have HMM := Lib.hid (fun w => refmakes_any o.op w)
  rw [hm]
  clear hm
  go_enter Try.func52, Try.ntmps52
  go_wp2_with (go_at_call 29; refine (HMM.out _).mono ?_; rintro e w7 ⟨rfl, rfl⟩)
  go_ret
  exact ⟨rfl, HB2.out⟩
theorem refname_any (op : Int) (w : World) : Calls Try.prog 98 #[.int .i64 op] w fun e w' => e = .returned (.string (rowOf op).name) ∧ w' = w := by
  go_enter Try.func98, Try.ntmps98
  go_wp2_with (go_at_call 64; refine (refrow_any _ _).mono ?_; rintro e w' ⟨rfl, rfl⟩)
  go_ret
  exact ⟨rfl, rfl⟩
theorem rowL_name : ∀ n : Fin 36, ((rowL.getD n.val noRow).name == ⟨#[]⟩) = !(rowL.getD n.val noRow).is := by decide
theorem name_is (op : Int) : ((rowOf op).name == ⟨#[]⟩) = !(rowOf op).is := by
  unfold rowOf
  by_cases hr : 0 ≤ op ∧ op < 36
  · rw [if_pos hr]
    cases his : (rowL.getD op.toNat noRow).is with
    | false => rfl
    | true =>
      have := rowL_name ⟨op.toNat, by omega⟩
      simp only [his] at this
      rw [if_pos rfl, this, his]
  · rw [if_neg hr]
    rfl
set_option maxRecDepth 100000 in
set_option maxHeartbeats 3200000 in
theorem refnumber_any (A : Option Addr) (na ca : Nat) (op kk c snap : Int) (w : World) :
    Calls Try.prog 99 #[.agg #[.int .i64 op, .slice A na ca, .int .i64 kk, .int .i64 c, .int .i64 snap]] w fun e w' => e = .returned (.bool (numS (rowOf op) op na kk c)) ∧ Below w.heap.size w w' := by
  obtain ⟨r, hr⟩ : ∃ r, rowOf op = r := ⟨_, rfl⟩
  have hrow := fun w => refrow_any op w
  rw [hr] at hrow
  have HR := Lib.hid hrow
  rw [hr]
  clear hr hrow
  have hbox := heap_alloc_last w (.cells #[.int .i64 op, .slice A na ca, .int .i64 kk, .int .i64 c, .int .i64 snap] 41)
  have f0 := cell_of_row _ w.heap.size 0 _ _ _ hbox
  have f1 := cell_of_row _ w.heap.size 1 _ _ _ hbox
  have f2 := cell_of_row _ w.heap.size 2 _ _ _ hbox
  have f3 := cell_of_row _ w.heap.size 3 _ _ _ hbox
  simp only [List.getElem?_toArray, List.getElem?_cons_zero, List.getElem?_cons_succ] at f0 f1 f2 f3
  obtain ⟨W1, hW1⟩ : ∃ W1, w.alloc (.cells #[.int .i64 op, .slice A na ca, .int .i64 kk, .int .i64 c, .int .i64 snap] 41) = W1 := ⟨_, rfl⟩
  have HB1 : Hid (Below w.heap.size w W1) := by rw [← hW1]; exact below_alloc (Below.refl _ _) _
  rw [hW1] at f0 f1 f2 f3
  clear hbox
  go_enter Try.func99, Try.ntmps99
  go_wp2_with (go_at_call 64; refine (HR.out _).mono ?_; rintro e w' ⟨rfl, rfl⟩)
  all_goals
    go_ret
    refine ⟨ret_bool ?_, HB1.out⟩
    clear HR HB1 hW1 f0 f1 f2 f3
    unfold numS numSw
    (try simp only [beq_iff_eq, beq_eq_false_iff_ne, bne_iff_ne, ne_eq, decide_eq_true_eq, decide_eq_false_iff_not] at *)
    grind
end Go.Proofs.Ytjcfppbahalgbaa
