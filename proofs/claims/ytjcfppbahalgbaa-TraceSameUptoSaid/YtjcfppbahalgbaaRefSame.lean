/- swathref16.Same, where what is compared first differs. -/
import Derived.Test.YtjcfppbahalgbaaSame
import Derived.Deep.DeepCutAuto
namespace Go.Proofs.Ytjcfppbahalgbaa
open Go.RowKit
set_option linter.unusedSimpArgs false
set_option linter.unusedVariables false
/-- A goal that no walk goes into. -/
structure Stop (p : Prop) : Prop where
  out : p
section
variable {ops : Array Oper} {Q : Exit → Act → World → Prop} {rest : List Oper} {a : Act} {w : World} {d : Option Tmp} {ty : TypeId} {p : String} {af : Array Edge}
theorem ld26 {x : Operand} (g : Nat) (k : TKey) (hg : At w g 0 (keyCs k)) (hx : a.eval x = .pointer (some ⟨g, 0, none⟩)) (h : wpList Try.prog ops Q rest (a.put d (.agg (keyCs k).toArray)) w) :
    wpList Try.prog ops Q ({ dst := d, op := .load 26 x, type := ty, pos := p, after := af, guard := none } :: rest) a w :=
  wpList_load_at rfl 26 x rfl g hx (keyCs k) _ hg Try.underlying26 rfl info26 h
theorem ne26 {x y : Operand} {t : TypeId} (k l : TKey) (b : Bool) (hb : (!decide (k = l)) = b) (hx : a.eval x = .agg (keyCs k).toArray) (hy : a.eval y = .agg (keyCs l).toArray) (h : wpList Try.prog ops Q rest (a.put d (.bool b)) w) :
    wpList Try.prog ops Q ({ dst := d, op := .binOp .neq 26 x y t, type := ty, pos := p, after := af, guard := none } :: rest) a w := by
  refine wpList_value rfl (exec_neq26 x y t rfl k l hx hy) ?_
  rw [hb]
  exact h
end
set_option maxRecDepth 100000 in
set_option maxHeartbeats 3200000 in
theorem refSame1_any (T S : TV) (w : World) (hT : T.ok w) (hS : S.ok w) (hnot : ¬ (T.t.key = S.t.key ∧ T.t.fn = S.t.fn ∧ T.t.pc = S.t.pc ∧ T.t.ins.length = S.t.ins.length ∧ T.t.ops.length = S.t.ops.length ∧ T.t.links.length = S.t.links.length ∧ T.t.virts.length = S.t.virts.length)) : Calls Try.prog 26 #[.agg T.cells.toArray, .agg S.cells.toArray] w fun e w' => e = .returned (.bool (decide (T.t = S.t))) ∧ Below w.heap.size w w' := by
  have HNOT := Lib.hid hnot
  clear hnot
  obtain ⟨W2, hW2⟩ : ∃ W2, (w.alloc (.cells T.cells.toArray 33)).alloc (.cells S.cells.toArray 33) = W2 := ⟨_, rfl⟩
  have hB2 : Below w.heap.size w W2 := by rw [← hW2]; exact below_alloc (below_alloc (Below.refl _ _) _) _
  have hatT : At W2 w.heap.size 0 T.cells := by rw [← hW2]; exact (At.of_obj (heap_alloc_last w _)).below (below_alloc (Below.refl _ _) _)
  have hatS : At W2 (w.heap.size + 1) 0 S.cells := by
    rw [← hW2]
    have := heap_alloc_last (w.alloc (.cells T.cells.toArray 33)) (.cells S.cells.toArray 33)
    rw [World.size_alloc] at this
    exact At.of_obj this
  have cells17 : ∀ (V : TV) (b : Nat) (w : World), At w b 0 V.cells → w.cell? ⟨b, 10, none⟩ = some (.int .i64 V.t.fn) ∧ w.cell? ⟨b, 11, none⟩ = some (.int .i64 V.t.pc) ∧ w.cell? ⟨b, 12, none⟩ = some (.slice V.i.A V.t.ins.length V.i.c) ∧
      w.cell? ⟨b, 13, none⟩ = some (.slice V.o.A V.t.ops.length V.o.c) ∧ w.cell? ⟨b, 14, none⟩ = some (.slice V.l.A V.t.links.length V.l.c) ∧ w.cell? ⟨b, 15, none⟩ = some (.slice V.v.A V.t.virts.length V.v.c) ∧ w.cell? ⟨b, 16, none⟩ = some (.slice V.b.A V.t.back.length V.b.c) := by
    intro V b w h
    have h10 := h 10 _ rfl
    have h11 := h 11 _ rfl
    have h12 := h 12 _ rfl
    have h13 := h 13 _ rfl
    have h14 := h 14 _ rfl
    have h15 := h 15 _ rfl
    have h16 := h 16 _ rfl
    rw [Nat.zero_add] at h10 h11 h12 h13 h14 h15 h16
    exact ⟨h10, h11, h12, h13, h14, h15, h16⟩
  have hKT := Lib.hid (key_at hatT)
  have hKS := Lib.hid (key_at hatS)
  obtain ⟨t10, t11, t12, t13, t14, t15, t16⟩ := cells17 T _ _ hatT
  obtain ⟨s10, s11, s12, s13, s14, s15, s16⟩ := cells17 S _ _ hatS
  have HT := Lib.hid (hT.below hB2)
  have HS := Lib.hid (hS.below hB2)
  obtain ⟨cs, hcs⟩ : ∃ cs, T.cells.toArray = cs := ⟨_, rfl⟩
  obtain ⟨ds, hds⟩ : ∃ ds, S.cells.toArray = ds := ⟨_, rfl⟩
  rw [hcs, hds] at hW2
  rw [hcs, hds]
  have HB2 := Lib.hid hB2
  clear hcs hds hatT hatS hT hS hB2 cells17
  have hne : ∀ {p : Prop} [Decidable p], ¬ p → (T.t = S.t → p) → decide (T.t = S.t) = false := by
    intro p _ hp hi
    simp only [decide_eq_false_iff_not]
    exact fun h => hp (hi h)
  by_cases hk : T.t.key = S.t.key
  rotate_left
  · rw [hne hk (fun h => by rw [h])]
    have hkd : (!decide (T.t.key = S.t.key)) = true := by simpa using hk
    clear hne hk
    go_enter Try.func26, Try.ntmps26
    go_wp2_with (first | (refine ld26 w.heap.size T.t.key hKT.out rfl ?_) | (refine ld26 (w.heap.size + 1) S.t.key hKS.out rfl ?_) | (refine ne26 T.t.key S.t.key true hkd (by simp [Act.eval, Act.put]) (by simp [Act.eval, Act.put]) ?_; refine Stop.out ?_))
    refine Stop.mk ?_
    go_wp2_with fail
    go_ret
    exact ⟨rfl, HB2.out⟩
  have hkd : (!decide (T.t.key = S.t.key)) = false := by simpa using hk
  by_cases h_fn : T.t.fn = S.t.fn
  rotate_left
  · rw [hne h_fn (fun h => by rw [h])]
    have d1 : (T.t.fn != S.t.fn) = true := by simpa using h_fn
    clear hne hk h_fn
    go_enter Try.func26, Try.ntmps26
    go_wp2_with (first | (refine ld26 w.heap.size T.t.key hKT.out rfl ?_) | (refine ld26 (w.heap.size + 1) S.t.key hKS.out rfl ?_) | (refine ne26 T.t.key S.t.key false hkd (by simp [Act.eval, Act.put]) (by simp [Act.eval, Act.put]) ?_; refine Stop.out ?_))
    refine Stop.mk ?_
    go_wp2_with fail
    go_ret
    exact ⟨rfl, HB2.out⟩
  have d1_fn : (T.t.fn != S.t.fn) = false := by simpa using h_fn
  by_cases h_pc : T.t.pc = S.t.pc
  rotate_left
  · rw [hne h_pc (fun h => by rw [h])]
    have d1 : (T.t.pc != S.t.pc) = true := by simpa using h_pc
    clear hne hk h_pc
    go_enter Try.func26, Try.ntmps26
    go_wp2_with (first | (refine ld26 w.heap.size T.t.key hKT.out rfl ?_) | (refine ld26 (w.heap.size + 1) S.t.key hKS.out rfl ?_) | (refine ne26 T.t.key S.t.key false hkd (by simp [Act.eval, Act.put]) (by simp [Act.eval, Act.put]) ?_; refine Stop.out ?_))
    refine Stop.mk ?_
    go_wp2_with fail
    go_ret
    exact ⟨rfl, HB2.out⟩
  have d1_pc : (T.t.pc != S.t.pc) = false := by simpa using h_pc
  by_cases l_ins : T.t.ins.length = S.t.ins.length
  rotate_left
  · rw [hne l_ins (fun h => by rw [h])]
    have d1 : ((T.t.ins.length : Int) != S.t.ins.length) = true := by simp; omega
    clear hne hk h_fn h_pc l_ins
    go_enter Try.func26, Try.ntmps26
    go_wp2_with (first | (refine ld26 w.heap.size T.t.key hKT.out rfl ?_) | (refine ld26 (w.heap.size + 1) S.t.key hKS.out rfl ?_) | (refine ne26 T.t.key S.t.key false hkd (by simp [Act.eval, Act.put]) (by simp [Act.eval, Act.put]) ?_; refine Stop.out ?_))
    refine Stop.mk ?_
    go_wp2_with fail
    go_ret
    exact ⟨rfl, HB2.out⟩
  have d1_ins : ((T.t.ins.length : Int) != S.t.ins.length) = false := by simp [l_ins]
  by_cases l_ops : T.t.ops.length = S.t.ops.length
  rotate_left
  · rw [hne l_ops (fun h => by rw [h])]
    have d1 : ((T.t.ops.length : Int) != S.t.ops.length) = true := by simp; omega
    clear hne hk h_fn h_pc l_ops
    go_enter Try.func26, Try.ntmps26
    go_wp2_with (first | (refine ld26 w.heap.size T.t.key hKT.out rfl ?_) | (refine ld26 (w.heap.size + 1) S.t.key hKS.out rfl ?_) | (refine ne26 T.t.key S.t.key false hkd (by simp [Act.eval, Act.put]) (by simp [Act.eval, Act.put]) ?_; refine Stop.out ?_))
    refine Stop.mk ?_
    go_wp2_with fail
    go_ret
    exact ⟨rfl, HB2.out⟩
  have d1_ops : ((T.t.ops.length : Int) != S.t.ops.length) = false := by simp [l_ops]
  by_cases l_links : T.t.links.length = S.t.links.length
  rotate_left
  · rw [hne l_links (fun h => by rw [h])]
    have d1 : ((T.t.links.length : Int) != S.t.links.length) = true := by simp; omega
    clear hne hk h_fn h_pc l_links
    go_enter Try.func26, Try.ntmps26
    go_wp2_with (first | (refine ld26 w.heap.size T.t.key hKT.out rfl ?_) | (refine ld26 (w.heap.size + 1) S.t.key hKS.out rfl ?_) | (refine ne26 T.t.key S.t.key false hkd (by simp [Act.eval, Act.put]) (by simp [Act.eval, Act.put]) ?_; refine Stop.out ?_))
    refine Stop.mk ?_
    go_wp2_with fail
    go_ret
    exact ⟨rfl, HB2.out⟩
  have d1_links : ((T.t.links.length : Int) != S.t.links.length) = false := by simp [l_links]
  by_cases l_virts : T.t.virts.length = S.t.virts.length
  rotate_left
  · rw [hne l_virts (fun h => by rw [h])]
    have d1 : ((T.t.virts.length : Int) != S.t.virts.length) = true := by simp; omega
    clear hne hk h_fn h_pc l_virts
    go_enter Try.func26, Try.ntmps26
    go_wp2_with (first | (refine ld26 w.heap.size T.t.key hKT.out rfl ?_) | (refine ld26 (w.heap.size + 1) S.t.key hKS.out rfl ?_) | (refine ne26 T.t.key S.t.key false hkd (by simp [Act.eval, Act.put]) (by simp [Act.eval, Act.put]) ?_; refine Stop.out ?_))
    refine Stop.mk ?_
    go_wp2_with fail
    go_ret
    exact ⟨rfl, HB2.out⟩
  have d1_virts : ((T.t.virts.length : Int) != S.t.virts.length) = false := by simp [l_virts]
  exact absurd ⟨hk, h_fn, h_pc, l_ins, l_ops, l_links, l_virts⟩ HNOT.out
end Go.Proofs.Ytjcfppbahalgbaa
