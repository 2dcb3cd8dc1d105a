/- trace's checker: outside. -/
import Derived.Test.YtjcfppbahalgbaaI
import Derived.Deep.DeepCutAuto
namespace Go.Proofs.Ytjcfppbahalgbaa
set_option linter.unusedSimpArgs false
set_option linter.unusedVariables false
open Go.RowKit
theorem wpList_store_new2 {P : Program} {ops : Array Oper} {Q : Exit → Act → World → Prop} {rest : List Oper} {o : Oper} {a : Act} {w : World} (hg : o.guard = none) (t : TypeId) (x v : Operand) (ho : o.op = .store t x v)
    (g : Nat) {c : Array Value} (c' : Array Value) (hgs : g = w.heap.size) (hx : a.eval x = .pointer (some ⟨g, 0, none⟩)) (hv : a.eval v = .agg c') (hi : (P.info? t).map (·.size) = some c'.size) (hs : c.size = c'.size) (h1 : c'.all (·.oneCell') = true)
    (hk : wpList P ops Q rest (a.put o.dst undef) (w.alloc (.cells c' t))) : wpList P ops Q (o :: rest) a (w.alloc (.cells c t)) := by
  subst hgs
  exact wpList_store_new hg ho hx hv hi hs h1 hk
def allI {α : Type} (p : Nat → α → Bool) (l : List α) : Bool := l.zipIdx.all (fun x => p x.2 x.1)
theorem allI_take_succ {α : Type} {p : Nat → α → Bool} {l : List α} {k : Nat} {x : α} (hx : l[k]? = some x) : allI p (l.take (k + 1)) = (allI p (l.take k) && p k x) := by
  have hlt := (List.getElem?_eq_some_iff.1 hx).1
  have h1 : l[k] = x := (List.getElem?_eq_some_iff.1 hx).2
  unfold allI
  rw [List.take_succ_eq_append_getElem hlt, List.zipIdx_append, List.all_append]
  simp [h1, List.length_take, Nat.min_eq_left (Nat.le_of_lt hlt)]
theorem allI_no {α : Type} {p : Nat → α → Bool} {l : List α} {k : Nat} {x : α} (hx : l[k]? = some x) (h : p k x = false) : allI p l = false := by
  unfold allI
  rw [List.all_eq_false]
  refine ⟨(x, k), ?_, by simp [h]⟩
  rw [List.mem_zipIdx_iff_getElem?]
  exact hx
theorem allI_at {α : Type} {p : Nat → α → Bool} {l : List α} (h : allI p l = true) {k : Nat} {x : α} (hx : l[k]? = some x) : p k x = true := by
  cases hp : p k x with
  | true => rfl
  | false => rw [allI_no hx hp] at h; cases h
def insP (ins : List Int) (i : Nat) (r : Int) : Bool := decide (0 ≤ r) && decide (r < 1000) && (i == 0 || decide (ins.getD (i - 1) 0 < r))
def linkP (nv : Nat) (i : Nat) (l : TLnk) : Bool := decide (-1 ≤ l.up) && decide (l.up < i) && allS nv l.regs
def virtP (nv : Nat) (v : TVrt) : Bool := decide (0 ≤ v.rc) && decide (v.rc ≤ 1000) && allS nv v.cells
def backP (nv : Nat) (s : TSrc) : Bool := plainS nv s && s.k != 2
def headS (t : Trc) : Bool := decide (0 ≤ t.key.n) && decide (t.key.n ≤ 4) && t.back.length == t.ins.length
def outS (t : Trc) : Bool := headS t && allI (insP t.ins) t.ins && allI (linkP t.virts.length) t.links && t.virts.all (virtP t.virts.length) && t.back.all (backP t.virts.length)
theorem outS_head {t : Trc} (h : headS t = false) : outS t = false := by simp [outS, h]
set_option maxRecDepth 100000 in
set_option maxHeartbeats 3200000 in
theorem outside_any (T : TV) (X : Nat) (n : Int) (w : World) (hT : T.ok w) (hX : At w X 0 T.cells) (h17 : w.cell? ⟨X, 17, none⟩ = some (.int .i64 n)) :
    Calls Try.prog 119 #[.pointer (some ⟨X, 0, none⟩)] w fun e w' => e = mustE (outS T.t) n ∧ Below w.heap.size w w' := by
  obtain ⟨t, ⟨Ai, ci⟩, ⟨Ao, co⟩, ⟨Al, cl⟩, ⟨Av, cv⟩, ⟨Ab, cb⟩⟩ := T
  obtain ⟨T, hTd⟩ : ∃ T : TV, T = ⟨t, ⟨Ai, ci⟩, ⟨Ao, co⟩, ⟨Al, cl⟩, ⟨Av, cv⟩, ⟨Ab, cb⟩⟩ := ⟨_, rfl⟩
  rw [← hTd] at hT hX ⊢
  rw [show T.t = t by rw [hTd]]
  have HTd := Lib.hid hTd
  clear hTd
  go_enter Try.func119, Try.ntmps119
  have hXb : X < w.heap.size := lt_of_cell h17
  go_upto_region 2 with (first | (refine wpList_load_at rfl 33 _ rfl X rfl T.cells _ (At.below hX (below_alloc (Below.refl _ _) _)) Try.underlying33 rfl info33 ?_) | (refine wpList_store_new2 rfl 33 (.tmp 2) (.tmp 15) rfl (w.heap.size + 1) T.cells.toArray (by simp) rfl rfl info33 rfl T.cells_one ?_))
  obtain ⟨W2, hW2⟩ : ∃ W2, (w.alloc (.cells #[.pointer (some ⟨X, 0, none⟩)] 127)).alloc (.cells T.cells.toArray 33) = W2 := ⟨_, rfl⟩
  have hB2 : Below w.heap.size w W2 := by rw [← hW2]; exact below_alloc (below_alloc (Below.refl _ _) _) _
  have hb2 : W2.heap[w.heap.size + 1]? = some (.cells T.cells.toArray 33 (0, 0)) := by rw [← hW2]; have := heap_alloc_last (w.alloc (.cells #[.pointer (some ⟨X, 0, none⟩)] 127)) (.cells T.cells.toArray 33); simpa using this
  have hb1 : W2.heap[w.heap.size]? = some (.cells #[.pointer (some ⟨X, 0, none⟩)] 127 (0, 0)) := by rw [← hW2, Below.heap_alloc _ _ _ (by simp)]; exact heap_alloc_last w _
  have hs2 : W2.heap.size = w.heap.size + 2 := by rw [← hW2]; simp
  rw [hW2]
  have hT2 := hT.below hB2
  have k17 := cell_later hB2 h17
  have k15 := cell_later hB2 (hX 15 _ rfl)
  rw [Nat.zero_add] at k15
  have kb : W2.cell? ⟨w.heap.size, 0, none⟩ = some (.pointer (some ⟨X, 0, none⟩)) := by rw [cell_of_row W2 _ 0 _ _ _ hb1]; rfl
  obtain ⟨-, c1, -, -, -, -, -, -, -, -, -, -, c12, c13, c14, c15, c16⟩ := at17 (At.of_obj hb2)
  have FI : RowAt IntR 1 W2 Ai t.ins := by have := hT2.i.2.2.2; rw [HTd.out] at this; exact this
  have FL : RowAt LnkR 5 W2 Al t.links := by have := hT2.l.2.2.2; rw [HTd.out] at this; exact this
  have FV : RowAt VrtR 2 W2 Av t.virts := by have := hT2.v.2.2.2; rw [HTd.out] at this; exact this
  have FB : RowAt SrcR 4 W2 Ab t.back := by have := hT2.b.2.2.2; rw [HTd.out] at this; exact this
  have hci : t.ins.length ≤ 1048576 := by have := hT2.i.2.2.1; rw [HTd.out] at this; exact this
  have hcl : t.links.length ≤ 1048576 := by have := hT2.l.2.2.1; rw [HTd.out] at this; exact this
  have hcv : t.virts.length ≤ 1048576 := by have := hT2.v.2.2.1; rw [HTd.out] at this; exact this
  have hcb : t.back.length ≤ 1048576 := by have := hT2.b.2.2.1; rw [HTd.out] at this; exact this
  rw [show T.t = t by rw [HTd.out]] at c1 c12 c14 c15 c16 k15
  rw [show T.i.A = Ai by rw [HTd.out], show T.i.c = ci by rw [HTd.out]] at c12
  rw [show T.l.A = Al by rw [HTd.out], show T.l.c = cl by rw [HTd.out]] at c14
  rw [show T.v.A = Av by rw [HTd.out], show T.v.c = cv by rw [HTd.out]] at c15 k15
  rw [show T.b.A = Ab by rw [HTd.out], show T.b.c = cb by rw [HTd.out]] at c16
  have HB2 := Lib.hid hB2
  have HI := Lib.hid FI
  have HL := Lib.hid FL
  have HV := Lib.hid FV
  have HK := Lib.hid FB
  clear hW2 hb2 hb1 hB2 hT2 hX hT h17 c13 FI FL FV FB
  obtain ⟨T17, hT17⟩ : ∃ x, T.cells.toArray = x := ⟨_, rfl⟩
  rw [hT17]
  clear hT17 HTd
  simp only [Act.put]
  go_cut [] (fun wx => Hid (headS t = true) ∧ wx = W2)
  case first =>
    go_wp2_with fail
    all_goals refine calls_must k17 (fun hok => ?_) (fun hok => ?_)
    all_goals first | cases hok | skip
    all_goals go_wp2_with fail
    all_goals first
      | (go_meet; refine ⟨?_, rfl⟩; (show _ = true); unfold headS; (try simp only [beq_iff_eq] at hok); grind)
      | (refine ⟨rfl, mustE_no (outS_head ?_), HB2.out⟩; unfold headS; (try simp only [beq_eq_false_iff_ne] at hok); simp; omega)
  case rest =>
    obtain ⟨hhd, rfl⟩ := hcut
    go_wp2_with fail
    go_loopw [40] (fun s40 wr => ∃ k : Nat, s40 = .int .i64 k ∧ k ≤ t.ins.length ∧ Hid (allI (insP t.ins) (t.ins.take k) = true) ∧ Below wc.heap.size wc wr)
      (fun s40 _ => t.ins.length - (intOf s40).toNat)
    case atStart => exact ⟨0, rfl, Nat.zero_le _, rfl, Below.refl _ _⟩
    case round =>
      obtain ⟨k, rfl, hk, ha, hB⟩ := hrel
      have g17 := cell_later hB k17
      have gb := cell_later hB kb
      have g12 := cell_later hB c12
      by_cases hlt : k < t.ins.length
      · obtain ⟨r, hr⟩ : ∃ r, t.ins[k]? = some r := ⟨_, List.getElem?_eq_getElem hlt⟩
        obtain ⟨b, o, rfl, hb, e0⟩ := int_get (RowAt.below HI.out hB (fun _ _ h => h)) hr
        have HR := Lib.hid hr
        have HB := Lib.hid hB
        clear hr hB
        go_wp2_with fail
        -- the order is drawn: the guards decided ahead
        have hdone : ∀ (bv : Bool) (wq : World), Below wr.heap.size wr wq → insP t.ins k r = bv → bv = false → Below w.heap.size w wq ∧ outS t = false := by
          intro bv wq hq he hf
          refine ⟨HB2.out.trans ((HB.out.trans (hq.mono HB.out.size)).mono (by omega)), ?_⟩
          unfold outS
          rw [allI_no HR.out (he.trans hf)]
          simp
        have HD := Lib.hid hdone
        clear hdone
        obtain ⟨b0, hb0⟩ : ∃ b0, decide (0 ≤ r) = b0 := ⟨_, rfl⟩
        obtain ⟨b1, hb1⟩ : ∃ b1, decide (r < 1000) = b1 := ⟨_, rfl⟩
        rcases k with _ | k'
        · have hins : insP t.ins 0 r = (decide (0 ≤ r) && decide (r < 1000)) := by simp [insP]
          have HP := Lib.hid hins
          clear hins
          cases b0 <;> cases b1
          all_goals
            refine drawn_begin (fun w' => Below wr.heap.size wr w' ∧ w'.cell? ⟨w.heap.size, 0, none⟩ = some (.pointer (some ⟨X, 0, none⟩)) ∧ w'.cell? ⟨X, 17, none⟩ = some (.int .i64 n) ∧
              w'.cell? ⟨w.heap.size + 1, 12, none⟩ = some (.slice (some ⟨b, o, none⟩) t.ins.length ci)) (fun c a d v w h => ?_) (by kernel_rfl) ?_ (fun hside hHeld => ?_)
            · (obtain ⟨h1, h2⟩ := h; exact And.intro (put_nil h1) h2)
            · exact ⟨below_drewN (Below.refl _ _) 1, gb, g17, g12⟩
            refine wpAnyH_take (i := 0) (v := ?_) (op_at rfl) (by kernel_rfl) (by kernel_rfl) (by kernel_rfl) (fun _ _ _ h => hside _ _ _ _ _ h) (Or.inl ⟨by rfl, ?_⟩) (by assumption) ?_
            rotate_left
            · (intro w hSw; (try dsimp only at hSw); go_simp; all_goals with_reducible rfl)
            (try simp only [Act.put, List.setIfInBounds_toArray, List.set_cons_zero, List.set_cons_succ])
            refine wpAnyH_take (i := 1) (v := ?_) (op_at rfl) (by kernel_rfl) (by kernel_rfl) (by kernel_rfl) (fun _ _ _ h => hside _ _ _ _ _ h) (Or.inl ⟨by rfl, ?_⟩) (by assumption) ?_
            rotate_left
            · (intro w hSw; (try dsimp only at hSw); go_simp; all_goals with_reducible rfl)
            (try simp only [Act.put, List.setIfInBounds_toArray, List.set_cons_zero, List.set_cons_succ])
            refine wpAnyH_take (i := 2) (v := ?_) (op_at rfl) (by kernel_rfl) (by kernel_rfl) (by kernel_rfl) (fun _ _ _ h => hside _ _ _ _ _ h) (Or.inl ⟨by rfl, ?_⟩) (by assumption) ?_
            rotate_left
            · (intro w hSw; (try dsimp only at hSw); go_simp; all_goals with_reducible rfl)
            (try simp only [Act.put, List.setIfInBounds_toArray, List.set_cons_zero, List.set_cons_succ])
            refine wpAnyH_take (i := 3) (v := ?_) (op_at rfl) (by kernel_rfl) (by kernel_rfl) (by kernel_rfl) (fun _ _ _ h => hside _ _ _ _ _ h) (Or.inl ⟨by rfl, ?_⟩) (by assumption) ?_
            rotate_left
            · (intro w hSw; (try dsimp only at hSw); go_simp; all_goals with_reducible rfl)
            (try simp only [Act.put, List.setIfInBounds_toArray, List.set_cons_zero, List.set_cons_succ])
            first
            | (refine wpAnyH_take (i := 4) (v := undef) (op_at rfl) (by kernel_rfl) (by kernel_rfl) (by kernel_rfl) (fun _ _ _ h => hside _ _ _ _ _ h) (Or.inr ⟨by rfl, rfl⟩) (by assumption) ?_
               (try simp only [Act.put, List.setIfInBounds_toArray, List.set_cons_zero, List.set_cons_succ]))
            | (refine wpAnyH_take (i := 4) (v := ?_) (op_at rfl) (by kernel_rfl) (by kernel_rfl) (by kernel_rfl) (fun _ _ _ h => hside _ _ _ _ _ h) (Or.inl ⟨by rfl, ?_⟩) (by assumption) ?_
               rotate_left
               · (intro w hSw; (try dsimp only at hSw); go_simp; all_goals with_reducible rfl)
               (try simp only [Act.put, List.setIfInBounds_toArray, List.set_cons_zero, List.set_cons_succ]))
            first
            | (refine wpAnyH_take (i := 5) (v := undef) (op_at rfl) (by kernel_rfl) (by kernel_rfl) (by kernel_rfl) (fun _ _ _ h => hside _ _ _ _ _ h) (Or.inr ⟨by rfl, rfl⟩) (by assumption) ?_
               (try simp only [Act.put, List.setIfInBounds_toArray, List.set_cons_zero, List.set_cons_succ]))
            | (refine wpAnyH_take (i := 5) (v := ?_) (op_at rfl) (by kernel_rfl) (by kernel_rfl) (by kernel_rfl) (fun _ _ _ h => hside _ _ _ _ _ h) (Or.inl ⟨by rfl, ?_⟩) (by assumption) ?_
               rotate_left
               · (intro w hSw; (try dsimp only at hSw); go_simp; all_goals with_reducible rfl)
               (try simp only [Act.put, List.setIfInBounds_toArray, List.set_cons_zero, List.set_cons_succ]))
            refine wpAnyH_take (i := 6) (v := ?_) (op_at rfl) (by kernel_rfl) (by kernel_rfl) (by kernel_rfl) (fun _ _ _ h => hside _ _ _ _ _ h) (Or.inl ⟨by rfl, ?_⟩) (by assumption) ?_
            rotate_left
            · (intro w hSw; (try dsimp only at hSw); go_simp; all_goals with_reducible rfl)
            (try simp only [Act.put, List.setIfInBounds_toArray, List.set_cons_zero, List.set_cons_succ])
            refine wpAnyH_take (i := 7) (v := ?_) (op_at rfl) (by kernel_rfl) (by kernel_rfl) (by kernel_rfl) (fun _ _ _ h => hside _ _ _ _ _ h) (Or.inl ⟨by rfl, ?_⟩) (by assumption) ?_
            rotate_left
            · (intro w hSw; (try dsimp only at hSw); go_simp; all_goals with_reducible rfl)
            (try simp only [Act.put, List.setIfInBounds_toArray, List.set_cons_zero, List.set_cons_succ])
            first
            | (refine wpAnyH_take (i := 8) (v := undef) (op_at rfl) (by kernel_rfl) (by kernel_rfl) (by kernel_rfl) (fun _ _ _ h => hside _ _ _ _ _ h) (Or.inr ⟨by rfl, rfl⟩) (by assumption) ?_
               (try simp only [Act.put, List.setIfInBounds_toArray, List.set_cons_zero, List.set_cons_succ]))
            | (refine wpAnyH_take (i := 8) (v := ?_) (op_at rfl) (by kernel_rfl) (by kernel_rfl) (by kernel_rfl) (fun _ _ _ h => hside _ _ _ _ _ h) (Or.inl ⟨by rfl, ?_⟩) (by assumption) ?_
               rotate_left
               · (intro w hSw; (try dsimp only at hSw); go_simp; all_goals with_reducible rfl)
               (try simp only [Act.put, List.setIfInBounds_toArray, List.set_cons_zero, List.set_cons_succ]))
            first
            | (refine wpAnyH_take (i := 9) (v := undef) (op_at rfl) (by kernel_rfl) (by kernel_rfl) (by kernel_rfl) (fun _ _ _ h => hside _ _ _ _ _ h) (Or.inr ⟨by rfl, rfl⟩) (by assumption) ?_
               (try simp only [Act.put, List.setIfInBounds_toArray, List.set_cons_zero, List.set_cons_succ]))
            | (refine wpAnyH_take (i := 9) (v := ?_) (op_at rfl) (by kernel_rfl) (by kernel_rfl) (by kernel_rfl) (fun _ _ _ h => hside _ _ _ _ _ h) (Or.inl ⟨by rfl, ?_⟩) (by assumption) ?_
               rotate_left
               · (intro w hSw; (try dsimp only at hSw); go_simp; all_goals with_reducible rfl)
               (try simp only [Act.put, List.setIfInBounds_toArray, List.set_cons_zero, List.set_cons_succ]))
            first
            | (refine wpAnyH_take (i := 10) (v := undef) (op_at rfl) (by kernel_rfl) (by kernel_rfl) (by kernel_rfl) (fun _ _ _ h => hside _ _ _ _ _ h) (Or.inr ⟨by rfl, rfl⟩) (by assumption) ?_
               (try simp only [Act.put, List.setIfInBounds_toArray, List.set_cons_zero, List.set_cons_succ]))
            | (refine wpAnyH_take (i := 10) (v := ?_) (op_at rfl) (by kernel_rfl) (by kernel_rfl) (by kernel_rfl) (fun _ _ _ h => hside _ _ _ _ _ h) (Or.inl ⟨by rfl, ?_⟩) (by assumption) ?_
               rotate_left
               · (intro w hSw; (try dsimp only at hSw); go_simp; all_goals with_reducible rfl)
               (try simp only [Act.put, List.setIfInBounds_toArray, List.set_cons_zero, List.set_cons_succ]))
            refine wpAnyH_take (i := 11) (v := undef) (op_at rfl) (by kernel_rfl) (by kernel_rfl) (by kernel_rfl) (fun _ _ _ h => hside _ _ _ _ _ h) (Or.inr ⟨by rfl, rfl⟩) (by assumption) ?_
            (try simp only [Act.put, List.setIfInBounds_toArray, List.set_cons_zero, List.set_cons_succ])
            refine wpAnyH_take (i := 12) (v := undef) (op_at rfl) (by kernel_rfl) (by kernel_rfl) (by kernel_rfl) (fun _ _ _ h => hside _ _ _ _ _ h) (Or.inr ⟨by rfl, rfl⟩) (by assumption) ?_
            (try simp only [Act.put, List.setIfInBounds_toArray, List.set_cons_zero, List.set_cons_succ])
            refine wpAnyH_take (i := 13) (v := undef) (op_at rfl) (by kernel_rfl) (by kernel_rfl) (by kernel_rfl) (fun _ _ _ h => hside _ _ _ _ _ h) (Or.inr ⟨by rfl, rfl⟩) (by assumption) ?_
            (try simp only [Act.put, List.setIfInBounds_toArray, List.set_cons_zero, List.set_cons_succ])
            refine wpAnyH_take (i := 14) (v := undef) (op_at rfl) (by kernel_rfl) (by kernel_rfl) (by kernel_rfl) (fun _ _ _ h => hside _ _ _ _ _ h) (Or.inr ⟨by rfl, rfl⟩) (by assumption) ?_
            (try simp only [Act.put, List.setIfInBounds_toArray, List.set_cons_zero, List.set_cons_succ])
            refine wpAnyH_take (i := 15) (v := undef) (op_at rfl) (by kernel_rfl) (by kernel_rfl) (by kernel_rfl) (fun _ _ _ h => hside _ _ _ _ _ h) (Or.inr ⟨by rfl, rfl⟩) (by assumption) ?_
            (try simp only [Act.put, List.setIfInBounds_toArray, List.set_cons_zero, List.set_cons_succ])
            refine wpAnyH_take (i := 16) (v := undef) (op_at rfl) (by kernel_rfl) (by kernel_rfl) (by kernel_rfl) (fun _ _ _ h => hside _ _ _ _ _ h) (Or.inr ⟨by rfl, rfl⟩) (by assumption) ?_
            (try simp only [Act.put, List.setIfInBounds_toArray, List.set_cons_zero, List.set_cons_succ])
            refine wpAnyH_take (i := 17) (v := undef) (op_at rfl) (by kernel_rfl) (by kernel_rfl) (by kernel_rfl) (fun _ _ _ h => hside _ _ _ _ _ h) (Or.inr ⟨by rfl, rfl⟩) (by assumption) ?_
            (try simp only [Act.put, List.setIfInBounds_toArray, List.set_cons_zero, List.set_cons_succ])
            refine wpAnyH_take (i := 18) (v := undef) (op_at rfl) (by kernel_rfl) (by kernel_rfl) (by kernel_rfl) (fun _ _ _ h => hside _ _ _ _ _ h) (Or.inr ⟨by rfl, rfl⟩) (by assumption) ?_
            (try simp only [Act.put, List.setIfInBounds_toArray, List.set_cons_zero, List.set_cons_succ])
            first
            | (refine wpAnyH_take (i := 19) (v := undef) (op_at rfl) (by kernel_rfl) (by kernel_rfl) (by kernel_rfl) (fun _ _ _ h => hside _ _ _ _ _ h) (Or.inr ⟨by rfl, rfl⟩) (by assumption) ?_
               (try simp only [Act.put, List.setIfInBounds_toArray, List.set_cons_zero, List.set_cons_succ]))
            | (refine wpAnyH_take (i := 19) (v := ?_) (op_at rfl) (by kernel_rfl) (by kernel_rfl) (by kernel_rfl) (fun _ _ _ h => hside _ _ _ _ _ h) (Or.inl ⟨by rfl, ?_⟩) (by assumption) ?_
               rotate_left
               · (intro w hSw; (try dsimp only at hSw); go_simp; all_goals with_reducible rfl)
               (try simp only [Act.put, List.setIfInBounds_toArray, List.set_cons_zero, List.set_cons_succ]))
            refine wpAnyH_take (i := 20) (v := ?_) (op_at rfl) (by kernel_rfl) (by kernel_rfl) (by kernel_rfl) (fun _ _ _ h => hside _ _ _ _ _ h) (Or.inl ⟨by rfl, ?_⟩) (by assumption) ?_
            rotate_left
            · (intro w hSw; (try dsimp only at hSw); go_simp; all_goals with_reducible rfl)
            (try simp only [Act.put, List.setIfInBounds_toArray, List.set_cons_zero, List.set_cons_succ])
            refine wpAnyH_ready (rs := [21]) (by kernel_rfl) (by simp) (AllReadyH.cons (op_at rfl) (fun Kr hK => ?_) AllReadyH.nil)
            go_simp
            refine calls_must (cell_later hHeld.1 g17) (fun hok => ?_) (fun hok => ?_)
          all_goals first | cases hok | skip
          all_goals try
            (obtain ⟨hh1, hh2⟩ := HD.out _ _ hHeld.1 rfl (by rw [HP.out, hb0, hb1]; rfl)
             exact ⟨rfl, mustE_no hh2, hh1⟩)
          refine hK.out _ _ ?_ (fun hHeld => ?_)
          · exact hHeld
          clear hK
          (try simp only [Act.put, List.setIfInBounds_toArray, List.set_cons_zero, List.set_cons_succ])
          refine wpAnyH_done (by kernel_rfl) ?_ _
          have HB4 := Lib.hid (below_then HB.out hHeld.1)
          clear hHeld
          go_wp2_with fail
          go_roundw
          case rel =>
            refine ⟨0 + 1, by go_num, by omega, ?_, HB4.out⟩
            show _ = _
            rw [allI_take_succ HR.out, HP.out, hb0, hb1]
            rfl
          case measure => simp [intOf]; omega
        · obtain ⟨pv, hpv⟩ : ∃ pv, t.ins[k']? = some pv := ⟨_, List.getElem?_eq_getElem (by omega)⟩
          obtain ⟨b', o', hbo, _, ep⟩ := int_get (RowAt.below HI.out HB.out (fun _ _ h => h)) hpv
          injection hbo with hbo
          injection hbo with hbo1 hbo2
          subst hbo1
          subst hbo2
          have hwrap : IntKind.i64.wrap (k' : Int) = k' := IntWalk.i64_in _ (by omega)
          have hk1 : ((k' : Int) + 1 == 0) = false := by rw [beq_eq_false_iff_ne]; omega
          have hk2 : ¬ ((k' : Int) + 1 = 0) := by omega
          have hk3 : (k' : Int) < t.ins.length := by omega
          have hk4 : (0 : Int) ≤ (k' : Int) := by omega
          have hins : insP t.ins (k' + 1) r = (decide (0 ≤ r) && decide (r < 1000) && decide (pv < r)) := by
            unfold insP
            rw [Nat.add_sub_cancel, List.getD_eq_getElem?_getD, hpv]
            simp
          have HP := Lib.hid hins
          clear hins hpv
          cases b0 <;> cases b1
          all_goals
            refine drawn_begin (fun w' => Below wr.heap.size wr w' ∧ w'.cell? ⟨w.heap.size, 0, none⟩ = some (.pointer (some ⟨X, 0, none⟩)) ∧ w'.cell? ⟨X, 17, none⟩ = some (.int .i64 n) ∧ w'.cell? ⟨b, o + k', none⟩ = some (.int .i64 pv) ∧
              w'.cell? ⟨w.heap.size + 1, 12, none⟩ = some (.slice (some ⟨b, o, none⟩) t.ins.length ci)) (fun c a d v w h => ?_) (by kernel_rfl) ?_ (fun hside hHeld => ?_)
            · (obtain ⟨h1, h2⟩ := h; exact And.intro (put_nil h1) h2)
            · exact ⟨below_drewN (Below.refl _ _) 1, gb, g17, ep, g12⟩
            refine wpAnyH_take (i := 0) (v := ?_) (op_at rfl) (by kernel_rfl) (by kernel_rfl) (by kernel_rfl) (fun _ _ _ h => hside _ _ _ _ _ h) (Or.inl ⟨by rfl, ?_⟩) (by assumption) ?_
            rotate_left
            · (intro w hSw; (try dsimp only at hSw); go_simp; all_goals with_reducible rfl)
            (try simp only [Act.put, List.setIfInBounds_toArray, List.set_cons_zero, List.set_cons_succ])
            refine wpAnyH_take (i := 1) (v := ?_) (op_at rfl) (by kernel_rfl) (by kernel_rfl) (by kernel_rfl) (fun _ _ _ h => hside _ _ _ _ _ h) (Or.inl ⟨by rfl, ?_⟩) (by assumption) ?_
            rotate_left
            · (intro w hSw; (try dsimp only at hSw); go_simp; all_goals with_reducible rfl)
            (try simp only [Act.put, List.setIfInBounds_toArray, List.set_cons_zero, List.set_cons_succ])
            refine wpAnyH_take (i := 2) (v := ?_) (op_at rfl) (by kernel_rfl) (by kernel_rfl) (by kernel_rfl) (fun _ _ _ h => hside _ _ _ _ _ h) (Or.inl ⟨by rfl, ?_⟩) (by assumption) ?_
            rotate_left
            · (intro w hSw; (try dsimp only at hSw); go_simp; all_goals with_reducible rfl)
            (try simp only [Act.put, List.setIfInBounds_toArray, List.set_cons_zero, List.set_cons_succ])
            refine wpAnyH_take (i := 3) (v := ?_) (op_at rfl) (by kernel_rfl) (by kernel_rfl) (by kernel_rfl) (fun _ _ _ h => hside _ _ _ _ _ h) (Or.inl ⟨by rfl, ?_⟩) (by assumption) ?_
            rotate_left
            · (intro w hSw; (try dsimp only at hSw); go_simp; all_goals with_reducible rfl)
            (try simp only [Act.put, List.setIfInBounds_toArray, List.set_cons_zero, List.set_cons_succ])
            first
            | (refine wpAnyH_take (i := 4) (v := undef) (op_at rfl) (by kernel_rfl) (by kernel_rfl) (by kernel_rfl) (fun _ _ _ h => hside _ _ _ _ _ h) (Or.inr ⟨by rfl, rfl⟩) (by assumption) ?_
               (try simp only [Act.put, List.setIfInBounds_toArray, List.set_cons_zero, List.set_cons_succ]))
            | (refine wpAnyH_take (i := 4) (v := ?_) (op_at rfl) (by kernel_rfl) (by kernel_rfl) (by kernel_rfl) (fun _ _ _ h => hside _ _ _ _ _ h) (Or.inl ⟨by rfl, ?_⟩) (by assumption) ?_
               rotate_left
               · (intro w hSw; (try dsimp only at hSw); go_simp; all_goals with_reducible rfl)
               (try simp only [Act.put, List.setIfInBounds_toArray, List.set_cons_zero, List.set_cons_succ]))
            first
            | (refine wpAnyH_take (i := 5) (v := undef) (op_at rfl) (by kernel_rfl) (by kernel_rfl) (by kernel_rfl) (fun _ _ _ h => hside _ _ _ _ _ h) (Or.inr ⟨by rfl, rfl⟩) (by assumption) ?_
               (try simp only [Act.put, List.setIfInBounds_toArray, List.set_cons_zero, List.set_cons_succ]))
            | (refine wpAnyH_take (i := 5) (v := ?_) (op_at rfl) (by kernel_rfl) (by kernel_rfl) (by kernel_rfl) (fun _ _ _ h => hside _ _ _ _ _ h) (Or.inl ⟨by rfl, ?_⟩) (by assumption) ?_
               rotate_left
               · (intro w hSw; (try dsimp only at hSw); go_simp; all_goals with_reducible rfl)
               (try simp only [Act.put, List.setIfInBounds_toArray, List.set_cons_zero, List.set_cons_succ]))
            refine wpAnyH_take (i := 6) (v := ?_) (op_at rfl) (by kernel_rfl) (by kernel_rfl) (by kernel_rfl) (fun _ _ _ h => hside _ _ _ _ _ h) (Or.inl ⟨by rfl, ?_⟩) (by assumption) ?_
            rotate_left
            · (intro w hSw; (try dsimp only at hSw); go_simp; all_goals with_reducible rfl)
            (try simp only [Act.put, List.setIfInBounds_toArray, List.set_cons_zero, List.set_cons_succ])
            refine wpAnyH_take (i := 7) (v := ?_) (op_at rfl) (by kernel_rfl) (by kernel_rfl) (by kernel_rfl) (fun _ _ _ h => hside _ _ _ _ _ h) (Or.inl ⟨by rfl, ?_⟩) (by assumption) ?_
            rotate_left
            · (intro w hSw; (try dsimp only at hSw); go_simp; all_goals with_reducible rfl)
            (try simp only [Act.put, List.setIfInBounds_toArray, List.set_cons_zero, List.set_cons_succ])
            first
            | (refine wpAnyH_take (i := 8) (v := undef) (op_at rfl) (by kernel_rfl) (by kernel_rfl) (by kernel_rfl) (fun _ _ _ h => hside _ _ _ _ _ h) (Or.inr ⟨by rfl, rfl⟩) (by assumption) ?_
               (try simp only [Act.put, List.setIfInBounds_toArray, List.set_cons_zero, List.set_cons_succ]))
            | (refine wpAnyH_take (i := 8) (v := ?_) (op_at rfl) (by kernel_rfl) (by kernel_rfl) (by kernel_rfl) (fun _ _ _ h => hside _ _ _ _ _ h) (Or.inl ⟨by rfl, ?_⟩) (by assumption) ?_
               rotate_left
               · (intro w hSw; (try dsimp only at hSw); go_simp; all_goals with_reducible rfl)
               (try simp only [Act.put, List.setIfInBounds_toArray, List.set_cons_zero, List.set_cons_succ]))
            first
            | (refine wpAnyH_take (i := 9) (v := undef) (op_at rfl) (by kernel_rfl) (by kernel_rfl) (by kernel_rfl) (fun _ _ _ h => hside _ _ _ _ _ h) (Or.inr ⟨by rfl, rfl⟩) (by assumption) ?_
               (try simp only [Act.put, List.setIfInBounds_toArray, List.set_cons_zero, List.set_cons_succ]))
            | (refine wpAnyH_take (i := 9) (v := ?_) (op_at rfl) (by kernel_rfl) (by kernel_rfl) (by kernel_rfl) (fun _ _ _ h => hside _ _ _ _ _ h) (Or.inl ⟨by rfl, ?_⟩) (by assumption) ?_
               rotate_left
               · (intro w hSw; (try dsimp only at hSw); go_simp; all_goals with_reducible rfl)
               (try simp only [Act.put, List.setIfInBounds_toArray, List.set_cons_zero, List.set_cons_succ]))
            first
            | (refine wpAnyH_take (i := 10) (v := undef) (op_at rfl) (by kernel_rfl) (by kernel_rfl) (by kernel_rfl) (fun _ _ _ h => hside _ _ _ _ _ h) (Or.inr ⟨by rfl, rfl⟩) (by assumption) ?_
               (try simp only [Act.put, List.setIfInBounds_toArray, List.set_cons_zero, List.set_cons_succ]))
            | (refine wpAnyH_take (i := 10) (v := ?_) (op_at rfl) (by kernel_rfl) (by kernel_rfl) (by kernel_rfl) (fun _ _ _ h => hside _ _ _ _ _ h) (Or.inl ⟨by rfl, ?_⟩) (by assumption) ?_
               rotate_left
               · (intro w hSw; (try dsimp only at hSw); go_simp; all_goals with_reducible rfl)
               (try simp only [Act.put, List.setIfInBounds_toArray, List.set_cons_zero, List.set_cons_succ]))
            first
            | (refine wpAnyH_take (i := 11) (v := undef) (op_at rfl) (by kernel_rfl) (by kernel_rfl) (by kernel_rfl) (fun _ _ _ h => hside _ _ _ _ _ h) (Or.inr ⟨by rfl, rfl⟩) (by assumption) ?_
               (try simp only [Act.put, List.setIfInBounds_toArray, List.set_cons_zero, List.set_cons_succ]))
            | (refine wpAnyH_take (i := 11) (v := ?_) (op_at rfl) (by kernel_rfl) (by kernel_rfl) (by kernel_rfl) (fun _ _ _ h => hside _ _ _ _ _ h) (Or.inl ⟨by rfl, ?_⟩) (by assumption) ?_
               rotate_left
               · (intro w hSw; (try dsimp only at hSw); go_simp; all_goals with_reducible rfl)
               (try simp only [Act.put, List.setIfInBounds_toArray, List.set_cons_zero, List.set_cons_succ]))
            first
            | (refine wpAnyH_take (i := 12) (v := undef) (op_at rfl) (by kernel_rfl) (by kernel_rfl) (by kernel_rfl) (fun _ _ _ h => hside _ _ _ _ _ h) (Or.inr ⟨by rfl, rfl⟩) (by assumption) ?_
               (try simp only [Act.put, List.setIfInBounds_toArray, List.set_cons_zero, List.set_cons_succ]))
            | (refine wpAnyH_take (i := 12) (v := ?_) (op_at rfl) (by kernel_rfl) (by kernel_rfl) (by kernel_rfl) (fun _ _ _ h => hside _ _ _ _ _ h) (Or.inl ⟨by rfl, ?_⟩) (by assumption) ?_
               rotate_left
               · (intro w hSw; (try dsimp only at hSw); go_simp; all_goals with_reducible rfl)
               (try simp only [Act.put, List.setIfInBounds_toArray, List.set_cons_zero, List.set_cons_succ]))
            first
            | (refine wpAnyH_take (i := 13) (v := undef) (op_at rfl) (by kernel_rfl) (by kernel_rfl) (by kernel_rfl) (fun _ _ _ h => hside _ _ _ _ _ h) (Or.inr ⟨by rfl, rfl⟩) (by assumption) ?_
               (try simp only [Act.put, List.setIfInBounds_toArray, List.set_cons_zero, List.set_cons_succ]))
            | (refine wpAnyH_take (i := 13) (v := ?_) (op_at rfl) (by kernel_rfl) (by kernel_rfl) (by kernel_rfl) (fun _ _ _ h => hside _ _ _ _ _ h) (Or.inl ⟨by rfl, ?_⟩) (by assumption) ?_
               rotate_left
               · (intro w hSw; (try dsimp only at hSw); go_simp; all_goals with_reducible rfl)
               (try simp only [Act.put, List.setIfInBounds_toArray, List.set_cons_zero, List.set_cons_succ]))
            first
            | (refine wpAnyH_take (i := 14) (v := undef) (op_at rfl) (by kernel_rfl) (by kernel_rfl) (by kernel_rfl) (fun _ _ _ h => hside _ _ _ _ _ h) (Or.inr ⟨by rfl, rfl⟩) (by assumption) ?_
               (try simp only [Act.put, List.setIfInBounds_toArray, List.set_cons_zero, List.set_cons_succ]))
            | (refine wpAnyH_take (i := 14) (v := ?_) (op_at rfl) (by kernel_rfl) (by kernel_rfl) (by kernel_rfl) (fun _ _ _ h => hside _ _ _ _ _ h) (Or.inl ⟨by rfl, ?_⟩) (by assumption) ?_
               rotate_left
               · (intro w hSw; (try dsimp only at hSw); go_simp; all_goals with_reducible rfl)
               (try simp only [Act.put, List.setIfInBounds_toArray, List.set_cons_zero, List.set_cons_succ]))
            first
            | (refine wpAnyH_take (i := 15) (v := undef) (op_at rfl) (by kernel_rfl) (by kernel_rfl) (by kernel_rfl) (fun _ _ _ h => hside _ _ _ _ _ h) (Or.inr ⟨by rfl, rfl⟩) (by assumption) ?_
               (try simp only [Act.put, List.setIfInBounds_toArray, List.set_cons_zero, List.set_cons_succ]))
            | (refine wpAnyH_take (i := 15) (v := ?_) (op_at rfl) (by kernel_rfl) (by kernel_rfl) (by kernel_rfl) (fun _ _ _ h => hside _ _ _ _ _ h) (Or.inl ⟨by rfl, ?_⟩) (by assumption) ?_
               rotate_left
               · (intro w hSw; (try dsimp only at hSw); go_simp; all_goals with_reducible rfl)
               (try simp only [Act.put, List.setIfInBounds_toArray, List.set_cons_zero, List.set_cons_succ]))
            first
            | (refine wpAnyH_take (i := 16) (v := undef) (op_at rfl) (by kernel_rfl) (by kernel_rfl) (by kernel_rfl) (fun _ _ _ h => hside _ _ _ _ _ h) (Or.inr ⟨by rfl, rfl⟩) (by assumption) ?_
               (try simp only [Act.put, List.setIfInBounds_toArray, List.set_cons_zero, List.set_cons_succ]))
            | (refine wpAnyH_take (i := 16) (v := ?_) (op_at rfl) (by kernel_rfl) (by kernel_rfl) (by kernel_rfl) (fun _ _ _ h => hside _ _ _ _ _ h) (Or.inl ⟨by rfl, ?_⟩) (by assumption) ?_
               rotate_left
               · (intro w hSw; (try dsimp only at hSw); go_simp; all_goals with_reducible rfl)
               (try simp only [Act.put, List.setIfInBounds_toArray, List.set_cons_zero, List.set_cons_succ]))
            first
            | (refine wpAnyH_take (i := 17) (v := undef) (op_at rfl) (by kernel_rfl) (by kernel_rfl) (by kernel_rfl) (fun _ _ _ h => hside _ _ _ _ _ h) (Or.inr ⟨by rfl, rfl⟩) (by assumption) ?_
               (try simp only [Act.put, List.setIfInBounds_toArray, List.set_cons_zero, List.set_cons_succ]))
            | (refine wpAnyH_take (i := 17) (v := ?_) (op_at rfl) (by kernel_rfl) (by kernel_rfl) (by kernel_rfl) (fun _ _ _ h => hside _ _ _ _ _ h) (Or.inl ⟨by rfl, ?_⟩) (by assumption) ?_
               rotate_left
               · (intro w hSw; (try dsimp only at hSw); go_simp; all_goals with_reducible rfl)
               (try simp only [Act.put, List.setIfInBounds_toArray, List.set_cons_zero, List.set_cons_succ]))
            first
            | (refine wpAnyH_take (i := 18) (v := undef) (op_at rfl) (by kernel_rfl) (by kernel_rfl) (by kernel_rfl) (fun _ _ _ h => hside _ _ _ _ _ h) (Or.inr ⟨by rfl, rfl⟩) (by assumption) ?_
               (try simp only [Act.put, List.setIfInBounds_toArray, List.set_cons_zero, List.set_cons_succ]))
            | (refine wpAnyH_take (i := 18) (v := ?_) (op_at rfl) (by kernel_rfl) (by kernel_rfl) (by kernel_rfl) (fun _ _ _ h => hside _ _ _ _ _ h) (Or.inl ⟨by rfl, ?_⟩) (by assumption) ?_
               rotate_left
               · (intro w hSw; (try dsimp only at hSw); go_simp; all_goals with_reducible rfl)
               (try simp only [Act.put, List.setIfInBounds_toArray, List.set_cons_zero, List.set_cons_succ]))
            first
            | (refine wpAnyH_take (i := 19) (v := undef) (op_at rfl) (by kernel_rfl) (by kernel_rfl) (by kernel_rfl) (fun _ _ _ h => hside _ _ _ _ _ h) (Or.inr ⟨by rfl, rfl⟩) (by assumption) ?_
               (try simp only [Act.put, List.setIfInBounds_toArray, List.set_cons_zero, List.set_cons_succ]))
            | (refine wpAnyH_take (i := 19) (v := ?_) (op_at rfl) (by kernel_rfl) (by kernel_rfl) (by kernel_rfl) (fun _ _ _ h => hside _ _ _ _ _ h) (Or.inl ⟨by rfl, ?_⟩) (by assumption) ?_
               rotate_left
               · (intro w hSw; (try dsimp only at hSw); go_simp; all_goals with_reducible rfl)
               (try simp only [Act.put, List.setIfInBounds_toArray, List.set_cons_zero, List.set_cons_succ]))
            refine wpAnyH_take (i := 20) (v := ?_) (op_at rfl) (by kernel_rfl) (by kernel_rfl) (by kernel_rfl) (fun _ _ _ h => hside _ _ _ _ _ h) (Or.inl ⟨by rfl, ?_⟩) (by assumption) ?_
            rotate_left
            · (intro w hSw; (try dsimp only at hSw); go_simp; all_goals with_reducible rfl)
            (try simp only [Act.put, List.setIfInBounds_toArray, List.set_cons_zero, List.set_cons_succ])
            refine wpAnyH_ready (rs := [21]) (by kernel_rfl) (by simp) (AllReadyH.cons (op_at rfl) (fun Kr hK => ?_) AllReadyH.nil)
            go_simp
            refine calls_must (cell_later hHeld.1 g17) (fun hok => ?_) (fun hok => ?_)
          all_goals first | cases hok | skip
          all_goals try
            (obtain ⟨hh1, hh2⟩ := HD.out _ _ hHeld.1 rfl (by rw [HP.out, hb0, hb1]; first | rfl | (simpa using hok))
             exact ⟨rfl, mustE_no hh2, hh1⟩)
          refine hK.out _ _ ?_ (fun hHeld => ?_)
          · exact hHeld
          clear hK
          (try simp only [Act.put, List.setIfInBounds_toArray, List.set_cons_zero, List.set_cons_succ])
          refine wpAnyH_done (by kernel_rfl) ?_ _
          have HB4 := Lib.hid (below_then HB.out hHeld.1)
          have HO := Lib.hid hok
          clear hHeld hwrap hk1 hk2 hok
          go_wp2_with fail
          go_roundw
          case rel =>
            refine ⟨k' + 1 + 1, by go_num, by omega, ?_, HB4.out⟩
            show _ = _
            rw [allI_take_succ HR.out, HP.out, hb0, hb1, ha.out]
            simpa using HO.out
          case measure => simp [intOf]; omega
      · have hkl : k = t.ins.length := by omega
        subst hkl
        rw [List.take_length] at ha
        have HB := Lib.hid hB
        clear hB
        have g14 := cell_later HB.out c14
        go_wp2_with fail
        have k17' := cell_later HB.out k17
        have kb' := cell_later HB.out kb
        have k15' := cell_later HB.out k15
        have c15' := cell_later HB.out c15
        have c16' := cell_later HB.out c16
        have HBw : Hid (Below w.heap.size w wr) := HB2.out.trans (HB.out.mono (by omega))
        have hsz : w.heap.size ≤ wr.heap.size := HBw.out.size
        have HL' := Lib.hid (RowAt.below HL.out HB.out (fun _ _ ⟨v, e, h⟩ => ⟨v, e, sl_src_below HB.out h⟩))
        have HV' := Lib.hid (RowAt.below HV.out HB.out (fun _ _ ⟨v, e, h⟩ => ⟨v, e, sl_src_below HB.out h⟩))
        have HK' := Lib.hid (RowAt.below HK.out HB.out (fun _ _ h => h))
        have hw1 : w.heap.size + 1 < wr.heap.size := lt_of_cell g14
        have hx1 : X < wr.heap.size := lt_of_cell k17'
        clear k17 kb k15 c15 c16 c12 c14 c1 HL HV HK HI g17 gb g12 HB HB2 hs2
        obtain ⟨W5, hW5⟩ : ∃ W5, W5 = wr := ⟨_, rfl⟩
        subst hW5
        go_loopw [72] (fun s72 wr => ∃ k : Nat, s72 = .int .i64 k ∧ k ≤ t.links.length ∧ Hid (allI (linkP t.virts.length) (t.links.take k) = true) ∧ Below W5.heap.size W5 wr)
          (fun s72 _ => t.links.length - (intOf s72).toNat)
        case atStart => exact ⟨0, rfl, Nat.zero_le _, rfl, Below.refl _ _⟩
        case round =>
          obtain ⟨k, rfl, hk, hal, hB⟩ := hrel
          by_cases hlt : k < t.links.length
          · obtain ⟨r, hr⟩ : ∃ r, t.links[k]? = some r := ⟨_, List.getElem?_eq_getElem hlt⟩
            obtain ⟨b, o, Aa, ca, rfl, hb, e0, e1, e2, e3, e4, hok5⟩ := lnk_get (RowAt.below HL'.out hB (fun _ _ ⟨v, e, h⟩ => ⟨v, e, sl_src_below hB h⟩)) hr
            go_upto_region 12 with fail
            obtain ⟨W3, hW3⟩ : ∃ W3, wr.alloc (.cells #[.int .i64 r.up, .int .i64 r.fn, .int .i64 r.pc, .int .i64 r.into, .slice Aa r.regs.length ca] 66) = W3 := ⟨_, rfl⟩
            have hB3 : Below W5.heap.size W5 W3 := by rw [← hW3]; exact below_alloc hB _
            have hb3 := heap_alloc_last wr (.cells #[.int .i64 r.up, .int .i64 r.fn, .int .i64 r.pc, .int .i64 r.into, .slice Aa r.regs.length ca] 66)
            have hB3' := below_alloc (Below.refl _ wr) (.cells #[.int .i64 r.up, .int .i64 r.fn, .int .i64 r.pc, .int .i64 r.into, .slice Aa r.regs.length ca] 66)
            rw [hW3] at hb3 hB3' ⊢
            have j15 := cell_later hB3 k15'
            have j17 := cell_later hB3 k17'
            have jb := cell_later hB3 kb'
            have f0 := cell_of_row W3 wr.heap.size 0 _ _ _ hb3
            have f4 := cell_of_row W3 wr.heap.size 4 _ _ _ hb3
            simp only [List.getElem?_toArray, List.getElem?_cons_zero, List.getElem?_cons_succ] at f0 f4
            have HR := Lib.hid hr
            have HBW : Hid (Below w.heap.size w W3) := HBw.out.trans (hB3.mono hsz)
            have HB3 := Lib.hid hB3
            have hrow := RowAt.below hok5.2.2.2 hB3' (fun _ _ h => h)
            have HROW := Lib.hid hrow
            have hlen5 : r.regs.length ≤ 1048576 := hok5.2.2.1
            clear hr hB hB3 hb3 hB3' hW3 hok5 hrow e0 e1 e2 e3 e4
            obtain ⟨b0, hb0⟩ : ∃ b0, decide (-1 ≤ r.up) = b0 := ⟨_, rfl⟩
            have hno : linkP t.virts.length k r = false → outS t = false := fun h => by unfold outS; rw [allI_no HR.out h]; simp
            have HNO := Lib.hid hno
            clear hno
            cases b0
            · go_wp2_with (go_at_call 157; refine calls_must j17 (fun hok => ?_) (fun hok => ?_); cases hok)
              refine ⟨rfl, mustE_no (HNO.out ?_), HBW.out⟩
              unfold linkP
              rw [hb0]
              rfl
            · go_wp2_with (go_at_call 157; refine calls_must j17 (fun hok => ?_) (fun hok => ?_); rotate_left)
              · refine ⟨rfl, mustE_no (HNO.out ?_), HBW.out⟩
                unfold linkP
                rw [hok]
                simp
              · have HO := Lib.hid hok
                clear hok
                go_wp2_with (go_at_call 158; refine (outside1_any X w.heap.size _ _ _ _ _ _ _ _ j15 j17 jb HROW.out hlen5).mono ?_)
                rintro e w' ⟨rfl, hB'⟩
                have HBn := Lib.hid (below_then HB3.out hB')
                have hbw : Below w.heap.size w w' := HBW.out.trans (hB'.mono HBW.out.size)
                have HBX := Lib.hid hbw
                clear hB' hbw
                cases hall : allS t.virts.length r.regs with
                | false =>
                  refine ⟨rfl, mustE_no (HNO.out ?_), HBX.out⟩
                  unfold linkP
                  rw [hall, Bool.and_false]
                | true =>
                  have HAL := Lib.hid hall
                  clear hall
                  simp only [mustE, if_true]
                  go_wp2_with fail
                  go_roundw
                  case rel =>
                    refine ⟨k + 1, by go_num, by omega, ?_, HBn.out⟩
                    show _ = _
                    rw [allI_take_succ HR.out, hal.out]
                    unfold linkP
                    rw [hb0, HO.out, HAL.out]
                    rfl
                  case measure => simp [intOf]; omega
          · have hkl : k = t.links.length := by omega
            subst hkl
            rw [List.take_length] at hal
            have HB := Lib.hid hB
            clear hB
            have g15 := cell_later HB.out c15'
            go_wp2_with fail
            have m17 := cell_later HB.out k17'
            have mb := cell_later HB.out kb'
            have m15 := cell_later HB.out k15'
            have m16 := cell_later HB.out c16'
            have HBv : Hid (Below w.heap.size w wr) := HBw.out.trans (HB.out.mono hsz)
            have hsv : w.heap.size ≤ wr.heap.size := HBv.out.size
            have HV2 := Lib.hid (RowAt.below HV'.out HB.out (fun _ _ ⟨v, e, h⟩ => ⟨v, e, sl_src_below HB.out h⟩))
            have HK2 := Lib.hid (RowAt.below HK'.out HB.out (fun _ _ h => h))
            clear k17' kb' k15' c15' c16' HL' HV' HK' g15 g14 HB HBw hsz hw1 hx1
            obtain ⟨W6, hW6⟩ : ∃ W6, W6 = wr := ⟨_, rfl⟩
            subst hW6
            go_loopw [96] (fun s96 wr => ∃ k : Nat, s96 = .int .i64 k ∧ k ≤ t.virts.length ∧ Hid ((t.virts.take k).all (virtP t.virts.length) = true) ∧ Below W6.heap.size W6 wr)
              (fun s96 _ => t.virts.length - (intOf s96).toNat)
            case atStart => exact ⟨0, rfl, Nat.zero_le _, rfl, Below.refl _ _⟩
            case round =>
              obtain ⟨k, rfl, hk, hav, hB⟩ := hrel
              by_cases hlt : k < t.virts.length
              · obtain ⟨r, hr⟩ : ∃ r, t.virts[k]? = some r := ⟨_, List.getElem?_eq_getElem hlt⟩
                obtain ⟨b, o, Aa, ca, rfl, hb, e0, e1, hok5⟩ := vrt_get (RowAt.below HV2.out hB (fun _ _ ⟨v, e, h⟩ => ⟨v, e, sl_src_below hB h⟩)) hr
                go_upto_region 18 with fail
                obtain ⟨W3, hW3⟩ : ∃ W3, wr.alloc (.cells #[.int .i64 r.rc, .slice Aa r.cells.length ca] 69) = W3 := ⟨_, rfl⟩
                have hB3 : Below W6.heap.size W6 W3 := by rw [← hW3]; exact below_alloc hB _
                have hb3 := heap_alloc_last wr (.cells #[.int .i64 r.rc, .slice Aa r.cells.length ca] 69)
                have hB3' := below_alloc (Below.refl _ wr) (.cells #[.int .i64 r.rc, .slice Aa r.cells.length ca] 69)
                rw [hW3] at hb3 hB3' ⊢
                have j15 := cell_later hB3 m15
                have j17 := cell_later hB3 m17
                have jb := cell_later hB3 mb
                have f0 := cell_of_row W3 wr.heap.size 0 _ _ _ hb3
                have f1 := cell_of_row W3 wr.heap.size 1 _ _ _ hb3
                simp only [List.getElem?_toArray, List.getElem?_cons_zero, List.getElem?_cons_succ] at f0 f1
                have HR := Lib.hid hr
                have HBW : Hid (Below w.heap.size w W3) := HBv.out.trans (hB3.mono hsv)
                have HB3 := Lib.hid hB3
                have hrow := RowAt.below hok5.2.2.2 hB3' (fun _ _ h => h)
                have HROW := Lib.hid hrow
                have hlen5 : r.cells.length ≤ 1048576 := hok5.2.2.1
                clear hr hB hB3 hb3 hB3' hW3 hok5 hrow e0 e1
                obtain ⟨b0, hb0⟩ : ∃ b0, decide (0 ≤ r.rc) = b0 := ⟨_, rfl⟩
                have hno : virtP t.virts.length r = false → outS t = false := fun h => by unfold outS; rw [all_no HR.out h]; simp
                have HNO := Lib.hid hno
                clear hno
                cases b0
                · go_wp2_with (go_at_call 157; refine calls_must j17 (fun hok => ?_) (fun hok => ?_); cases hok)
                  refine ⟨rfl, mustE_no (HNO.out ?_), HBW.out⟩
                  unfold virtP
                  rw [hb0]
                  rfl
                · go_wp2_with (go_at_call 157; refine calls_must j17 (fun hok => ?_) (fun hok => ?_); rotate_left)
                  · refine ⟨rfl, mustE_no (HNO.out ?_), HBW.out⟩
                    unfold virtP
                    rw [hok]
                    simp
                  · have HO := Lib.hid hok
                    clear hok
                    go_wp2_with (go_at_call 158; refine (outside1_any X w.heap.size _ _ _ _ _ _ _ _ j15 j17 jb HROW.out hlen5).mono ?_)
                    rintro e w' ⟨rfl, hB'⟩
                    have HBn := Lib.hid (below_then HB3.out hB')
                    have hbw : Below w.heap.size w w' := HBW.out.trans (hB'.mono HBW.out.size)
                    have HBX := Lib.hid hbw
                    clear hB' hbw
                    cases hall : allS t.virts.length r.cells with
                    | false =>
                      refine ⟨rfl, mustE_no (HNO.out ?_), HBX.out⟩
                      unfold virtP
                      rw [hall, Bool.and_false]
                    | true =>
                      have HAL := Lib.hid hall
                      clear hall
                      simp only [mustE, if_true]
                      go_wp2_with fail
                      go_roundw
                      case rel =>
                        refine ⟨k + 1, by go_num, by omega, ?_, HBn.out⟩
                        show _ = _
                        rw [all_take_succ HR.out, hav.out]
                        unfold virtP
                        rw [hb0, HO.out, HAL.out]
                        rfl
                      case measure => simp [intOf]; omega
              · have hkl : k = t.virts.length := by omega
                subst hkl
                rw [List.take_length] at hav
                have HB := Lib.hid hB
                clear hB
                have g16 := cell_later HB.out m16
                go_wp2_with fail
                have l17 := cell_later HB.out m17
                have lb := cell_later HB.out mb
                have l15 := cell_later HB.out m15
                have HBk : Hid (Below w.heap.size w wr) := HBv.out.trans (HB.out.mono hsv)
                have hsk : w.heap.size ≤ wr.heap.size := HBk.out.size
                have HK3 := Lib.hid (RowAt.below HK2.out HB.out (fun _ _ h => h))
                clear m17 mb m15 m16 HV2 HK2 HB HBv hsv
                obtain ⟨W7, hW7⟩ : ∃ W7, W7 = wr := ⟨_, rfl⟩
                subst hW7
                go_loopw [118] (fun s118 wr => ∃ k : Nat, s118 = .int .i64 k ∧ k ≤ t.back.length ∧ Hid ((t.back.take k).all (backP t.virts.length) = true) ∧ Below W7.heap.size W7 wr)
                  (fun s118 _ => t.back.length - (intOf s118).toNat)
                case atStart => exact ⟨0, rfl, Nat.zero_le _, rfl, Below.refl _ _⟩
                case round =>
                  obtain ⟨k, rfl, hk, hab, hB⟩ := hrel
                  by_cases hlt : k < t.back.length
                  · obtain ⟨s, hs⟩ : ∃ s, t.back[k]? = some s := ⟨_, List.getElem?_eq_getElem hlt⟩
                    obtain ⟨b, o, rfl, hb, e0, e1, e2, e3⟩ := src_get (RowAt.below HK3.out hB (fun _ _ h => h)) hs
                    go_upto_region 24 with fail
                    obtain ⟨W3, hW3⟩ : ∃ W3, wr.alloc (.cells #[.int .i64 s.k, .int .i64 s.vk, .int .i64 s.vn, .int .i64 s.n] 63) = W3 := ⟨_, rfl⟩
                    have hB3 : Below W7.heap.size W7 W3 := by rw [← hW3]; exact below_alloc hB _
                    have hb3 := heap_alloc_last wr (.cells #[.int .i64 s.k, .int .i64 s.vk, .int .i64 s.vn, .int .i64 s.n] 63)
                    rw [hW3] at hb3 ⊢
                    have j15 := cell_later hB3 l15
                    have j17 := cell_later hB3 l17
                    have jb := cell_later hB3 lb
                    have f0 := cell_of_row W3 wr.heap.size 0 _ _ _ hb3
                    have f1 := cell_of_row W3 wr.heap.size 1 _ _ _ hb3
                    have f2 := cell_of_row W3 wr.heap.size 2 _ _ _ hb3
                    have f3 := cell_of_row W3 wr.heap.size 3 _ _ _ hb3
                    simp only [List.getElem?_toArray, List.getElem?_cons_zero, List.getElem?_cons_succ] at f0 f1 f2 f3
                    have HS := Lib.hid hs
                    have HBW : Hid (Below w.heap.size w W3) := HBk.out.trans (hB3.mono hsk)
                    have HB3 := Lib.hid hB3
                    have hno : backP t.virts.length s = false → outS t = false := fun h => by unfold outS; rw [all_no HS.out h]; simp
                    have HNO := Lib.hid hno
                    clear hno hs hB hB3 hb3 hW3 e0 e1 e2 e3
                    (try simp only [Act.put, List.setIfInBounds_toArray, List.set_cons_zero, List.set_cons_succ])
                    refine drawn_begin (fun w' => Below W3.heap.size W3 w' ∧ w'.cell? ⟨w.heap.size, 0, none⟩ = some (.pointer (some ⟨X, 0, none⟩)) ∧ w'.cell? ⟨X, 15, none⟩ = some (.slice Av t.virts.length cv) ∧ w'.cell? ⟨X, 17, none⟩ = some (.int .i64 n) ∧
                        w'.cell? ⟨wr.heap.size, 0, none⟩ = some (.int .i64 s.k) ∧ w'.cell? ⟨wr.heap.size, 1, none⟩ = some (.int .i64 s.vk) ∧ w'.cell? ⟨wr.heap.size, 2, none⟩ = some (.int .i64 s.vn) ∧ w'.cell? ⟨wr.heap.size, 3, none⟩ = some (.int .i64 s.n)) (fun c a d v w h => ?_) (by kernel_rfl) ?_ (fun hside hHeld => ?_)
                    · (obtain ⟨h1, h2⟩ := h; exact And.intro (put_nil h1) h2)
                    · exact ⟨below_drewN (Below.refl _ _) 1, jb, j15, j17, f0, f1, f2, f3⟩
                    refine wpAnyH_take (i := 0) (v := ?_) (op_at rfl) (by kernel_rfl) (by kernel_rfl) (by kernel_rfl) (fun _ _ _ h => hside _ _ _ _ _ h) (Or.inl ⟨by rfl, ?_⟩) (by assumption) ?_
                    rotate_left
                    · (intro w hSw; (try dsimp only at hSw); go_simp; all_goals with_reducible rfl)
                    (try simp only [Act.put, List.setIfInBounds_toArray, List.set_cons_zero, List.set_cons_succ])
                    refine wpAnyH_take (i := 1) (v := ?_) (op_at rfl) (by kernel_rfl) (by kernel_rfl) (by kernel_rfl) (fun _ _ _ h => hside _ _ _ _ _ h) (Or.inl ⟨by rfl, ?_⟩) (by assumption) ?_
                    rotate_left
                    · (intro w hSw; (try dsimp only at hSw); go_simp; all_goals with_reducible rfl)
                    (try simp only [Act.put, List.setIfInBounds_toArray, List.set_cons_zero, List.set_cons_succ])
                    refine wpAnyH_take (i := 2) (v := ?_) (op_at rfl) (by kernel_rfl) (by kernel_rfl) (by kernel_rfl) (fun _ _ _ h => hside _ _ _ _ _ h) (Or.inl ⟨by rfl, ?_⟩) (by assumption) ?_
                    rotate_left
                    · (intro w hSw; (try dsimp only at hSw); go_simp; all_goals with_reducible rfl)
                    (try simp only [Act.put, List.setIfInBounds_toArray, List.set_cons_zero, List.set_cons_succ])
                    refine wpAnyH_ready (rs := [3]) (by kernel_rfl) (by simp) (AllReadyH.cons (op_at rfl) (fun Kr hK => ?_) AllReadyH.nil)
                    go_simp
                    refine (plain_any X Av t.virts.length cv s.k s.vk s.vn s.n _ hHeld.2.2.1).mono ?_
                    rintro e w' ⟨rfl, hB'⟩
                    have hB4 : Below W3.heap.size W3 w' := below_then hHeld.1 hB'
                    refine hK.out _ _ ?_ (fun hHeld => ?_)
                    · exact ⟨hB4, cell_later hB4 jb, cell_later hB4 j15, cell_later hB4 j17, cell_later hB4 f0, cell_later hB4 f1, cell_later hB4 f2, cell_later hB4 f3⟩
                    clear hK
                    (try simp only [Act.put, List.setIfInBounds_toArray, List.set_cons_zero, List.set_cons_succ])
                    cases hp : plainS t.virts.length s with
                    | false =>
                      refine wpAnyH_take (i := 4) (v := ?_) (op_at rfl) (by kernel_rfl) (by kernel_rfl) (by kernel_rfl) (fun _ _ _ h => hside _ _ _ _ _ h) (Or.inl ⟨by rfl, ?_⟩) (by assumption) ?_
                      rotate_left
                      · (intro w hSw; (try dsimp only at hSw); go_simp; all_goals with_reducible rfl)
                      (try simp only [Act.put, List.setIfInBounds_toArray, List.set_cons_zero, List.set_cons_succ])
                      refine wpAnyH_take (i := 5) (v := undef) (op_at rfl) (by kernel_rfl) (by kernel_rfl) (by kernel_rfl) (fun _ _ _ h => hside _ _ _ _ _ h) (Or.inr ⟨by rfl, rfl⟩) (by assumption) ?_
                      (try simp only [Act.put, List.setIfInBounds_toArray, List.set_cons_zero, List.set_cons_succ])
                      refine wpAnyH_take (i := 6) (v := undef) (op_at rfl) (by kernel_rfl) (by kernel_rfl) (by kernel_rfl) (fun _ _ _ h => hside _ _ _ _ _ h) (Or.inr ⟨by rfl, rfl⟩) (by assumption) ?_
                      (try simp only [Act.put, List.setIfInBounds_toArray, List.set_cons_zero, List.set_cons_succ])
                      refine wpAnyH_take (i := 7) (v := undef) (op_at rfl) (by kernel_rfl) (by kernel_rfl) (by kernel_rfl) (fun _ _ _ h => hside _ _ _ _ _ h) (Or.inr ⟨by rfl, rfl⟩) (by assumption) ?_
                      (try simp only [Act.put, List.setIfInBounds_toArray, List.set_cons_zero, List.set_cons_succ])
                      refine wpAnyH_take (i := 8) (v := ?_) (op_at rfl) (by kernel_rfl) (by kernel_rfl) (by kernel_rfl) (fun _ _ _ h => hside _ _ _ _ _ h) (Or.inl ⟨by rfl, ?_⟩) (by assumption) ?_
                      rotate_left
                      · (intro w hSw; (try dsimp only at hSw); go_simp; all_goals with_reducible rfl)
                      (try simp only [Act.put, List.setIfInBounds_toArray, List.set_cons_zero, List.set_cons_succ])
                      refine wpAnyH_ready (rs := [9]) (by kernel_rfl) (by simp) (AllReadyH.cons (op_at rfl) (fun Kr hK => ?_) AllReadyH.nil)
                      go_simp
                      refine calls_must (cell_later hB4 j17) (fun hok => ?_) (fun hok => ?_)
                      · cases hok
                      · refine ⟨rfl, mustE_no (HNO.out ?_), below_then HBW.out hB4⟩
                        unfold backP
                        rw [hp]
                        rfl
                    | true =>
                      refine wpAnyH_take (i := 4) (v := ?_) (op_at rfl) (by kernel_rfl) (by kernel_rfl) (by kernel_rfl) (fun _ _ _ h => hside _ _ _ _ _ h) (Or.inl ⟨by rfl, ?_⟩) (by assumption) ?_
                      rotate_left
                      · (intro w hSw; (try dsimp only at hSw); go_simp; all_goals with_reducible rfl)
                      (try simp only [Act.put, List.setIfInBounds_toArray, List.set_cons_zero, List.set_cons_succ])
                      refine wpAnyH_take (i := 5) (v := ?_) (op_at rfl) (by kernel_rfl) (by kernel_rfl) (by kernel_rfl) (fun _ _ _ h => hside _ _ _ _ _ h) (Or.inl ⟨by rfl, ?_⟩) (by assumption) ?_
                      rotate_left
                      · (intro w hSw; (try dsimp only at hSw); go_simp; all_goals with_reducible rfl)
                      (try simp only [Act.put, List.setIfInBounds_toArray, List.set_cons_zero, List.set_cons_succ])
                      refine wpAnyH_take (i := 6) (v := ?_) (op_at rfl) (by kernel_rfl) (by kernel_rfl) (by kernel_rfl) (fun _ _ _ h => hside _ _ _ _ _ h) (Or.inl ⟨by rfl, ?_⟩) (by assumption) ?_
                      rotate_left
                      · (intro w hSw; (try dsimp only at hSw); go_simp; all_goals with_reducible rfl)
                      (try simp only [Act.put, List.setIfInBounds_toArray, List.set_cons_zero, List.set_cons_succ])
                      refine wpAnyH_take (i := 7) (v := ?_) (op_at rfl) (by kernel_rfl) (by kernel_rfl) (by kernel_rfl) (fun _ _ _ h => hside _ _ _ _ _ h) (Or.inl ⟨by rfl, ?_⟩) (by assumption) ?_
                      rotate_left
                      · (intro w hSw; (try dsimp only at hSw); go_simp; all_goals with_reducible rfl)
                      (try simp only [Act.put, List.setIfInBounds_toArray, List.set_cons_zero, List.set_cons_succ])
                      refine wpAnyH_take (i := 8) (v := ?_) (op_at rfl) (by kernel_rfl) (by kernel_rfl) (by kernel_rfl) (fun _ _ _ h => hside _ _ _ _ _ h) (Or.inl ⟨by rfl, ?_⟩) (by assumption) ?_
                      rotate_left
                      · (intro w hSw; (try dsimp only at hSw); go_simp; all_goals with_reducible rfl)
                      (try simp only [Act.put, List.setIfInBounds_toArray, List.set_cons_zero, List.set_cons_succ])
                      refine wpAnyH_ready (rs := [9]) (by kernel_rfl) (by simp) (AllReadyH.cons (op_at rfl) (fun Kr hK => ?_) AllReadyH.nil)
                      go_simp
                      refine calls_must (cell_later hB4 j17) (fun hok => ?_) (fun hok => ?_)
                      · refine hK.out _ _ ?_ (fun hHeld => ?_)
                        · exact hHeld
                        clear hK
                        (try simp only [Act.put, List.setIfInBounds_toArray, List.set_cons_zero, List.set_cons_succ])
                        refine wpAnyH_done (by kernel_rfl) ?_ _
                        have HP := Lib.hid hp
                        have HO := Lib.hid hok
                        have HB4 := Lib.hid (below_then HB3.out hB4)
                        clear hB' hB4 hHeld hok hp
                        go_wp2_with fail
                        go_roundw
                        case rel =>
                          refine ⟨k + 1, by go_num, by omega, ?_, HB4.out⟩
                          show _ = _
                          rw [all_take_succ HS.out, hab.out]
                          unfold backP
                          rw [HP.out]
                          simpa using HO.out
                        case measure => simp [intOf]; omega
                      · refine ⟨rfl, mustE_no (HNO.out ?_), below_then HBW.out hB4⟩
                        unfold backP
                        rw [hp]
                        simpa using hok
                  · have hkl : k = t.back.length := by omega
                    subst hkl
                    rw [List.take_length] at hab
                    go_wp2_with fail
                    refine bodyPost_end (results_none rfl _ _ _) rfl ⟨mustE_yes ?_, HBk.out.trans (hB.mono hsk)⟩
                    unfold outS
                    rw [hhd.out, ha.out, hal.out, hav.out, hab.out]
                    rfl
end Go.Proofs.Ytjcfppbahalgbaa
