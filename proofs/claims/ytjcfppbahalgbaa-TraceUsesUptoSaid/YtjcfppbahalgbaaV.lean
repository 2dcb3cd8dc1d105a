/- trace's checker: all. -/
import Derived.Test.YtjcfppbahalgbaaP
namespace Go.Proofs.Ytjcfppbahalgbaa
set_option linter.unusedSimpArgs false
set_option linter.unusedVariables false
open Go.RowKit
open Go.Proofs.YtjcfppbahalgbaaW.PrintWords (QRow q_append q_drop q_cells q_of_own q_move q_lt q_typed q_slice)
def mkOf (t : Trc) : List Bool := t.ops.map (fun o => (rowOf o.op).makes)
def OpAt (t : Trc) (k : Nat) : Prop := ∀ o, t.ops[k]? = some o → OpOk t (mkOf t) k o
def backM (t : Trc) : Bool := t.back.all (fun s => madeS t.virts.length t.ins.length (mkOf t) s t.ops.length)
/-- What Check tells: none, or the number that is thrown. -/
inductive CheckR (t : Trc) : Option Nat → Prop
  | out : outS t = false → CheckR t (some t.ops.length)
  | op (k : Nat) : outS t = true → k < t.ops.length → (∀ j < k, OpAt t j) → ¬ OpAt t k → CheckR t (some k)
  | back : outS t = true → (∀ j < t.ops.length, OpAt t j) → backM t = false → CheckR t (some t.ops.length)
  | ok : outS t = true → (∀ j < t.ops.length, OpAt t j) → backM t = true → CheckR t none
def thrown : Option Nat → Ending
  | none => .returned (.tuple #[])
  | some n => .panicked (wrongE n)
def xCells (T : TV) (n : Nat) (A : Option Addr) (m c : Nat) : List Value := T.cells ++ [.int .i64 n, .slice A m c]
def XAt (w : World) (X : Nat) (T : TV) (n : Nat) (A : Option Addr) (m c : Nat) : Prop := w.heap[X]? = some (.cells (xCells T n A m c).toArray 129 (0, 0))
theorem oper_append_q {P : Program} {K : Act → World → Prop} {Q : Exit → Act → World → Prop} {o : Oper} {a : Act} {w : World} (base : Nat) (s x : Operand) (t e : TypeId) (i : TypeInfo) (z : Value) (size bytes : Nat)
    (ho : o.op = .call { callee := .builtin .append, args := #[s, x], argTypes := #[t, t] }) (ht : P.underlying t = some (.slice e)) (hi : P.info? e = some i) (hz : i.zero = some z)
    (hsize : i.size = size) (hby : i.bytes = bytes) (hzs : z.cells.size = size) (hsz : 0 < size)
    {v : Value} {n : Nat} {xs : List Value} (hs : a.eval s = v) (hown : QRow w base e size v n xs)
    {A : Option Addr} {m c : Nat} (news : List Value) (hx : a.eval x = .slice A m c) (hl : news.length = m * size) (hA : 0 < m → ∃ a, A = some a ∧ ∀ j u, news[j]? = some u → w.cell? (a.add j) = some u) (h1 : ∀ u ∈ news, u.oneCell' = true)
    (h63 : n + m ≤ maxLen) (hbytes : (n + m) * bytes ≤ 140737488355328) (hbase : base ≤ w.heap.size)
    (h : ∀ v' w', QRow w' base e size v' (n + m) (xs ++ news) → w.grownBy w' v.ownBlock → (v'.ownBlock = v.ownBlock ∨ ∃ b, v'.ownBlock = some b ∧ w.heap.size ≤ b) → K (a.put o.dst v') w') :
    Oper.wp P o a w K Q := by
  obtain ⟨v1, w1, hr, h2, h3, h4⟩ := run_append_q (P := P) w base t o.type e i z size bytes ht hi hz hsize hby hzs hsz v n xs hown A m c news hl hA h1 h63 hbytes hbase
  unfold Oper.wp execOp
  simp only [ho, resolve, invoke, builtin, Sem.run_bind, Sem.run_pure, Result.andThen_ok, List.map_toArray, List.map_cons, List.map_nil, hs, hx, hr]
  exact h v1 w1 h2 h3 h4
theorem heap_setCell_same {w : World} {X i : Nat} {v : Value} {cs : Array Value} {t : TypeId} {fr : Nat × Nat} (h : w.heap[X]? = some (.cells cs t fr)) :
    (w.setCell ⟨X, i, none⟩ v).heap[X]? = some (.cells (cs.setIfInBounds i v) t fr) := by
  simp [World.setCell, Array.getElem?_modify, h]
theorem XAt.set17 {w : World} {X : Nat} {T : TV} {n : Nat} {A : Option Addr} {m c : Nat} (h : XAt w X T n A m c) (n' : Nat) : XAt (w.setCell ⟨X, 17, none⟩ (.int .i64 n')) X T n' A m c := by
  unfold XAt at h ⊢
  rw [heap_setCell_same h]
  rfl
theorem XAt.set18 {w : World} {X : Nat} {T : TV} {n : Nat} {A : Option Addr} {m c : Nat} (h : XAt w X T n A m c) (A' : Option Addr) (m' c' : Nat) : XAt (w.setCell ⟨X, 18, none⟩ (.slice A' m' c')) X T n A' m' c' := by
  unfold XAt at h ⊢
  rw [heap_setCell_same h]
  rfl
theorem XAt.cells {w : World} {X : Nat} {T : TV} {n : Nat} {A : Option Addr} {m c : Nat} (h : XAt w X T n A m c) :
    At w X 0 T.cells ∧ w.cell? ⟨X, 17, none⟩ = some (.int .i64 n) ∧ w.cell? ⟨X, 18, none⟩ = some (.slice A m c) := by
  refine ⟨fun i v hv => ?_, ?_, ?_⟩
  · rw [Nat.zero_add, cell_of_row w X i _ _ _ h, List.getElem?_toArray]
    unfold xCells
    rw [List.getElem?_append_left (List.getElem?_eq_some_iff.1 hv).1]
    exact hv
  · rw [cell_of_row w X 17 _ _ _ h]; rfl
  · rw [cell_of_row w X 18 _ _ _ h]; rfl
theorem XAt.below {w w' : World} {X : Nat} {T : TV} {n : Nat} {A : Option Addr} {m c : Nat} (h : XAt w X T n A m c) (hb : Below w.heap.size w w') : XAt w' X T n A m c :=
  (hb.block X (Array.getElem?_eq_some_iff.1 h).1).trans h
theorem XAt.lt {w : World} {X : Nat} {T : TV} {n : Nat} {A : Option Addr} {m c : Nat} (h : XAt w X T n A m c) : X < w.heap.size := (Array.getElem?_eq_some_iff.1 h).1
def BoolsQ (w : World) (base : Nat) (v : Value) (l : List Bool) : Prop := QRow w base 4 1 v l.length (l.map .bool)
theorem info4 : (Try.prog.info? 4).map (fun i => (i.zero, i.size, i.bytes)) = some (some (.bool false), 1, 1) := by kernel_rfl
theorem boolsQ_row {w : World} {base n c : Nat} {A : Option Addr} {l : List Bool} (h : BoolsQ w base (.slice A n c) l) (hn : n = l.length) : RowAt BoolR 1 w A l := by
  subst hn
  unfold BoolsQ at h
  rw [List.map_eq_flatMap] at h
  exact (rowAt_q (R := BoolR) (fun b => [Value.bool b]) 1 (fun _ => rfl) (by decide) (fun _ _ => rfl) h).2
theorem XAt.free {w : World} {X : Nat} {T : TV} {n : Nat} {A : Option Addr} {m c : Nat} (h : XAt w X T n A m c) (i : Nat) : w.frozen? ⟨X, i, none⟩ = false := by
  simp [World.frozen?, show w.heap[X]? = _ from h]
theorem outside_X (T : TV) (X : Nat) (n : Nat) (W0 w : World) (hT : T.ok W0) (hW : Below W0.heap.size W0 w) {A : Option Addr} {m c : Nat} (hX : XAt w X T n A m c) :
    Calls Try.prog 119 #[.pointer (some ⟨X, 0, none⟩)] w fun e w' => e = mustE (outS T.t) n ∧ Below w.heap.size w w' :=
  outside_any T X n w (hT.below hW) hX.cells.1 hX.cells.2.1
theorem cell_setCell_far {w : World} {X i b j : Nat} {v : Value} (h : b ≠ X) : (w.setCell ⟨X, i, none⟩ v).cell? ⟨b, j, none⟩ = w.cell? ⟨b, j, none⟩ := by
  unfold World.cell?
  rw [Below.heap_setCell _ _ _ _ h]
theorem bools_step {w : World} {base k c : Nat} {A : Option Addr} {t : Trc} {o : TOp} (h : QRow w base 4 1 (.slice A (k + 1) c) (k + 1) (((mkOf t).take k).map .bool ++ [.bool (rowOf o.op).makes]))
    (ho : t.ops[k]? = some o) (hl : ((mkOf t).take k).length = k) : BoolsQ w base (.slice A (k + 1) c) ((mkOf t).take (k + 1)) := by
  have h1 : (mkOf t)[k]? = some (rowOf o.op).makes := by simp [mkOf, ho]
  have hlt := (List.getElem?_eq_some_iff.1 h1).1
  have h2 : (mkOf t).take (k + 1) = (mkOf t).take k ++ [(rowOf o.op).makes] := by
    rw [List.take_succ_eq_append_getElem hlt, (List.getElem?_eq_some_iff.1 h1).2]
  unfold BoolsQ
  rw [h2, List.map_append, List.length_append, hl]
  exact h
theorem grown_facts {w w1 : World} {v : Value} {X bo : Nat} {T : TV} {n : Nat} {A : Option Addr} {m c : Nat} {hs : Nat} {u : Value} (hg : w.grownBy w1 v.ownBlock) (hr : ∀ r, v.ownBlock = some r → X + 1 ≤ r ∧ r < hs)
    (hX : XAt w X T n A m c) (hs1 : hs ≤ bo) (hc : w.cell? ⟨bo, 0, none⟩ = some u) : XAt w1 X T n A m c ∧ w1.cell? ⟨bo, 0, none⟩ = some u ∧ Below X w w1 := by
  refine ⟨(hg.block X hX.lt (fun e => by have := (hr X e.symm).1; omega)).trans hX, ?_, (Below.refl X w).grown hg (Nat.le_of_lt hX.lt) (fun k e => by have := (hr k e).1; omega)⟩
  rw [hg.cell_far ⟨bo, 0, none⟩ (lt_of_cell hc) (fun e => by have := (hr bo e.symm).2; omega)]
  exact hc
set_option maxRecDepth 100000 in
set_option maxHeartbeats 3200000 in
theorem all_any (T : TV) (X : Nat) (W0 w : World) (hT : T.ok W0) (hWX : W0.heap.size ≤ X) (hW : Below W0.heap.size W0 w) (hX : XAt w X T 0 none 0 0)
    (hI : outS T.t = true → TakeOk T.t) (hI2 : ∀ o ∈ T.t.ops, ∀ s ∈ o.args, I64 s.n) (hI3 : ∀ s ∈ T.t.back, s.n ≤ 9223372036854775807) :
    Calls Try.prog 72 #[.pointer (some ⟨X, 0, none⟩)] w fun e w' => ∃ r, CheckR T.t r ∧ e = thrown r ∧ Below X w w' := by
  have x13 := hX.cells.1 13 _ rfl
  have x17 := hX.cells.2.1
  rw [Nat.zero_add] at x13
  have hol : (T.t.ops.length : Int) ≤ 1048576 := by have := hT.o.2.2.1; omega
  have z17 := hX.free 17
  obtain ⟨i4, hi, hz0, hz1, hz2⟩ := info_parts info4
  go_enter Try.func72, Try.ntmps72
  obtain ⟨W1, hW1⟩ : ∃ W1, w.setCell ⟨X, 17, none⟩ (.int .i64 (T.t.ops.length : Nat)) = W1 := ⟨_, rfl⟩
  have hX1 : XAt W1 X T T.t.ops.length none 0 0 := by rw [← hW1]; exact hX.set17 _
  have hB1 : Below X w W1 := by rw [← hW1]; exact Below.setCell (p := ⟨X, 17, none⟩) (Below.refl _ _) (Nat.le_refl _) _
  go_wp2_with fail
  clear hW1
  refine (outside_X T X T.t.ops.length W0 W1 hT (hW.trans (hB1.mono hWX)) hX1).mono ?_
  rintro e W2 ⟨rfl, hB2⟩
  cases hO : outS T.t with
  | false =>
    simp only [mustE]
    exact ⟨rfl, _, .out hO, rfl, hB1.trans (hB2.mono (Nat.le_of_lt hX1.lt))⟩
  | true =>
    simp only [mustE]
    have ht := hI hO
    have HO := Lib.hid hO
    have HX2 := Lib.hid (hX1.below hB2)
    have HB2 := Lib.hid (hB1.trans (hB2.mono (Nat.le_of_lt hX1.lt)))
    clear hO hB2 hB1 hX1 x13 x17 hX z17
    have x13 := HX2.out.cells.1 13 _ rfl
    rw [Nat.zero_add] at x13
    go_wp2_with fail
    go_loopw [24] (fun s24 wr => ∃ (k : Nat) (A : Option Addr) (c : Nat), s24 = .int .i64 k ∧ k ≤ T.t.ops.length ∧ XAt wr X T T.t.ops.length A k c ∧ BoolsQ wr (X + 1) (.slice A k c) ((mkOf T.t).take k) ∧ Below X w wr)
      (fun s24 _ => T.t.ops.length - (intOf s24).toNat)
    case atStart => exact ⟨0, none, 0, rfl, Nat.zero_le _, HX2.out, q_of_own (World.ownsRow_nil _ _ 4 1), HB2.out⟩
    case round =>
      obtain ⟨k, A5, c5, rfl, hk, hXr, hq, hB⟩ := hrel
      have HX := Lib.hid hXr
      have HQ := Lib.hid hq
      have HB := Lib.hid hB
      clear hXr hq hB
      by_cases hlt : k < T.t.ops.length
      · obtain ⟨o, ho⟩ : ∃ o, T.t.ops[k]? = some o := ⟨_, List.getElem?_eq_getElem hlt⟩
        obtain ⟨b, oo, Aa, ca, hA, hb, e0, e1, e2, e3, e4, hargs⟩ := op_get (hT.below (hW.trans (HB.out.mono hWX))).o.2.2.2 ho
        have HA := Lib.hid hA
        have HOP := Lib.hid ho
        rw [hA]
        clear hA ho hargs
        go_upto_region 5 with fail
        obtain ⟨W3, hW3⟩ : ∃ W3, wr.alloc (.cells #[.int .i64 o.op, .slice Aa o.args.length ca, .int .i64 o.kk, .int .i64 o.c, .int .i64 o.snap] 41) = W3 := ⟨_, rfl⟩
        have hb3 : W3.heap[wr.heap.size]? = some (.cells #[.int .i64 o.op, .slice Aa o.args.length ca, .int .i64 o.kk, .int .i64 o.c, .int .i64 o.snap] 41 (0, 0)) := by rw [← hW3]; exact heap_alloc_last wr _
        have hB3 : Below wr.heap.size wr W3 := by rw [← hW3]; exact below_alloc (Below.refl _ _) _
        rw [hW3]
        have f0 := cell_of_row W3 wr.heap.size 0 _ _ _ hb3
        simp only [List.getElem?_toArray, List.getElem?_cons_zero] at f0
        have hX3 := HX.out.below hB3
        have y18 := hX3.cells.2.2
        have HX3 := Lib.hid hX3
        have HQ3 := Lib.hid (q_below HQ.out hB3)
        have HB3 := Lib.hid (HB.out.trans (hB3.mono (Nat.le_of_lt HX.out.lt)))
        have hlk : ((mkOf T.t).take k).length = k := by rw [List.length_take, mkOf, List.length_map]; omega
        have hX3s : X + 1 ≤ W3.heap.size := HX3.out.lt
        have hne : X ≠ wr.heap.size := Nat.ne_of_lt HX.out.lt
        obtain ⟨bo, hbo⟩ : ∃ bo, wr.heap.size = bo := ⟨_, rfl⟩
        rw [hbo] at f0 hne
        simp only [hbo]
        clear hW3 hb3 hB3 hX3 e0 e1 e2 e3 e4 x13
        (try simp only [Act.put, List.setIfInBounds_toArray, List.set_cons_zero, List.set_cons_succ])
        refine drawn_begin (fun w' => w'.cell? ⟨bo, 0, none⟩ = some (.int .i64 o.op)) (fun c a d v w h => ?_) (by kernel_rfl) ?_ (fun hside hHeld => ?_)
        · (obtain ⟨h1, h2⟩ := h; exact And.intro (put_nil h1) h2)
        · exact f0
        refine wpAnyH_take (i := 0) (v := ?_) (op_at rfl) (by kernel_rfl) (by kernel_rfl) (by kernel_rfl) (fun _ _ _ h => hside _ _ _ _ _ h) (Or.inl ⟨by rfl, ?_⟩) (by assumption) ?_
        rotate_left
        · (intro w hSw; (try dsimp only at hSw); go_simp; all_goals with_reducible rfl)
        (try simp only [Act.put, List.setIfInBounds_toArray, List.set_cons_zero, List.set_cons_succ])
        refine wpAnyH_take (i := 1) (v := ?_) (op_at rfl) (by kernel_rfl) (by kernel_rfl) (by kernel_rfl) (fun _ _ _ h => hside _ _ _ _ _ h) (Or.inl ⟨by rfl, ?_⟩) (by assumption) ?_
        rotate_left
        · (intro w hSw; (try dsimp only at hSw); go_simp; all_goals with_reducible rfl)
        (try simp only [Act.put, List.setIfInBounds_toArray, List.set_cons_zero, List.set_cons_succ])
        refine wpAnyH_take (i := 2) (v := ?_) (op_at rfl) (by kernel_rfl) (by kernel_rfl) (by kernel_rfl) (fun _ _ _ h => hside _ _ _ _ _ h) (Or.inl ⟨by rfl, ?_⟩) (by assumption) ?_
        rotate_left
        · (intro w hSw; (try dsimp only at hSw); go_simp; all_goals with_reducible rfl)
        (try simp only [Act.put, List.setIfInBounds_toArray, List.set_cons_zero, List.set_cons_succ])
        refine wpAnyH_take (i := 3) (v := ?_) (op_at rfl) (by kernel_rfl) (by kernel_rfl) (by kernel_rfl) (fun _ _ _ h => hside _ _ _ _ _ h) (Or.inl ⟨by rfl, ?_⟩) (by assumption) ?_
        rotate_left
        · (intro w hSw; (try dsimp only at hSw); go_simp; all_goals with_reducible rfl)
        (try simp only [Act.put, List.setIfInBounds_toArray, List.set_cons_zero, List.set_cons_succ])
        refine wpAnyH_take (i := 5) (v := ?_) (op_at rfl) (by kernel_rfl) (by kernel_rfl) (by kernel_rfl) (fun _ _ _ h => hside _ _ _ _ _ h) (Or.inl ⟨by rfl, ?_⟩) (by assumption) ?_
        rotate_left
        · (intro w hSw; (try dsimp only at hSw); go_simp; all_goals with_reducible rfl)
        (try simp only [Act.put, List.setIfInBounds_toArray, List.set_cons_zero, List.set_cons_succ])
        refine wpAnyH_take (i := 6) (v := ?_) (op_at rfl) (by kernel_rfl) (by kernel_rfl) (by kernel_rfl) (fun _ _ _ h => hside _ _ _ _ _ h) (Or.inl ⟨by rfl, ?_⟩) (by assumption) ?_
        rotate_left
        · (intro w hSw; (try dsimp only at hSw); go_simp; all_goals with_reducible rfl)
        (try simp only [Act.put, List.setIfInBounds_toArray, List.set_cons_zero, List.set_cons_succ])
        refine wpAnyH_ready (rs := [4, 7]) (by kernel_rfl) (by simp) (AllReadyH.cons (op_at rfl) (fun K hK => ?_) (AllReadyH.cons (op_at rfl) (fun K hK => ?_) AllReadyH.nil))
        · go_simp
          refine hK.out _ _ ?_ (fun hHeld => ?_)
          · exact f0
          clear hK
          (try simp only [Act.put, List.setIfInBounds_toArray, List.set_cons_zero, List.set_cons_succ])
          refine wpAnyH_ready (rs := [7]) (by kernel_rfl) (by simp) (AllReadyH.cons (op_at rfl) (fun Kr hK => ?_) AllReadyH.nil)
          go_simp
          refine (makes_any o.op _).mono ?_
          rintro e w' ⟨rfl, hB'⟩
          have hD1 : Below W3.heap.size W3 w' := below_then (below_drewN (Below.refl _ _) 1) hB'
          refine hK.out _ _ ?_ (fun hHeld => ?_)
          · exact cell_later hD1 f0
          clear hK
          (try simp only [Act.put, List.setIfInBounds_toArray, List.set_cons_zero, List.set_cons_succ])
          refine wpAnyH_ready (rs := [8]) (by kernel_rfl) (by simp) (AllReadyH.cons (op_at rfl) (fun Kr hK => ?_) AllReadyH.nil)
          go_simp
          have hD2 : Below W3.heap.size W3 (w'.alloc (.cells #[.bool (rowOf o.op).makes] 4)) := below_alloc hD1 _
          refine hK.out _ _ ?_ (fun hHeld => ?_)
          · exact cell_later hD2 f0
          have HD := Lib.hid hD2
          clear hK
          (try simp only [Act.put, List.setIfInBounds_toArray, List.set_cons_zero, List.set_cons_succ])
          refine wpAnyH_ready (rs := [9]) (by kernel_rfl) (by simp) (AllReadyH.cons (op_at rfl) (fun K hK => ?_) AllReadyH.nil)
          rw [if_pos (by rfl)]
          refine oper_append_q (v := .slice A5 k c5) (X + 1) _ _ 96 4 i4 (.bool false) 1 1 rfl Try.underlying96 hi hz0 hz1 hz2 rfl (by decide) rfl (q_below HQ3.out HD.out) [.bool (rowOf o.op).makes] rfl rfl ?_ ?_ ?_ ?_ ?_ ?_
          · intro _
            refine ⟨_, rfl, fun j u hj => ?_⟩
            rw [add_at', cell_of_row _ w'.heap.size _ _ 4 (0, 0) (heap_alloc_last w' _), Nat.zero_add]
            simpa using hj
          · simp [Value.oneCell']
          · rw [hlk]; simp only [maxLen]; omega
          · rw [hlk]; omega
          · exact Nat.le_trans hX3s HD.out.size
          intro v1 w1 hq1 hg1 hat
          rw [hlk] at hq1
          have hne1 : ∀ r, (Value.slice A5 k c5).ownBlock = some r → X + 1 ≤ r ∧ r < wr.heap.size := fun r hr => ⟨(q_typed HQ.out r hr).1, q_lt HQ.out r hr⟩
          obtain ⟨hE1, hE2, hE3⟩ := grown_facts hg1 hne1 (HX3.out.below HD.out) (Nat.le_of_eq hbo) (cell_later HD.out f0)
          refine hK.out _ _ ?_ (fun hHeld => ?_)
          · exact hE2
          clear hK
          (try simp only [Act.put, List.setIfInBounds_toArray, List.set_cons_zero, List.set_cons_succ])
          refine wpAnyH_take (i := 10) (v := ?_) (op_at rfl) (by kernel_rfl) (by kernel_rfl) (by kernel_rfl) (fun _ _ _ h => hside _ _ _ _ _ h) (Or.inl ⟨by rfl, ?_⟩) (by assumption) ?_
          rotate_left
          · (intro w hSw; (try dsimp only at hSw); go_simp; all_goals with_reducible rfl)
          (try simp only [Act.put, List.setIfInBounds_toArray, List.set_cons_zero, List.set_cons_succ])
          refine wpAnyH_take (i := 11) (v := ?_) (op_at rfl) (by kernel_rfl) (by kernel_rfl) (by kernel_rfl) (fun _ _ _ h => hside _ _ _ _ _ h) (Or.inl ⟨by rfl, ?_⟩) (by assumption) ?_
          rotate_left
          · (intro w hSw; (try dsimp only at hSw); go_simp; all_goals with_reducible rfl)
          (try simp only [Act.put, List.setIfInBounds_toArray, List.set_cons_zero, List.set_cons_succ])
          obtain ⟨A6, c6, rfl, hn6⟩ := q_slice hq1
          have q18 := hE1.cells.2.2
          have q18f := hE1.free 18
          refine wpAnyH_ready (rs := [12]) (by kernel_rfl) (by simp) (AllReadyH.cons (op_at rfl) (fun Kr hK => ?_) AllReadyH.nil)
          go_simp
          refine hK.out _ _ ?_ (fun hHeld => ?_)
          · rw [cell_setCell_far (Ne.symm hne)]; exact hE2
          clear hK
          (try simp only [Act.put, List.setIfInBounds_toArray, List.set_cons_zero, List.set_cons_succ])
          refine wpAnyH_done (by kernel_rfl) ?_ _
          have HN : Hid (XAt (w1.setCell ⟨X, 18, none⟩ (.slice A6 (k + 1) c6)) X T T.t.ops.length A6 (k + 1) c6) := hE1.set18 A6 (k + 1) c6
          have HQ6 : Hid (BoolsQ (w1.setCell ⟨X, 18, none⟩ (.slice A6 (k + 1) c6)) (X + 1) (.slice A6 (k + 1) c6) ((mkOf T.t).take (k + 1))) := by
            refine q_move (bools_step hq1 HOP.out hlk) (fun r hr => Below.heap_setCell _ _ _ _ (fun e => ?_))
            have := (q_typed hq1 r hr).1
            simp at e
            omega
          have HB6 : Hid (Below X w (w1.setCell ⟨X, 18, none⟩ (.slice A6 (k + 1) c6))) :=
            Below.setCell (p := ⟨X, 18, none⟩) ((HB3.out.trans (HD.out.mono (Nat.le_of_lt HX3.out.lt))).trans hE3) (Nat.le_refl _) _
          obtain ⟨W7, hW7⟩ : ∃ W7, w1.setCell ⟨X, 18, none⟩ (.slice A6 (k + 1) c6) = W7 := ⟨_, rfl⟩
          rw [hW7] at HN HQ6 HB6 ⊢
          go_wp2_with fail
          go_roundw
          case rel => exact ⟨k + 1, A6, c6, by go_num, by omega, HN.out, HQ6.out, HB6.out⟩
          case measure => simp [intOf]; omega
        · go_simp
          refine (makes_any o.op _).mono ?_
          rintro e w' ⟨rfl, hB'⟩
          have hD1 : Below W3.heap.size W3 w' := below_then (below_drewN (Below.refl _ _) 1) hB'
          refine hK.out _ _ ?_ (fun hHeld => ?_)
          · exact cell_later hD1 f0
          clear hK
          (try simp only [Act.put, List.setIfInBounds_toArray, List.set_cons_zero, List.set_cons_succ])
          have y18a := cell_later hD1 y18
          have hD2 : Below W3.heap.size W3 (w'.alloc (.cells #[.bool (rowOf o.op).makes] 4)) := below_alloc hD1 _
          have y18b := cell_later hD2 y18
          refine wpAnyH_ready (rs := [4, 8]) (by kernel_rfl) (by simp) (AllReadyH.cons (op_at rfl) (fun K hK => ?_) (AllReadyH.cons (op_at rfl) (fun K hK => ?_) AllReadyH.nil))
          · go_simp
            refine hK.out _ _ ?_ (fun hHeld => ?_)
            · exact cell_later hD1 f0
            clear hK
            (try simp only [Act.put, List.setIfInBounds_toArray, List.set_cons_zero, List.set_cons_succ])
            refine wpAnyH_ready (rs := [8]) (by kernel_rfl) (by simp) (AllReadyH.cons (op_at rfl) (fun Kr hK => ?_) AllReadyH.nil)
            go_simp
            refine hK.out _ _ ?_ (fun hHeld => ?_)
            · exact cell_later hD2 f0
            have HD := Lib.hid hD2
            clear hK
            (try simp only [Act.put, List.setIfInBounds_toArray, List.set_cons_zero, List.set_cons_succ])
            refine wpAnyH_ready (rs := [9]) (by kernel_rfl) (by simp) (AllReadyH.cons (op_at rfl) (fun K hK => ?_) AllReadyH.nil)
            rw [if_pos (by rfl)]
            refine oper_append_q (v := .slice A5 k c5) (X + 1) _ _ 96 4 i4 (.bool false) 1 1 rfl Try.underlying96 hi hz0 hz1 hz2 rfl (by decide) rfl (q_below HQ3.out HD.out) [.bool (rowOf o.op).makes] rfl rfl ?_ ?_ ?_ ?_ ?_ ?_
            · intro _
              refine ⟨_, rfl, fun j u hj => ?_⟩
              rw [add_at', cell_of_row _ w'.heap.size _ _ 4 (0, 0) (heap_alloc_last w' _), Nat.zero_add]
              simpa using hj
            · simp [Value.oneCell']
            · rw [hlk]; simp only [maxLen]; omega
            · rw [hlk]; omega
            · exact Nat.le_trans hX3s HD.out.size
            intro v1 w1 hq1 hg1 hat
            rw [hlk] at hq1
            have hne1 : ∀ r, (Value.slice A5 k c5).ownBlock = some r → X + 1 ≤ r ∧ r < wr.heap.size := fun r hr => ⟨(q_typed HQ.out r hr).1, q_lt HQ.out r hr⟩
            obtain ⟨hE1, hE2, hE3⟩ := grown_facts hg1 hne1 (HX3.out.below HD.out) (Nat.le_of_eq hbo) (cell_later HD.out f0)
            refine hK.out _ _ ?_ (fun hHeld => ?_)
            · exact hE2
            clear hK
            (try simp only [Act.put, List.setIfInBounds_toArray, List.set_cons_zero, List.set_cons_succ])
            refine wpAnyH_take (i := 10) (v := ?_) (op_at rfl) (by kernel_rfl) (by kernel_rfl) (by kernel_rfl) (fun _ _ _ h => hside _ _ _ _ _ h) (Or.inl ⟨by rfl, ?_⟩) (by assumption) ?_
            rotate_left
            · (intro w hSw; (try dsimp only at hSw); go_simp; all_goals with_reducible rfl)
            (try simp only [Act.put, List.setIfInBounds_toArray, List.set_cons_zero, List.set_cons_succ])
            refine wpAnyH_take (i := 11) (v := ?_) (op_at rfl) (by kernel_rfl) (by kernel_rfl) (by kernel_rfl) (fun _ _ _ h => hside _ _ _ _ _ h) (Or.inl ⟨by rfl, ?_⟩) (by assumption) ?_
            rotate_left
            · (intro w hSw; (try dsimp only at hSw); go_simp; all_goals with_reducible rfl)
            (try simp only [Act.put, List.setIfInBounds_toArray, List.set_cons_zero, List.set_cons_succ])
            obtain ⟨A6, c6, rfl, hn6⟩ := q_slice hq1
            have q18 := hE1.cells.2.2
            have q18f := hE1.free 18
            refine wpAnyH_ready (rs := [12]) (by kernel_rfl) (by simp) (AllReadyH.cons (op_at rfl) (fun Kr hK => ?_) AllReadyH.nil)
            go_simp
            refine hK.out _ _ ?_ (fun hHeld => ?_)
            · rw [cell_setCell_far (Ne.symm hne)]; exact hE2
            clear hK
            (try simp only [Act.put, List.setIfInBounds_toArray, List.set_cons_zero, List.set_cons_succ])
            refine wpAnyH_done (by kernel_rfl) ?_ _
            have HN : Hid (XAt (w1.setCell ⟨X, 18, none⟩ (.slice A6 (k + 1) c6)) X T T.t.ops.length A6 (k + 1) c6) := hE1.set18 A6 (k + 1) c6
            have HQ6 : Hid (BoolsQ (w1.setCell ⟨X, 18, none⟩ (.slice A6 (k + 1) c6)) (X + 1) (.slice A6 (k + 1) c6) ((mkOf T.t).take (k + 1))) := by
              refine q_move (bools_step hq1 HOP.out hlk) (fun r hr => Below.heap_setCell _ _ _ _ (fun e => ?_))
              have := (q_typed hq1 r hr).1
              simp at e
              omega
            have HB6 : Hid (Below X w (w1.setCell ⟨X, 18, none⟩ (.slice A6 (k + 1) c6))) :=
              Below.setCell (p := ⟨X, 18, none⟩) ((HB3.out.trans (HD.out.mono (Nat.le_of_lt HX3.out.lt))).trans hE3) (Nat.le_refl _) _
            obtain ⟨W7, hW7⟩ : ∃ W7, w1.setCell ⟨X, 18, none⟩ (.slice A6 (k + 1) c6) = W7 := ⟨_, rfl⟩
            rw [hW7] at HN HQ6 HB6 ⊢
            go_wp2_with fail
            go_roundw
            case rel => exact ⟨k + 1, A6, c6, by go_num, by omega, HN.out, HQ6.out, HB6.out⟩
            case measure => simp [intOf]; omega
          · go_simp
            refine hK.out _ _ ?_ (fun hHeld => ?_)
            · exact cell_later hD2 f0
            clear hK
            (try simp only [Act.put, List.setIfInBounds_toArray, List.set_cons_zero, List.set_cons_succ])
            refine wpAnyH_ready (rs := [4]) (by kernel_rfl) (by simp) (AllReadyH.cons (op_at rfl) (fun Kr hK => ?_) AllReadyH.nil)
            go_simp
            refine hK.out _ _ ?_ (fun hHeld => ?_)
            · exact cell_later hD2 f0
            have HD := Lib.hid hD2
            clear hK
            (try simp only [Act.put, List.setIfInBounds_toArray, List.set_cons_zero, List.set_cons_succ])
            refine wpAnyH_ready (rs := [9]) (by kernel_rfl) (by simp) (AllReadyH.cons (op_at rfl) (fun K hK => ?_) AllReadyH.nil)
            rw [if_pos (by rfl)]
            refine oper_append_q (v := .slice A5 k c5) (X + 1) _ _ 96 4 i4 (.bool false) 1 1 rfl Try.underlying96 hi hz0 hz1 hz2 rfl (by decide) rfl (q_below HQ3.out HD.out) [.bool (rowOf o.op).makes] rfl rfl ?_ ?_ ?_ ?_ ?_ ?_
            · intro _
              refine ⟨_, rfl, fun j u hj => ?_⟩
              rw [add_at', cell_of_row _ w'.heap.size _ _ 4 (0, 0) (heap_alloc_last w' _), Nat.zero_add]
              simpa using hj
            · simp [Value.oneCell']
            · rw [hlk]; simp only [maxLen]; omega
            · rw [hlk]; omega
            · exact Nat.le_trans hX3s HD.out.size
            intro v1 w1 hq1 hg1 hat
            rw [hlk] at hq1
            have hne1 : ∀ r, (Value.slice A5 k c5).ownBlock = some r → X + 1 ≤ r ∧ r < wr.heap.size := fun r hr => ⟨(q_typed HQ.out r hr).1, q_lt HQ.out r hr⟩
            obtain ⟨hE1, hE2, hE3⟩ := grown_facts hg1 hne1 (HX3.out.below HD.out) (Nat.le_of_eq hbo) (cell_later HD.out f0)
            refine hK.out _ _ ?_ (fun hHeld => ?_)
            · exact hE2
            clear hK
            (try simp only [Act.put, List.setIfInBounds_toArray, List.set_cons_zero, List.set_cons_succ])
            refine wpAnyH_take (i := 10) (v := ?_) (op_at rfl) (by kernel_rfl) (by kernel_rfl) (by kernel_rfl) (fun _ _ _ h => hside _ _ _ _ _ h) (Or.inl ⟨by rfl, ?_⟩) (by assumption) ?_
            rotate_left
            · (intro w hSw; (try dsimp only at hSw); go_simp; all_goals with_reducible rfl)
            (try simp only [Act.put, List.setIfInBounds_toArray, List.set_cons_zero, List.set_cons_succ])
            refine wpAnyH_take (i := 11) (v := ?_) (op_at rfl) (by kernel_rfl) (by kernel_rfl) (by kernel_rfl) (fun _ _ _ h => hside _ _ _ _ _ h) (Or.inl ⟨by rfl, ?_⟩) (by assumption) ?_
            rotate_left
            · (intro w hSw; (try dsimp only at hSw); go_simp; all_goals with_reducible rfl)
            (try simp only [Act.put, List.setIfInBounds_toArray, List.set_cons_zero, List.set_cons_succ])
            obtain ⟨A6, c6, rfl, hn6⟩ := q_slice hq1
            have q18 := hE1.cells.2.2
            have q18f := hE1.free 18
            refine wpAnyH_ready (rs := [12]) (by kernel_rfl) (by simp) (AllReadyH.cons (op_at rfl) (fun Kr hK => ?_) AllReadyH.nil)
            go_simp
            refine hK.out _ _ ?_ (fun hHeld => ?_)
            · rw [cell_setCell_far (Ne.symm hne)]; exact hE2
            clear hK
            (try simp only [Act.put, List.setIfInBounds_toArray, List.set_cons_zero, List.set_cons_succ])
            refine wpAnyH_done (by kernel_rfl) ?_ _
            have HN : Hid (XAt (w1.setCell ⟨X, 18, none⟩ (.slice A6 (k + 1) c6)) X T T.t.ops.length A6 (k + 1) c6) := hE1.set18 A6 (k + 1) c6
            have HQ6 : Hid (BoolsQ (w1.setCell ⟨X, 18, none⟩ (.slice A6 (k + 1) c6)) (X + 1) (.slice A6 (k + 1) c6) ((mkOf T.t).take (k + 1))) := by
              refine q_move (bools_step hq1 HOP.out hlk) (fun r hr => Below.heap_setCell _ _ _ _ (fun e => ?_))
              have := (q_typed hq1 r hr).1
              simp at e
              omega
            have HB6 : Hid (Below X w (w1.setCell ⟨X, 18, none⟩ (.slice A6 (k + 1) c6))) :=
              Below.setCell (p := ⟨X, 18, none⟩) ((HB3.out.trans (HD.out.mono (Nat.le_of_lt HX3.out.lt))).trans hE3) (Nat.le_refl _) _
            obtain ⟨W7, hW7⟩ : ∃ W7, w1.setCell ⟨X, 18, none⟩ (.slice A6 (k + 1) c6) = W7 := ⟨_, rfl⟩
            rw [hW7] at HN HQ6 HB6 ⊢
            go_wp2_with fail
            go_roundw
            case rel => exact ⟨k + 1, A6, c6, by go_num, by omega, HN.out, HQ6.out, HB6.out⟩
            case measure => simp [intOf]; omega
      · have hkl : k = T.t.ops.length := by omega
        subst hkl
        have y13 := HX.out.cells.1 13 _ rfl
        rw [Nat.zero_add] at y13
        have hml : (mkOf T.t).length = T.t.ops.length := by simp [mkOf]
        have hq := HQ.out
        rw [List.take_of_length_le (by omega)] at hq
        have HQ0 := Lib.hid hq
        have HX0 := Lib.hid HX.out
        have HB0 := Lib.hid HB.out
        have HW0 := Lib.hid hT
        clear hq hlt hk
        go_wp2_with fail
        go_loopw [47] (fun s47 w2 => ∃ (k n : Nat), s47 = .int .i64 k ∧ k ≤ T.t.ops.length ∧ XAt w2 X T n A5 T.t.ops.length c5 ∧ BoolsQ w2 (X + 1) (.slice A5 T.t.ops.length c5) (mkOf T.t) ∧ Hid (∀ j < k, OpAt T.t j) ∧ Below X w w2)
          (fun s47 _ => T.t.ops.length - (intOf s47).toNat)
        case atStart => exact ⟨0, _, rfl, Nat.zero_le _, HX0.out, HQ0.out, fun j hj => by omega, HB0.out⟩
        case round =>
          obtain ⟨k, n, rfl, hk, hXr, hq, hal, hB⟩ := hrel
          have z17 := hXr.free 17
          have x17 := hXr.cells.2.1
          have HX := Lib.hid hXr
          have HQ := Lib.hid hq
          have HB := Lib.hid hB
          clear hXr hq hB
          by_cases hlt : k < T.t.ops.length
          · obtain ⟨o, ho⟩ : ∃ o, T.t.ops[k]? = some o := ⟨_, List.getElem?_eq_getElem hlt⟩
            have HOP := Lib.hid ho
            clear ho
            obtain ⟨W3, hW3⟩ : ∃ W3, wr.setCell ⟨X, 17, none⟩ (.int .i64 (k : Nat)) = W3 := ⟨_, rfl⟩
            have HX3 : Hid (XAt W3 X T k A5 T.t.ops.length c5) := by rw [← hW3]; exact HX.out.set17 k
            have HQ3 : Hid (BoolsQ W3 (X + 1) (.slice A5 T.t.ops.length c5) (mkOf T.t)) := by
              rw [← hW3]
              refine q_move HQ.out (fun r hr => Below.heap_setCell _ _ _ _ (fun e => ?_))
              have := (q_typed HQ.out r hr).1
              simp at e
              omega
            have HB3 : Hid (Below X w W3) := by rw [← hW3]; exact Below.setCell (p := ⟨X, 17, none⟩) HB.out (Nat.le_refl _) _
            have hTw := hT.below (hW.trans (HB3.out.mono hWX))
            have h18 := HX3.out.cells.2.2
            rw [← hml] at h18
            have HT3 := Lib.hid hTw
            have H18 := Lib.hid h18
            clear hTw h18
            go_wp2_with fail
            refine (op_any T X k A5 c5 (mkOf T.t) o W3 HT3.out ht HX3.out.cells.1 HX3.out.cells.2.1 H18.out (boolsQ_row HQ3.out hml.symm) (by omega) (by omega) HOP.out (hI2 o (List.mem_of_getElem? HOP.out))).mono ?_
            rintro e W4 ⟨hcase, hB4⟩
            have HB4 : Hid (Below X w W4) := HB3.out.trans (hB4.mono (Nat.le_of_lt HX3.out.lt))
            rcases hcase with ⟨rfl, hok⟩ | ⟨rfl, hno⟩
            · have HX4 := Lib.hid (HX3.out.below hB4)
              have HQ4 := Lib.hid (q_below HQ3.out hB4)
              have HK := Lib.hid hok
              clear hok hB4 hW3 z17 x17
              go_wp2_with fail
              go_roundw
              case rel =>
                refine ⟨k + 1, k, by go_num, by omega, HX4.out, HQ4.out, ?_, HB4.out⟩
                intro j hj
                rcases Nat.lt_or_ge j k with h1 | h1
                · exact hal.out j h1
                · obtain rfl : j = k := by omega
                  intro o' ho'
                  rw [HOP.out] at ho'
                  cases ho'
                  exact HK.out
              case measure => simp [intOf]; omega
            · exact ⟨rfl, some k, .op k HO.out hlt hal.out (fun h => hno (h o HOP.out)), rfl, HB4.out⟩
          · have hkl : k = T.t.ops.length := by omega
            subst hkl
            obtain ⟨W3, hW3⟩ : ∃ W3, wr.setCell ⟨X, 17, none⟩ (.int .i64 (T.t.ops.length : Nat)) = W3 := ⟨_, rfl⟩
            have HX3 : Hid (XAt W3 X T T.t.ops.length A5 T.t.ops.length c5) := by rw [← hW3]; exact HX.out.set17 _
            have HQ3 : Hid (BoolsQ W3 (X + 1) (.slice A5 T.t.ops.length c5) (mkOf T.t)) := by
              rw [← hW3]
              refine q_move HQ.out (fun r hr => Below.heap_setCell _ _ _ _ (fun e => ?_))
              have := (q_typed HQ.out r hr).1
              simp at e
              omega
            have HB3 : Hid (Below X w W3) := by rw [← hW3]; exact Below.setCell (p := ⟨X, 17, none⟩) HB.out (Nat.le_refl _) _
            have y13 := HX.out.cells.1 13 _ rfl
            have y16 := HX3.out.cells.1 16 _ rfl
            rw [Nat.zero_add] at y13 y16
            clear hk hlt
            have hbl : T.t.back.length ≤ 1048576 := hT.b.2.2.1
            have hni : T.t.ins.length ≤ 1048576 := hT.i.2.2.1
            go_wp2_with fail
            go_loopw [73] (fun s73 w2 => ∃ (k : Nat), s73 = .int .i64 k ∧ k ≤ T.t.back.length ∧ Hid ((T.t.back.take k).all (fun s => madeS T.t.virts.length T.t.ins.length (mkOf T.t) s T.t.ops.length) = true) ∧ Below W3.heap.size W3 w2)
              (fun s73 _ => T.t.back.length - (intOf s73).toNat)
            case atStart => exact ⟨0, rfl, Nat.zero_le _, rfl, Below.refl _ _⟩
            case round =>
              obtain ⟨k, rfl, hk, hbk, hB⟩ := hrel
              have HB4 : Hid (Below X w wr) := HB3.out.trans (hB.mono (Nat.le_of_lt HX3.out.lt))
              have HBr := Lib.hid hB
              clear hB
              by_cases hlt : k < T.t.back.length
              · obtain ⟨s, hs⟩ : ∃ s, T.t.back[k]? = some s := ⟨_, List.getElem?_eq_getElem hlt⟩
                obtain ⟨b, oo, hA, hb, e0, e1, e2, e3⟩ := src_get (hT.below (hW.trans (HB4.out.mono hWX))).b.2.2.2 hs
                have HS := Lib.hid hs
                rw [hA]
                clear hA hs
                go_upto_region 17 with fail
                obtain ⟨W7, hW7⟩ : ∃ W7, wr.alloc (.cells #[.int .i64 s.k, .int .i64 s.vk, .int .i64 s.vn, .int .i64 s.n] 63) = W7 := ⟨_, rfl⟩
                have hB7 : Below W3.heap.size W3 W7 := by rw [← hW7]; exact below_alloc HBr.out _
                have hb7 := heap_alloc_last wr (.cells #[.int .i64 s.k, .int .i64 s.vk, .int .i64 s.vn, .int .i64 s.n] 63)
                rw [hW7] at hb7 ⊢
                have hX7 := HX3.out.below hB7
                have t12 := hX7.cells.1 12 _ rfl
                have t15 := hX7.cells.1 15 _ rfl
                rw [Nat.zero_add] at t12 t15
                have t17 := hX7.cells.2.1
                have t18 := hX7.cells.2.2
                rw [← hml] at t18
                have f0 := cell_of_row W7 wr.heap.size 0 _ _ _ hb7
                have f1 := cell_of_row W7 wr.heap.size 1 _ _ _ hb7
                have f2 := cell_of_row W7 wr.heap.size 2 _ _ _ hb7
                have f3 := cell_of_row W7 wr.heap.size 3 _ _ _ hb7
                simp only [List.getElem?_toArray, List.getElem?_cons_zero, List.getElem?_cons_succ] at f0 f1 f2 f3
                have HB7 := Lib.hid hB7
                have HM7 := Lib.hid (boolsQ_row (q_below HQ3.out hB7) hml.symm)
                clear hB7 hb7 hW7 hX7 e0 e1 e2 e3
                (try simp only [Act.put, List.setIfInBounds_toArray, List.set_cons_zero, List.set_cons_succ])
                refine drawn_begin (fun w' => Below W7.heap.size W7 w' ∧ w'.cell? ⟨X, 17, none⟩ = some (.int .i64 (T.t.ops.length : Nat)) ∧ w'.cell? ⟨wr.heap.size, 0, none⟩ = some (.int .i64 s.k) ∧ w'.cell? ⟨wr.heap.size, 1, none⟩ = some (.int .i64 s.vk) ∧ w'.cell? ⟨wr.heap.size, 2, none⟩ = some (.int .i64 s.vn) ∧ w'.cell? ⟨wr.heap.size, 3, none⟩ = some (.int .i64 s.n)) (fun c a d v w h => ?_) (by kernel_rfl) ?_ (fun hside hHeld => ?_)
                · (obtain ⟨h1, h2⟩ := h; exact And.intro (put_nil h1) h2)
                · exact ⟨below_drewN (Below.refl _ _) 1, t17, f0, f1, f2, f3⟩
                refine wpAnyH_take (i := 0) (v := ?_) (op_at rfl) (by kernel_rfl) (by kernel_rfl) (by kernel_rfl) (fun _ _ _ h => hside _ _ _ _ _ h) (Or.inl ⟨by rfl, ?_⟩) (by assumption) ?_
                rotate_left
                · (intro w hSw; (try dsimp only at hSw); go_simp; all_goals with_reducible rfl)
                (try simp only [Act.put, List.setIfInBounds_toArray, List.set_cons_zero, List.set_cons_succ])
                refine wpAnyH_take (i := 1) (v := ?_) (op_at rfl) (by kernel_rfl) (by kernel_rfl) (by kernel_rfl) (fun _ _ _ h => hside _ _ _ _ _ h) (Or.inl ⟨by rfl, ?_⟩) (by assumption) ?_
                rotate_left
                · (intro w hSw; (try dsimp only at hSw); go_simp; all_goals with_reducible rfl)
                (try simp only [Act.put, List.setIfInBounds_toArray, List.set_cons_zero, List.set_cons_succ])
                refine wpAnyH_take (i := 2) (v := ?_) (op_at rfl) (by kernel_rfl) (by kernel_rfl) (by kernel_rfl) (fun _ _ _ h => hside _ _ _ _ _ h) (Or.inl ⟨by rfl, ?_⟩) (by assumption) ?_
                rotate_left
                · (intro w hSw; (try dsimp only at hSw); go_simp; all_goals with_reducible rfl)
                (try simp only [Act.put, List.setIfInBounds_toArray, List.set_cons_zero, List.set_cons_succ])
                refine wpAnyH_take (i := 3) (v := ?_) (op_at rfl) (by kernel_rfl) (by kernel_rfl) (by kernel_rfl) (fun _ _ _ h => hside _ _ _ _ _ h) (Or.inl ⟨by rfl, ?_⟩) (by assumption) ?_
                rotate_left
                · (intro w hSw; (try dsimp only at hSw); go_simp; all_goals with_reducible rfl)
                (try simp only [Act.put, List.setIfInBounds_toArray, List.set_cons_zero, List.set_cons_succ])
                refine wpAnyH_take (i := 4) (v := ?_) (op_at rfl) (by kernel_rfl) (by kernel_rfl) (by kernel_rfl) (fun _ _ _ h => hside _ _ _ _ _ h) (Or.inl ⟨by rfl, ?_⟩) (by assumption) ?_
                rotate_left
                · (intro w hSw; (try dsimp only at hSw); go_simp; all_goals with_reducible rfl)
                (try simp only [Act.put, List.setIfInBounds_toArray, List.set_cons_zero, List.set_cons_succ])
                refine wpAnyH_take (i := 5) (v := ?_) (op_at rfl) (by kernel_rfl) (by kernel_rfl) (by kernel_rfl) (fun _ _ _ h => hside _ _ _ _ _ h) (Or.inl ⟨by rfl, ?_⟩) (by assumption) ?_
                rotate_left
                · (intro w hSw; (try dsimp only at hSw); go_simp; all_goals with_reducible rfl)
                (try simp only [Act.put, List.setIfInBounds_toArray, List.set_cons_zero, List.set_cons_succ])
                refine wpAnyH_ready (rs := [6]) (by kernel_rfl) (by simp) (AllReadyH.cons (op_at rfl) (fun Kr hK => ?_) AllReadyH.nil)
                go_simp
                have hBd := hHeld.1
                refine (made_any X T.i.A T.v.A A5 T.t.ins.length T.i.c T.t.virts.length T.v.c c5 T.t.ops.length (mkOf T.t) s T.t.ops.length _ (cell_later hBd t12) (cell_later hBd t15) (cell_later hBd t17) (cell_later hBd t18) (RowAt.below HM7.out hBd (fun _ _ h => h)) (by omega) hni (by omega) (hI3 s (List.mem_of_getElem? HS.out))).mono ?_
                rintro e w8 ⟨rfl, hB8⟩
                have hB9 : Below W7.heap.size W7 w8 := below_then hBd hB8
                cases hmd : madeS T.t.virts.length T.t.ins.length (mkOf T.t) s T.t.ops.length with
                | false =>
                  refine ⟨rfl, some T.t.ops.length, .back HO.out hal.out (all_no HS.out hmd), rfl, ?_⟩
                  exact HB3.out.trans ((below_then HB7.out hB9).mono (Nat.le_of_lt HX3.out.lt))
                | true =>
                  have HMD := Lib.hid hmd
                  clear hmd
                  simp only [mustE, if_true]
                  refine hK.out _ _ ?_ (fun hHeld => ?_)
                  · exact ⟨hB9, cell_later hB9 t17, cell_later hB9 f0, cell_later hB9 f1, cell_later hB9 f2, cell_later hB9 f3⟩
                  clear hK
                  (try simp only [Act.put, List.setIfInBounds_toArray, List.set_cons_zero, List.set_cons_succ])
                  refine wpAnyH_done (by kernel_rfl) ?_ _
                  have HBn := Lib.hid (below_then HB7.out hB9)
                  clear hB9 hB8 hHeld
                  go_wp2_with fail
                  go_roundw
                  case rel =>
                    refine ⟨k + 1, by go_num, by omega, ?_, HBn.out⟩
                    show _ = _
                    rw [all_take_succ HS.out, hbk.out, HMD.out]
                    rfl
                  case measure => simp [intOf]; omega
              · have hkl : k = T.t.back.length := by omega
                subst hkl
                rw [List.take_length] at hbk
                go_wp2_with fail
                refine bodyPost_end (results_none rfl _ _ _) rfl ⟨none, .ok HO.out hal.out hbk.out, rfl, HB4.out⟩
end Go.Proofs.Ytjcfppbahalgbaa
