/- trace.taken; the checker in memory; checker.outside's inner function. -/
import Derived.Test.YtjcfppbahalgbaaH
import Derived.Test.YtjcfppbahalgbaaB
import Derived.Test.YtjcfppbahalgbaaT
namespace Go.Proofs.Ytjcfppbahalgbaa
set_option linter.unusedSimpArgs false
set_option linter.unusedVariables false
open Go.RowKit
section
variable {P : Program}
theorem run_loadVar_at (w : World) (g : Nat) (ty : TypeId) (cs : List Value) (d : TypeDesc) (hg : At w g 0 cs)
    (hu : P.underlying ty = some d) (hd : (match d with | .struct _ | .array _ _ => true | _ => false) = true) (hi : (P.info? ty).map (·.size) = some cs.length) :
    (loadVar ty ⟨g, 0, none⟩).run P w = .ok (.agg cs.toArray) w := by
  have hl : (loadCells ⟨g, 0, none⟩ cs.length).run P w = .ok cs.toArray w :=
    run_loadCells_list (P := P) w ⟨g, 0, none⟩ cs (fun j v hv => by
      rw [add_at']
      exact hg j v hv)
  cases hq : P.info? ty with
  | none => simp [hq] at hi
  | some i =>
    have hs : i.size = cs.length := by simpa [hq] using hi
    have hagg : (isAgg ty).run P w = .ok true w := by
      unfold isAgg
      rw [Sem.run_bind, run_underlying hu w]
      cases d <;> simp_all
    unfold loadVar
    rw [Sem.run_bind, hagg]
    simp [sizeOf, typeInfo, hq, hs, hl, Result.andThen]
theorem wpList_load_at {ops : Array Oper} {rest : List Oper} {o : Oper} {a : Act} {w : World} {Q : Exit → Act → World → Prop} (hgd : o.guard = none) (ty : TypeId) (x : Operand) (ho : o.op = .load ty x)
    (g : Nat) (hx : a.eval x = .pointer (some ⟨g, 0, none⟩)) (cs : List Value) (d : TypeDesc) (hg : At w g 0 cs)
    (hu : P.underlying ty = some d) (hd : (match d with | .struct _ | .array _ _ => true | _ => false) = true) (hi : (P.info? ty).map (·.size) = some cs.length)
    (h : wpList P ops Q rest (a.put o.dst (.agg cs.toArray)) w) : wpList P ops Q (o :: rest) a w := by
  refine wpList_plain hgd fun K hK => ?_
  unfold Oper.wp execOp
  simp only [ho, hx, Instr.loadAt, Instr.sureAddr, Sem.run_bind, Sem.run_pure, Result.andThen_ok, run_loadVar_at w g ty cs d hg hu hd hi]
  exact hK _ _ h
end
theorem TV.cells_one (T : TV) : T.cells.toArray.all (·.oneCell') = true := by simp [TV.cells, Value.oneCell']
theorem TV.cells_len (T : TV) : T.cells.length = 17 := rfl
theorem At.of_obj {w : World} {b : Nat} {cs : List Value} {e : TypeId} {fr : Nat × Nat} (h : w.heap[b]? = some (.cells cs.toArray e fr)) : At w b 0 cs := by
  intro i v hv
  rw [Nat.zero_add, cell_of_row w b i _ _ _ h]
  simpa using hv
theorem taken_any (T : TV) (n : Int) (w : World) :
    Calls Try.prog 66 #[.agg T.cells.toArray, .int .i64 n] w fun e w' => e = .returned (.func (.func 115) #[] #[.pointer (some ⟨w.heap.size, 0, none⟩), .pointer (some ⟨w.heap.size + 1, 0, none⟩)]) ∧
      w' = (w.alloc (.cells T.cells.toArray 33)).alloc (.cells #[.int .i64 n] 3) := by
  unfold TV.cells
  go_enter Try.func66, Try.ntmps66
  go_wp2
  all_goals
    go_ret
    exact ⟨rfl, rfl⟩
def allS (nv : Nat) (l : List TSrc) : Bool := decide (l.length ≤ 1000) && l.all (plainS nv)
theorem all_take_succ {α : Type} {p : α → Bool} {l : List α} {k : Nat} {x : α} (hx : l[k]? = some x) : (l.take (k + 1)).all p = ((l.take k).all p && p x) := by
  have hlt := (List.getElem?_eq_some_iff.1 hx).1
  rw [List.take_succ_eq_append_getElem hlt, List.all_append]
  have : l[k] = x := (List.getElem?_eq_some_iff.1 hx).2
  simp [this]
theorem all_no {α : Type} {p : α → Bool} {l : List α} {k : Nat} {x : α} (hx : l[k]? = some x) (h : p x = false) : l.all p = false := by
  rw [List.all_eq_false]
  exact ⟨x, List.mem_of_getElem? hx, by simp [h]⟩
set_option maxHeartbeats 1600000 in
theorem outside1_any (X bx : Nat) (Av : Option Addr) (nv cv : Nat) (n : Int) (A : Option Addr) (c : Nat) (l : List TSrc) (w : World)
    (h15 : w.cell? ⟨X, 15, none⟩ = some (.slice Av nv cv)) (h17 : w.cell? ⟨X, 17, none⟩ = some (.int .i64 n)) (hbx : w.cell? ⟨bx, 0, none⟩ = some (.pointer (some ⟨X, 0, none⟩)))
    (hl : RowAt SrcR 4 w A l) (hll : l.length ≤ 1048576) :
    Calls Try.prog 158 #[.slice A l.length c, .pointer (some ⟨bx, 0, none⟩)] w fun e w' => e = mustE (allS nv l) n ∧ Below w.heap.size w w' := by
  go_enter Try.func158, Try.ntmps158
  go_wp2_with (go_at_call 157; refine calls_must h17 (fun hok => ?_) (fun hok => ?_); rotate_left; (have hok' := Lib.hid hok; clear hok))
  · refine ⟨rfl, mustE_no ?_, Below.refl _ _⟩
    have := hok'.out
    simp only [decide_eq_false_iff_not] at this
    unfold allS
    simp
    omega
  have hlen := Lib.hid hok
  clear hok
  go_wp2_with fail
  go_loopw [12] (fun s12 wr => ∃ k : Nat, s12 = .int .i64 k ∧ k ≤ l.length ∧ Hid ((l.take k).all (plainS nv) = true) ∧ Below w.heap.size w wr)
    (fun s12 _ => l.length - (intOf s12).toNat)
  case atStart => exact ⟨0, rfl, Nat.zero_le _, rfl, Below.refl _ _⟩
  case round =>
    obtain ⟨k, rfl, hk, ha, hB⟩ := hrel
    by_cases hlt : k < l.length
    · obtain ⟨s, hs⟩ : ∃ s, l[k]? = some s := ⟨_, List.getElem?_eq_getElem hlt⟩
      have hl' := RowAt.below hl hB (fun _ _ h => h)
      obtain ⟨b, o, rfl, hb, e0, e1, e2, e3⟩ := src_get hl' hs
      have g15 := cell_later hB h15
      have g17 := cell_later hB h17
      have gbx := cell_later hB hbx
      have HS := Lib.hid hs
      have HL := Lib.hid hl
      have HB := Lib.hid hB
      clear hs hl hl' hB h15 h17 hbx
      go_wp2_with fail
      obtain ⟨W3, hW3⟩ : ∃ W3, wr.alloc (.cells #[.int .i64 s.k, .int .i64 s.vk, .int .i64 s.vn, .int .i64 s.n] 63) = W3 := ⟨_, rfl⟩
      have hB3 : Below w.heap.size w W3 := by rw [← hW3]; exact below_alloc HB.out _
      have hb3 := heap_alloc_last wr (.cells #[.int .i64 s.k, .int .i64 s.vk, .int .i64 s.vn, .int .i64 s.n] 63)
      have hB3' := below_alloc (Below.refl _ wr) (.cells #[.int .i64 s.k, .int .i64 s.vk, .int .i64 s.vn, .int .i64 s.n] 63)
      rw [hW3] at hb3 hB3' ⊢
      have k15 := cell_later hB3' g15
      have k17 := cell_later hB3' g17
      have kbx := cell_later hB3' gbx
      have f0 := cell_of_row W3 wr.heap.size 0 _ _ _ hb3
      have f1 := cell_of_row W3 wr.heap.size 1 _ _ _ hb3
      have f2 := cell_of_row W3 wr.heap.size 2 _ _ _ hb3
      have f3 := cell_of_row W3 wr.heap.size 3 _ _ _ hb3
      simp only [List.getElem?_toArray, List.getElem?_cons_zero, List.getElem?_cons_succ] at f0 f1 f2 f3
      have HB3 := Lib.hid hB3
      clear hB3 hb3 hB3' g15 g17 gbx hW3 HB e0 e1 e2 e3
      refine drawn_begin (fun w' => Below W3.heap.size W3 w' ∧ w'.cell? ⟨bx, 0, none⟩ = some (.pointer (some ⟨X, 0, none⟩)) ∧ w'.cell? ⟨X, 15, none⟩ = some (.slice Av nv cv) ∧ w'.cell? ⟨X, 17, none⟩ = some (.int .i64 n) ∧
          w'.cell? ⟨wr.heap.size, 0, none⟩ = some (.int .i64 s.k) ∧ w'.cell? ⟨wr.heap.size, 1, none⟩ = some (.int .i64 s.vk) ∧ w'.cell? ⟨wr.heap.size, 2, none⟩ = some (.int .i64 s.vn) ∧ w'.cell? ⟨wr.heap.size, 3, none⟩ = some (.int .i64 s.n)) (fun c a d v w h => ?_) (by kernel_rfl) ?_ (fun hside hHeld => ?_)
      · (obtain ⟨h1, h2⟩ := h; exact And.intro (put_nil h1) h2)
      · exact ⟨below_drewN (Below.refl _ _) 1, kbx, k15, k17, f0, f1, f2, f3⟩
      refine wpAnyH_take (i := 0) (v := ?_) (op_at rfl) (by kernel_rfl) (by kernel_rfl) (by kernel_rfl) (fun _ _ _ h => hside _ _ _ _ _ h) (Or.inl ⟨by rfl, ?_⟩) (by assumption) ?_
      rotate_left
      · (intro w hSw; (try dsimp only at hSw); go_simp; all_goals with_reducible rfl)
      (try simp only [Act.put, List.setIfInBounds_toArray, List.set_cons_zero, List.set_cons_succ])
      refine wpAnyH_take (i := 1) (v := ?_) (op_at rfl) (by kernel_rfl) (by kernel_rfl) (by kernel_rfl) (fun _ _ _ h => hside _ _ _ _ _ h) (Or.inl ⟨by rfl, ?_⟩) (by assumption) ?_
      rotate_left
      · (intro w hSw; (try dsimp only at hSw); go_simp; all_goals with_reducible rfl)
      (try simp only [Act.put, List.setIfInBounds_toArray, List.set_cons_zero, List.set_cons_succ])
      refine wpAnyH_take (i := 2) (v := ?_) (op_at rfl) (by kernel_rfl) (by kernel_rfl) (by kernel_rfl) (fun _ _ _ h => hside _ _ _ _ _ h) (Or.inl ⟨by rfl, ?_⟩) (by assumption) ?_
      rotate_left
      · (intro w hSw; (try dsimp only at hSw); go_simp; all_goals with_reducible rfl)
      (try simp only [Act.put, List.setIfInBounds_toArray, List.set_cons_zero, List.set_cons_succ])
      refine wpAnyH_ready (rs := [3]) (by kernel_rfl) (by simp) (AllReadyH.cons (op_at rfl) (fun Kr hK => ?_) AllReadyH.nil)
      go_simp
      refine (plain_any X Av nv cv s.k s.vk s.vn s.n _ hHeld.2.2.1).mono ?_
      rintro e w' ⟨rfl, hB'⟩
      have hB4 : Below W3.heap.size W3 w' := below_then hHeld.1 hB'
      refine hK.out _ _ ?_ (fun hHeld => ?_)
      · exact ⟨hB4, cell_later hB4 kbx, cell_later hB4 k15, cell_later hB4 k17, cell_later hB4 f0, cell_later hB4 f1, cell_later hB4 f2, cell_later hB4 f3⟩
      clear hK
      (try simp only [Act.put, List.setIfInBounds_toArray, List.set_cons_zero, List.set_cons_succ])
      refine wpAnyH_ready (rs := [4]) (by kernel_rfl) (by simp) (AllReadyH.cons (op_at rfl) (fun Kr hK => ?_) AllReadyH.nil)
      go_simp
      refine calls_must (cell_later hB4 k17) (fun hok => ?_) (fun hok => ?_)
      · refine hK.out _ _ ?_ (fun hHeld => ?_)
        · exact hHeld
        clear hK
        (try simp only [Act.put, List.setIfInBounds_toArray, List.set_cons_zero, List.set_cons_succ])
        refine wpAnyH_done (by kernel_rfl) ?_ _
        have HP := Lib.hid hok
        have HB4 := Lib.hid (below_then HB3.out hB4)
        clear hB' hB4 hHeld hok
        go_wp2_with fail
        go_roundw
        case rel =>
          refine ⟨k + 1, by go_num, by omega, ?_, HB4.out⟩
          show _ = _
          rw [all_take_succ HS.out, ha.out, show plainS nv s = true from HP.out]
          rfl
        case measure => simp [intOf]; omega
      · refine ⟨rfl, mustE_no ?_, below_then HB3.out hB4⟩
        unfold allS
        rw [all_no HS.out hok, Bool.and_false]
    · have hkl : k = l.length := by omega
      subst hkl
      go_wp2_with fail
      refine bodyPost_end (results_none rfl _ _ _) rfl ⟨mustE_yes ?_, hB⟩
      unfold allS
      rw [List.take_length] at ha
      rw [ha.out, Bool.and_true]
      have := hlen.out
      simp only [decide_eq_true_eq] at this ⊢
      omega
end Go.Proofs.Ytjcfppbahalgbaa
