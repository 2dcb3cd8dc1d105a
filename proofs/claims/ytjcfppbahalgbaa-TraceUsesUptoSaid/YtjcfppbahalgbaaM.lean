/- The example trace of chapter 16. -/
import Derived.Test.YtjcfppbahalgbaaL
namespace Go.Proofs.Ytjcfppbahalgbaa
set_option linter.unusedSimpArgs false
set_option linter.unusedVariables false
open Go.RowKit
theorem res_agg (fn : Func) (s : Tmp) (ty : TypeId) (hf : fn.results = #[.cell s ty]) (tmps : Array Value) (b : Nat) (v : Value) (W : World) (hs : tmps.getD s undef = .pointer (some ⟨b, 0, none⟩))
    (h1 : (loadVar ty ⟨b, 0, none⟩).run Try.prog W = .ok v W) : (results fn tmps).run Try.prog W = .ok v W := by
  simp only [Array.getD_eq_getD_getElem?] at hs
  simp [results, hf, hs, h1, asAddr]
def srcO (s : TSrc) : List Value := [.int .i64 s.k, .int .i64 s.vk, .int .i64 s.vn, .int .i64 s.n]
def vS (n : Int) : TSrc := ⟨1, 0, 0, n⟩
def loopT (n : Int) : Trc :=
  { key := ⟨0, 0, 0, 0, 0, 0, 0, 0, 0, 0⟩, fn := 0, pc := 0, ins := [0], ops := [⟨26, [], 0, 0, 0⟩, ⟨4, [vS 0, ⟨0, 0, 1, 0⟩], 1, 0, 0⟩], links := [⟨-1, 0, 0, 0, []⟩], virts := [], back := [vS n] }
def loopTV (b : Nat) (n : Int) : TV :=
  ⟨loopT n, ⟨some ⟨b + 1, 0, none⟩, 1⟩, ⟨some ⟨b + 1 + 1 + 1 + 1, 0, none⟩, 2⟩, ⟨some ⟨b + 1 + 1 + 1 + 1 + 1, 0, none⟩, 1⟩, ⟨none, 0⟩, ⟨some ⟨b + 1 + 1 + 1 + 1 + 1 + 1 + 1, 0, none⟩, 1⟩⟩
structure LoopAt (w : World) (b : Nat) (n : Int) : Prop where
  i : w.heap[b + 1]? = some (.cells #[.int .i64 0] 3 (0, 0))
  a : w.heap[b + 1 + 1 + 1]? = some (.cells #[.int .i64 1, .int .i64 0, .int .i64 0, .int .i64 0, .int .i64 0, .int .i64 0, .int .i64 1, .int .i64 0] 63 (0, 0))
  o : w.heap[b + 1 + 1 + 1 + 1]? = some (.cells #[.int .i64 26, .slice none 0 0, .int .i64 0, .int .i64 0, .int .i64 0, .int .i64 4, .slice (some ⟨b + 1 + 1 + 1, 0, none⟩) 2 2, .int .i64 1, .int .i64 0, .int .i64 0] 41 (0, 0))
  l : w.heap[b + 1 + 1 + 1 + 1 + 1]? = some (.cells #[.int .i64 (-1), .int .i64 0, .int .i64 0, .int .i64 0, .slice none 0 0] 66 (0, 0))
  k : w.heap[b + 1 + 1 + 1 + 1 + 1 + 1 + 1]? = some (.cells #[.int .i64 1, .int .i64 0, .int .i64 0, .int .i64 n] 63 (0, 0))
theorem LoopAt.below {w w' : World} {b : Nat} {n : Int} (h : LoopAt w b n) (hb : Below w.heap.size w w') : LoopAt w' b n where
  i := (hb.block _ (Array.getElem?_eq_some_iff.1 h.i).1).trans h.i
  a := (hb.block _ (Array.getElem?_eq_some_iff.1 h.a).1).trans h.a
  o := (hb.block _ (Array.getElem?_eq_some_iff.1 h.o).1).trans h.o
  l := (hb.block _ (Array.getElem?_eq_some_iff.1 h.l).1).trans h.l
  k := (hb.block _ (Array.getElem?_eq_some_iff.1 h.k).1).trans h.k
theorem rowAt_obj {α : Type} {R : World → α → List Value → Prop} {sz : Nat} {w : World} {b : Nat} {xs : List α} {t : TypeId} {fr : Nat × Nat} {cs : Array Value} (enc : Nat → List Value) (h : w.heap[b]? = some (.cells cs t fr))
    (hR : ∀ j x, xs[j]? = some x → R w x (enc j) ∧ (enc j).length = sz) (hc : ∀ j, j < xs.length → ∀ i v, (enc j)[i]? = some v → cs[j * sz + i]? = some v) : RowAt R sz w (some ⟨b, 0, none⟩) xs := by
  intro hl
  refine ⟨b, 0, rfl, (Array.getElem?_eq_some_iff.1 h).1, fun j x hj => ⟨enc j, (hR j x hj).1, (hR j x hj).2, fun i v hv => ?_⟩⟩
  rw [cell_of_row w b _ cs t fr h, Nat.zero_add]
  exact hc j (List.getElem?_eq_some_iff.1 hj).1 i v hv
theorem loop_ok {w : World} {b : Nat} {n : Int} (h : LoopAt w b n) : (loopTV b n).ok w := by
  have hsa : Sl SrcR 4 w (.slice (some ⟨b + 1 + 1 + 1, 0, none⟩) 2 2) [vS 0, ⟨0, 0, 1, 0⟩] := by
    refine ⟨_, _, rfl, by decide, by decide, by decide, rowAt_obj (fun j => srcO ([vS 0, ⟨0, 0, 1, 0⟩].getD j (vS 0))) h.a ?_ ?_⟩
    · rintro (_ | _ | j) x hx <;> simp at hx <;> subst hx <;> exact ⟨rfl, rfl⟩
    · rintro (_ | _ | j) hj (_ | _ | _ | _ | i) v hv <;> simp [srcO, vS] at hj hv ⊢ <;> first | exact hv | omega
  have hse : Sl SrcR 4 w (.slice none 0 0) [] := ⟨_, _, rfl, by decide, by decide, by decide, fun h => absurd h (by decide)⟩
  refine ⟨⟨by simp [loopTV, loopT] <;> decide, by simp [loopTV, loopT] <;> decide, by simp [loopTV, loopT] <;> decide, ?_⟩, ⟨by simp [loopTV, loopT] <;> decide, by simp [loopTV, loopT] <;> decide, by simp [loopTV, loopT] <;> decide, ?_⟩, ⟨by simp [loopTV, loopT] <;> decide, by simp [loopTV, loopT] <;> decide, by simp [loopTV, loopT] <;> decide, ?_⟩, ⟨by simp [loopTV, loopT] <;> decide, by simp [loopTV, loopT] <;> decide, by simp [loopTV, loopT] <;> decide, ?_⟩, ⟨by simp [loopTV, loopT] <;> decide, by simp [loopTV, loopT] <;> decide, by simp [loopTV, loopT] <;> decide, ?_⟩⟩
  · refine rowAt_obj (fun _ => [.int .i64 0]) h.i ?_ ?_
    · rintro (_ | j) x hx <;> simp [loopTV, loopT] at hx <;> subst hx <;> exact ⟨rfl, rfl⟩
    · rintro (_ | j) hj (_ | i) v hv <;> simp [loopTV, loopT] at hj hv ⊢ <;> first | exact hv | omega
  · refine rowAt_obj (fun j => if j = 0 then [.int .i64 26, .slice none 0 0, .int .i64 0, .int .i64 0, .int .i64 0] else [.int .i64 4, .slice (some ⟨b + 1 + 1 + 1, 0, none⟩) 2 2, .int .i64 1, .int .i64 0, .int .i64 0]) h.o ?_ ?_
    · rintro (_ | _ | j) x hx <;> simp [loopTV, loopT] at hx <;> subst hx
      · exact ⟨⟨_, rfl, hse⟩, rfl⟩
      · exact ⟨⟨_, rfl, hsa⟩, rfl⟩
    · rintro (_ | _ | j) hj (_ | _ | _ | _ | _ | i) v hv <;> simp [loopTV, loopT] at hj hv ⊢ <;> first | exact hv | omega
  · refine rowAt_obj (fun _ => [.int .i64 (-1), .int .i64 0, .int .i64 0, .int .i64 0, .slice none 0 0]) h.l ?_ ?_
    · rintro (_ | j) x hx <;> simp [loopTV, loopT] at hx <;> subst hx <;> exact ⟨⟨_, rfl, hse⟩, rfl⟩
    · rintro (_ | j) hj (_ | _ | _ | _ | _ | i) v hv <;> simp [loopTV, loopT] at hj hv ⊢ <;> first | exact hv | omega
  · intro h; simp [loopTV, loopT] at h
  · refine rowAt_obj (fun _ => srcO (vS n)) h.k ?_ ?_
    · rintro (_ | j) x hx <;> simp [loopTV, loopT] at hx <;> subst hx <;> exact ⟨rfl, rfl⟩
    · rintro (_ | j) hj (_ | _ | _ | _ | i) v hv <;> simp [loopTV, loopT, srcO, vS] at hj hv ⊢ <;> first | exact hv | omega
set_option maxRecDepth 100000 in
set_option maxHeartbeats 800000 in
theorem v_any (n : Int) (w : World) : Calls Try.prog 113 #[.int .i64 n] w fun e w' => e = .returned (.agg #[.int .i64 1, .int .i64 0, .int .i64 0, .int .i64 n]) ∧ w' = w.alloc (.cells #[.int .i64 1, .int .i64 0, .int .i64 0, .int .i64 n] 63) := by
  go_enter Try.func113, Try.ntmps113
  go_wp2_with fail
  refine bodyPost_ret (res_agg Try.f113 2 63 (by kernel_rfl) _ w.heap.size _ _ rfl (run_loadVar_at _ _ 63 [.int .i64 1, .int .i64 0, .int .i64 0, .int .i64 n] _ (At.of_obj (heap_alloc_last w _)) Try.underlying63 rfl (by kernel_rfl))) rfl ⟨rfl, rfl⟩
def allocL (w : World) (os : List Obj) : World := os.foldl World.alloc w
theorem allocL_size : ∀ (os : List Obj) (w : World), (allocL w os).heap.size = w.heap.size + os.length
  | [], w => rfl
  | o :: os, w => by
    show (allocL (w.alloc o) os).heap.size = _
    rw [allocL_size os, World.size_alloc, List.length_cons]
    omega
theorem allocL_below : ∀ (os : List Obj) (w : World), Below w.heap.size w (allocL w os)
  | [], w => Below.refl _ _
  | o :: os, w => (below_alloc (Below.refl _ _) o).trans ((allocL_below os (w.alloc o)).mono (by simp))
theorem allocL_heap : ∀ (os : List Obj) (w : World) (i : Nat) (o : Obj), os[i]? = some o → (allocL w os).heap[w.heap.size + i]? = some o
  | [], w, i, o, h => by simp at h
  | x :: os, w, 0, o, h => by
    simp at h
    subst h
    exact ((allocL_below os (w.alloc x)).block _ (by simp)).trans (heap_alloc_last w x)
  | x :: os, w, i + 1, o, h => by
    have := allocL_heap os (w.alloc x) i o (by simpa using h)
    rw [World.size_alloc, Nat.add_assoc, Nat.add_comm 1 i] at this
    exact this
set_option maxRecDepth 100000 in
set_option maxHeartbeats 1600000 in
theorem loop_any (w : World) : Calls Try.prog 62 #[] w fun e w' => e = .returned (.agg (loopTV w.heap.size 2).cells.toArray) ∧ LoopAt w' w.heap.size 2 ∧ Below w.heap.size w w' := by
  go_enter Try.func62, Try.ntmps62
  go_wp2_with (go_at_call 113; refine (v_any _ _).mono ?_; rintro e w' ⟨rfl, rfl⟩)
  refine (show bodyPost _ _ _ _ _ (allocL w [.cells (loopTV w.heap.size 2).cells.toArray 33, .cells #[.int .i64 0] 3, .cells #[.int .i64 1, .int .i64 0, .int .i64 0, .int .i64 0] 63,
    .cells #[.int .i64 1, .int .i64 0, .int .i64 0, .int .i64 0, .int .i64 0, .int .i64 0, .int .i64 1, .int .i64 0] 63,
    .cells #[.int .i64 26, .slice none 0 0, .int .i64 0, .int .i64 0, .int .i64 0, .int .i64 4, .slice (some ⟨w.heap.size + 1 + 1 + 1, 0, none⟩) 2 2, .int .i64 1, .int .i64 0, .int .i64 0] 41,
    .cells #[.int .i64 (-1), .int .i64 0, .int .i64 0, .int .i64 0, .slice none 0 0] 66, .cells #[.int .i64 1, .int .i64 0, .int .i64 0, .int .i64 2] 63, .cells #[.int .i64 1, .int .i64 0, .int .i64 0, .int .i64 2] 63]) from ?_)
  have hB := allocL_below [.cells (loopTV w.heap.size 2).cells.toArray 33, .cells #[.int .i64 0] 3, .cells #[.int .i64 1, .int .i64 0, .int .i64 0, .int .i64 0] 63,
    .cells #[.int .i64 1, .int .i64 0, .int .i64 0, .int .i64 0, .int .i64 0, .int .i64 0, .int .i64 1, .int .i64 0] 63,
    .cells #[.int .i64 26, .slice none 0 0, .int .i64 0, .int .i64 0, .int .i64 0, .int .i64 4, .slice (some ⟨w.heap.size + 1 + 1 + 1, 0, none⟩) 2 2, .int .i64 1, .int .i64 0, .int .i64 0] 41,
    .cells #[.int .i64 (-1), .int .i64 0, .int .i64 0, .int .i64 0, .slice none 0 0] 66, .cells #[.int .i64 1, .int .i64 0, .int .i64 0, .int .i64 2] 63, .cells #[.int .i64 1, .int .i64 0, .int .i64 0, .int .i64 2] 63] w
  have hh := allocL_heap [.cells (loopTV w.heap.size 2).cells.toArray 33, .cells #[.int .i64 0] 3, .cells #[.int .i64 1, .int .i64 0, .int .i64 0, .int .i64 0] 63,
    .cells #[.int .i64 1, .int .i64 0, .int .i64 0, .int .i64 0, .int .i64 0, .int .i64 0, .int .i64 1, .int .i64 0] 63,
    .cells #[.int .i64 26, .slice none 0 0, .int .i64 0, .int .i64 0, .int .i64 0, .int .i64 4, .slice (some ⟨w.heap.size + 1 + 1 + 1, 0, none⟩) 2 2, .int .i64 1, .int .i64 0, .int .i64 0] 41,
    .cells #[.int .i64 (-1), .int .i64 0, .int .i64 0, .int .i64 0, .slice none 0 0] 66, .cells #[.int .i64 1, .int .i64 0, .int .i64 0, .int .i64 2] 63, .cells #[.int .i64 1, .int .i64 0, .int .i64 0, .int .i64 2] 63] w
  have h0 := hh 0 _ rfl
  have hat : LoopAt _ w.heap.size 2 := ⟨hh 1 _ rfl, hh 3 _ rfl, hh 4 _ rfl, hh 5 _ rfl, hh 7 _ rfl⟩
  exact bodyPost_ret (res_agg Try.f62 0 33 (by kernel_rfl) _ w.heap.size _ _ rfl (run_loadVar_at _ _ 33 (loopTV w.heap.size 2).cells _ (At.of_obj h0) Try.underlying33 rfl info33)) rfl ⟨rfl, hat, hB⟩
end Go.Proofs.Ytjcfppbahalgbaa
