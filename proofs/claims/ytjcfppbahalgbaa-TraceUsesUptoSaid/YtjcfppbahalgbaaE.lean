/- A row of whole numbers that the call owns, handed to the library's functions that work in place. -/
import Derived.Test.YtjcfppbahalgbaaC
import Derived.Sort.Row
namespace Go.Proofs.Ytjcfppbahalgbaa
open Go.RowKit
open Go.Sort (Holds putRow putCells mapBlock onCells)
open Go.Proofs.YtjcfppbahalgbaaW.PrintWords (QRow q_append q_drop q_cells q_of_own q_move q_lt q_typed q_slice)
def ints (l : List Int) : List Value := l.map (.int .i64)
def IntsQ (w : World) (base : Nat) (v : Value) (l : List Int) : Prop := QRow w base 3 1 v l.length (ints l)
theorem intsQ_nil (w : World) (base : Nat) : IntsQ w base (.slice none 0 0) [] := q_of_own (World.ownsRow_nil w base 3 1)
theorem q_below {w w1 : World} {base e size n : Nat} {v : Value} {xs : List Value} (h : QRow w base e size v n xs) (hb : Below w.heap.size w w1) : QRow w1 base e size v n xs :=
  q_move h fun k hk => hb.block k (q_lt h k hk)
/-- What is owned and not empty lies in a block. -/
theorem intsQ_form {w : World} {base : Nat} {v : Value} {l : List Int} (h : IntsQ w base v l) (h0 : 0 < l.length) :
    ∃ g off cap cur, v = .slice (some ⟨g, off, none⟩) l.length cap ∧ base ≤ g ∧ w.heap[g]? = some (.cells cur 3 (0, 0)) ∧ l.length ≤ cap ∧ off + cap ≤ maxLen ∧ cur.size = off + cap ∧ (cur.toList.drop off).take l.length = ints l := by
  rcases h.2 with ⟨h1, _⟩ | ⟨g, off, cap, cur, hv, hg, hh, hnc, hm, hcs, ht⟩
  · omega
  · simp only [Nat.mul_one] at hv hcs ht
    exact ⟨g, off, cap, cur, hv, hg, hh, hnc, hm, hcs, ht⟩
theorem intsQ_holds {w : World} {l : List Int} {g off : Nat} {cur : Array Value} (hh : w.heap[g]? = some (.cells cur 3 (0, 0))) (ht : (cur.toList.drop off).take l.length = ints l) : Holds (Value.int .i64) w g off l.toArray := by
  intro j hj
  have hj' : j < l.length := by simpa using hj
  have h1 : (ints l)[j]? = some (.int .i64 l[j]) := by simp [ints, hj']
  rw [← ht, List.getElem?_take, if_pos hj', List.getElem?_drop] at h1
  refine ⟨?_, by simp [World.frozen?, hh]⟩
  rw [cell_of_row w g _ cur 3 (0, 0) hh, ← Array.getElem?_toList, h1]
  simp [hj']
theorem heap_mapBlock_same {w : World} {g : Nat} {cur : Array Value} {t : TypeId} {fr : Nat × Nat} (f : Array Value → Array Value) (hh : w.heap[g]? = some (.cells cur t fr)) : (mapBlock w g f).heap[g]? = some (.cells (f cur) t fr) := by
  simp [mapBlock, Array.getElem?_modify, hh, onCells]
theorem heap_mapBlock_other (w : World) (g k : Nat) (f : Array Value → Array Value) (hk : k ≠ g) : (mapBlock w g f).heap[k]? = w.heap[k]? := by
  simp [mapBlock, Array.getElem?_modify, Ne.symm hk]
theorem below_mapBlock {B : Nat} {a w : World} (h : Below B a w) {g : Nat} (hg : B ≤ g) (f : Array Value → Array Value) : Below B a (mapBlock w g f) :=
  h.trans ⟨rfl, rfl, rfl, by simp [mapBlock], fun k hk => heap_mapBlock_other w g k f (by omega)⟩
theorem below_ahead {B : Nat} {a w : World} (h : Below B a w) (n : Nat) : Below B a (Sort.ahead w n) := ⟨h.os, h.tape, h.output, h.size, h.block⟩
theorem putCells_ints (l : List Int) (off : Nat) (cur : Array Value) (hs : off + l.length ≤ cur.size) : ((putCells (Value.int .i64) off l.toArray cur).toList.drop off).take l.length = ints l := by
  apply List.ext_getElem?
  intro j
  rw [List.getElem?_take]
  by_cases hj : j < l.length
  · rw [if_pos hj, List.getElem?_drop, Array.getElem?_toList]
    simp only [putCells, Array.getElem?_mapIdx]
    rw [Array.getElem?_eq_getElem (by omega), Option.map_some, if_pos ⟨by omega, by simpa using hj⟩]
    simp [ints, hj]
  · rw [if_neg hj]
    simp [ints, hj]
theorem putCells_size (enc : Int → Value) (l : List Int) (off : Nat) (cur : Array Value) : (putCells enc off l.toArray cur).size = cur.size := by simp [putCells]
/-- The row holds another list of the same length then. -/
theorem intsQ_put {w : World} {base : Nat} {l l' : List Int} {g off cap : Nat} {cur : Array Value} (hg : base ≤ g) (hh : w.heap[g]? = some (.cells cur 3 (0, 0))) (hnc : l.length ≤ cap) (hm : off + cap ≤ maxLen) (hcs : cur.size = off + cap)
    (hl : l'.length = l.length) (n : Nat) : IntsQ (putRow (Value.int .i64) (Sort.ahead w n) g off l'.toArray) base (.slice (some ⟨g, off, none⟩) l.length cap) l' := by
  refine ⟨by simp [ints], .inr ⟨g, off, cap, putCells (Value.int .i64) off l'.toArray cur, by rw [Nat.mul_one, hl], hg, heap_mapBlock_same (w := Sort.ahead w n) _ hh, by omega, hm, by rw [putCells_size, hcs, Nat.mul_one], ?_⟩⟩
  rw [Nat.mul_one, Nat.mul_one]
  exact putCells_ints l' off cur (by omega)
end Go.Proofs.Ytjcfppbahalgbaa
