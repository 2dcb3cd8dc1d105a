/- Small words for a region that draws its order where a call in it may panic. -/
import Derived.Deep.RegionHeld
import Derived.WalkKit
namespace Go.Proofs.Ytjcfppbahalgbaa
set_option linter.unusedSimpArgs false
set_option linter.unusedVariables false
theorem op_at {l : List Oper} {i : Nat} {o : Oper} (h : l[i]? = some o) : l.toArray[i]? = some o := by rw [List.getElem?_toArray]; exact h
theorem put_nil {a : Act} {d : Option Tmp} {v : Value} (h : (a.put d v).defers = []) : a.defers = [] := by
  cases d <;> exact h
/-- A condition on the world, with the proof that the region's post does not hang on the frame's slots at a panic. -/
theorem drawn_begin {P : Program} {ops : Array Oper} {Q : Exit → Act → World → Prop} {id : Nat} {a : Act} {w : World} (S : World → Prop)
    (hs : ∀ (c : List PanicEntry) (a : Act) (d : Option Tmp) (v : Value) (w : World), Q (.panic c) (a.put d v) w → Q (.panic c) a w)
    (hm : P.follows .mixedOrders = true) (hS : S w.drew)
    (h : (∀ (c : List PanicEntry) (a : Act) (d : Option Tmp) (v : Value) (w : World), Q (.panic c) (a.put d v) w → Q (.panic c) a w) → S w.drew → wpAnyH P .any ops Q S ops.size (Array.replicate ops.size false) a w.drew) :
    (Code.region id ops true).wp P Q a w := wp_region_held_drew hm hS (h hs)
end Go.Proofs.Ytjcfppbahalgbaa
