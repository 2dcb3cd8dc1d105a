/- What the rows over traces share: a trace argument of small bulk, opened. -/
import Derived.Test.YtjcfppbahalgbaaY
import Derived.Below
import Derived.JoinedCond
namespace Go.Proofs.Ytjcfppbahalgbaa
open Go.ChangeShapes Go.WideShapes Go.ChangeAt Go.RowKit
set_option linter.unusedVariables false
theorem own : ownKnob Try.prog.godebug = none := by kernel_rfl
theorem laidOut : laidOutB Try.prog = true := by kernel_rfl
set_option maxRecDepth 10000 in
theorem small_all {H : Type} {l : List (DataW H)} (hk : Rows.uptoSmall H l = true) : Rows.uptoBulkAll l ≤ 1048576 := by
  unfold Rows.uptoSmall at hk
  exact of_decide_eq_true hk
theorem small_mem {H : Type} {l : List (DataW H)} {d : DataW H} (hk : Rows.uptoSmall H l = true) (hd : d ∈ l) : Rows.uptoBulk d ≤ 1048576 := by
  have h1 := bulk_part hd
  have h2 := small_all hk
  generalize Rows.uptoBulk d = a at *
  generalize Rows.uptoBulkAll l = b at *
  omega
theorem open_trc {H : Type} {enc : TypeId × Value → H} {W : World} {sp : Nat → Bool} {held : Bool} {cs : Array Value} {d : DataW H} {p : List MemPlace}
    (h : DataW.Trod enc Try.prog W 0 sp held 33 (.agg cs) d p) (hb : Rows.uptoBulk d ≤ 1048576) : ∃ T : TV, cs = T.cells.toArray ∧ T.ok W ∧ Nums T.t := by
  obtain ⟨fuel, hf⟩ := h
  obtain ⟨-, T, hcs, hT, hn⟩ := opens_trc (enc := enc) (W := W) (sp := sp) (held := held) fuel _ (d, p) hf hb
  refine ⟨T, ?_, hT, hn⟩
  rw [← hcs]
  simp [Value.cells]
def zero : Value := .agg #[.int .i64 0, .int .i64 0, .int .i64 0, .int .i64 0, .int .i64 0, .int .i64 0, .int .i64 0, .int .i64 0, .int .i64 0, .int .i64 0, .int .i64 0, .int .i64 0, .slice none 0 0, .slice none 0 0, .slice none 0 0, .slice none 0 0, .slice none 0 0]
def zeroD (H : Type) : DataW H :=
  let n : DataW H := .lit (.int .i64 0)
  .agg [.agg [n, n, .agg [.agg [n, n], .agg [n, n], .agg [n, n], .agg [n, n]]], n, n, .nil, .nil, .nil, .nil, .nil]
end Go.Proofs.Ytjcfppbahalgbaa
