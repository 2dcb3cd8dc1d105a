/-
  No cell of these rows narrows 'for every input' (looked for: loops, veiled, ifaces, maps, wideKeys, modest, calm, conditions, laid).
  DERIVED. THE GIVEN ROWS OF THIS SEAT. 9 by the template 'for every input the law returns true; each argument reads behind the call as it read before'; 0 by the template 'total and deterministic' (their statements: YtjcfppbahalgbaaTotals.lean).
  GIVEN WITH THE SEED: the statements are not yours to turn. If you find one false, say at which input.
  Laid BY PROGRAM, IN A SANDBOX (cutbox-rows.mjs): the forced cells as the released guide's own fill.sh prints them over the translation 2a8d1a28269f3600… (all of the seat's roots in one cut). By AI agents, Wed Nov 11 2026. No macro, syntax, notation, axiom, sorry.
-/
import Derived.Test.YtjcfppbahalgbaaChecked
import GoSem.Claim
import GoSem.ClaimJoined
import GoSem.ClaimMapViews
import Derived.JoinedTies
import Derived.KernelRfl
namespace Go.Proofs.Ytjcfppbahalgbaa
/- THE CELL 'sum', in the pinned program and in every row, IS THE sha256 OF THE DUMP (.gsa) THAT YtjcfppbahalgbaaProg.lean LOADS. Nothing in Lean hashes anything: it is a label: what it is worth is what the hold of that sum in a sandbox is worth. -/
noncomputable def Try.pinned : Pinned := { name := "ytjcfppbahalgbaa", sum := "2a8d1a28269f3600d34d13264038553d675196f5cea706f92e5331573fe515ea", checked := Try.checked }
namespace Rows
def none {H : Type} : Left H := { results := [], args := [] }

/-- 'swathlaw19.FoldLeft': WHATEVER THE INPUT: true; the input reads as it did. -/
def foldLeftSpec : ChangeSpec := { name := "foldLeft", fn := fun _ => fun
  | [d1, d2] => { results := [.lit (.bool true)], args := [d1, d2] }
  | _ => none }
def foldLeftRow : OpenClaim := { program := "ytjcfppbahalgbaa", sum := "2a8d1a28269f3600d34d13264038553d675196f5cea706f92e5331573fe515ea", func := "swath/swathlaw19.FoldLeft", spec := "foldLeft", unfollowed := true, recurses := true, apart := false }
def FoldLeftSaid : Prop := foldLeftRow.holds Try.pinned (OpenSpec.ofChange foldLeftSpec)

/-- ITS FALSE NEIGHBOUR: 'it returns false'. Refute it at one input. -/
def foldLeftWrong : ChangeSpec := { name := "foldLeft", fn := fun _ => fun
  | [d1, d2] => { results := [.lit (.bool false)], args := [d1, d2] }
  | _ => none }
def FoldLeftWrongFalsely : Prop := foldLeftRow.holds Try.pinned (OpenSpec.ofChange foldLeftWrong)

/-- 'swathlaw23.VirtLeft': WHATEVER THE INPUT: true; the input reads as it did. -/
def virtLeftSpec : ChangeSpec := { name := "virtLeft", fn := fun _ => fun
  | [d] => { results := [.lit (.bool true)], args := [d] }
  | _ => none }
def virtLeftRow : OpenClaim := { program := "ytjcfppbahalgbaa", sum := "2a8d1a28269f3600d34d13264038553d675196f5cea706f92e5331573fe515ea", func := "swath/swathlaw23.VirtLeft", spec := "virtLeft", unfollowed := true, recurses := true, apart := false }
def VirtLeftSaid : Prop := virtLeftRow.holds Try.pinned (OpenSpec.ofChange virtLeftSpec)

/-- ITS FALSE NEIGHBOUR: 'it returns false'. Refute it at one input. -/
def virtLeftWrong : ChangeSpec := { name := "virtLeft", fn := fun _ => fun
  | [d] => { results := [.lit (.bool false)], args := [d] }
  | _ => none }
def VirtLeftWrongFalsely : Prop := virtLeftRow.holds Try.pinned (OpenSpec.ofChange virtLeftWrong)

/-- 'swathlaw23.VirtNeeded': WHATEVER THE INPUT: true; the input reads as it did. -/
def virtNeededSpec : ChangeSpec := { name := "virtNeeded", fn := fun _ => fun
  | [d] => { results := [.lit (.bool true)], args := [d] }
  | _ => none }
def virtNeededRow : OpenClaim := { program := "ytjcfppbahalgbaa", sum := "2a8d1a28269f3600d34d13264038553d675196f5cea706f92e5331573fe515ea", func := "swath/swathlaw23.VirtNeeded", spec := "virtNeeded", unfollowed := true, recurses := true, apart := false }
def VirtNeededSaid : Prop := virtNeededRow.holds Try.pinned (OpenSpec.ofChange virtNeededSpec)

/-- ITS FALSE NEIGHBOUR: 'it returns false'. Refute it at one input. -/
def virtNeededWrong : ChangeSpec := { name := "virtNeeded", fn := fun _ => fun
  | [d] => { results := [.lit (.bool false)], args := [d] }
  | _ => none }
def VirtNeededWrongFalsely : Prop := virtNeededRow.holds Try.pinned (OpenSpec.ofChange virtNeededWrong)

/-- 'swathlaw20.GuardsFacts': WHATEVER THE INPUT: true; the input reads as it did. -/
def guardsFactsSpec : ChangeSpec := { name := "guardsFacts", fn := fun _ => fun
  | [d1, d2] => { results := [.lit (.bool true)], args := [d1, d2] }
  | _ => none }
def guardsFactsRow : OpenClaim := { program := "ytjcfppbahalgbaa", sum := "2a8d1a28269f3600d34d13264038553d675196f5cea706f92e5331573fe515ea", func := "swath/swathlaw20.GuardsFacts", spec := "guardsFacts", unfollowed := true, recurses := true, apart := false }
def GuardsFactsSaid : Prop := guardsFactsRow.holds Try.pinned (OpenSpec.ofChange guardsFactsSpec)

/-- ITS FALSE NEIGHBOUR: 'it returns false'. Refute it at one input. -/
def guardsFactsWrong : ChangeSpec := { name := "guardsFacts", fn := fun _ => fun
  | [d1, d2] => { results := [.lit (.bool false)], args := [d1, d2] }
  | _ => none }
def GuardsFactsWrongFalsely : Prop := guardsFactsRow.holds Try.pinned (OpenSpec.ofChange guardsFactsWrong)

/-- 'swathlaw20.GuardsTwice': WHATEVER THE INPUT: true; the input reads as it did. -/
def guardsTwiceSpec : ChangeSpec := { name := "guardsTwice", fn := fun _ => fun
  | [d] => { results := [.lit (.bool true)], args := [d] }
  | _ => none }
def guardsTwiceRow : OpenClaim := { program := "ytjcfppbahalgbaa", sum := "2a8d1a28269f3600d34d13264038553d675196f5cea706f92e5331573fe515ea", func := "swath/swathlaw20.GuardsTwice", spec := "guardsTwice", unfollowed := true, recurses := true, apart := false }
def GuardsTwiceSaid : Prop := guardsTwiceRow.holds Try.pinned (OpenSpec.ofChange guardsTwiceSpec)

/-- ITS FALSE NEIGHBOUR: 'it returns false'. Refute it at one input. -/
def guardsTwiceWrong : ChangeSpec := { name := "guardsTwice", fn := fun _ => fun
  | [d] => { results := [.lit (.bool false)], args := [d] }
  | _ => none }
def GuardsTwiceWrongFalsely : Prop := guardsTwiceRow.holds Try.pinned (OpenSpec.ofChange guardsTwiceWrong)

/-- 'swathlaw16.TraceKinds': WHATEVER THE INPUT: true; the input reads as it did. -/
def traceKindsSpec : ChangeSpec := { name := "traceKinds", fn := fun _ => fun
  | [d] => { results := [.lit (.bool true)], args := [d] }
  | _ => none }
def traceKindsRow : OpenClaim := { program := "ytjcfppbahalgbaa", sum := "2a8d1a28269f3600d34d13264038553d675196f5cea706f92e5331573fe515ea", func := "swath/swathlaw16.TraceKinds", spec := "traceKinds", unfollowed := true, recurses := true, apart := false }
def TraceKindsSaid : Prop := traceKindsRow.holds Try.pinned (OpenSpec.ofChange traceKindsSpec)

/-- ITS FALSE NEIGHBOUR: 'it returns false'. Refute it at one input. -/
def traceKindsWrong : ChangeSpec := { name := "traceKinds", fn := fun _ => fun
  | [d] => { results := [.lit (.bool false)], args := [d] }
  | _ => none }
def TraceKindsWrongFalsely : Prop := traceKindsRow.holds Try.pinned (OpenSpec.ofChange traceKindsWrong)

/-- 'swathlaw16.TraceUses': WHATEVER THE INPUT: true; the input reads as it did. -/
def traceUsesSpec : ChangeSpec := { name := "traceUses", fn := fun _ => fun
  | [d1, d2] => { results := [.lit (.bool true)], args := [d1, d2] }
  | _ => none }
def traceUsesRow : OpenClaim := { program := "ytjcfppbahalgbaa", sum := "2a8d1a28269f3600d34d13264038553d675196f5cea706f92e5331573fe515ea", func := "swath/swathlaw16.TraceUses", spec := "traceUses", unfollowed := true, recurses := true, apart := false }
def TraceUsesSaid : Prop := traceUsesRow.holds Try.pinned (OpenSpec.ofChange traceUsesSpec)

/-- ITS FALSE NEIGHBOUR: 'it returns false'. Refute it at one input. -/
def traceUsesWrong : ChangeSpec := { name := "traceUses", fn := fun _ => fun
  | [d1, d2] => { results := [.lit (.bool false)], args := [d1, d2] }
  | _ => none }
def TraceUsesWrongFalsely : Prop := traceUsesRow.holds Try.pinned (OpenSpec.ofChange traceUsesWrong)

/-- 'swathlaw16.TraceFirst': WHATEVER THE INPUT: true; the input reads as it did. -/
def traceFirstSpec : ChangeSpec := { name := "traceFirst", fn := fun _ => fun
  | [d] => { results := [.lit (.bool true)], args := [d] }
  | _ => none }
def traceFirstRow : OpenClaim := { program := "ytjcfppbahalgbaa", sum := "2a8d1a28269f3600d34d13264038553d675196f5cea706f92e5331573fe515ea", func := "swath/swathlaw16.TraceFirst", spec := "traceFirst", unfollowed := true, recurses := true, apart := false }
def TraceFirstSaid : Prop := traceFirstRow.holds Try.pinned (OpenSpec.ofChange traceFirstSpec)

/-- ITS FALSE NEIGHBOUR: 'it returns false'. Refute it at one input. -/
def traceFirstWrong : ChangeSpec := { name := "traceFirst", fn := fun _ => fun
  | [d] => { results := [.lit (.bool false)], args := [d] }
  | _ => none }
def TraceFirstWrongFalsely : Prop := traceFirstRow.holds Try.pinned (OpenSpec.ofChange traceFirstWrong)

/-- 'swathlaw16.TraceSame': WHATEVER THE INPUT: true; the input reads as it did. -/
def traceSameSpec : ChangeSpec := { name := "traceSame", fn := fun _ => fun
  | [d1, d2] => { results := [.lit (.bool true)], args := [d1, d2] }
  | _ => none }
def traceSameRow : OpenClaim := { program := "ytjcfppbahalgbaa", sum := "2a8d1a28269f3600d34d13264038553d675196f5cea706f92e5331573fe515ea", func := "swath/swathlaw16.TraceSame", spec := "traceSame", unfollowed := true, recurses := true, apart := false }
def TraceSameSaid : Prop := traceSameRow.holds Try.pinned (OpenSpec.ofChange traceSameSpec)

/-- ITS FALSE NEIGHBOUR: 'it returns false'. Refute it at one input. -/
def traceSameWrong : ChangeSpec := { name := "traceSame", fn := fun _ => fun
  | [d1, d2] => { results := [.lit (.bool false)], args := [d1, d2] }
  | _ => none }
def TraceSameWrongFalsely : Prop := traceSameRow.holds Try.pinned (OpenSpec.ofChange traceSameWrong)

/- THE SECOND FORM. 'bulk': how many values and letters a reading holds, each counted each time it is reached (what is shared counts as often as it is met; a slice's spare places count too). A statement '..UptoSaid' is the law's where the arguments, and the package variables that the reading takes, are together of bulk at most 1048576: NARROWER than '..Said'. Prove '..Said' where nothing that the law and all that it calls make is longer than what came in: it says more and counts as full. Else prove '..UptoSaid'. A law counts once. -/
mutual
def uptoBulk {H : Type} : DataW H → Nat
  | .lit (.string bytes) => bytes.length + 1
  | .lit _ => 1
  | .nil => 1
  | .ptr d => uptoBulk d + 1
  | .slice elems spare => uptoBulkAll elems + uptoBulkAll spare + 1
  | .agg parts => uptoBulkAll parts + 1
  | .iface _ d => uptoBulk d + 1
  | .map entries => uptoBulkEntries entries + 1
  | .held _ => 1
def uptoBulkAll {H : Type} : List (DataW H) → Nat
  | [] => 0
  | d :: r => uptoBulk d + uptoBulkAll r
def uptoBulkEntries {H : Type} : List (Lit × DataW H) → Nat
  | [] => 0
  | x :: r => uptoBulkEntry x + uptoBulkEntries r
def uptoBulkEntry {H : Type} : Lit × DataW H → Nat
  | (.string bytes, d) => bytes.length + uptoBulk d + 1
  | (_, d) => uptoBulk d + 1
 end
def uptoSmall : (H : Type) → List (DataW H) → Bool := fun _ ds => decide (uptoBulkAll ds ≤ 1048576)
def OpenSpec.upto (s : _root_.Go.ChangeSpec) : _root_.Go.OpenSpec := { _root_.Go.OpenSpec.ofChange s with cond := some uptoSmall }

/-- 'swathlaw19.FoldLeft', WHERE WHAT IT READS IS OF BULK AT MOST 1048576: true; the input reads as it did. -/
def foldLeftUptoRow : OpenClaim := { program := "ytjcfppbahalgbaa", sum := "2a8d1a28269f3600d34d13264038553d675196f5cea706f92e5331573fe515ea", func := "swath/swathlaw19.FoldLeft", spec := "foldLeft", unfollowed := true, recurses := true, apart := false, narrowed := true }
def FoldLeftUptoSaid : Prop := foldLeftUptoRow.holds Try.pinned (OpenSpec.upto foldLeftSpec)

/-- 'swathlaw23.VirtLeft', WHERE WHAT IT READS IS OF BULK AT MOST 1048576: true; the input reads as it did. -/
def virtLeftUptoRow : OpenClaim := { program := "ytjcfppbahalgbaa", sum := "2a8d1a28269f3600d34d13264038553d675196f5cea706f92e5331573fe515ea", func := "swath/swathlaw23.VirtLeft", spec := "virtLeft", unfollowed := true, recurses := true, apart := false, narrowed := true }
def VirtLeftUptoSaid : Prop := virtLeftUptoRow.holds Try.pinned (OpenSpec.upto virtLeftSpec)

/-- 'swathlaw23.VirtNeeded', WHERE WHAT IT READS IS OF BULK AT MOST 1048576: true; the input reads as it did. -/
def virtNeededUptoRow : OpenClaim := { program := "ytjcfppbahalgbaa", sum := "2a8d1a28269f3600d34d13264038553d675196f5cea706f92e5331573fe515ea", func := "swath/swathlaw23.VirtNeeded", spec := "virtNeeded", unfollowed := true, recurses := true, apart := false, narrowed := true }
def VirtNeededUptoSaid : Prop := virtNeededUptoRow.holds Try.pinned (OpenSpec.upto virtNeededSpec)

/-- 'swathlaw20.GuardsFacts', WHERE WHAT IT READS IS OF BULK AT MOST 1048576: true; the input reads as it did. -/
def guardsFactsUptoRow : OpenClaim := { program := "ytjcfppbahalgbaa", sum := "2a8d1a28269f3600d34d13264038553d675196f5cea706f92e5331573fe515ea", func := "swath/swathlaw20.GuardsFacts", spec := "guardsFacts", unfollowed := true, recurses := true, apart := false, narrowed := true }
def GuardsFactsUptoSaid : Prop := guardsFactsUptoRow.holds Try.pinned (OpenSpec.upto guardsFactsSpec)

/-- 'swathlaw20.GuardsTwice', WHERE WHAT IT READS IS OF BULK AT MOST 1048576: true; the input reads as it did. -/
def guardsTwiceUptoRow : OpenClaim := { program := "ytjcfppbahalgbaa", sum := "2a8d1a28269f3600d34d13264038553d675196f5cea706f92e5331573fe515ea", func := "swath/swathlaw20.GuardsTwice", spec := "guardsTwice", unfollowed := true, recurses := true, apart := false, narrowed := true }
def GuardsTwiceUptoSaid : Prop := guardsTwiceUptoRow.holds Try.pinned (OpenSpec.upto guardsTwiceSpec)

/-- 'swathlaw16.TraceKinds', WHERE WHAT IT READS IS OF BULK AT MOST 1048576: true; the input reads as it did. -/
def traceKindsUptoRow : OpenClaim := { program := "ytjcfppbahalgbaa", sum := "2a8d1a28269f3600d34d13264038553d675196f5cea706f92e5331573fe515ea", func := "swath/swathlaw16.TraceKinds", spec := "traceKinds", unfollowed := true, recurses := true, apart := false, narrowed := true }
def TraceKindsUptoSaid : Prop := traceKindsUptoRow.holds Try.pinned (OpenSpec.upto traceKindsSpec)

/-- 'swathlaw16.TraceUses', WHERE WHAT IT READS IS OF BULK AT MOST 1048576: true; the input reads as it did. -/
def traceUsesUptoRow : OpenClaim := { program := "ytjcfppbahalgbaa", sum := "2a8d1a28269f3600d34d13264038553d675196f5cea706f92e5331573fe515ea", func := "swath/swathlaw16.TraceUses", spec := "traceUses", unfollowed := true, recurses := true, apart := false, narrowed := true }
def TraceUsesUptoSaid : Prop := traceUsesUptoRow.holds Try.pinned (OpenSpec.upto traceUsesSpec)

/-- 'swathlaw16.TraceFirst', WHERE WHAT IT READS IS OF BULK AT MOST 1048576: true; the input reads as it did. -/
def traceFirstUptoRow : OpenClaim := { program := "ytjcfppbahalgbaa", sum := "2a8d1a28269f3600d34d13264038553d675196f5cea706f92e5331573fe515ea", func := "swath/swathlaw16.TraceFirst", spec := "traceFirst", unfollowed := true, recurses := true, apart := false, narrowed := true }
def TraceFirstUptoSaid : Prop := traceFirstUptoRow.holds Try.pinned (OpenSpec.upto traceFirstSpec)

/-- 'swathlaw16.TraceSame', WHERE WHAT IT READS IS OF BULK AT MOST 1048576: true; the input reads as it did. -/
def traceSameUptoRow : OpenClaim := { program := "ytjcfppbahalgbaa", sum := "2a8d1a28269f3600d34d13264038553d675196f5cea706f92e5331573fe515ea", func := "swath/swathlaw16.TraceSame", spec := "traceSame", unfollowed := true, recurses := true, apart := false, narrowed := true }
def TraceSameUptoSaid : Prop := traceSameUptoRow.holds Try.pinned (OpenSpec.upto traceSameSpec)

end Rows
end Go.Proofs.Ytjcfppbahalgbaa
