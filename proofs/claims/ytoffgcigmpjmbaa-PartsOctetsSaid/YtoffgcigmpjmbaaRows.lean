/-
  No cell of these rows narrows 'for every input' (looked for: loops, veiled, ifaces, maps, wideKeys, modest, calm, conditions, laid).
  DERIVED. THE GIVEN ROWS OF THIS SEAT. 7 by the template 'for every input the law returns true; each argument reads behind the call as it read before'; 0 by the template 'total and deterministic' (their statements: YtoffgcigmpjmbaaTotals.lean).
  GIVEN WITH THE SEED: the statements are not yours to turn. If you find one false, say at which input.
  Laid BY PROGRAM, IN A SANDBOX (cutbox-rows.mjs): the forced cells as the released guide's own fill.sh prints them over the translation 74cbccbefc3a692d… (all of the seat's roots in one cut). By AI agents, Wed Nov 11 2026. No macro, syntax, notation, axiom, sorry.
-/
import Derived.Test.YtoffgcigmpjmbaaChecked
import GoSem.Claim
import GoSem.ClaimJoined
import GoSem.ClaimMapViews
import Derived.JoinedTies
import Derived.KernelRfl
namespace Go.Proofs.Ytoffgcigmpjmbaa
/- THE CELL 'sum', in the pinned program and in every row, IS THE sha256 OF THE DUMP (.gsa) THAT YtoffgcigmpjmbaaProg.lean LOADS. Nothing in Lean hashes anything: it is a label: what it is worth is what the hold of that sum in a sandbox is worth. -/
noncomputable def Try.pinned : Pinned := { name := "ytoffgcigmpjmbaa", sum := "74cbccbefc3a692d834f16efd13c693af8350f8d0bc254f7cf6a8a5e858cb6ec", checked := Try.checked }
namespace Rows
def none {H : Type} : Left H := { results := [], args := [] }

/-- 'emulatortop.PartsOctets': WHATEVER THE INPUT: true; the input reads as it did. -/
def partsOctetsSpec : ChangeSpec := { name := "partsOctets", fn := fun _ => fun
  | [d1, d2, d3, d4, d5, d6] => { results := [.lit (.bool true)], args := [d1, d2, d3, d4, d5, d6] }
  | _ => none }
def partsOctetsRow : OpenClaim := { program := "ytoffgcigmpjmbaa", sum := "74cbccbefc3a692d834f16efd13c693af8350f8d0bc254f7cf6a8a5e858cb6ec", func := "emulator/emulatortop.PartsOctets", spec := "partsOctets", apart := false }
def PartsOctetsSaid : Prop := partsOctetsRow.holds Try.pinned (OpenSpec.ofChange partsOctetsSpec)

/-- ITS FALSE NEIGHBOUR: 'it returns false'. Refute it at one input. -/
def partsOctetsWrong : ChangeSpec := { name := "partsOctets", fn := fun _ => fun
  | [d1, d2, d3, d4, d5, d6] => { results := [.lit (.bool false)], args := [d1, d2, d3, d4, d5, d6] }
  | _ => none }
def PartsOctetsWrongFalsely : Prop := partsOctetsRow.holds Try.pinned (OpenSpec.ofChange partsOctetsWrong)

/-- 'emulatortop.PartsTurns': WHATEVER THE INPUT: true; the input reads as it did. -/
def partsTurnsSpec : ChangeSpec := { name := "partsTurns", fn := fun _ => fun
  | [d] => { results := [.lit (.bool true)], args := [d] }
  | _ => none }
def partsTurnsRow : OpenClaim := { program := "ytoffgcigmpjmbaa", sum := "74cbccbefc3a692d834f16efd13c693af8350f8d0bc254f7cf6a8a5e858cb6ec", func := "emulator/emulatortop.PartsTurns", spec := "partsTurns", unfollowed := true, recurses := true, apart := false }
def PartsTurnsSaid : Prop := partsTurnsRow.holds Try.pinned (OpenSpec.ofChange partsTurnsSpec)

/-- ITS FALSE NEIGHBOUR: 'it returns false'. Refute it at one input. -/
def partsTurnsWrong : ChangeSpec := { name := "partsTurns", fn := fun _ => fun
  | [d] => { results := [.lit (.bool false)], args := [d] }
  | _ => none }
def PartsTurnsWrongFalsely : Prop := partsTurnsRow.holds Try.pinned (OpenSpec.ofChange partsTurnsWrong)

/-- 'emulatortop.PartsLines': WHATEVER THE INPUT: true; the input reads as it did. -/
def partsLinesSpec : ChangeSpec := { name := "partsLines", fn := fun _ => fun
  | [d1, d2] => { results := [.lit (.bool true)], args := [d1, d2] }
  | _ => none }
def partsLinesRow : OpenClaim := { program := "ytoffgcigmpjmbaa", sum := "74cbccbefc3a692d834f16efd13c693af8350f8d0bc254f7cf6a8a5e858cb6ec", func := "emulator/emulatortop.PartsLines", spec := "partsLines", unfollowed := true, recurses := true, apart := false }
def PartsLinesSaid : Prop := partsLinesRow.holds Try.pinned (OpenSpec.ofChange partsLinesSpec)

/-- ITS FALSE NEIGHBOUR: 'it returns false'. Refute it at one input. -/
def partsLinesWrong : ChangeSpec := { name := "partsLines", fn := fun _ => fun
  | [d1, d2] => { results := [.lit (.bool false)], args := [d1, d2] }
  | _ => none }
def PartsLinesWrongFalsely : Prop := partsLinesRow.holds Try.pinned (OpenSpec.ofChange partsLinesWrong)

/-- 'emulatortop.PartsTapes': WHATEVER THE INPUT: true; the input reads as it did. -/
def partsTapesSpec : ChangeSpec := { name := "partsTapes", fn := fun _ => fun
  | [d1, d2] => { results := [.lit (.bool true)], args := [d1, d2] }
  | _ => none }
def partsTapesRow : OpenClaim := { program := "ytoffgcigmpjmbaa", sum := "74cbccbefc3a692d834f16efd13c693af8350f8d0bc254f7cf6a8a5e858cb6ec", func := "emulator/emulatortop.PartsTapes", spec := "partsTapes", inPlace := ["internal/abi.NoEscape", "internal/bytealg.MakeNoZero"], unfollowed := true, recurses := true, apart := false }
def PartsTapesSaid : Prop := partsTapesRow.holds Try.pinned (OpenSpec.ofChange partsTapesSpec)

/-- ITS FALSE NEIGHBOUR: 'it returns false'. Refute it at one input. -/
def partsTapesWrong : ChangeSpec := { name := "partsTapes", fn := fun _ => fun
  | [d1, d2] => { results := [.lit (.bool false)], args := [d1, d2] }
  | _ => none }
def PartsTapesWrongFalsely : Prop := partsTapesRow.holds Try.pinned (OpenSpec.ofChange partsTapesWrong)

/-- 'emulatortop.PartsKeys': WHATEVER THE INPUT: true; the input reads as it did. -/
def partsKeysSpec : ChangeSpec := { name := "partsKeys", fn := fun _ => fun
  | [d] => { results := [.lit (.bool true)], args := [d] }
  | _ => none }
def partsKeysRow : OpenClaim := { program := "ytoffgcigmpjmbaa", sum := "74cbccbefc3a692d834f16efd13c693af8350f8d0bc254f7cf6a8a5e858cb6ec", func := "emulator/emulatortop.PartsKeys", spec := "partsKeys", inPlace := ["slices.overlaps[string]", "internal/abi.NoEscape", "internal/bytealg.MakeNoZero"], unfollowed := true, recurses := true, apart := false }
def PartsKeysSaid : Prop := partsKeysRow.holds Try.pinned (OpenSpec.ofChange partsKeysSpec)

/-- ITS FALSE NEIGHBOUR: 'it returns false'. Refute it at one input. -/
def partsKeysWrong : ChangeSpec := { name := "partsKeys", fn := fun _ => fun
  | [d] => { results := [.lit (.bool false)], args := [d] }
  | _ => none }
def PartsKeysWrongFalsely : Prop := partsKeysRow.holds Try.pinned (OpenSpec.ofChange partsKeysWrong)

/-- 'emulatortop.PartsDrives': WHATEVER THE INPUT: true; the input reads as it did. -/
def partsDrivesSpec : ChangeSpec := { name := "partsDrives", fn := fun _ => fun
  | [d1, d2] => { results := [.lit (.bool true)], args := [d1, d2] }
  | _ => none }
def partsDrivesRow : OpenClaim := { program := "ytoffgcigmpjmbaa", sum := "74cbccbefc3a692d834f16efd13c693af8350f8d0bc254f7cf6a8a5e858cb6ec", func := "emulator/emulatortop.PartsDrives", spec := "partsDrives", inPlace := ["internal/abi.NoEscape", "internal/bytealg.MakeNoZero", "slices.overlaps[int]"], unfollowed := true, recurses := true, apart := false }
def PartsDrivesSaid : Prop := partsDrivesRow.holds Try.pinned (OpenSpec.ofChange partsDrivesSpec)

/-- ITS FALSE NEIGHBOUR: 'it returns false'. Refute it at one input. -/
def partsDrivesWrong : ChangeSpec := { name := "partsDrives", fn := fun _ => fun
  | [d1, d2] => { results := [.lit (.bool false)], args := [d1, d2] }
  | _ => none }
def PartsDrivesWrongFalsely : Prop := partsDrivesRow.holds Try.pinned (OpenSpec.ofChange partsDrivesWrong)

/-- 'emulatortop.PartsCells': WHATEVER THE INPUT: true; the input reads as it did. -/
def partsCellsSpec : ChangeSpec := { name := "partsCells", fn := fun _ => fun
  | [d] => { results := [.lit (.bool true)], args := [d] }
  | _ => none }
def partsCellsRow : OpenClaim := { program := "ytoffgcigmpjmbaa", sum := "74cbccbefc3a692d834f16efd13c693af8350f8d0bc254f7cf6a8a5e858cb6ec", func := "emulator/emulatortop.PartsCells", spec := "partsCells", inPlace := ["slices.overlaps[int]", "internal/abi.NoEscape", "internal/bytealg.MakeNoZero"], unfollowed := true, recurses := true, apart := false }
def PartsCellsSaid : Prop := partsCellsRow.holds Try.pinned (OpenSpec.ofChange partsCellsSpec)

/-- ITS FALSE NEIGHBOUR: 'it returns false'. Refute it at one input. -/
def partsCellsWrong : ChangeSpec := { name := "partsCells", fn := fun _ => fun
  | [d] => { results := [.lit (.bool false)], args := [d] }
  | _ => none }
def PartsCellsWrongFalsely : Prop := partsCellsRow.holds Try.pinned (OpenSpec.ofChange partsCellsWrong)

/- THE SECOND FORM. 'bulk': how many values and letters a reading holds, each counted each time it is reached (what is shared counts as often as it is met; a slice's spare places count too). A statement '..UptoSaid' is the law's where the arguments, and the package variables that the reading takes, are together of bulk at most 1048576: NARROWER than '..Said'. Prove '..Said' where nothing that the law and all that it calls make is longer than what came in: it says more and counts as full. Else prove '..UptoSaid'. A law counts once. -/
mutual
def uptoBulk {H : Type} : DataW H → Nat
  | .lit (.string bytes) => bytes.length + 1
  | .lit _ => 1
  | .nil => 1
  | .ptr d => uptoBulk d + 1
  | .slice elems spare => uptoBulkAll elems + uptoBulkAll spare + 1
  | .agg parts => uptoBulkAll parts + 1
  | .iface _ d => uptoBulk d + 1
  | .map entries => uptoBulkEntries entries + 1
  | .held _ => 1
def uptoBulkAll {H : Type} : List (DataW H) → Nat
  | [] => 0
  | d :: r => uptoBulk d + uptoBulkAll r
def uptoBulkEntries {H : Type} : List (Lit × DataW H) → Nat
  | [] => 0
  | x :: r => uptoBulkEntry x + uptoBulkEntries r
def uptoBulkEntry {H : Type} : Lit × DataW H → Nat
  | (.string bytes, d) => bytes.length + uptoBulk d + 1
  | (_, d) => uptoBulk d + 1
 end
def uptoSmall : (H : Type) → List (DataW H) → Bool := fun _ ds => decide (uptoBulkAll ds ≤ 1048576)
def OpenSpec.upto (s : _root_.Go.ChangeSpec) : _root_.Go.OpenSpec := { _root_.Go.OpenSpec.ofChange s with cond := some uptoSmall }

/-- 'emulatortop.PartsOctets', WHERE WHAT IT READS IS OF BULK AT MOST 1048576: true; the input reads as it did. -/
def partsOctetsUptoRow : OpenClaim := { program := "ytoffgcigmpjmbaa", sum := "74cbccbefc3a692d834f16efd13c693af8350f8d0bc254f7cf6a8a5e858cb6ec", func := "emulator/emulatortop.PartsOctets", spec := "partsOctets", apart := false, narrowed := true }
def PartsOctetsUptoSaid : Prop := partsOctetsUptoRow.holds Try.pinned (OpenSpec.upto partsOctetsSpec)

/-- 'emulatortop.PartsTurns', WHERE WHAT IT READS IS OF BULK AT MOST 1048576: true; the input reads as it did. -/
def partsTurnsUptoRow : OpenClaim := { program := "ytoffgcigmpjmbaa", sum := "74cbccbefc3a692d834f16efd13c693af8350f8d0bc254f7cf6a8a5e858cb6ec", func := "emulator/emulatortop.PartsTurns", spec := "partsTurns", unfollowed := true, recurses := true, apart := false, narrowed := true }
def PartsTurnsUptoSaid : Prop := partsTurnsUptoRow.holds Try.pinned (OpenSpec.upto partsTurnsSpec)

/-- 'emulatortop.PartsLines', WHERE WHAT IT READS IS OF BULK AT MOST 1048576: true; the input reads as it did. -/
def partsLinesUptoRow : OpenClaim := { program := "ytoffgcigmpjmbaa", sum := "74cbccbefc3a692d834f16efd13c693af8350f8d0bc254f7cf6a8a5e858cb6ec", func := "emulator/emulatortop.PartsLines", spec := "partsLines", unfollowed := true, recurses := true, apart := false, narrowed := true }
def PartsLinesUptoSaid : Prop := partsLinesUptoRow.holds Try.pinned (OpenSpec.upto partsLinesSpec)

/-- 'emulatortop.PartsTapes', WHERE WHAT IT READS IS OF BULK AT MOST 1048576: true; the input reads as it did. -/
def partsTapesUptoRow : OpenClaim := { program := "ytoffgcigmpjmbaa", sum := "74cbccbefc3a692d834f16efd13c693af8350f8d0bc254f7cf6a8a5e858cb6ec", func := "emulator/emulatortop.PartsTapes", spec := "partsTapes", inPlace := ["internal/abi.NoEscape", "internal/bytealg.MakeNoZero"], unfollowed := true, recurses := true, apart := false, narrowed := true }
def PartsTapesUptoSaid : Prop := partsTapesUptoRow.holds Try.pinned (OpenSpec.upto partsTapesSpec)

/-- 'emulatortop.PartsKeys', WHERE WHAT IT READS IS OF BULK AT MOST 1048576: true; the input reads as it did. -/
def partsKeysUptoRow : OpenClaim := { program := "ytoffgcigmpjmbaa", sum := "74cbccbefc3a692d834f16efd13c693af8350f8d0bc254f7cf6a8a5e858cb6ec", func := "emulator/emulatortop.PartsKeys", spec := "partsKeys", inPlace := ["slices.overlaps[string]", "internal/abi.NoEscape", "internal/bytealg.MakeNoZero"], unfollowed := true, recurses := true, apart := false, narrowed := true }
def PartsKeysUptoSaid : Prop := partsKeysUptoRow.holds Try.pinned (OpenSpec.upto partsKeysSpec)

/-- 'emulatortop.PartsDrives', WHERE WHAT IT READS IS OF BULK AT MOST 1048576: true; the input reads as it did. -/
def partsDrivesUptoRow : OpenClaim := { program := "ytoffgcigmpjmbaa", sum := "74cbccbefc3a692d834f16efd13c693af8350f8d0bc254f7cf6a8a5e858cb6ec", func := "emulator/emulatortop.PartsDrives", spec := "partsDrives", inPlace := ["internal/abi.NoEscape", "internal/bytealg.MakeNoZero", "slices.overlaps[int]"], unfollowed := true, recurses := true, apart := false, narrowed := true }
def PartsDrivesUptoSaid : Prop := partsDrivesUptoRow.holds Try.pinned (OpenSpec.upto partsDrivesSpec)

/-- 'emulatortop.PartsCells', WHERE WHAT IT READS IS OF BULK AT MOST 1048576: true; the input reads as it did. -/
def partsCellsUptoRow : OpenClaim := { program := "ytoffgcigmpjmbaa", sum := "74cbccbefc3a692d834f16efd13c693af8350f8d0bc254f7cf6a8a5e858cb6ec", func := "emulator/emulatortop.PartsCells", spec := "partsCells", inPlace := ["slices.overlaps[int]", "internal/abi.NoEscape", "internal/bytealg.MakeNoZero"], unfollowed := true, recurses := true, apart := false, narrowed := true }
def PartsCellsUptoSaid : Prop := partsCellsUptoRow.holds Try.pinned (OpenSpec.upto partsCellsSpec)

end Rows
end Go.Proofs.Ytoffgcigmpjmbaa
