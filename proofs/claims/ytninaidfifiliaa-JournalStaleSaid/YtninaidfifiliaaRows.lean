/-
  No cell of these rows narrows 'for every input' (looked for: loops, veiled, ifaces, maps, wideKeys, modest, calm, conditions, laid).
  DERIVED. THE GIVEN ROWS OF THIS SEAT. 9 by the template 'for every input the law returns true; each argument reads behind the call as it read before'; 0 by the template 'total and deterministic' (their statements: YtninaidfifiliaaTotals.lean).
  GIVEN WITH THE SEED: the statements are not yours to turn. If you find one false, say at which input.
  Laid BY PROGRAM, IN A SANDBOX (cutbox-rows.mjs): the forced cells as the released guide's own fill.sh prints them over the translation a07b55e0d042a6d8… (all of the seat's roots in one cut). By AI agents, Wed Nov 11 2026. No macro, syntax, notation, axiom, sorry.
-/
import Derived.Test.YtninaidfifiliaaChecked
import GoSem.Claim
import GoSem.ClaimJoined
import GoSem.ClaimMapViews
import Derived.JoinedTies
import Derived.KernelRfl
namespace Go.Proofs.Ytninaidfifiliaa
/- THE CELL 'sum', in the pinned program and in every row, IS THE sha256 OF THE DUMP (.gsa) THAT YtninaidfifiliaaProg.lean LOADS. Nothing in Lean hashes anything: it is a label: what it is worth is what the hold of that sum in a sandbox is worth. -/
noncomputable def Try.pinned : Pinned := { name := "ytninaidfifiliaa", sum := "a07b55e0d042a6d8257c677b7ba9361eb4ee806eeb736625dd41ac0da08ebf27", checked := Try.checked }
namespace Rows
def none {H : Type} : Left H := { results := [], args := [] }

/-- 'candlinglaw40.JournalCodes': WHATEVER THE INPUT: true; the input reads as it did. -/
def journalCodesSpec : ChangeSpec := { name := "journalCodes", fn := fun _ => fun
  | [d1, d2, d3] => { results := [.lit (.bool true)], args := [d1, d2, d3] }
  | _ => none }
def journalCodesRow : OpenClaim := { program := "ytninaidfifiliaa", sum := "a07b55e0d042a6d8257c677b7ba9361eb4ee806eeb736625dd41ac0da08ebf27", func := "candling/candlinglaw40.JournalCodes", spec := "journalCodes", unfollowed := true, recurses := true, apart := false }
def JournalCodesSaid : Prop := journalCodesRow.holds Try.pinned (OpenSpec.ofChange journalCodesSpec)

/-- ITS FALSE NEIGHBOUR: 'it returns false'. Refute it at one input. -/
def journalCodesWrong : ChangeSpec := { name := "journalCodes", fn := fun _ => fun
  | [d1, d2, d3] => { results := [.lit (.bool false)], args := [d1, d2, d3] }
  | _ => none }
def JournalCodesWrongFalsely : Prop := journalCodesRow.holds Try.pinned (OpenSpec.ofChange journalCodesWrong)

/-- 'candlinglaw40.JournalPlatters': WHATEVER THE INPUT: true; the input reads as it did. -/
def journalPlattersSpec : ChangeSpec := { name := "journalPlatters", fn := fun _ => fun
  | [d1, d2, d3] => { results := [.lit (.bool true)], args := [d1, d2, d3] }
  | _ => none }
def journalPlattersRow : OpenClaim := { program := "ytninaidfifiliaa", sum := "a07b55e0d042a6d8257c677b7ba9361eb4ee806eeb736625dd41ac0da08ebf27", func := "candling/candlinglaw40.JournalPlatters", spec := "journalPlatters", unfollowed := true, recurses := true, apart := false }
def JournalPlattersSaid : Prop := journalPlattersRow.holds Try.pinned (OpenSpec.ofChange journalPlattersSpec)

/-- ITS FALSE NEIGHBOUR: 'it returns false'. Refute it at one input. -/
def journalPlattersWrong : ChangeSpec := { name := "journalPlatters", fn := fun _ => fun
  | [d1, d2, d3] => { results := [.lit (.bool false)], args := [d1, d2, d3] }
  | _ => none }
def JournalPlattersWrongFalsely : Prop := journalPlattersRow.holds Try.pinned (OpenSpec.ofChange journalPlattersWrong)

/-- 'candlinglaw40.JournalDevices': WHATEVER THE INPUT: true; the input reads as it did. -/
def journalDevicesSpec : ChangeSpec := { name := "journalDevices", fn := fun _ => fun
  | [d1, d2, d3, d4, d5] => { results := [.lit (.bool true)], args := [d1, d2, d3, d4, d5] }
  | _ => none }
def journalDevicesRow : OpenClaim := { program := "ytninaidfifiliaa", sum := "a07b55e0d042a6d8257c677b7ba9361eb4ee806eeb736625dd41ac0da08ebf27", func := "candling/candlinglaw40.JournalDevices", spec := "journalDevices", unfollowed := true, recurses := true, apart := false }
def JournalDevicesSaid : Prop := journalDevicesRow.holds Try.pinned (OpenSpec.ofChange journalDevicesSpec)

/-- ITS FALSE NEIGHBOUR: 'it returns false'. Refute it at one input. -/
def journalDevicesWrong : ChangeSpec := { name := "journalDevices", fn := fun _ => fun
  | [d1, d2, d3, d4, d5] => { results := [.lit (.bool false)], args := [d1, d2, d3, d4, d5] }
  | _ => none }
def JournalDevicesWrongFalsely : Prop := journalDevicesRow.holds Try.pinned (OpenSpec.ofChange journalDevicesWrong)

/-- 'candlinglaw40.JournalRing': WHATEVER THE INPUT: true; the input reads as it did. -/
def journalRingSpec : ChangeSpec := { name := "journalRing", fn := fun _ => fun
  | [d1, d2] => { results := [.lit (.bool true)], args := [d1, d2] }
  | _ => none }
def journalRingRow : OpenClaim := { program := "ytninaidfifiliaa", sum := "a07b55e0d042a6d8257c677b7ba9361eb4ee806eeb736625dd41ac0da08ebf27", func := "candling/candlinglaw40.JournalRing", spec := "journalRing", unfollowed := true, recurses := true, apart := false }
def JournalRingSaid : Prop := journalRingRow.holds Try.pinned (OpenSpec.ofChange journalRingSpec)

/-- ITS FALSE NEIGHBOUR: 'it returns false'. Refute it at one input. -/
def journalRingWrong : ChangeSpec := { name := "journalRing", fn := fun _ => fun
  | [d1, d2] => { results := [.lit (.bool false)], args := [d1, d2] }
  | _ => none }
def JournalRingWrongFalsely : Prop := journalRingRow.holds Try.pinned (OpenSpec.ofChange journalRingWrong)

/-- 'candlinglaw40.JournalSurvives': WHATEVER THE INPUT: true; the input reads as it did. -/
def journalSurvivesSpec : ChangeSpec := { name := "journalSurvives", fn := fun _ => fun
  | [d1, d2] => { results := [.lit (.bool true)], args := [d1, d2] }
  | _ => none }
def journalSurvivesRow : OpenClaim := { program := "ytninaidfifiliaa", sum := "a07b55e0d042a6d8257c677b7ba9361eb4ee806eeb736625dd41ac0da08ebf27", func := "candling/candlinglaw40.JournalSurvives", spec := "journalSurvives", unfollowed := true, recurses := true, apart := false }
def JournalSurvivesSaid : Prop := journalSurvivesRow.holds Try.pinned (OpenSpec.ofChange journalSurvivesSpec)

/-- ITS FALSE NEIGHBOUR: 'it returns false'. Refute it at one input. -/
def journalSurvivesWrong : ChangeSpec := { name := "journalSurvives", fn := fun _ => fun
  | [d1, d2] => { results := [.lit (.bool false)], args := [d1, d2] }
  | _ => none }
def JournalSurvivesWrongFalsely : Prop := journalSurvivesRow.holds Try.pinned (OpenSpec.ofChange journalSurvivesWrong)

/-- 'candlinglaw40.JournalTorn': WHATEVER THE INPUT: true; the input reads as it did. -/
def journalTornSpec : ChangeSpec := { name := "journalTorn", fn := fun _ => fun
  | [d1, d2, d3, d4] => { results := [.lit (.bool true)], args := [d1, d2, d3, d4] }
  | _ => none }
def journalTornRow : OpenClaim := { program := "ytninaidfifiliaa", sum := "a07b55e0d042a6d8257c677b7ba9361eb4ee806eeb736625dd41ac0da08ebf27", func := "candling/candlinglaw40.JournalTorn", spec := "journalTorn", unfollowed := true, recurses := true, apart := false }
def JournalTornSaid : Prop := journalTornRow.holds Try.pinned (OpenSpec.ofChange journalTornSpec)

/-- ITS FALSE NEIGHBOUR: 'it returns false'. Refute it at one input. -/
def journalTornWrong : ChangeSpec := { name := "journalTorn", fn := fun _ => fun
  | [d1, d2, d3, d4] => { results := [.lit (.bool false)], args := [d1, d2, d3, d4] }
  | _ => none }
def JournalTornWrongFalsely : Prop := journalTornRow.holds Try.pinned (OpenSpec.ofChange journalTornWrong)

/-- 'candlinglaw40.JournalStale': WHATEVER THE INPUT: true; the input reads as it did. -/
def journalStaleSpec : ChangeSpec := { name := "journalStale", fn := fun _ => fun
  | [d1, d2, d3, d4] => { results := [.lit (.bool true)], args := [d1, d2, d3, d4] }
  | _ => none }
def journalStaleRow : OpenClaim := { program := "ytninaidfifiliaa", sum := "a07b55e0d042a6d8257c677b7ba9361eb4ee806eeb736625dd41ac0da08ebf27", func := "candling/candlinglaw40.JournalStale", spec := "journalStale", unfollowed := true, recurses := true, apart := false }
def JournalStaleSaid : Prop := journalStaleRow.holds Try.pinned (OpenSpec.ofChange journalStaleSpec)

/-- ITS FALSE NEIGHBOUR: 'it returns false'. Refute it at one input. -/
def journalStaleWrong : ChangeSpec := { name := "journalStale", fn := fun _ => fun
  | [d1, d2, d3, d4] => { results := [.lit (.bool false)], args := [d1, d2, d3, d4] }
  | _ => none }
def JournalStaleWrongFalsely : Prop := journalStaleRow.holds Try.pinned (OpenSpec.ofChange journalStaleWrong)

/-- 'candlinglaw40.JournalAgain': WHATEVER THE INPUT: true; the input reads as it did. -/
def journalAgainSpec : ChangeSpec := { name := "journalAgain", fn := fun _ => fun
  | [d1, d2] => { results := [.lit (.bool true)], args := [d1, d2] }
  | _ => none }
def journalAgainRow : OpenClaim := { program := "ytninaidfifiliaa", sum := "a07b55e0d042a6d8257c677b7ba9361eb4ee806eeb736625dd41ac0da08ebf27", func := "candling/candlinglaw40.JournalAgain", spec := "journalAgain", unfollowed := true, recurses := true, apart := false }
def JournalAgainSaid : Prop := journalAgainRow.holds Try.pinned (OpenSpec.ofChange journalAgainSpec)

/-- ITS FALSE NEIGHBOUR: 'it returns false'. Refute it at one input. -/
def journalAgainWrong : ChangeSpec := { name := "journalAgain", fn := fun _ => fun
  | [d1, d2] => { results := [.lit (.bool false)], args := [d1, d2] }
  | _ => none }
def JournalAgainWrongFalsely : Prop := journalAgainRow.holds Try.pinned (OpenSpec.ofChange journalAgainWrong)

/-- 'candlinglaw40.JournalTrims': WHATEVER THE INPUT: true; the input reads as it did. -/
def journalTrimsSpec : ChangeSpec := { name := "journalTrims", fn := fun _ => fun
  | [d1, d2, d3, d4] => { results := [.lit (.bool true)], args := [d1, d2, d3, d4] }
  | _ => none }
def journalTrimsRow : OpenClaim := { program := "ytninaidfifiliaa", sum := "a07b55e0d042a6d8257c677b7ba9361eb4ee806eeb736625dd41ac0da08ebf27", func := "candling/candlinglaw40.JournalTrims", spec := "journalTrims", unfollowed := true, recurses := true, apart := false }
def JournalTrimsSaid : Prop := journalTrimsRow.holds Try.pinned (OpenSpec.ofChange journalTrimsSpec)

/-- ITS FALSE NEIGHBOUR: 'it returns false'. Refute it at one input. -/
def journalTrimsWrong : ChangeSpec := { name := "journalTrims", fn := fun _ => fun
  | [d1, d2, d3, d4] => { results := [.lit (.bool false)], args := [d1, d2, d3, d4] }
  | _ => none }
def JournalTrimsWrongFalsely : Prop := journalTrimsRow.holds Try.pinned (OpenSpec.ofChange journalTrimsWrong)

/- THE SECOND FORM. 'bulk': how many values and letters a reading holds, each counted each time it is reached (what is shared counts as often as it is met; a slice's spare places count too). A statement '..UptoSaid' is the law's where the arguments, and the package variables that the reading takes, are together of bulk at most 1048576: NARROWER than '..Said'. Prove '..Said' where nothing that the law and all that it calls make is longer than what came in: it says more and counts as full. Else prove '..UptoSaid'. A law counts once. -/
mutual
def uptoBulk {H : Type} : DataW H → Nat
  | .lit (.string bytes) => bytes.length + 1
  | .lit _ => 1
  | .nil => 1
  | .ptr d => uptoBulk d + 1
  | .slice elems spare => uptoBulkAll elems + uptoBulkAll spare + 1
  | .agg parts => uptoBulkAll parts + 1
  | .iface _ d => uptoBulk d + 1
  | .map entries => uptoBulkEntries entries + 1
  | .held _ => 1
def uptoBulkAll {H : Type} : List (DataW H) → Nat
  | [] => 0
  | d :: r => uptoBulk d + uptoBulkAll r
def uptoBulkEntries {H : Type} : List (Lit × DataW H) → Nat
  | [] => 0
  | x :: r => uptoBulkEntry x + uptoBulkEntries r
def uptoBulkEntry {H : Type} : Lit × DataW H → Nat
  | (.string bytes, d) => bytes.length + uptoBulk d + 1
  | (_, d) => uptoBulk d + 1
 end
def uptoSmall : (H : Type) → List (DataW H) → Bool := fun _ ds => decide (uptoBulkAll ds ≤ 1048576)
def OpenSpec.upto (s : _root_.Go.ChangeSpec) : _root_.Go.OpenSpec := { _root_.Go.OpenSpec.ofChange s with cond := some uptoSmall }

/-- 'candlinglaw40.JournalCodes', WHERE WHAT IT READS IS OF BULK AT MOST 1048576: true; the input reads as it did. -/
def journalCodesUptoRow : OpenClaim := { program := "ytninaidfifiliaa", sum := "a07b55e0d042a6d8257c677b7ba9361eb4ee806eeb736625dd41ac0da08ebf27", func := "candling/candlinglaw40.JournalCodes", spec := "journalCodes", unfollowed := true, recurses := true, apart := false, narrowed := true }
def JournalCodesUptoSaid : Prop := journalCodesUptoRow.holds Try.pinned (OpenSpec.upto journalCodesSpec)

/-- 'candlinglaw40.JournalPlatters', WHERE WHAT IT READS IS OF BULK AT MOST 1048576: true; the input reads as it did. -/
def journalPlattersUptoRow : OpenClaim := { program := "ytninaidfifiliaa", sum := "a07b55e0d042a6d8257c677b7ba9361eb4ee806eeb736625dd41ac0da08ebf27", func := "candling/candlinglaw40.JournalPlatters", spec := "journalPlatters", unfollowed := true, recurses := true, apart := false, narrowed := true }
def JournalPlattersUptoSaid : Prop := journalPlattersUptoRow.holds Try.pinned (OpenSpec.upto journalPlattersSpec)

/-- 'candlinglaw40.JournalDevices', WHERE WHAT IT READS IS OF BULK AT MOST 1048576: true; the input reads as it did. -/
def journalDevicesUptoRow : OpenClaim := { program := "ytninaidfifiliaa", sum := "a07b55e0d042a6d8257c677b7ba9361eb4ee806eeb736625dd41ac0da08ebf27", func := "candling/candlinglaw40.JournalDevices", spec := "journalDevices", unfollowed := true, recurses := true, apart := false, narrowed := true }
def JournalDevicesUptoSaid : Prop := journalDevicesUptoRow.holds Try.pinned (OpenSpec.upto journalDevicesSpec)

/-- 'candlinglaw40.JournalRing', WHERE WHAT IT READS IS OF BULK AT MOST 1048576: true; the input reads as it did. -/
def journalRingUptoRow : OpenClaim := { program := "ytninaidfifiliaa", sum := "a07b55e0d042a6d8257c677b7ba9361eb4ee806eeb736625dd41ac0da08ebf27", func := "candling/candlinglaw40.JournalRing", spec := "journalRing", unfollowed := true, recurses := true, apart := false, narrowed := true }
def JournalRingUptoSaid : Prop := journalRingUptoRow.holds Try.pinned (OpenSpec.upto journalRingSpec)

/-- 'candlinglaw40.JournalSurvives', WHERE WHAT IT READS IS OF BULK AT MOST 1048576: true; the input reads as it did. -/
def journalSurvivesUptoRow : OpenClaim := { program := "ytninaidfifiliaa", sum := "a07b55e0d042a6d8257c677b7ba9361eb4ee806eeb736625dd41ac0da08ebf27", func := "candling/candlinglaw40.JournalSurvives", spec := "journalSurvives", unfollowed := true, recurses := true, apart := false, narrowed := true }
def JournalSurvivesUptoSaid : Prop := journalSurvivesUptoRow.holds Try.pinned (OpenSpec.upto journalSurvivesSpec)

/-- 'candlinglaw40.JournalTorn', WHERE WHAT IT READS IS OF BULK AT MOST 1048576: true; the input reads as it did. -/
def journalTornUptoRow : OpenClaim := { program := "ytninaidfifiliaa", sum := "a07b55e0d042a6d8257c677b7ba9361eb4ee806eeb736625dd41ac0da08ebf27", func := "candling/candlinglaw40.JournalTorn", spec := "journalTorn", unfollowed := true, recurses := true, apart := false, narrowed := true }
def JournalTornUptoSaid : Prop := journalTornUptoRow.holds Try.pinned (OpenSpec.upto journalTornSpec)

/-- 'candlinglaw40.JournalStale', WHERE WHAT IT READS IS OF BULK AT MOST 1048576: true; the input reads as it did. -/
def journalStaleUptoRow : OpenClaim := { program := "ytninaidfifiliaa", sum := "a07b55e0d042a6d8257c677b7ba9361eb4ee806eeb736625dd41ac0da08ebf27", func := "candling/candlinglaw40.JournalStale", spec := "journalStale", unfollowed := true, recurses := true, apart := false, narrowed := true }
def JournalStaleUptoSaid : Prop := journalStaleUptoRow.holds Try.pinned (OpenSpec.upto journalStaleSpec)

/-- 'candlinglaw40.JournalAgain', WHERE WHAT IT READS IS OF BULK AT MOST 1048576: true; the input reads as it did. -/
def journalAgainUptoRow : OpenClaim := { program := "ytninaidfifiliaa", sum := "a07b55e0d042a6d8257c677b7ba9361eb4ee806eeb736625dd41ac0da08ebf27", func := "candling/candlinglaw40.JournalAgain", spec := "journalAgain", unfollowed := true, recurses := true, apart := false, narrowed := true }
def JournalAgainUptoSaid : Prop := journalAgainUptoRow.holds Try.pinned (OpenSpec.upto journalAgainSpec)

/-- 'candlinglaw40.JournalTrims', WHERE WHAT IT READS IS OF BULK AT MOST 1048576: true; the input reads as it did. -/
def journalTrimsUptoRow : OpenClaim := { program := "ytninaidfifiliaa", sum := "a07b55e0d042a6d8257c677b7ba9361eb4ee806eeb736625dd41ac0da08ebf27", func := "candling/candlinglaw40.JournalTrims", spec := "journalTrims", unfollowed := true, recurses := true, apart := false, narrowed := true }
def JournalTrimsUptoSaid : Prop := journalTrimsUptoRow.holds Try.pinned (OpenSpec.upto journalTrimsSpec)

end Rows
end Go.Proofs.Ytninaidfifiliaa
