/-
  No cell of these rows narrows 'for every input' (looked for: loops, veiled, ifaces, maps, wideKeys, modest, calm, conditions, laid).
  DERIVED. THE GIVEN ROWS OF THIS SEAT. 6 by the template 'for every input the law returns true; each argument reads behind the call as it read before'; 0 by the template 'total and deterministic' (their statements: YtdogimleeplpkaaGreatTotals.lean).
  GIVEN WITH THE SEED: the statements are not yours to turn. If you find one false, say at which input.
  Laid BY PROGRAM, IN A SANDBOX (cutbox-rows.mjs): the forced cells as the released guide's own fill.sh prints them over the translation e2b32392558d7e48… (all of the seat's roots in one cut). By AI agents, Wed Nov 11 2026. No macro, syntax, notation, axiom, sorry.
-/
import Derived.Test.YtdogimleeplpkaaGreatChecked
import GoSem.Claim
import GoSem.ClaimJoined
import GoSem.ClaimMapViews
import Derived.JoinedTies
import Derived.KernelRfl
namespace Go.Proofs.YtdogimleeplpkaaGreat
/- THE CELL 'sum', in the pinned program and in every row, IS THE sha256 OF THE DUMP (.gsa) THAT YtdogimleeplpkaaGreatProg.lean LOADS. Nothing in Lean hashes anything: it is a label: what it is worth is what the hold of that sum in a sandbox is worth. -/
noncomputable def Tryz.pinned : Pinned := { name := "ytdogimleeplpkaagreat", sum := "e2b32392558d7e4893cefc4b1cf97b75682af0c8d26c7d8e284cb78d4c2bb2d7", checked := Tryz.checked }
namespace Rows
def none {H : Type} : Left H := { results := [], args := [] }

/-- 'candlinglaw03.ObjFiles': WHATEVER THE INPUT: true; the input reads as it did. -/
def objFilesSpec : ChangeSpec := { name := "objFiles", fn := fun _ => fun
  | [d1, d2] => { results := [.lit (.bool true)], args := [d1, d2] }
  | _ => none }
def objFilesRow : OpenClaim := { program := "ytdogimleeplpkaagreat", sum := "e2b32392558d7e4893cefc4b1cf97b75682af0c8d26c7d8e284cb78d4c2bb2d7", func := "candling/candlinglaw03.ObjFiles", spec := "objFiles", inPlace := ["internal/bytealg.IndexByteString", "internal/bytealg.IndexString"], unfollowed := true, recurses := true, named := ["internal/bytealg.MaxLen"], apart := false }
def ObjFilesSaid : Prop := objFilesRow.holds Tryz.pinned (OpenSpec.ofChange objFilesSpec)

/-- ITS FALSE NEIGHBOUR: 'it returns false'. Refute it at one input. -/
def objFilesWrong : ChangeSpec := { name := "objFiles", fn := fun _ => fun
  | [d1, d2] => { results := [.lit (.bool false)], args := [d1, d2] }
  | _ => none }
def ObjFilesWrongFalsely : Prop := objFilesRow.holds Tryz.pinned (OpenSpec.ofChange objFilesWrong)

/-- 'candlinglaw03.ObjChecks': WHATEVER THE INPUT: true; the input reads as it did. -/
def objChecksSpec : ChangeSpec := { name := "objChecks", fn := fun _ => fun
  | [d1, d2] => { results := [.lit (.bool true)], args := [d1, d2] }
  | _ => none }
def objChecksRow : OpenClaim := { program := "ytdogimleeplpkaagreat", sum := "e2b32392558d7e4893cefc4b1cf97b75682af0c8d26c7d8e284cb78d4c2bb2d7", func := "candling/candlinglaw03.ObjChecks", spec := "objChecks", inPlace := ["internal/bytealg.IndexByteString", "internal/bytealg.IndexString"], unfollowed := true, recurses := true, named := ["internal/bytealg.MaxLen"], apart := false }
def ObjChecksSaid : Prop := objChecksRow.holds Tryz.pinned (OpenSpec.ofChange objChecksSpec)

/-- ITS FALSE NEIGHBOUR: 'it returns false'. Refute it at one input. -/
def objChecksWrong : ChangeSpec := { name := "objChecks", fn := fun _ => fun
  | [d1, d2] => { results := [.lit (.bool false)], args := [d1, d2] }
  | _ => none }
def ObjChecksWrongFalsely : Prop := objChecksRow.holds Tryz.pinned (OpenSpec.ofChange objChecksWrong)

/-- 'candlinglaw03.ObjInner': WHATEVER THE INPUT: true; the input reads as it did. -/
def objInnerSpec : ChangeSpec := { name := "objInner", fn := fun _ => fun
  | [d1, d2, d3] => { results := [.lit (.bool true)], args := [d1, d2, d3] }
  | _ => none }
def objInnerRow : OpenClaim := { program := "ytdogimleeplpkaagreat", sum := "e2b32392558d7e4893cefc4b1cf97b75682af0c8d26c7d8e284cb78d4c2bb2d7", func := "candling/candlinglaw03.ObjInner", spec := "objInner", inPlace := ["internal/bytealg.IndexByteString", "internal/bytealg.IndexString"], unfollowed := true, recurses := true, named := ["internal/bytealg.MaxLen"], apart := false }
def ObjInnerSaid : Prop := objInnerRow.holds Tryz.pinned (OpenSpec.ofChange objInnerSpec)

/-- ITS FALSE NEIGHBOUR: 'it returns false'. Refute it at one input. -/
def objInnerWrong : ChangeSpec := { name := "objInner", fn := fun _ => fun
  | [d1, d2, d3] => { results := [.lit (.bool false)], args := [d1, d2, d3] }
  | _ => none }
def ObjInnerWrongFalsely : Prop := objInnerRow.holds Tryz.pinned (OpenSpec.ofChange objInnerWrong)

/-- 'candlinglaw03.ObjCovered': WHATEVER THE INPUT: true; the input reads as it did. -/
def objCoveredSpec : ChangeSpec := { name := "objCovered", fn := fun _ => fun
  | [d1, d2, d3] => { results := [.lit (.bool true)], args := [d1, d2, d3] }
  | _ => none }
def objCoveredRow : OpenClaim := { program := "ytdogimleeplpkaagreat", sum := "e2b32392558d7e4893cefc4b1cf97b75682af0c8d26c7d8e284cb78d4c2bb2d7", func := "candling/candlinglaw03.ObjCovered", spec := "objCovered", inPlace := ["internal/bytealg.IndexByteString", "internal/bytealg.IndexString"], unfollowed := true, recurses := true, named := ["internal/bytealg.MaxLen"], apart := false }
def ObjCoveredSaid : Prop := objCoveredRow.holds Tryz.pinned (OpenSpec.ofChange objCoveredSpec)

/-- ITS FALSE NEIGHBOUR: 'it returns false'. Refute it at one input. -/
def objCoveredWrong : ChangeSpec := { name := "objCovered", fn := fun _ => fun
  | [d1, d2, d3] => { results := [.lit (.bool false)], args := [d1, d2, d3] }
  | _ => none }
def ObjCoveredWrongFalsely : Prop := objCoveredRow.holds Tryz.pinned (OpenSpec.ofChange objCoveredWrong)

/-- 'candlinglaw03.ObjStripped': WHATEVER THE INPUT: true; the input reads as it did. -/
def objStrippedSpec : ChangeSpec := { name := "objStripped", fn := fun _ => fun
  | [d] => { results := [.lit (.bool true)], args := [d] }
  | _ => none }
def objStrippedRow : OpenClaim := { program := "ytdogimleeplpkaagreat", sum := "e2b32392558d7e4893cefc4b1cf97b75682af0c8d26c7d8e284cb78d4c2bb2d7", func := "candling/candlinglaw03.ObjStripped", spec := "objStripped", inPlace := ["internal/bytealg.IndexByteString", "internal/bytealg.IndexString"], unfollowed := true, recurses := true, named := ["internal/bytealg.MaxLen"], apart := false }
def ObjStrippedSaid : Prop := objStrippedRow.holds Tryz.pinned (OpenSpec.ofChange objStrippedSpec)

/-- ITS FALSE NEIGHBOUR: 'it returns false'. Refute it at one input. -/
def objStrippedWrong : ChangeSpec := { name := "objStripped", fn := fun _ => fun
  | [d] => { results := [.lit (.bool false)], args := [d] }
  | _ => none }
def ObjStrippedWrongFalsely : Prop := objStrippedRow.holds Tryz.pinned (OpenSpec.ofChange objStrippedWrong)

/-- 'candlinglaw03.ObjSorted': WHATEVER THE INPUT: true; the input reads as it did. -/
def objSortedSpec : ChangeSpec := { name := "objSorted", fn := fun _ => fun
  | [d1, d2, d3, d4] => { results := [.lit (.bool true)], args := [d1, d2, d3, d4] }
  | _ => none }
def objSortedRow : OpenClaim := { program := "ytdogimleeplpkaagreat", sum := "e2b32392558d7e4893cefc4b1cf97b75682af0c8d26c7d8e284cb78d4c2bb2d7", func := "candling/candlinglaw03.ObjSorted", spec := "objSorted", inPlace := ["internal/bytealg.IndexByteString", "internal/bytealg.IndexString", "internal/bytealg.abigen_runtime_cmpstring", "internal/bytealg.Compare"], unfollowed := true, recurses := true, named := ["internal/bytealg.MaxLen"], apart := false }
def ObjSortedSaid : Prop := objSortedRow.holds Tryz.pinned (OpenSpec.ofChange objSortedSpec)

/-- ITS FALSE NEIGHBOUR: 'it returns false'. Refute it at one input. -/
def objSortedWrong : ChangeSpec := { name := "objSorted", fn := fun _ => fun
  | [d1, d2, d3, d4] => { results := [.lit (.bool false)], args := [d1, d2, d3, d4] }
  | _ => none }
def ObjSortedWrongFalsely : Prop := objSortedRow.holds Tryz.pinned (OpenSpec.ofChange objSortedWrong)

/- THE SECOND FORM. 'bulk': how many values and letters a reading holds, each counted each time it is reached (what is shared counts as often as it is met; a slice's spare places count too). A statement '..UptoSaid' is the law's where the arguments, and the package variables that the reading takes, are together of bulk at most 1048576: NARROWER than '..Said'. Prove '..Said' where nothing that the law and all that it calls make is longer than what came in: it says more and counts as full. Else prove '..UptoSaid'. A law counts once. -/
mutual
def uptoBulk {H : Type} : DataW H → Nat
  | .lit (.string bytes) => bytes.length + 1
  | .lit _ => 1
  | .nil => 1
  | .ptr d => uptoBulk d + 1
  | .slice elems spare => uptoBulkAll elems + uptoBulkAll spare + 1
  | .agg parts => uptoBulkAll parts + 1
  | .iface _ d => uptoBulk d + 1
  | .map entries => uptoBulkEntries entries + 1
  | .held _ => 1
def uptoBulkAll {H : Type} : List (DataW H) → Nat
  | [] => 0
  | d :: r => uptoBulk d + uptoBulkAll r
def uptoBulkEntries {H : Type} : List (Lit × DataW H) → Nat
  | [] => 0
  | x :: r => uptoBulkEntry x + uptoBulkEntries r
def uptoBulkEntry {H : Type} : Lit × DataW H → Nat
  | (.string bytes, d) => bytes.length + uptoBulk d + 1
  | (_, d) => uptoBulk d + 1
 end
def uptoSmall : (H : Type) → List (DataW H) → Bool := fun _ ds => decide (uptoBulkAll ds ≤ 1048576)
def OpenSpec.upto (s : _root_.Go.ChangeSpec) : _root_.Go.OpenSpec := { _root_.Go.OpenSpec.ofChange s with cond := some uptoSmall }

/-- 'candlinglaw03.ObjFiles', WHERE WHAT IT READS IS OF BULK AT MOST 1048576: true; the input reads as it did. -/
def objFilesUptoRow : OpenClaim := { program := "ytdogimleeplpkaagreat", sum := "e2b32392558d7e4893cefc4b1cf97b75682af0c8d26c7d8e284cb78d4c2bb2d7", func := "candling/candlinglaw03.ObjFiles", spec := "objFiles", inPlace := ["internal/bytealg.IndexByteString", "internal/bytealg.IndexString"], unfollowed := true, recurses := true, named := ["internal/bytealg.MaxLen"], apart := false, narrowed := true }
def ObjFilesUptoSaid : Prop := objFilesUptoRow.holds Tryz.pinned (OpenSpec.upto objFilesSpec)

/-- 'candlinglaw03.ObjChecks', WHERE WHAT IT READS IS OF BULK AT MOST 1048576: true; the input reads as it did. -/
def objChecksUptoRow : OpenClaim := { program := "ytdogimleeplpkaagreat", sum := "e2b32392558d7e4893cefc4b1cf97b75682af0c8d26c7d8e284cb78d4c2bb2d7", func := "candling/candlinglaw03.ObjChecks", spec := "objChecks", inPlace := ["internal/bytealg.IndexByteString", "internal/bytealg.IndexString"], unfollowed := true, recurses := true, named := ["internal/bytealg.MaxLen"], apart := false, narrowed := true }
def ObjChecksUptoSaid : Prop := objChecksUptoRow.holds Tryz.pinned (OpenSpec.upto objChecksSpec)

/-- 'candlinglaw03.ObjInner', WHERE WHAT IT READS IS OF BULK AT MOST 1048576: true; the input reads as it did. -/
def objInnerUptoRow : OpenClaim := { program := "ytdogimleeplpkaagreat", sum := "e2b32392558d7e4893cefc4b1cf97b75682af0c8d26c7d8e284cb78d4c2bb2d7", func := "candling/candlinglaw03.ObjInner", spec := "objInner", inPlace := ["internal/bytealg.IndexByteString", "internal/bytealg.IndexString"], unfollowed := true, recurses := true, named := ["internal/bytealg.MaxLen"], apart := false, narrowed := true }
def ObjInnerUptoSaid : Prop := objInnerUptoRow.holds Tryz.pinned (OpenSpec.upto objInnerSpec)

/-- 'candlinglaw03.ObjCovered', WHERE WHAT IT READS IS OF BULK AT MOST 1048576: true; the input reads as it did. -/
def objCoveredUptoRow : OpenClaim := { program := "ytdogimleeplpkaagreat", sum := "e2b32392558d7e4893cefc4b1cf97b75682af0c8d26c7d8e284cb78d4c2bb2d7", func := "candling/candlinglaw03.ObjCovered", spec := "objCovered", inPlace := ["internal/bytealg.IndexByteString", "internal/bytealg.IndexString"], unfollowed := true, recurses := true, named := ["internal/bytealg.MaxLen"], apart := false, narrowed := true }
def ObjCoveredUptoSaid : Prop := objCoveredUptoRow.holds Tryz.pinned (OpenSpec.upto objCoveredSpec)

/-- 'candlinglaw03.ObjStripped', WHERE WHAT IT READS IS OF BULK AT MOST 1048576: true; the input reads as it did. -/
def objStrippedUptoRow : OpenClaim := { program := "ytdogimleeplpkaagreat", sum := "e2b32392558d7e4893cefc4b1cf97b75682af0c8d26c7d8e284cb78d4c2bb2d7", func := "candling/candlinglaw03.ObjStripped", spec := "objStripped", inPlace := ["internal/bytealg.IndexByteString", "internal/bytealg.IndexString"], unfollowed := true, recurses := true, named := ["internal/bytealg.MaxLen"], apart := false, narrowed := true }
def ObjStrippedUptoSaid : Prop := objStrippedUptoRow.holds Tryz.pinned (OpenSpec.upto objStrippedSpec)

/-- 'candlinglaw03.ObjSorted', WHERE WHAT IT READS IS OF BULK AT MOST 1048576: true; the input reads as it did. -/
def objSortedUptoRow : OpenClaim := { program := "ytdogimleeplpkaagreat", sum := "e2b32392558d7e4893cefc4b1cf97b75682af0c8d26c7d8e284cb78d4c2bb2d7", func := "candling/candlinglaw03.ObjSorted", spec := "objSorted", inPlace := ["internal/bytealg.IndexByteString", "internal/bytealg.IndexString", "internal/bytealg.abigen_runtime_cmpstring", "internal/bytealg.Compare"], unfollowed := true, recurses := true, named := ["internal/bytealg.MaxLen"], apart := false, narrowed := true }
def ObjSortedUptoSaid : Prop := objSortedUptoRow.holds Tryz.pinned (OpenSpec.upto objSortedSpec)

end Rows
end Go.Proofs.YtdogimleeplpkaaGreat
