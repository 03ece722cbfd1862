/-
  No cell of these rows narrows 'for every input' (looked for: loops, veiled, ifaces, maps, wideKeys, modest, calm, conditions, laid).
  DERIVED. THE GIVEN ROWS OF THIS SEAT. 5 by the template 'for every input the law returns true; each argument reads behind the call as it read before'; 0 by the template 'total and deterministic' (their statements: YtdogimleeplpkaaTotals.lean).
  GIVEN WITH THE SEED: the statements are not yours to turn. If you find one false, say at which input.
  Laid BY PROGRAM, IN A SANDBOX (cutbox-rows.mjs): the forced cells as the released guide's own fill.sh prints them over the translation 4eb3f3e0f2734617… (all of the seat's roots in one cut). By AI agents, Wed Nov 11 2026. No macro, syntax, notation, axiom, sorry.
-/
import Derived.Test.YtdogimleeplpkaaChecked
import GoSem.Claim
import GoSem.ClaimJoined
import GoSem.ClaimMapViews
import Derived.JoinedTies
import Derived.KernelRfl
namespace Go.Proofs.Ytdogimleeplpkaa
/- THE CELL 'sum', in the pinned program and in every row, IS THE sha256 OF THE DUMP (.gsa) THAT YtdogimleeplpkaaProg.lean LOADS. Nothing in Lean hashes anything: it is a label: what it is worth is what the hold of that sum in a sandbox is worth. -/
noncomputable def Try.pinned : Pinned := { name := "ytdogimleeplpkaa", sum := "4eb3f3e0f2734617683df87cbc33b8a1cb7b106733571781de02b03a8d7db8d6", checked := Try.checked }
namespace Rows
def none {H : Type} : Left H := { results := [], args := [] }

/-- 'candlinglaw03.ObjLines': WHATEVER THE INPUT: true; the input reads as it did. -/
def objLinesSpec : ChangeSpec := { name := "objLines", fn := fun _ => fun
  | [d1, d2] => { results := [.lit (.bool true)], args := [d1, d2] }
  | _ => none }
def objLinesRow : OpenClaim := { program := "ytdogimleeplpkaa", sum := "4eb3f3e0f2734617683df87cbc33b8a1cb7b106733571781de02b03a8d7db8d6", func := "candling/candlinglaw03.ObjLines", spec := "objLines", inPlace := ["internal/bytealg.IndexByteString", "internal/bytealg.IndexString"], unfollowed := true, recurses := true, named := ["internal/bytealg.MaxLen"], apart := false }
def ObjLinesSaid : Prop := objLinesRow.holds Try.pinned (OpenSpec.ofChange objLinesSpec)

/-- ITS FALSE NEIGHBOUR: 'it returns false'. Refute it at one input. -/
def objLinesWrong : ChangeSpec := { name := "objLines", fn := fun _ => fun
  | [d1, d2] => { results := [.lit (.bool false)], args := [d1, d2] }
  | _ => none }
def ObjLinesWrongFalsely : Prop := objLinesRow.holds Try.pinned (OpenSpec.ofChange objLinesWrong)

/-- 'candlinglaw03.ObjShortest': WHATEVER THE INPUT: true; the input reads as it did. -/
def objShortestSpec : ChangeSpec := { name := "objShortest", fn := fun _ => fun
  | [d1, d2] => { results := [.lit (.bool true)], args := [d1, d2] }
  | _ => none }
def objShortestRow : OpenClaim := { program := "ytdogimleeplpkaa", sum := "4eb3f3e0f2734617683df87cbc33b8a1cb7b106733571781de02b03a8d7db8d6", func := "candling/candlinglaw03.ObjShortest", spec := "objShortest", inPlace := ["internal/bytealg.IndexByteString", "internal/bytealg.IndexString"], unfollowed := true, recurses := true, named := ["internal/bytealg.MaxLen"], apart := false }
def ObjShortestSaid : Prop := objShortestRow.holds Try.pinned (OpenSpec.ofChange objShortestSpec)

/-- ITS FALSE NEIGHBOUR: 'it returns false'. Refute it at one input. -/
def objShortestWrong : ChangeSpec := { name := "objShortest", fn := fun _ => fun
  | [d1, d2] => { results := [.lit (.bool false)], args := [d1, d2] }
  | _ => none }
def ObjShortestWrongFalsely : Prop := objShortestRow.holds Try.pinned (OpenSpec.ofChange objShortestWrong)

/-- 'candlinglaw03.ObjApplied': WHATEVER THE INPUT: true; the input reads as it did. -/
def objAppliedSpec : ChangeSpec := { name := "objApplied", fn := fun _ => fun
  | [d1, d2, d3, d4, d5, d6] => { results := [.lit (.bool true)], args := [d1, d2, d3, d4, d5, d6] }
  | _ => none }
def objAppliedRow : OpenClaim := { program := "ytdogimleeplpkaa", sum := "4eb3f3e0f2734617683df87cbc33b8a1cb7b106733571781de02b03a8d7db8d6", func := "candling/candlinglaw03.ObjApplied", spec := "objApplied", inPlace := ["internal/bytealg.IndexByteString", "internal/bytealg.IndexString"], unfollowed := true, recurses := true, named := ["internal/bytealg.MaxLen"], apart := false }
def ObjAppliedSaid : Prop := objAppliedRow.holds Try.pinned (OpenSpec.ofChange objAppliedSpec)

/-- ITS FALSE NEIGHBOUR: 'it returns false'. Refute it at one input. -/
def objAppliedWrong : ChangeSpec := { name := "objApplied", fn := fun _ => fun
  | [d1, d2, d3, d4, d5, d6] => { results := [.lit (.bool false)], args := [d1, d2, d3, d4, d5, d6] }
  | _ => none }
def ObjAppliedWrongFalsely : Prop := objAppliedRow.holds Try.pinned (OpenSpec.ofChange objAppliedWrong)

/-- 'candlinglaw03.ObjBack': WHATEVER THE INPUT: true; the input reads as it did. -/
def objBackSpec : ChangeSpec := { name := "objBack", fn := fun _ => fun
  | [d1, d2] => { results := [.lit (.bool true)], args := [d1, d2] }
  | _ => none }
def objBackRow : OpenClaim := { program := "ytdogimleeplpkaa", sum := "4eb3f3e0f2734617683df87cbc33b8a1cb7b106733571781de02b03a8d7db8d6", func := "candling/candlinglaw03.ObjBack", spec := "objBack", inPlace := ["internal/bytealg.IndexByteString", "internal/bytealg.IndexString"], unfollowed := true, recurses := true, named := ["internal/bytealg.MaxLen"], apart := false }
def ObjBackSaid : Prop := objBackRow.holds Try.pinned (OpenSpec.ofChange objBackSpec)

/-- ITS FALSE NEIGHBOUR: 'it returns false'. Refute it at one input. -/
def objBackWrong : ChangeSpec := { name := "objBack", fn := fun _ => fun
  | [d1, d2] => { results := [.lit (.bool false)], args := [d1, d2] }
  | _ => none }
def ObjBackWrongFalsely : Prop := objBackRow.holds Try.pinned (OpenSpec.ofChange objBackWrong)

/-- 'candlinglaw03.ObjDamage': WHATEVER THE INPUT: true; the input reads as it did. -/
def objDamageSpec : ChangeSpec := { name := "objDamage", fn := fun _ => fun
  | [d1, d2, d3, d4, d5, d6, d7] => { results := [.lit (.bool true)], args := [d1, d2, d3, d4, d5, d6, d7] }
  | _ => none }
def objDamageRow : OpenClaim := { program := "ytdogimleeplpkaa", sum := "4eb3f3e0f2734617683df87cbc33b8a1cb7b106733571781de02b03a8d7db8d6", func := "candling/candlinglaw03.ObjDamage", spec := "objDamage", inPlace := ["internal/bytealg.IndexByteString", "internal/bytealg.IndexString"], unfollowed := true, recurses := true, named := ["internal/bytealg.MaxLen"], apart := false }
def ObjDamageSaid : Prop := objDamageRow.holds Try.pinned (OpenSpec.ofChange objDamageSpec)

/-- ITS FALSE NEIGHBOUR: 'it returns false'. Refute it at one input. -/
def objDamageWrong : ChangeSpec := { name := "objDamage", fn := fun _ => fun
  | [d1, d2, d3, d4, d5, d6, d7] => { results := [.lit (.bool false)], args := [d1, d2, d3, d4, d5, d6, d7] }
  | _ => none }
def ObjDamageWrongFalsely : Prop := objDamageRow.holds Try.pinned (OpenSpec.ofChange objDamageWrong)

/- THE SECOND FORM. 'bulk': how many values and letters a reading holds, each counted each time it is reached (what is shared counts as often as it is met; a slice's spare places count too). A statement '..UptoSaid' is the law's where the arguments, and the package variables that the reading takes, are together of bulk at most 1048576: NARROWER than '..Said'. Prove '..Said' where nothing that the law and all that it calls make is longer than what came in: it says more and counts as full. Else prove '..UptoSaid'. A law counts once. -/
mutual
def uptoBulk {H : Type} : DataW H → Nat
  | .lit (.string bytes) => bytes.length + 1
  | .lit _ => 1
  | .nil => 1
  | .ptr d => uptoBulk d + 1
  | .slice elems spare => uptoBulkAll elems + uptoBulkAll spare + 1
  | .agg parts => uptoBulkAll parts + 1
  | .iface _ d => uptoBulk d + 1
  | .map entries => uptoBulkEntries entries + 1
  | .held _ => 1
def uptoBulkAll {H : Type} : List (DataW H) → Nat
  | [] => 0
  | d :: r => uptoBulk d + uptoBulkAll r
def uptoBulkEntries {H : Type} : List (Lit × DataW H) → Nat
  | [] => 0
  | x :: r => uptoBulkEntry x + uptoBulkEntries r
def uptoBulkEntry {H : Type} : Lit × DataW H → Nat
  | (.string bytes, d) => bytes.length + uptoBulk d + 1
  | (_, d) => uptoBulk d + 1
 end
def uptoSmall : (H : Type) → List (DataW H) → Bool := fun _ ds => decide (uptoBulkAll ds ≤ 1048576)
def OpenSpec.upto (s : _root_.Go.ChangeSpec) : _root_.Go.OpenSpec := { _root_.Go.OpenSpec.ofChange s with cond := some uptoSmall }

/-- 'candlinglaw03.ObjLines', WHERE WHAT IT READS IS OF BULK AT MOST 1048576: true; the input reads as it did. -/
def objLinesUptoRow : OpenClaim := { program := "ytdogimleeplpkaa", sum := "4eb3f3e0f2734617683df87cbc33b8a1cb7b106733571781de02b03a8d7db8d6", func := "candling/candlinglaw03.ObjLines", spec := "objLines", inPlace := ["internal/bytealg.IndexByteString", "internal/bytealg.IndexString"], unfollowed := true, recurses := true, named := ["internal/bytealg.MaxLen"], apart := false, narrowed := true }
def ObjLinesUptoSaid : Prop := objLinesUptoRow.holds Try.pinned (OpenSpec.upto objLinesSpec)

/-- 'candlinglaw03.ObjShortest', WHERE WHAT IT READS IS OF BULK AT MOST 1048576: true; the input reads as it did. -/
def objShortestUptoRow : OpenClaim := { program := "ytdogimleeplpkaa", sum := "4eb3f3e0f2734617683df87cbc33b8a1cb7b106733571781de02b03a8d7db8d6", func := "candling/candlinglaw03.ObjShortest", spec := "objShortest", inPlace := ["internal/bytealg.IndexByteString", "internal/bytealg.IndexString"], unfollowed := true, recurses := true, named := ["internal/bytealg.MaxLen"], apart := false, narrowed := true }
def ObjShortestUptoSaid : Prop := objShortestUptoRow.holds Try.pinned (OpenSpec.upto objShortestSpec)

/-- 'candlinglaw03.ObjApplied', WHERE WHAT IT READS IS OF BULK AT MOST 1048576: true; the input reads as it did. -/
def objAppliedUptoRow : OpenClaim := { program := "ytdogimleeplpkaa", sum := "4eb3f3e0f2734617683df87cbc33b8a1cb7b106733571781de02b03a8d7db8d6", func := "candling/candlinglaw03.ObjApplied", spec := "objApplied", inPlace := ["internal/bytealg.IndexByteString", "internal/bytealg.IndexString"], unfollowed := true, recurses := true, named := ["internal/bytealg.MaxLen"], apart := false, narrowed := true }
def ObjAppliedUptoSaid : Prop := objAppliedUptoRow.holds Try.pinned (OpenSpec.upto objAppliedSpec)

/-- 'candlinglaw03.ObjBack', WHERE WHAT IT READS IS OF BULK AT MOST 1048576: true; the input reads as it did. -/
def objBackUptoRow : OpenClaim := { program := "ytdogimleeplpkaa", sum := "4eb3f3e0f2734617683df87cbc33b8a1cb7b106733571781de02b03a8d7db8d6", func := "candling/candlinglaw03.ObjBack", spec := "objBack", inPlace := ["internal/bytealg.IndexByteString", "internal/bytealg.IndexString"], unfollowed := true, recurses := true, named := ["internal/bytealg.MaxLen"], apart := false, narrowed := true }
def ObjBackUptoSaid : Prop := objBackUptoRow.holds Try.pinned (OpenSpec.upto objBackSpec)

/-- 'candlinglaw03.ObjDamage', WHERE WHAT IT READS IS OF BULK AT MOST 1048576: true; the input reads as it did. -/
def objDamageUptoRow : OpenClaim := { program := "ytdogimleeplpkaa", sum := "4eb3f3e0f2734617683df87cbc33b8a1cb7b106733571781de02b03a8d7db8d6", func := "candling/candlinglaw03.ObjDamage", spec := "objDamage", inPlace := ["internal/bytealg.IndexByteString", "internal/bytealg.IndexString"], unfollowed := true, recurses := true, named := ["internal/bytealg.MaxLen"], apart := false, narrowed := true }
def ObjDamageUptoSaid : Prop := objDamageUptoRow.holds Try.pinned (OpenSpec.upto objDamageSpec)

end Rows
end Go.Proofs.Ytdogimleeplpkaa
