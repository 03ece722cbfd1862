/-
  No cell of these rows narrows 'for every input' (looked for: loops, veiled, ifaces, maps, wideKeys, modest, calm, conditions, laid).
  DERIVED. THE GIVEN ROWS OF THIS SEAT. 8 by the template 'for every input the law returns true; each argument reads behind the call as it read before'; 0 by the template 'total and deterministic' (their statements: YtemblfgjamapbaaTotals.lean).
  GIVEN WITH THE SEED: the statements are not yours to turn. If you find one false, say at which input.
  Laid BY PROGRAM, IN A SANDBOX (cutbox-rows.mjs): the forced cells as the released guide's own fill.sh prints them over the translation 7722d8f13bf3b8e0… (all of the seat's roots in one cut). By AI agents, Wed Nov 11 2026. No macro, syntax, notation, axiom, sorry.
-/
import Derived.Test.YtemblfgjamapbaaChecked
import GoSem.Claim
import GoSem.ClaimJoined
import GoSem.ClaimMapViews
import Derived.JoinedTies
import Derived.KernelRfl
namespace Go.Proofs.Ytemblfgjamapbaa
/- THE CELL 'sum', in the pinned program and in every row, IS THE sha256 OF THE DUMP (.gsa) THAT YtemblfgjamapbaaProg.lean LOADS. Nothing in Lean hashes anything: it is a label: what it is worth is what the hold of that sum in a sandbox is worth. -/
noncomputable def Try.pinned : Pinned := { name := "ytemblfgjamapbaa", sum := "7722d8f13bf3b8e01484ee6216ae679f17150c0118157d78f14790f1da4761aa", checked := Try.checked }
namespace Rows
def none {H : Type} : Left H := { results := [], args := [] }

/-- 'candlinglaw35.UnwindStacks': WHATEVER THE INPUT: true; the input reads as it did. -/
def unwindStacksSpec : ChangeSpec := { name := "unwindStacks", fn := fun _ => fun
  | [d1, d2, d3, d4] => { results := [.lit (.bool true)], args := [d1, d2, d3, d4] }
  | _ => none }
def unwindStacksRow : OpenClaim := { program := "ytemblfgjamapbaa", sum := "7722d8f13bf3b8e01484ee6216ae679f17150c0118157d78f14790f1da4761aa", func := "candling/candlinglaw35.UnwindStacks", spec := "unwindStacks", unfollowed := true, recurses := true, apart := false }
def UnwindStacksSaid : Prop := unwindStacksRow.holds Try.pinned (OpenSpec.ofChange unwindStacksSpec)

/-- ITS FALSE NEIGHBOUR: 'it returns false'. Refute it at one input. -/
def unwindStacksWrong : ChangeSpec := { name := "unwindStacks", fn := fun _ => fun
  | [d1, d2, d3, d4] => { results := [.lit (.bool false)], args := [d1, d2, d3, d4] }
  | _ => none }
def UnwindStacksWrongFalsely : Prop := unwindStacksRow.holds Try.pinned (OpenSpec.ofChange unwindStacksWrong)

/-- 'candlinglaw35.UnwindWords': WHATEVER THE INPUT: true; the input reads as it did. -/
def unwindWordsSpec : ChangeSpec := { name := "unwindWords", fn := fun _ => fun
  | [d1, d2, d3, d4, d5] => { results := [.lit (.bool true)], args := [d1, d2, d3, d4, d5] }
  | _ => none }
def unwindWordsRow : OpenClaim := { program := "ytemblfgjamapbaa", sum := "7722d8f13bf3b8e01484ee6216ae679f17150c0118157d78f14790f1da4761aa", func := "candling/candlinglaw35.UnwindWords", spec := "unwindWords", unfollowed := true, recurses := true, apart := false }
def UnwindWordsSaid : Prop := unwindWordsRow.holds Try.pinned (OpenSpec.ofChange unwindWordsSpec)

/-- ITS FALSE NEIGHBOUR: 'it returns false'. Refute it at one input. -/
def unwindWordsWrong : ChangeSpec := { name := "unwindWords", fn := fun _ => fun
  | [d1, d2, d3, d4, d5] => { results := [.lit (.bool false)], args := [d1, d2, d3, d4, d5] }
  | _ => none }
def UnwindWordsWrongFalsely : Prop := unwindWordsRow.holds Try.pinned (OpenSpec.ofChange unwindWordsWrong)

/-- 'candlinglaw35.UnwindBrackets': WHATEVER THE INPUT: true; the input reads as it did. -/
def unwindBracketsSpec : ChangeSpec := { name := "unwindBrackets", fn := fun _ => fun
  | [d1, d2, d3] => { results := [.lit (.bool true)], args := [d1, d2, d3] }
  | _ => none }
def unwindBracketsRow : OpenClaim := { program := "ytemblfgjamapbaa", sum := "7722d8f13bf3b8e01484ee6216ae679f17150c0118157d78f14790f1da4761aa", func := "candling/candlinglaw35.UnwindBrackets", spec := "unwindBrackets", unfollowed := true, recurses := true, apart := false }
def UnwindBracketsSaid : Prop := unwindBracketsRow.holds Try.pinned (OpenSpec.ofChange unwindBracketsSpec)

/-- ITS FALSE NEIGHBOUR: 'it returns false'. Refute it at one input. -/
def unwindBracketsWrong : ChangeSpec := { name := "unwindBrackets", fn := fun _ => fun
  | [d1, d2, d3] => { results := [.lit (.bool false)], args := [d1, d2, d3] }
  | _ => none }
def UnwindBracketsWrongFalsely : Prop := unwindBracketsRow.holds Try.pinned (OpenSpec.ofChange unwindBracketsWrong)

/-- 'candlinglaw35.UnwindThreads': WHATEVER THE INPUT: true; the input reads as it did. -/
def unwindThreadsSpec : ChangeSpec := { name := "unwindThreads", fn := fun _ => fun
  | [d1, d2] => { results := [.lit (.bool true)], args := [d1, d2] }
  | _ => none }
def unwindThreadsRow : OpenClaim := { program := "ytemblfgjamapbaa", sum := "7722d8f13bf3b8e01484ee6216ae679f17150c0118157d78f14790f1da4761aa", func := "candling/candlinglaw35.UnwindThreads", spec := "unwindThreads", unfollowed := true, recurses := true, apart := false }
def UnwindThreadsSaid : Prop := unwindThreadsRow.holds Try.pinned (OpenSpec.ofChange unwindThreadsSpec)

/-- ITS FALSE NEIGHBOUR: 'it returns false'. Refute it at one input. -/
def unwindThreadsWrong : ChangeSpec := { name := "unwindThreads", fn := fun _ => fun
  | [d1, d2] => { results := [.lit (.bool false)], args := [d1, d2] }
  | _ => none }
def UnwindThreadsWrongFalsely : Prop := unwindThreadsRow.holds Try.pinned (OpenSpec.ofChange unwindThreadsWrong)

/-- 'candlinglaw35.UnwindHandlers': WHATEVER THE INPUT: true; the input reads as it did. -/
def unwindHandlersSpec : ChangeSpec := { name := "unwindHandlers", fn := fun _ => fun
  | [d1, d2, d3, d4] => { results := [.lit (.bool true)], args := [d1, d2, d3, d4] }
  | _ => none }
def unwindHandlersRow : OpenClaim := { program := "ytemblfgjamapbaa", sum := "7722d8f13bf3b8e01484ee6216ae679f17150c0118157d78f14790f1da4761aa", func := "candling/candlinglaw35.UnwindHandlers", spec := "unwindHandlers", unfollowed := true, recurses := true, apart := false }
def UnwindHandlersSaid : Prop := unwindHandlersRow.holds Try.pinned (OpenSpec.ofChange unwindHandlersSpec)

/-- ITS FALSE NEIGHBOUR: 'it returns false'. Refute it at one input. -/
def unwindHandlersWrong : ChangeSpec := { name := "unwindHandlers", fn := fun _ => fun
  | [d1, d2, d3, d4] => { results := [.lit (.bool false)], args := [d1, d2, d3, d4] }
  | _ => none }
def UnwindHandlersWrongFalsely : Prop := unwindHandlersRow.holds Try.pinned (OpenSpec.ofChange unwindHandlersWrong)

/-- 'candlinglaw35.UnwindPrefixes': WHATEVER THE INPUT: true; the input reads as it did. -/
def unwindPrefixesSpec : ChangeSpec := { name := "unwindPrefixes", fn := fun _ => fun
  | [d1, d2, d3] => { results := [.lit (.bool true)], args := [d1, d2, d3] }
  | _ => none }
def unwindPrefixesRow : OpenClaim := { program := "ytemblfgjamapbaa", sum := "7722d8f13bf3b8e01484ee6216ae679f17150c0118157d78f14790f1da4761aa", func := "candling/candlinglaw35.UnwindPrefixes", spec := "unwindPrefixes", unfollowed := true, recurses := true, apart := false }
def UnwindPrefixesSaid : Prop := unwindPrefixesRow.holds Try.pinned (OpenSpec.ofChange unwindPrefixesSpec)

/-- ITS FALSE NEIGHBOUR: 'it returns false'. Refute it at one input. -/
def unwindPrefixesWrong : ChangeSpec := { name := "unwindPrefixes", fn := fun _ => fun
  | [d1, d2, d3] => { results := [.lit (.bool false)], args := [d1, d2, d3] }
  | _ => none }
def UnwindPrefixesWrongFalsely : Prop := unwindPrefixesRow.holds Try.pinned (OpenSpec.ofChange unwindPrefixesWrong)

/-- 'candlinglaw35.UnwindScans': WHATEVER THE INPUT: true; the input reads as it did. -/
def unwindScansSpec : ChangeSpec := { name := "unwindScans", fn := fun _ => fun
  | [d1, d2, d3, d4, d5] => { results := [.lit (.bool true)], args := [d1, d2, d3, d4, d5] }
  | _ => none }
def unwindScansRow : OpenClaim := { program := "ytemblfgjamapbaa", sum := "7722d8f13bf3b8e01484ee6216ae679f17150c0118157d78f14790f1da4761aa", func := "candling/candlinglaw35.UnwindScans", spec := "unwindScans", unfollowed := true, recurses := true, apart := false }
def UnwindScansSaid : Prop := unwindScansRow.holds Try.pinned (OpenSpec.ofChange unwindScansSpec)

/-- ITS FALSE NEIGHBOUR: 'it returns false'. Refute it at one input. -/
def unwindScansWrong : ChangeSpec := { name := "unwindScans", fn := fun _ => fun
  | [d1, d2, d3, d4, d5] => { results := [.lit (.bool false)], args := [d1, d2, d3, d4, d5] }
  | _ => none }
def UnwindScansWrongFalsely : Prop := unwindScansRow.holds Try.pinned (OpenSpec.ofChange unwindScansWrong)

/-- 'candlinglaw35.UnwindFrames': WHATEVER THE INPUT: true; the input reads as it did. -/
def unwindFramesSpec : ChangeSpec := { name := "unwindFrames", fn := fun _ => fun
  | [d1, d2, d3, d4, d5, d6] => { results := [.lit (.bool true)], args := [d1, d2, d3, d4, d5, d6] }
  | _ => none }
def unwindFramesRow : OpenClaim := { program := "ytemblfgjamapbaa", sum := "7722d8f13bf3b8e01484ee6216ae679f17150c0118157d78f14790f1da4761aa", func := "candling/candlinglaw35.UnwindFrames", spec := "unwindFrames", unfollowed := true, recurses := true, apart := false }
def UnwindFramesSaid : Prop := unwindFramesRow.holds Try.pinned (OpenSpec.ofChange unwindFramesSpec)

/-- ITS FALSE NEIGHBOUR: 'it returns false'. Refute it at one input. -/
def unwindFramesWrong : ChangeSpec := { name := "unwindFrames", fn := fun _ => fun
  | [d1, d2, d3, d4, d5, d6] => { results := [.lit (.bool false)], args := [d1, d2, d3, d4, d5, d6] }
  | _ => none }
def UnwindFramesWrongFalsely : Prop := unwindFramesRow.holds Try.pinned (OpenSpec.ofChange unwindFramesWrong)

/- THE SECOND FORM. 'bulk': how many values and letters a reading holds, each counted each time it is reached (what is shared counts as often as it is met; a slice's spare places count too). A statement '..UptoSaid' is the law's where the arguments, and the package variables that the reading takes, are together of bulk at most 1048576: NARROWER than '..Said'. Prove '..Said' where nothing that the law and all that it calls make is longer than what came in: it says more and counts as full. Else prove '..UptoSaid'. A law counts once. -/
mutual
def uptoBulk {H : Type} : DataW H → Nat
  | .lit (.string bytes) => bytes.length + 1
  | .lit _ => 1
  | .nil => 1
  | .ptr d => uptoBulk d + 1
  | .slice elems spare => uptoBulkAll elems + uptoBulkAll spare + 1
  | .agg parts => uptoBulkAll parts + 1
  | .iface _ d => uptoBulk d + 1
  | .map entries => uptoBulkEntries entries + 1
  | .held _ => 1
def uptoBulkAll {H : Type} : List (DataW H) → Nat
  | [] => 0
  | d :: r => uptoBulk d + uptoBulkAll r
def uptoBulkEntries {H : Type} : List (Lit × DataW H) → Nat
  | [] => 0
  | x :: r => uptoBulkEntry x + uptoBulkEntries r
def uptoBulkEntry {H : Type} : Lit × DataW H → Nat
  | (.string bytes, d) => bytes.length + uptoBulk d + 1
  | (_, d) => uptoBulk d + 1
 end
def uptoSmall : (H : Type) → List (DataW H) → Bool := fun _ ds => decide (uptoBulkAll ds ≤ 1048576)
def OpenSpec.upto (s : _root_.Go.ChangeSpec) : _root_.Go.OpenSpec := { _root_.Go.OpenSpec.ofChange s with cond := some uptoSmall }

/-- 'candlinglaw35.UnwindStacks', WHERE WHAT IT READS IS OF BULK AT MOST 1048576: true; the input reads as it did. -/
def unwindStacksUptoRow : OpenClaim := { program := "ytemblfgjamapbaa", sum := "7722d8f13bf3b8e01484ee6216ae679f17150c0118157d78f14790f1da4761aa", func := "candling/candlinglaw35.UnwindStacks", spec := "unwindStacks", unfollowed := true, recurses := true, apart := false, narrowed := true }
def UnwindStacksUptoSaid : Prop := unwindStacksUptoRow.holds Try.pinned (OpenSpec.upto unwindStacksSpec)

/-- 'candlinglaw35.UnwindWords', WHERE WHAT IT READS IS OF BULK AT MOST 1048576: true; the input reads as it did. -/
def unwindWordsUptoRow : OpenClaim := { program := "ytemblfgjamapbaa", sum := "7722d8f13bf3b8e01484ee6216ae679f17150c0118157d78f14790f1da4761aa", func := "candling/candlinglaw35.UnwindWords", spec := "unwindWords", unfollowed := true, recurses := true, apart := false, narrowed := true }
def UnwindWordsUptoSaid : Prop := unwindWordsUptoRow.holds Try.pinned (OpenSpec.upto unwindWordsSpec)

/-- 'candlinglaw35.UnwindBrackets', WHERE WHAT IT READS IS OF BULK AT MOST 1048576: true; the input reads as it did. -/
def unwindBracketsUptoRow : OpenClaim := { program := "ytemblfgjamapbaa", sum := "7722d8f13bf3b8e01484ee6216ae679f17150c0118157d78f14790f1da4761aa", func := "candling/candlinglaw35.UnwindBrackets", spec := "unwindBrackets", unfollowed := true, recurses := true, apart := false, narrowed := true }
def UnwindBracketsUptoSaid : Prop := unwindBracketsUptoRow.holds Try.pinned (OpenSpec.upto unwindBracketsSpec)

/-- 'candlinglaw35.UnwindThreads', WHERE WHAT IT READS IS OF BULK AT MOST 1048576: true; the input reads as it did. -/
def unwindThreadsUptoRow : OpenClaim := { program := "ytemblfgjamapbaa", sum := "7722d8f13bf3b8e01484ee6216ae679f17150c0118157d78f14790f1da4761aa", func := "candling/candlinglaw35.UnwindThreads", spec := "unwindThreads", unfollowed := true, recurses := true, apart := false, narrowed := true }
def UnwindThreadsUptoSaid : Prop := unwindThreadsUptoRow.holds Try.pinned (OpenSpec.upto unwindThreadsSpec)

/-- 'candlinglaw35.UnwindHandlers', WHERE WHAT IT READS IS OF BULK AT MOST 1048576: true; the input reads as it did. -/
def unwindHandlersUptoRow : OpenClaim := { program := "ytemblfgjamapbaa", sum := "7722d8f13bf3b8e01484ee6216ae679f17150c0118157d78f14790f1da4761aa", func := "candling/candlinglaw35.UnwindHandlers", spec := "unwindHandlers", unfollowed := true, recurses := true, apart := false, narrowed := true }
def UnwindHandlersUptoSaid : Prop := unwindHandlersUptoRow.holds Try.pinned (OpenSpec.upto unwindHandlersSpec)

/-- 'candlinglaw35.UnwindPrefixes', WHERE WHAT IT READS IS OF BULK AT MOST 1048576: true; the input reads as it did. -/
def unwindPrefixesUptoRow : OpenClaim := { program := "ytemblfgjamapbaa", sum := "7722d8f13bf3b8e01484ee6216ae679f17150c0118157d78f14790f1da4761aa", func := "candling/candlinglaw35.UnwindPrefixes", spec := "unwindPrefixes", unfollowed := true, recurses := true, apart := false, narrowed := true }
def UnwindPrefixesUptoSaid : Prop := unwindPrefixesUptoRow.holds Try.pinned (OpenSpec.upto unwindPrefixesSpec)

/-- 'candlinglaw35.UnwindScans', WHERE WHAT IT READS IS OF BULK AT MOST 1048576: true; the input reads as it did. -/
def unwindScansUptoRow : OpenClaim := { program := "ytemblfgjamapbaa", sum := "7722d8f13bf3b8e01484ee6216ae679f17150c0118157d78f14790f1da4761aa", func := "candling/candlinglaw35.UnwindScans", spec := "unwindScans", unfollowed := true, recurses := true, apart := false, narrowed := true }
def UnwindScansUptoSaid : Prop := unwindScansUptoRow.holds Try.pinned (OpenSpec.upto unwindScansSpec)

/-- 'candlinglaw35.UnwindFrames', WHERE WHAT IT READS IS OF BULK AT MOST 1048576: true; the input reads as it did. -/
def unwindFramesUptoRow : OpenClaim := { program := "ytemblfgjamapbaa", sum := "7722d8f13bf3b8e01484ee6216ae679f17150c0118157d78f14790f1da4761aa", func := "candling/candlinglaw35.UnwindFrames", spec := "unwindFrames", unfollowed := true, recurses := true, apart := false, narrowed := true }
def UnwindFramesUptoSaid : Prop := unwindFramesUptoRow.holds Try.pinned (OpenSpec.upto unwindFramesSpec)

end Rows
end Go.Proofs.Ytemblfgjamapbaa
