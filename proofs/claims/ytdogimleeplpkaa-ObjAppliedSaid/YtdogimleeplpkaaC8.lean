/- ObjApplied, for every input: the law answers true, and its arguments read as they did. -/
import Derived.Test.YtdogimleeplpkaaChecked
import Derived.Test.YtdogimleeplpkaaRows
import Derived.ProofKit
import Derived.JoinedCond
import Derived.Handed
import Derived.JoinedOf
import Derived.Test.YtdogimleeplpkaaC7
set_option linter.unusedSectionVars false
set_option linter.unusedSimpArgs false
set_option linter.unusedVariables false
set_option maxRecDepth 100000
set_option maxRecDepth 1000000
noncomputable section
/- Bytes: slices.Clone and bytes.Equal. -/
namespace Go.Ev
open Go.Proofs
def Try.E1 : Env := Try.env0 false (sumsOf []) (keepF 0 [])
def Try.nzB : List Con := [.ints .u8 []]
def Try.nzB2 : List Con := [.ints .u8 [], .ints .u8 []]
def cloneBS (args : List AV) : Ans (AV × Heap) := match args with
  | [.ro (.ints .u8 l) cap] => .grd (Nat.ble l.length 1000000) (.out (.own 0 0 l.length none 1, oneH (.ints .u8 l)))
  | _ => .no
def Try.AClone : AFun := pureA (fun args => cloneBS (nzs Try.nzB args))
def eqBS (args : List AV) : Ans (AV × Heap) := match args with
  | [.ro (.ints .u8 l) c1, .ro (.ints .u8 m) c2] => .out (.val (.bool ((strOf l).toList == (strOf m).toList)), ⟨0, []⟩)
  | _ => .no
def Try.AEqual : AFun := pureA (fun args => eqBS (nzs Try.nzB2 args))
theorem Try.e1 : EnvOk2 Try.prog Try.E1 := Try.envOk false (sumsOf []) _ (fun g A h => by cases h)
theorem Try.rClonea (x : Int) (l : List Int) (cap : Option Nat) : rootS Try.E1 3 16 (lsumsOf []) [.ro (.ints .u8 (x :: l)) cap] =
 bif ((0 + (x :: l).length) * 1).ble most && (0 + (x :: l).length).ble most then
 some (.own 0 0 (0 + (x :: l).length) none 1, ⟨1, [⟨0, 0, .cells (.ints .u8 ([] ++ x :: l))⟩]⟩)
 else
 none := by kernel_rfl
theorem Try.rCloneb (m : Nat) : rootS Try.E1 3 16 (lsumsOf []) [.val (.slice none 0 m)] =
 some (.val (.slice none 0 0), ⟨0, []⟩) := by kernel_rfl
theorem Try.rClonec (p : Addr) (m : Nat) : rootS Try.E1 3 16 (lsumsOf []) [.val (.slice (some p) 0 m)] =
 some (.own 0 0 (0) none 1, ⟨1, [⟨0, 0, .cells (.ints .u8 ([]))⟩]⟩) := by kernel_rfl
theorem Try.rEqual (l m : List Int) (c1 c2 : Option Nat) : rootS Try.E1 3 13 (lsumsOf []) [.ro (.ints .u8 l) c1, .ro (.ints .u8 m) c2] =
 bif (strOf l).toList == (strOf m).toList then
 some (.val (.bool true), ⟨0, []⟩)
 else
 some (.val (.bool false), ⟨0, []⟩) := by kernel_rfl
end Go.Ev
/- obj.Apply and its specification, for each kind. -/
namespace Go.Ev
open Go.Proofs
def Try.tAp : List (Nat × AFun) := [(16, Try.AClone)]
def Try.EAp : Env := Try.env0 false (sumsOf Try.tAp) (keepF 0 [])
theorem Try.rAp1 (b : List Int) (cap : Option Nat) (off s add p : Int) : rootS Try.EAp 4 17 (lsumsOf []) [.ro (.ints .u8 b) cap, .val (.int .i64 off), .val (.int .i64 1), .val (.int .u32 s), .val (.int .i64 add), .val (.int .u32 p)] =
 bif decide (add ≥ -2147483648) then
 bif decide (add ≤ 2147483647) then
 bif decide (off ≥ 0) then
 bif decide (off ≤ (↑b.length : Int)) then
 bif decide (IntKind.i64.wrap ((↑b.length : Int) - off) < 4) then
 some (.tup [.val (.slice none 0 0), .val (.int .i64 1)], ⟨0, []⟩)
 else
 bif b.length.ble 1000000 then
 bif inR (IntKind.i64.wrap (off + 0)) b.length then
 bif (0 + (IntKind.i64.wrap (off + 0)).toNat).blt b.length then
 bif inR (IntKind.i64.wrap (off + 1)) b.length then
 bif (0 + (IntKind.i64.wrap (off + 1)).toNat).blt (b.set (0 + (IntKind.i64.wrap (off + 0)).toNat) (IntKind.u8.wrap ((IntKind.i64.wrap (IntKind.i64.wrap s + add)).fdiv 1))).length then
 bif inR (IntKind.i64.wrap (off + 2)) b.length then
 bif (0 + (IntKind.i64.wrap (off + 2)).toNat).blt ((b.set (0 + (IntKind.i64.wrap (off + 0)).toNat) (IntKind.u8.wrap ((IntKind.i64.wrap (IntKind.i64.wrap s + add)).fdiv 1))).set (0 + (IntKind.i64.wrap (off + 1)).toNat) (IntKind.u8.wrap ((IntKind.i64.wrap (IntKind.i64.wrap s + add)).fdiv 256))).length then
 bif inR (IntKind.i64.wrap (off + 3)) b.length then
 bif (0 + (IntKind.i64.wrap (off + 3)).toNat).blt (((b.set (0 + (IntKind.i64.wrap (off + 0)).toNat) (IntKind.u8.wrap ((IntKind.i64.wrap (IntKind.i64.wrap s + add)).fdiv 1))).set (0 + (IntKind.i64.wrap (off + 1)).toNat) (IntKind.u8.wrap ((IntKind.i64.wrap (IntKind.i64.wrap s + add)).fdiv 256))).set (0 + (IntKind.i64.wrap (off + 2)).toNat) (IntKind.u8.wrap ((IntKind.i64.wrap (IntKind.i64.wrap s + add)).fdiv 65536))).length then
 some (.tup [.own 0 0 (b.length) none 1, .val (.int .i64 0)], ⟨1, [⟨0, 0, .cells (.ints .u8 ((((b.set (0 + (IntKind.i64.wrap (off + 0)).toNat) (IntKind.u8.wrap ((IntKind.i64.wrap (IntKind.i64.wrap s + add)).fdiv 1))).set (0 + (IntKind.i64.wrap (off + 1)).toNat) (IntKind.u8.wrap ((IntKind.i64.wrap (IntKind.i64.wrap s + add)).fdiv 256))).set (0 + (IntKind.i64.wrap (off + 2)).toNat) (IntKind.u8.wrap ((IntKind.i64.wrap (IntKind.i64.wrap s + add)).fdiv 65536))).set (0 + (IntKind.i64.wrap (off + 3)).toNat) (IntKind.u8.wrap ((IntKind.i64.wrap (IntKind.i64.wrap s + add)).fdiv 16777216))))⟩]⟩)
 else
 none
 else
 none
 else
 none
 else
 none
 else
 none
 else
 none
 else
 none
 else
 none
 else
 none
 else
 some (.tup [.val (.slice none 0 0), .val (.int .i64 1)], ⟨0, []⟩)
 else
 some (.tup [.val (.slice none 0 0), .val (.int .i64 1)], ⟨0, []⟩)
 else
 some (.tup [.val (.slice none 0 0), .val (.int .i64 1)], ⟨0, []⟩)
 else
 some (.tup [.val (.slice none 0 0), .val (.int .i64 1)], ⟨0, []⟩) := by kernel_rfl
theorem Try.rAp2 (b : List Int) (cap : Option Nat) (off s add p : Int) : rootS Try.EAp 4 17 (lsumsOf []) [.ro (.ints .u8 b) cap, .val (.int .i64 off), .val (.int .i64 2), .val (.int .u32 s), .val (.int .i64 add), .val (.int .u32 p)] =
 bif decide (add ≥ -2147483648) then
 bif decide (add ≤ 2147483647) then
 bif decide (off ≥ 0) then
 bif decide (off ≤ (↑b.length : Int)) then
 bif decide (IntKind.i64.wrap ((↑b.length : Int) - off) < 2) then
 some (.tup [.val (.slice none 0 0), .val (.int .i64 1)], ⟨0, []⟩)
 else
 bif decide (IntKind.i64.wrap (IntKind.i64.wrap s + add) ≥ -32768) then
 bif decide (IntKind.i64.wrap (IntKind.i64.wrap s + add) ≤ 65535) then
 bif b.length.ble 1000000 then
 bif inR (IntKind.i64.wrap (off + 0)) b.length then
 bif (0 + (IntKind.i64.wrap (off + 0)).toNat).blt b.length then
 bif inR (IntKind.i64.wrap (off + 1)) b.length then
 bif (0 + (IntKind.i64.wrap (off + 1)).toNat).blt (b.set (0 + (IntKind.i64.wrap (off + 0)).toNat) (IntKind.u8.wrap ((IntKind.i64.wrap (IntKind.i64.wrap s + add)).fdiv 1))).length then
 some (.tup [.own 0 0 (b.length) none 1, .val (.int .i64 0)], ⟨1, [⟨0, 0, .cells (.ints .u8 ((b.set (0 + (IntKind.i64.wrap (off + 0)).toNat) (IntKind.u8.wrap ((IntKind.i64.wrap (IntKind.i64.wrap s + add)).fdiv 1))).set (0 + (IntKind.i64.wrap (off + 1)).toNat) (IntKind.u8.wrap ((IntKind.i64.wrap (IntKind.i64.wrap s + add)).fdiv 256))))⟩]⟩)
 else
 none
 else
 none
 else
 none
 else
 none
 else
 none
 else
 some (.tup [.val (.slice none 0 0), .val (.int .i64 32)], ⟨0, []⟩)
 else
 some (.tup [.val (.slice none 0 0), .val (.int .i64 32)], ⟨0, []⟩)
 else
 some (.tup [.val (.slice none 0 0), .val (.int .i64 1)], ⟨0, []⟩)
 else
 some (.tup [.val (.slice none 0 0), .val (.int .i64 1)], ⟨0, []⟩)
 else
 some (.tup [.val (.slice none 0 0), .val (.int .i64 1)], ⟨0, []⟩)
 else
 some (.tup [.val (.slice none 0 0), .val (.int .i64 1)], ⟨0, []⟩) := by kernel_rfl
theorem Try.rAp3 (b : List Int) (cap : Option Nat) (off s add p : Int) : rootS Try.EAp 4 17 (lsumsOf []) [.ro (.ints .u8 b) cap, .val (.int .i64 off), .val (.int .i64 3), .val (.int .u32 s), .val (.int .i64 add), .val (.int .u32 p)] =
 bif decide (add ≥ -2147483648) then
 bif decide (add ≤ 2147483647) then
 bif decide (off ≥ 0) then
 bif decide (off ≤ (↑b.length : Int)) then
 bif decide (IntKind.i64.wrap ((↑b.length : Int) - off) < 1) then
 some (.tup [.val (.slice none 0 0), .val (.int .i64 1)], ⟨0, []⟩)
 else
 bif decide (IntKind.i64.wrap (IntKind.i64.wrap s + add) ≥ -128) then
 bif decide (IntKind.i64.wrap (IntKind.i64.wrap s + add) ≤ 255) then
 bif b.length.ble 1000000 then
 bif inR (IntKind.i64.wrap (off + 0)) b.length then
 bif (0 + (IntKind.i64.wrap (off + 0)).toNat).blt b.length then
 some (.tup [.own 0 0 (b.length) none 1, .val (.int .i64 0)], ⟨1, [⟨0, 0, .cells (.ints .u8 (b.set (0 + (IntKind.i64.wrap (off + 0)).toNat) (IntKind.u8.wrap ((IntKind.i64.wrap (IntKind.i64.wrap s + add)).fdiv 1))))⟩]⟩)
 else
 none
 else
 none
 else
 none
 else
 some (.tup [.val (.slice none 0 0), .val (.int .i64 32)], ⟨0, []⟩)
 else
 some (.tup [.val (.slice none 0 0), .val (.int .i64 32)], ⟨0, []⟩)
 else
 some (.tup [.val (.slice none 0 0), .val (.int .i64 1)], ⟨0, []⟩)
 else
 some (.tup [.val (.slice none 0 0), .val (.int .i64 1)], ⟨0, []⟩)
 else
 some (.tup [.val (.slice none 0 0), .val (.int .i64 1)], ⟨0, []⟩)
 else
 some (.tup [.val (.slice none 0 0), .val (.int .i64 1)], ⟨0, []⟩) := by kernel_rfl
theorem Try.rAp4 (b : List Int) (cap : Option Nat) (off s add p : Int) : rootS Try.EAp 4 17 (lsumsOf []) [.ro (.ints .u8 b) cap, .val (.int .i64 off), .val (.int .i64 4), .val (.int .u32 s), .val (.int .i64 add), .val (.int .u32 p)] =
 bif decide (add ≥ -2147483648) then
 bif decide (add ≤ 2147483647) then
 bif decide (off ≥ 0) then
 bif decide (off ≤ (↑b.length : Int)) then
 bif decide (IntKind.i64.wrap ((↑b.length : Int) - off) < 4) then
 some (.tup [.val (.slice none 0 0), .val (.int .i64 1)], ⟨0, []⟩)
 else
 bif b.length.ble 1000000 then
 bif inR (IntKind.i64.wrap (off + 0)) b.length then
 bif (0 + (IntKind.i64.wrap (off + 0)).toNat).blt b.length then
 bif inR (IntKind.i64.wrap (off + 1)) b.length then
 bif (0 + (IntKind.i64.wrap (off + 1)).toNat).blt (b.set (0 + (IntKind.i64.wrap (off + 0)).toNat) (IntKind.u8.wrap ((IntKind.i64.wrap (IntKind.i64.wrap (IntKind.i64.wrap s + add) - IntKind.i64.wrap p)).fdiv 1))).length then
 bif inR (IntKind.i64.wrap (off + 2)) b.length then
 bif (0 + (IntKind.i64.wrap (off + 2)).toNat).blt ((b.set (0 + (IntKind.i64.wrap (off + 0)).toNat) (IntKind.u8.wrap ((IntKind.i64.wrap (IntKind.i64.wrap (IntKind.i64.wrap s + add) - IntKind.i64.wrap p)).fdiv 1))).set (0 + (IntKind.i64.wrap (off + 1)).toNat) (IntKind.u8.wrap ((IntKind.i64.wrap (IntKind.i64.wrap (IntKind.i64.wrap s + add) - IntKind.i64.wrap p)).fdiv 256))).length then
 bif inR (IntKind.i64.wrap (off + 3)) b.length then
 bif (0 + (IntKind.i64.wrap (off + 3)).toNat).blt (((b.set (0 + (IntKind.i64.wrap (off + 0)).toNat) (IntKind.u8.wrap ((IntKind.i64.wrap (IntKind.i64.wrap (IntKind.i64.wrap s + add) - IntKind.i64.wrap p)).fdiv 1))).set (0 + (IntKind.i64.wrap (off + 1)).toNat) (IntKind.u8.wrap ((IntKind.i64.wrap (IntKind.i64.wrap (IntKind.i64.wrap s + add) - IntKind.i64.wrap p)).fdiv 256))).set (0 + (IntKind.i64.wrap (off + 2)).toNat) (IntKind.u8.wrap ((IntKind.i64.wrap (IntKind.i64.wrap (IntKind.i64.wrap s + add) - IntKind.i64.wrap p)).fdiv 65536))).length then
 some (.tup [.own 0 0 (b.length) none 1, .val (.int .i64 0)], ⟨1, [⟨0, 0, .cells (.ints .u8 ((((b.set (0 + (IntKind.i64.wrap (off + 0)).toNat) (IntKind.u8.wrap ((IntKind.i64.wrap (IntKind.i64.wrap (IntKind.i64.wrap s + add) - IntKind.i64.wrap p)).fdiv 1))).set (0 + (IntKind.i64.wrap (off + 1)).toNat) (IntKind.u8.wrap ((IntKind.i64.wrap (IntKind.i64.wrap (IntKind.i64.wrap s + add) - IntKind.i64.wrap p)).fdiv 256))).set (0 + (IntKind.i64.wrap (off + 2)).toNat) (IntKind.u8.wrap ((IntKind.i64.wrap (IntKind.i64.wrap (IntKind.i64.wrap s + add) - IntKind.i64.wrap p)).fdiv 65536))).set (0 + (IntKind.i64.wrap (off + 3)).toNat) (IntKind.u8.wrap ((IntKind.i64.wrap (IntKind.i64.wrap (IntKind.i64.wrap s + add) - IntKind.i64.wrap p)).fdiv 16777216))))⟩]⟩)
 else
 none
 else
 none
 else
 none
 else
 none
 else
 none
 else
 none
 else
 none
 else
 none
 else
 none
 else
 some (.tup [.val (.slice none 0 0), .val (.int .i64 1)], ⟨0, []⟩)
 else
 some (.tup [.val (.slice none 0 0), .val (.int .i64 1)], ⟨0, []⟩)
 else
 some (.tup [.val (.slice none 0 0), .val (.int .i64 1)], ⟨0, []⟩)
 else
 some (.tup [.val (.slice none 0 0), .val (.int .i64 1)], ⟨0, []⟩) := by kernel_rfl
theorem Try.rAp5 (b : List Int) (cap : Option Nat) (off s add p : Int) : rootS Try.EAp 4 17 (lsumsOf []) [.ro (.ints .u8 b) cap, .val (.int .i64 off), .val (.int .i64 5), .val (.int .u32 s), .val (.int .i64 add), .val (.int .u32 p)] =
 bif decide (add ≥ -2147483648) then
 bif decide (add ≤ 2147483647) then
 bif decide (off ≥ 0) then
 bif decide (off ≤ (↑b.length : Int)) then
 bif decide (IntKind.i64.wrap ((↑b.length : Int) - off) < 4) then
 some (.tup [.val (.slice none 0 0), .val (.int .i64 1)], ⟨0, []⟩)
 else
 bif b.length.ble 1000000 then
 bif inR (IntKind.i64.wrap (off + 0)) b.length then
 bif (0 + (IntKind.i64.wrap (off + 0)).toNat).blt b.length then
 bif inR (IntKind.i64.wrap (off + 1)) b.length then
 bif (0 + (IntKind.i64.wrap (off + 1)).toNat).blt (b.set (0 + (IntKind.i64.wrap (off + 0)).toNat) (IntKind.u8.wrap ((IntKind.i64.wrap (IntKind.u32.wrap ((IntKind.u32.wrap (IntKind.i64.wrap (IntKind.i64.wrap s + add))).tdiv 256))).fdiv 1))).length then
 bif inR (IntKind.i64.wrap (off + 2)) b.length then
 bif (0 + (IntKind.i64.wrap (off + 2)).toNat).blt ((b.set (0 + (IntKind.i64.wrap (off + 0)).toNat) (IntKind.u8.wrap ((IntKind.i64.wrap (IntKind.u32.wrap ((IntKind.u32.wrap (IntKind.i64.wrap (IntKind.i64.wrap s + add))).tdiv 256))).fdiv 1))).set (0 + (IntKind.i64.wrap (off + 1)).toNat) (IntKind.u8.wrap ((IntKind.i64.wrap (IntKind.u32.wrap ((IntKind.u32.wrap (IntKind.i64.wrap (IntKind.i64.wrap s + add))).tdiv 256))).fdiv 256))).length then
 bif inR (IntKind.i64.wrap (off + 3)) b.length then
 bif (0 + (IntKind.i64.wrap (off + 3)).toNat).blt (((b.set (0 + (IntKind.i64.wrap (off + 0)).toNat) (IntKind.u8.wrap ((IntKind.i64.wrap (IntKind.u32.wrap ((IntKind.u32.wrap (IntKind.i64.wrap (IntKind.i64.wrap s + add))).tdiv 256))).fdiv 1))).set (0 + (IntKind.i64.wrap (off + 1)).toNat) (IntKind.u8.wrap ((IntKind.i64.wrap (IntKind.u32.wrap ((IntKind.u32.wrap (IntKind.i64.wrap (IntKind.i64.wrap s + add))).tdiv 256))).fdiv 256))).set (0 + (IntKind.i64.wrap (off + 2)).toNat) (IntKind.u8.wrap ((IntKind.i64.wrap (IntKind.u32.wrap ((IntKind.u32.wrap (IntKind.i64.wrap (IntKind.i64.wrap s + add))).tdiv 256))).fdiv 65536))).length then
 some (.tup [.own 0 0 (b.length) none 1, .val (.int .i64 0)], ⟨1, [⟨0, 0, .cells (.ints .u8 ((((b.set (0 + (IntKind.i64.wrap (off + 0)).toNat) (IntKind.u8.wrap ((IntKind.i64.wrap (IntKind.u32.wrap ((IntKind.u32.wrap (IntKind.i64.wrap (IntKind.i64.wrap s + add))).tdiv 256))).fdiv 1))).set (0 + (IntKind.i64.wrap (off + 1)).toNat) (IntKind.u8.wrap ((IntKind.i64.wrap (IntKind.u32.wrap ((IntKind.u32.wrap (IntKind.i64.wrap (IntKind.i64.wrap s + add))).tdiv 256))).fdiv 256))).set (0 + (IntKind.i64.wrap (off + 2)).toNat) (IntKind.u8.wrap ((IntKind.i64.wrap (IntKind.u32.wrap ((IntKind.u32.wrap (IntKind.i64.wrap (IntKind.i64.wrap s + add))).tdiv 256))).fdiv 65536))).set (0 + (IntKind.i64.wrap (off + 3)).toNat) (IntKind.u8.wrap ((IntKind.i64.wrap (IntKind.u32.wrap ((IntKind.u32.wrap (IntKind.i64.wrap (IntKind.i64.wrap s + add))).tdiv 256))).fdiv 16777216))))⟩]⟩)
 else
 none
 else
 none
 else
 none
 else
 none
 else
 none
 else
 none
 else
 none
 else
 none
 else
 none
 else
 some (.tup [.val (.slice none 0 0), .val (.int .i64 1)], ⟨0, []⟩)
 else
 some (.tup [.val (.slice none 0 0), .val (.int .i64 1)], ⟨0, []⟩)
 else
 some (.tup [.val (.slice none 0 0), .val (.int .i64 1)], ⟨0, []⟩)
 else
 some (.tup [.val (.slice none 0 0), .val (.int .i64 1)], ⟨0, []⟩) := by kernel_rfl
theorem Try.rRp1 (b : List Int) (cap : Option Nat) (off s add p : Int) : rootS Try.EAp 4 18 (lsumsOf []) [.ro (.ints .u8 b) cap, .val (.int .i64 off), .val (.int .i64 1), .val (.int .u32 s), .val (.int .i64 add), .val (.int .u32 p)] =
 bif decide (add ≥ -2147483648) then
 bif decide (add ≤ 2147483647) then
 bif decide (off < 0) then
 some (.tup [.val (.slice none 0 0), .val (.int .i64 1)], ⟨0, []⟩)
 else
 bif decide (off > (↑b.length : Int)) then
 some (.tup [.val (.slice none 0 0), .val (.int .i64 1)], ⟨0, []⟩)
 else
 bif decide (IntKind.i64.wrap (off + 4) > (↑b.length : Int)) then
 some (.tup [.val (.slice none 0 0), .val (.int .i64 1)], ⟨0, []⟩)
 else
 bif ownNew (some 0) 0 b.length then
 bif ((0 + b.length) * 1).ble most && (0 + b.length).ble most then
 bif inR (IntKind.i64.wrap (off + 0)) (0 + b.length) then
 bif (0 + (IntKind.i64.wrap (off + 0)).toNat).blt ([] ++ b).length then
 bif inR (IntKind.i64.wrap (off + 1)) (0 + b.length) then
 bif (0 + (IntKind.i64.wrap (off + 1)).toNat).blt (([] ++ b).set (0 + (IntKind.i64.wrap (off + 0)).toNat) (IntKind.u8.wrap (IntKind.u32.wrap (IntKind.i64.wrap (IntKind.i64.wrap s + add))))).length then
 bif inR (IntKind.i64.wrap (off + 2)) (0 + b.length) then
 bif (0 + (IntKind.i64.wrap (off + 2)).toNat).blt ((([] ++ b).set (0 + (IntKind.i64.wrap (off + 0)).toNat) (IntKind.u8.wrap (IntKind.u32.wrap (IntKind.i64.wrap (IntKind.i64.wrap s + add))))).set (0 + (IntKind.i64.wrap (off + 1)).toNat) (IntKind.u8.wrap ((IntKind.u32.wrap (IntKind.i64.wrap (IntKind.i64.wrap s + add))).fdiv 256))).length then
 bif inR (IntKind.i64.wrap (off + 3)) (0 + b.length) then
 bif (0 + (IntKind.i64.wrap (off + 3)).toNat).blt (((([] ++ b).set (0 + (IntKind.i64.wrap (off + 0)).toNat) (IntKind.u8.wrap (IntKind.u32.wrap (IntKind.i64.wrap (IntKind.i64.wrap s + add))))).set (0 + (IntKind.i64.wrap (off + 1)).toNat) (IntKind.u8.wrap ((IntKind.u32.wrap (IntKind.i64.wrap (IntKind.i64.wrap s + add))).fdiv 256))).set (0 + (IntKind.i64.wrap (off + 2)).toNat) (IntKind.u8.wrap (((IntKind.u32.wrap (IntKind.i64.wrap (IntKind.i64.wrap s + add))).fdiv 256).fdiv 256))).length then
 some (.tup [.own 0 0 (0 + b.length) none 1, .val (.int .i64 0)], ⟨1, [⟨0, 0, .cells (.ints .u8 ((((([] ++ b).set (0 + (IntKind.i64.wrap (off + 0)).toNat) (IntKind.u8.wrap (IntKind.u32.wrap (IntKind.i64.wrap (IntKind.i64.wrap s + add))))).set (0 + (IntKind.i64.wrap (off + 1)).toNat) (IntKind.u8.wrap ((IntKind.u32.wrap (IntKind.i64.wrap (IntKind.i64.wrap s + add))).fdiv 256))).set (0 + (IntKind.i64.wrap (off + 2)).toNat) (IntKind.u8.wrap (((IntKind.u32.wrap (IntKind.i64.wrap (IntKind.i64.wrap s + add))).fdiv 256).fdiv 256))).set (0 + (IntKind.i64.wrap (off + 3)).toNat) (IntKind.u8.wrap ((((IntKind.u32.wrap (IntKind.i64.wrap (IntKind.i64.wrap s + add))).fdiv 256).fdiv 256).fdiv 256))))⟩]⟩)
 else
 none
 else
 none
 else
 none
 else
 none
 else
 none
 else
 none
 else
 none
 else
 none
 else
 none
 else
 bif ((0 + b.length) * 1).ble most && (0 + b.length).ble most then
 bif inR (IntKind.i64.wrap (off + 0)) (0 + b.length) then
 bif (0 + (IntKind.i64.wrap (off + 0)).toNat).blt ([] ++ b).length then
 bif inR (IntKind.i64.wrap (off + 1)) (0 + b.length) then
 bif (0 + (IntKind.i64.wrap (off + 1)).toNat).blt (([] ++ b).set (0 + (IntKind.i64.wrap (off + 0)).toNat) (IntKind.u8.wrap (IntKind.u32.wrap (IntKind.i64.wrap (IntKind.i64.wrap s + add))))).length then
 bif inR (IntKind.i64.wrap (off + 2)) (0 + b.length) then
 bif (0 + (IntKind.i64.wrap (off + 2)).toNat).blt ((([] ++ b).set (0 + (IntKind.i64.wrap (off + 0)).toNat) (IntKind.u8.wrap (IntKind.u32.wrap (IntKind.i64.wrap (IntKind.i64.wrap s + add))))).set (0 + (IntKind.i64.wrap (off + 1)).toNat) (IntKind.u8.wrap ((IntKind.u32.wrap (IntKind.i64.wrap (IntKind.i64.wrap s + add))).fdiv 256))).length then
 bif inR (IntKind.i64.wrap (off + 3)) (0 + b.length) then
 bif (0 + (IntKind.i64.wrap (off + 3)).toNat).blt (((([] ++ b).set (0 + (IntKind.i64.wrap (off + 0)).toNat) (IntKind.u8.wrap (IntKind.u32.wrap (IntKind.i64.wrap (IntKind.i64.wrap s + add))))).set (0 + (IntKind.i64.wrap (off + 1)).toNat) (IntKind.u8.wrap ((IntKind.u32.wrap (IntKind.i64.wrap (IntKind.i64.wrap s + add))).fdiv 256))).set (0 + (IntKind.i64.wrap (off + 2)).toNat) (IntKind.u8.wrap (((IntKind.u32.wrap (IntKind.i64.wrap (IntKind.i64.wrap s + add))).fdiv 256).fdiv 256))).length then
 some (.tup [.own 0 0 (0 + b.length) none 1, .val (.int .i64 0)], ⟨1, [⟨0, 0, .cells (.ints .u8 ((((([] ++ b).set (0 + (IntKind.i64.wrap (off + 0)).toNat) (IntKind.u8.wrap (IntKind.u32.wrap (IntKind.i64.wrap (IntKind.i64.wrap s + add))))).set (0 + (IntKind.i64.wrap (off + 1)).toNat) (IntKind.u8.wrap ((IntKind.u32.wrap (IntKind.i64.wrap (IntKind.i64.wrap s + add))).fdiv 256))).set (0 + (IntKind.i64.wrap (off + 2)).toNat) (IntKind.u8.wrap (((IntKind.u32.wrap (IntKind.i64.wrap (IntKind.i64.wrap s + add))).fdiv 256).fdiv 256))).set (0 + (IntKind.i64.wrap (off + 3)).toNat) (IntKind.u8.wrap ((((IntKind.u32.wrap (IntKind.i64.wrap (IntKind.i64.wrap s + add))).fdiv 256).fdiv 256).fdiv 256))))⟩]⟩)
 else
 none
 else
 none
 else
 none
 else
 none
 else
 none
 else
 none
 else
 none
 else
 none
 else
 none
 else
 some (.tup [.val (.slice none 0 0), .val (.int .i64 1)], ⟨0, []⟩)
 else
 some (.tup [.val (.slice none 0 0), .val (.int .i64 1)], ⟨0, []⟩) := by kernel_rfl
theorem Try.rRp2 (b : List Int) (cap : Option Nat) (off s add p : Int) : rootS Try.EAp 4 18 (lsumsOf []) [.ro (.ints .u8 b) cap, .val (.int .i64 off), .val (.int .i64 2), .val (.int .u32 s), .val (.int .i64 add), .val (.int .u32 p)] =
 bif decide (add ≥ -2147483648) then
 bif decide (add ≤ 2147483647) then
 bif decide (off < 0) then
 some (.tup [.val (.slice none 0 0), .val (.int .i64 1)], ⟨0, []⟩)
 else
 bif decide (off > (↑b.length : Int)) then
 some (.tup [.val (.slice none 0 0), .val (.int .i64 1)], ⟨0, []⟩)
 else
 bif decide (IntKind.i64.wrap (off + 2) > (↑b.length : Int)) then
 some (.tup [.val (.slice none 0 0), .val (.int .i64 1)], ⟨0, []⟩)
 else
 bif decide (IntKind.i64.wrap (IntKind.i64.wrap s + add) ≥ -32768) then
 bif decide (IntKind.i64.wrap (IntKind.i64.wrap s + add) ≤ 65535) then
 bif ownNew (some 0) 0 b.length then
 bif ((0 + b.length) * 1).ble most && (0 + b.length).ble most then
 bif inR (IntKind.i64.wrap (off + 0)) (0 + b.length) then
 bif (0 + (IntKind.i64.wrap (off + 0)).toNat).blt ([] ++ b).length then
 bif inR (IntKind.i64.wrap (off + 1)) (0 + b.length) then
 bif (0 + (IntKind.i64.wrap (off + 1)).toNat).blt (([] ++ b).set (0 + (IntKind.i64.wrap (off + 0)).toNat) (IntKind.u8.wrap (IntKind.u32.wrap (IntKind.i64.wrap (IntKind.i64.wrap s + add))))).length then
 some (.tup [.own 0 0 (0 + b.length) none 1, .val (.int .i64 0)], ⟨1, [⟨0, 0, .cells (.ints .u8 ((([] ++ b).set (0 + (IntKind.i64.wrap (off + 0)).toNat) (IntKind.u8.wrap (IntKind.u32.wrap (IntKind.i64.wrap (IntKind.i64.wrap s + add))))).set (0 + (IntKind.i64.wrap (off + 1)).toNat) (IntKind.u8.wrap ((IntKind.u32.wrap (IntKind.i64.wrap (IntKind.i64.wrap s + add))).fdiv 256))))⟩]⟩)
 else
 none
 else
 none
 else
 none
 else
 none
 else
 none
 else
 bif ((0 + b.length) * 1).ble most && (0 + b.length).ble most then
 bif inR (IntKind.i64.wrap (off + 0)) (0 + b.length) then
 bif (0 + (IntKind.i64.wrap (off + 0)).toNat).blt ([] ++ b).length then
 bif inR (IntKind.i64.wrap (off + 1)) (0 + b.length) then
 bif (0 + (IntKind.i64.wrap (off + 1)).toNat).blt (([] ++ b).set (0 + (IntKind.i64.wrap (off + 0)).toNat) (IntKind.u8.wrap (IntKind.u32.wrap (IntKind.i64.wrap (IntKind.i64.wrap s + add))))).length then
 some (.tup [.own 0 0 (0 + b.length) none 1, .val (.int .i64 0)], ⟨1, [⟨0, 0, .cells (.ints .u8 ((([] ++ b).set (0 + (IntKind.i64.wrap (off + 0)).toNat) (IntKind.u8.wrap (IntKind.u32.wrap (IntKind.i64.wrap (IntKind.i64.wrap s + add))))).set (0 + (IntKind.i64.wrap (off + 1)).toNat) (IntKind.u8.wrap ((IntKind.u32.wrap (IntKind.i64.wrap (IntKind.i64.wrap s + add))).fdiv 256))))⟩]⟩)
 else
 none
 else
 none
 else
 none
 else
 none
 else
 none
 else
 some (.tup [.val (.slice none 0 0), .val (.int .i64 32)], ⟨0, []⟩)
 else
 some (.tup [.val (.slice none 0 0), .val (.int .i64 32)], ⟨0, []⟩)
 else
 some (.tup [.val (.slice none 0 0), .val (.int .i64 1)], ⟨0, []⟩)
 else
 some (.tup [.val (.slice none 0 0), .val (.int .i64 1)], ⟨0, []⟩) := by kernel_rfl
theorem Try.rRp3 (b : List Int) (cap : Option Nat) (off s add p : Int) : rootS Try.EAp 4 18 (lsumsOf []) [.ro (.ints .u8 b) cap, .val (.int .i64 off), .val (.int .i64 3), .val (.int .u32 s), .val (.int .i64 add), .val (.int .u32 p)] =
 bif decide (add ≥ -2147483648) then
 bif decide (add ≤ 2147483647) then
 bif decide (off < 0) then
 some (.tup [.val (.slice none 0 0), .val (.int .i64 1)], ⟨0, []⟩)
 else
 bif decide (off > (↑b.length : Int)) then
 some (.tup [.val (.slice none 0 0), .val (.int .i64 1)], ⟨0, []⟩)
 else
 bif decide (IntKind.i64.wrap (off + 1) > (↑b.length : Int)) then
 some (.tup [.val (.slice none 0 0), .val (.int .i64 1)], ⟨0, []⟩)
 else
 bif decide (IntKind.i64.wrap (IntKind.i64.wrap s + add) ≥ -128) then
 bif decide (IntKind.i64.wrap (IntKind.i64.wrap s + add) ≤ 255) then
 bif ownNew (some 0) 0 b.length then
 bif ((0 + b.length) * 1).ble most && (0 + b.length).ble most then
 bif inR (IntKind.i64.wrap (off + 0)) (0 + b.length) then
 bif (0 + (IntKind.i64.wrap (off + 0)).toNat).blt ([] ++ b).length then
 some (.tup [.own 0 0 (0 + b.length) none 1, .val (.int .i64 0)], ⟨1, [⟨0, 0, .cells (.ints .u8 (([] ++ b).set (0 + (IntKind.i64.wrap (off + 0)).toNat) (IntKind.u8.wrap (IntKind.u32.wrap (IntKind.i64.wrap (IntKind.i64.wrap s + add))))))⟩]⟩)
 else
 none
 else
 none
 else
 none
 else
 bif ((0 + b.length) * 1).ble most && (0 + b.length).ble most then
 bif inR (IntKind.i64.wrap (off + 0)) (0 + b.length) then
 bif (0 + (IntKind.i64.wrap (off + 0)).toNat).blt ([] ++ b).length then
 some (.tup [.own 0 0 (0 + b.length) none 1, .val (.int .i64 0)], ⟨1, [⟨0, 0, .cells (.ints .u8 (([] ++ b).set (0 + (IntKind.i64.wrap (off + 0)).toNat) (IntKind.u8.wrap (IntKind.u32.wrap (IntKind.i64.wrap (IntKind.i64.wrap s + add))))))⟩]⟩)
 else
 none
 else
 none
 else
 none
 else
 some (.tup [.val (.slice none 0 0), .val (.int .i64 32)], ⟨0, []⟩)
 else
 some (.tup [.val (.slice none 0 0), .val (.int .i64 32)], ⟨0, []⟩)
 else
 some (.tup [.val (.slice none 0 0), .val (.int .i64 1)], ⟨0, []⟩)
 else
 some (.tup [.val (.slice none 0 0), .val (.int .i64 1)], ⟨0, []⟩) := by kernel_rfl
theorem Try.rRp4 (b : List Int) (cap : Option Nat) (off s add p : Int) : rootS Try.EAp 4 18 (lsumsOf []) [.ro (.ints .u8 b) cap, .val (.int .i64 off), .val (.int .i64 4), .val (.int .u32 s), .val (.int .i64 add), .val (.int .u32 p)] =
 bif decide (add ≥ -2147483648) then
 bif decide (add ≤ 2147483647) then
 bif decide (off < 0) then
 some (.tup [.val (.slice none 0 0), .val (.int .i64 1)], ⟨0, []⟩)
 else
 bif decide (off > (↑b.length : Int)) then
 some (.tup [.val (.slice none 0 0), .val (.int .i64 1)], ⟨0, []⟩)
 else
 bif decide (IntKind.i64.wrap (off + 4) > (↑b.length : Int)) then
 some (.tup [.val (.slice none 0 0), .val (.int .i64 1)], ⟨0, []⟩)
 else
 bif ownNew (some 0) 0 b.length then
 bif ((0 + b.length) * 1).ble most && (0 + b.length).ble most then
 bif inR (IntKind.i64.wrap (off + 0)) (0 + b.length) then
 bif (0 + (IntKind.i64.wrap (off + 0)).toNat).blt ([] ++ b).length then
 bif inR (IntKind.i64.wrap (off + 1)) (0 + b.length) then
 bif (0 + (IntKind.i64.wrap (off + 1)).toNat).blt (([] ++ b).set (0 + (IntKind.i64.wrap (off + 0)).toNat) (IntKind.u8.wrap (IntKind.u32.wrap (IntKind.u32.wrap (IntKind.i64.wrap (IntKind.i64.wrap s + add)) - p)))).length then
 bif inR (IntKind.i64.wrap (off + 2)) (0 + b.length) then
 bif (0 + (IntKind.i64.wrap (off + 2)).toNat).blt ((([] ++ b).set (0 + (IntKind.i64.wrap (off + 0)).toNat) (IntKind.u8.wrap (IntKind.u32.wrap (IntKind.u32.wrap (IntKind.i64.wrap (IntKind.i64.wrap s + add)) - p)))).set (0 + (IntKind.i64.wrap (off + 1)).toNat) (IntKind.u8.wrap ((IntKind.u32.wrap (IntKind.u32.wrap (IntKind.i64.wrap (IntKind.i64.wrap s + add)) - p)).fdiv 256))).length then
 bif inR (IntKind.i64.wrap (off + 3)) (0 + b.length) then
 bif (0 + (IntKind.i64.wrap (off + 3)).toNat).blt (((([] ++ b).set (0 + (IntKind.i64.wrap (off + 0)).toNat) (IntKind.u8.wrap (IntKind.u32.wrap (IntKind.u32.wrap (IntKind.i64.wrap (IntKind.i64.wrap s + add)) - p)))).set (0 + (IntKind.i64.wrap (off + 1)).toNat) (IntKind.u8.wrap ((IntKind.u32.wrap (IntKind.u32.wrap (IntKind.i64.wrap (IntKind.i64.wrap s + add)) - p)).fdiv 256))).set (0 + (IntKind.i64.wrap (off + 2)).toNat) (IntKind.u8.wrap (((IntKind.u32.wrap (IntKind.u32.wrap (IntKind.i64.wrap (IntKind.i64.wrap s + add)) - p)).fdiv 256).fdiv 256))).length then
 some (.tup [.own 0 0 (0 + b.length) none 1, .val (.int .i64 0)], ⟨1, [⟨0, 0, .cells (.ints .u8 ((((([] ++ b).set (0 + (IntKind.i64.wrap (off + 0)).toNat) (IntKind.u8.wrap (IntKind.u32.wrap (IntKind.u32.wrap (IntKind.i64.wrap (IntKind.i64.wrap s + add)) - p)))).set (0 + (IntKind.i64.wrap (off + 1)).toNat) (IntKind.u8.wrap ((IntKind.u32.wrap (IntKind.u32.wrap (IntKind.i64.wrap (IntKind.i64.wrap s + add)) - p)).fdiv 256))).set (0 + (IntKind.i64.wrap (off + 2)).toNat) (IntKind.u8.wrap (((IntKind.u32.wrap (IntKind.u32.wrap (IntKind.i64.wrap (IntKind.i64.wrap s + add)) - p)).fdiv 256).fdiv 256))).set (0 + (IntKind.i64.wrap (off + 3)).toNat) (IntKind.u8.wrap ((((IntKind.u32.wrap (IntKind.u32.wrap (IntKind.i64.wrap (IntKind.i64.wrap s + add)) - p)).fdiv 256).fdiv 256).fdiv 256))))⟩]⟩)
 else
 none
 else
 none
 else
 none
 else
 none
 else
 none
 else
 none
 else
 none
 else
 none
 else
 none
 else
 bif ((0 + b.length) * 1).ble most && (0 + b.length).ble most then
 bif inR (IntKind.i64.wrap (off + 0)) (0 + b.length) then
 bif (0 + (IntKind.i64.wrap (off + 0)).toNat).blt ([] ++ b).length then
 bif inR (IntKind.i64.wrap (off + 1)) (0 + b.length) then
 bif (0 + (IntKind.i64.wrap (off + 1)).toNat).blt (([] ++ b).set (0 + (IntKind.i64.wrap (off + 0)).toNat) (IntKind.u8.wrap (IntKind.u32.wrap (IntKind.u32.wrap (IntKind.i64.wrap (IntKind.i64.wrap s + add)) - p)))).length then
 bif inR (IntKind.i64.wrap (off + 2)) (0 + b.length) then
 bif (0 + (IntKind.i64.wrap (off + 2)).toNat).blt ((([] ++ b).set (0 + (IntKind.i64.wrap (off + 0)).toNat) (IntKind.u8.wrap (IntKind.u32.wrap (IntKind.u32.wrap (IntKind.i64.wrap (IntKind.i64.wrap s + add)) - p)))).set (0 + (IntKind.i64.wrap (off + 1)).toNat) (IntKind.u8.wrap ((IntKind.u32.wrap (IntKind.u32.wrap (IntKind.i64.wrap (IntKind.i64.wrap s + add)) - p)).fdiv 256))).length then
 bif inR (IntKind.i64.wrap (off + 3)) (0 + b.length) then
 bif (0 + (IntKind.i64.wrap (off + 3)).toNat).blt (((([] ++ b).set (0 + (IntKind.i64.wrap (off + 0)).toNat) (IntKind.u8.wrap (IntKind.u32.wrap (IntKind.u32.wrap (IntKind.i64.wrap (IntKind.i64.wrap s + add)) - p)))).set (0 + (IntKind.i64.wrap (off + 1)).toNat) (IntKind.u8.wrap ((IntKind.u32.wrap (IntKind.u32.wrap (IntKind.i64.wrap (IntKind.i64.wrap s + add)) - p)).fdiv 256))).set (0 + (IntKind.i64.wrap (off + 2)).toNat) (IntKind.u8.wrap (((IntKind.u32.wrap (IntKind.u32.wrap (IntKind.i64.wrap (IntKind.i64.wrap s + add)) - p)).fdiv 256).fdiv 256))).length then
 some (.tup [.own 0 0 (0 + b.length) none 1, .val (.int .i64 0)], ⟨1, [⟨0, 0, .cells (.ints .u8 ((((([] ++ b).set (0 + (IntKind.i64.wrap (off + 0)).toNat) (IntKind.u8.wrap (IntKind.u32.wrap (IntKind.u32.wrap (IntKind.i64.wrap (IntKind.i64.wrap s + add)) - p)))).set (0 + (IntKind.i64.wrap (off + 1)).toNat) (IntKind.u8.wrap ((IntKind.u32.wrap (IntKind.u32.wrap (IntKind.i64.wrap (IntKind.i64.wrap s + add)) - p)).fdiv 256))).set (0 + (IntKind.i64.wrap (off + 2)).toNat) (IntKind.u8.wrap (((IntKind.u32.wrap (IntKind.u32.wrap (IntKind.i64.wrap (IntKind.i64.wrap s + add)) - p)).fdiv 256).fdiv 256))).set (0 + (IntKind.i64.wrap (off + 3)).toNat) (IntKind.u8.wrap ((((IntKind.u32.wrap (IntKind.u32.wrap (IntKind.i64.wrap (IntKind.i64.wrap s + add)) - p)).fdiv 256).fdiv 256).fdiv 256))))⟩]⟩)
 else
 none
 else
 none
 else
 none
 else
 none
 else
 none
 else
 none
 else
 none
 else
 none
 else
 none
 else
 some (.tup [.val (.slice none 0 0), .val (.int .i64 1)], ⟨0, []⟩)
 else
 some (.tup [.val (.slice none 0 0), .val (.int .i64 1)], ⟨0, []⟩) := by kernel_rfl
theorem Try.rRp5 (b : List Int) (cap : Option Nat) (off s add p : Int) : rootS Try.EAp 4 18 (lsumsOf []) [.ro (.ints .u8 b) cap, .val (.int .i64 off), .val (.int .i64 5), .val (.int .u32 s), .val (.int .i64 add), .val (.int .u32 p)] =
 bif decide (add ≥ -2147483648) then
 bif decide (add ≤ 2147483647) then
 bif decide (off < 0) then
 some (.tup [.val (.slice none 0 0), .val (.int .i64 1)], ⟨0, []⟩)
 else
 bif decide (off > (↑b.length : Int)) then
 some (.tup [.val (.slice none 0 0), .val (.int .i64 1)], ⟨0, []⟩)
 else
 bif decide (IntKind.i64.wrap (off + 4) > (↑b.length : Int)) then
 some (.tup [.val (.slice none 0 0), .val (.int .i64 1)], ⟨0, []⟩)
 else
 bif ownNew (some 0) 0 b.length then
 bif ((0 + b.length) * 1).ble most && (0 + b.length).ble most then
 bif inR (IntKind.i64.wrap (off + 0)) (0 + b.length) then
 bif (0 + (IntKind.i64.wrap (off + 0)).toNat).blt ([] ++ b).length then
 bif inR (IntKind.i64.wrap (off + 1)) (0 + b.length) then
 bif (0 + (IntKind.i64.wrap (off + 1)).toNat).blt (([] ++ b).set (0 + (IntKind.i64.wrap (off + 0)).toNat) (IntKind.u8.wrap (IntKind.u32.wrap ((IntKind.u32.wrap (IntKind.i64.wrap (IntKind.i64.wrap s + add))).tdiv 256)))).length then
 bif inR (IntKind.i64.wrap (off + 2)) (0 + b.length) then
 bif (0 + (IntKind.i64.wrap (off + 2)).toNat).blt ((([] ++ b).set (0 + (IntKind.i64.wrap (off + 0)).toNat) (IntKind.u8.wrap (IntKind.u32.wrap ((IntKind.u32.wrap (IntKind.i64.wrap (IntKind.i64.wrap s + add))).tdiv 256)))).set (0 + (IntKind.i64.wrap (off + 1)).toNat) (IntKind.u8.wrap ((IntKind.u32.wrap ((IntKind.u32.wrap (IntKind.i64.wrap (IntKind.i64.wrap s + add))).tdiv 256)).fdiv 256))).length then
 bif inR (IntKind.i64.wrap (off + 3)) (0 + b.length) then
 bif (0 + (IntKind.i64.wrap (off + 3)).toNat).blt (((([] ++ b).set (0 + (IntKind.i64.wrap (off + 0)).toNat) (IntKind.u8.wrap (IntKind.u32.wrap ((IntKind.u32.wrap (IntKind.i64.wrap (IntKind.i64.wrap s + add))).tdiv 256)))).set (0 + (IntKind.i64.wrap (off + 1)).toNat) (IntKind.u8.wrap ((IntKind.u32.wrap ((IntKind.u32.wrap (IntKind.i64.wrap (IntKind.i64.wrap s + add))).tdiv 256)).fdiv 256))).set (0 + (IntKind.i64.wrap (off + 2)).toNat) (IntKind.u8.wrap (((IntKind.u32.wrap ((IntKind.u32.wrap (IntKind.i64.wrap (IntKind.i64.wrap s + add))).tdiv 256)).fdiv 256).fdiv 256))).length then
 some (.tup [.own 0 0 (0 + b.length) none 1, .val (.int .i64 0)], ⟨1, [⟨0, 0, .cells (.ints .u8 ((((([] ++ b).set (0 + (IntKind.i64.wrap (off + 0)).toNat) (IntKind.u8.wrap (IntKind.u32.wrap ((IntKind.u32.wrap (IntKind.i64.wrap (IntKind.i64.wrap s + add))).tdiv 256)))).set (0 + (IntKind.i64.wrap (off + 1)).toNat) (IntKind.u8.wrap ((IntKind.u32.wrap ((IntKind.u32.wrap (IntKind.i64.wrap (IntKind.i64.wrap s + add))).tdiv 256)).fdiv 256))).set (0 + (IntKind.i64.wrap (off + 2)).toNat) (IntKind.u8.wrap (((IntKind.u32.wrap ((IntKind.u32.wrap (IntKind.i64.wrap (IntKind.i64.wrap s + add))).tdiv 256)).fdiv 256).fdiv 256))).set (0 + (IntKind.i64.wrap (off + 3)).toNat) (IntKind.u8.wrap ((((IntKind.u32.wrap ((IntKind.u32.wrap (IntKind.i64.wrap (IntKind.i64.wrap s + add))).tdiv 256)).fdiv 256).fdiv 256).fdiv 256))))⟩]⟩)
 else
 none
 else
 none
 else
 none
 else
 none
 else
 none
 else
 none
 else
 none
 else
 none
 else
 none
 else
 bif ((0 + b.length) * 1).ble most && (0 + b.length).ble most then
 bif inR (IntKind.i64.wrap (off + 0)) (0 + b.length) then
 bif (0 + (IntKind.i64.wrap (off + 0)).toNat).blt ([] ++ b).length then
 bif inR (IntKind.i64.wrap (off + 1)) (0 + b.length) then
 bif (0 + (IntKind.i64.wrap (off + 1)).toNat).blt (([] ++ b).set (0 + (IntKind.i64.wrap (off + 0)).toNat) (IntKind.u8.wrap (IntKind.u32.wrap ((IntKind.u32.wrap (IntKind.i64.wrap (IntKind.i64.wrap s + add))).tdiv 256)))).length then
 bif inR (IntKind.i64.wrap (off + 2)) (0 + b.length) then
 bif (0 + (IntKind.i64.wrap (off + 2)).toNat).blt ((([] ++ b).set (0 + (IntKind.i64.wrap (off + 0)).toNat) (IntKind.u8.wrap (IntKind.u32.wrap ((IntKind.u32.wrap (IntKind.i64.wrap (IntKind.i64.wrap s + add))).tdiv 256)))).set (0 + (IntKind.i64.wrap (off + 1)).toNat) (IntKind.u8.wrap ((IntKind.u32.wrap ((IntKind.u32.wrap (IntKind.i64.wrap (IntKind.i64.wrap s + add))).tdiv 256)).fdiv 256))).length then
 bif inR (IntKind.i64.wrap (off + 3)) (0 + b.length) then
 bif (0 + (IntKind.i64.wrap (off + 3)).toNat).blt (((([] ++ b).set (0 + (IntKind.i64.wrap (off + 0)).toNat) (IntKind.u8.wrap (IntKind.u32.wrap ((IntKind.u32.wrap (IntKind.i64.wrap (IntKind.i64.wrap s + add))).tdiv 256)))).set (0 + (IntKind.i64.wrap (off + 1)).toNat) (IntKind.u8.wrap ((IntKind.u32.wrap ((IntKind.u32.wrap (IntKind.i64.wrap (IntKind.i64.wrap s + add))).tdiv 256)).fdiv 256))).set (0 + (IntKind.i64.wrap (off + 2)).toNat) (IntKind.u8.wrap (((IntKind.u32.wrap ((IntKind.u32.wrap (IntKind.i64.wrap (IntKind.i64.wrap s + add))).tdiv 256)).fdiv 256).fdiv 256))).length then
 some (.tup [.own 0 0 (0 + b.length) none 1, .val (.int .i64 0)], ⟨1, [⟨0, 0, .cells (.ints .u8 ((((([] ++ b).set (0 + (IntKind.i64.wrap (off + 0)).toNat) (IntKind.u8.wrap (IntKind.u32.wrap ((IntKind.u32.wrap (IntKind.i64.wrap (IntKind.i64.wrap s + add))).tdiv 256)))).set (0 + (IntKind.i64.wrap (off + 1)).toNat) (IntKind.u8.wrap ((IntKind.u32.wrap ((IntKind.u32.wrap (IntKind.i64.wrap (IntKind.i64.wrap s + add))).tdiv 256)).fdiv 256))).set (0 + (IntKind.i64.wrap (off + 2)).toNat) (IntKind.u8.wrap (((IntKind.u32.wrap ((IntKind.u32.wrap (IntKind.i64.wrap (IntKind.i64.wrap s + add))).tdiv 256)).fdiv 256).fdiv 256))).set (0 + (IntKind.i64.wrap (off + 3)).toNat) (IntKind.u8.wrap ((((IntKind.u32.wrap ((IntKind.u32.wrap (IntKind.i64.wrap (IntKind.i64.wrap s + add))).tdiv 256)).fdiv 256).fdiv 256).fdiv 256))))⟩]⟩)
 else
 none
 else
 none
 else
 none
 else
 none
 else
 none
 else
 none
 else
 none
 else
 none
 else
 none
 else
 some (.tup [.val (.slice none 0 0), .val (.int .i64 1)], ⟨0, []⟩)
 else
 some (.tup [.val (.slice none 0 0), .val (.int .i64 1)], ⟨0, []⟩) := by kernel_rfl
end Go.Ev
/- obj.Apply and its specification: what they answer. -/
namespace Go.Ev
open Go.Proofs
def wdN (k : Int) : Nat := if k = 2 then 2 else if k = 3 then 1 else 4
def valN (k s add p : Int) : Int := if k = 4 then s + add - p else if k = 5 then (s + add) % 4294967296 / 256 else s + add
def fitN (k n : Int) : Prop := (k = 2 → -32768 ≤ n ∧ n ≤ 65535) ∧ (k = 3 → -128 ≤ n ∧ n ≤ 255)
def okN (b : List Int) (off k add : Int) : Prop := 1 ≤ k ∧ k ≤ 5 ∧ -2147483648 ≤ add ∧ add ≤ 2147483647 ∧ 0 ≤ off ∧ off + wdN k ≤ (b.length : Int)
def apL (b : List Int) (o : Nat) (k n : Int) : List Int :=
  if k = 2 then (b.set o (n % 256)).set (o + 1) (n / 256 % 256) else if k = 3 then b.set o (n % 256)
  else (((b.set o (n % 256)).set (o + 1) (n / 256 % 256)).set (o + 2) (n / 65536 % 256)).set (o + 3) (n / 16777216 % 256)
def nilB (e : Int) : AV × Heap := (.tup [.val (.slice none 0 0), .val (.int .i64 e)], ⟨0, []⟩)
def outB (l : List Int) : AV × Heap := (.tup [.own 0 0 l.length none 1, .val (.int .i64 0)], oneH (.ints .u8 l))
def ansN (b : List Int) (off k s add p : Int) : Ans (AV × Heap) :=
  .br (propB (okN b off k add)) (.br (propB (fitN k (s + add))) (.out (outB (apL b off.toNat k (valN k s add p)))) (.out (nilB 32))) (.out (nilB 1))
theorem apL_len (b : List Int) (o : Nat) (k n : Int) : (apL b o k n).length = b.length := by
  unfold apL
  split
  · simp
  · split <;> simp
theorem fd1 (n : Int) : IntKind.u8.wrap (n.fdiv 1) = n % 256 := by rw [IntKind.wrap_u8, Int.fdiv_eq_ediv_of_nonneg _ (by omega)]; omega
theorem fd2 (n : Int) : IntKind.u8.wrap (n.fdiv 256) = n / 256 % 256 := by rw [IntKind.wrap_u8, Int.fdiv_eq_ediv_of_nonneg _ (by omega)]
theorem fd3 (n : Int) : IntKind.u8.wrap (n.fdiv 65536) = n / 65536 % 256 := by rw [IntKind.wrap_u8, Int.fdiv_eq_ediv_of_nonneg _ (by omega)]
theorem fd4 (n : Int) : IntKind.u8.wrap (n.fdiv 16777216) = n / 16777216 % 256 := by rw [IntKind.wrap_u8, Int.fdiv_eq_ediv_of_nonneg _ (by omega)]
theorem ud1 (n : Int) : IntKind.u8.wrap (IntKind.u32.wrap n) = n % 256 := by rw [IntKind.wrap_u8, IntKind.wrap_u32]; omega
theorem ud2 (n : Int) : IntKind.u8.wrap ((IntKind.u32.wrap n).fdiv 256) = n / 256 % 256 := by rw [IntKind.wrap_u8, IntKind.wrap_u32, Int.fdiv_eq_ediv_of_nonneg _ (by omega)]; omega
theorem ud3 (n : Int) : IntKind.u8.wrap (((IntKind.u32.wrap n).fdiv 256).fdiv 256) = n / 65536 % 256 := by rw [IntKind.wrap_u8, IntKind.wrap_u32, Int.fdiv_eq_ediv_of_nonneg _ (by omega), Int.fdiv_eq_ediv_of_nonneg _ (by omega)]; omega
theorem ud4 (n : Int) : IntKind.u8.wrap ((((IntKind.u32.wrap n).fdiv 256).fdiv 256).fdiv 256) = n / 16777216 % 256 := by rw [IntKind.wrap_u8, IntKind.wrap_u32, Int.fdiv_eq_ediv_of_nonneg _ (by omega), Int.fdiv_eq_ediv_of_nonneg _ (by omega), Int.fdiv_eq_ediv_of_nonneg _ (by omega)]; omega
theorem ok_tree {α : Type} {b : List Int} {off k add : Int} {w : Int} (hk : 1 ≤ k ∧ k ≤ 5) (hw : w = wdN k) (hb : b.length ≤ 1000000) (X Y : α) :
    (bif decide (add ≥ -2147483648) then bif decide (add ≤ 2147483647) then bif decide (off ≥ 0) then bif decide (off ≤ (b.length : Int)) then bif decide (IntKind.i64.wrap ((b.length : Int) - off) < w) then X else Y else X else X else X else X) =
    bif propB (okN b off k add) then Y else X := by
  have hw1 : wdN k ≤ 4 := by unfold wdN; split; omega; split <;> omega
  by_cases h1 : add ≥ -2147483648
  · by_cases h2 : add ≤ 2147483647
    · by_cases h3 : off ≥ 0
      · by_cases h4 : off ≤ (b.length : Int)
        · rw [decide_eq_true h1, decide_eq_true h2, decide_eq_true h3, decide_eq_true h4, wrap64 _ (by omega) (by omega)]
          simp only [cond_true]
          by_cases h5 : (b.length : Int) - off < w
          · rw [decide_eq_true h5, propB_f (fun q : okN b off k add => by have := q.2.2.2.2.2; omega)]; rfl
          · rw [decide_eq_false h5, propB_t (show okN b off k add from ⟨hk.1, hk.2, h1, h2, h3, by omega⟩)]; rfl
        · rw [decide_eq_true h1, decide_eq_true h2, decide_eq_true h3, decide_eq_false h4, propB_f (fun q : okN b off k add => by have := q.2.2.2.2.2; omega)]; rfl
      · rw [decide_eq_true h1, decide_eq_true h2, decide_eq_false h3, propB_f (fun q : okN b off k add => h3 q.2.2.2.2.1)]; rfl
    · rw [decide_eq_true h1, decide_eq_false h2, propB_f (fun q : okN b off k add => h2 q.2.2.2.1)]; rfl
  · rw [decide_eq_false h1, propB_f (fun q : okN b off k add => h1 q.2.2.1)]; rfl
theorem ok_tree2 {α : Type} {b : List Int} {off k add : Int} {w : Int} (hk : 1 ≤ k ∧ k ≤ 5) (hw : w = wdN k) (hb : b.length ≤ 1000000) (X Y : α) :
    (bif decide (add ≥ -2147483648) then bif decide (add ≤ 2147483647) then bif decide (off < 0) then X else bif decide (off > (b.length : Int)) then X else bif decide (IntKind.i64.wrap (off + w) > (b.length : Int)) then X else Y else X else X) =
    bif propB (okN b off k add) then Y else X := by
  have hw1 : wdN k ≤ 4 := by unfold wdN; split; omega; split <;> omega
  by_cases h1 : add ≥ -2147483648
  · by_cases h2 : add ≤ 2147483647
    · by_cases h3 : off < 0
      · rw [decide_eq_true h1, decide_eq_true h2, decide_eq_true h3, propB_f (fun q : okN b off k add => by have := q.2.2.2.2.1; omega)]; rfl
      · by_cases h4 : off > (b.length : Int)
        · rw [decide_eq_true h1, decide_eq_true h2, decide_eq_false h3, decide_eq_true h4, propB_f (fun q : okN b off k add => by have := q.2.2.2.2.2; omega)]; rfl
        · rw [decide_eq_true h1, decide_eq_true h2, decide_eq_false h3, decide_eq_false h4, wrap64 _ (by omega) (by omega)]
          simp only [cond_true, cond_false]
          by_cases h5 : off + w > (b.length : Int)
          · rw [decide_eq_true h5, propB_f (fun q : okN b off k add => by have := q.2.2.2.2.2; omega)]; rfl
          · rw [decide_eq_false h5, propB_t (show okN b off k add from ⟨hk.1, hk.2, h1, h2, by omega, by omega⟩)]; rfl
    · rw [decide_eq_true h1, decide_eq_false h2, propB_f (fun q : okN b off k add => h2 q.2.2.2.1)]; rfl
  · rw [decide_eq_false h1, propB_f (fun q : okN b off k add => h1 q.2.2.1)]; rfl
theorem fit_tree {α : Type} {k n : Int} {lo hi : Int} (h : fitN k n ↔ lo ≤ n ∧ n ≤ hi) (X Y : α) : (bif decide (n ≥ lo) then bif decide (n ≤ hi) then Y else X else X) = bif propB (fitN k n) then Y else X := by
  by_cases h1 : n ≥ lo
  · by_cases h2 : n ≤ hi
    · rw [decide_eq_true h1, decide_eq_true h2, propB_t (h.2 ⟨h1, h2⟩)]; rfl
    · rw [decide_eq_true h1, decide_eq_false h2, propB_f (fun q => h2 (h.1 q).2)]; rfl
  · rw [decide_eq_false h1, propB_f (fun q => h1 (h.1 q).1)]; rfl
theorem put4 {α : Type} {b : List Int} {off : Int} (h0 : 0 ≤ off) (h1 : off + 4 ≤ (b.length : Int)) (hb : b.length ≤ 1000000) (x0 x1 x2 : Int) (Y Z : α) :
    (bif inR (IntKind.i64.wrap (off + 0)) b.length then bif (0 + (IntKind.i64.wrap (off + 0)).toNat).blt b.length then
     bif inR (IntKind.i64.wrap (off + 1)) b.length then bif (0 + (IntKind.i64.wrap (off + 1)).toNat).blt (b.set (0 + (IntKind.i64.wrap (off + 0)).toNat) x0).length then
     bif inR (IntKind.i64.wrap (off + 2)) b.length then bif (0 + (IntKind.i64.wrap (off + 2)).toNat).blt ((b.set (0 + (IntKind.i64.wrap (off + 0)).toNat) x0).set (0 + (IntKind.i64.wrap (off + 1)).toNat) x1).length then
     bif inR (IntKind.i64.wrap (off + 3)) b.length then bif (0 + (IntKind.i64.wrap (off + 3)).toNat).blt (((b.set (0 + (IntKind.i64.wrap (off + 0)).toNat) x0).set (0 + (IntKind.i64.wrap (off + 1)).toNat) x1).set (0 + (IntKind.i64.wrap (off + 2)).toNat) x2).length then
     Y else Z else Z else Z else Z else Z else Z else Z else Z) = Y := by
  obtain ⟨o, rfl⟩ := Int.eq_ofNat_of_zero_le h0
  have w0 : IntKind.i64.wrap ((o : Int) + 0) = ((o : Nat) : Int) := by rw [wrap64 _ (by omega) (by omega)]; omega
  have w1 : IntKind.i64.wrap ((o : Int) + 1) = ((o + 1 : Nat) : Int) := by rw [wrap64 _ (by omega) (by omega)]; omega
  have w2 : IntKind.i64.wrap ((o : Int) + 2) = ((o + 2 : Nat) : Int) := by rw [wrap64 _ (by omega) (by omega)]; omega
  have w3 : IntKind.i64.wrap ((o : Int) + 3) = ((o + 3 : Nat) : Int) := by rw [wrap64 _ (by omega) (by omega)]; omega
  rw [w0, w1, w2, w3]
  simp only [inR_nat, Int.toNat_natCast, Nat.zero_add, List.length_set]
  rw [decide_eq_true (show o < b.length by omega), decide_eq_true (show o + 1 < b.length by omega), decide_eq_true (show o + 2 < b.length by omega), decide_eq_true (show o + 3 < b.length by omega),
    blt_t (show o < b.length by omega), blt_t (show o + 1 < b.length by omega), blt_t (show o + 2 < b.length by omega), blt_t (show o + 3 < b.length by omega)]
  rfl
theorem put2 {α : Type} {b : List Int} {off : Int} (h0 : 0 ≤ off) (h1 : off + 2 ≤ (b.length : Int)) (hb : b.length ≤ 1000000) (x0 : Int) (Y Z : α) :
    (bif inR (IntKind.i64.wrap (off + 0)) b.length then bif (0 + (IntKind.i64.wrap (off + 0)).toNat).blt b.length then
     bif inR (IntKind.i64.wrap (off + 1)) b.length then bif (0 + (IntKind.i64.wrap (off + 1)).toNat).blt (b.set (0 + (IntKind.i64.wrap (off + 0)).toNat) x0).length then
     Y else Z else Z else Z else Z) = Y := by
  obtain ⟨o, rfl⟩ := Int.eq_ofNat_of_zero_le h0
  have w0 : IntKind.i64.wrap ((o : Int) + 0) = ((o : Nat) : Int) := by rw [wrap64 _ (by omega) (by omega)]; omega
  have w1 : IntKind.i64.wrap ((o : Int) + 1) = ((o + 1 : Nat) : Int) := by rw [wrap64 _ (by omega) (by omega)]; omega
  rw [w0, w1]
  simp only [inR_nat, Int.toNat_natCast, Nat.zero_add, List.length_set]
  rw [decide_eq_true (show o < b.length by omega), decide_eq_true (show o + 1 < b.length by omega), blt_t (show o < b.length by omega), blt_t (show o + 1 < b.length by omega)]
  rfl
theorem put1 {α : Type} {b : List Int} {off : Int} (h0 : 0 ≤ off) (h1 : off + 1 ≤ (b.length : Int)) (hb : b.length ≤ 1000000) (Y Z : α) :
    (bif inR (IntKind.i64.wrap (off + 0)) b.length then bif (0 + (IntKind.i64.wrap (off + 0)).toNat).blt b.length then Y else Z else Z) = Y := by
  obtain ⟨o, rfl⟩ := Int.eq_ofNat_of_zero_le h0
  have w0 : IntKind.i64.wrap ((o : Int) + 0) = ((o : Nat) : Int) := by rw [wrap64 _ (by omega) (by omega)]; omega
  rw [w0]
  simp only [inR_nat, Int.toNat_natCast, Nat.zero_add, List.length_set]
  rw [decide_eq_true (show o < b.length by omega), blt_t (show o < b.length by omega)]
  rfl
theorem offW {off : Int} (i : Nat) (h0 : 0 ≤ off) (h1 : off ≤ 1000000) (hi : i ≤ 4) : 0 + (IntKind.i64.wrap (off + i)).toNat = off.toNat + i := by
  rw [wrap64 _ (by omega) (by omega)]; omega
theorem fv5 (n : Int) : IntKind.u32.wrap ((IntKind.u32.wrap n).tdiv 256) = n % 4294967296 / 256 := by
  rw [IntKind.wrap_u32, IntKind.wrap_u32, Int.tdiv_eq_ediv_of_nonneg (by omega)]; omega
theorem uv4 (n p : Int) : IntKind.u32.wrap (IntKind.u32.wrap n - p) = IntKind.u32.wrap (n - p) := by rw [IntKind.wrap_u32, IntKind.wrap_u32, IntKind.wrap_u32]; omega
theorem uv5 (n : Int) : IntKind.u32.wrap ((IntKind.u32.wrap n).tdiv 256) = IntKind.u32.wrap (n % 4294967296 / 256) := by rw [fv5, IntKind.wrap_u32]; omega
section
variable {b : List Int} {cap : Option Nat} {off s add p : Int} (hb : b.length ≤ 1000000) (hs : 0 ≤ s ∧ s < 4294967296) (hp : 0 ≤ p ∧ p < 4294967296)
include hb hs hp
theorem Try.ap1 : rootS Try.EAp 4 17 (lsumsOf []) [.ro (.ints .u8 b) cap, .val (.int .i64 off), .val (.int .i64 1), .val (.int .u32 s), .val (.int .i64 add), .val (.int .u32 p)] = (ansN b off 1 s add p).run := by
  refine (Try.rAp1 b cap off s add p).trans ((ok_tree (k := 1) (w := 4) ⟨by omega, by omega⟩ rfl hb _ _).trans ?_)
  show _ = bif propB (okN b off 1 add) then (bif propB (fitN 1 (s + add)) then _ else _) else _
  by_cases h : okN b off 1 add
  · rw [propB_t h, cond_true, cond_true]
    obtain ⟨a1, a2, a3, a4, a5, a6⟩ := h
    have a6 : off + 4 ≤ (b.length : Int) := a6
    rw [wrap64 s (by omega) (by omega), wrap64 (s + add) (by omega) (by omega)]
    rw [propB_t (show fitN 1 (s + add) from ⟨fun q => by omega, fun q => by omega⟩), cond_true, ble_t hb, cond_true]
    refine (put4 a5 a6 hb _ _ _ _ _).trans ?_
    rw [show (off + 0 : Int) = off + (0 : Nat) by omega, show (off + 1 : Int) = off + (1 : Nat) by omega, show (off + 2 : Int) = off + (2 : Nat) by omega, show (off + 3 : Int) = off + (3 : Nat) by omega,
      offW 0 a5 (by omega) (by omega), offW 1 a5 (by omega) (by omega), offW 2 a5 (by omega) (by omega), offW 3 a5 (by omega) (by omega), fd1, fd2, fd3, fd4]
    unfold outB oneH
    rw [apL_len]
    rfl
  · rw [propB_f h]; rfl
theorem Try.ap2 : rootS Try.EAp 4 17 (lsumsOf []) [.ro (.ints .u8 b) cap, .val (.int .i64 off), .val (.int .i64 2), .val (.int .u32 s), .val (.int .i64 add), .val (.int .u32 p)] = (ansN b off 2 s add p).run := by
  refine (Try.rAp2 b cap off s add p).trans ((ok_tree (k := 2) (w := 2) ⟨by omega, by omega⟩ rfl hb _ _).trans ?_)
  show _ = bif propB (okN b off 2 add) then (bif propB (fitN 2 (s + add)) then _ else _) else _
  by_cases h : okN b off 2 add
  · rw [propB_t h, cond_true, cond_true]
    obtain ⟨a1, a2, a3, a4, a5, a6⟩ := h
    have a6 : off + 2 ≤ (b.length : Int) := a6
    rw [wrap64 s (by omega) (by omega), wrap64 (s + add) (by omega) (by omega)]
    rw [fit_tree (k := 2) (lo := -32768) (hi := 65535) ⟨fun q => q.1 (by omega), fun q => ⟨fun _ => q, fun q => by omega⟩⟩]
    by_cases hf : propB (fitN 2 (s + add)) = true
    rotate_left
    · rw [Bool.not_eq_true] at hf; rw [hf]; rfl
    rw [hf, cond_true, cond_true, ble_t hb, cond_true]
    refine (put2 a5 a6 hb _ _ _).trans ?_
    rw [show (off + 0 : Int) = off + (0 : Nat) by omega, show (off + 1 : Int) = off + (1 : Nat) by omega,
      offW 0 a5 (by omega) (by omega), offW 1 a5 (by omega) (by omega), fd1, fd2]
    unfold outB oneH
    rw [apL_len]
    rfl
  · rw [propB_f h]; rfl
theorem Try.ap3 : rootS Try.EAp 4 17 (lsumsOf []) [.ro (.ints .u8 b) cap, .val (.int .i64 off), .val (.int .i64 3), .val (.int .u32 s), .val (.int .i64 add), .val (.int .u32 p)] = (ansN b off 3 s add p).run := by
  refine (Try.rAp3 b cap off s add p).trans ((ok_tree (k := 3) (w := 1) ⟨by omega, by omega⟩ rfl hb _ _).trans ?_)
  show _ = bif propB (okN b off 3 add) then (bif propB (fitN 3 (s + add)) then _ else _) else _
  by_cases h : okN b off 3 add
  · rw [propB_t h, cond_true, cond_true]
    obtain ⟨a1, a2, a3, a4, a5, a6⟩ := h
    have a6 : off + 1 ≤ (b.length : Int) := a6
    rw [wrap64 s (by omega) (by omega), wrap64 (s + add) (by omega) (by omega)]
    rw [fit_tree (k := 3) (lo := -128) (hi := 255) ⟨fun q => q.2 (by omega), fun q => ⟨fun q => by omega, fun _ => q⟩⟩]
    by_cases hf : propB (fitN 3 (s + add)) = true
    rotate_left
    · rw [Bool.not_eq_true] at hf; rw [hf]; rfl
    rw [hf, cond_true, cond_true, ble_t hb, cond_true]
    refine (put1 a5 a6 hb _ _).trans ?_
    rw [show (off + 0 : Int) = off + (0 : Nat) by omega,
      offW 0 a5 (by omega) (by omega), fd1]
    unfold outB oneH
    rw [apL_len]
    rfl
  · rw [propB_f h]; rfl
theorem Try.ap4 : rootS Try.EAp 4 17 (lsumsOf []) [.ro (.ints .u8 b) cap, .val (.int .i64 off), .val (.int .i64 4), .val (.int .u32 s), .val (.int .i64 add), .val (.int .u32 p)] = (ansN b off 4 s add p).run := by
  refine (Try.rAp4 b cap off s add p).trans ((ok_tree (k := 4) (w := 4) ⟨by omega, by omega⟩ rfl hb _ _).trans ?_)
  show _ = bif propB (okN b off 4 add) then (bif propB (fitN 4 (s + add)) then _ else _) else _
  by_cases h : okN b off 4 add
  · rw [propB_t h, cond_true, cond_true]
    obtain ⟨a1, a2, a3, a4, a5, a6⟩ := h
    have a6 : off + 4 ≤ (b.length : Int) := a6
    rw [wrap64 s (by omega) (by omega), wrap64 (s + add) (by omega) (by omega)]
    rw [propB_t (show fitN 4 (s + add) from ⟨fun q => by omega, fun q => by omega⟩), cond_true, ble_t hb, cond_true]
    refine (put4 a5 a6 hb _ _ _ _ _).trans ?_
    rw [show (off + 0 : Int) = off + (0 : Nat) by omega, show (off + 1 : Int) = off + (1 : Nat) by omega, show (off + 2 : Int) = off + (2 : Nat) by omega, show (off + 3 : Int) = off + (3 : Nat) by omega,
      offW 0 a5 (by omega) (by omega), offW 1 a5 (by omega) (by omega), offW 2 a5 (by omega) (by omega), offW 3 a5 (by omega) (by omega), wrap64 p (by omega) (by omega), wrap64 _ (by omega) (by omega), fd1, fd2, fd3, fd4]
    unfold outB oneH
    rw [apL_len]
    rfl
  · rw [propB_f h]; rfl
theorem Try.ap5 : rootS Try.EAp 4 17 (lsumsOf []) [.ro (.ints .u8 b) cap, .val (.int .i64 off), .val (.int .i64 5), .val (.int .u32 s), .val (.int .i64 add), .val (.int .u32 p)] = (ansN b off 5 s add p).run := by
  refine (Try.rAp5 b cap off s add p).trans ((ok_tree (k := 5) (w := 4) ⟨by omega, by omega⟩ rfl hb _ _).trans ?_)
  show _ = bif propB (okN b off 5 add) then (bif propB (fitN 5 (s + add)) then _ else _) else _
  by_cases h : okN b off 5 add
  · rw [propB_t h, cond_true, cond_true]
    obtain ⟨a1, a2, a3, a4, a5, a6⟩ := h
    have a6 : off + 4 ≤ (b.length : Int) := a6
    rw [wrap64 s (by omega) (by omega), wrap64 (s + add) (by omega) (by omega)]
    rw [propB_t (show fitN 5 (s + add) from ⟨fun q => by omega, fun q => by omega⟩), cond_true, ble_t hb, cond_true]
    refine (put4 a5 a6 hb _ _ _ _ _).trans ?_
    rw [show (off + 0 : Int) = off + (0 : Nat) by omega, show (off + 1 : Int) = off + (1 : Nat) by omega, show (off + 2 : Int) = off + (2 : Nat) by omega, show (off + 3 : Int) = off + (3 : Nat) by omega,
      offW 0 a5 (by omega) (by omega), offW 1 a5 (by omega) (by omega), offW 2 a5 (by omega) (by omega), offW 3 a5 (by omega) (by omega), fv5, wrap64 _ (by omega) (by omega), fd1, fd2, fd3, fd4]
    unfold outB oneH
    rw [apL_len]
    rfl
  · rw [propB_f h]; rfl
theorem Try.rp1 : rootS Try.EAp 4 18 (lsumsOf []) [.ro (.ints .u8 b) cap, .val (.int .i64 off), .val (.int .i64 1), .val (.int .u32 s), .val (.int .i64 add), .val (.int .u32 p)] = (ansN b off 1 s add p).run := by
  refine (Try.rRp1 b cap off s add p).trans ((ok_tree2 (k := 1) (w := 4) ⟨by omega, by omega⟩ rfl hb _ _).trans ?_)
  show _ = bif propB (okN b off 1 add) then (bif propB (fitN 1 (s + add)) then _ else _) else _
  by_cases h : okN b off 1 add
  · rw [propB_t h, cond_true, cond_true]
    obtain ⟨a1, a2, a3, a4, a5, a6⟩ := h
    have a6 : off + 4 ≤ (b.length : Int) := a6
    have hne : ownNew (some 0) 0 b.length = true := by unfold ownNew; rw [blt_t (by omega)]; rfl
    rw [wrap64 s (by omega) (by omega), wrap64 (s + add) (by omega) (by omega)]
    rw [propB_t (show fitN 1 (s + add) from ⟨fun q => by omega, fun q => by omega⟩), cond_true]
    rw [hne, cond_true, Nat.zero_add b.length, List.nil_append, Nat.mul_one, ble_t (by rw [most_eq]; omega)]
    simp only [Bool.and_self, cond_true]
    refine (put4 a5 a6 hb _ _ _ _ _).trans ?_
    rw [show (off + 0 : Int) = off + (0 : Nat) by omega, show (off + 1 : Int) = off + (1 : Nat) by omega, show (off + 2 : Int) = off + (2 : Nat) by omega, show (off + 3 : Int) = off + (3 : Nat) by omega,
      offW 0 a5 (by omega) (by omega), offW 1 a5 (by omega) (by omega), offW 2 a5 (by omega) (by omega), offW 3 a5 (by omega) (by omega), ud1, ud2, ud3, ud4]
    unfold outB oneH
    rw [apL_len]
    rfl
  · rw [propB_f h]; rfl
theorem Try.rp2 : rootS Try.EAp 4 18 (lsumsOf []) [.ro (.ints .u8 b) cap, .val (.int .i64 off), .val (.int .i64 2), .val (.int .u32 s), .val (.int .i64 add), .val (.int .u32 p)] = (ansN b off 2 s add p).run := by
  refine (Try.rRp2 b cap off s add p).trans ((ok_tree2 (k := 2) (w := 2) ⟨by omega, by omega⟩ rfl hb _ _).trans ?_)
  show _ = bif propB (okN b off 2 add) then (bif propB (fitN 2 (s + add)) then _ else _) else _
  by_cases h : okN b off 2 add
  · rw [propB_t h, cond_true, cond_true]
    obtain ⟨a1, a2, a3, a4, a5, a6⟩ := h
    have a6 : off + 2 ≤ (b.length : Int) := a6
    have hne : ownNew (some 0) 0 b.length = true := by unfold ownNew; rw [blt_t (by omega)]; rfl
    rw [wrap64 s (by omega) (by omega), wrap64 (s + add) (by omega) (by omega)]
    rw [fit_tree (k := 2) (lo := -32768) (hi := 65535) ⟨fun q => q.1 (by omega), fun q => ⟨fun _ => q, fun q => by omega⟩⟩]
    by_cases hf : propB (fitN 2 (s + add)) = true
    rotate_left
    · rw [Bool.not_eq_true] at hf; rw [hf]; rfl
    rw [hf, cond_true, cond_true]
    rw [hne, cond_true, Nat.zero_add b.length, List.nil_append, Nat.mul_one, ble_t (by rw [most_eq]; omega)]
    simp only [Bool.and_self, cond_true]
    refine (put2 a5 a6 hb _ _ _).trans ?_
    rw [show (off + 0 : Int) = off + (0 : Nat) by omega, show (off + 1 : Int) = off + (1 : Nat) by omega,
      offW 0 a5 (by omega) (by omega), offW 1 a5 (by omega) (by omega), ud1, ud2]
    unfold outB oneH
    rw [apL_len]
    rfl
  · rw [propB_f h]; rfl
theorem Try.rp3 : rootS Try.EAp 4 18 (lsumsOf []) [.ro (.ints .u8 b) cap, .val (.int .i64 off), .val (.int .i64 3), .val (.int .u32 s), .val (.int .i64 add), .val (.int .u32 p)] = (ansN b off 3 s add p).run := by
  refine (Try.rRp3 b cap off s add p).trans ((ok_tree2 (k := 3) (w := 1) ⟨by omega, by omega⟩ rfl hb _ _).trans ?_)
  show _ = bif propB (okN b off 3 add) then (bif propB (fitN 3 (s + add)) then _ else _) else _
  by_cases h : okN b off 3 add
  · rw [propB_t h, cond_true, cond_true]
    obtain ⟨a1, a2, a3, a4, a5, a6⟩ := h
    have a6 : off + 1 ≤ (b.length : Int) := a6
    have hne : ownNew (some 0) 0 b.length = true := by unfold ownNew; rw [blt_t (by omega)]; rfl
    rw [wrap64 s (by omega) (by omega), wrap64 (s + add) (by omega) (by omega)]
    rw [fit_tree (k := 3) (lo := -128) (hi := 255) ⟨fun q => q.2 (by omega), fun q => ⟨fun q => by omega, fun _ => q⟩⟩]
    by_cases hf : propB (fitN 3 (s + add)) = true
    rotate_left
    · rw [Bool.not_eq_true] at hf; rw [hf]; rfl
    rw [hf, cond_true, cond_true]
    rw [hne, cond_true, Nat.zero_add b.length, List.nil_append, Nat.mul_one, ble_t (by rw [most_eq]; omega)]
    simp only [Bool.and_self, cond_true]
    refine (put1 a5 a6 hb _ _).trans ?_
    rw [show (off + 0 : Int) = off + (0 : Nat) by omega,
      offW 0 a5 (by omega) (by omega), ud1]
    unfold outB oneH
    rw [apL_len]
    rfl
  · rw [propB_f h]; rfl
theorem Try.rp4 : rootS Try.EAp 4 18 (lsumsOf []) [.ro (.ints .u8 b) cap, .val (.int .i64 off), .val (.int .i64 4), .val (.int .u32 s), .val (.int .i64 add), .val (.int .u32 p)] = (ansN b off 4 s add p).run := by
  refine (Try.rRp4 b cap off s add p).trans ((ok_tree2 (k := 4) (w := 4) ⟨by omega, by omega⟩ rfl hb _ _).trans ?_)
  show _ = bif propB (okN b off 4 add) then (bif propB (fitN 4 (s + add)) then _ else _) else _
  by_cases h : okN b off 4 add
  · rw [propB_t h, cond_true, cond_true]
    obtain ⟨a1, a2, a3, a4, a5, a6⟩ := h
    have a6 : off + 4 ≤ (b.length : Int) := a6
    have hne : ownNew (some 0) 0 b.length = true := by unfold ownNew; rw [blt_t (by omega)]; rfl
    rw [wrap64 s (by omega) (by omega), wrap64 (s + add) (by omega) (by omega)]
    rw [propB_t (show fitN 4 (s + add) from ⟨fun q => by omega, fun q => by omega⟩), cond_true]
    rw [hne, cond_true, Nat.zero_add b.length, List.nil_append, Nat.mul_one, ble_t (by rw [most_eq]; omega)]
    simp only [Bool.and_self, cond_true]
    refine (put4 a5 a6 hb _ _ _ _ _).trans ?_
    rw [show (off + 0 : Int) = off + (0 : Nat) by omega, show (off + 1 : Int) = off + (1 : Nat) by omega, show (off + 2 : Int) = off + (2 : Nat) by omega, show (off + 3 : Int) = off + (3 : Nat) by omega,
      offW 0 a5 (by omega) (by omega), offW 1 a5 (by omega) (by omega), offW 2 a5 (by omega) (by omega), offW 3 a5 (by omega) (by omega), uv4, ud1, ud2, ud3, ud4]
    unfold outB oneH
    rw [apL_len]
    rfl
  · rw [propB_f h]; rfl
theorem Try.rp5 : rootS Try.EAp 4 18 (lsumsOf []) [.ro (.ints .u8 b) cap, .val (.int .i64 off), .val (.int .i64 5), .val (.int .u32 s), .val (.int .i64 add), .val (.int .u32 p)] = (ansN b off 5 s add p).run := by
  refine (Try.rRp5 b cap off s add p).trans ((ok_tree2 (k := 5) (w := 4) ⟨by omega, by omega⟩ rfl hb _ _).trans ?_)
  show _ = bif propB (okN b off 5 add) then (bif propB (fitN 5 (s + add)) then _ else _) else _
  by_cases h : okN b off 5 add
  · rw [propB_t h, cond_true, cond_true]
    obtain ⟨a1, a2, a3, a4, a5, a6⟩ := h
    have a6 : off + 4 ≤ (b.length : Int) := a6
    have hne : ownNew (some 0) 0 b.length = true := by unfold ownNew; rw [blt_t (by omega)]; rfl
    rw [wrap64 s (by omega) (by omega), wrap64 (s + add) (by omega) (by omega)]
    rw [propB_t (show fitN 5 (s + add) from ⟨fun q => by omega, fun q => by omega⟩), cond_true]
    rw [hne, cond_true, Nat.zero_add b.length, List.nil_append, Nat.mul_one, ble_t (by rw [most_eq]; omega)]
    simp only [Bool.and_self, cond_true]
    refine (put4 a5 a6 hb _ _ _ _ _).trans ?_
    rw [show (off + 0 : Int) = off + (0 : Nat) by omega, show (off + 1 : Int) = off + (1 : Nat) by omega, show (off + 2 : Int) = off + (2 : Nat) by omega, show (off + 3 : Int) = off + (3 : Nat) by omega,
      offW 0 a5 (by omega) (by omega), offW 1 a5 (by omega) (by omega), offW 2 a5 (by omega) (by omega), offW 3 a5 (by omega) (by omega), uv5, ud1, ud2, ud3, ud4]
    unfold outB oneH
    rw [apL_len]
    rfl
  · rw [propB_f h]; rfl
end
end Go.Ev
/- The summaries of Clone, Equal and Apply. -/
namespace Go.Ev
open Go.Proofs
theorem AllL.noL {P : Program} (l : List Code) : AllL (LsOk P (lsumsOf [])) l := by
  induction l with
  | nil => trivial
  | cons c l ih =>
    refine ⟨?_, ih⟩
    unfold LsOk
    have : lsOf (lsumsOf []) c = none := by
      unfold lsOf
      cases Code.fst c <;> rfl
    rw [this]; trivial
theorem Try.alClone (l : List Int) (cap : Option Nat) (hb : l.length ≤ 1000000) : Alone Try.prog 16 [.ro (.ints .u8 l) cap] (.own 0 0 l.length none 1) (oneH (.ints .u8 l)) := by
  have run := fun args v h2 => rootS_alone Try.e1 (d := 3) (g := 16) (ls := lsumsOf []) (AllL.of0 (by kernel_rfl)) (args := args) (v := v) (h2 := h2)
  refine clone_alone (.ints .u8 l) cap ?_ ?_ ?_
  · intro hl
    cases l with
    | nil => cases hl
    | cons x l =>
      refine run _ _ _ ((Try.rClonea x l cap).trans ?_)
      rw [Nat.zero_add, Nat.mul_one, ble_t (by rw [most_eq]; omega)]; rfl
  · intro _ m; exact ⟨_, run _ _ _ (Try.rCloneb m)⟩
  · intro h0 p m
    have : l = [] := List.length_eq_zero_iff.1 h0
    subst this
    exact run _ _ _ (Try.rClonec p m)
theorem Try.sumClone : SumC Try.prog 16 Try.AClone := by
  refine pureSumR 16 ⟨Try.f16, _, Try.fnOk16.1, Try.fnOk16.2, rfl⟩ ?_
  intro args v h2 hs
  refine Alone.nz (cs := Try.nzB) (by simp [Try.nzB, Con.len]) ?_
  replace hs : (cloneBS (nzs Try.nzB args)).run = some (v, h2) := hs
  generalize nzs Try.nzB args = args' at hs ⊢
  unfold cloneBS at hs
  split at hs
  · rename_i l cap
    rw [Ans.run_grd] at hs
    cases hb : Nat.ble l.length 1000000 with
    | false => rw [hb] at hs; cases hs
    | true =>
      rw [hb, cond_true] at hs
      rw [Nat.ble_eq] at hb
      injection hs with hs
      injection hs with q1 q2
      subst q1; subst q2
      exact Try.alClone l cap hb
  · cases hs
theorem Try.sumEqual : SumC Try.prog 13 Try.AEqual := by
  refine pureSumR 13 ⟨Try.f13, _, Try.fnOk13.1, Try.fnOk13.2, rfl⟩ ?_
  intro args v h2 hs
  refine Alone.nz (cs := Try.nzB2) (by simp [Try.nzB2, Con.len]) ?_
  replace hs : (eqBS (nzs Try.nzB2 args)).run = some (v, h2) := hs
  generalize nzs Try.nzB2 args = args' at hs ⊢
  unfold eqBS at hs
  split at hs
  · rename_i l c1 m c2
    have run := fun args v h2 => rootS_alone Try.e1 (d := 3) (g := 13) (ls := lsumsOf []) (AllL.of0 (by kernel_rfl)) (args := args) (v := v) (h2 := h2)
    injection hs with hs
    injection hs with q1 q2
    subst q1; subst q2
    refine run _ _ _ ((Try.rEqual l m c1 c2).trans ?_)
    cases h : (strOf l).toList == (strOf m).toList with
    | true => rfl
    | false => rfl
  · cases hs
def apR (b : List Int) (s p : Int) : Prop := b.length ≤ 1000000 ∧ (0 ≤ s ∧ s < 4294967296) ∧ (0 ≤ p ∧ p < 4294967296)
def applyS (args : List AV) : Ans (AV × Heap) := match args with
  | [.ro (.ints .u8 b) cap, .val (.int .i64 off), .val (.int .i64 k), .val (.int .u32 s), .val (.int .i64 add), .val (.int .u32 p)] => .grd (propB (apR b s p)) (ansN b off k s add p)
  | _ => .no
def Try.AApply : AFun := pureA (fun args => applyS (nzs Try.nzB args))
theorem Try.eAp : EnvOk2 Try.prog Try.EAp := Try.envOk false (sumsOf Try.tAp) _ (sumsOf_ok (show AllS Try.prog Try.tAp from ⟨Try.sumClone, trivial⟩))
theorem Try.apx (b : List Int) (cap : Option Nat) (off s add p : Int) : rootS Try.EAp 4 17 (lsumsOf []) [.ro (.ints .u8 b) cap, .val (.int .i64 off), .val (.int .i64 (.ofNat 0)), .val (.int .u32 s), .val (.int .i64 add), .val (.int .u32 p)] = some (nilB 1) := by kernel_rfl
theorem Try.rapy (n : Nat) (b : List Int) (cap : Option Nat) (off s add p : Int) : rootS Try.EAp 4 17 (lsumsOf []) [.ro (.ints .u8 b) cap, .val (.int .i64 off), .val (.int .i64 (.ofNat (n + 6))), .val (.int .u32 s), .val (.int .i64 add), .val (.int .u32 p)] =
 bif decide (Int.ofNat (n + 6) ≥ 1) then
 some (.tup [.val (.slice none 0 0), .val (.int .i64 1)], ⟨0, []⟩)
 else
 some (.tup [.val (.slice none 0 0), .val (.int .i64 1)], ⟨0, []⟩) := by kernel_rfl
theorem Try.apz (n : Nat) (b : List Int) (cap : Option Nat) (off s add p : Int) : rootS Try.EAp 4 17 (lsumsOf []) [.ro (.ints .u8 b) cap, .val (.int .i64 off), .val (.int .i64 (.negSucc n)), .val (.int .u32 s), .val (.int .i64 add), .val (.int .u32 p)] = some (nilB 1) := by kernel_rfl
theorem Try.rpx (b : List Int) (cap : Option Nat) (off s add p : Int) : rootS Try.EAp 4 18 (lsumsOf []) [.ro (.ints .u8 b) cap, .val (.int .i64 off), .val (.int .i64 (.ofNat 0)), .val (.int .u32 s), .val (.int .i64 add), .val (.int .u32 p)] = some (nilB 1) := by kernel_rfl
theorem Try.rrpy (n : Nat) (b : List Int) (cap : Option Nat) (off s add p : Int) : rootS Try.EAp 4 18 (lsumsOf []) [.ro (.ints .u8 b) cap, .val (.int .i64 off), .val (.int .i64 (.ofNat (n + 6))), .val (.int .u32 s), .val (.int .i64 add), .val (.int .u32 p)] =
 bif decide (Int.ofNat (n + 6) > 5) then
 some (.tup [.val (.slice none 0 0), .val (.int .i64 1)], ⟨0, []⟩)
 else
 bif decide (add ≥ -2147483648) then
 bif decide (add ≤ 2147483647) then
 bif decide (off < 0) then
 some (.tup [.val (.slice none 0 0), .val (.int .i64 1)], ⟨0, []⟩)
 else
 bif decide (off > (↑b.length : Int)) then
 some (.tup [.val (.slice none 0 0), .val (.int .i64 1)], ⟨0, []⟩)
 else
 bif decide (IntKind.i64.wrap (off + 4) > (↑b.length : Int)) then
 some (.tup [.val (.slice none 0 0), .val (.int .i64 1)], ⟨0, []⟩)
 else
 bif ownNew (some 0) 0 b.length then
 bif ((0 + b.length) * 1).ble most && (0 + b.length).ble most then
 bif inR (IntKind.i64.wrap (off + 0)) (0 + b.length) then
 bif (0 + (IntKind.i64.wrap (off + 0)).toNat).blt ([] ++ b).length then
 bif inR (IntKind.i64.wrap (off + 1)) (0 + b.length) then
 bif (0 + (IntKind.i64.wrap (off + 1)).toNat).blt (([] ++ b).set (0 + (IntKind.i64.wrap (off + 0)).toNat) (IntKind.u8.wrap (IntKind.u32.wrap (IntKind.i64.wrap (IntKind.i64.wrap s + add))))).length then
 bif inR (IntKind.i64.wrap (off + 2)) (0 + b.length) then
 bif (0 + (IntKind.i64.wrap (off + 2)).toNat).blt ((([] ++ b).set (0 + (IntKind.i64.wrap (off + 0)).toNat) (IntKind.u8.wrap (IntKind.u32.wrap (IntKind.i64.wrap (IntKind.i64.wrap s + add))))).set (0 + (IntKind.i64.wrap (off + 1)).toNat) (IntKind.u8.wrap ((IntKind.u32.wrap (IntKind.i64.wrap (IntKind.i64.wrap s + add))).fdiv 256))).length then
 bif inR (IntKind.i64.wrap (off + 3)) (0 + b.length) then
 bif (0 + (IntKind.i64.wrap (off + 3)).toNat).blt (((([] ++ b).set (0 + (IntKind.i64.wrap (off + 0)).toNat) (IntKind.u8.wrap (IntKind.u32.wrap (IntKind.i64.wrap (IntKind.i64.wrap s + add))))).set (0 + (IntKind.i64.wrap (off + 1)).toNat) (IntKind.u8.wrap ((IntKind.u32.wrap (IntKind.i64.wrap (IntKind.i64.wrap s + add))).fdiv 256))).set (0 + (IntKind.i64.wrap (off + 2)).toNat) (IntKind.u8.wrap (((IntKind.u32.wrap (IntKind.i64.wrap (IntKind.i64.wrap s + add))).fdiv 256).fdiv 256))).length then
 some (.tup [.own 0 0 (0 + b.length) none 1, .val (.int .i64 0)], ⟨1, [⟨0, 0, .cells (.ints .u8 ((((([] ++ b).set (0 + (IntKind.i64.wrap (off + 0)).toNat) (IntKind.u8.wrap (IntKind.u32.wrap (IntKind.i64.wrap (IntKind.i64.wrap s + add))))).set (0 + (IntKind.i64.wrap (off + 1)).toNat) (IntKind.u8.wrap ((IntKind.u32.wrap (IntKind.i64.wrap (IntKind.i64.wrap s + add))).fdiv 256))).set (0 + (IntKind.i64.wrap (off + 2)).toNat) (IntKind.u8.wrap (((IntKind.u32.wrap (IntKind.i64.wrap (IntKind.i64.wrap s + add))).fdiv 256).fdiv 256))).set (0 + (IntKind.i64.wrap (off + 3)).toNat) (IntKind.u8.wrap ((((IntKind.u32.wrap (IntKind.i64.wrap (IntKind.i64.wrap s + add))).fdiv 256).fdiv 256).fdiv 256))))⟩]⟩)
 else
 none
 else
 none
 else
 none
 else
 none
 else
 none
 else
 none
 else
 none
 else
 none
 else
 none
 else
 bif ((0 + b.length) * 1).ble most && (0 + b.length).ble most then
 bif inR (IntKind.i64.wrap (off + 0)) (0 + b.length) then
 bif (0 + (IntKind.i64.wrap (off + 0)).toNat).blt ([] ++ b).length then
 bif inR (IntKind.i64.wrap (off + 1)) (0 + b.length) then
 bif (0 + (IntKind.i64.wrap (off + 1)).toNat).blt (([] ++ b).set (0 + (IntKind.i64.wrap (off + 0)).toNat) (IntKind.u8.wrap (IntKind.u32.wrap (IntKind.i64.wrap (IntKind.i64.wrap s + add))))).length then
 bif inR (IntKind.i64.wrap (off + 2)) (0 + b.length) then
 bif (0 + (IntKind.i64.wrap (off + 2)).toNat).blt ((([] ++ b).set (0 + (IntKind.i64.wrap (off + 0)).toNat) (IntKind.u8.wrap (IntKind.u32.wrap (IntKind.i64.wrap (IntKind.i64.wrap s + add))))).set (0 + (IntKind.i64.wrap (off + 1)).toNat) (IntKind.u8.wrap ((IntKind.u32.wrap (IntKind.i64.wrap (IntKind.i64.wrap s + add))).fdiv 256))).length then
 bif inR (IntKind.i64.wrap (off + 3)) (0 + b.length) then
 bif (0 + (IntKind.i64.wrap (off + 3)).toNat).blt (((([] ++ b).set (0 + (IntKind.i64.wrap (off + 0)).toNat) (IntKind.u8.wrap (IntKind.u32.wrap (IntKind.i64.wrap (IntKind.i64.wrap s + add))))).set (0 + (IntKind.i64.wrap (off + 1)).toNat) (IntKind.u8.wrap ((IntKind.u32.wrap (IntKind.i64.wrap (IntKind.i64.wrap s + add))).fdiv 256))).set (0 + (IntKind.i64.wrap (off + 2)).toNat) (IntKind.u8.wrap (((IntKind.u32.wrap (IntKind.i64.wrap (IntKind.i64.wrap s + add))).fdiv 256).fdiv 256))).length then
 some (.tup [.own 0 0 (0 + b.length) none 1, .val (.int .i64 0)], ⟨1, [⟨0, 0, .cells (.ints .u8 ((((([] ++ b).set (0 + (IntKind.i64.wrap (off + 0)).toNat) (IntKind.u8.wrap (IntKind.u32.wrap (IntKind.i64.wrap (IntKind.i64.wrap s + add))))).set (0 + (IntKind.i64.wrap (off + 1)).toNat) (IntKind.u8.wrap ((IntKind.u32.wrap (IntKind.i64.wrap (IntKind.i64.wrap s + add))).fdiv 256))).set (0 + (IntKind.i64.wrap (off + 2)).toNat) (IntKind.u8.wrap (((IntKind.u32.wrap (IntKind.i64.wrap (IntKind.i64.wrap s + add))).fdiv 256).fdiv 256))).set (0 + (IntKind.i64.wrap (off + 3)).toNat) (IntKind.u8.wrap ((((IntKind.u32.wrap (IntKind.i64.wrap (IntKind.i64.wrap s + add))).fdiv 256).fdiv 256).fdiv 256))))⟩]⟩)
 else
 none
 else
 none
 else
 none
 else
 none
 else
 none
 else
 none
 else
 none
 else
 none
 else
 none
 else
 some (.tup [.val (.slice none 0 0), .val (.int .i64 1)], ⟨0, []⟩)
 else
 some (.tup [.val (.slice none 0 0), .val (.int .i64 1)], ⟨0, []⟩) := by kernel_rfl
theorem Try.rrpz (n : Nat) (b : List Int) (cap : Option Nat) (off s add p : Int) : rootS Try.EAp 4 18 (lsumsOf []) [.ro (.ints .u8 b) cap, .val (.int .i64 off), .val (.int .i64 (.negSucc n)), .val (.int .u32 s), .val (.int .i64 add), .val (.int .u32 p)] =
 bif decide (Int.negSucc n < 1) then
 some (.tup [.val (.slice none 0 0), .val (.int .i64 1)], ⟨0, []⟩)
 else
 bif decide (add ≥ -2147483648) then
 bif decide (add ≤ 2147483647) then
 bif decide (off < 0) then
 some (.tup [.val (.slice none 0 0), .val (.int .i64 1)], ⟨0, []⟩)
 else
 bif decide (off > (↑b.length : Int)) then
 some (.tup [.val (.slice none 0 0), .val (.int .i64 1)], ⟨0, []⟩)
 else
 bif decide (IntKind.i64.wrap (off + 4) > (↑b.length : Int)) then
 some (.tup [.val (.slice none 0 0), .val (.int .i64 1)], ⟨0, []⟩)
 else
 bif ownNew (some 0) 0 b.length then
 bif ((0 + b.length) * 1).ble most && (0 + b.length).ble most then
 bif inR (IntKind.i64.wrap (off + 0)) (0 + b.length) then
 bif (0 + (IntKind.i64.wrap (off + 0)).toNat).blt ([] ++ b).length then
 bif inR (IntKind.i64.wrap (off + 1)) (0 + b.length) then
 bif (0 + (IntKind.i64.wrap (off + 1)).toNat).blt (([] ++ b).set (0 + (IntKind.i64.wrap (off + 0)).toNat) (IntKind.u8.wrap (IntKind.u32.wrap (IntKind.i64.wrap (IntKind.i64.wrap s + add))))).length then
 bif inR (IntKind.i64.wrap (off + 2)) (0 + b.length) then
 bif (0 + (IntKind.i64.wrap (off + 2)).toNat).blt ((([] ++ b).set (0 + (IntKind.i64.wrap (off + 0)).toNat) (IntKind.u8.wrap (IntKind.u32.wrap (IntKind.i64.wrap (IntKind.i64.wrap s + add))))).set (0 + (IntKind.i64.wrap (off + 1)).toNat) (IntKind.u8.wrap ((IntKind.u32.wrap (IntKind.i64.wrap (IntKind.i64.wrap s + add))).fdiv 256))).length then
 bif inR (IntKind.i64.wrap (off + 3)) (0 + b.length) then
 bif (0 + (IntKind.i64.wrap (off + 3)).toNat).blt (((([] ++ b).set (0 + (IntKind.i64.wrap (off + 0)).toNat) (IntKind.u8.wrap (IntKind.u32.wrap (IntKind.i64.wrap (IntKind.i64.wrap s + add))))).set (0 + (IntKind.i64.wrap (off + 1)).toNat) (IntKind.u8.wrap ((IntKind.u32.wrap (IntKind.i64.wrap (IntKind.i64.wrap s + add))).fdiv 256))).set (0 + (IntKind.i64.wrap (off + 2)).toNat) (IntKind.u8.wrap (((IntKind.u32.wrap (IntKind.i64.wrap (IntKind.i64.wrap s + add))).fdiv 256).fdiv 256))).length then
 some (.tup [.own 0 0 (0 + b.length) none 1, .val (.int .i64 0)], ⟨1, [⟨0, 0, .cells (.ints .u8 ((((([] ++ b).set (0 + (IntKind.i64.wrap (off + 0)).toNat) (IntKind.u8.wrap (IntKind.u32.wrap (IntKind.i64.wrap (IntKind.i64.wrap s + add))))).set (0 + (IntKind.i64.wrap (off + 1)).toNat) (IntKind.u8.wrap ((IntKind.u32.wrap (IntKind.i64.wrap (IntKind.i64.wrap s + add))).fdiv 256))).set (0 + (IntKind.i64.wrap (off + 2)).toNat) (IntKind.u8.wrap (((IntKind.u32.wrap (IntKind.i64.wrap (IntKind.i64.wrap s + add))).fdiv 256).fdiv 256))).set (0 + (IntKind.i64.wrap (off + 3)).toNat) (IntKind.u8.wrap ((((IntKind.u32.wrap (IntKind.i64.wrap (IntKind.i64.wrap s + add))).fdiv 256).fdiv 256).fdiv 256))))⟩]⟩)
 else
 none
 else
 none
 else
 none
 else
 none
 else
 none
 else
 none
 else
 none
 else
 none
 else
 none
 else
 bif ((0 + b.length) * 1).ble most && (0 + b.length).ble most then
 bif inR (IntKind.i64.wrap (off + 0)) (0 + b.length) then
 bif (0 + (IntKind.i64.wrap (off + 0)).toNat).blt ([] ++ b).length then
 bif inR (IntKind.i64.wrap (off + 1)) (0 + b.length) then
 bif (0 + (IntKind.i64.wrap (off + 1)).toNat).blt (([] ++ b).set (0 + (IntKind.i64.wrap (off + 0)).toNat) (IntKind.u8.wrap (IntKind.u32.wrap (IntKind.i64.wrap (IntKind.i64.wrap s + add))))).length then
 bif inR (IntKind.i64.wrap (off + 2)) (0 + b.length) then
 bif (0 + (IntKind.i64.wrap (off + 2)).toNat).blt ((([] ++ b).set (0 + (IntKind.i64.wrap (off + 0)).toNat) (IntKind.u8.wrap (IntKind.u32.wrap (IntKind.i64.wrap (IntKind.i64.wrap s + add))))).set (0 + (IntKind.i64.wrap (off + 1)).toNat) (IntKind.u8.wrap ((IntKind.u32.wrap (IntKind.i64.wrap (IntKind.i64.wrap s + add))).fdiv 256))).length then
 bif inR (IntKind.i64.wrap (off + 3)) (0 + b.length) then
 bif (0 + (IntKind.i64.wrap (off + 3)).toNat).blt (((([] ++ b).set (0 + (IntKind.i64.wrap (off + 0)).toNat) (IntKind.u8.wrap (IntKind.u32.wrap (IntKind.i64.wrap (IntKind.i64.wrap s + add))))).set (0 + (IntKind.i64.wrap (off + 1)).toNat) (IntKind.u8.wrap ((IntKind.u32.wrap (IntKind.i64.wrap (IntKind.i64.wrap s + add))).fdiv 256))).set (0 + (IntKind.i64.wrap (off + 2)).toNat) (IntKind.u8.wrap (((IntKind.u32.wrap (IntKind.i64.wrap (IntKind.i64.wrap s + add))).fdiv 256).fdiv 256))).length then
 some (.tup [.own 0 0 (0 + b.length) none 1, .val (.int .i64 0)], ⟨1, [⟨0, 0, .cells (.ints .u8 ((((([] ++ b).set (0 + (IntKind.i64.wrap (off + 0)).toNat) (IntKind.u8.wrap (IntKind.u32.wrap (IntKind.i64.wrap (IntKind.i64.wrap s + add))))).set (0 + (IntKind.i64.wrap (off + 1)).toNat) (IntKind.u8.wrap ((IntKind.u32.wrap (IntKind.i64.wrap (IntKind.i64.wrap s + add))).fdiv 256))).set (0 + (IntKind.i64.wrap (off + 2)).toNat) (IntKind.u8.wrap (((IntKind.u32.wrap (IntKind.i64.wrap (IntKind.i64.wrap s + add))).fdiv 256).fdiv 256))).set (0 + (IntKind.i64.wrap (off + 3)).toNat) (IntKind.u8.wrap ((((IntKind.u32.wrap (IntKind.i64.wrap (IntKind.i64.wrap s + add))).fdiv 256).fdiv 256).fdiv 256))))⟩]⟩)
 else
 none
 else
 none
 else
 none
 else
 none
 else
 none
 else
 none
 else
 none
 else
 none
 else
 none
 else
 some (.tup [.val (.slice none 0 0), .val (.int .i64 1)], ⟨0, []⟩)
 else
 some (.tup [.val (.slice none 0 0), .val (.int .i64 1)], ⟨0, []⟩) := by kernel_rfl
theorem Try.apy (n : Nat) (b : List Int) (cap : Option Nat) (off s add p : Int) : rootS Try.EAp 4 17 (lsumsOf []) [.ro (.ints .u8 b) cap, .val (.int .i64 off), .val (.int .i64 (.ofNat (n + 6))), .val (.int .u32 s), .val (.int .i64 add), .val (.int .u32 p)] = some (nilB 1) := by
  refine (Try.rapy n b cap off s add p).trans ?_
  cases decide (Int.ofNat (n + 6) ≥ 1) <;> rfl
theorem Try.rpy (n : Nat) (b : List Int) (cap : Option Nat) (off s add p : Int) : rootS Try.EAp 4 18 (lsumsOf []) [.ro (.ints .u8 b) cap, .val (.int .i64 off), .val (.int .i64 (.ofNat (n + 6))), .val (.int .u32 s), .val (.int .i64 add), .val (.int .u32 p)] = some (nilB 1) := by
  refine (Try.rrpy n b cap off s add p).trans ?_
  first
  | (rw [decide_eq_false (show ¬ Int.ofNat (n + 6) < 1 by rw [Int.ofNat_eq_natCast]; omega), cond_false, decide_eq_true (show Int.ofNat (n + 6) > 5 by rw [Int.ofNat_eq_natCast]; omega)]; rfl)
  | (rw [decide_eq_true (show Int.ofNat (n + 6) > 5 by rw [Int.ofNat_eq_natCast]; omega)]; rfl)
  | rfl
theorem Try.rpz (n : Nat) (b : List Int) (cap : Option Nat) (off s add p : Int) : rootS Try.EAp 4 18 (lsumsOf []) [.ro (.ints .u8 b) cap, .val (.int .i64 off), .val (.int .i64 (.negSucc n)), .val (.int .u32 s), .val (.int .i64 add), .val (.int .u32 p)] = some (nilB 1) := by
  refine (Try.rrpz n b cap off s add p).trans ?_
  rw [decide_eq_true (show Int.negSucc n < 1 by have := Int.negSucc_lt_zero n; omega)]; rfl
theorem bad_ans {b : List Int} {off k s add p : Int} (hk : ¬ (1 ≤ k ∧ k ≤ 5)) : some (nilB 1) = (ansN b off k s add p).run := by
  show _ = bif propB (okN b off k add) then _ else _
  rw [propB_f (fun q : okN b off k add => hk ⟨q.1, q.2.1⟩)]; rfl
theorem kinds {p : Int → Prop} (h0 : p (.ofNat 0)) (h1 : p 1) (h2 : p 2) (h3 : p 3) (h4 : p 4) (h5 : p 5) (h6 : ∀ n : Nat, p (.ofNat (n + 6))) (h7 : ∀ n, p (.negSucc n)) : ∀ k, p k
  | .ofNat 0 => h0
  | .ofNat 1 => h1
  | .ofNat 2 => h2
  | .ofNat 3 => h3
  | .ofNat 4 => h4
  | .ofNat 5 => h5
  | .ofNat (n + 6) => h6 n
  | .negSucc n => h7 n
theorem Try.apAll (b : List Int) (cap : Option Nat) (off s add p : Int) (h : apR b s p) : ∀ k : Int, rootS Try.EAp 4 17 (lsumsOf []) [.ro (.ints .u8 b) cap, .val (.int .i64 off), .val (.int .i64 k), .val (.int .u32 s), .val (.int .i64 add), .val (.int .u32 p)] = (ansN b off k s add p).run :=
  kinds ((Try.apx b cap off s add p).trans (bad_ans (by decide))) (Try.ap1 h.1 h.2.1 h.2.2) (Try.ap2 h.1 h.2.1 h.2.2) (Try.ap3 h.1 h.2.1 h.2.2) (Try.ap4 h.1 h.2.1 h.2.2) (Try.ap5 h.1 h.2.1 h.2.2)
    (fun n => (Try.apy n b cap off s add p).trans (bad_ans (by rw [Int.ofNat_eq_natCast]; omega))) (fun n => (Try.apz n b cap off s add p).trans (bad_ans (by have := Int.negSucc_lt_zero n; omega)))
theorem Try.rpAll (b : List Int) (cap : Option Nat) (off s add p : Int) (h : apR b s p) : ∀ k : Int, rootS Try.EAp 4 18 (lsumsOf []) [.ro (.ints .u8 b) cap, .val (.int .i64 off), .val (.int .i64 k), .val (.int .u32 s), .val (.int .i64 add), .val (.int .u32 p)] = (ansN b off k s add p).run :=
  kinds ((Try.rpx b cap off s add p).trans (bad_ans (by decide))) (Try.rp1 h.1 h.2.1 h.2.2) (Try.rp2 h.1 h.2.1 h.2.2) (Try.rp3 h.1 h.2.1 h.2.2) (Try.rp4 h.1 h.2.1 h.2.2) (Try.rp5 h.1 h.2.1 h.2.2)
    (fun n => (Try.rpy n b cap off s add p).trans (bad_ans (by rw [Int.ofNat_eq_natCast]; omega))) (fun n => (Try.rpz n b cap off s add p).trans (bad_ans (by have := Int.negSucc_lt_zero n; omega)))
theorem apply_sum {P : Program} {g : Nat} (hf : ∃ fn c, P.funcs[g]? = some fn ∧ fn.name ≠ "runtime.NumGoroutine" ∧ fn.body = some c)
    (h : ∀ (b : List Int) (cap : Option Nat) (off s add p : Int), apR b s p → ∀ k v h2, (ansN b off k s add p).run = some (v, h2) → Alone P g [.ro (.ints .u8 b) cap, .val (.int .i64 off), .val (.int .i64 k), .val (.int .u32 s), .val (.int .i64 add), .val (.int .u32 p)] v h2) :
    SumC P g (pureA (fun args => applyS (nzs [.ints .u8 []] args))) := by
  refine pureSumR g hf ?_
  intro args v h2 hs
  refine Alone.nz (cs := [.ints .u8 []]) (by simp [Con.len]) ?_
  replace hs : (applyS (nzs [.ints .u8 []] args)).run = some (v, h2) := hs
  generalize nzs [.ints .u8 []] args = args' at hs ⊢
  unfold applyS at hs
  split at hs
  · rename_i b cap off k s add p
    rw [Ans.run_grd] at hs
    cases hb : propB (apR b s p) with
    | false => rw [hb] at hs; cases hs
    | true =>
      rw [hb, cond_true] at hs
      exact h b cap off s add p (propB_eq hb) k v h2 hs
  · cases hs
theorem Try.sumApply : SumC Try.prog 17 Try.AApply :=
  apply_sum ⟨Try.f17, _, Try.fnOk17.1, Try.fnOk17.2, rfl⟩ (fun b cap off s add p hr k v h2 hs =>
    rootS_alone Try.eAp (d := 4) (g := 17) (ls := lsumsOf []) (AllL.noL _) ((Try.apAll b cap off s add p hr k).trans hs))
theorem Try.sumApplyR : SumC Try.prog 18 Try.AApply :=
  apply_sum ⟨Try.f18, _, Try.fnOk18.1, Try.fnOk18.2, rfl⟩ (fun b cap off s add p hr k v h2 hs =>
    rootS_alone Try.eAp (d := 4) (g := 18) (ls := lsumsOf []) (AllL.noL _) ((Try.rpAll b cap off s add p hr k).trans hs))
end Go.Ev
/- ObjApplied: the law's run. -/
namespace Go.Ev
open Go.Proofs
def Try.tL5 : List (Nat × AFun) := [(8, constA (.bool true)), (13, Try.AEqual), (16, Try.AClone), (17, Try.AApply), (18, Try.AApply)]
def Try.EL5 : Env := Try.env0 false (sumsOf Try.tL5) (keepF 0 [])
theorem Try.rL5 (b : List Int) (off s add p k : Int) : rootS Try.EL5 4 5 (lsumsOf []) [.ro (.ints .u8 b) none, .val (.int .i64 off), .val (.int .i64 k), .val (.int .u32 s), .val (.int .i64 add), .val (.int .u32 p)] =
 bif decide ((↑b.length : Int) > 20000) then
 some (.val (.bool true), ⟨0, []⟩)
 else
 bif b.length.ble 1000000 then
 bif propB (apR b s p) then
 bif propB (okN b off k add) then
 bif propB (fitN k (s + add)) then
 bif (0 + b.length).ble b.length && true then
 bif propB (apR (List.take b.length (List.drop 0 b)) s p) then
 bif propB (okN (List.take b.length (List.drop 0 b)) off k add) then
 bif propB (fitN k (s + add)) then
 bif (0 + (apL b off.toNat k (valN k s add p)).length).ble (apL b off.toNat k (valN k s add p)).length && true then
 bif (0 + (apL (List.take b.length (List.drop 0 b)) off.toNat k (valN k s add p)).length).ble (apL (List.take b.length (List.drop 0 b)) off.toNat k (valN k s add p)).length && true then
 bif (strOf (List.take (apL b off.toNat k (valN k s add p)).length (List.drop 0 (apL b off.toNat k (valN k s add p))))).toList == (strOf (List.take (apL (List.take b.length (List.drop 0 b)) off.toNat k (valN k s add p)).length (List.drop 0 (apL (List.take b.length (List.drop 0 b)) off.toNat k (valN k s add p))))).toList then
 bif (0 + b.length).ble b.length && true then
 bif (strOf b).toList == (strOf (List.take b.length (List.drop 0 b))).toList then
 bif k == 3 then
 bif (↑(apL b off.toNat k (valN k s add p)).length : Int) != (↑b.length : Int) then
 some (.val (.bool false), ⟨0, []⟩)
 else
 bif decide (0 ≤ off) && decide (off ≤ (↑(apL b off.toNat k (valN k s add p)).length : Int)) then
 bif decide (0 ≤ off) && decide (off ≤ (↑b.length : Int)) then
 bif (0 + (off.toNat - 0)).ble (apL b off.toNat k (valN k s add p)).length && true then
 bif (strOf (List.take (off.toNat - 0) (List.drop 0 (apL b off.toNat k (valN k s add p))))).toList == (strOf (List.take (off.toNat - 0) (List.drop 0 b))).toList then
 bif decide (0 ≤ IntKind.i64.wrap (off + 1)) && decide (IntKind.i64.wrap (off + 1) ≤ (↑(apL b off.toNat k (valN k s add p)).length : Int)) then
 bif decide (0 ≤ IntKind.i64.wrap (off + 1)) && decide (IntKind.i64.wrap (off + 1) ≤ (↑b.length : Int)) then
 bif (0 + (IntKind.i64.wrap (off + 1)).toNat + ((apL b off.toNat k (valN k s add p)).length - (IntKind.i64.wrap (off + 1)).toNat)).ble (apL b off.toNat k (valN k s add p)).length && true then
 bif (strOf (List.take ((apL b off.toNat k (valN k s add p)).length - (IntKind.i64.wrap (off + 1)).toNat) (List.drop (0 + (IntKind.i64.wrap (off + 1)).toNat) (apL b off.toNat k (valN k s add p))))).toList == (strOf (List.take (b.length - (IntKind.i64.wrap (off + 1)).toNat) (List.drop (IntKind.i64.wrap (off + 1)).toNat b))).toList then
 bif inR (IntKind.i64.wrap (off + 0)) (apL b off.toNat k (valN k s add p)).length then
 bif (0 + (IntKind.i64.wrap (off + 0)).toNat).blt (apL b off.toNat k (valN k s add p)).length then
 bif k == 4 then
 bif IntKind.i64.wrap (↑(BitVec.ofInt 64 0 ||| BitVec.ofInt 64 (IntKind.i64.wrap (IntKind.i64.wrap ((apL b off.toNat k (valN k s add p)).getD (0 + (IntKind.i64.wrap (off + 0)).toNat) 0) * 1))).toNat : Int) != IntKind.i64.wrap (↑(BitVec.ofInt 64 (IntKind.i64.wrap (IntKind.i64.wrap (IntKind.i64.wrap s + add) - IntKind.i64.wrap p)) &&& BitVec.ofInt 64 255).toNat : Int) then
 some (.val (.bool false), ⟨0, []⟩)
 else
 bif (0 + (apL b off.toNat k (valN k s add p)).length).ble (apL b off.toNat k (valN k s add p)).length && true then
 bif propB (apR (List.take (apL b off.toNat k (valN k s add p)).length (List.drop 0 (apL b off.toNat k (valN k s add p)))) s p) then
 bif propB (okN (List.take (apL b off.toNat k (valN k s add p)).length (List.drop 0 (apL b off.toNat k (valN k s add p)))) off k add) then
 bif propB (fitN k (s + add)) then
 bif (0 + (apL b off.toNat k (valN k s add p)).length).ble (apL b off.toNat k (valN k s add p)).length && true then
 bif (0 + (apL (List.take (apL b off.toNat k (valN k s add p)).length (List.drop 0 (apL b off.toNat k (valN k s add p)))) off.toNat k (valN k s add p)).length).ble (apL (List.take (apL b off.toNat k (valN k s add p)).length (List.drop 0 (apL b off.toNat k (valN k s add p)))) off.toNat k (valN k s add p)).length && true then
 bif (strOf (List.take (apL b off.toNat k (valN k s add p)).length (List.drop 0 (apL b off.toNat k (valN k s add p))))).toList == (strOf (List.take (apL (List.take (apL b off.toNat k (valN k s add p)).length (List.drop 0 (apL b off.toNat k (valN k s add p)))) off.toNat k (valN k s add p)).length (List.drop 0 (apL (List.take (apL b off.toNat k (valN k s add p)).length (List.drop 0 (apL b off.toNat k (valN k s add p)))) off.toNat k (valN k s add p))))).toList then
 some (.val (.bool true), ⟨0, []⟩)
 else
 some (.val (.bool false), ⟨0, []⟩)
 else
 none
 else
 none
 else
 some (.val (.bool false), ⟨0, []⟩)
 else
 some (.val (.bool false), ⟨0, []⟩)
 else
 none
 else
 none
 else
 bif k == 5 then
 bif IntKind.i64.wrap (↑(BitVec.ofInt 64 0 ||| BitVec.ofInt 64 (IntKind.i64.wrap (IntKind.i64.wrap ((apL b off.toNat k (valN k s add p)).getD (0 + (IntKind.i64.wrap (off + 0)).toNat) 0) * 1))).toNat : Int) != IntKind.i64.wrap (↑(BitVec.ofInt 64 (IntKind.i64.wrap ((IntKind.i64.wrap (↑(BitVec.ofInt 64 (IntKind.i64.wrap (IntKind.i64.wrap s + add)) &&& BitVec.ofInt 64 4294967295).toNat : Int)).tdiv 256)) &&& BitVec.ofInt 64 255).toNat : Int) then
 some (.val (.bool false), ⟨0, []⟩)
 else
 bif (0 + (apL b off.toNat k (valN k s add p)).length).ble (apL b off.toNat k (valN k s add p)).length && true then
 bif propB (apR (List.take (apL b off.toNat k (valN k s add p)).length (List.drop 0 (apL b off.toNat k (valN k s add p)))) s p) then
 bif propB (okN (List.take (apL b off.toNat k (valN k s add p)).length (List.drop 0 (apL b off.toNat k (valN k s add p)))) off k add) then
 bif propB (fitN k (s + add)) then
 bif (0 + (apL b off.toNat k (valN k s add p)).length).ble (apL b off.toNat k (valN k s add p)).length && true then
 bif (0 + (apL (List.take (apL b off.toNat k (valN k s add p)).length (List.drop 0 (apL b off.toNat k (valN k s add p)))) off.toNat k (valN k s add p)).length).ble (apL (List.take (apL b off.toNat k (valN k s add p)).length (List.drop 0 (apL b off.toNat k (valN k s add p)))) off.toNat k (valN k s add p)).length && true then
 bif (strOf (List.take (apL b off.toNat k (valN k s add p)).length (List.drop 0 (apL b off.toNat k (valN k s add p))))).toList == (strOf (List.take (apL (List.take (apL b off.toNat k (valN k s add p)).length (List.drop 0 (apL b off.toNat k (valN k s add p)))) off.toNat k (valN k s add p)).length (List.drop 0 (apL (List.take (apL b off.toNat k (valN k s add p)).length (List.drop 0 (apL b off.toNat k (valN k s add p)))) off.toNat k (valN k s add p))))).toList then
 some (.val (.bool true), ⟨0, []⟩)
 else
 some (.val (.bool false), ⟨0, []⟩)
 else
 none
 else
 none
 else
 some (.val (.bool false), ⟨0, []⟩)
 else
 some (.val (.bool false), ⟨0, []⟩)
 else
 none
 else
 none
 else
 bif IntKind.i64.wrap (↑(BitVec.ofInt 64 0 ||| BitVec.ofInt 64 (IntKind.i64.wrap (IntKind.i64.wrap ((apL b off.toNat k (valN k s add p)).getD (0 + (IntKind.i64.wrap (off + 0)).toNat) 0) * 1))).toNat : Int) != IntKind.i64.wrap (↑(BitVec.ofInt 64 (IntKind.i64.wrap (IntKind.i64.wrap s + add)) &&& BitVec.ofInt 64 255).toNat : Int) then
 some (.val (.bool false), ⟨0, []⟩)
 else
 bif (0 + (apL b off.toNat k (valN k s add p)).length).ble (apL b off.toNat k (valN k s add p)).length && true then
 bif propB (apR (List.take (apL b off.toNat k (valN k s add p)).length (List.drop 0 (apL b off.toNat k (valN k s add p)))) s p) then
 bif propB (okN (List.take (apL b off.toNat k (valN k s add p)).length (List.drop 0 (apL b off.toNat k (valN k s add p)))) off k add) then
 bif propB (fitN k (s + add)) then
 bif (0 + (apL b off.toNat k (valN k s add p)).length).ble (apL b off.toNat k (valN k s add p)).length && true then
 bif (0 + (apL (List.take (apL b off.toNat k (valN k s add p)).length (List.drop 0 (apL b off.toNat k (valN k s add p)))) off.toNat k (valN k s add p)).length).ble (apL (List.take (apL b off.toNat k (valN k s add p)).length (List.drop 0 (apL b off.toNat k (valN k s add p)))) off.toNat k (valN k s add p)).length && true then
 bif (strOf (List.take (apL b off.toNat k (valN k s add p)).length (List.drop 0 (apL b off.toNat k (valN k s add p))))).toList == (strOf (List.take (apL (List.take (apL b off.toNat k (valN k s add p)).length (List.drop 0 (apL b off.toNat k (valN k s add p)))) off.toNat k (valN k s add p)).length (List.drop 0 (apL (List.take (apL b off.toNat k (valN k s add p)).length (List.drop 0 (apL b off.toNat k (valN k s add p)))) off.toNat k (valN k s add p))))).toList then
 some (.val (.bool true), ⟨0, []⟩)
 else
 some (.val (.bool false), ⟨0, []⟩)
 else
 none
 else
 none
 else
 some (.val (.bool false), ⟨0, []⟩)
 else
 some (.val (.bool false), ⟨0, []⟩)
 else
 none
 else
 none
 else
 none
 else
 none
 else
 some (.val (.bool false), ⟨0, []⟩)
 else
 none
 else
 none
 else
 none
 else
 some (.val (.bool false), ⟨0, []⟩)
 else
 none
 else
 none
 else
 none
 else
 bif k == 2 then
 bif (↑(apL b off.toNat k (valN k s add p)).length : Int) != (↑b.length : Int) then
 some (.val (.bool false), ⟨0, []⟩)
 else
 bif decide (0 ≤ off) && decide (off ≤ (↑(apL b off.toNat k (valN k s add p)).length : Int)) then
 bif decide (0 ≤ off) && decide (off ≤ (↑b.length : Int)) then
 bif (0 + (off.toNat - 0)).ble (apL b off.toNat k (valN k s add p)).length && true then
 bif (strOf (List.take (off.toNat - 0) (List.drop 0 (apL b off.toNat k (valN k s add p))))).toList == (strOf (List.take (off.toNat - 0) (List.drop 0 b))).toList then
 bif decide (0 ≤ IntKind.i64.wrap (off + 2)) && decide (IntKind.i64.wrap (off + 2) ≤ (↑(apL b off.toNat k (valN k s add p)).length : Int)) then
 bif decide (0 ≤ IntKind.i64.wrap (off + 2)) && decide (IntKind.i64.wrap (off + 2) ≤ (↑b.length : Int)) then
 bif (0 + (IntKind.i64.wrap (off + 2)).toNat + ((apL b off.toNat k (valN k s add p)).length - (IntKind.i64.wrap (off + 2)).toNat)).ble (apL b off.toNat k (valN k s add p)).length && true then
 bif (strOf (List.take ((apL b off.toNat k (valN k s add p)).length - (IntKind.i64.wrap (off + 2)).toNat) (List.drop (0 + (IntKind.i64.wrap (off + 2)).toNat) (apL b off.toNat k (valN k s add p))))).toList == (strOf (List.take (b.length - (IntKind.i64.wrap (off + 2)).toNat) (List.drop (IntKind.i64.wrap (off + 2)).toNat b))).toList then
 bif inR (IntKind.i64.wrap (off + 0)) (apL b off.toNat k (valN k s add p)).length then
 bif (0 + (IntKind.i64.wrap (off + 0)).toNat).blt (apL b off.toNat k (valN k s add p)).length then
 bif inR (IntKind.i64.wrap (off + 1)) (apL b off.toNat k (valN k s add p)).length then
 bif (0 + (IntKind.i64.wrap (off + 1)).toNat).blt (apL b off.toNat k (valN k s add p)).length then
 bif k == 4 then
 bif IntKind.i64.wrap (↑(BitVec.ofInt 64 (IntKind.i64.wrap (↑(BitVec.ofInt 64 0 ||| BitVec.ofInt 64 (IntKind.i64.wrap (IntKind.i64.wrap ((apL b off.toNat k (valN k s add p)).getD (0 + (IntKind.i64.wrap (off + 0)).toNat) 0) * 1))).toNat : Int)) ||| BitVec.ofInt 64 (IntKind.i64.wrap (IntKind.i64.wrap ((apL b off.toNat k (valN k s add p)).getD (0 + (IntKind.i64.wrap (off + 1)).toNat) 0) * 256))).toNat : Int) != IntKind.i64.wrap (↑(BitVec.ofInt 64 (IntKind.i64.wrap (IntKind.i64.wrap (IntKind.i64.wrap s + add) - IntKind.i64.wrap p)) &&& BitVec.ofInt 64 65535).toNat : Int) then
 some (.val (.bool false), ⟨0, []⟩)
 else
 bif (0 + (apL b off.toNat k (valN k s add p)).length).ble (apL b off.toNat k (valN k s add p)).length && true then
 bif propB (apR (List.take (apL b off.toNat k (valN k s add p)).length (List.drop 0 (apL b off.toNat k (valN k s add p)))) s p) then
 bif propB (okN (List.take (apL b off.toNat k (valN k s add p)).length (List.drop 0 (apL b off.toNat k (valN k s add p)))) off k add) then
 bif propB (fitN k (s + add)) then
 bif (0 + (apL b off.toNat k (valN k s add p)).length).ble (apL b off.toNat k (valN k s add p)).length && true then
 bif (0 + (apL (List.take (apL b off.toNat k (valN k s add p)).length (List.drop 0 (apL b off.toNat k (valN k s add p)))) off.toNat k (valN k s add p)).length).ble (apL (List.take (apL b off.toNat k (valN k s add p)).length (List.drop 0 (apL b off.toNat k (valN k s add p)))) off.toNat k (valN k s add p)).length && true then
 bif (strOf (List.take (apL b off.toNat k (valN k s add p)).length (List.drop 0 (apL b off.toNat k (valN k s add p))))).toList == (strOf (List.take (apL (List.take (apL b off.toNat k (valN k s add p)).length (List.drop 0 (apL b off.toNat k (valN k s add p)))) off.toNat k (valN k s add p)).length (List.drop 0 (apL (List.take (apL b off.toNat k (valN k s add p)).length (List.drop 0 (apL b off.toNat k (valN k s add p)))) off.toNat k (valN k s add p))))).toList then
 some (.val (.bool true), ⟨0, []⟩)
 else
 some (.val (.bool false), ⟨0, []⟩)
 else
 none
 else
 none
 else
 some (.val (.bool false), ⟨0, []⟩)
 else
 some (.val (.bool false), ⟨0, []⟩)
 else
 none
 else
 none
 else
 bif k == 5 then
 bif IntKind.i64.wrap (↑(BitVec.ofInt 64 (IntKind.i64.wrap (↑(BitVec.ofInt 64 0 ||| BitVec.ofInt 64 (IntKind.i64.wrap (IntKind.i64.wrap ((apL b off.toNat k (valN k s add p)).getD (0 + (IntKind.i64.wrap (off + 0)).toNat) 0) * 1))).toNat : Int)) ||| BitVec.ofInt 64 (IntKind.i64.wrap (IntKind.i64.wrap ((apL b off.toNat k (valN k s add p)).getD (0 + (IntKind.i64.wrap (off + 1)).toNat) 0) * 256))).toNat : Int) != IntKind.i64.wrap (↑(BitVec.ofInt 64 (IntKind.i64.wrap ((IntKind.i64.wrap (↑(BitVec.ofInt 64 (IntKind.i64.wrap (IntKind.i64.wrap s + add)) &&& BitVec.ofInt 64 4294967295).toNat : Int)).tdiv 256)) &&& BitVec.ofInt 64 65535).toNat : Int) then
 some (.val (.bool false), ⟨0, []⟩)
 else
 bif (0 + (apL b off.toNat k (valN k s add p)).length).ble (apL b off.toNat k (valN k s add p)).length && true then
 bif propB (apR (List.take (apL b off.toNat k (valN k s add p)).length (List.drop 0 (apL b off.toNat k (valN k s add p)))) s p) then
 bif propB (okN (List.take (apL b off.toNat k (valN k s add p)).length (List.drop 0 (apL b off.toNat k (valN k s add p)))) off k add) then
 bif propB (fitN k (s + add)) then
 bif (0 + (apL b off.toNat k (valN k s add p)).length).ble (apL b off.toNat k (valN k s add p)).length && true then
 bif (0 + (apL (List.take (apL b off.toNat k (valN k s add p)).length (List.drop 0 (apL b off.toNat k (valN k s add p)))) off.toNat k (valN k s add p)).length).ble (apL (List.take (apL b off.toNat k (valN k s add p)).length (List.drop 0 (apL b off.toNat k (valN k s add p)))) off.toNat k (valN k s add p)).length && true then
 bif (strOf (List.take (apL b off.toNat k (valN k s add p)).length (List.drop 0 (apL b off.toNat k (valN k s add p))))).toList == (strOf (List.take (apL (List.take (apL b off.toNat k (valN k s add p)).length (List.drop 0 (apL b off.toNat k (valN k s add p)))) off.toNat k (valN k s add p)).length (List.drop 0 (apL (List.take (apL b off.toNat k (valN k s add p)).length (List.drop 0 (apL b off.toNat k (valN k s add p)))) off.toNat k (valN k s add p))))).toList then
 some (.val (.bool true), ⟨0, []⟩)
 else
 some (.val (.bool false), ⟨0, []⟩)
 else
 none
 else
 none
 else
 some (.val (.bool false), ⟨0, []⟩)
 else
 some (.val (.bool false), ⟨0, []⟩)
 else
 none
 else
 none
 else
 bif IntKind.i64.wrap (↑(BitVec.ofInt 64 (IntKind.i64.wrap (↑(BitVec.ofInt 64 0 ||| BitVec.ofInt 64 (IntKind.i64.wrap (IntKind.i64.wrap ((apL b off.toNat k (valN k s add p)).getD (0 + (IntKind.i64.wrap (off + 0)).toNat) 0) * 1))).toNat : Int)) ||| BitVec.ofInt 64 (IntKind.i64.wrap (IntKind.i64.wrap ((apL b off.toNat k (valN k s add p)).getD (0 + (IntKind.i64.wrap (off + 1)).toNat) 0) * 256))).toNat : Int) != IntKind.i64.wrap (↑(BitVec.ofInt 64 (IntKind.i64.wrap (IntKind.i64.wrap s + add)) &&& BitVec.ofInt 64 65535).toNat : Int) then
 some (.val (.bool false), ⟨0, []⟩)
 else
 bif (0 + (apL b off.toNat k (valN k s add p)).length).ble (apL b off.toNat k (valN k s add p)).length && true then
 bif propB (apR (List.take (apL b off.toNat k (valN k s add p)).length (List.drop 0 (apL b off.toNat k (valN k s add p)))) s p) then
 bif propB (okN (List.take (apL b off.toNat k (valN k s add p)).length (List.drop 0 (apL b off.toNat k (valN k s add p)))) off k add) then
 bif propB (fitN k (s + add)) then
 bif (0 + (apL b off.toNat k (valN k s add p)).length).ble (apL b off.toNat k (valN k s add p)).length && true then
 bif (0 + (apL (List.take (apL b off.toNat k (valN k s add p)).length (List.drop 0 (apL b off.toNat k (valN k s add p)))) off.toNat k (valN k s add p)).length).ble (apL (List.take (apL b off.toNat k (valN k s add p)).length (List.drop 0 (apL b off.toNat k (valN k s add p)))) off.toNat k (valN k s add p)).length && true then
 bif (strOf (List.take (apL b off.toNat k (valN k s add p)).length (List.drop 0 (apL b off.toNat k (valN k s add p))))).toList == (strOf (List.take (apL (List.take (apL b off.toNat k (valN k s add p)).length (List.drop 0 (apL b off.toNat k (valN k s add p)))) off.toNat k (valN k s add p)).length (List.drop 0 (apL (List.take (apL b off.toNat k (valN k s add p)).length (List.drop 0 (apL b off.toNat k (valN k s add p)))) off.toNat k (valN k s add p))))).toList then
 some (.val (.bool true), ⟨0, []⟩)
 else
 some (.val (.bool false), ⟨0, []⟩)
 else
 none
 else
 none
 else
 some (.val (.bool false), ⟨0, []⟩)
 else
 some (.val (.bool false), ⟨0, []⟩)
 else
 none
 else
 none
 else
 none
 else
 none
 else
 none
 else
 none
 else
 some (.val (.bool false), ⟨0, []⟩)
 else
 none
 else
 none
 else
 none
 else
 some (.val (.bool false), ⟨0, []⟩)
 else
 none
 else
 none
 else
 none
 else
 bif (↑(apL b off.toNat k (valN k s add p)).length : Int) != (↑b.length : Int) then
 some (.val (.bool false), ⟨0, []⟩)
 else
 bif decide (0 ≤ off) && decide (off ≤ (↑(apL b off.toNat k (valN k s add p)).length : Int)) then
 bif decide (0 ≤ off) && decide (off ≤ (↑b.length : Int)) then
 bif (0 + (off.toNat - 0)).ble (apL b off.toNat k (valN k s add p)).length && true then
 bif (strOf (List.take (off.toNat - 0) (List.drop 0 (apL b off.toNat k (valN k s add p))))).toList == (strOf (List.take (off.toNat - 0) (List.drop 0 b))).toList then
 bif decide (0 ≤ IntKind.i64.wrap (off + 4)) && decide (IntKind.i64.wrap (off + 4) ≤ (↑(apL b off.toNat k (valN k s add p)).length : Int)) then
 bif decide (0 ≤ IntKind.i64.wrap (off + 4)) && decide (IntKind.i64.wrap (off + 4) ≤ (↑b.length : Int)) then
 bif (0 + (IntKind.i64.wrap (off + 4)).toNat + ((apL b off.toNat k (valN k s add p)).length - (IntKind.i64.wrap (off + 4)).toNat)).ble (apL b off.toNat k (valN k s add p)).length && true then
 bif (strOf (List.take ((apL b off.toNat k (valN k s add p)).length - (IntKind.i64.wrap (off + 4)).toNat) (List.drop (0 + (IntKind.i64.wrap (off + 4)).toNat) (apL b off.toNat k (valN k s add p))))).toList == (strOf (List.take (b.length - (IntKind.i64.wrap (off + 4)).toNat) (List.drop (IntKind.i64.wrap (off + 4)).toNat b))).toList then
 bif inR (IntKind.i64.wrap (off + 0)) (apL b off.toNat k (valN k s add p)).length then
 bif (0 + (IntKind.i64.wrap (off + 0)).toNat).blt (apL b off.toNat k (valN k s add p)).length then
 bif inR (IntKind.i64.wrap (off + 1)) (apL b off.toNat k (valN k s add p)).length then
 bif (0 + (IntKind.i64.wrap (off + 1)).toNat).blt (apL b off.toNat k (valN k s add p)).length then
 bif inR (IntKind.i64.wrap (off + 2)) (apL b off.toNat k (valN k s add p)).length then
 bif (0 + (IntKind.i64.wrap (off + 2)).toNat).blt (apL b off.toNat k (valN k s add p)).length then
 bif inR (IntKind.i64.wrap (off + 3)) (apL b off.toNat k (valN k s add p)).length then
 bif (0 + (IntKind.i64.wrap (off + 3)).toNat).blt (apL b off.toNat k (valN k s add p)).length then
 bif k == 4 then
 bif IntKind.i64.wrap (↑(BitVec.ofInt 64 (IntKind.i64.wrap (↑(BitVec.ofInt 64 (IntKind.i64.wrap (↑(BitVec.ofInt 64 (IntKind.i64.wrap (↑(BitVec.ofInt 64 0 ||| BitVec.ofInt 64 (IntKind.i64.wrap (IntKind.i64.wrap ((apL b off.toNat k (valN k s add p)).getD (0 + (IntKind.i64.wrap (off + 0)).toNat) 0) * 1))).toNat : Int)) ||| BitVec.ofInt 64 (IntKind.i64.wrap (IntKind.i64.wrap ((apL b off.toNat k (valN k s add p)).getD (0 + (IntKind.i64.wrap (off + 1)).toNat) 0) * 256))).toNat : Int)) ||| BitVec.ofInt 64 (IntKind.i64.wrap (IntKind.i64.wrap ((apL b off.toNat k (valN k s add p)).getD (0 + (IntKind.i64.wrap (off + 2)).toNat) 0) * 65536))).toNat : Int)) ||| BitVec.ofInt 64 (IntKind.i64.wrap (IntKind.i64.wrap ((apL b off.toNat k (valN k s add p)).getD (0 + (IntKind.i64.wrap (off + 3)).toNat) 0) * 16777216))).toNat : Int) != IntKind.i64.wrap (↑(BitVec.ofInt 64 (IntKind.i64.wrap (IntKind.i64.wrap (IntKind.i64.wrap s + add) - IntKind.i64.wrap p)) &&& BitVec.ofInt 64 4294967295).toNat : Int) then
 some (.val (.bool false), ⟨0, []⟩)
 else
 bif (0 + (apL b off.toNat k (valN k s add p)).length).ble (apL b off.toNat k (valN k s add p)).length && true then
 bif propB (apR (List.take (apL b off.toNat k (valN k s add p)).length (List.drop 0 (apL b off.toNat k (valN k s add p)))) s p) then
 bif propB (okN (List.take (apL b off.toNat k (valN k s add p)).length (List.drop 0 (apL b off.toNat k (valN k s add p)))) off k add) then
 bif propB (fitN k (s + add)) then
 bif (0 + (apL b off.toNat k (valN k s add p)).length).ble (apL b off.toNat k (valN k s add p)).length && true then
 bif (0 + (apL (List.take (apL b off.toNat k (valN k s add p)).length (List.drop 0 (apL b off.toNat k (valN k s add p)))) off.toNat k (valN k s add p)).length).ble (apL (List.take (apL b off.toNat k (valN k s add p)).length (List.drop 0 (apL b off.toNat k (valN k s add p)))) off.toNat k (valN k s add p)).length && true then
 bif (strOf (List.take (apL b off.toNat k (valN k s add p)).length (List.drop 0 (apL b off.toNat k (valN k s add p))))).toList == (strOf (List.take (apL (List.take (apL b off.toNat k (valN k s add p)).length (List.drop 0 (apL b off.toNat k (valN k s add p)))) off.toNat k (valN k s add p)).length (List.drop 0 (apL (List.take (apL b off.toNat k (valN k s add p)).length (List.drop 0 (apL b off.toNat k (valN k s add p)))) off.toNat k (valN k s add p))))).toList then
 some (.val (.bool true), ⟨0, []⟩)
 else
 some (.val (.bool false), ⟨0, []⟩)
 else
 none
 else
 none
 else
 some (.val (.bool false), ⟨0, []⟩)
 else
 some (.val (.bool false), ⟨0, []⟩)
 else
 none
 else
 none
 else
 bif k == 5 then
 bif IntKind.i64.wrap (↑(BitVec.ofInt 64 (IntKind.i64.wrap (↑(BitVec.ofInt 64 (IntKind.i64.wrap (↑(BitVec.ofInt 64 (IntKind.i64.wrap (↑(BitVec.ofInt 64 0 ||| BitVec.ofInt 64 (IntKind.i64.wrap (IntKind.i64.wrap ((apL b off.toNat k (valN k s add p)).getD (0 + (IntKind.i64.wrap (off + 0)).toNat) 0) * 1))).toNat : Int)) ||| BitVec.ofInt 64 (IntKind.i64.wrap (IntKind.i64.wrap ((apL b off.toNat k (valN k s add p)).getD (0 + (IntKind.i64.wrap (off + 1)).toNat) 0) * 256))).toNat : Int)) ||| BitVec.ofInt 64 (IntKind.i64.wrap (IntKind.i64.wrap ((apL b off.toNat k (valN k s add p)).getD (0 + (IntKind.i64.wrap (off + 2)).toNat) 0) * 65536))).toNat : Int)) ||| BitVec.ofInt 64 (IntKind.i64.wrap (IntKind.i64.wrap ((apL b off.toNat k (valN k s add p)).getD (0 + (IntKind.i64.wrap (off + 3)).toNat) 0) * 16777216))).toNat : Int) != IntKind.i64.wrap (↑(BitVec.ofInt 64 (IntKind.i64.wrap ((IntKind.i64.wrap (↑(BitVec.ofInt 64 (IntKind.i64.wrap (IntKind.i64.wrap s + add)) &&& BitVec.ofInt 64 4294967295).toNat : Int)).tdiv 256)) &&& BitVec.ofInt 64 4294967295).toNat : Int) then
 some (.val (.bool false), ⟨0, []⟩)
 else
 bif (0 + (apL b off.toNat k (valN k s add p)).length).ble (apL b off.toNat k (valN k s add p)).length && true then
 bif propB (apR (List.take (apL b off.toNat k (valN k s add p)).length (List.drop 0 (apL b off.toNat k (valN k s add p)))) s p) then
 bif propB (okN (List.take (apL b off.toNat k (valN k s add p)).length (List.drop 0 (apL b off.toNat k (valN k s add p)))) off k add) then
 bif propB (fitN k (s + add)) then
 bif (0 + (apL b off.toNat k (valN k s add p)).length).ble (apL b off.toNat k (valN k s add p)).length && true then
 bif (0 + (apL (List.take (apL b off.toNat k (valN k s add p)).length (List.drop 0 (apL b off.toNat k (valN k s add p)))) off.toNat k (valN k s add p)).length).ble (apL (List.take (apL b off.toNat k (valN k s add p)).length (List.drop 0 (apL b off.toNat k (valN k s add p)))) off.toNat k (valN k s add p)).length && true then
 bif (strOf (List.take (apL b off.toNat k (valN k s add p)).length (List.drop 0 (apL b off.toNat k (valN k s add p))))).toList == (strOf (List.take (apL (List.take (apL b off.toNat k (valN k s add p)).length (List.drop 0 (apL b off.toNat k (valN k s add p)))) off.toNat k (valN k s add p)).length (List.drop 0 (apL (List.take (apL b off.toNat k (valN k s add p)).length (List.drop 0 (apL b off.toNat k (valN k s add p)))) off.toNat k (valN k s add p))))).toList then
 some (.val (.bool true), ⟨0, []⟩)
 else
 some (.val (.bool false), ⟨0, []⟩)
 else
 none
 else
 none
 else
 some (.val (.bool false), ⟨0, []⟩)
 else
 some (.val (.bool false), ⟨0, []⟩)
 else
 none
 else
 none
 else
 bif IntKind.i64.wrap (↑(BitVec.ofInt 64 (IntKind.i64.wrap (↑(BitVec.ofInt 64 (IntKind.i64.wrap (↑(BitVec.ofInt 64 (IntKind.i64.wrap (↑(BitVec.ofInt 64 0 ||| BitVec.ofInt 64 (IntKind.i64.wrap (IntKind.i64.wrap ((apL b off.toNat k (valN k s add p)).getD (0 + (IntKind.i64.wrap (off + 0)).toNat) 0) * 1))).toNat : Int)) ||| BitVec.ofInt 64 (IntKind.i64.wrap (IntKind.i64.wrap ((apL b off.toNat k (valN k s add p)).getD (0 + (IntKind.i64.wrap (off + 1)).toNat) 0) * 256))).toNat : Int)) ||| BitVec.ofInt 64 (IntKind.i64.wrap (IntKind.i64.wrap ((apL b off.toNat k (valN k s add p)).getD (0 + (IntKind.i64.wrap (off + 2)).toNat) 0) * 65536))).toNat : Int)) ||| BitVec.ofInt 64 (IntKind.i64.wrap (IntKind.i64.wrap ((apL b off.toNat k (valN k s add p)).getD (0 + (IntKind.i64.wrap (off + 3)).toNat) 0) * 16777216))).toNat : Int) != IntKind.i64.wrap (↑(BitVec.ofInt 64 (IntKind.i64.wrap (IntKind.i64.wrap s + add)) &&& BitVec.ofInt 64 4294967295).toNat : Int) then
 some (.val (.bool false), ⟨0, []⟩)
 else
 bif (0 + (apL b off.toNat k (valN k s add p)).length).ble (apL b off.toNat k (valN k s add p)).length && true then
 bif propB (apR (List.take (apL b off.toNat k (valN k s add p)).length (List.drop 0 (apL b off.toNat k (valN k s add p)))) s p) then
 bif propB (okN (List.take (apL b off.toNat k (valN k s add p)).length (List.drop 0 (apL b off.toNat k (valN k s add p)))) off k add) then
 bif propB (fitN k (s + add)) then
 bif (0 + (apL b off.toNat k (valN k s add p)).length).ble (apL b off.toNat k (valN k s add p)).length && true then
 bif (0 + (apL (List.take (apL b off.toNat k (valN k s add p)).length (List.drop 0 (apL b off.toNat k (valN k s add p)))) off.toNat k (valN k s add p)).length).ble (apL (List.take (apL b off.toNat k (valN k s add p)).length (List.drop 0 (apL b off.toNat k (valN k s add p)))) off.toNat k (valN k s add p)).length && true then
 bif (strOf (List.take (apL b off.toNat k (valN k s add p)).length (List.drop 0 (apL b off.toNat k (valN k s add p))))).toList == (strOf (List.take (apL (List.take (apL b off.toNat k (valN k s add p)).length (List.drop 0 (apL b off.toNat k (valN k s add p)))) off.toNat k (valN k s add p)).length (List.drop 0 (apL (List.take (apL b off.toNat k (valN k s add p)).length (List.drop 0 (apL b off.toNat k (valN k s add p)))) off.toNat k (valN k s add p))))).toList then
 some (.val (.bool true), ⟨0, []⟩)
 else
 some (.val (.bool false), ⟨0, []⟩)
 else
 none
 else
 none
 else
 some (.val (.bool false), ⟨0, []⟩)
 else
 some (.val (.bool false), ⟨0, []⟩)
 else
 none
 else
 none
 else
 none
 else
 none
 else
 none
 else
 none
 else
 none
 else
 none
 else
 none
 else
 none
 else
 some (.val (.bool false), ⟨0, []⟩)
 else
 none
 else
 none
 else
 none
 else
 some (.val (.bool false), ⟨0, []⟩)
 else
 none
 else
 none
 else
 none
 else
 some (.val (.bool false), ⟨0, []⟩)
 else
 none
 else
 some (.val (.bool false), ⟨0, []⟩)
 else
 none
 else
 none
 else
 bif (0 + (apL b off.toNat k (valN k s add p)).length).ble (apL b off.toNat k (valN k s add p)).length && true then
 bif (strOf (List.take (apL b off.toNat k (valN k s add p)).length (List.drop 0 (apL b off.toNat k (valN k s add p))))).toList == (strOf []).toList then
 some (.val (.bool false), ⟨0, []⟩)
 else
 some (.val (.bool false), ⟨0, []⟩)
 else
 none
 else
 bif (0 + (apL b off.toNat k (valN k s add p)).length).ble (apL b off.toNat k (valN k s add p)).length && true then
 bif (strOf (List.take (apL b off.toNat k (valN k s add p)).length (List.drop 0 (apL b off.toNat k (valN k s add p))))).toList == (strOf []).toList then
 some (.val (.bool false), ⟨0, []⟩)
 else
 some (.val (.bool false), ⟨0, []⟩)
 else
 none
 else
 none
 else
 none
 else
 bif (0 + b.length).ble b.length && true then
 bif propB (apR (List.take b.length (List.drop 0 b)) s p) then
 bif propB (okN (List.take b.length (List.drop 0 b)) off k add) then
 bif propB (fitN k (s + add)) then
 bif (0 + (apL (List.take b.length (List.drop 0 b)) off.toNat k (valN k s add p)).length).ble (apL (List.take b.length (List.drop 0 b)) off.toNat k (valN k s add p)).length && true then
 bif (strOf []).toList == (strOf (List.take (apL (List.take b.length (List.drop 0 b)) off.toNat k (valN k s add p)).length (List.drop 0 (apL (List.take b.length (List.drop 0 b)) off.toNat k (valN k s add p))))).toList then
 some (.val (.bool false), ⟨0, []⟩)
 else
 some (.val (.bool false), ⟨0, []⟩)
 else
 none
 else
 bif (0 + b.length).ble b.length && true then
 bif (strOf b).toList == (strOf (List.take b.length (List.drop 0 b))).toList then
 some (.val (.bool true), ⟨0, []⟩)
 else
 some (.val (.bool false), ⟨0, []⟩)
 else
 none
 else
 some (.val (.bool false), ⟨0, []⟩)
 else
 none
 else
 none
 else
 bif (0 + b.length).ble b.length && true then
 bif propB (apR (List.take b.length (List.drop 0 b)) s p) then
 bif propB (okN (List.take b.length (List.drop 0 b)) off k add) then
 bif propB (fitN k (s + add)) then
 bif (0 + (apL (List.take b.length (List.drop 0 b)) off.toNat k (valN k s add p)).length).ble (apL (List.take b.length (List.drop 0 b)) off.toNat k (valN k s add p)).length && true then
 bif (strOf []).toList == (strOf (List.take (apL (List.take b.length (List.drop 0 b)) off.toNat k (valN k s add p)).length (List.drop 0 (apL (List.take b.length (List.drop 0 b)) off.toNat k (valN k s add p))))).toList then
 some (.val (.bool false), ⟨0, []⟩)
 else
 some (.val (.bool false), ⟨0, []⟩)
 else
 none
 else
 some (.val (.bool false), ⟨0, []⟩)
 else
 bif (0 + b.length).ble b.length && true then
 bif (strOf b).toList == (strOf (List.take b.length (List.drop 0 b))).toList then
 some (.val (.bool true), ⟨0, []⟩)
 else
 some (.val (.bool false), ⟨0, []⟩)
 else
 none
 else
 none
 else
 none
 else
 none
 else
 none := by kernel_rfl
end Go.Ev
/- ObjApplied: the law. -/
namespace Go.Ev
open Go.Proofs
theorem ble_self (n : Nat) : Nat.ble n n = true := ble_t (Nat.le_refl n)
theorem ofInt_nat {a : Int} (h0 : 0 ≤ a) (h1 : a < 18446744073709551616) : (BitVec.ofInt 64 a).toNat = a.toNat := by
  rw [BitVec.toNat_ofInt]; omega
theorem or_nat {a b j : Nat} (ha : a < 2 ^ j) : a ||| b * 2 ^ j = a + b * 2 ^ j := by
  have h := Nat.two_pow_add_eq_or_of_lt ha b
  rw [Nat.or_comm, Nat.mul_comm, ← h, Nat.add_comm]
theorem orB (j : Nat) {a x : Int} (hj : j ≤ 24) (h0 : 0 ≤ a) (h1 : a < 2 ^ j) (x0 : 0 ≤ x) (x1 : x < 256) :
    IntKind.i64.wrap ((BitVec.ofInt 64 a ||| BitVec.ofInt 64 (IntKind.i64.wrap (IntKind.i64.wrap x * 2 ^ j))).toNat : Int) = a + x * 2 ^ j := by
  have hp : (2 : Int) ^ j ≤ 16777216 := by
    have : (2 : Nat) ^ j ≤ 2 ^ 24 := Nat.pow_le_pow_right (by omega) hj
    have e : ((2 ^ j : Nat) : Int) = (2 : Int) ^ j := by push_cast; rfl
    omega
  have hp0 : (0 : Int) < 2 ^ j := by
    have : 0 < (2 : Nat) ^ j := Nat.pow_pos (by omega)
    have e : ((2 ^ j : Nat) : Int) = (2 : Int) ^ j := by push_cast; rfl
    omega
  have hm0 : 0 ≤ x * 2 ^ j := Int.mul_nonneg x0 (by omega)
  have hm1 : x * 2 ^ j ≤ 255 * 2 ^ j := Int.mul_le_mul_of_nonneg_right (by omega) (by omega)
  rw [wrap64 x (by omega) (by omega), wrap64 (x * 2 ^ j) (by omega) (by omega), BitVec.toNat_or, ofInt_nat h0 (by omega), ofInt_nat hm0 (by omega)]
  have e1 : (x * 2 ^ j).toNat = x.toNat * 2 ^ j := by
    obtain ⟨n, rfl⟩ := Int.eq_ofNat_of_zero_le x0
    have : ((n : Int) * 2 ^ j) = ((n * 2 ^ j : Nat) : Int) := by push_cast; rfl
    rw [this, Int.toNat_natCast, Int.toNat_natCast]
  have ha : a.toNat < 2 ^ j := by
    have e : ((2 ^ j : Nat) : Int) = (2 : Int) ^ j := by push_cast; rfl
    omega
  rw [e1, or_nat ha, ← e1]
  have : ((a.toNat + (x * 2 ^ j).toNat : Nat) : Int) = a + x * 2 ^ j := by omega
  rw [this, wrap64 _ (by omega) (by omega)]
theorem andB (j : Nat) {n : Int} (hj : j ≤ 32) : IntKind.i64.wrap ((BitVec.ofInt 64 n &&& BitVec.ofInt 64 (2 ^ j - 1)).toNat : Int) = n % 2 ^ j := by
  have e : ((2 ^ j : Nat) : Int) = (2 : Int) ^ j := by push_cast; rfl
  have hp : (2 : Nat) ^ j ≤ 2 ^ 32 := Nat.pow_le_pow_right (by omega) hj
  have hp0 : 0 < (2 : Nat) ^ j := Nat.pow_pos (by omega)
  rw [BitVec.toNat_and, ofInt_nat (a := 2 ^ j - 1) (by omega) (by omega)]
  have e2 : ((2 : Int) ^ j - 1).toNat = 2 ^ j - 1 := by omega
  rw [e2, Nat.and_two_pow_sub_one_eq_mod, BitVec.toNat_ofInt]
  have hd : (2 : Int) ^ j ∣ 18446744073709551616 := by
    refine ⟨2 ^ (64 - j), ?_⟩
    rw [← Int.pow_add, show j + (64 - j) = 64 by omega]; rfl
  have hm : ((n % ((2 ^ 64 : Nat) : Int)).toNat % 2 ^ j : Nat) = (n % 2 ^ j).toNat := by
    have h0 : 0 ≤ n % ((2 ^ 64 : Nat) : Int) := Int.emod_nonneg _ (by decide)
    have h1 : (n % ((2 ^ 64 : Nat) : Int)) % (2 ^ j) = n % 2 ^ j := Int.emod_emod_of_dvd n hd
    have h2 : 0 ≤ n % (2 : Int) ^ j := Int.emod_nonneg _ (by omega)
    have h3 : (((n % ((2 ^ 64 : Nat) : Int)).toNat % 2 ^ j : Nat) : Int) = (n % ((2 ^ 64 : Nat) : Int)) % (2 ^ j) := by
      rw [Int.natCast_emod, Int.toNat_of_nonneg h0, e]
    omega
  rw [hm]
  have h2 : 0 ≤ n % (2 : Int) ^ j := Int.emod_nonneg _ (by omega)
  have h3 : n % (2 : Int) ^ j < 2 ^ j := Int.emod_lt_of_pos _ (by omega)
  rw [Int.toNat_of_nonneg h2, wrap64 _ (by omega) (by omega)]
theorem apL_take (b : List Int) (o : Nat) (k n : Int) : List.take o (apL b o k n) = List.take o b := by
  apply List.ext_getElem?
  intro i
  unfold apL
  split
  · by_cases h : i < o
    · simp [List.getElem?_take, h, List.getElem?_set, show o ≠ i by omega, show o + 1 ≠ i by omega]
    · simp [List.getElem?_take, h]
  · split
    · by_cases h : i < o
      · simp [List.getElem?_take, h, List.getElem?_set, show o ≠ i by omega]
      · simp [List.getElem?_take, h]
    · by_cases h : i < o
      · simp [List.getElem?_take, h, List.getElem?_set, show o ≠ i by omega, show o + 1 ≠ i by omega, show o + 2 ≠ i by omega, show o + 3 ≠ i by omega]
      · simp [List.getElem?_take, h]
theorem apL_drop (b : List Int) (o : Nat) (k n : Int) : List.drop (o + wdN k) (apL b o k n) = List.drop (o + wdN k) b := by
  apply List.ext_getElem?
  intro i
  unfold apL wdN
  split
  · simp [List.getElem?_drop, List.getElem?_set, show o ≠ o + 2 + i by omega, show o + 1 ≠ o + 2 + i by omega]
  · split
    · simp [List.getElem?_drop, List.getElem?_set, show o ≠ o + 1 + i by omega]
    · simp [List.getElem?_drop, List.getElem?_set, show o ≠ o + 4 + i by omega, show o + 1 ≠ o + 4 + i by omega, show o + 2 ≠ o + 4 + i by omega, show o + 3 ≠ o + 4 + i by omega]
theorem apL_idem (b : List Int) (o : Nat) (k n : Int) : apL (apL b o k n) o k n = apL b o k n := by
  apply List.ext_getElem?
  intro i
  unfold apL
  split
  · simp only [List.getElem?_set, List.length_set]
    by_cases h1 : o + 1 = i
    · simp [h1]
    · by_cases h0 : o = i
      · simp [h0]
      · simp [h0, h1]
  · split
    · simp only [List.getElem?_set, List.length_set]
      by_cases h0 : o = i
      · simp [h0]
      · simp [h0]
    · simp only [List.getElem?_set, List.length_set]
      by_cases h3 : o + 3 = i
      · simp [h3]
      · by_cases h2 : o + 2 = i
        · simp [h2, show ¬ o + 3 = i by omega]
        · by_cases h1 : o + 1 = i
          · simp [h1, show ¬ o + 3 = i by omega, show ¬ o + 2 = i by omega]
          · by_cases h0 : o = i
            · simp [h0, show ¬ o + 3 = i by omega, show ¬ o + 2 = i by omega, show ¬ o + 1 = i by omega]
            · simp [h0, h1, h2, h3]
theorem apL_get0 {b : List Int} {o : Nat} (k n : Int) (h : o < b.length) : (apL b o k n).getD o 0 = n % 256 := by
  unfold apL
  split
  · simp [List.getD_eq_getElem?_getD, List.getElem?_set, h]
  · split
    · simp [List.getD_eq_getElem?_getD, List.getElem?_set, h]
    · simp [List.getD_eq_getElem?_getD, List.getElem?_set, h]
theorem apL_get1 {b : List Int} {o : Nat} {k : Int} (n : Int) (hk : k ≠ 3) (h : o + 1 < b.length) : (apL b o k n).getD (o + 1) 0 = n / 256 % 256 := by
  unfold apL
  split
  · simp [List.getD_eq_getElem?_getD, List.getElem?_set, h]
  · simp [List.getD_eq_getElem?_getD, List.getElem?_set, h]
theorem apL_get2 {b : List Int} {o : Nat} {k : Int} (n : Int) (hk : k ≠ 3) (hk2 : k ≠ 2) (h : o + 2 < b.length) : (apL b o k n).getD (o + 2) 0 = n / 65536 % 256 := by
  unfold apL
  rw [if_neg hk2, if_neg hk]
  simp [List.getD_eq_getElem?_getD, List.getElem?_set, h]
theorem apL_get3 {b : List Int} {o : Nat} {k : Int} (n : Int) (hk : k ≠ 3) (hk2 : k ≠ 2) (h : o + 3 < b.length) : (apL b o k n).getD (o + 3) 0 = n / 16777216 % 256 := by
  unfold apL
  rw [if_neg hk2, if_neg hk]
  simp [List.getD_eq_getElem?_getD, List.getElem?_set, h]
theorem okN_len {b x : List Int} (h : x.length = b.length) (off k add : Int) : okN x off k add = okN b off k add := by unfold okN; rw [h]
theorem apR_len {b x : List Int} (h : x.length = b.length) (s p : Int) : apR x s p = apR b s p := by unfold apR; rw [h]
theorem apL_all (b : List Int) (o : Nat) (k n : Int) : List.take b.length (apL b o k n) = apL b o k n := by rw [← apL_len b o k n]; exact List.take_length
theorem or0 {x : Int} (x0 : 0 ≤ x) (x1 : x < 256) : IntKind.i64.wrap ((BitVec.ofInt 64 0 ||| BitVec.ofInt 64 (IntKind.i64.wrap (IntKind.i64.wrap x * 1))).toNat : Int) = x := by
  have := orB 0 (a := 0) (by omega) (by omega) (by decide) x0 x1
  rw [show (2 : Int) ^ 0 = 1 from rfl] at this
  rw [this]; omega
theorem or8 {a x : Int} (h0 : 0 ≤ a) (h1 : a < 256) (x0 : 0 ≤ x) (x1 : x < 256) : IntKind.i64.wrap ((BitVec.ofInt 64 a ||| BitVec.ofInt 64 (IntKind.i64.wrap (IntKind.i64.wrap x * 256))).toNat : Int) = a + x * 256 := by
  exact orB 8 (by omega) h0 h1 x0 x1
theorem or16 {a x : Int} (h0 : 0 ≤ a) (h1 : a < 65536) (x0 : 0 ≤ x) (x1 : x < 256) : IntKind.i64.wrap ((BitVec.ofInt 64 a ||| BitVec.ofInt 64 (IntKind.i64.wrap (IntKind.i64.wrap x * 65536))).toNat : Int) = a + x * 65536 := by
  exact orB 16 (by omega) h0 h1 x0 x1
theorem or24 {a x : Int} (h0 : 0 ≤ a) (h1 : a < 16777216) (x0 : 0 ≤ x) (x1 : x < 256) : IntKind.i64.wrap ((BitVec.ofInt 64 a ||| BitVec.ofInt 64 (IntKind.i64.wrap (IntKind.i64.wrap x * 16777216))).toNat : Int) = a + x * 16777216 := by
  exact orB 24 (by omega) h0 h1 x0 x1
theorem and8 (n : Int) : IntKind.i64.wrap ((BitVec.ofInt 64 n &&& BitVec.ofInt 64 255).toNat : Int) = n % 256 := andB 8 (by omega)
theorem and16 (n : Int) : IntKind.i64.wrap ((BitVec.ofInt 64 n &&& BitVec.ofInt 64 65535).toNat : Int) = n % 65536 := andB 16 (by omega)
theorem and32 (n : Int) : IntKind.i64.wrap ((BitVec.ofInt 64 n &&& BitVec.ofInt 64 4294967295).toNat : Int) = n % 4294967296 := andB 32 (by omega)
theorem cond_bneF {α : Type} {a b : Int} (h : a = b) (x y : α) : (bif a != b then x else y) = y := by rw [h, bne_self_eq_false]; rfl
theorem Try.law5a {b : List Int} {off s add p k : Int} (hs : 0 ≤ s ∧ s < 4294967296) (hp : 0 ≤ p ∧ p < 4294967296) :
    rootS Try.EL5 4 5 (lsumsOf []) [.ro (.ints .u8 b) none, .val (.int .i64 off), .val (.int .i64 k), .val (.int .u32 s), .val (.int .i64 add), .val (.int .u32 p)] = some (.val (.bool true), ⟨0, []⟩) := by
  rw [Try.rL5]
  cases h0 : decide ((b.length : Int) > 20000) with
  | true => rfl
  | false =>
  rw [decide_eq_false_iff_not] at h0
  have ha : apR b s p := ⟨by omega, hs, hp⟩
  have hb : b.length ≤ 1000000 := by omega
  have e1 : Nat.ble b.length 1000000 = true := ble_t hb
  simp only [cond_false, e1, cond_true, propB_t ha, List.drop_zero, List.take_length, Nat.zero_add, ble_self, Bool.and_true, beq_self_eq_true, apL_len]
  cases h1 : propB (okN b off k add) with
  | false => simp only [cond_false]
  | true =>
  cases h2 : propB (fitN k (s + add)) with
  | false => simp only [cond_false, cond_true]
  | true =>
  simp only [cond_true, okN_len (apL_len b off.toNat k (valN k s add p)), apR_len (apL_len b off.toNat k (valN k s add p)), propB_t ha, h1, apL_idem, beq_self_eq_true]
  obtain ⟨a1, a2, a3, a4, a5, a6⟩ := propB_eq h1
  obtain ⟨o, rfl⟩ := Int.eq_ofNat_of_zero_le a5
  simp only [Int.toNat_natCast, Nat.sub_zero, apL_take, apL_all, beq_self_eq_true, bne_self_eq_false, cond_false, cond_true, okN_len (apL_len b o k (valN k s add p)), apR_len (apL_len b o k (valN k s add p)), propB_t ha, apL_idem]
  have hw : wdN k ≤ 4 := by unfold wdN; split; omega; split <;> omega
  have hw1 : 1 ≤ wdN k := by unfold wdN; split; omega; split <;> omega
  have hs64 : IntKind.i64.wrap s = s := wrap64 s (by omega) (by omega)
  have hp64 : IntKind.i64.wrap p = p := wrap64 p (by omega) (by omega)
  have hn64 : IntKind.i64.wrap (s + add) = s + add := wrap64 _ (by omega) (by omega)
  have hn2 : IntKind.i64.wrap (s + add - p) = s + add - p := wrap64 _ (by omega) (by omega)
  have c0 : decide ((0 : Int) ≤ (o : Int)) = true := decide_eq_true (by omega)
  have c1 : decide ((o : Int) ≤ (b.length : Int)) = true := decide_eq_true (by omega)
  have c2 : o.ble b.length = true := ble_t (by omega)
  have w0 : IntKind.i64.wrap ((o : Int) + 0) = ((o : Nat) : Int) := by rw [wrap64 _ (by omega) (by omega)]; omega
  have w1 : IntKind.i64.wrap ((o : Int) + 1) = ((o + 1 : Nat) : Int) := by rw [wrap64 _ (by omega) (by omega)]; omega
  have w2 : IntKind.i64.wrap ((o : Int) + 2) = ((o + 2 : Nat) : Int) := by rw [wrap64 _ (by omega) (by omega)]; omega
  have w3 : IntKind.i64.wrap ((o : Int) + 3) = ((o + 3 : Nat) : Int) := by rw [wrap64 _ (by omega) (by omega)]; omega
  have w4 : IntKind.i64.wrap ((o : Int) + 4) = ((o + 4 : Nat) : Int) := by rw [wrap64 _ (by omega) (by omega)]; omega
  have hk : k = 1 ∨ k = 2 ∨ k = 3 ∨ k = 4 ∨ k = 5 := by omega
  rcases hk with rfl | rfl | rfl | rfl | rfl
  · have a6 : (o : Int) + 4 ≤ (b.length : Int) := a6
    have dr : List.drop (o + 4) (apL b o 1 (valN 1 s add p)) = List.drop (o + 4) b := apL_drop b o 1 _
    have f0 : decide ((0 : Int) ≤ ((o + 4 : Nat) : Int)) = true := decide_eq_true (by omega)
    have f1 : decide (((o + 4 : Nat) : Int) ≤ (b.length : Int)) = true := decide_eq_true (by omega)
    have f2 : (o + 4 + (b.length - (o + 4))).ble b.length = true := ble_t (by omega)
    have r0 : decide (o < b.length) = true := decide_eq_true (by omega)
    have q0 : (o).blt b.length = true := blt_t (by omega)
    have r1 : decide (o + 1 < b.length) = true := decide_eq_true (by omega)
    have q1 : (o + 1).blt b.length = true := blt_t (by omega)
    have r2 : decide (o + 2 < b.length) = true := decide_eq_true (by omega)
    have q2 : (o + 2).blt b.length = true := blt_t (by omega)
    have r3 : decide (o + 3 < b.length) = true := decide_eq_true (by omega)
    have q3 : (o + 3).blt b.length = true := blt_t (by omega)
    simp only [show ((1 : Int) == 3) = false from rfl, show ((1 : Int) == 2) = false from rfl, show ((1 : Int) == 4) = false from rfl, show ((1 : Int) == 5) = false from rfl, cond_true, cond_false, c0, c1, c2, w0, w1, w2, w3, w4, f0, f1, f2, Bool.and_self, Int.toNat_natCast, dr, beq_self_eq_true, inR_nat, r0, q0, r1, q1, r2, q2, r3, q3, hs64, hp64, hn64, hn2]
    refine (cond_bneF ?_ _ _).trans ?_
    · rw [show valN 1 s add p = s + add from rfl, apL_get0 _ _ (show o < b.length by omega), apL_get1 _ (by omega) (show o + 1 < b.length by omega), apL_get2 _ (by omega) (by omega) (show o + 2 < b.length by omega), apL_get3 _ (by omega) (by omega) (show o + 3 < b.length by omega)]
      rw [or0 (by omega) (by omega), or8 (by omega) (by omega) (by omega) (by omega), or16 (by omega) (by omega) (by omega) (by omega), or24 (by omega) (by omega) (by omega) (by omega), and32]
      all_goals omega
    · simp only [h1, cond_true, List.take_length, beq_self_eq_true]
  · have a6 : (o : Int) + 2 ≤ (b.length : Int) := a6
    have dr : List.drop (o + 2) (apL b o 2 (valN 2 s add p)) = List.drop (o + 2) b := apL_drop b o 2 _
    have f0 : decide ((0 : Int) ≤ ((o + 2 : Nat) : Int)) = true := decide_eq_true (by omega)
    have f1 : decide (((o + 2 : Nat) : Int) ≤ (b.length : Int)) = true := decide_eq_true (by omega)
    have f2 : (o + 2 + (b.length - (o + 2))).ble b.length = true := ble_t (by omega)
    have r0 : decide (o < b.length) = true := decide_eq_true (by omega)
    have q0 : (o).blt b.length = true := blt_t (by omega)
    have r1 : decide (o + 1 < b.length) = true := decide_eq_true (by omega)
    have q1 : (o + 1).blt b.length = true := blt_t (by omega)
    simp only [show ((2 : Int) == 3) = false from rfl, show ((2 : Int) == 2) = true from rfl, show ((2 : Int) == 4) = false from rfl, show ((2 : Int) == 5) = false from rfl, cond_true, cond_false, c0, c1, c2, w0, w1, w2, w3, w4, f0, f1, f2, Bool.and_self, Int.toNat_natCast, dr, beq_self_eq_true, inR_nat, r0, q0, r1, q1, hs64, hp64, hn64, hn2]
    refine (cond_bneF ?_ _ _).trans ?_
    · rw [show valN 2 s add p = s + add from rfl, apL_get0 _ _ (show o < b.length by omega), apL_get1 _ (by omega) (show o + 1 < b.length by omega)]
      rw [or0 (by omega) (by omega), or8 (by omega) (by omega) (by omega) (by omega), and16]
      all_goals omega
    · simp only [h1, cond_true, List.take_length, beq_self_eq_true]
  · have a6 : (o : Int) + 1 ≤ (b.length : Int) := a6
    have dr : List.drop (o + 1) (apL b o 3 (valN 3 s add p)) = List.drop (o + 1) b := apL_drop b o 3 _
    have f0 : decide ((0 : Int) ≤ ((o + 1 : Nat) : Int)) = true := decide_eq_true (by omega)
    have f1 : decide (((o + 1 : Nat) : Int) ≤ (b.length : Int)) = true := decide_eq_true (by omega)
    have f2 : (o + 1 + (b.length - (o + 1))).ble b.length = true := ble_t (by omega)
    have r0 : decide (o < b.length) = true := decide_eq_true (by omega)
    have q0 : (o).blt b.length = true := blt_t (by omega)
    simp only [show ((3 : Int) == 3) = true from rfl, show ((3 : Int) == 2) = false from rfl, show ((3 : Int) == 4) = false from rfl, show ((3 : Int) == 5) = false from rfl, cond_true, cond_false, c0, c1, c2, w0, w1, w2, w3, w4, f0, f1, f2, Bool.and_self, Int.toNat_natCast, dr, beq_self_eq_true, inR_nat, r0, q0, hs64, hp64, hn64, hn2]
    refine (cond_bneF ?_ _ _).trans ?_
    · rw [show valN 3 s add p = s + add from rfl, apL_get0 _ _ (show o < b.length by omega)]
      rw [or0 (by omega) (by omega), and8]
      all_goals omega
    · simp only [h1, cond_true, List.take_length, beq_self_eq_true]
  · have a6 : (o : Int) + 4 ≤ (b.length : Int) := a6
    have dr : List.drop (o + 4) (apL b o 4 (valN 4 s add p)) = List.drop (o + 4) b := apL_drop b o 4 _
    have f0 : decide ((0 : Int) ≤ ((o + 4 : Nat) : Int)) = true := decide_eq_true (by omega)
    have f1 : decide (((o + 4 : Nat) : Int) ≤ (b.length : Int)) = true := decide_eq_true (by omega)
    have f2 : (o + 4 + (b.length - (o + 4))).ble b.length = true := ble_t (by omega)
    have r0 : decide (o < b.length) = true := decide_eq_true (by omega)
    have q0 : (o).blt b.length = true := blt_t (by omega)
    have r1 : decide (o + 1 < b.length) = true := decide_eq_true (by omega)
    have q1 : (o + 1).blt b.length = true := blt_t (by omega)
    have r2 : decide (o + 2 < b.length) = true := decide_eq_true (by omega)
    have q2 : (o + 2).blt b.length = true := blt_t (by omega)
    have r3 : decide (o + 3 < b.length) = true := decide_eq_true (by omega)
    have q3 : (o + 3).blt b.length = true := blt_t (by omega)
    simp only [show ((4 : Int) == 3) = false from rfl, show ((4 : Int) == 2) = false from rfl, show ((4 : Int) == 4) = true from rfl, show ((4 : Int) == 5) = false from rfl, cond_true, cond_false, c0, c1, c2, w0, w1, w2, w3, w4, f0, f1, f2, Bool.and_self, Int.toNat_natCast, dr, beq_self_eq_true, inR_nat, r0, q0, r1, q1, r2, q2, r3, q3, hs64, hp64, hn64, hn2]
    refine (cond_bneF ?_ _ _).trans ?_
    · rw [show valN 4 s add p = s + add - p from rfl, apL_get0 _ _ (show o < b.length by omega), apL_get1 _ (by omega) (show o + 1 < b.length by omega), apL_get2 _ (by omega) (by omega) (show o + 2 < b.length by omega), apL_get3 _ (by omega) (by omega) (show o + 3 < b.length by omega)]
      rw [or0 (by omega) (by omega), or8 (by omega) (by omega) (by omega) (by omega), or16 (by omega) (by omega) (by omega) (by omega), or24 (by omega) (by omega) (by omega) (by omega), and32]
      all_goals omega
    · simp only [h1, cond_true, List.take_length, beq_self_eq_true]
  · have a6 : (o : Int) + 4 ≤ (b.length : Int) := a6
    have dr : List.drop (o + 4) (apL b o 5 (valN 5 s add p)) = List.drop (o + 4) b := apL_drop b o 5 _
    have f0 : decide ((0 : Int) ≤ ((o + 4 : Nat) : Int)) = true := decide_eq_true (by omega)
    have f1 : decide (((o + 4 : Nat) : Int) ≤ (b.length : Int)) = true := decide_eq_true (by omega)
    have f2 : (o + 4 + (b.length - (o + 4))).ble b.length = true := ble_t (by omega)
    have r0 : decide (o < b.length) = true := decide_eq_true (by omega)
    have q0 : (o).blt b.length = true := blt_t (by omega)
    have r1 : decide (o + 1 < b.length) = true := decide_eq_true (by omega)
    have q1 : (o + 1).blt b.length = true := blt_t (by omega)
    have r2 : decide (o + 2 < b.length) = true := decide_eq_true (by omega)
    have q2 : (o + 2).blt b.length = true := blt_t (by omega)
    have r3 : decide (o + 3 < b.length) = true := decide_eq_true (by omega)
    have q3 : (o + 3).blt b.length = true := blt_t (by omega)
    simp only [show ((5 : Int) == 3) = false from rfl, show ((5 : Int) == 2) = false from rfl, show ((5 : Int) == 4) = false from rfl, show ((5 : Int) == 5) = true from rfl, cond_true, cond_false, c0, c1, c2, w0, w1, w2, w3, w4, f0, f1, f2, Bool.and_self, Int.toNat_natCast, dr, beq_self_eq_true, inR_nat, r0, q0, r1, q1, r2, q2, r3, q3, hs64, hp64, hn64, hn2]
    refine (cond_bneF ?_ _ _).trans ?_
    · rw [show valN 5 s add p = (s + add) % 4294967296 / 256 from rfl, apL_get0 _ _ (show o < b.length by omega), apL_get1 _ (by omega) (show o + 1 < b.length by omega), apL_get2 _ (by omega) (by omega) (show o + 2 < b.length by omega), apL_get3 _ (by omega) (by omega) (show o + 3 < b.length by omega)]
      rw [or0 (by omega) (by omega), or8 (by omega) (by omega) (by omega) (by omega), or16 (by omega) (by omega) (by omega) (by omega), or24 (by omega) (by omega) (by omega) (by omega), and32 (s + add), Int.tdiv_eq_ediv_of_nonneg (by omega), wrap64 ((s + add) % 4294967296 / 256) (by omega) (by omega), and32]
      all_goals omega
    · simp only [h1, cond_true, List.take_length, beq_self_eq_true]
end Go.Ev
/- ObjApplied, for every input: the law answers true, and its arguments read as they did. -/
namespace Go.Ev
open Go.Proofs
section
variable {H : Type}
def bytesSh : Sh := .sl (.int .u8)
def bytesD (d : DataW H) : List Int := (elemsD d).map intD
theorem argsA_ap (d1 d2 d3 d4 d5 d6 : DataW H) : argsA [bytesSh, .int .i64, .int .i64, .int .u32, .int .i64, .int .u32] [d1, d2, d3, d4, d5, d6] =
    [.ro (.ints .u8 (bytesD d1)) none, .val (.int .i64 (intD d2)), .val (.int .i64 (intD d3)), .val (.int .u32 (intD d4)), .val (.int .i64 (intD d5)), .val (.int .u32 (intD d6))] := rfl
theorem u32_wf {d : DataW H} (h : wfD (.int .u32) d) : 0 ≤ intD d ∧ intD d < 4294967296 := by
  simp only [wfD, Lit.wf, IntKind.min, IntKind.max, IntKind.signed, IntKind.bits] at h
  simp at h
  omega
end
theorem Try.e5L : EnvOk2 Try.prog Try.EL5 := Try.envOk false (sumsOf Try.tL5) _ (sumsOf_ok (show AllS Try.prog Try.tL5 from ⟨Try.saneSum, Try.sumEqual, Try.sumClone, Try.sumApply, Try.sumApplyR, trivial⟩))
end Go.Ev
namespace Go.Proofs.Ytdogimleeplpkaa
open Go.Ev
theorem Try.ownG : ownKnob Try.prog.godebug = none := by kernel_rfl
theorem Try.kidsG : Kids Try.prog (· < Try.prog.types.size) := kids_rows (by kernel_rfl) (by kernel_rfl)
theorem Try.fullG : ∀ t e, t < Try.prog.types.size → Try.prog.underlying t = some (.slice e) → 0 < Try.prog.cellsOf e := slices_full_of Try.prog (by kernel_rfl)
theorem applied_contract (H : Type) (enc : TypeId × Value → H) (W : World) (base : Nat) (args : Array Value) (ds gs : List (DataW H)) (before : List MemPlace)
    (hval : ∀ (j : Nat) t v, Try.f5.params[j]? = some t → args[j]? = some v → Value.okWide Try.prog W .any base t v)
    (hW : DataW.Whole enc Try.prog Try.f5.params.toList Rows.objAppliedSpec.vars false W args.toList ds gs before) :
    Calls Try.prog 5 args W fun e W' => ∃ v, e = .returned v ∧ Rows.objAppliedSpec.post enc Try.prog Try.f5 false true false false W args v W' := by
  have hsh : shsOk Try.prog [bytesSh, .int .i64, .int .i64, .int .u32, .int .i64, .int .u32] Try.f5.params.toList = true := by kernel_rfl
  obtain ⟨p, q, hA, hV, _⟩ := id hW
  obtain ⟨hwf, hlen⟩ := args_wf hsh hA
  obtain rfl : gs = [] := by cases gs with | nil => rfl | cons => cases hV
  match ds, hlen with
  | [d1, d2, d3, d4, d5, d6], _ =>
    simp only [wfDL, List.headD_cons, List.tail_cons] at hwf
    have law := Try.law5a (b := bytesD d1) (off := intD d2) (k := intD d3) (s := intD d4) (add := intD d5) (p := intD d6) (u32_wf hwf.2.2.2.1) (u32_wf hwf.2.2.2.2.2.1)
    rw [← argsA_ap] at law
    exact law_calls (b := 4) Try.kidsG Try.fullG (by kernel_rfl) rfl Try.underlying4 (by kernel_rfl) rfl hsh hval hW (rootS_alone Try.e5L (AllL.noL _) law)
theorem applied_lifted (os : Os) (started : os.Started) (H : Type) (enc : TypeId × Value → H) :
    ReturnsInHanded {} Try.checked os 5 .any (Rows.objAppliedSpec.pre6 enc Try.prog Try.f5 Rows.objAppliedRow.domain false) (Rows.objAppliedSpec.post enc Try.prog Try.f5 false true false false) := by
  refine returnsInHanded_of_change (C := Try.checked) Try.ownG started (by kernel_rfl) Try.func5
    (ChangeSpec.witness6 (enc := enc) (C := Try.checked) false ⟨#[], #[.slice none 0 0, .int .i64 0, .int .i64 0, .int .u32 0, .int .i64 0, .int .u32 0], []⟩ 8 (by kernel_rfl) (by kernel_rfl) (by kernel_rfl) (by kernel_rfl)) ?_
  intro W base args ds gs before hval hW _ _
  exact applied_contract H enc W base args ds gs before hval hW
theorem objApplied : Rows.ObjAppliedSaid :=
  OpenClaim.holds_of_wide 5 Try.f5 rfl rfl rfl rfl rfl rfl rfl ⟨rfl, rfl, rfl, rfl, rfl⟩ rfl rfl rfl rfl rfl (by kernel_rfl) Try.func5 (by kernel_rfl)
    (of_decide_eq_true (by kernel_rfl)) (by unfold Func.isWrapper; first | (rw [if_pos (by decide +kernel)]; kernel_rfl) | (rw [if_neg (by decide +kernel)]; exact ⟨rfl, rfl⟩))
    (fun os started H enc _ => applied_lifted os started H enc)
end Go.Proofs.Ytdogimleeplpkaa
