/- The evaluator, its soundness and the walks: part 14. -/
import Derived.Test.YtninaidfifiliaaC13
set_option linter.unusedSectionVars false
set_option linter.unusedSimpArgs false
set_option linter.unusedVariables false
set_option maxRecDepth 100000
set_option maxRecDepth 1000000
noncomputable section
/- Journals: what is read of a data sector. -/
namespace Go.Ev
open Go.Proofs
abbrev YD := Value × Value × Value × Value × Value × Value × Value × Value × Value × Value
structure YS where
  N : Int
  B : List Int
  bl : Nat
  n3 : Nat
  n4 : Nat
  ln : Nat
  f : Nat → List AV
  g : Nat → List AV
  E : List Int
  Y : YD
def yrow (N : Int) (bl n3 n4 : Nat) (Y : YD) : List AV := [.val (.int .i64 N), .own 1 0 bl none 1, .own 2 0 0 none 2, .val Y.1, .val Y.2.1, .val Y.2.2.1, .val Y.2.2.2.1, .val Y.2.2.2.2.1, .val Y.2.2.2.2.2.1, .val Y.2.2.2.2.2.2.1, .val Y.2.2.2.2.2.2.2.1, .val Y.2.2.2.2.2.2.2.2.1, .val Y.2.2.2.2.2.2.2.2.2, .own 3 0 n3 none 5, .own 4 0 n4 none 1]
def yH (S : YS) : Heap := ⟨5, [⟨4, 0, .cells (.ints .i64 S.E)⟩, ⟨3, 0, .cells (.tab 5 S.ln S.f)⟩, ⟨2, 0, .cells (.tab 2 0 S.g)⟩, ⟨1, 0, .cells (.ints .u8 S.B)⟩, ⟨0, 0, .cells (.rows false 15 [yrow S.N S.bl S.n3 S.n4 S.Y])⟩]⟩
def withY {β : Type} (h : Heap) (F : YS → Ans β) : Ans β := match h with
  | ⟨5, [⟨4, 0, .cells (.ints .i64 E)⟩, ⟨3, 0, .cells (.tab 5 ln f)⟩, ⟨2, 0, .cells (.tab 2 0 g)⟩, ⟨1, 0, .cells (.ints .u8 B)⟩, ⟨0, 0, .cells (.rows false 15 [[.val (.int .i64 N), .own 1 0 bl none 1, .own 2 0 0 none 2, .val y1, .val y2, .val y3, .val y4, .val y5, .val y6, .val y7, .val y8, .val y9, .val y10, .own 3 0 n3 none 5, .own 4 0 n4 none 1]])⟩]⟩ =>
    F ⟨N, B, bl, n3, n4, ln, f, g, E, (y1, y2, y3, y4, y5, y6, y7, y8, y9, y10)⟩
  | _ => .no
theorem withY_some {β : Type} {h : Heap} {F : YS → Ans β} {r : β} (hs : (withY h F).run = some r) : ∃ S, h = yH S ∧ (F S).run = some r := by
  unfold withY at hs
  split at hs
  · exact ⟨_, rfl, hs⟩
  · cases hs
theorem yH_ok (S : YS) : (yH S).ok := heap_ok [4, 3, 2, 1, 0] rfl (by decide) (by decide)
theorem Try.w84 (S : YS) (s : Int) : rootE Try.E1 6 84 5 (lsumsOf []) [.ptr 0 0 0, .val (.int .i64 s)] (yH S) =
 bif IntKind.i64.wrap (S.N - 2) != 0 then
 some (.val (.int .i64 (IntKind.i64.wrap (2 + s.tmod (IntKind.i64.wrap (S.N - 2))))), (yH S))
 else
 none := by kernel_rfl
theorem Try.w71y (S : YS) (a : Int) : rootE Try.E1 6 71 5 (lsumsOf []) [.ptr 0 0 0, .val (.int .i64 a)] (yH S) =
 bif decide (0 ≤ IntKind.i64.wrap (a * 64)) && decide (IntKind.i64.wrap (a * 64) ≤ (↑S.bl : Int)) then
 bif decide (64 ≤ (↑(S.bl - (IntKind.i64.wrap (a * 64)).toNat) : Int)) then
 some (.own 1 (0 + (IntKind.i64.wrap (a * 64)).toNat + 0) (64) (some (64)) 1, (yH S))
 else
 none
 else
 none := by kernel_rfl
def Try.F84 (args : List AV) (h : Heap) : Ans (AV × Heap) := match args with
  | [.ptr 0 0 0, .val (.int .i64 s)] => withY h (fun S => .grd (decide (8 ≤ S.N) && (decide (S.N ≤ 4096) && decide (0 ≤ s))) (.out (.val (.int .i64 (placeI S.N s)), yH S)))
  | _ => .no
def Try.A84 : AFun := effA Try.F84
def Try.F71y (args : List AV) (h : Heap) : Ans (AV × Heap) := match args with
  | [.ptr 0 0 0, .val (.int .i64 a)] => withY h (fun S => .grd (decide (0 ≤ a) && (decide (a < 4096) && Nat.ble (a.toNat * 64 + 64) S.bl)) (.out (.own 1 (a.toNat * 64) 64 (some 64) 1, yH S)))
  | _ => .no
def Try.A71y : AFun := effA Try.F71y
theorem Try.sum84 : SumC Try.prog 84 Try.A84 := by
  refine effSumR 84 ⟨Try.f84, _, Try.fnOk84.1, Try.fnOk84.2, rfl⟩ ?_
  intro args h v h2 hok hs
  unfold Try.F84 at hs
  split at hs
  · rename_i s
    obtain ⟨S, rfl, hs2⟩ := withY_some hs
    clear hs
    have hs := hs2
    rw [Ans.run_grd] at hs
    cases hb : (decide (8 ≤ S.N) && (decide (S.N ≤ 4096) && decide (0 ≤ s))) with
    | false => rw [hb] at hs; cases hs
    | true =>
      rw [hb, cond_true] at hs
      simp only [Bool.and_eq_true, decide_eq_true_eq] at hb
      have hs := Option.some.inj hs
      have t := placeI_ok (N := S.N) (s := s) hb.1 hb.2.2
      refine rootE_alone Try.e1 (d := 6) (p := 5) (ls := lsumsOf []) (AllL.of0 (by kernel_rfl)) (yH_ok S) ((Try.w84 S s).trans ?_)
      unfold placeI at *
      rw [wrap64 (S.N - 2) (by omega) (by omega), show (S.N - 2 != 0) = true by rw [bne, Bool.not_eq_true', beq_eq_false_iff_ne]; omega, wrap64 _ (by omega) (by omega), ← hs]
      rfl
  · cases hs
theorem Try.sum71y : SumC Try.prog 71 Try.A71y := by
  refine effSumR 71 ⟨Try.f71, _, Try.fnOk71.1, Try.fnOk71.2, rfl⟩ ?_
  intro args h v h2 hok hs
  unfold Try.F71y at hs
  split at hs
  · rename_i a
    obtain ⟨S, rfl, hs2⟩ := withY_some hs
    clear hs
    have hs := hs2
    rw [Ans.run_grd] at hs
    cases hb : (decide (0 ≤ a) && (decide (a < 4096) && Nat.ble (a.toNat * 64 + 64) S.bl)) with
    | false => rw [hb] at hs; cases hs
    | true =>
      rw [hb, cond_true] at hs
      simp only [Bool.and_eq_true, decide_eq_true_eq, Nat.ble_eq] at hb
      have hs := Option.some.inj hs
      refine rootE_alone Try.e1 (d := 6) (p := 5) (ls := lsumsOf []) (AllL.of0 (by kernel_rfl)) (yH_ok S) ((Try.w71y S a).trans ?_)
      have e1 : (a * 64).toNat = a.toNat * 64 := by omega
      rw [wrap64 (a * 64) (by omega) (by omega), e1, decide_eq_true (show 0 ≤ a * 64 by omega), decide_eq_true (show a * 64 ≤ (S.bl : Int) by omega), decide_eq_true (show (64 : Int) ≤ ((S.bl - a.toNat * 64 : Nat) : Int) by omega), Nat.zero_add, Nat.add_zero, ← hs]
      rfl
  · cases hs
def Try.t106 : List (Nat × AFun) := [(60, Try.A60), (71, Try.A71y), (84, Try.A84), (85, Try.A85p), (111, Try.A111)]
def Try.E106 : Env := Try.env0 false (sumsOf Try.t106) (keepF 0 [])
theorem Try.e106 : EnvOk2 Try.prog Try.E106 := Try.envOk false (sumsOf Try.t106) _ (sumsOf_ok (show AllS Try.prog Try.t106 from ⟨Try.sum60, Try.sum71y, Try.sum84, Try.sum85p, Try.sum111, trivial⟩))
theorem Try.w106 (S : YS) (s : Int) : rootE Try.E106 6 106 5 (lsumsOf []) [.ptr 0 0 0, .val (.int .i64 s)] (yH S) =
 bif decide (8 ≤ S.N) && (decide (S.N ≤ 4096) && decide (0 ≤ s)) then
 bif decide (0 ≤ placeI S.N s) && (decide (placeI S.N s < 4096) && ((placeI S.N s).toNat * 64 + 64).ble S.bl) then
 bif ((placeI S.N s).toNat * 64 + 9).blt S.B.length then
 bif decide (IntKind.i64.wrap (S.B.getD ((placeI S.N s).toNat * 64 + 9) 0) < 1) then
 some (.tup [.agg [.val (.int .i64 0), .val (.int .i64 0), .val (.bool false), .val (.bool false), .val (.slice none 0 0)], .val (.bool false)], (yH S))
 else
 bif decide (IntKind.i64.wrap (S.B.getD ((placeI S.N s).toNat * 64 + 9) 0) > 46) then
 some (.tup [.agg [.val (.int .i64 0), .val (.int .i64 0), .val (.bool false), .val (.bool false), .val (.slice none 0 0)], .val (.bool false)], (yH S))
 else
 bif ((placeI S.N s).toNat * 64 + 8).blt S.B.length then
 bif decide (S.B.getD ((placeI S.N s).toNat * 64 + 8) 0 > 3) then
 some (.tup [.agg [.val (.int .i64 0), .val (.int .i64 0), .val (.bool false), .val (.bool false), .val (.slice none 0 0)], .val (.bool false)], (yH S))
 else
 bif ((placeI S.N s).toNat * 64 + 64).ble S.B.length && true then
 bif bytesOk (List.take 64 (List.drop ((placeI S.N s).toNat * 64) S.B)) && (Nat.ble 4 (List.take 64 (List.drop ((placeI S.N s).toNat * 64) S.B)).length && true) then
 bif ((placeI S.N s).toNat * 64 + 64).ble S.B.length && true then
 bif bytesOk (List.take 64 (List.drop ((placeI S.N s).toNat * 64) S.B)) && (Nat.ble 8 (List.take 64 (List.drop ((placeI S.N s).toNat * 64) S.B)).length && true) then
 bif ((placeI S.N s).toNat * 64 + 8).blt S.B.length then
 bif IntKind.u8.wrap (↑(BitVec.ofInt 8 (S.B.getD ((placeI S.N s).toNat * 64 + 8) 0) &&& BitVec.ofInt 8 1).toNat : Int) != 0 then
 bif ((placeI S.N s).toNat * 64 + 8).blt S.B.length then
 bif IntKind.u8.wrap (↑(BitVec.ofInt 8 (S.B.getD ((placeI S.N s).toNat * 64 + 8) 0) &&& BitVec.ofInt 8 2).toNat : Int) != 0 then
 bif decide (0 ≤ IntKind.i64.wrap (10 + IntKind.i64.wrap (S.B.getD ((placeI S.N s).toNat * 64 + 9) 0))) && decide (IntKind.i64.wrap (10 + IntKind.i64.wrap (S.B.getD ((placeI S.N s).toNat * 64 + 9) 0)) ≤ 64) then
 bif decide (10 ≤ (↑(IntKind.i64.wrap (10 + IntKind.i64.wrap (S.B.getD ((placeI S.N s).toNat * 64 + 9) 0))).toNat : Int)) then
 bif wdB (List.take 64 (List.drop ((placeI S.N s).toNat * 64) S.B)) 0 == s then
 bif ((placeI S.N s).toNat * 64 + 10 + ((IntKind.i64.wrap (10 + IntKind.i64.wrap (S.B.getD ((placeI S.N s).toNat * 64 + 9) 0))).toNat - 10)).ble S.B.length && true then
 bif (List.take ((IntKind.i64.wrap (10 + IntKind.i64.wrap (S.B.getD ((placeI S.N s).toNat * 64 + 9) 0))).toNat - 10) (List.drop ((placeI S.N s).toNat * 64 + 10) S.B)).length.ble 46 then
 bif ((placeI S.N s).toNat * 64 + 64).ble S.B.length && true then
 bif Nat.ble 64 (dataB (wdB (List.take 64 (List.drop ((placeI S.N s).toNat * 64) S.B)) 0) (wdB (List.take 64 (List.drop ((placeI S.N s).toNat * 64) S.B)) 4) true true (List.take ((IntKind.i64.wrap (10 + IntKind.i64.wrap (S.B.getD ((placeI S.N s).toNat * 64 + 9) 0))).toNat - 10) (List.drop ((placeI S.N s).toNat * 64 + 10) S.B))).length && true then
 bif (List.take 64 (List.drop ((placeI S.N s).toNat * 64) S.B)).length.ble 1000000 then
 bif decide (List.take 64 (List.drop ((placeI S.N s).toNat * 64) S.B) = List.take 64 (List.drop 0 (dataB (wdB (List.take 64 (List.drop ((placeI S.N s).toNat * 64) S.B)) 0) (wdB (List.take 64 (List.drop ((placeI S.N s).toNat * 64) S.B)) 4) true true (List.take ((IntKind.i64.wrap (10 + IntKind.i64.wrap (S.B.getD ((placeI S.N s).toNat * 64 + 9) 0))).toNat - 10) (List.drop ((placeI S.N s).toNat * 64 + 10) S.B))))) then
 some (.tup [.agg [.val (.int .i64 (wdB (List.take 64 (List.drop ((placeI S.N s).toNat * 64) S.B)) 0)), .val (.int .i64 (wdB (List.take 64 (List.drop ((placeI S.N s).toNat * 64) S.B)) 4)), .val (.bool true), .val (.bool true), .own 1 ((placeI S.N s).toNat * 64 + 10) ((IntKind.i64.wrap (10 + IntKind.i64.wrap (S.B.getD ((placeI S.N s).toNat * 64 + 9) 0))).toNat - 10) (some (54)) 1], .val (.bool true)], (yH S))
 else
 some (.tup [.agg [.val (.int .i64 (wdB (List.take 64 (List.drop ((placeI S.N s).toNat * 64) S.B)) 0)), .val (.int .i64 (wdB (List.take 64 (List.drop ((placeI S.N s).toNat * 64) S.B)) 4)), .val (.bool true), .val (.bool true), .own 1 ((placeI S.N s).toNat * 64 + 10) ((IntKind.i64.wrap (10 + IntKind.i64.wrap (S.B.getD ((placeI S.N s).toNat * 64 + 9) 0))).toNat - 10) (some (54)) 1], .val (.bool false)], (yH S))
 else
 none
 else
 none
 else
 none
 else
 none
 else
 none
 else
 some (.tup [.agg [.val (.int .i64 (wdB (List.take 64 (List.drop ((placeI S.N s).toNat * 64) S.B)) 0)), .val (.int .i64 (wdB (List.take 64 (List.drop ((placeI S.N s).toNat * 64) S.B)) 4)), .val (.bool true), .val (.bool true), .own 1 ((placeI S.N s).toNat * 64 + 10) ((IntKind.i64.wrap (10 + IntKind.i64.wrap (S.B.getD ((placeI S.N s).toNat * 64 + 9) 0))).toNat - 10) (some (54)) 1], .val (.bool false)], (yH S))
 else
 none
 else
 none
 else
 bif decide (0 ≤ IntKind.i64.wrap (10 + IntKind.i64.wrap (S.B.getD ((placeI S.N s).toNat * 64 + 9) 0))) && decide (IntKind.i64.wrap (10 + IntKind.i64.wrap (S.B.getD ((placeI S.N s).toNat * 64 + 9) 0)) ≤ 64) then
 bif decide (10 ≤ (↑(IntKind.i64.wrap (10 + IntKind.i64.wrap (S.B.getD ((placeI S.N s).toNat * 64 + 9) 0))).toNat : Int)) then
 bif wdB (List.take 64 (List.drop ((placeI S.N s).toNat * 64) S.B)) 0 == s then
 bif ((placeI S.N s).toNat * 64 + 10 + ((IntKind.i64.wrap (10 + IntKind.i64.wrap (S.B.getD ((placeI S.N s).toNat * 64 + 9) 0))).toNat - 10)).ble S.B.length && true then
 bif (List.take ((IntKind.i64.wrap (10 + IntKind.i64.wrap (S.B.getD ((placeI S.N s).toNat * 64 + 9) 0))).toNat - 10) (List.drop ((placeI S.N s).toNat * 64 + 10) S.B)).length.ble 46 then
 bif ((placeI S.N s).toNat * 64 + 64).ble S.B.length && true then
 bif Nat.ble 64 (dataB (wdB (List.take 64 (List.drop ((placeI S.N s).toNat * 64) S.B)) 0) (wdB (List.take 64 (List.drop ((placeI S.N s).toNat * 64) S.B)) 4) true false (List.take ((IntKind.i64.wrap (10 + IntKind.i64.wrap (S.B.getD ((placeI S.N s).toNat * 64 + 9) 0))).toNat - 10) (List.drop ((placeI S.N s).toNat * 64 + 10) S.B))).length && true then
 bif (List.take 64 (List.drop ((placeI S.N s).toNat * 64) S.B)).length.ble 1000000 then
 bif decide (List.take 64 (List.drop ((placeI S.N s).toNat * 64) S.B) = List.take 64 (List.drop 0 (dataB (wdB (List.take 64 (List.drop ((placeI S.N s).toNat * 64) S.B)) 0) (wdB (List.take 64 (List.drop ((placeI S.N s).toNat * 64) S.B)) 4) true false (List.take ((IntKind.i64.wrap (10 + IntKind.i64.wrap (S.B.getD ((placeI S.N s).toNat * 64 + 9) 0))).toNat - 10) (List.drop ((placeI S.N s).toNat * 64 + 10) S.B))))) then
 some (.tup [.agg [.val (.int .i64 (wdB (List.take 64 (List.drop ((placeI S.N s).toNat * 64) S.B)) 0)), .val (.int .i64 (wdB (List.take 64 (List.drop ((placeI S.N s).toNat * 64) S.B)) 4)), .val (.bool true), .val (.bool false), .own 1 ((placeI S.N s).toNat * 64 + 10) ((IntKind.i64.wrap (10 + IntKind.i64.wrap (S.B.getD ((placeI S.N s).toNat * 64 + 9) 0))).toNat - 10) (some (54)) 1], .val (.bool true)], (yH S))
 else
 some (.tup [.agg [.val (.int .i64 (wdB (List.take 64 (List.drop ((placeI S.N s).toNat * 64) S.B)) 0)), .val (.int .i64 (wdB (List.take 64 (List.drop ((placeI S.N s).toNat * 64) S.B)) 4)), .val (.bool true), .val (.bool false), .own 1 ((placeI S.N s).toNat * 64 + 10) ((IntKind.i64.wrap (10 + IntKind.i64.wrap (S.B.getD ((placeI S.N s).toNat * 64 + 9) 0))).toNat - 10) (some (54)) 1], .val (.bool false)], (yH S))
 else
 none
 else
 none
 else
 none
 else
 none
 else
 none
 else
 some (.tup [.agg [.val (.int .i64 (wdB (List.take 64 (List.drop ((placeI S.N s).toNat * 64) S.B)) 0)), .val (.int .i64 (wdB (List.take 64 (List.drop ((placeI S.N s).toNat * 64) S.B)) 4)), .val (.bool true), .val (.bool false), .own 1 ((placeI S.N s).toNat * 64 + 10) ((IntKind.i64.wrap (10 + IntKind.i64.wrap (S.B.getD ((placeI S.N s).toNat * 64 + 9) 0))).toNat - 10) (some (54)) 1], .val (.bool false)], (yH S))
 else
 none
 else
 none
 else
 none
 else
 bif ((placeI S.N s).toNat * 64 + 8).blt S.B.length then
 bif IntKind.u8.wrap (↑(BitVec.ofInt 8 (S.B.getD ((placeI S.N s).toNat * 64 + 8) 0) &&& BitVec.ofInt 8 2).toNat : Int) != 0 then
 bif decide (0 ≤ IntKind.i64.wrap (10 + IntKind.i64.wrap (S.B.getD ((placeI S.N s).toNat * 64 + 9) 0))) && decide (IntKind.i64.wrap (10 + IntKind.i64.wrap (S.B.getD ((placeI S.N s).toNat * 64 + 9) 0)) ≤ 64) then
 bif decide (10 ≤ (↑(IntKind.i64.wrap (10 + IntKind.i64.wrap (S.B.getD ((placeI S.N s).toNat * 64 + 9) 0))).toNat : Int)) then
 bif wdB (List.take 64 (List.drop ((placeI S.N s).toNat * 64) S.B)) 0 == s then
 bif ((placeI S.N s).toNat * 64 + 10 + ((IntKind.i64.wrap (10 + IntKind.i64.wrap (S.B.getD ((placeI S.N s).toNat * 64 + 9) 0))).toNat - 10)).ble S.B.length && true then
 bif (List.take ((IntKind.i64.wrap (10 + IntKind.i64.wrap (S.B.getD ((placeI S.N s).toNat * 64 + 9) 0))).toNat - 10) (List.drop ((placeI S.N s).toNat * 64 + 10) S.B)).length.ble 46 then
 bif ((placeI S.N s).toNat * 64 + 64).ble S.B.length && true then
 bif Nat.ble 64 (dataB (wdB (List.take 64 (List.drop ((placeI S.N s).toNat * 64) S.B)) 0) (wdB (List.take 64 (List.drop ((placeI S.N s).toNat * 64) S.B)) 4) false true (List.take ((IntKind.i64.wrap (10 + IntKind.i64.wrap (S.B.getD ((placeI S.N s).toNat * 64 + 9) 0))).toNat - 10) (List.drop ((placeI S.N s).toNat * 64 + 10) S.B))).length && true then
 bif (List.take 64 (List.drop ((placeI S.N s).toNat * 64) S.B)).length.ble 1000000 then
 bif decide (List.take 64 (List.drop ((placeI S.N s).toNat * 64) S.B) = List.take 64 (List.drop 0 (dataB (wdB (List.take 64 (List.drop ((placeI S.N s).toNat * 64) S.B)) 0) (wdB (List.take 64 (List.drop ((placeI S.N s).toNat * 64) S.B)) 4) false true (List.take ((IntKind.i64.wrap (10 + IntKind.i64.wrap (S.B.getD ((placeI S.N s).toNat * 64 + 9) 0))).toNat - 10) (List.drop ((placeI S.N s).toNat * 64 + 10) S.B))))) then
 some (.tup [.agg [.val (.int .i64 (wdB (List.take 64 (List.drop ((placeI S.N s).toNat * 64) S.B)) 0)), .val (.int .i64 (wdB (List.take 64 (List.drop ((placeI S.N s).toNat * 64) S.B)) 4)), .val (.bool false), .val (.bool true), .own 1 ((placeI S.N s).toNat * 64 + 10) ((IntKind.i64.wrap (10 + IntKind.i64.wrap (S.B.getD ((placeI S.N s).toNat * 64 + 9) 0))).toNat - 10) (some (54)) 1], .val (.bool true)], (yH S))
 else
 some (.tup [.agg [.val (.int .i64 (wdB (List.take 64 (List.drop ((placeI S.N s).toNat * 64) S.B)) 0)), .val (.int .i64 (wdB (List.take 64 (List.drop ((placeI S.N s).toNat * 64) S.B)) 4)), .val (.bool false), .val (.bool true), .own 1 ((placeI S.N s).toNat * 64 + 10) ((IntKind.i64.wrap (10 + IntKind.i64.wrap (S.B.getD ((placeI S.N s).toNat * 64 + 9) 0))).toNat - 10) (some (54)) 1], .val (.bool false)], (yH S))
 else
 none
 else
 none
 else
 none
 else
 none
 else
 none
 else
 some (.tup [.agg [.val (.int .i64 (wdB (List.take 64 (List.drop ((placeI S.N s).toNat * 64) S.B)) 0)), .val (.int .i64 (wdB (List.take 64 (List.drop ((placeI S.N s).toNat * 64) S.B)) 4)), .val (.bool false), .val (.bool true), .own 1 ((placeI S.N s).toNat * 64 + 10) ((IntKind.i64.wrap (10 + IntKind.i64.wrap (S.B.getD ((placeI S.N s).toNat * 64 + 9) 0))).toNat - 10) (some (54)) 1], .val (.bool false)], (yH S))
 else
 none
 else
 none
 else
 bif decide (0 ≤ IntKind.i64.wrap (10 + IntKind.i64.wrap (S.B.getD ((placeI S.N s).toNat * 64 + 9) 0))) && decide (IntKind.i64.wrap (10 + IntKind.i64.wrap (S.B.getD ((placeI S.N s).toNat * 64 + 9) 0)) ≤ 64) then
 bif decide (10 ≤ (↑(IntKind.i64.wrap (10 + IntKind.i64.wrap (S.B.getD ((placeI S.N s).toNat * 64 + 9) 0))).toNat : Int)) then
 bif wdB (List.take 64 (List.drop ((placeI S.N s).toNat * 64) S.B)) 0 == s then
 bif ((placeI S.N s).toNat * 64 + 10 + ((IntKind.i64.wrap (10 + IntKind.i64.wrap (S.B.getD ((placeI S.N s).toNat * 64 + 9) 0))).toNat - 10)).ble S.B.length && true then
 bif (List.take ((IntKind.i64.wrap (10 + IntKind.i64.wrap (S.B.getD ((placeI S.N s).toNat * 64 + 9) 0))).toNat - 10) (List.drop ((placeI S.N s).toNat * 64 + 10) S.B)).length.ble 46 then
 bif ((placeI S.N s).toNat * 64 + 64).ble S.B.length && true then
 bif Nat.ble 64 (dataB (wdB (List.take 64 (List.drop ((placeI S.N s).toNat * 64) S.B)) 0) (wdB (List.take 64 (List.drop ((placeI S.N s).toNat * 64) S.B)) 4) false false (List.take ((IntKind.i64.wrap (10 + IntKind.i64.wrap (S.B.getD ((placeI S.N s).toNat * 64 + 9) 0))).toNat - 10) (List.drop ((placeI S.N s).toNat * 64 + 10) S.B))).length && true then
 bif (List.take 64 (List.drop ((placeI S.N s).toNat * 64) S.B)).length.ble 1000000 then
 bif decide (List.take 64 (List.drop ((placeI S.N s).toNat * 64) S.B) = List.take 64 (List.drop 0 (dataB (wdB (List.take 64 (List.drop ((placeI S.N s).toNat * 64) S.B)) 0) (wdB (List.take 64 (List.drop ((placeI S.N s).toNat * 64) S.B)) 4) false false (List.take ((IntKind.i64.wrap (10 + IntKind.i64.wrap (S.B.getD ((placeI S.N s).toNat * 64 + 9) 0))).toNat - 10) (List.drop ((placeI S.N s).toNat * 64 + 10) S.B))))) then
 some (.tup [.agg [.val (.int .i64 (wdB (List.take 64 (List.drop ((placeI S.N s).toNat * 64) S.B)) 0)), .val (.int .i64 (wdB (List.take 64 (List.drop ((placeI S.N s).toNat * 64) S.B)) 4)), .val (.bool false), .val (.bool false), .own 1 ((placeI S.N s).toNat * 64 + 10) ((IntKind.i64.wrap (10 + IntKind.i64.wrap (S.B.getD ((placeI S.N s).toNat * 64 + 9) 0))).toNat - 10) (some (54)) 1], .val (.bool true)], (yH S))
 else
 some (.tup [.agg [.val (.int .i64 (wdB (List.take 64 (List.drop ((placeI S.N s).toNat * 64) S.B)) 0)), .val (.int .i64 (wdB (List.take 64 (List.drop ((placeI S.N s).toNat * 64) S.B)) 4)), .val (.bool false), .val (.bool false), .own 1 ((placeI S.N s).toNat * 64 + 10) ((IntKind.i64.wrap (10 + IntKind.i64.wrap (S.B.getD ((placeI S.N s).toNat * 64 + 9) 0))).toNat - 10) (some (54)) 1], .val (.bool false)], (yH S))
 else
 none
 else
 none
 else
 none
 else
 none
 else
 none
 else
 some (.tup [.agg [.val (.int .i64 (wdB (List.take 64 (List.drop ((placeI S.N s).toNat * 64) S.B)) 0)), .val (.int .i64 (wdB (List.take 64 (List.drop ((placeI S.N s).toNat * 64) S.B)) 4)), .val (.bool false), .val (.bool false), .own 1 ((placeI S.N s).toNat * 64 + 10) ((IntKind.i64.wrap (10 + IntKind.i64.wrap (S.B.getD ((placeI S.N s).toNat * 64 + 9) 0))).toNat - 10) (some (54)) 1], .val (.bool false)], (yH S))
 else
 none
 else
 none
 else
 none
 else
 none
 else
 none
 else
 none
 else
 none
 else
 none
 else
 none
 else
 none
 else
 none
 else
 none := by kernel_rfl
def secOf (N : Int) (B : List Int) (s : Int) : List Int := sect B (placeI N s).toNat
def early (sec : List Int) : Bool := decide (sec.getD 9 0 < 1) || (decide (sec.getD 9 0 > 46) || decide (sec.getD 8 0 > 3))
def nOf (sec : List Int) : Nat := (sec.getD 9 0).toNat
def pOf (sec : List Int) : List Int := (sec.drop 10).take (nOf sec)
def fOf (sec : List Int) : Bool := sec.getD 8 0 == 1 || sec.getD 8 0 == 3
def lOf (sec : List Int) : Bool := sec.getD 8 0 == 2 || sec.getD 8 0 == 3
def okD (sec : List Int) (s : Int) : Bool := !early sec && (wdB sec 0 == s && decide (sec = dataB (wdB sec 0) (wdB sec 4) (fOf sec) (lOf sec) (pOf sec)))
def yOk (S : YS) : Bool := decide (8 ≤ S.N) && (decide (S.N ≤ 4096) && (decide (S.bl = S.B.length) && (decide ((S.B.length : Int) = S.N * 64) && bytesOk S.B)))
def zero5 : AV := .agg [.val (.int .i64 0), .val (.int .i64 0), .val (.bool false), .val (.bool false), .val (.slice none 0 0)]
def Try.F106 (args : List AV) (h : Heap) : Ans (AV × Heap) := match args with
  | [.ptr 0 0 0, .val (.int .i64 s)] => withY h (fun S => .grd (yOk S && decide (0 ≤ s)) (.br (okD (secOf S.N S.B s) s)
      (.out (.tup [.agg [.val (.int .i64 s), .val (.int .i64 (wdB (secOf S.N S.B s) 4)), .val (.bool (fOf (secOf S.N S.B s))), .val (.bool (lOf (secOf S.N S.B s))), .own 1 ((placeI S.N s).toNat * 64 + 10) (nOf (secOf S.N S.B s)) (some 54) 1], .val (.bool true)], yH S))
      (.br (early (secOf S.N S.B s)) (.out (.tup [zero5, .val (.bool false)], yH S))
      (.out (.tup [.agg [.val (.int .i64 (wdB (secOf S.N S.B s) 0)), .val (.int .i64 (wdB (secOf S.N S.B s) 4)), .val (.bool (fOf (secOf S.N S.B s))), .val (.bool (lOf (secOf S.N S.B s))), .own 1 ((placeI S.N s).toNat * 64 + 10) (nOf (secOf S.N S.B s)) (some 54) 1], .val (.bool false)], yH S)))))
  | _ => .no
def Try.A106 : AFun := effA Try.F106
theorem sect_len {B : List Int} {p : Nat} (h : p * 64 + 64 ≤ B.length) : (sect B p).length = 64 := by unfold sect; rw [List.length_take, List.length_drop]; omega
theorem sect_get {B : List Int} {p i : Nat} (h : i < 64) : (sect B p).getD i 0 = B.getD (p * 64 + i) 0 := by
  unfold sect
  rw [List.getD_eq_getElem?_getD, List.getElem?_take, if_pos h, List.getElem?_drop, ← List.getD_eq_getElem?_getD]
theorem bytesOk_sub {B : List Int} (h : bytesOk B = true) {l : List Int} (hl : ∀ x ∈ l, x ∈ B) : bytesOk l = true := by
  unfold bytesOk at *
  rw [List.all_eq_true] at *
  exact fun x hx => h x (hl x hx)
theorem sect_bytes {B : List Int} (h : bytesOk B = true) (p : Nat) : bytesOk (sect B p) = true := bytesOk_sub h (fun x hx => List.mem_of_mem_drop (List.mem_of_mem_take hx))
theorem piece_sect {B : List Int} {p n : Nat} (h : n ≤ 46) : List.take n (List.drop (p * 64 + 10) B) = ((sect B p).drop 10).take n := by
  unfold sect
  rw [List.drop_take, List.drop_drop, List.take_take, Nat.min_eq_left (by omega)]
theorem flag1 (x : Int) (h0 : 0 ≤ x) (h1 : x ≤ 3) : (IntKind.u8.wrap ((BitVec.ofInt 8 x &&& BitVec.ofInt 8 1).toNat : Int) != 0) = (x == 1 || x == 3) := by
  rcases (show x = 0 ∨ x = 1 ∨ x = 2 ∨ x = 3 by omega) with rfl | rfl | rfl | rfl <;> decide +kernel
theorem flag2 (x : Int) (h0 : 0 ≤ x) (h1 : x ≤ 3) : (IntKind.u8.wrap ((BitVec.ofInt 8 x &&& BitVec.ofInt 8 2).toNat : Int) != 0) = (x == 2 || x == 3) := by
  rcases (show x = 0 ∨ x = 1 ∨ x = 2 ∨ x = 3 by omega) with rfl | rfl | rfl | rfl <;> decide +kernel
theorem Try.sum106 : SumC Try.prog 106 Try.A106 := by
  refine effSumR 106 ⟨Try.f106, _, Try.fnOk106.1, Try.fnOk106.2, rfl⟩ ?_
  intro args h v h2 hok hs
  unfold Try.F106 at hs
  split at hs
  · rename_i s
    obtain ⟨S, rfl, hs2⟩ := withY_some hs
    clear hs
    rw [Ans.run_grd, Ans.run_br, Ans.run_br] at hs2
    cases hb : (yOk S && decide (0 ≤ s)) with
    | false => rw [hb] at hs2; cases hs2
    | true =>
    rw [hb, cond_true] at hs2
    unfold yOk at hb
    simp only [Bool.and_eq_true, decide_eq_true_eq] at hb
    obtain ⟨⟨b1, b2, b3, b4, b5⟩, b6⟩ := hb
    have run := fun v h2 => rootE_alone Try.e106 (d := 6) (g := 106) (p := 5) (ls := lsumsOf []) (AllL.of0 (by kernel_rfl)) (yH_ok S) (args := [.ptr 0 0 0, .val (.int .i64 s)]) (v := v) (h2 := h2)
    have key := Try.w106 S s
    have hp := placeI_ok (N := S.N) (s := s) b1 b6
    obtain ⟨p, hpe⟩ : ∃ p, p = (placeI S.N s).toNat := ⟨_, rfl⟩
    have hp64 : p * 64 + 64 ≤ S.B.length := by omega
    have hsec : secOf S.N S.B s = sect S.B p := by unfold secOf; rw [hpe]
    have g9 : S.B.getD (p * 64 + 9) 0 = (sect S.B p).getD 9 0 := (sect_get (by decide)).symm
    have g8 : S.B.getD (p * 64 + 8) 0 = (sect S.B p).getD 8 0 := (sect_get (by decide)).symm
    have ht : List.take 64 (List.drop (p * 64) S.B) = sect S.B p := rfl
    have hby := sect_bytes b5 p
    have hl := sect_len hp64
    have h9 := bytesOk_get hby 9
    have h8 := bytesOk_get hby 8
    rw [← hpe] at key
    rw [hsec] at hs2
    simp only [g9, g8, ht, hby, hl] at key
    rw [decide_eq_true b1, decide_eq_true b2, decide_eq_true b6, decide_eq_true (show 0 ≤ placeI S.N s by omega), decide_eq_true (show placeI S.N s < 4096 by omega), ble_t (show p * 64 + 64 ≤ S.bl by omega), blt_t (show p * 64 + 9 < S.B.length by omega), wrap64 ((sect S.B p).getD 9 0) (by omega) (by omega)] at key
    simp only [cond_true', Bool.and_self] at key
    have bad : early (sect S.B p) = true → v = .tup [zero5, .val (.bool false)] ∧ h2 = yH S := fun q => by
      have q0 : okD (sect S.B p) s = false := by unfold okD; rw [q]; rfl
      rw [q0, q] at hs2
      have := Option.some.inj hs2
      injection this with q1 q2
      exact ⟨q1.symm, q2.symm⟩
    have bad2 : early (sect S.B p) = false → okD (sect S.B p) s = false → v = .tup [.agg [.val (.int .i64 (wdB (sect S.B p) 0)), .val (.int .i64 (wdB (sect S.B p) 4)), .val (.bool (fOf (sect S.B p))), .val (.bool (lOf (sect S.B p))), .own 1 ((placeI S.N s).toNat * 64 + 10) (nOf (sect S.B p)) (some 54) 1], .val (.bool false)] ∧ h2 = yH S := fun q q0 => by
      rw [q0, q] at hs2
      have := Option.some.inj hs2
      injection this with q1 q2
      exact ⟨q1.symm, q2.symm⟩
    cases q1 : decide ((sect S.B p).getD 9 0 < 1) with
    | true =>
      rw [q1] at key
      obtain ⟨rfl, rfl⟩ := bad (by unfold early; rw [q1]; rfl)
      exact run _ _ key
    | false =>
    rw [q1] at key
    cases q2 : decide ((sect S.B p).getD 9 0 > 46) with
    | true =>
      rw [q2] at key
      obtain ⟨rfl, rfl⟩ := bad (by unfold early; rw [q1, q2]; rfl)
      exact run _ _ key
    | false =>
    rw [q2, blt_t (show p * 64 + 8 < S.B.length by omega)] at key
    cases q3 : decide ((sect S.B p).getD 8 0 > 3) with
    | true =>
      rw [q3] at key
      obtain ⟨rfl, rfl⟩ := bad (by unfold early; rw [q1, q2, q3]; rfl)
      exact run _ _ key
    | false =>
    have he : early (sect S.B p) = false := by unfold early; rw [q1, q2, q3]; rfl
    rw [q3] at key
    rw [decide_eq_false_iff_not] at q1 q2 q3
    have w10 : IntKind.i64.wrap (10 + (sect S.B p).getD 9 0) = 10 + (sect S.B p).getD 9 0 := wrap64 _ (by omega) (by omega)
    have n10 : (10 + (sect S.B p).getD 9 0).toNat - 10 = nOf (sect S.B p) := by unfold nOf; omega
    have n46 : nOf (sect S.B p) ≤ 46 := by unfold nOf; omega
    have pc : List.take (nOf (sect S.B p)) (List.drop (p * 64 + 10) S.B) = pOf (sect S.B p) := piece_sect n46
    have pl : (pOf (sect S.B p)).length = nOf (sect S.B p) := by unfold pOf; rw [List.length_take, List.length_drop, hl]; omega
    have dl : ∀ a b f l, (dataB a b f l (pOf (sect S.B p))).length = 64 := fun a b f l => dataB_len (by omega)
    have dt : ∀ a b f l, List.take 64 (List.drop 0 (dataB a b f l (pOf (sect S.B p)))) = dataB a b f l (pOf (sect S.B p)) := fun a b f l => by rw [List.drop_zero]; exact List.take_of_length_le (Nat.le_of_eq (dl a b f l))
    rw [flag1 _ h8.1 (by omega), flag2 _ h8.1 (by omega)] at key
    simp only [w10, n10, pc, pl, dl, dt, decide_eq_true (show 0 ≤ 10 + (sect S.B p).getD 9 0 by omega), decide_eq_true (show 10 + (sect S.B p).getD 9 0 ≤ 64 by omega), decide_eq_true (show (10 : Int) ≤ ((10 + (sect S.B p).getD 9 0).toNat : Int) by omega), ble_t (show p * 64 + 10 + nOf (sect S.B p) ≤ S.B.length by unfold nOf; omega), ble_t n46, ble_t (show p * 64 + 64 ≤ S.B.length by omega), show Nat.ble 64 64 = true from rfl, show Nat.ble 64 1000000 = true from rfl, show Nat.ble 4 64 = true from rfl, show Nat.ble 8 64 = true from rfl, cond_true', cond_false', Bool.and_self, Bool.and_true] at key
    have ef : ((sect S.B p).getD 8 0 == 1 || (sect S.B p).getD 8 0 == 3) = fOf (sect S.B p) := rfl
    have el : ((sect S.B p).getD 8 0 == 2 || (sect S.B p).getD 8 0 == 3) = lOf (sect S.B p) := rfl
    rw [ef, el] at key
    cases w0 : (wdB (sect S.B p) 0 == s) with
    | false =>
      simp only [w0, cond_false'] at key
      obtain ⟨rfl, rfl⟩ := bad2 he (by unfold okD; rw [w0, Bool.false_and, Bool.and_false])
      rw [← hpe]
      cases hf : fOf (sect S.B p) <;> cases hl2 : lOf (sect S.B p) <;> rw [hf, hl2] at key <;> exact run _ _ key
    | true =>
      have e0 : wdB (sect S.B p) 0 = s := by simpa using w0
      cases w1 : decide (sect S.B p = dataB (wdB (sect S.B p) 0) (wdB (sect S.B p) 4) (fOf (sect S.B p)) (lOf (sect S.B p)) (pOf (sect S.B p))) with
      | false =>
        obtain ⟨rfl, rfl⟩ := bad2 he (by unfold okD; rw [w1, Bool.and_false, Bool.and_false])
        rw [← hpe]
        cases hf : fOf (sect S.B p) <;> cases hl2 : lOf (sect S.B p) <;> rw [hf, hl2] at w1 key <;> simp only [w0, w1, cond_true', cond_false'] at key <;> exact run _ _ key
      | true =>
        have hgood : okD (sect S.B p) s = true := by unfold okD; rw [he, w0, w1]; rfl
        rw [hgood, cond_true'] at hs2
        have hv := Option.some.inj hs2
        injection hv with v1 v2
        subst v1; subst v2
        rw [← hpe]
        cases hf : fOf (sect S.B p) <;> cases hl2 : lOf (sect S.B p) <;> rw [hf, hl2] at w1 key <;> simp only [e0] at w1 key <;> simp only [w1, beq_self_eq_true, cond_true', cond_false'] at key <;> exact run _ _ key
  · cases hs
end Go.Ev
/- Journals: sectors that fit; entries decoded. -/
namespace Go.Ev
open Go.Proofs
theorem Try.al15 (l : List Int) (cap : Option Nat) (hb : (bytesOk l && Nat.ble l.length 1000000) = true) : Alone Try.prog 15 [.ro (.ints .u8 l) cap] (.tup [Try.entO (decD l), .val (.int .i64 (decE l))]) (oneH (.ints .u8 (decD l).2.2.2.2)) := by
  have al := fun v h2 hs => rootS_alone Try.e3 (d := 3) (g := 15) (ls := lsumsOf []) (AllL.of0 (by kernel_rfl)) (Try.rs15 [.ro (.ints .u8 l) cap] v h2 hs)
  have hrun : (Try.S15 [.ro (.ints .u8 l) cap]).run = bif bytesOk l && Nat.ble l.length 1000000 then (bif (l.length : Int) == 0 then some Try.errE else
    (bif kdB l == 2 then (bif (l.length : Int) == 13 then (bif entB (kdB l) (wdB l 1) (wdB l 5) (wdB l 9) 0 then some (.tup [Try.ent (kdB l) (wdB l 1) (wdB l 5) (wdB l 9) (.val (.slice none 0 0)), .val (.int .i64 0)], ⟨0, []⟩) else some Try.errE) else some Try.errE)
      else (bif entB (kdB l) 0 0 0 (l.drop 1).length then some (.tup [Try.ent (kdB l) 0 0 0 (.own 0 0 (l.drop 1).length none 1), .val (.int .i64 0)], oneH (.ints .u8 (l.drop 1))) else some Try.errE))) else none := rfl
  rw [hb, cond_true] at hrun
  have nilE : ∀ k a b c e, Alone Try.prog 15 [.ro (.ints .u8 l) cap] (.tup [Try.ent k a b c (.val (.slice none 0 0)), .val (.int .i64 e)]) ⟨0, []⟩ → Alone Try.prog 15 [.ro (.ints .u8 l) cap] (.tup [Try.ent k a b c (.own 0 0 0 none 1), .val (.int .i64 e)]) (oneH (.ints .u8 [])) := fun k a b c e h =>
    Alone.nilW (.ints .u8 []) rfl (.agg (.cons (.same _) (.cons (.same _) (.cons (.same _) (.cons (.same _) (.cons .nil .nil))))) (NilWs.refl _ _)) h
  unfold decD decE decOk
  cases hl : ((l.length : Int) == 0) with
  | true => rw [hl] at hrun; exact nilE _ _ _ _ _ (al _ _ hrun)
  | false =>
    rw [hl] at hrun
    simp only [cond_false'] at hrun ⊢
    cases hk : (kdB l == 2) with
    | true =>
      rw [hk] at hrun
      simp only [cond_true'] at hrun ⊢
      cases hn : ((l.length : Int) == 13) with
      | true =>
        rw [hn] at hrun
        simp only [cond_true', Bool.true_and] at hrun ⊢
        cases he : entB (kdB l) (wdB l 1) (wdB l 5) (wdB l 9) 0 with
        | true => rw [he] at hrun; exact nilE _ _ _ _ _ (al _ _ hrun)
        | false => rw [he] at hrun; exact nilE _ _ _ _ _ (al _ _ hrun)
      | false => rw [hn] at hrun; exact nilE _ _ _ _ _ (al _ _ hrun)
    | false =>
      rw [hk] at hrun
      simp only [cond_false'] at hrun ⊢
      cases he : entB (kdB l) 0 0 0 (l.drop 1).length with
      | true => rw [he] at hrun; exact al _ _ hrun
      | false => rw [he] at hrun; exact nilE _ _ _ _ _ (al _ _ hrun)
def Try.S15z (args : List AV) : Ans (AV × (IntKind × List Int)) := match args with
  | [.ro (.ints .u8 l) cap] => .grd (bytesOk l && Nat.ble l.length 1000000) (.out (.tup [.agg (entRow (decD l)), .val (.int .i64 (decE l))], (.u8, (decD l).2.2.2.2)))
  | _ => .no
def Try.A15z : AFun := pzA Try.S15z
theorem Try.sum15z : SumC Try.prog 15 Try.A15z := by
  refine pzSumR 15 ⟨Try.f15, _, Try.fnOk15.1, Try.fnOk15.2, rfl⟩ ?_
  intro args v r hs
  unfold Try.S15z at hs
  split at hs
  · rename_i l cap
    rw [Ans.run_grd] at hs
    cases hb : (bytesOk l && Nat.ble l.length 1000000) with
    | false => rw [hb] at hs; cases hs
    | true =>
      rw [hb, cond_true] at hs
      have hs := Option.some.inj hs
      injection hs with q1 q2
      subst q1; subst q2
      refine ⟨_, ?_, Try.al15 l cap hb⟩
      exact .tup1 (.cons (.inl ⟨rfl, rfl⟩) (.cons (.inl ⟨rfl, rfl⟩) (.cons (.inl ⟨rfl, rfl⟩) (.cons (.inl ⟨rfl, rfl⟩) (.cons (.inr ⟨none, rfl, rfl⟩) .nil))))) (.cons (.inl ⟨rfl, rfl⟩) .nil)
  · cases hs
def fitsB (e li s ep : Int) (f l : Bool) (n : Nat) (ew : Int) (lw : Bool) : Bool :=
  !(decide (s ≥ li) && (ep != e)) && (!(decide (s < li) && (decide (ep < 1) || decide (ep ≥ e))) && (!(f != lw) && (!(!f && (ep != ew)) && (l || ((n : Int) == 46)))))
def Try.S107 (args : List AV) : Ans (AV × Heap) := match args with
  | [.agg [.val (.int .i64 g), .val (.int .i64 e), .val (.int .i64 st), .val (.int .i64 li)], .agg [.val (.int .i64 s), .val (.int .i64 ep), .val (.bool f), .val (.bool l), .ro (.ints .u8 p) cap], .agg [.val (.int .i64 sw), .val (.int .i64 ew), .val (.bool fw), .val (.bool lw), .ro (.ints .u8 q) cq]] =>
    .out (.val (.bool (fitsB e li s ep f l p.length ew lw)), ⟨0, []⟩)
  | _ => .no
def nzWas : List AV → List AV
  | [a, b, .agg [s, e, f, l, x]] => [a, b, .agg [s, e, f, l, nz0 (.ints .u8 []) x]]
  | l => l
def Try.A107 : AFun := pureA (fun args => Try.S107 (nzWas args))
theorem Try.r107 (g e st li s ep : Int) (f l : Bool) (p : List Int) (cap : Option Nat) (sw ew : Int) (fw lw : Bool) (q : List Int) (cq : Option Nat) : rootS Try.E1 3 107 (lsumsOf []) [.agg [.val (.int .i64 g), .val (.int .i64 e), .val (.int .i64 st), .val (.int .i64 li)], .agg [.val (.int .i64 s), .val (.int .i64 ep), .val (.bool f), .val (.bool l), .ro (.ints .u8 p) cap], .agg [.val (.int .i64 sw), .val (.int .i64 ew), .val (.bool fw), .val (.bool lw), .ro (.ints .u8 q) cq]] =
 bif decide (s ≥ li) then
 bif ep != e then
 some (.val (.bool false), ⟨0, []⟩)
 else
 bif decide (s < li) then
 bif decide (ep < 1) then
 some (.val (.bool false), ⟨0, []⟩)
 else
 bif decide (ep ≥ e) then
 some (.val (.bool false), ⟨0, []⟩)
 else
 bif f then
 bif lw then
 bif f then
 bif l then
 some (.val (.bool true), ⟨0, []⟩)
 else
 bif (↑p.length : Int) == 46 then
 some (.val (.bool true), ⟨0, []⟩)
 else
 some (.val (.bool false), ⟨0, []⟩)
 else
 bif ep != ew then
 some (.val (.bool false), ⟨0, []⟩)
 else
 bif l then
 some (.val (.bool true), ⟨0, []⟩)
 else
 bif (↑p.length : Int) == 46 then
 some (.val (.bool true), ⟨0, []⟩)
 else
 some (.val (.bool false), ⟨0, []⟩)
 else
 some (.val (.bool false), ⟨0, []⟩)
 else
 bif lw then
 some (.val (.bool false), ⟨0, []⟩)
 else
 bif f then
 bif l then
 some (.val (.bool true), ⟨0, []⟩)
 else
 bif (↑p.length : Int) == 46 then
 some (.val (.bool true), ⟨0, []⟩)
 else
 some (.val (.bool false), ⟨0, []⟩)
 else
 bif ep != ew then
 some (.val (.bool false), ⟨0, []⟩)
 else
 bif l then
 some (.val (.bool true), ⟨0, []⟩)
 else
 bif (↑p.length : Int) == 46 then
 some (.val (.bool true), ⟨0, []⟩)
 else
 some (.val (.bool false), ⟨0, []⟩)
 else
 bif f then
 bif lw then
 bif f then
 bif l then
 some (.val (.bool true), ⟨0, []⟩)
 else
 bif (↑p.length : Int) == 46 then
 some (.val (.bool true), ⟨0, []⟩)
 else
 some (.val (.bool false), ⟨0, []⟩)
 else
 bif ep != ew then
 some (.val (.bool false), ⟨0, []⟩)
 else
 bif l then
 some (.val (.bool true), ⟨0, []⟩)
 else
 bif (↑p.length : Int) == 46 then
 some (.val (.bool true), ⟨0, []⟩)
 else
 some (.val (.bool false), ⟨0, []⟩)
 else
 some (.val (.bool false), ⟨0, []⟩)
 else
 bif lw then
 some (.val (.bool false), ⟨0, []⟩)
 else
 bif f then
 bif l then
 some (.val (.bool true), ⟨0, []⟩)
 else
 bif (↑p.length : Int) == 46 then
 some (.val (.bool true), ⟨0, []⟩)
 else
 some (.val (.bool false), ⟨0, []⟩)
 else
 bif ep != ew then
 some (.val (.bool false), ⟨0, []⟩)
 else
 bif l then
 some (.val (.bool true), ⟨0, []⟩)
 else
 bif (↑p.length : Int) == 46 then
 some (.val (.bool true), ⟨0, []⟩)
 else
 some (.val (.bool false), ⟨0, []⟩)
 else
 bif decide (s < li) then
 bif decide (ep < 1) then
 some (.val (.bool false), ⟨0, []⟩)
 else
 bif decide (ep ≥ e) then
 some (.val (.bool false), ⟨0, []⟩)
 else
 bif f then
 bif lw then
 bif f then
 bif l then
 some (.val (.bool true), ⟨0, []⟩)
 else
 bif (↑p.length : Int) == 46 then
 some (.val (.bool true), ⟨0, []⟩)
 else
 some (.val (.bool false), ⟨0, []⟩)
 else
 bif ep != ew then
 some (.val (.bool false), ⟨0, []⟩)
 else
 bif l then
 some (.val (.bool true), ⟨0, []⟩)
 else
 bif (↑p.length : Int) == 46 then
 some (.val (.bool true), ⟨0, []⟩)
 else
 some (.val (.bool false), ⟨0, []⟩)
 else
 some (.val (.bool false), ⟨0, []⟩)
 else
 bif lw then
 some (.val (.bool false), ⟨0, []⟩)
 else
 bif f then
 bif l then
 some (.val (.bool true), ⟨0, []⟩)
 else
 bif (↑p.length : Int) == 46 then
 some (.val (.bool true), ⟨0, []⟩)
 else
 some (.val (.bool false), ⟨0, []⟩)
 else
 bif ep != ew then
 some (.val (.bool false), ⟨0, []⟩)
 else
 bif l then
 some (.val (.bool true), ⟨0, []⟩)
 else
 bif (↑p.length : Int) == 46 then
 some (.val (.bool true), ⟨0, []⟩)
 else
 some (.val (.bool false), ⟨0, []⟩)
 else
 bif f then
 bif lw then
 bif f then
 bif l then
 some (.val (.bool true), ⟨0, []⟩)
 else
 bif (↑p.length : Int) == 46 then
 some (.val (.bool true), ⟨0, []⟩)
 else
 some (.val (.bool false), ⟨0, []⟩)
 else
 bif ep != ew then
 some (.val (.bool false), ⟨0, []⟩)
 else
 bif l then
 some (.val (.bool true), ⟨0, []⟩)
 else
 bif (↑p.length : Int) == 46 then
 some (.val (.bool true), ⟨0, []⟩)
 else
 some (.val (.bool false), ⟨0, []⟩)
 else
 some (.val (.bool false), ⟨0, []⟩)
 else
 bif lw then
 some (.val (.bool false), ⟨0, []⟩)
 else
 bif f then
 bif l then
 some (.val (.bool true), ⟨0, []⟩)
 else
 bif (↑p.length : Int) == 46 then
 some (.val (.bool true), ⟨0, []⟩)
 else
 some (.val (.bool false), ⟨0, []⟩)
 else
 bif ep != ew then
 some (.val (.bool false), ⟨0, []⟩)
 else
 bif l then
 some (.val (.bool true), ⟨0, []⟩)
 else
 bif (↑p.length : Int) == 46 then
 some (.val (.bool true), ⟨0, []⟩)
 else
 some (.val (.bool false), ⟨0, []⟩) := by kernel_rfl
theorem nzWas_aw (l : List AV) : ArgsW l (nzWas l) := by
  unfold nzWas
  split
  · exact AWs.args (.cons (AW.refl _) (.cons (AW.refl _) (.cons (AW.agg (.cons (AW.refl _) (.cons (AW.refl _) (.cons (AW.refl _) (.cons (AW.refl _) (.cons (nz0_aw rfl _) .nil)))))) .nil)))
  · exact fun _ _ _ h => h
theorem Try.sum107 : SumC Try.prog 107 Try.A107 := by
  refine pureSumR 107 ⟨Try.f107, _, Try.fnOk107.1, Try.fnOk107.2, rfl⟩ ?_
  intro args v h2 hs
  refine Alone.argsW (nzWas_aw args) ?_
  replace hs : (Try.S107 (nzWas args)).run = some (v, h2) := hs
  generalize nzWas args = args' at hs ⊢
  unfold Try.S107 at hs
  split at hs
  · rename_i g e st li s ep f l p cap sw ew fw lw q cq
    have hs := Option.some.inj hs
    injection hs with q1 q2
    subst q1; subst q2
    refine rootS_alone Try.e1 (d := 3) (g := 107) (ls := lsumsOf []) (AllL.of0 (by kernel_rfl)) ((Try.r107 g e st li s ep f l p cap sw ew fw lw q cq).trans ?_)
    unfold fitsB
    have hge : decide (s < li) = !decide (s ≥ li) := by
      by_cases h : s ≥ li
      · rw [decide_eq_true h, decide_eq_false (show ¬ s < li by omega)]; rfl
      · rw [decide_eq_false h, decide_eq_true (show s < li by omega)]; rfl
    rw [hge]
    cases decide (s ≥ li) <;> cases (ep != e) <;> cases decide (ep < 1) <;> cases decide (ep ≥ e) <;> cases f <;> cases lw <;> cases (ep != ew) <;> cases l <;> cases ((p.length : Int) == 46) <;> rfl
  · cases hs
end Go.Ev
/- Journals: the reading loop. -/
namespace Go.Ev
open Go.Proofs
def Try.t89 : List (Nat × AFun) := [(15, Try.A15z), (106, Try.A106), (107, Try.A107)]
def Try.E89 : Env := Try.env0 false (sumsOf Try.t89) (keepF 89 [(4, [0,3,4,5,6])])
def Try.b89 : Code := nthD .skip (loopsOf (bodyOf Try.E89 89)) 0
def Try.B89 (s : St) : Option (AX × St) := codeP Try.E89 (callF Try.E89 6) (Try.E89.keep 89) (lsumsOf []) 3 Try.b89 (outKP 3 [0,3,4,5,6] [0]) s
structure SU where
  g : Int
  e : Int
  st : Int
  li : Int
structure RS where
  ep : Int
  l : Bool
  b : List Int
  L : List EntD
  E : List Int
  nx : Int
structure OD where
  N : Int
  B : List Int
  y1 : Value
  y2 : Value
  y3 : Value
  y4 : Value
  y5 : Value
  y6 : Value
  y7 : Value
  y8 : Value
  y9 : Value
def orow (D : OD) (nx : Int) (en es : AV) : List AV := [.val (.int .i64 D.N), .own 1 0 D.B.length none 1, .own 2 0 0 none 2, .val D.y1, .val D.y2, .val D.y3, .val D.y4, .val D.y5, .val D.y6, .val D.y7, .val D.y8, .val D.y9, .val (.int .i64 nx), en, es]
def V89 (b : AV) (a : Int) : List AV := [.ptr 0 0 0, .ptr 5 0 0, .ptr 6 0 0, b, .val (.int .i64 a)]
def suRow (s : SU) : List AV := [.val (.int .i64 s.g), .val (.int .i64 s.e), .val (.int .i64 s.st), .val (.int .i64 s.li)]
def e89h (D : OD) (L : List EntD) (E : List Int) (nx : Int) : List Ent := [⟨4, 0, .cells (.ints .i64 E)⟩, ⟨3, 0, .cells (EN.con L)⟩, ⟨2, 0, .cells (SW.con [])⟩, ⟨1, 0, .cells (.ints .u8 D.B)⟩, ⟨0, 0, .cells (.rows false 15 [orow D nx (.own 3 0 L.length none 5) (.own 4 0 E.length none 1)])⟩]
def wasR (sw ew : Int) (fw lw : Bool) (x : AV) : List AV := [.val (.int .i64 sw), .val (.int .i64 ew), .val (.bool fw), .val (.bool lw), x]
def H89b (D : OD) (s : SU) (r : RS) (sw : Int) (fw : Bool) (o n : Nat) : Heap := ⟨8, ⟨7, 0, .cells (.ints .u8 r.b)⟩ :: ⟨6, 0, .cells (.rows false 5 [wasR sw r.ep fw r.l (.own 1 o n (some 54) 1)])⟩ :: ⟨5, 0, .cells (.rows true 4 [suRow s])⟩ :: e89h D r.L r.E r.nx⟩
def V89a (b : AV) (a : Int) : List AV := [.ptr 0 0 0, .ptr 3 0 0, .ptr 4 0 0, b, .val (.int .i64 a)]
def H89a (D : OD) (s : SU) (nx : Int) : Heap := ⟨7, [⟨6, 0, .cells (.ints .i64 [])⟩, ⟨5, 0, .cells (EN.con [])⟩, ⟨4, 0, .cells (.rows true 5 [wasR 0 0 false true (.val (.slice none 0 0))])⟩, ⟨3, 0, .cells (.rows true 4 [suRow s])⟩, ⟨2, 0, .cells (SW.con [])⟩, ⟨1, 0, .cells (.ints .u8 D.B)⟩, ⟨0, 0, .cells (.rows false 15 [orow D nx (.own 5 0 0 none 5) (.own 6 0 0 none 1)])⟩]⟩
theorem Try.e89 : EnvOk2 Try.prog Try.E89 := Try.envOk false (sumsOf Try.t89) _ (sumsOf_ok (show AllS Try.prog Try.t89 from ⟨Try.sum15z, Try.sum106, Try.sum107, trivial⟩))
theorem Try.r89b (D : OD) (s : SU) (r : RS) (sw : Int) (fw : Bool) (o n : Nat) (a : Int) : Try.B89 (stOf 97 [0,3,4,5,6] (V89 (.own 7 0 r.b.length none 1) a) (H89b D s r sw fw o n)) =
 bif decide (IntKind.i64.wrap (a - s.st) < IntKind.i64.wrap (D.N - 2)) then
 bif decide (a < 1073741824) then
 bif yOk { N := D.N, B := D.B, bl := D.B.length, n3 := r.L.length, n4 := r.E.length, ln := r.L.length, f := fun i => EN.row (r.L.getD i EN.z), g := fun i => SW.row ([].getD i SW.z), E := r.E, Y := (D.y1, D.y2, D.y3, D.y4, D.y5, D.y6, D.y7, D.y8, D.y9, Value.int IntKind.i64 r.nx) } && decide (0 ≤ a) then
 bif okD (secOf D.N D.B a) a then
 bif ((placeI D.N a).toNat * 64 + 10 + nOf (secOf D.N D.B a)).ble D.B.length && true then
 bif (o + n).ble D.B.length && true then
 bif fitsB s.e s.li a (wdB (secOf D.N D.B a) 4) (fOf (secOf D.N D.B a)) (lOf (secOf D.N D.B a)) (List.take (nOf (secOf D.N D.B a)) (List.drop ((placeI D.N a).toNat * 64 + 10) D.B)).length r.ep r.l then
 bif fOf (secOf D.N D.B a) then
 bif ((placeI D.N a).toNat * 64 + 10 + nOf (secOf D.N D.B a)).ble D.B.length then
 bif ((List.take (nOf (secOf D.N D.B a)) (List.drop ((placeI D.N a).toNat * 64 + 10) D.B)).length * 1).ble most && (List.take (nOf (secOf D.N D.B a)) (List.drop ((placeI D.N a).toNat * 64 + 10) D.B)).length.ble most then
 bif lOf (secOf D.N D.B a) then
 bif (0 + (List.take (nOf (secOf D.N D.B a)) (List.drop ((placeI D.N a).toNat * 64 + 10) D.B)).length).ble ([] ++ List.take (nOf (secOf D.N D.B a)) (List.drop ((placeI D.N a).toNat * 64 + 10) D.B)).length && true then
 bif bytesOk (List.take (List.take (nOf (secOf D.N D.B a)) (List.drop ((placeI D.N a).toNat * 64 + 10) D.B)).length (List.drop 0 ([] ++ List.take (nOf (secOf D.N D.B a)) (List.drop ((placeI D.N a).toNat * 64 + 10) D.B)))) && (List.take (List.take (nOf (secOf D.N D.B a)) (List.drop ((placeI D.N a).toNat * 64 + 10) D.B)).length (List.drop 0 ([] ++ List.take (nOf (secOf D.N D.B a)) (List.drop ((placeI D.N a).toNat * 64 + 10) D.B)))).length.ble 1000000 then
 bif decE (List.take (List.take (nOf (secOf D.N D.B a)) (List.drop ((placeI D.N a).toNat * 64 + 10) D.B)).length (List.drop 0 ([] ++ List.take (nOf (secOf D.N D.B a)) (List.drop ((placeI D.N a).toNat * 64 + 10) D.B)))) != 0 then
 some (.ret, stOf 97 [0] [.ptr 0 0 0] ⟨5, e89h D r.L r.E r.nx⟩ )
 else
 bif (0 + r.L.length).ble r.L.length then
 bif ((r.L.length + 1) * 56).ble most && (r.L.length + 1).ble most then
 bif (0 + r.E.length).ble r.E.length then
 bif ((r.E.length + 1) * 8).ble most && (r.E.length + 1).ble most then
 some (.normal, stOf 97 [0, 3, 4, 5, 6] [.ptr 0 0 0, .ptr 5 0 0, .ptr 6 0 0, .own 7 0 ((List.take (nOf (secOf D.N D.B a)) (List.drop ((placeI D.N a).toNat * 64 + 10) D.B)).length) none 1, .val (.int .i64 (IntKind.i64.wrap (a + 1)))] ⟨8, [⟨7, 0, .cells (.ints .u8 ([] ++ List.take (nOf (secOf D.N D.B a)) (List.drop ((placeI D.N a).toNat * 64 + 10) D.B)))⟩, ⟨6, 0, .cells (.rows false 5 ([.val (.int .i64 (a)), .val (.int .i64 (wdB (secOf D.N D.B a) 4)), .val (.bool (fOf (secOf D.N D.B a))), .val (.bool (lOf (secOf D.N D.B a))), .own 1 ((placeI D.N a).toNat * 64 + 10) (nOf (secOf D.N D.B a)) (some (54)) 1] :: []))⟩, ⟨5, 0, .cells (.rows true 4 ([.val (.int .i64 (s.g)), .val (.int .i64 (s.e)), .val (.int .i64 (s.st)), .val (.int .i64 (s.li))] :: []))⟩, ⟨4, 0, .cells (.ints .i64 (List.take r.E.length (List.drop 0 r.E) ++ [IntKind.i64.wrap (a + 1)]))⟩, ⟨3, 0, .cells (.tab 5 (r.L.length + 1) (fun i => bif i.blt r.L.length then EN.row (r.L.getD (0 + i) EN.z) else [[AV.val (Value.int IntKind.i64 (decD (List.take (List.take (nOf (secOf D.N D.B a)) (List.drop ((placeI D.N a).toNat * 64 + 10) D.B)).length (List.drop 0 ([] ++ List.take (nOf (secOf D.N D.B a)) (List.drop ((placeI D.N a).toNat * 64 + 10) D.B))))).fst), AV.val (Value.int IntKind.i64 (decD (List.take (List.take (nOf (secOf D.N D.B a)) (List.drop ((placeI D.N a).toNat * 64 + 10) D.B)).length (List.drop 0 ([] ++ List.take (nOf (secOf D.N D.B a)) (List.drop ((placeI D.N a).toNat * 64 + 10) D.B))))).snd.fst), AV.val (Value.int IntKind.i64 (decD (List.take (List.take (nOf (secOf D.N D.B a)) (List.drop ((placeI D.N a).toNat * 64 + 10) D.B)).length (List.drop 0 ([] ++ List.take (nOf (secOf D.N D.B a)) (List.drop ((placeI D.N a).toNat * 64 + 10) D.B))))).snd.snd.fst), AV.val (Value.int IntKind.i64 (decD (List.take (List.take (nOf (secOf D.N D.B a)) (List.drop ((placeI D.N a).toNat * 64 + 10) D.B)).length (List.drop 0 ([] ++ List.take (nOf (secOf D.N D.B a)) (List.drop ((placeI D.N a).toNat * 64 + 10) D.B))))).snd.snd.snd.fst), AV.ro (Con.ints IntKind.u8 (decD (List.take (List.take (nOf (secOf D.N D.B a)) (List.drop ((placeI D.N a).toNat * 64 + 10) D.B)).length (List.drop 0 ([] ++ List.take (nOf (secOf D.N D.B a)) (List.drop ((placeI D.N a).toNat * 64 + 10) D.B))))).snd.snd.snd.snd) none]].getD (i - r.L.length) []))⟩, ⟨2, 0, .cells (.tab 2 (0) (fun i => SW.row ([].getD i SW.z)))⟩, ⟨1, 0, .cells (.ints .u8 (D.B))⟩, ⟨0, 0, .cells (.rows false 15 ([.val (.int .i64 (D.N)), .own 1 0 (D.B.length) none 1, .own 2 0 (0) none 2, .val (D.y1), .val (D.y2), .val (D.y3), .val (D.y4), .val (D.y5), .val (D.y6), .val (D.y7), .val (D.y8), .val (D.y9), .val (.int .i64 (IntKind.i64.wrap (a + 1))), .own 3 0 (r.L.length + 1) none 5, .own 4 0 (r.E.length + 1) none 1] :: []))⟩]⟩ )
 else
 none
 else
 none
 else
 none
 else
 none
 else
 none
 else
 none
 else
 some (.normal, stOf 97 [0, 3, 4, 5, 6] [.ptr 0 0 0, .ptr 5 0 0, .ptr 6 0 0, .own 7 0 ((List.take (nOf (secOf D.N D.B a)) (List.drop ((placeI D.N a).toNat * 64 + 10) D.B)).length) none 1, .val (.int .i64 (IntKind.i64.wrap (a + 1)))] ⟨8, [⟨7, 0, .cells (.ints .u8 ([] ++ List.take (nOf (secOf D.N D.B a)) (List.drop ((placeI D.N a).toNat * 64 + 10) D.B)))⟩, ⟨6, 0, .cells (.rows false 5 ([.val (.int .i64 (a)), .val (.int .i64 (wdB (secOf D.N D.B a) 4)), .val (.bool (fOf (secOf D.N D.B a))), .val (.bool (lOf (secOf D.N D.B a))), .own 1 ((placeI D.N a).toNat * 64 + 10) (nOf (secOf D.N D.B a)) (some (54)) 1] :: []))⟩, ⟨5, 0, .cells (.rows true 4 ([.val (.int .i64 (s.g)), .val (.int .i64 (s.e)), .val (.int .i64 (s.st)), .val (.int .i64 (s.li))] :: []))⟩, ⟨4, 0, .cells (.ints .i64 (r.E))⟩, ⟨3, 0, .cells (EN.con r.L)⟩, ⟨2, 0, .cells (.tab 2 (0) (fun i => SW.row ([].getD i SW.z)))⟩, ⟨1, 0, .cells (.ints .u8 (D.B))⟩, ⟨0, 0, .cells (.rows false 15 ([.val (.int .i64 (D.N)), .own 1 0 (D.B.length) none 1, .own 2 0 (0) none 2, .val (D.y1), .val (D.y2), .val (D.y3), .val (D.y4), .val (D.y5), .val (D.y6), .val (D.y7), .val (D.y8), .val (D.y9), .val (.int .i64 (r.nx)), .own 3 0 (r.L.length) none 5, .own 4 0 (r.E.length) none 1] :: []))⟩]⟩ )
 else
 none
 else
 none
 else
 bif ((placeI D.N a).toNat * 64 + 10 + nOf (secOf D.N D.B a)).ble D.B.length then
 bif (0 + r.b.length).ble r.b.length then
 bif ((r.b.length + (List.take (nOf (secOf D.N D.B a)) (List.drop ((placeI D.N a).toNat * 64 + 10) D.B)).length) * 1).ble most && (r.b.length + (List.take (nOf (secOf D.N D.B a)) (List.drop ((placeI D.N a).toNat * 64 + 10) D.B)).length).ble most then
 bif lOf (secOf D.N D.B a) then
 bif (0 + (r.b.length + (List.take (nOf (secOf D.N D.B a)) (List.drop ((placeI D.N a).toNat * 64 + 10) D.B)).length)).ble (List.take r.b.length (List.drop 0 r.b) ++ List.take (nOf (secOf D.N D.B a)) (List.drop ((placeI D.N a).toNat * 64 + 10) D.B)).length && true then
 bif bytesOk (List.take (r.b.length + (List.take (nOf (secOf D.N D.B a)) (List.drop ((placeI D.N a).toNat * 64 + 10) D.B)).length) (List.drop 0 (List.take r.b.length (List.drop 0 r.b) ++ List.take (nOf (secOf D.N D.B a)) (List.drop ((placeI D.N a).toNat * 64 + 10) D.B)))) && (List.take (r.b.length + (List.take (nOf (secOf D.N D.B a)) (List.drop ((placeI D.N a).toNat * 64 + 10) D.B)).length) (List.drop 0 (List.take r.b.length (List.drop 0 r.b) ++ List.take (nOf (secOf D.N D.B a)) (List.drop ((placeI D.N a).toNat * 64 + 10) D.B)))).length.ble 1000000 then
 bif decE (List.take (r.b.length + (List.take (nOf (secOf D.N D.B a)) (List.drop ((placeI D.N a).toNat * 64 + 10) D.B)).length) (List.drop 0 (List.take r.b.length (List.drop 0 r.b) ++ List.take (nOf (secOf D.N D.B a)) (List.drop ((placeI D.N a).toNat * 64 + 10) D.B)))) != 0 then
 some (.ret, stOf 97 [0] [.ptr 0 0 0] ⟨5, e89h D r.L r.E r.nx⟩ )
 else
 bif (0 + r.L.length).ble r.L.length then
 bif ((r.L.length + 1) * 56).ble most && (r.L.length + 1).ble most then
 bif (0 + r.E.length).ble r.E.length then
 bif ((r.E.length + 1) * 8).ble most && (r.E.length + 1).ble most then
 some (.normal, stOf 97 [0, 3, 4, 5, 6] [.ptr 0 0 0, .ptr 5 0 0, .ptr 6 0 0, .own 7 0 (r.b.length + (List.take (nOf (secOf D.N D.B a)) (List.drop ((placeI D.N a).toNat * 64 + 10) D.B)).length) none 1, .val (.int .i64 (IntKind.i64.wrap (a + 1)))] ⟨8, [⟨7, 0, .cells (.ints .u8 (List.take r.b.length (List.drop 0 r.b) ++ List.take (nOf (secOf D.N D.B a)) (List.drop ((placeI D.N a).toNat * 64 + 10) D.B)))⟩, ⟨6, 0, .cells (.rows false 5 ([.val (.int .i64 (a)), .val (.int .i64 (wdB (secOf D.N D.B a) 4)), .val (.bool (fOf (secOf D.N D.B a))), .val (.bool (lOf (secOf D.N D.B a))), .own 1 ((placeI D.N a).toNat * 64 + 10) (nOf (secOf D.N D.B a)) (some (54)) 1] :: []))⟩, ⟨5, 0, .cells (.rows true 4 ([.val (.int .i64 (s.g)), .val (.int .i64 (s.e)), .val (.int .i64 (s.st)), .val (.int .i64 (s.li))] :: []))⟩, ⟨4, 0, .cells (.ints .i64 (List.take r.E.length (List.drop 0 r.E) ++ [IntKind.i64.wrap (a + 1)]))⟩, ⟨3, 0, .cells (.tab 5 (r.L.length + 1) (fun i => bif i.blt r.L.length then EN.row (r.L.getD (0 + i) EN.z) else [[AV.val (Value.int IntKind.i64 (decD (List.take (r.b.length + (List.take (nOf (secOf D.N D.B a)) (List.drop ((placeI D.N a).toNat * 64 + 10) D.B)).length) (List.drop 0 (List.take r.b.length (List.drop 0 r.b) ++ List.take (nOf (secOf D.N D.B a)) (List.drop ((placeI D.N a).toNat * 64 + 10) D.B))))).fst), AV.val (Value.int IntKind.i64 (decD (List.take (r.b.length + (List.take (nOf (secOf D.N D.B a)) (List.drop ((placeI D.N a).toNat * 64 + 10) D.B)).length) (List.drop 0 (List.take r.b.length (List.drop 0 r.b) ++ List.take (nOf (secOf D.N D.B a)) (List.drop ((placeI D.N a).toNat * 64 + 10) D.B))))).snd.fst), AV.val (Value.int IntKind.i64 (decD (List.take (r.b.length + (List.take (nOf (secOf D.N D.B a)) (List.drop ((placeI D.N a).toNat * 64 + 10) D.B)).length) (List.drop 0 (List.take r.b.length (List.drop 0 r.b) ++ List.take (nOf (secOf D.N D.B a)) (List.drop ((placeI D.N a).toNat * 64 + 10) D.B))))).snd.snd.fst), AV.val (Value.int IntKind.i64 (decD (List.take (r.b.length + (List.take (nOf (secOf D.N D.B a)) (List.drop ((placeI D.N a).toNat * 64 + 10) D.B)).length) (List.drop 0 (List.take r.b.length (List.drop 0 r.b) ++ List.take (nOf (secOf D.N D.B a)) (List.drop ((placeI D.N a).toNat * 64 + 10) D.B))))).snd.snd.snd.fst), AV.ro (Con.ints IntKind.u8 (decD (List.take (r.b.length + (List.take (nOf (secOf D.N D.B a)) (List.drop ((placeI D.N a).toNat * 64 + 10) D.B)).length) (List.drop 0 (List.take r.b.length (List.drop 0 r.b) ++ List.take (nOf (secOf D.N D.B a)) (List.drop ((placeI D.N a).toNat * 64 + 10) D.B))))).snd.snd.snd.snd) none]].getD (i - r.L.length) []))⟩, ⟨2, 0, .cells (.tab 2 (0) (fun i => SW.row ([].getD i SW.z)))⟩, ⟨1, 0, .cells (.ints .u8 (D.B))⟩, ⟨0, 0, .cells (.rows false 15 ([.val (.int .i64 (D.N)), .own 1 0 (D.B.length) none 1, .own 2 0 (0) none 2, .val (D.y1), .val (D.y2), .val (D.y3), .val (D.y4), .val (D.y5), .val (D.y6), .val (D.y7), .val (D.y8), .val (D.y9), .val (.int .i64 (IntKind.i64.wrap (a + 1))), .own 3 0 (r.L.length + 1) none 5, .own 4 0 (r.E.length + 1) none 1] :: []))⟩]⟩ )
 else
 none
 else
 none
 else
 none
 else
 none
 else
 none
 else
 none
 else
 some (.normal, stOf 97 [0, 3, 4, 5, 6] [.ptr 0 0 0, .ptr 5 0 0, .ptr 6 0 0, .own 7 0 (r.b.length + (List.take (nOf (secOf D.N D.B a)) (List.drop ((placeI D.N a).toNat * 64 + 10) D.B)).length) none 1, .val (.int .i64 (IntKind.i64.wrap (a + 1)))] ⟨8, [⟨7, 0, .cells (.ints .u8 (List.take r.b.length (List.drop 0 r.b) ++ List.take (nOf (secOf D.N D.B a)) (List.drop ((placeI D.N a).toNat * 64 + 10) D.B)))⟩, ⟨6, 0, .cells (.rows false 5 ([.val (.int .i64 (a)), .val (.int .i64 (wdB (secOf D.N D.B a) 4)), .val (.bool (fOf (secOf D.N D.B a))), .val (.bool (lOf (secOf D.N D.B a))), .own 1 ((placeI D.N a).toNat * 64 + 10) (nOf (secOf D.N D.B a)) (some (54)) 1] :: []))⟩, ⟨5, 0, .cells (.rows true 4 ([.val (.int .i64 (s.g)), .val (.int .i64 (s.e)), .val (.int .i64 (s.st)), .val (.int .i64 (s.li))] :: []))⟩, ⟨4, 0, .cells (.ints .i64 (r.E))⟩, ⟨3, 0, .cells (EN.con r.L)⟩, ⟨2, 0, .cells (.tab 2 (0) (fun i => SW.row ([].getD i SW.z)))⟩, ⟨1, 0, .cells (.ints .u8 (D.B))⟩, ⟨0, 0, .cells (.rows false 15 ([.val (.int .i64 (D.N)), .own 1 0 (D.B.length) none 1, .own 2 0 (0) none 2, .val (D.y1), .val (D.y2), .val (D.y3), .val (D.y4), .val (D.y5), .val (D.y6), .val (D.y7), .val (D.y8), .val (D.y9), .val (.int .i64 (r.nx)), .own 3 0 (r.L.length) none 5, .own 4 0 (r.E.length) none 1] :: []))⟩]⟩ )
 else
 none
 else
 none
 else
 none
 else
 some (.ret, stOf 97 [0] [.ptr 0 0 0] ⟨5, e89h D r.L r.E r.nx⟩ )
 else
 none
 else
 none
 else
 bif early (secOf D.N D.B a) then
 some (.ret, stOf 97 [0] [.ptr 0 0 0] ⟨5, e89h D r.L r.E r.nx⟩ )
 else
 some (.ret, stOf 97 [0] [.ptr 0 0 0] ⟨5, e89h D r.L r.E r.nx⟩ )
 else
 none
 else
 some (.exit 0, stOf 97 [0] [.ptr 0 0 0] ⟨5, e89h D r.L r.E r.nx⟩ )
 else
 some (.exit 0, stOf 97 [0] [.ptr 0 0 0] ⟨5, e89h D r.L r.E r.nx⟩ ) := by kernel_rfl
theorem Try.r89a (D : OD) (s : SU) (nx a : Int) : Try.B89 (stOf 97 [0,3,4,5,6] (V89a (.val (.slice none 0 0)) a) (H89a D s nx)) =
 bif decide (IntKind.i64.wrap (a - s.st) < IntKind.i64.wrap (D.N - 2)) then
 bif decide (a < 1073741824) then
 bif yOk { N := D.N, B := D.B, bl := D.B.length, n3 := 0, n4 := 0, ln := 0, f := fun i => EN.row ([].getD i EN.z), g := fun i => SW.row ([].getD i SW.z), E := [], Y := (D.y1, D.y2, D.y3, D.y4, D.y5, D.y6, D.y7, D.y8, D.y9, Value.int IntKind.i64 nx) } && decide (0 ≤ a) then
 bif okD (secOf D.N D.B a) a then
 bif ((placeI D.N a).toNat * 64 + 10 + nOf (secOf D.N D.B a)).ble D.B.length && true then
 bif fitsB s.e s.li a (wdB (secOf D.N D.B a) 4) (fOf (secOf D.N D.B a)) (lOf (secOf D.N D.B a)) (List.take (nOf (secOf D.N D.B a)) (List.drop ((placeI D.N a).toNat * 64 + 10) D.B)).length 0 true then
 bif fOf (secOf D.N D.B a) then
 bif ((placeI D.N a).toNat * 64 + 10 + nOf (secOf D.N D.B a)).ble D.B.length then
 bif ((List.take (nOf (secOf D.N D.B a)) (List.drop ((placeI D.N a).toNat * 64 + 10) D.B)).length * 1).ble most && (List.take (nOf (secOf D.N D.B a)) (List.drop ((placeI D.N a).toNat * 64 + 10) D.B)).length.ble most then
 bif lOf (secOf D.N D.B a) then
 bif (0 + (List.take (nOf (secOf D.N D.B a)) (List.drop ((placeI D.N a).toNat * 64 + 10) D.B)).length).ble ([] ++ List.take (nOf (secOf D.N D.B a)) (List.drop ((placeI D.N a).toNat * 64 + 10) D.B)).length && true then
 bif bytesOk (List.take (List.take (nOf (secOf D.N D.B a)) (List.drop ((placeI D.N a).toNat * 64 + 10) D.B)).length (List.drop 0 ([] ++ List.take (nOf (secOf D.N D.B a)) (List.drop ((placeI D.N a).toNat * 64 + 10) D.B)))) && (List.take (List.take (nOf (secOf D.N D.B a)) (List.drop ((placeI D.N a).toNat * 64 + 10) D.B)).length (List.drop 0 ([] ++ List.take (nOf (secOf D.N D.B a)) (List.drop ((placeI D.N a).toNat * 64 + 10) D.B)))).length.ble 1000000 then
 bif decE (List.take (List.take (nOf (secOf D.N D.B a)) (List.drop ((placeI D.N a).toNat * 64 + 10) D.B)).length (List.drop 0 ([] ++ List.take (nOf (secOf D.N D.B a)) (List.drop ((placeI D.N a).toNat * 64 + 10) D.B)))) != 0 then
 some (.ret, stOf 97 [0] [.ptr 0 0 0] ⟨5, e89h D [] [] nx⟩ )
 else
 some (.normal, stOf 97 [0, 3, 4, 5, 6] [.ptr 0 0 0, .ptr 5 0 0, .ptr 6 0 0, .own 7 0 ((List.take (nOf (secOf D.N D.B a)) (List.drop ((placeI D.N a).toNat * 64 + 10) D.B)).length) none 1, .val (.int .i64 (IntKind.i64.wrap (a + 1)))] ⟨8, [⟨7, 0, .cells (.ints .u8 ([] ++ List.take (nOf (secOf D.N D.B a)) (List.drop ((placeI D.N a).toNat * 64 + 10) D.B)))⟩, ⟨6, 0, .cells (.rows false 5 ([.val (.int .i64 (a)), .val (.int .i64 (wdB (secOf D.N D.B a) 4)), .val (.bool (fOf (secOf D.N D.B a))), .val (.bool (lOf (secOf D.N D.B a))), .own 1 ((placeI D.N a).toNat * 64 + 10) (nOf (secOf D.N D.B a)) (some (54)) 1] :: []))⟩, ⟨5, 0, .cells (.rows true 4 ([.val (.int .i64 (s.g)), .val (.int .i64 (s.e)), .val (.int .i64 (s.st)), .val (.int .i64 (s.li))] :: []))⟩, ⟨4, 0, .cells (.ints .i64 ([IntKind.i64.wrap (a + 1)]))⟩, ⟨3, 0, .cells (.tab 5 (1) (fun i => bif i.blt 0 then EN.row ([].getD (0 + i) EN.z) else [[AV.val (Value.int IntKind.i64 (decD (List.take (List.take (nOf (secOf D.N D.B a)) (List.drop ((placeI D.N a).toNat * 64 + 10) D.B)).length (List.drop 0 ([] ++ List.take (nOf (secOf D.N D.B a)) (List.drop ((placeI D.N a).toNat * 64 + 10) D.B))))).fst), AV.val (Value.int IntKind.i64 (decD (List.take (List.take (nOf (secOf D.N D.B a)) (List.drop ((placeI D.N a).toNat * 64 + 10) D.B)).length (List.drop 0 ([] ++ List.take (nOf (secOf D.N D.B a)) (List.drop ((placeI D.N a).toNat * 64 + 10) D.B))))).snd.fst), AV.val (Value.int IntKind.i64 (decD (List.take (List.take (nOf (secOf D.N D.B a)) (List.drop ((placeI D.N a).toNat * 64 + 10) D.B)).length (List.drop 0 ([] ++ List.take (nOf (secOf D.N D.B a)) (List.drop ((placeI D.N a).toNat * 64 + 10) D.B))))).snd.snd.fst), AV.val (Value.int IntKind.i64 (decD (List.take (List.take (nOf (secOf D.N D.B a)) (List.drop ((placeI D.N a).toNat * 64 + 10) D.B)).length (List.drop 0 ([] ++ List.take (nOf (secOf D.N D.B a)) (List.drop ((placeI D.N a).toNat * 64 + 10) D.B))))).snd.snd.snd.fst), AV.ro (Con.ints IntKind.u8 (decD (List.take (List.take (nOf (secOf D.N D.B a)) (List.drop ((placeI D.N a).toNat * 64 + 10) D.B)).length (List.drop 0 ([] ++ List.take (nOf (secOf D.N D.B a)) (List.drop ((placeI D.N a).toNat * 64 + 10) D.B))))).snd.snd.snd.snd) none]].getD (i - 0) []))⟩, ⟨2, 0, .cells (.tab 2 (0) (fun i => SW.row ([].getD i SW.z)))⟩, ⟨1, 0, .cells (.ints .u8 (D.B))⟩, ⟨0, 0, .cells (.rows false 15 ([.val (.int .i64 (D.N)), .own 1 0 (D.B.length) none 1, .own 2 0 (0) none 2, .val (D.y1), .val (D.y2), .val (D.y3), .val (D.y4), .val (D.y5), .val (D.y6), .val (D.y7), .val (D.y8), .val (D.y9), .val (.int .i64 (IntKind.i64.wrap (a + 1))), .own 3 0 (1) none 5, .own 4 0 (1) none 1] :: []))⟩]⟩ )
 else
 none
 else
 none
 else
 some (.normal, stOf 97 [0, 3, 4, 5, 6] [.ptr 0 0 0, .ptr 5 0 0, .ptr 6 0 0, .own 7 0 ((List.take (nOf (secOf D.N D.B a)) (List.drop ((placeI D.N a).toNat * 64 + 10) D.B)).length) none 1, .val (.int .i64 (IntKind.i64.wrap (a + 1)))] ⟨8, [⟨7, 0, .cells (.ints .u8 ([] ++ List.take (nOf (secOf D.N D.B a)) (List.drop ((placeI D.N a).toNat * 64 + 10) D.B)))⟩, ⟨6, 0, .cells (.rows false 5 ([.val (.int .i64 (a)), .val (.int .i64 (wdB (secOf D.N D.B a) 4)), .val (.bool (fOf (secOf D.N D.B a))), .val (.bool (lOf (secOf D.N D.B a))), .own 1 ((placeI D.N a).toNat * 64 + 10) (nOf (secOf D.N D.B a)) (some (54)) 1] :: []))⟩, ⟨5, 0, .cells (.rows true 4 ([.val (.int .i64 (s.g)), .val (.int .i64 (s.e)), .val (.int .i64 (s.st)), .val (.int .i64 (s.li))] :: []))⟩, ⟨4, 0, .cells (.ints .i64 ([]))⟩, ⟨3, 0, .cells (.tab 5 (0) (fun i => EN.row ([].getD i EN.z)))⟩, ⟨2, 0, .cells (.tab 2 (0) (fun i => SW.row ([].getD i SW.z)))⟩, ⟨1, 0, .cells (.ints .u8 (D.B))⟩, ⟨0, 0, .cells (.rows false 15 ([.val (.int .i64 (D.N)), .own 1 0 (D.B.length) none 1, .own 2 0 (0) none 2, .val (D.y1), .val (D.y2), .val (D.y3), .val (D.y4), .val (D.y5), .val (D.y6), .val (D.y7), .val (D.y8), .val (D.y9), .val (.int .i64 (nx)), .own 3 0 (0) none 5, .own 4 0 (0) none 1] :: []))⟩]⟩ )
 else
 none
 else
 none
 else
 bif ((placeI D.N a).toNat * 64 + 10 + nOf (secOf D.N D.B a)).ble D.B.length then
 bif ((List.take (nOf (secOf D.N D.B a)) (List.drop ((placeI D.N a).toNat * 64 + 10) D.B)).length * 1).ble most && (List.take (nOf (secOf D.N D.B a)) (List.drop ((placeI D.N a).toNat * 64 + 10) D.B)).length.ble most then
 bif lOf (secOf D.N D.B a) then
 bif (0 + (List.take (nOf (secOf D.N D.B a)) (List.drop ((placeI D.N a).toNat * 64 + 10) D.B)).length).ble ([] ++ List.take (nOf (secOf D.N D.B a)) (List.drop ((placeI D.N a).toNat * 64 + 10) D.B)).length && true then
 bif bytesOk (List.take (List.take (nOf (secOf D.N D.B a)) (List.drop ((placeI D.N a).toNat * 64 + 10) D.B)).length (List.drop 0 ([] ++ List.take (nOf (secOf D.N D.B a)) (List.drop ((placeI D.N a).toNat * 64 + 10) D.B)))) && (List.take (List.take (nOf (secOf D.N D.B a)) (List.drop ((placeI D.N a).toNat * 64 + 10) D.B)).length (List.drop 0 ([] ++ List.take (nOf (secOf D.N D.B a)) (List.drop ((placeI D.N a).toNat * 64 + 10) D.B)))).length.ble 1000000 then
 bif decE (List.take (List.take (nOf (secOf D.N D.B a)) (List.drop ((placeI D.N a).toNat * 64 + 10) D.B)).length (List.drop 0 ([] ++ List.take (nOf (secOf D.N D.B a)) (List.drop ((placeI D.N a).toNat * 64 + 10) D.B)))) != 0 then
 some (.ret, stOf 97 [0] [.ptr 0 0 0] ⟨5, e89h D [] [] nx⟩ )
 else
 some (.normal, stOf 97 [0, 3, 4, 5, 6] [.ptr 0 0 0, .ptr 5 0 0, .ptr 6 0 0, .own 7 0 ((List.take (nOf (secOf D.N D.B a)) (List.drop ((placeI D.N a).toNat * 64 + 10) D.B)).length) none 1, .val (.int .i64 (IntKind.i64.wrap (a + 1)))] ⟨8, [⟨7, 0, .cells (.ints .u8 ([] ++ List.take (nOf (secOf D.N D.B a)) (List.drop ((placeI D.N a).toNat * 64 + 10) D.B)))⟩, ⟨6, 0, .cells (.rows false 5 ([.val (.int .i64 (a)), .val (.int .i64 (wdB (secOf D.N D.B a) 4)), .val (.bool (fOf (secOf D.N D.B a))), .val (.bool (lOf (secOf D.N D.B a))), .own 1 ((placeI D.N a).toNat * 64 + 10) (nOf (secOf D.N D.B a)) (some (54)) 1] :: []))⟩, ⟨5, 0, .cells (.rows true 4 ([.val (.int .i64 (s.g)), .val (.int .i64 (s.e)), .val (.int .i64 (s.st)), .val (.int .i64 (s.li))] :: []))⟩, ⟨4, 0, .cells (.ints .i64 ([IntKind.i64.wrap (a + 1)]))⟩, ⟨3, 0, .cells (.tab 5 (1) (fun i => bif i.blt 0 then EN.row ([].getD (0 + i) EN.z) else [[AV.val (Value.int IntKind.i64 (decD (List.take (List.take (nOf (secOf D.N D.B a)) (List.drop ((placeI D.N a).toNat * 64 + 10) D.B)).length (List.drop 0 ([] ++ List.take (nOf (secOf D.N D.B a)) (List.drop ((placeI D.N a).toNat * 64 + 10) D.B))))).fst), AV.val (Value.int IntKind.i64 (decD (List.take (List.take (nOf (secOf D.N D.B a)) (List.drop ((placeI D.N a).toNat * 64 + 10) D.B)).length (List.drop 0 ([] ++ List.take (nOf (secOf D.N D.B a)) (List.drop ((placeI D.N a).toNat * 64 + 10) D.B))))).snd.fst), AV.val (Value.int IntKind.i64 (decD (List.take (List.take (nOf (secOf D.N D.B a)) (List.drop ((placeI D.N a).toNat * 64 + 10) D.B)).length (List.drop 0 ([] ++ List.take (nOf (secOf D.N D.B a)) (List.drop ((placeI D.N a).toNat * 64 + 10) D.B))))).snd.snd.fst), AV.val (Value.int IntKind.i64 (decD (List.take (List.take (nOf (secOf D.N D.B a)) (List.drop ((placeI D.N a).toNat * 64 + 10) D.B)).length (List.drop 0 ([] ++ List.take (nOf (secOf D.N D.B a)) (List.drop ((placeI D.N a).toNat * 64 + 10) D.B))))).snd.snd.snd.fst), AV.ro (Con.ints IntKind.u8 (decD (List.take (List.take (nOf (secOf D.N D.B a)) (List.drop ((placeI D.N a).toNat * 64 + 10) D.B)).length (List.drop 0 ([] ++ List.take (nOf (secOf D.N D.B a)) (List.drop ((placeI D.N a).toNat * 64 + 10) D.B))))).snd.snd.snd.snd) none]].getD (i - 0) []))⟩, ⟨2, 0, .cells (.tab 2 (0) (fun i => SW.row ([].getD i SW.z)))⟩, ⟨1, 0, .cells (.ints .u8 (D.B))⟩, ⟨0, 0, .cells (.rows false 15 ([.val (.int .i64 (D.N)), .own 1 0 (D.B.length) none 1, .own 2 0 (0) none 2, .val (D.y1), .val (D.y2), .val (D.y3), .val (D.y4), .val (D.y5), .val (D.y6), .val (D.y7), .val (D.y8), .val (D.y9), .val (.int .i64 (IntKind.i64.wrap (a + 1))), .own 3 0 (1) none 5, .own 4 0 (1) none 1] :: []))⟩]⟩ )
 else
 none
 else
 none
 else
 some (.normal, stOf 97 [0, 3, 4, 5, 6] [.ptr 0 0 0, .ptr 5 0 0, .ptr 6 0 0, .own 7 0 ((List.take (nOf (secOf D.N D.B a)) (List.drop ((placeI D.N a).toNat * 64 + 10) D.B)).length) none 1, .val (.int .i64 (IntKind.i64.wrap (a + 1)))] ⟨8, [⟨7, 0, .cells (.ints .u8 ([] ++ List.take (nOf (secOf D.N D.B a)) (List.drop ((placeI D.N a).toNat * 64 + 10) D.B)))⟩, ⟨6, 0, .cells (.rows false 5 ([.val (.int .i64 (a)), .val (.int .i64 (wdB (secOf D.N D.B a) 4)), .val (.bool (fOf (secOf D.N D.B a))), .val (.bool (lOf (secOf D.N D.B a))), .own 1 ((placeI D.N a).toNat * 64 + 10) (nOf (secOf D.N D.B a)) (some (54)) 1] :: []))⟩, ⟨5, 0, .cells (.rows true 4 ([.val (.int .i64 (s.g)), .val (.int .i64 (s.e)), .val (.int .i64 (s.st)), .val (.int .i64 (s.li))] :: []))⟩, ⟨4, 0, .cells (.ints .i64 ([]))⟩, ⟨3, 0, .cells (.tab 5 (0) (fun i => EN.row ([].getD i EN.z)))⟩, ⟨2, 0, .cells (.tab 2 (0) (fun i => SW.row ([].getD i SW.z)))⟩, ⟨1, 0, .cells (.ints .u8 (D.B))⟩, ⟨0, 0, .cells (.rows false 15 ([.val (.int .i64 (D.N)), .own 1 0 (D.B.length) none 1, .own 2 0 (0) none 2, .val (D.y1), .val (D.y2), .val (D.y3), .val (D.y4), .val (D.y5), .val (D.y6), .val (D.y7), .val (D.y8), .val (D.y9), .val (.int .i64 (nx)), .own 3 0 (0) none 5, .own 4 0 (0) none 1] :: []))⟩]⟩ )
 else
 none
 else
 none
 else
 some (.ret, stOf 97 [0] [.ptr 0 0 0] ⟨5, e89h D [] [] nx⟩ )
 else
 none
 else
 bif early (secOf D.N D.B a) then
 some (.ret, stOf 97 [0] [.ptr 0 0 0] ⟨5, e89h D [] [] nx⟩ )
 else
 some (.ret, stOf 97 [0] [.ptr 0 0 0] ⟨5, e89h D [] [] nx⟩ )
 else
 none
 else
 some (.exit 0, stOf 97 [0] [.ptr 0 0 0] ⟨5, e89h D [] [] nx⟩ )
 else
 some (.exit 0, stOf 97 [0] [.ptr 0 0 0] ⟨5, e89h D [] [] nx⟩ ) := by kernel_rfl
def okOD (D : OD) : Bool := decide (8 ≤ D.N) && (decide (D.N ≤ 4096) && (decide ((D.B.length : Int) = D.N * 64) && bytesOk D.B))
def fitsS (s : SU) (sec : List Int) (a : Int) (ew : Int) (lw : Bool) : Bool := fitsB s.e s.li a (wdB sec 4) (fOf sec) (lOf sec) (nOf sec) ew lw
def accB (sec : List Int) (r : RS) : List Int := (bif fOf sec then [] else r.b) ++ pOf sec
def stepR (D : OD) (s : SU) (a : Int) (r : RS) : Option RS :=
  bif okD (secOf D.N D.B a) a && fitsS s (secOf D.N D.B a) a r.ep r.l then
    (bif lOf (secOf D.N D.B a) then (bif decE (accB (secOf D.N D.B a) r) != 0 then none else some ⟨wdB (secOf D.N D.B a) 4, true, accB (secOf D.N D.B a) r, r.L ++ [decD (accB (secOf D.N D.B a) r)], r.E ++ [a + 1], a + 1⟩)
    else some ⟨wdB (secOf D.N D.B a) 4, false, accB (secOf D.N D.B a) r, r.L, r.E, r.nx⟩)
  else none
def stop89 (D : OD) (r : RS) : St := stOf 97 [0] [.ptr 0 0 0] ⟨5, e89h D r.L r.E r.nx⟩
def S89b (D : OD) (s : SU) (r : RS) (sw : Int) (fw : Bool) (o n : Nat) (a : Int) : St := stOf 97 [0,3,4,5,6] (V89 (.own 7 0 r.b.length none 1) a) (H89b D s r sw fw o n)
def S89a (D : OD) (s : SU) (nx a : Int) : St := stOf 97 [0,3,4,5,6] (V89a (.val (.slice none 0 0)) a) (H89a D s nx)
def r0 (nx : Int) : RS := ⟨0, true, [], [], [], nx⟩
theorem okD_facts {D : OD} (hD : okOD D = true) {a : Int} (h0 : 0 ≤ a) (h : okD (secOf D.N D.B a) a = true) : nOf (secOf D.N D.B a) ≤ 46 ∧ List.take (nOf (secOf D.N D.B a)) (List.drop ((placeI D.N a).toNat * 64 + 10) D.B) = pOf (secOf D.N D.B a) ∧ (pOf (secOf D.N D.B a)).length = nOf (secOf D.N D.B a) ∧
    (placeI D.N a).toNat * 64 + 64 ≤ D.B.length ∧ bytesOk (pOf (secOf D.N D.B a)) = true := by
  unfold okOD at hD
  simp only [Bool.and_eq_true, decide_eq_true_eq] at hD
  obtain ⟨b1, b2, b3, b4⟩ := hD
  have hp := placeI_ok (s := a) b1 h0
  unfold okD early at h
  simp only [Bool.and_eq_true, Bool.not_eq_true', Bool.or_eq_false_iff, decide_eq_false_iff_not] at h
  have n46 : nOf (secOf D.N D.B a) ≤ 46 := by unfold nOf; omega
  have hl : (secOf D.N D.B a).length = 64 := sect_len (by omega)
  refine ⟨n46, piece_sect n46, ?_, by omega, ?_⟩
  · unfold pOf; rw [List.length_take, List.length_drop, hl]; omega
  · exact bytesOk_sub (sect_bytes b4 _) (fun x hx => List.mem_of_mem_drop (List.mem_of_mem_take hx))
theorem Try.step_b {D : OD} {s : SU} {r : RS} {sw : Int} {fw : Bool} {o n k : Nat} (hD : okOD D = true) (h0 : 0 ≤ s.st) (h1 : s.st ≤ 1073741824) (hk : (k : Int) ≤ D.N - 2) (ho : o + n ≤ D.B.length) (hL : r.L.length ≤ k) (hE : r.E.length ≤ k) (hb : r.b.length ≤ 46 * k) (hby : bytesOk r.b = true) :
    (¬ ((k : Int) < D.N - 2 ∧ s.st + k < 1073741824) → Try.B89 (S89b D s r sw fw o n (s.st + k)) = some (.exit 0, stop89 D r)) ∧
    ((k : Int) < D.N - 2 ∧ s.st + k < 1073741824 → (stepR D s (s.st + k) r = none → Try.B89 (S89b D s r sw fw o n (s.st + k)) = some (.ret, stop89 D r)) ∧
      ∀ r', stepR D s (s.st + k) r = some r' → ∃ s1, Try.B89 (S89b D s r sw fw o n (s.st + k)) = some (.normal, s1) ∧ WeakP 3 s1 (S89b D s r' (s.st + k) (fOf (secOf D.N D.B (s.st + k))) ((placeI D.N (s.st + k)).toNat * 64 + 10) (nOf (secOf D.N D.B (s.st + k))) (s.st + (k + 1 : Nat)))) := by
  have key := Try.r89b D s r sw fw o n (s.st + k)
  have hD' := hD
  unfold okOD at hD'
  simp only [Bool.and_eq_true, decide_eq_true_eq] at hD'
  obtain ⟨b1, b2, b3, b4⟩ := hD'
  have ha : 0 ≤ s.st + k := by omega
  have e0 : IntKind.i64.wrap (s.st + k - s.st) = (k : Int) := by rw [show s.st + (k : Int) - s.st = (k : Int) by omega, wrap64 _ (by omega) (by omega)]
  rw [e0, wrap64 (D.N - 2) (by omega) (by omega)] at key
  constructor
  · intro hn
    by_cases q : (k : Int) < D.N - 2
    · rw [decide_eq_true q, decide_eq_false (show ¬ s.st + (k : Int) < 1073741824 by omega)] at key
      exact key
    · rw [decide_eq_false q] at key
      exact key
  · rintro ⟨q1, q2⟩
    rw [decide_eq_true q1, decide_eq_true q2] at key
    have hy : ∀ S : YS, S.N = D.N → S.B = D.B → S.bl = D.B.length → (yOk S && decide (0 ≤ s.st + (k : Int))) = true := fun S z1 z2 z3 => by
      unfold yOk
      rw [z1, z2, z3, decide_eq_true b1, decide_eq_true b2, decide_eq_true (rfl : D.B.length = D.B.length), decide_eq_true b3, b4, decide_eq_true ha]
      rfl
    rw [hy _ rfl rfl rfl] at key
    have hf := fun h => okD_facts hD ha h
    have ha1 : IntKind.i64.wrap (s.st + (k : Int) + 1) = s.st + ((k + 1 : Nat) : Int) := by rw [wrap64 _ (by omega) (by omega)]; omega
    have ha2 : s.st + (k : Int) + 1 = s.st + ((k + 1 : Nat) : Int) := by omega
    unfold stepR accB fitsS
    generalize secOf D.N D.B (s.st + k) = sec at hf key ⊢
    generalize (placeI D.N (s.st + k)).toNat = p at hf key ⊢
    cases ok : okD sec (s.st + k) with
    | false =>
      rw [ok] at key
      refine ⟨fun _ => ?_, fun r' h => by rw [Bool.false_and, cond_false] at h; cases h⟩
      cases he : early sec <;> rw [he] at key <;> exact key
    | true =>
    obtain ⟨n46, pc, pl, p64, pby⟩ := hf ok
    rw [ok] at key
    simp only [pc, pl, cond_true', ble_t (show p * 64 + 10 + nOf sec ≤ D.B.length by omega), ble_t ho, Bool.and_self, Bool.true_and] at key ⊢
    cases hfit : fitsB s.e s.li (s.st + k) (wdB sec 4) (fOf sec) (lOf sec) (nOf sec) r.ep r.l with
    | false =>
      rw [hfit] at key
      exact ⟨fun _ => key, fun r' h => by rw [cond_false] at h; cases h⟩
    | true =>
    rw [hfit] at key
    have t1 : List.take (nOf sec) (pOf sec) = pOf sec := List.take_of_length_le (by omega)
    have t2 : List.take r.b.length r.b = r.b := List.take_length
    have t3 : List.take (r.b.length + nOf sec) (r.b ++ pOf sec) = r.b ++ pOf sec := List.take_of_length_le (by rw [List.length_append]; omega)
    have t4 : List.take r.E.length r.E = r.E := List.take_length
    have tl : (r.b ++ pOf sec).length = r.b.length + nOf sec := by rw [List.length_append, pl]
    have by2 : bytesOk (r.b ++ pOf sec) = true := by
      unfold bytesOk at *
      rw [List.all_append, hby, pby]; rfl
    simp only [cond_true', List.nil_append, List.drop_zero, t1, t2, t3, t4, pl, tl, by2, pby, ha1, Nat.zero_add, ble_t (Nat.le_refl _), ble_t (show nOf sec * 1 ≤ most by rw [most_eq]; omega), ble_t (show nOf sec ≤ most by rw [most_eq]; omega), ble_t (show (r.b.length + nOf sec) * 1 ≤ most by rw [most_eq]; omega), ble_t (show r.b.length + nOf sec ≤ most by rw [most_eq]; omega), ble_t (show nOf sec ≤ 1000000 by omega), ble_t (show r.b.length + nOf sec ≤ 1000000 by omega), ble_t (show (r.L.length + 1) * 56 ≤ most by rw [most_eq]; omega), ble_t (show r.L.length + 1 ≤ most by rw [most_eq]; omega), ble_t (show (r.E.length + 1) * 8 ≤ most by rw [most_eq]; omega), ble_t (show r.E.length + 1 ≤ most by rw [most_eq]; omega), Bool.and_self] at key
    have fin : ∀ (acc : List Int) (l : Bool) (m : Nat), acc.length = m → WeakP 3 (stOf 97 [0,3,4,5,6] [.ptr 0 0 0, .ptr 5 0 0, .ptr 6 0 0, .own 7 0 m none 1, .val (.int .i64 (s.st + ((k + 1 : Nat) : Int)))] ⟨8, ⟨7, 0, .cells (.ints .u8 acc)⟩ :: ⟨6, 0, .cells (.rows false 5 [wasR (s.st + k) (wdB sec 4) (fOf sec) l (.own 1 (p * 64 + 10) (nOf sec) (some 54) 1)])⟩ :: ⟨5, 0, .cells (.rows true 4 [suRow s])⟩ :: e89h D r.L r.E r.nx⟩)
        (S89b D s ⟨wdB sec 4, l, acc, r.L, r.E, r.nx⟩ (s.st + k) (fOf sec) (p * 64 + 10) (nOf sec) (s.st + ((k + 1 : Nat) : Int))) := fun acc l m hm => by
      subst hm
      exact WeakP.refl (heap_ok [7, 6, 5, 4, 3, 2, 1, 0] rfl (by decide) (by decide))
    have finL : ∀ (acc : List Int) (l : Bool) (m : Nat) (f : Nat → List AV), acc.length = m → (∀ i, i < r.L.length → f i = EN.row (r.L.getD i EN.z)) → f r.L.length = EN.row (decD acc) →
        WeakP 3 (stOf 97 [0,3,4,5,6] [.ptr 0 0 0, .ptr 5 0 0, .ptr 6 0 0, .own 7 0 m none 1, .val (.int .i64 (s.st + ((k + 1 : Nat) : Int)))] ⟨8, [⟨7, 0, .cells (.ints .u8 acc)⟩, ⟨6, 0, .cells (.rows false 5 [wasR (s.st + k) (wdB sec 4) (fOf sec) l (.own 1 (p * 64 + 10) (nOf sec) (some 54) 1)])⟩, ⟨5, 0, .cells (.rows true 4 [suRow s])⟩, ⟨4, 0, .cells (.ints .i64 (r.E ++ [s.st + ((k + 1 : Nat) : Int)]))⟩, ⟨3, 0, .cells (.tab 5 (r.L.length + 1) f)⟩, ⟨2, 0, .cells (SW.con [])⟩, ⟨1, 0, .cells (.ints .u8 D.B)⟩, ⟨0, 0, .cells (.rows false 15 [orow D (s.st + ((k + 1 : Nat) : Int)) (.own 3 0 (r.L.length + 1) none 5) (.own 4 0 (r.E.length + 1) none 1)])⟩]⟩)
          (S89b D s ⟨wdB sec 4, l, acc, r.L ++ [decD acc], r.E ++ [s.st + ((k + 1 : Nat) : Int)], s.st + ((k + 1 : Nat) : Int)⟩ (s.st + k) (fOf sec) (p * 64 + 10) (nOf sec) (s.st + ((k + 1 : Nat) : Int))) := fun acc l m f hm hf0 hf1 => by
      subst hm
      unfold S89b H89b e89h
      have e5 : (r.L ++ [decD acc]).length = r.L.length + 1 := by simp
      have e6 : (r.E ++ [s.st + ((k + 1 : Nat) : Int)]).length = r.E.length + 1 := by simp
      simp only [e5, e6]
      exact WeakP.heap (heap_ok [7, 6, 5, 4, 3, 2, 1, 0] rfl (by decide) (by decide)) (.same _ (.same _ (.same _ (.same _ (.con 3 0 0 rfl (tab_snoc EN r.L (decD acc) f hf0 hf1) (EsW.refl _))))))
    have tabf : ∀ acc : List Int, (∀ i, i < r.L.length → (fun i => bif i.blt r.L.length then EN.row (r.L.getD i EN.z) else [[AV.val (Value.int IntKind.i64 (decD acc).fst), AV.val (Value.int IntKind.i64 (decD acc).snd.fst), AV.val (Value.int IntKind.i64 (decD acc).snd.snd.fst), AV.val (Value.int IntKind.i64 (decD acc).snd.snd.snd.fst), AV.ro (Con.ints IntKind.u8 (decD acc).snd.snd.snd.snd) none]].getD (i - r.L.length) []) i = EN.row (r.L.getD i EN.z)) ∧
        (fun i => bif i.blt r.L.length then EN.row (r.L.getD i EN.z) else [[AV.val (Value.int IntKind.i64 (decD acc).fst), AV.val (Value.int IntKind.i64 (decD acc).snd.fst), AV.val (Value.int IntKind.i64 (decD acc).snd.snd.fst), AV.val (Value.int IntKind.i64 (decD acc).snd.snd.snd.fst), AV.ro (Con.ints IntKind.u8 (decD acc).snd.snd.snd.snd) none]].getD (i - r.L.length) []) r.L.length = EN.row (decD acc) := fun acc => by
      refine ⟨fun i hi => ?_, ?_⟩
      · simp only [blt_t hi, cond_true]
      · simp only [blt_f (Nat.le_refl r.L.length), Nat.sub_self, cond_false]
        rfl
    rw [ha2]
    cases hfl : fOf sec with
    | true =>
      rw [hfl] at key fin finL
      cases hll : lOf sec with
      | true =>
        rw [hll] at key
        simp only [cond_true', List.nil_append] at key ⊢
        cases hd : (decE (pOf sec) != 0) with
        | true =>
          rw [hd] at key
          exact ⟨fun _ => key, fun r' h => by cases h⟩
        | false =>
          rw [hd] at key
          refine ⟨fun h => (by cases h), fun r' h => ?_⟩
          injection h with h
          subst h
          exact ⟨_, key, finL _ _ _ _ pl (tabf _).1 (tabf _).2⟩
      | false =>
        rw [hll] at key
        simp only [cond_true', cond_false', List.nil_append] at key ⊢
        refine ⟨fun h => (by cases h), fun r' h => ?_⟩
        injection h with h
        subst h
        exact ⟨_, key, fin _ _ _ pl⟩
    | false =>
      rw [hfl] at key fin finL
      cases hll : lOf sec with
      | true =>
        rw [hll] at key
        simp only [cond_true', cond_false'] at key ⊢
        cases hd : (decE (r.b ++ pOf sec) != 0) with
        | true =>
          rw [hd] at key
          exact ⟨fun _ => key, fun r' h => by cases h⟩
        | false =>
          rw [hd] at key
          refine ⟨fun h => (by cases h), fun r' h => ?_⟩
          injection h with h
          subst h
          exact ⟨_, key, finL _ _ _ _ tl (tabf _).1 (tabf _).2⟩
      | false =>
        rw [hll] at key
        simp only [cond_true', cond_false'] at key ⊢
        refine ⟨fun h => (by cases h), fun r' h => ?_⟩
        injection h with h
        subst h
        exact ⟨_, key, fin _ _ _ tl⟩
theorem Try.step_a {D : OD} {s : SU} {nx : Int} {k : Nat} (hD : okOD D = true) (h0 : 0 ≤ s.st) (h1 : s.st ≤ 1073741824) (hk0 : k = 0) :
    (¬ ((k : Int) < D.N - 2 ∧ s.st + k < 1073741824) → Try.B89 (S89a D s nx (s.st + k)) = some (.exit 0, stop89 D (r0 nx))) ∧
    ((k : Int) < D.N - 2 ∧ s.st + k < 1073741824 → (stepR D s (s.st + k) (r0 nx) = none → Try.B89 (S89a D s nx (s.st + k)) = some (.ret, stop89 D (r0 nx))) ∧
      ∀ r', stepR D s (s.st + k) (r0 nx) = some r' → ∃ s1, Try.B89 (S89a D s nx (s.st + k)) = some (.normal, s1) ∧ WeakP 3 s1 (S89b D s r' (s.st + k) (fOf (secOf D.N D.B (s.st + k))) ((placeI D.N (s.st + k)).toNat * 64 + 10) (nOf (secOf D.N D.B (s.st + k))) (s.st + (k + 1 : Nat)))) := by
  have hk : (k : Int) ≤ D.N - 2 := by
    unfold okOD at hD
    simp only [Bool.and_eq_true, decide_eq_true_eq] at hD
    omega
  have key := Try.r89a D s nx (s.st + k)
  have hD' := hD
  unfold okOD at hD'
  simp only [Bool.and_eq_true, decide_eq_true_eq] at hD'
  obtain ⟨b1, b2, b3, b4⟩ := hD'
  have ha : 0 ≤ s.st + k := by omega
  have e0 : IntKind.i64.wrap (s.st + k - s.st) = (k : Int) := by rw [show s.st + (k : Int) - s.st = (k : Int) by omega, wrap64 _ (by omega) (by omega)]
  rw [e0, wrap64 (D.N - 2) (by omega) (by omega)] at key
  constructor
  · intro hn
    by_cases q : (k : Int) < D.N - 2
    · rw [decide_eq_true q, decide_eq_false (show ¬ s.st + (k : Int) < 1073741824 by omega)] at key
      exact key
    · rw [decide_eq_false q] at key
      exact key
  · rintro ⟨q1, q2⟩
    rw [decide_eq_true q1, decide_eq_true q2] at key
    have hy : ∀ S : YS, S.N = D.N → S.B = D.B → S.bl = D.B.length → (yOk S && decide (0 ≤ s.st + (k : Int))) = true := fun S z1 z2 z3 => by
      unfold yOk
      rw [z1, z2, z3, decide_eq_true b1, decide_eq_true b2, decide_eq_true (rfl : D.B.length = D.B.length), decide_eq_true b3, b4, decide_eq_true ha]
      rfl
    rw [hy _ rfl rfl rfl] at key
    have hf := fun h => okD_facts hD ha h
    have ha1 : IntKind.i64.wrap (s.st + (k : Int) + 1) = s.st + ((k + 1 : Nat) : Int) := by rw [wrap64 _ (by omega) (by omega)]; omega
    have ha2 : s.st + (k : Int) + 1 = s.st + ((k + 1 : Nat) : Int) := by omega
    unfold stepR accB fitsS
    generalize secOf D.N D.B (s.st + k) = sec at hf key ⊢
    generalize (placeI D.N (s.st + k)).toNat = p at hf key ⊢
    cases ok : okD sec (s.st + k) with
    | false =>
      rw [ok] at key
      refine ⟨fun _ => ?_, fun r' h => by rw [Bool.false_and, cond_false] at h; cases h⟩
      cases he : early sec <;> rw [he] at key <;> exact key
    | true =>
    obtain ⟨n46, pc, pl, p64, pby⟩ := hf ok
    rw [ok] at key
    simp only [pc, pl, cond_true', ble_t (show p * 64 + 10 + nOf sec ≤ D.B.length by omega), Bool.and_self, Bool.true_and] at key ⊢
    have e00 : (r0 nx).ep = 0 := rfl
    have e01 : (r0 nx).l = true := rfl
    rw [e00, e01]
    cases hfit : fitsB s.e s.li (s.st + k) (wdB sec 4) (fOf sec) (lOf sec) (nOf sec) 0 true with
    | false =>
      rw [hfit] at key
      exact ⟨fun _ => key, fun r' h => by rw [cond_false] at h; cases h⟩
    | true =>
    rw [hfit] at key
    have t1 : List.take (nOf sec) (pOf sec) = pOf sec := List.take_of_length_le (by omega)
    simp only [cond_true', List.nil_append, List.drop_zero, t1, pl, pby, ha1, Nat.zero_add, ble_t (Nat.le_refl _), ble_t (show nOf sec * 1 ≤ most by rw [most_eq]; omega), ble_t (show nOf sec ≤ most by rw [most_eq]; omega), ble_t (show nOf sec ≤ 1000000 by omega), Bool.and_self] at key
    have fin : ∀ (acc : List Int) (l : Bool) (m : Nat), acc.length = m → WeakP 3 (stOf 97 [0,3,4,5,6] [.ptr 0 0 0, .ptr 5 0 0, .ptr 6 0 0, .own 7 0 m none 1, .val (.int .i64 (s.st + ((k + 1 : Nat) : Int)))] ⟨8, ⟨7, 0, .cells (.ints .u8 acc)⟩ :: ⟨6, 0, .cells (.rows false 5 [wasR (s.st + k) (wdB sec 4) (fOf sec) l (.own 1 (p * 64 + 10) (nOf sec) (some 54) 1)])⟩ :: ⟨5, 0, .cells (.rows true 4 [suRow s])⟩ :: e89h D [] [] nx⟩)
        (S89b D s ⟨wdB sec 4, l, acc, [], [], nx⟩ (s.st + k) (fOf sec) (p * 64 + 10) (nOf sec) (s.st + ((k + 1 : Nat) : Int))) := fun acc l m hm => by
      subst hm
      exact WeakP.refl (heap_ok [7, 6, 5, 4, 3, 2, 1, 0] rfl (by decide) (by decide))
    have finL : ∀ (acc : List Int) (l : Bool) (m : Nat) (f : Nat → List AV), acc.length = m → (∀ i, i < 0 → f i = EN.row (([] : List EntD).getD i EN.z)) → f 0 = EN.row (decD acc) →
        WeakP 3 (stOf 97 [0,3,4,5,6] [.ptr 0 0 0, .ptr 5 0 0, .ptr 6 0 0, .own 7 0 m none 1, .val (.int .i64 (s.st + ((k + 1 : Nat) : Int)))] ⟨8, [⟨7, 0, .cells (.ints .u8 acc)⟩, ⟨6, 0, .cells (.rows false 5 [wasR (s.st + k) (wdB sec 4) (fOf sec) l (.own 1 (p * 64 + 10) (nOf sec) (some 54) 1)])⟩, ⟨5, 0, .cells (.rows true 4 [suRow s])⟩, ⟨4, 0, .cells (.ints .i64 [s.st + ((k + 1 : Nat) : Int)])⟩, ⟨3, 0, .cells (.tab 5 1 f)⟩, ⟨2, 0, .cells (SW.con [])⟩, ⟨1, 0, .cells (.ints .u8 D.B)⟩, ⟨0, 0, .cells (.rows false 15 [orow D (s.st + ((k + 1 : Nat) : Int)) (.own 3 0 1 none 5) (.own 4 0 1 none 1)])⟩]⟩)
          (S89b D s ⟨wdB sec 4, l, acc, [] ++ [decD acc], [] ++ [s.st + ((k + 1 : Nat) : Int)], s.st + ((k + 1 : Nat) : Int)⟩ (s.st + k) (fOf sec) (p * 64 + 10) (nOf sec) (s.st + ((k + 1 : Nat) : Int))) := fun acc l m f hm hf0 hf1 => by
      subst hm
      unfold S89b H89b e89h
      exact WeakP.heap (heap_ok [7, 6, 5, 4, 3, 2, 1, 0] rfl (by decide) (by decide)) (.same _ (.same _ (.same _ (.same _ (.con 3 0 0 rfl (tab_snoc EN [] (decD acc) f hf0 hf1) (EsW.refl _))))))
    have tabf : ∀ acc : List Int, (∀ i, i < 0 → (fun i => bif i.blt 0 then EN.row (([] : List EntD).getD i EN.z) else [[AV.val (Value.int IntKind.i64 (decD acc).fst), AV.val (Value.int IntKind.i64 (decD acc).snd.fst), AV.val (Value.int IntKind.i64 (decD acc).snd.snd.fst), AV.val (Value.int IntKind.i64 (decD acc).snd.snd.snd.fst), AV.ro (Con.ints IntKind.u8 (decD acc).snd.snd.snd.snd) none]].getD (i - 0) []) i = EN.row (([] : List EntD).getD i EN.z)) ∧
        (fun i => bif i.blt 0 then EN.row (([] : List EntD).getD i EN.z) else [[AV.val (Value.int IntKind.i64 (decD acc).fst), AV.val (Value.int IntKind.i64 (decD acc).snd.fst), AV.val (Value.int IntKind.i64 (decD acc).snd.snd.fst), AV.val (Value.int IntKind.i64 (decD acc).snd.snd.snd.fst), AV.ro (Con.ints IntKind.u8 (decD acc).snd.snd.snd.snd) none]].getD (i - 0) []) 0 = EN.row (decD acc) := fun acc => by
      refine ⟨fun i hi => ?_, ?_⟩
      · simp only [blt_t hi, cond_true]
      · simp only [blt_f (Nat.le_refl 0), Nat.sub_self, cond_false]
        rfl
    rw [ha2]
    have same : ∀ f : Bool, (bif f then ([] : List Int) else (r0 nx).b) ++ pOf sec = pOf sec := fun f => by cases f <;> rfl
    rw [same]
    have leaf : ∀ X : Option (AX × St), (Try.B89 (S89a D s nx (s.st + k)) = bif fOf sec then X else X) → Try.B89 (S89a D s nx (s.st + k)) = X := fun X h => by cases hq : fOf sec <;> rw [hq] at h <;> exact h
    replace key := leaf _ key
    cases hll : lOf sec with
    | true =>
      rw [hll] at key
      simp only [cond_true'] at key ⊢
      cases hd : (decE (pOf sec) != 0) with
      | true =>
        rw [hd] at key
        exact ⟨fun _ => key, fun r' h => (by cases h)⟩
      | false =>
        rw [hd] at key
        refine ⟨fun h => (by cases h), fun r' h => ?_⟩
        injection h with h
        subst h
        exact ⟨_, key, finL _ _ _ _ pl (tabf _).1 (tabf _).2⟩
    | false =>
      rw [hll] at key
      simp only [cond_true', cond_false'] at key ⊢
      refine ⟨fun h => (by cases h), fun r' h => ?_⟩
      injection h with h
      subst h
      exact ⟨_, key, fin _ _ _ pl⟩
end Go.Ev
/- Journals: the reading's contract. -/
namespace Go.Ev
open Go.Proofs
def readGo (D : OD) (s : SU) : Nat → Int → RS → Bool × RS
  | 0, _, r => (false, r)
  | f + 1, a, r => bif decide (a < 1073741824) then (match stepR D s a r with
    | none => (true, r)
    | some r' => readGo D s f (a + 1) r') else (false, r)
def out89 (D : OD) (q : Bool × RS) : AX × St := (bif q.1 then .ret else .exit 0, stop89 D q.2)
def N89 (D : OD) (s : SU) (nx a : Int) : St := stOf 97 [0,3,4,5,6] (V89a (.val (.slice none 0 0)) a) ⟨5, [⟨4, 0, .cells (.rows true 5 [wasR 0 0 false true (.val (.slice none 0 0))])⟩, ⟨3, 0, .cells (.rows true 4 [suRow s])⟩, ⟨2, 0, .cells (SW.con [])⟩, ⟨1, 0, .cells (.ints .u8 D.B)⟩, ⟨0, 0, .cells (.rows false 15 [orow D nx (.val (.slice none 0 0)) (.val (.slice none 0 0))])⟩]⟩
def readD0 (D : OD) (s : SU) (nx : Int) : Bool × RS := readGo D s (D.N - 2).toNat s.st (r0 nx)
def Try.L89 (D : OD) (s : SU) (nx : Int) : LSum := atL (N89 D s nx s.st) (.grd (okOD D && (decide (0 ≤ s.st) && decide (s.st ≤ 1073741824))) (.br (readD0 D s nx).1 (.out (.ret, stop89 D (readD0 D s nx).2)) (.out (.exit 0, stop89 D (readD0 D s nx).2))))
theorem N89_weak (D : OD) (s : SU) (nx a : Int) : WeakP 3 (N89 D s nx a) (S89a D s nx a) := by
  have k1 : (⟨5, [⟨4, 0, .cells (.rows true 5 [wasR 0 0 false true (.val (.slice none 0 0))])⟩, ⟨3, 0, .cells (.rows true 4 [suRow s])⟩, ⟨2, 0, .cells (SW.con [])⟩, ⟨1, 0, .cells (.ints .u8 D.B)⟩] ++ ⟨0, 0, .cells (.rows false 15 [orow D nx (.val (.slice none 0 0)) (.val (.slice none 0 0))])⟩ :: []⟩ : Heap).ok := heap_ok [4, 3, 2, 1, 0] rfl (by decide) (by decide)
  have w1 := WeakP.nilCell (p := 3) (t := (N89 D s nx a).t) (d := []) (n := 5) [⟨4, 0, .cells (.rows true 5 [wasR 0 0 false true (.val (.slice none 0 0))])⟩, ⟨3, 0, .cells (.rows true 4 [suRow s])⟩, ⟨2, 0, .cells (SW.con [])⟩, ⟨1, 0, .cells (.ints .u8 D.B)⟩] []
    (i0 := 0) (v0 := 0) (w := 15) (r := orow D nx (.val (.slice none 0 0)) (.val (.slice none 0 0))) (r' := orow D nx (.own 5 0 0 none 5) (.val (.slice none 0 0))) (con := EN.con []) k1 rfl
    (.cons (.inl rfl) (.cons (.inl rfl) (.cons (.inl rfl) (.cons (.inl rfl) (.cons (.inl rfl) (.cons (.inl rfl) (.cons (.inl rfl) (.cons (.inl rfl) (.cons (.inl rfl) (.cons (.inl rfl) (.cons (.inl rfl) (.cons (.inl rfl) (.cons (.inl rfl) (.cons (.inr ⟨rfl, rfl⟩) (.cons (.inl rfl) .nil)))))))))))))))
  have w2 := WeakP.nilCell (p := 3) (t := (N89 D s nx a).t) (d := []) (n := 6) [⟨5, 0, .cells (EN.con [])⟩, ⟨4, 0, .cells (.rows true 5 [wasR 0 0 false true (.val (.slice none 0 0))])⟩, ⟨3, 0, .cells (.rows true 4 [suRow s])⟩, ⟨2, 0, .cells (SW.con [])⟩, ⟨1, 0, .cells (.ints .u8 D.B)⟩] []
    (i0 := 0) (v0 := 0) (w := 15) (r := orow D nx (.own 5 0 0 none 5) (.val (.slice none 0 0))) (r' := orow D nx (.own 5 0 0 none 5) (.own 6 0 0 none 1)) (con := .ints .i64 []) w1.1 rfl
    (.cons (.inl rfl) (.cons (.inl rfl) (.cons (.inl rfl) (.cons (.inl rfl) (.cons (.inl rfl) (.cons (.inl rfl) (.cons (.inl rfl) (.cons (.inl rfl) (.cons (.inl rfl) (.cons (.inl rfl) (.cons (.inl rfl) (.cons (.inl rfl) (.cons (.inl rfl) (.cons (.inl rfl) (.cons (.inr ⟨rfl, rfl⟩) .nil)))))))))))))))
  exact w1.trans w2
theorem stepR_inv {D : OD} {s : SU} {a : Int} {r r' : RS} (hD : okOD D = true) (h0 : 0 ≤ a) (hby : bytesOk r.b = true) (h : stepR D s a r = some r') : r'.L.length ≤ r.L.length + 1 ∧ r'.E.length ≤ r.E.length + 1 ∧ r'.b.length ≤ r.b.length + 46 ∧ bytesOk r'.b = true := by
  unfold stepR at h
  cases h1 : okD (secOf D.N D.B a) a with
  | false => rw [h1, Bool.false_and, cond_false] at h; cases h
  | true =>
  obtain ⟨n46, pc, pl, p64, pby⟩ := okD_facts hD h0 h1
  have hb : (accB (secOf D.N D.B a) r).length ≤ r.b.length + 46 ∧ bytesOk (accB (secOf D.N D.B a) r) = true := by
    unfold accB
    cases fOf (secOf D.N D.B a)
    · rw [cond_false]
      refine ⟨by rw [List.length_append]; omega, ?_⟩
      unfold bytesOk at *
      rw [List.all_append, hby, pby]; rfl
    · rw [cond_true, List.nil_append]
      exact ⟨by omega, pby⟩
  rw [h1, Bool.true_and] at h
  cases h2 : fitsS s (secOf D.N D.B a) a r.ep r.l with
  | false => rw [h2, cond_false] at h; cases h
  | true =>
  rw [h2, cond_true] at h
  cases h3 : lOf (secOf D.N D.B a) with
  | false =>
    rw [h3, cond_false] at h
    injection h with h
    subst h
    exact ⟨Nat.le_succ _, Nat.le_succ _, hb.1, hb.2⟩
  | true =>
    rw [h3, cond_true] at h
    cases h4 : (decE (accB (secOf D.N D.B a) r) != 0) with
    | true => rw [h4, cond_true] at h; cases h
    | false =>
      rw [h4, cond_false] at h
      injection h with h
      subst h
      exact ⟨by simp, by simp, hb.1, hb.2⟩
theorem Try.l89 (D : OD) (s : SU) (nx : Int) : ∀ s1 e s', s1.h.ok → (Try.L89 D s nx s1).run = some (e, s') → TripleP Try.prog 3 (.loop Try.b89) s1 e s' := by
  intro s1 e s' hk hL
  obtain ⟨rfl, hA⟩ := atL_some hL
  rw [Ans.run_grd] at hA
  cases hg : (okOD D && (decide (0 ≤ s.st) && decide (s.st ≤ 1073741824))) with
  | false => rw [hg] at hA; cases hA
  | true =>
  rw [hg, cond_true, Ans.run_br] at hA
  replace hA : out89 D (readD0 D s nx) = (e, s') := by
    unfold out89
    cases hq : (readD0 D s nx).1 <;> rw [hq] at hA <;> exact Option.some.inj hA
  simp only [Bool.and_eq_true, decide_eq_true_eq] at hg
  obtain ⟨hD, h0, h1⟩ := hg
  have hD' := hD
  unfold okOD at hD'
  simp only [Bool.and_eq_true, decide_eq_true_eq] at hD'
  obtain ⟨b1, b2, b3, b4⟩ := hD'
  have hX := codeP_sound (ρ := AX × St) (p := 3) (callF_sound Try.e89 6) Try.e89.ok Try.e89.mix (Try.E89.keep 89) (lsumsOf []) Try.b89 trivial
  let S : Option (RS × Int × Bool × Nat × Nat) × Nat → St := fun x => match x.1 with
    | none => S89a D s nx (s.st + x.2)
    | some q => S89b D s q.1 q.2.1 q.2.2.1 q.2.2.2.1 q.2.2.2.2 (s.st + x.2)
  let Inv : Option (RS × Int × Bool × Nat × Nat) × Nat → Prop := fun x => match x.1 with
    | none => x.2 = 0
    | some q => (x.2 : Int) ≤ D.N - 2 ∧ s.st + x.2 ≤ 1073741824 ∧ q.2.2.2.1 + q.2.2.2.2 ≤ D.B.length ∧ q.1.L.length ≤ x.2 ∧ q.1.E.length ≤ x.2 ∧ q.1.b.length ≤ 46 * x.2 ∧ bytesOk q.1.b = true
  let fin : Option (RS × Int × Bool × Nat × Nat) × Nat → AX × St := fun x => out89 D (readGo D s ((D.N - 2).toNat - x.2) (s.st + x.2) (match x.1 with | none => r0 nx | some q => q.1))
  have go_stop : ∀ (k : Nat) (r : RS), ¬ ((k : Int) < D.N - 2 ∧ s.st + k < 1073741824) → readGo D s ((D.N - 2).toNat - k) (s.st + k) r = (false, r) := fun k r hn => by
    by_cases q : (k : Int) < D.N - 2
    · obtain ⟨f, hf⟩ : ∃ f, (D.N - 2).toNat - k = f + 1 := ⟨(D.N - 2).toNat - k - 1, by omega⟩
      rw [hf]
      show (bif decide (s.st + (k : Int) < 1073741824) then _ else _) = _
      rw [decide_eq_false (by omega)]; rfl
    · rw [show (D.N - 2).toNat - k = 0 by omega]; rfl
  have go_step : ∀ (k : Nat) (r : RS), (k : Int) < D.N - 2 ∧ s.st + k < 1073741824 → readGo D s ((D.N - 2).toNat - k) (s.st + k) r = match stepR D s (s.st + k) r with
      | none => (true, r)
      | some r' => readGo D s ((D.N - 2).toNat - (k + 1)) (s.st + ((k + 1 : Nat) : Int)) r' := fun k r hn => by
    obtain ⟨f, hf⟩ : ∃ f, (D.N - 2).toNat - k = f + 1 := ⟨(D.N - 2).toNat - k - 1, by omega⟩
    rw [hf]
    show (bif decide (s.st + (k : Int) < 1073741824) then _ else _) = _
    rw [decide_eq_true hn.2, cond_true, show (D.N - 2).toNat - (k + 1) = f by omega, show s.st + ((k + 1 : Nat) : Int) = s.st + (k : Int) + 1 by omega]
  have okS : ∀ x, Inv x → (S x).h.ok := fun x _ => by
    obtain ⟨q, k⟩ := x
    cases q with
    | none => exact heap_ok [6, 5, 4, 3, 2, 1, 0] rfl (by decide) (by decide)
    | some q => exact heap_ok [7, 6, 5, 4, 3, 2, 1, 0] rfl (by decide) (by decide)
  have okT : ∀ r, (stop89 D r).h.ok := fun r => heap_ok [4, 3, 2, 1, 0] rfl (by decide) (by decide)
  have key := loop_tripleP hX [0,3,4,5,6] [0] (T := Option (RS × Int × Bool × Nat × Nat) × Nat) S Inv (fun x => (D.N - 2).toNat - x.2 + (match x.1 with | none => 1 | some _ => 0)) fin okS (fun x hi => by
    obtain ⟨q, k⟩ := x
    cases q with
    | none =>
      replace hi : k = 0 := hi
      obtain ⟨st1, st2⟩ := Try.step_a (nx := nx) hD h0 h1 hi
      by_cases hn : (k : Int) < D.N - 2 ∧ s.st + k < 1073741824
      · obtain ⟨st3, st4⟩ := st2 hn
        have gs := go_step k (r0 nx) hn
        cases hr : stepR D s (s.st + k) (r0 nx) with
        | none =>
          rw [hr] at gs
          refine .inr ⟨stop89 D (r0 nx), ?_, ?_, ?_⟩
          · show Try.B89 (S89a D s nx (s.st + k)) = some ((out89 D (readGo D s ((D.N - 2).toNat - k) (s.st + k) (r0 nx))).1, _)
            rw [gs]
            exact st3 hr
          · show WeakP 3 _ (out89 D (readGo D s ((D.N - 2).toNat - k) (s.st + k) (r0 nx))).2
            rw [gs]
            exact WeakP.refl (okT _)
          · show (out89 D (readGo D s ((D.N - 2).toNat - k) (s.st + k) (r0 nx))).1 ≠ .normal
            rw [gs]
            intro h; cases h
        | some r' =>
          rw [hr] at gs
          obtain ⟨s2, k1, k2⟩ := st4 r' hr
          obtain ⟨i1, i2, i3, i4⟩ := stepR_inv hD (by omega) (by rfl) hr
          have hok : okD (secOf D.N D.B (s.st + k)) (s.st + k) = true := by
            cases hq : okD (secOf D.N D.B (s.st + k)) (s.st + k) with
            | true => rfl
            | false => unfold stepR at hr; rw [hq, Bool.false_and, cond_false] at hr; cases hr
          obtain ⟨n46, _, _, p64, _⟩ := okD_facts hD (by omega) hok
          refine .inl ⟨(some (r', s.st + k, fOf (secOf D.N D.B (s.st + k)), (placeI D.N (s.st + k)).toNat * 64 + 10, nOf (secOf D.N D.B (s.st + k))), k + 1), s2, k1, k2, ?_, ?_, ?_⟩
          · refine ⟨by show ((k + 1 : Nat) : Int) ≤ _; omega, by show s.st + ((k + 1 : Nat) : Int) ≤ _; omega, by show (placeI D.N (s.st + k)).toNat * 64 + 10 + nOf _ ≤ _; omega, ?_, ?_, ?_, i4⟩
            · have : r'.L.length ≤ 0 + 1 := i1
              show r'.L.length ≤ k + 1; omega
            · have : r'.E.length ≤ 0 + 1 := i2
              show r'.E.length ≤ k + 1; omega
            · have : r'.b.length ≤ 0 + 46 := i3
              show r'.b.length ≤ 46 * (k + 1); omega
          · show (D.N - 2).toNat - (k + 1) + 0 < (D.N - 2).toNat - k + 1
            omega
          · show out89 D (readGo D s ((D.N - 2).toNat - (k + 1)) (s.st + ((k + 1 : Nat) : Int)) r') = out89 D (readGo D s ((D.N - 2).toNat - k) (s.st + k) (r0 nx))
            rw [gs]
      · have gs := go_stop k (r0 nx) hn
        refine .inr ⟨stop89 D (r0 nx), ?_, ?_, ?_⟩
        · show Try.B89 (S89a D s nx (s.st + k)) = some ((out89 D (readGo D s ((D.N - 2).toNat - k) (s.st + k) (r0 nx))).1, _)
          rw [gs]
          exact st1 hn
        · show WeakP 3 _ (out89 D (readGo D s ((D.N - 2).toNat - k) (s.st + k) (r0 nx))).2
          rw [gs]
          exact WeakP.refl (okT _)
        · show (out89 D (readGo D s ((D.N - 2).toNat - k) (s.st + k) (r0 nx))).1 ≠ .normal
          rw [gs]
          intro h; cases h
    | some q =>
      obtain ⟨r, sw, fw, o, n⟩ := q
      obtain ⟨j1, j2, j3, j4, j5, j6, j7⟩ : (k : Int) ≤ D.N - 2 ∧ s.st + k ≤ 1073741824 ∧ o + n ≤ D.B.length ∧ r.L.length ≤ k ∧ r.E.length ≤ k ∧ r.b.length ≤ 46 * k ∧ bytesOk r.b = true := hi
      obtain ⟨st1, st2⟩ := Try.step_b (sw := sw) (fw := fw) hD h0 h1 j1 j3 j4 j5 j6 j7
      by_cases hn : (k : Int) < D.N - 2 ∧ s.st + k < 1073741824
      · obtain ⟨st3, st4⟩ := st2 hn
        have gs := go_step k r hn
        cases hr : stepR D s (s.st + k) r with
        | none =>
          rw [hr] at gs
          refine .inr ⟨stop89 D r, ?_, ?_, ?_⟩
          · show Try.B89 (S89b D s r sw fw o n (s.st + k)) = some ((out89 D (readGo D s ((D.N - 2).toNat - k) (s.st + k) r)).1, _)
            rw [gs]
            exact st3 hr
          · show WeakP 3 _ (out89 D (readGo D s ((D.N - 2).toNat - k) (s.st + k) r)).2
            rw [gs]
            exact WeakP.refl (okT _)
          · show (out89 D (readGo D s ((D.N - 2).toNat - k) (s.st + k) r)).1 ≠ .normal
            rw [gs]
            intro h; cases h
        | some r' =>
          rw [hr] at gs
          obtain ⟨s2, k1, k2⟩ := st4 r' hr
          obtain ⟨i1, i2, i3, i4⟩ := stepR_inv hD (by omega) j7 hr
          have hok : okD (secOf D.N D.B (s.st + k)) (s.st + k) = true := by
            cases hq : okD (secOf D.N D.B (s.st + k)) (s.st + k) with
            | true => rfl
            | false => unfold stepR at hr; rw [hq, Bool.false_and, cond_false] at hr; cases hr
          obtain ⟨n46, _, _, p64, _⟩ := okD_facts hD (by omega) hok
          refine .inl ⟨(some (r', s.st + k, fOf (secOf D.N D.B (s.st + k)), (placeI D.N (s.st + k)).toNat * 64 + 10, nOf (secOf D.N D.B (s.st + k))), k + 1), s2, k1, k2, ?_, ?_, ?_⟩
          · exact ⟨by show ((k + 1 : Nat) : Int) ≤ _; omega, by show s.st + ((k + 1 : Nat) : Int) ≤ _; omega, by show (placeI D.N (s.st + k)).toNat * 64 + 10 + nOf _ ≤ _; omega, by show r'.L.length ≤ k + 1; omega, by show r'.E.length ≤ k + 1; omega, by show r'.b.length ≤ 46 * (k + 1); omega, i4⟩
          · show (D.N - 2).toNat - (k + 1) + 0 < (D.N - 2).toNat - k + 0
            omega
          · show out89 D (readGo D s ((D.N - 2).toNat - (k + 1)) (s.st + ((k + 1 : Nat) : Int)) r') = out89 D (readGo D s ((D.N - 2).toNat - k) (s.st + k) r)
            rw [gs]
      · have gs := go_stop k r hn
        refine .inr ⟨stop89 D r, ?_, ?_, ?_⟩
        · show Try.B89 (S89b D s r sw fw o n (s.st + k)) = some ((out89 D (readGo D s ((D.N - 2).toNat - k) (s.st + k) r)).1, _)
          rw [gs]
          exact st1 hn
        · show WeakP 3 _ (out89 D (readGo D s ((D.N - 2).toNat - k) (s.st + k) r)).2
          rw [gs]
          exact WeakP.refl (okT _)
        · show (out89 D (readGo D s ((D.N - 2).toNat - k) (s.st + k) r)).1 ≠ .normal
          rw [gs]
          intro h; cases h) (none, 0) rfl
  have e1 : fin (none, 0) = out89 D (readD0 D s nx) := by
    show out89 D (readGo D s ((D.N - 2).toNat - 0) (s.st + ((0 : Nat) : Int)) (r0 nx)) = _
    unfold readD0
    rw [Nat.sub_zero, show s.st + ((0 : Nat) : Int) = s.st by simp]
  rw [e1, hA] at key
  have e2 : S (none, 0) = S89a D s nx s.st := by
    show S89a D s nx (s.st + ((0 : Nat) : Int)) = _
    rw [show s.st + ((0 : Nat) : Int) = s.st by simp]
  rw [e2] at key
  exact TripleP.weak (N89_weak D s nx s.st) key
def rdH (D : OD) (nx : Int) : Heap := ⟨3, [⟨2, 0, .cells (SW.con [])⟩, ⟨1, 0, .cells (.ints .u8 D.B)⟩, ⟨0, 0, .cells (.rows false 15 [orow D nx (.val (.slice none 0 0)) (.val (.slice none 0 0))])⟩]⟩
def suA (s : SU) : AV := .agg (suRow s)
theorem Try.w89 (D : OD) (s : SU) (nx : Int) : rootE Try.E89 6 89 3 (lsumsOf [(4, Try.L89 D s nx)]) [.ptr 0 0 0, suA s] (rdH D nx) =
 bif isSt (N89 D s nx s.st) (N89 D s nx s.st) then
 bif okOD D && (decide (0 ≤ s.st) && decide (s.st ≤ 1073741824)) then
 bif (readD0 D s nx).fst then
 some (.tup [], ⟨5, [⟨4, 0, .cells (.ints .i64 ((readD0 D s nx).snd.E))⟩, ⟨3, 0, .cells (EN.con (readD0 D s nx).snd.L)⟩, ⟨2, 0, .cells (.tab 2 (0) (fun i => SW.row ([].getD i SW.z)))⟩, ⟨1, 0, .cells (.ints .u8 (D.B))⟩, ⟨0, 0, .cells (.rows false 15 ([.val (.int .i64 (D.N)), .own 1 0 (D.B.length) none 1, .own 2 0 (0) none 2, .val (D.y1), .val (D.y2), .val (D.y3), .val (D.y4), .val (D.y5), .val (D.y6), .val (D.y7), .val (D.y8), .val (D.y9), .val (.int .i64 ((readD0 D s nx).snd.nx)), .own 3 0 ((readD0 D s nx).snd.L.length) none 5, .own 4 0 ((readD0 D s nx).snd.E.length) none 1] :: []))⟩]⟩)
 else
 some (.tup [], ⟨5, [⟨4, 0, .cells (.ints .i64 ((readD0 D s nx).snd.E))⟩, ⟨3, 0, .cells (EN.con (readD0 D s nx).snd.L)⟩, ⟨2, 0, .cells (.tab 2 (0) (fun i => SW.row ([].getD i SW.z)))⟩, ⟨1, 0, .cells (.ints .u8 (D.B))⟩, ⟨0, 0, .cells (.rows false 15 ([.val (.int .i64 (D.N)), .own 1 0 (D.B.length) none 1, .own 2 0 (0) none 2, .val (D.y1), .val (D.y2), .val (D.y3), .val (D.y4), .val (D.y5), .val (D.y6), .val (D.y7), .val (D.y8), .val (D.y9), .val (.int .i64 ((readD0 D s nx).snd.nx)), .own 3 0 ((readD0 D s nx).snd.L.length) none 5, .own 4 0 ((readD0 D s nx).snd.E.length) none 1] :: []))⟩]⟩)
 else
 none
 else
 none := by kernel_rfl
def Try.F89 (D : OD) (s : SU) (nx : Int) (args : List AV) (h : Heap) : Ans (AV × Heap) := .grd (isAH args h [.ptr 0 0 0, suA s] (rdH D nx)) (.grd (okOD D && (decide (0 ≤ s.st) && decide (s.st ≤ 1073741824))) (.out (.tup [], ⟨5, e89h D (readD0 D s nx).2.L (readD0 D s nx).2.E (readD0 D s nx).2.nx⟩)))
def Try.A89 (D : OD) (s : SU) (nx : Int) : AFun := effA (Try.F89 D s nx)
theorem rdH_ok (D : OD) (nx : Int) : (rdH D nx).ok := heap_ok [2, 1, 0] rfl (by decide) (by decide)
theorem Try.sum89 (D : OD) (s : SU) (nx : Int) : SumC Try.prog 89 (Try.A89 D s nx) := by
  refine effSumR 89 ⟨Try.f89, _, Try.fnOk89.1, Try.fnOk89.2, rfl⟩ ?_
  intro args h v h2 hok hs
  unfold Try.F89 at hs
  rw [Ans.run_grd, Ans.run_grd] at hs
  cases hb : isAH args h [.ptr 0 0 0, suA s] (rdH D nx) with
  | false => rw [hb] at hs; cases hs
  | true =>
  rw [hb, cond_true] at hs
  obtain ⟨rfl, rfl⟩ := isAH_eq hb
  cases hd : (okOD D && (decide (0 ≤ s.st) && decide (s.st ≤ 1073741824))) with
  | false => rw [hd] at hs; cases hs
  | true =>
  rw [hd, cond_true] at hs
  have hs := Option.some.inj hs
  refine rootE_alone Try.e89 (d := 6) (g := 89) (p := 3) (ls := lsumsOf [(4, Try.L89 D s nx)]) (AllL.of1 (a := Try.b89) (by kernel_rfl) (LsOkP.of rfl rfl (Try.l89 D s nx))) (rdH_ok D nx) ((Try.w89 D s nx).trans ?_)
  rw [isSt_refl, hd, ← hs]
  cases (readD0 D s nx).1 <;> rfl
end Go.Ev
/- Journals: superblocks. -/
namespace Go.Ev
open Go.Proofs
def Try.t88 : List (Nat × AFun) := [(60, Try.A60), (100, Try.A100), (111, Try.A111)]
def Try.E88 : Env := Try.env0 false (sumsOf Try.t88) (keepF 0 [])
theorem Try.e88 : EnvOk2 Try.prog Try.E88 := Try.envOk false (sumsOf Try.t88) _ (sumsOf_ok (show AllS Try.prog Try.t88 from ⟨Try.sum60, Try.sum100, Try.sum111, trivial⟩))
theorem Try.w88 (D : OD) (nx : Int) : rootE Try.E88 6 88 3 (lsumsOf []) [.ptr 0 0 0] (rdH D nx) =
 bif decide (64 ≤ (↑(D.B.length - 0) : Int)) then
 bif Nat.ble 64 D.B.length && true then
 bif bytesOk (List.take 64 (List.drop 0 D.B)) && (Nat.ble 4 (List.take 64 (List.drop 0 D.B)).length && true) then
 bif Nat.ble 64 D.B.length && true then
 bif bytesOk (List.take 64 (List.drop 0 D.B)) && (Nat.ble 12 (List.take 64 (List.drop 0 D.B)).length && true) then
 bif Nat.ble 64 D.B.length && true then
 bif bytesOk (List.take 64 (List.drop 0 D.B)) && (Nat.ble 16 (List.take 64 (List.drop 0 D.B)).length && true) then
 bif Nat.ble 64 D.B.length && true then
 bif bytesOk (List.take 64 (List.drop 0 D.B)) && (Nat.ble 20 (List.take 64 (List.drop 0 D.B)).length && true) then
 bif decide (wdB (List.take 64 (List.drop 0 D.B)) 0 < 1) then
 bif decide (64 ≤ (↑D.B.length : Int)) then
 bif decide (64 ≤ (↑(D.B.length - 64) : Int)) then
 bif Nat.ble 128 D.B.length && true then
 bif bytesOk (List.take 64 (List.drop 64 D.B)) && (Nat.ble 4 (List.take 64 (List.drop 64 D.B)).length && true) then
 bif Nat.ble 128 D.B.length && true then
 bif bytesOk (List.take 64 (List.drop 64 D.B)) && (Nat.ble 12 (List.take 64 (List.drop 64 D.B)).length && true) then
 bif Nat.ble 128 D.B.length && true then
 bif bytesOk (List.take 64 (List.drop 64 D.B)) && (Nat.ble 16 (List.take 64 (List.drop 64 D.B)).length && true) then
 bif Nat.ble 128 D.B.length && true then
 bif bytesOk (List.take 64 (List.drop 64 D.B)) && (Nat.ble 20 (List.take 64 (List.drop 64 D.B)).length && true) then
 bif decide (wdB (List.take 64 (List.drop 64 D.B)) 0 < 1) then
 some (.tup [.agg [.val (.int .i64 0), .val (.int .i64 0), .val (.int .i64 0), .val (.int .i64 0)], .val (.bool false)], (rdH D nx))
 else
 bif decide (wdB (List.take 64 (List.drop 64 D.B)) 8 < 1) then
 some (.tup [.agg [.val (.int .i64 0), .val (.int .i64 0), .val (.int .i64 0), .val (.int .i64 0)], .val (.bool false)], (rdH D nx))
 else
 bif (wdB (List.take 64 (List.drop 64 D.B)) 0).tmod 2 != 1 then
 some (.tup [.agg [.val (.int .i64 0), .val (.int .i64 0), .val (.int .i64 0), .val (.int .i64 0)], .val (.bool false)], (rdH D nx))
 else
 bif decide ((if wdB (List.take 64 (List.drop 64 D.B)) 16 > if wdB (List.take 64 (List.drop 64 D.B)) 12 > if wdB (List.take 64 (List.drop 64 D.B)) 8 > wdB (List.take 64 (List.drop 64 D.B)) 0 then wdB (List.take 64 (List.drop 64 D.B)) 8 else wdB (List.take 64 (List.drop 64 D.B)) 0 then wdB (List.take 64 (List.drop 64 D.B)) 12 else if wdB (List.take 64 (List.drop 64 D.B)) 8 > wdB (List.take 64 (List.drop 64 D.B)) 0 then wdB (List.take 64 (List.drop 64 D.B)) 8 else wdB (List.take 64 (List.drop 64 D.B)) 0 then wdB (List.take 64 (List.drop 64 D.B)) 16 else if wdB (List.take 64 (List.drop 64 D.B)) 12 > if wdB (List.take 64 (List.drop 64 D.B)) 8 > wdB (List.take 64 (List.drop 64 D.B)) 0 then wdB (List.take 64 (List.drop 64 D.B)) 8 else wdB (List.take 64 (List.drop 64 D.B)) 0 then wdB (List.take 64 (List.drop 64 D.B)) 12 else if wdB (List.take 64 (List.drop 64 D.B)) 8 > wdB (List.take 64 (List.drop 64 D.B)) 0 then wdB (List.take 64 (List.drop 64 D.B)) 8 else wdB (List.take 64 (List.drop 64 D.B)) 0) > 1073741824) then
 some (.tup [.agg [.val (.int .i64 0), .val (.int .i64 0), .val (.int .i64 0), .val (.int .i64 0)], .val (.bool false)], (rdH D nx))
 else
 bif Nat.ble 128 D.B.length && true then
 bif (List.take 64 (List.drop 64 D.B)).length.ble 1000000 then
 bif decide (List.take 64 (List.drop 64 D.B) = [IntKind.u8.wrap (wdB (List.take 64 (List.drop 64 D.B)) 0), IntKind.u8.wrap ((wdB (List.take 64 (List.drop 64 D.B)) 0).fdiv 256), IntKind.u8.wrap ((wdB (List.take 64 (List.drop 64 D.B)) 0).fdiv 65536), IntKind.u8.wrap ((wdB (List.take 64 (List.drop 64 D.B)) 0).fdiv 16777216), 67, 74, 83, 66, IntKind.u8.wrap (wdB (List.take 64 (List.drop 64 D.B)) 8), IntKind.u8.wrap ((wdB (List.take 64 (List.drop 64 D.B)) 8).fdiv 256), IntKind.u8.wrap ((wdB (List.take 64 (List.drop 64 D.B)) 8).fdiv 65536), IntKind.u8.wrap ((wdB (List.take 64 (List.drop 64 D.B)) 8).fdiv 16777216), IntKind.u8.wrap (wdB (List.take 64 (List.drop 64 D.B)) 12), IntKind.u8.wrap ((wdB (List.take 64 (List.drop 64 D.B)) 12).fdiv 256), IntKind.u8.wrap ((wdB (List.take 64 (List.drop 64 D.B)) 12).fdiv 65536), IntKind.u8.wrap ((wdB (List.take 64 (List.drop 64 D.B)) 12).fdiv 16777216), IntKind.u8.wrap (wdB (List.take 64 (List.drop 64 D.B)) 16), IntKind.u8.wrap ((wdB (List.take 64 (List.drop 64 D.B)) 16).fdiv 256), IntKind.u8.wrap ((wdB (List.take 64 (List.drop 64 D.B)) 16).fdiv 65536), IntKind.u8.wrap ((wdB (List.take 64 (List.drop 64 D.B)) 16).fdiv 16777216), 0, 0, 0, 0, 0, 0, 0, 0, 0, 0, 0, 0, 0, 0, 0, 0, 0, 0, 0, 0, 0, 0, 0, 0, 0, 0, 0, 0, 0, 0, 0, 0, 0, 0, 0, 0, IntKind.u8.wrap (wdB (List.take 64 (List.drop 64 D.B)) 0), IntKind.u8.wrap ((wdB (List.take 64 (List.drop 64 D.B)) 0).fdiv 256), IntKind.u8.wrap ((wdB (List.take 64 (List.drop 64 D.B)) 0).fdiv 65536), IntKind.u8.wrap ((wdB (List.take 64 (List.drop 64 D.B)) 0).fdiv 16777216), 67, 74, 83, 66]) then
 bif decide (wdB (List.take 64 (List.drop 64 D.B)) 0 > 0) then
 some (.tup [.agg [.val (.int .i64 (wdB (List.take 64 (List.drop 64 D.B)) 0)), .val (.int .i64 (wdB (List.take 64 (List.drop 64 D.B)) 8)), .val (.int .i64 (wdB (List.take 64 (List.drop 64 D.B)) 12)), .val (.int .i64 (wdB (List.take 64 (List.drop 64 D.B)) 16))], .val (.bool true)], (rdH D nx))
 else
 some (.tup [.agg [.val (.int .i64 0), .val (.int .i64 0), .val (.int .i64 0), .val (.int .i64 0)], .val (.bool false)], (rdH D nx))
 else
 some (.tup [.agg [.val (.int .i64 0), .val (.int .i64 0), .val (.int .i64 0), .val (.int .i64 0)], .val (.bool false)], (rdH D nx))
 else
 none
 else
 none
 else
 none
 else
 none
 else
 none
 else
 none
 else
 none
 else
 none
 else
 none
 else
 none
 else
 none
 else
 none
 else
 bif decide (wdB (List.take 64 (List.drop 0 D.B)) 8 < 1) then
 bif decide (64 ≤ (↑D.B.length : Int)) then
 bif decide (64 ≤ (↑(D.B.length - 64) : Int)) then
 bif Nat.ble 128 D.B.length && true then
 bif bytesOk (List.take 64 (List.drop 64 D.B)) && (Nat.ble 4 (List.take 64 (List.drop 64 D.B)).length && true) then
 bif Nat.ble 128 D.B.length && true then
 bif bytesOk (List.take 64 (List.drop 64 D.B)) && (Nat.ble 12 (List.take 64 (List.drop 64 D.B)).length && true) then
 bif Nat.ble 128 D.B.length && true then
 bif bytesOk (List.take 64 (List.drop 64 D.B)) && (Nat.ble 16 (List.take 64 (List.drop 64 D.B)).length && true) then
 bif Nat.ble 128 D.B.length && true then
 bif bytesOk (List.take 64 (List.drop 64 D.B)) && (Nat.ble 20 (List.take 64 (List.drop 64 D.B)).length && true) then
 bif decide (wdB (List.take 64 (List.drop 64 D.B)) 0 < 1) then
 some (.tup [.agg [.val (.int .i64 0), .val (.int .i64 0), .val (.int .i64 0), .val (.int .i64 0)], .val (.bool false)], (rdH D nx))
 else
 bif decide (wdB (List.take 64 (List.drop 64 D.B)) 8 < 1) then
 some (.tup [.agg [.val (.int .i64 0), .val (.int .i64 0), .val (.int .i64 0), .val (.int .i64 0)], .val (.bool false)], (rdH D nx))
 else
 bif (wdB (List.take 64 (List.drop 64 D.B)) 0).tmod 2 != 1 then
 some (.tup [.agg [.val (.int .i64 0), .val (.int .i64 0), .val (.int .i64 0), .val (.int .i64 0)], .val (.bool false)], (rdH D nx))
 else
 bif decide ((if wdB (List.take 64 (List.drop 64 D.B)) 16 > if wdB (List.take 64 (List.drop 64 D.B)) 12 > if wdB (List.take 64 (List.drop 64 D.B)) 8 > wdB (List.take 64 (List.drop 64 D.B)) 0 then wdB (List.take 64 (List.drop 64 D.B)) 8 else wdB (List.take 64 (List.drop 64 D.B)) 0 then wdB (List.take 64 (List.drop 64 D.B)) 12 else if wdB (List.take 64 (List.drop 64 D.B)) 8 > wdB (List.take 64 (List.drop 64 D.B)) 0 then wdB (List.take 64 (List.drop 64 D.B)) 8 else wdB (List.take 64 (List.drop 64 D.B)) 0 then wdB (List.take 64 (List.drop 64 D.B)) 16 else if wdB (List.take 64 (List.drop 64 D.B)) 12 > if wdB (List.take 64 (List.drop 64 D.B)) 8 > wdB (List.take 64 (List.drop 64 D.B)) 0 then wdB (List.take 64 (List.drop 64 D.B)) 8 else wdB (List.take 64 (List.drop 64 D.B)) 0 then wdB (List.take 64 (List.drop 64 D.B)) 12 else if wdB (List.take 64 (List.drop 64 D.B)) 8 > wdB (List.take 64 (List.drop 64 D.B)) 0 then wdB (List.take 64 (List.drop 64 D.B)) 8 else wdB (List.take 64 (List.drop 64 D.B)) 0) > 1073741824) then
 some (.tup [.agg [.val (.int .i64 0), .val (.int .i64 0), .val (.int .i64 0), .val (.int .i64 0)], .val (.bool false)], (rdH D nx))
 else
 bif Nat.ble 128 D.B.length && true then
 bif (List.take 64 (List.drop 64 D.B)).length.ble 1000000 then
 bif decide (List.take 64 (List.drop 64 D.B) = [IntKind.u8.wrap (wdB (List.take 64 (List.drop 64 D.B)) 0), IntKind.u8.wrap ((wdB (List.take 64 (List.drop 64 D.B)) 0).fdiv 256), IntKind.u8.wrap ((wdB (List.take 64 (List.drop 64 D.B)) 0).fdiv 65536), IntKind.u8.wrap ((wdB (List.take 64 (List.drop 64 D.B)) 0).fdiv 16777216), 67, 74, 83, 66, IntKind.u8.wrap (wdB (List.take 64 (List.drop 64 D.B)) 8), IntKind.u8.wrap ((wdB (List.take 64 (List.drop 64 D.B)) 8).fdiv 256), IntKind.u8.wrap ((wdB (List.take 64 (List.drop 64 D.B)) 8).fdiv 65536), IntKind.u8.wrap ((wdB (List.take 64 (List.drop 64 D.B)) 8).fdiv 16777216), IntKind.u8.wrap (wdB (List.take 64 (List.drop 64 D.B)) 12), IntKind.u8.wrap ((wdB (List.take 64 (List.drop 64 D.B)) 12).fdiv 256), IntKind.u8.wrap ((wdB (List.take 64 (List.drop 64 D.B)) 12).fdiv 65536), IntKind.u8.wrap ((wdB (List.take 64 (List.drop 64 D.B)) 12).fdiv 16777216), IntKind.u8.wrap (wdB (List.take 64 (List.drop 64 D.B)) 16), IntKind.u8.wrap ((wdB (List.take 64 (List.drop 64 D.B)) 16).fdiv 256), IntKind.u8.wrap ((wdB (List.take 64 (List.drop 64 D.B)) 16).fdiv 65536), IntKind.u8.wrap ((wdB (List.take 64 (List.drop 64 D.B)) 16).fdiv 16777216), 0, 0, 0, 0, 0, 0, 0, 0, 0, 0, 0, 0, 0, 0, 0, 0, 0, 0, 0, 0, 0, 0, 0, 0, 0, 0, 0, 0, 0, 0, 0, 0, 0, 0, 0, 0, IntKind.u8.wrap (wdB (List.take 64 (List.drop 64 D.B)) 0), IntKind.u8.wrap ((wdB (List.take 64 (List.drop 64 D.B)) 0).fdiv 256), IntKind.u8.wrap ((wdB (List.take 64 (List.drop 64 D.B)) 0).fdiv 65536), IntKind.u8.wrap ((wdB (List.take 64 (List.drop 64 D.B)) 0).fdiv 16777216), 67, 74, 83, 66]) then
 bif decide (wdB (List.take 64 (List.drop 64 D.B)) 0 > 0) then
 some (.tup [.agg [.val (.int .i64 (wdB (List.take 64 (List.drop 64 D.B)) 0)), .val (.int .i64 (wdB (List.take 64 (List.drop 64 D.B)) 8)), .val (.int .i64 (wdB (List.take 64 (List.drop 64 D.B)) 12)), .val (.int .i64 (wdB (List.take 64 (List.drop 64 D.B)) 16))], .val (.bool true)], (rdH D nx))
 else
 some (.tup [.agg [.val (.int .i64 0), .val (.int .i64 0), .val (.int .i64 0), .val (.int .i64 0)], .val (.bool false)], (rdH D nx))
 else
 some (.tup [.agg [.val (.int .i64 0), .val (.int .i64 0), .val (.int .i64 0), .val (.int .i64 0)], .val (.bool false)], (rdH D nx))
 else
 none
 else
 none
 else
 none
 else
 none
 else
 none
 else
 none
 else
 none
 else
 none
 else
 none
 else
 none
 else
 none
 else
 none
 else
 bif (wdB (List.take 64 (List.drop 0 D.B)) 0).tmod 2 != 0 then
 bif decide (64 ≤ (↑D.B.length : Int)) then
 bif decide (64 ≤ (↑(D.B.length - 64) : Int)) then
 bif Nat.ble 128 D.B.length && true then
 bif bytesOk (List.take 64 (List.drop 64 D.B)) && (Nat.ble 4 (List.take 64 (List.drop 64 D.B)).length && true) then
 bif Nat.ble 128 D.B.length && true then
 bif bytesOk (List.take 64 (List.drop 64 D.B)) && (Nat.ble 12 (List.take 64 (List.drop 64 D.B)).length && true) then
 bif Nat.ble 128 D.B.length && true then
 bif bytesOk (List.take 64 (List.drop 64 D.B)) && (Nat.ble 16 (List.take 64 (List.drop 64 D.B)).length && true) then
 bif Nat.ble 128 D.B.length && true then
 bif bytesOk (List.take 64 (List.drop 64 D.B)) && (Nat.ble 20 (List.take 64 (List.drop 64 D.B)).length && true) then
 bif decide (wdB (List.take 64 (List.drop 64 D.B)) 0 < 1) then
 some (.tup [.agg [.val (.int .i64 0), .val (.int .i64 0), .val (.int .i64 0), .val (.int .i64 0)], .val (.bool false)], (rdH D nx))
 else
 bif decide (wdB (List.take 64 (List.drop 64 D.B)) 8 < 1) then
 some (.tup [.agg [.val (.int .i64 0), .val (.int .i64 0), .val (.int .i64 0), .val (.int .i64 0)], .val (.bool false)], (rdH D nx))
 else
 bif (wdB (List.take 64 (List.drop 64 D.B)) 0).tmod 2 != 1 then
 some (.tup [.agg [.val (.int .i64 0), .val (.int .i64 0), .val (.int .i64 0), .val (.int .i64 0)], .val (.bool false)], (rdH D nx))
 else
 bif decide ((if wdB (List.take 64 (List.drop 64 D.B)) 16 > if wdB (List.take 64 (List.drop 64 D.B)) 12 > if wdB (List.take 64 (List.drop 64 D.B)) 8 > wdB (List.take 64 (List.drop 64 D.B)) 0 then wdB (List.take 64 (List.drop 64 D.B)) 8 else wdB (List.take 64 (List.drop 64 D.B)) 0 then wdB (List.take 64 (List.drop 64 D.B)) 12 else if wdB (List.take 64 (List.drop 64 D.B)) 8 > wdB (List.take 64 (List.drop 64 D.B)) 0 then wdB (List.take 64 (List.drop 64 D.B)) 8 else wdB (List.take 64 (List.drop 64 D.B)) 0 then wdB (List.take 64 (List.drop 64 D.B)) 16 else if wdB (List.take 64 (List.drop 64 D.B)) 12 > if wdB (List.take 64 (List.drop 64 D.B)) 8 > wdB (List.take 64 (List.drop 64 D.B)) 0 then wdB (List.take 64 (List.drop 64 D.B)) 8 else wdB (List.take 64 (List.drop 64 D.B)) 0 then wdB (List.take 64 (List.drop 64 D.B)) 12 else if wdB (List.take 64 (List.drop 64 D.B)) 8 > wdB (List.take 64 (List.drop 64 D.B)) 0 then wdB (List.take 64 (List.drop 64 D.B)) 8 else wdB (List.take 64 (List.drop 64 D.B)) 0) > 1073741824) then
 some (.tup [.agg [.val (.int .i64 0), .val (.int .i64 0), .val (.int .i64 0), .val (.int .i64 0)], .val (.bool false)], (rdH D nx))
 else
 bif Nat.ble 128 D.B.length && true then
 bif (List.take 64 (List.drop 64 D.B)).length.ble 1000000 then
 bif decide (List.take 64 (List.drop 64 D.B) = [IntKind.u8.wrap (wdB (List.take 64 (List.drop 64 D.B)) 0), IntKind.u8.wrap ((wdB (List.take 64 (List.drop 64 D.B)) 0).fdiv 256), IntKind.u8.wrap ((wdB (List.take 64 (List.drop 64 D.B)) 0).fdiv 65536), IntKind.u8.wrap ((wdB (List.take 64 (List.drop 64 D.B)) 0).fdiv 16777216), 67, 74, 83, 66, IntKind.u8.wrap (wdB (List.take 64 (List.drop 64 D.B)) 8), IntKind.u8.wrap ((wdB (List.take 64 (List.drop 64 D.B)) 8).fdiv 256), IntKind.u8.wrap ((wdB (List.take 64 (List.drop 64 D.B)) 8).fdiv 65536), IntKind.u8.wrap ((wdB (List.take 64 (List.drop 64 D.B)) 8).fdiv 16777216), IntKind.u8.wrap (wdB (List.take 64 (List.drop 64 D.B)) 12), IntKind.u8.wrap ((wdB (List.take 64 (List.drop 64 D.B)) 12).fdiv 256), IntKind.u8.wrap ((wdB (List.take 64 (List.drop 64 D.B)) 12).fdiv 65536), IntKind.u8.wrap ((wdB (List.take 64 (List.drop 64 D.B)) 12).fdiv 16777216), IntKind.u8.wrap (wdB (List.take 64 (List.drop 64 D.B)) 16), IntKind.u8.wrap ((wdB (List.take 64 (List.drop 64 D.B)) 16).fdiv 256), IntKind.u8.wrap ((wdB (List.take 64 (List.drop 64 D.B)) 16).fdiv 65536), IntKind.u8.wrap ((wdB (List.take 64 (List.drop 64 D.B)) 16).fdiv 16777216), 0, 0, 0, 0, 0, 0, 0, 0, 0, 0, 0, 0, 0, 0, 0, 0, 0, 0, 0, 0, 0, 0, 0, 0, 0, 0, 0, 0, 0, 0, 0, 0, 0, 0, 0, 0, IntKind.u8.wrap (wdB (List.take 64 (List.drop 64 D.B)) 0), IntKind.u8.wrap ((wdB (List.take 64 (List.drop 64 D.B)) 0).fdiv 256), IntKind.u8.wrap ((wdB (List.take 64 (List.drop 64 D.B)) 0).fdiv 65536), IntKind.u8.wrap ((wdB (List.take 64 (List.drop 64 D.B)) 0).fdiv 16777216), 67, 74, 83, 66]) then
 bif decide (wdB (List.take 64 (List.drop 64 D.B)) 0 > 0) then
 some (.tup [.agg [.val (.int .i64 (wdB (List.take 64 (List.drop 64 D.B)) 0)), .val (.int .i64 (wdB (List.take 64 (List.drop 64 D.B)) 8)), .val (.int .i64 (wdB (List.take 64 (List.drop 64 D.B)) 12)), .val (.int .i64 (wdB (List.take 64 (List.drop 64 D.B)) 16))], .val (.bool true)], (rdH D nx))
 else
 some (.tup [.agg [.val (.int .i64 0), .val (.int .i64 0), .val (.int .i64 0), .val (.int .i64 0)], .val (.bool false)], (rdH D nx))
 else
 some (.tup [.agg [.val (.int .i64 0), .val (.int .i64 0), .val (.int .i64 0), .val (.int .i64 0)], .val (.bool false)], (rdH D nx))
 else
 none
 else
 none
 else
 none
 else
 none
 else
 none
 else
 none
 else
 none
 else
 none
 else
 none
 else
 none
 else
 none
 else
 none
 else
 bif decide ((if wdB (List.take 64 (List.drop 0 D.B)) 16 > if wdB (List.take 64 (List.drop 0 D.B)) 12 > if wdB (List.take 64 (List.drop 0 D.B)) 8 > wdB (List.take 64 (List.drop 0 D.B)) 0 then wdB (List.take 64 (List.drop 0 D.B)) 8 else wdB (List.take 64 (List.drop 0 D.B)) 0 then wdB (List.take 64 (List.drop 0 D.B)) 12 else if wdB (List.take 64 (List.drop 0 D.B)) 8 > wdB (List.take 64 (List.drop 0 D.B)) 0 then wdB (List.take 64 (List.drop 0 D.B)) 8 else wdB (List.take 64 (List.drop 0 D.B)) 0 then wdB (List.take 64 (List.drop 0 D.B)) 16 else if wdB (List.take 64 (List.drop 0 D.B)) 12 > if wdB (List.take 64 (List.drop 0 D.B)) 8 > wdB (List.take 64 (List.drop 0 D.B)) 0 then wdB (List.take 64 (List.drop 0 D.B)) 8 else wdB (List.take 64 (List.drop 0 D.B)) 0 then wdB (List.take 64 (List.drop 0 D.B)) 12 else if wdB (List.take 64 (List.drop 0 D.B)) 8 > wdB (List.take 64 (List.drop 0 D.B)) 0 then wdB (List.take 64 (List.drop 0 D.B)) 8 else wdB (List.take 64 (List.drop 0 D.B)) 0) > 1073741824) then
 bif decide (64 ≤ (↑D.B.length : Int)) then
 bif decide (64 ≤ (↑(D.B.length - 64) : Int)) then
 bif Nat.ble 128 D.B.length && true then
 bif bytesOk (List.take 64 (List.drop 64 D.B)) && (Nat.ble 4 (List.take 64 (List.drop 64 D.B)).length && true) then
 bif Nat.ble 128 D.B.length && true then
 bif bytesOk (List.take 64 (List.drop 64 D.B)) && (Nat.ble 12 (List.take 64 (List.drop 64 D.B)).length && true) then
 bif Nat.ble 128 D.B.length && true then
 bif bytesOk (List.take 64 (List.drop 64 D.B)) && (Nat.ble 16 (List.take 64 (List.drop 64 D.B)).length && true) then
 bif Nat.ble 128 D.B.length && true then
 bif bytesOk (List.take 64 (List.drop 64 D.B)) && (Nat.ble 20 (List.take 64 (List.drop 64 D.B)).length && true) then
 bif decide (wdB (List.take 64 (List.drop 64 D.B)) 0 < 1) then
 some (.tup [.agg [.val (.int .i64 0), .val (.int .i64 0), .val (.int .i64 0), .val (.int .i64 0)], .val (.bool false)], (rdH D nx))
 else
 bif decide (wdB (List.take 64 (List.drop 64 D.B)) 8 < 1) then
 some (.tup [.agg [.val (.int .i64 0), .val (.int .i64 0), .val (.int .i64 0), .val (.int .i64 0)], .val (.bool false)], (rdH D nx))
 else
 bif (wdB (List.take 64 (List.drop 64 D.B)) 0).tmod 2 != 1 then
 some (.tup [.agg [.val (.int .i64 0), .val (.int .i64 0), .val (.int .i64 0), .val (.int .i64 0)], .val (.bool false)], (rdH D nx))
 else
 bif decide ((if wdB (List.take 64 (List.drop 64 D.B)) 16 > if wdB (List.take 64 (List.drop 64 D.B)) 12 > if wdB (List.take 64 (List.drop 64 D.B)) 8 > wdB (List.take 64 (List.drop 64 D.B)) 0 then wdB (List.take 64 (List.drop 64 D.B)) 8 else wdB (List.take 64 (List.drop 64 D.B)) 0 then wdB (List.take 64 (List.drop 64 D.B)) 12 else if wdB (List.take 64 (List.drop 64 D.B)) 8 > wdB (List.take 64 (List.drop 64 D.B)) 0 then wdB (List.take 64 (List.drop 64 D.B)) 8 else wdB (List.take 64 (List.drop 64 D.B)) 0 then wdB (List.take 64 (List.drop 64 D.B)) 16 else if wdB (List.take 64 (List.drop 64 D.B)) 12 > if wdB (List.take 64 (List.drop 64 D.B)) 8 > wdB (List.take 64 (List.drop 64 D.B)) 0 then wdB (List.take 64 (List.drop 64 D.B)) 8 else wdB (List.take 64 (List.drop 64 D.B)) 0 then wdB (List.take 64 (List.drop 64 D.B)) 12 else if wdB (List.take 64 (List.drop 64 D.B)) 8 > wdB (List.take 64 (List.drop 64 D.B)) 0 then wdB (List.take 64 (List.drop 64 D.B)) 8 else wdB (List.take 64 (List.drop 64 D.B)) 0) > 1073741824) then
 some (.tup [.agg [.val (.int .i64 0), .val (.int .i64 0), .val (.int .i64 0), .val (.int .i64 0)], .val (.bool false)], (rdH D nx))
 else
 bif Nat.ble 128 D.B.length && true then
 bif (List.take 64 (List.drop 64 D.B)).length.ble 1000000 then
 bif decide (List.take 64 (List.drop 64 D.B) = [IntKind.u8.wrap (wdB (List.take 64 (List.drop 64 D.B)) 0), IntKind.u8.wrap ((wdB (List.take 64 (List.drop 64 D.B)) 0).fdiv 256), IntKind.u8.wrap ((wdB (List.take 64 (List.drop 64 D.B)) 0).fdiv 65536), IntKind.u8.wrap ((wdB (List.take 64 (List.drop 64 D.B)) 0).fdiv 16777216), 67, 74, 83, 66, IntKind.u8.wrap (wdB (List.take 64 (List.drop 64 D.B)) 8), IntKind.u8.wrap ((wdB (List.take 64 (List.drop 64 D.B)) 8).fdiv 256), IntKind.u8.wrap ((wdB (List.take 64 (List.drop 64 D.B)) 8).fdiv 65536), IntKind.u8.wrap ((wdB (List.take 64 (List.drop 64 D.B)) 8).fdiv 16777216), IntKind.u8.wrap (wdB (List.take 64 (List.drop 64 D.B)) 12), IntKind.u8.wrap ((wdB (List.take 64 (List.drop 64 D.B)) 12).fdiv 256), IntKind.u8.wrap ((wdB (List.take 64 (List.drop 64 D.B)) 12).fdiv 65536), IntKind.u8.wrap ((wdB (List.take 64 (List.drop 64 D.B)) 12).fdiv 16777216), IntKind.u8.wrap (wdB (List.take 64 (List.drop 64 D.B)) 16), IntKind.u8.wrap ((wdB (List.take 64 (List.drop 64 D.B)) 16).fdiv 256), IntKind.u8.wrap ((wdB (List.take 64 (List.drop 64 D.B)) 16).fdiv 65536), IntKind.u8.wrap ((wdB (List.take 64 (List.drop 64 D.B)) 16).fdiv 16777216), 0, 0, 0, 0, 0, 0, 0, 0, 0, 0, 0, 0, 0, 0, 0, 0, 0, 0, 0, 0, 0, 0, 0, 0, 0, 0, 0, 0, 0, 0, 0, 0, 0, 0, 0, 0, IntKind.u8.wrap (wdB (List.take 64 (List.drop 64 D.B)) 0), IntKind.u8.wrap ((wdB (List.take 64 (List.drop 64 D.B)) 0).fdiv 256), IntKind.u8.wrap ((wdB (List.take 64 (List.drop 64 D.B)) 0).fdiv 65536), IntKind.u8.wrap ((wdB (List.take 64 (List.drop 64 D.B)) 0).fdiv 16777216), 67, 74, 83, 66]) then
 bif decide (wdB (List.take 64 (List.drop 64 D.B)) 0 > 0) then
 some (.tup [.agg [.val (.int .i64 (wdB (List.take 64 (List.drop 64 D.B)) 0)), .val (.int .i64 (wdB (List.take 64 (List.drop 64 D.B)) 8)), .val (.int .i64 (wdB (List.take 64 (List.drop 64 D.B)) 12)), .val (.int .i64 (wdB (List.take 64 (List.drop 64 D.B)) 16))], .val (.bool true)], (rdH D nx))
 else
 some (.tup [.agg [.val (.int .i64 0), .val (.int .i64 0), .val (.int .i64 0), .val (.int .i64 0)], .val (.bool false)], (rdH D nx))
 else
 some (.tup [.agg [.val (.int .i64 0), .val (.int .i64 0), .val (.int .i64 0), .val (.int .i64 0)], .val (.bool false)], (rdH D nx))
 else
 none
 else
 none
 else
 none
 else
 none
 else
 none
 else
 none
 else
 none
 else
 none
 else
 none
 else
 none
 else
 none
 else
 none
 else
 bif Nat.ble 64 D.B.length && true then
 bif (List.take 64 (List.drop 0 D.B)).length.ble 1000000 then
 bif decide (List.take 64 (List.drop 0 D.B) = [IntKind.u8.wrap (wdB (List.take 64 (List.drop 0 D.B)) 0), IntKind.u8.wrap ((wdB (List.take 64 (List.drop 0 D.B)) 0).fdiv 256), IntKind.u8.wrap ((wdB (List.take 64 (List.drop 0 D.B)) 0).fdiv 65536), IntKind.u8.wrap ((wdB (List.take 64 (List.drop 0 D.B)) 0).fdiv 16777216), 67, 74, 83, 66, IntKind.u8.wrap (wdB (List.take 64 (List.drop 0 D.B)) 8), IntKind.u8.wrap ((wdB (List.take 64 (List.drop 0 D.B)) 8).fdiv 256), IntKind.u8.wrap ((wdB (List.take 64 (List.drop 0 D.B)) 8).fdiv 65536), IntKind.u8.wrap ((wdB (List.take 64 (List.drop 0 D.B)) 8).fdiv 16777216), IntKind.u8.wrap (wdB (List.take 64 (List.drop 0 D.B)) 12), IntKind.u8.wrap ((wdB (List.take 64 (List.drop 0 D.B)) 12).fdiv 256), IntKind.u8.wrap ((wdB (List.take 64 (List.drop 0 D.B)) 12).fdiv 65536), IntKind.u8.wrap ((wdB (List.take 64 (List.drop 0 D.B)) 12).fdiv 16777216), IntKind.u8.wrap (wdB (List.take 64 (List.drop 0 D.B)) 16), IntKind.u8.wrap ((wdB (List.take 64 (List.drop 0 D.B)) 16).fdiv 256), IntKind.u8.wrap ((wdB (List.take 64 (List.drop 0 D.B)) 16).fdiv 65536), IntKind.u8.wrap ((wdB (List.take 64 (List.drop 0 D.B)) 16).fdiv 16777216), 0, 0, 0, 0, 0, 0, 0, 0, 0, 0, 0, 0, 0, 0, 0, 0, 0, 0, 0, 0, 0, 0, 0, 0, 0, 0, 0, 0, 0, 0, 0, 0, 0, 0, 0, 0, IntKind.u8.wrap (wdB (List.take 64 (List.drop 0 D.B)) 0), IntKind.u8.wrap ((wdB (List.take 64 (List.drop 0 D.B)) 0).fdiv 256), IntKind.u8.wrap ((wdB (List.take 64 (List.drop 0 D.B)) 0).fdiv 65536), IntKind.u8.wrap ((wdB (List.take 64 (List.drop 0 D.B)) 0).fdiv 16777216), 67, 74, 83, 66]) then
 bif decide (wdB (List.take 64 (List.drop 0 D.B)) 0 > 0) then
 bif decide (64 ≤ (↑D.B.length : Int)) then
 bif decide (64 ≤ (↑(D.B.length - 64) : Int)) then
 bif Nat.ble 128 D.B.length && true then
 bif bytesOk (List.take 64 (List.drop 64 D.B)) && (Nat.ble 4 (List.take 64 (List.drop 64 D.B)).length && true) then
 bif Nat.ble 128 D.B.length && true then
 bif bytesOk (List.take 64 (List.drop 64 D.B)) && (Nat.ble 12 (List.take 64 (List.drop 64 D.B)).length && true) then
 bif Nat.ble 128 D.B.length && true then
 bif bytesOk (List.take 64 (List.drop 64 D.B)) && (Nat.ble 16 (List.take 64 (List.drop 64 D.B)).length && true) then
 bif Nat.ble 128 D.B.length && true then
 bif bytesOk (List.take 64 (List.drop 64 D.B)) && (Nat.ble 20 (List.take 64 (List.drop 64 D.B)).length && true) then
 bif decide (wdB (List.take 64 (List.drop 64 D.B)) 0 < 1) then
 some (.tup [.agg [.val (.int .i64 (wdB (List.take 64 (List.drop 0 D.B)) 0)), .val (.int .i64 (wdB (List.take 64 (List.drop 0 D.B)) 8)), .val (.int .i64 (wdB (List.take 64 (List.drop 0 D.B)) 12)), .val (.int .i64 (wdB (List.take 64 (List.drop 0 D.B)) 16))], .val (.bool true)], (rdH D nx))
 else
 bif decide (wdB (List.take 64 (List.drop 64 D.B)) 8 < 1) then
 some (.tup [.agg [.val (.int .i64 (wdB (List.take 64 (List.drop 0 D.B)) 0)), .val (.int .i64 (wdB (List.take 64 (List.drop 0 D.B)) 8)), .val (.int .i64 (wdB (List.take 64 (List.drop 0 D.B)) 12)), .val (.int .i64 (wdB (List.take 64 (List.drop 0 D.B)) 16))], .val (.bool true)], (rdH D nx))
 else
 bif (wdB (List.take 64 (List.drop 64 D.B)) 0).tmod 2 != 1 then
 some (.tup [.agg [.val (.int .i64 (wdB (List.take 64 (List.drop 0 D.B)) 0)), .val (.int .i64 (wdB (List.take 64 (List.drop 0 D.B)) 8)), .val (.int .i64 (wdB (List.take 64 (List.drop 0 D.B)) 12)), .val (.int .i64 (wdB (List.take 64 (List.drop 0 D.B)) 16))], .val (.bool true)], (rdH D nx))
 else
 bif decide ((if wdB (List.take 64 (List.drop 64 D.B)) 16 > if wdB (List.take 64 (List.drop 64 D.B)) 12 > if wdB (List.take 64 (List.drop 64 D.B)) 8 > wdB (List.take 64 (List.drop 64 D.B)) 0 then wdB (List.take 64 (List.drop 64 D.B)) 8 else wdB (List.take 64 (List.drop 64 D.B)) 0 then wdB (List.take 64 (List.drop 64 D.B)) 12 else if wdB (List.take 64 (List.drop 64 D.B)) 8 > wdB (List.take 64 (List.drop 64 D.B)) 0 then wdB (List.take 64 (List.drop 64 D.B)) 8 else wdB (List.take 64 (List.drop 64 D.B)) 0 then wdB (List.take 64 (List.drop 64 D.B)) 16 else if wdB (List.take 64 (List.drop 64 D.B)) 12 > if wdB (List.take 64 (List.drop 64 D.B)) 8 > wdB (List.take 64 (List.drop 64 D.B)) 0 then wdB (List.take 64 (List.drop 64 D.B)) 8 else wdB (List.take 64 (List.drop 64 D.B)) 0 then wdB (List.take 64 (List.drop 64 D.B)) 12 else if wdB (List.take 64 (List.drop 64 D.B)) 8 > wdB (List.take 64 (List.drop 64 D.B)) 0 then wdB (List.take 64 (List.drop 64 D.B)) 8 else wdB (List.take 64 (List.drop 64 D.B)) 0) > 1073741824) then
 some (.tup [.agg [.val (.int .i64 (wdB (List.take 64 (List.drop 0 D.B)) 0)), .val (.int .i64 (wdB (List.take 64 (List.drop 0 D.B)) 8)), .val (.int .i64 (wdB (List.take 64 (List.drop 0 D.B)) 12)), .val (.int .i64 (wdB (List.take 64 (List.drop 0 D.B)) 16))], .val (.bool true)], (rdH D nx))
 else
 bif Nat.ble 128 D.B.length && true then
 bif (List.take 64 (List.drop 64 D.B)).length.ble 1000000 then
 bif decide (List.take 64 (List.drop 64 D.B) = [IntKind.u8.wrap (wdB (List.take 64 (List.drop 64 D.B)) 0), IntKind.u8.wrap ((wdB (List.take 64 (List.drop 64 D.B)) 0).fdiv 256), IntKind.u8.wrap ((wdB (List.take 64 (List.drop 64 D.B)) 0).fdiv 65536), IntKind.u8.wrap ((wdB (List.take 64 (List.drop 64 D.B)) 0).fdiv 16777216), 67, 74, 83, 66, IntKind.u8.wrap (wdB (List.take 64 (List.drop 64 D.B)) 8), IntKind.u8.wrap ((wdB (List.take 64 (List.drop 64 D.B)) 8).fdiv 256), IntKind.u8.wrap ((wdB (List.take 64 (List.drop 64 D.B)) 8).fdiv 65536), IntKind.u8.wrap ((wdB (List.take 64 (List.drop 64 D.B)) 8).fdiv 16777216), IntKind.u8.wrap (wdB (List.take 64 (List.drop 64 D.B)) 12), IntKind.u8.wrap ((wdB (List.take 64 (List.drop 64 D.B)) 12).fdiv 256), IntKind.u8.wrap ((wdB (List.take 64 (List.drop 64 D.B)) 12).fdiv 65536), IntKind.u8.wrap ((wdB (List.take 64 (List.drop 64 D.B)) 12).fdiv 16777216), IntKind.u8.wrap (wdB (List.take 64 (List.drop 64 D.B)) 16), IntKind.u8.wrap ((wdB (List.take 64 (List.drop 64 D.B)) 16).fdiv 256), IntKind.u8.wrap ((wdB (List.take 64 (List.drop 64 D.B)) 16).fdiv 65536), IntKind.u8.wrap ((wdB (List.take 64 (List.drop 64 D.B)) 16).fdiv 16777216), 0, 0, 0, 0, 0, 0, 0, 0, 0, 0, 0, 0, 0, 0, 0, 0, 0, 0, 0, 0, 0, 0, 0, 0, 0, 0, 0, 0, 0, 0, 0, 0, 0, 0, 0, 0, IntKind.u8.wrap (wdB (List.take 64 (List.drop 64 D.B)) 0), IntKind.u8.wrap ((wdB (List.take 64 (List.drop 64 D.B)) 0).fdiv 256), IntKind.u8.wrap ((wdB (List.take 64 (List.drop 64 D.B)) 0).fdiv 65536), IntKind.u8.wrap ((wdB (List.take 64 (List.drop 64 D.B)) 0).fdiv 16777216), 67, 74, 83, 66]) then
 bif decide (wdB (List.take 64 (List.drop 64 D.B)) 0 > wdB (List.take 64 (List.drop 0 D.B)) 0) then
 some (.tup [.agg [.val (.int .i64 (wdB (List.take 64 (List.drop 64 D.B)) 0)), .val (.int .i64 (wdB (List.take 64 (List.drop 64 D.B)) 8)), .val (.int .i64 (wdB (List.take 64 (List.drop 64 D.B)) 12)), .val (.int .i64 (wdB (List.take 64 (List.drop 64 D.B)) 16))], .val (.bool true)], (rdH D nx))
 else
 some (.tup [.agg [.val (.int .i64 (wdB (List.take 64 (List.drop 0 D.B)) 0)), .val (.int .i64 (wdB (List.take 64 (List.drop 0 D.B)) 8)), .val (.int .i64 (wdB (List.take 64 (List.drop 0 D.B)) 12)), .val (.int .i64 (wdB (List.take 64 (List.drop 0 D.B)) 16))], .val (.bool true)], (rdH D nx))
 else
 some (.tup [.agg [.val (.int .i64 (wdB (List.take 64 (List.drop 0 D.B)) 0)), .val (.int .i64 (wdB (List.take 64 (List.drop 0 D.B)) 8)), .val (.int .i64 (wdB (List.take 64 (List.drop 0 D.B)) 12)), .val (.int .i64 (wdB (List.take 64 (List.drop 0 D.B)) 16))], .val (.bool true)], (rdH D nx))
 else
 none
 else
 none
 else
 none
 else
 none
 else
 none
 else
 none
 else
 none
 else
 none
 else
 none
 else
 none
 else
 none
 else
 none
 else
 bif decide (64 ≤ (↑D.B.length : Int)) then
 bif decide (64 ≤ (↑(D.B.length - 64) : Int)) then
 bif Nat.ble 128 D.B.length && true then
 bif bytesOk (List.take 64 (List.drop 64 D.B)) && (Nat.ble 4 (List.take 64 (List.drop 64 D.B)).length && true) then
 bif Nat.ble 128 D.B.length && true then
 bif bytesOk (List.take 64 (List.drop 64 D.B)) && (Nat.ble 12 (List.take 64 (List.drop 64 D.B)).length && true) then
 bif Nat.ble 128 D.B.length && true then
 bif bytesOk (List.take 64 (List.drop 64 D.B)) && (Nat.ble 16 (List.take 64 (List.drop 64 D.B)).length && true) then
 bif Nat.ble 128 D.B.length && true then
 bif bytesOk (List.take 64 (List.drop 64 D.B)) && (Nat.ble 20 (List.take 64 (List.drop 64 D.B)).length && true) then
 bif decide (wdB (List.take 64 (List.drop 64 D.B)) 0 < 1) then
 some (.tup [.agg [.val (.int .i64 0), .val (.int .i64 0), .val (.int .i64 0), .val (.int .i64 0)], .val (.bool false)], (rdH D nx))
 else
 bif decide (wdB (List.take 64 (List.drop 64 D.B)) 8 < 1) then
 some (.tup [.agg [.val (.int .i64 0), .val (.int .i64 0), .val (.int .i64 0), .val (.int .i64 0)], .val (.bool false)], (rdH D nx))
 else
 bif (wdB (List.take 64 (List.drop 64 D.B)) 0).tmod 2 != 1 then
 some (.tup [.agg [.val (.int .i64 0), .val (.int .i64 0), .val (.int .i64 0), .val (.int .i64 0)], .val (.bool false)], (rdH D nx))
 else
 bif decide ((if wdB (List.take 64 (List.drop 64 D.B)) 16 > if wdB (List.take 64 (List.drop 64 D.B)) 12 > if wdB (List.take 64 (List.drop 64 D.B)) 8 > wdB (List.take 64 (List.drop 64 D.B)) 0 then wdB (List.take 64 (List.drop 64 D.B)) 8 else wdB (List.take 64 (List.drop 64 D.B)) 0 then wdB (List.take 64 (List.drop 64 D.B)) 12 else if wdB (List.take 64 (List.drop 64 D.B)) 8 > wdB (List.take 64 (List.drop 64 D.B)) 0 then wdB (List.take 64 (List.drop 64 D.B)) 8 else wdB (List.take 64 (List.drop 64 D.B)) 0 then wdB (List.take 64 (List.drop 64 D.B)) 16 else if wdB (List.take 64 (List.drop 64 D.B)) 12 > if wdB (List.take 64 (List.drop 64 D.B)) 8 > wdB (List.take 64 (List.drop 64 D.B)) 0 then wdB (List.take 64 (List.drop 64 D.B)) 8 else wdB (List.take 64 (List.drop 64 D.B)) 0 then wdB (List.take 64 (List.drop 64 D.B)) 12 else if wdB (List.take 64 (List.drop 64 D.B)) 8 > wdB (List.take 64 (List.drop 64 D.B)) 0 then wdB (List.take 64 (List.drop 64 D.B)) 8 else wdB (List.take 64 (List.drop 64 D.B)) 0) > 1073741824) then
 some (.tup [.agg [.val (.int .i64 0), .val (.int .i64 0), .val (.int .i64 0), .val (.int .i64 0)], .val (.bool false)], (rdH D nx))
 else
 bif Nat.ble 128 D.B.length && true then
 bif (List.take 64 (List.drop 64 D.B)).length.ble 1000000 then
 bif decide (List.take 64 (List.drop 64 D.B) = [IntKind.u8.wrap (wdB (List.take 64 (List.drop 64 D.B)) 0), IntKind.u8.wrap ((wdB (List.take 64 (List.drop 64 D.B)) 0).fdiv 256), IntKind.u8.wrap ((wdB (List.take 64 (List.drop 64 D.B)) 0).fdiv 65536), IntKind.u8.wrap ((wdB (List.take 64 (List.drop 64 D.B)) 0).fdiv 16777216), 67, 74, 83, 66, IntKind.u8.wrap (wdB (List.take 64 (List.drop 64 D.B)) 8), IntKind.u8.wrap ((wdB (List.take 64 (List.drop 64 D.B)) 8).fdiv 256), IntKind.u8.wrap ((wdB (List.take 64 (List.drop 64 D.B)) 8).fdiv 65536), IntKind.u8.wrap ((wdB (List.take 64 (List.drop 64 D.B)) 8).fdiv 16777216), IntKind.u8.wrap (wdB (List.take 64 (List.drop 64 D.B)) 12), IntKind.u8.wrap ((wdB (List.take 64 (List.drop 64 D.B)) 12).fdiv 256), IntKind.u8.wrap ((wdB (List.take 64 (List.drop 64 D.B)) 12).fdiv 65536), IntKind.u8.wrap ((wdB (List.take 64 (List.drop 64 D.B)) 12).fdiv 16777216), IntKind.u8.wrap (wdB (List.take 64 (List.drop 64 D.B)) 16), IntKind.u8.wrap ((wdB (List.take 64 (List.drop 64 D.B)) 16).fdiv 256), IntKind.u8.wrap ((wdB (List.take 64 (List.drop 64 D.B)) 16).fdiv 65536), IntKind.u8.wrap ((wdB (List.take 64 (List.drop 64 D.B)) 16).fdiv 16777216), 0, 0, 0, 0, 0, 0, 0, 0, 0, 0, 0, 0, 0, 0, 0, 0, 0, 0, 0, 0, 0, 0, 0, 0, 0, 0, 0, 0, 0, 0, 0, 0, 0, 0, 0, 0, IntKind.u8.wrap (wdB (List.take 64 (List.drop 64 D.B)) 0), IntKind.u8.wrap ((wdB (List.take 64 (List.drop 64 D.B)) 0).fdiv 256), IntKind.u8.wrap ((wdB (List.take 64 (List.drop 64 D.B)) 0).fdiv 65536), IntKind.u8.wrap ((wdB (List.take 64 (List.drop 64 D.B)) 0).fdiv 16777216), 67, 74, 83, 66]) then
 bif decide (wdB (List.take 64 (List.drop 64 D.B)) 0 > 0) then
 some (.tup [.agg [.val (.int .i64 (wdB (List.take 64 (List.drop 64 D.B)) 0)), .val (.int .i64 (wdB (List.take 64 (List.drop 64 D.B)) 8)), .val (.int .i64 (wdB (List.take 64 (List.drop 64 D.B)) 12)), .val (.int .i64 (wdB (List.take 64 (List.drop 64 D.B)) 16))], .val (.bool true)], (rdH D nx))
 else
 some (.tup [.agg [.val (.int .i64 0), .val (.int .i64 0), .val (.int .i64 0), .val (.int .i64 0)], .val (.bool false)], (rdH D nx))
 else
 some (.tup [.agg [.val (.int .i64 0), .val (.int .i64 0), .val (.int .i64 0), .val (.int .i64 0)], .val (.bool false)], (rdH D nx))
 else
 none
 else
 none
 else
 none
 else
 none
 else
 none
 else
 none
 else
 none
 else
 none
 else
 none
 else
 none
 else
 none
 else
 none
 else
 bif decide (64 ≤ (↑D.B.length : Int)) then
 bif decide (64 ≤ (↑(D.B.length - 64) : Int)) then
 bif Nat.ble 128 D.B.length && true then
 bif bytesOk (List.take 64 (List.drop 64 D.B)) && (Nat.ble 4 (List.take 64 (List.drop 64 D.B)).length && true) then
 bif Nat.ble 128 D.B.length && true then
 bif bytesOk (List.take 64 (List.drop 64 D.B)) && (Nat.ble 12 (List.take 64 (List.drop 64 D.B)).length && true) then
 bif Nat.ble 128 D.B.length && true then
 bif bytesOk (List.take 64 (List.drop 64 D.B)) && (Nat.ble 16 (List.take 64 (List.drop 64 D.B)).length && true) then
 bif Nat.ble 128 D.B.length && true then
 bif bytesOk (List.take 64 (List.drop 64 D.B)) && (Nat.ble 20 (List.take 64 (List.drop 64 D.B)).length && true) then
 bif decide (wdB (List.take 64 (List.drop 64 D.B)) 0 < 1) then
 some (.tup [.agg [.val (.int .i64 0), .val (.int .i64 0), .val (.int .i64 0), .val (.int .i64 0)], .val (.bool false)], (rdH D nx))
 else
 bif decide (wdB (List.take 64 (List.drop 64 D.B)) 8 < 1) then
 some (.tup [.agg [.val (.int .i64 0), .val (.int .i64 0), .val (.int .i64 0), .val (.int .i64 0)], .val (.bool false)], (rdH D nx))
 else
 bif (wdB (List.take 64 (List.drop 64 D.B)) 0).tmod 2 != 1 then
 some (.tup [.agg [.val (.int .i64 0), .val (.int .i64 0), .val (.int .i64 0), .val (.int .i64 0)], .val (.bool false)], (rdH D nx))
 else
 bif decide ((if wdB (List.take 64 (List.drop 64 D.B)) 16 > if wdB (List.take 64 (List.drop 64 D.B)) 12 > if wdB (List.take 64 (List.drop 64 D.B)) 8 > wdB (List.take 64 (List.drop 64 D.B)) 0 then wdB (List.take 64 (List.drop 64 D.B)) 8 else wdB (List.take 64 (List.drop 64 D.B)) 0 then wdB (List.take 64 (List.drop 64 D.B)) 12 else if wdB (List.take 64 (List.drop 64 D.B)) 8 > wdB (List.take 64 (List.drop 64 D.B)) 0 then wdB (List.take 64 (List.drop 64 D.B)) 8 else wdB (List.take 64 (List.drop 64 D.B)) 0 then wdB (List.take 64 (List.drop 64 D.B)) 16 else if wdB (List.take 64 (List.drop 64 D.B)) 12 > if wdB (List.take 64 (List.drop 64 D.B)) 8 > wdB (List.take 64 (List.drop 64 D.B)) 0 then wdB (List.take 64 (List.drop 64 D.B)) 8 else wdB (List.take 64 (List.drop 64 D.B)) 0 then wdB (List.take 64 (List.drop 64 D.B)) 12 else if wdB (List.take 64 (List.drop 64 D.B)) 8 > wdB (List.take 64 (List.drop 64 D.B)) 0 then wdB (List.take 64 (List.drop 64 D.B)) 8 else wdB (List.take 64 (List.drop 64 D.B)) 0) > 1073741824) then
 some (.tup [.agg [.val (.int .i64 0), .val (.int .i64 0), .val (.int .i64 0), .val (.int .i64 0)], .val (.bool false)], (rdH D nx))
 else
 bif Nat.ble 128 D.B.length && true then
 bif (List.take 64 (List.drop 64 D.B)).length.ble 1000000 then
 bif decide (List.take 64 (List.drop 64 D.B) = [IntKind.u8.wrap (wdB (List.take 64 (List.drop 64 D.B)) 0), IntKind.u8.wrap ((wdB (List.take 64 (List.drop 64 D.B)) 0).fdiv 256), IntKind.u8.wrap ((wdB (List.take 64 (List.drop 64 D.B)) 0).fdiv 65536), IntKind.u8.wrap ((wdB (List.take 64 (List.drop 64 D.B)) 0).fdiv 16777216), 67, 74, 83, 66, IntKind.u8.wrap (wdB (List.take 64 (List.drop 64 D.B)) 8), IntKind.u8.wrap ((wdB (List.take 64 (List.drop 64 D.B)) 8).fdiv 256), IntKind.u8.wrap ((wdB (List.take 64 (List.drop 64 D.B)) 8).fdiv 65536), IntKind.u8.wrap ((wdB (List.take 64 (List.drop 64 D.B)) 8).fdiv 16777216), IntKind.u8.wrap (wdB (List.take 64 (List.drop 64 D.B)) 12), IntKind.u8.wrap ((wdB (List.take 64 (List.drop 64 D.B)) 12).fdiv 256), IntKind.u8.wrap ((wdB (List.take 64 (List.drop 64 D.B)) 12).fdiv 65536), IntKind.u8.wrap ((wdB (List.take 64 (List.drop 64 D.B)) 12).fdiv 16777216), IntKind.u8.wrap (wdB (List.take 64 (List.drop 64 D.B)) 16), IntKind.u8.wrap ((wdB (List.take 64 (List.drop 64 D.B)) 16).fdiv 256), IntKind.u8.wrap ((wdB (List.take 64 (List.drop 64 D.B)) 16).fdiv 65536), IntKind.u8.wrap ((wdB (List.take 64 (List.drop 64 D.B)) 16).fdiv 16777216), 0, 0, 0, 0, 0, 0, 0, 0, 0, 0, 0, 0, 0, 0, 0, 0, 0, 0, 0, 0, 0, 0, 0, 0, 0, 0, 0, 0, 0, 0, 0, 0, 0, 0, 0, 0, IntKind.u8.wrap (wdB (List.take 64 (List.drop 64 D.B)) 0), IntKind.u8.wrap ((wdB (List.take 64 (List.drop 64 D.B)) 0).fdiv 256), IntKind.u8.wrap ((wdB (List.take 64 (List.drop 64 D.B)) 0).fdiv 65536), IntKind.u8.wrap ((wdB (List.take 64 (List.drop 64 D.B)) 0).fdiv 16777216), 67, 74, 83, 66]) then
 bif decide (wdB (List.take 64 (List.drop 64 D.B)) 0 > 0) then
 some (.tup [.agg [.val (.int .i64 (wdB (List.take 64 (List.drop 64 D.B)) 0)), .val (.int .i64 (wdB (List.take 64 (List.drop 64 D.B)) 8)), .val (.int .i64 (wdB (List.take 64 (List.drop 64 D.B)) 12)), .val (.int .i64 (wdB (List.take 64 (List.drop 64 D.B)) 16))], .val (.bool true)], (rdH D nx))
 else
 some (.tup [.agg [.val (.int .i64 0), .val (.int .i64 0), .val (.int .i64 0), .val (.int .i64 0)], .val (.bool false)], (rdH D nx))
 else
 some (.tup [.agg [.val (.int .i64 0), .val (.int .i64 0), .val (.int .i64 0), .val (.int .i64 0)], .val (.bool false)], (rdH D nx))
 else
 none
 else
 none
 else
 none
 else
 none
 else
 none
 else
 none
 else
 none
 else
 none
 else
 none
 else
 none
 else
 none
 else
 none
 else
 none
 else
 none
 else
 none
 else
 none
 else
 none
 else
 none
 else
 none
 else
 none
 else
 none
 else
 none
 else
 none := by kernel_rfl
def mx4 (a b c d : Int) : Int := if d > (if c > (if b > a then b else a) then c else (if b > a then b else a)) then d else (if c > (if b > a then b else a) then c else (if b > a then b else a))
def suOf (sec : List Int) : SU := ⟨wdB sec 0, wdB sec 8, wdB sec 12, wdB sec 16⟩
def superS (s : SU) : List Int := superB s.g s.e s.st s.li
def chk5 (a b c d e : Bool) : Bool := !a && (!b && (!c && (!d && e)))
def isSup (sec : List Int) (at' : Int) : Bool := chk5 (decide (wdB sec 0 < 1)) (decide (wdB sec 8 < 1)) ((wdB sec 0).tmod 2 != at') (decide (mx4 (wdB sec 0) (wdB sec 8) (wdB sec 12) (wdB sec 16) > 1073741824)) (decide (sec = superS (suOf sec)))
def su0 : SU := ⟨0, 0, 0, 0⟩
def superOf (B : List Int) : SU × Bool := bif isSup (sect B 0) 0 then
    (bif isSup (sect B 1) 1 && decide (wdB (sect B 1) 0 > wdB (sect B 0) 0) then (suOf (sect B 1), true) else (suOf (sect B 0), true))
  else bif isSup (sect B 1) 1 then (suOf (sect B 1), true) else (su0, false)
def Try.F88 (D : OD) (nx : Int) (args : List AV) (h : Heap) : Ans (AV × Heap) := .grd (isAH args h [.ptr 0 0 0] (rdH D nx)) (.grd (okOD D) (.out (.tup [suA (superOf D.B).1, .val (.bool (superOf D.B).2)], rdH D nx)))
def Try.A88 (D : OD) (nx : Int) : AFun := effA (Try.F88 D nx)
theorem chk5_eq {α : Type} (a b c d e : Bool) (A B : α) : (bif a then A else bif b then A else bif c then A else bif d then A else bif e then B else A) = bif chk5 a b c d e then B else A := by
  cases a <;> cases b <;> cases c <;> cases d <;> cases e <;> rfl
theorem isSup_pos {sec : List Int} {a : Int} (h : isSup sec a = true) : decide (wdB sec 0 > 0) = true := by
  unfold isSup chk5 at h
  simp only [Bool.and_eq_true, Bool.not_eq_true', decide_eq_false_iff_not] at h
  rw [decide_eq_true_eq]; omega
theorem Try.sum88 (D : OD) (nx : Int) : SumC Try.prog 88 (Try.A88 D nx) := by
  refine effSumR 88 ⟨Try.f88, _, Try.fnOk88.1, Try.fnOk88.2, rfl⟩ ?_
  intro args h v h2 hok hs
  unfold Try.F88 at hs
  rw [Ans.run_grd, Ans.run_grd] at hs
  cases hb : isAH args h [.ptr 0 0 0] (rdH D nx) with
  | false => rw [hb] at hs; cases hs
  | true =>
  rw [hb, cond_true] at hs
  obtain ⟨rfl, rfl⟩ := isAH_eq hb
  cases hd : okOD D with
  | false => rw [hd] at hs; cases hs
  | true =>
  rw [hd, cond_true] at hs
  have hs := Option.some.inj hs
  injection hs with q1 q2
  subst q1; subst q2
  unfold okOD at hd
  simp only [Bool.and_eq_true, decide_eq_true_eq] at hd
  obtain ⟨b1, b2, b3, b4⟩ := hd
  have run := fun v h2 => rootE_alone Try.e88 (d := 6) (g := 88) (p := 3) (ls := lsumsOf []) (AllL.of0 (by kernel_rfl)) (rdH_ok D nx) (args := [.ptr 0 0 0]) (v := v) (h2 := h2)
  have key := Try.w88 D nx
  have s0 : List.take 64 (List.drop 0 D.B) = sect D.B 0 := rfl
  have s1 : List.take 64 (List.drop 64 D.B) = sect D.B 1 := rfl
  have l0 : (sect D.B 0).length = 64 := sect_len (by omega)
  have l1 : (sect D.B 1).length = 64 := sect_len (by omega)
  simp only [s0, s1, l0, l1, sect_bytes b4, decide_eq_true (show (64 : Int) ≤ ((D.B.length - 0 : Nat) : Int) by omega), decide_eq_true (show (64 : Int) ≤ (D.B.length : Int) by omega), decide_eq_true (show (64 : Int) ≤ ((D.B.length - 64 : Nat) : Int) by omega), ble_t (show 64 ≤ D.B.length by omega), ble_t (show 128 ≤ D.B.length by omega), show Nat.ble 4 64 = true from rfl, show Nat.ble 12 64 = true from rfl, show Nat.ble 16 64 = true from rfl, show Nat.ble 20 64 = true from rfl, show Nat.ble 64 1000000 = true from rfl, cond_true', Bool.and_self] at key
  simp only [chk5_eq] at key
  replace key : rootE Try.E88 6 88 3 (lsumsOf []) [.ptr 0 0 0] (rdH D nx) = bif isSup (sect D.B 0) 0 then (bif decide (wdB (sect D.B 0) 0 > 0) then (bif isSup (sect D.B 1) 1 then (bif decide (wdB (sect D.B 1) 0 > wdB (sect D.B 0) 0) then some (.tup [suA (suOf (sect D.B 1)), .val (.bool true)], rdH D nx) else some (.tup [suA (suOf (sect D.B 0)), .val (.bool true)], rdH D nx)) else some (.tup [suA (suOf (sect D.B 0)), .val (.bool true)], rdH D nx))
      else (bif isSup (sect D.B 1) 1 then (bif decide (wdB (sect D.B 1) 0 > 0) then some (.tup [suA (suOf (sect D.B 1)), .val (.bool true)], rdH D nx) else some (.tup [suA su0, .val (.bool false)], rdH D nx)) else some (.tup [suA su0, .val (.bool false)], rdH D nx)))
    else (bif isSup (sect D.B 1) 1 then (bif decide (wdB (sect D.B 1) 0 > 0) then some (.tup [suA (suOf (sect D.B 1)), .val (.bool true)], rdH D nx) else some (.tup [suA su0, .val (.bool false)], rdH D nx)) else some (.tup [suA su0, .val (.bool false)], rdH D nx)) := key
  refine run _ _ (key.trans ?_)
  unfold superOf
  cases h0 : isSup (sect D.B 0) 0 with
  | false =>
    cases h1 : isSup (sect D.B 1) 1 with
    | false => rfl
    | true => rw [isSup_pos h1]; rfl
  | true =>
    rw [isSup_pos h0]
    cases h1 : isSup (sect D.B 1) 1 with
    | false => rfl
    | true => cases decide (wdB (sect D.B 1) 0 > wdB (sect D.B 0) 0) <;> rfl
end Go.Ev
/- Journals: Open. -/
namespace Go.Ev
open Go.Proofs
def odZ (N : Int) (B : List Int) (st : Int) : OD := ⟨N, B, .int .i64 0, .slice none 0 0, .slice none 0 0, .int .i64 0, .int .i64 0, .bool false, .int .i64 0, .int .i64 st, .int .i64 st⟩
def suB (B : List Int) : SU := (superOf B).1
def Try.t47 (N : Int) (B : List Int) : List (Nat × AFun) := [(63, Try.A63), (64, Try.A64), (88, Try.A88 (odZ N B 0) 0), (89, Try.A89 (odZ N B (suB B).st) (suB B) (suB B).st), (100, Try.A100)]
def Try.E47 (N : Int) (B : List Int) : Env := Try.env0 false (sumsOf (Try.t47 N B)) (keepF 0 [])
theorem Try.e47 (N : Int) (B : List Int) : EnvOk2 Try.prog (Try.E47 N B) := Try.envOk false (sumsOf (Try.t47 N B)) _ (sumsOf_ok (show AllS Try.prog (Try.t47 N B) from ⟨Try.sum63, Try.sum64, Try.sum88 _ _, Try.sum89 _ _ _, Try.sum100, trivial⟩))
theorem Try.w47 (N : Int) (B : List Int) : rootS (Try.E47 N B) 6 47 (lsumsOf []) [devA N B []] =
 bif okSW (SW.con []) then
 bif isDevB N B (SW.list (SW.con [])) then
 bif okSW (SW.con []) && (B.length.ble 1000000 && true) then
 bif isAH ([AV.ptr 0 0 0]) (rdH (odZ N B 0) 0) ([AV.ptr 0 0 0]) (rdH (odZ N B 0) 0) then
 bif okOD (odZ N B 0) then
 bif (superOf (odZ N B 0).B).snd then
 bif (superOf (odZ N B 0).B).fst.g == 1073741824 then
 some (.tup [.agg [.val (.int .i64 0), .val (.slice none 0 0), .val (.slice none 0 0), .val (.int .i64 0), .val (.int .i64 0), .val (.bool false), .val (.int .i64 0), .val (.int .i64 0), .val (.int .i64 0), .val (.int .i64 0), .val (.slice none 0 0), .val (.slice none 0 0)], .val (.int .i64 2)], ⟨0, []⟩)
 else
 bif (superOf (odZ N B 0).B).fst.e == 1073741824 then
 some (.tup [.agg [.val (.int .i64 0), .val (.slice none 0 0), .val (.slice none 0 0), .val (.int .i64 0), .val (.int .i64 0), .val (.bool false), .val (.int .i64 0), .val (.int .i64 0), .val (.int .i64 0), .val (.int .i64 0), .val (.slice none 0 0), .val (.slice none 0 0)], .val (.int .i64 2)], ⟨0, []⟩)
 else
 bif isAH ([AV.ptr 0 0 0, suA (suB B)]) (rdH (odZ N B (suB B).st) (suB B).st) ([AV.ptr 0 0 0, suA (suB B)]) (rdH (odZ N B (suB B).st) (suB B).st) then
 bif okOD (odZ N B (suB B).st) && (decide (0 ≤ (suB B).st) && decide ((suB B).st ≤ 1073741824)) then
 bif decide (0 ≤ IntKind.i64.wrap ((IntKind.i64.wrap ((superOf (odZ N B 0).B).fst.g + 1)).tmod 2 * 64)) && decide (IntKind.i64.wrap ((IntKind.i64.wrap ((superOf (odZ N B 0).B).fst.g + 1)).tmod 2 * 64) ≤ (↑(odZ N B (suB B).st).B.length : Int)) then
 bif (0 + (IntKind.i64.wrap ((IntKind.i64.wrap ((superOf (odZ N B 0).B).fst.g + 1)).tmod 2 * 64)).toNat + ((odZ N B (suB B).st).B.length - (IntKind.i64.wrap ((IntKind.i64.wrap ((superOf (odZ N B 0).B).fst.g + 1)).tmod 2 * 64)).toNat)).ble (odZ N B (suB B).st).B.length && true then
 some (.tup [.agg [.val (.int .i64 ((odZ N B (suB B).st).N)), .own 0 0 ((odZ N B (suB B).st).B.length) none 1, .val (.slice none 0 0), .val (.int .i64 (IntKind.i64.wrap ((superOf (odZ N B 0).B).fst.g + 1))), .val (.int .i64 (IntKind.i64.wrap ((superOf (odZ N B 0).B).fst.e + 1))), .val (.bool false), .val (.int .i64 ((readD0 (odZ N B (suB B).st) (suB B) (suB B).st).snd.nx)), .val (.int .i64 ((suB B).st)), .val (.int .i64 ((suB B).st)), .val (.int .i64 ((readD0 (odZ N B (suB B).st) (suB B) (suB B).st).snd.nx)), .own 1 0 ((readD0 (odZ N B (suB B).st) (suB B) (suB B).st).snd.L.length) none 5, .own 2 0 ((readD0 (odZ N B (suB B).st) (suB B) (suB B).st).snd.E.length) none 1], .val (.int .i64 0)], ⟨3, [⟨2, 0, .cells (.ints .i64 ((readD0 (odZ N B (suB B).st) (suB B) (suB B).st).snd.E))⟩, ⟨1, 0, .cells (EN.con (readD0 (odZ N B (suB B).st) (suB B) (suB B).st).snd.L)⟩, ⟨0, 0, .cells (.ints .u8 (List.take (0 + (IntKind.i64.wrap ((IntKind.i64.wrap ((superOf (odZ N B 0).B).fst.g + 1)).tmod 2 * 64)).toNat) (List.drop 0 (odZ N B (suB B).st).B) ++ List.take (Nat.min 64 ((odZ N B (suB B).st).B.length - (IntKind.i64.wrap ((IntKind.i64.wrap ((superOf (odZ N B 0).B).fst.g + 1)).tmod 2 * 64)).toNat)) [IntKind.u8.wrap (IntKind.i64.wrap ((superOf (odZ N B 0).B).fst.g + 1)), IntKind.u8.wrap ((IntKind.i64.wrap ((superOf (odZ N B 0).B).fst.g + 1)).fdiv 256), IntKind.u8.wrap ((IntKind.i64.wrap ((superOf (odZ N B 0).B).fst.g + 1)).fdiv 65536), IntKind.u8.wrap ((IntKind.i64.wrap ((superOf (odZ N B 0).B).fst.g + 1)).fdiv 16777216), 67, 74, 83, 66, IntKind.u8.wrap (IntKind.i64.wrap ((superOf (odZ N B 0).B).fst.e + 1)), IntKind.u8.wrap ((IntKind.i64.wrap ((superOf (odZ N B 0).B).fst.e + 1)).fdiv 256), IntKind.u8.wrap ((IntKind.i64.wrap ((superOf (odZ N B 0).B).fst.e + 1)).fdiv 65536), IntKind.u8.wrap ((IntKind.i64.wrap ((superOf (odZ N B 0).B).fst.e + 1)).fdiv 16777216), IntKind.u8.wrap (suB B).st, IntKind.u8.wrap ((suB B).st.fdiv 256), IntKind.u8.wrap ((suB B).st.fdiv 65536), IntKind.u8.wrap ((suB B).st.fdiv 16777216), IntKind.u8.wrap (readD0 (odZ N B (suB B).st) (suB B) (suB B).st).snd.nx, IntKind.u8.wrap ((readD0 (odZ N B (suB B).st) (suB B) (suB B).st).snd.nx.fdiv 256), IntKind.u8.wrap ((readD0 (odZ N B (suB B).st) (suB B) (suB B).st).snd.nx.fdiv 65536), IntKind.u8.wrap ((readD0 (odZ N B (suB B).st) (suB B) (suB B).st).snd.nx.fdiv 16777216), 0, 0, 0, 0, 0, 0, 0, 0, 0, 0, 0, 0, 0, 0, 0, 0, 0, 0, 0, 0, 0, 0, 0, 0, 0, 0, 0, 0, 0, 0, 0, 0, 0, 0, 0, 0, IntKind.u8.wrap (IntKind.i64.wrap ((superOf (odZ N B 0).B).fst.g + 1)), IntKind.u8.wrap ((IntKind.i64.wrap ((superOf (odZ N B 0).B).fst.g + 1)).fdiv 256), IntKind.u8.wrap ((IntKind.i64.wrap ((superOf (odZ N B 0).B).fst.g + 1)).fdiv 65536), IntKind.u8.wrap ((IntKind.i64.wrap ((superOf (odZ N B 0).B).fst.g + 1)).fdiv 16777216), 67, 74, 83, 66] ++ List.take ((odZ N B (suB B).st).B.length - (0 + (IntKind.i64.wrap ((IntKind.i64.wrap ((superOf (odZ N B 0).B).fst.g + 1)).tmod 2 * 64)).toNat + Nat.min 64 ((odZ N B (suB B).st).B.length - (IntKind.i64.wrap ((IntKind.i64.wrap ((superOf (odZ N B 0).B).fst.g + 1)).tmod 2 * 64)).toNat))) (List.drop (0 + (IntKind.i64.wrap ((IntKind.i64.wrap ((superOf (odZ N B 0).B).fst.g + 1)).tmod 2 * 64)).toNat + Nat.min 64 ((odZ N B (suB B).st).B.length - (IntKind.i64.wrap ((IntKind.i64.wrap ((superOf (odZ N B 0).B).fst.g + 1)).tmod 2 * 64)).toNat)) (odZ N B (suB B).st).B)))⟩]⟩)
 else
 none
 else
 none
 else
 none
 else
 none
 else
 some (.tup [.agg [.val (.int .i64 0), .val (.slice none 0 0), .val (.slice none 0 0), .val (.int .i64 0), .val (.int .i64 0), .val (.bool false), .val (.int .i64 0), .val (.int .i64 0), .val (.int .i64 0), .val (.int .i64 0), .val (.slice none 0 0), .val (.slice none 0 0)], .val (.int .i64 401)], ⟨0, []⟩)
 else
 none
 else
 none
 else
 none
 else
 some (.tup [.agg [.val (.int .i64 0), .val (.slice none 0 0), .val (.slice none 0 0), .val (.int .i64 0), .val (.int .i64 0), .val (.bool false), .val (.int .i64 0), .val (.int .i64 0), .val (.int .i64 0), .val (.int .i64 0), .val (.slice none 0 0), .val (.slice none 0 0)], .val (.int .i64 400)], ⟨0, []⟩)
 else
 none := by kernel_rfl
def foundB (N : Int) (B : List Int) : RS := (readD0 (odZ N B (suB B).st) (suB B) (suB B).st).2
def openX (N : Int) (B : List Int) : JD := ⟨N, putAt B ((((suB B).g + 1).tmod 2).toNat * 64) (superB ((suB B).g + 1) ((suB B).e + 1) (suB B).st (foundB N B).nx), [], (suB B).g + 1, (suB B).e + 1, false, (foundB N B).nx, (suB B).st, (suB B).st, (foundB N B).nx, (foundB N B).L, (foundB N B).E⟩
def openJ (d : DevD) : JD × Int := bif isDevD d then (bif (superOf d.2.1).2 then (bif (suB d.2.1).g == 1073741824 || (suB d.2.1).e == 1073741824 then (noJ, 2) else (openX d.1 d.2.1, 0)) else (noJ, 401)) else (noJ, 400)
def Try.Sop (args : List AV) : Ans (AV × Heap) := match args with
  | [.agg [.val (.int .i64 N), .ro (.ints .u8 B) cap, .ro c cap']] => .grd (okSW c && (Nat.beq c.len 0 && bytesOk B)) (.out (outJE (openJ (N, B, [])), ⟨0, []⟩))
  | _ => .no
def Try.A47 : AFun := roA (fun args => Try.Sop (nzDevs args))
theorem wdB_nonneg {l : List Int} (h : bytesOk l = true) (k : Nat) : 0 ≤ wdB l k := by
  have h0 := bytesOk_get h k
  have h1 := bytesOk_get h (k + 1)
  have h2 := bytesOk_get h (k + 2)
  have h3 := bytesOk_get h (k + 3)
  unfold wdB
  omega
theorem mx4_le {a b c d m : Int} (h : ¬ mx4 a b c d > m) : a ≤ m ∧ b ≤ m ∧ c ≤ m ∧ d ≤ m := by
  unfold mx4 at h
  split at h <;> split at h <;> (try split at h) <;> (try split at h) <;> (try split at h) <;> omega
structure SuF (s : SU) : Prop where
  g0 : 1 ≤ s.g
  e0 : 1 ≤ s.e
  s0 : 0 ≤ s.st
  l0 : 0 ≤ s.li
  g1 : s.g ≤ 1073741824
  e1 : s.e ≤ 1073741824
  s1 : s.st ≤ 1073741824
  l1 : s.li ≤ 1073741824
theorem isSup_facts {sec : List Int} {a : Int} (hb : bytesOk sec = true) (h : isSup sec a = true) : SuF (suOf sec) ∧ (wdB sec 0).tmod 2 = a ∧ sec = superS (suOf sec) := by
  unfold isSup chk5 at h
  simp only [Bool.and_eq_true, Bool.not_eq_true', decide_eq_false_iff_not, decide_eq_true_eq, bne_eq_false_iff_eq] at h
  obtain ⟨h1, h2, h3, h4, h5⟩ := h
  obtain ⟨m1, m2, m3, m4⟩ := mx4_le h4
  exact ⟨⟨by show 1 ≤ wdB sec 0; omega, by show 1 ≤ wdB sec 8; omega, wdB_nonneg hb 12, wdB_nonneg hb 16, m1, m2, m3, m4⟩, h3, h5⟩
theorem super_facts {B : List Int} (hb : bytesOk B = true) (h : (superOf B).2 = true) : SuF (suB B) := by
  unfold suB superOf at *
  cases h0 : isSup (sect B 0) 0 with
  | true =>
    rw [h0] at h
    cases h1 : (isSup (sect B 1) 1 && decide (wdB (sect B 1) 0 > wdB (sect B 0) 0)) with
    | true => rw [Bool.and_eq_true] at h1; exact (isSup_facts (sect_bytes hb 1) h1.1).1
    | false => exact (isSup_facts (sect_bytes hb 0) h0).1
  | false =>
    rw [h0] at h
    cases h1 : isSup (sect B 1) 1 with
    | true => exact (isSup_facts (sect_bytes hb 1) h1).1
    | false => rw [h1] at h; cases h
theorem cp_put {B src : List Int} {off : Nat} (hs : src.length = 64) (h : off + 64 ≤ B.length) : List.take off B ++ List.take 64 src ++ List.take (B.length - (off + 64)) (List.drop (off + 64) B) = putAt B off src := by
  unfold putAt
  rw [hs, List.append_assoc, List.take_of_length_le (l := src) (by omega), List.take_of_length_le (l := List.drop (off + 64) B) (by rw [List.length_drop]; exact Nat.le_refl _)]
def op3 (J : JD) (b l e : AV) : AV := .tup [.agg [.val (.int .i64 J.N), b, .val (.slice none 0 0), .val (.int .i64 J.gen), .val (.int .i64 J.ep), .val (.bool J.so), .val (.int .i64 J.lim), .val (.int .i64 J.st), .val (.int .i64 J.ba), .val (.int .i64 J.nx), l, e], .val (.int .i64 0)]
theorem open_frozen {g : Nat} {args : List AV} (J : JD) (hP : J.P = [])
    (q : Alone Try.prog g args (op3 J (.own 0 0 J.B.length none 1) (.own 1 0 J.L.length none 5) (.own 2 0 J.E.length none 1)) ⟨3, [⟨2, 0, .cells (.ints .i64 J.E)⟩, ⟨1, 0, .cells (EN.con J.L)⟩, ⟨0, 0, .cells (.ints .u8 J.B)⟩]⟩) : Alone Try.prog g args (outJE (J, 0)) ⟨0, []⟩ := by
  have q2 : Alone Try.prog g args (op3 J (.own 0 0 J.B.length none 1) (.own 1 0 J.L.length none 5) (.ro (.ints .i64 J.E) none)) ⟨2, [⟨1, 0, .cells (EN.con J.L)⟩, ⟨0, 0, .cells (.ints .u8 J.B)⟩]⟩ :=
    Alone.fzA (id := 2) (con := .ints .i64 J.E) (v' := op3 J (.own 0 0 J.B.length none 1) (.own 1 0 J.L.length none 5) (.ro (.ints .i64 J.E) none)) rfl rfl
      (.tup1 (.cons (.inl rfl) (.cons (.inl rfl) (.cons (.inl rfl) (.cons (.inl rfl) (.cons (.inl rfl) (.cons (.inl rfl) (.cons (.inl rfl) (.cons (.inl rfl) (.cons (.inl rfl) (.cons (.inl rfl) (.cons (.inl rfl) (.cons (.inr (.inr ⟨none, rfl, rfl⟩)) .nil)))))))))))))
      (.skip (EsFz.rest (es := [⟨1, 0, .cells (EN.con J.L)⟩, ⟨0, 0, .cells (.ints .u8 J.B)⟩]) (by show ∀ x ∈ [1, 0], Nat.beq x 2 = false; decide))) (by kernel_rfl) q
  have q3 : Alone Try.prog g args (op3 J (.ro (.ints .u8 J.B) none) (.ro (EN.con J.L) none) (.ro (.ints .i64 J.E) none)) ⟨0, []⟩ :=
    Alone.fz2 (c1 := EN.con J.L) (c0 := .ints .u8 J.B) (v1 := op3 J (.own 0 0 J.B.length none 1) (.ro (EN.con J.L) none) (.ro (.ints .i64 J.E) none)) rfl rfl (by kernel_rfl)
      (.tup1 (.cons (.inl rfl) (.cons (.inl rfl) (.cons (.inl rfl) (.cons (.inl rfl) (.cons (.inl rfl) (.cons (.inl rfl) (.cons (.inl rfl) (.cons (.inl rfl) (.cons (.inl rfl) (.cons (.inl rfl) (.cons (.inr (.inr ⟨none, rfl, rfl⟩)) (.cons (.inl rfl) .nil)))))))))))))
      (.tup1 (.cons (.inl rfl) (.cons (.inr (.inr ⟨none, rfl, rfl⟩)) (FzL.refl _ _ _)))) q2
  refine Alone.resW ?_ q3
  unfold op3 outJE jrA jcells
  rw [hP]
  exact AW.tup (.cons (AW.agg (.cons (AW.refl _) (.cons (AW.refl _) (.cons (AW.nil rfl) (AWs.refl _))))) (.cons (AW.refl _) .nil))
theorem Try.al47 (N : Int) (B : List Int) (hby : bytesOk B = true) : Alone Try.prog 47 [devA N B []] (outJE (openJ (N, B, []))) ⟨0, []⟩ := by
  have run := fun v h2 => rootS_alone (Try.e47 N B) (d := 6) (g := 47) (ls := lsumsOf []) (AllL.of0 (by kernel_rfl)) (args := [devA N B []]) (v := v) (h2 := h2)
  have key := Try.w47 N B
  have e0 : okSW (SW.con []) = true := okSW_le (by simp)
  rw [e0, SW_list_con] at key
  unfold openJ isDevD
  simp only
  cases hd : isDevB N B [] with
  | false => rw [hd] at key; exact Alone.resW (noJ_aw 400) (run _ _ key)
  | true =>
  have hf := dev_facts hd
  have h1 := hf.len
  have h2 := hf.lo
  have h3 := hf.hi
  have hz : ∀ z, okOD (odZ N B z) = true := fun z => by
    unfold okOD
    show (decide (8 ≤ N) && (decide (N ≤ 4096) && (decide ((B.length : Int) = N * 64) && bytesOk B))) = true
    rw [decide_eq_true h2, decide_eq_true h3, decide_eq_true h1, hby]; rfl
  have eB : ∀ z, (odZ N B z).B = B := fun _ => rfl
  have eN : ∀ z, (odZ N B z).N = N := fun _ => rfl
  rw [hd] at key
  simp only [eB, eN, hz, isAH_refl, ble_t (show B.length ≤ 1000000 by omega), cond_true', Bool.and_self, Bool.true_and] at key
  have e1 : (superOf B).1 = suB B := rfl
  cases hs : (superOf B).2 with
  | false => rw [hs] at key; exact Alone.resW (noJ_aw 401) (run _ _ key)
  | true =>
  have sf := super_facts hby hs
  rw [hs] at key
  simp only [e1, cond_true'] at key
  cases hg : ((suB B).g == 1073741824) with
  | true => rw [hg] at key; exact Alone.resW (noJ_aw 2) (run _ _ key)
  | false =>
  rw [hg] at key
  cases he : ((suB B).e == 1073741824) with
  | true => rw [he] at key; exact Alone.resW (noJ_aw 2) (run _ _ key)
  | false =>
  rw [he] at key
  rw [beq_eq_false_iff_ne] at hg he
  obtain ⟨f1, f2, f3, f4, f5, f6, f7, f8⟩ := sf
  have t1 := Int.tmod_nonneg (b := 2) (show 0 ≤ (suB B).g + 1 by omega)
  have t2 := Int.tmod_lt_of_pos ((suB B).g + 1) (show (0 : Int) < 2 by omega)
  obtain ⟨p, hp⟩ : ∃ p, p = (((suB B).g + 1).tmod 2).toNat := ⟨_, rfl⟩
  have hpi : ((suB B).g + 1).tmod 2 * 64 = ((p * 64 : Nat) : Int) := by omega
  have hfd : (readD0 (odZ N B (suB B).st) (suB B) (suB B).st).2 = foundB N B := rfl
  rw [decide_eq_true f3, decide_eq_true f7] at key
  simp only [wrap64 ((suB B).g + 1) (by omega) (by omega), wrap64 ((suB B).e + 1) (by omega) (by omega), hpi, wrap64 ((p * 64 : Nat) : Int) (by omega) (by omega), Int.toNat_natCast, Nat.zero_add, List.drop_zero, show Nat.min 64 (B.length - p * 64) = 64 from Nat.min_eq_left (by omega), decide_eq_true (show (0 : Int) ≤ ((p * 64 : Nat) : Int) by omega), decide_eq_true (show ((p * 64 : Nat) : Int) ≤ (B.length : Int) by omega), ble_t (show p * 64 + (B.length - p * 64) ≤ B.length by omega), hfd, cond_true', cond_false', Bool.and_self] at key
  show Alone Try.prog 47 _ (outJE (openX N B, 0)) ⟨0, []⟩
  unfold openX
  rw [← hp]
  have hput := cp_put (B := B) (src := superB ((suB B).g + 1) ((suB B).e + 1) (suB B).st (foundB N B).nx) (off := p * 64) rfl (by omega)
  have hpl : (putAt B (p * 64) (superB ((suB B).g + 1) ((suB B).e + 1) (suB B).st (foundB N B).nx)).length = B.length := putAt_len (by rw [superB_len]; omega)
  have k2 := run _ _ key
  refine open_frozen ⟨N, putAt B (p * 64) (superB ((suB B).g + 1) ((suB B).e + 1) (suB B).st (foundB N B).nx), [], (suB B).g + 1, (suB B).e + 1, false, (foundB N B).nx, (suB B).st, (suB B).st, (foundB N B).nx, (foundB N B).L, (foundB N B).E⟩ rfl ?_
  simp only [hpl]
  rw [← hput]
  exact k2
theorem Try.sum47 : SumC Try.prog 47 Try.A47 := by
  refine roSumR 47 ⟨Try.f47, _, Try.fnOk47.1, Try.fnOk47.2, rfl⟩ ?_
  intro args v h2 hs
  replace hs : (Try.Sop (nzDevs args)).run = some (v, h2) := hs
  have fin : Alone Try.prog 47 (nzDevs args) v h2 ∧ ∀ e ∈ h2.es, ∃ k, e.blk = .cells k := by
    generalize nzDevs args = args' at hs ⊢
    unfold Try.Sop at hs
    split at hs
    · rename_i N B cap c cap'
      rw [Ans.run_grd] at hs
      cases hb : (okSW c && (Nat.beq c.len 0 && bytesOk B)) with
      | false => rw [hb] at hs; cases hs
      | true =>
        rw [hb, cond_true] at hs
        simp only [Bool.and_eq_true] at hb
        injection hs with hs
        injection hs with q1 q2
        subst q1; subst q2
        have hl : SW.list c = [] := List.length_eq_zero_iff.1 (by rw [SW.list_len]; exact Nat.eq_of_beq_eq_true hb.2.1)
        have h3 := Try.al47 N B hb.2.2
        rw [← hl] at h3
        refine ⟨Alone.argsW (dev_args hb.1) ?_, fun e he => by cases he⟩
        rw [hl] at h3 ⊢
        exact h3
    · cases hs
  exact ⟨fin.2, fin.1.argsW (nzDevs_aw args)⟩
end Go.Ev
/- Journals: sectors and their words behind a power failure. -/
namespace Go.Ev
open Go.Proofs
theorem getD_lt {a b : List Int} {i : Nat} (h : i < a.length) : (a ++ b).getD i 0 = a.getD i 0 := by
  rw [List.getD_eq_getElem?_getD, List.getElem?_append_left h, ← List.getD_eq_getElem?_getD]
theorem getD_ge {a b : List Int} {i : Nat} (h : a.length ≤ i) : (a ++ b).getD i 0 = b.getD (i - a.length) 0 := by
  rw [List.getD_eq_getElem?_getD, List.getElem?_append_right h, ← List.getD_eq_getElem?_getD]
theorem w4_word (x : Int) (post : List Int) (h0 : 0 ≤ x) (h1 : x < 4294967296) : wdB (w4 x ++ post) 0 = x := by
  show IntKind.u8.wrap x + IntKind.u8.wrap (x.fdiv 256) * 256 + IntKind.u8.wrap (x.fdiv 65536) * 65536 + IntKind.u8.wrap (x.fdiv 16777216) * 16777216 = x
  rw [u8w, u8w, u8w, u8w, fdiv_pos _ _ (by decide), fdiv_pos _ _ (by decide), fdiv_pos _ _ (by decide)]
  omega
theorem wdB_app {pre l : List Int} {k : Nat} (hk : pre.length = k) : wdB (pre ++ l) k = wdB l 0 := by
  unfold wdB
  rw [getD_ge (by omega), getD_ge (by omega), getD_ge (by omega), getD_ge (by omega), ← hk]
  simp only [Nat.sub_self, Nat.add_sub_cancel_left, Nat.zero_add]
theorem wdB_at {pre post : List Int} {x : Int} {k : Nat} (hk : pre.length = k) (h0 : 0 ≤ x) (h1 : x < 4294967296) : wdB (pre ++ (w4 x ++ post)) k = x := by
  rw [wdB_app hk, w4_word x post h0 h1]
theorem wd_inj {l m : List Int} {a : Nat} (hl : bytesOk l = true) (hm : bytesOk m = true) (h : wdB l a = wdB m a) {i : Nat} (h0 : a ≤ i) (h1 : i < a + 4) : l.getD i 0 = m.getD i 0 := by
  have p0 := bytesOk_get hl a
  have p1 := bytesOk_get hl (a + 1)
  have p2 := bytesOk_get hl (a + 2)
  have p3 := bytesOk_get hl (a + 3)
  have q0 := bytesOk_get hm a
  have q1 := bytesOk_get hm (a + 1)
  have q2 := bytesOk_get hm (a + 2)
  have q3 := bytesOk_get hm (a + 3)
  unfold wdB at h
  rcases (show i = a ∨ i = a + 1 ∨ i = a + 2 ∨ i = a + 3 by omega) with rfl | rfl | rfl | rfl <;> omega
def mixS (k : Nat) (new old : List Int) : List Int := new.take k ++ old.drop k
theorem mix_get {new old : List Int} {k : Nat} (hn : new.length = 64) (ho : old.length = 64) (hk : k ≤ 64) (i : Nat) : (mixS k new old).getD i 0 = if i < k then new.getD i 0 else old.getD i 0 := by
  unfold mixS
  by_cases h : i < k
  · rw [if_pos h, getD_lt (by rw [List.length_take]; omega), List.getD_eq_getElem?_getD, List.getElem?_take, if_pos h, ← List.getD_eq_getElem?_getD]
  · rw [if_neg h, getD_ge (by rw [List.length_take]; omega), List.length_take, hn, Nat.min_eq_left hk, List.getD_eq_getElem?_getD, List.getElem?_drop, ← List.getD_eq_getElem?_getD, show k + (i - k) = i by omega]
theorem mix_len {new old : List Int} {k : Nat} (hn : new.length = 64) (ho : old.length = 64) (hk : k ≤ 64) : (mixS k new old).length = 64 := by
  unfold mixS; rw [List.length_append, List.length_take, List.length_drop]; omega
theorem mix_bytes {new old : List Int} {k : Nat} (hn : bytesOk new = true) (ho : bytesOk old = true) : bytesOk (mixS k new old) = true := by
  unfold mixS bytesOk at *
  rw [List.all_append, Bool.and_eq_true, List.all_eq_true, List.all_eq_true]
  rw [List.all_eq_true] at hn ho
  exact ⟨fun x hx => hn x (List.mem_of_mem_take hx), fun x hx => ho x (List.mem_of_mem_drop hx)⟩
theorem list_ext64 {l m : List Int} (hl : l.length = 64) (hm : m.length = 64) (h : ∀ i, i < 64 → l.getD i 0 = m.getD i 0) : l = m := by
  apply List.ext_getElem (by omega)
  intro i h1 h2
  have := h i (by omega)
  rw [getD_of h1, getD_of h2] at this
  exact this
theorem mix_word {new old : List Int} {k a : Nat} (hn : new.length = 64) (ho : old.length = 64) (hk : k ≤ 64) (bn : bytesOk new = true) (bo : bytesOk old = true) :
    (k ≤ a → wdB (mixS k new old) a = wdB old a) ∧ (a + 4 ≤ k → wdB (mixS k new old) a = wdB new a) ∧ (wdB old a ≤ wdB new a → wdB (mixS k new old) a ≤ wdB new a) := by
  have g := mix_get (k := k) hn ho hk
  have p0 := bytesOk_get bo a
  have p1 := bytesOk_get bo (a + 1)
  have p2 := bytesOk_get bo (a + 2)
  have p3 := bytesOk_get bo (a + 3)
  have q0 := bytesOk_get bn a
  have q1 := bytesOk_get bn (a + 1)
  have q2 := bytesOk_get bn (a + 2)
  have q3 := bytesOk_get bn (a + 3)
  unfold wdB
  rw [g a, g (a + 1), g (a + 2), g (a + 3)]
  refine ⟨fun h => ?_, fun h => ?_, fun h => ?_⟩
  · rw [if_neg (by omega), if_neg (by omega), if_neg (by omega), if_neg (by omega)]
  · rw [if_pos (by omega), if_pos (by omega), if_pos (by omega), if_pos (by omega)]
  · split <;> split <;> split <;> split <;> omega
theorem data_w {s e : Int} {f l : Bool} {p : List Int} (hp : p.length ≤ 46) (hs : 0 ≤ s ∧ s < 4294967296) (he : 0 ≤ e ∧ e < 4294967296) :
    wdB (dataB s e f l p) 0 = s ∧ wdB (dataB s e f l p) 4 = e ∧ wdB (dataB s e f l p) 56 = s ∧ wdB (dataB s e f l p) 60 = e := by
  have e1 : dataB s e f l p = (w4 s ++ w4 e ++ [flagB f l, IntKind.u8.wrap p.length] ++ p ++ List.replicate (46 - p.length) 0) ++ (w4 s ++ (w4 e ++ [])) := by
    unfold dataB wordsB
    simp [List.append_assoc]
  have e2 : dataB s e f l p = (w4 s ++ w4 e ++ [flagB f l, IntKind.u8.wrap p.length] ++ p ++ List.replicate (46 - p.length) 0 ++ w4 s) ++ (w4 e ++ []) := by
    unfold dataB wordsB
    simp [List.append_assoc]
  have l4 : ∀ x, (w4 x).length = 4 := fun _ => rfl
  refine ⟨?_, ?_, ?_, ?_⟩
  · exact w4_word s _ hs.1 hs.2
  · exact wdB_at (pre := w4 s) (k := 4) rfl he.1 he.2
  · rw [e1]
    refine wdB_at ?_ hs.1 hs.2
    simp only [List.length_append, l4, List.length_cons, List.length_nil, List.length_replicate]
    omega
  · rw [e2]
    refine wdB_at ?_ he.1 he.2
    simp only [List.length_append, l4, List.length_cons, List.length_nil, List.length_replicate]
    omega
theorem bytesOk_app {a b : List Int} (ha : bytesOk a = true) (hb : bytesOk b = true) : bytesOk (a ++ b) = true := by
  unfold bytesOk at *; rw [List.all_append, ha, hb]; rfl
theorem bytesOk_zeros (n : Nat) : bytesOk (List.replicate n 0) = true := by
  unfold bytesOk
  rw [List.all_eq_true]
  intro x hx
  rw [(List.mem_replicate.1 hx).2]; rfl
theorem bytesOk_words (l : List Int) : bytesOk (wordsB l) = true := by
  induction l with
  | nil => rfl
  | cons x l ih => exact bytesOk_w4 x _ ih
theorem data_bytes {s e : Int} {f l : Bool} {p : List Int} (hp : p.length ≤ 46) (hb : bytesOk p = true) : bytesOk (dataB s e f l p) = true := by
  unfold dataB
  refine bytesOk_app (bytesOk_words _) (bytesOk_app ?_ (bytesOk_app hb (bytesOk_app (bytesOk_zeros _) (bytesOk_words _))))
  rw [bytesOk_cons, bytesOk_cons, u8w, decide_eq_true (show (0 : Int) ≤ (p.length : Int) % 256 by omega), decide_eq_true (show (p.length : Int) % 256 < 256 by omega)]
  cases f <;> cases l <;> rfl
theorem data_8 {s e : Int} {f l : Bool} {p : List Int} : (dataB s e f l p).getD 8 0 = flagB f l := rfl
theorem data_9 {s e : Int} {f l : Bool} {p : List Int} (hp : p.length ≤ 46) : (dataB s e f l p).getD 9 0 = (p.length : Int) := by
  show IntKind.u8.wrap (p.length : Int) = _
  rw [u8w]; omega
theorem data_read {s e : Int} {f l : Bool} {p : List Int} (hp : p.length ≤ 46) (h1 : 1 ≤ p.length) (hs : 0 ≤ s ∧ s < 4294967296) (he : 0 ≤ e ∧ e < 4294967296) :
    okD (dataB s e f l p) s = true ∧ fOf (dataB s e f l p) = f ∧ lOf (dataB s e f l p) = l ∧ pOf (dataB s e f l p) = p ∧ nOf (dataB s e f l p) = p.length := by
  obtain ⟨w0, w1, _, _⟩ := data_w (f := f) (l := l) hp hs he
  have n1 : nOf (dataB s e f l p) = p.length := by unfold nOf; rw [data_9 hp]; omega
  have f1 : fOf (dataB s e f l p) = f := by unfold fOf; rw [data_8]; cases f <;> cases l <;> rfl
  have l1 : lOf (dataB s e f l p) = l := by unfold lOf; rw [data_8]; cases f <;> cases l <;> rfl
  have p1 : pOf (dataB s e f l p) = p := by
    unfold pOf
    rw [n1, show dataB s e f l p = (w4 s ++ w4 e ++ [flagB f l, IntKind.u8.wrap p.length]) ++ (p ++ (List.replicate (46 - p.length) 0 ++ wordsB [s, e])) by unfold dataB wordsB; simp [List.append_assoc]]
    rw [List.drop_append_of_le_length (show 10 ≤ (w4 s ++ w4 e ++ [flagB f l, IntKind.u8.wrap p.length]).length from Nat.le_refl 10), show List.drop 10 (w4 s ++ w4 e ++ [flagB f l, IntKind.u8.wrap p.length]) = [] from rfl, List.nil_append, List.take_append_of_le_length (Nat.le_refl _), List.take_length]
  refine ⟨?_, f1, l1, p1, n1⟩
  unfold okD early
  rw [w0, w1, f1, l1, p1, data_9 hp, data_8, decide_eq_false (by omega), decide_eq_false (by omega), beq_self_eq_true]
  cases f <;> cases l <;> simp [flagB]
theorem mix_data {new old : List Int} {s e : Int} {k : Nat} (hn : new.length = 64) (ho : old.length = 64) (hk : k ≤ 64) (bn : bytesOk new = true) (bo : bytesOk old = true) (w56 : wdB new 56 = s) (w60 : wdB new 60 = e)
    (hst : wdB old 60 = e → wdB old 56 < s) : mixS k new old = new ∨ (wdB (mixS k new old) 60 = e → wdB (mixS k new old) 56 < s) := by
  have bm := mix_bytes (k := k) bn bo
  obtain ⟨a1, a2, a3⟩ := mix_word (a := 56) hn ho hk bn bo
  obtain ⟨b1, b2, b3⟩ := mix_word (a := 60) hn ho hk bn bo
  by_cases q : wdB (mixS k new old) 60 = e ∧ s ≤ wdB (mixS k new old) 56
  · refine .inl (list_ext64 (mix_len hn ho hk) hn (fun i hi => ?_))
    have g := mix_get hn ho hk i
    by_cases h1 : i < k
    · rw [g, if_pos h1]
    · have h60 : ∀ i, 60 ≤ i → i < 64 → (mixS k new old).getD i 0 = new.getD i 0 := fun i x y => wd_inj bm bn (a := 60) (by omega) x (by omega)
      by_cases h2 : k ≤ 56
      · have := a1 h2
        have := b1 (by omega)
        omega
      · by_cases h3 : 60 ≤ i
        · exact h60 i h3 hi
        · have h4 := b1 (by omega)
          have h5 := a3 (by omega)
          exact wd_inj bm bn (a := 56) (by omega) (by omega) (by omega)
  · right
    intro h
    omega
theorem super_w {g e st li : Int} (hg : 0 ≤ g ∧ g < 4294967296) (he : 0 ≤ e ∧ e < 4294967296) (hs : 0 ≤ st ∧ st < 4294967296) (hl : 0 ≤ li ∧ li < 4294967296) :
    suOf (superB g e st li) = ⟨g, e, st, li⟩ ∧ wdB (superB g e st li) 56 = g := by
  have e0 : superB g e st li = w4 g ++ (w4 1112754755 ++ (w4 e ++ (w4 st ++ (w4 li ++ [] ++ (List.replicate 36 0 ++ wordsB [g, 1112754755]))))) := by unfold superB wordsB; simp [List.append_assoc]
  have e1 : superB g e st li = (w4 g ++ w4 1112754755) ++ (w4 e ++ (w4 st ++ (w4 li ++ (List.replicate 36 0 ++ wordsB [g, 1112754755])))) := by unfold superB wordsB; simp [List.append_assoc]
  have e2 : superB g e st li = (w4 g ++ w4 1112754755 ++ w4 e) ++ (w4 st ++ (w4 li ++ (List.replicate 36 0 ++ wordsB [g, 1112754755]))) := by unfold superB wordsB; simp [List.append_assoc]
  have e3 : superB g e st li = (w4 g ++ w4 1112754755 ++ w4 e ++ w4 st) ++ (w4 li ++ (List.replicate 36 0 ++ wordsB [g, 1112754755])) := by unfold superB wordsB; simp [List.append_assoc]
  have e4 : superB g e st li = (w4 g ++ w4 1112754755 ++ w4 e ++ w4 st ++ w4 li ++ List.replicate 36 0) ++ (w4 g ++ w4 1112754755) := by unfold superB wordsB; simp [List.append_assoc]
  refine ⟨?_, ?_⟩
  · have a0 : wdB (superB g e st li) 0 = g := by rw [e0]; exact w4_word g _ hg.1 hg.2
    have a1 : wdB (superB g e st li) 8 = e := by rw [e1]; exact wdB_at rfl he.1 he.2
    have a2 : wdB (superB g e st li) 12 = st := by rw [e2]; exact wdB_at rfl hs.1 hs.2
    have a3 : wdB (superB g e st li) 16 = li := by rw [e3]; exact wdB_at rfl hl.1 hl.2
    unfold suOf
    rw [a0, a1, a2, a3]
  · rw [e4]; exact wdB_at rfl hg.1 hg.2
theorem super_bytes (g e st li : Int) : bytesOk (superB g e st li) = true := by
  unfold superB
  exact bytesOk_app (bytesOk_words _) (bytesOk_app (bytesOk_zeros _) (bytesOk_words _))
theorem super_is {g e st li : Int} (hg : 1 ≤ g ∧ g ≤ 1073741824) (he : 1 ≤ e ∧ e ≤ 1073741824) (hs : 0 ≤ st ∧ st ≤ 1073741824) (hl : 0 ≤ li ∧ li ≤ 1073741824) : isSup (superB g e st li) (g.tmod 2) = true := by
  have h := (super_w (g := g) (e := e) (st := st) (li := li) ⟨by omega, by omega⟩ ⟨by omega, by omega⟩ ⟨by omega, by omega⟩ ⟨by omega, by omega⟩).1
  have h0 : wdB (superB g e st li) 0 = g := congrArg SU.g h
  have h1 : wdB (superB g e st li) 8 = e := congrArg SU.e h
  have h2 : wdB (superB g e st li) 12 = st := congrArg SU.st h
  have h3 : wdB (superB g e st li) 16 = li := congrArg SU.li h
  have hm : ¬ mx4 g e st li > 1073741824 := by
    unfold mx4
    split <;> split <;> (try split) <;> (try split) <;> (try split) <;> omega
  unfold isSup
  rw [h, h0, h1, h2, h3, decide_eq_false (by omega), decide_eq_false (by omega), decide_eq_false hm, decide_eq_true (show superB g e st li = superS ⟨g, e, st, li⟩ from rfl), bne_self_eq_false]
  rfl
theorem mix_super {old : List Int} {g e st li b a : Int} {k : Nat} (ho : old.length = 64) (hk : k ≤ 64) (bo : bytesOk old = true) (hg : 0 ≤ g ∧ g < 4294967296) (he : 0 ≤ e ∧ e < 4294967296) (hs : 0 ≤ st ∧ st < 4294967296) (hl : 0 ≤ li ∧ li < 4294967296)
    (h : wdB old 56 < b) (hi : isSup (mixS k (superB g e st li) old) a = true) : mixS k (superB g e st li) old = superB g e st li ∨ wdB (mixS k (superB g e st li) old) 0 < b := by
  have bn := super_bytes g e st li
  have hn := superB_len g e st li
  have bm := mix_bytes (k := k) bn bo
  obtain ⟨f1, f2, f3⟩ := isSup_facts bm hi
  by_cases q : k ≤ 56
  · right
    have h1 := (mix_word (a := 56) hn ho hk bn bo).1 q
    have h2 : wdB (superS (suOf (mixS k (superB g e st li) old))) 56 = (suOf (mixS k (superB g e st li) old)).g := by
      have g0 := f1.g0; have g1 := f1.g1; have e0 := f1.e0; have e1 := f1.e1; have s0 := f1.s0; have s1 := f1.s1; have l0 := f1.l0; have l1 := f1.l1
      exact (super_w ⟨by omega, by omega⟩ ⟨by omega, by omega⟩ ⟨by omega, by omega⟩ ⟨by omega, by omega⟩).2
    rw [← f3] at h2
    have h3 : (suOf (mixS k (superB g e st li) old)).g = wdB (mixS k (superB g e st li) old) 0 := rfl
    omega
  · left
    have e1 : suOf (mixS k (superB g e st li) old) = suOf (superB g e st li) := by
      unfold suOf
      rw [(mix_word (a := 0) hn ho hk bn bo).2.1 (by omega), (mix_word (a := 8) hn ho hk bn bo).2.1 (by omega), (mix_word (a := 12) hn ho hk bn bo).2.1 (by omega), (mix_word (a := 16) hn ho hk bn bo).2.1 (by omega)]
    rw [f3, e1, (super_w hg he hs hl).1]
    rfl
end Go.Ev
/- Journals: what is read behind a power failure. -/
namespace Go.Ev
open Go.Proofs
def sizN : List EntD → Nat
  | [] => 0
  | e :: A => nP (encD e) + sizN A
theorem sizN_app : ∀ (A B : List EntD), sizN (A ++ B) = sizN A + sizN B
  | [], B => (Nat.zero_add _).symm
  | e :: A, B => by show _ + sizN (A ++ B) = _ + sizN A + sizN B; rw [sizN_app A B]; omega
theorem nP_pos {b : List Int} (h : 0 < b.length) : 1 ≤ nP b := by unfold nP; omega
def EntAt (e : EntD) (a x : Int) (V : Int → List Int) : Prop := ∀ k : Nat, k < nP (encD e) → V (a + k) = dataB (a + k) x (k == 0) (k + 1 == nP (encD e)) (pieceB (encD e) k)
def LogOk : List EntD → Int → Int → Int → (Int → List Int) → Prop
  | [], _, _, _, _ => True
  | e :: A, a, ep, lim, V => (∃ x, 1 ≤ x ∧ ((a + nP (encD e) ≤ lim ∧ x < ep) ∨ (lim ≤ a ∧ x = ep)) ∧ EntAt e a x V) ∧ LogOk A (a + nP (encD e)) ep lim V
theorem log_app : ∀ {A B : List EntD} {a ep lim : Int} {V : Int → List Int}, LogOk (A ++ B) a ep lim V ↔ LogOk A a ep lim V ∧ LogOk B (a + sizN A) ep lim V
  | [], B, a, ep, lim, V => by
    show LogOk B a ep lim V ↔ True ∧ LogOk B (a + ((0 : Nat) : Int)) ep lim V
    rw [show a + ((0 : Nat) : Int) = a by omega]
    exact ⟨fun h => ⟨trivial, h⟩, fun h => h.2⟩
  | e :: A, B, a, ep, lim, V => by
    show _ ∧ LogOk (A ++ B) _ ep lim V ↔ (_ ∧ LogOk A _ ep lim V) ∧ LogOk B (a + ((nP (encD e) + sizN A : Nat) : Int)) ep lim V
    rw [log_app, show a + ((nP (encD e) + sizN A : Nat) : Int) = a + nP (encD e) + sizN A by omega]
    exact ⟨fun h => ⟨⟨h.1, h.2.1⟩, h.2.2⟩, fun h => ⟨h.1.1, h.1.2, h.2⟩⟩
theorem log_take {A : List EntD} {a ep lim : Int} {V : Int → List Int} (h : LogOk A a ep lim V) (c : Nat) : LogOk (A.take c) a ep lim V := by
  rw [← List.take_append_drop c A] at h
  exact (log_app.1 h).1
theorem log_drop {A : List EntD} {a ep lim : Int} {V : Int → List Int} (h : LogOk A a ep lim V) (c : Nat) : LogOk (A.drop c) (a + sizN (A.take c)) ep lim V := by
  rw [← List.take_append_drop c A] at h
  exact (log_app.1 h).2
theorem log_congr : ∀ {A : List EntD} {a ep lim : Int} {V W : Int → List Int}, (∀ s, a ≤ s → s < a + sizN A → W s = V s) → LogOk A a ep lim V → LogOk A a ep lim W
  | [], _, _, _, _, _, _, _ => trivial
  | e :: A, a, ep, lim, V, W, hw, h => by
    obtain ⟨⟨x, h1, h2, h3⟩, h4⟩ := h
    have hp : (sizN (e :: A) : Int) = nP (encD e) + sizN A := by show ((nP (encD e) + sizN A : Nat) : Int) = _; omega
    refine ⟨⟨x, h1, h2, fun k hk => ?_⟩, log_congr (fun s q1 q2 => hw s (by omega) (by omega)) h4⟩
    rw [hw _ (by omega) (by omega)]
    exact h3 k hk
theorem log_next : ∀ {A : List EntD} {a ep lim lim' : Int} {V : Int → List Int}, a + sizN A ≤ lim' → LogOk A a ep lim V → LogOk A a (ep + 1) lim' V
  | [], _, _, _, _, _, _, _ => trivial
  | e :: A, a, ep, lim, lim', V, hl, h => by
    obtain ⟨⟨x, h1, h2, h3⟩, h4⟩ := h
    have hp : (sizN (e :: A) : Int) = nP (encD e) + sizN A := by show ((nP (encD e) + sizN A : Nat) : Int) = _; omega
    exact ⟨⟨x, h1, .inl ⟨by omega, by omega⟩, h3⟩, log_next (by omega) h4⟩
def EntOk (e : EntD) : Prop := entD? e = true ∧ bytesOk e.2.2.2.2 = true
theorem ent_enc {e : EntD} (h : EntOk e) : bytesOk (encD e) = true ∧ decE (encD e) = 0 ∧ decD (encD e) = e := by
  have h1 := enc_ok h.1 h.2
  have h2 := dec_enc h.1 h.2
  refine ⟨h1, ?_, h2.2⟩
  unfold decE
  rw [show decOk (encD e) = true from h2.1]; rfl
theorem piece_take (b : List Int) (k : Nat) : b.take (46 * k) ++ pieceB b k = b.take (46 * (k + 1)) := by
  unfold pieceB
  rw [show 46 * (k + 1) = 46 * k + 46 by omega, List.take_add]
theorem piece_len {b : List Int} {k : Nat} (hk : k < nP b) : 1 ≤ (pieceB b k).length ∧ (k + 1 < nP b → (pieceB b k).length = 46) := by
  unfold pieceB nP at *
  rw [List.length_take, List.length_drop]
  omega
theorem piece_bytes {b : List Int} (h : bytesOk b = true) (k : Nat) : bytesOk (pieceB b k) = true := bytesOk_sub h (fun x hx => List.mem_of_mem_drop (List.mem_of_mem_take hx))
theorem take_all {b : List Int} {k : Nat} (hk : k = nP b) : b.take (46 * k) = b := List.take_of_length_le (by subst hk; unfold nP; omega)
def stR (e : EntD) (a x : Int) (r : RS) (j : Nat) : RS :=
  if j = 0 then r else if j < nP (encD e) then ⟨x, false, (encD e).take (46 * j), r.L, r.E, r.nx⟩ else ⟨x, true, encD e, r.L ++ [e], r.E ++ [a + nP (encD e)], a + nP (encD e)⟩
theorem stR_last {e : EntD} {a x : Int} {r : RS} : stR e a x r (nP (encD e)) = ⟨x, true, encD e, r.L ++ [e], r.E ++ [a + nP (encD e)], a + nP (encD e)⟩ := by
  have := nP_pos (encD_pos e)
  unfold stR
  rw [if_neg (by omega), if_neg (by omega)]
theorem stR_keeps {e : EntD} {a x : Int} {r : RS} {j : Nat} (h : j < nP (encD e)) : (stR e a x r j).L = r.L ∧ (stR e a x r j).E = r.E ∧ (stR e a x r j).nx = r.nx := by
  unfold stR
  by_cases q : j = 0
  · rw [if_pos q]; exact ⟨rfl, rfl, rfl⟩
  · rw [if_neg q, if_pos h]; exact ⟨rfl, rfl, rfl⟩
theorem step_ent {D : OD} {su : SU} {e : EntD} {a x : Int} {r : RS} {j : Nat} (he : EntOk e) (h0 : 0 ≤ a) (h1 : a + nP (encD e) ≤ 1073741824) (hr : r.l = true) (hx : 1 ≤ x) (hx2 : x < 4294967296) (hq : (a + nP (encD e) ≤ su.li ∧ x < su.e) ∨ (su.li ≤ a ∧ x = su.e)) (hj : j < nP (encD e))
    (hs : secOf D.N D.B (a + j) = dataB (a + j) x (j == 0) (j + 1 == nP (encD e)) (pieceB (encD e) j)) : stepR D su (a + j) (stR e a x r j) = some (stR e a x r (j + 1)) := by
  obtain ⟨pl1, pl2⟩ := piece_len hj
  have pl := pieceB_len (encD e) j
  obtain ⟨eb, ed, ee⟩ := ent_enc he
  obtain ⟨q1, q2, q3, q4, q5⟩ := data_read (s := a + j) (e := x) (f := j == 0) (l := j + 1 == nP (encD e)) pl pl1 ⟨by omega, by omega⟩ ⟨by omega, by omega⟩
  have q6 := (data_w (s := a + j) (e := x) (f := j == 0) (l := j + 1 == nP (encD e)) pl ⟨by omega, by omega⟩ ⟨by omega, by omega⟩).2.1
  have hacc : accB (dataB (a + j) x (j == 0) (j + 1 == nP (encD e)) (pieceB (encD e) j)) (stR e a x r j) = (encD e).take (46 * (j + 1)) := by
    unfold accB
    rw [q2, q4]
    by_cases q : j = 0
    · subst q
      rw [beq_self_eq_true, cond_true, ← piece_take]; rfl
    · rw [show (j == 0) = false by simpa using q, cond_false]
      unfold stR
      rw [if_neg q, if_pos hj]
      exact piece_take _ _
  have hfit : fitsS su (dataB (a + j) x (j == 0) (j + 1 == nP (encD e)) (pieceB (encD e) j)) (a + j) (stR e a x r j).ep (stR e a x r j).l = true := by
    unfold fitsS fitsB
    rw [q2, q3, q5, q6]
    have z1 : (decide (a + (j : Int) ≥ su.li) && (x != su.e)) = false := by
      rcases hq with ⟨z, _⟩ | ⟨_, z⟩
      · rw [decide_eq_false (by omega)]; rfl
      · rw [z, bne_self_eq_false, Bool.and_false]
    have z2 : (decide (a + (j : Int) < su.li) && (decide (x < 1) || decide (x ≥ su.e))) = false := by
      rcases hq with ⟨_, z⟩ | ⟨z, _⟩
      · rw [decide_eq_false (show ¬ x < 1 by omega), decide_eq_false (show ¬ x ≥ su.e by omega)]; simp
      · rw [decide_eq_false (by omega)]; rfl
    have z3 : ((j == 0) != (stR e a x r j).l) = false ∧ (!(j == 0) && (x != (stR e a x r j).ep)) = false := by
      by_cases q : j = 0
      · subst q
        unfold stR
        rw [if_pos rfl, hr]; exact ⟨rfl, rfl⟩
      · unfold stR
        rw [if_neg q, if_pos hj, show (j == 0) = false by simpa using q]
        exact ⟨rfl, by rw [bne_self_eq_false]; rfl⟩
    have z4 : ((j + 1 == nP (encD e)) || (((pieceB (encD e) j).length : Int) == 46)) = true := by
      by_cases q : j + 1 = nP (encD e)
      · rw [q, beq_self_eq_true]; rfl
      · rw [pl2 (by omega)]; simp
    rw [z1, z2, z3.1, z3.2, z4]; rfl
  obtain ⟨k1, k2, k3⟩ := stR_keeps (a := a) (x := x) (r := r) hj
  unfold stepR
  rw [hs, q1, hfit, hacc, q3, q6, k1, k2, k3]
  by_cases q : j + 1 = nP (encD e)
  · rw [q, beq_self_eq_true, take_all rfl, ed, ee, stR_last]
    show some _ = some _
    rw [show a + (j : Int) + 1 = a + nP (encD e) by omega]
  · rw [show (j + 1 == nP (encD e)) = false by simpa using q]
    unfold stR
    rw [if_neg (by omega), if_pos (by omega)]
    rfl
theorem go_steps {D : OD} {su : SU} {e : EntD} {a x : Int} {r : RS} : ∀ (j f : Nat), a + j ≤ 1073741824 → (∀ i : Nat, i < j → stepR D su (a + i) (stR e a x r i) = some (stR e a x r (i + 1))) → readGo D su (f + j) a r = readGo D su f (a + j) (stR e a x r j)
  | 0, f, _, _ => by
    show readGo D su f a r = readGo D su f (a + ((0 : Nat) : Int)) r
    rw [show a + ((0 : Nat) : Int) = a by omega]
  | j + 1, f, h1, h2 => by
    rw [show f + (j + 1) = (f + 1) + j by omega, go_steps j (f + 1) (by omega) (fun i hi => h2 i (by omega))]
    show (bif decide (a + (j : Int) < 1073741824) then _ else _) = _
    rw [decide_eq_true (by omega), cond_true, h2 j (by omega), show a + ((j + 1 : Nat) : Int) = a + j + 1 by omega]
def Rej (D : OD) (su : SU) (s : Int) : Prop := ∀ r, stepR D su s r = none
theorem stale_rej {D : OD} {su : SU} {s t : Int} (h0 : 0 ≤ s) (hs : s < 4294967296) (hl : su.li ≤ s) (hby : bytesOk (secOf D.N D.B s) = true) (ht : t ≤ s) (h : wdB (secOf D.N D.B s) 60 = su.e → wdB (secOf D.N D.B s) 56 < t) : Rej D su s := by
  intro r
  unfold stepR
  cases q : okD (secOf D.N D.B s) s with
  | false => rfl
  | true =>
    unfold okD at q
    simp only [Bool.and_eq_true, Bool.not_eq_true', beq_iff_eq, decide_eq_true_eq] at q
    obtain ⟨q0, q1, q2⟩ := q
    have pl : (pOf (secOf D.N D.B s)).length ≤ 46 := by
      unfold early at q0
      simp only [Bool.or_eq_false_iff, decide_eq_false_iff_not] at q0
      unfold pOf nOf
      rw [List.length_take]
      omega
    have b0 := wdB_nonneg hby 4
    have b1 : wdB (secOf D.N D.B s) 4 < 4294967296 := by
      have := bytesOk_get hby 4; have := bytesOk_get hby (4 + 1); have := bytesOk_get hby (4 + 2); have := bytesOk_get hby (4 + 3)
      unfold wdB; omega
    have w := data_w (f := fOf (secOf D.N D.B s)) (l := lOf (secOf D.N D.B s)) pl ⟨show 0 ≤ wdB (secOf D.N D.B s) 0 by omega, by omega⟩ ⟨b0, b1⟩
    rw [← q2] at w
    have ne : wdB (secOf D.N D.B s) 4 ≠ su.e := fun z => by
      have := h (by omega)
      omega
    have : fitsS su (secOf D.N D.B s) s r.ep r.l = false := by
      unfold fitsS fitsB
      rw [decide_eq_true (show s ≥ su.li by omega), show (wdB (secOf D.N D.B s) 4 != su.e) = true by simpa using ne]
      rfl
    rw [this]; rfl
theorem rej_stop {D : OD} {su : SU} {a : Int} (h : Rej D su a) (f : Nat) (r : RS) : (readGo D su f a r).2 = r := by
  cases f with
  | zero => rfl
  | succ f =>
    show (bif decide (a < 1073741824) then _ else _ : Bool × RS).2 = r
    cases decide (a < 1073741824) with
    | false => rfl
    | true => rw [cond_true, h r]
def endsN : List EntD → Int → List Int
  | [], _ => []
  | e :: A, a => (a + nP (encD e)) :: endsN A (a + nP (encD e))
theorem endsN_len : ∀ (A : List EntD) (a : Int), (endsN A a).length = A.length
  | [], _ => rfl
  | e :: A, a => congrArg (· + 1) (endsN_len A _)
theorem read_log {D : OD} {su : SU} {V : Int → List Int} (hx : su.e < 4294967296) : ∀ (A : List EntD) (a : Int) (r : RS) (f : Nat), (∀ e ∈ A, EntOk e) → 0 ≤ a → a + sizN A ≤ 1073741824 → sizN A ≤ f → r.l = true → LogOk A a su.e su.li V →
    (∀ s, a ≤ s → s < a + sizN A → secOf D.N D.B s = V s ∨ Rej D su s) → (f = sizN A ∨ Rej D su (a + sizN A)) →
    ∃ c, c ≤ A.length ∧ (readGo D su f a r).2.L = r.L ++ A.take c ∧ (readGo D su f a r).2.E = r.E ++ endsN (A.take c) a ∧ (readGo D su f a r).2.nx = (if c = 0 then r.nx else a + sizN (A.take c)) ∧
      (∀ s, a ≤ s → s < a + sizN (A.take c) → secOf D.N D.B s = V s) ∧ (c < A.length → ∃ s, a + sizN (A.take c) ≤ s ∧ s < a + sizN (A.take (c + 1)) ∧ secOf D.N D.B s ≠ V s)
  | [], a, r, f, _, _, _, _, _, _, _, hs => by
    refine ⟨0, Nat.le_refl _, ?_⟩
    have : (readGo D su f a r).2 = r := by
      rcases hs with rfl | h
      · rfl
      · exact rej_stop (by rwa [show a + ((sizN [] : Nat) : Int) = a by show a + ((0 : Nat) : Int) = a; omega] at h) f r
    rw [this]
    refine ⟨by simp, by simp [endsN], rfl, fun s h1 h2 => ?_, fun h => absurd h (by simp)⟩
    exact absurd h2 (by show ¬ s < a + ((0 : Nat) : Int); omega)
  | e :: A, a, r, f, he, h0, h1, hf, hr, hl, hs, hend => by
    obtain ⟨⟨x, x1, x2, x3⟩, hl2⟩ := hl
    have hp : sizN (e :: A) = nP (encD e) + sizN A := rfl
    have he1 := he e (List.mem_cons_self ..)
    have hn := nP_pos (encD_pos e)
    have hxx : x < 4294967296 := by omega
    have step := fun (j : Nat) (hj : j < nP (encD e)) (hs : secOf D.N D.B (a + j) = V (a + j)) => step_ent (D := D) (su := su) (r := r) he1 h0 (by omega) hr x1 hxx x2 hj (hs.trans (x3 j hj))
    by_cases hall : ∀ j : Nat, j < nP (encD e) → secOf D.N D.B (a + j) = V (a + j)
    · have go := go_steps (D := D) (su := su) (e := e) (a := a) (x := x) (r := r) (nP (encD e)) (f - nP (encD e)) (by omega) (fun i hi => step i hi (hall i hi))
      rw [show f - nP (encD e) + nP (encD e) = f by omega, stR_last] at go
      obtain ⟨c, c1, c2, c3, c4, c5, c6⟩ := read_log hx A (a + nP (encD e)) ⟨x, true, encD e, r.L ++ [e], r.E ++ [a + nP (encD e)], a + nP (encD e)⟩ (f - nP (encD e)) (fun e' h' => he e' (List.mem_cons_of_mem _ h')) (by omega) (by omega) (by omega) rfl hl2
        (fun s q1 q2 => hs s (by omega) (by omega)) (by
          rcases hend with q | q
          · exact .inl (by omega)
          · right; rwa [show a + ((sizN (e :: A) : Nat) : Int) = a + nP (encD e) + sizN A by rw [hp]; omega] at q)
      have pt : ∀ c, sizN ((e :: A).take (c + 1)) = nP (encD e) + sizN (A.take c) := fun c => rfl
      refine ⟨c + 1, by simpa using c1, ?_, ?_, ?_, ?_, ?_⟩
      · rw [go, c2]; simp
      · rw [go, c3]; simp [endsN]
      · rw [go, c4, if_neg (show ¬ c + 1 = 0 by omega)]
        by_cases q : c = 0
        · subst q
          rw [if_pos rfl, pt]
          show a + (nP (encD e) : Int) = a + ((nP (encD e) + 0 : Nat) : Int)
          omega
        · rw [if_neg q, pt]; omega
      · intro s q1 q2
        rw [pt] at q2
        by_cases q : s < a + nP (encD e)
        · have := hall (s - a).toNat (by omega)
          rwa [show a + (((s - a).toNat : Nat) : Int) = s by omega] at this
        · exact c5 s (by omega) (by omega)
      · intro q
        obtain ⟨s, q1, q2, q3⟩ := c6 (by simpa using q)
        exact ⟨s, by rw [pt]; omega, by rw [pt]; omega, q3⟩
    · -- the first sector that is not there
      have ex : ∃ j : Nat, j < nP (encD e) ∧ secOf D.N D.B (a + j) ≠ V (a + j) ∧ ∀ i : Nat, i < j → secOf D.N D.B (a + i) = V (a + i) := by
        clear hs hend step
        have : ∀ n : Nat, (∀ j : Nat, j < n → secOf D.N D.B (a + j) = V (a + j)) ∨ ∃ j : Nat, j < n ∧ secOf D.N D.B (a + j) ≠ V (a + j) ∧ ∀ i : Nat, i < j → secOf D.N D.B (a + i) = V (a + i) := by
          intro n
          induction n with
          | zero => exact .inl (fun j h => absurd h (by omega))
          | succ n ih =>
            rcases ih with h | ⟨j, h1, h2, h3⟩
            · by_cases q : secOf D.N D.B (a + n) = V (a + n)
              · left
                intro j hj
                by_cases z : j = n
                · subst z; exact q
                · exact h j (by omega)
              · exact .inr ⟨n, by omega, q, h⟩
            · exact .inr ⟨j, by omega, h2, h3⟩
        rcases this (nP (encD e)) with h | h
        · exact absurd h hall
        · exact h
      obtain ⟨j, j1, j2, j3⟩ := ex
      have go := go_steps (D := D) (su := su) (e := e) (a := a) (x := x) (r := r) j (f - j) (by omega) (fun i hi => step i (by omega) (j3 i hi))
      rw [show f - j + j = f by omega] at go
      have hrej : Rej D su (a + j) := by
        rcases hs (a + j) (by omega) (by omega) with q | q
        · exact absurd q j2
        · exact q
      have hstop := rej_stop hrej (f - j) (stR e a x r j)
      obtain ⟨k1, k2, k3⟩ := stR_keeps (a := a) (x := x) (r := r) j1
      have pt : sizN ((e :: A).take 1) = nP (encD e) + 0 := rfl
      have p0 : sizN ((e :: A).take 0) = 0 := rfl
      refine ⟨0, Nat.zero_le _, ?_, ?_, ?_, ?_, ?_⟩
      · rw [go, hstop, k1]; simp
      · rw [go, hstop, k2]; simp [endsN]
      · rw [go, hstop, k3, if_pos rfl]
      · intro s q1 q2
        rw [p0] at q2
        omega
      · intro _
        exact ⟨a + j, by rw [p0]; omega, by rw [pt]; omega, j2⟩
end Go.Ev
/- Journals: devices behind a power failure. -/
namespace Go.Ev
open Go.Proofs
inductive Torn (B : List Int) : List SwD → List Int → Prop
  | nil : Torn B [] B
  | snoc {P : List SwD} {B1 : List Int} {w : SwD} {k : Nat} : Torn B P B1 → k ≤ 64 → Torn B (P ++ [w]) (putAt B1 (w.1.toNat * 64) (w.2.take k))
theorem torn_nil {B B' : List Int} (h : Torn B [] B') : B' = B := by
  generalize e : ([] : List SwD) = Q at h
  cases h with
  | nil => rfl
  | snoc h1 h2 => exact absurd e.symm (by simp)
theorem torn_snoc {B B' : List Int} {P : List SwD} {w : SwD} (h : Torn B (P ++ [w]) B') : ∃ B1 k, Torn B P B1 ∧ k ≤ 64 ∧ B' = putAt B1 (w.1.toNat * 64) (w.2.take k) := by
  generalize e : P ++ [w] = Q at h
  cases h with
  | nil => exact absurd e (by simp)
  | snoc h1 h2 =>
    obtain ⟨e1, e2⟩ := List.append_inj' e rfl
    injection e2 with e2
    subst e1; subst e2
    exact ⟨_, _, h1, h2, rfl⟩
theorem torn_settle {many : Nat → Nat} (hm : ∀ i, many i ≤ 64) (P : List SwD) (B : List Int) : Torn B P (settleN many P B P.length) := by
  have : ∀ n, n ≤ P.length → Torn B (P.take n) (settleN many P B n) := by
    intro n
    induction n with
    | zero => intro _; exact .nil
    | succ n ih =>
      intro h
      have e1 : P.take (n + 1) = P.take n ++ [P.getD n SW.z] := by
        rw [List.take_succ_eq_append_getElem (by omega), List.getD_eq_getElem?_getD, List.getElem?_eq_getElem (by omega)]; rfl
      rw [e1]
      exact .snoc (ih (by omega)) (hm n)
  have h := this P.length (Nat.le_refl _)
  rwa [List.take_length] at h
theorem settle_prefix {many : Nat → Nat} {P : List SwD} {w : SwD} {B : List Int} : ∀ n, n ≤ P.length → settleN many (P ++ [w]) B n = settleN many P B n
  | 0, _ => rfl
  | n + 1, h => by
    show putAt (settleN many (P ++ [w]) B n) _ _ = putAt (settleN many P B n) _ _
    rw [settle_prefix n (by omega), show (P ++ [w]).getD n SW.z = P.getD n SW.z by rw [List.getD_eq_getElem?_getD, List.getElem?_append_left (by omega), ← List.getD_eq_getElem?_getD]]
def fullP (P : List SwD) (B : List Int) : List Int := settleN (fun _ => 64) P B P.length
theorem fullP_snoc (P : List SwD) (w : SwD) (B : List Int) : fullP (P ++ [w]) B = putAt (fullP P B) (w.1.toNat * 64) (w.2.take 64) := by
  unfold fullP
  rw [List.length_append]
  show putAt (settleN (fun _ => 64) (P ++ [w]) B P.length) _ _ = _
  rw [settle_prefix P.length (Nat.le_refl _), show (P ++ [w]).getD P.length SW.z = w by rw [List.getD_eq_getElem?_getD, List.getElem?_append_right (Nat.le_refl _)]; simp]
theorem sect_putk {B new : List Int} {p k q : Nat} (hn : new.length = 64) (hk : k ≤ 64) (h : p * 64 + 64 ≤ B.length) : sect (putAt B (p * 64) (new.take k)) q = if p = q then mixS k new (sect B p) else sect B q := by
  have hl : (new.take k).length = k := by rw [List.length_take]; omega
  apply List.ext_getElem?
  intro j
  by_cases h1 : p = q
  · subst h1
    rw [if_pos rfl]
    unfold sect mixS
    simp only [List.getElem?_take, List.getElem?_drop, putAt_get (show p * 64 + (new.take k).length ≤ B.length by omega), List.getElem?_append, hl]
    by_cases h2 : j < 64
    · rw [if_pos h2, if_neg (by omega)]
      by_cases h3 : j < k
      · rw [if_pos (by omega), if_pos h3, show p * 64 + j - p * 64 = j by omega]
      · rw [if_neg (by omega), if_neg h3, if_pos (by omega), show p * 64 + (k + (j - k)) = p * 64 + j by omega]
    · rw [if_neg h2, if_neg (by omega), if_neg (by omega)]
  · rw [if_neg h1]
    unfold sect
    simp only [List.getElem?_take, List.getElem?_drop, putAt_get (show p * 64 + (new.take k).length ≤ B.length by omega), hl]
    by_cases h2 : j < 64
    · rw [if_pos h2, if_pos h2]
      by_cases h3 : q < p
      · rw [if_pos (by omega)]
      · rw [if_neg (by omega), if_neg (by omega)]
    · rw [if_neg h2, if_neg h2]
theorem mix64 {new old : List Int} (hn : new.length = 64) (ho : old.length = 64) : mixS 64 new old = new := by
  unfold mixS
  rw [List.take_of_length_le (by omega), List.drop_eq_nil_of_le (by omega), List.append_nil]
theorem put_bytes {B src : List Int} {off : Nat} (hb : bytesOk B = true) (hs : bytesOk src = true) : bytesOk (putAt B off src) = true := by
  unfold putAt
  exact bytesOk_app (bytesOk_sub hb (fun x hx => List.mem_of_mem_take hx)) (bytesOk_app hs (bytesOk_sub hb (fun x hx => List.mem_of_mem_drop hx)))
theorem take_bytes {b : List Int} (h : bytesOk b = true) (k : Nat) : bytesOk (b.take k) = true := bytesOk_sub h (fun x hx => List.mem_of_mem_take hx)
theorem place_mod {N s : Int} (hs : 0 ≤ s) : placeI N s = 2 + s % (N - 2) := by
  unfold placeI
  rw [Int.tmod_eq_emod_of_nonneg hs]
theorem place_ne {N s t : Int} (hN : 8 ≤ N) (hs : 0 ≤ s) (h1 : s < t) (h2 : t < s + (N - 2)) : placeI N s ≠ placeI N t := by
  rw [place_mod hs, place_mod (by omega)]
  intro h
  have h3 : t % (N - 2) = s % (N - 2) := by omega
  have h4 := Int.emod_emod_of_dvd (t - s) (Int.dvd_refl (N - 2))
  have h5 : (t - s) % (N - 2) = 0 := by
    rw [Int.sub_emod, h3]; simp
  rw [Int.emod_eq_of_lt (by omega) (by omega)] at h5
  omega
theorem place_wrap {N s : Int} (hs : 0 ≤ s) (hN : 8 ≤ N) : placeI N (s + (N - 2)) = placeI N s := by
  rw [place_mod hs, place_mod (by omega), Int.add_emod_right]
structure DataOk (N : Int) (B : List Int) (ba nf nx ep : Int) (V : Int → List Int) : Prop where
  len : (B.length : Int) = N * 64
  by' : bytesOk B = true
  old : ∀ s, ba ≤ s → s < nf → secOf N B s = V s
  rest : ∀ s, nf ≤ s → s < ba + (N - 2) → (s < nx ∧ secOf N B s = V s) ∨ (wdB (secOf N B s) 60 = ep → wdB (secOf N B s) 56 < s)
  eps : ∀ p : Nat, 2 ≤ p → (p : Int) < N → wdB (sect B p) 60 ≤ ep
theorem put_len' {B new : List Int} {p k : Nat} (hn : new.length = 64) (hk : k ≤ 64) (h : p * 64 + 64 ≤ B.length) : (putAt B (p * 64) (new.take k)).length = B.length := putAt_len (by rw [List.length_take]; omega)
theorem data_slot {N : Int} {B new : List Int} {ba nf nx ep : Int} {V : Int → List Int} {p k : Nat} (h : DataOk N B ba nf nx ep V) (hN : 8 ≤ N) (h0 : 0 ≤ ba) (h1 : ba ≤ nf) (hp : p < 2) (hn : new.length = 64) (bn : bytesOk new = true) (hk : k ≤ 64) : DataOk N (putAt B (p * 64) (new.take k)) ba nf nx ep V := by
  have hl := h.len
  have hs : ∀ q, 2 ≤ q → sect (putAt B (p * 64) (new.take k)) q = sect B q := fun q hq => by rw [sect_putk hn hk (by omega), if_neg (by omega)]
  have hsec : ∀ s, 0 ≤ s → secOf N (putAt B (p * 64) (new.take k)) s = secOf N B s := fun s h => by
    have := placeI_ok hN h
    unfold secOf
    exact hs _ (by omega)
  refine ⟨by rw [put_len' hn hk (by omega)]; exact hl, put_bytes h.by' (take_bytes bn k), fun s q1 q2 => ?_, fun s q1 q2 => ?_, fun q q1 q2 => ?_⟩
  · rw [hsec s (by omega)]; exact h.old s q1 q2
  · rw [hsec s (by omega)]; exact h.rest s q1 q2
  · rw [hs q q1]; exact h.eps q q1 q2
theorem data_write {N : Int} {B new : List Int} {ba nf nx ep : Int} {V W : Int → List Int} {k : Nat} (h : DataOk N B ba nf nx ep V) (hN : 8 ≤ N) (h0 : 0 ≤ ba) (h1 : ba ≤ nf) (h2 : nf ≤ nx) (h3 : nx < ba + (N - 2)) (hn : new.length = 64) (bn : bytesOk new = true) (hk : k ≤ 64)
    (w56 : wdB new 56 = nx) (w60 : wdB new 60 = ep) (hW : W nx = new) (hV : ∀ s, s < nx → W s = V s) : DataOk N (putAt B ((placeI N nx).toNat * 64) (new.take k)) ba nf (nx + 1) ep W := by
  have hl := h.len
  obtain ⟨p0, p1⟩ := placeI_ok hN (show 0 ≤ nx by omega)
  have hB : (placeI N nx).toNat * 64 + 64 ≤ B.length := by omega
  have hput := fun q => sect_putk (B := B) (new := new) (p := (placeI N nx).toNat) (k := k) (q := q) hn hk hB
  have hso : (secOf N B nx).length = 64 := sect_len hB
  have hbo : bytesOk (secOf N B nx) = true := sect_bytes h.by' _
  have hself : secOf N (putAt B ((placeI N nx).toNat * 64) (new.take k)) nx = mixS k new (secOf N B nx) := by
    unfold secOf; rw [hput, if_pos rfl]
  have hother : ∀ s, ba ≤ s → s < ba + (N - 2) → s ≠ nx → secOf N (putAt B ((placeI N nx).toNat * 64) (new.take k)) s = secOf N B s := fun s q1 q2 q3 => by
    have a := placeI_ok hN (show 0 ≤ s by omega)
    have hne : placeI N s ≠ placeI N nx := by
      rcases Int.lt_or_gt_of_ne q3 with q | q
      · exact place_ne hN (by omega) q (by omega)
      · exact (place_ne hN (by omega) q (by omega)).symm
    unfold secOf
    rw [hput, if_neg (by omega)]
  refine ⟨by rw [put_len' hn hk hB]; exact hl, put_bytes h.by' (take_bytes bn k), fun s q1 q2 => ?_, fun s q1 q2 => ?_, fun q q1 q2 => ?_⟩
  · rw [hother s q1 (by omega) (by omega), hV s (by omega)]; exact h.old s q1 q2
  · by_cases q : s = nx
    · subst q
      rw [hself]
      have hst : wdB (secOf N B s) 60 = ep → wdB (secOf N B s) 56 < s := by
        rcases h.rest s h2 h3 with z | z
        · exact absurd z.1 (by omega)
        · exact z
      rcases mix_data hn hso hk bn hbo w56 w60 hst with z | z
      · exact .inl ⟨by omega, by rw [z, hW]⟩
      · exact .inr z
    · rw [hother s (by omega) q2 q]
      rcases h.rest s q1 q2 with z | z
      · exact .inl ⟨by omega, by rw [hV s z.1]; exact z.2⟩
      · exact .inr z
  · rw [hput]
    by_cases q3 : (placeI N nx).toNat = q
    · rw [if_pos q3]
      have := (mix_word (a := 60) hn hso hk bn hbo).2.2 (by rw [w60]; exact h.eps _ (by omega) (by omega))
      rw [w60] at this
      exact this
    · rw [if_neg q3]; exact h.eps q q1 q2
theorem data_full {N : Int} {B new : List Int} {ba nx ep : Int} {V W : Int → List Int} (h : DataOk N B ba nx nx ep V) (hN : 8 ≤ N) (h0 : 0 ≤ ba) (h1 : ba ≤ nx) (h3 : nx < ba + (N - 2)) (hn : new.length = 64) (bn : bytesOk new = true)
    (w56 : wdB new 56 = nx) (w60 : wdB new 60 = ep) (hW : W nx = new) (hV : ∀ s, s < nx → W s = V s) : DataOk N (putAt B ((placeI N nx).toNat * 64) (new.take 64)) ba (nx + 1) (nx + 1) ep W := by
  have g := data_write (k := 64) h hN h0 h1 (Int.le_refl _) h3 hn bn (Nat.le_refl _) w56 w60 hW hV
  have hl := h.len
  obtain ⟨p0, p1⟩ := placeI_ok hN (show 0 ≤ nx by omega)
  have hB : (placeI N nx).toNat * 64 + 64 ≤ B.length := by omega
  refine ⟨g.len, g.by', fun s q1 q2 => ?_, fun s q1 q2 => g.rest s (by omega) q2, g.eps⟩
  by_cases q : s = nx
  · subst q
    unfold secOf
    rw [sect_putk hn (Nat.le_refl _) hB, if_pos rfl, mix64 hn (sect_len hB), hW]
  · exact g.old s q1 (by omega)
theorem log_wd : ∀ {A : List EntD} {a ep lim : Int} {V : Int → List Int}, (∀ e ∈ A, EntOk e) → 0 ≤ a → a + sizN A ≤ 1073741824 → ep < 4294967296 → LogOk A a ep lim V → ∀ s, a ≤ s → s < a + sizN A → wdB (V s) 56 = s
  | [], a, _, _, _, _, _, _, _, _, s, q1, q2 => by exact absurd q2 (by show ¬ s < a + ((0 : Nat) : Int); omega)
  | e :: A, a, ep, lim, V, he, h0, h1, hep, h, s, q1, q2 => by
    obtain ⟨⟨x, x1, x2, x3⟩, h4⟩ := h
    have hp : sizN (e :: A) = nP (encD e) + sizN A := rfl
    by_cases q : s < a + nP (encD e)
    · have hv := x3 (s - a).toNat (by omega)
      rw [show a + (((s - a).toNat : Nat) : Int) = s by omega] at hv
      rw [hv]
      exact (data_w (pieceB_len _ _) ⟨by omega, by omega⟩ ⟨by omega, by omega⟩).2.2.1
    · exact log_wd (fun e' h' => he e' (List.mem_cons_of_mem _ h')) (by omega) (by omega) hep h4 s (by omega) (by omega)
theorem data_base {N : Int} {B : List Int} {ba st nx ep : Int} {V : Int → List Int} (h : DataOk N B ba nx nx ep V) (hN : 8 ≤ N) (h0 : 0 ≤ ba) (h1 : ba ≤ st) (h2 : st ≤ nx) (hr : nx ≤ ba + (N - 2)) (hw : ∀ s, ba ≤ s → s < nx → wdB (V s) 56 = s) : DataOk N B st nx nx ep V := by
  refine ⟨h.len, h.by', fun s q1 q2 => h.old s (by omega) q2, fun s q1 q2 => ?_, h.eps⟩
  by_cases q : s < ba + (N - 2)
  · exact h.rest s q1 q
  · right
    intro _
    have e : secOf N B s = secOf N B (s - (N - 2)) := by
      unfold secOf
      rw [← place_wrap (N := N) (s := s - (N - 2)) (by omega) hN, show s - (N - 2) + (N - 2) = s by omega]
    rw [e, h.old (s - (N - 2)) (by omega) (by omega), hw _ (by omega) (by omega)]
    omega
def SupNew (B : List Int) (gen ep st lim : Int) : Prop := sect B (gen.tmod 2).toNat = superB gen ep st lim ∧ wdB (sect B ((gen + 1).tmod 2).toNat) 56 < gen
def SupTwo (B : List Int) (gen ep ba st lim : Int) : Prop := 2 ≤ gen ∧ sect B ((gen + 1).tmod 2).toNat = superB (gen - 1) ep ba lim ∧ (sect B (gen.tmod 2).toNat = superB gen ep st lim ∨ (isSup (sect B (gen.tmod 2).toNat) (gen.tmod 2) = true → wdB (sect B (gen.tmod 2).toNat) 0 < gen - 1))
theorem tm2 (g : Int) (h : 0 ≤ g) : (g.tmod 2 = 0 ∧ (g + 1).tmod 2 = 1) ∨ (g.tmod 2 = 1 ∧ (g + 1).tmod 2 = 0) := by
  rw [Int.tmod_eq_emod_of_nonneg h, Int.tmod_eq_emod_of_nonneg (by omega)]; omega
theorem tm2' (g : Int) (h : 0 ≤ g) : (g + 1 + 1).tmod 2 = g.tmod 2 := by
  rw [Int.tmod_eq_emod_of_nonneg h, Int.tmod_eq_emod_of_nonneg (by omega)]; omega
theorem sup_tail {sec : List Int} {a : Int} (hb : bytesOk sec = true) (h : isSup sec a = true) : wdB sec 56 = wdB sec 0 := by
  obtain ⟨f1, f2, f3⟩ := isSup_facts hb h
  have g0 := f1.g0; have g1 := f1.g1; have e0 := f1.e0; have e1 := f1.e1; have s0 := f1.s0; have s1 := f1.s1; have l0 := f1.l0; have l1 := f1.l1
  have := (super_w (g := (suOf sec).g) (e := (suOf sec).e) (st := (suOf sec).st) (li := (suOf sec).li) ⟨by omega, by omega⟩ ⟨by omega, by omega⟩ ⟨by omega, by omega⟩ ⟨by omega, by omega⟩).2
  have e : superB (suOf sec).g (suOf sec).e (suOf sec).st (suOf sec).li = sec := f3.symm
  rw [e] at this
  exact this
theorem super_pick {B : List Int} {g e st li : Int} (hg : 1 ≤ g ∧ g ≤ 1073741824) (he : 1 ≤ e ∧ e ≤ 1073741824) (hs : 0 ≤ st ∧ st ≤ 1073741824) (hl : 0 ≤ li ∧ li ≤ 1073741824) (h1 : sect B (g.tmod 2).toNat = superB g e st li)
    (h2 : isSup (sect B ((g + 1).tmod 2).toNat) ((g + 1).tmod 2) = true → wdB (sect B ((g + 1).tmod 2).toNat) 0 < g) : superOf B = (⟨g, e, st, li⟩, true) := by
  have i1 := super_is hg he hs hl
  have s1 := (super_w (g := g) (e := e) (st := st) (li := li) ⟨by omega, by omega⟩ ⟨by omega, by omega⟩ ⟨by omega, by omega⟩ ⟨by omega, by omega⟩).1
  have w1 : wdB (superB g e st li) 0 = g := congrArg SU.g s1
  unfold superOf
  rcases tm2 g (by omega) with ⟨m1, m2⟩ | ⟨m1, m2⟩
  · rw [m1] at h1 i1
    rw [m2] at h2
    have h1 : sect B 0 = superB g e st li := h1
    replace h2 : isSup (sect B 1) 1 = true → wdB (sect B 1) 0 < g := h2
    rw [h1, i1, cond_true, s1, w1]
    cases q : isSup (sect B 1) 1 with
    | false => rfl
    | true => rw [decide_eq_false (by have := h2 q; omega)]; rfl
  · rw [m1] at h1 i1
    rw [m2] at h2
    have h1 : sect B 1 = superB g e st li := h1
    replace h2 : isSup (sect B 0) 0 = true → wdB (sect B 0) 0 < g := h2
    rw [h1, i1, s1, w1]
    cases q : isSup (sect B 0) 0 with
    | false => rfl
    | true => rw [decide_eq_true (show g > wdB (sect B 0) 0 from h2 q)]; rfl
end Go.Ev
/- Journals: what stays so between power failures. -/
namespace Go.Ev
open Go.Proofs
structure PI (J : JD) (A : List EntD) (d sy : Nat) (V : Int → List Int) : Prop where
  jx : JX J
  ents : ∀ e ∈ A, EntOk e
  d1 : d ≤ A.length
  sy1 : sy ≤ A.length
  L : J.L = A.drop d
  st : J.st = J.ba + sizN (A.take d)
  nx : J.nx = J.ba + sizN A
  lim : J.lim ≤ J.ba + sizN (A.take sy)
  so : J.so = false → d = 0
  log : LogOk A J.ba J.ep J.lim V
  T : ∀ B', Torn J.B J.P B' → DataOk J.N B' J.ba (J.ba + sizN (A.take sy)) J.nx J.ep V ∧ (if J.so = true then SupTwo B' J.gen J.ep J.ba J.st J.lim else SupNew B' J.gen J.ep J.st J.lim)
  F : DataOk J.N (setl J) J.ba J.nx J.nx J.ep V ∧ SupNew (setl J) J.gen J.ep J.st J.lim
theorem siz_take_le (A : List EntD) (n : Nat) : sizN (A.take n) ≤ sizN A := by
  have := sizN_app (A.take n) (A.drop n)
  rw [List.take_append_drop] at this
  omega
theorem siz_split (A : List EntD) (n : Nat) : sizN (A.take n) + sizN (A.drop n) = sizN A := by
  have := sizN_app (A.take n) (A.drop n)
  rw [List.take_append_drop] at this
  omega
theorem siz_take_mono (A : List EntD) {m n : Nat} (h : m ≤ n) : sizN (A.take m) ≤ sizN (A.take n) := by
  have := siz_take_le (A.take n) m
  rwa [List.take_take, Nat.min_eq_left h] at this
theorem jx_nN {J : JD} (h : JX J) : 8 ≤ J.N ∧ J.N ≤ 4096 ∧ 0 ≤ J.ba ∧ J.ba ≤ J.st ∧ J.st ≤ J.nx ∧ J.nx ≤ J.ba + (J.N - 2) ∧ J.nx ≤ 1073741824 := by
  have hd := dev_facts h.jr.dev
  have := hd.lo; have := hd.hi; have := h.jr.b0; have := h.jr.bs; have := h.jr.sn; have := h.jr.room; have := h.jr.nm
  omega
theorem at_siz {J : JD} (h : JX J) : ∀ {n : Nat}, n ≤ J.L.length → atJ J.st J.E n = J.st + sizN (J.L.take n)
  | 0, _ => by show J.st = J.st + ((0 : Nat) : Int); omega
  | n + 1, hn => by
    have ih := at_siz h (n := n) (by omega)
    have he := h.ex n (by omega)
    show J.E.getD n 0 = _
    rw [he, ih, secs_nP (encD_pos _)]
    have e1 : J.L.take (n + 1) = J.L.take n ++ [J.L.getD n EN.z] := by
      rw [List.take_succ_eq_append_getElem (by omega), List.getD_eq_getElem?_getD, List.getElem?_eq_getElem (by omega)]; rfl
    rw [e1, sizN_app]
    show _ = J.st + ((sizN (J.L.take n) + (nP (encD (J.L.getD n EN.z)) + 0) : Nat) : Int)
    omega
theorem setl_nil {J : JD} (h : J.P = []) : setl J = J.B := by unfold setl; rw [h]; rfl
theorem pi_sync {J : JD} {A : List EntD} {d sy : Nat} {V : Int → List Int} (h : PI J A d sy V) : PI (syncX J) (A.drop d) 0 (A.drop d).length V := by
  obtain ⟨n1, n2, n3, n4, n5, n6, n7⟩ := jx_nN h.jx
  have ep := h.jx.jr.e1
  have sp := siz_split A d
  have hst := h.st
  have hnx := h.nx
  have hwd := log_wd h.ents n3 (by omega) (by omega) h.log
  have D1 := data_base h.F.1 n1 n3 n4 n5 n6 (fun s q1 q2 => hwd s q1 (by omega))
  have eN : (syncX J).N = J.N := rfl
  have e0 : (A.drop d).take (A.drop d).length = A.drop d := List.take_length
  have hnx2 : (syncX J).nx = (syncX J).ba + sizN (A.drop d) := by show J.nx = J.st + _; omega
  refine ⟨syncX_jx h.jx, fun e he => h.ents e (List.mem_of_mem_drop he), Nat.zero_le _, Nat.le_refl _, h.L, ?_, hnx2, ?_, fun _ => rfl, ?_, ?_, ?_⟩
  · show J.st = J.st + ((0 : Nat) : Int); omega
  · rw [e0]
    have := h.jx.jr.l1
    show J.lim ≤ J.st + _
    omega
  · have := log_drop h.log d
    rw [← hst] at this
    exact this
  · intro B' hB
    have := torn_nil hB
    subst this
    rw [e0, ← hnx2]
    exact ⟨D1, h.F.2⟩
  · have e1 : setl (syncX J) = setl J := setl_nil rfl
    rw [e1]
    exact ⟨D1, h.F.2⟩
theorem pi_trim {J : JD} {A : List EntD} {d sy n : Nat} {V : Int → List Int} (h : PI J A d sy V) (hs : J.so = false) (hn : n ≤ J.L.length) (hg : J.gen < 1073741824) (hp : J.P.length < 2000) : PI (trimX J n) A n sy V := by
  have hd0 := h.so hs
  subst hd0
  obtain ⟨n1, n2, n3, n4, n5, n6, n7⟩ := jx_nN h.jx
  have hL : J.L = A := h.L
  have hst : J.st = J.ba := by have := h.st; rw [this]; show J.ba + ((0 : Nat) : Int) = J.ba; omega
  have g0 := h.jx.jr.g0; have e0 := h.jx.jr.e0; have e1 := h.jx.jr.e1; have l0 := h.jx.jr.l0; have l1 := h.jx.jr.l1
  have ha : trimSt J n = J.ba + sizN (A.take n) := by rw [trimSt_eq, at_siz h.jx hn, hst, hL]
  have hle := siz_take_le A n
  have hnx := h.nx
  have eX : trimX J n = ⟨J.N, J.B, J.P ++ [((J.gen + 1).tmod 2, superB (J.gen + 1) J.ep (trimSt J n) J.lim)], J.gen + 1, J.ep, true, J.lim, trimSt J n, J.ba, J.nx, J.L.drop n, J.E.drop n⟩ := rfl
  have hst' : 0 ≤ trimSt J n ∧ trimSt J n ≤ 1073741824 := by omega
  have hm : ((J.gen + 1).tmod 2).toNat < 2 := by rcases tm2 J.gen (by omega) with ⟨_, z⟩ | ⟨_, z⟩ <;> rw [z] <;> decide
  have hsl := superB_len (J.gen + 1) J.ep (trimSt J n) J.lim
  have hsb := super_bytes (J.gen + 1) J.ep (trimSt J n) J.lim
  have hne : ((J.gen + 1).tmod 2).toNat ≠ (J.gen.tmod 2).toNat := by rcases tm2 J.gen (by omega) with ⟨z1, z⟩ | ⟨z1, z⟩ <;> rw [z, z1] <;> decide
  have slots : ∀ (B1 : List Int) (k : Nat), k ≤ 64 → (B1.length : Int) = J.N * 64 → sect (putAt B1 (((J.gen + 1).tmod 2).toNat * 64) ((superB (J.gen + 1) J.ep (trimSt J n) J.lim).take k)) ((J.gen + 1).tmod 2).toNat = mixS k (superB (J.gen + 1) J.ep (trimSt J n) J.lim) (sect B1 ((J.gen + 1).tmod 2).toNat) ∧
      sect (putAt B1 (((J.gen + 1).tmod 2).toNat * 64) ((superB (J.gen + 1) J.ep (trimSt J n) J.lim).take k)) (J.gen.tmod 2).toNat = sect B1 (J.gen.tmod 2).toNat := fun B1 k hk hl => by
    rw [sect_putk hsl hk (by omega), sect_putk hsl hk (by omega), if_pos rfl, if_neg hne]
    exact ⟨rfl, rfl⟩
  have hrx := trimX_jx h.jx hn hg hp
  rw [eX] at hrx ⊢
  refine ⟨hrx, h.ents, by rw [← hL]; exact hn, h.sy1, by show J.L.drop n = _; rw [hL], ha, hnx, h.lim, (fun h => by cases h), h.log, ?_, ?_⟩
  · intro B' hB
    obtain ⟨B1, k, t1, t2, t3⟩ := torn_snoc hB
    obtain ⟨d1, d2⟩ := h.T B1 t1
    rw [hs, if_neg (by decide)] at d2
    have hl := d1.len
    subst t3
    have hlim := h.lim
    refine ⟨data_slot d1 n1 n3 (by omega) hm hsl hsb t2, ?_⟩
    rw [if_pos rfl]
    obtain ⟨s1, s2⟩ := slots B1 k t2 hl
    refine ⟨by show 2 ≤ J.gen + 1; omega, ?_, ?_⟩
    · show sect _ ((J.gen + 1 + 1).tmod 2).toNat = superB (J.gen + 1 - 1) J.ep J.ba J.lim
      rw [tm2' J.gen (by omega), s2, d2.1, hst, show J.gen + 1 - 1 = J.gen by omega]
    · show sect _ ((J.gen + 1).tmod 2).toNat = _ ∨ (isSup (sect _ ((J.gen + 1).tmod 2).toNat) ((J.gen + 1).tmod 2) = true → wdB (sect _ ((J.gen + 1).tmod 2).toNat) 0 < J.gen + 1 - 1)
      rw [s1]
      cases q : isSup (mixS k (superB (J.gen + 1) J.ep (trimSt J n) J.lim) (sect B1 ((J.gen + 1).tmod 2).toNat)) ((J.gen + 1).tmod 2) with
      | false => exact .inr (fun z => by cases z)
      | true =>
        rcases mix_super (b := J.gen) (sect_len (by omega)) t2 (sect_bytes d1.by' _) ⟨by omega, by omega⟩ ⟨by omega, by omega⟩ ⟨by omega, by omega⟩ ⟨by omega, by omega⟩ d2.2 q with z | z
        · exact .inl z
        · exact .inr (fun _ => by omega)
  · obtain ⟨d1, d2⟩ := h.F
    have hl := d1.len
    have e2 : setl (⟨J.N, J.B, J.P ++ [((J.gen + 1).tmod 2, superB (J.gen + 1) J.ep (trimSt J n) J.lim)], J.gen + 1, J.ep, true, J.lim, trimSt J n, J.ba, J.nx, J.L.drop n, J.E.drop n⟩ : JD) = putAt (setl J) (((J.gen + 1).tmod 2).toNat * 64) ((superB (J.gen + 1) J.ep (trimSt J n) J.lim).take 64) := fullP_snoc _ _ _
    rw [e2]
    obtain ⟨s1, s2⟩ := slots (setl J) 64 (Nat.le_refl _) hl
    refine ⟨data_slot d1 n1 n3 (show J.ba ≤ J.nx by omega) hm hsl hsb (Nat.le_refl _), ?_, ?_⟩
    · show sect _ ((J.gen + 1).tmod 2).toNat = superB (J.gen + 1) J.ep (trimSt J n) J.lim
      rw [s1, mix64 hsl (sect_len (by omega))]
    · show wdB (sect _ ((J.gen + 1 + 1).tmod 2).toNat) 56 < J.gen + 1
      rw [tm2' J.gen (by omega), s2, d2.1, (super_w ⟨by omega, by omega⟩ ⟨by omega, by omega⟩ ⟨by omega, by omega⟩ ⟨by omega, by omega⟩).2]
      omega
def appV (J : JD) (e : EntD) (V : Int → List Int) (s : Int) : List Int := if s < J.nx then V s else (wr J e (s - J.nx).toNat).2
theorem wr_eq {J : JD} {e : EntD} {i : Nat} (hi : i < nP (encD e)) : wr J e i = (placeI J.N (J.nx + i), dataB (J.nx + i) J.ep (i == 0) (i + 1 == nP (encD e)) (pieceB (encD e) i)) := by
  unfold wr
  have e1 : ((i : Int) == 0) = (i == 0) := by
    by_cases q : i = 0
    · subst q; rfl
    · rw [show (i == 0) = false by simpa using q, beq_eq_false_iff_ne]; omega
  have e2 : ((i : Int) == secs (encD e).length - 1) = (i + 1 == nP (encD e)) := by
    rw [secs_nP (encD_pos e)]
    by_cases q : i + 1 = nP (encD e)
    · rw [q, beq_self_eq_true, beq_iff_eq]; omega
    · rw [show (i + 1 == nP (encD e)) = false by simpa using q, beq_eq_false_iff_ne]; omega
  rw [e1, e2]
theorem pi_app {J : JD} {A : List EntD} {d sy : Nat} {V : Int → List Int} {e : EntD} (h : PI J A d sy V) (he : EntOk e) (h1 : (nP (encD e) : Int) ≤ freeI J) (h2 : J.P.length + nP (encD e) ≤ 2000) : PI (appX J e) (A ++ [e]) d sy (appV J e V) := by
  obtain ⟨n1, n2, n3, n4, n5, n6, n7⟩ := jx_nN h.jx
  have e0 := h.jx.jr.e0; have e1 := h.jx.jr.e1
  have hnx := h.nx
  have hsy := siz_take_le A sy
  unfold freeI at h1
  have tk : ∀ m, m ≤ A.length → (A ++ [e]).take m = A.take m := fun m hm => List.take_append_of_le_length hm
  have hV : ∀ s, s < J.nx → appV J e V s = V s := fun s hs => by unfold appV; rw [if_pos hs]
  have hW : ∀ i : Nat, i < nP (encD e) → appV J e V (J.nx + i) = dataB (J.nx + i) J.ep (i == 0) (i + 1 == nP (encD e)) (pieceB (encD e) i) := fun i hi => by
    unfold appV
    rw [if_neg (by omega), show (J.nx + (i : Int) - J.nx).toNat = i by omega, wr_eq hi]
  have hpb := fun i => piece_bytes (ent_enc he).1 i
  have hpl := fun i => pieceB_len (encD e) i
  have hww := fun (i : Nat) (hi : i < nP (encD e)) => data_w (s := J.nx + i) (e := J.ep) (f := i == 0) (l := i + 1 == nP (encD e)) (hpl i) ⟨by omega, by omega⟩ ⟨by omega, by omega⟩
  -- writes behind each other
  have keepV : ∀ {N : Int} {B : List Int} {ba nf : Int}, nf ≤ J.nx → DataOk N B ba nf J.nx J.ep V → DataOk N B ba nf J.nx J.ep (appV J e V) := fun hnf hD =>
    ⟨hD.len, hD.by', fun s q1 q2 => by rw [hV s (by omega)]; exact hD.old s q1 q2, fun s q1 q2 => by
      rcases hD.rest s q1 q2 with z | z
      · exact .inl ⟨z.1, by rw [hV s z.1]; exact z.2⟩
      · exact .inr z, hD.eps⟩
  have slot2 : ∀ (B1 new : List Int) (k : Nat) (i : Nat), new.length = 64 → k ≤ 64 → (B1.length : Int) = J.N * 64 → ∀ q < 2, sect (putAt B1 ((placeI J.N (J.nx + i)).toNat * 64) (new.take k)) q = sect B1 q := fun B1 new k i hn hk hl q hq => by
    have := placeI_ok n1 (show 0 ≤ J.nx + (i : Int) by omega)
    rw [sect_putk hn hk (by omega), if_neg (by omega)]
  have g0 := h.jx.jr.g0
  have slN : ∀ {B1 B2 : List Int} {st : Int}, (∀ q < 2, sect B2 q = sect B1 q) → SupNew B1 J.gen J.ep st J.lim → SupNew B2 J.gen J.ep st J.lim := fun hq hs => by
    unfold SupNew at *
    rcases tm2 J.gen (by omega) with ⟨m1, m2⟩ | ⟨m1, m2⟩ <;> rw [m1, m2] at hs ⊢ <;> rw [hq _ (by decide), hq _ (by decide)] <;> exact hs
  have slT : ∀ {B1 B2 : List Int}, (∀ q < 2, sect B2 q = sect B1 q) → SupTwo B1 J.gen J.ep J.ba J.st J.lim → SupTwo B2 J.gen J.ep J.ba J.st J.lim := fun hq hs => by
    unfold SupTwo at *
    rcases tm2 J.gen (by omega) with ⟨m1, m2⟩ | ⟨m1, m2⟩ <;> rw [m1, m2] at hs ⊢ <;> rw [hq _ (by decide), hq _ (by decide)] <;> exact hs
  have T : ∀ k : Nat, k ≤ nP (encD e) → ∀ B', Torn J.B (J.P ++ writesN J e k) B' → DataOk J.N B' J.ba (J.ba + sizN (A.take sy)) (J.nx + k) J.ep (appV J e V) ∧ (if J.so = true then SupTwo B' J.gen J.ep J.ba J.st J.lim else SupNew B' J.gen J.ep J.st J.lim) := by
    intro k
    induction k with
    | zero =>
      intro _ B' hB
      rw [show writesN J e 0 = [] from rfl, List.append_nil] at hB
      obtain ⟨d1, d2⟩ := h.T B' hB
      rw [show J.nx + ((0 : Nat) : Int) = J.nx by omega]
      exact ⟨keepV (by omega) d1, d2⟩
    | succ k ih =>
      intro hk B' hB
      rw [writesN_s, ← List.append_assoc] at hB
      obtain ⟨B1, j, t1, t2, t3⟩ := torn_snoc hB
      obtain ⟨d1, d2⟩ := ih (by omega) B1 t1
      rw [wr_eq (by omega)] at t3
      subst t3
      obtain ⟨w0, w1, w2, w3⟩ := hww k (by omega)
      have sl := slot2 B1 (dataB (J.nx + k) J.ep (k == 0) (k + 1 == nP (encD e)) (pieceB (encD e) k)) j k (dataB_len (hpl k)) t2 d1.len
      refine ⟨?_, ?_⟩
      · have := data_write (k := j) (W := appV J e V) d1 n1 n3 (by omega) (by omega) (by omega) (dataB_len (hpl k)) (data_bytes (hpl k) (hpb k)) t2 w2 w3 (hW k (by omega)) (fun s _ => rfl)
        rw [show J.nx + ((k + 1 : Nat) : Int) = J.nx + k + 1 by omega]
        exact this
      · by_cases q : J.so = true
        · rw [if_pos q] at d2 ⊢; exact slT sl d2
        · rw [if_neg q] at d2 ⊢; exact slN sl d2
  have F : ∀ k : Nat, k ≤ nP (encD e) → DataOk J.N (fullP (J.P ++ writesN J e k) J.B) J.ba (J.nx + k) (J.nx + k) J.ep (appV J e V) ∧ SupNew (fullP (J.P ++ writesN J e k) J.B) J.gen J.ep J.st J.lim := by
    intro k
    induction k with
    | zero =>
      intro _
      rw [show writesN J e 0 = [] from rfl, List.append_nil, show J.nx + ((0 : Nat) : Int) = J.nx by omega]
      exact ⟨keepV (Int.le_refl _) h.F.1, h.F.2⟩
    | succ k ih =>
      intro hk
      obtain ⟨d1, d2⟩ := ih (by omega)
      rw [writesN_s, ← List.append_assoc, fullP_snoc, wr_eq (by omega)]
      obtain ⟨w0, w1, w2, w3⟩ := hww k (by omega)
      have sl := slot2 (fullP (J.P ++ writesN J e k) J.B) (dataB (J.nx + k) J.ep (k == 0) (k + 1 == nP (encD e)) (pieceB (encD e) k)) 64 k (dataB_len (hpl k)) (Nat.le_refl _) d1.len
      refine ⟨?_, slN sl d2⟩
      have := data_full (W := appV J e V) d1 n1 n3 (by omega) (by omega) (dataB_len (hpl k)) (data_bytes (hpl k) (hpb k)) w2 w3 (hW k (by omega)) (fun s _ => rfl)
      rw [show J.nx + ((k + 1 : Nat) : Int) = J.nx + k + 1 by omega]
      exact this
  have hsz : sizN (A ++ [e]) = sizN A + nP (encD e) := by rw [sizN_app]; show _ + (nP (encD e) + 0) = _; omega
  refine ⟨appX_jx h.jx he.1 (by unfold freeI; exact h1) h2, fun x hx => ?_, by rw [List.length_append]; exact Nat.le_trans h.d1 (Nat.le_add_right _ _), by rw [List.length_append]; exact Nat.le_trans h.sy1 (Nat.le_add_right _ _), ?_, ?_, ?_, ?_, h.so, ?_, ?_, ?_⟩
  · rcases List.mem_append.1 hx with q | q
    · exact h.ents x q
    · rw [List.mem_singleton.1 q]; exact he
  · show J.L ++ [e] = _
    rw [List.drop_append_of_le_length h.d1, h.L]
  · rw [tk d h.d1]; exact h.st
  · show J.nx + (nP (encD e) : Int) = J.ba + _
    rw [hsz]; omega
  · rw [tk sy h.sy1]; exact h.lim
  · refine log_app.2 ⟨log_congr (fun s q1 q2 => hV s (by show s < J.nx; have : s < J.ba + sizN A := q2; omega)) h.log, ⟨⟨J.ep, e0, .inr ⟨?_, rfl⟩, ?_⟩, trivial⟩⟩
    · have := h.jx.jr.l1
      show J.lim ≤ J.ba + _
      omega
    · show EntAt e (J.ba + _) J.ep _
      rw [← hnx]
      exact fun k hk => hW k hk
  · intro B' hB
    rw [tk sy h.sy1]
    exact T (nP (encD e)) (Nat.le_refl _) B' hB
  · exact F (nP (encD e)) (Nat.le_refl _)
end Go.Ev
/- Journals: Format, and Open behind a power failure. -/
namespace Go.Ev
open Go.Proofs
theorem sect_zeros (n p : Nat) : bytesOk (List.replicate n 0) = true ∧ ∀ k, wdB (sect (List.replicate n 0) p) k = 0 := by
  refine ⟨bytesOk_zeros n, fun k => ?_⟩
  have : ∀ i, (sect (List.replicate n (0 : Int)) p).getD i 0 = 0 := fun i => by
    unfold sect
    rw [List.getD_eq_getElem?_getD, List.drop_replicate, List.take_replicate, List.getElem?_replicate]
    split <;> rfl
  unfold wdB
  rw [this, this, this, this]; rfl
def fmtX (n : Int) : JD := ⟨n, putAt (List.replicate (n * 64).toNat 0) 64 (superB 1 1 0 0), [], 1, 1, false, 0, 0, 0, 0, [], []⟩
theorem pi_fmt {n : Int} (h0 : 8 ≤ n) (h1 : n ≤ 4096) : PI (fmtX n) [] 0 0 (fun _ => []) := by
  have hl : (List.replicate (n * 64).toNat (0 : Int)).length = (n * 64).toNat := List.length_replicate
  have hsl : (superB 1 1 0 0).length = 64 := superB_len 1 1 0 0
  have e1 : (fmtX n).B = putAt (List.replicate (n * 64).toNat 0) (1 * 64) ((superB 1 1 0 0).take 64) := by
    rw [List.take_of_length_le (by omega)]; rfl
  have hs : ∀ q, sect (fmtX n).B q = if 1 = q then superB 1 1 0 0 else sect (List.replicate (n * 64).toNat 0) q := fun q => by
    rw [e1, sect_putk hsl (Nat.le_refl _) (by omega), mix64 hsl (sect_len (by omega))]
  have D : DataOk n (fmtX n).B 0 0 0 1 (fun _ => []) := by
    refine ⟨?_, ?_, fun s q1 q2 => absurd q2 (by omega), fun s q1 q2 => ?_, fun p q1 q2 => ?_⟩
    · rw [e1, put_len' hsl (Nat.le_refl _) (by omega), hl]; omega
    · rw [e1]; exact put_bytes (sect_zeros _ 0).1 (take_bytes (super_bytes _ _ _ _) _)
    · right
      have := placeI_ok h0 q1
      unfold secOf
      rw [hs, if_neg (by omega), (sect_zeros _ _).2 60]
      intro h; cases h
    · rw [hs, if_neg (by omega), (sect_zeros _ _).2 60]; decide
  have S : SupNew (fmtX n).B 1 1 0 0 := by
    refine ⟨?_, ?_⟩
    · show sect (fmtX n).B 1 = _
      rw [hs, if_pos rfl]
    · show wdB (sect (fmtX n).B 0) 56 < 1
      rw [hs, if_neg (by decide), (sect_zeros _ _).2 56]; decide
  refine ⟨(fmt_jx h0 h1).2.2, (fun e he => by cases he), Nat.le_refl _, Nat.le_refl _, rfl, rfl, rfl, by show (0 : Int) ≤ 0 + ((0 : Nat) : Int); decide, fun _ => rfl, trivial, ?_, ?_⟩
  · intro B' hB
    have := torn_nil hB
    subst this
    exact ⟨D, S⟩
  · rw [setl_nil rfl]
    exact ⟨D, S⟩
theorem open_pick {J : JD} {A : List EntD} {d sy : Nat} {V : Int → List Int} (h : PI J A d sy V) {B' : List Int} (hB : Torn J.B J.P B') :
    (superOf B' = (⟨J.gen, J.ep, J.st, J.lim⟩, true)) ∨ (J.so = true ∧ 2 ≤ J.gen ∧ superOf B' = (⟨J.gen - 1, J.ep, J.ba, J.lim⟩, true)) := by
  obtain ⟨n1, n2, n3, n4, n5, n6, n7⟩ := jx_nN h.jx
  have g0 := h.jx.jr.g0; have g1 := h.jx.jr.g1; have e0 := h.jx.jr.e0; have e1 := h.jx.jr.e1; have l0 := h.jx.jr.l0; have l1 := h.jx.jr.l1
  obtain ⟨d1, d2⟩ := h.T B' hB
  cases hs : J.so with
  | false =>
    rw [hs, if_neg (by decide)] at d2
    left
    refine super_pick ⟨g0, g1⟩ ⟨e0, e1⟩ ⟨by omega, by omega⟩ ⟨l0, by omega⟩ d2.1 (fun q => ?_)
    rw [← sup_tail (sect_bytes d1.by' _) q]
    exact d2.2
  | true =>
    rw [hs, if_pos rfl] at d2
    obtain ⟨t1, t2, t3⟩ := d2
    have w1 := (super_w (g := J.gen - 1) (e := J.ep) (st := J.ba) (li := J.lim) ⟨by omega, by omega⟩ ⟨by omega, by omega⟩ ⟨by omega, by omega⟩ ⟨by omega, by omega⟩).1
    have w0 : wdB (superB (J.gen - 1) J.ep J.ba J.lim) 0 = J.gen - 1 := congrArg SU.g w1
    rcases t3 with z | z
    · left
      refine super_pick ⟨g0, g1⟩ ⟨e0, e1⟩ ⟨by omega, by omega⟩ ⟨l0, by omega⟩ z (fun q => ?_)
      rw [t2, w0]
      omega
    · right
      refine ⟨rfl, t1, super_pick ⟨by omega, by omega⟩ ⟨e0, e1⟩ ⟨n3, by omega⟩ ⟨l0, by omega⟩ ?_ ?_⟩
      · rw [← tm2' (J.gen - 1) (by omega), show J.gen - 1 + 1 + 1 = J.gen + 1 by omega]; exact t2
      · rw [show J.gen - 1 + 1 = J.gen by omega]; exact z
theorem ends_at : ∀ (A : List EntD) (a : Int) (k : Nat), k ≤ A.length → atJ a (endsN A a) k = a + sizN (A.take k)
  | A, a, 0, _ => by show a = a + ((0 : Nat) : Int); omega
  | [], a, k + 1, h => absurd h (by simp)
  | e :: A, a, k + 1, h => by
    show (endsN (e :: A) a).getD k 0 = a + ((nP (encD e) + sizN (A.take k) : Nat) : Int)
    cases k with
    | zero => show a + (nP (encD e) : Int) = a + ((nP (encD e) + 0 : Nat) : Int); omega
    | succ k =>
      have ih := ends_at A (a + nP (encD e)) (k + 1) (by simpa using h)
      show (endsN A (a + nP (encD e))).getD k 0 = _
      rw [show (endsN A (a + nP (encD e))).getD k 0 = atJ (a + nP (encD e)) (endsN A (a + nP (encD e))) (k + 1) from rfl, ih]
      omega
theorem siz_succ {A : List EntD} {k : Nat} (h : k < A.length) : sizN (A.take (k + 1)) = sizN (A.take k) + nP (encD (A.getD k EN.z)) := by
  have e1 : A.take (k + 1) = A.take k ++ [A.getD k EN.z] := by
    rw [List.take_succ_eq_append_getElem (by omega), List.getD_eq_getElem?_getD, List.getElem?_eq_getElem (by omega)]; rfl
  rw [e1, sizN_app]
  rfl
theorem getD_mem {A : List EntD} {k : Nat} (h : k < A.length) : A.getD k EN.z ∈ A := by
  rw [List.getD_eq_getElem?_getD, List.getElem?_eq_getElem h]
  exact List.getElem_mem h
theorem open_from {N : Int} {B' : List Int} {su : SU} {A : List EntD} {nf ba nx ep : Int} {V : Int → List Int} (hN : 8 ≤ N ∧ N ≤ 4096) (hD : DataOk N B' ba nf nx ep V) (hsu : superOf B' = (su, true)) (he : su.e = ep) (hg : 1 ≤ su.g ∧ su.g < 1073741824) (hep : 1 ≤ ep ∧ ep < 1073741824)
    (h0 : 0 ≤ ba) (hba : ba ≤ su.st) (hnf : ba ≤ nf ∧ nf ≤ nx) (hli : 0 ≤ su.li ∧ su.li ≤ nf) (hnx : nx = su.st + sizN A) (hm : nx ≤ 1073741824) (hroom : nx ≤ ba + (N - 2)) (hsl : sect B' (su.g.tmod 2).toNat = superB su.g ep su.st su.li) (ents : ∀ e ∈ A, EntOk e) (log : LogOk A su.st ep su.li V) (hwd : ∀ s, ba ≤ s → s < nx → wdB (V s) 56 = s) :
    ∃ c, c ≤ A.length ∧ openJ (N, B', []) = (openX N B', 0) ∧ PI (openX N B') (A.take c) 0 c V ∧ (openX N B').ep = ep + 1 ∧ (openX N B').gen = su.g + 1 ∧ (openX N B').N = N ∧ (openX N B').st = su.st ∧ (openX N B').so = false ∧ (openX N B').P = [] ∧
      (∀ s, su.st ≤ s → s < su.st + sizN (A.take c) → secOf N B' s = V s) ∧ (c < A.length → ∃ s, su.st + sizN (A.take c) ≤ s ∧ s < su.st + sizN (A.take (c + 1)) ∧ secOf N B' s ≠ V s) := by
  have eSu : suB B' = su := by unfold suB; rw [hsu]
  have hdv : isDevB N B' [] = true := by
    have := hD.len
    unfold isDevB
    rw [decide_eq_true hN.1, decide_eq_true hN.2, wrap64 _ (by omega) (by omega), this, beq_self_eq_true]; rfl
  have hbyS := fun s => sect_bytes hD.by' (placeI N s).toNat
  have ne : ∀ st, (odZ N B' st).N = N ∧ (odZ N B' st).B = B' := fun _ => ⟨rfl, rfl⟩
  have key := read_log (D := odZ N B' su.st) (su := su) (V := V) (by omega) A su.st (r0 su.st) (N - 2).toNat ents (by omega) (by omega) (by omega) rfl (by rw [he]; exact log)
    (fun s q1 q2 => by
      show secOf N B' s = V s ∨ _
      by_cases q : s < nf
      · exact .inl (hD.old s (by omega) q)
      · rcases hD.rest s (by omega) (by omega) with z | z
        · exact .inl z.2
        · exact .inr (stale_rej (t := s) (by omega) (by omega) (by omega) (hbyS s) (Int.le_refl _) (by rw [he]; exact z)))
    (by
      rw [← hnx]
      by_cases q : nx < ba + (N - 2)
      · right
        rcases hD.rest nx (by omega) q with z | z
        · exact absurd z.1 (by omega)
        · exact stale_rej (t := nx) (by omega) (by omega) (by omega) (hbyS nx) (Int.le_refl _) (by rw [he]; exact z)
      · right
        have e : secOf N B' nx = secOf N B' ba := by
          unfold secOf
          rw [show nx = ba + (N - 2) by omega, place_wrap h0 hN.1]
        have e' : ∀ st, secOf (odZ N B' st).N (odZ N B' st).B nx = secOf N B' ba := fun _ => e
        refine stale_rej (t := nx) (by omega) (by omega) (by omega) (by rw [e']; exact hbyS ba) (Int.le_refl _) ?_
        rw [e']
        by_cases q2 : ba < nf
        · rw [hD.old ba (Int.le_refl _) q2, hwd ba (Int.le_refl _) (by omega)]
          intro _; omega
        · rcases hD.rest ba (by omega) (by omega) with z | z
          · rw [z.2, hwd ba (Int.le_refl _) (by omega)]
            intro _; omega
          · rw [he]
            intro w
            have := z w
            omega)
  obtain ⟨c, c1, c2, c3, c4, c5, c6⟩ := key
  have f1 : foundB N B' = (readGo (odZ N B' su.st) su (N - 2).toNat su.st (r0 su.st)).2 := by unfold foundB readD0; rw [eSu]; rfl
  rw [← f1] at c2 c3 c4
  have c2' : (foundB N B').L = A.take c := by rw [c2]; rfl
  have c3' : (foundB N B').E = endsN (A.take c) su.st := by rw [c3]; rfl
  have c4' : (foundB N B').nx = su.st + sizN (A.take c) := by
    rw [c4]
    by_cases q : c = 0
    · subst q
      rw [if_pos rfl]
      show su.st = su.st + ((0 : Nat) : Int)
      omega
    · rw [if_neg q]
  have hle := siz_take_le A c
  have eX : openX N B' = ⟨N, putAt B' (((su.g + 1).tmod 2).toNat * 64) ((superB (su.g + 1) (ep + 1) su.st (su.st + sizN (A.take c))).take 64), [], su.g + 1, ep + 1, false, su.st + sizN (A.take c), su.st, su.st, su.st + sizN (A.take c), A.take c, endsN (A.take c) su.st⟩ := by
    unfold openX
    rw [eSu, c2', c3', c4', he, List.take_of_length_le (l := superB _ _ _ _) (Nat.le_refl 64)]
  have hgl : (A.take c).length = c := by rw [List.length_take]; omega
  have m2 : ((su.g + 1).tmod 2).toNat < 2 := by rcases tm2 su.g (by omega) with ⟨_, z⟩ | ⟨_, z⟩ <;> rw [z] <;> decide
  have hne : ((su.g + 1).tmod 2).toNat ≠ (su.g.tmod 2).toNat := by rcases tm2 su.g (by omega) with ⟨z1, z⟩ | ⟨z1, z⟩ <;> rw [z, z1] <;> decide
  have hnl := superB_len (su.g + 1) (ep + 1) su.st (su.st + sizN (A.take c))
  have hnb := super_bytes (su.g + 1) (ep + 1) su.st (su.st + sizN (A.take c))
  have hlen := hD.len
  have hput := fun q => sect_putk (B := B') (q := q) hnl (Nat.le_refl 64) (show ((su.g + 1).tmod 2).toNat * 64 + 64 ≤ B'.length by omega)
  have D2 : DataOk N (putAt B' (((su.g + 1).tmod 2).toNat * 64) ((superB (su.g + 1) (ep + 1) su.st (su.st + sizN (A.take c))).take 64)) su.st (su.st + sizN (A.take c)) (su.st + sizN (A.take c)) (ep + 1) V := by
    refine data_slot ⟨hD.len, hD.by', fun s q1 q2 => c5 s q1 q2, fun s q1 q2 => .inr (fun w => ?_), fun p q1 q2 => ?_⟩ hN.1 (by omega) (by omega) m2 hnl hnb (Nat.le_refl _)
    · have p1 := placeI_ok (N := N) (s := s) hN.1 (by omega)
      have := hD.eps (placeI N s).toNat (by omega) (by omega)
      unfold secOf at w
      omega
    · have := hD.eps p q1 q2
      omega
  have S2 : SupNew (putAt B' (((su.g + 1).tmod 2).toNat * 64) ((superB (su.g + 1) (ep + 1) su.st (su.st + sizN (A.take c))).take 64)) (su.g + 1) (ep + 1) su.st (su.st + sizN (A.take c)) := by
    refine ⟨?_, ?_⟩
    · rw [hput, if_pos rfl, mix64 hnl (sect_len (by omega))]
    · rw [tm2' su.g (by omega), hput, if_neg hne, hsl, (super_w ⟨by omega, by omega⟩ ⟨by omega, by omega⟩ ⟨by omega, by omega⟩ ⟨by omega, by omega⟩).2]
      omega
  have dv2 : isDevB N (putAt B' (((su.g + 1).tmod 2).toNat * 64) ((superB (su.g + 1) (ep + 1) su.st (su.st + sizN (A.take c))).take 64)) [] = true := by
    have := D2.len
    unfold isDevB
    rw [decide_eq_true hN.1, decide_eq_true hN.2, wrap64 _ (by omega) (by omega), this, beq_self_eq_true]; rfl
  have s0 : 0 ≤ su.st := by omega
  refine ⟨c, c1, ?_, ?_, by rw [eX], by rw [eX], by rw [eX], by rw [eX], by rw [eX], by rw [eX], c5, c6⟩
  · unfold openJ isDevD
    simp only
    rw [hdv, hsu, eSu, show (su.g == 1073741824) = false by rw [beq_eq_false_iff_ne]; omega, show (su.e == 1073741824) = false by rw [beq_eq_false_iff_ne]; omega]
    rfl
  · have ek : ∀ k, k < c → (A.take c).take (k + 1) = A.take (k + 1) ∧ (A.take c).take k = A.take k := fun k hk => by
      rw [List.take_take, List.take_take, Nat.min_eq_left (by omega), Nat.min_eq_left (by omega)]
      exact ⟨rfl, rfl⟩
    rw [eX]
    refine ⟨?_, fun e h => ents e (List.mem_of_mem_take h), Nat.zero_le _, by rw [hgl]; exact Nat.le_refl _, rfl, ?_, rfl, ?_, fun _ => rfl, ?_, ?_, ?_⟩
    · refine jx_of dv2 (by show 1 ≤ su.g + 1; omega) (by show su.g + 1 ≤ _; omega) (by show 1 ≤ ep + 1; omega) (by show ep + 1 ≤ _; omega) s0 (Int.le_refl _) (by show su.st ≤ su.st + _; omega) (by show su.st + _ ≤ _; omega) (by show su.st + _ - su.st ≤ N - 2; omega) (by show 0 ≤ su.st + _; omega) (Int.le_refl _) (endsN_len _ _) (fun k hk => ?_) (fun k hk => ?_) ?_
      · have hk' : k < (A.take c).length := hk
        exact (ents _ (List.mem_of_mem_take (getD_mem hk'))).1
      · have hk' : k < (A.take c).length := hk
        show (endsN (A.take c) su.st).getD k 0 = atJ su.st (endsN (A.take c) su.st) k + secs (encD ((A.take c).getD k EN.z)).length
        rw [show (endsN (A.take c) su.st).getD k 0 = atJ su.st (endsN (A.take c) su.st) (k + 1) from rfl, ends_at _ _ _ (by omega), ends_at _ _ _ (by omega), siz_succ hk', secs_nP (encD_pos _)]
        omega
      · show atJ su.st (endsN (A.take c) su.st) (A.take c).length = su.st + sizN (A.take c)
        rw [ends_at _ _ _ (Nat.le_refl _), List.take_length]
    · show su.st = su.st + ((0 : Nat) : Int); omega
    · show su.st + (sizN (A.take c) : Int) ≤ su.st + sizN ((A.take c).take c)
      rw [List.take_take, Nat.min_self]; exact Int.le_refl _
    · exact log_next (Int.le_refl _) (log_take log c)
    · intro B2 hB
      have := torn_nil hB
      subst this
      refine ⟨?_, S2⟩
      rw [List.take_take, Nat.min_self]
      exact D2
    · rw [setl_nil rfl]
      exact ⟨D2, S2⟩
theorem pi_open {J : JD} {A : List EntD} {d sy : Nat} {V : Int → List Int} (h : PI J A d sy V) {B' : List Int} (hB : Torn J.B J.P B') (hg : J.gen < 1073741824) (he : J.ep < 1073741824) :
    ∃ b c, (b = d ∨ b = 0) ∧ (J.so = false → b = 0) ∧ c ≤ (A.drop b).length ∧ sy ≤ b + c ∧ openJ (J.N, B', []) = (openX J.N B', 0) ∧ PI (openX J.N B') ((A.drop b).take c) 0 c V ∧ (openX J.N B').ep = J.ep + 1 ∧ (openX J.N B').gen ≤ J.gen + 1 ∧ (J.so = false → (openX J.N B').gen = J.gen + 1) ∧ (openX J.N B').N = J.N ∧ (J.so = false → (openX J.N B').st = J.st) ∧ (openX J.N B').so = false ∧ (openX J.N B').P = [] ∧
      (∀ s, J.ba + sizN (A.take b) ≤ s → s < J.ba + sizN (A.take b) + sizN ((A.drop b).take c) → secOf J.N B' s = V s) ∧ (c < (A.drop b).length → ∃ s, J.ba + sizN (A.take b) + sizN ((A.drop b).take c) ≤ s ∧ s < J.ba + sizN (A.take b) + sizN ((A.drop b).take (c + 1)) ∧ secOf J.N B' s ≠ V s) := by
  obtain ⟨n1, n2, n3, n4, n5, n6, n7⟩ := jx_nN h.jx
  have g0 := h.jx.jr.g0; have e0 := h.jx.jr.e0; have l0 := h.jx.jr.l0
  obtain ⟨d1, d2⟩ := h.T B' hB
  have hst := h.st
  have hnx := h.nx
  have hlim := h.lim
  have hsy := siz_take_le A sy
  have hwd := log_wd h.ents n3 (by omega) (by omega) h.log
  -- what is synchronized is there
  have hsyc : ∀ b c : Nat, b ≤ A.length → c ≤ (A.drop b).length → (c < (A.drop b).length → ∃ s, J.ba + sizN (A.take b) + sizN ((A.drop b).take c) ≤ s ∧ s < J.ba + sizN (A.take b) + sizN ((A.drop b).take (c + 1)) ∧ secOf J.N B' s ≠ V s) → sy ≤ b + c := fun b c hb hc hx => by
    by_cases q : sy ≤ b + c
    · exact q
    · have hs1 := h.sy1
      have hc2 : c < (A.drop b).length := by rw [List.length_drop] at hc ⊢; omega
      obtain ⟨s, s1, s2, s3⟩ := hx hc2
      exfalso
      apply s3
      apply d1.old s (by omega)
      have e1 : sizN (A.take b) + sizN ((A.drop b).take (c + 1)) = sizN (A.take (b + (c + 1))) := by rw [← sizN_app, ← List.take_add]
      have e2 := siz_take_mono A (m := b + (c + 1)) (n := sy) (by omega)
      omega
  rcases open_pick h hB with hp | ⟨hso, hg2, hp⟩
  · have hsl : sect B' (J.gen.tmod 2).toNat = superB J.gen J.ep J.st J.lim := by
      cases hs : J.so with
      | false => rw [hs, if_neg (by decide)] at d2; exact d2.1
      | true =>
        rw [hs, if_pos rfl] at d2
        obtain ⟨t1, t2, t3⟩ := d2
        rcases t3 with z | z
        · exact z
        · exfalso
          have l1 := h.jx.jr.l1
          have pk := super_pick (B := B') (g := J.gen - 1) (e := J.ep) (st := J.ba) (li := J.lim) ⟨by omega, by omega⟩ ⟨e0, by omega⟩ ⟨n3, by omega⟩ ⟨l0, by omega⟩ (by rw [← tm2' (J.gen - 1) (by omega), show J.gen - 1 + 1 + 1 = J.gen + 1 by omega]; exact t2) (by rw [show J.gen - 1 + 1 = J.gen by omega]; exact z)
          rw [hp] at pk
          have := congrArg (fun x => x.1.g) pk
          simp only at this
          omega
    have hlog := log_drop h.log d
    rw [← hst] at hlog
    have hnx2 : J.nx = J.st + sizN (A.drop d) := by have := siz_split A d; omega
    obtain ⟨c, c1, c2, c3, c4, c5, c6, c7, c8, c9, c10, c11⟩ := open_from (su := ⟨J.gen, J.ep, J.st, J.lim⟩) (A := A.drop d) ⟨n1, n2⟩ d1 hp rfl ⟨g0, hg⟩ ⟨e0, he⟩ n3 n4 ⟨by omega, by omega⟩ ⟨l0, by show J.lim ≤ _; omega⟩ hnx2 n7 n6 hsl (fun e h' => h.ents e (List.mem_of_mem_drop h')) hlog (fun s q1 q2 => hwd s q1 (by omega))
    have c10' : ∀ s, J.ba + sizN (A.take d) ≤ s → s < J.ba + sizN (A.take d) + sizN ((A.drop d).take c) → secOf J.N B' s = V s := by rw [← hst]; exact c10
    have c11' : c < (A.drop d).length → ∃ s, J.ba + sizN (A.take d) + sizN ((A.drop d).take c) ≤ s ∧ s < J.ba + sizN (A.take d) + sizN ((A.drop d).take (c + 1)) ∧ secOf J.N B' s ≠ V s := by rw [← hst]; exact c11
    exact ⟨d, c, .inl rfl, h.so, c1, hsyc d c h.d1 c1 c11', c2, c3, c4, Int.le_of_eq c5, fun _ => c5, c6, fun _ => c7, c8, c9, c10', c11'⟩
  · have hsl : sect B' ((J.gen - 1).tmod 2).toNat = superB (J.gen - 1) J.ep J.ba J.lim := by
      rw [hso, if_pos rfl] at d2
      rw [← tm2' (J.gen - 1) (by omega), show J.gen - 1 + 1 + 1 = J.gen + 1 by omega]
      exact d2.2.1
    obtain ⟨c, c1, c2, c3, c4, c5, c6, c7, c8, c9, c10, c11⟩ := open_from (su := ⟨J.gen - 1, J.ep, J.ba, J.lim⟩) (A := A) ⟨n1, n2⟩ d1 hp rfl ⟨by show 1 ≤ J.gen - 1; omega, by show J.gen - 1 < _; omega⟩ ⟨e0, he⟩ n3 (Int.le_refl _) ⟨by omega, by omega⟩ ⟨l0, by show J.lim ≤ _; omega⟩ hnx n7 n6 hsl h.ents h.log (fun s q1 q2 => hwd s q1 (by omega))
    have z0 : J.ba + ((sizN (A.take 0) : Nat) : Int) = J.ba := by show J.ba + ((0 : Nat) : Int) = J.ba; omega
    have hd0 : A.drop 0 = A := rfl
    have c10' : ∀ s, J.ba + sizN (A.take 0) ≤ s → s < J.ba + sizN (A.take 0) + sizN ((A.drop 0).take c) → secOf J.N B' s = V s := by rw [z0, hd0]; exact c10
    have c11' : c < (A.drop 0).length → ∃ s, J.ba + sizN (A.take 0) + sizN ((A.drop 0).take c) ≤ s ∧ s < J.ba + sizN (A.take 0) + sizN ((A.drop 0).take (c + 1)) ∧ secOf J.N B' s ≠ V s := by rw [z0, hd0]; exact c11
    refine ⟨0, c, .inr rfl, (fun q => by rw [hso] at q), c1, hsyc 0 c (Nat.zero_le _) c1 c11', c2, c3, c4, ?_, (fun q => by rw [hso] at q; cases q), c6, (fun q => by rw [hso] at q; cases q), c8, c9, c10', c11'⟩
    rw [c5]
    show J.gen - 1 + 1 ≤ J.gen + 1
    omega
end Go.Ev
