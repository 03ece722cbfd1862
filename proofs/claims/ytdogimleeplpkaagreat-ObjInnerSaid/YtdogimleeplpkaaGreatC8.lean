/- The evaluator, its soundness and the walks: part 8. -/
import Derived.SizedLaws
import Derived.Test.YtdogimleeplpkaaGreatC7
set_option linter.unusedSectionVars false
set_option linter.unusedSimpArgs false
set_option linter.unusedVariables false
set_option maxRecDepth 100000
set_option maxRecDepth 1000000
noncomputable section
/- Names, as the specification checks them. -/
namespace Go.Ev
open Go.Proofs
theorem AllL.noL {P : Program} (l : List Code) : AllL (LsOk P (lsumsOf [])) l := by
  induction l with
  | nil => trivial
  | cons c l ih =>
    refine ⟨?_, ih⟩
    unfold LsOk
    have : lsOf (lsumsOf []) c = none := by
      unfold lsOf
      cases Code.fst c <;> rfl
    rw [this]; trivial
def chB (s : ByteArray) (k : Nat) : Int := (numsOf s).getD k 0
def letB (c : Int) : Bool := (decide (65 ≤ c) && decide (c ≤ 90)) || ((decide (97 ≤ c) && decide (c ≤ 122)) || (decide (c = 95) || decide (c = 46)))
def tailB (c : Int) : Bool := letB c || (decide (c = 36) || (decide (48 ≤ c) && decide (c ≤ 57)))
def nmOk (s : ByteArray) (k : Nat) : Bool := letB (chB s k) || (decide (k ≠ 0) && tailB (chB s k))
def nameB (s : ByteArray) : Bool := (decide (1 ≤ s.size) && decide (s.size ≤ 40)) && allOk s.size (nmOk s)
def flOk (s : ByteArray) (k : Nat) : Bool := decide (33 ≤ chB s k) && decide (chB s k ≤ 126)
def fileB (s : ByteArray) : Bool := (decide (1 ≤ s.size) && decide (s.size ≤ 100)) && allOk s.size (flOk s)
def Tryz.ENm : Env := Tryz.env0 false (sumsOf []) (keepF 128 [(4, [0, 3])])
def Tryz.bNm : Code := nthD .skip (loopsOf (bodyOf Tryz.ENm 128)) 0
def Tryz.BNm (s : St) : Option (AX × St) := codeS Tryz.ENm (callF Tryz.ENm 3) (Tryz.ENm.keep 128) (lsumsOf []) Tryz.bNm (outK [0, 3] [2]) s
def Tryz.EFn : Env := Tryz.env0 false (sumsOf []) (keepF 132 [(2, [0, 3])])
def Tryz.bFn : Code := nthD .skip (loopsOf (bodyOf Tryz.EFn 132)) 0
def Tryz.BFn (s : St) : Option (AX × St) := codeS Tryz.EFn (callF Tryz.EFn 3) (Tryz.EFn.keep 132) (lsumsOf []) Tryz.bFn (outK [0, 3] [0, 2]) s
def Tryz.fNm (vs : List AV) (h : Heap) : Ans (AX × List AV × Heap) := match vs, h with
  | [.val (.string s), .val (.int .i64 (.ofNat 0))], ⟨0, []⟩ => .grd (Nat.ble s.size 1000000) (.br (allOk s.size (nmOk s)) (.out (.exit 0, [.unk], ⟨0, []⟩)) (.out (.ret, [.val (.bool false)], ⟨0, []⟩)))
  | _, _ => .no
def Tryz.LNm : LSum := toLSum 63 [0, 3] [2] Tryz.fNm
def Tryz.fFn (vs : List AV) (h : Heap) : Ans (AX × List AV × Heap) := match vs, h with
  | [.val (.string s), .val (.int .i64 (.ofNat 0))], ⟨0, []⟩ => .grd (Nat.ble s.size 140737488355328) (.br (allOk s.size (flOk s)) (.out (.exit 0, [.val (.string s), .unk], ⟨0, []⟩)) (.out (.ret, [.val (.string s), .val (.bool false)], ⟨0, []⟩)))
  | _, _ => .no
def Tryz.LFn : LSum := toLSum 28 [0, 3] [0, 2] Tryz.fFn
def nameS (args : List AV) : Ans (AV × Heap) := match args with
  | [.val (.string s)] => .out (.val (.bool (nameB s)), ⟨0, []⟩)
  | _ => .no
def fileS (args : List AV) : Ans (AV × Heap) := match args with
  | [.val (.string s)] => .grd (Nat.ble s.size 140737488355328) (.out (.val (.bool (fileB s)), ⟨0, []⟩))
  | _ => .no
theorem Tryz.rNm (s : ByteArray) (k : Nat) : Tryz.BNm (stOf 63 [0, 3] [.val (.string s), .val (.int .i64 k)] ⟨0, []⟩) =
 bif decide ((↑k : Int) < (↑s.size : Int)) then
 bif inR (↑k : Int) s.size then
 bif decide ((numsOf s).getD k 0 ≥ 65) then
 bif decide ((numsOf s).getD k 0 ≤ 90) then
 some (.normal, stOf 63 [0, 3] [.val (Value.string s), .val (.int .i64 (IntKind.i64.wrap ((↑k : Int) + 1)))] ⟨0, []⟩)
 else
 bif decide ((numsOf s).getD k 0 ≥ 97) then
 bif decide ((numsOf s).getD k 0 ≤ 122) then
 some (.normal, stOf 63 [0, 3] [.val (Value.string s), .val (.int .i64 (IntKind.i64.wrap ((↑k : Int) + 1)))] ⟨0, []⟩)
 else
 bif (numsOf s).getD k 0 == 95 then
 some (.normal, stOf 63 [0, 3] [.val (Value.string s), .val (.int .i64 (IntKind.i64.wrap ((↑k : Int) + 1)))] ⟨0, []⟩)
 else
 bif (numsOf s).getD k 0 == 46 then
 some (.normal, stOf 63 [0, 3] [.val (Value.string s), .val (.int .i64 (IntKind.i64.wrap ((↑k : Int) + 1)))] ⟨0, []⟩)
 else
 bif (↑k : Int) == 0 then
 some (.ret, stOf 63 [2] [.val (.bool false)] ⟨0, []⟩)
 else
 bif (numsOf s).getD k 0 != 36 then
 bif decide ((numsOf s).getD k 0 < 48) then
 some (.ret, stOf 63 [2] [.val (.bool false)] ⟨0, []⟩)
 else
 bif decide ((numsOf s).getD k 0 > 57) then
 some (.ret, stOf 63 [2] [.val (.bool false)] ⟨0, []⟩)
 else
 some (.normal, stOf 63 [0, 3] [.val (Value.string s), .val (.int .i64 (IntKind.i64.wrap ((↑k : Int) + 1)))] ⟨0, []⟩)
 else
 some (.normal, stOf 63 [0, 3] [.val (Value.string s), .val (.int .i64 (IntKind.i64.wrap ((↑k : Int) + 1)))] ⟨0, []⟩)
 else
 bif (numsOf s).getD k 0 == 95 then
 some (.normal, stOf 63 [0, 3] [.val (Value.string s), .val (.int .i64 (IntKind.i64.wrap ((↑k : Int) + 1)))] ⟨0, []⟩)
 else
 bif (numsOf s).getD k 0 == 46 then
 some (.normal, stOf 63 [0, 3] [.val (Value.string s), .val (.int .i64 (IntKind.i64.wrap ((↑k : Int) + 1)))] ⟨0, []⟩)
 else
 bif (↑k : Int) == 0 then
 some (.ret, stOf 63 [2] [.val (.bool false)] ⟨0, []⟩)
 else
 bif (numsOf s).getD k 0 != 36 then
 bif decide ((numsOf s).getD k 0 < 48) then
 some (.ret, stOf 63 [2] [.val (.bool false)] ⟨0, []⟩)
 else
 bif decide ((numsOf s).getD k 0 > 57) then
 some (.ret, stOf 63 [2] [.val (.bool false)] ⟨0, []⟩)
 else
 some (.normal, stOf 63 [0, 3] [.val (Value.string s), .val (.int .i64 (IntKind.i64.wrap ((↑k : Int) + 1)))] ⟨0, []⟩)
 else
 some (.normal, stOf 63 [0, 3] [.val (Value.string s), .val (.int .i64 (IntKind.i64.wrap ((↑k : Int) + 1)))] ⟨0, []⟩)
 else
 bif decide ((numsOf s).getD k 0 ≥ 97) then
 bif decide ((numsOf s).getD k 0 ≤ 122) then
 some (.normal, stOf 63 [0, 3] [.val (Value.string s), .val (.int .i64 (IntKind.i64.wrap ((↑k : Int) + 1)))] ⟨0, []⟩)
 else
 bif (numsOf s).getD k 0 == 95 then
 some (.normal, stOf 63 [0, 3] [.val (Value.string s), .val (.int .i64 (IntKind.i64.wrap ((↑k : Int) + 1)))] ⟨0, []⟩)
 else
 bif (numsOf s).getD k 0 == 46 then
 some (.normal, stOf 63 [0, 3] [.val (Value.string s), .val (.int .i64 (IntKind.i64.wrap ((↑k : Int) + 1)))] ⟨0, []⟩)
 else
 bif (↑k : Int) == 0 then
 some (.ret, stOf 63 [2] [.val (.bool false)] ⟨0, []⟩)
 else
 bif (numsOf s).getD k 0 != 36 then
 bif decide ((numsOf s).getD k 0 < 48) then
 some (.ret, stOf 63 [2] [.val (.bool false)] ⟨0, []⟩)
 else
 bif decide ((numsOf s).getD k 0 > 57) then
 some (.ret, stOf 63 [2] [.val (.bool false)] ⟨0, []⟩)
 else
 some (.normal, stOf 63 [0, 3] [.val (Value.string s), .val (.int .i64 (IntKind.i64.wrap ((↑k : Int) + 1)))] ⟨0, []⟩)
 else
 some (.normal, stOf 63 [0, 3] [.val (Value.string s), .val (.int .i64 (IntKind.i64.wrap ((↑k : Int) + 1)))] ⟨0, []⟩)
 else
 bif (numsOf s).getD k 0 == 95 then
 some (.normal, stOf 63 [0, 3] [.val (Value.string s), .val (.int .i64 (IntKind.i64.wrap ((↑k : Int) + 1)))] ⟨0, []⟩)
 else
 bif (numsOf s).getD k 0 == 46 then
 some (.normal, stOf 63 [0, 3] [.val (Value.string s), .val (.int .i64 (IntKind.i64.wrap ((↑k : Int) + 1)))] ⟨0, []⟩)
 else
 bif (↑k : Int) == 0 then
 some (.ret, stOf 63 [2] [.val (.bool false)] ⟨0, []⟩)
 else
 bif (numsOf s).getD k 0 != 36 then
 bif decide ((numsOf s).getD k 0 < 48) then
 some (.ret, stOf 63 [2] [.val (.bool false)] ⟨0, []⟩)
 else
 bif decide ((numsOf s).getD k 0 > 57) then
 some (.ret, stOf 63 [2] [.val (.bool false)] ⟨0, []⟩)
 else
 some (.normal, stOf 63 [0, 3] [.val (Value.string s), .val (.int .i64 (IntKind.i64.wrap ((↑k : Int) + 1)))] ⟨0, []⟩)
 else
 some (.normal, stOf 63 [0, 3] [.val (Value.string s), .val (.int .i64 (IntKind.i64.wrap ((↑k : Int) + 1)))] ⟨0, []⟩)
 else
 none
 else
 some (.exit 0, stOf 63 [] [] ⟨0, []⟩) := by kernel_rfl
theorem Tryz.rFn (s : ByteArray) (k : Nat) : Tryz.BFn (stOf 28 [0, 3] [.val (.string s), .val (.int .i64 k)] ⟨0, []⟩) =
 bif decide ((↑k : Int) < (↑s.size : Int)) then
 bif inR (↑k : Int) s.size then
 bif decide ((numsOf s).getD k 0 < 33) then
 some (.ret, stOf 28 [0, 2] [.val (Value.string s), .val (.bool false)] ⟨0, []⟩)
 else
 bif inR (↑k : Int) s.size then
 bif decide ((numsOf s).getD k 0 > 126) then
 some (.ret, stOf 28 [0, 2] [.val (Value.string s), .val (.bool false)] ⟨0, []⟩)
 else
 some (.normal, stOf 28 [0, 3] [.val (Value.string s), .val (.int .i64 (IntKind.i64.wrap ((↑k : Int) + 1)))] ⟨0, []⟩)
 else
 none
 else
 none
 else
 some (.exit 0, stOf 28 [0] [.val (Value.string s)] ⟨0, []⟩) := by kernel_rfl
theorem Tryz.wNm (s : ByteArray) : rootS Tryz.ENm 3 128 (lsumsOf [(4, Tryz.LNm)]) [.val (.string s)] =
 bif decide ((↑s.size : Int) < 1) then
 some (.val (.bool false), ⟨0, []⟩)
 else
 bif decide ((↑s.size : Int) > 40) then
 some (.val (.bool false), ⟨0, []⟩)
 else
 bif s.size.ble 1000000 then
 bif allOk s.size (nmOk s) then
 some (.val (.bool true), ⟨0, []⟩)
 else
 some (.val (.bool false), ⟨0, []⟩)
 else
 none := by kernel_rfl
theorem Tryz.wFn (s : ByteArray) : rootS Tryz.EFn 3 132 (lsumsOf [(2, Tryz.LFn)]) [.val (.string s)] =
 bif s.size.ble 140737488355328 then
 bif allOk s.size (flOk s) then
 bif decide ((↑s.size : Int) ≥ 1) then
 bif decide ((↑s.size : Int) ≤ 100) then
 some (.val (.bool true), ⟨0, []⟩)
 else
 some (.val (.bool false), ⟨0, []⟩)
 else
 some (.val (.bool false), ⟨0, []⟩)
 else
 some (.val (.bool false), ⟨0, []⟩)
 else
 none := by kernel_rfl
theorem Tryz.eNm : EnvOk2 Tryz.prog Tryz.ENm := Tryz.envOk false (sumsOf []) _ (fun g A h => by cases h)
theorem Tryz.eFn : EnvOk2 Tryz.prog Tryz.EFn := Tryz.envOk false (sumsOf []) _ (fun g A h => by cases h)
theorem condI {α : Type} (b : Bool) (x y : α) : (bif b then x else y) = if b = true then x else y := by cases b <;> rfl
theorem Tryz.sNm (s : ByteArray) (k : Nat) (hs : s.size ≤ 1000000) (hk : k ≤ s.size) : Tryz.BNm (stOf 63 [0, 3] [.val (.string s), .val (.int .i64 k)] ⟨0, []⟩) =
    bif decide (k < s.size) then (bif nmOk s k then some (.normal, stOf 63 [0, 3] [.val (.string s), .val (.int .i64 ((k + 1 : Nat) : Int))] ⟨0, []⟩) else some (.ret, stOf 63 [2] [.val (.bool false)] ⟨0, []⟩)) else some (.exit 0, stOf 63 [2] [.unk] ⟨0, []⟩) := by
  rw [Tryz.rNm, declt_nat, inR_nat, wrapS k (by omega)]
  by_cases h : k < s.size
  · rw [decide_eq_true h]
    simp only [cond_true]
    unfold nmOk tailB letB
    rw [show (numsOf s).getD k 0 = chB s k from rfl]
    generalize chB s k = c
    generalize (some (_, stOf _ [0, 3] _ _) : Option (AX × St)) = A
    generalize (some (_, stOf _ _ _ _) : Option (AX × St)) = B
    simp only [condI, decide_eq_true_eq, beq_iff_eq, bne_iff_ne, Bool.or_eq_true, Bool.and_eq_true]
    repeat' split
    all_goals first | rfl | (exfalso; omega)
  · rw [decide_eq_false h]; rfl
theorem Tryz.sFn (s : ByteArray) (k : Nat) (hs : s.size ≤ 140737488355328) (hk : k ≤ s.size) : Tryz.BFn (stOf 28 [0, 3] [.val (.string s), .val (.int .i64 k)] ⟨0, []⟩) =
    bif decide (k < s.size) then (bif flOk s k then some (.normal, stOf 28 [0, 3] [.val (.string s), .val (.int .i64 ((k + 1 : Nat) : Int))] ⟨0, []⟩) else some (.ret, stOf 28 [0, 2] [.val (.string s), .val (.bool false)] ⟨0, []⟩)) else some (.exit 0, stOf 28 [0, 2] [.val (.string s), .unk] ⟨0, []⟩) := by
  rw [Tryz.rFn, declt_nat, inR_nat, wrapS k (by omega)]
  by_cases h : k < s.size
  · rw [decide_eq_true h]
    simp only [cond_true]
    unfold flOk
    rw [show (numsOf s).getD k 0 = chB s k from rfl]
    generalize chB s k = c
    generalize (some (_, stOf _ [0, 3] _ _) : Option (AX × St)) = A
    generalize (some (_, stOf _ _ _ _) : Option (AX × St)) = B
    simp only [condI, decide_eq_true_eq, beq_iff_eq, bne_iff_ne, Bool.or_eq_true, Bool.and_eq_true]
    repeat' split
    all_goals first | rfl | (exfalso; omega)
  · rw [decide_eq_false h]; rfl
theorem Tryz.lNm : ∀ s e s', s.h.ok → (Tryz.LNm s).run = some (e, s') → Triple Tryz.prog (.loop Tryz.bNm) s e s' := by
  refine scan_law Tryz.eNm (d := 3) (g := 128) (ls := lsumsOf []) (c := Tryz.bNm) trivial 63 [0, 3] [2] (T := ByteArray) (fun s k => [.val (.string s), .val (.int .i64 k)]) (fun _ => ⟨0, []⟩) (fun s => s.size) nmOk (fun s => s.size ≤ 1000000)
    (fun _ => (.exit 0, [.unk], ⟨0, []⟩)) (fun _ => (.ret, [.val (.bool false)], ⟨0, []⟩)) Tryz.fNm ?_ (fun _ _ => heap0_ok) (fun _ _ => ⟨by simp, by simp⟩) (fun _ _ => ⟨heap0_ok, heap0_ok⟩) (fun s k hs hk _ => Tryz.sNm s k hs hk)
  intro vs h e vo h' hok hf
  unfold Tryz.fNm at hf
  split at hf
  · rename_i s
    rw [Ans.run_grd] at hf
    cases hb : Nat.ble s.size 1000000 with
    | false => rw [hb] at hf; cases hf
    | true =>
      rw [hb, cond_true, Ans.run_br] at hf
      refine ⟨s, Nat.le_of_ble_eq_true hb, Weak.refl heap0_ok, ?_⟩
      cases hq : allOk s.size (nmOk s) with
      | true => rw [hq] at hf; injection hf
      | false => rw [hq] at hf; injection hf
  · cases hf
theorem Tryz.lFn : ∀ s e s', s.h.ok → (Tryz.LFn s).run = some (e, s') → Triple Tryz.prog (.loop Tryz.bFn) s e s' := by
  refine scan_law Tryz.eFn (d := 3) (g := 132) (ls := lsumsOf []) (c := Tryz.bFn) trivial 28 [0, 3] [0, 2] (T := ByteArray) (fun s k => [.val (.string s), .val (.int .i64 k)]) (fun _ => ⟨0, []⟩) (fun s => s.size) flOk (fun s => s.size ≤ 140737488355328)
    (fun s => (.exit 0, [.val (.string s), .unk], ⟨0, []⟩)) (fun s => (.ret, [.val (.string s), .val (.bool false)], ⟨0, []⟩)) Tryz.fFn ?_ (fun _ _ => heap0_ok) (fun _ _ => ⟨by simp, by simp⟩) (fun _ _ => ⟨heap0_ok, heap0_ok⟩) (fun s k hs hk _ => Tryz.sFn s k hs hk)
  intro vs h e vo h' hok hf
  unfold Tryz.fFn at hf
  split at hf
  · rename_i s
    rw [Ans.run_grd] at hf
    cases hb : Nat.ble s.size 140737488355328 with
    | false => rw [hb] at hf; cases hf
    | true =>
      rw [hb, cond_true, Ans.run_br] at hf
      refine ⟨s, Nat.le_of_ble_eq_true hb, Weak.refl heap0_ok, ?_⟩
      cases hq : allOk s.size (flOk s) with
      | true => rw [hq] at hf; injection hf
      | false => rw [hq] at hf; injection hf
  · cases hf
end Go.Ev
/- Names: the summaries; the rounds of the specification's sections. -/
namespace Go.Ev
open Go.Proofs
theorem Tryz.sumNm : SumC Tryz.prog 128 (pureA nameS) := by
  refine pureSumR 128 ⟨Tryz.f128, _, Tryz.fnOk128.1, Tryz.fnOk128.2, rfl⟩ ?_
  intro args v h2 hs
  unfold nameS at hs
  split at hs
  · rename_i s
    injection hs with hs
    injection hs with q1 q2
    subst q1; subst q2
    refine rootS_alone Tryz.eNm (d := 3) (g := 128) (ls := lsumsOf [(4, Tryz.LNm)]) (AllL.of1 (a := Tryz.bNm) (by kernel_rfl) (LsOk.of rfl rfl Tryz.lNm)) ((Tryz.wNm s).trans ?_)
    unfold nameB
    by_cases h1 : 1 ≤ s.size
    · by_cases h2 : s.size ≤ 40
      · rw [decide_eq_false (by omega), decide_eq_false (by omega), decide_eq_true h1, decide_eq_true h2, ble_t (by omega)]
        cases allOk s.size (nmOk s) <;> rfl
      · rw [decide_eq_false (by omega), decide_eq_true (show (s.size : Int) > 40 by omega), decide_eq_true h1, decide_eq_false h2]; rfl
    · rw [decide_eq_true (show (s.size : Int) < 1 by omega), decide_eq_false h1]; rfl
  · cases hs
theorem Tryz.sumFl : SumC Tryz.prog 132 (pureA fileS) := by
  refine pureSumR 132 ⟨Tryz.f132, _, Tryz.fnOk132.1, Tryz.fnOk132.2, rfl⟩ ?_
  intro args v h2 hs
  unfold fileS at hs
  split at hs
  · rename_i s
    rw [Ans.run_grd] at hs
    cases hb : Nat.ble s.size 140737488355328 with
    | false => rw [hb] at hs; cases hs
    | true =>
    rw [hb, cond_true] at hs
    injection hs with hs
    injection hs with q1 q2
    subst q1; subst q2
    refine rootS_alone Tryz.eFn (d := 3) (g := 132) (ls := lsumsOf [(2, Tryz.LFn)]) (AllL.of1 (a := Tryz.bFn) (by kernel_rfl) (LsOk.of rfl rfl Tryz.lFn)) ((Tryz.wFn s).trans ?_)
    unfold fileB
    rw [hb, cond_true]
    cases allOk s.size (flOk s) with
    | false => rw [Bool.and_false]; rfl
    | true =>
      by_cases h1 : 1 ≤ s.size
      · by_cases h2 : s.size ≤ 100
        · rw [decide_eq_true (show (s.size : Int) ≥ 1 by omega), decide_eq_true (show (s.size : Int) ≤ 100 by omega), decide_eq_true h1, decide_eq_true h2]; rfl
        · rw [decide_eq_true (show (s.size : Int) ≥ 1 by omega), decide_eq_false (show ¬ (s.size : Int) ≤ 100 by omega), decide_eq_true h1, decide_eq_false h2]; rfl
      · rw [decide_eq_false (show ¬ (s.size : Int) ≥ 1 by omega), decide_eq_false h1]; rfl
  · cases hs
abbrev SecD := ByteArray × Int × Int × List Int × Int
abbrev SymD := ByteArray × Int × Int × Int × Int × Int
abbrev RelD := Int × Int × Int × Int × Int
abbrev LinD := Int × Int × Int × Int
def seRow (e : SecD) : List AV := [.val (.string e.1), .val (.int .i64 e.2.1), .val (.int .i64 e.2.2.1), .ro (.ints .u8 e.2.2.2.1) none, .val (.int .i64 e.2.2.2.2)]
def seZ : SecD := (ByteArray.empty, 0, 0, [], 0)
def seParse : List AV → SecD
  | [.val (.string s), .val (.int .i64 a), .val (.int .i64 b), .ro (.ints .u8 l) _, .val (.int .i64 z)] => (s, a, b, l, z)
  | [.val (.string s), .val (.int .i64 a), .val (.int .i64 b), .val (.slice none 0 0), .val (.int .i64 z)] => (s, a, b, [], z)
  | _ => seZ
def seIs : List AV → Bool
  | [.val (.string s), .val (.int .i64 a), .val (.int .i64 b), .ro (.ints .u8 l) _, .val (.int .i64 z)] => true
  | [.val (.string s), .val (.int .i64 a), .val (.int .i64 b), .val (.slice none 0 0), .val (.int .i64 z)] => true
  | _ => false
def syRow (e : SymD) : List AV := [.val (.string e.1), .val (.int .i64 e.2.1), .val (.int .u32 e.2.2.1), .val (.int .i64 e.2.2.2.1), .val (.int .i64 e.2.2.2.2.1), .val (.int .i64 e.2.2.2.2.2)]
def syZ : SymD := (ByteArray.empty, 0, 0, 0, 0, 0)
def syParse : List AV → SymD
  | [.val (.string s), .val (.int .i64 a), .val (.int .u32 b), .val (.int .i64 c), .val (.int .i64 d), .val (.int .i64 e)] => (s, a, b, c, d, e)
  | _ => syZ
def syIs : List AV → Bool
  | [.val (.string s), .val (.int .i64 a), .val (.int .u32 b), .val (.int .i64 c), .val (.int .i64 d), .val (.int .i64 e)] => true
  | _ => false
def reRow (e : RelD) : List AV := [.val (.int .i64 e.1), .val (.int .i64 e.2.1), .val (.int .i64 e.2.2.1), .val (.int .i64 e.2.2.2.1), .val (.int .i64 e.2.2.2.2)]
def reZ : RelD := (0, 0, 0, 0, 0)
def reParse : List AV → RelD
  | [.val (.int .i64 a), .val (.int .i64 b), .val (.int .i64 c), .val (.int .i64 d), .val (.int .i64 e)] => (a, b, c, d, e)
  | _ => reZ
def reIs : List AV → Bool
  | [.val (.int .i64 a), .val (.int .i64 b), .val (.int .i64 c), .val (.int .i64 d), .val (.int .i64 e)] => true
  | _ => false
def fiRow (s : ByteArray) : List AV := [.val (.string s)]
def fiParse : List AV → ByteArray
  | [.val (.string s)] => s
  | _ => ByteArray.empty
def fiIs : List AV → Bool
  | [.val (.string s)] => true
  | _ => false
def liRow (e : LinD) : List AV := [.val (.int .i64 e.1), .val (.int .i64 e.2.1), .val (.int .i64 e.2.2.1), .val (.int .i64 e.2.2.2)]
def liZ : LinD := (0, 0, 0, 0)
def liParse : List AV → LinD
  | [.val (.int .i64 a), .val (.int .i64 b), .val (.int .i64 c), .val (.int .i64 d)] => (a, b, c, d)
  | _ => liZ
def liIs : List AV → Bool
  | [.val (.int .i64 a), .val (.int .i64 b), .val (.int .i64 c), .val (.int .i64 d)] => true
  | _ => false
theorem se_law (r : List AV) (h : seIs r = true) (j : Nat) (v' : AV) (hv : (seRow (seParse r))[j]? = some v') : ∃ v, r[j]? = some v ∧ AW v v' := by
  unfold seIs at h
  split at h
  · rename_i s a b l cap z
    exact AWs.get (l' := [.val (.string s), .val (.int .i64 a), .val (.int .i64 b), .ro (.ints .u8 l) none, .val (.int .i64 z)]) (.cons (AW.refl _) (.cons (AW.refl _) (.cons (AW.refl _) (.cons (AW.cap _ _) (.cons (AW.refl _) .nil))))) j v' hv
  · rename_i s a b z
    exact AWs.get (l' := [.val (.string s), .val (.int .i64 a), .val (.int .i64 b), .ro (.ints .u8 []) none, .val (.int .i64 z)]) (.cons (AW.refl _) (.cons (AW.refl _) (.cons (AW.refl _) (.cons (AW.nil rfl) (.cons (AW.refl _) .nil))))) j v' hv
  · cases h
theorem sy_law (r : List AV) (h : syIs r = true) (j : Nat) (v' : AV) (hv : (syRow (syParse r))[j]? = some v') : ∃ v, r[j]? = some v ∧ AW v v' := by
  unfold syIs at h
  split at h
  · exact ⟨v', hv, AW.refl _⟩
  · cases h
theorem re_law (r : List AV) (h : reIs r = true) (j : Nat) (v' : AV) (hv : (reRow (reParse r))[j]? = some v') : ∃ v, r[j]? = some v ∧ AW v v' := by
  unfold reIs at h
  split at h
  · exact ⟨v', hv, AW.refl _⟩
  · cases h
theorem fi_law (r : List AV) (h : fiIs r = true) (j : Nat) (v' : AV) (hv : (fiRow (fiParse r))[j]? = some v') : ∃ v, r[j]? = some v ∧ AW v v' := by
  unfold fiIs at h
  split at h
  · exact ⟨v', hv, AW.refl _⟩
  · cases h
theorem li_law (r : List AV) (h : liIs r = true) (j : Nat) (v' : AV) (hv : (liRow (liParse r))[j]? = some v') : ∃ v, r[j]? = some v ∧ AW v v' := by
  unfold liIs at h
  split at h
  · exact ⟨v', hv, AW.refl _⟩
  · cases h
def SE : RowTy SecD := ⟨5, seRow, seParse, seIs, seZ, se_law, fun _ => rfl, fun _ => rfl⟩
def SY : RowTy SymD := ⟨6, syRow, syParse, syIs, syZ, sy_law, fun _ => rfl, fun _ => rfl⟩
def RE : RowTy RelD := ⟨5, reRow, reParse, reIs, reZ, re_law, fun _ => rfl, fun _ => rfl⟩
def FI : RowTy ByteArray := ⟨1, fiRow, fiParse, fiIs, ByteArray.empty, fi_law, fun _ => rfl, fun _ => rfl⟩
def LI : RowTy LinD := ⟨4, liRow, liParse, liIs, liZ, li_law, fun _ => rfl, fun _ => rfl⟩
structure OD where
  se : List SecD
  sy : List SymD
  re : List RelD
  fi : List ByteArray
  li : List LinD
def OD.row (o : OD) : List AV := [.ro (SE.con o.se) none, .ro (SY.con o.sy) none, .ro (RE.con o.re) none, .ro (FI.con o.fi) none, .ro (LI.con o.li) none]
def OD.av (o : OD) : AV := .agg o.row
end Go.Ev
/- The specification's sections. -/
namespace Go.Ev
open Go.Proofs
def Tryz.tSe : List (Nat × AFun) := [(128, pureA nameS)]
def Tryz.ESe : Env := Tryz.env0 false (sumsOf Tryz.tSe) (keepF 77 [(5, [0, 3, 4]), (13, [0, 3, 4, 5, 6])])
def Tryz.bSe : Code := nthD .skip (loopsOf (bodyOf Tryz.ESe 77)) 0
def Tryz.bSi : Code := nthD .skip (loopsOf Tryz.bSe) 0
def Tryz.BSi (s : St) : Option (AX × St) := codeS Tryz.ESe (callF Tryz.ESe 4) (Tryz.ESe.keep 77) (lsumsOf []) Tryz.bSi (outK [0, 3, 4, 5, 6] [0, 2, 3, 4, 5]) s
def h1S (e : SecD) : Heap := ⟨1, [⟨0, 0, .cells (.rows true 5 [seRow e])⟩]⟩
def seN (L : List SecD) (k : Nat) : ByteArray := (L.getD k SE.z).1
def newN (L : List SecD) (e : SecD) (k : Nat) : Bool := !((seN L k).toList == e.1.toList)
structure SiD where
  L : List SecD
  u : Int
  i : Nat
  e : SecD
def Vsi (x : SiD) (k : Nat) : List AV := [.ro (SE.con x.L) none, .val (.int .i64 x.u), .val (.int .i64 x.i), .ptr 0 0 0, .val (.int .i64 k)]
def Xsi (x : SiD) (b : AV) : List AV := [.ro (SE.con x.L) none, b, .val (.int .i64 x.u), .val (.int .i64 x.i), .ptr 0 0 0]
def fSi (vs : List AV) (h : Heap) : Ans (AX × List AV × Heap) := match vs, h with
  | [.ro c _, .val (.int .i64 u), .val (.int .i64 (.ofNat i)), .ptr 0 0 0, .val (.int .i64 (.ofNat 0))], ⟨1, [⟨0, 0, .cells (.rows true 5 [[.val (.string s), .val (.int .i64 a), .val (.int .i64 b), .ro (.ints .u8 l) none, .val (.int .i64 z)]])⟩]⟩ =>
    .grd (SE.ok c && (Nat.ble i c.len && Nat.ble i 1000000)) (.br (allOk i (newN (SE.list c) (s, a, b, l, z))) (.out (.exit 2, Xsi ⟨SE.list c, u, i, (s, a, b, l, z)⟩ .unk, h1S (s, a, b, l, z))) (.out (.ret, Xsi ⟨SE.list c, u, i, (s, a, b, l, z)⟩ (.val (.bool false)), h1S (s, a, b, l, z))))
  | _, _ => .no
def LSi : LSum := toLSum 77 [0, 3, 4, 5, 6] [0, 2, 3, 4, 5] fSi
theorem Tryz.rSi (x : SiD) (k : Nat) : Tryz.BSi (stOf 77 [0, 3, 4, 5, 6] (Vsi x k) (h1S x.e)) =
 bif decide ((↑k : Int) < (↑x.i : Int)) then
 bif inR (↑k : Int) x.L.length then
 bif (x.L.getD k SE.z).fst.toList == x.e.fst.toList then
 some (.ret, stOf 77 [0, 2, 3, 4, 5] [.ro (.tab 5 (x.L.length) (fun i => SE.row (x.L.getD i SE.z))) none, .val (.bool false), .val (.int .i64 (x.u)), .val (.int .i64 ((↑x.i : Int))), .ptr 0 0 0] ⟨1, [⟨0, 0, .cells (.rows true 5 ([.val (Value.string x.e.fst), .val (.int .i64 (x.e.snd.fst)), .val (.int .i64 (x.e.snd.snd.fst)), .ro (.ints .u8 (x.e.snd.snd.snd.fst)) none, .val (.int .i64 (x.e.snd.snd.snd.snd))] :: []))⟩]⟩ )
 else
 some (.normal, stOf 77 [0, 3, 4, 5, 6] [.ro (.tab 5 (x.L.length) (fun i => SE.row (x.L.getD i SE.z))) none, .val (.int .i64 (x.u)), .val (.int .i64 ((↑x.i : Int))), .ptr 0 0 0, .val (.int .i64 (IntKind.i64.wrap ((↑k : Int) + 1)))] ⟨1, [⟨0, 0, .cells (.rows true 5 ([.val (Value.string x.e.fst), .val (.int .i64 (x.e.snd.fst)), .val (.int .i64 (x.e.snd.snd.fst)), .ro (.ints .u8 (x.e.snd.snd.snd.fst)) none, .val (.int .i64 (x.e.snd.snd.snd.snd))] :: []))⟩]⟩ )
 else
 none
 else
 some (.exit 2, stOf 77 [0, 3, 4, 5] [.ro (.tab 5 (x.L.length) (fun i => SE.row (x.L.getD i SE.z))) none, .val (.int .i64 (x.u)), .val (.int .i64 ((↑x.i : Int))), .ptr 0 0 0] ⟨1, [⟨0, 0, .cells (.rows true 5 ([.val (Value.string x.e.fst), .val (.int .i64 (x.e.snd.fst)), .val (.int .i64 (x.e.snd.snd.fst)), .ro (.ints .u8 (x.e.snd.snd.snd.fst)) none, .val (.int .i64 (x.e.snd.snd.snd.snd))] :: []))⟩]⟩ ) := by kernel_rfl
theorem Tryz.eSe : EnvOk2 Tryz.prog Tryz.ESe := Tryz.envOk false (sumsOf Tryz.tSe) _ (sumsOf_ok (show AllS Tryz.prog Tryz.tSe from ⟨Tryz.sumNm, trivial⟩))
theorem h1S_ok (e : SecD) : (h1S e).ok := oneH_ok _
def siInv (x : SiD) : Prop := x.i ≤ x.L.length ∧ x.i ≤ 1000000
theorem Tryz.sSi (x : SiD) (k : Nat) (hx : siInv x) (hk : k ≤ x.i) : Tryz.BSi (stOf 77 [0, 3, 4, 5, 6] (Vsi x k) (h1S x.e)) =
    bif decide (k < x.i) then (bif newN x.L x.e k then some (.normal, stOf 77 [0, 3, 4, 5, 6] (Vsi x (k + 1)) (h1S x.e)) else some (.ret, stOf 77 [0, 2, 3, 4, 5] (Xsi x (.val (.bool false))) (h1S x.e)))
    else some (.exit 2, stOf 77 [0, 2, 3, 4, 5] (Xsi x .unk) (h1S x.e)) := by
  obtain ⟨h1, h2⟩ := hx
  rw [Tryz.rSi, declt_nat, inR_nat, wrapS k (by omega)]
  by_cases h : k < x.i
  · rw [decide_eq_true h, decide_eq_true (show k < x.L.length by omega)]
    simp only [cond_true]
    unfold newN seN
    cases ((x.L.getD k SE.z).fst.toList == x.e.fst.toList) with
    | true => rfl
    | false => rfl
  · rw [decide_eq_false h]; rfl
theorem Tryz.lSi : ∀ s e s', s.h.ok → (LSi s).run = some (e, s') → Triple Tryz.prog (.loop Tryz.bSi) s e s' := by
  refine scan_law Tryz.eSe (d := 4) (g := 77) (ls := lsumsOf []) (c := Tryz.bSi) trivial 77 [0, 3, 4, 5, 6] [0, 2, 3, 4, 5] (T := SiD) Vsi (fun x => h1S x.e) (fun x => x.i) (fun x => newN x.L x.e) siInv
    (fun x => (.exit 2, Xsi x .unk, h1S x.e)) (fun x => (.ret, Xsi x (.val (.bool false)), h1S x.e)) fSi ?_ (fun x _ => h1S_ok x.e) (fun _ _ => ⟨by simp, by simp⟩) (fun x _ => ⟨h1S_ok x.e, h1S_ok x.e⟩) (fun x k hx hk _ => Tryz.sSi x k hx hk)
  intro vs h e vo h' hok hf
  unfold fSi at hf
  split at hf
  · rename_i c cap u i s a b l z
    rw [Ans.run_grd] at hf
    cases hb : (SE.ok c && (Nat.ble i c.len && Nat.ble i 1000000)) with
    | false => rw [hb] at hf; cases hf
    | true =>
      rw [hb, cond_true, Ans.run_br] at hf
      simp only [Bool.and_eq_true, Nat.ble_eq] at hb
      obtain ⟨b1, b2, b3⟩ := hb
      refine ⟨⟨SE.list c, u, i, (s, a, b, l, z)⟩, ⟨by show i ≤ (SE.list c).length; rw [SE.list_len]; exact b2, b3⟩, ?_, ?_⟩
      · refine Weak.slots (oneH_ok _) ?_
        exact .cons (SE.aw b1 cap) (AWs.refl _)
      · show (bif allOk i (newN (SE.list c) (s, a, b, l, z)) then _ else _) = _
        cases hq : allOk i (newN (SE.list c) (s, a, b, l, z)) with
        | true => rw [hq] at hf; injection hf
        | false => rw [hq] at hf; injection hf
  · cases hf
def lenS (e : SecD) : Int := (e.2.2.2.1.length : Int) + e.2.2.2.2
def sumS (L : List SecD) : Nat → Int := Nat.rec 0 (fun k u => u + lenS (L.getD k SE.z))
def secB (e : SecD) : Bool := nameB e.1 && ((decide (1 ≤ e.2.1) && decide (e.2.1 ≤ 7)) && ((decide (0 ≤ e.2.2.2.2) && decide (e.2.2.2.2 ≤ 65536)) && ((decide (1 ≤ e.2.2.1) && decide (e.2.2.1 ≤ 256)) && decide ((256 : Int).tmod e.2.2.1 = 0))))
def secOk (L : List SecD) (i : Nat) : Bool := secB (L.getD i SE.z) && allOk i (newN L (L.getD i SE.z))
def Tryz.BSo (s : St) : Option (AX × St) := codeS Tryz.ESe (callF Tryz.ESe 4) (Tryz.ESe.keep 77) (lsumsOf [(13, LSi)]) Tryz.bSe (outK [0, 3, 4] [2, 3]) s
theorem Tryz.rSo (L : List SecD) (u : Int) (i : Nat) : Tryz.BSo (stOf 77 [0, 3, 4] [.ro (SE.con L) none, .val (.int .i64 u), .val (.int .i64 i)] ⟨0, []⟩) =
 bif decide ((↑i : Int) < (↑L.length : Int)) then
 bif inR (↑i : Int) L.length then
 bif nameB (L.getD i SE.z).fst then
 bif decide ((L.getD i SE.z).snd.fst < 1) then
 some (.ret, stOf 77 [2, 3] [.val (.bool false), .val (.int .i64 (u))] ⟨0, []⟩)
 else
 bif decide ((L.getD i SE.z).snd.fst > 7) then
 some (.ret, stOf 77 [2, 3] [.val (.bool false), .val (.int .i64 (u))] ⟨0, []⟩)
 else
 bif decide ((L.getD i SE.z).snd.snd.snd.snd < 0) then
 some (.ret, stOf 77 [2, 3] [.val (.bool false), .val (.int .i64 (u))] ⟨0, []⟩)
 else
 bif decide ((L.getD i SE.z).snd.snd.snd.snd > 65536) then
 some (.ret, stOf 77 [2, 3] [.val (.bool false), .val (.int .i64 (u))] ⟨0, []⟩)
 else
 bif decide ((L.getD i SE.z).snd.snd.fst < 1) then
 some (.ret, stOf 77 [2, 3] [.val (.bool false), .val (.int .i64 (u))] ⟨0, []⟩)
 else
 bif decide ((L.getD i SE.z).snd.snd.fst > 256) then
 some (.ret, stOf 77 [2, 3] [.val (.bool false), .val (.int .i64 (u))] ⟨0, []⟩)
 else
 bif (L.getD i SE.z).snd.snd.fst != 0 then
 bif Int.tmod 256 (L.getD i SE.z).snd.snd.fst != 0 then
 some (.ret, stOf 77 [2, 3] [.val (.bool false), .val (.int .i64 (u))] ⟨0, []⟩)
 else
 bif SE.ok (SE.con L) && (i.ble L.length && i.ble 1000000) then
 bif allOk i (newN (SE.list (SE.con L)) ((L.getD i SE.z).fst, (L.getD i SE.z).snd.fst, (L.getD i SE.z).snd.snd.fst, (L.getD i SE.z).snd.snd.snd.fst, (L.getD i SE.z).snd.snd.snd.snd)) then
 some (.normal, stOf 77 [0, 3, 4] [.ro (.tab 5 ((SE.list (SE.con L)).length) (fun i => SE.row ((SE.list (SE.con L)).getD i SE.z))) none, .val (.int .i64 (IntKind.i64.wrap (u + IntKind.i64.wrap ((↑(L.getD i SE.z).snd.snd.snd.fst.length : Int) + (L.getD i SE.z).snd.snd.snd.snd)))), .val (.int .i64 (IntKind.i64.wrap ((↑i : Int) + 1)))] ⟨0, []⟩)
 else
 some (.ret, stOf 77 [2, 3] [.val (.bool false), .val (.int .i64 (u))] ⟨0, []⟩)
 else
 none
 else
 none
 else
 some (.ret, stOf 77 [2, 3] [.val (.bool false), .val (.int .i64 (u))] ⟨0, []⟩)
 else
 none
 else
 some (.exit 0, stOf 77 [3] [.val (.int .i64 (u))] ⟨0, []⟩) := by kernel_rfl
theorem listSE (L : List SecD) : SE.list (SE.con L) = L := SE.list_con L
theorem sec_eta (e : SecD) : (e.1, e.2.1, e.2.2.1, e.2.2.2.1, e.2.2.2.2) = e := rfl
def seInv (L : List SecD) : Prop := L.length ≤ 1000 ∧ ∀ e ∈ L, e.2.2.2.1.length ≤ 140737488355328
theorem lenS_b {e : SecD} (h : secB e = true) (hl : e.2.2.2.1.length ≤ 140737488355328) : 0 ≤ lenS e ∧ lenS e ≤ 140737488420864 := by
  unfold secB at h
  simp only [Bool.and_eq_true, decide_eq_true_eq] at h
  unfold lenS
  omega
theorem getD_mem {α : Type} {l : List α} {k : Nat} {d : α} (h : k < l.length) : l.getD k d ∈ l := by
  rw [List.getD_eq_getElem?_getD, List.getElem?_eq_getElem h]
  exact List.getElem_mem h
theorem sumS_b {L : List SecD} (hL : seInv L) : ∀ k, k ≤ L.length → (∀ i, i < k → secB (L.getD i SE.z) = true) → 0 ≤ sumS L k ∧ sumS L k ≤ (k : Int) * 140737488420864
  | 0, _, _ => by show (0 : Int) ≤ 0 ∧ (0 : Int) ≤ _; omega
  | k + 1, hk, h => by
    obtain ⟨h1, h2⟩ := sumS_b hL k (by omega) (fun i hi => h i (by omega))
    obtain ⟨h3, h4⟩ := lenS_b (h k (by omega)) (hL.2 _ (getD_mem (by omega)))
    show 0 ≤ sumS L k + lenS (L.getD k SE.z) ∧ sumS L k + lenS (L.getD k SE.z) ≤ _
    omega
theorem Tryz.sSo (L : List SecD) (k : Nat) (hL : seInv L) (hk : k ≤ L.length) (hok : ∀ i, i < k → secOk L i = true) : Tryz.BSo (stOf 77 [0, 3, 4] [.ro (SE.con L) none, .val (.int .i64 (sumS L k)), .val (.int .i64 k)] ⟨0, []⟩) =
    bif decide (k < L.length) then (bif secOk L k then some (.normal, stOf 77 [0, 3, 4] [.ro (SE.con L) none, .val (.int .i64 (sumS L (k + 1))), .val (.int .i64 ((k + 1 : Nat) : Int))] ⟨0, []⟩)
      else some (.ret, stOf 77 [2, 3] [.val (.bool false), .val (.int .i64 (sumS L k))] ⟨0, []⟩)) else some (.exit 0, stOf 77 [2, 3] [.unk, .val (.int .i64 (sumS L L.length))] ⟨0, []⟩) := by
  obtain ⟨hL1, hL2⟩ := id hL
  have hsec : ∀ i, i < k → secB (L.getD i SE.z) = true := fun i hi => by
    have := hok i hi
    unfold secOk at this
    rw [Bool.and_eq_true] at this
    exact this.1
  obtain ⟨u0, u1⟩ := sumS_b hL k hk hsec
  rw [Tryz.rSo, declt_nat, inR_nat, wrapS k (by omega)]
  by_cases h : k < L.length
  · rw [decide_eq_true h]
    simp only [cond_true]
    rw [listSE, SE.ok_con, ble_t (by omega), ble_t (by omega), sec_eta]
    have hm := hL2 _ (getD_mem (d := SE.z) h)
    have eu : sumS L (k + 1) = sumS L k + lenS (L.getD k SE.z) := rfl
    rw [eu]
    unfold secOk secB
    unfold lenS
    generalize allOk k (newN L (L.getD k SE.z)) = dup
    generalize L.getD k SE.z = e at hm ⊢
    obtain ⟨s, a, b, l, z⟩ := e
    simp only at hm ⊢
    cases nameB s with
    | false => rfl
    | true =>
    by_cases c1 : a < 1
    · rw [decide_eq_true c1, decide_eq_false (show ¬ 1 ≤ a by omega)]; rfl
    · by_cases c2 : a > 7
      · rw [decide_eq_false c1, decide_eq_true c2, decide_eq_true (show 1 ≤ a by omega), decide_eq_false (show ¬ a ≤ 7 by omega)]; rfl
      · by_cases c3 : z < 0
        · rw [decide_eq_false c1, decide_eq_false c2, decide_eq_true c3, decide_eq_true (show 1 ≤ a by omega), decide_eq_true (show a ≤ 7 by omega), decide_eq_false (show ¬ 0 ≤ z by omega)]; rfl
        · by_cases c4 : z > 65536
          · rw [decide_eq_false c1, decide_eq_false c2, decide_eq_false c3, decide_eq_true c4, decide_eq_true (show 1 ≤ a by omega), decide_eq_true (show a ≤ 7 by omega), decide_eq_true (show 0 ≤ z by omega), decide_eq_false (show ¬ z ≤ 65536 by omega)]; rfl
          · rw [decide_eq_false c1, decide_eq_false c2, decide_eq_false c3, decide_eq_false c4, decide_eq_true (show 1 ≤ a by omega), decide_eq_true (show a ≤ 7 by omega), decide_eq_true (show 0 ≤ z by omega), decide_eq_true (show z ≤ 65536 by omega)]
            by_cases c5 : b < 1
            · rw [decide_eq_true c5, decide_eq_false (show ¬ 1 ≤ b by omega)]; rfl
            · by_cases c6 : b > 256
              · rw [decide_eq_false c5, decide_eq_true c6, decide_eq_true (show 1 ≤ b by omega), decide_eq_false (show ¬ b ≤ 256 by omega)]; rfl
              · rw [decide_eq_false c5, decide_eq_false c6, decide_eq_true (show 1 ≤ b by omega), decide_eq_true (show b ≤ 256 by omega), show (b != 0) = true by rw [bne_iff_ne]; omega, wrap64 ((l.length : Int) + z) (by omega) (by omega), wrap64 (sumS L k + ((l.length : Int) + z)) (by omega) (by omega)]
                by_cases c7 : (256 : Int).tmod b = 0
                · rw [decide_eq_true c7, show ((256 : Int).tmod b != 0) = false by rw [c7]; rfl]
                  cases dup <;> rfl
                · rw [decide_eq_false c7, show ((256 : Int).tmod b != 0) = true by rw [bne_iff_ne]; exact c7]; rfl
  · rw [decide_eq_false h]
    have : k = L.length := by omega
    rw [this]; rfl
end Go.Ev
/- The specification's sections and files: the summaries. -/
namespace Go.Ev
open Go.Proofs
def fSe (vs : List AV) (h : Heap) : Ans (AX × List AV × Heap) := match vs, h with
  | [.ro c _, .val (.int .i64 (.ofNat 0)), .val (.int .i64 (.ofNat 0))], ⟨0, []⟩ =>
    .grd (SE.ok c && propB (seInv (SE.list c))) (.br (allOk (SE.list c).length (secOk (SE.list c))) (.out (.exit 0, [.unk, .val (.int .i64 (sumS (SE.list c) (SE.list c).length))], ⟨0, []⟩)) (.out (.ret, [.val (.bool false), .unk], ⟨0, []⟩)))
  | _, _ => .no
def LSe : LSum := toLSum 77 [0, 3, 4] [2, 3] fSe
def secsB (L : List SecD) : Bool := decide (L.length ≤ 16) && (allOk L.length (secOk L) && decide (sumS L L.length ≤ 65536))
def secsS (args : List AV) : Ans (AV × Heap) := match args with
  | [.ro c cap] => .grd (SE.ok c && propB (seInv (SE.list c))) (.out (.val (.bool (secsB (SE.list c))), ⟨0, []⟩))
  | _ => .no
theorem Tryz.lSe : ∀ s e s', s.h.ok → (LSe s).run = some (e, s') → Triple Tryz.prog (.loop Tryz.bSe) s e s' := by
  refine scan_lawW Tryz.eSe (d := 4) (g := 77) (ls := lsumsOf [(13, LSi)]) (c := Tryz.bSe) (AllL.of1 (a := Tryz.bSi) (by kernel_rfl) (LsOk.of rfl rfl Tryz.lSi)) 77 [0, 3, 4] [2, 3] (T := List SecD)
    (fun L k => [.ro (SE.con L) none, .val (.int .i64 (sumS L k)), .val (.int .i64 k)]) (fun _ => ⟨0, []⟩) (fun L => L.length) secOk seInv
    (fun L => (.exit 0, [.unk, .val (.int .i64 (sumS L L.length))], ⟨0, []⟩)) (fun _ => (.ret, [.val (.bool false), .unk], ⟨0, []⟩)) fSe ?_ (fun _ _ => heap0_ok) (fun _ _ => ⟨by simp, by simp⟩) (fun _ _ => ⟨heap0_ok, heap0_ok⟩)
    (fun L k => stOf 77 [2, 3] [.val (.bool false), .val (.int .i64 (sumS L k))] ⟨0, []⟩) (fun L k _ => Weak.slots heap0_ok (.cons (AW.refl _) (.cons (AW.unk _) .nil))) (fun L k hL hk hok => Tryz.sSo L k hL hk hok)
  intro vs h e vo h' hok hf
  unfold fSe at hf
  split at hf
  · rename_i c cap
    rw [Ans.run_grd] at hf
    cases hb : (SE.ok c && propB (seInv (SE.list c))) with
    | false => rw [hb] at hf; cases hf
    | true =>
      rw [hb, cond_true, Ans.run_br] at hf
      rw [Bool.and_eq_true] at hb
      refine ⟨SE.list c, propB_eq hb.2, ?_, ?_⟩
      · refine Weak.slots heap0_ok ?_
        exact .cons (SE.aw hb.1 cap) (AWs.refl _)
      · cases hq : allOk (SE.list c).length (secOk (SE.list c)) with
        | true => rw [hq] at hf; injection hf
        | false => rw [hq] at hf; injection hf
  · cases hf
theorem Tryz.wSe (L : List SecD) : rootS Tryz.ESe 4 77 (lsumsOf [(5, LSe), (13, LSi)]) [.ro (SE.con L) none] =
 bif decide ((↑L.length : Int) > 16) then
 some (.val (.bool false), ⟨0, []⟩)
 else
 bif SE.ok (SE.con L) && propB (seInv (SE.list (SE.con L))) then
 bif allOk (SE.list (SE.con L)).length (secOk (SE.list (SE.con L))) then
 bif decide (sumS (SE.list (SE.con L)) (SE.list (SE.con L)).length ≤ 65536) then
 some (.val (.bool true), ⟨0, []⟩)
 else
 some (.val (.bool false), ⟨0, []⟩)
 else
 some (.val (.bool false), ⟨0, []⟩)
 else
 none := by kernel_rfl
theorem Tryz.sumSe : SumC Tryz.prog 77 (pureA (fun args => secsS (nzs [SE.con []] args))) := by
  refine pureSumR 77 ⟨Tryz.f77, _, Tryz.fnOk77.1, Tryz.fnOk77.2, rfl⟩ ?_
  intro args v h2 hs
  refine Alone.nz (cs := [SE.con []]) (by simp [Con.len, RowTy.con]) ?_
  replace hs : (secsS (nzs [SE.con []] args)).run = some (v, h2) := hs
  generalize nzs [SE.con []] args = args' at hs ⊢
  unfold secsS at hs
  split at hs
  · rename_i c cap
    rw [Ans.run_grd] at hs
    cases hb : (SE.ok c && propB (seInv (SE.list c))) with
    | false => rw [hb] at hs; cases hs
    | true =>
    rw [hb, cond_true] at hs
    rw [Bool.and_eq_true] at hb
    injection hs with hs
    injection hs with q1 q2
    subst q1; subst q2
    refine Alone.argsW (AWs.args (.cons (SE.aw hb.1 cap) .nil)) ?_
    have hi := propB_eq hb.2
    generalize SE.list c = L at hi ⊢
    refine rootS_alone Tryz.eSe (d := 4) (g := 77) (ls := lsumsOf [(5, LSe), (13, LSi)]) (AllL.of2 (a := Tryz.bSe) (b := Tryz.bSi) (by kernel_rfl) (LsOk.of rfl rfl Tryz.lSe) (LsOk.of rfl rfl Tryz.lSi)) ((Tryz.wSe L).trans ?_)
    unfold secsB
    rw [listSE, SE.ok_con, propB_t hi]
    by_cases h1 : L.length ≤ 16
    · rw [decide_eq_false (show ¬ (L.length : Int) > 16 by omega), decide_eq_true h1]
      cases allOk L.length (secOk L) with
      | false => rfl
      | true => cases decide (sumS L L.length ≤ 65536) <;> rfl
    · rw [decide_eq_true (show (L.length : Int) > 16 by omega), decide_eq_false h1]; rfl
  · cases hs
def Tryz.tFi : List (Nat × AFun) := [(132, pureA fileS)]
def Tryz.EFi : Env := Tryz.env0 false (sumsOf Tryz.tFi) (keepF 80 [(4, [0, 3]), (9, [0, 3, 4])])
def Tryz.bFo : Code := nthD .skip (loopsOf (bodyOf Tryz.EFi 80)) 0
def Tryz.bFi : Code := nthD .skip (loopsOf Tryz.bFo) 0
def Tryz.BFi (s : St) : Option (AX × St) := codeS Tryz.EFi (callF Tryz.EFi 4) (Tryz.EFi.keep 80) (lsumsOf []) Tryz.bFi (outK [0, 3, 4] [0, 2, 3]) s
def newF (L : List ByteArray) (i k : Nat) : Bool := !((L.getD k FI.z).toList == (L.getD i FI.z).toList)
def Vfi (x : List ByteArray × Nat) (k : Nat) : List AV := [.ro (FI.con x.1) none, .val (.int .i64 x.2), .val (.int .i64 k)]
def Xfi (x : List ByteArray × Nat) (b : AV) : List AV := [.ro (FI.con x.1) none, b, .val (.int .i64 x.2)]
def fFi (vs : List AV) (h : Heap) : Ans (AX × List AV × Heap) := match vs, h with
  | [.ro c _, .val (.int .i64 (.ofNat i)), .val (.int .i64 (.ofNat 0))], ⟨0, []⟩ =>
    .grd (FI.ok c && (Nat.blt i c.len && Nat.ble i 1000000)) (.br (allOk i (newF (FI.list c) i)) (.out (.exit 2, Xfi (FI.list c, i) .unk, ⟨0, []⟩)) (.out (.ret, Xfi (FI.list c, i) (.val (.bool false)), ⟨0, []⟩)))
  | _, _ => .no
def LFi : LSum := toLSum 34 [0, 3, 4] [0, 2, 3] fFi
def filOk (L : List ByteArray) (i : Nat) : Bool := fileB (L.getD i FI.z) && allOk i (newF L i)
def filInv (L : List ByteArray) : Prop := L.length ≤ 1000000 ∧ ∀ s ∈ L, s.size ≤ 140737488355328
def Tryz.BFo (s : St) : Option (AX × St) := codeS Tryz.EFi (callF Tryz.EFi 4) (Tryz.EFi.keep 80) (lsumsOf [(9, LFi)]) Tryz.bFo (outK [0, 3] [2]) s
def fFo (vs : List AV) (h : Heap) : Ans (AX × List AV × Heap) := match vs, h with
  | [.ro c _, .val (.int .i64 (.ofNat 0))], ⟨0, []⟩ =>
    .grd (FI.ok c && propB (filInv (FI.list c))) (.br (allOk (FI.list c).length (filOk (FI.list c))) (.out (.exit 0, [.unk], ⟨0, []⟩)) (.out (.ret, [.val (.bool false)], ⟨0, []⟩)))
  | _, _ => .no
def LFo : LSum := toLSum 34 [0, 3] [2] fFo
def filsB (L : List ByteArray) : Bool := decide (L.length ≤ 20) && allOk L.length (filOk L)
def filsS (args : List AV) : Ans (AV × Heap) := match args with
  | [.ro c cap] => .grd (FI.ok c && propB (filInv (FI.list c))) (.out (.val (.bool (filsB (FI.list c))), ⟨0, []⟩))
  | _ => .no
theorem Tryz.rFi (x : List ByteArray × Nat) (k : Nat) : Tryz.BFi (stOf 34 [0, 3, 4] (Vfi x k) ⟨0, []⟩) =
 bif decide ((↑k : Int) < (↑x.snd : Int)) then
 bif inR (↑k : Int) x.fst.length then
 bif inR (↑x.snd : Int) x.fst.length then
 bif (x.fst.getD k FI.z).toList == (x.fst.getD x.snd FI.z).toList then
 some (.ret, stOf 34 [0, 2, 3] [.ro (.tab 1 (x.fst.length) (fun i => FI.row (x.fst.getD i FI.z))) none, .val (.bool false), .val (.int .i64 ((↑x.snd : Int)))] ⟨0, []⟩)
 else
 some (.normal, stOf 34 [0, 3, 4] [.ro (.tab 1 (x.fst.length) (fun i => FI.row (x.fst.getD i FI.z))) none, .val (.int .i64 ((↑x.snd : Int))), .val (.int .i64 (IntKind.i64.wrap ((↑k : Int) + 1)))] ⟨0, []⟩)
 else
 none
 else
 none
 else
 some (.exit 2, stOf 34 [0, 3] [.ro (.tab 1 (x.fst.length) (fun i => FI.row (x.fst.getD i FI.z))) none, .val (.int .i64 ((↑x.snd : Int)))] ⟨0, []⟩) := by kernel_rfl
theorem Tryz.rFo (L : List ByteArray) (i : Nat) : Tryz.BFo (stOf 34 [0, 3] [.ro (FI.con L) none, .val (.int .i64 i)] ⟨0, []⟩) =
 bif decide ((↑i : Int) < (↑L.length : Int)) then
 bif inR (↑i : Int) L.length then
 bif (L.getD i FI.z).size.ble 140737488355328 then
 bif fileB (L.getD i FI.z) then
 bif FI.ok (FI.con L) && (i.blt L.length && i.ble 1000000) then
 bif allOk i (newF (FI.list (FI.con L)) i) then
 some (.normal, stOf 34 [0, 3] [.ro (.tab 1 ((FI.list (FI.con L)).length) (fun i => FI.row ((FI.list (FI.con L)).getD i FI.z))) none, .val (.int .i64 (IntKind.i64.wrap ((↑i : Int) + 1)))] ⟨0, []⟩)
 else
 some (.ret, stOf 34 [2] [.val (.bool false)] ⟨0, []⟩)
 else
 none
 else
 some (.ret, stOf 34 [2] [.val (.bool false)] ⟨0, []⟩)
 else
 none
 else
 none
 else
 some (.exit 0, stOf 34 [] [] ⟨0, []⟩) := by kernel_rfl
theorem Tryz.wFi (L : List ByteArray) : rootS Tryz.EFi 4 80 (lsumsOf [(4, LFo), (9, LFi)]) [.ro (FI.con L) none] =
 bif decide ((↑L.length : Int) > 20) then
 some (.val (.bool false), ⟨0, []⟩)
 else
 bif FI.ok (FI.con L) && propB (filInv (FI.list (FI.con L))) then
 bif allOk (FI.list (FI.con L)).length (filOk (FI.list (FI.con L))) then
 some (.val (.bool true), ⟨0, []⟩)
 else
 some (.val (.bool false), ⟨0, []⟩)
 else
 none := by kernel_rfl
theorem Tryz.eFi : EnvOk2 Tryz.prog Tryz.EFi := Tryz.envOk false (sumsOf Tryz.tFi) _ (sumsOf_ok (show AllS Tryz.prog Tryz.tFi from ⟨Tryz.sumFl, trivial⟩))
theorem Tryz.sFi (x : List ByteArray × Nat) (k : Nat) (hx : x.2 < x.1.length ∧ x.2 ≤ 1000000) (hk : k ≤ x.2) : Tryz.BFi (stOf 34 [0, 3, 4] (Vfi x k) ⟨0, []⟩) =
    bif decide (k < x.2) then (bif newF x.1 x.2 k then some (.normal, stOf 34 [0, 3, 4] (Vfi x (k + 1)) ⟨0, []⟩) else some (.ret, stOf 34 [0, 2, 3] (Xfi x (.val (.bool false))) ⟨0, []⟩)) else some (.exit 2, stOf 34 [0, 2, 3] (Xfi x .unk) ⟨0, []⟩) := by
  obtain ⟨h1, h2⟩ := hx
  rw [Tryz.rFi, declt_nat, inR_nat, inR_nat, wrapS k (by omega)]
  by_cases h : k < x.2
  · rw [decide_eq_true h, decide_eq_true (show k < x.1.length by omega), decide_eq_true h1]
    simp only [cond_true]
    unfold newF
    cases ((x.1.getD k FI.z).toList == (x.1.getD x.2 FI.z).toList) with
    | true => rfl
    | false => rfl
  · rw [decide_eq_false h]; rfl
theorem Tryz.lFi : ∀ s e s', s.h.ok → (LFi s).run = some (e, s') → Triple Tryz.prog (.loop Tryz.bFi) s e s' := by
  refine scan_law Tryz.eFi (d := 4) (g := 80) (ls := lsumsOf []) (c := Tryz.bFi) trivial 34 [0, 3, 4] [0, 2, 3] (T := List ByteArray × Nat) Vfi (fun _ => ⟨0, []⟩) (fun x => x.2) (fun x => newF x.1 x.2) (fun x => x.2 < x.1.length ∧ x.2 ≤ 1000000)
    (fun x => (.exit 2, Xfi x .unk, ⟨0, []⟩)) (fun x => (.ret, Xfi x (.val (.bool false)), ⟨0, []⟩)) fFi ?_ (fun _ _ => heap0_ok) (fun _ _ => ⟨by simp, by simp⟩) (fun _ _ => ⟨heap0_ok, heap0_ok⟩) (fun x k hx hk _ => Tryz.sFi x k hx hk)
  intro vs h e vo h' hok hf
  unfold fFi at hf
  split at hf
  · rename_i c cap i
    rw [Ans.run_grd] at hf
    cases hb : (FI.ok c && (Nat.blt i c.len && Nat.ble i 1000000)) with
    | false => rw [hb] at hf; cases hf
    | true =>
      rw [hb, cond_true, Ans.run_br] at hf
      simp only [Bool.and_eq_true, Nat.ble_eq] at hb
      obtain ⟨b1, b2, b3⟩ := hb
      have b2 := blt_iff.1 b2
      refine ⟨(FI.list c, i), ⟨by show i < (FI.list c).length; rw [FI.list_len]; exact b2, b3⟩, ?_, ?_⟩
      · refine Weak.slots heap0_ok ?_
        exact .cons (FI.aw b1 cap) (AWs.refl _)
      · show (bif allOk i (newF (FI.list c) i) then _ else _) = _
        cases hq : allOk i (newF (FI.list c) i) with
        | true => rw [hq] at hf; injection hf
        | false => rw [hq] at hf; injection hf
  · cases hf
theorem Tryz.sFo (L : List ByteArray) (k : Nat) (hL : filInv L) (hk : k ≤ L.length) : Tryz.BFo (stOf 34 [0, 3] [.ro (FI.con L) none, .val (.int .i64 k)] ⟨0, []⟩) =
    bif decide (k < L.length) then (bif filOk L k then some (.normal, stOf 34 [0, 3] [.ro (FI.con L) none, .val (.int .i64 ((k + 1 : Nat) : Int))] ⟨0, []⟩) else some (.ret, stOf 34 [2] [.val (.bool false)] ⟨0, []⟩)) else some (.exit 0, stOf 34 [2] [.unk] ⟨0, []⟩) := by
  obtain ⟨hL1, hL2⟩ := hL
  rw [Tryz.rFo, declt_nat, inR_nat, wrapS k (by omega)]
  by_cases h : k < L.length
  · have hm := hL2 _ (getD_mem (d := FI.z) h)
    rw [decide_eq_true h, ble_t hm]
    simp only [cond_true]
    rw [show FI.list (FI.con L) = L from FI.list_con L, FI.ok_con, blt_t h, ble_t (show k ≤ 1000000 by omega)]
    unfold filOk
    cases fileB (L.getD k FI.z) with
    | false => rfl
    | true => cases allOk k (newF L k) <;> rfl
  · rw [decide_eq_false h]; rfl
theorem Tryz.lFo : ∀ s e s', s.h.ok → (LFo s).run = some (e, s') → Triple Tryz.prog (.loop Tryz.bFo) s e s' := by
  refine scan_law Tryz.eFi (d := 4) (g := 80) (ls := lsumsOf [(9, LFi)]) (c := Tryz.bFo) (AllL.of1 (a := Tryz.bFi) (by kernel_rfl) (LsOk.of rfl rfl Tryz.lFi)) 34 [0, 3] [2] (T := List ByteArray)
    (fun L k => [.ro (FI.con L) none, .val (.int .i64 k)]) (fun _ => ⟨0, []⟩) (fun L => L.length) filOk filInv
    (fun L => (.exit 0, [.unk], ⟨0, []⟩)) (fun _ => (.ret, [.val (.bool false)], ⟨0, []⟩)) fFo ?_ (fun _ _ => heap0_ok) (fun _ _ => ⟨by simp, by simp⟩) (fun _ _ => ⟨heap0_ok, heap0_ok⟩) (fun L k hL hk _ => Tryz.sFo L k hL hk)
  intro vs h e vo h' hok hf
  unfold fFo at hf
  split at hf
  · rename_i c cap
    rw [Ans.run_grd] at hf
    cases hb : (FI.ok c && propB (filInv (FI.list c))) with
    | false => rw [hb] at hf; cases hf
    | true =>
      rw [hb, cond_true, Ans.run_br] at hf
      rw [Bool.and_eq_true] at hb
      refine ⟨FI.list c, propB_eq hb.2, ?_, ?_⟩
      · refine Weak.slots heap0_ok ?_
        exact .cons (FI.aw hb.1 cap) (AWs.refl _)
      · cases hq : allOk (FI.list c).length (filOk (FI.list c)) with
        | true => rw [hq] at hf; injection hf
        | false => rw [hq] at hf; injection hf
  · cases hf
theorem Tryz.sumFi : SumC Tryz.prog 80 (pureA (fun args => filsS (nzs [FI.con []] args))) := by
  refine pureSumR 80 ⟨Tryz.f80, _, Tryz.fnOk80.1, Tryz.fnOk80.2, rfl⟩ ?_
  intro args v h2 hs
  refine Alone.nz (cs := [FI.con []]) (by simp [Con.len, RowTy.con]) ?_
  replace hs : (filsS (nzs [FI.con []] args)).run = some (v, h2) := hs
  generalize nzs [FI.con []] args = args' at hs ⊢
  unfold filsS at hs
  split at hs
  · rename_i c cap
    rw [Ans.run_grd] at hs
    cases hb : (FI.ok c && propB (filInv (FI.list c))) with
    | false => rw [hb] at hs; cases hs
    | true =>
    rw [hb, cond_true] at hs
    rw [Bool.and_eq_true] at hb
    injection hs with hs
    injection hs with q1 q2
    subst q1; subst q2
    refine Alone.argsW (AWs.args (.cons (FI.aw hb.1 cap) .nil)) ?_
    have hi := propB_eq hb.2
    generalize FI.list c = L at hi ⊢
    refine rootS_alone Tryz.eFi (d := 4) (g := 80) (ls := lsumsOf [(4, LFo), (9, LFi)]) (AllL.of2 (a := Tryz.bFo) (b := Tryz.bFi) (by kernel_rfl) (LsOk.of rfl rfl Tryz.lFo) (LsOk.of rfl rfl Tryz.lFi)) ((Tryz.wFi L).trans ?_)
    unfold filsB
    rw [show FI.list (FI.con L) = L from FI.list_con L, FI.ok_con, propB_t hi]
    by_cases h1 : L.length ≤ 20
    · rw [decide_eq_false (show ¬ (L.length : Int) > 20 by omega), decide_eq_true h1]
      cases allOk L.length (filOk L) <;> rfl
    · rw [decide_eq_true (show (L.length : Int) > 20 by omega), decide_eq_false h1]; rfl
  · cases hs
end Go.Ev
/- The specification's symbols. -/
namespace Go.Ev
open Go.Proofs
def Tryz.ESm : Env := Tryz.env0 false (sumsOf []) (keepF 0 [])
def execB (r : Int) : Bool := IntKind.i64.wrap ((BitVec.ofInt 64 r &&& BitVec.ofInt 64 4).toNat : Int) != 0
def symP (L : List SecD) (s : SymD) : Prop := (0 ≤ s.2.2.2.2.1 ∧ s.2.2.2.2.1 ≤ 2) ∧ (0 ≤ s.2.2.2.2.2 ∧ s.2.2.2.2.2 ≤ 2) ∧ (-2 ≤ s.2.1 ∧ s.2.1 < (L.length : Int)) ∧
  (s.2.1 = -1 → s.2.2.2.2.1 ≠ 0 ∧ s.2.2.1 = 0 ∧ s.2.2.2.1 = 0) ∧ (s.2.1 = -2 → s.2.2.2.1 = 0) ∧
  (0 ≤ s.2.1 → (0 ≤ s.2.2.2.1 ∧ s.2.2.2.1 ≤ 65536) ∧ s.2.2.1 + s.2.2.2.1 ≤ lenS (L.getD s.2.1.toNat SE.z) ∧ (s.2.2.2.2.2 = 1 → execB (L.getD s.2.1.toNat SE.z).2.1 = true))
def symB (L : List SecD) (s : SymD) : Bool := propB (symP L s)
def seBound (L : List SecD) : Prop := L.length ≤ 1000000 ∧ ∀ e ∈ L, 0 ≤ lenS e ∧ lenS e ≤ 1000000000000000
def syBound (s : SymD) : Prop := 0 ≤ s.2.2.1 ∧ s.2.2.1 < 4294967296
theorem Tryz.wSm (o : OD) (s : SymD) : rootS Tryz.ESm 4 129 (lsumsOf []) [o.av, .agg (syRow s)] =
 bif decide (s.snd.snd.snd.snd.fst < 0) then
 some (.val (.bool false), ⟨0, []⟩)
 else
 bif decide (s.snd.snd.snd.snd.fst > 2) then
 some (.val (.bool false), ⟨0, []⟩)
 else
 bif decide (s.snd.snd.snd.snd.snd < 0) then
 some (.val (.bool false), ⟨0, []⟩)
 else
 bif decide (s.snd.snd.snd.snd.snd > 2) then
 some (.val (.bool false), ⟨0, []⟩)
 else
 bif decide (s.snd.fst < -2) then
 some (.val (.bool false), ⟨0, []⟩)
 else
 bif decide (s.snd.fst ≥ (↑o.se.length : Int)) then
 some (.val (.bool false), ⟨0, []⟩)
 else
 bif s.snd.fst == -1 then
 bif s.snd.snd.snd.snd.fst != 0 then
 bif s.snd.snd.fst == 0 then
 bif s.snd.snd.snd.fst == 0 then
 some (.val (.bool true), ⟨0, []⟩)
 else
 some (.val (.bool false), ⟨0, []⟩)
 else
 some (.val (.bool false), ⟨0, []⟩)
 else
 some (.val (.bool false), ⟨0, []⟩)
 else
 bif s.snd.fst == -2 then
 bif s.snd.snd.snd.fst == 0 then
 some (.val (.bool true), ⟨0, []⟩)
 else
 some (.val (.bool false), ⟨0, []⟩)
 else
 bif inR s.snd.fst o.se.length then
 bif decide (s.snd.snd.snd.fst < 0) then
 some (.val (.bool false), ⟨0, []⟩)
 else
 bif decide (s.snd.snd.snd.fst > 65536) then
 some (.val (.bool false), ⟨0, []⟩)
 else
 bif decide (IntKind.i64.wrap (IntKind.i64.wrap s.snd.snd.fst + s.snd.snd.snd.fst) > IntKind.i64.wrap ((↑(o.se.getD s.snd.fst.toNat SE.z).snd.snd.snd.fst.length : Int) + (o.se.getD s.snd.fst.toNat SE.z).snd.snd.snd.snd)) then
 some (.val (.bool false), ⟨0, []⟩)
 else
 bif s.snd.snd.snd.snd.snd != 1 then
 some (.val (.bool true), ⟨0, []⟩)
 else
 bif IntKind.i64.wrap (↑(BitVec.ofInt 64 (o.se.getD s.snd.fst.toNat SE.z).snd.fst &&& BitVec.ofInt 64 4).toNat : Int) != 0 then
 some (.val (.bool true), ⟨0, []⟩)
 else
 some (.val (.bool false), ⟨0, []⟩)
 else
 none := by kernel_rfl
theorem Tryz.eSm : EnvOk2 Tryz.prog Tryz.ESm := Tryz.envOk false (sumsOf []) _ (fun g A h => by cases h)
theorem inR_prop {x : Int} {n : Nat} : (inR x n = true) ↔ (0 ≤ x ∧ x < (n : Int)) := by
  cases x with
  | ofNat k =>
    rw [Int.ofNat_eq_natCast, inR_nat, decide_eq_true_eq]
    omega
  | negSucc k =>
    have h1 := Int.negSucc_lt_zero k
    constructor
    · intro h; exfalso; revert h; simp [inR]
    · rintro ⟨h, _⟩; omega
open Classical in
theorem propB_ite {α : Type} (p : Prop) (x y : α) : (bif propB p then x else y) = if p then x else y := by
  by_cases h : p
  · rw [propB_t h, if_pos h]; rfl
  · rw [propB_f h, if_neg h]; rfl
theorem bB {α : Type} (b : Bool) (f : Bool → α) : f b = bif b then f true else f false := by cases b <;> rfl
open Classical in
theorem Tryz.sSm (o : OD) (s : SymD) (ho : seBound o.se) (hs : syBound s) : rootS Tryz.ESm 4 129 (lsumsOf []) [o.av, .agg (syRow s)] = some (.val (.bool (symB o.se s)), ⟨0, []⟩) := by
  rw [Tryz.wSm, bB (symB o.se s) (fun b => some (AV.val (.bool b), (⟨0, []⟩ : Heap)))]
  obtain ⟨o1, o2⟩ := ho
  unfold symB symP
  rw [show (IntKind.i64.wrap ((BitVec.ofInt 64 (o.se.getD s.snd.fst.toNat SE.z).snd.fst &&& BitVec.ofInt 64 4).toNat : Int) != 0) = execB (o.se.getD s.snd.fst.toNat SE.z).2.1 from rfl]
  have hl : ∀ i : Nat, i < o.se.length → 0 ≤ lenS (o.se.getD i SE.z) ∧ lenS (o.se.getD i SE.z) ≤ 1000000000000000 := fun i hi => o2 _ (getD_mem hi)
  obtain ⟨nm, sec, val, size, bind, kind⟩ := s
  unfold syBound at hs
  simp only at hs ⊢
  have hlen : 0 ≤ sec → sec < (o.se.length : Int) → IntKind.i64.wrap ((↑(o.se.getD sec.toNat SE.z).snd.snd.snd.fst.length : Int) + (o.se.getD sec.toNat SE.z).snd.snd.snd.snd) = lenS (o.se.getD sec.toNat SE.z) ∧ (0 ≤ lenS (o.se.getD sec.toNat SE.z) ∧ lenS (o.se.getD sec.toNat SE.z) ≤ 1000000000000000) := by
    intro h0 h1
    have := hl sec.toNat (by omega)
    refine ⟨?_, this⟩
    unfold lenS at this ⊢
    exact wrap64 _ (by omega) (by omega)
  have hval : IntKind.i64.wrap val = val := wrap64 _ (by omega) (by omega)
  rw [hval]
  generalize lenS (o.se.getD sec.toNat SE.z) = ln at hlen ⊢
  generalize IntKind.i64.wrap ((↑(o.se.getD sec.toNat SE.z).snd.snd.snd.fst.length : Int) + (o.se.getD sec.toNat SE.z).snd.snd.snd.snd) = lw at hlen ⊢
  generalize execB (o.se.getD sec.toNat SE.z).snd.fst = ex
  have hsum : 0 ≤ size → size ≤ 65536 → IntKind.i64.wrap (val + size) = val + size := fun h0 h1 => wrap64 _ (by omega) (by omega)
  generalize IntKind.i64.wrap (val + size) = vs at hsum ⊢
  generalize (some (AV.val (.bool true), (⟨0, []⟩ : Heap))) = A
  generalize (some (AV.val (.bool false), (⟨0, []⟩ : Heap))) = B
  rw [propB_ite]
  by_cases c1 : bind < 0
  · rw [decide_eq_true c1, cond_true, if_neg (fun q => by omega)]
  rw [decide_eq_false c1, cond_false]
  by_cases c2 : bind > 2
  · rw [decide_eq_true c2, cond_true, if_neg (fun q => by omega)]
  rw [decide_eq_false c2, cond_false]
  by_cases c3 : kind < 0
  · rw [decide_eq_true c3, cond_true, if_neg (fun q => by omega)]
  rw [decide_eq_false c3, cond_false]
  by_cases c4 : kind > 2
  · rw [decide_eq_true c4, cond_true, if_neg (fun q => by omega)]
  rw [decide_eq_false c4, cond_false]
  by_cases c5 : sec < -2
  · rw [decide_eq_true c5, cond_true, if_neg (fun q => by omega)]
  rw [decide_eq_false c5, cond_false]
  by_cases c6 : sec ≥ (o.se.length : Int)
  · rw [decide_eq_true c6, cond_true, if_neg (fun q => by omega)]
  rw [decide_eq_false c6, cond_false]
  by_cases d1 : sec = -1
  · rw [show (sec == -1) = true from beq_iff_eq.2 d1, cond_true]
    by_cases e1 : bind = 0
    · rw [show (bind != 0) = false by rw [e1]; rfl, cond_false, if_neg (fun q => (q.2.2.2.1 d1).1 e1)]
    rw [show (bind != 0) = true from bne_iff_ne.2 e1, cond_true]
    by_cases e2 : val = 0
    · rw [show (val == 0) = true from beq_iff_eq.2 e2, cond_true]
      by_cases e3 : size = 0
      · rw [show (size == 0) = true from beq_iff_eq.2 e3, cond_true, if_pos ⟨by omega, by omega, by omega, fun _ => ⟨e1, e2, e3⟩, fun q => by omega, fun q => by omega⟩]
      · rw [show (size == 0) = false from beq_eq_false_iff_ne.2 e3, cond_false, if_neg (fun q => e3 (q.2.2.2.1 d1).2.2)]
    · rw [show (val == 0) = false from beq_eq_false_iff_ne.2 e2, cond_false, if_neg (fun q => e2 (q.2.2.2.1 d1).2.1)]
  rw [show (sec == -1) = false from beq_eq_false_iff_ne.2 d1, cond_false]
  by_cases d2 : sec = -2
  · rw [show (sec == -2) = true from beq_iff_eq.2 d2, cond_true]
    by_cases e3 : size = 0
    · rw [show (size == 0) = true from beq_iff_eq.2 e3, cond_true, if_pos ⟨by omega, by omega, by omega, fun q => by omega, fun _ => e3, fun q => by omega⟩]
    · rw [show (size == 0) = false from beq_eq_false_iff_ne.2 e3, cond_false, if_neg (fun q => e3 (q.2.2.2.2.1 d2))]
  rw [show (sec == -2) = false from beq_eq_false_iff_ne.2 d2, cond_false, inR_prop.2 ⟨by omega, by omega⟩, cond_true]
  obtain ⟨l1, l2, l3⟩ := hlen (by omega) (by omega)
  subst l1
  by_cases e1 : size < 0
  · rw [decide_eq_true e1, cond_true, if_neg (fun q => by have := (q.2.2.2.2.2 (by omega)).1; omega)]
  rw [decide_eq_false e1, cond_false]
  by_cases e2 : size > 65536
  · rw [decide_eq_true e2, cond_true, if_neg (fun q => by have := (q.2.2.2.2.2 (by omega)).1; omega)]
  rw [decide_eq_false e2, cond_false, hsum (by omega) (by omega)]
  by_cases e3 : val + size > lw
  · rw [decide_eq_true e3, cond_true, if_neg (fun q => by have := (q.2.2.2.2.2 (by omega)).2.1; omega)]
  rw [decide_eq_false e3, cond_false]
  by_cases e4 : kind = 1
  · rw [show (kind != 1) = false by rw [e4]; rfl, cond_false]
    cases ex with
    | true => rw [cond_true, if_pos ⟨by omega, by omega, by omega, fun q => by omega, fun q => by omega, fun _ => ⟨by omega, by omega, fun _ => rfl⟩⟩]
    | false => rw [cond_false, if_neg (fun q => by have := (q.2.2.2.2.2 (by omega)).2.2 e4; cases this)]
  · rw [show (kind != 1) = true from bne_iff_ne.2 e4, cond_true, if_pos ⟨by omega, by omega, by omega, fun q => by omega, fun q => by omega, fun _ => ⟨by omega, by omega, fun q => absurd q e4⟩⟩]
end Go.Ev
/- The specification's symbols: the loops. -/
namespace Go.Ev
open Go.Proofs
def RowTy.get {D : Type} (R : RowTy D) : AV → List D
  | .ro c _ => R.list c
  | _ => []
def RowTy.is1 {D : Type} (R : RowTy D) : AV → Bool
  | .ro c _ => R.ok c
  | .val (.slice none 0 0) => true
  | _ => false
def odP : AV → OD
  | .agg [a, b, c, d, e] => ⟨SE.get a, SY.get b, RE.get c, FI.get d, LI.get e⟩
  | _ => ⟨[], [], [], [], []⟩
def odIs : AV → Bool
  | .agg [a, b, c, d, e] => SE.is1 a && (SY.is1 b && (RE.is1 c && (FI.is1 d && LI.is1 e)))
  | _ => false
theorem RowTy.aw1 {D : Type} (R : RowTy D) {v : AV} (h : R.is1 v = true) : AW v (.ro (R.con (R.get v)) none) := by
  unfold RowTy.is1 at h
  split at h
  · rename_i c cap
    exact R.aw h cap
  · exact AW.nil rfl
  · cases h
theorem od_aw {v : AV} (h : odIs v = true) : AW v (odP v).av := by
  unfold odIs at h
  split at h
  · rename_i a b c d e
    simp only [Bool.and_eq_true] at h
    obtain ⟨h1, h2, h3, h4, h5⟩ := h
    exact AW.agg (.cons (SE.aw1 h1) (.cons (SY.aw1 h2) (.cons (RE.aw1 h3) (.cons (FI.aw1 h4) (.cons (LI.aw1 h5) .nil)))))
  · cases h
theorem RowTy.get_con {D : Type} (R : RowTy D) (L : List D) : R.get (.ro (R.con L) none) = L := R.list_con L
theorem RowTy.is1_con {D : Type} (R : RowTy D) (L : List D) : R.is1 (.ro (R.con L) none) = true := R.ok_con L
theorem odP_av (o : OD) : odP o.av = o := by
  unfold OD.av OD.row odP
  simp only [RowTy.get_con]
theorem odIs_av (o : OD) : odIs o.av = true := by
  unfold OD.av OD.row odIs
  simp only [RowTy.is1_con, Bool.and_self]
def symS (args : List AV) : Ans (AV × Heap) := match args with
  | [o, .agg r] => .grd (odIs o && (syIs r && (propB (seBound (odP o).se) && propB (syBound (syParse r))))) (.out (.val (.bool (symB (odP o).se (syParse r))), ⟨0, []⟩))
  | _ => .no
theorem syRow_eq {r : List AV} (h : syIs r = true) : syRow (syParse r) = r := by
  unfold syIs at h
  split at h
  · rfl
  · cases h
theorem Tryz.sumSm : SumC Tryz.prog 129 (pureA symS) := by
  refine pureSumR 129 ⟨Tryz.f129, _, Tryz.fnOk129.1, Tryz.fnOk129.2, rfl⟩ ?_
  intro args v h2 hs
  unfold symS at hs
  split at hs
  · rename_i ov r
    rw [Ans.run_grd] at hs
    cases hb : (odIs ov && (syIs r && (propB (seBound (odP ov).se) && propB (syBound (syParse r))))) with
    | false => rw [hb] at hs; cases hs
    | true =>
    rw [hb, cond_true] at hs
    simp only [Bool.and_eq_true] at hb
    obtain ⟨b1, b2, b3, b4⟩ := hb
    injection hs with hs
    injection hs with q1 q2
    subst q1; subst q2
    refine Alone.argsW (AWs.args (.cons (od_aw b1) (.cons (AW.refl _) .nil))) ?_
    have e := syRow_eq b2
    generalize odP ov = o at b3 ⊢
    generalize syParse r = s at b4 e ⊢
    subst e
    exact rootS_alone Tryz.eSm (d := 4) (g := 129) (ls := lsumsOf []) (AllL.noL _) (Tryz.sSm o s (propB_eq b3) (propB_eq b4))
  · cases hs
def hO (o : OD) : Heap := ⟨1, [⟨0, 0, .cells (.rows true 5 [o.row])⟩]⟩
def Tryz.tSy : List (Nat × AFun) := [(128, pureA nameS), (129, pureA symS)]
def Tryz.ESy : Env := Tryz.env0 false (sumsOf Tryz.tSy) (keepF 78 [(4, [1, 3]), (9, [1, 3, 4])])
def Tryz.bSyo : Code := nthD .skip (loopsOf (bodyOf Tryz.ESy 78)) 0
def Tryz.bSyi : Code := nthD .skip (loopsOf Tryz.bSyo) 0
def Tryz.BSyi (s : St) : Option (AX × St) := codeS Tryz.ESy (callF Tryz.ESy 4) (Tryz.ESy.keep 78) (lsumsOf []) Tryz.bSyi (outK [1, 3, 4] [1, 2, 3]) s
def newY (L : List SymD) (i k : Nat) : Bool := !((L.getD k SY.z).1.toList == (L.getD i SY.z).1.toList)
def Vsy (x : OD × Nat) (k : Nat) : List AV := [.ptr 0 0 0, .val (.int .i64 x.2), .val (.int .i64 k)]
def Xsy (x : OD × Nat) (b : AV) : List AV := [.ptr 0 0 0, b, .val (.int .i64 x.2)]
def fSyi (vs : List AV) (h : Heap) : Ans (AX × List AV × Heap) := match vs, h with
  | [.ptr 0 0 0, .val (.int .i64 (.ofNat i)), .val (.int .i64 (.ofNat 0))], ⟨1, [⟨0, 0, .cells (.rows true 5 [r])⟩]⟩ =>
    .grd (odIs (.agg r) && (Nat.blt i (odP (.agg r)).sy.length && Nat.ble i 1000000)) (.br (allOk i (newY (odP (.agg r)).sy i)) (.out (.exit 2, Xsy (odP (.agg r), i) .unk, hO (odP (.agg r)))) (.out (.ret, Xsy (odP (.agg r), i) (.val (.bool false)), hO (odP (.agg r)))))
  | _, _ => .no
def LSyi : LSum := toLSum 52 [1, 3, 4] [1, 2, 3] fSyi
theorem Tryz.rSyi (x : OD × Nat) (k : Nat) : Tryz.BSyi (stOf 52 [1, 3, 4] (Vsy x k) (hO x.1)) =
 bif decide ((↑k : Int) < (↑x.snd : Int)) then
 bif inR (↑k : Int) x.fst.sy.length then
 bif inR (↑x.snd : Int) x.fst.sy.length then
 bif (x.fst.sy.getD k SY.z).fst.toList == (x.fst.sy.getD x.snd SY.z).fst.toList then
 some (.ret, stOf 52 [1, 2, 3] [.ptr 0 0 0, .val (.bool false), .val (.int .i64 ((↑x.snd : Int)))] ⟨1, [⟨0, 0, .cells (.rows true 5 ([.ro (.tab 5 (x.fst.se.length) (fun i => SE.row (x.fst.se.getD i SE.z))) none, .ro (.tab 6 (x.fst.sy.length) (fun i => SY.row (x.fst.sy.getD i SY.z))) none, .ro (.tab 5 (x.fst.re.length) (fun i => RE.row (x.fst.re.getD i RE.z))) none, .ro (.tab 1 (x.fst.fi.length) (fun i => FI.row (x.fst.fi.getD i FI.z))) none, .ro (.tab 4 (x.fst.li.length) (fun i => LI.row (x.fst.li.getD i LI.z))) none] :: []))⟩]⟩ )
 else
 some (.normal, stOf 52 [1, 3, 4] [.ptr 0 0 0, .val (.int .i64 ((↑x.snd : Int))), .val (.int .i64 (IntKind.i64.wrap ((↑k : Int) + 1)))] ⟨1, [⟨0, 0, .cells (.rows true 5 ([.ro (.tab 5 (x.fst.se.length) (fun i => SE.row (x.fst.se.getD i SE.z))) none, .ro (.tab 6 (x.fst.sy.length) (fun i => SY.row (x.fst.sy.getD i SY.z))) none, .ro (.tab 5 (x.fst.re.length) (fun i => RE.row (x.fst.re.getD i RE.z))) none, .ro (.tab 1 (x.fst.fi.length) (fun i => FI.row (x.fst.fi.getD i FI.z))) none, .ro (.tab 4 (x.fst.li.length) (fun i => LI.row (x.fst.li.getD i LI.z))) none] :: []))⟩]⟩ )
 else
 none
 else
 none
 else
 some (.exit 2, stOf 52 [1, 3] [.ptr 0 0 0, .val (.int .i64 ((↑x.snd : Int)))] ⟨1, [⟨0, 0, .cells (.rows true 5 ([.ro (.tab 5 (x.fst.se.length) (fun i => SE.row (x.fst.se.getD i SE.z))) none, .ro (.tab 6 (x.fst.sy.length) (fun i => SY.row (x.fst.sy.getD i SY.z))) none, .ro (.tab 5 (x.fst.re.length) (fun i => RE.row (x.fst.re.getD i RE.z))) none, .ro (.tab 1 (x.fst.fi.length) (fun i => FI.row (x.fst.fi.getD i FI.z))) none, .ro (.tab 4 (x.fst.li.length) (fun i => LI.row (x.fst.li.getD i LI.z))) none] :: []))⟩]⟩ ) := by kernel_rfl
theorem Tryz.eSy : EnvOk2 Tryz.prog Tryz.ESy := Tryz.envOk false (sumsOf Tryz.tSy) _ (sumsOf_ok (show AllS Tryz.prog Tryz.tSy from ⟨Tryz.sumNm, Tryz.sumSm, trivial⟩))
theorem hO_ok (o : OD) : (hO o).ok := oneH_ok _
theorem Tryz.sSyi (x : OD × Nat) (k : Nat) (hx : x.2 < x.1.sy.length ∧ x.2 ≤ 1000000) (hk : k ≤ x.2) : Tryz.BSyi (stOf 52 [1, 3, 4] (Vsy x k) (hO x.1)) =
    bif decide (k < x.2) then (bif newY x.1.sy x.2 k then some (.normal, stOf 52 [1, 3, 4] (Vsy x (k + 1)) (hO x.1)) else some (.ret, stOf 52 [1, 2, 3] (Xsy x (.val (.bool false))) (hO x.1))) else some (.exit 2, stOf 52 [1, 2, 3] (Xsy x .unk) (hO x.1)) := by
  obtain ⟨h1, h2⟩ := hx
  rw [Tryz.rSyi, declt_nat, inR_nat, inR_nat, wrapS k (by omega)]
  by_cases h : k < x.2
  · rw [decide_eq_true h, decide_eq_true (show k < x.1.sy.length by omega), decide_eq_true h1]
    simp only [cond_true]
    unfold newY
    cases ((x.1.sy.getD k SY.z).fst.toList == (x.1.sy.getD x.2 SY.z).fst.toList) with
    | true => rfl
    | false => rfl
  · rw [decide_eq_false h]; rfl
end Go.Ev
/- The specification's symbols: the summary. -/
namespace Go.Ev
open Go.Proofs
theorem od_aws {r : List AV} (h : odIs (.agg r) = true) : AWs r (odP (.agg r)).row := by
  unfold odIs at h
  split at h
  · rename_i e
    injection e with e
    subst e
    simp only [Bool.and_eq_true] at h
    obtain ⟨h1, h2, h3, h4, h5⟩ := h
    exact .cons (SE.aw1 h1) (.cons (SY.aw1 h2) (.cons (RE.aw1 h3) (.cons (FI.aw1 h4) (.cons (LI.aw1 h5) .nil))))
  · cases h
theorem od_con {r : List AV} (h : odIs (.agg r) = true) : ConW (.rows true 5 [r]) (.rows true 5 [(odP (.agg r)).row]) := by
  refine ⟨rfl, rfl, fun i hi j v' hv => ?_⟩
  have hi : i < 1 := hi
  have : i = 0 := by omega
  subst this
  exact AWs.get (od_aws h) j v' hv
theorem Tryz.lSyi : ∀ s e s', s.h.ok → (LSyi s).run = some (e, s') → Triple Tryz.prog (.loop Tryz.bSyi) s e s' := by
  refine scan_law Tryz.eSy (d := 4) (g := 78) (ls := lsumsOf []) (c := Tryz.bSyi) trivial 52 [1, 3, 4] [1, 2, 3] (T := OD × Nat) Vsy (fun x => hO x.1) (fun x => x.2) (fun x => newY x.1.sy x.2) (fun x => x.2 < x.1.sy.length ∧ x.2 ≤ 1000000)
    (fun x => (.exit 2, Xsy x .unk, hO x.1)) (fun x => (.ret, Xsy x (.val (.bool false)), hO x.1)) fSyi ?_ (fun x _ => hO_ok x.1) (fun _ _ => ⟨by simp, by simp⟩) (fun x _ => ⟨hO_ok x.1, hO_ok x.1⟩) (fun x k hx hk _ => Tryz.sSyi x k hx hk)
  intro vs h e vo h' hok hf
  unfold fSyi at hf
  split at hf
  · rename_i i r
    rw [Ans.run_grd] at hf
    cases hb : (odIs (.agg r) && (Nat.blt i (odP (.agg r)).sy.length && Nat.ble i 1000000)) with
    | false => rw [hb] at hf; cases hf
    | true =>
      rw [hb, cond_true, Ans.run_br] at hf
      simp only [Bool.and_eq_true, Nat.ble_eq] at hb
      obtain ⟨b1, b2, b3⟩ := hb
      refine ⟨(odP (.agg r), i), ⟨blt_iff.1 b2, b3⟩, ?_, ?_⟩
      · exact Weak.oneH rfl (od_con b1)
      · show (bif allOk i (newY (odP (.agg r)).sy i) then _ else _) = _
        cases hq : allOk i (newY (odP (.agg r)).sy i) with
        | true => rw [hq] at hf; injection hf
        | false => rw [hq] at hf; injection hf
  · cases hf
def symOk (o : OD) (i : Nat) : Bool := (nameB (o.sy.getD i SY.z).1 && symB o.se (o.sy.getD i SY.z)) && allOk i (newY o.sy i)
def syInv (o : OD) : Prop := o.sy.length ≤ 1000000 ∧ seBound o.se ∧ ∀ s ∈ o.sy, syBound s
def Tryz.BSyo (s : St) : Option (AX × St) := codeS Tryz.ESy (callF Tryz.ESy 4) (Tryz.ESy.keep 78) (lsumsOf [(9, LSyi)]) Tryz.bSyo (outK [1, 3] [2]) s
def fSyo (vs : List AV) (h : Heap) : Ans (AX × List AV × Heap) := match vs, h with
  | [.ptr 0 0 0, .val (.int .i64 (.ofNat 0))], ⟨1, [⟨0, 0, .cells (.rows true 5 [r])⟩]⟩ =>
    .grd (odIs (.agg r) && propB (syInv (odP (.agg r)))) (.br (allOk (odP (.agg r)).sy.length (symOk (odP (.agg r)))) (.out (.exit 0, [.unk], ⟨0, []⟩)) (.out (.ret, [.val (.bool false)], ⟨0, []⟩)))
  | _, _ => .no
def LSyo : LSum := toLSum 52 [1, 3] [2] fSyo
def symsB (o : OD) : Bool := decide (o.sy.length ≤ 500) && allOk o.sy.length (symOk o)
def symsS (args : List AV) : Ans (AV × Heap) := match args with
  | [o] => .grd (odIs o && propB (syInv (odP o))) (.out (.val (.bool (symsB (odP o))), ⟨0, []⟩))
  | _ => .no
theorem Tryz.rSyo (o : OD) (i : Nat) : Tryz.BSyo (stOf 52 [1, 3] [.ptr 0 0 0, .val (.int .i64 i)] (hO o)) =
 bif decide ((↑i : Int) < (↑o.sy.length : Int)) then
 bif inR (↑i : Int) o.sy.length then
 bif nameB (o.sy.getD i SY.z).fst then
 bif inR (↑i : Int) o.sy.length then
 bif odIs (AV.agg [AV.ro (SE.con o.se) none, AV.ro (SY.con o.sy) none, AV.ro (RE.con o.re) none, AV.ro (FI.con o.fi) none, AV.ro (LI.con o.li) none]) && (propB (seBound (odP (AV.agg [AV.ro (SE.con o.se) none, AV.ro (SY.con o.sy) none, AV.ro (RE.con o.re) none, AV.ro (FI.con o.fi) none, AV.ro (LI.con o.li) none])).se) && propB (syBound (syParse [AV.val (Value.string (o.sy.getD i SY.z).fst), AV.val (Value.int IntKind.i64 (o.sy.getD i SY.z).snd.fst), AV.val (Value.int IntKind.u32 (o.sy.getD i SY.z).snd.snd.fst), AV.val (Value.int IntKind.i64 (o.sy.getD i SY.z).snd.snd.snd.fst), AV.val (Value.int IntKind.i64 (o.sy.getD i SY.z).snd.snd.snd.snd.fst), AV.val (Value.int IntKind.i64 (o.sy.getD i SY.z).snd.snd.snd.snd.snd)]))) then
 bif symB (odP (AV.agg [AV.ro (SE.con o.se) none, AV.ro (SY.con o.sy) none, AV.ro (RE.con o.re) none, AV.ro (FI.con o.fi) none, AV.ro (LI.con o.li) none])).se (syParse [AV.val (Value.string (o.sy.getD i SY.z).fst), AV.val (Value.int IntKind.i64 (o.sy.getD i SY.z).snd.fst), AV.val (Value.int IntKind.u32 (o.sy.getD i SY.z).snd.snd.fst), AV.val (Value.int IntKind.i64 (o.sy.getD i SY.z).snd.snd.snd.fst), AV.val (Value.int IntKind.i64 (o.sy.getD i SY.z).snd.snd.snd.snd.fst), AV.val (Value.int IntKind.i64 (o.sy.getD i SY.z).snd.snd.snd.snd.snd)]) then
 bif odIs (AV.agg o.row) && (i.blt (odP (AV.agg o.row)).sy.length && i.ble 1000000) then
 bif allOk i (newY (odP (AV.agg o.row)).sy i) then
 some (.normal, stOf 52 [1, 3] [.ptr 0 0 0, .val (.int .i64 (IntKind.i64.wrap ((↑i : Int) + 1)))] ⟨1, [⟨0, 0, .cells (.rows true 5 ([.ro (.tab 5 ((odP (AV.agg o.row)).se.length) (fun i => SE.row ((odP (AV.agg o.row)).se.getD i SE.z))) none, .ro (.tab 6 ((odP (AV.agg o.row)).sy.length) (fun i => SY.row ((odP (AV.agg o.row)).sy.getD i SY.z))) none, .ro (.tab 5 ((odP (AV.agg o.row)).re.length) (fun i => RE.row ((odP (AV.agg o.row)).re.getD i RE.z))) none, .ro (.tab 1 ((odP (AV.agg o.row)).fi.length) (fun i => FI.row ((odP (AV.agg o.row)).fi.getD i FI.z))) none, .ro (.tab 4 ((odP (AV.agg o.row)).li.length) (fun i => LI.row ((odP (AV.agg o.row)).li.getD i LI.z))) none] :: []))⟩]⟩ )
 else
 some (.ret, stOf 52 [2] [.val (.bool false)] ⟨0, []⟩)
 else
 none
 else
 some (.ret, stOf 52 [2] [.val (.bool false)] ⟨0, []⟩)
 else
 none
 else
 none
 else
 some (.ret, stOf 52 [2] [.val (.bool false)] ⟨0, []⟩)
 else
 none
 else
 some (.exit 0, stOf 52 [] [] ⟨0, []⟩) := by kernel_rfl
theorem Tryz.wSy (o : OD) : rootS Tryz.ESy 4 78 (lsumsOf [(4, LSyo), (9, LSyi)]) [o.av] =
 bif decide ((↑o.sy.length : Int) > 500) then
 some (.val (.bool false), ⟨0, []⟩)
 else
 bif odIs (AV.agg (AV.agg o.row).cells) && propB (syInv (odP (AV.agg (AV.agg o.row).cells))) then
 bif allOk (odP (AV.agg (AV.agg o.row).cells)).sy.length (symOk (odP (AV.agg (AV.agg o.row).cells))) then
 some (.val (.bool true), ⟨0, []⟩)
 else
 some (.val (.bool false), ⟨0, []⟩)
 else
 none := by kernel_rfl
end Go.Ev
/- The specification's symbols: the summary. -/
namespace Go.Ev
open Go.Proofs
theorem odP_row (o : OD) : odP (.agg o.row) = o := odP_av o
theorem odIs_row (o : OD) : odIs (.agg o.row) = true := odIs_av o
theorem sy_eta (s : SymD) : syParse [.val (.string s.1), .val (.int .i64 s.2.1), .val (.int .u32 s.2.2.1), .val (.int .i64 s.2.2.2.1), .val (.int .i64 s.2.2.2.2.1), .val (.int .i64 s.2.2.2.2.2)] = s := rfl
theorem Tryz.sSyo (o : OD) (k : Nat) (ho : syInv o) (hk : k ≤ o.sy.length) : Tryz.BSyo (stOf 52 [1, 3] [.ptr 0 0 0, .val (.int .i64 k)] (hO o)) =
    bif decide (k < o.sy.length) then (bif symOk o k then some (.normal, stOf 52 [1, 3] [.ptr 0 0 0, .val (.int .i64 ((k + 1 : Nat) : Int))] (hO o)) else some (.ret, stOf 52 [2] [.val (.bool false)] ⟨0, []⟩)) else some (.exit 0, stOf 52 [2] [.unk] ⟨0, []⟩) := by
  obtain ⟨h1, h2, h3⟩ := ho
  rw [Tryz.rSyo, declt_nat, inR_nat, wrapS k (by omega)]
  rw [show AV.agg [AV.ro (SE.con o.se) none, AV.ro (SY.con o.sy) none, AV.ro (RE.con o.re) none, AV.ro (FI.con o.fi) none, AV.ro (LI.con o.li) none] = .agg o.row from rfl, odP_row, odIs_row]
  by_cases h : k < o.sy.length
  · have hm := h3 _ (getD_mem (d := SY.z) h)
    rw [decide_eq_true h, propB_t h2, blt_t h, ble_t (show k ≤ 1000000 by omega), sy_eta, propB_t hm]
    unfold symOk
    cases nameB (o.sy.getD k SY.z).1 with
    | false => rfl
    | true =>
    cases symB o.se (o.sy.getD k SY.z) with
    | false => rfl
    | true =>
    cases allOk k (newY o.sy k) with
    | false => rfl
    | true => rfl
  · rw [decide_eq_false h]; rfl
theorem Tryz.lSyo : ∀ s e s', s.h.ok → (LSyo s).run = some (e, s') → Triple Tryz.prog (.loop Tryz.bSyo) s e s' := by
  refine scan_law Tryz.eSy (d := 4) (g := 78) (ls := lsumsOf [(9, LSyi)]) (c := Tryz.bSyo) (AllL.of1 (a := Tryz.bSyi) (by kernel_rfl) (LsOk.of rfl rfl Tryz.lSyi)) 52 [1, 3] [2] (T := OD) (fun o k => [.ptr 0 0 0, .val (.int .i64 k)]) hO (fun o => o.sy.length) symOk syInv
    (fun _ => (.exit 0, [.unk], ⟨0, []⟩)) (fun _ => (.ret, [.val (.bool false)], ⟨0, []⟩)) fSyo ?_ (fun o _ => hO_ok o) (fun _ _ => ⟨by simp, by simp⟩) (fun _ _ => ⟨heap0_ok, heap0_ok⟩) (fun o k ho hk _ => Tryz.sSyo o k ho hk)
  intro vs h e vo h' hok hf
  unfold fSyo at hf
  split at hf
  · rename_i r
    rw [Ans.run_grd] at hf
    cases hb : (odIs (.agg r) && propB (syInv (odP (.agg r)))) with
    | false => rw [hb] at hf; cases hf
    | true =>
      rw [hb, cond_true, Ans.run_br] at hf
      rw [Bool.and_eq_true] at hb
      refine ⟨odP (.agg r), propB_eq hb.2, Weak.oneH rfl (od_con hb.1), ?_⟩
      cases hq : allOk (odP (.agg r)).sy.length (symOk (odP (.agg r))) with
      | true => rw [hq] at hf; injection hf
      | false => rw [hq] at hf; injection hf
  · cases hf
theorem Tryz.sumSy : SumC Tryz.prog 78 (pureA symsS) := by
  refine pureSumR 78 ⟨Tryz.f78, _, Tryz.fnOk78.1, Tryz.fnOk78.2, rfl⟩ ?_
  intro args v h2 hs
  unfold symsS at hs
  split at hs
  · rename_i ov
    rw [Ans.run_grd] at hs
    cases hb : (odIs ov && propB (syInv (odP ov))) with
    | false => rw [hb] at hs; cases hs
    | true =>
    rw [hb, cond_true] at hs
    rw [Bool.and_eq_true] at hb
    injection hs with hs
    injection hs with q1 q2
    subst q1; subst q2
    refine Alone.argsW (AWs.args (.cons (od_aw hb.1) .nil)) ?_
    have hi := propB_eq hb.2
    generalize odP ov = o at hi ⊢
    refine rootS_alone Tryz.eSy (d := 4) (g := 78) (ls := lsumsOf [(4, LSyo), (9, LSyi)]) (AllL.of2 (a := Tryz.bSyo) (b := Tryz.bSyi) (by kernel_rfl) (LsOk.of rfl rfl Tryz.lSyo) (LsOk.of rfl rfl Tryz.lSyi)) ((Tryz.wSy o).trans ?_)
    rw [show AV.agg (AV.agg o.row).cells = .agg o.row from rfl, odP_row, odIs_row, propB_t hi]
    unfold symsB
    by_cases h1 : o.sy.length ≤ 500
    · rw [decide_eq_false (show ¬ (o.sy.length : Int) > 500 by omega), decide_eq_true h1]
      cases allOk o.sy.length (symOk o) <;> rfl
    · rw [decide_eq_true (show (o.sy.length : Int) > 500 by omega), decide_eq_false h1]; rfl
  · cases hs
end Go.Ev
/- The specification's relocations. -/
namespace Go.Ev
open Go.Proofs
def wdI (k : Int) : Int := if k = 3 then 1 else if k = 2 then 2 else 4
def widS (args : List AV) : Ans (AV × Heap) := match args with
  | [.val (.int .i64 k)] => .out (.val (.int .i64 (wdI k)), ⟨0, []⟩)
  | _ => .no
theorem Tryz.wWd (k : Int) : rootS Tryz.ESm 4 131 (lsumsOf []) [.val (.int .i64 k)] =
 bif k == 3 then
 some (.val (.int .i64 1), ⟨0, []⟩)
 else
 bif k == 2 then
 some (.val (.int .i64 2), ⟨0, []⟩)
 else
 some (.val (.int .i64 4), ⟨0, []⟩) := by kernel_rfl
theorem Tryz.sumWd : SumC Tryz.prog 131 (pureA widS) := by
  refine pureSumR 131 ⟨Tryz.f131, _, Tryz.fnOk131.1, Tryz.fnOk131.2, rfl⟩ ?_
  intro args v h2 hs
  unfold widS at hs
  split at hs
  · rename_i k
    injection hs with hs
    injection hs with q1 q2
    subst q1; subst q2
    refine rootS_alone Tryz.eSm (d := 4) (g := 131) (ls := lsumsOf []) (AllL.noL _) ((Tryz.wWd k).trans ?_)
    unfold wdI
    by_cases h3 : k = 3
    · rw [if_pos h3, show (k == 3) = true from beq_iff_eq.2 h3]; rfl
    · rw [if_neg h3, show (k == 3) = false from beq_eq_false_iff_ne.2 h3]
      by_cases h2 : k = 2
      · rw [if_pos h2, show (k == 2) = true from beq_iff_eq.2 h2]; rfl
      · rw [if_neg h2, show (k == 2) = false from beq_eq_false_iff_ne.2 h2]; rfl
  · cases hs
def Tryz.tRe : List (Nat × AFun) := [(131, pureA widS)]
def Tryz.ERe : Env := Tryz.env0 false (sumsOf Tryz.tRe) (keepF 79 [(4, [1, 3])])
def Tryz.bRe : Code := nthD .skip (loopsOf (bodyOf Tryz.ERe 79)) 0
def Tryz.BRe (s : St) : Option (AX × St) := codeS Tryz.ERe (callF Tryz.ERe 4) (Tryz.ERe.keep 79) (lsumsOf []) Tryz.bRe (outK [1, 3] [2]) s
theorem Tryz.rRe (o : OD) (i : Nat) : Tryz.BRe (stOf 121 [1, 3] [.ptr 0 0 0, .val (.int .i64 i)] (hO o)) =
 bif decide ((↑i : Int) < (↑o.re.length : Int)) then
 bif inR (↑i : Int) o.re.length then
 bif decide ((o.re.getD i RE.z).fst < 0) then
 some (.ret, stOf 121 [2] [.val (.bool false)] ⟨0, []⟩)
 else
 bif decide ((o.re.getD i RE.z).fst ≥ (↑o.se.length : Int)) then
 some (.ret, stOf 121 [2] [.val (.bool false)] ⟨0, []⟩)
 else
 bif decide ((o.re.getD i RE.z).snd.snd.fst < 1) then
 some (.ret, stOf 121 [2] [.val (.bool false)] ⟨0, []⟩)
 else
 bif decide ((o.re.getD i RE.z).snd.snd.fst > 5) then
 some (.ret, stOf 121 [2] [.val (.bool false)] ⟨0, []⟩)
 else
 bif decide ((o.re.getD i RE.z).snd.snd.snd.fst < 0) then
 some (.ret, stOf 121 [2] [.val (.bool false)] ⟨0, []⟩)
 else
 bif decide ((o.re.getD i RE.z).snd.snd.snd.fst ≥ (↑o.sy.length : Int)) then
 some (.ret, stOf 121 [2] [.val (.bool false)] ⟨0, []⟩)
 else
 bif decide ((o.re.getD i RE.z).snd.snd.snd.snd ≥ -2147483648) then
 bif decide ((o.re.getD i RE.z).snd.snd.snd.snd ≤ 2147483647) then
 bif inR (o.re.getD i RE.z).fst o.se.length then
 bif decide ((o.re.getD i RE.z).snd.fst < 0) then
 some (.ret, stOf 121 [2] [.val (.bool false)] ⟨0, []⟩)
 else
 bif decide ((o.re.getD i RE.z).snd.fst > (↑(o.se.getD (o.re.getD i RE.z).fst.toNat SE.z).snd.snd.snd.fst.length : Int)) then
 some (.ret, stOf 121 [2] [.val (.bool false)] ⟨0, []⟩)
 else
 bif decide (IntKind.i64.wrap ((o.re.getD i RE.z).snd.fst + wdI (o.re.getD i RE.z).snd.snd.fst) > (↑(o.se.getD (o.re.getD i RE.z).fst.toNat SE.z).snd.snd.snd.fst.length : Int)) then
 some (.ret, stOf 121 [2] [.val (.bool false)] ⟨0, []⟩)
 else
 bif decide ((↑i : Int) > 0) then
 bif inR (IntKind.i64.wrap ((↑i : Int) - 1)) o.re.length then
 bif decide ((o.re.getD i RE.z).fst < (o.re.getD (IntKind.i64.wrap ((↑i : Int) - 1)).toNat RE.z).fst) then
 some (.ret, stOf 121 [2] [.val (.bool false)] ⟨0, []⟩)
 else
 bif (o.re.getD i RE.z).fst == (o.re.getD (IntKind.i64.wrap ((↑i : Int) - 1)).toNat RE.z).fst then
 bif decide ((o.re.getD i RE.z).snd.fst < IntKind.i64.wrap ((o.re.getD (IntKind.i64.wrap ((↑i : Int) - 1)).toNat RE.z).snd.fst + wdI (o.re.getD (IntKind.i64.wrap ((↑i : Int) - 1)).toNat RE.z).snd.snd.fst)) then
 some (.ret, stOf 121 [2] [.val (.bool false)] ⟨0, []⟩)
 else
 some (.normal, stOf 121 [1, 3] [.ptr 0 0 0, .val (.int .i64 (IntKind.i64.wrap ((↑i : Int) + 1)))] ⟨1, [⟨0, 0, .cells (.rows true 5 ([.ro (.tab 5 (o.se.length) (fun i => SE.row (o.se.getD i SE.z))) none, .ro (.tab 6 (o.sy.length) (fun i => SY.row (o.sy.getD i SY.z))) none, .ro (.tab 5 (o.re.length) (fun i => RE.row (o.re.getD i RE.z))) none, .ro (.tab 1 (o.fi.length) (fun i => FI.row (o.fi.getD i FI.z))) none, .ro (.tab 4 (o.li.length) (fun i => LI.row (o.li.getD i LI.z))) none] :: []))⟩]⟩ )
 else
 some (.normal, stOf 121 [1, 3] [.ptr 0 0 0, .val (.int .i64 (IntKind.i64.wrap ((↑i : Int) + 1)))] ⟨1, [⟨0, 0, .cells (.rows true 5 ([.ro (.tab 5 (o.se.length) (fun i => SE.row (o.se.getD i SE.z))) none, .ro (.tab 6 (o.sy.length) (fun i => SY.row (o.sy.getD i SY.z))) none, .ro (.tab 5 (o.re.length) (fun i => RE.row (o.re.getD i RE.z))) none, .ro (.tab 1 (o.fi.length) (fun i => FI.row (o.fi.getD i FI.z))) none, .ro (.tab 4 (o.li.length) (fun i => LI.row (o.li.getD i LI.z))) none] :: []))⟩]⟩ )
 else
 none
 else
 some (.normal, stOf 121 [1, 3] [.ptr 0 0 0, .val (.int .i64 (IntKind.i64.wrap ((↑i : Int) + 1)))] ⟨1, [⟨0, 0, .cells (.rows true 5 ([.ro (.tab 5 (o.se.length) (fun i => SE.row (o.se.getD i SE.z))) none, .ro (.tab 6 (o.sy.length) (fun i => SY.row (o.sy.getD i SY.z))) none, .ro (.tab 5 (o.re.length) (fun i => RE.row (o.re.getD i RE.z))) none, .ro (.tab 1 (o.fi.length) (fun i => FI.row (o.fi.getD i FI.z))) none, .ro (.tab 4 (o.li.length) (fun i => LI.row (o.li.getD i LI.z))) none] :: []))⟩]⟩ )
 else
 none
 else
 some (.ret, stOf 121 [2] [.val (.bool false)] ⟨0, []⟩)
 else
 some (.ret, stOf 121 [2] [.val (.bool false)] ⟨0, []⟩)
 else
 none
 else
 some (.exit 0, stOf 121 [] [] ⟨0, []⟩) := by kernel_rfl
end Go.Ev
/- The specification's relocations: the summary. -/
namespace Go.Ev
open Go.Proofs
def secLen (o : OD) (i : Int) : Int := ((o.se.getD i.toNat SE.z).2.2.2.1.length : Int)
def relP (o : OD) (i : Nat) : Prop := (0 ≤ (o.re.getD i RE.z).1 ∧ (o.re.getD i RE.z).1 < (o.se.length : Int)) ∧ (1 ≤ (o.re.getD i RE.z).2.2.1 ∧ (o.re.getD i RE.z).2.2.1 ≤ 5) ∧
  (0 ≤ (o.re.getD i RE.z).2.2.2.1 ∧ (o.re.getD i RE.z).2.2.2.1 < (o.sy.length : Int)) ∧ (-2147483648 ≤ (o.re.getD i RE.z).2.2.2.2 ∧ (o.re.getD i RE.z).2.2.2.2 ≤ 2147483647) ∧
  (0 ≤ (o.re.getD i RE.z).2.1 ∧ (o.re.getD i RE.z).2.1 + wdI (o.re.getD i RE.z).2.2.1 ≤ secLen o (o.re.getD i RE.z).1) ∧
  (0 < i → (o.re.getD (i - 1) RE.z).1 ≤ (o.re.getD i RE.z).1 ∧ ((o.re.getD i RE.z).1 = (o.re.getD (i - 1) RE.z).1 → (o.re.getD (i - 1) RE.z).2.1 + wdI (o.re.getD (i - 1) RE.z).2.2.1 ≤ (o.re.getD i RE.z).2.1))
def relOk (o : OD) (i : Nat) : Bool := propB (relP o i)
def reInv (o : OD) : Prop := o.re.length ≤ 1000000 ∧ ∀ e ∈ o.se, e.2.2.2.1.length ≤ 140737488355328
theorem wdI_b (k : Int) : 1 ≤ wdI k ∧ wdI k ≤ 4 := by unfold wdI; split; omega; split <;> omega
theorem Tryz.eRe : EnvOk2 Tryz.prog Tryz.ERe := Tryz.envOk false (sumsOf Tryz.tRe) _ (sumsOf_ok (show AllS Tryz.prog Tryz.tRe from ⟨Tryz.sumWd, trivial⟩))
theorem Tryz.sRe (o : OD) (k : Nat) (ho : reInv o) (hk : k ≤ o.re.length) (hok : ∀ i, i < k → relOk o i = true) : Tryz.BRe (stOf 121 [1, 3] [.ptr 0 0 0, .val (.int .i64 k)] (hO o)) =
    bif decide (k < o.re.length) then (bif relOk o k then some (.normal, stOf 121 [1, 3] [.ptr 0 0 0, .val (.int .i64 ((k + 1 : Nat) : Int))] (hO o)) else some (.ret, stOf 121 [2] [.val (.bool false)] ⟨0, []⟩)) else some (.exit 0, stOf 121 [2] [.unk] ⟨0, []⟩) := by
  obtain ⟨h1, h2⟩ := ho
  rw [Tryz.rRe, declt_nat, inR_nat, wrapS k (by omega)]
  by_cases h : k < o.re.length
  rotate_left
  · rw [decide_eq_false h]; rfl
  rw [decide_eq_true h]
  simp only [cond_true]
  have hsl : ∀ i : Nat, i < o.se.length → (o.se.getD i SE.z).2.2.2.1.length ≤ 140737488355328 := fun i hi => h2 _ (getD_mem hi)
  have hprev : 0 < k → (0 ≤ (o.re.getD (k - 1) RE.z).2.1 ∧ (o.re.getD (k - 1) RE.z).2.1 ≤ 140737488355328) := by
    intro hk0
    have hp : relP o (k - 1) := propB_eq (hok (k - 1) (by omega))
    have w := wdI_b (o.re.getD (k - 1) RE.z).2.2.1
    have := hsl (o.re.getD (k - 1) RE.z).1.toNat (by have := hp.1; omega)
    have h5 := hp.2.2.2.2.1
    unfold secLen at h5
    omega
  have e1 : 0 < k → IntKind.i64.wrap ((k : Int) - 1) = ((k - 1 : Nat) : Int) := fun hk0 => by rw [wrap64 _ (by omega) (by omega)]; omega
  unfold relOk
  have hiff : relP o k = relP o k := rfl
  unfold relP secLen
  have w1 := wdI_b (o.re.getD k RE.z).2.2.1
  have w2 := wdI_b (o.re.getD (k - 1) RE.z).2.2.1
  generalize hr : o.re.getD k RE.z = r at w1 ⊢
  obtain ⟨sec, off, kind, sym, add⟩ := r
  simp only at w1 ⊢
  have hs2 := hsl sec.toNat
  generalize (some (AX.ret, stOf 121 [2] [.val (.bool false)] (⟨0, []⟩ : Heap)) : Option (AX × St)) = B
  have hA : (some (AX.normal, stOf 121 [1, 3] [.ptr 0 0 0, .val (.int .i64 ((k + 1 : Nat) : Int))] ⟨1, [⟨0, 0, .cells (.rows true 5 ([.ro (.tab 5 (o.se.length) (fun i => SE.row (o.se.getD i SE.z))) none, .ro (.tab 6 (o.sy.length) (fun i => SY.row (o.sy.getD i SY.z))) none, .ro (.tab 5 (o.re.length) (fun i => RE.row (o.re.getD i RE.z))) none, .ro (.tab 1 (o.fi.length) (fun i => FI.row (o.fi.getD i FI.z))) none, .ro (.tab 4 (o.li.length) (fun i => LI.row (o.li.getD i LI.z))) none] :: []))⟩]⟩) : Option (AX × St)) = some (.normal, stOf 121 [1, 3] [.ptr 0 0 0, .val (.int .i64 ((k + 1 : Nat) : Int))] (hO o)) := rfl
  rw [hA]
  generalize (some (AX.normal, stOf 121 [1, 3] [.ptr 0 0 0, .val (.int .i64 ((k + 1 : Nat) : Int))] (hO o)) : Option (AX × St)) = A
  rw [propB_ite]
  by_cases c1 : sec < 0
  · rw [decide_eq_true c1, cond_true, if_neg (fun q => by omega)]
  rw [decide_eq_false c1, cond_false]
  by_cases c2 : sec ≥ (o.se.length : Int)
  · rw [decide_eq_true c2, cond_true, if_neg (fun q => by omega)]
  rw [decide_eq_false c2, cond_false]
  by_cases c3 : kind < 1
  · rw [decide_eq_true c3, cond_true, if_neg (fun q => by omega)]
  rw [decide_eq_false c3, cond_false]
  by_cases c4 : kind > 5
  · rw [decide_eq_true c4, cond_true, if_neg (fun q => by omega)]
  rw [decide_eq_false c4, cond_false]
  by_cases c5 : sym < 0
  · rw [decide_eq_true c5, cond_true, if_neg (fun q => by omega)]
  rw [decide_eq_false c5, cond_false]
  by_cases c6 : sym ≥ (o.sy.length : Int)
  · rw [decide_eq_true c6, cond_true, if_neg (fun q => by omega)]
  rw [decide_eq_false c6, cond_false]
  by_cases c7 : add ≥ -2147483648
  rotate_left
  · rw [decide_eq_false c7, cond_false, if_neg (fun q => by omega)]
  rw [decide_eq_true c7, cond_true]
  by_cases c8 : add ≤ 2147483647
  rotate_left
  · rw [decide_eq_false c8, cond_false, if_neg (fun q => by omega)]
  rw [decide_eq_true c8, cond_true, inR_prop.2 ⟨by omega, by omega⟩, cond_true]
  have hs3 := hs2 (by omega)
  by_cases c9 : off < 0
  · rw [decide_eq_true c9, cond_true, if_neg (fun q => by have := q.2.2.2.2.1; omega)]
  rw [decide_eq_false c9, cond_false]
  by_cases c10 : off > ((o.se.getD sec.toNat SE.z).snd.snd.snd.fst.length : Int)
  · rw [decide_eq_true c10, cond_true, if_neg (fun q => by have := q.2.2.2.2.1; omega)]
  rw [decide_eq_false c10, cond_false, wrap64 (off + wdI kind) (by omega) (by omega)]
  by_cases c11 : off + wdI kind > ((o.se.getD sec.toNat SE.z).snd.snd.snd.fst.length : Int)
  · rw [decide_eq_true c11, cond_true, if_neg (fun q => by have := q.2.2.2.2.1; omega)]
  rw [decide_eq_false c11, cond_false]
  by_cases c12 : 0 < k
  rotate_left
  · rw [decide_eq_false (show ¬ (k : Int) > 0 by omega), cond_false, if_pos ⟨by omega, by omega, by omega, by omega, by omega, fun q => absurd q c12⟩]
  obtain ⟨p1, p2⟩ := hprev c12
  rw [decide_eq_true (show (k : Int) > 0 by omega), cond_true, e1 c12, inR_nat, decide_eq_true (show k - 1 < o.re.length by omega), cond_true, Int.toNat_natCast]
  generalize o.re.getD (k - 1) RE.z = pr at p1 p2 w2 ⊢
  obtain ⟨psec, poff, pkind, psym, padd⟩ := pr
  simp only at p1 p2 w2 ⊢
  by_cases d1 : sec < psec
  · rw [decide_eq_true d1, cond_true, if_neg (fun q => by have := (q.2.2.2.2.2 c12).1; omega)]
  rw [decide_eq_false d1, cond_false]
  by_cases d2 : sec = psec
  · rw [show (sec == psec) = true from beq_iff_eq.2 d2, cond_true, wrap64 (poff + wdI pkind) (by omega) (by omega)]
    by_cases d3 : off < poff + wdI pkind
    · rw [decide_eq_true d3, cond_true, if_neg (fun q => by have := (q.2.2.2.2.2 c12).2 d2; omega)]
    · rw [decide_eq_false d3, cond_false, if_pos ⟨by omega, by omega, by omega, by omega, by omega, fun _ => ⟨by omega, fun _ => by omega⟩⟩]
  · rw [show (sec == psec) = false from beq_eq_false_iff_ne.2 d2, cond_false, if_pos ⟨by omega, by omega, by omega, by omega, by omega, fun _ => ⟨by omega, fun q => absurd q d2⟩⟩]
def fRe (vs : List AV) (h : Heap) : Ans (AX × List AV × Heap) := match vs, h with
  | [.ptr 0 0 0, .val (.int .i64 (.ofNat 0))], ⟨1, [⟨0, 0, .cells (.rows true 5 [r])⟩]⟩ =>
    .grd (odIs (.agg r) && propB (reInv (odP (.agg r)))) (.br (allOk (odP (.agg r)).re.length (relOk (odP (.agg r)))) (.out (.exit 0, [.unk], ⟨0, []⟩)) (.out (.ret, [.val (.bool false)], ⟨0, []⟩)))
  | _, _ => .no
def LRe : LSum := toLSum 121 [1, 3] [2] fRe
def relsB (o : OD) : Bool := decide (o.re.length ≤ 2000) && allOk o.re.length (relOk o)
def relsS (args : List AV) : Ans (AV × Heap) := match args with
  | [o] => .grd (odIs o && propB (reInv (odP o))) (.out (.val (.bool (relsB (odP o))), ⟨0, []⟩))
  | _ => .no
theorem Tryz.lRe : ∀ s e s', s.h.ok → (LRe s).run = some (e, s') → Triple Tryz.prog (.loop Tryz.bRe) s e s' := by
  refine scan_law Tryz.eRe (d := 4) (g := 79) (ls := lsumsOf []) (c := Tryz.bRe) trivial 121 [1, 3] [2] (T := OD) (fun o k => [.ptr 0 0 0, .val (.int .i64 k)]) hO (fun o => o.re.length) relOk reInv
    (fun _ => (.exit 0, [.unk], ⟨0, []⟩)) (fun _ => (.ret, [.val (.bool false)], ⟨0, []⟩)) fRe ?_ (fun o _ => hO_ok o) (fun _ _ => ⟨by simp, by simp⟩) (fun _ _ => ⟨heap0_ok, heap0_ok⟩) (fun o k ho hk hok => Tryz.sRe o k ho hk hok)
  intro vs h e vo h' hok hf
  unfold fRe at hf
  split at hf
  · rename_i r
    rw [Ans.run_grd] at hf
    cases hb : (odIs (.agg r) && propB (reInv (odP (.agg r)))) with
    | false => rw [hb] at hf; cases hf
    | true =>
      rw [hb, cond_true, Ans.run_br] at hf
      rw [Bool.and_eq_true] at hb
      refine ⟨odP (.agg r), propB_eq hb.2, Weak.oneH rfl (od_con hb.1), ?_⟩
      cases hq : allOk (odP (.agg r)).re.length (relOk (odP (.agg r))) with
      | true => rw [hq] at hf; injection hf
      | false => rw [hq] at hf; injection hf
  · cases hf
theorem Tryz.wRe (o : OD) : rootS Tryz.ERe 4 79 (lsumsOf [(4, LRe)]) [o.av] =
 bif decide ((↑o.re.length : Int) > 2000) then
 some (.val (.bool false), ⟨0, []⟩)
 else
 bif odIs (AV.agg (AV.agg o.row).cells) && propB (reInv (odP (AV.agg (AV.agg o.row).cells))) then
 bif allOk (odP (AV.agg (AV.agg o.row).cells)).re.length (relOk (odP (AV.agg (AV.agg o.row).cells))) then
 some (.val (.bool true), ⟨0, []⟩)
 else
 some (.val (.bool false), ⟨0, []⟩)
 else
 none := by kernel_rfl
theorem Tryz.sumRe : SumC Tryz.prog 79 (pureA relsS) := by
  refine pureSumR 79 ⟨Tryz.f79, _, Tryz.fnOk79.1, Tryz.fnOk79.2, rfl⟩ ?_
  intro args v h2 hs
  unfold relsS at hs
  split at hs
  · rename_i ov
    rw [Ans.run_grd] at hs
    cases hb : (odIs ov && propB (reInv (odP ov))) with
    | false => rw [hb] at hs; cases hs
    | true =>
    rw [hb, cond_true] at hs
    rw [Bool.and_eq_true] at hb
    injection hs with hs
    injection hs with q1 q2
    subst q1; subst q2
    refine Alone.argsW (AWs.args (.cons (od_aw hb.1) .nil)) ?_
    have hi := propB_eq hb.2
    generalize odP ov = o at hi ⊢
    refine rootS_alone Tryz.eRe (d := 4) (g := 79) (ls := lsumsOf [(4, LRe)]) (AllL.of1 (a := Tryz.bRe) (by kernel_rfl) (LsOk.of rfl rfl Tryz.lRe)) ((Tryz.wRe o).trans ?_)
    rw [show AV.agg (AV.agg o.row).cells = .agg o.row from rfl, odP_row, odIs_row, propB_t hi]
    unfold relsB
    by_cases h1 : o.re.length ≤ 2000
    · rw [decide_eq_false (show ¬ (o.re.length : Int) > 2000 by omega), decide_eq_true h1]
      cases allOk o.re.length (relOk o) <;> rfl
    · rw [decide_eq_true (show (o.re.length : Int) > 2000 by omega), decide_eq_false h1]; rfl
  · cases hs
end Go.Ev
/- Line tables, as the specification checks them. -/
namespace Go.Ev
open Go.Proofs
def Tryz.ETa : Env := Tryz.env0 false (sumsOf []) (keepF 81 [(4, [0, 3])])
def Tryz.bTa : Code := nthD .skip (loopsOf (bodyOf Tryz.ETa 81)) 0
def Tryz.BTa (s : St) : Option (AX × St) := codeS Tryz.ETa (callF Tryz.ETa 4) (Tryz.ETa.keep 81) (lsumsOf []) Tryz.bTa (outK [0, 3] [2]) s
def entP (x : LinD) : Prop := (0 ≤ x.1 ∧ x.1 ≤ 15) ∧ (0 ≤ x.2.1 ∧ x.2.1 ≤ 65535) ∧ (0 ≤ x.2.2.1 ∧ x.2.2.1 ≤ 19) ∧ (0 ≤ x.2.2.2 ∧ x.2.2.2 ≤ 1048576)
def linP (L : List LinD) (i : Nat) : Prop := entP (L.getD i LI.z) ∧ ((L.getD i LI.z).2.2.2 = 0 → (L.getD i LI.z).2.2.1 = 0) ∧
  (0 < i → (L.getD (i - 1) LI.z).1 ≤ (L.getD i LI.z).1 ∧ ((L.getD i LI.z).1 = (L.getD (i - 1) LI.z).1 → (L.getD (i - 1) LI.z).2.1 < (L.getD i LI.z).2.1))
def linOk (L : List LinD) (i : Nat) : Bool := propB (linP L i)
def tabB (L : List LinD) : Bool := decide (L.length ≤ 4000) && allOk L.length (linOk L)
def fTa (vs : List AV) (h : Heap) : Ans (AX × List AV × Heap) := match vs, h with
  | [.ro c _, .val (.int .i64 (.ofNat 0))], ⟨0, []⟩ =>
    .grd (LI.ok c && Nat.ble c.len 1000000) (.br (allOk (LI.list c).length (linOk (LI.list c))) (.out (.exit 0, [.unk], ⟨0, []⟩)) (.out (.ret, [.val (.bool false)], ⟨0, []⟩)))
  | _, _ => .no
def LTa : LSum := toLSum 93 [0, 3] [2] fTa
def tabS (args : List AV) : Ans (AV × Heap) := match args with
  | [.ro c cap] => .grd (LI.ok c && Nat.ble c.len 1000000) (.out (.val (.bool (tabB (LI.list c))), ⟨0, []⟩))
  | _ => .no
theorem Tryz.rTa (L : List LinD) (i : Nat) : Tryz.BTa (stOf 93 [0, 3] [.ro (LI.con L) none, .val (.int .i64 i)] ⟨0, []⟩) =
 bif decide ((↑i : Int) < (↑L.length : Int)) then
 bif inR (↑i : Int) L.length then
 bif decide ((L.getD i LI.z).fst < 0) then
 some (.ret, stOf 93 [2] [.val (.bool false)] ⟨0, []⟩)
 else
 bif decide ((L.getD i LI.z).fst > 15) then
 some (.ret, stOf 93 [2] [.val (.bool false)] ⟨0, []⟩)
 else
 bif decide ((L.getD i LI.z).snd.fst < 0) then
 some (.ret, stOf 93 [2] [.val (.bool false)] ⟨0, []⟩)
 else
 bif decide ((L.getD i LI.z).snd.fst > 65535) then
 some (.ret, stOf 93 [2] [.val (.bool false)] ⟨0, []⟩)
 else
 bif decide ((L.getD i LI.z).snd.snd.fst < 0) then
 some (.ret, stOf 93 [2] [.val (.bool false)] ⟨0, []⟩)
 else
 bif decide ((L.getD i LI.z).snd.snd.fst > 19) then
 some (.ret, stOf 93 [2] [.val (.bool false)] ⟨0, []⟩)
 else
 bif decide ((L.getD i LI.z).snd.snd.snd < 0) then
 some (.ret, stOf 93 [2] [.val (.bool false)] ⟨0, []⟩)
 else
 bif decide ((L.getD i LI.z).snd.snd.snd > 1048576) then
 some (.ret, stOf 93 [2] [.val (.bool false)] ⟨0, []⟩)
 else
 bif (L.getD i LI.z).snd.snd.snd == 0 then
 bif (L.getD i LI.z).snd.snd.fst != 0 then
 some (.ret, stOf 93 [2] [.val (.bool false)] ⟨0, []⟩)
 else
 bif decide ((↑i : Int) > 0) then
 bif inR (IntKind.i64.wrap ((↑i : Int) - 1)) L.length then
 bif decide ((L.getD i LI.z).fst < (L.getD (IntKind.i64.wrap ((↑i : Int) - 1)).toNat LI.z).fst) then
 some (.ret, stOf 93 [2] [.val (.bool false)] ⟨0, []⟩)
 else
 bif (L.getD i LI.z).fst == (L.getD (IntKind.i64.wrap ((↑i : Int) - 1)).toNat LI.z).fst then
 bif decide ((L.getD i LI.z).snd.fst ≤ (L.getD (IntKind.i64.wrap ((↑i : Int) - 1)).toNat LI.z).snd.fst) then
 some (.ret, stOf 93 [2] [.val (.bool false)] ⟨0, []⟩)
 else
 some (.normal, stOf 93 [0, 3] [.ro (.tab 4 (L.length) (fun i => LI.row (L.getD i LI.z))) none, .val (.int .i64 (IntKind.i64.wrap ((↑i : Int) + 1)))] ⟨0, []⟩)
 else
 some (.normal, stOf 93 [0, 3] [.ro (.tab 4 (L.length) (fun i => LI.row (L.getD i LI.z))) none, .val (.int .i64 (IntKind.i64.wrap ((↑i : Int) + 1)))] ⟨0, []⟩)
 else
 none
 else
 some (.normal, stOf 93 [0, 3] [.ro (.tab 4 (L.length) (fun i => LI.row (L.getD i LI.z))) none, .val (.int .i64 (IntKind.i64.wrap ((↑i : Int) + 1)))] ⟨0, []⟩)
 else
 bif decide ((↑i : Int) > 0) then
 bif inR (IntKind.i64.wrap ((↑i : Int) - 1)) L.length then
 bif decide ((L.getD i LI.z).fst < (L.getD (IntKind.i64.wrap ((↑i : Int) - 1)).toNat LI.z).fst) then
 some (.ret, stOf 93 [2] [.val (.bool false)] ⟨0, []⟩)
 else
 bif (L.getD i LI.z).fst == (L.getD (IntKind.i64.wrap ((↑i : Int) - 1)).toNat LI.z).fst then
 bif decide ((L.getD i LI.z).snd.fst ≤ (L.getD (IntKind.i64.wrap ((↑i : Int) - 1)).toNat LI.z).snd.fst) then
 some (.ret, stOf 93 [2] [.val (.bool false)] ⟨0, []⟩)
 else
 some (.normal, stOf 93 [0, 3] [.ro (.tab 4 (L.length) (fun i => LI.row (L.getD i LI.z))) none, .val (.int .i64 (IntKind.i64.wrap ((↑i : Int) + 1)))] ⟨0, []⟩)
 else
 some (.normal, stOf 93 [0, 3] [.ro (.tab 4 (L.length) (fun i => LI.row (L.getD i LI.z))) none, .val (.int .i64 (IntKind.i64.wrap ((↑i : Int) + 1)))] ⟨0, []⟩)
 else
 none
 else
 some (.normal, stOf 93 [0, 3] [.ro (.tab 4 (L.length) (fun i => LI.row (L.getD i LI.z))) none, .val (.int .i64 (IntKind.i64.wrap ((↑i : Int) + 1)))] ⟨0, []⟩)
 else
 none
 else
 some (.exit 0, stOf 93 [] [] ⟨0, []⟩) := by kernel_rfl
theorem Tryz.wTa (L : List LinD) : rootS Tryz.ETa 4 81 (lsumsOf [(4, LTa)]) [.ro (LI.con L) none] =
 bif decide ((↑L.length : Int) > 4000) then
 some (.val (.bool false), ⟨0, []⟩)
 else
 bif LI.ok (LI.con L) && L.length.ble 1000000 then
 bif allOk (LI.list (LI.con L)).length (linOk (LI.list (LI.con L))) then
 some (.val (.bool true), ⟨0, []⟩)
 else
 some (.val (.bool false), ⟨0, []⟩)
 else
 none := by kernel_rfl
theorem Tryz.eTa : EnvOk2 Tryz.prog Tryz.ETa := Tryz.envOk false (sumsOf []) _ (fun g A h => by cases h)
theorem Tryz.sTa (L : List LinD) (k : Nat) (hL : L.length ≤ 1000000) (hk : k ≤ L.length) : Tryz.BTa (stOf 93 [0, 3] [.ro (LI.con L) none, .val (.int .i64 k)] ⟨0, []⟩) =
    bif decide (k < L.length) then (bif linOk L k then some (.normal, stOf 93 [0, 3] [.ro (LI.con L) none, .val (.int .i64 ((k + 1 : Nat) : Int))] ⟨0, []⟩) else some (.ret, stOf 93 [2] [.val (.bool false)] ⟨0, []⟩)) else some (.exit 0, stOf 93 [2] [.unk] ⟨0, []⟩) := by
  rw [Tryz.rTa, declt_nat, inR_nat, wrapS k (by omega)]
  by_cases h : k < L.length
  rotate_left
  · rw [decide_eq_false h]; rfl
  rw [decide_eq_true h]
  simp only [cond_true]
  have e1 : 0 < k → IntKind.i64.wrap ((k : Int) - 1) = ((k - 1 : Nat) : Int) := fun hk0 => by rw [wrap64 _ (by omega) (by omega)]; omega
  unfold linOk linP entP
  generalize L.getD k LI.z = x
  obtain ⟨sec, off, file, line⟩ := x
  simp only
  have hA : (some (AX.normal, stOf 93 [0, 3] [.ro (.tab 4 (L.length) (fun i => LI.row (L.getD i LI.z))) none, .val (.int .i64 ((k + 1 : Nat) : Int))] ⟨0, []⟩) : Option (AX × St)) = some (.normal, stOf 93 [0, 3] [.ro (LI.con L) none, .val (.int .i64 ((k + 1 : Nat) : Int))] ⟨0, []⟩) := rfl
  rw [hA]
  generalize (some (AX.normal, stOf 93 [0, 3] [.ro (LI.con L) none, .val (.int .i64 ((k + 1 : Nat) : Int))] ⟨0, []⟩) : Option (AX × St)) = A
  generalize (some (AX.ret, stOf 93 [2] [.val (.bool false)] (⟨0, []⟩ : Heap)) : Option (AX × St)) = B
  rw [propB_ite]
  by_cases c1 : sec < 0
  · rw [decide_eq_true c1, cond_true, if_neg (fun q => by have := q.1; omega)]
  rw [decide_eq_false c1, cond_false]
  by_cases c2 : sec > 15
  · rw [decide_eq_true c2, cond_true, if_neg (fun q => by have := q.1; omega)]
  rw [decide_eq_false c2, cond_false]
  by_cases c3 : off < 0
  · rw [decide_eq_true c3, cond_true, if_neg (fun q => by have := q.1; omega)]
  rw [decide_eq_false c3, cond_false]
  by_cases c4 : off > 65535
  · rw [decide_eq_true c4, cond_true, if_neg (fun q => by have := q.1; omega)]
  rw [decide_eq_false c4, cond_false]
  by_cases c5 : file < 0
  · rw [decide_eq_true c5, cond_true, if_neg (fun q => by have := q.1; omega)]
  rw [decide_eq_false c5, cond_false]
  by_cases c6 : file > 19
  · rw [decide_eq_true c6, cond_true, if_neg (fun q => by have := q.1; omega)]
  rw [decide_eq_false c6, cond_false]
  by_cases c7 : line < 0
  · rw [decide_eq_true c7, cond_true, if_neg (fun q => by have := q.1; omega)]
  rw [decide_eq_false c7, cond_false]
  by_cases c8 : line > 1048576
  · rw [decide_eq_true c8, cond_true, if_neg (fun q => by have := q.1; omega)]
  rw [decide_eq_false c8, cond_false]
  have rest : (line = 0 → file = 0) → (bif decide ((k : Int) > 0) then
      bif inR (IntKind.i64.wrap ((k : Int) - 1)) L.length then
      bif decide (sec < (L.getD (IntKind.i64.wrap ((k : Int) - 1)).toNat LI.z).fst) then B
      else bif sec == (L.getD (IntKind.i64.wrap ((k : Int) - 1)).toNat LI.z).fst then
      bif decide (off ≤ (L.getD (IntKind.i64.wrap ((k : Int) - 1)).toNat LI.z).snd.fst) then B else A
      else A else none else A) =
      @ite _ (((0 ≤ sec ∧ sec ≤ 15) ∧ (0 ≤ off ∧ off ≤ 65535) ∧ (0 ≤ file ∧ file ≤ 19) ∧ 0 ≤ line ∧ line ≤ 1048576) ∧ (line = 0 → file = 0) ∧ (0 < k → (L.getD (k - 1) LI.z).fst ≤ sec ∧ (sec = (L.getD (k - 1) LI.z).fst → (L.getD (k - 1) LI.z).snd.fst < off))) (Classical.propDecidable _) A B := by
    intro hlf
    by_cases c12 : 0 < k
    rotate_left
    · rw [decide_eq_false (show ¬ (k : Int) > 0 by omega), cond_false, if_pos ⟨by omega, hlf, fun q => absurd q c12⟩]
    rw [decide_eq_true (show (k : Int) > 0 by omega), cond_true, e1 c12, inR_nat, decide_eq_true (show k - 1 < L.length by omega), cond_true, Int.toNat_natCast]
    generalize L.getD (k - 1) LI.z = pr
    obtain ⟨psec, poff, pfile, pline⟩ := pr
    simp only
    by_cases d1 : sec < psec
    · rw [decide_eq_true d1, cond_true, if_neg (fun q => by have := (q.2.2 c12).1; omega)]
    rw [decide_eq_false d1, cond_false]
    by_cases d2 : sec = psec
    · rw [show (sec == psec) = true from beq_iff_eq.2 d2, cond_true]
      by_cases d3 : off ≤ poff
      · rw [decide_eq_true d3, cond_true, if_neg (fun q => by have := (q.2.2 c12).2 d2; omega)]
      · rw [decide_eq_false d3, cond_false, if_pos ⟨by omega, hlf, fun _ => ⟨by omega, fun _ => by omega⟩⟩]
    · rw [show (sec == psec) = false from beq_eq_false_iff_ne.2 d2, cond_false, if_pos ⟨by omega, hlf, fun _ => ⟨by omega, fun q => absurd q d2⟩⟩]
  by_cases c9 : line = 0
  · rw [show (line == 0) = true from beq_iff_eq.2 c9, cond_true]
    by_cases c10 : file = 0
    · rw [show (file != 0) = false by rw [c10]; rfl, cond_false]
      exact rest (fun _ => c10)
    · rw [show (file != 0) = true from bne_iff_ne.2 c10, cond_true, if_neg (fun q => c10 (q.2.1 c9))]
  · rw [show (line == 0) = false from beq_eq_false_iff_ne.2 c9, cond_false]
    exact rest (fun q => absurd q c9)
theorem Tryz.lTa : ∀ s e s', s.h.ok → (LTa s).run = some (e, s') → Triple Tryz.prog (.loop Tryz.bTa) s e s' := by
  refine scan_law Tryz.eTa (d := 4) (g := 81) (ls := lsumsOf []) (c := Tryz.bTa) trivial 93 [0, 3] [2] (T := List LinD) (fun L k => [.ro (LI.con L) none, .val (.int .i64 k)]) (fun _ => ⟨0, []⟩) (fun L => L.length) linOk (fun L => L.length ≤ 1000000)
    (fun _ => (.exit 0, [.unk], ⟨0, []⟩)) (fun _ => (.ret, [.val (.bool false)], ⟨0, []⟩)) fTa ?_ (fun _ _ => heap0_ok) (fun _ _ => ⟨by simp, by simp⟩) (fun _ _ => ⟨heap0_ok, heap0_ok⟩) (fun L k hL hk _ => Tryz.sTa L k hL hk)
  intro vs h e vo h' hok hf
  unfold fTa at hf
  split at hf
  · rename_i c cap
    rw [Ans.run_grd] at hf
    cases hb : (LI.ok c && Nat.ble c.len 1000000) with
    | false => rw [hb] at hf; cases hf
    | true =>
      rw [hb, cond_true, Ans.run_br] at hf
      simp only [Bool.and_eq_true, Nat.ble_eq] at hb
      refine ⟨LI.list c, by rw [LI.list_len]; exact hb.2, Weak.slots heap0_ok (.cons (LI.aw hb.1 cap) (AWs.refl _)), ?_⟩
      cases hq : allOk (LI.list c).length (linOk (LI.list c)) with
      | true => rw [hq] at hf; injection hf
      | false => rw [hq] at hf; injection hf
  · cases hf
theorem Tryz.sumTa : SumC Tryz.prog 81 (pureA (fun args => tabS (nzs [LI.con []] args))) := by
  refine pureSumR 81 ⟨Tryz.f81, _, Tryz.fnOk81.1, Tryz.fnOk81.2, rfl⟩ ?_
  intro args v h2 hs
  refine Alone.nz (cs := [LI.con []]) (by simp [Con.len, RowTy.con]) ?_
  replace hs : (tabS (nzs [LI.con []] args)).run = some (v, h2) := hs
  generalize nzs [LI.con []] args = args' at hs ⊢
  unfold tabS at hs
  split at hs
  · rename_i c cap
    rw [Ans.run_grd] at hs
    cases hb : (LI.ok c && Nat.ble c.len 1000000) with
    | false => rw [hb] at hs; cases hs
    | true =>
    rw [hb, cond_true] at hs
    simp only [Bool.and_eq_true, Nat.ble_eq] at hb
    injection hs with hs
    injection hs with q1 q2
    subst q1; subst q2
    refine Alone.argsW (AWs.args (.cons (LI.aw hb.1 cap) .nil)) ?_
    have hi : (LI.list c).length ≤ 1000000 := by rw [LI.list_len]; exact hb.2
    generalize LI.list c = L at hi ⊢
    refine rootS_alone Tryz.eTa (d := 4) (g := 81) (ls := lsumsOf [(4, LTa)]) (AllL.of1 (a := Tryz.bTa) (by kernel_rfl) (LsOk.of rfl rfl Tryz.lTa)) ((Tryz.wTa L).trans ?_)
    unfold tabB
    rw [show LI.list (LI.con L) = L from LI.list_con L, LI.ok_con, ble_t hi]
    by_cases h1 : L.length ≤ 4000
    · rw [decide_eq_false (show ¬ (L.length : Int) > 4000 by omega), decide_eq_true h1]
      cases allOk L.length (linOk L) <;> rfl
    · rw [decide_eq_true (show (L.length : Int) > 4000 by omega), decide_eq_false h1]; rfl
  · cases hs
end Go.Ev
/- Valid objects, as the specification checks them. -/
namespace Go.Ev
open Go.Proofs
def Tryz.tIs : List (Nat × AFun) := [(77, pureA (fun args => secsS (nzs [SE.con []] args))), (78, pureA symsS), (79, pureA relsS), (80, pureA (fun args => filsS (nzs [FI.con []] args))), (81, pureA (fun args => tabS (nzs [LI.con []] args)))]
def Tryz.EIs : Env := Tryz.env0 false (sumsOf Tryz.tIs) (keepF 22 [(4, [1, 3])])
def Tryz.bIs : Code := nthD .skip (loopsOf (bodyOf Tryz.EIs 22)) 0
def Tryz.BIs (s : St) : Option (AX × St) := codeS Tryz.EIs (callF Tryz.EIs 4) (Tryz.EIs.keep 22) (lsumsOf []) Tryz.bIs (outK [1, 3] [2]) s
def covP (o : OD) (i : Nat) : Prop := (o.li.getD i LI.z).1 < (o.se.length : Int) ∧ (o.li.getD i LI.z).2.1 < lenS (o.se.getD (o.li.getD i LI.z).1.toNat SE.z) ∧ (0 < (o.li.getD i LI.z).2.2.2 → (o.li.getD i LI.z).2.2.1 < (o.fi.length : Int))
def covOk (o : OD) (i : Nat) : Bool := propB (covP o i)
def lisInv (o : OD) : Prop := seBound o.se ∧ tabB o.li = true
def fIs (vs : List AV) (h : Heap) : Ans (AX × List AV × Heap) := match vs, h with
  | [.ptr 0 0 0, .val (.int .i64 (.ofNat 0))], ⟨1, [⟨0, 0, .cells (.rows true 5 [r])⟩]⟩ =>
    .grd (odIs (.agg r) && propB (lisInv (odP (.agg r)))) (.br (allOk (odP (.agg r)).li.length (covOk (odP (.agg r)))) (.out (.exit 0, [.unk], ⟨0, []⟩)) (.out (.ret, [.val (.bool false)], ⟨0, []⟩)))
  | _, _ => .no
def LIs : LSum := toLSum 74 [1, 3] [2] fIs
def objB (o : OD) : Bool := secsB o.se && (symsB o && (relsB o && (filsB o.fi && (tabB o.li && allOk o.li.length (covOk o)))))
def odInv (o : OD) : Prop := seInv o.se ∧ (o.sy.length ≤ 1000000 ∧ ∀ s ∈ o.sy, syBound s) ∧ o.re.length ≤ 1000000 ∧ filInv o.fi ∧ o.li.length ≤ 1000000
def isS (args : List AV) : Ans (AV × Heap) := match args with
  | [o] => .grd (odIs o && propB (odInv (odP o))) (.out (.val (.bool (objB (odP o))), ⟨0, []⟩))
  | _ => .no
theorem Tryz.rIs (o : OD) (i : Nat) : Tryz.BIs (stOf 74 [1, 3] [.ptr 0 0 0, .val (.int .i64 i)] (hO o)) =
 bif decide ((↑i : Int) < (↑o.li.length : Int)) then
 bif inR (↑i : Int) o.li.length then
 bif decide ((o.li.getD i LI.z).fst ≥ (↑o.se.length : Int)) then
 some (.ret, stOf 74 [2] [.val (.bool false)] ⟨0, []⟩)
 else
 bif inR (o.li.getD i LI.z).fst o.se.length then
 bif decide ((o.li.getD i LI.z).snd.fst ≥ IntKind.i64.wrap ((↑(o.se.getD (o.li.getD i LI.z).fst.toNat SE.z).snd.snd.snd.fst.length : Int) + (o.se.getD (o.li.getD i LI.z).fst.toNat SE.z).snd.snd.snd.snd)) then
 some (.ret, stOf 74 [2] [.val (.bool false)] ⟨0, []⟩)
 else
 bif decide ((o.li.getD i LI.z).snd.snd.snd > 0) then
 bif decide ((o.li.getD i LI.z).snd.snd.fst ≥ (↑o.fi.length : Int)) then
 some (.ret, stOf 74 [2] [.val (.bool false)] ⟨0, []⟩)
 else
 some (.normal, stOf 74 [1, 3] [.ptr 0 0 0, .val (.int .i64 (IntKind.i64.wrap ((↑i : Int) + 1)))] ⟨1, [⟨0, 0, .cells (.rows true 5 ([.ro (.tab 5 (o.se.length) (fun i => SE.row (o.se.getD i SE.z))) none, .ro (.tab 6 (o.sy.length) (fun i => SY.row (o.sy.getD i SY.z))) none, .ro (.tab 5 (o.re.length) (fun i => RE.row (o.re.getD i RE.z))) none, .ro (.tab 1 (o.fi.length) (fun i => FI.row (o.fi.getD i FI.z))) none, .ro (.tab 4 (o.li.length) (fun i => LI.row (o.li.getD i LI.z))) none] :: []))⟩]⟩ )
 else
 some (.normal, stOf 74 [1, 3] [.ptr 0 0 0, .val (.int .i64 (IntKind.i64.wrap ((↑i : Int) + 1)))] ⟨1, [⟨0, 0, .cells (.rows true 5 ([.ro (.tab 5 (o.se.length) (fun i => SE.row (o.se.getD i SE.z))) none, .ro (.tab 6 (o.sy.length) (fun i => SY.row (o.sy.getD i SY.z))) none, .ro (.tab 5 (o.re.length) (fun i => RE.row (o.re.getD i RE.z))) none, .ro (.tab 1 (o.fi.length) (fun i => FI.row (o.fi.getD i FI.z))) none, .ro (.tab 4 (o.li.length) (fun i => LI.row (o.li.getD i LI.z))) none] :: []))⟩]⟩ )
 else
 none
 else
 none
 else
 some (.exit 0, stOf 74 [] [] ⟨0, []⟩) := by kernel_rfl
theorem Tryz.wIs (o : OD) : rootS Tryz.EIs 4 22 (lsumsOf [(4, LIs)]) [o.av] =
 bif SE.ok (SE.con o.se) && propB (seInv (SE.list (SE.con o.se))) then
 bif secsB (SE.list (SE.con o.se)) then
 bif odIs (AV.agg [AV.ro (SE.con o.se) none, AV.ro (SY.con o.sy) none, AV.ro (RE.con o.re) none, AV.ro (FI.con o.fi) none, AV.ro (LI.con o.li) none]) && propB (syInv (odP (AV.agg [AV.ro (SE.con o.se) none, AV.ro (SY.con o.sy) none, AV.ro (RE.con o.re) none, AV.ro (FI.con o.fi) none, AV.ro (LI.con o.li) none]))) then
 bif symsB (odP (AV.agg [AV.ro (SE.con o.se) none, AV.ro (SY.con o.sy) none, AV.ro (RE.con o.re) none, AV.ro (FI.con o.fi) none, AV.ro (LI.con o.li) none])) then
 bif odIs (AV.agg [AV.ro (SE.con o.se) none, AV.ro (SY.con o.sy) none, AV.ro (RE.con o.re) none, AV.ro (FI.con o.fi) none, AV.ro (LI.con o.li) none]) && propB (reInv (odP (AV.agg [AV.ro (SE.con o.se) none, AV.ro (SY.con o.sy) none, AV.ro (RE.con o.re) none, AV.ro (FI.con o.fi) none, AV.ro (LI.con o.li) none]))) then
 bif relsB (odP (AV.agg [AV.ro (SE.con o.se) none, AV.ro (SY.con o.sy) none, AV.ro (RE.con o.re) none, AV.ro (FI.con o.fi) none, AV.ro (LI.con o.li) none])) then
 bif FI.ok (FI.con o.fi) && propB (filInv (FI.list (FI.con o.fi))) then
 bif filsB (FI.list (FI.con o.fi)) then
 bif LI.ok (LI.con o.li) && o.li.length.ble 1000000 then
 bif tabB (LI.list (LI.con o.li)) then
 bif odIs (AV.agg (AV.agg o.row).cells) && propB (lisInv (odP (AV.agg (AV.agg o.row).cells))) then
 bif allOk (odP (AV.agg (AV.agg o.row).cells)).li.length (covOk (odP (AV.agg (AV.agg o.row).cells))) then
 some (.val (.bool true), ⟨0, []⟩)
 else
 some (.val (.bool false), ⟨0, []⟩)
 else
 none
 else
 some (.val (.bool false), ⟨0, []⟩)
 else
 none
 else
 some (.val (.bool false), ⟨0, []⟩)
 else
 none
 else
 some (.val (.bool false), ⟨0, []⟩)
 else
 none
 else
 some (.val (.bool false), ⟨0, []⟩)
 else
 none
 else
 some (.val (.bool false), ⟨0, []⟩)
 else
 none := by kernel_rfl
theorem Tryz.eIs : EnvOk2 Tryz.prog Tryz.EIs := Tryz.envOk false (sumsOf Tryz.tIs) _ (sumsOf_ok (show AllS Tryz.prog Tryz.tIs from ⟨Tryz.sumSe, Tryz.sumSy, Tryz.sumRe, Tryz.sumFi, Tryz.sumTa, trivial⟩))
theorem secs_bound {L : List SecD} (h : seInv L) (hb : secsB L = true) : seBound L := by
  unfold secsB at hb
  simp only [Bool.and_eq_true, decide_eq_true_eq] at hb
  refine ⟨Nat.le_trans h.1 (by omega), fun e he => ?_⟩
  obtain ⟨i, hi, rfl⟩ := List.getElem_of_mem he
  have := allOk_iff.1 hb.2.1 i hi
  unfold secOk at this
  rw [Bool.and_eq_true] at this
  have e1 : L.getD i SE.z = L[i] := by rw [List.getD_eq_getElem?_getD, List.getElem?_eq_getElem hi]; rfl
  rw [e1] at this
  have := lenS_b this.1 (h.2 _ he)
  omega
theorem tab_ent {L : List LinD} (h : tabB L = true) {i : Nat} (hi : i < L.length) : entP (L.getD i LI.z) := by
  unfold tabB at h
  simp only [Bool.and_eq_true, decide_eq_true_eq] at h
  exact (propB_eq (allOk_iff.1 h.2 i hi)).1
theorem Tryz.sIs (o : OD) (k : Nat) (ho : lisInv o) (hk : k ≤ o.li.length) : Tryz.BIs (stOf 74 [1, 3] [.ptr 0 0 0, .val (.int .i64 k)] (hO o)) =
    bif decide (k < o.li.length) then (bif covOk o k then some (.normal, stOf 74 [1, 3] [.ptr 0 0 0, .val (.int .i64 ((k + 1 : Nat) : Int))] (hO o)) else some (.ret, stOf 74 [2] [.val (.bool false)] ⟨0, []⟩)) else some (.exit 0, stOf 74 [2] [.unk] ⟨0, []⟩) := by
  obtain ⟨⟨h1, h2⟩, h3⟩ := ho
  have hl : o.li.length ≤ 4000 := by
    unfold tabB at h3
    simp only [Bool.and_eq_true, decide_eq_true_eq] at h3
    exact h3.1
  rw [Tryz.rIs, declt_nat, inR_nat, wrapS k (by omega)]
  by_cases h : k < o.li.length
  rotate_left
  · rw [decide_eq_false h]; rfl
  rw [decide_eq_true h]
  simp only [cond_true]
  have he := tab_ent h3 h
  unfold covOk covP
  unfold entP at he
  generalize o.li.getD k LI.z = x at he ⊢
  obtain ⟨sec, off, file, line⟩ := x
  simp only at he ⊢
  have hA : (some (AX.normal, stOf 74 [1, 3] [.ptr 0 0 0, .val (.int .i64 ((k + 1 : Nat) : Int))] ⟨1, [⟨0, 0, .cells (.rows true 5 ([.ro (.tab 5 (o.se.length) (fun i => SE.row (o.se.getD i SE.z))) none, .ro (.tab 6 (o.sy.length) (fun i => SY.row (o.sy.getD i SY.z))) none, .ro (.tab 5 (o.re.length) (fun i => RE.row (o.re.getD i RE.z))) none, .ro (.tab 1 (o.fi.length) (fun i => FI.row (o.fi.getD i FI.z))) none, .ro (.tab 4 (o.li.length) (fun i => LI.row (o.li.getD i LI.z))) none] :: []))⟩]⟩) : Option (AX × St)) = some (.normal, stOf 74 [1, 3] [.ptr 0 0 0, .val (.int .i64 ((k + 1 : Nat) : Int))] (hO o)) := rfl
  rw [hA]
  generalize (some (AX.normal, stOf 74 [1, 3] [.ptr 0 0 0, .val (.int .i64 ((k + 1 : Nat) : Int))] (hO o)) : Option (AX × St)) = A
  generalize (some (AX.ret, stOf 74 [2] [.val (.bool false)] (⟨0, []⟩ : Heap)) : Option (AX × St)) = B
  rw [propB_ite]
  by_cases c1 : sec ≥ (o.se.length : Int)
  · rw [decide_eq_true c1, cond_true, if_neg (fun q => by omega)]
  rw [decide_eq_false c1, cond_false, inR_prop.2 ⟨by omega, by omega⟩, cond_true]
  have hb := h2 _ (getD_mem (d := SE.z) (show sec.toNat < o.se.length by omega))
  have hw : IntKind.i64.wrap (((o.se.getD sec.toNat SE.z).snd.snd.snd.fst.length : Int) + (o.se.getD sec.toNat SE.z).snd.snd.snd.snd) = lenS (o.se.getD sec.toNat SE.z) := by
    unfold lenS at hb ⊢
    exact wrap64 _ (by omega) (by omega)
  rw [hw]
  by_cases c2 : off ≥ lenS (o.se.getD sec.toNat SE.z)
  · rw [decide_eq_true c2, cond_true, if_neg (fun q => by omega)]
  rw [decide_eq_false c2, cond_false]
  by_cases c3 : line > 0
  · rw [decide_eq_true c3, cond_true]
    by_cases c4 : file ≥ (o.fi.length : Int)
    · rw [decide_eq_true c4, cond_true, if_neg (fun q => by have := q.2.2 c3; omega)]
    · rw [decide_eq_false c4, cond_false, if_pos ⟨by omega, by omega, fun _ => by omega⟩]
  · rw [decide_eq_false c3, cond_false, if_pos ⟨by omega, by omega, fun q => absurd q c3⟩]
theorem Tryz.lIs : ∀ s e s', s.h.ok → (LIs s).run = some (e, s') → Triple Tryz.prog (.loop Tryz.bIs) s e s' := by
  refine scan_law Tryz.eIs (d := 4) (g := 22) (ls := lsumsOf []) (c := Tryz.bIs) trivial 74 [1, 3] [2] (T := OD) (fun o k => [.ptr 0 0 0, .val (.int .i64 k)]) hO (fun o => o.li.length) covOk lisInv
    (fun _ => (.exit 0, [.unk], ⟨0, []⟩)) (fun _ => (.ret, [.val (.bool false)], ⟨0, []⟩)) fIs ?_ (fun o _ => hO_ok o) (fun _ _ => ⟨by simp, by simp⟩) (fun _ _ => ⟨heap0_ok, heap0_ok⟩) (fun o k ho hk _ => Tryz.sIs o k ho hk)
  intro vs h e vo h' hok hf
  unfold fIs at hf
  split at hf
  · rename_i r
    rw [Ans.run_grd] at hf
    cases hb : (odIs (.agg r) && propB (lisInv (odP (.agg r)))) with
    | false => rw [hb] at hf; cases hf
    | true =>
      rw [hb, cond_true, Ans.run_br] at hf
      rw [Bool.and_eq_true] at hb
      refine ⟨odP (.agg r), propB_eq hb.2, Weak.oneH rfl (od_con hb.1), ?_⟩
      cases hq : allOk (odP (.agg r)).li.length (covOk (odP (.agg r))) with
      | true => rw [hq] at hf; injection hf
      | false => rw [hq] at hf; injection hf
  · cases hf
theorem Tryz.sumIs : SumC Tryz.prog 22 (pureA isS) := by
  refine pureSumR 22 ⟨Tryz.f22, _, Tryz.fnOk22.1, Tryz.fnOk22.2, rfl⟩ ?_
  intro args v h2 hs
  unfold isS at hs
  split at hs
  · rename_i ov
    rw [Ans.run_grd] at hs
    cases hb : (odIs ov && propB (odInv (odP ov))) with
    | false => rw [hb] at hs; cases hs
    | true =>
    rw [hb, cond_true] at hs
    rw [Bool.and_eq_true] at hb
    injection hs with hs
    injection hs with q1 q2
    subst q1; subst q2
    refine Alone.argsW (AWs.args (.cons (od_aw hb.1) .nil)) ?_
    have hi := propB_eq hb.2
    generalize odP ov = o at hi ⊢
    refine rootS_alone Tryz.eIs (d := 4) (g := 22) (ls := lsumsOf [(4, LIs)]) (AllL.of1 (a := Tryz.bIs) (by kernel_rfl) (LsOk.of rfl rfl Tryz.lIs)) ((Tryz.wIs o).trans ?_)
    rw [show AV.agg (AV.agg o.row).cells = .agg o.row from rfl, show AV.agg [AV.ro (SE.con o.se) none, AV.ro (SY.con o.sy) none, AV.ro (RE.con o.re) none, AV.ro (FI.con o.fi) none, AV.ro (LI.con o.li) none] = .agg o.row from rfl, odP_row, odIs_row,
      show SE.list (SE.con o.se) = o.se from SE.list_con _, show FI.list (FI.con o.fi) = o.fi from FI.list_con _, show LI.list (LI.con o.li) = o.li from LI.list_con _, SE.ok_con, FI.ok_con, LI.ok_con]
    obtain ⟨i1, ⟨i2, i3⟩, i4, i5, i6⟩ := hi
    rw [propB_t i1, propB_t i5, ble_t i6]
    unfold objB
    cases h1 : secsB o.se with
    | false => rfl
    | true =>
    have hbd := secs_bound i1 h1
    rw [propB_t (show syInv o from ⟨i2, hbd, i3⟩)]
    cases h2 : symsB o with
    | false => rfl
    | true =>
    rw [propB_t (show reInv o from ⟨i4, i1.2⟩)]
    cases h3 : relsB o with
    | false => rfl
    | true =>
    cases h4 : filsB o.fi with
    | false => rfl
    | true =>
    cases h5 : tabB o.li with
    | false => rfl
    | true =>
    rw [propB_t (show lisInv o from ⟨hbd, h5⟩)]
    cases h6 : allOk o.li.length (covOk o) with
    | false => rfl
    | true => rfl
  · cases hs
end Go.Ev
/- Small objects. -/
namespace Go.Ev
open Go.Proofs
def addW (a b : Int) : Int := IntKind.i64.wrap (a + b)
def tot1 (L : List SecD) (u : Int) : Nat → Int := Nat.rec u (fun k u => addW u (addW ((L.getD k SE.z).1.size : Int) ((L.getD k SE.z).2.2.2.1.length : Int)))
def tot2 (L : List SymD) (u : Int) : Nat → Int := Nat.rec u (fun k u => addW u ((L.getD k SY.z).1.size : Int))
def tot3 (L : List ByteArray) (u : Int) : Nat → Int := Nat.rec u (fun k u => addW u ((L.getD k FI.z).size : Int))
def Tryz.ESl : Env := Tryz.env0 false (sumsOf []) (keepF 10 [(3, [1, 3, 11, 12, 13]), (8, [1, 3, 28, 29, 30]), (13, [1, 3, 41, 42, 43])])
def Tryz.bSl1 : Code := nthD .skip (loopsOf (bodyOf Tryz.ESl 10)) 0
def Tryz.bSl2 : Code := nthD .skip (loopsOf (bodyOf Tryz.ESl 10)) 1
def Tryz.bSl3 : Code := nthD .skip (loopsOf (bodyOf Tryz.ESl 10)) 2
def Tryz.BSl (b : Code) (ks : List Nat) (s : St) : Option (AX × St) := codeS Tryz.ESl (callF Tryz.ESl 4) (Tryz.ESl.keep 10) (lsumsOf []) b (outK ks [1, 3]) s
def Vsl {D : Type} (R : RowTy D) (tot : List D → Int → Nat → Int) (x : OD × List D × Int) (k : Nat) : List AV := [.ptr 0 0 0, .val (.int .i64 (tot x.2.1 x.2.2 k)), .ro (R.con x.2.1) none, .val (.int .i64 x.2.1.length), .val (.int .i64 k)]
def fSl {D : Type} (R : RowTy D) (tot : List D → Int → Nat → Int) (b : Nat) (vs : List AV) (h : Heap) : Ans (AX × List AV × Heap) := match vs, h with
  | [.ptr 0 0 0, .val (.int .i64 u), .ro c _, .val (.int .i64 n), .val (.int .i64 (.ofNat 0))], ⟨1, [⟨0, 0, .cells (.rows true 5 [r])⟩]⟩ =>
    .grd ((odIs (.agg r) && R.ok c) && (n == (c.len : Int) && Nat.ble c.len 140737488355328)) (.out (.exit b, [.ptr 0 0 0, .val (.int .i64 (tot (R.list c) u c.len))], hO (odP (.agg r))))
  | _, _ => .no
def LSl1 : LSum := toLSum 84 [1, 3, 11, 12, 13] [1, 3] (fSl SE tot1 0)
def LSl2 : LSum := toLSum 84 [1, 3, 28, 29, 30] [1, 3] (fSl SY tot2 2)
def LSl3 : LSum := toLSum 84 [1, 3, 41, 42, 43] [1, 3] (fSl FI tot3 4)
theorem Tryz.rSl1 (x : OD × List SecD × Int) (k : Nat) : Tryz.BSl Tryz.bSl1 [1, 3, 11, 12, 13] (stOf 84 [1, 3, 11, 12, 13] (Vsl SE tot1 x k) (hO x.1)) =
 bif decide ((↑k : Int) < (↑x.snd.fst.length : Int)) then
 bif inR (↑k : Int) x.snd.fst.length then
 some (.normal, stOf 84 [1, 3, 11, 12, 13] [.ptr 0 0 0, .val (.int .i64 (IntKind.i64.wrap (tot1 x.snd.fst x.snd.snd k + IntKind.i64.wrap ((↑(x.snd.fst.getD k SE.z).fst.size : Int) + (↑(x.snd.fst.getD k SE.z).snd.snd.snd.fst.length : Int))))), .ro (.tab 5 (x.snd.fst.length) (fun i => SE.row (x.snd.fst.getD i SE.z))) none, .val (.int .i64 ((↑x.snd.fst.length : Int))), .val (.int .i64 (IntKind.i64.wrap ((↑k : Int) + 1)))] ⟨1, [⟨0, 0, .cells (.rows true 5 ([.ro (.tab 5 (x.fst.se.length) (fun i => SE.row (x.fst.se.getD i SE.z))) none, .ro (.tab 6 (x.fst.sy.length) (fun i => SY.row (x.fst.sy.getD i SY.z))) none, .ro (.tab 5 (x.fst.re.length) (fun i => RE.row (x.fst.re.getD i RE.z))) none, .ro (.tab 1 (x.fst.fi.length) (fun i => FI.row (x.fst.fi.getD i FI.z))) none, .ro (.tab 4 (x.fst.li.length) (fun i => LI.row (x.fst.li.getD i LI.z))) none] :: []))⟩]⟩ )
 else
 none
 else
 some (.exit 0, stOf 84 [1, 3] [.ptr 0 0 0, .val (.int .i64 (tot1 x.snd.fst x.snd.snd k))] ⟨1, [⟨0, 0, .cells (.rows true 5 ([.ro (.tab 5 (x.fst.se.length) (fun i => SE.row (x.fst.se.getD i SE.z))) none, .ro (.tab 6 (x.fst.sy.length) (fun i => SY.row (x.fst.sy.getD i SY.z))) none, .ro (.tab 5 (x.fst.re.length) (fun i => RE.row (x.fst.re.getD i RE.z))) none, .ro (.tab 1 (x.fst.fi.length) (fun i => FI.row (x.fst.fi.getD i FI.z))) none, .ro (.tab 4 (x.fst.li.length) (fun i => LI.row (x.fst.li.getD i LI.z))) none] :: []))⟩]⟩ ) := by kernel_rfl
theorem Tryz.rSl2 (x : OD × List SymD × Int) (k : Nat) : Tryz.BSl Tryz.bSl2 [1, 3, 28, 29, 30] (stOf 84 [1, 3, 28, 29, 30] (Vsl SY tot2 x k) (hO x.1)) =
 bif decide ((↑k : Int) < (↑x.snd.fst.length : Int)) then
 bif inR (↑k : Int) x.snd.fst.length then
 some (.normal, stOf 84 [1, 3, 28, 29, 30] [.ptr 0 0 0, .val (.int .i64 (IntKind.i64.wrap (tot2 x.snd.fst x.snd.snd k + (↑(x.snd.fst.getD k SY.z).fst.size : Int)))), .ro (.tab 6 (x.snd.fst.length) (fun i => SY.row (x.snd.fst.getD i SY.z))) none, .val (.int .i64 ((↑x.snd.fst.length : Int))), .val (.int .i64 (IntKind.i64.wrap ((↑k : Int) + 1)))] ⟨1, [⟨0, 0, .cells (.rows true 5 ([.ro (.tab 5 (x.fst.se.length) (fun i => SE.row (x.fst.se.getD i SE.z))) none, .ro (.tab 6 (x.fst.sy.length) (fun i => SY.row (x.fst.sy.getD i SY.z))) none, .ro (.tab 5 (x.fst.re.length) (fun i => RE.row (x.fst.re.getD i RE.z))) none, .ro (.tab 1 (x.fst.fi.length) (fun i => FI.row (x.fst.fi.getD i FI.z))) none, .ro (.tab 4 (x.fst.li.length) (fun i => LI.row (x.fst.li.getD i LI.z))) none] :: []))⟩]⟩ )
 else
 none
 else
 some (.exit 2, stOf 84 [1, 3] [.ptr 0 0 0, .val (.int .i64 (tot2 x.snd.fst x.snd.snd k))] ⟨1, [⟨0, 0, .cells (.rows true 5 ([.ro (.tab 5 (x.fst.se.length) (fun i => SE.row (x.fst.se.getD i SE.z))) none, .ro (.tab 6 (x.fst.sy.length) (fun i => SY.row (x.fst.sy.getD i SY.z))) none, .ro (.tab 5 (x.fst.re.length) (fun i => RE.row (x.fst.re.getD i RE.z))) none, .ro (.tab 1 (x.fst.fi.length) (fun i => FI.row (x.fst.fi.getD i FI.z))) none, .ro (.tab 4 (x.fst.li.length) (fun i => LI.row (x.fst.li.getD i LI.z))) none] :: []))⟩]⟩ ) := by kernel_rfl
theorem Tryz.rSl3 (x : OD × List ByteArray × Int) (k : Nat) : Tryz.BSl Tryz.bSl3 [1, 3, 41, 42, 43] (stOf 84 [1, 3, 41, 42, 43] (Vsl FI tot3 x k) (hO x.1)) =
 bif decide ((↑k : Int) < (↑x.snd.fst.length : Int)) then
 bif inR (↑k : Int) x.snd.fst.length then
 some (.normal, stOf 84 [1, 3, 41, 42, 43] [.ptr 0 0 0, .val (.int .i64 (IntKind.i64.wrap (tot3 x.snd.fst x.snd.snd k + (↑(x.snd.fst.getD k FI.z).size : Int)))), .ro (.tab 1 (x.snd.fst.length) (fun i => FI.row (x.snd.fst.getD i FI.z))) none, .val (.int .i64 ((↑x.snd.fst.length : Int))), .val (.int .i64 (IntKind.i64.wrap ((↑k : Int) + 1)))] ⟨1, [⟨0, 0, .cells (.rows true 5 ([.ro (.tab 5 (x.fst.se.length) (fun i => SE.row (x.fst.se.getD i SE.z))) none, .ro (.tab 6 (x.fst.sy.length) (fun i => SY.row (x.fst.sy.getD i SY.z))) none, .ro (.tab 5 (x.fst.re.length) (fun i => RE.row (x.fst.re.getD i RE.z))) none, .ro (.tab 1 (x.fst.fi.length) (fun i => FI.row (x.fst.fi.getD i FI.z))) none, .ro (.tab 4 (x.fst.li.length) (fun i => LI.row (x.fst.li.getD i LI.z))) none] :: []))⟩]⟩ )
 else
 none
 else
 some (.exit 4, stOf 84 [1, 3] [.ptr 0 0 0, .val (.int .i64 (tot3 x.snd.fst x.snd.snd k))] ⟨1, [⟨0, 0, .cells (.rows true 5 ([.ro (.tab 5 (x.fst.se.length) (fun i => SE.row (x.fst.se.getD i SE.z))) none, .ro (.tab 6 (x.fst.sy.length) (fun i => SY.row (x.fst.sy.getD i SY.z))) none, .ro (.tab 5 (x.fst.re.length) (fun i => RE.row (x.fst.re.getD i RE.z))) none, .ro (.tab 1 (x.fst.fi.length) (fun i => FI.row (x.fst.fi.getD i FI.z))) none, .ro (.tab 4 (x.fst.li.length) (fun i => LI.row (x.fst.li.getD i LI.z))) none] :: []))⟩]⟩ ) := by kernel_rfl
theorem Tryz.wSl (o : OD) : rootS Tryz.ESl 4 10 (lsumsOf [(3, LSl1), (8, LSl2), (13, LSl3)]) [o.av] =
 bif odIs (AV.agg (AV.agg o.row).cells) && SE.ok (SE.con o.se) && ((↑o.se.length : Int) == (↑o.se.length : Int) && o.se.length.ble 140737488355328) then
 bif odIs (AV.agg (odP (AV.agg (AV.agg o.row).cells)).row) && SY.ok (SY.con (odP (AV.agg (AV.agg o.row).cells)).sy) && ((↑(odP (AV.agg (AV.agg o.row).cells)).sy.length : Int) == (↑(odP (AV.agg (AV.agg o.row).cells)).sy.length : Int) && (odP (AV.agg (AV.agg o.row).cells)).sy.length.ble 140737488355328) then
 bif odIs (AV.agg (odP (AV.agg (odP (AV.agg (AV.agg o.row).cells)).row)).row) && FI.ok (FI.con (odP (AV.agg (odP (AV.agg (AV.agg o.row).cells)).row)).fi) && ((↑(odP (AV.agg (odP (AV.agg (AV.agg o.row).cells)).row)).fi.length : Int) == (↑(odP (AV.agg (odP (AV.agg (AV.agg o.row).cells)).row)).fi.length : Int) && (odP (AV.agg (odP (AV.agg (AV.agg o.row).cells)).row)).fi.length.ble 140737488355328) then
 bif decide ((↑(odP (AV.agg (odP (AV.agg (odP (AV.agg (AV.agg o.row).cells)).row)).row)).se.length : Int) ≤ 20) then
 bif decide ((↑(odP (AV.agg (odP (AV.agg (odP (AV.agg (AV.agg o.row).cells)).row)).row)).sy.length : Int) ≤ 120) then
 bif decide ((↑(odP (AV.agg (odP (AV.agg (odP (AV.agg (AV.agg o.row).cells)).row)).row)).re.length : Int) ≤ 200) then
 bif decide ((↑(odP (AV.agg (odP (AV.agg (odP (AV.agg (AV.agg o.row).cells)).row)).row)).fi.length : Int) ≤ 30) then
 bif decide ((↑(odP (AV.agg (odP (AV.agg (odP (AV.agg (AV.agg o.row).cells)).row)).row)).li.length : Int) ≤ 200) then
 bif decide (tot3 (FI.list (FI.con (odP (AV.agg (odP (AV.agg (AV.agg o.row).cells)).row)).fi)) (tot2 (SY.list (SY.con (odP (AV.agg (AV.agg o.row).cells)).sy)) (tot1 (SE.list (SE.con o.se)) 0 o.se.length) (odP (AV.agg (AV.agg o.row).cells)).sy.length) (odP (AV.agg (odP (AV.agg (AV.agg o.row).cells)).row)).fi.length ≤ 4000) then
 some (.val (.bool true), ⟨0, []⟩)
 else
 some (.val (.bool false), ⟨0, []⟩)
 else
 some (.val (.bool false), ⟨0, []⟩)
 else
 some (.val (.bool false), ⟨0, []⟩)
 else
 some (.val (.bool false), ⟨0, []⟩)
 else
 some (.val (.bool false), ⟨0, []⟩)
 else
 some (.val (.bool false), ⟨0, []⟩)
 else
 none
 else
 none
 else
 none := by kernel_rfl
theorem Tryz.eSl : EnvOk2 Tryz.prog Tryz.ESl := Tryz.envOk false (sumsOf []) _ (fun g A h => by cases h)
theorem allOk_true (n : Nat) : allOk n (fun _ => true) = true := allOk_iff.2 (fun _ _ => rfl)
theorem sl_law {D : Type} (R : RowTy D) (tot : List D → Int → Nat → Int) (h0 : ∀ L u, tot L u 0 = u) (b : Nat) (c : Code) (ks : List Nat) (hks : ks.length = 5)
    (hc : AllL (LsOk Tryz.prog (lsumsOf [])) (loopsOf c))
    (hs : ∀ (x : OD × List D × Int) (k : Nat), x.2.1.length ≤ 140737488355328 → k ≤ x.2.1.length → Tryz.BSl c ks (stOf 84 ks (Vsl R tot x k) (hO x.1)) =
      bif decide (k < x.2.1.length) then some (.normal, stOf 84 ks (Vsl R tot x (k + 1)) (hO x.1)) else some (.exit b, stOf 84 [1, 3] [.ptr 0 0 0, .val (.int .i64 (tot x.2.1 x.2.2 x.2.1.length))] (hO x.1))) :
    ∀ s e s', s.h.ok → (toLSum 84 ks [1, 3] (fSl R tot b) s).run = some (e, s') → Triple Tryz.prog (.loop c) s e s' := by
  refine scan_law Tryz.eSl (d := 4) (g := 10) (ls := lsumsOf []) (c := c) hc 84 ks [1, 3] (T := OD × List D × Int) (Vsl R tot) (fun x => hO x.1) (fun x => x.2.1.length) (fun _ _ => true) (fun x => x.2.1.length ≤ 140737488355328)
    (fun x => (.exit b, [.ptr 0 0 0, .val (.int .i64 (tot x.2.1 x.2.2 x.2.1.length))], hO x.1)) (fun x => (.exit b, [.ptr 0 0 0, .val (.int .i64 (tot x.2.1 x.2.2 x.2.1.length))], hO x.1)) (fSl R tot b) ?_ (fun x _ => hO_ok x.1) (fun _ _ => ⟨by simp, by simp⟩) (fun x _ => ⟨hO_ok x.1, hO_ok x.1⟩)
    (fun x k hx hk _ => (hs x k hx hk).trans (by cases decide (k < x.2.1.length) <;> rfl))
  intro vs h e vo h' hok hf
  unfold fSl at hf
  split at hf
  · rename_i u cc cap n r
    rw [Ans.run_grd] at hf
    cases hb : ((odIs (.agg r) && R.ok cc) && (n == (cc.len : Int) && Nat.ble cc.len 140737488355328)) with
    | false => rw [hb] at hf; cases hf
    | true =>
      rw [hb, cond_true] at hf
      simp only [Bool.and_eq_true, Nat.ble_eq, beq_iff_eq] at hb
      obtain ⟨⟨b1, b2⟩, rfl, b3⟩ := hb
      refine ⟨(odP (.agg r), R.list cc, u), by show (R.list cc).length ≤ _; rw [R.list_len]; exact b3, ?_, ?_⟩
      · refine Weak.trans (Weak.slots (oneH_ok _) ?_) (Weak.oneH rfl (od_con b1))
        unfold Vsl
        simp only [h0, R.list_len]
        exact .cons (AW.refl _) (.cons (AW.refl _) (.cons (R.aw b2 cap) (AWs.refl _)))
      · rw [allOk_true, cond_true]
        simp only [R.list_len]
        injection hf
  · cases hf
end Go.Ev
/- Small objects: the summary. -/
namespace Go.Ev
open Go.Proofs
theorem Tryz.lSl1 : ∀ s e s', s.h.ok → (LSl1 s).run = some (e, s') → Triple Tryz.prog (.loop Tryz.bSl1) s e s' := by
  refine sl_law SE tot1 (fun _ _ => rfl) 0 Tryz.bSl1 [1, 3, 11, 12, 13] rfl trivial (fun x k hx hk => ?_)
  rw [Tryz.rSl1, declt_nat, inR_nat, wrapS k (by omega)]
  by_cases h : k < x.2.1.length
  · rw [decide_eq_true h]; rfl
  · rw [decide_eq_false h, show k = x.2.1.length by omega]; rfl
theorem Tryz.lSl2 : ∀ s e s', s.h.ok → (LSl2 s).run = some (e, s') → Triple Tryz.prog (.loop Tryz.bSl2) s e s' := by
  refine sl_law SY tot2 (fun _ _ => rfl) 2 Tryz.bSl2 [1, 3, 28, 29, 30] rfl trivial (fun x k hx hk => ?_)
  rw [Tryz.rSl2, declt_nat, inR_nat, wrapS k (by omega)]
  by_cases h : k < x.2.1.length
  · rw [decide_eq_true h]; rfl
  · rw [decide_eq_false h, show k = x.2.1.length by omega]; rfl
theorem Tryz.lSl3 : ∀ s e s', s.h.ok → (LSl3 s).run = some (e, s') → Triple Tryz.prog (.loop Tryz.bSl3) s e s' := by
  refine sl_law FI tot3 (fun _ _ => rfl) 4 Tryz.bSl3 [1, 3, 41, 42, 43] rfl trivial (fun x k hx hk => ?_)
  rw [Tryz.rSl3, declt_nat, inR_nat, wrapS k (by omega)]
  by_cases h : k < x.2.1.length
  · rw [decide_eq_true h]; rfl
  · rw [decide_eq_false h, show k = x.2.1.length by omega]; rfl
def cntB (o : OD) : Bool := decide (o.se.length ≤ 20) && (decide (o.sy.length ≤ 120) && (decide (o.re.length ≤ 200) && (decide (o.fi.length ≤ 30) && decide (o.li.length ≤ 200))))
def smallB (o : OD) : Bool := cntB o && decide (tot3 o.fi (tot2 o.sy (tot1 o.se 0 o.se.length) o.sy.length) o.fi.length ≤ 4000)
def slInv (o : OD) : Prop := o.se.length ≤ 140737488355328 ∧ o.sy.length ≤ 140737488355328 ∧ o.fi.length ≤ 140737488355328
def smallS (args : List AV) : Ans (AV × Heap) := match args with
  | [o] => .grd (odIs o && propB (slInv (odP o))) (.out (.val (.bool (smallB (odP o))), ⟨0, []⟩))
  | _ => .no
theorem AllL.of3 {α : Type} {Q : α → Prop} {l : List α} {a b c : α} (h : l = [a, b, c]) (h1 : Q a) (h2 : Q b) (h3 : Q c) : AllL Q l := by rw [h]; exact ⟨h1, h2, h3, trivial⟩
theorem Tryz.sumSl : SumC Tryz.prog 10 (pureA smallS) := by
  refine pureSumR 10 ⟨Tryz.f10, _, Tryz.fnOk10.1, Tryz.fnOk10.2, rfl⟩ ?_
  intro args v h2 hs
  unfold smallS at hs
  split at hs
  · rename_i ov
    rw [Ans.run_grd] at hs
    cases hb : (odIs ov && propB (slInv (odP ov))) with
    | false => rw [hb] at hs; cases hs
    | true =>
    rw [hb, cond_true] at hs
    rw [Bool.and_eq_true] at hb
    injection hs with hs
    injection hs with q1 q2
    subst q1; subst q2
    refine Alone.argsW (AWs.args (.cons (od_aw hb.1) .nil)) ?_
    have hi := propB_eq hb.2
    generalize odP ov = o at hi ⊢
    refine rootS_alone Tryz.eSl (d := 4) (g := 10) (ls := lsumsOf [(3, LSl1), (8, LSl2), (13, LSl3)]) (AllL.of3 (a := Tryz.bSl1) (b := Tryz.bSl2) (c := Tryz.bSl3) (by kernel_rfl) (LsOk.of rfl rfl Tryz.lSl1) (LsOk.of rfl rfl Tryz.lSl2) (LsOk.of rfl rfl Tryz.lSl3)) ((Tryz.wSl o).trans ?_)
    obtain ⟨i1, i2, i3⟩ := hi
    simp only [show AV.agg (AV.agg o.row).cells = .agg o.row from rfl, odP_row, odIs_row, show SE.list (SE.con o.se) = o.se from SE.list_con _, show FI.list (FI.con o.fi) = o.fi from FI.list_con _, show SY.list (SY.con o.sy) = o.sy from SY.list_con _, SE.ok_con, FI.ok_con, SY.ok_con, beq_self_eq_true, ble_t i1, ble_t i2, ble_t i3, Bool.and_self, cond_true]
    unfold smallB cntB
    generalize tot3 o.fi (tot2 o.sy (tot1 o.se 0 o.se.length) o.sy.length) o.fi.length = tt
    by_cases h1 : o.se.length ≤ 20
    · by_cases h2 : o.sy.length ≤ 120
      · by_cases h3 : o.re.length ≤ 200
        · by_cases h4 : o.fi.length ≤ 30
          · by_cases h5 : o.li.length ≤ 200
            · rw [decide_eq_true (show (o.se.length : Int) ≤ 20 by omega), decide_eq_true (show (o.sy.length : Int) ≤ 120 by omega), decide_eq_true (show (o.re.length : Int) ≤ 200 by omega), decide_eq_true (show (o.fi.length : Int) ≤ 30 by omega), decide_eq_true (show (o.li.length : Int) ≤ 200 by omega), decide_eq_true h1, decide_eq_true h2, decide_eq_true h3, decide_eq_true h4, decide_eq_true h5]
              cases decide (tt ≤ 4000) <;> rfl
            · rw [decide_eq_true (show (o.se.length : Int) ≤ 20 by omega), decide_eq_true (show (o.sy.length : Int) ≤ 120 by omega), decide_eq_true (show (o.re.length : Int) ≤ 200 by omega), decide_eq_true (show (o.fi.length : Int) ≤ 30 by omega), decide_eq_false (show ¬ (o.li.length : Int) ≤ 200 by omega), decide_eq_true h1, decide_eq_true h2, decide_eq_true h3, decide_eq_true h4, decide_eq_false h5]; rfl
          · rw [decide_eq_true (show (o.se.length : Int) ≤ 20 by omega), decide_eq_true (show (o.sy.length : Int) ≤ 120 by omega), decide_eq_true (show (o.re.length : Int) ≤ 200 by omega), decide_eq_false (show ¬ (o.fi.length : Int) ≤ 30 by omega), decide_eq_true h1, decide_eq_true h2, decide_eq_true h3, decide_eq_false h4]; rfl
        · rw [decide_eq_true (show (o.se.length : Int) ≤ 20 by omega), decide_eq_true (show (o.sy.length : Int) ≤ 120 by omega), decide_eq_false (show ¬ (o.re.length : Int) ≤ 200 by omega), decide_eq_true h1, decide_eq_true h2, decide_eq_false h3]; rfl
      · rw [decide_eq_true (show (o.se.length : Int) ≤ 20 by omega), decide_eq_false (show ¬ (o.sy.length : Int) ≤ 120 by omega), decide_eq_true h1, decide_eq_false h2]; rfl
    · rw [decide_eq_false (show ¬ (o.se.length : Int) ≤ 20 by omega), decide_eq_false h1]; rfl
  · cases hs
end Go.Ev
/- SymbolAt: the rounds. -/
namespace Go.Ev
open Go.Proofs
def Tryz.ESa : Env := Tryz.env0 false (sumsOf []) (keepF 24 [(3, [1, 2, 3, 8, 12, 13, 14])])
def Tryz.bSa : Code := nthD .skip (loopsOf (bodyOf Tryz.ESa 24)) 0
def Tryz.BSa (s : St) : Option (AX × St) := codeS Tryz.ESa (callF Tryz.ESa 4) (Tryz.ESa.keep 24) (lsumsOf []) Tryz.bSa (outK [1, 2, 3, 8, 12, 13, 14] [8]) s
def hSa (o : OD) : Heap := ⟨1, [⟨0, 0, .cells (.rows true 5 [o.row])⟩]⟩
theorem Tryz.rSa (o : OD) (sec off : Int) (b i : Nat) : Tryz.BSa (stOf 75 [1, 2, 3, 8, 12, 13, 14] [.val (.int .i64 sec), .val (.int .i64 off), .ptr 0 0 0, .val (.int .i64 (.ofNat b)), .ro (SY.con o.sy) none, .val (.int .i64 (Int.ofNat o.sy.length)), .val (.int .i64 (.ofNat i))] (hSa o)) =
 bif decide (Int.ofNat i < Int.ofNat o.sy.length) then
 bif inR (Int.ofNat i) o.sy.length then
 bif (o.sy.getD i SY.z).snd.fst != sec then
 some (.normal, stOf 75 [1, 2, 3, 8, 12, 13, 14] [.val (.int .i64 (sec)), .val (.int .i64 (off)), .ptr 0 0 0, .val (.int .i64 (Int.ofNat b)), .ro (.tab 6 (o.sy.length) (fun i => SY.row (o.sy.getD i SY.z))) none, .val (.int .i64 (Int.ofNat o.sy.length)), .val (.int .i64 (IntKind.i64.wrap (Int.ofNat i + 1)))] ⟨1, [⟨0, 0, .cells (.rows true 5 ([.ro (.tab 5 (o.se.length) (fun i => SE.row (o.se.getD i SE.z))) none, .ro (.tab 6 (o.sy.length) (fun i => SY.row (o.sy.getD i SY.z))) none, .ro (.tab 5 (o.re.length) (fun i => RE.row (o.re.getD i RE.z))) none, .ro (.tab 1 (o.fi.length) (fun i => FI.row (o.fi.getD i FI.z))) none, .ro (.tab 4 (o.li.length) (fun i => LI.row (o.li.getD i LI.z))) none] :: []))⟩]⟩ )
 else
 bif decide (sec < 0) then
 some (.normal, stOf 75 [1, 2, 3, 8, 12, 13, 14] [.val (.int .i64 (sec)), .val (.int .i64 (off)), .ptr 0 0 0, .val (.int .i64 (Int.ofNat b)), .ro (.tab 6 (o.sy.length) (fun i => SY.row (o.sy.getD i SY.z))) none, .val (.int .i64 (Int.ofNat o.sy.length)), .val (.int .i64 (IntKind.i64.wrap (Int.ofNat i + 1)))] ⟨1, [⟨0, 0, .cells (.rows true 5 ([.ro (.tab 5 (o.se.length) (fun i => SE.row (o.se.getD i SE.z))) none, .ro (.tab 6 (o.sy.length) (fun i => SY.row (o.sy.getD i SY.z))) none, .ro (.tab 5 (o.re.length) (fun i => RE.row (o.re.getD i RE.z))) none, .ro (.tab 1 (o.fi.length) (fun i => FI.row (o.fi.getD i FI.z))) none, .ro (.tab 4 (o.li.length) (fun i => LI.row (o.li.getD i LI.z))) none] :: []))⟩]⟩ )
 else
 bif decide (IntKind.i64.wrap (o.sy.getD i SY.z).snd.snd.fst > off) then
 some (.normal, stOf 75 [1, 2, 3, 8, 12, 13, 14] [.val (.int .i64 (sec)), .val (.int .i64 (off)), .ptr 0 0 0, .val (.int .i64 (Int.ofNat b)), .ro (.tab 6 (o.sy.length) (fun i => SY.row (o.sy.getD i SY.z))) none, .val (.int .i64 (Int.ofNat o.sy.length)), .val (.int .i64 (IntKind.i64.wrap (Int.ofNat i + 1)))] ⟨1, [⟨0, 0, .cells (.rows true 5 ([.ro (.tab 5 (o.se.length) (fun i => SE.row (o.se.getD i SE.z))) none, .ro (.tab 6 (o.sy.length) (fun i => SY.row (o.sy.getD i SY.z))) none, .ro (.tab 5 (o.re.length) (fun i => RE.row (o.re.getD i RE.z))) none, .ro (.tab 1 (o.fi.length) (fun i => FI.row (o.fi.getD i FI.z))) none, .ro (.tab 4 (o.li.length) (fun i => LI.row (o.li.getD i LI.z))) none] :: []))⟩]⟩ )
 else
 bif decide (IntKind.i64.wrap (off - IntKind.i64.wrap (o.sy.getD i SY.z).snd.snd.fst) ≥ (o.sy.getD i SY.z).snd.snd.snd.fst) then
 some (.normal, stOf 75 [1, 2, 3, 8, 12, 13, 14] [.val (.int .i64 (sec)), .val (.int .i64 (off)), .ptr 0 0 0, .val (.int .i64 (Int.ofNat b)), .ro (.tab 6 (o.sy.length) (fun i => SY.row (o.sy.getD i SY.z))) none, .val (.int .i64 (Int.ofNat o.sy.length)), .val (.int .i64 (IntKind.i64.wrap (Int.ofNat i + 1)))] ⟨1, [⟨0, 0, .cells (.rows true 5 ([.ro (.tab 5 (o.se.length) (fun i => SE.row (o.se.getD i SE.z))) none, .ro (.tab 6 (o.sy.length) (fun i => SY.row (o.sy.getD i SY.z))) none, .ro (.tab 5 (o.re.length) (fun i => RE.row (o.re.getD i RE.z))) none, .ro (.tab 1 (o.fi.length) (fun i => FI.row (o.fi.getD i FI.z))) none, .ro (.tab 4 (o.li.length) (fun i => LI.row (o.li.getD i LI.z))) none] :: []))⟩]⟩ )
 else
 bif inR (Int.ofNat b) o.sy.length then
 bif (o.sy.getD i SY.z).snd.snd.fst != (o.sy.getD i SY.z).snd.snd.fst then
 bif (o.sy.getD b SY.z).snd.snd.fst != (o.sy.getD b SY.z).snd.snd.fst then
 bif inR (Int.ofNat b) o.sy.length then
 bif (o.sy.getD b SY.z).snd.snd.snd.fst != (o.sy.getD b SY.z).snd.snd.snd.fst then
 bif (o.sy.getD i SY.z).snd.snd.snd.fst != (o.sy.getD i SY.z).snd.snd.snd.fst then
 some (.normal, stOf 75 [1, 2, 3, 8, 12, 13, 14] [.val (.int .i64 (sec)), .val (.int .i64 (off)), .ptr 0 0 0, .val (.int .i64 (Int.ofNat b)), .ro (.tab 6 (o.sy.length) (fun i => SY.row (o.sy.getD i SY.z))) none, .val (.int .i64 (Int.ofNat o.sy.length)), .val (.int .i64 (IntKind.i64.wrap (Int.ofNat i + 1)))] ⟨1, [⟨0, 0, .cells (.rows true 5 ([.ro (.tab 5 (o.se.length) (fun i => SE.row (o.se.getD i SE.z))) none, .ro (.tab 6 (o.sy.length) (fun i => SY.row (o.sy.getD i SY.z))) none, .ro (.tab 5 (o.re.length) (fun i => RE.row (o.re.getD i RE.z))) none, .ro (.tab 1 (o.fi.length) (fun i => FI.row (o.fi.getD i FI.z))) none, .ro (.tab 4 (o.li.length) (fun i => LI.row (o.li.getD i LI.z))) none] :: []))⟩]⟩ )
 else
 some (.normal, stOf 75 [1, 2, 3, 8, 12, 13, 14] [.val (.int .i64 (sec)), .val (.int .i64 (off)), .ptr 0 0 0, .val (.int .i64 (Int.ofNat b)), .ro (.tab 6 (o.sy.length) (fun i => SY.row (o.sy.getD i SY.z))) none, .val (.int .i64 (Int.ofNat o.sy.length)), .val (.int .i64 (IntKind.i64.wrap (Int.ofNat i + 1)))] ⟨1, [⟨0, 0, .cells (.rows true 5 ([.ro (.tab 5 (o.se.length) (fun i => SE.row (o.se.getD i SE.z))) none, .ro (.tab 6 (o.sy.length) (fun i => SY.row (o.sy.getD i SY.z))) none, .ro (.tab 5 (o.re.length) (fun i => RE.row (o.re.getD i RE.z))) none, .ro (.tab 1 (o.fi.length) (fun i => FI.row (o.fi.getD i FI.z))) none, .ro (.tab 4 (o.li.length) (fun i => LI.row (o.li.getD i LI.z))) none] :: []))⟩]⟩ )
 else
 bif (o.sy.getD i SY.z).snd.snd.snd.fst != (o.sy.getD i SY.z).snd.snd.snd.fst then
 some (.normal, stOf 75 [1, 2, 3, 8, 12, 13, 14] [.val (.int .i64 (sec)), .val (.int .i64 (off)), .ptr 0 0 0, .val (.int .i64 (Int.ofNat i)), .ro (.tab 6 (o.sy.length) (fun i => SY.row (o.sy.getD i SY.z))) none, .val (.int .i64 (Int.ofNat o.sy.length)), .val (.int .i64 (IntKind.i64.wrap (Int.ofNat i + 1)))] ⟨1, [⟨0, 0, .cells (.rows true 5 ([.ro (.tab 5 (o.se.length) (fun i => SE.row (o.se.getD i SE.z))) none, .ro (.tab 6 (o.sy.length) (fun i => SY.row (o.sy.getD i SY.z))) none, .ro (.tab 5 (o.re.length) (fun i => RE.row (o.re.getD i RE.z))) none, .ro (.tab 1 (o.fi.length) (fun i => FI.row (o.fi.getD i FI.z))) none, .ro (.tab 4 (o.li.length) (fun i => LI.row (o.li.getD i LI.z))) none] :: []))⟩]⟩ )
 else
 bif decide ((o.sy.getD b SY.z).snd.snd.snd.fst < (o.sy.getD i SY.z).snd.snd.snd.fst) then
 some (.normal, stOf 75 [1, 2, 3, 8, 12, 13, 14] [.val (.int .i64 (sec)), .val (.int .i64 (off)), .ptr 0 0 0, .val (.int .i64 (Int.ofNat b)), .ro (.tab 6 (o.sy.length) (fun i => SY.row (o.sy.getD i SY.z))) none, .val (.int .i64 (Int.ofNat o.sy.length)), .val (.int .i64 (IntKind.i64.wrap (Int.ofNat i + 1)))] ⟨1, [⟨0, 0, .cells (.rows true 5 ([.ro (.tab 5 (o.se.length) (fun i => SE.row (o.se.getD i SE.z))) none, .ro (.tab 6 (o.sy.length) (fun i => SY.row (o.sy.getD i SY.z))) none, .ro (.tab 5 (o.re.length) (fun i => RE.row (o.re.getD i RE.z))) none, .ro (.tab 1 (o.fi.length) (fun i => FI.row (o.fi.getD i FI.z))) none, .ro (.tab 4 (o.li.length) (fun i => LI.row (o.li.getD i LI.z))) none] :: []))⟩]⟩ )
 else
 bif decide ((o.sy.getD b SY.z).snd.snd.snd.fst > (o.sy.getD i SY.z).snd.snd.snd.fst) then
 some (.normal, stOf 75 [1, 2, 3, 8, 12, 13, 14] [.val (.int .i64 (sec)), .val (.int .i64 (off)), .ptr 0 0 0, .val (.int .i64 (Int.ofNat i)), .ro (.tab 6 (o.sy.length) (fun i => SY.row (o.sy.getD i SY.z))) none, .val (.int .i64 (Int.ofNat o.sy.length)), .val (.int .i64 (IntKind.i64.wrap (Int.ofNat i + 1)))] ⟨1, [⟨0, 0, .cells (.rows true 5 ([.ro (.tab 5 (o.se.length) (fun i => SE.row (o.se.getD i SE.z))) none, .ro (.tab 6 (o.sy.length) (fun i => SY.row (o.sy.getD i SY.z))) none, .ro (.tab 5 (o.re.length) (fun i => RE.row (o.re.getD i RE.z))) none, .ro (.tab 1 (o.fi.length) (fun i => FI.row (o.fi.getD i FI.z))) none, .ro (.tab 4 (o.li.length) (fun i => LI.row (o.li.getD i LI.z))) none] :: []))⟩]⟩ )
 else
 some (.normal, stOf 75 [1, 2, 3, 8, 12, 13, 14] [.val (.int .i64 (sec)), .val (.int .i64 (off)), .ptr 0 0 0, .val (.int .i64 (Int.ofNat b)), .ro (.tab 6 (o.sy.length) (fun i => SY.row (o.sy.getD i SY.z))) none, .val (.int .i64 (Int.ofNat o.sy.length)), .val (.int .i64 (IntKind.i64.wrap (Int.ofNat i + 1)))] ⟨1, [⟨0, 0, .cells (.rows true 5 ([.ro (.tab 5 (o.se.length) (fun i => SE.row (o.se.getD i SE.z))) none, .ro (.tab 6 (o.sy.length) (fun i => SY.row (o.sy.getD i SY.z))) none, .ro (.tab 5 (o.re.length) (fun i => RE.row (o.re.getD i RE.z))) none, .ro (.tab 1 (o.fi.length) (fun i => FI.row (o.fi.getD i FI.z))) none, .ro (.tab 4 (o.li.length) (fun i => LI.row (o.li.getD i LI.z))) none] :: []))⟩]⟩ )
 else
 none
 else
 bif inR (Int.ofNat b) o.sy.length then
 bif (o.sy.getD b SY.z).snd.snd.snd.fst != (o.sy.getD b SY.z).snd.snd.snd.fst then
 bif (o.sy.getD i SY.z).snd.snd.snd.fst != (o.sy.getD i SY.z).snd.snd.snd.fst then
 some (.normal, stOf 75 [1, 2, 3, 8, 12, 13, 14] [.val (.int .i64 (sec)), .val (.int .i64 (off)), .ptr 0 0 0, .val (.int .i64 (Int.ofNat b)), .ro (.tab 6 (o.sy.length) (fun i => SY.row (o.sy.getD i SY.z))) none, .val (.int .i64 (Int.ofNat o.sy.length)), .val (.int .i64 (IntKind.i64.wrap (Int.ofNat i + 1)))] ⟨1, [⟨0, 0, .cells (.rows true 5 ([.ro (.tab 5 (o.se.length) (fun i => SE.row (o.se.getD i SE.z))) none, .ro (.tab 6 (o.sy.length) (fun i => SY.row (o.sy.getD i SY.z))) none, .ro (.tab 5 (o.re.length) (fun i => RE.row (o.re.getD i RE.z))) none, .ro (.tab 1 (o.fi.length) (fun i => FI.row (o.fi.getD i FI.z))) none, .ro (.tab 4 (o.li.length) (fun i => LI.row (o.li.getD i LI.z))) none] :: []))⟩]⟩ )
 else
 some (.normal, stOf 75 [1, 2, 3, 8, 12, 13, 14] [.val (.int .i64 (sec)), .val (.int .i64 (off)), .ptr 0 0 0, .val (.int .i64 (Int.ofNat b)), .ro (.tab 6 (o.sy.length) (fun i => SY.row (o.sy.getD i SY.z))) none, .val (.int .i64 (Int.ofNat o.sy.length)), .val (.int .i64 (IntKind.i64.wrap (Int.ofNat i + 1)))] ⟨1, [⟨0, 0, .cells (.rows true 5 ([.ro (.tab 5 (o.se.length) (fun i => SE.row (o.se.getD i SE.z))) none, .ro (.tab 6 (o.sy.length) (fun i => SY.row (o.sy.getD i SY.z))) none, .ro (.tab 5 (o.re.length) (fun i => RE.row (o.re.getD i RE.z))) none, .ro (.tab 1 (o.fi.length) (fun i => FI.row (o.fi.getD i FI.z))) none, .ro (.tab 4 (o.li.length) (fun i => LI.row (o.li.getD i LI.z))) none] :: []))⟩]⟩ )
 else
 bif (o.sy.getD i SY.z).snd.snd.snd.fst != (o.sy.getD i SY.z).snd.snd.snd.fst then
 some (.normal, stOf 75 [1, 2, 3, 8, 12, 13, 14] [.val (.int .i64 (sec)), .val (.int .i64 (off)), .ptr 0 0 0, .val (.int .i64 (Int.ofNat b)), .ro (.tab 6 (o.sy.length) (fun i => SY.row (o.sy.getD i SY.z))) none, .val (.int .i64 (Int.ofNat o.sy.length)), .val (.int .i64 (IntKind.i64.wrap (Int.ofNat i + 1)))] ⟨1, [⟨0, 0, .cells (.rows true 5 ([.ro (.tab 5 (o.se.length) (fun i => SE.row (o.se.getD i SE.z))) none, .ro (.tab 6 (o.sy.length) (fun i => SY.row (o.sy.getD i SY.z))) none, .ro (.tab 5 (o.re.length) (fun i => RE.row (o.re.getD i RE.z))) none, .ro (.tab 1 (o.fi.length) (fun i => FI.row (o.fi.getD i FI.z))) none, .ro (.tab 4 (o.li.length) (fun i => LI.row (o.li.getD i LI.z))) none] :: []))⟩]⟩ )
 else
 bif decide ((o.sy.getD b SY.z).snd.snd.snd.fst < (o.sy.getD i SY.z).snd.snd.snd.fst) then
 some (.normal, stOf 75 [1, 2, 3, 8, 12, 13, 14] [.val (.int .i64 (sec)), .val (.int .i64 (off)), .ptr 0 0 0, .val (.int .i64 (Int.ofNat b)), .ro (.tab 6 (o.sy.length) (fun i => SY.row (o.sy.getD i SY.z))) none, .val (.int .i64 (Int.ofNat o.sy.length)), .val (.int .i64 (IntKind.i64.wrap (Int.ofNat i + 1)))] ⟨1, [⟨0, 0, .cells (.rows true 5 ([.ro (.tab 5 (o.se.length) (fun i => SE.row (o.se.getD i SE.z))) none, .ro (.tab 6 (o.sy.length) (fun i => SY.row (o.sy.getD i SY.z))) none, .ro (.tab 5 (o.re.length) (fun i => RE.row (o.re.getD i RE.z))) none, .ro (.tab 1 (o.fi.length) (fun i => FI.row (o.fi.getD i FI.z))) none, .ro (.tab 4 (o.li.length) (fun i => LI.row (o.li.getD i LI.z))) none] :: []))⟩]⟩ )
 else
 bif decide ((o.sy.getD b SY.z).snd.snd.snd.fst > (o.sy.getD i SY.z).snd.snd.snd.fst) then
 some (.normal, stOf 75 [1, 2, 3, 8, 12, 13, 14] [.val (.int .i64 (sec)), .val (.int .i64 (off)), .ptr 0 0 0, .val (.int .i64 (Int.ofNat b)), .ro (.tab 6 (o.sy.length) (fun i => SY.row (o.sy.getD i SY.z))) none, .val (.int .i64 (Int.ofNat o.sy.length)), .val (.int .i64 (IntKind.i64.wrap (Int.ofNat i + 1)))] ⟨1, [⟨0, 0, .cells (.rows true 5 ([.ro (.tab 5 (o.se.length) (fun i => SE.row (o.se.getD i SE.z))) none, .ro (.tab 6 (o.sy.length) (fun i => SY.row (o.sy.getD i SY.z))) none, .ro (.tab 5 (o.re.length) (fun i => RE.row (o.re.getD i RE.z))) none, .ro (.tab 1 (o.fi.length) (fun i => FI.row (o.fi.getD i FI.z))) none, .ro (.tab 4 (o.li.length) (fun i => LI.row (o.li.getD i LI.z))) none] :: []))⟩]⟩ )
 else
 some (.normal, stOf 75 [1, 2, 3, 8, 12, 13, 14] [.val (.int .i64 (sec)), .val (.int .i64 (off)), .ptr 0 0 0, .val (.int .i64 (Int.ofNat b)), .ro (.tab 6 (o.sy.length) (fun i => SY.row (o.sy.getD i SY.z))) none, .val (.int .i64 (Int.ofNat o.sy.length)), .val (.int .i64 (IntKind.i64.wrap (Int.ofNat i + 1)))] ⟨1, [⟨0, 0, .cells (.rows true 5 ([.ro (.tab 5 (o.se.length) (fun i => SE.row (o.se.getD i SE.z))) none, .ro (.tab 6 (o.sy.length) (fun i => SY.row (o.sy.getD i SY.z))) none, .ro (.tab 5 (o.re.length) (fun i => RE.row (o.re.getD i RE.z))) none, .ro (.tab 1 (o.fi.length) (fun i => FI.row (o.fi.getD i FI.z))) none, .ro (.tab 4 (o.li.length) (fun i => LI.row (o.li.getD i LI.z))) none] :: []))⟩]⟩ )
 else
 none
 else
 bif (o.sy.getD b SY.z).snd.snd.fst != (o.sy.getD b SY.z).snd.snd.fst then
 bif inR (Int.ofNat b) o.sy.length then
 bif (o.sy.getD b SY.z).snd.snd.snd.fst != (o.sy.getD b SY.z).snd.snd.snd.fst then
 bif (o.sy.getD i SY.z).snd.snd.snd.fst != (o.sy.getD i SY.z).snd.snd.snd.fst then
 some (.normal, stOf 75 [1, 2, 3, 8, 12, 13, 14] [.val (.int .i64 (sec)), .val (.int .i64 (off)), .ptr 0 0 0, .val (.int .i64 (Int.ofNat i)), .ro (.tab 6 (o.sy.length) (fun i => SY.row (o.sy.getD i SY.z))) none, .val (.int .i64 (Int.ofNat o.sy.length)), .val (.int .i64 (IntKind.i64.wrap (Int.ofNat i + 1)))] ⟨1, [⟨0, 0, .cells (.rows true 5 ([.ro (.tab 5 (o.se.length) (fun i => SE.row (o.se.getD i SE.z))) none, .ro (.tab 6 (o.sy.length) (fun i => SY.row (o.sy.getD i SY.z))) none, .ro (.tab 5 (o.re.length) (fun i => RE.row (o.re.getD i RE.z))) none, .ro (.tab 1 (o.fi.length) (fun i => FI.row (o.fi.getD i FI.z))) none, .ro (.tab 4 (o.li.length) (fun i => LI.row (o.li.getD i LI.z))) none] :: []))⟩]⟩ )
 else
 some (.normal, stOf 75 [1, 2, 3, 8, 12, 13, 14] [.val (.int .i64 (sec)), .val (.int .i64 (off)), .ptr 0 0 0, .val (.int .i64 (Int.ofNat i)), .ro (.tab 6 (o.sy.length) (fun i => SY.row (o.sy.getD i SY.z))) none, .val (.int .i64 (Int.ofNat o.sy.length)), .val (.int .i64 (IntKind.i64.wrap (Int.ofNat i + 1)))] ⟨1, [⟨0, 0, .cells (.rows true 5 ([.ro (.tab 5 (o.se.length) (fun i => SE.row (o.se.getD i SE.z))) none, .ro (.tab 6 (o.sy.length) (fun i => SY.row (o.sy.getD i SY.z))) none, .ro (.tab 5 (o.re.length) (fun i => RE.row (o.re.getD i RE.z))) none, .ro (.tab 1 (o.fi.length) (fun i => FI.row (o.fi.getD i FI.z))) none, .ro (.tab 4 (o.li.length) (fun i => LI.row (o.li.getD i LI.z))) none] :: []))⟩]⟩ )
 else
 bif (o.sy.getD i SY.z).snd.snd.snd.fst != (o.sy.getD i SY.z).snd.snd.snd.fst then
 some (.normal, stOf 75 [1, 2, 3, 8, 12, 13, 14] [.val (.int .i64 (sec)), .val (.int .i64 (off)), .ptr 0 0 0, .val (.int .i64 (Int.ofNat i)), .ro (.tab 6 (o.sy.length) (fun i => SY.row (o.sy.getD i SY.z))) none, .val (.int .i64 (Int.ofNat o.sy.length)), .val (.int .i64 (IntKind.i64.wrap (Int.ofNat i + 1)))] ⟨1, [⟨0, 0, .cells (.rows true 5 ([.ro (.tab 5 (o.se.length) (fun i => SE.row (o.se.getD i SE.z))) none, .ro (.tab 6 (o.sy.length) (fun i => SY.row (o.sy.getD i SY.z))) none, .ro (.tab 5 (o.re.length) (fun i => RE.row (o.re.getD i RE.z))) none, .ro (.tab 1 (o.fi.length) (fun i => FI.row (o.fi.getD i FI.z))) none, .ro (.tab 4 (o.li.length) (fun i => LI.row (o.li.getD i LI.z))) none] :: []))⟩]⟩ )
 else
 bif decide ((o.sy.getD b SY.z).snd.snd.snd.fst < (o.sy.getD i SY.z).snd.snd.snd.fst) then
 some (.normal, stOf 75 [1, 2, 3, 8, 12, 13, 14] [.val (.int .i64 (sec)), .val (.int .i64 (off)), .ptr 0 0 0, .val (.int .i64 (Int.ofNat i)), .ro (.tab 6 (o.sy.length) (fun i => SY.row (o.sy.getD i SY.z))) none, .val (.int .i64 (Int.ofNat o.sy.length)), .val (.int .i64 (IntKind.i64.wrap (Int.ofNat i + 1)))] ⟨1, [⟨0, 0, .cells (.rows true 5 ([.ro (.tab 5 (o.se.length) (fun i => SE.row (o.se.getD i SE.z))) none, .ro (.tab 6 (o.sy.length) (fun i => SY.row (o.sy.getD i SY.z))) none, .ro (.tab 5 (o.re.length) (fun i => RE.row (o.re.getD i RE.z))) none, .ro (.tab 1 (o.fi.length) (fun i => FI.row (o.fi.getD i FI.z))) none, .ro (.tab 4 (o.li.length) (fun i => LI.row (o.li.getD i LI.z))) none] :: []))⟩]⟩ )
 else
 bif decide ((o.sy.getD b SY.z).snd.snd.snd.fst > (o.sy.getD i SY.z).snd.snd.snd.fst) then
 some (.normal, stOf 75 [1, 2, 3, 8, 12, 13, 14] [.val (.int .i64 (sec)), .val (.int .i64 (off)), .ptr 0 0 0, .val (.int .i64 (Int.ofNat i)), .ro (.tab 6 (o.sy.length) (fun i => SY.row (o.sy.getD i SY.z))) none, .val (.int .i64 (Int.ofNat o.sy.length)), .val (.int .i64 (IntKind.i64.wrap (Int.ofNat i + 1)))] ⟨1, [⟨0, 0, .cells (.rows true 5 ([.ro (.tab 5 (o.se.length) (fun i => SE.row (o.se.getD i SE.z))) none, .ro (.tab 6 (o.sy.length) (fun i => SY.row (o.sy.getD i SY.z))) none, .ro (.tab 5 (o.re.length) (fun i => RE.row (o.re.getD i RE.z))) none, .ro (.tab 1 (o.fi.length) (fun i => FI.row (o.fi.getD i FI.z))) none, .ro (.tab 4 (o.li.length) (fun i => LI.row (o.li.getD i LI.z))) none] :: []))⟩]⟩ )
 else
 some (.normal, stOf 75 [1, 2, 3, 8, 12, 13, 14] [.val (.int .i64 (sec)), .val (.int .i64 (off)), .ptr 0 0 0, .val (.int .i64 (Int.ofNat i)), .ro (.tab 6 (o.sy.length) (fun i => SY.row (o.sy.getD i SY.z))) none, .val (.int .i64 (Int.ofNat o.sy.length)), .val (.int .i64 (IntKind.i64.wrap (Int.ofNat i + 1)))] ⟨1, [⟨0, 0, .cells (.rows true 5 ([.ro (.tab 5 (o.se.length) (fun i => SE.row (o.se.getD i SE.z))) none, .ro (.tab 6 (o.sy.length) (fun i => SY.row (o.sy.getD i SY.z))) none, .ro (.tab 5 (o.re.length) (fun i => RE.row (o.re.getD i RE.z))) none, .ro (.tab 1 (o.fi.length) (fun i => FI.row (o.fi.getD i FI.z))) none, .ro (.tab 4 (o.li.length) (fun i => LI.row (o.li.getD i LI.z))) none] :: []))⟩]⟩ )
 else
 none
 else
 bif decide ((o.sy.getD i SY.z).snd.snd.fst < (o.sy.getD b SY.z).snd.snd.fst) then
 bif inR (Int.ofNat b) o.sy.length then
 bif (o.sy.getD b SY.z).snd.snd.snd.fst != (o.sy.getD b SY.z).snd.snd.snd.fst then
 bif (o.sy.getD i SY.z).snd.snd.snd.fst != (o.sy.getD i SY.z).snd.snd.snd.fst then
 some (.normal, stOf 75 [1, 2, 3, 8, 12, 13, 14] [.val (.int .i64 (sec)), .val (.int .i64 (off)), .ptr 0 0 0, .val (.int .i64 (Int.ofNat b)), .ro (.tab 6 (o.sy.length) (fun i => SY.row (o.sy.getD i SY.z))) none, .val (.int .i64 (Int.ofNat o.sy.length)), .val (.int .i64 (IntKind.i64.wrap (Int.ofNat i + 1)))] ⟨1, [⟨0, 0, .cells (.rows true 5 ([.ro (.tab 5 (o.se.length) (fun i => SE.row (o.se.getD i SE.z))) none, .ro (.tab 6 (o.sy.length) (fun i => SY.row (o.sy.getD i SY.z))) none, .ro (.tab 5 (o.re.length) (fun i => RE.row (o.re.getD i RE.z))) none, .ro (.tab 1 (o.fi.length) (fun i => FI.row (o.fi.getD i FI.z))) none, .ro (.tab 4 (o.li.length) (fun i => LI.row (o.li.getD i LI.z))) none] :: []))⟩]⟩ )
 else
 some (.normal, stOf 75 [1, 2, 3, 8, 12, 13, 14] [.val (.int .i64 (sec)), .val (.int .i64 (off)), .ptr 0 0 0, .val (.int .i64 (Int.ofNat b)), .ro (.tab 6 (o.sy.length) (fun i => SY.row (o.sy.getD i SY.z))) none, .val (.int .i64 (Int.ofNat o.sy.length)), .val (.int .i64 (IntKind.i64.wrap (Int.ofNat i + 1)))] ⟨1, [⟨0, 0, .cells (.rows true 5 ([.ro (.tab 5 (o.se.length) (fun i => SE.row (o.se.getD i SE.z))) none, .ro (.tab 6 (o.sy.length) (fun i => SY.row (o.sy.getD i SY.z))) none, .ro (.tab 5 (o.re.length) (fun i => RE.row (o.re.getD i RE.z))) none, .ro (.tab 1 (o.fi.length) (fun i => FI.row (o.fi.getD i FI.z))) none, .ro (.tab 4 (o.li.length) (fun i => LI.row (o.li.getD i LI.z))) none] :: []))⟩]⟩ )
 else
 bif (o.sy.getD i SY.z).snd.snd.snd.fst != (o.sy.getD i SY.z).snd.snd.snd.fst then
 some (.normal, stOf 75 [1, 2, 3, 8, 12, 13, 14] [.val (.int .i64 (sec)), .val (.int .i64 (off)), .ptr 0 0 0, .val (.int .i64 (Int.ofNat b)), .ro (.tab 6 (o.sy.length) (fun i => SY.row (o.sy.getD i SY.z))) none, .val (.int .i64 (Int.ofNat o.sy.length)), .val (.int .i64 (IntKind.i64.wrap (Int.ofNat i + 1)))] ⟨1, [⟨0, 0, .cells (.rows true 5 ([.ro (.tab 5 (o.se.length) (fun i => SE.row (o.se.getD i SE.z))) none, .ro (.tab 6 (o.sy.length) (fun i => SY.row (o.sy.getD i SY.z))) none, .ro (.tab 5 (o.re.length) (fun i => RE.row (o.re.getD i RE.z))) none, .ro (.tab 1 (o.fi.length) (fun i => FI.row (o.fi.getD i FI.z))) none, .ro (.tab 4 (o.li.length) (fun i => LI.row (o.li.getD i LI.z))) none] :: []))⟩]⟩ )
 else
 bif decide ((o.sy.getD b SY.z).snd.snd.snd.fst < (o.sy.getD i SY.z).snd.snd.snd.fst) then
 some (.normal, stOf 75 [1, 2, 3, 8, 12, 13, 14] [.val (.int .i64 (sec)), .val (.int .i64 (off)), .ptr 0 0 0, .val (.int .i64 (Int.ofNat b)), .ro (.tab 6 (o.sy.length) (fun i => SY.row (o.sy.getD i SY.z))) none, .val (.int .i64 (Int.ofNat o.sy.length)), .val (.int .i64 (IntKind.i64.wrap (Int.ofNat i + 1)))] ⟨1, [⟨0, 0, .cells (.rows true 5 ([.ro (.tab 5 (o.se.length) (fun i => SE.row (o.se.getD i SE.z))) none, .ro (.tab 6 (o.sy.length) (fun i => SY.row (o.sy.getD i SY.z))) none, .ro (.tab 5 (o.re.length) (fun i => RE.row (o.re.getD i RE.z))) none, .ro (.tab 1 (o.fi.length) (fun i => FI.row (o.fi.getD i FI.z))) none, .ro (.tab 4 (o.li.length) (fun i => LI.row (o.li.getD i LI.z))) none] :: []))⟩]⟩ )
 else
 bif decide ((o.sy.getD b SY.z).snd.snd.snd.fst > (o.sy.getD i SY.z).snd.snd.snd.fst) then
 some (.normal, stOf 75 [1, 2, 3, 8, 12, 13, 14] [.val (.int .i64 (sec)), .val (.int .i64 (off)), .ptr 0 0 0, .val (.int .i64 (Int.ofNat b)), .ro (.tab 6 (o.sy.length) (fun i => SY.row (o.sy.getD i SY.z))) none, .val (.int .i64 (Int.ofNat o.sy.length)), .val (.int .i64 (IntKind.i64.wrap (Int.ofNat i + 1)))] ⟨1, [⟨0, 0, .cells (.rows true 5 ([.ro (.tab 5 (o.se.length) (fun i => SE.row (o.se.getD i SE.z))) none, .ro (.tab 6 (o.sy.length) (fun i => SY.row (o.sy.getD i SY.z))) none, .ro (.tab 5 (o.re.length) (fun i => RE.row (o.re.getD i RE.z))) none, .ro (.tab 1 (o.fi.length) (fun i => FI.row (o.fi.getD i FI.z))) none, .ro (.tab 4 (o.li.length) (fun i => LI.row (o.li.getD i LI.z))) none] :: []))⟩]⟩ )
 else
 some (.normal, stOf 75 [1, 2, 3, 8, 12, 13, 14] [.val (.int .i64 (sec)), .val (.int .i64 (off)), .ptr 0 0 0, .val (.int .i64 (Int.ofNat b)), .ro (.tab 6 (o.sy.length) (fun i => SY.row (o.sy.getD i SY.z))) none, .val (.int .i64 (Int.ofNat o.sy.length)), .val (.int .i64 (IntKind.i64.wrap (Int.ofNat i + 1)))] ⟨1, [⟨0, 0, .cells (.rows true 5 ([.ro (.tab 5 (o.se.length) (fun i => SE.row (o.se.getD i SE.z))) none, .ro (.tab 6 (o.sy.length) (fun i => SY.row (o.sy.getD i SY.z))) none, .ro (.tab 5 (o.re.length) (fun i => RE.row (o.re.getD i RE.z))) none, .ro (.tab 1 (o.fi.length) (fun i => FI.row (o.fi.getD i FI.z))) none, .ro (.tab 4 (o.li.length) (fun i => LI.row (o.li.getD i LI.z))) none] :: []))⟩]⟩ )
 else
 none
 else
 bif decide ((o.sy.getD i SY.z).snd.snd.fst > (o.sy.getD b SY.z).snd.snd.fst) then
 bif inR (Int.ofNat b) o.sy.length then
 bif (o.sy.getD b SY.z).snd.snd.snd.fst != (o.sy.getD b SY.z).snd.snd.snd.fst then
 bif (o.sy.getD i SY.z).snd.snd.snd.fst != (o.sy.getD i SY.z).snd.snd.snd.fst then
 some (.normal, stOf 75 [1, 2, 3, 8, 12, 13, 14] [.val (.int .i64 (sec)), .val (.int .i64 (off)), .ptr 0 0 0, .val (.int .i64 (Int.ofNat i)), .ro (.tab 6 (o.sy.length) (fun i => SY.row (o.sy.getD i SY.z))) none, .val (.int .i64 (Int.ofNat o.sy.length)), .val (.int .i64 (IntKind.i64.wrap (Int.ofNat i + 1)))] ⟨1, [⟨0, 0, .cells (.rows true 5 ([.ro (.tab 5 (o.se.length) (fun i => SE.row (o.se.getD i SE.z))) none, .ro (.tab 6 (o.sy.length) (fun i => SY.row (o.sy.getD i SY.z))) none, .ro (.tab 5 (o.re.length) (fun i => RE.row (o.re.getD i RE.z))) none, .ro (.tab 1 (o.fi.length) (fun i => FI.row (o.fi.getD i FI.z))) none, .ro (.tab 4 (o.li.length) (fun i => LI.row (o.li.getD i LI.z))) none] :: []))⟩]⟩ )
 else
 some (.normal, stOf 75 [1, 2, 3, 8, 12, 13, 14] [.val (.int .i64 (sec)), .val (.int .i64 (off)), .ptr 0 0 0, .val (.int .i64 (Int.ofNat i)), .ro (.tab 6 (o.sy.length) (fun i => SY.row (o.sy.getD i SY.z))) none, .val (.int .i64 (Int.ofNat o.sy.length)), .val (.int .i64 (IntKind.i64.wrap (Int.ofNat i + 1)))] ⟨1, [⟨0, 0, .cells (.rows true 5 ([.ro (.tab 5 (o.se.length) (fun i => SE.row (o.se.getD i SE.z))) none, .ro (.tab 6 (o.sy.length) (fun i => SY.row (o.sy.getD i SY.z))) none, .ro (.tab 5 (o.re.length) (fun i => RE.row (o.re.getD i RE.z))) none, .ro (.tab 1 (o.fi.length) (fun i => FI.row (o.fi.getD i FI.z))) none, .ro (.tab 4 (o.li.length) (fun i => LI.row (o.li.getD i LI.z))) none] :: []))⟩]⟩ )
 else
 bif (o.sy.getD i SY.z).snd.snd.snd.fst != (o.sy.getD i SY.z).snd.snd.snd.fst then
 some (.normal, stOf 75 [1, 2, 3, 8, 12, 13, 14] [.val (.int .i64 (sec)), .val (.int .i64 (off)), .ptr 0 0 0, .val (.int .i64 (Int.ofNat i)), .ro (.tab 6 (o.sy.length) (fun i => SY.row (o.sy.getD i SY.z))) none, .val (.int .i64 (Int.ofNat o.sy.length)), .val (.int .i64 (IntKind.i64.wrap (Int.ofNat i + 1)))] ⟨1, [⟨0, 0, .cells (.rows true 5 ([.ro (.tab 5 (o.se.length) (fun i => SE.row (o.se.getD i SE.z))) none, .ro (.tab 6 (o.sy.length) (fun i => SY.row (o.sy.getD i SY.z))) none, .ro (.tab 5 (o.re.length) (fun i => RE.row (o.re.getD i RE.z))) none, .ro (.tab 1 (o.fi.length) (fun i => FI.row (o.fi.getD i FI.z))) none, .ro (.tab 4 (o.li.length) (fun i => LI.row (o.li.getD i LI.z))) none] :: []))⟩]⟩ )
 else
 bif decide ((o.sy.getD b SY.z).snd.snd.snd.fst < (o.sy.getD i SY.z).snd.snd.snd.fst) then
 some (.normal, stOf 75 [1, 2, 3, 8, 12, 13, 14] [.val (.int .i64 (sec)), .val (.int .i64 (off)), .ptr 0 0 0, .val (.int .i64 (Int.ofNat i)), .ro (.tab 6 (o.sy.length) (fun i => SY.row (o.sy.getD i SY.z))) none, .val (.int .i64 (Int.ofNat o.sy.length)), .val (.int .i64 (IntKind.i64.wrap (Int.ofNat i + 1)))] ⟨1, [⟨0, 0, .cells (.rows true 5 ([.ro (.tab 5 (o.se.length) (fun i => SE.row (o.se.getD i SE.z))) none, .ro (.tab 6 (o.sy.length) (fun i => SY.row (o.sy.getD i SY.z))) none, .ro (.tab 5 (o.re.length) (fun i => RE.row (o.re.getD i RE.z))) none, .ro (.tab 1 (o.fi.length) (fun i => FI.row (o.fi.getD i FI.z))) none, .ro (.tab 4 (o.li.length) (fun i => LI.row (o.li.getD i LI.z))) none] :: []))⟩]⟩ )
 else
 bif decide ((o.sy.getD b SY.z).snd.snd.snd.fst > (o.sy.getD i SY.z).snd.snd.snd.fst) then
 some (.normal, stOf 75 [1, 2, 3, 8, 12, 13, 14] [.val (.int .i64 (sec)), .val (.int .i64 (off)), .ptr 0 0 0, .val (.int .i64 (Int.ofNat i)), .ro (.tab 6 (o.sy.length) (fun i => SY.row (o.sy.getD i SY.z))) none, .val (.int .i64 (Int.ofNat o.sy.length)), .val (.int .i64 (IntKind.i64.wrap (Int.ofNat i + 1)))] ⟨1, [⟨0, 0, .cells (.rows true 5 ([.ro (.tab 5 (o.se.length) (fun i => SE.row (o.se.getD i SE.z))) none, .ro (.tab 6 (o.sy.length) (fun i => SY.row (o.sy.getD i SY.z))) none, .ro (.tab 5 (o.re.length) (fun i => RE.row (o.re.getD i RE.z))) none, .ro (.tab 1 (o.fi.length) (fun i => FI.row (o.fi.getD i FI.z))) none, .ro (.tab 4 (o.li.length) (fun i => LI.row (o.li.getD i LI.z))) none] :: []))⟩]⟩ )
 else
 some (.normal, stOf 75 [1, 2, 3, 8, 12, 13, 14] [.val (.int .i64 (sec)), .val (.int .i64 (off)), .ptr 0 0 0, .val (.int .i64 (Int.ofNat i)), .ro (.tab 6 (o.sy.length) (fun i => SY.row (o.sy.getD i SY.z))) none, .val (.int .i64 (Int.ofNat o.sy.length)), .val (.int .i64 (IntKind.i64.wrap (Int.ofNat i + 1)))] ⟨1, [⟨0, 0, .cells (.rows true 5 ([.ro (.tab 5 (o.se.length) (fun i => SE.row (o.se.getD i SE.z))) none, .ro (.tab 6 (o.sy.length) (fun i => SY.row (o.sy.getD i SY.z))) none, .ro (.tab 5 (o.re.length) (fun i => RE.row (o.re.getD i RE.z))) none, .ro (.tab 1 (o.fi.length) (fun i => FI.row (o.fi.getD i FI.z))) none, .ro (.tab 4 (o.li.length) (fun i => LI.row (o.li.getD i LI.z))) none] :: []))⟩]⟩ )
 else
 none
 else
 bif inR (Int.ofNat b) o.sy.length then
 bif (o.sy.getD b SY.z).snd.snd.snd.fst != (o.sy.getD b SY.z).snd.snd.snd.fst then
 bif (o.sy.getD i SY.z).snd.snd.snd.fst != (o.sy.getD i SY.z).snd.snd.snd.fst then
 some (.normal, stOf 75 [1, 2, 3, 8, 12, 13, 14] [.val (.int .i64 (sec)), .val (.int .i64 (off)), .ptr 0 0 0, .val (.int .i64 (Int.ofNat b)), .ro (.tab 6 (o.sy.length) (fun i => SY.row (o.sy.getD i SY.z))) none, .val (.int .i64 (Int.ofNat o.sy.length)), .val (.int .i64 (IntKind.i64.wrap (Int.ofNat i + 1)))] ⟨1, [⟨0, 0, .cells (.rows true 5 ([.ro (.tab 5 (o.se.length) (fun i => SE.row (o.se.getD i SE.z))) none, .ro (.tab 6 (o.sy.length) (fun i => SY.row (o.sy.getD i SY.z))) none, .ro (.tab 5 (o.re.length) (fun i => RE.row (o.re.getD i RE.z))) none, .ro (.tab 1 (o.fi.length) (fun i => FI.row (o.fi.getD i FI.z))) none, .ro (.tab 4 (o.li.length) (fun i => LI.row (o.li.getD i LI.z))) none] :: []))⟩]⟩ )
 else
 some (.normal, stOf 75 [1, 2, 3, 8, 12, 13, 14] [.val (.int .i64 (sec)), .val (.int .i64 (off)), .ptr 0 0 0, .val (.int .i64 (Int.ofNat b)), .ro (.tab 6 (o.sy.length) (fun i => SY.row (o.sy.getD i SY.z))) none, .val (.int .i64 (Int.ofNat o.sy.length)), .val (.int .i64 (IntKind.i64.wrap (Int.ofNat i + 1)))] ⟨1, [⟨0, 0, .cells (.rows true 5 ([.ro (.tab 5 (o.se.length) (fun i => SE.row (o.se.getD i SE.z))) none, .ro (.tab 6 (o.sy.length) (fun i => SY.row (o.sy.getD i SY.z))) none, .ro (.tab 5 (o.re.length) (fun i => RE.row (o.re.getD i RE.z))) none, .ro (.tab 1 (o.fi.length) (fun i => FI.row (o.fi.getD i FI.z))) none, .ro (.tab 4 (o.li.length) (fun i => LI.row (o.li.getD i LI.z))) none] :: []))⟩]⟩ )
 else
 bif (o.sy.getD i SY.z).snd.snd.snd.fst != (o.sy.getD i SY.z).snd.snd.snd.fst then
 some (.normal, stOf 75 [1, 2, 3, 8, 12, 13, 14] [.val (.int .i64 (sec)), .val (.int .i64 (off)), .ptr 0 0 0, .val (.int .i64 (Int.ofNat i)), .ro (.tab 6 (o.sy.length) (fun i => SY.row (o.sy.getD i SY.z))) none, .val (.int .i64 (Int.ofNat o.sy.length)), .val (.int .i64 (IntKind.i64.wrap (Int.ofNat i + 1)))] ⟨1, [⟨0, 0, .cells (.rows true 5 ([.ro (.tab 5 (o.se.length) (fun i => SE.row (o.se.getD i SE.z))) none, .ro (.tab 6 (o.sy.length) (fun i => SY.row (o.sy.getD i SY.z))) none, .ro (.tab 5 (o.re.length) (fun i => RE.row (o.re.getD i RE.z))) none, .ro (.tab 1 (o.fi.length) (fun i => FI.row (o.fi.getD i FI.z))) none, .ro (.tab 4 (o.li.length) (fun i => LI.row (o.li.getD i LI.z))) none] :: []))⟩]⟩ )
 else
 bif decide ((o.sy.getD b SY.z).snd.snd.snd.fst < (o.sy.getD i SY.z).snd.snd.snd.fst) then
 some (.normal, stOf 75 [1, 2, 3, 8, 12, 13, 14] [.val (.int .i64 (sec)), .val (.int .i64 (off)), .ptr 0 0 0, .val (.int .i64 (Int.ofNat b)), .ro (.tab 6 (o.sy.length) (fun i => SY.row (o.sy.getD i SY.z))) none, .val (.int .i64 (Int.ofNat o.sy.length)), .val (.int .i64 (IntKind.i64.wrap (Int.ofNat i + 1)))] ⟨1, [⟨0, 0, .cells (.rows true 5 ([.ro (.tab 5 (o.se.length) (fun i => SE.row (o.se.getD i SE.z))) none, .ro (.tab 6 (o.sy.length) (fun i => SY.row (o.sy.getD i SY.z))) none, .ro (.tab 5 (o.re.length) (fun i => RE.row (o.re.getD i RE.z))) none, .ro (.tab 1 (o.fi.length) (fun i => FI.row (o.fi.getD i FI.z))) none, .ro (.tab 4 (o.li.length) (fun i => LI.row (o.li.getD i LI.z))) none] :: []))⟩]⟩ )
 else
 bif decide ((o.sy.getD b SY.z).snd.snd.snd.fst > (o.sy.getD i SY.z).snd.snd.snd.fst) then
 some (.normal, stOf 75 [1, 2, 3, 8, 12, 13, 14] [.val (.int .i64 (sec)), .val (.int .i64 (off)), .ptr 0 0 0, .val (.int .i64 (Int.ofNat i)), .ro (.tab 6 (o.sy.length) (fun i => SY.row (o.sy.getD i SY.z))) none, .val (.int .i64 (Int.ofNat o.sy.length)), .val (.int .i64 (IntKind.i64.wrap (Int.ofNat i + 1)))] ⟨1, [⟨0, 0, .cells (.rows true 5 ([.ro (.tab 5 (o.se.length) (fun i => SE.row (o.se.getD i SE.z))) none, .ro (.tab 6 (o.sy.length) (fun i => SY.row (o.sy.getD i SY.z))) none, .ro (.tab 5 (o.re.length) (fun i => RE.row (o.re.getD i RE.z))) none, .ro (.tab 1 (o.fi.length) (fun i => FI.row (o.fi.getD i FI.z))) none, .ro (.tab 4 (o.li.length) (fun i => LI.row (o.li.getD i LI.z))) none] :: []))⟩]⟩ )
 else
 some (.normal, stOf 75 [1, 2, 3, 8, 12, 13, 14] [.val (.int .i64 (sec)), .val (.int .i64 (off)), .ptr 0 0 0, .val (.int .i64 (Int.ofNat b)), .ro (.tab 6 (o.sy.length) (fun i => SY.row (o.sy.getD i SY.z))) none, .val (.int .i64 (Int.ofNat o.sy.length)), .val (.int .i64 (IntKind.i64.wrap (Int.ofNat i + 1)))] ⟨1, [⟨0, 0, .cells (.rows true 5 ([.ro (.tab 5 (o.se.length) (fun i => SE.row (o.se.getD i SE.z))) none, .ro (.tab 6 (o.sy.length) (fun i => SY.row (o.sy.getD i SY.z))) none, .ro (.tab 5 (o.re.length) (fun i => RE.row (o.re.getD i RE.z))) none, .ro (.tab 1 (o.fi.length) (fun i => FI.row (o.fi.getD i FI.z))) none, .ro (.tab 4 (o.li.length) (fun i => LI.row (o.li.getD i LI.z))) none] :: []))⟩]⟩ )
 else
 none
 else
 none
 else
 none
 else
 some (.exit 0, stOf 75 [8] [.val (.int .i64 (Int.ofNat b))] ⟨0, []⟩) := by kernel_rfl
theorem Tryz.rSn (o : OD) (sec off : Int) (i : Nat) : Tryz.BSa (stOf 75 [1, 2, 3, 8, 12, 13, 14] [.val (.int .i64 sec), .val (.int .i64 off), .ptr 0 0 0, .val (.int .i64 (-1)), .ro (SY.con o.sy) none, .val (.int .i64 (Int.ofNat o.sy.length)), .val (.int .i64 (.ofNat i))] (hSa o)) =
 bif decide (Int.ofNat i < Int.ofNat o.sy.length) then
 bif inR (Int.ofNat i) o.sy.length then
 bif (o.sy.getD i SY.z).snd.fst != sec then
 some (.normal, stOf 75 [1, 2, 3, 8, 12, 13, 14] [.val (.int .i64 (sec)), .val (.int .i64 (off)), .ptr 0 0 0, .val (.int .i64 (-1)), .ro (.tab 6 (o.sy.length) (fun i => SY.row (o.sy.getD i SY.z))) none, .val (.int .i64 (Int.ofNat o.sy.length)), .val (.int .i64 (IntKind.i64.wrap (Int.ofNat i + 1)))] ⟨1, [⟨0, 0, .cells (.rows true 5 ([.ro (.tab 5 (o.se.length) (fun i => SE.row (o.se.getD i SE.z))) none, .ro (.tab 6 (o.sy.length) (fun i => SY.row (o.sy.getD i SY.z))) none, .ro (.tab 5 (o.re.length) (fun i => RE.row (o.re.getD i RE.z))) none, .ro (.tab 1 (o.fi.length) (fun i => FI.row (o.fi.getD i FI.z))) none, .ro (.tab 4 (o.li.length) (fun i => LI.row (o.li.getD i LI.z))) none] :: []))⟩]⟩ )
 else
 bif decide (sec < 0) then
 some (.normal, stOf 75 [1, 2, 3, 8, 12, 13, 14] [.val (.int .i64 (sec)), .val (.int .i64 (off)), .ptr 0 0 0, .val (.int .i64 (-1)), .ro (.tab 6 (o.sy.length) (fun i => SY.row (o.sy.getD i SY.z))) none, .val (.int .i64 (Int.ofNat o.sy.length)), .val (.int .i64 (IntKind.i64.wrap (Int.ofNat i + 1)))] ⟨1, [⟨0, 0, .cells (.rows true 5 ([.ro (.tab 5 (o.se.length) (fun i => SE.row (o.se.getD i SE.z))) none, .ro (.tab 6 (o.sy.length) (fun i => SY.row (o.sy.getD i SY.z))) none, .ro (.tab 5 (o.re.length) (fun i => RE.row (o.re.getD i RE.z))) none, .ro (.tab 1 (o.fi.length) (fun i => FI.row (o.fi.getD i FI.z))) none, .ro (.tab 4 (o.li.length) (fun i => LI.row (o.li.getD i LI.z))) none] :: []))⟩]⟩ )
 else
 bif decide (IntKind.i64.wrap (o.sy.getD i SY.z).snd.snd.fst > off) then
 some (.normal, stOf 75 [1, 2, 3, 8, 12, 13, 14] [.val (.int .i64 (sec)), .val (.int .i64 (off)), .ptr 0 0 0, .val (.int .i64 (-1)), .ro (.tab 6 (o.sy.length) (fun i => SY.row (o.sy.getD i SY.z))) none, .val (.int .i64 (Int.ofNat o.sy.length)), .val (.int .i64 (IntKind.i64.wrap (Int.ofNat i + 1)))] ⟨1, [⟨0, 0, .cells (.rows true 5 ([.ro (.tab 5 (o.se.length) (fun i => SE.row (o.se.getD i SE.z))) none, .ro (.tab 6 (o.sy.length) (fun i => SY.row (o.sy.getD i SY.z))) none, .ro (.tab 5 (o.re.length) (fun i => RE.row (o.re.getD i RE.z))) none, .ro (.tab 1 (o.fi.length) (fun i => FI.row (o.fi.getD i FI.z))) none, .ro (.tab 4 (o.li.length) (fun i => LI.row (o.li.getD i LI.z))) none] :: []))⟩]⟩ )
 else
 bif decide (IntKind.i64.wrap (off - IntKind.i64.wrap (o.sy.getD i SY.z).snd.snd.fst) ≥ (o.sy.getD i SY.z).snd.snd.snd.fst) then
 some (.normal, stOf 75 [1, 2, 3, 8, 12, 13, 14] [.val (.int .i64 (sec)), .val (.int .i64 (off)), .ptr 0 0 0, .val (.int .i64 (-1)), .ro (.tab 6 (o.sy.length) (fun i => SY.row (o.sy.getD i SY.z))) none, .val (.int .i64 (Int.ofNat o.sy.length)), .val (.int .i64 (IntKind.i64.wrap (Int.ofNat i + 1)))] ⟨1, [⟨0, 0, .cells (.rows true 5 ([.ro (.tab 5 (o.se.length) (fun i => SE.row (o.se.getD i SE.z))) none, .ro (.tab 6 (o.sy.length) (fun i => SY.row (o.sy.getD i SY.z))) none, .ro (.tab 5 (o.re.length) (fun i => RE.row (o.re.getD i RE.z))) none, .ro (.tab 1 (o.fi.length) (fun i => FI.row (o.fi.getD i FI.z))) none, .ro (.tab 4 (o.li.length) (fun i => LI.row (o.li.getD i LI.z))) none] :: []))⟩]⟩ )
 else
 some (.normal, stOf 75 [1, 2, 3, 8, 12, 13, 14] [.val (.int .i64 (sec)), .val (.int .i64 (off)), .ptr 0 0 0, .val (.int .i64 (Int.ofNat i)), .ro (.tab 6 (o.sy.length) (fun i => SY.row (o.sy.getD i SY.z))) none, .val (.int .i64 (Int.ofNat o.sy.length)), .val (.int .i64 (IntKind.i64.wrap (Int.ofNat i + 1)))] ⟨1, [⟨0, 0, .cells (.rows true 5 ([.ro (.tab 5 (o.se.length) (fun i => SE.row (o.se.getD i SE.z))) none, .ro (.tab 6 (o.sy.length) (fun i => SY.row (o.sy.getD i SY.z))) none, .ro (.tab 5 (o.re.length) (fun i => RE.row (o.re.getD i RE.z))) none, .ro (.tab 1 (o.fi.length) (fun i => FI.row (o.fi.getD i FI.z))) none, .ro (.tab 4 (o.li.length) (fun i => LI.row (o.li.getD i LI.z))) none] :: []))⟩]⟩ )
 else
 none
 else
 some (.exit 0, stOf 75 [8] [.val (.int .i64 (-1))] ⟨0, []⟩) := by kernel_rfl
end Go.Ev
/- SymbolAt: the loop. -/
namespace Go.Ev
open Go.Proofs
noncomputable section
def coversP (s : SymD) (sec off : Int) : Prop := 0 ≤ sec ∧ s.2.1 = sec ∧ s.2.2.1 ≤ off ∧ off - s.2.2.1 < s.2.2.2.1
def betterP (s t : SymD) : Prop := t.2.2.1 < s.2.2.1 ∨ s.2.2.1 = t.2.2.1 ∧ s.2.2.2.1 < t.2.2.2.1
open Classical in
def nextB (L : List SymD) (sec off : Int) (i : Nat) (r : Option Nat) : Option Nat :=
  if coversP (L.getD i SY.z) sec off then (match r with
    | none => some i
    | some b => if betterP (L.getD i SY.z) (L.getD b SY.z) then some i else some b) else r
def saF (L : List SymD) (sec off : Int) : Nat → Option Nat
  | 0 => none
  | n + 1 => nextB L sec off n (saF L sec off n)
def bestV : Option Nat → AV
  | none => .val (.int .i64 (-1))
  | some b => .val (.int .i64 (.ofNat b))
def sSa (o : OD) (sec off : Int) (r : Option Nat) (i : Nat) : St := stOf 75 [1, 2, 3, 8, 12, 13, 14] [.val (.int .i64 sec), .val (.int .i64 off), .ptr 0 0 0, bestV r, .ro (SY.con o.sy) none, .val (.int .i64 (Int.ofNat o.sy.length)), .val (.int .i64 (.ofNat i))] (hSa o)
def xSa (r : Option Nat) : AX × St := (.exit 0, stOf 75 [8] [bestV r] ⟨0, []⟩)
def LSa (o : OD) (sec off : Int) : LSum := atL (sSa o sec off none 0) (.br (saF o.sy sec off o.sy.length).isSome (.out (xSa (some ((saF o.sy sec off o.sy.length).getD 0)))) (.out (xSa none)))
end
theorem saF_lt (L : List SymD) (sec off : Int) : ∀ n b, saF L sec off n = some b → b < n
  | 0, b, h => by cases h
  | n + 1, b, h => by
    have ih := saF_lt L sec off n
    unfold saF nextB at h
    split at h
    · cases hq : saF L sec off n with
      | none => rw [hq] at h; injection h with h; omega
      | some c =>
        rw [hq] at h
        have := ih c hq
        simp only at h
        split at h <;> injection h with h <;> omega
    · have := ih b h; omega
theorem Tryz.rSs (o : OD) (sec off : Int) (hs : ∀ s ∈ o.sy, syBound s) (ho : off < 9223372036854775808) (hl : o.sy.length ≤ 140737488355328) (r : Option Nat) (hr : ∀ b, r = some b → b < o.sy.length) {i : Nat} (hi : i < o.sy.length) :
    Tryz.BSa (sSa o sec off r i) = some (.normal, sSa o sec off (nextB o.sy sec off i r) (i + 1)) := by
  have hb := hs _ (getD_mem (d := SY.z) hi)
  unfold syBound at hb
  have w1 : IntKind.i64.wrap (Int.ofNat i + 1) = Int.ofNat (i + 1) := by rw [Int.ofNat_eq_natCast, wrap64 _ (by omega) (by omega), Int.ofNat_eq_natCast]; omega
  have w2 : IntKind.i64.wrap (o.sy.getD i SY.z).snd.snd.fst = (o.sy.getD i SY.z).snd.snd.fst := wrap64 _ (by omega) (by omega)
  have g1 : decide (Int.ofNat i < Int.ofNat o.sy.length) = true := decide_eq_true (by rw [Int.ofNat_eq_natCast, Int.ofNat_eq_natCast]; omega)
  have g2 : inR (Int.ofNat i) o.sy.length = true := by rw [Int.ofNat_eq_natCast, inR_nat, decide_eq_true hi]
  cases r with
  | none =>
    have key := Tryz.rSn o sec off i
    rw [g1, g2, w1, w2] at key
    simp only [cond_true] at key
    unfold nextB
    by_cases c1 : (o.sy.getD i SY.z).2.1 = sec
    rotate_left
    · rw [show ((o.sy.getD i SY.z).snd.fst != sec) = true from bne_iff_ne.2 c1, cond_true] at key
      rw [if_neg (fun q => c1 q.2.1)]; exact key
    rw [show ((o.sy.getD i SY.z).snd.fst != sec) = false by rw [c1]; exact bne_self_eq_false sec, cond_false] at key
    by_cases c2 : sec < 0
    · rw [decide_eq_true c2, cond_true] at key
      rw [if_neg (fun q => by have := q.1; omega)]; exact key
    rw [decide_eq_false c2, cond_false] at key
    by_cases c3 : (o.sy.getD i SY.z).2.2.1 > off
    · rw [decide_eq_true c3, cond_true] at key
      rw [if_neg (fun q => by have := q.2.2.1; omega)]; exact key
    rw [decide_eq_false c3, cond_false, wrap64 (off - (o.sy.getD i SY.z).snd.snd.fst) (by omega) (by omega)] at key
    by_cases c4 : off - (o.sy.getD i SY.z).2.2.1 ≥ (o.sy.getD i SY.z).2.2.2.1
    · rw [decide_eq_true c4, cond_true] at key
      rw [if_neg (fun q => by have := q.2.2.2; omega)]; exact key
    rw [decide_eq_false c4, cond_false] at key
    rw [if_pos ⟨by omega, c1, by omega, by omega⟩]; exact key
  | some b =>
    have hbl := hr b rfl
    have g3 : inR (Int.ofNat b) o.sy.length = true := by rw [Int.ofNat_eq_natCast, inR_nat, decide_eq_true hbl]
    have key := Tryz.rSa o sec off b i
    simp only [g1, g2, g3, w1, w2, cond_true, cond_false, bne_self_eq_false] at key
    unfold nextB
    by_cases c1 : (o.sy.getD i SY.z).2.1 = sec
    rotate_left
    · rw [show ((o.sy.getD i SY.z).snd.fst != sec) = true from bne_iff_ne.2 c1, cond_true] at key
      rw [if_neg (fun q => c1 q.2.1)]; exact key
    rw [show ((o.sy.getD i SY.z).snd.fst != sec) = false by rw [c1]; exact bne_self_eq_false sec, cond_false] at key
    by_cases c2 : sec < 0
    · rw [decide_eq_true c2, cond_true] at key
      rw [if_neg (fun q => by have := q.1; omega)]; exact key
    rw [decide_eq_false c2, cond_false] at key
    by_cases c3 : (o.sy.getD i SY.z).2.2.1 > off
    · rw [decide_eq_true c3, cond_true] at key
      rw [if_neg (fun q => by have := q.2.2.1; omega)]; exact key
    rw [decide_eq_false c3, cond_false, wrap64 (off - (o.sy.getD i SY.z).snd.snd.fst) (by omega) (by omega)] at key
    by_cases c4 : off - (o.sy.getD i SY.z).2.2.1 ≥ (o.sy.getD i SY.z).2.2.2.1
    · rw [decide_eq_true c4, cond_true] at key
      rw [if_neg (fun q => by have := q.2.2.2; omega)]; exact key
    rw [decide_eq_false c4, cond_false] at key
    rw [if_pos ⟨by omega, c1, by omega, by omega⟩]
    simp only
    unfold betterP
    by_cases d1 : (o.sy.getD i SY.z).2.2.1 < (o.sy.getD b SY.z).2.2.1
    · rw [if_neg (fun q => by omega)]
      by_cases d2 : (o.sy.getD b SY.z).2.2.2.1 < (o.sy.getD i SY.z).2.2.2.1
      · simp only [decide_eq_true d1, decide_eq_true d2, cond_true] at key; exact key
      · by_cases d3 : (o.sy.getD b SY.z).2.2.2.1 > (o.sy.getD i SY.z).2.2.2.1
        · simp only [decide_eq_true d1, decide_eq_false d2, decide_eq_true d3, cond_true, cond_false] at key; exact key
        · simp only [decide_eq_true d1, decide_eq_false d2, decide_eq_false d3, cond_true, cond_false] at key; exact key
    · by_cases e1 : (o.sy.getD i SY.z).2.2.1 > (o.sy.getD b SY.z).2.2.1
      · rw [if_pos (Or.inl (by omega))]
        by_cases d2 : (o.sy.getD b SY.z).2.2.2.1 < (o.sy.getD i SY.z).2.2.2.1
        · simp only [decide_eq_false d1, decide_eq_true e1, decide_eq_true d2, cond_true, cond_false] at key; exact key
        · by_cases d3 : (o.sy.getD b SY.z).2.2.2.1 > (o.sy.getD i SY.z).2.2.2.1
          · simp only [decide_eq_false d1, decide_eq_true e1, decide_eq_false d2, decide_eq_true d3, cond_true, cond_false] at key; exact key
          · simp only [decide_eq_false d1, decide_eq_true e1, decide_eq_false d2, decide_eq_false d3, cond_true, cond_false] at key; exact key
      · by_cases d2 : (o.sy.getD b SY.z).2.2.2.1 < (o.sy.getD i SY.z).2.2.2.1
        · rw [if_neg (fun q => by omega)]
          simp only [decide_eq_false d1, decide_eq_false e1, decide_eq_true d2, cond_true, cond_false] at key; exact key
        · by_cases d3 : (o.sy.getD b SY.z).2.2.2.1 > (o.sy.getD i SY.z).2.2.2.1
          · rw [if_pos (Or.inr ⟨by omega, by omega⟩)]
            simp only [decide_eq_false d1, decide_eq_false e1, decide_eq_false d2, decide_eq_true d3, cond_true, cond_false] at key; exact key
          · rw [if_neg (fun q => by omega)]
            simp only [decide_eq_false d1, decide_eq_false e1, decide_eq_false d2, decide_eq_false d3, cond_true, cond_false] at key; exact key
theorem Tryz.rSe (o : OD) (sec off : Int) (r : Option Nat) : Tryz.BSa (sSa o sec off r o.sy.length) = some (xSa r) := by
  have g1 : decide (Int.ofNat o.sy.length < Int.ofNat o.sy.length) = false := decide_eq_false (by omega)
  cases r with
  | none => have key := Tryz.rSn o sec off o.sy.length; rw [g1, cond_false] at key; exact key
  | some b => have key := Tryz.rSa o sec off b o.sy.length; rw [g1, cond_false] at key; exact key
theorem Tryz.eSa : EnvOk2 Tryz.prog Tryz.ESa := Tryz.envOk false (sumsOf []) _ (fun g A h => by cases h)
theorem hSa_ok (o : OD) : (hSa o).ok := oneH_ok _
theorem xSa_ok (r : Option Nat) : (xSa r).2.h.ok := by cases r <;> exact heap0_ok
theorem Tryz.lSa (o : OD) (sec off : Int) (hs : ∀ s ∈ o.sy, syBound s) (ho : off < 9223372036854775808) (hl : o.sy.length ≤ 140737488355328) : ∀ s e s', s.h.ok → (LSa o sec off s).run = some (e, s') → Triple Tryz.prog (.loop Tryz.bSa) s e s' := by
  refine loop_at Tryz.eSa (d := 4) (g := 24) (ls := lsumsOf []) (c := Tryz.bSa) trivial [1, 2, 3, 8, 12, 13, 14] [8] (T := Nat) (fun n => sSa o sec off (saF o.sy sec off n) n) (fun n => n ≤ o.sy.length) (fun n => o.sy.length - n) (fun _ => xSa (saF o.sy sec off o.sy.length)) _ _ 0 (Nat.zero_le _) (Weak.refl (hSa_ok o)) ?_ (fun _ _ => hSa_ok o) ?_
  · intro e s' h
    rw [Ans.run_br] at h
    cases hq : saF o.sy sec off o.sy.length with
    | none => rw [hq] at h; injection h
    | some x => rw [hq] at h; injection h
  · intro n hn
    by_cases hlt : n < o.sy.length
    · exact .inl ⟨n + 1, _, Tryz.rSs o sec off hs ho hl (saF o.sy sec off n) (fun b hb => by have := saF_lt _ _ _ _ _ hb; omega) hlt, Weak.refl (hSa_ok o), by omega, by omega, rfl⟩
    · have e : n = o.sy.length := by omega
      subst e
      exact .inr ⟨_, Tryz.rSe o sec off _, Weak.refl (xSa_ok _), by simp [xSa]⟩
theorem Tryz.wSa (o : OD) (sec off : Int) : rootS Tryz.ESa 4 24 (lsumsOf [(3, LSa o sec off)]) [o.av, .val (.int .i64 sec), .val (.int .i64 off)] =
 bif isSt (sSa o sec off none 0) (sSa o sec off none 0) then
 bif (saF o.sy sec off o.sy.length).isSome then
 some (.tup [.val (.int .i64 (if 0 > Int.ofNat ((saF o.sy sec off o.sy.length).getD 0) then 0 else Int.ofNat ((saF o.sy sec off o.sy.length).getD 0))), .val (.bool true)], ⟨0, []⟩)
 else
 some (.tup [.val (.int .i64 0), .val (.bool false)], ⟨0, []⟩)
 else
 none := by kernel_rfl
end Go.Ev
/- SymbolAt: the summary. -/
namespace Go.Ev
open Go.Proofs
def saInv (o : OD) (off : Int) : Prop := (∀ s ∈ o.sy, syBound s) ∧ off < 9223372036854775808 ∧ o.sy.length ≤ 140737488355328
def saB (o : OD) (sec off : Int) : Option Nat := saF o.sy sec off o.sy.length
def saS (args : List AV) : Ans (AV × Heap) := match args with
  | [ov, .val (.int .i64 sec), .val (.int .i64 off)] => .grd (odIs ov && propB (saInv (odP ov) off)) (.br (saB (odP ov) sec off).isSome (.out (.tup [.val (.int .i64 (.ofNat ((saB (odP ov) sec off).getD 0))), .val (.bool true)], ⟨0, []⟩)) (.out (.tup [.val (.int .i64 0), .val (.bool false)], ⟨0, []⟩)))
  | _ => .no
theorem Tryz.alSa (o : OD) (sec off : Int) : rootS Tryz.ESa 4 24 (lsumsOf [(3, LSa o sec off)]) [o.av, .val (.int .i64 sec), .val (.int .i64 off)] =
    bif (saB o sec off).isSome then some (.tup [.val (.int .i64 (.ofNat ((saB o sec off).getD 0))), .val (.bool true)], ⟨0, []⟩) else some (.tup [.val (.int .i64 0), .val (.bool false)], ⟨0, []⟩) := by
  rw [Tryz.wSa, isSt_refl, cond_true]
  unfold saB
  cases hq : saF o.sy sec off o.sy.length with
  | none => rfl
  | some b =>
    simp only [Option.isSome_some, Option.getD_some, cond_true]
    rw [if_neg (show ¬ (0 > Int.ofNat b) by rw [Int.ofNat_eq_natCast]; omega)]
theorem Tryz.sumSa : SumC Tryz.prog 24 (pureA saS) := by
  refine pureSumR 24 ⟨Tryz.f24, _, Tryz.fnOk24.1, Tryz.fnOk24.2, rfl⟩ ?_
  intro args v h2 hs
  unfold saS at hs
  split at hs
  · rename_i ov sec off
    rw [Ans.run_grd] at hs
    cases hb : (odIs ov && propB (saInv (odP ov) off)) with
    | false => rw [hb] at hs; cases hs
    | true =>
    rw [hb, cond_true] at hs
    rw [Bool.and_eq_true] at hb
    refine Alone.argsW (AWs.args (.cons (od_aw hb.1) (AWs.refl _))) ?_
    have hi := propB_eq hb.2
    generalize odP ov = o at hi hs ⊢
    refine rootS_alone Tryz.eSa (d := 4) (g := 24) (ls := lsumsOf [(3, LSa o sec off)]) (AllL.of1 (a := Tryz.bSa) (by kernel_rfl) (LsOk.of rfl rfl (Tryz.lSa o sec off hi.1 hi.2.1 hi.2.2))) ((Tryz.alSa o sec off).trans ?_)
    rw [Ans.run_br] at hs
    exact hs
  · cases hs
def Tryz.EIx : Env := Tryz.env0 false (sumsOf []) (keepF 85 [(2, [0, 1, 7, 8])])
def Tryz.bIx : Code := nthD .skip (loopsOf (bodyOf Tryz.EIx 85)) 0
def Tryz.BIx (s : St) : Option (AX × St) := codeS Tryz.EIx (callF Tryz.EIx 6) (Tryz.EIx.keep 85) (lsumsOf []) Tryz.bIx (outK [0, 1, 7, 8] [4]) s
end Go.Ev
/- IndexFunc with the two closures of ObjInner. -/
namespace Go.Ev
open Go.Proofs
def bxI (n : Int) : Con := .rows true 1 [[.val (.int .i64 n)]]
def Tryz.clo1 (sec off : Int) : AV := .clo (.func 23) [] [.rptr (bxI sec) 0 0, .rptr (bxI off) 0 0]
def Tryz.clo2 (sec off : Int) (x : SymD) : AV := .clo (.func 26) [] [.rptr (.rows true 1 [[Tryz.clo1 sec off]]) 0 0, .rptr (.rows true 6 [syRow x]) 0 0]
def sIx (q : AV) (L : List SymD) (n : Nat) : St := stOf 19 [0, 1, 7, 8] [.ro (SY.con L) none, q, .val (.int .i64 (Int.ofNat L.length)), .val (.int .i64 (.ofNat n))] ⟨0, []⟩
def xIx (n : Nat) : St := stOf 19 [4] [.val (.int .i64 (Int.ofNat n))] ⟨0, []⟩
def ixF (p : SymD → Bool) (L : List SymD) : Nat → Nat → Option Nat
  | 0, _ => none
  | k + 1, i => bif p (L.getD i SY.z) then some i else ixF p L k (i + 1)
def ixB (p : SymD → Bool) (L : List SymD) : Option Nat := ixF p L L.length 0
def yIx (r : Option Nat) : AX × St := match r with
  | none => (.exit 0, stOf 19 [] [] ⟨0, []⟩)
  | some n => (.ret, xIx n)
def LIx (p : SymD → Bool) (q : AV) (L : List SymD) : LSum := atL (sIx q L 0) (.br (ixB p L).isSome (.out (yIx (some ((ixB p L).getD 0)))) (.out (yIx none)))
def p1 (sec off : Int) (s : SymD) : Bool := propB (coversP s sec off)
def p2 (sec off : Int) (x s : SymD) : Bool := propB (coversP s sec off ∧ betterP s x)
def ixInv (L : List SymD) (off : Int) : Prop := (∀ s ∈ L, syBound s) ∧ off < 9223372036854775808 ∧ L.length ≤ 140737488355328
theorem Tryz.rI1 (sec off : Int) (L : List SymD) (i : Nat) : Tryz.BIx (sIx (Tryz.clo1 sec off) L i) =
 bif decide (Int.ofNat i < Int.ofNat L.length) then
 bif inR (Int.ofNat i) L.length then
 bif decide (sec ≥ 0) then
 bif (L.getD i SY.z).snd.fst == sec then
 bif decide (off ≥ IntKind.i64.wrap (L.getD i SY.z).snd.snd.fst) then
 bif decide (IntKind.i64.wrap (off - IntKind.i64.wrap (L.getD i SY.z).snd.snd.fst) < (L.getD i SY.z).snd.snd.snd.fst) then
 some (.ret, stOf 19 [4] [.val (.int .i64 (Int.ofNat i))] ⟨0, []⟩)
 else
 some (.normal, stOf 19 [0, 1, 7, 8] [.ro (.tab 6 (L.length) (fun i => SY.row (L.getD i SY.z))) none, .clo (Fn.func 23) [] [.rptr (.rows true 1 ([.val (.int .i64 (sec))] :: [])) (0) (0), .rptr (.rows true 1 ([.val (.int .i64 (off))] :: [])) (0) (0)], .val (.int .i64 (Int.ofNat L.length)), .val (.int .i64 (IntKind.i64.wrap (Int.ofNat i + 1)))] ⟨0, []⟩)
 else
 some (.normal, stOf 19 [0, 1, 7, 8] [.ro (.tab 6 (L.length) (fun i => SY.row (L.getD i SY.z))) none, .clo (Fn.func 23) [] [.rptr (.rows true 1 ([.val (.int .i64 (sec))] :: [])) (0) (0), .rptr (.rows true 1 ([.val (.int .i64 (off))] :: [])) (0) (0)], .val (.int .i64 (Int.ofNat L.length)), .val (.int .i64 (IntKind.i64.wrap (Int.ofNat i + 1)))] ⟨0, []⟩)
 else
 some (.normal, stOf 19 [0, 1, 7, 8] [.ro (.tab 6 (L.length) (fun i => SY.row (L.getD i SY.z))) none, .clo (Fn.func 23) [] [.rptr (.rows true 1 ([.val (.int .i64 (sec))] :: [])) (0) (0), .rptr (.rows true 1 ([.val (.int .i64 (off))] :: [])) (0) (0)], .val (.int .i64 (Int.ofNat L.length)), .val (.int .i64 (IntKind.i64.wrap (Int.ofNat i + 1)))] ⟨0, []⟩)
 else
 some (.normal, stOf 19 [0, 1, 7, 8] [.ro (.tab 6 (L.length) (fun i => SY.row (L.getD i SY.z))) none, .clo (Fn.func 23) [] [.rptr (.rows true 1 ([.val (.int .i64 (sec))] :: [])) (0) (0), .rptr (.rows true 1 ([.val (.int .i64 (off))] :: [])) (0) (0)], .val (.int .i64 (Int.ofNat L.length)), .val (.int .i64 (IntKind.i64.wrap (Int.ofNat i + 1)))] ⟨0, []⟩)
 else
 none
 else
 some (.exit 0, stOf 19 [] [] ⟨0, []⟩) := by kernel_rfl
theorem Tryz.rI2 (sec off : Int) (x : SymD) (L : List SymD) (i : Nat) : Tryz.BIx (sIx (Tryz.clo2 sec off x) L i) =
 bif decide (Int.ofNat i < Int.ofNat L.length) then
 bif inR (Int.ofNat i) L.length then
 bif decide (sec ≥ 0) then
 bif (L.getD i SY.z).snd.fst == sec then
 bif decide (off ≥ IntKind.i64.wrap (L.getD i SY.z).snd.snd.fst) then
 bif decide (IntKind.i64.wrap (off - IntKind.i64.wrap (L.getD i SY.z).snd.snd.fst) < (L.getD i SY.z).snd.snd.snd.fst) then
 bif decide ((L.getD i SY.z).snd.snd.fst > x.snd.snd.fst) then
 some (.ret, stOf 19 [4] [.val (.int .i64 (Int.ofNat i))] ⟨0, []⟩)
 else
 bif (L.getD i SY.z).snd.snd.fst == x.snd.snd.fst then
 bif decide ((L.getD i SY.z).snd.snd.snd.fst < x.snd.snd.snd.fst) then
 some (.ret, stOf 19 [4] [.val (.int .i64 (Int.ofNat i))] ⟨0, []⟩)
 else
 some (.normal, stOf 19 [0, 1, 7, 8] [.ro (.tab 6 (L.length) (fun i => SY.row (L.getD i SY.z))) none, .clo (Fn.func 26) [] [.rptr (.rows true 1 ([.clo (Fn.func 23) [] [.rptr (.rows true 1 ([.val (.int .i64 (sec))] :: [])) (0) (0), .rptr (.rows true 1 ([.val (.int .i64 (off))] :: [])) (0) (0)]] :: [])) (0) (0), .rptr (.rows true 6 ([.val (Value.string x.fst), .val (.int .i64 (x.snd.fst)), .val (.int .u32 (x.snd.snd.fst)), .val (.int .i64 (x.snd.snd.snd.fst)), .val (.int .i64 (x.snd.snd.snd.snd.fst)), .val (.int .i64 (x.snd.snd.snd.snd.snd))] :: [])) (0) (0)], .val (.int .i64 (Int.ofNat L.length)), .val (.int .i64 (IntKind.i64.wrap (Int.ofNat i + 1)))] ⟨0, []⟩)
 else
 some (.normal, stOf 19 [0, 1, 7, 8] [.ro (.tab 6 (L.length) (fun i => SY.row (L.getD i SY.z))) none, .clo (Fn.func 26) [] [.rptr (.rows true 1 ([.clo (Fn.func 23) [] [.rptr (.rows true 1 ([.val (.int .i64 (sec))] :: [])) (0) (0), .rptr (.rows true 1 ([.val (.int .i64 (off))] :: [])) (0) (0)]] :: [])) (0) (0), .rptr (.rows true 6 ([.val (Value.string x.fst), .val (.int .i64 (x.snd.fst)), .val (.int .u32 (x.snd.snd.fst)), .val (.int .i64 (x.snd.snd.snd.fst)), .val (.int .i64 (x.snd.snd.snd.snd.fst)), .val (.int .i64 (x.snd.snd.snd.snd.snd))] :: [])) (0) (0)], .val (.int .i64 (Int.ofNat L.length)), .val (.int .i64 (IntKind.i64.wrap (Int.ofNat i + 1)))] ⟨0, []⟩)
 else
 some (.normal, stOf 19 [0, 1, 7, 8] [.ro (.tab 6 (L.length) (fun i => SY.row (L.getD i SY.z))) none, .clo (Fn.func 26) [] [.rptr (.rows true 1 ([.clo (Fn.func 23) [] [.rptr (.rows true 1 ([.val (.int .i64 (sec))] :: [])) (0) (0), .rptr (.rows true 1 ([.val (.int .i64 (off))] :: [])) (0) (0)]] :: [])) (0) (0), .rptr (.rows true 6 ([.val (Value.string x.fst), .val (.int .i64 (x.snd.fst)), .val (.int .u32 (x.snd.snd.fst)), .val (.int .i64 (x.snd.snd.snd.fst)), .val (.int .i64 (x.snd.snd.snd.snd.fst)), .val (.int .i64 (x.snd.snd.snd.snd.snd))] :: [])) (0) (0)], .val (.int .i64 (Int.ofNat L.length)), .val (.int .i64 (IntKind.i64.wrap (Int.ofNat i + 1)))] ⟨0, []⟩)
 else
 some (.normal, stOf 19 [0, 1, 7, 8] [.ro (.tab 6 (L.length) (fun i => SY.row (L.getD i SY.z))) none, .clo (Fn.func 26) [] [.rptr (.rows true 1 ([.clo (Fn.func 23) [] [.rptr (.rows true 1 ([.val (.int .i64 (sec))] :: [])) (0) (0), .rptr (.rows true 1 ([.val (.int .i64 (off))] :: [])) (0) (0)]] :: [])) (0) (0), .rptr (.rows true 6 ([.val (Value.string x.fst), .val (.int .i64 (x.snd.fst)), .val (.int .u32 (x.snd.snd.fst)), .val (.int .i64 (x.snd.snd.snd.fst)), .val (.int .i64 (x.snd.snd.snd.snd.fst)), .val (.int .i64 (x.snd.snd.snd.snd.snd))] :: [])) (0) (0)], .val (.int .i64 (Int.ofNat L.length)), .val (.int .i64 (IntKind.i64.wrap (Int.ofNat i + 1)))] ⟨0, []⟩)
 else
 some (.normal, stOf 19 [0, 1, 7, 8] [.ro (.tab 6 (L.length) (fun i => SY.row (L.getD i SY.z))) none, .clo (Fn.func 26) [] [.rptr (.rows true 1 ([.clo (Fn.func 23) [] [.rptr (.rows true 1 ([.val (.int .i64 (sec))] :: [])) (0) (0), .rptr (.rows true 1 ([.val (.int .i64 (off))] :: [])) (0) (0)]] :: [])) (0) (0), .rptr (.rows true 6 ([.val (Value.string x.fst), .val (.int .i64 (x.snd.fst)), .val (.int .u32 (x.snd.snd.fst)), .val (.int .i64 (x.snd.snd.snd.fst)), .val (.int .i64 (x.snd.snd.snd.snd.fst)), .val (.int .i64 (x.snd.snd.snd.snd.snd))] :: [])) (0) (0)], .val (.int .i64 (Int.ofNat L.length)), .val (.int .i64 (IntKind.i64.wrap (Int.ofNat i + 1)))] ⟨0, []⟩)
 else
 some (.normal, stOf 19 [0, 1, 7, 8] [.ro (.tab 6 (L.length) (fun i => SY.row (L.getD i SY.z))) none, .clo (Fn.func 26) [] [.rptr (.rows true 1 ([.clo (Fn.func 23) [] [.rptr (.rows true 1 ([.val (.int .i64 (sec))] :: [])) (0) (0), .rptr (.rows true 1 ([.val (.int .i64 (off))] :: [])) (0) (0)]] :: [])) (0) (0), .rptr (.rows true 6 ([.val (Value.string x.fst), .val (.int .i64 (x.snd.fst)), .val (.int .u32 (x.snd.snd.fst)), .val (.int .i64 (x.snd.snd.snd.fst)), .val (.int .i64 (x.snd.snd.snd.snd.fst)), .val (.int .i64 (x.snd.snd.snd.snd.snd))] :: [])) (0) (0)], .val (.int .i64 (Int.ofNat L.length)), .val (.int .i64 (IntKind.i64.wrap (Int.ofNat i + 1)))] ⟨0, []⟩)
 else
 none
 else
 some (.exit 0, stOf 19 [] [] ⟨0, []⟩) := by kernel_rfl
theorem Tryz.rI1s (sec off : Int) (L : List SymD) (hi : ixInv L off) {i : Nat} (h : i < L.length) : Tryz.BIx (sIx (Tryz.clo1 sec off) L i) = bif p1 sec off (L.getD i SY.z) then some (.ret, xIx i) else some (.normal, sIx (Tryz.clo1 sec off) L (i + 1)) := by
  have hb := hi.1 _ (getD_mem (d := SY.z) h)
  unfold syBound at hb
  have ho := hi.2.1
  have hl := hi.2.2
  have key := Tryz.rI1 sec off L i
  have w1 : IntKind.i64.wrap (Int.ofNat i + 1) = Int.ofNat (i + 1) := by rw [Int.ofNat_eq_natCast, wrap64 _ (by omega) (by omega), Int.ofNat_eq_natCast]; omega
  have w2 : IntKind.i64.wrap (L.getD i SY.z).snd.snd.fst = (L.getD i SY.z).snd.snd.fst := wrap64 _ (by omega) (by omega)
  rw [decide_eq_true (show Int.ofNat i < Int.ofNat L.length by rw [Int.ofNat_eq_natCast, Int.ofNat_eq_natCast]; omega), show inR (Int.ofNat i) L.length = true by rw [Int.ofNat_eq_natCast, inR_nat, decide_eq_true h], w1, w2] at key
  simp only [cond_true] at key
  unfold p1
  by_cases c2 : sec ≥ 0
  rotate_left
  · rw [decide_eq_false c2, cond_false] at key
    rw [propB_f (fun q => c2 q.1)]; exact key
  rw [decide_eq_true c2, cond_true] at key
  by_cases c1 : (L.getD i SY.z).2.1 = sec
  rotate_left
  · rw [show ((L.getD i SY.z).snd.fst == sec) = false from beq_eq_false_iff_ne.2 c1, cond_false] at key
    rw [propB_f (fun q => c1 q.2.1)]; exact key
  rw [show ((L.getD i SY.z).snd.fst == sec) = true from beq_iff_eq.2 c1, cond_true] at key
  by_cases c3 : off ≥ (L.getD i SY.z).2.2.1
  rotate_left
  · rw [decide_eq_false c3, cond_false] at key
    rw [propB_f (fun q => c3 q.2.2.1)]; exact key
  rw [decide_eq_true c3, cond_true, wrap64 (off - (L.getD i SY.z).snd.snd.fst) (by omega) (by omega)] at key
  by_cases c4 : off - (L.getD i SY.z).2.2.1 < (L.getD i SY.z).2.2.2.1
  · rw [decide_eq_true c4, cond_true] at key
    rw [propB_t (show coversP (L.getD i SY.z) sec off from ⟨c2, c1, c3, c4⟩)]; exact key
  · rw [decide_eq_false c4, cond_false] at key
    rw [propB_f (fun q => c4 q.2.2.2)]; exact key
theorem Tryz.rI2s (sec off : Int) (x : SymD) (L : List SymD) (hi : ixInv L off) {i : Nat} (h : i < L.length) : Tryz.BIx (sIx (Tryz.clo2 sec off x) L i) = bif p2 sec off x (L.getD i SY.z) then some (.ret, xIx i) else some (.normal, sIx (Tryz.clo2 sec off x) L (i + 1)) := by
  have hb := hi.1 _ (getD_mem (d := SY.z) h)
  unfold syBound at hb
  have ho := hi.2.1
  have hl := hi.2.2
  have key := Tryz.rI2 sec off x L i
  have w1 : IntKind.i64.wrap (Int.ofNat i + 1) = Int.ofNat (i + 1) := by rw [Int.ofNat_eq_natCast, wrap64 _ (by omega) (by omega), Int.ofNat_eq_natCast]; omega
  have w2 : IntKind.i64.wrap (L.getD i SY.z).snd.snd.fst = (L.getD i SY.z).snd.snd.fst := wrap64 _ (by omega) (by omega)
  rw [decide_eq_true (show Int.ofNat i < Int.ofNat L.length by rw [Int.ofNat_eq_natCast, Int.ofNat_eq_natCast]; omega), show inR (Int.ofNat i) L.length = true by rw [Int.ofNat_eq_natCast, inR_nat, decide_eq_true h], w1, w2] at key
  simp only [cond_true] at key
  unfold p2
  by_cases c2 : sec ≥ 0
  rotate_left
  · rw [decide_eq_false c2, cond_false] at key
    rw [propB_f (fun q => c2 q.1.1)]; exact key
  rw [decide_eq_true c2, cond_true] at key
  by_cases c1 : (L.getD i SY.z).2.1 = sec
  rotate_left
  · rw [show ((L.getD i SY.z).snd.fst == sec) = false from beq_eq_false_iff_ne.2 c1, cond_false] at key
    rw [propB_f (fun q => c1 q.1.2.1)]; exact key
  rw [show ((L.getD i SY.z).snd.fst == sec) = true from beq_iff_eq.2 c1, cond_true] at key
  by_cases c3 : off ≥ (L.getD i SY.z).2.2.1
  rotate_left
  · rw [decide_eq_false c3, cond_false] at key
    rw [propB_f (fun q => c3 q.1.2.2.1)]; exact key
  rw [decide_eq_true c3, cond_true, wrap64 (off - (L.getD i SY.z).snd.snd.fst) (by omega) (by omega)] at key
  by_cases c4 : off - (L.getD i SY.z).2.2.1 < (L.getD i SY.z).2.2.2.1
  rotate_left
  · rw [decide_eq_false c4, cond_false] at key
    rw [propB_f (fun q => c4 q.1.2.2.2)]; exact key
  rw [decide_eq_true c4, cond_true] at key
  have hc : coversP (L.getD i SY.z) sec off := ⟨c2, c1, c3, c4⟩
  by_cases d1 : (L.getD i SY.z).2.2.1 > x.2.2.1
  · rw [decide_eq_true d1, cond_true] at key
    rw [propB_t (show coversP (L.getD i SY.z) sec off ∧ betterP (L.getD i SY.z) x from ⟨hc, .inl d1⟩)]; exact key
  rw [decide_eq_false d1, cond_false] at key
  by_cases d2 : (L.getD i SY.z).2.2.1 = x.2.2.1
  rotate_left
  · rw [show ((L.getD i SY.z).snd.snd.fst == x.snd.snd.fst) = false from beq_eq_false_iff_ne.2 d2, cond_false] at key
    rw [propB_f (fun q => by rcases q.2 with q | q; exact d1 q; exact d2 q.1)]; exact key
  rw [show ((L.getD i SY.z).snd.snd.fst == x.snd.snd.fst) = true from beq_iff_eq.2 d2, cond_true] at key
  by_cases d3 : (L.getD i SY.z).2.2.2.1 < x.2.2.2.1
  · rw [decide_eq_true d3, cond_true] at key
    rw [propB_t (show coversP (L.getD i SY.z) sec off ∧ betterP (L.getD i SY.z) x from ⟨hc, .inr ⟨d2, d3⟩⟩)]; exact key
  · rw [decide_eq_false d3, cond_false] at key
    rw [propB_f (fun q => by rcases q.2 with q | q; exact d1 q; exact d3 q.2)]; exact key
end Go.Ev
/- IndexFunc: the summary. -/
namespace Go.Ev
open Go.Proofs
theorem Tryz.eIx : EnvOk2 Tryz.prog Tryz.EIx := Tryz.envOk false (sumsOf []) _ (fun g A h => by cases h)
theorem sIx_ok (q : AV) (L : List SymD) (n : Nat) : (sIx q L n).h.ok := heap0_ok
theorem yIx_ok (r : Option Nat) : (yIx r).2.h.ok := by cases r <;> exact heap0_ok
theorem ixF_none {p : SymD → Bool} {L : List SymD} : ∀ k i, i + k = L.length → (∀ j, i ≤ j → j < L.length → p (L.getD j SY.z) = false) → ixF p L k i = none
  | 0, i, _, _ => rfl
  | k + 1, i, h, hp => by
    unfold ixF
    rw [hp i (Nat.le_refl _) (by omega), cond_false]
    exact ixF_none k (i + 1) (by omega) (fun j h1 h2 => hp j (by omega) h2)
theorem ixB_none {p : SymD → Bool} {L : List SymD} (hp : ∀ j, j < L.length → p (L.getD j SY.z) = false) : ixB p L = none := ixF_none _ _ (by omega) (fun j _ h => hp j h)
theorem Tryz.lIx (p : SymD → Bool) (q : AV) (L : List SymD) (hr : ∀ i, i < L.length → Tryz.BIx (sIx q L i) = bif p (L.getD i SY.z) then some (.ret, xIx i) else some (.normal, sIx q L (i + 1)))
    (he : Tryz.BIx (sIx q L L.length) = some (.exit 0, stOf 19 [] [] ⟨0, []⟩)) : ∀ s e s', s.h.ok → (LIx p q L s).run = some (e, s') → Triple Tryz.prog (.loop Tryz.bIx) s e s' := by
  refine loop_at Tryz.eIx (d := 6) (g := 85) (ls := lsumsOf []) (c := Tryz.bIx) trivial [0, 1, 7, 8] [4] (T := Nat) (fun n => sIx q L n) (fun n => n ≤ L.length) (fun n => L.length - n) (fun n => yIx (ixF p L (L.length - n) n)) _ _ 0 (Nat.zero_le _) (Weak.refl (sIx_ok _ _ _)) ?_ (fun _ _ => sIx_ok _ _ _) ?_
  · intro e s' h
    rw [Ans.run_br] at h
    unfold ixB at h
    rw [Nat.sub_zero]
    cases hq : ixF p L L.length 0 with
    | none => rw [hq] at h; injection h
    | some x => rw [hq] at h; injection h
  · intro n hn
    by_cases hlt : n < L.length
    · have key := hr n hlt
      have hs : ixF p L (L.length - n) n = bif p (L.getD n SY.z) then some n else ixF p L (L.length - (n + 1)) (n + 1) := by
        rw [show L.length - n = (L.length - (n + 1)) + 1 by omega]; rfl
      cases hp : p (L.getD n SY.z) with
      | true =>
        rw [hp, cond_true] at key hs
        refine .inr ?_
        simp only [hs]
        exact ⟨_, key, Weak.refl (yIx_ok (some n)), by simp [yIx]⟩
      | false =>
        rw [hp, cond_false] at key hs
        exact .inl ⟨n + 1, _, key, Weak.refl (sIx_ok _ _ _), by omega, by omega, by simp only [hs]⟩
    · have e : n = L.length := by omega
      subst e
      refine .inr ?_
      simp only [Nat.sub_self]
      exact ⟨_, he, Weak.refl (yIx_ok none), by simp [yIx, ixF]⟩
theorem Tryz.wI1 (sec off : Int) (p : SymD → Bool) (L : List SymD) : rootS Tryz.EIx 6 85 (lsumsOf [(2, LIx p (Tryz.clo1 sec off) L)]) [.ro (SY.con L) none, Tryz.clo1 sec off] =
 bif isSt (sIx (Tryz.clo1 sec off) L 0) (sIx (Tryz.clo1 sec off) L 0) then
 bif (ixB p L).isSome then
 some (.val (.int .i64 (Int.ofNat ((ixB p L).getD 0))), ⟨0, []⟩)
 else
 some (.val (.int .i64 (-1)), ⟨0, []⟩)
 else
 none := by kernel_rfl
theorem Tryz.wI2 (sec off : Int) (x : SymD) (p : SymD → Bool) (L : List SymD) : rootS Tryz.EIx 6 85 (lsumsOf [(2, LIx p (Tryz.clo2 sec off x) L)]) [.ro (SY.con L) none, Tryz.clo2 sec off x] =
 bif isSt (sIx (Tryz.clo2 sec off x) L 0) (sIx (Tryz.clo2 sec off x) L 0) then
 bif (ixB p L).isSome then
 some (.val (.int .i64 (Int.ofNat ((ixB p L).getD 0))), ⟨0, []⟩)
 else
 some (.val (.int .i64 (-1)), ⟨0, []⟩)
 else
 none := by kernel_rfl
def outIx (r : Option Nat) : Ans (AV × Heap) := .br r.isSome (.out (.val (.int .i64 (Int.ofNat (r.getD 0))), ⟨0, []⟩)) (.out (.val (.int .i64 (-1)), ⟨0, []⟩))
def ixS (args : List AV) : Ans (AV × Heap) := match args with
  | [.ro c cap, .clo (.func 23) [] [.rptr (.rows true 1 [[.val (.int .i64 sec)]]) 0 0, .rptr (.rows true 1 [[.val (.int .i64 off)]]) 0 0]] =>
    .grd (SY.ok c && propB (ixInv (SY.list c) off)) (outIx (ixB (p1 sec off) (SY.list c)))
  | [.ro c cap, .clo (.func 26) [] [.rptr (.rows true 1 [[.clo (.func 23) [] [.rptr (.rows true 1 [[.val (.int .i64 sec)]]) 0 0, .rptr (.rows true 1 [[.val (.int .i64 off)]]) 0 0]]]) 0 0, .rptr (.rows true 6 [[.val (.string a), .val (.int .i64 b), .val (.int .u32 v), .val (.int .i64 d), .val (.int .i64 e), .val (.int .i64 f)]]) 0 0]] =>
    .grd (SY.ok c && propB (ixInv (SY.list c) off)) (outIx (ixB (p2 sec off (a, b, v, d, e, f)) (SY.list c)))
  | _ => .no
theorem Tryz.alIx {p : SymD → Bool} {q : AV} {L : List SymD} {v : AV} {h2 : Heap} (hr : ∀ i, i < L.length → Tryz.BIx (sIx q L i) = bif p (L.getD i SY.z) then some (.ret, xIx i) else some (.normal, sIx q L (i + 1)))
    (he : Tryz.BIx (sIx q L L.length) = some (.exit 0, stOf 19 [] [] ⟨0, []⟩)) (hw : rootS Tryz.EIx 6 85 (lsumsOf [(2, LIx p q L)]) [.ro (SY.con L) none, q] = (outIx (ixB p L)).run) (hs : (outIx (ixB p L)).run = some (v, h2)) : Alone Tryz.prog 85 [.ro (SY.con L) none, q] v h2 := by
  refine rootS_alone Tryz.eIx (d := 6) (g := 85) (ls := lsumsOf [(2, LIx p q L)]) (AllL.of1 (a := Tryz.bIx) (by kernel_rfl) (LsOk.of rfl rfl (Tryz.lIx p q L hr he))) (hw.trans hs)
theorem Tryz.sumIx : SumC Tryz.prog 85 (pureA ixS) := by
  refine pureSumR 85 ⟨Tryz.f85, _, Tryz.fnOk85.1, Tryz.fnOk85.2, rfl⟩ ?_
  intro args v h2 hs
  have g0 : ∀ L : List SymD, decide (Int.ofNat L.length < Int.ofNat L.length) = false := fun L => decide_eq_false (by omega)
  unfold ixS at hs
  split at hs
  · rename_i c cap sec off
    rw [Ans.run_grd] at hs
    cases hb : (SY.ok c && propB (ixInv (SY.list c) off)) with
    | false => rw [hb] at hs; cases hs
    | true =>
    rw [hb, cond_true] at hs
    rw [Bool.and_eq_true] at hb
    refine Alone.argsW (AWs.args (.cons (SY.aw hb.1 _) (AWs.refl _))) ?_
    have hi := propB_eq hb.2
    generalize SY.list c = L at hi hs ⊢
    refine Tryz.alIx (fun i h => Tryz.rI1s sec off L hi h) ?_ ((Tryz.wI1 sec off _ L).trans (by rw [isSt_refl, cond_true]; rfl)) hs
    have key := Tryz.rI1 sec off L L.length
    rw [g0, cond_false] at key
    exact key
  · rename_i c cap sec off a b v' d e f
    rw [Ans.run_grd] at hs
    cases hb : (SY.ok c && propB (ixInv (SY.list c) off)) with
    | false => rw [hb] at hs; cases hs
    | true =>
    rw [hb, cond_true] at hs
    rw [Bool.and_eq_true] at hb
    refine Alone.argsW (AWs.args (.cons (SY.aw hb.1 _) (AWs.refl _))) ?_
    have hi := propB_eq hb.2
    generalize SY.list c = L at hi hs ⊢
    refine Tryz.alIx (q := Tryz.clo2 sec off (a, b, v', d, e, f)) (fun i h => Tryz.rI2s sec off (a, b, v', d, e, f) L hi h) ?_ ((Tryz.wI2 sec off (a, b, v', d, e, f) _ L).trans (by rw [isSt_refl, cond_true]; rfl)) hs
    have key := Tryz.rI2 sec off (a, b, v', d, e, f) L L.length
    rw [g0, cond_false] at key
    exact key
  · cases hs
def Tryz.tIn : List (Nat × AFun) := [(9, constA (.bool true)), (10, pureA smallS), (22, pureA isS), (24, pureA saS), (85, pureA ixS)]
def Tryz.EIn : Env := Tryz.env0 false (sumsOf Tryz.tIn) (keepF 0 [])
theorem Tryz.eIn : EnvOk2 Tryz.prog Tryz.EIn := Tryz.envOk false (sumsOf Tryz.tIn) _ (sumsOf_ok (show AllS Tryz.prog Tryz.tIn from ⟨Tryz.saneSum, Tryz.sumSl, Tryz.sumIs, Tryz.sumSa, Tryz.sumIx, trivial⟩))
end Go.Ev
/- ObjInner: the run. -/
namespace Go.Ev
open Go.Proofs
theorem Tryz.rIn (o : OD) (sec off : Int) : rootS Tryz.EIn 6 5 (lsumsOf []) [o.av, .val (.int .i64 sec), .val (.int .i64 off)] =
 bif odIs (AV.agg [AV.ro (SE.con o.se) none, AV.ro (SY.con o.sy) none, AV.ro (RE.con o.re) none, AV.ro (FI.con o.fi) none, AV.ro (LI.con o.li) none]) && propB (slInv (odP (AV.agg [AV.ro (SE.con o.se) none, AV.ro (SY.con o.sy) none, AV.ro (RE.con o.re) none, AV.ro (FI.con o.fi) none, AV.ro (LI.con o.li) none]))) then
 bif smallB (odP (AV.agg [AV.ro (SE.con o.se) none, AV.ro (SY.con o.sy) none, AV.ro (RE.con o.re) none, AV.ro (FI.con o.fi) none, AV.ro (LI.con o.li) none])) then
 bif odIs (AV.agg [AV.ro (SE.con o.se) none, AV.ro (SY.con o.sy) none, AV.ro (RE.con o.re) none, AV.ro (FI.con o.fi) none, AV.ro (LI.con o.li) none]) && propB (odInv (odP (AV.agg [AV.ro (SE.con o.se) none, AV.ro (SY.con o.sy) none, AV.ro (RE.con o.re) none, AV.ro (FI.con o.fi) none, AV.ro (LI.con o.li) none]))) then
 bif objB (odP (AV.agg [AV.ro (SE.con o.se) none, AV.ro (SY.con o.sy) none, AV.ro (RE.con o.re) none, AV.ro (FI.con o.fi) none, AV.ro (LI.con o.li) none])) then
 bif odIs (AV.agg [AV.ro (SE.con o.se) none, AV.ro (SY.con o.sy) none, AV.ro (RE.con o.re) none, AV.ro (FI.con o.fi) none, AV.ro (LI.con o.li) none]) && propB (saInv (odP (AV.agg [AV.ro (SE.con o.se) none, AV.ro (SY.con o.sy) none, AV.ro (RE.con o.re) none, AV.ro (FI.con o.fi) none, AV.ro (LI.con o.li) none])) off) then
 bif (saB (odP (AV.agg [AV.ro (SE.con o.se) none, AV.ro (SY.con o.sy) none, AV.ro (RE.con o.re) none, AV.ro (FI.con o.fi) none, AV.ro (LI.con o.li) none])) sec off).isSome then
 bif decide (Int.ofNat ((saB (odP (AV.agg [AV.ro (SE.con o.se) none, AV.ro (SY.con o.sy) none, AV.ro (RE.con o.re) none, AV.ro (FI.con o.fi) none, AV.ro (LI.con o.li) none])) sec off).getD 0) ≥ (↑o.sy.length : Int)) then
 some (.val (.bool false), ⟨0, []⟩)
 else
 bif inR (Int.ofNat ((saB (odP (AV.agg [AV.ro (SE.con o.se) none, AV.ro (SY.con o.sy) none, AV.ro (RE.con o.re) none, AV.ro (FI.con o.fi) none, AV.ro (LI.con o.li) none])) sec off).getD 0)) o.sy.length then
 bif decide (sec ≥ 0) then
 bif (o.sy.getD ((saB (odP (AV.agg [AV.ro (SE.con o.se) none, AV.ro (SY.con o.sy) none, AV.ro (RE.con o.re) none, AV.ro (FI.con o.fi) none, AV.ro (LI.con o.li) none])) sec off).getD 0) SY.z).snd.fst == sec then
 bif decide (off ≥ IntKind.i64.wrap (o.sy.getD ((saB (odP (AV.agg [AV.ro (SE.con o.se) none, AV.ro (SY.con o.sy) none, AV.ro (RE.con o.re) none, AV.ro (FI.con o.fi) none, AV.ro (LI.con o.li) none])) sec off).getD 0) SY.z).snd.snd.fst) then
 bif decide (IntKind.i64.wrap (off - IntKind.i64.wrap (o.sy.getD ((saB (odP (AV.agg [AV.ro (SE.con o.se) none, AV.ro (SY.con o.sy) none, AV.ro (RE.con o.re) none, AV.ro (FI.con o.fi) none, AV.ro (LI.con o.li) none])) sec off).getD 0) SY.z).snd.snd.fst) < (o.sy.getD ((saB (odP (AV.agg [AV.ro (SE.con o.se) none, AV.ro (SY.con o.sy) none, AV.ro (RE.con o.re) none, AV.ro (FI.con o.fi) none, AV.ro (LI.con o.li) none])) sec off).getD 0) SY.z).snd.snd.snd.fst) then
 bif inR (Int.ofNat ((saB (odP (AV.agg [AV.ro (SE.con o.se) none, AV.ro (SY.con o.sy) none, AV.ro (RE.con o.re) none, AV.ro (FI.con o.fi) none, AV.ro (LI.con o.li) none])) sec off).getD 0)) o.sy.length then
 bif SY.ok (SY.con o.sy) && propB (ixInv (SY.list (SY.con o.sy)) off) then
 bif (ixB (p2 sec off ((o.sy.getD ((saB (odP (AV.agg [AV.ro (SE.con o.se) none, AV.ro (SY.con o.sy) none, AV.ro (RE.con o.re) none, AV.ro (FI.con o.fi) none, AV.ro (LI.con o.li) none])) sec off).getD 0) SY.z).fst, (o.sy.getD ((saB (odP (AV.agg [AV.ro (SE.con o.se) none, AV.ro (SY.con o.sy) none, AV.ro (RE.con o.re) none, AV.ro (FI.con o.fi) none, AV.ro (LI.con o.li) none])) sec off).getD 0) SY.z).snd.fst, (o.sy.getD ((saB (odP (AV.agg [AV.ro (SE.con o.se) none, AV.ro (SY.con o.sy) none, AV.ro (RE.con o.re) none, AV.ro (FI.con o.fi) none, AV.ro (LI.con o.li) none])) sec off).getD 0) SY.z).snd.snd.fst, (o.sy.getD ((saB (odP (AV.agg [AV.ro (SE.con o.se) none, AV.ro (SY.con o.sy) none, AV.ro (RE.con o.re) none, AV.ro (FI.con o.fi) none, AV.ro (LI.con o.li) none])) sec off).getD 0) SY.z).snd.snd.snd.fst, (o.sy.getD ((saB (odP (AV.agg [AV.ro (SE.con o.se) none, AV.ro (SY.con o.sy) none, AV.ro (RE.con o.re) none, AV.ro (FI.con o.fi) none, AV.ro (LI.con o.li) none])) sec off).getD 0) SY.z).snd.snd.snd.snd.fst, (o.sy.getD ((saB (odP (AV.agg [AV.ro (SE.con o.se) none, AV.ro (SY.con o.sy) none, AV.ro (RE.con o.re) none, AV.ro (FI.con o.fi) none, AV.ro (LI.con o.li) none])) sec off).getD 0) SY.z).snd.snd.snd.snd.snd)) (SY.list (SY.con o.sy))).isSome then
 some (.val (.bool false), ⟨0, []⟩)
 else
 some (.val (.bool true), ⟨0, []⟩)
 else
 none
 else
 none
 else
 some (.val (.bool false), ⟨0, []⟩)
 else
 some (.val (.bool false), ⟨0, []⟩)
 else
 some (.val (.bool false), ⟨0, []⟩)
 else
 some (.val (.bool false), ⟨0, []⟩)
 else
 none
 else
 bif SY.ok (SY.con o.sy) && propB (ixInv (SY.list (SY.con o.sy)) off) then
 bif (ixB (p1 sec off) (SY.list (SY.con o.sy))).isSome then
 some (.val (.bool false), ⟨0, []⟩)
 else
 some (.val (.bool true), ⟨0, []⟩)
 else
 none
 else
 none
 else
 some (.val (.bool true), ⟨0, []⟩)
 else
 none
 else
 some (.val (.bool true), ⟨0, []⟩)
 else
 none := by kernel_rfl
end Go.Ev
/- LineAt: the rounds. -/
namespace Go.Ev
open Go.Proofs
def hL (o : OD) (e : LinD) : Heap := ⟨2, [⟨1, 0, .cells (.rows true 4 [liRow e])⟩, ⟨0, 0, .cells (.rows true 5 [o.row])⟩]⟩
def hR (e : LinD) : Heap := ⟨1, [⟨0, 0, .cells (.rows true 4 [liRow e])⟩]⟩
end Go.Ev
/- LineAt: the summary; ObjCovered's run. -/
namespace Go.Ev
open Go.Proofs
end Go.Ev
/- ObjCovered: the plain law. -/
namespace Go.Ev
open Go.Proofs
def odB (o : OD) : Prop := slInv o ∧ (∀ e ∈ o.se, e.2.2.2.1.length ≤ 140737488355328) ∧ (∀ s ∈ o.sy, syBound s) ∧ ∀ s ∈ o.fi, s.size ≤ 140737488355328
theorem small_cnt {o : OD} (h : smallB o = true) : o.se.length ≤ 20 ∧ o.sy.length ≤ 120 ∧ o.re.length ≤ 200 ∧ o.fi.length ≤ 30 ∧ o.li.length ≤ 200 := by
  unfold smallB cntB at h
  simp only [Bool.and_eq_true, decide_eq_true_eq] at h
  exact ⟨h.1.1, h.1.2.1, h.1.2.2.1, h.1.2.2.2.1, h.1.2.2.2.2⟩
theorem small_inv {o : OD} (hb : odB o) (h : smallB o = true) : odInv o := by
  obtain ⟨h1, h2, h3, h4⟩ := hb
  obtain ⟨c1, c2, c3, c4, c5⟩ := small_cnt h
  exact ⟨⟨by omega, h2⟩, ⟨by omega, h3⟩, by omega, ⟨by omega, h4⟩, by omega⟩
end Go.Ev
/- ObjInner: the plain law. -/
namespace Go.Ev
open Go.Proofs
theorem betterP_trans {x y z : SymD} (h1 : betterP x y) (h2 : betterP y z) : betterP x z := by
  unfold betterP at *
  omega
theorem betterP_irr {x : SymD} : ¬ betterP x x := by
  unfold betterP
  omega
theorem saF_spec (L : List SymD) (sec off : Int) : ∀ n, (saF L sec off n = none → ∀ i, i < n → ¬ coversP (L.getD i SY.z) sec off) ∧
    ∀ b, saF L sec off n = some b → coversP (L.getD b SY.z) sec off ∧ ∀ i, i < n → coversP (L.getD i SY.z) sec off → ¬ betterP (L.getD i SY.z) (L.getD b SY.z)
  | 0 => ⟨fun _ i h => by omega, fun b h => by cases h⟩
  | n + 1 => by
    obtain ⟨h1, h2⟩ := saF_spec L sec off n
    have e : saF L sec off (n + 1) = nextB L sec off n (saF L sec off n) := rfl
    rw [e]
    unfold nextB
    by_cases hc : coversP (L.getD n SY.z) sec off
    · rw [if_pos hc]
      cases hq : saF L sec off n with
      | none =>
        refine ⟨fun q => (by cases q), fun b q => ?_⟩
        injection q with q
        subst q
        refine ⟨hc, fun i hi hci => ?_⟩
        by_cases e2 : i = n
        · rw [e2]; exact betterP_irr
        · exact absurd hci (h1 hq i (by omega))
      | some c =>
        obtain ⟨k1, k2⟩ := h2 c hq
        simp only
        by_cases hbt : betterP (L.getD n SY.z) (L.getD c SY.z)
        · rw [if_pos hbt]
          refine ⟨fun q => (by cases q), fun b q => ?_⟩
          injection q with q
          subst q
          refine ⟨hc, fun i hi hci => ?_⟩
          by_cases e2 : i = n
          · rw [e2]; exact betterP_irr
          · exact fun q => k2 i (by omega) hci (betterP_trans q hbt)
        · rw [if_neg hbt]
          refine ⟨fun q => (by cases q), fun b q => ?_⟩
          injection q with q
          subst q
          refine ⟨k1, fun i hi hci => ?_⟩
          by_cases e2 : i = n
          · rw [e2]; exact hbt
          · exact k2 i (by omega) hci
    · rw [if_neg hc]
      refine ⟨fun q i hi => ?_, fun b q => ?_⟩
      · by_cases e2 : i = n
        · rw [e2]; exact hc
        · exact h1 q i (by omega)
      · obtain ⟨k1, k2⟩ := h2 b q
        refine ⟨k1, fun i hi hci => ?_⟩
        by_cases e2 : i = n
        · rw [e2] at hci; exact absurd hci hc
        · exact k2 i (by omega) hci
theorem Tryz.law5in (o : OD) (sec off : Int) (hb : odB o) (ho : off < 9223372036854775808) : rootS Tryz.EIn 6 5 (lsumsOf []) [o.av, .val (.int .i64 sec), .val (.int .i64 off)] = some (.val (.bool true), ⟨0, []⟩) := by
  have e1 : odP (.agg [.ro (SE.con o.se) none, .ro (SY.con o.sy) none, .ro (RE.con o.re) none, .ro (FI.con o.fi) none, .ro (LI.con o.li) none]) = o := odP_row o
  have e2 : odIs (.agg [.ro (SE.con o.se) none, .ro (SY.con o.sy) none, .ro (RE.con o.re) none, .ro (FI.con o.fi) none, .ro (LI.con o.li) none]) = true := odIs_row o
  rw [Tryz.rIn, e1, e2, propB_t hb.1]
  cases hs : smallB o with
  | false => rfl
  | true =>
  have hi := small_inv hb hs
  rw [propB_t hi]
  cases hob : objB o with
  | false => rfl
  | true =>
  have hsa : saInv o off := ⟨hb.2.2.1, ho, hb.1.2.1⟩
  have hix : ixInv o.sy off := ⟨hb.2.2.1, ho, hb.1.2.1⟩
  rw [propB_t hsa, SY.ok_con, SY.list_con, propB_t hix]
  obtain ⟨s1, s2⟩ := saF_spec o.sy sec off o.sy.length
  generalize hg : (saB o sec off).getD 0 = g
  cases hq : saB o sec off with
  | none =>
    rw [ixB_none (p := p1 sec off) (fun j hj => propB_f (s1 hq j hj))]; rfl
  | some b =>
    rw [hq] at hg
    have hg2 : b = g := hg
    subst hg2
    have hlt := saF_lt _ _ _ _ _ hq
    obtain ⟨c, best⟩ := s2 b hq
    have hbb := hb.2.2.1 _ (getD_mem (d := SY.z) hlt)
    unfold syBound at hbb
    have w2 : IntKind.i64.wrap (o.sy.getD b SY.z).snd.snd.fst = (o.sy.getD b SY.z).snd.snd.fst := wrap64 _ (by omega) (by omega)
    obtain ⟨c1, c2, c3, c4⟩ := id c
    simp only [Option.isSome_some, Bool.and_self, cond_true]
    rw [decide_eq_false (show ¬ Int.ofNat b ≥ (o.sy.length : Int) by rw [Int.ofNat_eq_natCast]; omega), show inR (Int.ofNat b) o.sy.length = true by rw [Int.ofNat_eq_natCast, inR_nat, decide_eq_true hlt],
      decide_eq_true (show sec ≥ 0 from c1), show ((o.sy.getD b SY.z).snd.fst == sec) = true from beq_iff_eq.2 c2, decide_eq_true (show off ≥ IntKind.i64.wrap (o.sy.getD b SY.z).snd.snd.fst by rw [w2]; exact c3),
      decide_eq_true (show IntKind.i64.wrap (off - IntKind.i64.wrap (o.sy.getD b SY.z).snd.snd.fst) < (o.sy.getD b SY.z).snd.snd.snd.fst by rw [w2, wrap64 _ (by omega) (by omega)]; exact c4)]
    simp only [cond_true, cond_false]
    rw [show ixB (p2 sec off (o.sy.getD b SY.z)) o.sy = none from ixB_none (fun j hj => propB_f (fun q => best j hj q.1 q.2))]
    rfl
end Go.Ev
/- What the form's own reach gives: no string and no slice that is met takes more than reachBytes. -/
namespace Go.Ev
section
variable {H : Type}
mutual
def wzD : Sh → DataW H → Prop
  | .int _, _ => True
  | .bool, _ => True
  | .str, d => (strD d).size ≤ 140737488355328
  | .sl e, d => (elemsD d).length ≤ 140737488355328 ∧ ∀ x ∈ elemsD d, wzD e x
  | .agg l, d => wzDL l (partsD d)
def wzDL : List Sh → List (DataW H) → Prop
  | [], _ => True
  | s :: l, ds => wzD s (ds.headD .nil) ∧ wzDL l ds.tail
end
mutual
def shB (P : Program) : Sh → TypeId → Bool
  | .int _, _ => true
  | .bool, _ => true
  | .str, _ => true
  | .sl e, t => (match P.underlying t with | some (.slice u) => shB P e u && Nat.blt 0 (P.bytesOf u) | _ => false)
  | .agg l, t => (match P.underlying t with | some (.struct fs) => shBL P l (fs.toList.map (·.type)) | _ => false)
def shBL (P : Program) : List Sh → List TypeId → Bool
  | [], [] => true
  | s :: l, t :: ts => shB P s t && shBL P l ts
  | _, _ => false
end
variable {P : Program}
theorem weightsAll_mem {e : TypeId} : ∀ {l : List (DataW H)} {x : DataW H} {n : Nat}, x ∈ l → n ∈ x.weights P e → n ∈ DataW.weightsAll P e l
  | y :: l, x, n, hx, hn => by
    simp only [DataW.weightsAll, List.mem_append]
    rcases List.mem_cons.1 hx with rfl | h
    · exact Or.inl hn
    · exact Or.inr (weightsAll_mem h hn)
mutual
theorem weights_wz : ∀ (s : Sh) (t : TypeId) (d : DataW H), shB P s t = true → (∀ n ∈ d.weights P t, n ≤ reachBytes) → wzD s d
  | .int _, t, d, hs, h => by simp only [wzD]
  | .bool, t, d, hs, h => by simp only [wzD]
  | .str, t, d, hs, h => by
    simp only [wzD]
    have hr : reachBytes ≤ 140737488355328 := by decide
    cases d with
    | lit x =>
      cases x with
      | string l =>
        have := h l.length (by simp [DataW.weights])
        show l.toArray.size ≤ _
        rw [List.size_toArray]; omega
      | _ => exact Nat.zero_le _
    | _ => exact Nat.zero_le _
  | .sl e, t, d, hs, h => by
    simp only [wzD]
    simp only [shB] at hs
    have hr : reachBytes ≤ 140737488355328 := by decide
    split at hs
    · rename_i u hu
      simp only [Bool.and_eq_true] at hs
      have hb : 0 < P.bytesOf u := by simpa [Nat.blt_eq] using hs.2
      cases d with
      | slice elems spare =>
        refine ⟨?_, fun x hx => weights_wz e u x hs.1 fun n hn => h n ?_⟩
        · have := h ((elems.length + spare.length) * P.bytesOf u) (by simp [DataW.weights, hu])
          have h2 : elems.length + spare.length ≤ (elems.length + spare.length) * P.bytesOf u := Nat.le_mul_of_pos_right _ hb
          show elems.length ≤ _
          omega
        · simp only [DataW.weights, hu]
          exact List.mem_cons_of_mem _ (List.mem_append_left _ (weightsAll_mem hx hn))
      | _ => exact ⟨Nat.zero_le _, fun x hx => by cases hx⟩
    · cases hs
  | .agg l, t, d, hs, h => by
    simp only [wzD]
    simp only [shB] at hs
    split at hs
    · rename_i fs hu
      cases d with
      | agg parts =>
        refine weights_wzL l _ parts hs fun n hn => h n ?_
        simp only [DataW.weights, hu]; exact hn
      | _ => exact weights_wzL l _ [] hs fun n hn => by (cases hfs : fs.toList.map (·.type) <;> rw [hfs] at hn <;> simp [DataW.weightsEach] at hn)
    · cases hs
theorem weights_wzL : ∀ (l : List Sh) (ts : List TypeId) (ds : List (DataW H)), shBL P l ts = true → (∀ n ∈ DataW.weightsEach P ts ds, n ≤ reachBytes) → wzDL l ds
  | [], ts, ds, hs, h => by simp only [wzDL]
  | s :: l, [], ds, hs, h => by simp [shBL] at hs
  | s :: l, t :: ts, [], hs, h => by
    simp only [shBL, Bool.and_eq_true] at hs
    simp only [wzDL, List.headD_nil, List.tail_nil]
    exact ⟨weights_wz s t .nil hs.1 (fun n hn => by simp [DataW.weights] at hn), weights_wzL l ts [] hs.2 (fun n hn => by cases ts <;> simp [DataW.weightsEach] at hn)⟩
  | s :: l, t :: ts, d :: ds, hs, h => by
    simp only [shBL, Bool.and_eq_true] at hs
    simp only [wzDL, List.headD_cons, List.tail_cons]
    exact ⟨weights_wz s t d hs.1 (fun n hn => h n (by simp only [DataW.weightsEach, List.mem_append]; exact Or.inl hn)), weights_wzL l ts ds hs.2 (fun n hn => h n (by simp only [DataW.weightsEach, List.mem_append]; exact Or.inr hn))⟩
end
end
end Go.Ev
