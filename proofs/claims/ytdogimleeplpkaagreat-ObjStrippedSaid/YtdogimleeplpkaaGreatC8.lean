/- The evaluator, its soundness and the walks: part 8. -/
import Derived.Laws.Externs
import Derived.Test.YtdogimleeplpkaaGreatC7
set_option linter.unusedSectionVars false
set_option linter.unusedSimpArgs false
set_option linter.unusedVariables false
set_option maxRecDepth 100000
set_option maxRecDepth 1000000
noncomputable section
/- Names, as the specification checks them. -/
namespace Go.Ev
open Go.Proofs
theorem AllL.noL {P : Program} (l : List Code) : AllL (LsOk P (lsumsOf [])) l := by
  induction l with
  | nil => trivial
  | cons c l ih =>
    refine ⟨?_, ih⟩
    unfold LsOk
    have : lsOf (lsumsOf []) c = none := by
      unfold lsOf
      cases Code.fst c <;> rfl
    rw [this]; trivial
def chB (s : ByteArray) (k : Nat) : Int := (numsOf s).getD k 0
def letB (c : Int) : Bool := (decide (65 ≤ c) && decide (c ≤ 90)) || ((decide (97 ≤ c) && decide (c ≤ 122)) || (decide (c = 95) || decide (c = 46)))
def tailB (c : Int) : Bool := letB c || (decide (c = 36) || (decide (48 ≤ c) && decide (c ≤ 57)))
def nmOk (s : ByteArray) (k : Nat) : Bool := letB (chB s k) || (decide (k ≠ 0) && tailB (chB s k))
def nameB (s : ByteArray) : Bool := (decide (1 ≤ s.size) && decide (s.size ≤ 40)) && allOk s.size (nmOk s)
def flOk (s : ByteArray) (k : Nat) : Bool := decide (33 ≤ chB s k) && decide (chB s k ≤ 126)
def fileB (s : ByteArray) : Bool := (decide (1 ≤ s.size) && decide (s.size ≤ 100)) && allOk s.size (flOk s)
def Tryz.ENm : Env := Tryz.env0 false (sumsOf []) (keepF 128 [(4, [0, 3])])
def Tryz.bNm : Code := nthD .skip (loopsOf (bodyOf Tryz.ENm 128)) 0
def Tryz.BNm (s : St) : Option (AX × St) := codeS Tryz.ENm (callF Tryz.ENm 3) (Tryz.ENm.keep 128) (lsumsOf []) Tryz.bNm (outK [0, 3] [2]) s
def Tryz.EFn : Env := Tryz.env0 false (sumsOf []) (keepF 132 [(2, [0, 3])])
def Tryz.bFn : Code := nthD .skip (loopsOf (bodyOf Tryz.EFn 132)) 0
def Tryz.BFn (s : St) : Option (AX × St) := codeS Tryz.EFn (callF Tryz.EFn 3) (Tryz.EFn.keep 132) (lsumsOf []) Tryz.bFn (outK [0, 3] [0, 2]) s
def Tryz.fNm (vs : List AV) (h : Heap) : Ans (AX × List AV × Heap) := match vs, h with
  | [.val (.string s), .val (.int .i64 (.ofNat 0))], ⟨0, []⟩ => .grd (Nat.ble s.size 1000000) (.br (allOk s.size (nmOk s)) (.out (.exit 0, [.unk], ⟨0, []⟩)) (.out (.ret, [.val (.bool false)], ⟨0, []⟩)))
  | _, _ => .no
def Tryz.LNm : LSum := toLSum 63 [0, 3] [2] Tryz.fNm
def Tryz.fFn (vs : List AV) (h : Heap) : Ans (AX × List AV × Heap) := match vs, h with
  | [.val (.string s), .val (.int .i64 (.ofNat 0))], ⟨0, []⟩ => .grd (Nat.ble s.size 140737488355328) (.br (allOk s.size (flOk s)) (.out (.exit 0, [.val (.string s), .unk], ⟨0, []⟩)) (.out (.ret, [.val (.string s), .val (.bool false)], ⟨0, []⟩)))
  | _, _ => .no
def Tryz.LFn : LSum := toLSum 28 [0, 3] [0, 2] Tryz.fFn
def nameS (args : List AV) : Ans (AV × Heap) := match args with
  | [.val (.string s)] => .out (.val (.bool (nameB s)), ⟨0, []⟩)
  | _ => .no
def fileS (args : List AV) : Ans (AV × Heap) := match args with
  | [.val (.string s)] => .grd (Nat.ble s.size 140737488355328) (.out (.val (.bool (fileB s)), ⟨0, []⟩))
  | _ => .no
theorem Tryz.rNm (s : ByteArray) (k : Nat) : Tryz.BNm (stOf 63 [0, 3] [.val (.string s), .val (.int .i64 k)] ⟨0, []⟩) =
 bif decide ((↑k : Int) < (↑s.size : Int)) then
 bif inR (↑k : Int) s.size then
 bif decide ((numsOf s).getD k 0 ≥ 65) then
 bif decide ((numsOf s).getD k 0 ≤ 90) then
 some (.normal, stOf 63 [0, 3] [.val (Value.string s), .val (.int .i64 (IntKind.i64.wrap ((↑k : Int) + 1)))] ⟨0, []⟩)
 else
 bif decide ((numsOf s).getD k 0 ≥ 97) then
 bif decide ((numsOf s).getD k 0 ≤ 122) then
 some (.normal, stOf 63 [0, 3] [.val (Value.string s), .val (.int .i64 (IntKind.i64.wrap ((↑k : Int) + 1)))] ⟨0, []⟩)
 else
 bif (numsOf s).getD k 0 == 95 then
 some (.normal, stOf 63 [0, 3] [.val (Value.string s), .val (.int .i64 (IntKind.i64.wrap ((↑k : Int) + 1)))] ⟨0, []⟩)
 else
 bif (numsOf s).getD k 0 == 46 then
 some (.normal, stOf 63 [0, 3] [.val (Value.string s), .val (.int .i64 (IntKind.i64.wrap ((↑k : Int) + 1)))] ⟨0, []⟩)
 else
 bif (↑k : Int) == 0 then
 some (.ret, stOf 63 [2] [.val (.bool false)] ⟨0, []⟩)
 else
 bif (numsOf s).getD k 0 != 36 then
 bif decide ((numsOf s).getD k 0 < 48) then
 some (.ret, stOf 63 [2] [.val (.bool false)] ⟨0, []⟩)
 else
 bif decide ((numsOf s).getD k 0 > 57) then
 some (.ret, stOf 63 [2] [.val (.bool false)] ⟨0, []⟩)
 else
 some (.normal, stOf 63 [0, 3] [.val (Value.string s), .val (.int .i64 (IntKind.i64.wrap ((↑k : Int) + 1)))] ⟨0, []⟩)
 else
 some (.normal, stOf 63 [0, 3] [.val (Value.string s), .val (.int .i64 (IntKind.i64.wrap ((↑k : Int) + 1)))] ⟨0, []⟩)
 else
 bif (numsOf s).getD k 0 == 95 then
 some (.normal, stOf 63 [0, 3] [.val (Value.string s), .val (.int .i64 (IntKind.i64.wrap ((↑k : Int) + 1)))] ⟨0, []⟩)
 else
 bif (numsOf s).getD k 0 == 46 then
 some (.normal, stOf 63 [0, 3] [.val (Value.string s), .val (.int .i64 (IntKind.i64.wrap ((↑k : Int) + 1)))] ⟨0, []⟩)
 else
 bif (↑k : Int) == 0 then
 some (.ret, stOf 63 [2] [.val (.bool false)] ⟨0, []⟩)
 else
 bif (numsOf s).getD k 0 != 36 then
 bif decide ((numsOf s).getD k 0 < 48) then
 some (.ret, stOf 63 [2] [.val (.bool false)] ⟨0, []⟩)
 else
 bif decide ((numsOf s).getD k 0 > 57) then
 some (.ret, stOf 63 [2] [.val (.bool false)] ⟨0, []⟩)
 else
 some (.normal, stOf 63 [0, 3] [.val (Value.string s), .val (.int .i64 (IntKind.i64.wrap ((↑k : Int) + 1)))] ⟨0, []⟩)
 else
 some (.normal, stOf 63 [0, 3] [.val (Value.string s), .val (.int .i64 (IntKind.i64.wrap ((↑k : Int) + 1)))] ⟨0, []⟩)
 else
 bif decide ((numsOf s).getD k 0 ≥ 97) then
 bif decide ((numsOf s).getD k 0 ≤ 122) then
 some (.normal, stOf 63 [0, 3] [.val (Value.string s), .val (.int .i64 (IntKind.i64.wrap ((↑k : Int) + 1)))] ⟨0, []⟩)
 else
 bif (numsOf s).getD k 0 == 95 then
 some (.normal, stOf 63 [0, 3] [.val (Value.string s), .val (.int .i64 (IntKind.i64.wrap ((↑k : Int) + 1)))] ⟨0, []⟩)
 else
 bif (numsOf s).getD k 0 == 46 then
 some (.normal, stOf 63 [0, 3] [.val (Value.string s), .val (.int .i64 (IntKind.i64.wrap ((↑k : Int) + 1)))] ⟨0, []⟩)
 else
 bif (↑k : Int) == 0 then
 some (.ret, stOf 63 [2] [.val (.bool false)] ⟨0, []⟩)
 else
 bif (numsOf s).getD k 0 != 36 then
 bif decide ((numsOf s).getD k 0 < 48) then
 some (.ret, stOf 63 [2] [.val (.bool false)] ⟨0, []⟩)
 else
 bif decide ((numsOf s).getD k 0 > 57) then
 some (.ret, stOf 63 [2] [.val (.bool false)] ⟨0, []⟩)
 else
 some (.normal, stOf 63 [0, 3] [.val (Value.string s), .val (.int .i64 (IntKind.i64.wrap ((↑k : Int) + 1)))] ⟨0, []⟩)
 else
 some (.normal, stOf 63 [0, 3] [.val (Value.string s), .val (.int .i64 (IntKind.i64.wrap ((↑k : Int) + 1)))] ⟨0, []⟩)
 else
 bif (numsOf s).getD k 0 == 95 then
 some (.normal, stOf 63 [0, 3] [.val (Value.string s), .val (.int .i64 (IntKind.i64.wrap ((↑k : Int) + 1)))] ⟨0, []⟩)
 else
 bif (numsOf s).getD k 0 == 46 then
 some (.normal, stOf 63 [0, 3] [.val (Value.string s), .val (.int .i64 (IntKind.i64.wrap ((↑k : Int) + 1)))] ⟨0, []⟩)
 else
 bif (↑k : Int) == 0 then
 some (.ret, stOf 63 [2] [.val (.bool false)] ⟨0, []⟩)
 else
 bif (numsOf s).getD k 0 != 36 then
 bif decide ((numsOf s).getD k 0 < 48) then
 some (.ret, stOf 63 [2] [.val (.bool false)] ⟨0, []⟩)
 else
 bif decide ((numsOf s).getD k 0 > 57) then
 some (.ret, stOf 63 [2] [.val (.bool false)] ⟨0, []⟩)
 else
 some (.normal, stOf 63 [0, 3] [.val (Value.string s), .val (.int .i64 (IntKind.i64.wrap ((↑k : Int) + 1)))] ⟨0, []⟩)
 else
 some (.normal, stOf 63 [0, 3] [.val (Value.string s), .val (.int .i64 (IntKind.i64.wrap ((↑k : Int) + 1)))] ⟨0, []⟩)
 else
 none
 else
 some (.exit 0, stOf 63 [] [] ⟨0, []⟩) := by kernel_rfl
theorem Tryz.rFn (s : ByteArray) (k : Nat) : Tryz.BFn (stOf 28 [0, 3] [.val (.string s), .val (.int .i64 k)] ⟨0, []⟩) =
 bif decide ((↑k : Int) < (↑s.size : Int)) then
 bif inR (↑k : Int) s.size then
 bif decide ((numsOf s).getD k 0 < 33) then
 some (.ret, stOf 28 [0, 2] [.val (Value.string s), .val (.bool false)] ⟨0, []⟩)
 else
 bif inR (↑k : Int) s.size then
 bif decide ((numsOf s).getD k 0 > 126) then
 some (.ret, stOf 28 [0, 2] [.val (Value.string s), .val (.bool false)] ⟨0, []⟩)
 else
 some (.normal, stOf 28 [0, 3] [.val (Value.string s), .val (.int .i64 (IntKind.i64.wrap ((↑k : Int) + 1)))] ⟨0, []⟩)
 else
 none
 else
 none
 else
 some (.exit 0, stOf 28 [0] [.val (Value.string s)] ⟨0, []⟩) := by kernel_rfl
theorem Tryz.wNm (s : ByteArray) : rootS Tryz.ENm 3 128 (lsumsOf [(4, Tryz.LNm)]) [.val (.string s)] =
 bif decide ((↑s.size : Int) < 1) then
 some (.val (.bool false), ⟨0, []⟩)
 else
 bif decide ((↑s.size : Int) > 40) then
 some (.val (.bool false), ⟨0, []⟩)
 else
 bif s.size.ble 1000000 then
 bif allOk s.size (nmOk s) then
 some (.val (.bool true), ⟨0, []⟩)
 else
 some (.val (.bool false), ⟨0, []⟩)
 else
 none := by kernel_rfl
theorem Tryz.wFn (s : ByteArray) : rootS Tryz.EFn 3 132 (lsumsOf [(2, Tryz.LFn)]) [.val (.string s)] =
 bif s.size.ble 140737488355328 then
 bif allOk s.size (flOk s) then
 bif decide ((↑s.size : Int) ≥ 1) then
 bif decide ((↑s.size : Int) ≤ 100) then
 some (.val (.bool true), ⟨0, []⟩)
 else
 some (.val (.bool false), ⟨0, []⟩)
 else
 some (.val (.bool false), ⟨0, []⟩)
 else
 some (.val (.bool false), ⟨0, []⟩)
 else
 none := by kernel_rfl
theorem Tryz.eNm : EnvOk2 Tryz.prog Tryz.ENm := Tryz.envOk false (sumsOf []) _ (fun g A h => by cases h)
theorem Tryz.eFn : EnvOk2 Tryz.prog Tryz.EFn := Tryz.envOk false (sumsOf []) _ (fun g A h => by cases h)
theorem condI {α : Type} (b : Bool) (x y : α) : (bif b then x else y) = if b = true then x else y := by cases b <;> rfl
theorem Tryz.sNm (s : ByteArray) (k : Nat) (hs : s.size ≤ 1000000) (hk : k ≤ s.size) : Tryz.BNm (stOf 63 [0, 3] [.val (.string s), .val (.int .i64 k)] ⟨0, []⟩) =
    bif decide (k < s.size) then (bif nmOk s k then some (.normal, stOf 63 [0, 3] [.val (.string s), .val (.int .i64 ((k + 1 : Nat) : Int))] ⟨0, []⟩) else some (.ret, stOf 63 [2] [.val (.bool false)] ⟨0, []⟩)) else some (.exit 0, stOf 63 [2] [.unk] ⟨0, []⟩) := by
  rw [Tryz.rNm, declt_nat, inR_nat, wrapS k (by omega)]
  by_cases h : k < s.size
  · rw [decide_eq_true h]
    simp only [cond_true]
    unfold nmOk tailB letB
    rw [show (numsOf s).getD k 0 = chB s k from rfl]
    generalize chB s k = c
    generalize (some (_, stOf _ [0, 3] _ _) : Option (AX × St)) = A
    generalize (some (_, stOf _ _ _ _) : Option (AX × St)) = B
    simp only [condI, decide_eq_true_eq, beq_iff_eq, bne_iff_ne, Bool.or_eq_true, Bool.and_eq_true]
    repeat' split
    all_goals first | rfl | (exfalso; omega)
  · rw [decide_eq_false h]; rfl
theorem Tryz.sFn (s : ByteArray) (k : Nat) (hs : s.size ≤ 140737488355328) (hk : k ≤ s.size) : Tryz.BFn (stOf 28 [0, 3] [.val (.string s), .val (.int .i64 k)] ⟨0, []⟩) =
    bif decide (k < s.size) then (bif flOk s k then some (.normal, stOf 28 [0, 3] [.val (.string s), .val (.int .i64 ((k + 1 : Nat) : Int))] ⟨0, []⟩) else some (.ret, stOf 28 [0, 2] [.val (.string s), .val (.bool false)] ⟨0, []⟩)) else some (.exit 0, stOf 28 [0, 2] [.val (.string s), .unk] ⟨0, []⟩) := by
  rw [Tryz.rFn, declt_nat, inR_nat, wrapS k (by omega)]
  by_cases h : k < s.size
  · rw [decide_eq_true h]
    simp only [cond_true]
    unfold flOk
    rw [show (numsOf s).getD k 0 = chB s k from rfl]
    generalize chB s k = c
    generalize (some (_, stOf _ [0, 3] _ _) : Option (AX × St)) = A
    generalize (some (_, stOf _ _ _ _) : Option (AX × St)) = B
    simp only [condI, decide_eq_true_eq, beq_iff_eq, bne_iff_ne, Bool.or_eq_true, Bool.and_eq_true]
    repeat' split
    all_goals first | rfl | (exfalso; omega)
  · rw [decide_eq_false h]; rfl
theorem Tryz.lNm : ∀ s e s', s.h.ok → (Tryz.LNm s).run = some (e, s') → Triple Tryz.prog (.loop Tryz.bNm) s e s' := by
  refine scan_law Tryz.eNm (d := 3) (g := 128) (ls := lsumsOf []) (c := Tryz.bNm) trivial 63 [0, 3] [2] (T := ByteArray) (fun s k => [.val (.string s), .val (.int .i64 k)]) (fun _ => ⟨0, []⟩) (fun s => s.size) nmOk (fun s => s.size ≤ 1000000)
    (fun _ => (.exit 0, [.unk], ⟨0, []⟩)) (fun _ => (.ret, [.val (.bool false)], ⟨0, []⟩)) Tryz.fNm ?_ (fun _ _ => heap0_ok) (fun _ _ => ⟨by simp, by simp⟩) (fun _ _ => ⟨heap0_ok, heap0_ok⟩) (fun s k hs hk _ => Tryz.sNm s k hs hk)
  intro vs h e vo h' hok hf
  unfold Tryz.fNm at hf
  split at hf
  · rename_i s
    rw [Ans.run_grd] at hf
    cases hb : Nat.ble s.size 1000000 with
    | false => rw [hb] at hf; cases hf
    | true =>
      rw [hb, cond_true, Ans.run_br] at hf
      refine ⟨s, Nat.le_of_ble_eq_true hb, Weak.refl heap0_ok, ?_⟩
      cases hq : allOk s.size (nmOk s) with
      | true => rw [hq] at hf; injection hf
      | false => rw [hq] at hf; injection hf
  · cases hf
theorem Tryz.lFn : ∀ s e s', s.h.ok → (Tryz.LFn s).run = some (e, s') → Triple Tryz.prog (.loop Tryz.bFn) s e s' := by
  refine scan_law Tryz.eFn (d := 3) (g := 132) (ls := lsumsOf []) (c := Tryz.bFn) trivial 28 [0, 3] [0, 2] (T := ByteArray) (fun s k => [.val (.string s), .val (.int .i64 k)]) (fun _ => ⟨0, []⟩) (fun s => s.size) flOk (fun s => s.size ≤ 140737488355328)
    (fun s => (.exit 0, [.val (.string s), .unk], ⟨0, []⟩)) (fun s => (.ret, [.val (.string s), .val (.bool false)], ⟨0, []⟩)) Tryz.fFn ?_ (fun _ _ => heap0_ok) (fun _ _ => ⟨by simp, by simp⟩) (fun _ _ => ⟨heap0_ok, heap0_ok⟩) (fun s k hs hk _ => Tryz.sFn s k hs hk)
  intro vs h e vo h' hok hf
  unfold Tryz.fFn at hf
  split at hf
  · rename_i s
    rw [Ans.run_grd] at hf
    cases hb : Nat.ble s.size 140737488355328 with
    | false => rw [hb] at hf; cases hf
    | true =>
      rw [hb, cond_true, Ans.run_br] at hf
      refine ⟨s, Nat.le_of_ble_eq_true hb, Weak.refl heap0_ok, ?_⟩
      cases hq : allOk s.size (flOk s) with
      | true => rw [hq] at hf; injection hf
      | false => rw [hq] at hf; injection hf
  · cases hf
end Go.Ev
/- Names: the summaries; the rounds of the specification's sections. -/
namespace Go.Ev
open Go.Proofs
theorem Tryz.sumNm : SumC Tryz.prog 128 (pureA nameS) := by
  refine pureSumR 128 ⟨Tryz.f128, _, Tryz.fnOk128.1, Tryz.fnOk128.2, rfl⟩ ?_
  intro args v h2 hs
  unfold nameS at hs
  split at hs
  · rename_i s
    injection hs with hs
    injection hs with q1 q2
    subst q1; subst q2
    refine rootS_alone Tryz.eNm (d := 3) (g := 128) (ls := lsumsOf [(4, Tryz.LNm)]) (AllL.of1 (a := Tryz.bNm) (by kernel_rfl) (LsOk.of rfl rfl Tryz.lNm)) ((Tryz.wNm s).trans ?_)
    unfold nameB
    by_cases h1 : 1 ≤ s.size
    · by_cases h2 : s.size ≤ 40
      · rw [decide_eq_false (by omega), decide_eq_false (by omega), decide_eq_true h1, decide_eq_true h2, ble_t (by omega)]
        cases allOk s.size (nmOk s) <;> rfl
      · rw [decide_eq_false (by omega), decide_eq_true (show (s.size : Int) > 40 by omega), decide_eq_true h1, decide_eq_false h2]; rfl
    · rw [decide_eq_true (show (s.size : Int) < 1 by omega), decide_eq_false h1]; rfl
  · cases hs
theorem Tryz.sumFl : SumC Tryz.prog 132 (pureA fileS) := by
  refine pureSumR 132 ⟨Tryz.f132, _, Tryz.fnOk132.1, Tryz.fnOk132.2, rfl⟩ ?_
  intro args v h2 hs
  unfold fileS at hs
  split at hs
  · rename_i s
    rw [Ans.run_grd] at hs
    cases hb : Nat.ble s.size 140737488355328 with
    | false => rw [hb] at hs; cases hs
    | true =>
    rw [hb, cond_true] at hs
    injection hs with hs
    injection hs with q1 q2
    subst q1; subst q2
    refine rootS_alone Tryz.eFn (d := 3) (g := 132) (ls := lsumsOf [(2, Tryz.LFn)]) (AllL.of1 (a := Tryz.bFn) (by kernel_rfl) (LsOk.of rfl rfl Tryz.lFn)) ((Tryz.wFn s).trans ?_)
    unfold fileB
    rw [hb, cond_true]
    cases allOk s.size (flOk s) with
    | false => rw [Bool.and_false]; rfl
    | true =>
      by_cases h1 : 1 ≤ s.size
      · by_cases h2 : s.size ≤ 100
        · rw [decide_eq_true (show (s.size : Int) ≥ 1 by omega), decide_eq_true (show (s.size : Int) ≤ 100 by omega), decide_eq_true h1, decide_eq_true h2]; rfl
        · rw [decide_eq_true (show (s.size : Int) ≥ 1 by omega), decide_eq_false (show ¬ (s.size : Int) ≤ 100 by omega), decide_eq_true h1, decide_eq_false h2]; rfl
      · rw [decide_eq_false (show ¬ (s.size : Int) ≥ 1 by omega), decide_eq_false h1]; rfl
  · cases hs
abbrev SecD := ByteArray × Int × Int × List Int × Int
abbrev SymD := ByteArray × Int × Int × Int × Int × Int
abbrev RelD := Int × Int × Int × Int × Int
abbrev LinD := Int × Int × Int × Int
def seRow (e : SecD) : List AV := [.val (.string e.1), .val (.int .i64 e.2.1), .val (.int .i64 e.2.2.1), .ro (.ints .u8 e.2.2.2.1) none, .val (.int .i64 e.2.2.2.2)]
def seZ : SecD := (ByteArray.empty, 0, 0, [], 0)
def seParse : List AV → SecD
  | [.val (.string s), .val (.int .i64 a), .val (.int .i64 b), .ro (.ints .u8 l) _, .val (.int .i64 z)] => (s, a, b, l, z)
  | [.val (.string s), .val (.int .i64 a), .val (.int .i64 b), .val (.slice none 0 0), .val (.int .i64 z)] => (s, a, b, [], z)
  | _ => seZ
def seIs : List AV → Bool
  | [.val (.string s), .val (.int .i64 a), .val (.int .i64 b), .ro (.ints .u8 l) _, .val (.int .i64 z)] => true
  | [.val (.string s), .val (.int .i64 a), .val (.int .i64 b), .val (.slice none 0 0), .val (.int .i64 z)] => true
  | _ => false
def syRow (e : SymD) : List AV := [.val (.string e.1), .val (.int .i64 e.2.1), .val (.int .u32 e.2.2.1), .val (.int .i64 e.2.2.2.1), .val (.int .i64 e.2.2.2.2.1), .val (.int .i64 e.2.2.2.2.2)]
def syZ : SymD := (ByteArray.empty, 0, 0, 0, 0, 0)
def syParse : List AV → SymD
  | [.val (.string s), .val (.int .i64 a), .val (.int .u32 b), .val (.int .i64 c), .val (.int .i64 d), .val (.int .i64 e)] => (s, a, b, c, d, e)
  | _ => syZ
def syIs : List AV → Bool
  | [.val (.string s), .val (.int .i64 a), .val (.int .u32 b), .val (.int .i64 c), .val (.int .i64 d), .val (.int .i64 e)] => true
  | _ => false
def reRow (e : RelD) : List AV := [.val (.int .i64 e.1), .val (.int .i64 e.2.1), .val (.int .i64 e.2.2.1), .val (.int .i64 e.2.2.2.1), .val (.int .i64 e.2.2.2.2)]
def reZ : RelD := (0, 0, 0, 0, 0)
def reParse : List AV → RelD
  | [.val (.int .i64 a), .val (.int .i64 b), .val (.int .i64 c), .val (.int .i64 d), .val (.int .i64 e)] => (a, b, c, d, e)
  | _ => reZ
def reIs : List AV → Bool
  | [.val (.int .i64 a), .val (.int .i64 b), .val (.int .i64 c), .val (.int .i64 d), .val (.int .i64 e)] => true
  | _ => false
def fiRow (s : ByteArray) : List AV := [.val (.string s)]
def fiParse : List AV → ByteArray
  | [.val (.string s)] => s
  | _ => ByteArray.empty
def fiIs : List AV → Bool
  | [.val (.string s)] => true
  | _ => false
def liRow (e : LinD) : List AV := [.val (.int .i64 e.1), .val (.int .i64 e.2.1), .val (.int .i64 e.2.2.1), .val (.int .i64 e.2.2.2)]
def liZ : LinD := (0, 0, 0, 0)
def liParse : List AV → LinD
  | [.val (.int .i64 a), .val (.int .i64 b), .val (.int .i64 c), .val (.int .i64 d)] => (a, b, c, d)
  | _ => liZ
def liIs : List AV → Bool
  | [.val (.int .i64 a), .val (.int .i64 b), .val (.int .i64 c), .val (.int .i64 d)] => true
  | _ => false
theorem se_law (r : List AV) (h : seIs r = true) (j : Nat) (v' : AV) (hv : (seRow (seParse r))[j]? = some v') : ∃ v, r[j]? = some v ∧ AW v v' := by
  unfold seIs at h
  split at h
  · rename_i s a b l cap z
    exact AWs.get (l' := [.val (.string s), .val (.int .i64 a), .val (.int .i64 b), .ro (.ints .u8 l) none, .val (.int .i64 z)]) (.cons (AW.refl _) (.cons (AW.refl _) (.cons (AW.refl _) (.cons (AW.cap _ _) (.cons (AW.refl _) .nil))))) j v' hv
  · rename_i s a b z
    exact AWs.get (l' := [.val (.string s), .val (.int .i64 a), .val (.int .i64 b), .ro (.ints .u8 []) none, .val (.int .i64 z)]) (.cons (AW.refl _) (.cons (AW.refl _) (.cons (AW.refl _) (.cons (AW.nil rfl) (.cons (AW.refl _) .nil))))) j v' hv
  · cases h
theorem sy_law (r : List AV) (h : syIs r = true) (j : Nat) (v' : AV) (hv : (syRow (syParse r))[j]? = some v') : ∃ v, r[j]? = some v ∧ AW v v' := by
  unfold syIs at h
  split at h
  · exact ⟨v', hv, AW.refl _⟩
  · cases h
theorem re_law (r : List AV) (h : reIs r = true) (j : Nat) (v' : AV) (hv : (reRow (reParse r))[j]? = some v') : ∃ v, r[j]? = some v ∧ AW v v' := by
  unfold reIs at h
  split at h
  · exact ⟨v', hv, AW.refl _⟩
  · cases h
theorem fi_law (r : List AV) (h : fiIs r = true) (j : Nat) (v' : AV) (hv : (fiRow (fiParse r))[j]? = some v') : ∃ v, r[j]? = some v ∧ AW v v' := by
  unfold fiIs at h
  split at h
  · exact ⟨v', hv, AW.refl _⟩
  · cases h
theorem li_law (r : List AV) (h : liIs r = true) (j : Nat) (v' : AV) (hv : (liRow (liParse r))[j]? = some v') : ∃ v, r[j]? = some v ∧ AW v v' := by
  unfold liIs at h
  split at h
  · exact ⟨v', hv, AW.refl _⟩
  · cases h
def SE : RowTy SecD := ⟨5, seRow, seParse, seIs, seZ, se_law, fun _ => rfl, fun _ => rfl⟩
def SY : RowTy SymD := ⟨6, syRow, syParse, syIs, syZ, sy_law, fun _ => rfl, fun _ => rfl⟩
def RE : RowTy RelD := ⟨5, reRow, reParse, reIs, reZ, re_law, fun _ => rfl, fun _ => rfl⟩
def FI : RowTy ByteArray := ⟨1, fiRow, fiParse, fiIs, ByteArray.empty, fi_law, fun _ => rfl, fun _ => rfl⟩
def LI : RowTy LinD := ⟨4, liRow, liParse, liIs, liZ, li_law, fun _ => rfl, fun _ => rfl⟩
structure OD where
  se : List SecD
  sy : List SymD
  re : List RelD
  fi : List ByteArray
  li : List LinD
def OD.row (o : OD) : List AV := [.ro (SE.con o.se) none, .ro (SY.con o.sy) none, .ro (RE.con o.re) none, .ro (FI.con o.fi) none, .ro (LI.con o.li) none]
def OD.av (o : OD) : AV := .agg o.row
end Go.Ev
/- The specification's sections. -/
namespace Go.Ev
open Go.Proofs
def Tryz.tSe : List (Nat × AFun) := [(128, pureA nameS)]
def Tryz.ESe : Env := Tryz.env0 false (sumsOf Tryz.tSe) (keepF 77 [(5, [0, 3, 4]), (13, [0, 3, 4, 5, 6])])
def Tryz.bSe : Code := nthD .skip (loopsOf (bodyOf Tryz.ESe 77)) 0
def Tryz.bSi : Code := nthD .skip (loopsOf Tryz.bSe) 0
def Tryz.BSi (s : St) : Option (AX × St) := codeS Tryz.ESe (callF Tryz.ESe 4) (Tryz.ESe.keep 77) (lsumsOf []) Tryz.bSi (outK [0, 3, 4, 5, 6] [0, 2, 3, 4, 5]) s
def h1S (e : SecD) : Heap := ⟨1, [⟨0, 0, .cells (.rows true 5 [seRow e])⟩]⟩
def seN (L : List SecD) (k : Nat) : ByteArray := (L.getD k SE.z).1
def newN (L : List SecD) (e : SecD) (k : Nat) : Bool := !((seN L k).toList == e.1.toList)
structure SiD where
  L : List SecD
  u : Int
  i : Nat
  e : SecD
def Vsi (x : SiD) (k : Nat) : List AV := [.ro (SE.con x.L) none, .val (.int .i64 x.u), .val (.int .i64 x.i), .ptr 0 0 0, .val (.int .i64 k)]
def Xsi (x : SiD) (b : AV) : List AV := [.ro (SE.con x.L) none, b, .val (.int .i64 x.u), .val (.int .i64 x.i), .ptr 0 0 0]
def fSi (vs : List AV) (h : Heap) : Ans (AX × List AV × Heap) := match vs, h with
  | [.ro c _, .val (.int .i64 u), .val (.int .i64 (.ofNat i)), .ptr 0 0 0, .val (.int .i64 (.ofNat 0))], ⟨1, [⟨0, 0, .cells (.rows true 5 [[.val (.string s), .val (.int .i64 a), .val (.int .i64 b), .ro (.ints .u8 l) none, .val (.int .i64 z)]])⟩]⟩ =>
    .grd (SE.ok c && (Nat.ble i c.len && Nat.ble i 1000000)) (.br (allOk i (newN (SE.list c) (s, a, b, l, z))) (.out (.exit 2, Xsi ⟨SE.list c, u, i, (s, a, b, l, z)⟩ .unk, h1S (s, a, b, l, z))) (.out (.ret, Xsi ⟨SE.list c, u, i, (s, a, b, l, z)⟩ (.val (.bool false)), h1S (s, a, b, l, z))))
  | _, _ => .no
def LSi : LSum := toLSum 77 [0, 3, 4, 5, 6] [0, 2, 3, 4, 5] fSi
theorem Tryz.rSi (x : SiD) (k : Nat) : Tryz.BSi (stOf 77 [0, 3, 4, 5, 6] (Vsi x k) (h1S x.e)) =
 bif decide ((↑k : Int) < (↑x.i : Int)) then
 bif inR (↑k : Int) x.L.length then
 bif (x.L.getD k SE.z).fst.toList == x.e.fst.toList then
 some (.ret, stOf 77 [0, 2, 3, 4, 5] [.ro (.tab 5 (x.L.length) (fun i => SE.row (x.L.getD i SE.z))) none, .val (.bool false), .val (.int .i64 (x.u)), .val (.int .i64 ((↑x.i : Int))), .ptr 0 0 0] ⟨1, [⟨0, 0, .cells (.rows true 5 ([.val (Value.string x.e.fst), .val (.int .i64 (x.e.snd.fst)), .val (.int .i64 (x.e.snd.snd.fst)), .ro (.ints .u8 (x.e.snd.snd.snd.fst)) none, .val (.int .i64 (x.e.snd.snd.snd.snd))] :: []))⟩]⟩ )
 else
 some (.normal, stOf 77 [0, 3, 4, 5, 6] [.ro (.tab 5 (x.L.length) (fun i => SE.row (x.L.getD i SE.z))) none, .val (.int .i64 (x.u)), .val (.int .i64 ((↑x.i : Int))), .ptr 0 0 0, .val (.int .i64 (IntKind.i64.wrap ((↑k : Int) + 1)))] ⟨1, [⟨0, 0, .cells (.rows true 5 ([.val (Value.string x.e.fst), .val (.int .i64 (x.e.snd.fst)), .val (.int .i64 (x.e.snd.snd.fst)), .ro (.ints .u8 (x.e.snd.snd.snd.fst)) none, .val (.int .i64 (x.e.snd.snd.snd.snd))] :: []))⟩]⟩ )
 else
 none
 else
 some (.exit 2, stOf 77 [0, 3, 4, 5] [.ro (.tab 5 (x.L.length) (fun i => SE.row (x.L.getD i SE.z))) none, .val (.int .i64 (x.u)), .val (.int .i64 ((↑x.i : Int))), .ptr 0 0 0] ⟨1, [⟨0, 0, .cells (.rows true 5 ([.val (Value.string x.e.fst), .val (.int .i64 (x.e.snd.fst)), .val (.int .i64 (x.e.snd.snd.fst)), .ro (.ints .u8 (x.e.snd.snd.snd.fst)) none, .val (.int .i64 (x.e.snd.snd.snd.snd))] :: []))⟩]⟩ ) := by kernel_rfl
theorem Tryz.eSe : EnvOk2 Tryz.prog Tryz.ESe := Tryz.envOk false (sumsOf Tryz.tSe) _ (sumsOf_ok (show AllS Tryz.prog Tryz.tSe from ⟨Tryz.sumNm, trivial⟩))
theorem h1S_ok (e : SecD) : (h1S e).ok := oneH_ok _
def siInv (x : SiD) : Prop := x.i ≤ x.L.length ∧ x.i ≤ 1000000
theorem Tryz.sSi (x : SiD) (k : Nat) (hx : siInv x) (hk : k ≤ x.i) : Tryz.BSi (stOf 77 [0, 3, 4, 5, 6] (Vsi x k) (h1S x.e)) =
    bif decide (k < x.i) then (bif newN x.L x.e k then some (.normal, stOf 77 [0, 3, 4, 5, 6] (Vsi x (k + 1)) (h1S x.e)) else some (.ret, stOf 77 [0, 2, 3, 4, 5] (Xsi x (.val (.bool false))) (h1S x.e)))
    else some (.exit 2, stOf 77 [0, 2, 3, 4, 5] (Xsi x .unk) (h1S x.e)) := by
  obtain ⟨h1, h2⟩ := hx
  rw [Tryz.rSi, declt_nat, inR_nat, wrapS k (by omega)]
  by_cases h : k < x.i
  · rw [decide_eq_true h, decide_eq_true (show k < x.L.length by omega)]
    simp only [cond_true]
    unfold newN seN
    cases ((x.L.getD k SE.z).fst.toList == x.e.fst.toList) with
    | true => rfl
    | false => rfl
  · rw [decide_eq_false h]; rfl
theorem Tryz.lSi : ∀ s e s', s.h.ok → (LSi s).run = some (e, s') → Triple Tryz.prog (.loop Tryz.bSi) s e s' := by
  refine scan_law Tryz.eSe (d := 4) (g := 77) (ls := lsumsOf []) (c := Tryz.bSi) trivial 77 [0, 3, 4, 5, 6] [0, 2, 3, 4, 5] (T := SiD) Vsi (fun x => h1S x.e) (fun x => x.i) (fun x => newN x.L x.e) siInv
    (fun x => (.exit 2, Xsi x .unk, h1S x.e)) (fun x => (.ret, Xsi x (.val (.bool false)), h1S x.e)) fSi ?_ (fun x _ => h1S_ok x.e) (fun _ _ => ⟨by simp, by simp⟩) (fun x _ => ⟨h1S_ok x.e, h1S_ok x.e⟩) (fun x k hx hk _ => Tryz.sSi x k hx hk)
  intro vs h e vo h' hok hf
  unfold fSi at hf
  split at hf
  · rename_i c cap u i s a b l z
    rw [Ans.run_grd] at hf
    cases hb : (SE.ok c && (Nat.ble i c.len && Nat.ble i 1000000)) with
    | false => rw [hb] at hf; cases hf
    | true =>
      rw [hb, cond_true, Ans.run_br] at hf
      simp only [Bool.and_eq_true, Nat.ble_eq] at hb
      obtain ⟨b1, b2, b3⟩ := hb
      refine ⟨⟨SE.list c, u, i, (s, a, b, l, z)⟩, ⟨by show i ≤ (SE.list c).length; rw [SE.list_len]; exact b2, b3⟩, ?_, ?_⟩
      · refine Weak.slots (oneH_ok _) ?_
        exact .cons (SE.aw b1 cap) (AWs.refl _)
      · show (bif allOk i (newN (SE.list c) (s, a, b, l, z)) then _ else _) = _
        cases hq : allOk i (newN (SE.list c) (s, a, b, l, z)) with
        | true => rw [hq] at hf; injection hf
        | false => rw [hq] at hf; injection hf
  · cases hf
def lenS (e : SecD) : Int := (e.2.2.2.1.length : Int) + e.2.2.2.2
def sumS (L : List SecD) : Nat → Int := Nat.rec 0 (fun k u => u + lenS (L.getD k SE.z))
def secB (e : SecD) : Bool := nameB e.1 && ((decide (1 ≤ e.2.1) && decide (e.2.1 ≤ 7)) && ((decide (0 ≤ e.2.2.2.2) && decide (e.2.2.2.2 ≤ 65536)) && ((decide (1 ≤ e.2.2.1) && decide (e.2.2.1 ≤ 256)) && decide ((256 : Int).tmod e.2.2.1 = 0))))
def secOk (L : List SecD) (i : Nat) : Bool := secB (L.getD i SE.z) && allOk i (newN L (L.getD i SE.z))
def Tryz.BSo (s : St) : Option (AX × St) := codeS Tryz.ESe (callF Tryz.ESe 4) (Tryz.ESe.keep 77) (lsumsOf [(13, LSi)]) Tryz.bSe (outK [0, 3, 4] [2, 3]) s
theorem Tryz.rSo (L : List SecD) (u : Int) (i : Nat) : Tryz.BSo (stOf 77 [0, 3, 4] [.ro (SE.con L) none, .val (.int .i64 u), .val (.int .i64 i)] ⟨0, []⟩) =
 bif decide ((↑i : Int) < (↑L.length : Int)) then
 bif inR (↑i : Int) L.length then
 bif nameB (L.getD i SE.z).fst then
 bif decide ((L.getD i SE.z).snd.fst < 1) then
 some (.ret, stOf 77 [2, 3] [.val (.bool false), .val (.int .i64 (u))] ⟨0, []⟩)
 else
 bif decide ((L.getD i SE.z).snd.fst > 7) then
 some (.ret, stOf 77 [2, 3] [.val (.bool false), .val (.int .i64 (u))] ⟨0, []⟩)
 else
 bif decide ((L.getD i SE.z).snd.snd.snd.snd < 0) then
 some (.ret, stOf 77 [2, 3] [.val (.bool false), .val (.int .i64 (u))] ⟨0, []⟩)
 else
 bif decide ((L.getD i SE.z).snd.snd.snd.snd > 65536) then
 some (.ret, stOf 77 [2, 3] [.val (.bool false), .val (.int .i64 (u))] ⟨0, []⟩)
 else
 bif decide ((L.getD i SE.z).snd.snd.fst < 1) then
 some (.ret, stOf 77 [2, 3] [.val (.bool false), .val (.int .i64 (u))] ⟨0, []⟩)
 else
 bif decide ((L.getD i SE.z).snd.snd.fst > 256) then
 some (.ret, stOf 77 [2, 3] [.val (.bool false), .val (.int .i64 (u))] ⟨0, []⟩)
 else
 bif (L.getD i SE.z).snd.snd.fst != 0 then
 bif Int.tmod 256 (L.getD i SE.z).snd.snd.fst != 0 then
 some (.ret, stOf 77 [2, 3] [.val (.bool false), .val (.int .i64 (u))] ⟨0, []⟩)
 else
 bif SE.ok (SE.con L) && (i.ble L.length && i.ble 1000000) then
 bif allOk i (newN (SE.list (SE.con L)) ((L.getD i SE.z).fst, (L.getD i SE.z).snd.fst, (L.getD i SE.z).snd.snd.fst, (L.getD i SE.z).snd.snd.snd.fst, (L.getD i SE.z).snd.snd.snd.snd)) then
 some (.normal, stOf 77 [0, 3, 4] [.ro (.tab 5 ((SE.list (SE.con L)).length) (fun i => SE.row ((SE.list (SE.con L)).getD i SE.z))) none, .val (.int .i64 (IntKind.i64.wrap (u + IntKind.i64.wrap ((↑(L.getD i SE.z).snd.snd.snd.fst.length : Int) + (L.getD i SE.z).snd.snd.snd.snd)))), .val (.int .i64 (IntKind.i64.wrap ((↑i : Int) + 1)))] ⟨0, []⟩)
 else
 some (.ret, stOf 77 [2, 3] [.val (.bool false), .val (.int .i64 (u))] ⟨0, []⟩)
 else
 none
 else
 none
 else
 some (.ret, stOf 77 [2, 3] [.val (.bool false), .val (.int .i64 (u))] ⟨0, []⟩)
 else
 none
 else
 some (.exit 0, stOf 77 [3] [.val (.int .i64 (u))] ⟨0, []⟩) := by kernel_rfl
theorem listSE (L : List SecD) : SE.list (SE.con L) = L := SE.list_con L
theorem sec_eta (e : SecD) : (e.1, e.2.1, e.2.2.1, e.2.2.2.1, e.2.2.2.2) = e := rfl
def seInv (L : List SecD) : Prop := L.length ≤ 1000 ∧ ∀ e ∈ L, e.2.2.2.1.length ≤ 140737488355328
theorem lenS_b {e : SecD} (h : secB e = true) (hl : e.2.2.2.1.length ≤ 140737488355328) : 0 ≤ lenS e ∧ lenS e ≤ 140737488420864 := by
  unfold secB at h
  simp only [Bool.and_eq_true, decide_eq_true_eq] at h
  unfold lenS
  omega
theorem getD_mem {α : Type} {l : List α} {k : Nat} {d : α} (h : k < l.length) : l.getD k d ∈ l := by
  rw [List.getD_eq_getElem?_getD, List.getElem?_eq_getElem h]
  exact List.getElem_mem h
theorem sumS_b {L : List SecD} (hL : seInv L) : ∀ k, k ≤ L.length → (∀ i, i < k → secB (L.getD i SE.z) = true) → 0 ≤ sumS L k ∧ sumS L k ≤ (k : Int) * 140737488420864
  | 0, _, _ => by show (0 : Int) ≤ 0 ∧ (0 : Int) ≤ _; omega
  | k + 1, hk, h => by
    obtain ⟨h1, h2⟩ := sumS_b hL k (by omega) (fun i hi => h i (by omega))
    obtain ⟨h3, h4⟩ := lenS_b (h k (by omega)) (hL.2 _ (getD_mem (by omega)))
    show 0 ≤ sumS L k + lenS (L.getD k SE.z) ∧ sumS L k + lenS (L.getD k SE.z) ≤ _
    omega
theorem Tryz.sSo (L : List SecD) (k : Nat) (hL : seInv L) (hk : k ≤ L.length) (hok : ∀ i, i < k → secOk L i = true) : Tryz.BSo (stOf 77 [0, 3, 4] [.ro (SE.con L) none, .val (.int .i64 (sumS L k)), .val (.int .i64 k)] ⟨0, []⟩) =
    bif decide (k < L.length) then (bif secOk L k then some (.normal, stOf 77 [0, 3, 4] [.ro (SE.con L) none, .val (.int .i64 (sumS L (k + 1))), .val (.int .i64 ((k + 1 : Nat) : Int))] ⟨0, []⟩)
      else some (.ret, stOf 77 [2, 3] [.val (.bool false), .val (.int .i64 (sumS L k))] ⟨0, []⟩)) else some (.exit 0, stOf 77 [2, 3] [.unk, .val (.int .i64 (sumS L L.length))] ⟨0, []⟩) := by
  obtain ⟨hL1, hL2⟩ := id hL
  have hsec : ∀ i, i < k → secB (L.getD i SE.z) = true := fun i hi => by
    have := hok i hi
    unfold secOk at this
    rw [Bool.and_eq_true] at this
    exact this.1
  obtain ⟨u0, u1⟩ := sumS_b hL k hk hsec
  rw [Tryz.rSo, declt_nat, inR_nat, wrapS k (by omega)]
  by_cases h : k < L.length
  · rw [decide_eq_true h]
    simp only [cond_true]
    rw [listSE, SE.ok_con, ble_t (by omega), ble_t (by omega), sec_eta]
    have hm := hL2 _ (getD_mem (d := SE.z) h)
    have eu : sumS L (k + 1) = sumS L k + lenS (L.getD k SE.z) := rfl
    rw [eu]
    unfold secOk secB
    unfold lenS
    generalize allOk k (newN L (L.getD k SE.z)) = dup
    generalize L.getD k SE.z = e at hm ⊢
    obtain ⟨s, a, b, l, z⟩ := e
    simp only at hm ⊢
    cases nameB s with
    | false => rfl
    | true =>
    by_cases c1 : a < 1
    · rw [decide_eq_true c1, decide_eq_false (show ¬ 1 ≤ a by omega)]; rfl
    · by_cases c2 : a > 7
      · rw [decide_eq_false c1, decide_eq_true c2, decide_eq_true (show 1 ≤ a by omega), decide_eq_false (show ¬ a ≤ 7 by omega)]; rfl
      · by_cases c3 : z < 0
        · rw [decide_eq_false c1, decide_eq_false c2, decide_eq_true c3, decide_eq_true (show 1 ≤ a by omega), decide_eq_true (show a ≤ 7 by omega), decide_eq_false (show ¬ 0 ≤ z by omega)]; rfl
        · by_cases c4 : z > 65536
          · rw [decide_eq_false c1, decide_eq_false c2, decide_eq_false c3, decide_eq_true c4, decide_eq_true (show 1 ≤ a by omega), decide_eq_true (show a ≤ 7 by omega), decide_eq_true (show 0 ≤ z by omega), decide_eq_false (show ¬ z ≤ 65536 by omega)]; rfl
          · rw [decide_eq_false c1, decide_eq_false c2, decide_eq_false c3, decide_eq_false c4, decide_eq_true (show 1 ≤ a by omega), decide_eq_true (show a ≤ 7 by omega), decide_eq_true (show 0 ≤ z by omega), decide_eq_true (show z ≤ 65536 by omega)]
            by_cases c5 : b < 1
            · rw [decide_eq_true c5, decide_eq_false (show ¬ 1 ≤ b by omega)]; rfl
            · by_cases c6 : b > 256
              · rw [decide_eq_false c5, decide_eq_true c6, decide_eq_true (show 1 ≤ b by omega), decide_eq_false (show ¬ b ≤ 256 by omega)]; rfl
              · rw [decide_eq_false c5, decide_eq_false c6, decide_eq_true (show 1 ≤ b by omega), decide_eq_true (show b ≤ 256 by omega), show (b != 0) = true by rw [bne_iff_ne]; omega, wrap64 ((l.length : Int) + z) (by omega) (by omega), wrap64 (sumS L k + ((l.length : Int) + z)) (by omega) (by omega)]
                by_cases c7 : (256 : Int).tmod b = 0
                · rw [decide_eq_true c7, show ((256 : Int).tmod b != 0) = false by rw [c7]; rfl]
                  cases dup <;> rfl
                · rw [decide_eq_false c7, show ((256 : Int).tmod b != 0) = true by rw [bne_iff_ne]; exact c7]; rfl
  · rw [decide_eq_false h]
    have : k = L.length := by omega
    rw [this]; rfl
end Go.Ev
/- The specification's sections and files: the summaries. -/
namespace Go.Ev
open Go.Proofs
def fSe (vs : List AV) (h : Heap) : Ans (AX × List AV × Heap) := match vs, h with
  | [.ro c _, .val (.int .i64 (.ofNat 0)), .val (.int .i64 (.ofNat 0))], ⟨0, []⟩ =>
    .grd (SE.ok c && propB (seInv (SE.list c))) (.br (allOk (SE.list c).length (secOk (SE.list c))) (.out (.exit 0, [.unk, .val (.int .i64 (sumS (SE.list c) (SE.list c).length))], ⟨0, []⟩)) (.out (.ret, [.val (.bool false), .unk], ⟨0, []⟩)))
  | _, _ => .no
def LSe : LSum := toLSum 77 [0, 3, 4] [2, 3] fSe
def secsB (L : List SecD) : Bool := decide (L.length ≤ 16) && (allOk L.length (secOk L) && decide (sumS L L.length ≤ 65536))
def secsS (args : List AV) : Ans (AV × Heap) := match args with
  | [.ro c cap] => .grd (SE.ok c && propB (seInv (SE.list c))) (.out (.val (.bool (secsB (SE.list c))), ⟨0, []⟩))
  | _ => .no
theorem Tryz.lSe : ∀ s e s', s.h.ok → (LSe s).run = some (e, s') → Triple Tryz.prog (.loop Tryz.bSe) s e s' := by
  refine scan_lawW Tryz.eSe (d := 4) (g := 77) (ls := lsumsOf [(13, LSi)]) (c := Tryz.bSe) (AllL.of1 (a := Tryz.bSi) (by kernel_rfl) (LsOk.of rfl rfl Tryz.lSi)) 77 [0, 3, 4] [2, 3] (T := List SecD)
    (fun L k => [.ro (SE.con L) none, .val (.int .i64 (sumS L k)), .val (.int .i64 k)]) (fun _ => ⟨0, []⟩) (fun L => L.length) secOk seInv
    (fun L => (.exit 0, [.unk, .val (.int .i64 (sumS L L.length))], ⟨0, []⟩)) (fun _ => (.ret, [.val (.bool false), .unk], ⟨0, []⟩)) fSe ?_ (fun _ _ => heap0_ok) (fun _ _ => ⟨by simp, by simp⟩) (fun _ _ => ⟨heap0_ok, heap0_ok⟩)
    (fun L k => stOf 77 [2, 3] [.val (.bool false), .val (.int .i64 (sumS L k))] ⟨0, []⟩) (fun L k _ => Weak.slots heap0_ok (.cons (AW.refl _) (.cons (AW.unk _) .nil))) (fun L k hL hk hok => Tryz.sSo L k hL hk hok)
  intro vs h e vo h' hok hf
  unfold fSe at hf
  split at hf
  · rename_i c cap
    rw [Ans.run_grd] at hf
    cases hb : (SE.ok c && propB (seInv (SE.list c))) with
    | false => rw [hb] at hf; cases hf
    | true =>
      rw [hb, cond_true, Ans.run_br] at hf
      rw [Bool.and_eq_true] at hb
      refine ⟨SE.list c, propB_eq hb.2, ?_, ?_⟩
      · refine Weak.slots heap0_ok ?_
        exact .cons (SE.aw hb.1 cap) (AWs.refl _)
      · cases hq : allOk (SE.list c).length (secOk (SE.list c)) with
        | true => rw [hq] at hf; injection hf
        | false => rw [hq] at hf; injection hf
  · cases hf
theorem Tryz.wSe (L : List SecD) : rootS Tryz.ESe 4 77 (lsumsOf [(5, LSe), (13, LSi)]) [.ro (SE.con L) none] =
 bif decide ((↑L.length : Int) > 16) then
 some (.val (.bool false), ⟨0, []⟩)
 else
 bif SE.ok (SE.con L) && propB (seInv (SE.list (SE.con L))) then
 bif allOk (SE.list (SE.con L)).length (secOk (SE.list (SE.con L))) then
 bif decide (sumS (SE.list (SE.con L)) (SE.list (SE.con L)).length ≤ 65536) then
 some (.val (.bool true), ⟨0, []⟩)
 else
 some (.val (.bool false), ⟨0, []⟩)
 else
 some (.val (.bool false), ⟨0, []⟩)
 else
 none := by kernel_rfl
theorem Tryz.sumSe : SumC Tryz.prog 77 (pureA (fun args => secsS (nzs [SE.con []] args))) := by
  refine pureSumR 77 ⟨Tryz.f77, _, Tryz.fnOk77.1, Tryz.fnOk77.2, rfl⟩ ?_
  intro args v h2 hs
  refine Alone.nz (cs := [SE.con []]) (by simp [Con.len, RowTy.con]) ?_
  replace hs : (secsS (nzs [SE.con []] args)).run = some (v, h2) := hs
  generalize nzs [SE.con []] args = args' at hs ⊢
  unfold secsS at hs
  split at hs
  · rename_i c cap
    rw [Ans.run_grd] at hs
    cases hb : (SE.ok c && propB (seInv (SE.list c))) with
    | false => rw [hb] at hs; cases hs
    | true =>
    rw [hb, cond_true] at hs
    rw [Bool.and_eq_true] at hb
    injection hs with hs
    injection hs with q1 q2
    subst q1; subst q2
    refine Alone.argsW (AWs.args (.cons (SE.aw hb.1 cap) .nil)) ?_
    have hi := propB_eq hb.2
    generalize SE.list c = L at hi ⊢
    refine rootS_alone Tryz.eSe (d := 4) (g := 77) (ls := lsumsOf [(5, LSe), (13, LSi)]) (AllL.of2 (a := Tryz.bSe) (b := Tryz.bSi) (by kernel_rfl) (LsOk.of rfl rfl Tryz.lSe) (LsOk.of rfl rfl Tryz.lSi)) ((Tryz.wSe L).trans ?_)
    unfold secsB
    rw [listSE, SE.ok_con, propB_t hi]
    by_cases h1 : L.length ≤ 16
    · rw [decide_eq_false (show ¬ (L.length : Int) > 16 by omega), decide_eq_true h1]
      cases allOk L.length (secOk L) with
      | false => rfl
      | true => cases decide (sumS L L.length ≤ 65536) <;> rfl
    · rw [decide_eq_true (show (L.length : Int) > 16 by omega), decide_eq_false h1]; rfl
  · cases hs
def Tryz.tFi : List (Nat × AFun) := [(132, pureA fileS)]
def Tryz.EFi : Env := Tryz.env0 false (sumsOf Tryz.tFi) (keepF 80 [(4, [0, 3]), (9, [0, 3, 4])])
def Tryz.bFo : Code := nthD .skip (loopsOf (bodyOf Tryz.EFi 80)) 0
def Tryz.bFi : Code := nthD .skip (loopsOf Tryz.bFo) 0
def Tryz.BFi (s : St) : Option (AX × St) := codeS Tryz.EFi (callF Tryz.EFi 4) (Tryz.EFi.keep 80) (lsumsOf []) Tryz.bFi (outK [0, 3, 4] [0, 2, 3]) s
def newF (L : List ByteArray) (i k : Nat) : Bool := !((L.getD k FI.z).toList == (L.getD i FI.z).toList)
def Vfi (x : List ByteArray × Nat) (k : Nat) : List AV := [.ro (FI.con x.1) none, .val (.int .i64 x.2), .val (.int .i64 k)]
def Xfi (x : List ByteArray × Nat) (b : AV) : List AV := [.ro (FI.con x.1) none, b, .val (.int .i64 x.2)]
def fFi (vs : List AV) (h : Heap) : Ans (AX × List AV × Heap) := match vs, h with
  | [.ro c _, .val (.int .i64 (.ofNat i)), .val (.int .i64 (.ofNat 0))], ⟨0, []⟩ =>
    .grd (FI.ok c && (Nat.blt i c.len && Nat.ble i 1000000)) (.br (allOk i (newF (FI.list c) i)) (.out (.exit 2, Xfi (FI.list c, i) .unk, ⟨0, []⟩)) (.out (.ret, Xfi (FI.list c, i) (.val (.bool false)), ⟨0, []⟩)))
  | _, _ => .no
def LFi : LSum := toLSum 34 [0, 3, 4] [0, 2, 3] fFi
def filOk (L : List ByteArray) (i : Nat) : Bool := fileB (L.getD i FI.z) && allOk i (newF L i)
def filInv (L : List ByteArray) : Prop := L.length ≤ 1000000 ∧ ∀ s ∈ L, s.size ≤ 140737488355328
def Tryz.BFo (s : St) : Option (AX × St) := codeS Tryz.EFi (callF Tryz.EFi 4) (Tryz.EFi.keep 80) (lsumsOf [(9, LFi)]) Tryz.bFo (outK [0, 3] [2]) s
def fFo (vs : List AV) (h : Heap) : Ans (AX × List AV × Heap) := match vs, h with
  | [.ro c _, .val (.int .i64 (.ofNat 0))], ⟨0, []⟩ =>
    .grd (FI.ok c && propB (filInv (FI.list c))) (.br (allOk (FI.list c).length (filOk (FI.list c))) (.out (.exit 0, [.unk], ⟨0, []⟩)) (.out (.ret, [.val (.bool false)], ⟨0, []⟩)))
  | _, _ => .no
def LFo : LSum := toLSum 34 [0, 3] [2] fFo
def filsB (L : List ByteArray) : Bool := decide (L.length ≤ 20) && allOk L.length (filOk L)
def filsS (args : List AV) : Ans (AV × Heap) := match args with
  | [.ro c cap] => .grd (FI.ok c && propB (filInv (FI.list c))) (.out (.val (.bool (filsB (FI.list c))), ⟨0, []⟩))
  | _ => .no
theorem Tryz.rFi (x : List ByteArray × Nat) (k : Nat) : Tryz.BFi (stOf 34 [0, 3, 4] (Vfi x k) ⟨0, []⟩) =
 bif decide ((↑k : Int) < (↑x.snd : Int)) then
 bif inR (↑k : Int) x.fst.length then
 bif inR (↑x.snd : Int) x.fst.length then
 bif (x.fst.getD k FI.z).toList == (x.fst.getD x.snd FI.z).toList then
 some (.ret, stOf 34 [0, 2, 3] [.ro (.tab 1 (x.fst.length) (fun i => FI.row (x.fst.getD i FI.z))) none, .val (.bool false), .val (.int .i64 ((↑x.snd : Int)))] ⟨0, []⟩)
 else
 some (.normal, stOf 34 [0, 3, 4] [.ro (.tab 1 (x.fst.length) (fun i => FI.row (x.fst.getD i FI.z))) none, .val (.int .i64 ((↑x.snd : Int))), .val (.int .i64 (IntKind.i64.wrap ((↑k : Int) + 1)))] ⟨0, []⟩)
 else
 none
 else
 none
 else
 some (.exit 2, stOf 34 [0, 3] [.ro (.tab 1 (x.fst.length) (fun i => FI.row (x.fst.getD i FI.z))) none, .val (.int .i64 ((↑x.snd : Int)))] ⟨0, []⟩) := by kernel_rfl
theorem Tryz.rFo (L : List ByteArray) (i : Nat) : Tryz.BFo (stOf 34 [0, 3] [.ro (FI.con L) none, .val (.int .i64 i)] ⟨0, []⟩) =
 bif decide ((↑i : Int) < (↑L.length : Int)) then
 bif inR (↑i : Int) L.length then
 bif (L.getD i FI.z).size.ble 140737488355328 then
 bif fileB (L.getD i FI.z) then
 bif FI.ok (FI.con L) && (i.blt L.length && i.ble 1000000) then
 bif allOk i (newF (FI.list (FI.con L)) i) then
 some (.normal, stOf 34 [0, 3] [.ro (.tab 1 ((FI.list (FI.con L)).length) (fun i => FI.row ((FI.list (FI.con L)).getD i FI.z))) none, .val (.int .i64 (IntKind.i64.wrap ((↑i : Int) + 1)))] ⟨0, []⟩)
 else
 some (.ret, stOf 34 [2] [.val (.bool false)] ⟨0, []⟩)
 else
 none
 else
 some (.ret, stOf 34 [2] [.val (.bool false)] ⟨0, []⟩)
 else
 none
 else
 none
 else
 some (.exit 0, stOf 34 [] [] ⟨0, []⟩) := by kernel_rfl
theorem Tryz.wFi (L : List ByteArray) : rootS Tryz.EFi 4 80 (lsumsOf [(4, LFo), (9, LFi)]) [.ro (FI.con L) none] =
 bif decide ((↑L.length : Int) > 20) then
 some (.val (.bool false), ⟨0, []⟩)
 else
 bif FI.ok (FI.con L) && propB (filInv (FI.list (FI.con L))) then
 bif allOk (FI.list (FI.con L)).length (filOk (FI.list (FI.con L))) then
 some (.val (.bool true), ⟨0, []⟩)
 else
 some (.val (.bool false), ⟨0, []⟩)
 else
 none := by kernel_rfl
theorem Tryz.eFi : EnvOk2 Tryz.prog Tryz.EFi := Tryz.envOk false (sumsOf Tryz.tFi) _ (sumsOf_ok (show AllS Tryz.prog Tryz.tFi from ⟨Tryz.sumFl, trivial⟩))
theorem Tryz.sFi (x : List ByteArray × Nat) (k : Nat) (hx : x.2 < x.1.length ∧ x.2 ≤ 1000000) (hk : k ≤ x.2) : Tryz.BFi (stOf 34 [0, 3, 4] (Vfi x k) ⟨0, []⟩) =
    bif decide (k < x.2) then (bif newF x.1 x.2 k then some (.normal, stOf 34 [0, 3, 4] (Vfi x (k + 1)) ⟨0, []⟩) else some (.ret, stOf 34 [0, 2, 3] (Xfi x (.val (.bool false))) ⟨0, []⟩)) else some (.exit 2, stOf 34 [0, 2, 3] (Xfi x .unk) ⟨0, []⟩) := by
  obtain ⟨h1, h2⟩ := hx
  rw [Tryz.rFi, declt_nat, inR_nat, inR_nat, wrapS k (by omega)]
  by_cases h : k < x.2
  · rw [decide_eq_true h, decide_eq_true (show k < x.1.length by omega), decide_eq_true h1]
    simp only [cond_true]
    unfold newF
    cases ((x.1.getD k FI.z).toList == (x.1.getD x.2 FI.z).toList) with
    | true => rfl
    | false => rfl
  · rw [decide_eq_false h]; rfl
theorem Tryz.lFi : ∀ s e s', s.h.ok → (LFi s).run = some (e, s') → Triple Tryz.prog (.loop Tryz.bFi) s e s' := by
  refine scan_law Tryz.eFi (d := 4) (g := 80) (ls := lsumsOf []) (c := Tryz.bFi) trivial 34 [0, 3, 4] [0, 2, 3] (T := List ByteArray × Nat) Vfi (fun _ => ⟨0, []⟩) (fun x => x.2) (fun x => newF x.1 x.2) (fun x => x.2 < x.1.length ∧ x.2 ≤ 1000000)
    (fun x => (.exit 2, Xfi x .unk, ⟨0, []⟩)) (fun x => (.ret, Xfi x (.val (.bool false)), ⟨0, []⟩)) fFi ?_ (fun _ _ => heap0_ok) (fun _ _ => ⟨by simp, by simp⟩) (fun _ _ => ⟨heap0_ok, heap0_ok⟩) (fun x k hx hk _ => Tryz.sFi x k hx hk)
  intro vs h e vo h' hok hf
  unfold fFi at hf
  split at hf
  · rename_i c cap i
    rw [Ans.run_grd] at hf
    cases hb : (FI.ok c && (Nat.blt i c.len && Nat.ble i 1000000)) with
    | false => rw [hb] at hf; cases hf
    | true =>
      rw [hb, cond_true, Ans.run_br] at hf
      simp only [Bool.and_eq_true, Nat.ble_eq] at hb
      obtain ⟨b1, b2, b3⟩ := hb
      have b2 := blt_iff.1 b2
      refine ⟨(FI.list c, i), ⟨by show i < (FI.list c).length; rw [FI.list_len]; exact b2, b3⟩, ?_, ?_⟩
      · refine Weak.slots heap0_ok ?_
        exact .cons (FI.aw b1 cap) (AWs.refl _)
      · show (bif allOk i (newF (FI.list c) i) then _ else _) = _
        cases hq : allOk i (newF (FI.list c) i) with
        | true => rw [hq] at hf; injection hf
        | false => rw [hq] at hf; injection hf
  · cases hf
theorem Tryz.sFo (L : List ByteArray) (k : Nat) (hL : filInv L) (hk : k ≤ L.length) : Tryz.BFo (stOf 34 [0, 3] [.ro (FI.con L) none, .val (.int .i64 k)] ⟨0, []⟩) =
    bif decide (k < L.length) then (bif filOk L k then some (.normal, stOf 34 [0, 3] [.ro (FI.con L) none, .val (.int .i64 ((k + 1 : Nat) : Int))] ⟨0, []⟩) else some (.ret, stOf 34 [2] [.val (.bool false)] ⟨0, []⟩)) else some (.exit 0, stOf 34 [2] [.unk] ⟨0, []⟩) := by
  obtain ⟨hL1, hL2⟩ := hL
  rw [Tryz.rFo, declt_nat, inR_nat, wrapS k (by omega)]
  by_cases h : k < L.length
  · have hm := hL2 _ (getD_mem (d := FI.z) h)
    rw [decide_eq_true h, ble_t hm]
    simp only [cond_true]
    rw [show FI.list (FI.con L) = L from FI.list_con L, FI.ok_con, blt_t h, ble_t (show k ≤ 1000000 by omega)]
    unfold filOk
    cases fileB (L.getD k FI.z) with
    | false => rfl
    | true => cases allOk k (newF L k) <;> rfl
  · rw [decide_eq_false h]; rfl
theorem Tryz.lFo : ∀ s e s', s.h.ok → (LFo s).run = some (e, s') → Triple Tryz.prog (.loop Tryz.bFo) s e s' := by
  refine scan_law Tryz.eFi (d := 4) (g := 80) (ls := lsumsOf [(9, LFi)]) (c := Tryz.bFo) (AllL.of1 (a := Tryz.bFi) (by kernel_rfl) (LsOk.of rfl rfl Tryz.lFi)) 34 [0, 3] [2] (T := List ByteArray)
    (fun L k => [.ro (FI.con L) none, .val (.int .i64 k)]) (fun _ => ⟨0, []⟩) (fun L => L.length) filOk filInv
    (fun L => (.exit 0, [.unk], ⟨0, []⟩)) (fun _ => (.ret, [.val (.bool false)], ⟨0, []⟩)) fFo ?_ (fun _ _ => heap0_ok) (fun _ _ => ⟨by simp, by simp⟩) (fun _ _ => ⟨heap0_ok, heap0_ok⟩) (fun L k hL hk _ => Tryz.sFo L k hL hk)
  intro vs h e vo h' hok hf
  unfold fFo at hf
  split at hf
  · rename_i c cap
    rw [Ans.run_grd] at hf
    cases hb : (FI.ok c && propB (filInv (FI.list c))) with
    | false => rw [hb] at hf; cases hf
    | true =>
      rw [hb, cond_true, Ans.run_br] at hf
      rw [Bool.and_eq_true] at hb
      refine ⟨FI.list c, propB_eq hb.2, ?_, ?_⟩
      · refine Weak.slots heap0_ok ?_
        exact .cons (FI.aw hb.1 cap) (AWs.refl _)
      · cases hq : allOk (FI.list c).length (filOk (FI.list c)) with
        | true => rw [hq] at hf; injection hf
        | false => rw [hq] at hf; injection hf
  · cases hf
theorem Tryz.sumFi : SumC Tryz.prog 80 (pureA (fun args => filsS (nzs [FI.con []] args))) := by
  refine pureSumR 80 ⟨Tryz.f80, _, Tryz.fnOk80.1, Tryz.fnOk80.2, rfl⟩ ?_
  intro args v h2 hs
  refine Alone.nz (cs := [FI.con []]) (by simp [Con.len, RowTy.con]) ?_
  replace hs : (filsS (nzs [FI.con []] args)).run = some (v, h2) := hs
  generalize nzs [FI.con []] args = args' at hs ⊢
  unfold filsS at hs
  split at hs
  · rename_i c cap
    rw [Ans.run_grd] at hs
    cases hb : (FI.ok c && propB (filInv (FI.list c))) with
    | false => rw [hb] at hs; cases hs
    | true =>
    rw [hb, cond_true] at hs
    rw [Bool.and_eq_true] at hb
    injection hs with hs
    injection hs with q1 q2
    subst q1; subst q2
    refine Alone.argsW (AWs.args (.cons (FI.aw hb.1 cap) .nil)) ?_
    have hi := propB_eq hb.2
    generalize FI.list c = L at hi ⊢
    refine rootS_alone Tryz.eFi (d := 4) (g := 80) (ls := lsumsOf [(4, LFo), (9, LFi)]) (AllL.of2 (a := Tryz.bFo) (b := Tryz.bFi) (by kernel_rfl) (LsOk.of rfl rfl Tryz.lFo) (LsOk.of rfl rfl Tryz.lFi)) ((Tryz.wFi L).trans ?_)
    unfold filsB
    rw [show FI.list (FI.con L) = L from FI.list_con L, FI.ok_con, propB_t hi]
    by_cases h1 : L.length ≤ 20
    · rw [decide_eq_false (show ¬ (L.length : Int) > 20 by omega), decide_eq_true h1]
      cases allOk L.length (filOk L) <;> rfl
    · rw [decide_eq_true (show (L.length : Int) > 20 by omega), decide_eq_false h1]; rfl
  · cases hs
end Go.Ev
/- The specification's symbols. -/
namespace Go.Ev
open Go.Proofs
def Tryz.ESm : Env := Tryz.env0 false (sumsOf []) (keepF 0 [])
def execB (r : Int) : Bool := IntKind.i64.wrap ((BitVec.ofInt 64 r &&& BitVec.ofInt 64 4).toNat : Int) != 0
def symP (L : List SecD) (s : SymD) : Prop := (0 ≤ s.2.2.2.2.1 ∧ s.2.2.2.2.1 ≤ 2) ∧ (0 ≤ s.2.2.2.2.2 ∧ s.2.2.2.2.2 ≤ 2) ∧ (-2 ≤ s.2.1 ∧ s.2.1 < (L.length : Int)) ∧
  (s.2.1 = -1 → s.2.2.2.2.1 ≠ 0 ∧ s.2.2.1 = 0 ∧ s.2.2.2.1 = 0) ∧ (s.2.1 = -2 → s.2.2.2.1 = 0) ∧
  (0 ≤ s.2.1 → (0 ≤ s.2.2.2.1 ∧ s.2.2.2.1 ≤ 65536) ∧ s.2.2.1 + s.2.2.2.1 ≤ lenS (L.getD s.2.1.toNat SE.z) ∧ (s.2.2.2.2.2 = 1 → execB (L.getD s.2.1.toNat SE.z).2.1 = true))
def symB (L : List SecD) (s : SymD) : Bool := propB (symP L s)
def seBound (L : List SecD) : Prop := L.length ≤ 1000000 ∧ ∀ e ∈ L, 0 ≤ lenS e ∧ lenS e ≤ 1000000000000000
def syBound (s : SymD) : Prop := 0 ≤ s.2.2.1 ∧ s.2.2.1 < 4294967296
theorem Tryz.wSm (o : OD) (s : SymD) : rootS Tryz.ESm 4 129 (lsumsOf []) [o.av, .agg (syRow s)] =
 bif decide (s.snd.snd.snd.snd.fst < 0) then
 some (.val (.bool false), ⟨0, []⟩)
 else
 bif decide (s.snd.snd.snd.snd.fst > 2) then
 some (.val (.bool false), ⟨0, []⟩)
 else
 bif decide (s.snd.snd.snd.snd.snd < 0) then
 some (.val (.bool false), ⟨0, []⟩)
 else
 bif decide (s.snd.snd.snd.snd.snd > 2) then
 some (.val (.bool false), ⟨0, []⟩)
 else
 bif decide (s.snd.fst < -2) then
 some (.val (.bool false), ⟨0, []⟩)
 else
 bif decide (s.snd.fst ≥ (↑o.se.length : Int)) then
 some (.val (.bool false), ⟨0, []⟩)
 else
 bif s.snd.fst == -1 then
 bif s.snd.snd.snd.snd.fst != 0 then
 bif s.snd.snd.fst == 0 then
 bif s.snd.snd.snd.fst == 0 then
 some (.val (.bool true), ⟨0, []⟩)
 else
 some (.val (.bool false), ⟨0, []⟩)
 else
 some (.val (.bool false), ⟨0, []⟩)
 else
 some (.val (.bool false), ⟨0, []⟩)
 else
 bif s.snd.fst == -2 then
 bif s.snd.snd.snd.fst == 0 then
 some (.val (.bool true), ⟨0, []⟩)
 else
 some (.val (.bool false), ⟨0, []⟩)
 else
 bif inR s.snd.fst o.se.length then
 bif decide (s.snd.snd.snd.fst < 0) then
 some (.val (.bool false), ⟨0, []⟩)
 else
 bif decide (s.snd.snd.snd.fst > 65536) then
 some (.val (.bool false), ⟨0, []⟩)
 else
 bif decide (IntKind.i64.wrap (IntKind.i64.wrap s.snd.snd.fst + s.snd.snd.snd.fst) > IntKind.i64.wrap ((↑(o.se.getD s.snd.fst.toNat SE.z).snd.snd.snd.fst.length : Int) + (o.se.getD s.snd.fst.toNat SE.z).snd.snd.snd.snd)) then
 some (.val (.bool false), ⟨0, []⟩)
 else
 bif s.snd.snd.snd.snd.snd != 1 then
 some (.val (.bool true), ⟨0, []⟩)
 else
 bif IntKind.i64.wrap (↑(BitVec.ofInt 64 (o.se.getD s.snd.fst.toNat SE.z).snd.fst &&& BitVec.ofInt 64 4).toNat : Int) != 0 then
 some (.val (.bool true), ⟨0, []⟩)
 else
 some (.val (.bool false), ⟨0, []⟩)
 else
 none := by kernel_rfl
theorem Tryz.eSm : EnvOk2 Tryz.prog Tryz.ESm := Tryz.envOk false (sumsOf []) _ (fun g A h => by cases h)
theorem inR_prop {x : Int} {n : Nat} : (inR x n = true) ↔ (0 ≤ x ∧ x < (n : Int)) := by
  cases x with
  | ofNat k =>
    rw [Int.ofNat_eq_natCast, inR_nat, decide_eq_true_eq]
    omega
  | negSucc k =>
    have h1 := Int.negSucc_lt_zero k
    constructor
    · intro h; exfalso; revert h; simp [inR]
    · rintro ⟨h, _⟩; omega
open Classical in
theorem propB_ite {α : Type} (p : Prop) (x y : α) : (bif propB p then x else y) = if p then x else y := by
  by_cases h : p
  · rw [propB_t h, if_pos h]; rfl
  · rw [propB_f h, if_neg h]; rfl
theorem bB {α : Type} (b : Bool) (f : Bool → α) : f b = bif b then f true else f false := by cases b <;> rfl
open Classical in
theorem Tryz.sSm (o : OD) (s : SymD) (ho : seBound o.se) (hs : syBound s) : rootS Tryz.ESm 4 129 (lsumsOf []) [o.av, .agg (syRow s)] = some (.val (.bool (symB o.se s)), ⟨0, []⟩) := by
  rw [Tryz.wSm, bB (symB o.se s) (fun b => some (AV.val (.bool b), (⟨0, []⟩ : Heap)))]
  obtain ⟨o1, o2⟩ := ho
  unfold symB symP
  rw [show (IntKind.i64.wrap ((BitVec.ofInt 64 (o.se.getD s.snd.fst.toNat SE.z).snd.fst &&& BitVec.ofInt 64 4).toNat : Int) != 0) = execB (o.se.getD s.snd.fst.toNat SE.z).2.1 from rfl]
  have hl : ∀ i : Nat, i < o.se.length → 0 ≤ lenS (o.se.getD i SE.z) ∧ lenS (o.se.getD i SE.z) ≤ 1000000000000000 := fun i hi => o2 _ (getD_mem hi)
  obtain ⟨nm, sec, val, size, bind, kind⟩ := s
  unfold syBound at hs
  simp only at hs ⊢
  have hlen : 0 ≤ sec → sec < (o.se.length : Int) → IntKind.i64.wrap ((↑(o.se.getD sec.toNat SE.z).snd.snd.snd.fst.length : Int) + (o.se.getD sec.toNat SE.z).snd.snd.snd.snd) = lenS (o.se.getD sec.toNat SE.z) ∧ (0 ≤ lenS (o.se.getD sec.toNat SE.z) ∧ lenS (o.se.getD sec.toNat SE.z) ≤ 1000000000000000) := by
    intro h0 h1
    have := hl sec.toNat (by omega)
    refine ⟨?_, this⟩
    unfold lenS at this ⊢
    exact wrap64 _ (by omega) (by omega)
  have hval : IntKind.i64.wrap val = val := wrap64 _ (by omega) (by omega)
  rw [hval]
  generalize lenS (o.se.getD sec.toNat SE.z) = ln at hlen ⊢
  generalize IntKind.i64.wrap ((↑(o.se.getD sec.toNat SE.z).snd.snd.snd.fst.length : Int) + (o.se.getD sec.toNat SE.z).snd.snd.snd.snd) = lw at hlen ⊢
  generalize execB (o.se.getD sec.toNat SE.z).snd.fst = ex
  have hsum : 0 ≤ size → size ≤ 65536 → IntKind.i64.wrap (val + size) = val + size := fun h0 h1 => wrap64 _ (by omega) (by omega)
  generalize IntKind.i64.wrap (val + size) = vs at hsum ⊢
  generalize (some (AV.val (.bool true), (⟨0, []⟩ : Heap))) = A
  generalize (some (AV.val (.bool false), (⟨0, []⟩ : Heap))) = B
  rw [propB_ite]
  by_cases c1 : bind < 0
  · rw [decide_eq_true c1, cond_true, if_neg (fun q => by omega)]
  rw [decide_eq_false c1, cond_false]
  by_cases c2 : bind > 2
  · rw [decide_eq_true c2, cond_true, if_neg (fun q => by omega)]
  rw [decide_eq_false c2, cond_false]
  by_cases c3 : kind < 0
  · rw [decide_eq_true c3, cond_true, if_neg (fun q => by omega)]
  rw [decide_eq_false c3, cond_false]
  by_cases c4 : kind > 2
  · rw [decide_eq_true c4, cond_true, if_neg (fun q => by omega)]
  rw [decide_eq_false c4, cond_false]
  by_cases c5 : sec < -2
  · rw [decide_eq_true c5, cond_true, if_neg (fun q => by omega)]
  rw [decide_eq_false c5, cond_false]
  by_cases c6 : sec ≥ (o.se.length : Int)
  · rw [decide_eq_true c6, cond_true, if_neg (fun q => by omega)]
  rw [decide_eq_false c6, cond_false]
  by_cases d1 : sec = -1
  · rw [show (sec == -1) = true from beq_iff_eq.2 d1, cond_true]
    by_cases e1 : bind = 0
    · rw [show (bind != 0) = false by rw [e1]; rfl, cond_false, if_neg (fun q => (q.2.2.2.1 d1).1 e1)]
    rw [show (bind != 0) = true from bne_iff_ne.2 e1, cond_true]
    by_cases e2 : val = 0
    · rw [show (val == 0) = true from beq_iff_eq.2 e2, cond_true]
      by_cases e3 : size = 0
      · rw [show (size == 0) = true from beq_iff_eq.2 e3, cond_true, if_pos ⟨by omega, by omega, by omega, fun _ => ⟨e1, e2, e3⟩, fun q => by omega, fun q => by omega⟩]
      · rw [show (size == 0) = false from beq_eq_false_iff_ne.2 e3, cond_false, if_neg (fun q => e3 (q.2.2.2.1 d1).2.2)]
    · rw [show (val == 0) = false from beq_eq_false_iff_ne.2 e2, cond_false, if_neg (fun q => e2 (q.2.2.2.1 d1).2.1)]
  rw [show (sec == -1) = false from beq_eq_false_iff_ne.2 d1, cond_false]
  by_cases d2 : sec = -2
  · rw [show (sec == -2) = true from beq_iff_eq.2 d2, cond_true]
    by_cases e3 : size = 0
    · rw [show (size == 0) = true from beq_iff_eq.2 e3, cond_true, if_pos ⟨by omega, by omega, by omega, fun q => by omega, fun _ => e3, fun q => by omega⟩]
    · rw [show (size == 0) = false from beq_eq_false_iff_ne.2 e3, cond_false, if_neg (fun q => e3 (q.2.2.2.2.1 d2))]
  rw [show (sec == -2) = false from beq_eq_false_iff_ne.2 d2, cond_false, inR_prop.2 ⟨by omega, by omega⟩, cond_true]
  obtain ⟨l1, l2, l3⟩ := hlen (by omega) (by omega)
  subst l1
  by_cases e1 : size < 0
  · rw [decide_eq_true e1, cond_true, if_neg (fun q => by have := (q.2.2.2.2.2 (by omega)).1; omega)]
  rw [decide_eq_false e1, cond_false]
  by_cases e2 : size > 65536
  · rw [decide_eq_true e2, cond_true, if_neg (fun q => by have := (q.2.2.2.2.2 (by omega)).1; omega)]
  rw [decide_eq_false e2, cond_false, hsum (by omega) (by omega)]
  by_cases e3 : val + size > lw
  · rw [decide_eq_true e3, cond_true, if_neg (fun q => by have := (q.2.2.2.2.2 (by omega)).2.1; omega)]
  rw [decide_eq_false e3, cond_false]
  by_cases e4 : kind = 1
  · rw [show (kind != 1) = false by rw [e4]; rfl, cond_false]
    cases ex with
    | true => rw [cond_true, if_pos ⟨by omega, by omega, by omega, fun q => by omega, fun q => by omega, fun _ => ⟨by omega, by omega, fun _ => rfl⟩⟩]
    | false => rw [cond_false, if_neg (fun q => by have := (q.2.2.2.2.2 (by omega)).2.2 e4; cases this)]
  · rw [show (kind != 1) = true from bne_iff_ne.2 e4, cond_true, if_pos ⟨by omega, by omega, by omega, fun q => by omega, fun q => by omega, fun _ => ⟨by omega, by omega, fun q => absurd q e4⟩⟩]
end Go.Ev
/- The specification's symbols: the loops. -/
namespace Go.Ev
open Go.Proofs
def RowTy.get {D : Type} (R : RowTy D) : AV → List D
  | .ro c _ => R.list c
  | _ => []
def RowTy.is1 {D : Type} (R : RowTy D) : AV → Bool
  | .ro c _ => R.ok c
  | .val (.slice none 0 0) => true
  | _ => false
def odP : AV → OD
  | .agg [a, b, c, d, e] => ⟨SE.get a, SY.get b, RE.get c, FI.get d, LI.get e⟩
  | _ => ⟨[], [], [], [], []⟩
def odIs : AV → Bool
  | .agg [a, b, c, d, e] => SE.is1 a && (SY.is1 b && (RE.is1 c && (FI.is1 d && LI.is1 e)))
  | _ => false
theorem RowTy.aw1 {D : Type} (R : RowTy D) {v : AV} (h : R.is1 v = true) : AW v (.ro (R.con (R.get v)) none) := by
  unfold RowTy.is1 at h
  split at h
  · rename_i c cap
    exact R.aw h cap
  · exact AW.nil rfl
  · cases h
theorem od_aw {v : AV} (h : odIs v = true) : AW v (odP v).av := by
  unfold odIs at h
  split at h
  · rename_i a b c d e
    simp only [Bool.and_eq_true] at h
    obtain ⟨h1, h2, h3, h4, h5⟩ := h
    exact AW.agg (.cons (SE.aw1 h1) (.cons (SY.aw1 h2) (.cons (RE.aw1 h3) (.cons (FI.aw1 h4) (.cons (LI.aw1 h5) .nil)))))
  · cases h
theorem RowTy.get_con {D : Type} (R : RowTy D) (L : List D) : R.get (.ro (R.con L) none) = L := R.list_con L
theorem RowTy.is1_con {D : Type} (R : RowTy D) (L : List D) : R.is1 (.ro (R.con L) none) = true := R.ok_con L
theorem odP_av (o : OD) : odP o.av = o := by
  unfold OD.av OD.row odP
  simp only [RowTy.get_con]
theorem odIs_av (o : OD) : odIs o.av = true := by
  unfold OD.av OD.row odIs
  simp only [RowTy.is1_con, Bool.and_self]
def symS (args : List AV) : Ans (AV × Heap) := match args with
  | [o, .agg r] => .grd (odIs o && (syIs r && (propB (seBound (odP o).se) && propB (syBound (syParse r))))) (.out (.val (.bool (symB (odP o).se (syParse r))), ⟨0, []⟩))
  | _ => .no
theorem syRow_eq {r : List AV} (h : syIs r = true) : syRow (syParse r) = r := by
  unfold syIs at h
  split at h
  · rfl
  · cases h
theorem Tryz.sumSm : SumC Tryz.prog 129 (pureA symS) := by
  refine pureSumR 129 ⟨Tryz.f129, _, Tryz.fnOk129.1, Tryz.fnOk129.2, rfl⟩ ?_
  intro args v h2 hs
  unfold symS at hs
  split at hs
  · rename_i ov r
    rw [Ans.run_grd] at hs
    cases hb : (odIs ov && (syIs r && (propB (seBound (odP ov).se) && propB (syBound (syParse r))))) with
    | false => rw [hb] at hs; cases hs
    | true =>
    rw [hb, cond_true] at hs
    simp only [Bool.and_eq_true] at hb
    obtain ⟨b1, b2, b3, b4⟩ := hb
    injection hs with hs
    injection hs with q1 q2
    subst q1; subst q2
    refine Alone.argsW (AWs.args (.cons (od_aw b1) (.cons (AW.refl _) .nil))) ?_
    have e := syRow_eq b2
    generalize odP ov = o at b3 ⊢
    generalize syParse r = s at b4 e ⊢
    subst e
    exact rootS_alone Tryz.eSm (d := 4) (g := 129) (ls := lsumsOf []) (AllL.noL _) (Tryz.sSm o s (propB_eq b3) (propB_eq b4))
  · cases hs
def hO (o : OD) : Heap := ⟨1, [⟨0, 0, .cells (.rows true 5 [o.row])⟩]⟩
def Tryz.tSy : List (Nat × AFun) := [(128, pureA nameS), (129, pureA symS)]
def Tryz.ESy : Env := Tryz.env0 false (sumsOf Tryz.tSy) (keepF 78 [(4, [1, 3]), (9, [1, 3, 4])])
def Tryz.bSyo : Code := nthD .skip (loopsOf (bodyOf Tryz.ESy 78)) 0
def Tryz.bSyi : Code := nthD .skip (loopsOf Tryz.bSyo) 0
def Tryz.BSyi (s : St) : Option (AX × St) := codeS Tryz.ESy (callF Tryz.ESy 4) (Tryz.ESy.keep 78) (lsumsOf []) Tryz.bSyi (outK [1, 3, 4] [1, 2, 3]) s
def newY (L : List SymD) (i k : Nat) : Bool := !((L.getD k SY.z).1.toList == (L.getD i SY.z).1.toList)
def Vsy (x : OD × Nat) (k : Nat) : List AV := [.ptr 0 0 0, .val (.int .i64 x.2), .val (.int .i64 k)]
def Xsy (x : OD × Nat) (b : AV) : List AV := [.ptr 0 0 0, b, .val (.int .i64 x.2)]
def fSyi (vs : List AV) (h : Heap) : Ans (AX × List AV × Heap) := match vs, h with
  | [.ptr 0 0 0, .val (.int .i64 (.ofNat i)), .val (.int .i64 (.ofNat 0))], ⟨1, [⟨0, 0, .cells (.rows true 5 [r])⟩]⟩ =>
    .grd (odIs (.agg r) && (Nat.blt i (odP (.agg r)).sy.length && Nat.ble i 1000000)) (.br (allOk i (newY (odP (.agg r)).sy i)) (.out (.exit 2, Xsy (odP (.agg r), i) .unk, hO (odP (.agg r)))) (.out (.ret, Xsy (odP (.agg r), i) (.val (.bool false)), hO (odP (.agg r)))))
  | _, _ => .no
def LSyi : LSum := toLSum 52 [1, 3, 4] [1, 2, 3] fSyi
theorem Tryz.rSyi (x : OD × Nat) (k : Nat) : Tryz.BSyi (stOf 52 [1, 3, 4] (Vsy x k) (hO x.1)) =
 bif decide ((↑k : Int) < (↑x.snd : Int)) then
 bif inR (↑k : Int) x.fst.sy.length then
 bif inR (↑x.snd : Int) x.fst.sy.length then
 bif (x.fst.sy.getD k SY.z).fst.toList == (x.fst.sy.getD x.snd SY.z).fst.toList then
 some (.ret, stOf 52 [1, 2, 3] [.ptr 0 0 0, .val (.bool false), .val (.int .i64 ((↑x.snd : Int)))] ⟨1, [⟨0, 0, .cells (.rows true 5 ([.ro (.tab 5 (x.fst.se.length) (fun i => SE.row (x.fst.se.getD i SE.z))) none, .ro (.tab 6 (x.fst.sy.length) (fun i => SY.row (x.fst.sy.getD i SY.z))) none, .ro (.tab 5 (x.fst.re.length) (fun i => RE.row (x.fst.re.getD i RE.z))) none, .ro (.tab 1 (x.fst.fi.length) (fun i => FI.row (x.fst.fi.getD i FI.z))) none, .ro (.tab 4 (x.fst.li.length) (fun i => LI.row (x.fst.li.getD i LI.z))) none] :: []))⟩]⟩ )
 else
 some (.normal, stOf 52 [1, 3, 4] [.ptr 0 0 0, .val (.int .i64 ((↑x.snd : Int))), .val (.int .i64 (IntKind.i64.wrap ((↑k : Int) + 1)))] ⟨1, [⟨0, 0, .cells (.rows true 5 ([.ro (.tab 5 (x.fst.se.length) (fun i => SE.row (x.fst.se.getD i SE.z))) none, .ro (.tab 6 (x.fst.sy.length) (fun i => SY.row (x.fst.sy.getD i SY.z))) none, .ro (.tab 5 (x.fst.re.length) (fun i => RE.row (x.fst.re.getD i RE.z))) none, .ro (.tab 1 (x.fst.fi.length) (fun i => FI.row (x.fst.fi.getD i FI.z))) none, .ro (.tab 4 (x.fst.li.length) (fun i => LI.row (x.fst.li.getD i LI.z))) none] :: []))⟩]⟩ )
 else
 none
 else
 none
 else
 some (.exit 2, stOf 52 [1, 3] [.ptr 0 0 0, .val (.int .i64 ((↑x.snd : Int)))] ⟨1, [⟨0, 0, .cells (.rows true 5 ([.ro (.tab 5 (x.fst.se.length) (fun i => SE.row (x.fst.se.getD i SE.z))) none, .ro (.tab 6 (x.fst.sy.length) (fun i => SY.row (x.fst.sy.getD i SY.z))) none, .ro (.tab 5 (x.fst.re.length) (fun i => RE.row (x.fst.re.getD i RE.z))) none, .ro (.tab 1 (x.fst.fi.length) (fun i => FI.row (x.fst.fi.getD i FI.z))) none, .ro (.tab 4 (x.fst.li.length) (fun i => LI.row (x.fst.li.getD i LI.z))) none] :: []))⟩]⟩ ) := by kernel_rfl
theorem Tryz.eSy : EnvOk2 Tryz.prog Tryz.ESy := Tryz.envOk false (sumsOf Tryz.tSy) _ (sumsOf_ok (show AllS Tryz.prog Tryz.tSy from ⟨Tryz.sumNm, Tryz.sumSm, trivial⟩))
theorem hO_ok (o : OD) : (hO o).ok := oneH_ok _
theorem Tryz.sSyi (x : OD × Nat) (k : Nat) (hx : x.2 < x.1.sy.length ∧ x.2 ≤ 1000000) (hk : k ≤ x.2) : Tryz.BSyi (stOf 52 [1, 3, 4] (Vsy x k) (hO x.1)) =
    bif decide (k < x.2) then (bif newY x.1.sy x.2 k then some (.normal, stOf 52 [1, 3, 4] (Vsy x (k + 1)) (hO x.1)) else some (.ret, stOf 52 [1, 2, 3] (Xsy x (.val (.bool false))) (hO x.1))) else some (.exit 2, stOf 52 [1, 2, 3] (Xsy x .unk) (hO x.1)) := by
  obtain ⟨h1, h2⟩ := hx
  rw [Tryz.rSyi, declt_nat, inR_nat, inR_nat, wrapS k (by omega)]
  by_cases h : k < x.2
  · rw [decide_eq_true h, decide_eq_true (show k < x.1.sy.length by omega), decide_eq_true h1]
    simp only [cond_true]
    unfold newY
    cases ((x.1.sy.getD k SY.z).fst.toList == (x.1.sy.getD x.2 SY.z).fst.toList) with
    | true => rfl
    | false => rfl
  · rw [decide_eq_false h]; rfl
end Go.Ev
/- The specification's symbols: the summary. -/
namespace Go.Ev
open Go.Proofs
theorem od_aws {r : List AV} (h : odIs (.agg r) = true) : AWs r (odP (.agg r)).row := by
  unfold odIs at h
  split at h
  · rename_i e
    injection e with e
    subst e
    simp only [Bool.and_eq_true] at h
    obtain ⟨h1, h2, h3, h4, h5⟩ := h
    exact .cons (SE.aw1 h1) (.cons (SY.aw1 h2) (.cons (RE.aw1 h3) (.cons (FI.aw1 h4) (.cons (LI.aw1 h5) .nil))))
  · cases h
theorem od_con {r : List AV} (h : odIs (.agg r) = true) : ConW (.rows true 5 [r]) (.rows true 5 [(odP (.agg r)).row]) := by
  refine ⟨rfl, rfl, fun i hi j v' hv => ?_⟩
  have hi : i < 1 := hi
  have : i = 0 := by omega
  subst this
  exact AWs.get (od_aws h) j v' hv
theorem Tryz.lSyi : ∀ s e s', s.h.ok → (LSyi s).run = some (e, s') → Triple Tryz.prog (.loop Tryz.bSyi) s e s' := by
  refine scan_law Tryz.eSy (d := 4) (g := 78) (ls := lsumsOf []) (c := Tryz.bSyi) trivial 52 [1, 3, 4] [1, 2, 3] (T := OD × Nat) Vsy (fun x => hO x.1) (fun x => x.2) (fun x => newY x.1.sy x.2) (fun x => x.2 < x.1.sy.length ∧ x.2 ≤ 1000000)
    (fun x => (.exit 2, Xsy x .unk, hO x.1)) (fun x => (.ret, Xsy x (.val (.bool false)), hO x.1)) fSyi ?_ (fun x _ => hO_ok x.1) (fun _ _ => ⟨by simp, by simp⟩) (fun x _ => ⟨hO_ok x.1, hO_ok x.1⟩) (fun x k hx hk _ => Tryz.sSyi x k hx hk)
  intro vs h e vo h' hok hf
  unfold fSyi at hf
  split at hf
  · rename_i i r
    rw [Ans.run_grd] at hf
    cases hb : (odIs (.agg r) && (Nat.blt i (odP (.agg r)).sy.length && Nat.ble i 1000000)) with
    | false => rw [hb] at hf; cases hf
    | true =>
      rw [hb, cond_true, Ans.run_br] at hf
      simp only [Bool.and_eq_true, Nat.ble_eq] at hb
      obtain ⟨b1, b2, b3⟩ := hb
      refine ⟨(odP (.agg r), i), ⟨blt_iff.1 b2, b3⟩, ?_, ?_⟩
      · exact Weak.oneH rfl (od_con b1)
      · show (bif allOk i (newY (odP (.agg r)).sy i) then _ else _) = _
        cases hq : allOk i (newY (odP (.agg r)).sy i) with
        | true => rw [hq] at hf; injection hf
        | false => rw [hq] at hf; injection hf
  · cases hf
def symOk (o : OD) (i : Nat) : Bool := (nameB (o.sy.getD i SY.z).1 && symB o.se (o.sy.getD i SY.z)) && allOk i (newY o.sy i)
def syInv (o : OD) : Prop := o.sy.length ≤ 1000000 ∧ seBound o.se ∧ ∀ s ∈ o.sy, syBound s
def Tryz.BSyo (s : St) : Option (AX × St) := codeS Tryz.ESy (callF Tryz.ESy 4) (Tryz.ESy.keep 78) (lsumsOf [(9, LSyi)]) Tryz.bSyo (outK [1, 3] [2]) s
def fSyo (vs : List AV) (h : Heap) : Ans (AX × List AV × Heap) := match vs, h with
  | [.ptr 0 0 0, .val (.int .i64 (.ofNat 0))], ⟨1, [⟨0, 0, .cells (.rows true 5 [r])⟩]⟩ =>
    .grd (odIs (.agg r) && propB (syInv (odP (.agg r)))) (.br (allOk (odP (.agg r)).sy.length (symOk (odP (.agg r)))) (.out (.exit 0, [.unk], ⟨0, []⟩)) (.out (.ret, [.val (.bool false)], ⟨0, []⟩)))
  | _, _ => .no
def LSyo : LSum := toLSum 52 [1, 3] [2] fSyo
def symsB (o : OD) : Bool := decide (o.sy.length ≤ 500) && allOk o.sy.length (symOk o)
def symsS (args : List AV) : Ans (AV × Heap) := match args with
  | [o] => .grd (odIs o && propB (syInv (odP o))) (.out (.val (.bool (symsB (odP o))), ⟨0, []⟩))
  | _ => .no
theorem Tryz.rSyo (o : OD) (i : Nat) : Tryz.BSyo (stOf 52 [1, 3] [.ptr 0 0 0, .val (.int .i64 i)] (hO o)) =
 bif decide ((↑i : Int) < (↑o.sy.length : Int)) then
 bif inR (↑i : Int) o.sy.length then
 bif nameB (o.sy.getD i SY.z).fst then
 bif inR (↑i : Int) o.sy.length then
 bif odIs (AV.agg [AV.ro (SE.con o.se) none, AV.ro (SY.con o.sy) none, AV.ro (RE.con o.re) none, AV.ro (FI.con o.fi) none, AV.ro (LI.con o.li) none]) && (propB (seBound (odP (AV.agg [AV.ro (SE.con o.se) none, AV.ro (SY.con o.sy) none, AV.ro (RE.con o.re) none, AV.ro (FI.con o.fi) none, AV.ro (LI.con o.li) none])).se) && propB (syBound (syParse [AV.val (Value.string (o.sy.getD i SY.z).fst), AV.val (Value.int IntKind.i64 (o.sy.getD i SY.z).snd.fst), AV.val (Value.int IntKind.u32 (o.sy.getD i SY.z).snd.snd.fst), AV.val (Value.int IntKind.i64 (o.sy.getD i SY.z).snd.snd.snd.fst), AV.val (Value.int IntKind.i64 (o.sy.getD i SY.z).snd.snd.snd.snd.fst), AV.val (Value.int IntKind.i64 (o.sy.getD i SY.z).snd.snd.snd.snd.snd)]))) then
 bif symB (odP (AV.agg [AV.ro (SE.con o.se) none, AV.ro (SY.con o.sy) none, AV.ro (RE.con o.re) none, AV.ro (FI.con o.fi) none, AV.ro (LI.con o.li) none])).se (syParse [AV.val (Value.string (o.sy.getD i SY.z).fst), AV.val (Value.int IntKind.i64 (o.sy.getD i SY.z).snd.fst), AV.val (Value.int IntKind.u32 (o.sy.getD i SY.z).snd.snd.fst), AV.val (Value.int IntKind.i64 (o.sy.getD i SY.z).snd.snd.snd.fst), AV.val (Value.int IntKind.i64 (o.sy.getD i SY.z).snd.snd.snd.snd.fst), AV.val (Value.int IntKind.i64 (o.sy.getD i SY.z).snd.snd.snd.snd.snd)]) then
 bif odIs (AV.agg o.row) && (i.blt (odP (AV.agg o.row)).sy.length && i.ble 1000000) then
 bif allOk i (newY (odP (AV.agg o.row)).sy i) then
 some (.normal, stOf 52 [1, 3] [.ptr 0 0 0, .val (.int .i64 (IntKind.i64.wrap ((↑i : Int) + 1)))] ⟨1, [⟨0, 0, .cells (.rows true 5 ([.ro (.tab 5 ((odP (AV.agg o.row)).se.length) (fun i => SE.row ((odP (AV.agg o.row)).se.getD i SE.z))) none, .ro (.tab 6 ((odP (AV.agg o.row)).sy.length) (fun i => SY.row ((odP (AV.agg o.row)).sy.getD i SY.z))) none, .ro (.tab 5 ((odP (AV.agg o.row)).re.length) (fun i => RE.row ((odP (AV.agg o.row)).re.getD i RE.z))) none, .ro (.tab 1 ((odP (AV.agg o.row)).fi.length) (fun i => FI.row ((odP (AV.agg o.row)).fi.getD i FI.z))) none, .ro (.tab 4 ((odP (AV.agg o.row)).li.length) (fun i => LI.row ((odP (AV.agg o.row)).li.getD i LI.z))) none] :: []))⟩]⟩ )
 else
 some (.ret, stOf 52 [2] [.val (.bool false)] ⟨0, []⟩)
 else
 none
 else
 some (.ret, stOf 52 [2] [.val (.bool false)] ⟨0, []⟩)
 else
 none
 else
 none
 else
 some (.ret, stOf 52 [2] [.val (.bool false)] ⟨0, []⟩)
 else
 none
 else
 some (.exit 0, stOf 52 [] [] ⟨0, []⟩) := by kernel_rfl
theorem Tryz.wSy (o : OD) : rootS Tryz.ESy 4 78 (lsumsOf [(4, LSyo), (9, LSyi)]) [o.av] =
 bif decide ((↑o.sy.length : Int) > 500) then
 some (.val (.bool false), ⟨0, []⟩)
 else
 bif odIs (AV.agg (AV.agg o.row).cells) && propB (syInv (odP (AV.agg (AV.agg o.row).cells))) then
 bif allOk (odP (AV.agg (AV.agg o.row).cells)).sy.length (symOk (odP (AV.agg (AV.agg o.row).cells))) then
 some (.val (.bool true), ⟨0, []⟩)
 else
 some (.val (.bool false), ⟨0, []⟩)
 else
 none := by kernel_rfl
end Go.Ev
/- The specification's symbols: the summary. -/
namespace Go.Ev
open Go.Proofs
theorem odP_row (o : OD) : odP (.agg o.row) = o := odP_av o
theorem odIs_row (o : OD) : odIs (.agg o.row) = true := odIs_av o
theorem sy_eta (s : SymD) : syParse [.val (.string s.1), .val (.int .i64 s.2.1), .val (.int .u32 s.2.2.1), .val (.int .i64 s.2.2.2.1), .val (.int .i64 s.2.2.2.2.1), .val (.int .i64 s.2.2.2.2.2)] = s := rfl
theorem Tryz.sSyo (o : OD) (k : Nat) (ho : syInv o) (hk : k ≤ o.sy.length) : Tryz.BSyo (stOf 52 [1, 3] [.ptr 0 0 0, .val (.int .i64 k)] (hO o)) =
    bif decide (k < o.sy.length) then (bif symOk o k then some (.normal, stOf 52 [1, 3] [.ptr 0 0 0, .val (.int .i64 ((k + 1 : Nat) : Int))] (hO o)) else some (.ret, stOf 52 [2] [.val (.bool false)] ⟨0, []⟩)) else some (.exit 0, stOf 52 [2] [.unk] ⟨0, []⟩) := by
  obtain ⟨h1, h2, h3⟩ := ho
  rw [Tryz.rSyo, declt_nat, inR_nat, wrapS k (by omega)]
  rw [show AV.agg [AV.ro (SE.con o.se) none, AV.ro (SY.con o.sy) none, AV.ro (RE.con o.re) none, AV.ro (FI.con o.fi) none, AV.ro (LI.con o.li) none] = .agg o.row from rfl, odP_row, odIs_row]
  by_cases h : k < o.sy.length
  · have hm := h3 _ (getD_mem (d := SY.z) h)
    rw [decide_eq_true h, propB_t h2, blt_t h, ble_t (show k ≤ 1000000 by omega), sy_eta, propB_t hm]
    unfold symOk
    cases nameB (o.sy.getD k SY.z).1 with
    | false => rfl
    | true =>
    cases symB o.se (o.sy.getD k SY.z) with
    | false => rfl
    | true =>
    cases allOk k (newY o.sy k) with
    | false => rfl
    | true => rfl
  · rw [decide_eq_false h]; rfl
theorem Tryz.lSyo : ∀ s e s', s.h.ok → (LSyo s).run = some (e, s') → Triple Tryz.prog (.loop Tryz.bSyo) s e s' := by
  refine scan_law Tryz.eSy (d := 4) (g := 78) (ls := lsumsOf [(9, LSyi)]) (c := Tryz.bSyo) (AllL.of1 (a := Tryz.bSyi) (by kernel_rfl) (LsOk.of rfl rfl Tryz.lSyi)) 52 [1, 3] [2] (T := OD) (fun o k => [.ptr 0 0 0, .val (.int .i64 k)]) hO (fun o => o.sy.length) symOk syInv
    (fun _ => (.exit 0, [.unk], ⟨0, []⟩)) (fun _ => (.ret, [.val (.bool false)], ⟨0, []⟩)) fSyo ?_ (fun o _ => hO_ok o) (fun _ _ => ⟨by simp, by simp⟩) (fun _ _ => ⟨heap0_ok, heap0_ok⟩) (fun o k ho hk _ => Tryz.sSyo o k ho hk)
  intro vs h e vo h' hok hf
  unfold fSyo at hf
  split at hf
  · rename_i r
    rw [Ans.run_grd] at hf
    cases hb : (odIs (.agg r) && propB (syInv (odP (.agg r)))) with
    | false => rw [hb] at hf; cases hf
    | true =>
      rw [hb, cond_true, Ans.run_br] at hf
      rw [Bool.and_eq_true] at hb
      refine ⟨odP (.agg r), propB_eq hb.2, Weak.oneH rfl (od_con hb.1), ?_⟩
      cases hq : allOk (odP (.agg r)).sy.length (symOk (odP (.agg r))) with
      | true => rw [hq] at hf; injection hf
      | false => rw [hq] at hf; injection hf
  · cases hf
theorem Tryz.sumSy : SumC Tryz.prog 78 (pureA symsS) := by
  refine pureSumR 78 ⟨Tryz.f78, _, Tryz.fnOk78.1, Tryz.fnOk78.2, rfl⟩ ?_
  intro args v h2 hs
  unfold symsS at hs
  split at hs
  · rename_i ov
    rw [Ans.run_grd] at hs
    cases hb : (odIs ov && propB (syInv (odP ov))) with
    | false => rw [hb] at hs; cases hs
    | true =>
    rw [hb, cond_true] at hs
    rw [Bool.and_eq_true] at hb
    injection hs with hs
    injection hs with q1 q2
    subst q1; subst q2
    refine Alone.argsW (AWs.args (.cons (od_aw hb.1) .nil)) ?_
    have hi := propB_eq hb.2
    generalize odP ov = o at hi ⊢
    refine rootS_alone Tryz.eSy (d := 4) (g := 78) (ls := lsumsOf [(4, LSyo), (9, LSyi)]) (AllL.of2 (a := Tryz.bSyo) (b := Tryz.bSyi) (by kernel_rfl) (LsOk.of rfl rfl Tryz.lSyo) (LsOk.of rfl rfl Tryz.lSyi)) ((Tryz.wSy o).trans ?_)
    rw [show AV.agg (AV.agg o.row).cells = .agg o.row from rfl, odP_row, odIs_row, propB_t hi]
    unfold symsB
    by_cases h1 : o.sy.length ≤ 500
    · rw [decide_eq_false (show ¬ (o.sy.length : Int) > 500 by omega), decide_eq_true h1]
      cases allOk o.sy.length (symOk o) <;> rfl
    · rw [decide_eq_true (show (o.sy.length : Int) > 500 by omega), decide_eq_false h1]; rfl
  · cases hs
end Go.Ev
/- The specification's relocations. -/
namespace Go.Ev
open Go.Proofs
def wdI (k : Int) : Int := if k = 3 then 1 else if k = 2 then 2 else 4
def widS (args : List AV) : Ans (AV × Heap) := match args with
  | [.val (.int .i64 k)] => .out (.val (.int .i64 (wdI k)), ⟨0, []⟩)
  | _ => .no
theorem Tryz.wWd (k : Int) : rootS Tryz.ESm 4 131 (lsumsOf []) [.val (.int .i64 k)] =
 bif k == 3 then
 some (.val (.int .i64 1), ⟨0, []⟩)
 else
 bif k == 2 then
 some (.val (.int .i64 2), ⟨0, []⟩)
 else
 some (.val (.int .i64 4), ⟨0, []⟩) := by kernel_rfl
theorem Tryz.sumWd : SumC Tryz.prog 131 (pureA widS) := by
  refine pureSumR 131 ⟨Tryz.f131, _, Tryz.fnOk131.1, Tryz.fnOk131.2, rfl⟩ ?_
  intro args v h2 hs
  unfold widS at hs
  split at hs
  · rename_i k
    injection hs with hs
    injection hs with q1 q2
    subst q1; subst q2
    refine rootS_alone Tryz.eSm (d := 4) (g := 131) (ls := lsumsOf []) (AllL.noL _) ((Tryz.wWd k).trans ?_)
    unfold wdI
    by_cases h3 : k = 3
    · rw [if_pos h3, show (k == 3) = true from beq_iff_eq.2 h3]; rfl
    · rw [if_neg h3, show (k == 3) = false from beq_eq_false_iff_ne.2 h3]
      by_cases h2 : k = 2
      · rw [if_pos h2, show (k == 2) = true from beq_iff_eq.2 h2]; rfl
      · rw [if_neg h2, show (k == 2) = false from beq_eq_false_iff_ne.2 h2]; rfl
  · cases hs
def Tryz.tRe : List (Nat × AFun) := [(131, pureA widS)]
def Tryz.ERe : Env := Tryz.env0 false (sumsOf Tryz.tRe) (keepF 79 [(4, [1, 3])])
def Tryz.bRe : Code := nthD .skip (loopsOf (bodyOf Tryz.ERe 79)) 0
def Tryz.BRe (s : St) : Option (AX × St) := codeS Tryz.ERe (callF Tryz.ERe 4) (Tryz.ERe.keep 79) (lsumsOf []) Tryz.bRe (outK [1, 3] [2]) s
theorem Tryz.rRe (o : OD) (i : Nat) : Tryz.BRe (stOf 121 [1, 3] [.ptr 0 0 0, .val (.int .i64 i)] (hO o)) =
 bif decide ((↑i : Int) < (↑o.re.length : Int)) then
 bif inR (↑i : Int) o.re.length then
 bif decide ((o.re.getD i RE.z).fst < 0) then
 some (.ret, stOf 121 [2] [.val (.bool false)] ⟨0, []⟩)
 else
 bif decide ((o.re.getD i RE.z).fst ≥ (↑o.se.length : Int)) then
 some (.ret, stOf 121 [2] [.val (.bool false)] ⟨0, []⟩)
 else
 bif decide ((o.re.getD i RE.z).snd.snd.fst < 1) then
 some (.ret, stOf 121 [2] [.val (.bool false)] ⟨0, []⟩)
 else
 bif decide ((o.re.getD i RE.z).snd.snd.fst > 5) then
 some (.ret, stOf 121 [2] [.val (.bool false)] ⟨0, []⟩)
 else
 bif decide ((o.re.getD i RE.z).snd.snd.snd.fst < 0) then
 some (.ret, stOf 121 [2] [.val (.bool false)] ⟨0, []⟩)
 else
 bif decide ((o.re.getD i RE.z).snd.snd.snd.fst ≥ (↑o.sy.length : Int)) then
 some (.ret, stOf 121 [2] [.val (.bool false)] ⟨0, []⟩)
 else
 bif decide ((o.re.getD i RE.z).snd.snd.snd.snd ≥ -2147483648) then
 bif decide ((o.re.getD i RE.z).snd.snd.snd.snd ≤ 2147483647) then
 bif inR (o.re.getD i RE.z).fst o.se.length then
 bif decide ((o.re.getD i RE.z).snd.fst < 0) then
 some (.ret, stOf 121 [2] [.val (.bool false)] ⟨0, []⟩)
 else
 bif decide ((o.re.getD i RE.z).snd.fst > (↑(o.se.getD (o.re.getD i RE.z).fst.toNat SE.z).snd.snd.snd.fst.length : Int)) then
 some (.ret, stOf 121 [2] [.val (.bool false)] ⟨0, []⟩)
 else
 bif decide (IntKind.i64.wrap ((o.re.getD i RE.z).snd.fst + wdI (o.re.getD i RE.z).snd.snd.fst) > (↑(o.se.getD (o.re.getD i RE.z).fst.toNat SE.z).snd.snd.snd.fst.length : Int)) then
 some (.ret, stOf 121 [2] [.val (.bool false)] ⟨0, []⟩)
 else
 bif decide ((↑i : Int) > 0) then
 bif inR (IntKind.i64.wrap ((↑i : Int) - 1)) o.re.length then
 bif decide ((o.re.getD i RE.z).fst < (o.re.getD (IntKind.i64.wrap ((↑i : Int) - 1)).toNat RE.z).fst) then
 some (.ret, stOf 121 [2] [.val (.bool false)] ⟨0, []⟩)
 else
 bif (o.re.getD i RE.z).fst == (o.re.getD (IntKind.i64.wrap ((↑i : Int) - 1)).toNat RE.z).fst then
 bif decide ((o.re.getD i RE.z).snd.fst < IntKind.i64.wrap ((o.re.getD (IntKind.i64.wrap ((↑i : Int) - 1)).toNat RE.z).snd.fst + wdI (o.re.getD (IntKind.i64.wrap ((↑i : Int) - 1)).toNat RE.z).snd.snd.fst)) then
 some (.ret, stOf 121 [2] [.val (.bool false)] ⟨0, []⟩)
 else
 some (.normal, stOf 121 [1, 3] [.ptr 0 0 0, .val (.int .i64 (IntKind.i64.wrap ((↑i : Int) + 1)))] ⟨1, [⟨0, 0, .cells (.rows true 5 ([.ro (.tab 5 (o.se.length) (fun i => SE.row (o.se.getD i SE.z))) none, .ro (.tab 6 (o.sy.length) (fun i => SY.row (o.sy.getD i SY.z))) none, .ro (.tab 5 (o.re.length) (fun i => RE.row (o.re.getD i RE.z))) none, .ro (.tab 1 (o.fi.length) (fun i => FI.row (o.fi.getD i FI.z))) none, .ro (.tab 4 (o.li.length) (fun i => LI.row (o.li.getD i LI.z))) none] :: []))⟩]⟩ )
 else
 some (.normal, stOf 121 [1, 3] [.ptr 0 0 0, .val (.int .i64 (IntKind.i64.wrap ((↑i : Int) + 1)))] ⟨1, [⟨0, 0, .cells (.rows true 5 ([.ro (.tab 5 (o.se.length) (fun i => SE.row (o.se.getD i SE.z))) none, .ro (.tab 6 (o.sy.length) (fun i => SY.row (o.sy.getD i SY.z))) none, .ro (.tab 5 (o.re.length) (fun i => RE.row (o.re.getD i RE.z))) none, .ro (.tab 1 (o.fi.length) (fun i => FI.row (o.fi.getD i FI.z))) none, .ro (.tab 4 (o.li.length) (fun i => LI.row (o.li.getD i LI.z))) none] :: []))⟩]⟩ )
 else
 none
 else
 some (.normal, stOf 121 [1, 3] [.ptr 0 0 0, .val (.int .i64 (IntKind.i64.wrap ((↑i : Int) + 1)))] ⟨1, [⟨0, 0, .cells (.rows true 5 ([.ro (.tab 5 (o.se.length) (fun i => SE.row (o.se.getD i SE.z))) none, .ro (.tab 6 (o.sy.length) (fun i => SY.row (o.sy.getD i SY.z))) none, .ro (.tab 5 (o.re.length) (fun i => RE.row (o.re.getD i RE.z))) none, .ro (.tab 1 (o.fi.length) (fun i => FI.row (o.fi.getD i FI.z))) none, .ro (.tab 4 (o.li.length) (fun i => LI.row (o.li.getD i LI.z))) none] :: []))⟩]⟩ )
 else
 none
 else
 some (.ret, stOf 121 [2] [.val (.bool false)] ⟨0, []⟩)
 else
 some (.ret, stOf 121 [2] [.val (.bool false)] ⟨0, []⟩)
 else
 none
 else
 some (.exit 0, stOf 121 [] [] ⟨0, []⟩) := by kernel_rfl
end Go.Ev
/- The specification's relocations: the summary. -/
namespace Go.Ev
open Go.Proofs
def secLen (o : OD) (i : Int) : Int := ((o.se.getD i.toNat SE.z).2.2.2.1.length : Int)
def relP (o : OD) (i : Nat) : Prop := (0 ≤ (o.re.getD i RE.z).1 ∧ (o.re.getD i RE.z).1 < (o.se.length : Int)) ∧ (1 ≤ (o.re.getD i RE.z).2.2.1 ∧ (o.re.getD i RE.z).2.2.1 ≤ 5) ∧
  (0 ≤ (o.re.getD i RE.z).2.2.2.1 ∧ (o.re.getD i RE.z).2.2.2.1 < (o.sy.length : Int)) ∧ (-2147483648 ≤ (o.re.getD i RE.z).2.2.2.2 ∧ (o.re.getD i RE.z).2.2.2.2 ≤ 2147483647) ∧
  (0 ≤ (o.re.getD i RE.z).2.1 ∧ (o.re.getD i RE.z).2.1 + wdI (o.re.getD i RE.z).2.2.1 ≤ secLen o (o.re.getD i RE.z).1) ∧
  (0 < i → (o.re.getD (i - 1) RE.z).1 ≤ (o.re.getD i RE.z).1 ∧ ((o.re.getD i RE.z).1 = (o.re.getD (i - 1) RE.z).1 → (o.re.getD (i - 1) RE.z).2.1 + wdI (o.re.getD (i - 1) RE.z).2.2.1 ≤ (o.re.getD i RE.z).2.1))
def relOk (o : OD) (i : Nat) : Bool := propB (relP o i)
def reInv (o : OD) : Prop := o.re.length ≤ 1000000 ∧ ∀ e ∈ o.se, e.2.2.2.1.length ≤ 140737488355328
theorem wdI_b (k : Int) : 1 ≤ wdI k ∧ wdI k ≤ 4 := by unfold wdI; split; omega; split <;> omega
theorem Tryz.eRe : EnvOk2 Tryz.prog Tryz.ERe := Tryz.envOk false (sumsOf Tryz.tRe) _ (sumsOf_ok (show AllS Tryz.prog Tryz.tRe from ⟨Tryz.sumWd, trivial⟩))
theorem Tryz.sRe (o : OD) (k : Nat) (ho : reInv o) (hk : k ≤ o.re.length) (hok : ∀ i, i < k → relOk o i = true) : Tryz.BRe (stOf 121 [1, 3] [.ptr 0 0 0, .val (.int .i64 k)] (hO o)) =
    bif decide (k < o.re.length) then (bif relOk o k then some (.normal, stOf 121 [1, 3] [.ptr 0 0 0, .val (.int .i64 ((k + 1 : Nat) : Int))] (hO o)) else some (.ret, stOf 121 [2] [.val (.bool false)] ⟨0, []⟩)) else some (.exit 0, stOf 121 [2] [.unk] ⟨0, []⟩) := by
  obtain ⟨h1, h2⟩ := ho
  rw [Tryz.rRe, declt_nat, inR_nat, wrapS k (by omega)]
  by_cases h : k < o.re.length
  rotate_left
  · rw [decide_eq_false h]; rfl
  rw [decide_eq_true h]
  simp only [cond_true]
  have hsl : ∀ i : Nat, i < o.se.length → (o.se.getD i SE.z).2.2.2.1.length ≤ 140737488355328 := fun i hi => h2 _ (getD_mem hi)
  have hprev : 0 < k → (0 ≤ (o.re.getD (k - 1) RE.z).2.1 ∧ (o.re.getD (k - 1) RE.z).2.1 ≤ 140737488355328) := by
    intro hk0
    have hp : relP o (k - 1) := propB_eq (hok (k - 1) (by omega))
    have w := wdI_b (o.re.getD (k - 1) RE.z).2.2.1
    have := hsl (o.re.getD (k - 1) RE.z).1.toNat (by have := hp.1; omega)
    have h5 := hp.2.2.2.2.1
    unfold secLen at h5
    omega
  have e1 : 0 < k → IntKind.i64.wrap ((k : Int) - 1) = ((k - 1 : Nat) : Int) := fun hk0 => by rw [wrap64 _ (by omega) (by omega)]; omega
  unfold relOk
  have hiff : relP o k = relP o k := rfl
  unfold relP secLen
  have w1 := wdI_b (o.re.getD k RE.z).2.2.1
  have w2 := wdI_b (o.re.getD (k - 1) RE.z).2.2.1
  generalize hr : o.re.getD k RE.z = r at w1 ⊢
  obtain ⟨sec, off, kind, sym, add⟩ := r
  simp only at w1 ⊢
  have hs2 := hsl sec.toNat
  generalize (some (AX.ret, stOf 121 [2] [.val (.bool false)] (⟨0, []⟩ : Heap)) : Option (AX × St)) = B
  have hA : (some (AX.normal, stOf 121 [1, 3] [.ptr 0 0 0, .val (.int .i64 ((k + 1 : Nat) : Int))] ⟨1, [⟨0, 0, .cells (.rows true 5 ([.ro (.tab 5 (o.se.length) (fun i => SE.row (o.se.getD i SE.z))) none, .ro (.tab 6 (o.sy.length) (fun i => SY.row (o.sy.getD i SY.z))) none, .ro (.tab 5 (o.re.length) (fun i => RE.row (o.re.getD i RE.z))) none, .ro (.tab 1 (o.fi.length) (fun i => FI.row (o.fi.getD i FI.z))) none, .ro (.tab 4 (o.li.length) (fun i => LI.row (o.li.getD i LI.z))) none] :: []))⟩]⟩) : Option (AX × St)) = some (.normal, stOf 121 [1, 3] [.ptr 0 0 0, .val (.int .i64 ((k + 1 : Nat) : Int))] (hO o)) := rfl
  rw [hA]
  generalize (some (AX.normal, stOf 121 [1, 3] [.ptr 0 0 0, .val (.int .i64 ((k + 1 : Nat) : Int))] (hO o)) : Option (AX × St)) = A
  rw [propB_ite]
  by_cases c1 : sec < 0
  · rw [decide_eq_true c1, cond_true, if_neg (fun q => by omega)]
  rw [decide_eq_false c1, cond_false]
  by_cases c2 : sec ≥ (o.se.length : Int)
  · rw [decide_eq_true c2, cond_true, if_neg (fun q => by omega)]
  rw [decide_eq_false c2, cond_false]
  by_cases c3 : kind < 1
  · rw [decide_eq_true c3, cond_true, if_neg (fun q => by omega)]
  rw [decide_eq_false c3, cond_false]
  by_cases c4 : kind > 5
  · rw [decide_eq_true c4, cond_true, if_neg (fun q => by omega)]
  rw [decide_eq_false c4, cond_false]
  by_cases c5 : sym < 0
  · rw [decide_eq_true c5, cond_true, if_neg (fun q => by omega)]
  rw [decide_eq_false c5, cond_false]
  by_cases c6 : sym ≥ (o.sy.length : Int)
  · rw [decide_eq_true c6, cond_true, if_neg (fun q => by omega)]
  rw [decide_eq_false c6, cond_false]
  by_cases c7 : add ≥ -2147483648
  rotate_left
  · rw [decide_eq_false c7, cond_false, if_neg (fun q => by omega)]
  rw [decide_eq_true c7, cond_true]
  by_cases c8 : add ≤ 2147483647
  rotate_left
  · rw [decide_eq_false c8, cond_false, if_neg (fun q => by omega)]
  rw [decide_eq_true c8, cond_true, inR_prop.2 ⟨by omega, by omega⟩, cond_true]
  have hs3 := hs2 (by omega)
  by_cases c9 : off < 0
  · rw [decide_eq_true c9, cond_true, if_neg (fun q => by have := q.2.2.2.2.1; omega)]
  rw [decide_eq_false c9, cond_false]
  by_cases c10 : off > ((o.se.getD sec.toNat SE.z).snd.snd.snd.fst.length : Int)
  · rw [decide_eq_true c10, cond_true, if_neg (fun q => by have := q.2.2.2.2.1; omega)]
  rw [decide_eq_false c10, cond_false, wrap64 (off + wdI kind) (by omega) (by omega)]
  by_cases c11 : off + wdI kind > ((o.se.getD sec.toNat SE.z).snd.snd.snd.fst.length : Int)
  · rw [decide_eq_true c11, cond_true, if_neg (fun q => by have := q.2.2.2.2.1; omega)]
  rw [decide_eq_false c11, cond_false]
  by_cases c12 : 0 < k
  rotate_left
  · rw [decide_eq_false (show ¬ (k : Int) > 0 by omega), cond_false, if_pos ⟨by omega, by omega, by omega, by omega, by omega, fun q => absurd q c12⟩]
  obtain ⟨p1, p2⟩ := hprev c12
  rw [decide_eq_true (show (k : Int) > 0 by omega), cond_true, e1 c12, inR_nat, decide_eq_true (show k - 1 < o.re.length by omega), cond_true, Int.toNat_natCast]
  generalize o.re.getD (k - 1) RE.z = pr at p1 p2 w2 ⊢
  obtain ⟨psec, poff, pkind, psym, padd⟩ := pr
  simp only at p1 p2 w2 ⊢
  by_cases d1 : sec < psec
  · rw [decide_eq_true d1, cond_true, if_neg (fun q => by have := (q.2.2.2.2.2 c12).1; omega)]
  rw [decide_eq_false d1, cond_false]
  by_cases d2 : sec = psec
  · rw [show (sec == psec) = true from beq_iff_eq.2 d2, cond_true, wrap64 (poff + wdI pkind) (by omega) (by omega)]
    by_cases d3 : off < poff + wdI pkind
    · rw [decide_eq_true d3, cond_true, if_neg (fun q => by have := (q.2.2.2.2.2 c12).2 d2; omega)]
    · rw [decide_eq_false d3, cond_false, if_pos ⟨by omega, by omega, by omega, by omega, by omega, fun _ => ⟨by omega, fun _ => by omega⟩⟩]
  · rw [show (sec == psec) = false from beq_eq_false_iff_ne.2 d2, cond_false, if_pos ⟨by omega, by omega, by omega, by omega, by omega, fun _ => ⟨by omega, fun q => absurd q d2⟩⟩]
def fRe (vs : List AV) (h : Heap) : Ans (AX × List AV × Heap) := match vs, h with
  | [.ptr 0 0 0, .val (.int .i64 (.ofNat 0))], ⟨1, [⟨0, 0, .cells (.rows true 5 [r])⟩]⟩ =>
    .grd (odIs (.agg r) && propB (reInv (odP (.agg r)))) (.br (allOk (odP (.agg r)).re.length (relOk (odP (.agg r)))) (.out (.exit 0, [.unk], ⟨0, []⟩)) (.out (.ret, [.val (.bool false)], ⟨0, []⟩)))
  | _, _ => .no
def LRe : LSum := toLSum 121 [1, 3] [2] fRe
def relsB (o : OD) : Bool := decide (o.re.length ≤ 2000) && allOk o.re.length (relOk o)
def relsS (args : List AV) : Ans (AV × Heap) := match args with
  | [o] => .grd (odIs o && propB (reInv (odP o))) (.out (.val (.bool (relsB (odP o))), ⟨0, []⟩))
  | _ => .no
theorem Tryz.lRe : ∀ s e s', s.h.ok → (LRe s).run = some (e, s') → Triple Tryz.prog (.loop Tryz.bRe) s e s' := by
  refine scan_law Tryz.eRe (d := 4) (g := 79) (ls := lsumsOf []) (c := Tryz.bRe) trivial 121 [1, 3] [2] (T := OD) (fun o k => [.ptr 0 0 0, .val (.int .i64 k)]) hO (fun o => o.re.length) relOk reInv
    (fun _ => (.exit 0, [.unk], ⟨0, []⟩)) (fun _ => (.ret, [.val (.bool false)], ⟨0, []⟩)) fRe ?_ (fun o _ => hO_ok o) (fun _ _ => ⟨by simp, by simp⟩) (fun _ _ => ⟨heap0_ok, heap0_ok⟩) (fun o k ho hk hok => Tryz.sRe o k ho hk hok)
  intro vs h e vo h' hok hf
  unfold fRe at hf
  split at hf
  · rename_i r
    rw [Ans.run_grd] at hf
    cases hb : (odIs (.agg r) && propB (reInv (odP (.agg r)))) with
    | false => rw [hb] at hf; cases hf
    | true =>
      rw [hb, cond_true, Ans.run_br] at hf
      rw [Bool.and_eq_true] at hb
      refine ⟨odP (.agg r), propB_eq hb.2, Weak.oneH rfl (od_con hb.1), ?_⟩
      cases hq : allOk (odP (.agg r)).re.length (relOk (odP (.agg r))) with
      | true => rw [hq] at hf; injection hf
      | false => rw [hq] at hf; injection hf
  · cases hf
theorem Tryz.wRe (o : OD) : rootS Tryz.ERe 4 79 (lsumsOf [(4, LRe)]) [o.av] =
 bif decide ((↑o.re.length : Int) > 2000) then
 some (.val (.bool false), ⟨0, []⟩)
 else
 bif odIs (AV.agg (AV.agg o.row).cells) && propB (reInv (odP (AV.agg (AV.agg o.row).cells))) then
 bif allOk (odP (AV.agg (AV.agg o.row).cells)).re.length (relOk (odP (AV.agg (AV.agg o.row).cells))) then
 some (.val (.bool true), ⟨0, []⟩)
 else
 some (.val (.bool false), ⟨0, []⟩)
 else
 none := by kernel_rfl
theorem Tryz.sumRe : SumC Tryz.prog 79 (pureA relsS) := by
  refine pureSumR 79 ⟨Tryz.f79, _, Tryz.fnOk79.1, Tryz.fnOk79.2, rfl⟩ ?_
  intro args v h2 hs
  unfold relsS at hs
  split at hs
  · rename_i ov
    rw [Ans.run_grd] at hs
    cases hb : (odIs ov && propB (reInv (odP ov))) with
    | false => rw [hb] at hs; cases hs
    | true =>
    rw [hb, cond_true] at hs
    rw [Bool.and_eq_true] at hb
    injection hs with hs
    injection hs with q1 q2
    subst q1; subst q2
    refine Alone.argsW (AWs.args (.cons (od_aw hb.1) .nil)) ?_
    have hi := propB_eq hb.2
    generalize odP ov = o at hi ⊢
    refine rootS_alone Tryz.eRe (d := 4) (g := 79) (ls := lsumsOf [(4, LRe)]) (AllL.of1 (a := Tryz.bRe) (by kernel_rfl) (LsOk.of rfl rfl Tryz.lRe)) ((Tryz.wRe o).trans ?_)
    rw [show AV.agg (AV.agg o.row).cells = .agg o.row from rfl, odP_row, odIs_row, propB_t hi]
    unfold relsB
    by_cases h1 : o.re.length ≤ 2000
    · rw [decide_eq_false (show ¬ (o.re.length : Int) > 2000 by omega), decide_eq_true h1]
      cases allOk o.re.length (relOk o) <;> rfl
    · rw [decide_eq_true (show (o.re.length : Int) > 2000 by omega), decide_eq_false h1]; rfl
  · cases hs
end Go.Ev
/- Line tables, as the specification checks them. -/
namespace Go.Ev
open Go.Proofs
def Tryz.ETa : Env := Tryz.env0 false (sumsOf []) (keepF 81 [(4, [0, 3])])
def Tryz.bTa : Code := nthD .skip (loopsOf (bodyOf Tryz.ETa 81)) 0
def Tryz.BTa (s : St) : Option (AX × St) := codeS Tryz.ETa (callF Tryz.ETa 4) (Tryz.ETa.keep 81) (lsumsOf []) Tryz.bTa (outK [0, 3] [2]) s
def entP (x : LinD) : Prop := (0 ≤ x.1 ∧ x.1 ≤ 15) ∧ (0 ≤ x.2.1 ∧ x.2.1 ≤ 65535) ∧ (0 ≤ x.2.2.1 ∧ x.2.2.1 ≤ 19) ∧ (0 ≤ x.2.2.2 ∧ x.2.2.2 ≤ 1048576)
def linP (L : List LinD) (i : Nat) : Prop := entP (L.getD i LI.z) ∧ ((L.getD i LI.z).2.2.2 = 0 → (L.getD i LI.z).2.2.1 = 0) ∧
  (0 < i → (L.getD (i - 1) LI.z).1 ≤ (L.getD i LI.z).1 ∧ ((L.getD i LI.z).1 = (L.getD (i - 1) LI.z).1 → (L.getD (i - 1) LI.z).2.1 < (L.getD i LI.z).2.1))
def linOk (L : List LinD) (i : Nat) : Bool := propB (linP L i)
def tabB (L : List LinD) : Bool := decide (L.length ≤ 4000) && allOk L.length (linOk L)
def fTa (vs : List AV) (h : Heap) : Ans (AX × List AV × Heap) := match vs, h with
  | [.ro c _, .val (.int .i64 (.ofNat 0))], ⟨0, []⟩ =>
    .grd (LI.ok c && Nat.ble c.len 1000000) (.br (allOk (LI.list c).length (linOk (LI.list c))) (.out (.exit 0, [.unk], ⟨0, []⟩)) (.out (.ret, [.val (.bool false)], ⟨0, []⟩)))
  | _, _ => .no
def LTa : LSum := toLSum 93 [0, 3] [2] fTa
def tabS (args : List AV) : Ans (AV × Heap) := match args with
  | [.ro c cap] => .grd (LI.ok c && Nat.ble c.len 1000000) (.out (.val (.bool (tabB (LI.list c))), ⟨0, []⟩))
  | _ => .no
theorem Tryz.rTa (L : List LinD) (i : Nat) : Tryz.BTa (stOf 93 [0, 3] [.ro (LI.con L) none, .val (.int .i64 i)] ⟨0, []⟩) =
 bif decide ((↑i : Int) < (↑L.length : Int)) then
 bif inR (↑i : Int) L.length then
 bif decide ((L.getD i LI.z).fst < 0) then
 some (.ret, stOf 93 [2] [.val (.bool false)] ⟨0, []⟩)
 else
 bif decide ((L.getD i LI.z).fst > 15) then
 some (.ret, stOf 93 [2] [.val (.bool false)] ⟨0, []⟩)
 else
 bif decide ((L.getD i LI.z).snd.fst < 0) then
 some (.ret, stOf 93 [2] [.val (.bool false)] ⟨0, []⟩)
 else
 bif decide ((L.getD i LI.z).snd.fst > 65535) then
 some (.ret, stOf 93 [2] [.val (.bool false)] ⟨0, []⟩)
 else
 bif decide ((L.getD i LI.z).snd.snd.fst < 0) then
 some (.ret, stOf 93 [2] [.val (.bool false)] ⟨0, []⟩)
 else
 bif decide ((L.getD i LI.z).snd.snd.fst > 19) then
 some (.ret, stOf 93 [2] [.val (.bool false)] ⟨0, []⟩)
 else
 bif decide ((L.getD i LI.z).snd.snd.snd < 0) then
 some (.ret, stOf 93 [2] [.val (.bool false)] ⟨0, []⟩)
 else
 bif decide ((L.getD i LI.z).snd.snd.snd > 1048576) then
 some (.ret, stOf 93 [2] [.val (.bool false)] ⟨0, []⟩)
 else
 bif (L.getD i LI.z).snd.snd.snd == 0 then
 bif (L.getD i LI.z).snd.snd.fst != 0 then
 some (.ret, stOf 93 [2] [.val (.bool false)] ⟨0, []⟩)
 else
 bif decide ((↑i : Int) > 0) then
 bif inR (IntKind.i64.wrap ((↑i : Int) - 1)) L.length then
 bif decide ((L.getD i LI.z).fst < (L.getD (IntKind.i64.wrap ((↑i : Int) - 1)).toNat LI.z).fst) then
 some (.ret, stOf 93 [2] [.val (.bool false)] ⟨0, []⟩)
 else
 bif (L.getD i LI.z).fst == (L.getD (IntKind.i64.wrap ((↑i : Int) - 1)).toNat LI.z).fst then
 bif decide ((L.getD i LI.z).snd.fst ≤ (L.getD (IntKind.i64.wrap ((↑i : Int) - 1)).toNat LI.z).snd.fst) then
 some (.ret, stOf 93 [2] [.val (.bool false)] ⟨0, []⟩)
 else
 some (.normal, stOf 93 [0, 3] [.ro (.tab 4 (L.length) (fun i => LI.row (L.getD i LI.z))) none, .val (.int .i64 (IntKind.i64.wrap ((↑i : Int) + 1)))] ⟨0, []⟩)
 else
 some (.normal, stOf 93 [0, 3] [.ro (.tab 4 (L.length) (fun i => LI.row (L.getD i LI.z))) none, .val (.int .i64 (IntKind.i64.wrap ((↑i : Int) + 1)))] ⟨0, []⟩)
 else
 none
 else
 some (.normal, stOf 93 [0, 3] [.ro (.tab 4 (L.length) (fun i => LI.row (L.getD i LI.z))) none, .val (.int .i64 (IntKind.i64.wrap ((↑i : Int) + 1)))] ⟨0, []⟩)
 else
 bif decide ((↑i : Int) > 0) then
 bif inR (IntKind.i64.wrap ((↑i : Int) - 1)) L.length then
 bif decide ((L.getD i LI.z).fst < (L.getD (IntKind.i64.wrap ((↑i : Int) - 1)).toNat LI.z).fst) then
 some (.ret, stOf 93 [2] [.val (.bool false)] ⟨0, []⟩)
 else
 bif (L.getD i LI.z).fst == (L.getD (IntKind.i64.wrap ((↑i : Int) - 1)).toNat LI.z).fst then
 bif decide ((L.getD i LI.z).snd.fst ≤ (L.getD (IntKind.i64.wrap ((↑i : Int) - 1)).toNat LI.z).snd.fst) then
 some (.ret, stOf 93 [2] [.val (.bool false)] ⟨0, []⟩)
 else
 some (.normal, stOf 93 [0, 3] [.ro (.tab 4 (L.length) (fun i => LI.row (L.getD i LI.z))) none, .val (.int .i64 (IntKind.i64.wrap ((↑i : Int) + 1)))] ⟨0, []⟩)
 else
 some (.normal, stOf 93 [0, 3] [.ro (.tab 4 (L.length) (fun i => LI.row (L.getD i LI.z))) none, .val (.int .i64 (IntKind.i64.wrap ((↑i : Int) + 1)))] ⟨0, []⟩)
 else
 none
 else
 some (.normal, stOf 93 [0, 3] [.ro (.tab 4 (L.length) (fun i => LI.row (L.getD i LI.z))) none, .val (.int .i64 (IntKind.i64.wrap ((↑i : Int) + 1)))] ⟨0, []⟩)
 else
 none
 else
 some (.exit 0, stOf 93 [] [] ⟨0, []⟩) := by kernel_rfl
theorem Tryz.wTa (L : List LinD) : rootS Tryz.ETa 4 81 (lsumsOf [(4, LTa)]) [.ro (LI.con L) none] =
 bif decide ((↑L.length : Int) > 4000) then
 some (.val (.bool false), ⟨0, []⟩)
 else
 bif LI.ok (LI.con L) && L.length.ble 1000000 then
 bif allOk (LI.list (LI.con L)).length (linOk (LI.list (LI.con L))) then
 some (.val (.bool true), ⟨0, []⟩)
 else
 some (.val (.bool false), ⟨0, []⟩)
 else
 none := by kernel_rfl
theorem Tryz.eTa : EnvOk2 Tryz.prog Tryz.ETa := Tryz.envOk false (sumsOf []) _ (fun g A h => by cases h)
theorem Tryz.sTa (L : List LinD) (k : Nat) (hL : L.length ≤ 1000000) (hk : k ≤ L.length) : Tryz.BTa (stOf 93 [0, 3] [.ro (LI.con L) none, .val (.int .i64 k)] ⟨0, []⟩) =
    bif decide (k < L.length) then (bif linOk L k then some (.normal, stOf 93 [0, 3] [.ro (LI.con L) none, .val (.int .i64 ((k + 1 : Nat) : Int))] ⟨0, []⟩) else some (.ret, stOf 93 [2] [.val (.bool false)] ⟨0, []⟩)) else some (.exit 0, stOf 93 [2] [.unk] ⟨0, []⟩) := by
  rw [Tryz.rTa, declt_nat, inR_nat, wrapS k (by omega)]
  by_cases h : k < L.length
  rotate_left
  · rw [decide_eq_false h]; rfl
  rw [decide_eq_true h]
  simp only [cond_true]
  have e1 : 0 < k → IntKind.i64.wrap ((k : Int) - 1) = ((k - 1 : Nat) : Int) := fun hk0 => by rw [wrap64 _ (by omega) (by omega)]; omega
  unfold linOk linP entP
  generalize L.getD k LI.z = x
  obtain ⟨sec, off, file, line⟩ := x
  simp only
  have hA : (some (AX.normal, stOf 93 [0, 3] [.ro (.tab 4 (L.length) (fun i => LI.row (L.getD i LI.z))) none, .val (.int .i64 ((k + 1 : Nat) : Int))] ⟨0, []⟩) : Option (AX × St)) = some (.normal, stOf 93 [0, 3] [.ro (LI.con L) none, .val (.int .i64 ((k + 1 : Nat) : Int))] ⟨0, []⟩) := rfl
  rw [hA]
  generalize (some (AX.normal, stOf 93 [0, 3] [.ro (LI.con L) none, .val (.int .i64 ((k + 1 : Nat) : Int))] ⟨0, []⟩) : Option (AX × St)) = A
  generalize (some (AX.ret, stOf 93 [2] [.val (.bool false)] (⟨0, []⟩ : Heap)) : Option (AX × St)) = B
  rw [propB_ite]
  by_cases c1 : sec < 0
  · rw [decide_eq_true c1, cond_true, if_neg (fun q => by have := q.1; omega)]
  rw [decide_eq_false c1, cond_false]
  by_cases c2 : sec > 15
  · rw [decide_eq_true c2, cond_true, if_neg (fun q => by have := q.1; omega)]
  rw [decide_eq_false c2, cond_false]
  by_cases c3 : off < 0
  · rw [decide_eq_true c3, cond_true, if_neg (fun q => by have := q.1; omega)]
  rw [decide_eq_false c3, cond_false]
  by_cases c4 : off > 65535
  · rw [decide_eq_true c4, cond_true, if_neg (fun q => by have := q.1; omega)]
  rw [decide_eq_false c4, cond_false]
  by_cases c5 : file < 0
  · rw [decide_eq_true c5, cond_true, if_neg (fun q => by have := q.1; omega)]
  rw [decide_eq_false c5, cond_false]
  by_cases c6 : file > 19
  · rw [decide_eq_true c6, cond_true, if_neg (fun q => by have := q.1; omega)]
  rw [decide_eq_false c6, cond_false]
  by_cases c7 : line < 0
  · rw [decide_eq_true c7, cond_true, if_neg (fun q => by have := q.1; omega)]
  rw [decide_eq_false c7, cond_false]
  by_cases c8 : line > 1048576
  · rw [decide_eq_true c8, cond_true, if_neg (fun q => by have := q.1; omega)]
  rw [decide_eq_false c8, cond_false]
  have rest : (line = 0 → file = 0) → (bif decide ((k : Int) > 0) then
      bif inR (IntKind.i64.wrap ((k : Int) - 1)) L.length then
      bif decide (sec < (L.getD (IntKind.i64.wrap ((k : Int) - 1)).toNat LI.z).fst) then B
      else bif sec == (L.getD (IntKind.i64.wrap ((k : Int) - 1)).toNat LI.z).fst then
      bif decide (off ≤ (L.getD (IntKind.i64.wrap ((k : Int) - 1)).toNat LI.z).snd.fst) then B else A
      else A else none else A) =
      @ite _ (((0 ≤ sec ∧ sec ≤ 15) ∧ (0 ≤ off ∧ off ≤ 65535) ∧ (0 ≤ file ∧ file ≤ 19) ∧ 0 ≤ line ∧ line ≤ 1048576) ∧ (line = 0 → file = 0) ∧ (0 < k → (L.getD (k - 1) LI.z).fst ≤ sec ∧ (sec = (L.getD (k - 1) LI.z).fst → (L.getD (k - 1) LI.z).snd.fst < off))) (Classical.propDecidable _) A B := by
    intro hlf
    by_cases c12 : 0 < k
    rotate_left
    · rw [decide_eq_false (show ¬ (k : Int) > 0 by omega), cond_false, if_pos ⟨by omega, hlf, fun q => absurd q c12⟩]
    rw [decide_eq_true (show (k : Int) > 0 by omega), cond_true, e1 c12, inR_nat, decide_eq_true (show k - 1 < L.length by omega), cond_true, Int.toNat_natCast]
    generalize L.getD (k - 1) LI.z = pr
    obtain ⟨psec, poff, pfile, pline⟩ := pr
    simp only
    by_cases d1 : sec < psec
    · rw [decide_eq_true d1, cond_true, if_neg (fun q => by have := (q.2.2 c12).1; omega)]
    rw [decide_eq_false d1, cond_false]
    by_cases d2 : sec = psec
    · rw [show (sec == psec) = true from beq_iff_eq.2 d2, cond_true]
      by_cases d3 : off ≤ poff
      · rw [decide_eq_true d3, cond_true, if_neg (fun q => by have := (q.2.2 c12).2 d2; omega)]
      · rw [decide_eq_false d3, cond_false, if_pos ⟨by omega, hlf, fun _ => ⟨by omega, fun _ => by omega⟩⟩]
    · rw [show (sec == psec) = false from beq_eq_false_iff_ne.2 d2, cond_false, if_pos ⟨by omega, hlf, fun _ => ⟨by omega, fun q => absurd q d2⟩⟩]
  by_cases c9 : line = 0
  · rw [show (line == 0) = true from beq_iff_eq.2 c9, cond_true]
    by_cases c10 : file = 0
    · rw [show (file != 0) = false by rw [c10]; rfl, cond_false]
      exact rest (fun _ => c10)
    · rw [show (file != 0) = true from bne_iff_ne.2 c10, cond_true, if_neg (fun q => c10 (q.2.1 c9))]
  · rw [show (line == 0) = false from beq_eq_false_iff_ne.2 c9, cond_false]
    exact rest (fun q => absurd q c9)
theorem Tryz.lTa : ∀ s e s', s.h.ok → (LTa s).run = some (e, s') → Triple Tryz.prog (.loop Tryz.bTa) s e s' := by
  refine scan_law Tryz.eTa (d := 4) (g := 81) (ls := lsumsOf []) (c := Tryz.bTa) trivial 93 [0, 3] [2] (T := List LinD) (fun L k => [.ro (LI.con L) none, .val (.int .i64 k)]) (fun _ => ⟨0, []⟩) (fun L => L.length) linOk (fun L => L.length ≤ 1000000)
    (fun _ => (.exit 0, [.unk], ⟨0, []⟩)) (fun _ => (.ret, [.val (.bool false)], ⟨0, []⟩)) fTa ?_ (fun _ _ => heap0_ok) (fun _ _ => ⟨by simp, by simp⟩) (fun _ _ => ⟨heap0_ok, heap0_ok⟩) (fun L k hL hk _ => Tryz.sTa L k hL hk)
  intro vs h e vo h' hok hf
  unfold fTa at hf
  split at hf
  · rename_i c cap
    rw [Ans.run_grd] at hf
    cases hb : (LI.ok c && Nat.ble c.len 1000000) with
    | false => rw [hb] at hf; cases hf
    | true =>
      rw [hb, cond_true, Ans.run_br] at hf
      simp only [Bool.and_eq_true, Nat.ble_eq] at hb
      refine ⟨LI.list c, by rw [LI.list_len]; exact hb.2, Weak.slots heap0_ok (.cons (LI.aw hb.1 cap) (AWs.refl _)), ?_⟩
      cases hq : allOk (LI.list c).length (linOk (LI.list c)) with
      | true => rw [hq] at hf; injection hf
      | false => rw [hq] at hf; injection hf
  · cases hf
theorem Tryz.sumTa : SumC Tryz.prog 81 (pureA (fun args => tabS (nzs [LI.con []] args))) := by
  refine pureSumR 81 ⟨Tryz.f81, _, Tryz.fnOk81.1, Tryz.fnOk81.2, rfl⟩ ?_
  intro args v h2 hs
  refine Alone.nz (cs := [LI.con []]) (by simp [Con.len, RowTy.con]) ?_
  replace hs : (tabS (nzs [LI.con []] args)).run = some (v, h2) := hs
  generalize nzs [LI.con []] args = args' at hs ⊢
  unfold tabS at hs
  split at hs
  · rename_i c cap
    rw [Ans.run_grd] at hs
    cases hb : (LI.ok c && Nat.ble c.len 1000000) with
    | false => rw [hb] at hs; cases hs
    | true =>
    rw [hb, cond_true] at hs
    simp only [Bool.and_eq_true, Nat.ble_eq] at hb
    injection hs with hs
    injection hs with q1 q2
    subst q1; subst q2
    refine Alone.argsW (AWs.args (.cons (LI.aw hb.1 cap) .nil)) ?_
    have hi : (LI.list c).length ≤ 1000000 := by rw [LI.list_len]; exact hb.2
    generalize LI.list c = L at hi ⊢
    refine rootS_alone Tryz.eTa (d := 4) (g := 81) (ls := lsumsOf [(4, LTa)]) (AllL.of1 (a := Tryz.bTa) (by kernel_rfl) (LsOk.of rfl rfl Tryz.lTa)) ((Tryz.wTa L).trans ?_)
    unfold tabB
    rw [show LI.list (LI.con L) = L from LI.list_con L, LI.ok_con, ble_t hi]
    by_cases h1 : L.length ≤ 4000
    · rw [decide_eq_false (show ¬ (L.length : Int) > 4000 by omega), decide_eq_true h1]
      cases allOk L.length (linOk L) <;> rfl
    · rw [decide_eq_true (show (L.length : Int) > 4000 by omega), decide_eq_false h1]; rfl
  · cases hs
end Go.Ev
/- Valid objects, as the specification checks them. -/
namespace Go.Ev
open Go.Proofs
def Tryz.tIs : List (Nat × AFun) := [(77, pureA (fun args => secsS (nzs [SE.con []] args))), (78, pureA symsS), (79, pureA relsS), (80, pureA (fun args => filsS (nzs [FI.con []] args))), (81, pureA (fun args => tabS (nzs [LI.con []] args)))]
def Tryz.EIs : Env := Tryz.env0 false (sumsOf Tryz.tIs) (keepF 22 [(4, [1, 3])])
def Tryz.bIs : Code := nthD .skip (loopsOf (bodyOf Tryz.EIs 22)) 0
def Tryz.BIs (s : St) : Option (AX × St) := codeS Tryz.EIs (callF Tryz.EIs 4) (Tryz.EIs.keep 22) (lsumsOf []) Tryz.bIs (outK [1, 3] [2]) s
def covP (o : OD) (i : Nat) : Prop := (o.li.getD i LI.z).1 < (o.se.length : Int) ∧ (o.li.getD i LI.z).2.1 < lenS (o.se.getD (o.li.getD i LI.z).1.toNat SE.z) ∧ (0 < (o.li.getD i LI.z).2.2.2 → (o.li.getD i LI.z).2.2.1 < (o.fi.length : Int))
def covOk (o : OD) (i : Nat) : Bool := propB (covP o i)
def lisInv (o : OD) : Prop := seBound o.se ∧ tabB o.li = true
def fIs (vs : List AV) (h : Heap) : Ans (AX × List AV × Heap) := match vs, h with
  | [.ptr 0 0 0, .val (.int .i64 (.ofNat 0))], ⟨1, [⟨0, 0, .cells (.rows true 5 [r])⟩]⟩ =>
    .grd (odIs (.agg r) && propB (lisInv (odP (.agg r)))) (.br (allOk (odP (.agg r)).li.length (covOk (odP (.agg r)))) (.out (.exit 0, [.unk], ⟨0, []⟩)) (.out (.ret, [.val (.bool false)], ⟨0, []⟩)))
  | _, _ => .no
def LIs : LSum := toLSum 74 [1, 3] [2] fIs
def objB (o : OD) : Bool := secsB o.se && (symsB o && (relsB o && (filsB o.fi && (tabB o.li && allOk o.li.length (covOk o)))))
def odInv (o : OD) : Prop := seInv o.se ∧ (o.sy.length ≤ 1000000 ∧ ∀ s ∈ o.sy, syBound s) ∧ o.re.length ≤ 1000000 ∧ filInv o.fi ∧ o.li.length ≤ 1000000
def isS (args : List AV) : Ans (AV × Heap) := match args with
  | [o] => .grd (odIs o && propB (odInv (odP o))) (.out (.val (.bool (objB (odP o))), ⟨0, []⟩))
  | _ => .no
theorem Tryz.rIs (o : OD) (i : Nat) : Tryz.BIs (stOf 74 [1, 3] [.ptr 0 0 0, .val (.int .i64 i)] (hO o)) =
 bif decide ((↑i : Int) < (↑o.li.length : Int)) then
 bif inR (↑i : Int) o.li.length then
 bif decide ((o.li.getD i LI.z).fst ≥ (↑o.se.length : Int)) then
 some (.ret, stOf 74 [2] [.val (.bool false)] ⟨0, []⟩)
 else
 bif inR (o.li.getD i LI.z).fst o.se.length then
 bif decide ((o.li.getD i LI.z).snd.fst ≥ IntKind.i64.wrap ((↑(o.se.getD (o.li.getD i LI.z).fst.toNat SE.z).snd.snd.snd.fst.length : Int) + (o.se.getD (o.li.getD i LI.z).fst.toNat SE.z).snd.snd.snd.snd)) then
 some (.ret, stOf 74 [2] [.val (.bool false)] ⟨0, []⟩)
 else
 bif decide ((o.li.getD i LI.z).snd.snd.snd > 0) then
 bif decide ((o.li.getD i LI.z).snd.snd.fst ≥ (↑o.fi.length : Int)) then
 some (.ret, stOf 74 [2] [.val (.bool false)] ⟨0, []⟩)
 else
 some (.normal, stOf 74 [1, 3] [.ptr 0 0 0, .val (.int .i64 (IntKind.i64.wrap ((↑i : Int) + 1)))] ⟨1, [⟨0, 0, .cells (.rows true 5 ([.ro (.tab 5 (o.se.length) (fun i => SE.row (o.se.getD i SE.z))) none, .ro (.tab 6 (o.sy.length) (fun i => SY.row (o.sy.getD i SY.z))) none, .ro (.tab 5 (o.re.length) (fun i => RE.row (o.re.getD i RE.z))) none, .ro (.tab 1 (o.fi.length) (fun i => FI.row (o.fi.getD i FI.z))) none, .ro (.tab 4 (o.li.length) (fun i => LI.row (o.li.getD i LI.z))) none] :: []))⟩]⟩ )
 else
 some (.normal, stOf 74 [1, 3] [.ptr 0 0 0, .val (.int .i64 (IntKind.i64.wrap ((↑i : Int) + 1)))] ⟨1, [⟨0, 0, .cells (.rows true 5 ([.ro (.tab 5 (o.se.length) (fun i => SE.row (o.se.getD i SE.z))) none, .ro (.tab 6 (o.sy.length) (fun i => SY.row (o.sy.getD i SY.z))) none, .ro (.tab 5 (o.re.length) (fun i => RE.row (o.re.getD i RE.z))) none, .ro (.tab 1 (o.fi.length) (fun i => FI.row (o.fi.getD i FI.z))) none, .ro (.tab 4 (o.li.length) (fun i => LI.row (o.li.getD i LI.z))) none] :: []))⟩]⟩ )
 else
 none
 else
 none
 else
 some (.exit 0, stOf 74 [] [] ⟨0, []⟩) := by kernel_rfl
theorem Tryz.wIs (o : OD) : rootS Tryz.EIs 4 22 (lsumsOf [(4, LIs)]) [o.av] =
 bif SE.ok (SE.con o.se) && propB (seInv (SE.list (SE.con o.se))) then
 bif secsB (SE.list (SE.con o.se)) then
 bif odIs (AV.agg [AV.ro (SE.con o.se) none, AV.ro (SY.con o.sy) none, AV.ro (RE.con o.re) none, AV.ro (FI.con o.fi) none, AV.ro (LI.con o.li) none]) && propB (syInv (odP (AV.agg [AV.ro (SE.con o.se) none, AV.ro (SY.con o.sy) none, AV.ro (RE.con o.re) none, AV.ro (FI.con o.fi) none, AV.ro (LI.con o.li) none]))) then
 bif symsB (odP (AV.agg [AV.ro (SE.con o.se) none, AV.ro (SY.con o.sy) none, AV.ro (RE.con o.re) none, AV.ro (FI.con o.fi) none, AV.ro (LI.con o.li) none])) then
 bif odIs (AV.agg [AV.ro (SE.con o.se) none, AV.ro (SY.con o.sy) none, AV.ro (RE.con o.re) none, AV.ro (FI.con o.fi) none, AV.ro (LI.con o.li) none]) && propB (reInv (odP (AV.agg [AV.ro (SE.con o.se) none, AV.ro (SY.con o.sy) none, AV.ro (RE.con o.re) none, AV.ro (FI.con o.fi) none, AV.ro (LI.con o.li) none]))) then
 bif relsB (odP (AV.agg [AV.ro (SE.con o.se) none, AV.ro (SY.con o.sy) none, AV.ro (RE.con o.re) none, AV.ro (FI.con o.fi) none, AV.ro (LI.con o.li) none])) then
 bif FI.ok (FI.con o.fi) && propB (filInv (FI.list (FI.con o.fi))) then
 bif filsB (FI.list (FI.con o.fi)) then
 bif LI.ok (LI.con o.li) && o.li.length.ble 1000000 then
 bif tabB (LI.list (LI.con o.li)) then
 bif odIs (AV.agg (AV.agg o.row).cells) && propB (lisInv (odP (AV.agg (AV.agg o.row).cells))) then
 bif allOk (odP (AV.agg (AV.agg o.row).cells)).li.length (covOk (odP (AV.agg (AV.agg o.row).cells))) then
 some (.val (.bool true), ⟨0, []⟩)
 else
 some (.val (.bool false), ⟨0, []⟩)
 else
 none
 else
 some (.val (.bool false), ⟨0, []⟩)
 else
 none
 else
 some (.val (.bool false), ⟨0, []⟩)
 else
 none
 else
 some (.val (.bool false), ⟨0, []⟩)
 else
 none
 else
 some (.val (.bool false), ⟨0, []⟩)
 else
 none
 else
 some (.val (.bool false), ⟨0, []⟩)
 else
 none := by kernel_rfl
theorem Tryz.eIs : EnvOk2 Tryz.prog Tryz.EIs := Tryz.envOk false (sumsOf Tryz.tIs) _ (sumsOf_ok (show AllS Tryz.prog Tryz.tIs from ⟨Tryz.sumSe, Tryz.sumSy, Tryz.sumRe, Tryz.sumFi, Tryz.sumTa, trivial⟩))
theorem secs_bound {L : List SecD} (h : seInv L) (hb : secsB L = true) : seBound L := by
  unfold secsB at hb
  simp only [Bool.and_eq_true, decide_eq_true_eq] at hb
  refine ⟨Nat.le_trans h.1 (by omega), fun e he => ?_⟩
  obtain ⟨i, hi, rfl⟩ := List.getElem_of_mem he
  have := allOk_iff.1 hb.2.1 i hi
  unfold secOk at this
  rw [Bool.and_eq_true] at this
  have e1 : L.getD i SE.z = L[i] := by rw [List.getD_eq_getElem?_getD, List.getElem?_eq_getElem hi]; rfl
  rw [e1] at this
  have := lenS_b this.1 (h.2 _ he)
  omega
theorem tab_ent {L : List LinD} (h : tabB L = true) {i : Nat} (hi : i < L.length) : entP (L.getD i LI.z) := by
  unfold tabB at h
  simp only [Bool.and_eq_true, decide_eq_true_eq] at h
  exact (propB_eq (allOk_iff.1 h.2 i hi)).1
theorem Tryz.sIs (o : OD) (k : Nat) (ho : lisInv o) (hk : k ≤ o.li.length) : Tryz.BIs (stOf 74 [1, 3] [.ptr 0 0 0, .val (.int .i64 k)] (hO o)) =
    bif decide (k < o.li.length) then (bif covOk o k then some (.normal, stOf 74 [1, 3] [.ptr 0 0 0, .val (.int .i64 ((k + 1 : Nat) : Int))] (hO o)) else some (.ret, stOf 74 [2] [.val (.bool false)] ⟨0, []⟩)) else some (.exit 0, stOf 74 [2] [.unk] ⟨0, []⟩) := by
  obtain ⟨⟨h1, h2⟩, h3⟩ := ho
  have hl : o.li.length ≤ 4000 := by
    unfold tabB at h3
    simp only [Bool.and_eq_true, decide_eq_true_eq] at h3
    exact h3.1
  rw [Tryz.rIs, declt_nat, inR_nat, wrapS k (by omega)]
  by_cases h : k < o.li.length
  rotate_left
  · rw [decide_eq_false h]; rfl
  rw [decide_eq_true h]
  simp only [cond_true]
  have he := tab_ent h3 h
  unfold covOk covP
  unfold entP at he
  generalize o.li.getD k LI.z = x at he ⊢
  obtain ⟨sec, off, file, line⟩ := x
  simp only at he ⊢
  have hA : (some (AX.normal, stOf 74 [1, 3] [.ptr 0 0 0, .val (.int .i64 ((k + 1 : Nat) : Int))] ⟨1, [⟨0, 0, .cells (.rows true 5 ([.ro (.tab 5 (o.se.length) (fun i => SE.row (o.se.getD i SE.z))) none, .ro (.tab 6 (o.sy.length) (fun i => SY.row (o.sy.getD i SY.z))) none, .ro (.tab 5 (o.re.length) (fun i => RE.row (o.re.getD i RE.z))) none, .ro (.tab 1 (o.fi.length) (fun i => FI.row (o.fi.getD i FI.z))) none, .ro (.tab 4 (o.li.length) (fun i => LI.row (o.li.getD i LI.z))) none] :: []))⟩]⟩) : Option (AX × St)) = some (.normal, stOf 74 [1, 3] [.ptr 0 0 0, .val (.int .i64 ((k + 1 : Nat) : Int))] (hO o)) := rfl
  rw [hA]
  generalize (some (AX.normal, stOf 74 [1, 3] [.ptr 0 0 0, .val (.int .i64 ((k + 1 : Nat) : Int))] (hO o)) : Option (AX × St)) = A
  generalize (some (AX.ret, stOf 74 [2] [.val (.bool false)] (⟨0, []⟩ : Heap)) : Option (AX × St)) = B
  rw [propB_ite]
  by_cases c1 : sec ≥ (o.se.length : Int)
  · rw [decide_eq_true c1, cond_true, if_neg (fun q => by omega)]
  rw [decide_eq_false c1, cond_false, inR_prop.2 ⟨by omega, by omega⟩, cond_true]
  have hb := h2 _ (getD_mem (d := SE.z) (show sec.toNat < o.se.length by omega))
  have hw : IntKind.i64.wrap (((o.se.getD sec.toNat SE.z).snd.snd.snd.fst.length : Int) + (o.se.getD sec.toNat SE.z).snd.snd.snd.snd) = lenS (o.se.getD sec.toNat SE.z) := by
    unfold lenS at hb ⊢
    exact wrap64 _ (by omega) (by omega)
  rw [hw]
  by_cases c2 : off ≥ lenS (o.se.getD sec.toNat SE.z)
  · rw [decide_eq_true c2, cond_true, if_neg (fun q => by omega)]
  rw [decide_eq_false c2, cond_false]
  by_cases c3 : line > 0
  · rw [decide_eq_true c3, cond_true]
    by_cases c4 : file ≥ (o.fi.length : Int)
    · rw [decide_eq_true c4, cond_true, if_neg (fun q => by have := q.2.2 c3; omega)]
    · rw [decide_eq_false c4, cond_false, if_pos ⟨by omega, by omega, fun _ => by omega⟩]
  · rw [decide_eq_false c3, cond_false, if_pos ⟨by omega, by omega, fun q => absurd q c3⟩]
theorem Tryz.lIs : ∀ s e s', s.h.ok → (LIs s).run = some (e, s') → Triple Tryz.prog (.loop Tryz.bIs) s e s' := by
  refine scan_law Tryz.eIs (d := 4) (g := 22) (ls := lsumsOf []) (c := Tryz.bIs) trivial 74 [1, 3] [2] (T := OD) (fun o k => [.ptr 0 0 0, .val (.int .i64 k)]) hO (fun o => o.li.length) covOk lisInv
    (fun _ => (.exit 0, [.unk], ⟨0, []⟩)) (fun _ => (.ret, [.val (.bool false)], ⟨0, []⟩)) fIs ?_ (fun o _ => hO_ok o) (fun _ _ => ⟨by simp, by simp⟩) (fun _ _ => ⟨heap0_ok, heap0_ok⟩) (fun o k ho hk _ => Tryz.sIs o k ho hk)
  intro vs h e vo h' hok hf
  unfold fIs at hf
  split at hf
  · rename_i r
    rw [Ans.run_grd] at hf
    cases hb : (odIs (.agg r) && propB (lisInv (odP (.agg r)))) with
    | false => rw [hb] at hf; cases hf
    | true =>
      rw [hb, cond_true, Ans.run_br] at hf
      rw [Bool.and_eq_true] at hb
      refine ⟨odP (.agg r), propB_eq hb.2, Weak.oneH rfl (od_con hb.1), ?_⟩
      cases hq : allOk (odP (.agg r)).li.length (covOk (odP (.agg r))) with
      | true => rw [hq] at hf; injection hf
      | false => rw [hq] at hf; injection hf
  · cases hf
theorem Tryz.sumIs : SumC Tryz.prog 22 (pureA isS) := by
  refine pureSumR 22 ⟨Tryz.f22, _, Tryz.fnOk22.1, Tryz.fnOk22.2, rfl⟩ ?_
  intro args v h2 hs
  unfold isS at hs
  split at hs
  · rename_i ov
    rw [Ans.run_grd] at hs
    cases hb : (odIs ov && propB (odInv (odP ov))) with
    | false => rw [hb] at hs; cases hs
    | true =>
    rw [hb, cond_true] at hs
    rw [Bool.and_eq_true] at hb
    injection hs with hs
    injection hs with q1 q2
    subst q1; subst q2
    refine Alone.argsW (AWs.args (.cons (od_aw hb.1) .nil)) ?_
    have hi := propB_eq hb.2
    generalize odP ov = o at hi ⊢
    refine rootS_alone Tryz.eIs (d := 4) (g := 22) (ls := lsumsOf [(4, LIs)]) (AllL.of1 (a := Tryz.bIs) (by kernel_rfl) (LsOk.of rfl rfl Tryz.lIs)) ((Tryz.wIs o).trans ?_)
    rw [show AV.agg (AV.agg o.row).cells = .agg o.row from rfl, show AV.agg [AV.ro (SE.con o.se) none, AV.ro (SY.con o.sy) none, AV.ro (RE.con o.re) none, AV.ro (FI.con o.fi) none, AV.ro (LI.con o.li) none] = .agg o.row from rfl, odP_row, odIs_row,
      show SE.list (SE.con o.se) = o.se from SE.list_con _, show FI.list (FI.con o.fi) = o.fi from FI.list_con _, show LI.list (LI.con o.li) = o.li from LI.list_con _, SE.ok_con, FI.ok_con, LI.ok_con]
    obtain ⟨i1, ⟨i2, i3⟩, i4, i5, i6⟩ := hi
    rw [propB_t i1, propB_t i5, ble_t i6]
    unfold objB
    cases h1 : secsB o.se with
    | false => rfl
    | true =>
    have hbd := secs_bound i1 h1
    rw [propB_t (show syInv o from ⟨i2, hbd, i3⟩)]
    cases h2 : symsB o with
    | false => rfl
    | true =>
    rw [propB_t (show reInv o from ⟨i4, i1.2⟩)]
    cases h3 : relsB o with
    | false => rfl
    | true =>
    cases h4 : filsB o.fi with
    | false => rfl
    | true =>
    cases h5 : tabB o.li with
    | false => rfl
    | true =>
    rw [propB_t (show lisInv o from ⟨hbd, h5⟩)]
    cases h6 : allOk o.li.length (covOk o) with
    | false => rfl
    | true => rfl
  · cases hs
end Go.Ev
/- A byte's first place in a string: the library's IndexByte, for which the model stands in. -/
namespace Go.Ev
open Go.Proofs
theorem Tryz.extIb (args : Array Value) (w : World) : (callFunc 223 args).run Tryz.prog w = ((Extern.BytealgIndexByte.indexByte args).run Tryz.prog w).andThen fun v w' => .ok (.value v) w' :=
  run_callFunc_extern (P := Tryz.prog) (f := 223) Tryz.func223 (by kernel_rfl) (by kernel_rfl) (by kernel_rfl) (e := Extern.BytealgIndexByte.indexByte) (by kernel_rfl) args w
theorem Tryz.ib_calls (s : ByteArray) (n : Int) (w : World) : CallsIn Fence.wide 0 Tryz.prog 219 #[.string s, .int .u8 n] w (fun e w' => e = .returned (.int .i64 (firstIdx s n.toNat.toUInt8)) ∧ w' = w) := by
  refine callsIn_of_wp Tryz.func219 rfl trivial ?_
  apply wpIn_seq
  apply wpIn_region
  simp [wpOpsIn, Oper.wpIn, Oper.uponIn, go_sem, Exit.then, Tryz.f219]
  apply wpIn_seq
  apply wpIn_region
  simp [wpOpsIn, Oper.wpIn, Oper.uponIn, go_sem, Exit.then, Tryz.extIb, run_indexByte_string, Result.andThen]
  refine ⟨trivial, wpIn_ret ?_⟩
  simp [bodyPost, results, go_sem]
def ibS (args : List AV) : Ans (AV × Heap) := match args with
  | [.val (.string s), .val (.int .u8 n)] => .out (.val (.int .i64 (firstIdx s n.toNat.toUInt8)), ⟨0, []⟩)
  | _ => .no
theorem Tryz.sumIb : SumC Tryz.prog 219 (pureA ibS) := by
  refine pureSumR 219 ⟨Tryz.f219, _, Tryz.fnOk219.1, Tryz.fnOk219.2, rfl⟩ ?_
  intro args v h2 hs
  unfold ibS at hs
  split at hs
  · rename_i s n
    injection hs with hs
    injection hs with q1 q2
    subst q1; subst q2
    refine ⟨heap0_ok, fun w c us hr hv hV => ?_⟩
    match us, hv with
    | [u1, u2], .cons _ _ _ _ k1 (.cons _ _ _ _ k2 .nil) =>
      have e1 := k1.val_inv
      have e2 := k2.val_inv
      subst e1; subst e2
      refine CallsIn.mono (Tryz.ib_calls s n w) ?_
      rintro e w' ⟨rfl, rfl⟩
      exact ⟨_, rfl, c, .val _, (Ext.refl w' c).w, Keeps.refl ⟨fun _ i _ _ => hV i, fun _ i q => absurd q (hV i)⟩, hr⟩
  · cases hs
end Go.Ev
/- Names, as the program checks them. -/
namespace Go.Ev
open Go.Proofs
def Tryz.tNo : List (Nat × AFun) := [(219, pureA ibS)]
def Tryz.ENo : Env := Tryz.env0 false (sumsOf Tryz.tNo) (keepF 151 [(4, [0, 23, 24])])
def Tryz.bNo : Code := nthD .skip (loopsOf (bodyOf Tryz.ENo 151)) 0
def Tryz.BNo (s : St) : Option (AX × St) := codeS Tryz.ENo (callF Tryz.ENo 6) (Tryz.ENo.keep 151) (lsumsOf []) Tryz.bNo (outK [0, 23, 24] [2]) s
def Vno (s : ByteArray) (k : Nat) : List AV := [.val (.string s), .val (.int .i64 s.size), .val (.int .i64 k)]
def noOk (s : ByteArray) (k : Nat) : Bool := tailB (chB s k)
def fNo (vs : List AV) (h : Heap) : Ans (AX × List AV × Heap) := match vs, h with
  | [.val (.string s), .val (.int .i64 n), .val (.int .i64 (.ofNat 0))], ⟨0, []⟩ => .grd (n == (s.size : Int) && Nat.ble s.size 1000000) (.br (allOk s.size (noOk s)) (.out (.exit 0, [.unk], ⟨0, []⟩)) (.out (.ret, [.val (.bool false)], ⟨0, []⟩)))
  | _, _ => .no
def LNo : LSum := toLSum 49 [0, 23, 24] [2] fNo
theorem Tryz.rNo (s : ByteArray) (k : Nat) : Tryz.BNo (stOf 49 [0, 23, 24] (Vno s k) ⟨0, []⟩) =
 bif decide ((↑k : Int) < (↑s.size : Int)) then
 bif inR (↑k : Int) s.size then
 bif decide ((numsOf s).getD k 0 ≥ 65) then
 bif decide ((numsOf s).getD k 0 ≤ 90) then
 some (.normal, stOf 49 [0, 23, 24] [.val (Value.string s), .val (.int .i64 ((↑s.size : Int))), .val (.int .i64 (IntKind.i64.wrap ((↑k : Int) + 1)))] ⟨0, []⟩)
 else
 bif decide ((numsOf s).getD k 0 ≥ 97) then
 bif decide ((numsOf s).getD k 0 ≤ 122) then
 some (.normal, stOf 49 [0, 23, 24] [.val (Value.string s), .val (.int .i64 ((↑s.size : Int))), .val (.int .i64 (IntKind.i64.wrap ((↑k : Int) + 1)))] ⟨0, []⟩)
 else
 bif inR (↑k : Int) s.size then
 bif decide ((numsOf s).getD k 0 ≥ 48) then
 bif decide ((numsOf s).getD k 0 ≤ 57) then
 some (.normal, stOf 49 [0, 23, 24] [.val (Value.string s), .val (.int .i64 ((↑s.size : Int))), .val (.int .i64 (IntKind.i64.wrap ((↑k : Int) + 1)))] ⟨0, []⟩)
 else
 bif decide (0 ≤ IntKind.i64.wrap ((↑k : Int) + 1)) && decide (IntKind.i64.wrap ((↑k : Int) + 1) ≤ (↑s.size : Int)) then
 bif decide ((↑k : Int) ≤ (↑(IntKind.i64.wrap ((↑k : Int) + 1)).toNat : Int)) then
 bif (↑(s.extract k (IntKind.i64.wrap ((↑k : Int) + 1)).toNat).size : Int) == 0 then
 some (.normal, stOf 49 [0, 23, 24] [.val (Value.string s), .val (.int .i64 ((↑s.size : Int))), .val (.int .i64 (IntKind.i64.wrap ((↑k : Int) + 1)))] ⟨0, []⟩)
 else
 bif (s.extract k (IntKind.i64.wrap ((↑k : Int) + 1)).toNat).toList == (ByteArray.mk #[95, 46, 36]).toList then
 some (.normal, stOf 49 [0, 23, 24] [.val (Value.string s), .val (.int .i64 ((↑s.size : Int))), .val (.int .i64 (IntKind.i64.wrap ((↑k : Int) + 1)))] ⟨0, []⟩)
 else
 bif (↑(s.extract k (IntKind.i64.wrap ((↑k : Int) + 1)).toNat).size : Int) == 1 then
 bif inR 0 (s.extract k (IntKind.i64.wrap ((↑k : Int) + 1)).toNat).size then
 bif decide (firstIdx (ByteArray.mk #[95, 46, 36]) ((numsOf (s.extract k (IntKind.i64.wrap ((↑k : Int) + 1)).toNat)).getD 0 0).toNat.toUInt8 ≥ 0) then
 some (.normal, stOf 49 [0, 23, 24] [.val (Value.string s), .val (.int .i64 ((↑s.size : Int))), .val (.int .i64 (IntKind.i64.wrap ((↑k : Int) + 1)))] ⟨0, []⟩)
 else
 some (.ret, stOf 49 [2] [.val (.bool false)] ⟨0, []⟩)
 else
 none
 else
 bif decide ((↑(s.extract k (IntKind.i64.wrap ((↑k : Int) + 1)).toNat).size : Int) ≥ 3) then
 some (.ret, stOf 49 [2] [.val (.bool false)] ⟨0, []⟩)
 else
 none
 else
 none
 else
 none
 else
 bif decide (0 ≤ IntKind.i64.wrap ((↑k : Int) + 1)) && decide (IntKind.i64.wrap ((↑k : Int) + 1) ≤ (↑s.size : Int)) then
 bif decide ((↑k : Int) ≤ (↑(IntKind.i64.wrap ((↑k : Int) + 1)).toNat : Int)) then
 bif (↑(s.extract k (IntKind.i64.wrap ((↑k : Int) + 1)).toNat).size : Int) == 0 then
 some (.normal, stOf 49 [0, 23, 24] [.val (Value.string s), .val (.int .i64 ((↑s.size : Int))), .val (.int .i64 (IntKind.i64.wrap ((↑k : Int) + 1)))] ⟨0, []⟩)
 else
 bif (s.extract k (IntKind.i64.wrap ((↑k : Int) + 1)).toNat).toList == (ByteArray.mk #[95, 46, 36]).toList then
 some (.normal, stOf 49 [0, 23, 24] [.val (Value.string s), .val (.int .i64 ((↑s.size : Int))), .val (.int .i64 (IntKind.i64.wrap ((↑k : Int) + 1)))] ⟨0, []⟩)
 else
 bif (↑(s.extract k (IntKind.i64.wrap ((↑k : Int) + 1)).toNat).size : Int) == 1 then
 bif inR 0 (s.extract k (IntKind.i64.wrap ((↑k : Int) + 1)).toNat).size then
 bif decide (firstIdx (ByteArray.mk #[95, 46, 36]) ((numsOf (s.extract k (IntKind.i64.wrap ((↑k : Int) + 1)).toNat)).getD 0 0).toNat.toUInt8 ≥ 0) then
 some (.normal, stOf 49 [0, 23, 24] [.val (Value.string s), .val (.int .i64 ((↑s.size : Int))), .val (.int .i64 (IntKind.i64.wrap ((↑k : Int) + 1)))] ⟨0, []⟩)
 else
 some (.ret, stOf 49 [2] [.val (.bool false)] ⟨0, []⟩)
 else
 none
 else
 bif decide ((↑(s.extract k (IntKind.i64.wrap ((↑k : Int) + 1)).toNat).size : Int) ≥ 3) then
 some (.ret, stOf 49 [2] [.val (.bool false)] ⟨0, []⟩)
 else
 none
 else
 none
 else
 none
 else
 none
 else
 bif inR (↑k : Int) s.size then
 bif decide ((numsOf s).getD k 0 ≥ 48) then
 bif decide ((numsOf s).getD k 0 ≤ 57) then
 some (.normal, stOf 49 [0, 23, 24] [.val (Value.string s), .val (.int .i64 ((↑s.size : Int))), .val (.int .i64 (IntKind.i64.wrap ((↑k : Int) + 1)))] ⟨0, []⟩)
 else
 bif decide (0 ≤ IntKind.i64.wrap ((↑k : Int) + 1)) && decide (IntKind.i64.wrap ((↑k : Int) + 1) ≤ (↑s.size : Int)) then
 bif decide ((↑k : Int) ≤ (↑(IntKind.i64.wrap ((↑k : Int) + 1)).toNat : Int)) then
 bif (↑(s.extract k (IntKind.i64.wrap ((↑k : Int) + 1)).toNat).size : Int) == 0 then
 some (.normal, stOf 49 [0, 23, 24] [.val (Value.string s), .val (.int .i64 ((↑s.size : Int))), .val (.int .i64 (IntKind.i64.wrap ((↑k : Int) + 1)))] ⟨0, []⟩)
 else
 bif (s.extract k (IntKind.i64.wrap ((↑k : Int) + 1)).toNat).toList == (ByteArray.mk #[95, 46, 36]).toList then
 some (.normal, stOf 49 [0, 23, 24] [.val (Value.string s), .val (.int .i64 ((↑s.size : Int))), .val (.int .i64 (IntKind.i64.wrap ((↑k : Int) + 1)))] ⟨0, []⟩)
 else
 bif (↑(s.extract k (IntKind.i64.wrap ((↑k : Int) + 1)).toNat).size : Int) == 1 then
 bif inR 0 (s.extract k (IntKind.i64.wrap ((↑k : Int) + 1)).toNat).size then
 bif decide (firstIdx (ByteArray.mk #[95, 46, 36]) ((numsOf (s.extract k (IntKind.i64.wrap ((↑k : Int) + 1)).toNat)).getD 0 0).toNat.toUInt8 ≥ 0) then
 some (.normal, stOf 49 [0, 23, 24] [.val (Value.string s), .val (.int .i64 ((↑s.size : Int))), .val (.int .i64 (IntKind.i64.wrap ((↑k : Int) + 1)))] ⟨0, []⟩)
 else
 some (.ret, stOf 49 [2] [.val (.bool false)] ⟨0, []⟩)
 else
 none
 else
 bif decide ((↑(s.extract k (IntKind.i64.wrap ((↑k : Int) + 1)).toNat).size : Int) ≥ 3) then
 some (.ret, stOf 49 [2] [.val (.bool false)] ⟨0, []⟩)
 else
 none
 else
 none
 else
 none
 else
 bif decide (0 ≤ IntKind.i64.wrap ((↑k : Int) + 1)) && decide (IntKind.i64.wrap ((↑k : Int) + 1) ≤ (↑s.size : Int)) then
 bif decide ((↑k : Int) ≤ (↑(IntKind.i64.wrap ((↑k : Int) + 1)).toNat : Int)) then
 bif (↑(s.extract k (IntKind.i64.wrap ((↑k : Int) + 1)).toNat).size : Int) == 0 then
 some (.normal, stOf 49 [0, 23, 24] [.val (Value.string s), .val (.int .i64 ((↑s.size : Int))), .val (.int .i64 (IntKind.i64.wrap ((↑k : Int) + 1)))] ⟨0, []⟩)
 else
 bif (s.extract k (IntKind.i64.wrap ((↑k : Int) + 1)).toNat).toList == (ByteArray.mk #[95, 46, 36]).toList then
 some (.normal, stOf 49 [0, 23, 24] [.val (Value.string s), .val (.int .i64 ((↑s.size : Int))), .val (.int .i64 (IntKind.i64.wrap ((↑k : Int) + 1)))] ⟨0, []⟩)
 else
 bif (↑(s.extract k (IntKind.i64.wrap ((↑k : Int) + 1)).toNat).size : Int) == 1 then
 bif inR 0 (s.extract k (IntKind.i64.wrap ((↑k : Int) + 1)).toNat).size then
 bif decide (firstIdx (ByteArray.mk #[95, 46, 36]) ((numsOf (s.extract k (IntKind.i64.wrap ((↑k : Int) + 1)).toNat)).getD 0 0).toNat.toUInt8 ≥ 0) then
 some (.normal, stOf 49 [0, 23, 24] [.val (Value.string s), .val (.int .i64 ((↑s.size : Int))), .val (.int .i64 (IntKind.i64.wrap ((↑k : Int) + 1)))] ⟨0, []⟩)
 else
 some (.ret, stOf 49 [2] [.val (.bool false)] ⟨0, []⟩)
 else
 none
 else
 bif decide ((↑(s.extract k (IntKind.i64.wrap ((↑k : Int) + 1)).toNat).size : Int) ≥ 3) then
 some (.ret, stOf 49 [2] [.val (.bool false)] ⟨0, []⟩)
 else
 none
 else
 none
 else
 none
 else
 none
 else
 bif decide ((numsOf s).getD k 0 ≥ 97) then
 bif decide ((numsOf s).getD k 0 ≤ 122) then
 some (.normal, stOf 49 [0, 23, 24] [.val (Value.string s), .val (.int .i64 ((↑s.size : Int))), .val (.int .i64 (IntKind.i64.wrap ((↑k : Int) + 1)))] ⟨0, []⟩)
 else
 bif inR (↑k : Int) s.size then
 bif decide ((numsOf s).getD k 0 ≥ 48) then
 bif decide ((numsOf s).getD k 0 ≤ 57) then
 some (.normal, stOf 49 [0, 23, 24] [.val (Value.string s), .val (.int .i64 ((↑s.size : Int))), .val (.int .i64 (IntKind.i64.wrap ((↑k : Int) + 1)))] ⟨0, []⟩)
 else
 bif decide (0 ≤ IntKind.i64.wrap ((↑k : Int) + 1)) && decide (IntKind.i64.wrap ((↑k : Int) + 1) ≤ (↑s.size : Int)) then
 bif decide ((↑k : Int) ≤ (↑(IntKind.i64.wrap ((↑k : Int) + 1)).toNat : Int)) then
 bif (↑(s.extract k (IntKind.i64.wrap ((↑k : Int) + 1)).toNat).size : Int) == 0 then
 some (.normal, stOf 49 [0, 23, 24] [.val (Value.string s), .val (.int .i64 ((↑s.size : Int))), .val (.int .i64 (IntKind.i64.wrap ((↑k : Int) + 1)))] ⟨0, []⟩)
 else
 bif (s.extract k (IntKind.i64.wrap ((↑k : Int) + 1)).toNat).toList == (ByteArray.mk #[95, 46, 36]).toList then
 some (.normal, stOf 49 [0, 23, 24] [.val (Value.string s), .val (.int .i64 ((↑s.size : Int))), .val (.int .i64 (IntKind.i64.wrap ((↑k : Int) + 1)))] ⟨0, []⟩)
 else
 bif (↑(s.extract k (IntKind.i64.wrap ((↑k : Int) + 1)).toNat).size : Int) == 1 then
 bif inR 0 (s.extract k (IntKind.i64.wrap ((↑k : Int) + 1)).toNat).size then
 bif decide (firstIdx (ByteArray.mk #[95, 46, 36]) ((numsOf (s.extract k (IntKind.i64.wrap ((↑k : Int) + 1)).toNat)).getD 0 0).toNat.toUInt8 ≥ 0) then
 some (.normal, stOf 49 [0, 23, 24] [.val (Value.string s), .val (.int .i64 ((↑s.size : Int))), .val (.int .i64 (IntKind.i64.wrap ((↑k : Int) + 1)))] ⟨0, []⟩)
 else
 some (.ret, stOf 49 [2] [.val (.bool false)] ⟨0, []⟩)
 else
 none
 else
 bif decide ((↑(s.extract k (IntKind.i64.wrap ((↑k : Int) + 1)).toNat).size : Int) ≥ 3) then
 some (.ret, stOf 49 [2] [.val (.bool false)] ⟨0, []⟩)
 else
 none
 else
 none
 else
 none
 else
 bif decide (0 ≤ IntKind.i64.wrap ((↑k : Int) + 1)) && decide (IntKind.i64.wrap ((↑k : Int) + 1) ≤ (↑s.size : Int)) then
 bif decide ((↑k : Int) ≤ (↑(IntKind.i64.wrap ((↑k : Int) + 1)).toNat : Int)) then
 bif (↑(s.extract k (IntKind.i64.wrap ((↑k : Int) + 1)).toNat).size : Int) == 0 then
 some (.normal, stOf 49 [0, 23, 24] [.val (Value.string s), .val (.int .i64 ((↑s.size : Int))), .val (.int .i64 (IntKind.i64.wrap ((↑k : Int) + 1)))] ⟨0, []⟩)
 else
 bif (s.extract k (IntKind.i64.wrap ((↑k : Int) + 1)).toNat).toList == (ByteArray.mk #[95, 46, 36]).toList then
 some (.normal, stOf 49 [0, 23, 24] [.val (Value.string s), .val (.int .i64 ((↑s.size : Int))), .val (.int .i64 (IntKind.i64.wrap ((↑k : Int) + 1)))] ⟨0, []⟩)
 else
 bif (↑(s.extract k (IntKind.i64.wrap ((↑k : Int) + 1)).toNat).size : Int) == 1 then
 bif inR 0 (s.extract k (IntKind.i64.wrap ((↑k : Int) + 1)).toNat).size then
 bif decide (firstIdx (ByteArray.mk #[95, 46, 36]) ((numsOf (s.extract k (IntKind.i64.wrap ((↑k : Int) + 1)).toNat)).getD 0 0).toNat.toUInt8 ≥ 0) then
 some (.normal, stOf 49 [0, 23, 24] [.val (Value.string s), .val (.int .i64 ((↑s.size : Int))), .val (.int .i64 (IntKind.i64.wrap ((↑k : Int) + 1)))] ⟨0, []⟩)
 else
 some (.ret, stOf 49 [2] [.val (.bool false)] ⟨0, []⟩)
 else
 none
 else
 bif decide ((↑(s.extract k (IntKind.i64.wrap ((↑k : Int) + 1)).toNat).size : Int) ≥ 3) then
 some (.ret, stOf 49 [2] [.val (.bool false)] ⟨0, []⟩)
 else
 none
 else
 none
 else
 none
 else
 none
 else
 bif inR (↑k : Int) s.size then
 bif decide ((numsOf s).getD k 0 ≥ 48) then
 bif decide ((numsOf s).getD k 0 ≤ 57) then
 some (.normal, stOf 49 [0, 23, 24] [.val (Value.string s), .val (.int .i64 ((↑s.size : Int))), .val (.int .i64 (IntKind.i64.wrap ((↑k : Int) + 1)))] ⟨0, []⟩)
 else
 bif decide (0 ≤ IntKind.i64.wrap ((↑k : Int) + 1)) && decide (IntKind.i64.wrap ((↑k : Int) + 1) ≤ (↑s.size : Int)) then
 bif decide ((↑k : Int) ≤ (↑(IntKind.i64.wrap ((↑k : Int) + 1)).toNat : Int)) then
 bif (↑(s.extract k (IntKind.i64.wrap ((↑k : Int) + 1)).toNat).size : Int) == 0 then
 some (.normal, stOf 49 [0, 23, 24] [.val (Value.string s), .val (.int .i64 ((↑s.size : Int))), .val (.int .i64 (IntKind.i64.wrap ((↑k : Int) + 1)))] ⟨0, []⟩)
 else
 bif (s.extract k (IntKind.i64.wrap ((↑k : Int) + 1)).toNat).toList == (ByteArray.mk #[95, 46, 36]).toList then
 some (.normal, stOf 49 [0, 23, 24] [.val (Value.string s), .val (.int .i64 ((↑s.size : Int))), .val (.int .i64 (IntKind.i64.wrap ((↑k : Int) + 1)))] ⟨0, []⟩)
 else
 bif (↑(s.extract k (IntKind.i64.wrap ((↑k : Int) + 1)).toNat).size : Int) == 1 then
 bif inR 0 (s.extract k (IntKind.i64.wrap ((↑k : Int) + 1)).toNat).size then
 bif decide (firstIdx (ByteArray.mk #[95, 46, 36]) ((numsOf (s.extract k (IntKind.i64.wrap ((↑k : Int) + 1)).toNat)).getD 0 0).toNat.toUInt8 ≥ 0) then
 some (.normal, stOf 49 [0, 23, 24] [.val (Value.string s), .val (.int .i64 ((↑s.size : Int))), .val (.int .i64 (IntKind.i64.wrap ((↑k : Int) + 1)))] ⟨0, []⟩)
 else
 some (.ret, stOf 49 [2] [.val (.bool false)] ⟨0, []⟩)
 else
 none
 else
 bif decide ((↑(s.extract k (IntKind.i64.wrap ((↑k : Int) + 1)).toNat).size : Int) ≥ 3) then
 some (.ret, stOf 49 [2] [.val (.bool false)] ⟨0, []⟩)
 else
 none
 else
 none
 else
 none
 else
 bif decide (0 ≤ IntKind.i64.wrap ((↑k : Int) + 1)) && decide (IntKind.i64.wrap ((↑k : Int) + 1) ≤ (↑s.size : Int)) then
 bif decide ((↑k : Int) ≤ (↑(IntKind.i64.wrap ((↑k : Int) + 1)).toNat : Int)) then
 bif (↑(s.extract k (IntKind.i64.wrap ((↑k : Int) + 1)).toNat).size : Int) == 0 then
 some (.normal, stOf 49 [0, 23, 24] [.val (Value.string s), .val (.int .i64 ((↑s.size : Int))), .val (.int .i64 (IntKind.i64.wrap ((↑k : Int) + 1)))] ⟨0, []⟩)
 else
 bif (s.extract k (IntKind.i64.wrap ((↑k : Int) + 1)).toNat).toList == (ByteArray.mk #[95, 46, 36]).toList then
 some (.normal, stOf 49 [0, 23, 24] [.val (Value.string s), .val (.int .i64 ((↑s.size : Int))), .val (.int .i64 (IntKind.i64.wrap ((↑k : Int) + 1)))] ⟨0, []⟩)
 else
 bif (↑(s.extract k (IntKind.i64.wrap ((↑k : Int) + 1)).toNat).size : Int) == 1 then
 bif inR 0 (s.extract k (IntKind.i64.wrap ((↑k : Int) + 1)).toNat).size then
 bif decide (firstIdx (ByteArray.mk #[95, 46, 36]) ((numsOf (s.extract k (IntKind.i64.wrap ((↑k : Int) + 1)).toNat)).getD 0 0).toNat.toUInt8 ≥ 0) then
 some (.normal, stOf 49 [0, 23, 24] [.val (Value.string s), .val (.int .i64 ((↑s.size : Int))), .val (.int .i64 (IntKind.i64.wrap ((↑k : Int) + 1)))] ⟨0, []⟩)
 else
 some (.ret, stOf 49 [2] [.val (.bool false)] ⟨0, []⟩)
 else
 none
 else
 bif decide ((↑(s.extract k (IntKind.i64.wrap ((↑k : Int) + 1)).toNat).size : Int) ≥ 3) then
 some (.ret, stOf 49 [2] [.val (.bool false)] ⟨0, []⟩)
 else
 none
 else
 none
 else
 none
 else
 none
 else
 none
 else
 some (.exit 0, stOf 49 [] [] ⟨0, []⟩) := by kernel_rfl
theorem Tryz.wNo (s : ByteArray) : rootS Tryz.ENo 6 151 (lsumsOf [(4, LNo)]) [.val (.string s)] =
 bif decide ((↑s.size : Int) < 1) then
 some (.val (.bool false), ⟨0, []⟩)
 else
 bif decide ((↑s.size : Int) > 40) then
 some (.val (.bool false), ⟨0, []⟩)
 else
 bif inR 0 s.size then
 bif decide ((numsOf s).getD 0 0 ≥ 48) then
 bif decide ((numsOf s).getD 0 0 ≤ 57) then
 some (.val (.bool false), ⟨0, []⟩)
 else
 bif inR 0 s.size then
 bif (numsOf s).getD 0 0 == 36 then
 some (.val (.bool false), ⟨0, []⟩)
 else
 bif (↑s.size : Int) == (↑s.size : Int) && s.size.ble 1000000 then
 bif allOk s.size (noOk s) then
 some (.val (.bool true), ⟨0, []⟩)
 else
 some (.val (.bool false), ⟨0, []⟩)
 else
 none
 else
 none
 else
 bif inR 0 s.size then
 bif (numsOf s).getD 0 0 == 36 then
 some (.val (.bool false), ⟨0, []⟩)
 else
 bif (↑s.size : Int) == (↑s.size : Int) && s.size.ble 1000000 then
 bif allOk s.size (noOk s) then
 some (.val (.bool true), ⟨0, []⟩)
 else
 some (.val (.bool false), ⟨0, []⟩)
 else
 none
 else
 none
 else
 none := by kernel_rfl
theorem Tryz.eNo : EnvOk2 Tryz.prog Tryz.ENo := Tryz.envOk false (sumsOf Tryz.tNo) _ (sumsOf_ok (show AllS Tryz.prog Tryz.tNo from ⟨Tryz.sumIb, trivial⟩))
theorem ext1_size (s : ByteArray) (k : Nat) (h : k < s.size) : (s.extract k (k + 1)).size = 1 := by
  rw [ByteArray.size_extract]; omega
theorem toList_len (s : ByteArray) : s.toList.length = s.size := by
  rw [ByteArray.toList_eq]; exact Array.length_toList
theorem ext1_num (s : ByteArray) (k : Nat) (h : k < s.size) : (numsOf (s.extract k (k + 1))).getD 0 0 = chB s k := by
  unfold chB numsOf
  rw [ByteArray.data_extract]
  simp [List.getD_eq_getElem?_getD]
theorem ch_range (s : ByteArray) (k : Nat) : 0 ≤ chB s k ∧ chB s k < 256 := by
  unfold chB numsOf
  rw [List.getD_eq_getElem?_getD, List.getElem?_map]
  cases s.data.toList[k]? with
  | none => simp
  | some b =>
    simp only [Option.map_some, Option.getD_some]
    have := b.toNat_lt
    omega
theorem fi_special : ∀ b : Fin 256, decide (firstIdx (ByteArray.mk #[95, 46, 36]) (UInt8.ofNat b.val) ≥ 0) = (decide (b.val = 95) || decide (b.val = 46) || decide (b.val = 36)) := by decide +kernel
theorem fi_spec {c : Int} (h0 : 0 ≤ c) (h1 : c < 256) : decide (firstIdx (ByteArray.mk #[95, 46, 36]) c.toNat.toUInt8 ≥ 0) = (decide (c = 95) || decide (c = 46) || decide (c = 36)) := by
  have := fi_special ⟨c.toNat, by omega⟩
  simp only at this
  rw [show c.toNat.toUInt8 = UInt8.ofNat c.toNat from rfl, this]
  have e : ∀ n : Nat, decide (c.toNat = n) = decide (c = (n : Int)) := fun n => by
    rw [decide_eq_decide]; omega
  rw [e, e, e]; rfl
theorem Tryz.sNo (s : ByteArray) (k : Nat) (hs : s.size ≤ 1000000) (hk : k ≤ s.size) : Tryz.BNo (stOf 49 [0, 23, 24] (Vno s k) ⟨0, []⟩) =
    bif decide (k < s.size) then (bif noOk s k then some (.normal, stOf 49 [0, 23, 24] (Vno s (k + 1)) ⟨0, []⟩) else some (.ret, stOf 49 [2] [.val (.bool false)] ⟨0, []⟩)) else some (.exit 0, stOf 49 [2] [.unk] ⟨0, []⟩) := by
  rw [Tryz.rNo, declt_nat, inR_nat, wrapS k (by omega)]
  by_cases h : k < s.size
  · have c1 : ((s.extract k (k + 1)).toList == (ByteArray.mk #[95, 46, 36]).toList) = false := by
      rw [beq_eq_false_iff_ne]
      intro q
      have := congrArg List.length q
      rw [toList_len, toList_len, ext1_size s k h] at this
      cases this
    rw [decide_eq_true h]
    simp only [cond_true]
    rw [Int.toNat_natCast, c1, ext1_num s k h, ext1_size s k h, decide_eq_true (show (0 : Int) ≤ ((k + 1 : Nat) : Int) by omega), decide_eq_true (show ((k + 1 : Nat) : Int) ≤ (s.size : Int) by omega), decide_eq_true (show (k : Int) ≤ ((k + 1 : Nat) : Int) by omega),
      show (numsOf s).getD k 0 = chB s k from rfl, fi_spec (ch_range s k).1 (ch_range s k).2, show (((1 : Nat) : Int) == 0) = false from rfl, show (((1 : Nat) : Int) == 1) = true from rfl, show inR 0 1 = true from rfl]
    unfold noOk tailB letB Vno
    generalize chB s k = c
    simp only [Bool.and_self, cond_true, cond_false]
    generalize (some (_, stOf _ [0, 23, 24] _ _) : Option (AX × St)) = A
    generalize (some (_, stOf _ _ _ _) : Option (AX × St)) = B
    simp only [condI, decide_eq_true_eq, beq_iff_eq, bne_iff_ne, Bool.or_eq_true, Bool.and_eq_true]
    repeat' split
    all_goals first | rfl | (exfalso; omega)
  · rw [decide_eq_false h]; rfl
theorem Tryz.lNo : ∀ s e s', s.h.ok → (LNo s).run = some (e, s') → Triple Tryz.prog (.loop Tryz.bNo) s e s' := by
  refine scan_law Tryz.eNo (d := 6) (g := 151) (ls := lsumsOf []) (c := Tryz.bNo) trivial 49 [0, 23, 24] [2] (T := ByteArray) Vno (fun _ => ⟨0, []⟩) (fun s => s.size) noOk (fun s => s.size ≤ 1000000)
    (fun _ => (.exit 0, [.unk], ⟨0, []⟩)) (fun _ => (.ret, [.val (.bool false)], ⟨0, []⟩)) fNo ?_ (fun _ _ => heap0_ok) (fun _ _ => ⟨by simp, by simp⟩) (fun _ _ => ⟨heap0_ok, heap0_ok⟩) (fun s k hs hk _ => Tryz.sNo s k hs hk)
  intro vs h e vo h' hok hf
  unfold fNo at hf
  split at hf
  · rename_i s n
    rw [Ans.run_grd] at hf
    cases hb : (n == (s.size : Int) && Nat.ble s.size 1000000) with
    | false => rw [hb] at hf; cases hf
    | true =>
      rw [hb, cond_true, Ans.run_br] at hf
      simp only [Bool.and_eq_true, beq_iff_eq, Nat.ble_eq] at hb
      obtain ⟨rfl, b2⟩ := hb
      refine ⟨s, b2, Weak.refl heap0_ok, ?_⟩
      cases hq : allOk s.size (noOk s) with
      | true => rw [hq] at hf; injection hf
      | false => rw [hq] at hf; injection hf
  · cases hf
theorem name_split (s : ByteArray) (h1 : 1 ≤ s.size) (hd : ¬ (chB s 0 ≥ 48 ∧ chB s 0 ≤ 57)) (h36 : chB s 0 ≠ 36) : allOk s.size (nmOk s) = allOk s.size (noOk s) := by
  refine allOk_congr (fun i hi => ?_)
  unfold nmOk noOk tailB
  cases i with
  | zero =>
    have e1 : decide (chB s 0 = 36) = false := decide_eq_false h36
    have e2 : (decide (48 ≤ chB s 0) && decide (chB s 0 ≤ 57)) = false := by
      rw [← Bool.not_eq_true, Bool.and_eq_true, decide_eq_true_eq, decide_eq_true_eq]; exact hd
    rw [e1, e2]; simp
  | succ i =>
    rw [decide_eq_true (show i + 1 ≠ 0 by omega)]
    cases letB (chB s (i + 1)) <;> simp
theorem name_bad (s : ByteArray) (h1 : 1 ≤ s.size) (h : (chB s 0 ≥ 48 ∧ chB s 0 ≤ 57) ∨ chB s 0 = 36) : allOk s.size (nmOk s) = false := by
  rw [← Bool.not_eq_true, allOk_iff]
  intro q
  have := q 0 (by omega)
  unfold nmOk letB at this
  simp at this
  omega
theorem Tryz.sumNo : SumC Tryz.prog 151 (pureA nameS) := by
  refine pureSumR 151 ⟨Tryz.f151, _, Tryz.fnOk151.1, Tryz.fnOk151.2, rfl⟩ ?_
  intro args v h2 hs
  unfold nameS at hs
  split at hs
  · rename_i s
    injection hs with hs
    injection hs with q1 q2
    subst q1; subst q2
    refine rootS_alone Tryz.eNo (d := 6) (g := 151) (ls := lsumsOf [(4, LNo)]) (AllL.of1 (a := Tryz.bNo) (by kernel_rfl) (LsOk.of rfl rfl Tryz.lNo)) ((Tryz.wNo s).trans ?_)
    unfold nameB
    by_cases h1 : 1 ≤ s.size
    rotate_left
    · rw [decide_eq_true (show (s.size : Int) < 1 by omega), decide_eq_false h1]; rfl
    rw [decide_eq_false (show ¬ (s.size : Int) < 1 by omega), decide_eq_true h1, cond_false]
    by_cases h2 : s.size ≤ 40
    rotate_left
    · rw [decide_eq_true (show (s.size : Int) > 40 by omega), decide_eq_false h2]; rfl
    rw [decide_eq_false (show ¬ (s.size : Int) > 40 by omega), decide_eq_true h2, cond_false, inR_prop.2 ⟨by omega, by omega⟩, show (numsOf s).getD 0 0 = chB s 0 from rfl, beq_self_eq_true, ble_t (by omega)]
    simp only [cond_true, Bool.and_self, Bool.true_and]
    by_cases h3 : chB s 0 = 36
    · rw [name_bad s h1 (.inr h3), h3]; rfl
    rw [show (chB s 0 == 36) = false from beq_eq_false_iff_ne.2 h3]
    simp only [cond_false]
    by_cases h4 : chB s 0 ≥ 48
    · by_cases h5 : chB s 0 ≤ 57
      · rw [name_bad s h1 (.inl ⟨h4, h5⟩), decide_eq_true h4, decide_eq_true h5]; rfl
      · rw [name_split s h1 (fun q => h5 q.2) h3, decide_eq_true h4, decide_eq_false h5]
        cases allOk s.size (noOk s) <;> rfl
    · rw [name_split s h1 (fun q => h4 q.1) h3, decide_eq_false h4]
      cases allOk s.size (noOk s) <;> rfl
  · cases hs
end Go.Ev
/- A heap is well-formed, by its numbers. -/
namespace Go.Ev
theorem ids_lt : ∀ {es : List Ent} {n : Nat}, (∀ x ∈ es.map (·.id), x < n) → ∀ {id : Nat} {e : Ent}, findE es id = some e → id < n
  | [], n, _, id, e, h => by cases h
  | x :: es, n, hx, id, e, h => by
    rw [findE_cons] at h
    split at h
    · rename_i q
      have := hx x.id (by simp)
      rw [← q]; exact this
    · exact ids_lt (fun y hy => hx y (by rw [List.map_cons]; exact List.mem_cons_of_mem _ hy)) h
theorem heap_ok {n : Nat} {es : List Ent} (ids : List Nat) (hi : es.map (·.id) = ids) (h1 : ids.Nodup) (h2 : ∀ x ∈ ids, x < n) : (⟨n, es⟩ : Heap).ok :=
  ⟨by show (es.map (·.id)).Nodup; rw [hi]; exact h1, fun id e h => ids_lt (by rw [hi]; exact h2) h⟩
end Go.Ev
