/- The evaluator, its soundness and the walks: part 10. -/
import Derived.Test.YtdogimleeplpkaaGreatC9
set_option linter.unusedSectionVars false
set_option linter.unusedSimpArgs false
set_option linter.unusedVariables false
set_option maxRecDepth 100000
set_option maxRecDepth 1000000
noncomputable section
/- No two have the same key. -/
namespace Go.Ev
open Go.Proofs
def Tryz.EDs : Env := Tryz.env0 false (sumsOf []) (keepF 152 [(3, [1, 5, 9, 10, 11])])
def Tryz.bDs : Code := nthD .skip (loopsOf (bodyOf Tryz.EDs 152)) 0
def Tryz.BDs (s : St) : Option (AX × St) := codeS Tryz.EDs (callF Tryz.EDs 6) (Tryz.EDs.keep 152) (lsumsOf []) Tryz.bDs (outK [1, 5, 9, 10, 11] [4]) s
def Tryz.cloDs : AV := .clo (.func 153) [] []
def Tryz.VDs (L : List SecD) (k : Nat) : List AV := [Tryz.cloDs, .mp 0, .ro (SE.con L) none, .val (.int .i64 (L.length : Nat)), .val (.int .i64 k)]
def nmDs (L : List SecD) (k : Nat) : ByteArray := (L.getD k SE.z).1
def Tryz.LDs (L : List SecD) : LSum := atL (stOf 25 [1, 5, 9, 10, 11] (Tryz.VDs L 0) (mapH (.ents [] 0))) (.br (allNew (nmDs L) L.length) (.out (.exit 0, stOf 25 [] [] ⟨0, []⟩)) (.out (.ret, stOf 25 [4] [.val (.bool false)] ⟨0, []⟩)))
theorem Tryz.rDs (L : List SecD) (k : Nat) : Tryz.BDs (stOf 25 [1, 5, 9, 10, 11] (Tryz.VDs L k) (mapH (.mtab k (fD (nmDs L)) k))) =
 bif decide ((↑k : Int) < (↑L.length : Int)) then
 bif inR (↑k : Int) L.length then
 bif okKeys Tryz.ti9.desc (Value.string (L.getD k SE.z).fst) k (fD (nmDs L)) then
 bif hasKey Tryz.ti9.desc (Value.string (L.getD k SE.z).fst) k (fD (nmDs L)) then
 some (.ret, stOf 25 [4] [.val (.bool false)] ⟨0, []⟩)
 else
 bif okKeys Tryz.ti9.desc (Value.string (L.getD k SE.z).fst) k (fD (nmDs L)) then
 bif hasKey Tryz.ti9.desc (Value.string (L.getD k SE.z).fst) k (fD (nmDs L)) then
 some (.normal, stOf 25 [1, 5, 9, 10, 11] [.clo (Fn.func 153) [] [], .mp 0, .ro (.tab 5 (L.length) (fun i => SE.row (L.getD i SE.z))) none, .val (.int .i64 ((↑L.length : Int))), .val (.int .i64 (IntKind.i64.wrap ((↑k : Int) + 1)))] ⟨1, [⟨0, 0, .map true (.mtab (k) (fun j => bif j.beq (idxKey Tryz.ti9.desc (Value.string (L.getD k SE.z).fst) k (fD (nmDs L))) then ME.mk (Value.string (L.getD k SE.z).fst) (AV.val (Value.bool true)) ((MC.mtab k (fD (nmDs L)) k).ent (idxKey Tryz.ti9.desc (Value.string (L.getD k SE.z).fst) k (fD (nmDs L)))).born else fD (nmDs L) j) (k))⟩]⟩ )
 else
 some (.normal, stOf 25 [1, 5, 9, 10, 11] [.clo (Fn.func 153) [] [], .mp 0, .ro (.tab 5 (L.length) (fun i => SE.row (L.getD i SE.z))) none, .val (.int .i64 ((↑L.length : Int))), .val (.int .i64 (IntKind.i64.wrap ((↑k : Int) + 1)))] ⟨1, [⟨0, 0, .map true (.mtab (k + 1) (fun j => bif j.beq k then ME.mk (Value.string (L.getD k SE.z).fst) (AV.val (Value.bool true)) k else fD (nmDs L) j) (k + 1))⟩]⟩ )
 else
 none
 else
 none
 else
 none
 else
 some (.exit 0, stOf 25 [] [] ⟨0, []⟩) := by kernel_rfl
theorem Tryz.wDs (L : List SecD) : rootS Tryz.EDs 6 152 (lsumsOf [(3, Tryz.LDs L)]) [.ro (SE.con L) none, Tryz.cloDs] =
 bif isSt (stOf 25 [1, 5, 9, 10, 11] (Tryz.VDs L 0) (mapH (MC.ents [] 0))) (stOf 25 [1, 5, 9, 10, 11] (Tryz.VDs L 0) (mapH (MC.ents [] 0))) then
 bif allNew (nmDs L) L.length then
 some (.val (.bool true), ⟨0, []⟩)
 else
 some (.val (.bool false), ⟨0, []⟩)
 else
 none := by kernel_rfl
theorem Tryz.eDs : EnvOk2 Tryz.prog Tryz.EDs := Tryz.envOk false (sumsOf []) _ (fun g A h => by cases h)
theorem Tryz.sDs (L : List SecD) (k : Nat) (hL : L.length ≤ 1000000) (hk : k ≤ L.length) : Tryz.BDs (stOf 25 [1, 5, 9, 10, 11] (Tryz.VDs L k) (mapH (.mtab k (fD (nmDs L)) k))) =
    bif decide (k < L.length) then (bif allOk k (newD (nmDs L) k) then some (.normal, stOf 25 [1, 5, 9, 10, 11] (Tryz.VDs L (k + 1)) (mapH (.mtab (k + 1) (fD (nmDs L)) (k + 1)))) else some (.ret, stOf 25 [4] [.val (.bool false)] ⟨0, []⟩)) else some (.exit 0, stOf 25 [] [] ⟨0, []⟩) := by
  have key := Tryz.rDs L k
  have e1 : okKeys Tryz.ti9.desc (Value.string ((L.getD k SE.z).1)) k (fD (nmDs L)) = true := okKeys_fD (nmDs L) _ _
  have e2 : hasKey Tryz.ti9.desc (Value.string ((L.getD k SE.z).1)) k (fD (nmDs L)) = !(allOk k (newD (nmDs L) k)) := hasKey_fD (nmDs L) k k
  have e3 : (fun j => bif Nat.beq j k then ME.mk (Value.string ((L.getD k SE.z).1)) (.val (.bool true)) k else fD (nmDs L) j) = fD (nmDs L) := push_fD (nmDs L) k
  rw [declt_nat, inR_nat, wrapS k (by omega), e1, e2, e3] at key
  refine key.trans ?_
  by_cases h : k < L.length
  · rw [decide_eq_true h]
    simp only [cond_true]
    cases allOk k (newD (nmDs L) k) <;> rfl
  · rw [decide_eq_false h]; rfl
theorem Tryz.lDs (L : List SecD) (hL : L.length ≤ 1000000) : ∀ s e s', s.h.ok → (Tryz.LDs L s).run = some (e, s') → Triple Tryz.prog (.loop Tryz.bDs) s e s' :=
  diff_law Tryz.eDs (d := 6) (g := 152) (c := Tryz.bDs) rfl 25 [1, 5, 9, 10, 11] [4] (Tryz.VDs L) (nmDs L) L.length 0 (fun k hk => Tryz.sDs L k hL hk)
def dfDs (args : List AV) : Ans (AV × Heap) := match args with
  | [.ro c cap, .clo (.func 153) [] []] => .grd (SE.ok c && Nat.ble c.len 1000000) (.out (.val (.bool (allNew (nmDs (SE.list c)) (SE.list c).length)), ⟨0, []⟩))
  | _ => .no
theorem Tryz.sumDs : SumC Tryz.prog 152 (pureA (fun args => dfDs (nzs [SE.con []] args))) := by
  refine pureSumR 152 ⟨Tryz.f152, _, Tryz.fnOk152.1, Tryz.fnOk152.2, rfl⟩ ?_
  intro args v h2 hs
  refine Alone.nz (cs := [SE.con []]) (by simp [Con.len, RowTy.con]) ?_
  replace hs : (dfDs (nzs [SE.con []] args)).run = some (v, h2) := hs
  generalize nzs [SE.con []] args = args' at hs ⊢
  unfold dfDs at hs
  split at hs
  · rename_i c cap
    rw [Ans.run_grd] at hs
    cases hb : (SE.ok c && Nat.ble c.len 1000000) with
    | false => rw [hb] at hs; cases hs
    | true =>
    rw [hb, cond_true] at hs
    simp only [Bool.and_eq_true, Nat.ble_eq] at hb
    injection hs with hs
    injection hs with q1 q2
    subst q1; subst q2
    refine Alone.argsW (AWs.args (.cons (SE.aw hb.1 cap) (AWs.refl _))) ?_
    have hi : (SE.list c).length ≤ 1000000 := by rw [SE.list_len]; exact hb.2
    generalize SE.list c = L at hi ⊢
    refine rootS_alone Tryz.eDs (d := 6) (g := 152) (ls := lsumsOf [(3, Tryz.LDs L)]) (AllL.of1 (a := Tryz.bDs) (by kernel_rfl) (LsOk.of rfl rfl (Tryz.lDs L hi))) ((Tryz.wDs L).trans ?_)
    rw [isSt_refl, cond_true]
    cases allNew (nmDs L) L.length <;> rfl
  · cases hs
def Tryz.EDy : Env := Tryz.env0 false (sumsOf []) (keepF 154 [(3, [1, 5, 9, 10, 11])])
def Tryz.bDy : Code := nthD .skip (loopsOf (bodyOf Tryz.EDy 154)) 0
def Tryz.BDy (s : St) : Option (AX × St) := codeS Tryz.EDy (callF Tryz.EDy 6) (Tryz.EDy.keep 154) (lsumsOf []) Tryz.bDy (outK [1, 5, 9, 10, 11] [4]) s
def Tryz.cloDy : AV := .clo (.func 155) [] []
def Tryz.VDy (L : List SymD) (k : Nat) : List AV := [Tryz.cloDy, .mp 0, .ro (SY.con L) none, .val (.int .i64 (L.length : Nat)), .val (.int .i64 k)]
def nmDy (L : List SymD) (k : Nat) : ByteArray := (L.getD k SY.z).1
def Tryz.LDy (L : List SymD) : LSum := atL (stOf 25 [1, 5, 9, 10, 11] (Tryz.VDy L 0) (mapH (.ents [] 0))) (.br (allNew (nmDy L) L.length) (.out (.exit 0, stOf 25 [] [] ⟨0, []⟩)) (.out (.ret, stOf 25 [4] [.val (.bool false)] ⟨0, []⟩)))
theorem Tryz.rDy (L : List SymD) (k : Nat) : Tryz.BDy (stOf 25 [1, 5, 9, 10, 11] (Tryz.VDy L k) (mapH (.mtab k (fD (nmDy L)) k))) =
 bif decide ((↑k : Int) < (↑L.length : Int)) then
 bif inR (↑k : Int) L.length then
 bif okKeys Tryz.ti9.desc (Value.string (L.getD k SY.z).fst) k (fD (nmDy L)) then
 bif hasKey Tryz.ti9.desc (Value.string (L.getD k SY.z).fst) k (fD (nmDy L)) then
 some (.ret, stOf 25 [4] [.val (.bool false)] ⟨0, []⟩)
 else
 bif okKeys Tryz.ti9.desc (Value.string (L.getD k SY.z).fst) k (fD (nmDy L)) then
 bif hasKey Tryz.ti9.desc (Value.string (L.getD k SY.z).fst) k (fD (nmDy L)) then
 some (.normal, stOf 25 [1, 5, 9, 10, 11] [.clo (Fn.func 155) [] [], .mp 0, .ro (.tab 6 (L.length) (fun i => SY.row (L.getD i SY.z))) none, .val (.int .i64 ((↑L.length : Int))), .val (.int .i64 (IntKind.i64.wrap ((↑k : Int) + 1)))] ⟨1, [⟨0, 0, .map true (.mtab (k) (fun j => bif j.beq (idxKey Tryz.ti9.desc (Value.string (L.getD k SY.z).fst) k (fD (nmDy L))) then ME.mk (Value.string (L.getD k SY.z).fst) (AV.val (Value.bool true)) ((MC.mtab k (fD (nmDy L)) k).ent (idxKey Tryz.ti9.desc (Value.string (L.getD k SY.z).fst) k (fD (nmDy L)))).born else fD (nmDy L) j) (k))⟩]⟩ )
 else
 some (.normal, stOf 25 [1, 5, 9, 10, 11] [.clo (Fn.func 155) [] [], .mp 0, .ro (.tab 6 (L.length) (fun i => SY.row (L.getD i SY.z))) none, .val (.int .i64 ((↑L.length : Int))), .val (.int .i64 (IntKind.i64.wrap ((↑k : Int) + 1)))] ⟨1, [⟨0, 0, .map true (.mtab (k + 1) (fun j => bif j.beq k then ME.mk (Value.string (L.getD k SY.z).fst) (AV.val (Value.bool true)) k else fD (nmDy L) j) (k + 1))⟩]⟩ )
 else
 none
 else
 none
 else
 none
 else
 some (.exit 0, stOf 25 [] [] ⟨0, []⟩) := by kernel_rfl
theorem Tryz.wDy (L : List SymD) : rootS Tryz.EDy 6 154 (lsumsOf [(3, Tryz.LDy L)]) [.ro (SY.con L) none, Tryz.cloDy] =
 bif isSt (stOf 25 [1, 5, 9, 10, 11] (Tryz.VDy L 0) (mapH (MC.ents [] 0))) (stOf 25 [1, 5, 9, 10, 11] (Tryz.VDy L 0) (mapH (MC.ents [] 0))) then
 bif allNew (nmDy L) L.length then
 some (.val (.bool true), ⟨0, []⟩)
 else
 some (.val (.bool false), ⟨0, []⟩)
 else
 none := by kernel_rfl
theorem Tryz.eDy : EnvOk2 Tryz.prog Tryz.EDy := Tryz.envOk false (sumsOf []) _ (fun g A h => by cases h)
theorem Tryz.sDy (L : List SymD) (k : Nat) (hL : L.length ≤ 1000000) (hk : k ≤ L.length) : Tryz.BDy (stOf 25 [1, 5, 9, 10, 11] (Tryz.VDy L k) (mapH (.mtab k (fD (nmDy L)) k))) =
    bif decide (k < L.length) then (bif allOk k (newD (nmDy L) k) then some (.normal, stOf 25 [1, 5, 9, 10, 11] (Tryz.VDy L (k + 1)) (mapH (.mtab (k + 1) (fD (nmDy L)) (k + 1)))) else some (.ret, stOf 25 [4] [.val (.bool false)] ⟨0, []⟩)) else some (.exit 0, stOf 25 [] [] ⟨0, []⟩) := by
  have key := Tryz.rDy L k
  have e1 : okKeys Tryz.ti9.desc (Value.string ((L.getD k SY.z).1)) k (fD (nmDy L)) = true := okKeys_fD (nmDy L) _ _
  have e2 : hasKey Tryz.ti9.desc (Value.string ((L.getD k SY.z).1)) k (fD (nmDy L)) = !(allOk k (newD (nmDy L) k)) := hasKey_fD (nmDy L) k k
  have e3 : (fun j => bif Nat.beq j k then ME.mk (Value.string ((L.getD k SY.z).1)) (.val (.bool true)) k else fD (nmDy L) j) = fD (nmDy L) := push_fD (nmDy L) k
  rw [declt_nat, inR_nat, wrapS k (by omega), e1, e2, e3] at key
  refine key.trans ?_
  by_cases h : k < L.length
  · rw [decide_eq_true h]
    simp only [cond_true]
    cases allOk k (newD (nmDy L) k) <;> rfl
  · rw [decide_eq_false h]; rfl
theorem Tryz.lDy (L : List SymD) (hL : L.length ≤ 1000000) : ∀ s e s', s.h.ok → (Tryz.LDy L s).run = some (e, s') → Triple Tryz.prog (.loop Tryz.bDy) s e s' :=
  diff_law Tryz.eDy (d := 6) (g := 154) (c := Tryz.bDy) rfl 25 [1, 5, 9, 10, 11] [4] (Tryz.VDy L) (nmDy L) L.length 0 (fun k hk => Tryz.sDy L k hL hk)
def dfDy (args : List AV) : Ans (AV × Heap) := match args with
  | [.ro c cap, .clo (.func 155) [] []] => .grd (SY.ok c && Nat.ble c.len 1000000) (.out (.val (.bool (allNew (nmDy (SY.list c)) (SY.list c).length)), ⟨0, []⟩))
  | _ => .no
theorem Tryz.sumDy : SumC Tryz.prog 154 (pureA (fun args => dfDy (nzs [SY.con []] args))) := by
  refine pureSumR 154 ⟨Tryz.f154, _, Tryz.fnOk154.1, Tryz.fnOk154.2, rfl⟩ ?_
  intro args v h2 hs
  refine Alone.nz (cs := [SY.con []]) (by simp [Con.len, RowTy.con]) ?_
  replace hs : (dfDy (nzs [SY.con []] args)).run = some (v, h2) := hs
  generalize nzs [SY.con []] args = args' at hs ⊢
  unfold dfDy at hs
  split at hs
  · rename_i c cap
    rw [Ans.run_grd] at hs
    cases hb : (SY.ok c && Nat.ble c.len 1000000) with
    | false => rw [hb] at hs; cases hs
    | true =>
    rw [hb, cond_true] at hs
    simp only [Bool.and_eq_true, Nat.ble_eq] at hb
    injection hs with hs
    injection hs with q1 q2
    subst q1; subst q2
    refine Alone.argsW (AWs.args (.cons (SY.aw hb.1 cap) (AWs.refl _))) ?_
    have hi : (SY.list c).length ≤ 1000000 := by rw [SY.list_len]; exact hb.2
    generalize SY.list c = L at hi ⊢
    refine rootS_alone Tryz.eDy (d := 6) (g := 154) (ls := lsumsOf [(3, Tryz.LDy L)]) (AllL.of1 (a := Tryz.bDy) (by kernel_rfl) (LsOk.of rfl rfl (Tryz.lDy L hi))) ((Tryz.wDy L).trans ?_)
    rw [isSt_refl, cond_true]
    cases allNew (nmDy L) L.length <;> rfl
  · cases hs
def Tryz.EDf : Env := Tryz.env0 false (sumsOf []) (keepF 161 [(3, [1, 5, 9, 10, 11])])
def Tryz.bDf : Code := nthD .skip (loopsOf (bodyOf Tryz.EDf 161)) 0
def Tryz.BDf (s : St) : Option (AX × St) := codeS Tryz.EDf (callF Tryz.EDf 6) (Tryz.EDf.keep 161) (lsumsOf []) Tryz.bDf (outK [1, 5, 9, 10, 11] [4]) s
def Tryz.cloDf : AV := .clo (.func 162) [] []
def Tryz.VDf (L : List ByteArray) (k : Nat) : List AV := [Tryz.cloDf, .mp 0, .ro (FI.con L) none, .val (.int .i64 (L.length : Nat)), .val (.int .i64 k)]
def nmDf (L : List ByteArray) (k : Nat) : ByteArray := L.getD k FI.z
def Tryz.LDf (L : List ByteArray) : LSum := atL (stOf 25 [1, 5, 9, 10, 11] (Tryz.VDf L 0) (mapH (.ents [] 0))) (.br (allNew (nmDf L) L.length) (.out (.exit 0, stOf 25 [] [] ⟨0, []⟩)) (.out (.ret, stOf 25 [4] [.val (.bool false)] ⟨0, []⟩)))
theorem Tryz.rDf (L : List ByteArray) (k : Nat) : Tryz.BDf (stOf 25 [1, 5, 9, 10, 11] (Tryz.VDf L k) (mapH (.mtab k (fD (nmDf L)) k))) =
 bif decide ((↑k : Int) < (↑L.length : Int)) then
 bif inR (↑k : Int) L.length then
 bif okKeys Tryz.ti9.desc (Value.string (L.getD k FI.z)) k (fD (nmDf L)) then
 bif hasKey Tryz.ti9.desc (Value.string (L.getD k FI.z)) k (fD (nmDf L)) then
 some (.ret, stOf 25 [4] [.val (.bool false)] ⟨0, []⟩)
 else
 bif okKeys Tryz.ti9.desc (Value.string (L.getD k FI.z)) k (fD (nmDf L)) then
 bif hasKey Tryz.ti9.desc (Value.string (L.getD k FI.z)) k (fD (nmDf L)) then
 some (.normal, stOf 25 [1, 5, 9, 10, 11] [.clo (Fn.func 162) [] [], .mp 0, .ro (.tab 1 (L.length) (fun i => FI.row (L.getD i FI.z))) none, .val (.int .i64 ((↑L.length : Int))), .val (.int .i64 (IntKind.i64.wrap ((↑k : Int) + 1)))] ⟨1, [⟨0, 0, .map true (.mtab (k) (fun j => bif j.beq (idxKey Tryz.ti9.desc (Value.string (L.getD k FI.z)) k (fD (nmDf L))) then ME.mk (Value.string (L.getD k FI.z)) (AV.val (Value.bool true)) ((MC.mtab k (fD (nmDf L)) k).ent (idxKey Tryz.ti9.desc (Value.string (L.getD k FI.z)) k (fD (nmDf L)))).born else fD (nmDf L) j) (k))⟩]⟩ )
 else
 some (.normal, stOf 25 [1, 5, 9, 10, 11] [.clo (Fn.func 162) [] [], .mp 0, .ro (.tab 1 (L.length) (fun i => FI.row (L.getD i FI.z))) none, .val (.int .i64 ((↑L.length : Int))), .val (.int .i64 (IntKind.i64.wrap ((↑k : Int) + 1)))] ⟨1, [⟨0, 0, .map true (.mtab (k + 1) (fun j => bif j.beq k then ME.mk (Value.string (L.getD k FI.z)) (AV.val (Value.bool true)) k else fD (nmDf L) j) (k + 1))⟩]⟩ )
 else
 none
 else
 none
 else
 none
 else
 some (.exit 0, stOf 25 [] [] ⟨0, []⟩) := by kernel_rfl
theorem Tryz.wDf (L : List ByteArray) : rootS Tryz.EDf 6 161 (lsumsOf [(3, Tryz.LDf L)]) [.ro (FI.con L) none, Tryz.cloDf] =
 bif isSt (stOf 25 [1, 5, 9, 10, 11] (Tryz.VDf L 0) (mapH (MC.ents [] 0))) (stOf 25 [1, 5, 9, 10, 11] (Tryz.VDf L 0) (mapH (MC.ents [] 0))) then
 bif allNew (nmDf L) L.length then
 some (.val (.bool true), ⟨0, []⟩)
 else
 some (.val (.bool false), ⟨0, []⟩)
 else
 none := by kernel_rfl
theorem Tryz.eDf : EnvOk2 Tryz.prog Tryz.EDf := Tryz.envOk false (sumsOf []) _ (fun g A h => by cases h)
theorem Tryz.sDf (L : List ByteArray) (k : Nat) (hL : L.length ≤ 1000000) (hk : k ≤ L.length) : Tryz.BDf (stOf 25 [1, 5, 9, 10, 11] (Tryz.VDf L k) (mapH (.mtab k (fD (nmDf L)) k))) =
    bif decide (k < L.length) then (bif allOk k (newD (nmDf L) k) then some (.normal, stOf 25 [1, 5, 9, 10, 11] (Tryz.VDf L (k + 1)) (mapH (.mtab (k + 1) (fD (nmDf L)) (k + 1)))) else some (.ret, stOf 25 [4] [.val (.bool false)] ⟨0, []⟩)) else some (.exit 0, stOf 25 [] [] ⟨0, []⟩) := by
  have key := Tryz.rDf L k
  have e1 : okKeys Tryz.ti9.desc (Value.string (L.getD k FI.z)) k (fD (nmDf L)) = true := okKeys_fD (nmDf L) _ _
  have e2 : hasKey Tryz.ti9.desc (Value.string (L.getD k FI.z)) k (fD (nmDf L)) = !(allOk k (newD (nmDf L) k)) := hasKey_fD (nmDf L) k k
  have e3 : (fun j => bif Nat.beq j k then ME.mk (Value.string (L.getD k FI.z)) (.val (.bool true)) k else fD (nmDf L) j) = fD (nmDf L) := push_fD (nmDf L) k
  rw [declt_nat, inR_nat, wrapS k (by omega), e1, e2, e3] at key
  refine key.trans ?_
  by_cases h : k < L.length
  · rw [decide_eq_true h]
    simp only [cond_true]
    cases allOk k (newD (nmDf L) k) <;> rfl
  · rw [decide_eq_false h]; rfl
theorem Tryz.lDf (L : List ByteArray) (hL : L.length ≤ 1000000) : ∀ s e s', s.h.ok → (Tryz.LDf L s).run = some (e, s') → Triple Tryz.prog (.loop Tryz.bDf) s e s' :=
  diff_law Tryz.eDf (d := 6) (g := 161) (c := Tryz.bDf) rfl 25 [1, 5, 9, 10, 11] [4] (Tryz.VDf L) (nmDf L) L.length 0 (fun k hk => Tryz.sDf L k hL hk)
def dfDf (args : List AV) : Ans (AV × Heap) := match args with
  | [.ro c cap, .clo (.func 162) [] []] => .grd (FI.ok c && Nat.ble c.len 1000000) (.out (.val (.bool (allNew (nmDf (FI.list c)) (FI.list c).length)), ⟨0, []⟩))
  | _ => .no
theorem Tryz.sumDf : SumC Tryz.prog 161 (pureA (fun args => dfDf (nzs [FI.con []] args))) := by
  refine pureSumR 161 ⟨Tryz.f161, _, Tryz.fnOk161.1, Tryz.fnOk161.2, rfl⟩ ?_
  intro args v h2 hs
  refine Alone.nz (cs := [FI.con []]) (by simp [Con.len, RowTy.con]) ?_
  replace hs : (dfDf (nzs [FI.con []] args)).run = some (v, h2) := hs
  generalize nzs [FI.con []] args = args' at hs ⊢
  unfold dfDf at hs
  split at hs
  · rename_i c cap
    rw [Ans.run_grd] at hs
    cases hb : (FI.ok c && Nat.ble c.len 1000000) with
    | false => rw [hb] at hs; cases hs
    | true =>
    rw [hb, cond_true] at hs
    simp only [Bool.and_eq_true, Nat.ble_eq] at hb
    injection hs with hs
    injection hs with q1 q2
    subst q1; subst q2
    refine Alone.argsW (AWs.args (.cons (FI.aw hb.1 cap) (AWs.refl _))) ?_
    have hi : (FI.list c).length ≤ 1000000 := by rw [FI.list_len]; exact hb.2
    generalize FI.list c = L at hi ⊢
    refine rootS_alone Tryz.eDf (d := 6) (g := 161) (ls := lsumsOf [(3, Tryz.LDf L)]) (AllL.of1 (a := Tryz.bDf) (by kernel_rfl) (LsOk.of rfl rfl (Tryz.lDf L hi))) ((Tryz.wDf L).trans ?_)
    rw [isSt_refl, cond_true]
    cases allNew (nmDf L) L.length <;> rfl
  · cases hs
end Go.Ev
/- Sections, as the program checks them. -/
namespace Go.Ev
open Go.Proofs
def Tryz.tPs : List (Nat × AFun) := [(151, pureA nameS), (152, pureA (fun args => dfDs (nzs [SE.con []] args)))]
def Tryz.EPs : Env := Tryz.env0 false (sumsOf Tryz.tPs) (keepF 109 [(3, [1, 3, 8, 9, 10])])
def Tryz.bPs : Code := nthD .skip (loopsOf (bodyOf Tryz.EPs 109)) 0
def Tryz.BPs (s : St) : Option (AX × St) := codeS Tryz.EPs (callF Tryz.EPs 6) (Tryz.EPs.keep 109) (lsumsOf []) Tryz.bPs (outK [1, 3, 8, 9, 10] [1, 2, 3]) s
def Vps (o : OD) (k : Nat) : List AV := [.ptr 0 0 0, .val (.int .i64 (sumS o.se k)), .ro (SE.con o.se) none, .val (.int .i64 (o.se.length : Nat)), .val (.int .i64 k)]
def xPs (o : OD) : AX × List AV × Heap := (.exit 0, [.ptr 0 0 0, .unk, .val (.int .i64 (sumS o.se o.se.length))], hO o)
def yPs (o : OD) : AX × List AV × Heap := (.ret, [.unk, .val (.bool false), .unk], ⟨0, []⟩)
def zPs (o : OD) (k : Nat) : St := stOf 65 [1, 2, 3] [.ptr 0 0 0, .val (.bool false), .val (.int .i64 (sumS o.se k))] (hO o)
def secK (L : List SecD) (k : Nat) : Bool := secB (L.getD k SE.z)
def fPs (vs : List AV) (h : Heap) : Ans (AX × List AV × Heap) := match vs, h with
  | [.ptr 0 0 0, .val (.int .i64 (.ofNat 0)), .ro c cap, .val (.int .i64 n), .val (.int .i64 (.ofNat 0))], ⟨1, [⟨0, 0, .cells (.rows true 5 [r])⟩]⟩ =>
    .grd ((odIs (.agg r) && SE.ok c) && (propB (SE.list c = (odP (.agg r)).se ∧ seInv (odP (.agg r)).se) && (n == (((odP (.agg r)).se.length : Nat) : Int)))) (.br (allOk (odP (.agg r)).se.length (secK (odP (.agg r)).se)) (.out (xPs (odP (.agg r)))) (.out (yPs (odP (.agg r)))))
  | _, _ => .no
def LPs : LSum := toLSum 65 [1, 3, 8, 9, 10] [1, 2, 3] fPs
theorem Tryz.rPs (o : OD) (k : Nat) : Tryz.BPs (stOf 65 [1, 3, 8, 9, 10] (Vps o k) (hO o)) =
 bif decide ((↑k : Int) < (↑o.se.length : Int)) then
 bif inR (↑k : Int) o.se.length then
 bif nameB (o.se.getD k SE.z).fst then
 bif decide ((o.se.getD k SE.z).snd.fst ≥ 1) then
 bif decide ((o.se.getD k SE.z).snd.fst ≤ 7) then
 bif decide ((o.se.getD k SE.z).snd.snd.fst ≥ 1) then
 bif decide ((o.se.getD k SE.z).snd.snd.fst ≤ 256) then
 bif IntKind.i64.wrap (↑(BitVec.ofInt 64 (o.se.getD k SE.z).snd.snd.fst &&& BitVec.ofInt 64 (IntKind.i64.wrap ((o.se.getD k SE.z).snd.snd.fst - 1))).toNat : Int) != 0 then
 some (.ret, stOf 65 [1, 2, 3] [.ptr 0 0 0, .val (.bool false), .val (.int .i64 (sumS o.se k))] ⟨1, [⟨0, 0, .cells (.rows true 5 ([.ro (.tab 5 (o.se.length) (fun i => SE.row (o.se.getD i SE.z))) none, .ro (.tab 6 (o.sy.length) (fun i => SY.row (o.sy.getD i SY.z))) none, .ro (.tab 5 (o.re.length) (fun i => RE.row (o.re.getD i RE.z))) none, .ro (.tab 1 (o.fi.length) (fun i => FI.row (o.fi.getD i FI.z))) none, .ro (.tab 4 (o.li.length) (fun i => LI.row (o.li.getD i LI.z))) none] :: []))⟩]⟩ )
 else
 bif decide ((o.se.getD k SE.z).snd.snd.snd.snd ≥ 0) then
 bif decide ((o.se.getD k SE.z).snd.snd.snd.snd ≤ 65536) then
 some (.normal, stOf 65 [1, 3, 8, 9, 10] [.ptr 0 0 0, .val (.int .i64 (IntKind.i64.wrap (sumS o.se k + IntKind.i64.wrap ((↑(o.se.getD k SE.z).snd.snd.snd.fst.length : Int) + (o.se.getD k SE.z).snd.snd.snd.snd)))), .ro (.tab 5 (o.se.length) (fun i => SE.row (o.se.getD i SE.z))) none, .val (.int .i64 ((↑o.se.length : Int))), .val (.int .i64 (IntKind.i64.wrap ((↑k : Int) + 1)))] ⟨1, [⟨0, 0, .cells (.rows true 5 ([.ro (.tab 5 (o.se.length) (fun i => SE.row (o.se.getD i SE.z))) none, .ro (.tab 6 (o.sy.length) (fun i => SY.row (o.sy.getD i SY.z))) none, .ro (.tab 5 (o.re.length) (fun i => RE.row (o.re.getD i RE.z))) none, .ro (.tab 1 (o.fi.length) (fun i => FI.row (o.fi.getD i FI.z))) none, .ro (.tab 4 (o.li.length) (fun i => LI.row (o.li.getD i LI.z))) none] :: []))⟩]⟩ )
 else
 some (.ret, stOf 65 [1, 2, 3] [.ptr 0 0 0, .val (.bool false), .val (.int .i64 (sumS o.se k))] ⟨1, [⟨0, 0, .cells (.rows true 5 ([.ro (.tab 5 (o.se.length) (fun i => SE.row (o.se.getD i SE.z))) none, .ro (.tab 6 (o.sy.length) (fun i => SY.row (o.sy.getD i SY.z))) none, .ro (.tab 5 (o.re.length) (fun i => RE.row (o.re.getD i RE.z))) none, .ro (.tab 1 (o.fi.length) (fun i => FI.row (o.fi.getD i FI.z))) none, .ro (.tab 4 (o.li.length) (fun i => LI.row (o.li.getD i LI.z))) none] :: []))⟩]⟩ )
 else
 some (.ret, stOf 65 [1, 2, 3] [.ptr 0 0 0, .val (.bool false), .val (.int .i64 (sumS o.se k))] ⟨1, [⟨0, 0, .cells (.rows true 5 ([.ro (.tab 5 (o.se.length) (fun i => SE.row (o.se.getD i SE.z))) none, .ro (.tab 6 (o.sy.length) (fun i => SY.row (o.sy.getD i SY.z))) none, .ro (.tab 5 (o.re.length) (fun i => RE.row (o.re.getD i RE.z))) none, .ro (.tab 1 (o.fi.length) (fun i => FI.row (o.fi.getD i FI.z))) none, .ro (.tab 4 (o.li.length) (fun i => LI.row (o.li.getD i LI.z))) none] :: []))⟩]⟩ )
 else
 some (.ret, stOf 65 [1, 2, 3] [.ptr 0 0 0, .val (.bool false), .val (.int .i64 (sumS o.se k))] ⟨1, [⟨0, 0, .cells (.rows true 5 ([.ro (.tab 5 (o.se.length) (fun i => SE.row (o.se.getD i SE.z))) none, .ro (.tab 6 (o.sy.length) (fun i => SY.row (o.sy.getD i SY.z))) none, .ro (.tab 5 (o.re.length) (fun i => RE.row (o.re.getD i RE.z))) none, .ro (.tab 1 (o.fi.length) (fun i => FI.row (o.fi.getD i FI.z))) none, .ro (.tab 4 (o.li.length) (fun i => LI.row (o.li.getD i LI.z))) none] :: []))⟩]⟩ )
 else
 some (.ret, stOf 65 [1, 2, 3] [.ptr 0 0 0, .val (.bool false), .val (.int .i64 (sumS o.se k))] ⟨1, [⟨0, 0, .cells (.rows true 5 ([.ro (.tab 5 (o.se.length) (fun i => SE.row (o.se.getD i SE.z))) none, .ro (.tab 6 (o.sy.length) (fun i => SY.row (o.sy.getD i SY.z))) none, .ro (.tab 5 (o.re.length) (fun i => RE.row (o.re.getD i RE.z))) none, .ro (.tab 1 (o.fi.length) (fun i => FI.row (o.fi.getD i FI.z))) none, .ro (.tab 4 (o.li.length) (fun i => LI.row (o.li.getD i LI.z))) none] :: []))⟩]⟩ )
 else
 some (.ret, stOf 65 [1, 2, 3] [.ptr 0 0 0, .val (.bool false), .val (.int .i64 (sumS o.se k))] ⟨1, [⟨0, 0, .cells (.rows true 5 ([.ro (.tab 5 (o.se.length) (fun i => SE.row (o.se.getD i SE.z))) none, .ro (.tab 6 (o.sy.length) (fun i => SY.row (o.sy.getD i SY.z))) none, .ro (.tab 5 (o.re.length) (fun i => RE.row (o.re.getD i RE.z))) none, .ro (.tab 1 (o.fi.length) (fun i => FI.row (o.fi.getD i FI.z))) none, .ro (.tab 4 (o.li.length) (fun i => LI.row (o.li.getD i LI.z))) none] :: []))⟩]⟩ )
 else
 some (.ret, stOf 65 [1, 2, 3] [.ptr 0 0 0, .val (.bool false), .val (.int .i64 (sumS o.se k))] ⟨1, [⟨0, 0, .cells (.rows true 5 ([.ro (.tab 5 (o.se.length) (fun i => SE.row (o.se.getD i SE.z))) none, .ro (.tab 6 (o.sy.length) (fun i => SY.row (o.sy.getD i SY.z))) none, .ro (.tab 5 (o.re.length) (fun i => RE.row (o.re.getD i RE.z))) none, .ro (.tab 1 (o.fi.length) (fun i => FI.row (o.fi.getD i FI.z))) none, .ro (.tab 4 (o.li.length) (fun i => LI.row (o.li.getD i LI.z))) none] :: []))⟩]⟩ )
 else
 some (.ret, stOf 65 [1, 2, 3] [.ptr 0 0 0, .val (.bool false), .val (.int .i64 (sumS o.se k))] ⟨1, [⟨0, 0, .cells (.rows true 5 ([.ro (.tab 5 (o.se.length) (fun i => SE.row (o.se.getD i SE.z))) none, .ro (.tab 6 (o.sy.length) (fun i => SY.row (o.sy.getD i SY.z))) none, .ro (.tab 5 (o.re.length) (fun i => RE.row (o.re.getD i RE.z))) none, .ro (.tab 1 (o.fi.length) (fun i => FI.row (o.fi.getD i FI.z))) none, .ro (.tab 4 (o.li.length) (fun i => LI.row (o.li.getD i LI.z))) none] :: []))⟩]⟩ )
 else
 none
 else
 some (.exit 0, stOf 65 [1, 3] [.ptr 0 0 0, .val (.int .i64 (sumS o.se k))] ⟨1, [⟨0, 0, .cells (.rows true 5 ([.ro (.tab 5 (o.se.length) (fun i => SE.row (o.se.getD i SE.z))) none, .ro (.tab 6 (o.sy.length) (fun i => SY.row (o.sy.getD i SY.z))) none, .ro (.tab 5 (o.re.length) (fun i => RE.row (o.re.getD i RE.z))) none, .ro (.tab 1 (o.fi.length) (fun i => FI.row (o.fi.getD i FI.z))) none, .ro (.tab 4 (o.li.length) (fun i => LI.row (o.li.getD i LI.z))) none] :: []))⟩]⟩ ) := by kernel_rfl
theorem Tryz.wPs (o : OD) : rootS Tryz.EPs 6 109 (lsumsOf [(3, LPs)]) [o.av] =
 bif odIs (AV.agg (AV.agg o.row).cells) && SE.ok (SE.con o.se) && (propB (SE.list (SE.con o.se) = (odP (AV.agg (AV.agg o.row).cells)).se ∧ seInv (odP (AV.agg (AV.agg o.row).cells)).se) && (↑o.se.length : Int) == (↑(odP (AV.agg (AV.agg o.row).cells)).se.length : Int)) then
 bif allOk (odP (AV.agg (AV.agg o.row).cells)).se.length (secK (odP (AV.agg (AV.agg o.row).cells)).se) then
 bif decide ((↑(odP (AV.agg (AV.agg o.row).cells)).se.length : Int) ≤ 16) then
 bif decide (sumS (odP (AV.agg (AV.agg o.row).cells)).se (odP (AV.agg (AV.agg o.row).cells)).se.length ≤ 65536) then
 bif SE.ok (SE.con (odP (AV.agg (AV.agg o.row).cells)).se) && (odP (AV.agg (AV.agg o.row).cells)).se.length.ble 1000000 then
 bif allNew (nmDs (SE.list (SE.con (odP (AV.agg (AV.agg o.row).cells)).se))) (SE.list (SE.con (odP (AV.agg (AV.agg o.row).cells)).se)).length then
 some (.val (.bool true), ⟨0, []⟩)
 else
 some (.val (.bool false), ⟨0, []⟩)
 else
 none
 else
 some (.val (.bool false), ⟨0, []⟩)
 else
 some (.val (.bool false), ⟨0, []⟩)
 else
 some (.val (.bool false), ⟨0, []⟩)
 else
 none := by kernel_rfl
theorem Tryz.ePs : EnvOk2 Tryz.prog Tryz.EPs := Tryz.envOk false (sumsOf Tryz.tPs) _ (sumsOf_ok (show AllS Tryz.prog Tryz.tPs from ⟨Tryz.sumNo, Tryz.sumDs, trivial⟩))
theorem align_all : ∀ i : Fin 257, 1 ≤ i.val → (IntKind.i64.wrap ((BitVec.ofInt 64 ((i.val : Nat) : Int) &&& BitVec.ofInt 64 (IntKind.i64.wrap (((i.val : Nat) : Int) - 1))).toNat : Int) != 0) = !decide ((256 : Int).tmod ((i.val : Nat) : Int) = 0) := by decide +kernel
theorem align_eq {a : Int} (h1 : 1 ≤ a) (h2 : a ≤ 256) : (IntKind.i64.wrap ((BitVec.ofInt 64 a &&& BitVec.ofInt 64 (IntKind.i64.wrap (a - 1))).toNat : Int) != 0) = !decide ((256 : Int).tmod a = 0) := by
  have := align_all ⟨a.toNat, by omega⟩ (by show 1 ≤ a.toNat; omega)
  have e : ((a.toNat : Nat) : Int) = a := by omega
  simp only [e] at this
  exact this
theorem Tryz.sPs (o : OD) (k : Nat) (hL : seInv o.se) (hk : k ≤ o.se.length) (hok : ∀ i, i < k → secK o.se i = true) : Tryz.BPs (stOf 65 [1, 3, 8, 9, 10] (Vps o k) (hO o)) =
    bif decide (k < o.se.length) then (bif secK o.se k then some (.normal, stOf 65 [1, 3, 8, 9, 10] (Vps o (k + 1)) (hO o)) else some (.ret, zPs o k)) else some (.exit 0, stOf 65 [1, 2, 3] (xPs o).2.1 (xPs o).2.2) := by
  obtain ⟨hL1, hL2⟩ := id hL
  obtain ⟨u0, u1⟩ := sumS_b hL k hk hok
  have key := Tryz.rPs o k
  rw [declt_nat, inR_nat, wrapS k (by omega)] at key
  refine key.trans ?_
  by_cases h : k < o.se.length
  rotate_left
  · rw [decide_eq_false h]
    have : k = o.se.length := by omega
    rw [this]; rfl
  rw [decide_eq_true h]
  simp only [cond_true]
  have hm := hL2 _ (getD_mem (d := SE.z) h)
  have eu : sumS o.se (k + 1) = sumS o.se k + lenS (o.se.getD k SE.z) := rfl
  have hV : Vps o (k + 1) = [.ptr 0 0 0, .val (.int .i64 (sumS o.se k + lenS (o.se.getD k SE.z))), .ro (SE.con o.se) none, .val (.int .i64 (o.se.length : Nat)), .val (.int .i64 ((k + 1 : Nat) : Int))] := rfl
  rw [hV]
  unfold secK secB lenS
  generalize o.se.getD k SE.z = e at hm ⊢
  obtain ⟨s, a, b, l, z⟩ := e
  simp only [ge_iff_le] at hm ⊢
  cases nameB s with
  | false => rfl
  | true =>
  cases c1 : decide (1 ≤ a) with
  | false => rfl
  | true =>
  cases c2 : decide (a ≤ 7) with
  | false => rfl
  | true =>
  cases c3 : decide (1 ≤ b) with
  | false => simp; rfl
  | true =>
  cases c4 : decide (b ≤ 256) with
  | false => simp; rfl
  | true =>
  rw [decide_eq_true_eq] at c3 c4
  rw [align_eq c3 c4]
  cases c5 : decide ((256 : Int).tmod b = 0) with
  | false => simp; rfl
  | true =>
  cases c6 : decide (0 ≤ z) with
  | false => rfl
  | true =>
  cases c7 : decide (z ≤ 65536) with
  | false => rfl
  | true =>
  rw [decide_eq_true_eq] at c6 c7
  rw [wrap64 ((l.length : Int) + z) (by omega) (by omega), wrap64 (sumS o.se k + ((l.length : Int) + z)) (by omega) (by omega)]
  rfl
theorem Tryz.lPs : ∀ s e s', s.h.ok → (LPs s).run = some (e, s') → Triple Tryz.prog (.loop Tryz.bPs) s e s' := by
  refine scan_lawW Tryz.ePs (d := 6) (g := 109) (ls := lsumsOf []) (c := Tryz.bPs) trivial 65 [1, 3, 8, 9, 10] [1, 2, 3] (T := OD) Vps hO (fun o => o.se.length) (fun o => secK o.se) (fun o => seInv o.se)
    xPs yPs fPs ?_ (fun o _ => hO_ok o) (fun _ _ => ⟨by simp [xPs], by simp [yPs]⟩) (fun o _ => ⟨hO_ok o, heap0_ok⟩) zPs ?_ (fun o k hL hk hok => Tryz.sPs o k hL hk hok)
  · intro vs h e vo h' hok hf
    unfold fPs at hf
    split at hf
    · rename_i c cap n r
      rw [Ans.run_grd] at hf
      cases hb : ((odIs (.agg r) && SE.ok c) && (propB (SE.list c = (odP (.agg r)).se ∧ seInv (odP (.agg r)).se) && (n == (((odP (.agg r)).se.length : Nat) : Int)))) with
      | false => rw [hb] at hf; cases hf
      | true =>
        rw [hb, cond_true, Ans.run_br] at hf
        simp only [Bool.and_eq_true, beq_iff_eq] at hb
        obtain ⟨⟨b1, b2⟩, b3, b4⟩ := hb
        obtain ⟨b5, b6⟩ := propB_eq b3
        refine ⟨odP (.agg r), b6, ?_, ?_⟩
        · refine Weak.trans (Weak.slots (oneH_ok _) ?_) (Weak.oneH rfl (od_con b1))
          rw [b4]
          have := SE.aw b2 cap
          rw [b5] at this
          exact .cons (AW.refl _) (.cons (AW.refl _) (.cons this (AWs.refl _)))
        · cases hq : allOk (odP (.agg r)).se.length (secK (odP (.agg r)).se) with
          | true => rw [hq] at hf; injection hf
          | false => rw [hq] at hf; injection hf
    · cases hf
  · intro o k _
    have h := Weak.canon (s := zPs o k) (hO_ok o) [2]
    have e : canon (some [2]) (zPs o k) = stOf 65 [1, 2, 3] (yPs o).2.1 (yPs o).2.2 := by kernel_rfl
    rw [e] at h
    exact h
theorem allOk_and (n : Nat) (f g : Nat → Bool) : allOk n (fun i => f i && g i) = (allOk n f && allOk n g) := by
  rw [Bool.eq_iff_iff, Bool.and_eq_true, allOk_iff, allOk_iff, allOk_iff]
  exact ⟨fun h => ⟨fun i hi => (Bool.and_eq_true _ _ ▸ h i hi : _ ∧ _).1, fun i hi => (Bool.and_eq_true _ _ ▸ h i hi : _ ∧ _).2⟩, fun h i hi => by rw [h.1 i hi, h.2 i hi]; rfl⟩
theorem secs_split (L : List SecD) : allOk L.length (secOk L) = (allOk L.length (secK L) && allNew (nmDs L) L.length) := allOk_and _ _ _
def psecS (args : List AV) : Ans (AV × Heap) := match args with
  | [o] => .grd (odIs o && propB (seInv (odP o).se)) (.out (.val (.bool (secsB (odP o).se)), ⟨0, []⟩))
  | _ => .no
theorem Tryz.sumPs : SumC Tryz.prog 109 (pureA psecS) := by
  refine pureSumR 109 ⟨Tryz.f109, _, Tryz.fnOk109.1, Tryz.fnOk109.2, rfl⟩ ?_
  intro args v h2 hs
  unfold psecS at hs
  split at hs
  · rename_i ov
    rw [Ans.run_grd] at hs
    cases hb : (odIs ov && propB (seInv (odP ov).se)) with
    | false => rw [hb] at hs; cases hs
    | true =>
    rw [hb, cond_true] at hs
    rw [Bool.and_eq_true] at hb
    injection hs with hs
    injection hs with q1 q2
    subst q1; subst q2
    refine Alone.argsW (AWs.args (.cons (od_aw hb.1) .nil)) ?_
    have hi := propB_eq hb.2
    generalize odP ov = o at hi ⊢
    refine rootS_alone Tryz.ePs (d := 6) (g := 109) (ls := lsumsOf [(3, LPs)]) (AllL.of1 (a := Tryz.bPs) (by kernel_rfl) (LsOk.of rfl rfl Tryz.lPs)) ((Tryz.wPs o).trans ?_)
    rw [show AV.agg (AV.agg o.row).cells = .agg o.row from rfl, odP_row, odIs_row, listSE, propB_t (show o.se = o.se ∧ seInv o.se from ⟨rfl, hi⟩), SE.ok_con, beq_self_eq_true, ble_t (Nat.le_trans hi.1 (by omega))]
    unfold secsB
    rw [secs_split]
    simp only [Bool.and_self, cond_true]
    have e1 : decide ((o.se.length : Int) ≤ 16) = decide (o.se.length ≤ 16) := by rw [decide_eq_decide]; omega
    rw [e1]
    cases allOk o.se.length (secK o.se) <;> cases decide (o.se.length ≤ 16) <;> cases decide (sumS o.se o.se.length ≤ 65536) <;> cases allNew (nmDs o.se) o.se.length <;> rfl
  · cases hs
end Go.Ev
/- The first place in a list at which something holds: slices.IndexFunc and its like. -/
namespace Go.Ev
def ixP (p : Nat → Bool) : Nat → Nat → Option Nat
  | 0, _ => none
  | k + 1, i => bif p i then some i else ixP p k (i + 1)
def ixN (p : Nat → Bool) (N : Nat) : Option Nat := ixP p N 0
def ixX (n o : Nat) (k : Nat) : St := stOf n [o] [.val (.int .i64 (Int.ofNat k))] ⟨0, []⟩
def ixY (n o b : Nat) : Option Nat → AX × St
  | none => (.exit b, stOf n [] [] ⟨0, []⟩)
  | some k => (.ret, ixX n o k)
def ixL (n o b : Nat) (s0 : St) (r : Option Nat) : LSum := atL s0 (.br r.isSome (.out (ixY n o b (some (r.getD 0)))) (.out (ixY n o b none)))
def ixO (r : Option Nat) : Ans (AV × Heap) := .br r.isSome (.out (.val (.int .i64 (Int.ofNat (r.getD 0))), ⟨0, []⟩)) (.out (.val (.int .i64 (-1)), ⟨0, []⟩))
theorem ixY_ok (n o b : Nat) (r : Option Nat) : (ixY n o b r).2.h.ok := by cases r <;> exact heap0_ok
theorem ixP_some (p : Nat → Bool) : ∀ k i, (ixP p k i).isSome = true ↔ ∃ j, i ≤ j ∧ j < i + k ∧ p j = true
  | 0, i => by
    constructor
    · intro h; cases h
    · rintro ⟨j, h1, h2, _⟩; omega
  | k + 1, i => by
    unfold ixP
    cases hp : p i with
    | true => rw [cond_true]; exact ⟨fun _ => ⟨i, Nat.le_refl _, by omega, hp⟩, fun _ => rfl⟩
    | false =>
      rw [cond_false, ixP_some p k (i + 1)]
      constructor
      · rintro ⟨j, h1, h2, h3⟩; exact ⟨j, by omega, by omega, h3⟩
      · rintro ⟨j, h1, h2, h3⟩
        refine ⟨j, ?_, by omega, h3⟩
        rcases Nat.lt_or_ge i j with q | q
        · exact q
        · have : j = i := by omega
          rw [this, hp] at h3; cases h3
theorem ixN_some (p : Nat → Bool) (N : Nat) : (ixN p N).isSome = !(allOk N (fun i => !(p i))) := by
  rw [Bool.eq_iff_iff, ixN, ixP_some, Bool.not_eq_true', ← Bool.not_eq_true, allOk_iff]
  constructor
  · rintro ⟨j, _, h2, h3⟩ h
    have := h j (by omega)
    rw [h3] at this; cases this
  · intro h
    refine Classical.byContradiction (fun hne => h (fun i hi => ?_))
    cases hp : p i with
    | false => rfl
    | true => exact absurd ⟨i, Nat.zero_le _, by omega, hp⟩ hne
theorem ix_law {P : Program} {env : Env} (he : EnvOk2 P env) {d g : Nat} {c : Code} (hin : loopsOf c = []) (n o b : Nat) (ks : List Nat) (V : Nat → List AV) (p : Nat → Bool) (N : Nat)
    (hr : ∀ k, k ≤ N → codeS env (callF env d) (env.keep g) (lsumsOf []) c (outK ks [o]) (stOf n ks (V k) ⟨0, []⟩) =
      bif decide (k < N) then (bif p k then some (.ret, ixX n o k) else some (.normal, stOf n ks (V (k + 1)) ⟨0, []⟩)) else some (.exit b, stOf n [] [] ⟨0, []⟩)) :
    ∀ s e s', s.h.ok → (ixL n o b (stOf n ks (V 0) ⟨0, []⟩) (ixN p N) s).run = some (e, s') → Triple P (.loop c) s e s' := by
  refine loop_at he (d := d) (g := g) (ls := lsumsOf []) (c := c) (by rw [hin]; trivial) ks [o] (T := Nat) (fun k => stOf n ks (V k) ⟨0, []⟩) (fun k => k ≤ N) (fun k => N - k)
    (fun k => ixY n o b (ixP p (N - k) k)) _ _ 0 (Nat.zero_le _) (Weak.refl heap0_ok) ?_ (fun _ _ => heap0_ok) ?_
  · intro e s' h
    rw [Ans.run_br] at h
    unfold ixN at h
    rw [Nat.sub_zero]
    cases hq : ixP p N 0 with
    | none => rw [hq] at h; injection h
    | some x => rw [hq] at h; injection h
  · intro k hk
    have key := hr k hk
    by_cases hlt : k < N
    · have hs : ixP p (N - k) k = bif p k then some k else ixP p (N - (k + 1)) (k + 1) := by
        rw [show N - k = (N - (k + 1)) + 1 by omega]; rfl
      rw [decide_eq_true hlt, cond_true] at key
      cases hp : p k with
      | true =>
        rw [hp, cond_true] at key hs
        refine .inr ?_
        simp only [hs]
        exact ⟨_, key, Weak.refl (ixY_ok n o b (some k)), by simp [ixY]⟩
      | false =>
        rw [hp, cond_false] at key hs
        exact .inl ⟨k + 1, _, key, Weak.refl heap0_ok, hlt, by omega, by simp only [hs]⟩
    · have e : k = N := by omega
      subst e
      rw [decide_eq_false hlt, cond_false] at key
      refine .inr ?_
      simp only [Nat.sub_self]
      exact ⟨_, key, Weak.refl (ixY_ok n o b none), by simp [ixY, ixP]⟩
theorem AW.clo {f : Fn} {a a' l l' : List AV} (h : AWs a a') (k : AWs l l') : AW (.clo f a l) (.clo f a' l') := fun w c u hu => by
  cases hu with | clo _ _ _ x' y' hf hx hy => exact .clo _ _ _ _ _ hf (h.args w c x' hx) (k.args w c y' hy)
theorem all_law {P : Program} {env : Env} (he : EnvOk2 P env) {d g : Nat} {ls : Nat → Option LSum} {c : Code} (hin : AllL (LsOk P ls) (loopsOf c)) (ks ko : List Nat) (b : Nat) (S : Nat → St) (xe xr s0 : St) (ok : Nat → Bool) (N : Nat)
    (hS : ∀ k, (S k).h.ok) (h1 : xe.h.ok) (h2 : xr.h.ok) (hw : Weak s0 (S 0))
    (hr : ∀ k, k ≤ N → (∀ i, i < k → ok i = true) → codeS env (callF env d) (env.keep g) ls c (outK ks ko) (S k) =
      bif decide (k < N) then (bif ok k then some (.normal, S (k + 1)) else some (.ret, xr)) else some (.exit b, xe)) :
    ∀ s e s', s.h.ok → (atL s0 (.br (allOk N ok) (.out (.exit b, xe)) (.out (.ret, xr))) s).run = some (e, s') → Triple P (.loop c) s e s' := by
  refine loop_at he (d := d) (g := g) (ls := ls) (c := c) hin ks ko (T := Nat) S (fun k => k ≤ N ∧ ∀ i, i < k → ok i = true) (fun k => N - k) (fun _ => bif allOk N ok then (.exit b, xe) else (.ret, xr)) _ _ 0 ⟨Nat.zero_le _, fun i hi => by omega⟩ hw ?_ (fun k _ => hS k) ?_
  · intro e s' h
    rw [Ans.run_br] at h
    cases hq : allOk N ok with
    | true => rw [hq] at h; injection h
    | false => rw [hq] at h; injection h
  · rintro k ⟨q1, q2⟩
    have key := hr k q1 q2
    by_cases h : k < N
    · rw [decide_eq_true h, cond_true] at key
      cases ha : ok k with
      | true =>
        rw [ha, cond_true] at key
        refine .inl ⟨k + 1, _, key, Weak.refl (hS _), ⟨h, fun i hi => ?_⟩, by omega, rfl⟩
        rcases Nat.lt_succ_iff_lt_or_eq.1 hi with q | q
        · exact q2 i q
        · rw [q]; exact ha
      | false =>
        rw [ha, cond_false] at key
        have hn : allOk N ok = false := by
          cases hq : allOk N ok with
          | false => rfl
          | true => have := allOk_iff.1 hq k h; rw [ha] at this; cases this
        refine .inr ?_
        simp only [hn, cond_false]
        exact ⟨_, key, Weak.refl h2, by simp⟩
    · rw [decide_eq_false h, cond_false] at key
      have hn : allOk N ok = true := allOk_iff.2 (fun i hi => q2 i (by omega))
      refine .inr ?_
      simp only [hn, cond_true]
      exact ⟨_, key, Weak.refl h1, by simp⟩
theorem ix_lawS {P : Program} {env : Env} (he : EnvOk2 P env) {d g : Nat} {c : Code} (hin : loopsOf c = []) (n o b : Nat) (ks : List Nat) (S : Nat → St) (hS : ∀ k, (S k).h.ok) (p : Nat → Bool) (N : Nat)
    (hr : ∀ k, k ≤ N → codeS env (callF env d) (env.keep g) (lsumsOf []) c (outK ks [o]) (S k) =
      bif decide (k < N) then (bif p k then some (.ret, ixX n o k) else some (.normal, S (k + 1))) else some (.exit b, stOf n [] [] ⟨0, []⟩)) :
    ∀ s e s', s.h.ok → (ixL n o b (S 0) (ixN p N) s).run = some (e, s') → Triple P (.loop c) s e s' := by
  refine loop_at he (d := d) (g := g) (ls := lsumsOf []) (c := c) (by rw [hin]; trivial) ks [o] (T := Nat) S (fun k => k ≤ N) (fun k => N - k)
    (fun k => ixY n o b (ixP p (N - k) k)) _ _ 0 (Nat.zero_le _) (Weak.refl (hS 0)) ?_ (fun k _ => hS k) ?_
  · intro e s' h
    rw [Ans.run_br] at h
    unfold ixN at h
    rw [Nat.sub_zero]
    cases hq : ixP p N 0 with
    | none => rw [hq] at h; injection h
    | some x => rw [hq] at h; injection h
  · intro k hk
    have key := hr k hk
    by_cases hlt : k < N
    · have hs : ixP p (N - k) k = bif p k then some k else ixP p (N - (k + 1)) (k + 1) := by
        rw [show N - k = (N - (k + 1)) + 1 by omega]; rfl
      rw [decide_eq_true hlt, cond_true] at key
      cases hp : p k with
      | true =>
        rw [hp, cond_true] at key hs
        refine .inr ?_
        simp only [hs]
        exact ⟨_, key, Weak.refl (ixY_ok n o b (some k)), by simp [ixY]⟩
      | false =>
        rw [hp, cond_false] at key hs
        exact .inl ⟨k + 1, _, key, Weak.refl (hS _), hlt, by omega, by simp only [hs]⟩
    · have e : k = N := by omega
      subst e
      rw [decide_eq_false hlt, cond_false] at key
      refine .inr ?_
      simp only [Nat.sub_self]
      exact ⟨_, key, Weak.refl (ixY_ok n o b none), by simp [ixY, ixP]⟩
end Go.Ev
