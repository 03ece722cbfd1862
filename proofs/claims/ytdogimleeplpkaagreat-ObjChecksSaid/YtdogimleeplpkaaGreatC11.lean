/- The evaluator, its soundness and the walks: part 11. -/
import Derived.SizedLaws
import Derived.Test.YtdogimleeplpkaaGreatC10
set_option linter.unusedSectionVars false
set_option linter.unusedSimpArgs false
set_option linter.unusedVariables false
set_option maxRecDepth 100000
set_option maxRecDepth 1000000
noncomputable section
/- A symbol, as the program checks it. -/
namespace Go.Ev
open Go.Proofs
def Tryz.tPy : List (Nat × AFun) := [(151, pureA nameS)]
def Tryz.EPy : Env := Tryz.env0 false (sumsOf Tryz.tPy) (keepF 0 [])
def pySy (o : OD) (s : SymD) : Bool := nameB s.1 && symB o.se s
def psyS (args : List AV) : Ans (AV × Heap) := match args with
  | [o, .agg r] => .grd ((odIs o && syIs r) && propB (seBound (odP o).se ∧ syBound (syParse r))) (.out (.val (.bool (pySy (odP o) (syParse r))), ⟨0, []⟩))
  | _ => .no
theorem Tryz.wPy (o : OD) (s : SymD) : rootS Tryz.EPy 6 157 (lsumsOf []) [o.av, .agg (syRow s)] =
 bif nameB s.fst then
 bif decide (s.snd.snd.snd.snd.fst ≥ 0) then
 bif decide (s.snd.snd.snd.snd.fst ≤ 2) then
 bif decide (s.snd.snd.snd.snd.snd ≥ 0) then
 bif decide (s.snd.snd.snd.snd.snd ≤ 2) then
 bif s.snd.fst == -1 then
 bif s.snd.snd.snd.snd.fst != 0 then
 bif s.snd.snd.fst == 0 then
 bif s.snd.snd.snd.fst == 0 then
 some (.val (.bool true), ⟨0, []⟩)
 else
 some (.val (.bool false), ⟨0, []⟩)
 else
 some (.val (.bool false), ⟨0, []⟩)
 else
 some (.val (.bool false), ⟨0, []⟩)
 else
 bif s.snd.fst == -2 then
 bif s.snd.snd.snd.fst == 0 then
 some (.val (.bool true), ⟨0, []⟩)
 else
 some (.val (.bool false), ⟨0, []⟩)
 else
 bif decide (s.snd.fst ≥ 0) then
 bif decide (s.snd.fst ≤ IntKind.i64.wrap ((↑o.se.length : Int) - 1)) then
 bif decide (s.snd.snd.snd.fst ≥ 0) then
 bif decide (s.snd.snd.snd.fst ≤ 65536) then
 bif inR s.snd.fst o.se.length then
 bif decide (IntKind.i64.wrap (IntKind.i64.wrap s.snd.snd.fst + s.snd.snd.snd.fst) ≤ IntKind.i64.wrap ((↑(o.se.getD s.snd.fst.toNat SE.z).snd.snd.snd.fst.length : Int) + (o.se.getD s.snd.fst.toNat SE.z).snd.snd.snd.snd)) then
 bif s.snd.snd.snd.snd.snd != 1 then
 some (.val (.bool true), ⟨0, []⟩)
 else
 bif IntKind.i64.wrap (↑(BitVec.ofInt 64 (o.se.getD s.snd.fst.toNat SE.z).snd.fst &&& BitVec.ofInt 64 4).toNat : Int) != 0 then
 some (.val (.bool true), ⟨0, []⟩)
 else
 some (.val (.bool false), ⟨0, []⟩)
 else
 some (.val (.bool false), ⟨0, []⟩)
 else
 none
 else
 some (.val (.bool false), ⟨0, []⟩)
 else
 some (.val (.bool false), ⟨0, []⟩)
 else
 some (.val (.bool false), ⟨0, []⟩)
 else
 some (.val (.bool false), ⟨0, []⟩)
 else
 some (.val (.bool false), ⟨0, []⟩)
 else
 some (.val (.bool false), ⟨0, []⟩)
 else
 some (.val (.bool false), ⟨0, []⟩)
 else
 some (.val (.bool false), ⟨0, []⟩)
 else
 some (.val (.bool false), ⟨0, []⟩) := by kernel_rfl
theorem Tryz.ePy : EnvOk2 Tryz.prog Tryz.EPy := Tryz.envOk false (sumsOf Tryz.tPy) _ (sumsOf_ok (show AllS Tryz.prog Tryz.tPy from ⟨Tryz.sumNo, trivial⟩))
open Classical in
theorem Tryz.sPy (o : OD) (s : SymD) (ho : seBound o.se) (hs : syBound s) : rootS Tryz.EPy 6 157 (lsumsOf []) [o.av, .agg (syRow s)] = some (.val (.bool (pySy o s)), ⟨0, []⟩) := by
  rw [Tryz.wPy]
  unfold pySy
  cases nameB s.1 with
  | false => rfl
  | true =>
  rw [cond_true, Bool.true_and, bB (symB o.se s) (fun b => some (AV.val (.bool b), (⟨0, []⟩ : Heap)))]
  obtain ⟨o1, o2⟩ := ho
  unfold symB symP
  rw [show (IntKind.i64.wrap ((BitVec.ofInt 64 (o.se.getD s.snd.fst.toNat SE.z).snd.fst &&& BitVec.ofInt 64 4).toNat : Int) != 0) = execB (o.se.getD s.snd.fst.toNat SE.z).2.1 from rfl]
  have hl : ∀ i : Nat, i < o.se.length → 0 ≤ lenS (o.se.getD i SE.z) ∧ lenS (o.se.getD i SE.z) ≤ 1000000000000000 := fun i hi => o2 _ (getD_mem hi)
  obtain ⟨nm, sec, val, size, bind, kind⟩ := s
  unfold syBound at hs
  simp only at hs ⊢
  have hlen : 0 ≤ sec → sec < (o.se.length : Int) → IntKind.i64.wrap ((↑(o.se.getD sec.toNat SE.z).snd.snd.snd.fst.length : Int) + (o.se.getD sec.toNat SE.z).snd.snd.snd.snd) = lenS (o.se.getD sec.toNat SE.z) ∧ (0 ≤ lenS (o.se.getD sec.toNat SE.z) ∧ lenS (o.se.getD sec.toNat SE.z) ≤ 1000000000000000) := by
    intro h0 h1
    have := hl sec.toNat (by omega)
    refine ⟨?_, this⟩
    unfold lenS at this ⊢
    exact wrap64 _ (by omega) (by omega)
  have hval : IntKind.i64.wrap val = val := wrap64 _ (by omega) (by omega)
  have hw1 : IntKind.i64.wrap ((o.se.length : Int) - 1) = (o.se.length : Int) - 1 := wrap64 _ (by omega) (by omega)
  rw [hval, hw1]
  generalize lenS (o.se.getD sec.toNat SE.z) = ln at hlen ⊢
  generalize IntKind.i64.wrap ((↑(o.se.getD sec.toNat SE.z).snd.snd.snd.fst.length : Int) + (o.se.getD sec.toNat SE.z).snd.snd.snd.snd) = lw at hlen ⊢
  generalize execB (o.se.getD sec.toNat SE.z).snd.fst = ex
  have hsum : 0 ≤ size → size ≤ 65536 → IntKind.i64.wrap (val + size) = val + size := fun h0 h1 => wrap64 _ (by omega) (by omega)
  generalize IntKind.i64.wrap (val + size) = vs at hsum ⊢
  generalize (some (AV.val (.bool true), (⟨0, []⟩ : Heap))) = A
  generalize (some (AV.val (.bool false), (⟨0, []⟩ : Heap))) = B
  rw [propB_ite]
  by_cases c1 : bind ≥ 0
  rotate_left
  · rw [decide_eq_false c1, cond_false, if_neg (fun q => by omega)]
  rw [decide_eq_true c1, cond_true]
  by_cases c2 : bind ≤ 2
  rotate_left
  · rw [decide_eq_false c2, cond_false, if_neg (fun q => by omega)]
  rw [decide_eq_true c2, cond_true]
  by_cases c3 : kind ≥ 0
  rotate_left
  · rw [decide_eq_false c3, cond_false, if_neg (fun q => by omega)]
  rw [decide_eq_true c3, cond_true]
  by_cases c4 : kind ≤ 2
  rotate_left
  · rw [decide_eq_false c4, cond_false, if_neg (fun q => by omega)]
  rw [decide_eq_true c4, cond_true]
  by_cases d1 : sec = -1
  · rw [show (sec == -1) = true from beq_iff_eq.2 d1, cond_true]
    by_cases e1 : bind = 0
    · rw [show (bind != 0) = false by rw [e1]; rfl, cond_false, if_neg (fun q => (q.2.2.2.1 d1).1 e1)]
    rw [show (bind != 0) = true from bne_iff_ne.2 e1, cond_true]
    by_cases e2 : val = 0
    · rw [show (val == 0) = true from beq_iff_eq.2 e2, cond_true]
      by_cases e3 : size = 0
      · rw [show (size == 0) = true from beq_iff_eq.2 e3, cond_true, if_pos ⟨by omega, by omega, by omega, fun _ => ⟨e1, e2, e3⟩, fun q => by omega, fun q => by omega⟩]
      · rw [show (size == 0) = false from beq_eq_false_iff_ne.2 e3, cond_false, if_neg (fun q => e3 (q.2.2.2.1 d1).2.2)]
    · rw [show (val == 0) = false from beq_eq_false_iff_ne.2 e2, cond_false, if_neg (fun q => e2 (q.2.2.2.1 d1).2.1)]
  rw [show (sec == -1) = false from beq_eq_false_iff_ne.2 d1, cond_false]
  by_cases d2 : sec = -2
  · rw [show (sec == -2) = true from beq_iff_eq.2 d2, cond_true]
    by_cases e3 : size = 0
    · rw [show (size == 0) = true from beq_iff_eq.2 e3, cond_true, if_pos ⟨by omega, by omega, by omega, fun q => by omega, fun _ => e3, fun q => by omega⟩]
    · rw [show (size == 0) = false from beq_eq_false_iff_ne.2 e3, cond_false, if_neg (fun q => e3 (q.2.2.2.2.1 d2))]
  rw [show (sec == -2) = false from beq_eq_false_iff_ne.2 d2, cond_false]
  by_cases d3 : sec ≥ 0
  rotate_left
  · rw [decide_eq_false d3, cond_false, if_neg (fun q => by omega)]
  rw [decide_eq_true d3, cond_true]
  by_cases d4 : sec ≤ (o.se.length : Int) - 1
  rotate_left
  · rw [decide_eq_false d4, cond_false, if_neg (fun q => by omega)]
  rw [decide_eq_true d4, cond_true]
  obtain ⟨l1, l2, l3⟩ := hlen (by omega) (by omega)
  subst l1
  by_cases e1 : size ≥ 0
  rotate_left
  · rw [decide_eq_false e1, cond_false, if_neg (fun q => by have := (q.2.2.2.2.2 (by omega)).1; omega)]
  rw [decide_eq_true e1, cond_true]
  by_cases e2 : size ≤ 65536
  rotate_left
  · rw [decide_eq_false e2, cond_false, if_neg (fun q => by have := (q.2.2.2.2.2 (by omega)).1; omega)]
  rw [decide_eq_true e2, cond_true, inR_prop.2 ⟨by omega, by omega⟩, cond_true, hsum (by omega) (by omega)]
  by_cases e3 : val + size ≤ lw
  rotate_left
  · rw [decide_eq_false e3, cond_false, if_neg (fun q => by have := (q.2.2.2.2.2 (by omega)).2.1; omega)]
  rw [decide_eq_true e3, cond_true]
  by_cases e4 : kind = 1
  · rw [show (kind != 1) = false by rw [e4]; rfl, cond_false]
    cases ex with
    | true => rw [cond_true, if_pos ⟨by omega, by omega, by omega, fun q => by omega, fun q => by omega, fun _ => ⟨by omega, by omega, fun _ => rfl⟩⟩]
    | false => rw [cond_false, if_neg (fun q => by have := (q.2.2.2.2.2 (by omega)).2.2 e4; cases this)]
  · rw [show (kind != 1) = true from bne_iff_ne.2 e4, cond_true, if_pos ⟨by omega, by omega, by omega, fun q => by omega, fun q => by omega, fun _ => ⟨by omega, by omega, fun q => absurd q e4⟩⟩]
theorem sy_aws {r : List AV} (h : syIs r = true) : AWs r (syRow (syParse r)) := by
  unfold syIs at h
  split at h
  · exact AWs.refl _
  · cases h
theorem Tryz.sumPy : SumC Tryz.prog 157 (pureA psyS) := by
  refine pureSumR 157 ⟨Tryz.f157, _, Tryz.fnOk157.1, Tryz.fnOk157.2, rfl⟩ ?_
  intro args v h2 hs
  unfold psyS at hs
  split at hs
  · rename_i ov r
    rw [Ans.run_grd] at hs
    cases hb : ((odIs ov && syIs r) && propB (seBound (odP ov).se ∧ syBound (syParse r))) with
    | false => rw [hb] at hs; cases hs
    | true =>
    rw [hb, cond_true] at hs
    simp only [Bool.and_eq_true] at hb
    injection hs with hs
    injection hs with q1 q2
    subst q1; subst q2
    obtain ⟨p1, p2⟩ := propB_eq hb.2
    refine Alone.argsW (AWs.args (.cons (od_aw hb.1.1) (.cons (AW.agg (sy_aws hb.1.2)) .nil))) ?_
    exact rootS_alone Tryz.ePy (d := 6) (g := 157) (ls := lsumsOf []) (AllL.noL _) (Tryz.sPy _ _ p1 p2)
  · cases hs
def Tryz.tPx : List (Nat × AFun) := [(157, pureA psyS)]
def Tryz.EPx : Env := Tryz.env0 false (sumsOf Tryz.tPx) (keepF 85 [(2, [0, 1, 7, 8])])
def Tryz.bPx : Code := nthD .skip (loopsOf (bodyOf Tryz.EPx 85)) 0
def Tryz.BPx (s : St) : Option (AX × St) := codeS Tryz.EPx (callF Tryz.EPx 6) (Tryz.EPx.keep 85) (lsumsOf []) Tryz.bPx (outK [0, 1, 7, 8] [4]) s
def Tryz.cloPx (o : OD) : AV := .clo (.func 156) [] [.rptr (.rows true 5 [o.row]) 0 0]
def Tryz.Vpx (o : OD) (L : List SymD) (k : Nat) : List AV := [.ro (SY.con L) none, Tryz.cloPx o, .val (.int .i64 (L.length : Nat)), .val (.int .i64 k)]
def pPx (o : OD) (L : List SymD) (k : Nat) : Bool := !(pySy o (L.getD k SY.z))
def Tryz.LPx (o : OD) (L : List SymD) : LSum := ixL 19 4 0 (stOf 19 [0, 1, 7, 8] (Tryz.Vpx o L 0) ⟨0, []⟩) (ixN (pPx o L) L.length)
def pxInv (o : OD) (L : List SymD) : Prop := L.length ≤ 1000000 ∧ seBound o.se ∧ ∀ s ∈ L, syBound s
theorem Tryz.rPx (o : OD) (L : List SymD) (k : Nat) : Tryz.BPx (stOf 19 [0, 1, 7, 8] (Tryz.Vpx o L k) ⟨0, []⟩) =
 bif decide ((↑k : Int) < (↑L.length : Int)) then
 bif inR (↑k : Int) L.length then
 bif odIs (AV.agg [AV.ro (SE.con o.se) none, AV.ro (SY.con o.sy) none, AV.ro (RE.con o.re) none, AV.ro (FI.con o.fi) none, AV.ro (LI.con o.li) none]) && syIs [AV.val (Value.string (L.getD k SY.z).fst), AV.val (Value.int IntKind.i64 (L.getD k SY.z).snd.fst), AV.val (Value.int IntKind.u32 (L.getD k SY.z).snd.snd.fst), AV.val (Value.int IntKind.i64 (L.getD k SY.z).snd.snd.snd.fst), AV.val (Value.int IntKind.i64 (L.getD k SY.z).snd.snd.snd.snd.fst), AV.val (Value.int IntKind.i64 (L.getD k SY.z).snd.snd.snd.snd.snd)] && propB (seBound (odP (AV.agg [AV.ro (SE.con o.se) none, AV.ro (SY.con o.sy) none, AV.ro (RE.con o.re) none, AV.ro (FI.con o.fi) none, AV.ro (LI.con o.li) none])).se ∧ syBound (syParse [AV.val (Value.string (L.getD k SY.z).fst), AV.val (Value.int IntKind.i64 (L.getD k SY.z).snd.fst), AV.val (Value.int IntKind.u32 (L.getD k SY.z).snd.snd.fst), AV.val (Value.int IntKind.i64 (L.getD k SY.z).snd.snd.snd.fst), AV.val (Value.int IntKind.i64 (L.getD k SY.z).snd.snd.snd.snd.fst), AV.val (Value.int IntKind.i64 (L.getD k SY.z).snd.snd.snd.snd.snd)])) then
 bif pySy (odP (AV.agg [AV.ro (SE.con o.se) none, AV.ro (SY.con o.sy) none, AV.ro (RE.con o.re) none, AV.ro (FI.con o.fi) none, AV.ro (LI.con o.li) none])) (syParse [AV.val (Value.string (L.getD k SY.z).fst), AV.val (Value.int IntKind.i64 (L.getD k SY.z).snd.fst), AV.val (Value.int IntKind.u32 (L.getD k SY.z).snd.snd.fst), AV.val (Value.int IntKind.i64 (L.getD k SY.z).snd.snd.snd.fst), AV.val (Value.int IntKind.i64 (L.getD k SY.z).snd.snd.snd.snd.fst), AV.val (Value.int IntKind.i64 (L.getD k SY.z).snd.snd.snd.snd.snd)]) then
 some (.normal, stOf 19 [0, 1, 7, 8] [.ro (.tab 6 (L.length) (fun i => SY.row (L.getD i SY.z))) none, .clo (Fn.func 156) [] [.rptr (.rows true 5 ([.ro (.tab 5 (o.se.length) (fun i => SE.row (o.se.getD i SE.z))) none, .ro (.tab 6 (o.sy.length) (fun i => SY.row (o.sy.getD i SY.z))) none, .ro (.tab 5 (o.re.length) (fun i => RE.row (o.re.getD i RE.z))) none, .ro (.tab 1 (o.fi.length) (fun i => FI.row (o.fi.getD i FI.z))) none, .ro (.tab 4 (o.li.length) (fun i => LI.row (o.li.getD i LI.z))) none] :: [])) (0) (0)], .val (.int .i64 ((↑L.length : Int))), .val (.int .i64 (IntKind.i64.wrap ((↑k : Int) + 1)))] ⟨0, []⟩)
 else
 some (.ret, stOf 19 [4] [.val (.int .i64 (↑k : Int))] ⟨0, []⟩)
 else
 none
 else
 none
 else
 some (.exit 0, stOf 19 [] [] ⟨0, []⟩) := by kernel_rfl
theorem Tryz.wPx (o : OD) (L : List SymD) : rootS Tryz.EPx 6 85 (lsumsOf [(2, Tryz.LPx o L)]) [.ro (SY.con L) none, Tryz.cloPx o] =
 bif isSt (stOf 19 [0, 1, 7, 8] (Tryz.Vpx o L 0) { next := 0, es := [] }) (stOf 19 [0, 1, 7, 8] (Tryz.Vpx o L 0) { next := 0, es := [] }) then
 bif (ixN (pPx o L) L.length).isSome then
 some (.val (.int .i64 (Int.ofNat ((ixN (pPx o L) L.length).getD 0))), ⟨0, []⟩)
 else
 some (.val (.int .i64 (-1)), ⟨0, []⟩)
 else
 none := by kernel_rfl
end Go.Ev
/- Symbols, as the program checks them. -/
namespace Go.Ev
open Go.Proofs
theorem Tryz.ePx : EnvOk2 Tryz.prog Tryz.EPx := Tryz.envOk false (sumsOf Tryz.tPx) _ (sumsOf_ok (show AllS Tryz.prog Tryz.tPx from ⟨Tryz.sumPy, trivial⟩))
theorem Tryz.sPx (o : OD) (L : List SymD) (hi : pxInv o L) (k : Nat) (hk : k ≤ L.length) : Tryz.BPx (stOf 19 [0, 1, 7, 8] (Tryz.Vpx o L k) ⟨0, []⟩) =
    bif decide (k < L.length) then (bif pPx o L k then some (.ret, ixX 19 4 k) else some (.normal, stOf 19 [0, 1, 7, 8] (Tryz.Vpx o L (k + 1)) ⟨0, []⟩)) else some (.exit 0, stOf 19 [] [] ⟨0, []⟩) := by
  obtain ⟨h1, h2, h3⟩ := hi
  have key := Tryz.rPx o L k
  rw [declt_nat, inR_nat, wrapS k (by omega)] at key
  refine key.trans ?_
  by_cases h : k < L.length
  · rw [decide_eq_true h]
    simp only [cond_true]
    rw [show AV.agg [AV.ro (SE.con o.se) none, AV.ro (SY.con o.sy) none, AV.ro (RE.con o.re) none, AV.ro (FI.con o.fi) none, AV.ro (LI.con o.li) none] = .agg o.row from rfl, odP_row, odIs_row, sy_eta,
      show syIs [AV.val (Value.string (L.getD k SY.z).fst), AV.val (Value.int IntKind.i64 (L.getD k SY.z).snd.fst), AV.val (Value.int IntKind.u32 (L.getD k SY.z).snd.snd.fst), AV.val (Value.int IntKind.i64 (L.getD k SY.z).snd.snd.snd.fst), AV.val (Value.int IntKind.i64 (L.getD k SY.z).snd.snd.snd.snd.fst), AV.val (Value.int IntKind.i64 (L.getD k SY.z).snd.snd.snd.snd.snd)] = true from rfl,
      propB_t (show seBound o.se ∧ syBound (L.getD k SY.z) from ⟨h2, h3 _ (getD_mem h)⟩)]
    unfold pPx
    cases pySy o (L.getD k SY.z) <;> rfl
  · rw [decide_eq_false h]; rfl
theorem Tryz.lPx (o : OD) (L : List SymD) (hi : pxInv o L) : ∀ s e s', s.h.ok → (Tryz.LPx o L s).run = some (e, s') → Triple Tryz.prog (.loop Tryz.bPx) s e s' :=
  ix_law Tryz.ePx (d := 6) (g := 85) (c := Tryz.bPx) rfl 19 4 0 [0, 1, 7, 8] (Tryz.Vpx o L) (pPx o L) L.length (fun k hk => Tryz.sPx o L hi k hk)
def pxS (args : List AV) : Ans (AV × Heap) := match args with
  | [.ro c cap, .clo (.func 156) [] [.rptr (.rows true 5 [r]) 0 0]] => .grd ((SY.ok c && odIs (.agg r)) && propB (pxInv (odP (.agg r)) (SY.list c))) (ixO (ixN (pPx (odP (.agg r)) (SY.list c)) (SY.list c).length))
  | _ => .no
theorem Tryz.sumPx : SumC Tryz.prog 85 (pureA (fun args => pxS (nzs [SY.con []] args))) := by
  refine pureSumR 85 ⟨Tryz.f85, _, Tryz.fnOk85.1, Tryz.fnOk85.2, rfl⟩ ?_
  intro args v h2 hs
  refine Alone.nz (cs := [SY.con []]) (by simp [Con.len, RowTy.con]) ?_
  replace hs : (pxS (nzs [SY.con []] args)).run = some (v, h2) := hs
  generalize nzs [SY.con []] args = args' at hs ⊢
  unfold pxS at hs
  split at hs
  · rename_i c cap r
    rw [Ans.run_grd] at hs
    cases hb : ((SY.ok c && odIs (.agg r)) && propB (pxInv (odP (.agg r)) (SY.list c))) with
    | false => rw [hb] at hs; cases hs
    | true =>
    rw [hb, cond_true] at hs
    simp only [Bool.and_eq_true] at hb
    have hi := propB_eq hb.2
    refine Alone.argsW (AWs.args (.cons (SY.aw hb.1.1 cap) (.cons (AW.clo .nil (.cons (AW.rptr (od_con hb.1.2) 0 0) .nil)) .nil))) ?_
    refine rootS_alone Tryz.ePx (d := 6) (g := 85) (ls := lsumsOf [(2, Tryz.LPx (odP (.agg r)) (SY.list c))]) (AllL.of1 (a := Tryz.bPx) (by kernel_rfl) (LsOk.of rfl rfl (Tryz.lPx _ _ hi))) ((Tryz.wPx _ _).trans ?_)
    rw [isSt_refl, cond_true]
    exact hs
  · cases hs
def Tryz.tPo : List (Nat × AFun) := [(154, pureA (fun args => dfDy (nzs [SY.con []] args))), (85, pureA (fun args => pxS (nzs [SY.con []] args)))]
def Tryz.EPo : Env := Tryz.env0 false (sumsOf Tryz.tPo) (keepF 0 [])
theorem Tryz.wPo (o : OD) : rootS Tryz.EPo 6 110 (lsumsOf []) [o.av] =
 bif decide ((↑o.sy.length : Int) ≤ 500) then
 bif SY.ok (SY.con o.sy) && o.sy.length.ble 1000000 then
 bif allNew (nmDy (SY.list (SY.con o.sy))) (SY.list (SY.con o.sy)).length then
 bif SY.ok (SY.con o.sy) && odIs (AV.agg (AV.agg o.row).cells) && propB (pxInv (odP (AV.agg (AV.agg o.row).cells)) (SY.list (SY.con o.sy))) then
 bif (ixN (pPx (odP (AV.agg (AV.agg o.row).cells)) (SY.list (SY.con o.sy))) (SY.list (SY.con o.sy)).length).isSome then
 some (.val (.bool false), ⟨0, []⟩)
 else
 some (.val (.bool true), ⟨0, []⟩)
 else
 none
 else
 some (.val (.bool false), ⟨0, []⟩)
 else
 none
 else
 some (.val (.bool false), ⟨0, []⟩) := by kernel_rfl
theorem Tryz.ePo : EnvOk2 Tryz.prog Tryz.EPo := Tryz.envOk false (sumsOf Tryz.tPo) _ (sumsOf_ok (show AllS Tryz.prog Tryz.tPo from ⟨Tryz.sumDy, Tryz.sumPx, trivial⟩))
theorem not_not_all (n : Nat) (f : Nat → Bool) : allOk n (fun i => !(!(f i))) = allOk n f := allOk_congr (fun i _ => by cases f i <;> rfl)
theorem syms_split (o : OD) : allOk o.sy.length (symOk o) = (!(ixN (pPx o o.sy) o.sy.length).isSome && allNew (nmDy o.sy) o.sy.length) := by
  rw [ixN_some, Bool.not_not]
  refine (allOk_and _ _ _).trans ?_
  congr 1
  exact (not_not_all _ _).symm
theorem Tryz.sumPo : SumC Tryz.prog 110 (pureA symsS) := by
  refine pureSumR 110 ⟨Tryz.f110, _, Tryz.fnOk110.1, Tryz.fnOk110.2, rfl⟩ ?_
  intro args v h2 hs
  unfold symsS at hs
  split at hs
  · rename_i ov
    rw [Ans.run_grd] at hs
    cases hb : (odIs ov && propB (syInv (odP ov))) with
    | false => rw [hb] at hs; cases hs
    | true =>
    rw [hb, cond_true] at hs
    rw [Bool.and_eq_true] at hb
    injection hs with hs
    injection hs with q1 q2
    subst q1; subst q2
    refine Alone.argsW (AWs.args (.cons (od_aw hb.1) .nil)) ?_
    have hi := propB_eq hb.2
    generalize odP ov = o at hi ⊢
    refine rootS_alone Tryz.ePo (d := 6) (g := 110) (ls := lsumsOf []) (AllL.noL _) ((Tryz.wPo o).trans ?_)
    have hl : SY.list (SY.con o.sy) = o.sy := SY.list_con _
    rw [show AV.agg (AV.agg o.row).cells = .agg o.row from rfl, odP_row, odIs_row, hl, SY.ok_con, propB_t (show pxInv o o.sy from hi), ble_t hi.1]
    unfold symsB
    rw [syms_split]
    have e1 : decide ((o.sy.length : Int) ≤ 500) = decide (o.sy.length ≤ 500) := by rw [decide_eq_decide]; omega
    rw [e1]
    cases decide (o.sy.length ≤ 500) <;> cases (ixN (pPx o o.sy) o.sy.length).isSome <;> cases allNew (nmDy o.sy) o.sy.length <;> rfl
  · cases hs
end Go.Ev
/- Relocations, as the program checks them. -/
namespace Go.Ev
open Go.Proofs
theorem Tryz.wWo (k : Int) : rootS Tryz.ESm 6 107 (lsumsOf []) [.val (.int .i64 k)] =
 bif k == 2 then
 some (.val (.int .i64 2), ⟨0, []⟩)
 else
 bif k == 3 then
 some (.val (.int .i64 1), ⟨0, []⟩)
 else
 some (.val (.int .i64 4), ⟨0, []⟩) := by kernel_rfl
theorem Tryz.sumWo : SumC Tryz.prog 107 (pureA widS) := by
  refine pureSumR 107 ⟨Tryz.f107, _, Tryz.fnOk107.1, Tryz.fnOk107.2, rfl⟩ ?_
  intro args v h2 hs
  unfold widS at hs
  split at hs
  · rename_i k
    injection hs with hs
    injection hs with q1 q2
    subst q1; subst q2
    refine rootS_alone Tryz.eSm (d := 6) (g := 107) (ls := lsumsOf []) (AllL.noL _) ((Tryz.wWo k).trans ?_)
    unfold wdI
    by_cases h1 : k = 2
    · subst h1; rfl
    · rw [show (k == 2) = false from beq_eq_false_iff_ne.2 h1]
      by_cases h2 : k = 3
      · subst h2; rfl
      · rw [show (k == 3) = false from beq_eq_false_iff_ne.2 h2, if_neg h2, if_neg h1]; rfl
  · cases hs
def Tryz.tPr : List (Nat × AFun) := [(107, pureA widS)]
def Tryz.EPr : Env := Tryz.env0 false (sumsOf Tryz.tPr) (keepF 111 [(3, [1, 3, 4, 10, 11, 12])])
def Tryz.bPr : Code := nthD .skip (loopsOf (bodyOf Tryz.EPr 111)) 0
def Tryz.BPr (s : St) : Option (AX × St) := codeS Tryz.EPr (callF Tryz.EPr 6) (Tryz.EPr.keep 111) (lsumsOf []) Tryz.bPr (outK [1, 3, 4, 10, 11, 12] [1, 2]) s
def Vpr (o : OD) (u v : Int) (k : Nat) : List AV := [.ptr 0 0 0, .val (.int .i64 u), .val (.int .i64 v), .ro (RE.con o.re) none, .val (.int .i64 (o.re.length : Nat)), .val (.int .i64 k)]
def ruK (o : OD) : Nat → Int := Nat.rec 0 (fun k _ => (o.re.getD k RE.z).1)
def rvK (o : OD) : Nat → Int := Nat.rec 0 (fun k _ => (o.re.getD k RE.z).2.1 + wdI (o.re.getD k RE.z).2.2.1)
def zPr (o : OD) (k : Nat) : St := stOf 91 [1, 2] [.ptr 0 0 0, .val (.bool false)] (hO o)
def relQ (o : OD) (r : RelD) (u v : Int) : Prop := (u ≤ r.1 ∧ r.1 < (o.se.length : Int)) ∧ (1 ≤ r.2.2.1 ∧ r.2.2.1 ≤ 5) ∧ (0 ≤ r.2.2.2.1 ∧ r.2.2.2.1 < (o.sy.length : Int)) ∧ (-2147483648 ≤ r.2.2.2.2 ∧ r.2.2.2.2 ≤ 2147483647) ∧
  (u < r.1 → 0 ≤ r.2.1) ∧ (r.1 = u → v ≤ r.2.1) ∧ r.2.1 + wdI r.2.2.1 ≤ secLen o r.1
theorem Tryz.rPr (o : OD) (u v : Int) (k : Nat) : Tryz.BPr (stOf 91 [1, 3, 4, 10, 11, 12] (Vpr o u v k) (hO o)) =
 bif decide ((↑k : Int) < (↑o.re.length : Int)) then
 bif inR (↑k : Int) o.re.length then
 bif decide ((o.re.getD k RE.z).fst ≥ u) then
 bif decide ((o.re.getD k RE.z).fst ≤ IntKind.i64.wrap ((↑o.se.length : Int) - 1)) then
 bif decide ((o.re.getD k RE.z).snd.snd.fst ≥ 1) then
 bif decide ((o.re.getD k RE.z).snd.snd.fst ≤ 5) then
 bif decide ((o.re.getD k RE.z).snd.snd.snd.fst ≥ 0) then
 bif decide ((o.re.getD k RE.z).snd.snd.snd.fst ≤ IntKind.i64.wrap ((↑o.sy.length : Int) - 1)) then
 bif decide ((o.re.getD k RE.z).snd.snd.snd.snd ≥ -2147483648) then
 bif decide ((o.re.getD k RE.z).snd.snd.snd.snd ≤ 2147483647) then
 bif decide ((o.re.getD k RE.z).fst > u) then
 bif inR (o.re.getD k RE.z).fst o.se.length then
 bif decide ((o.re.getD k RE.z).snd.fst ≥ 0) then
 bif decide ((o.re.getD k RE.z).snd.fst ≤ (↑(o.se.getD (o.re.getD k RE.z).fst.toNat SE.z).snd.snd.snd.fst.length : Int)) then
 bif decide (IntKind.i64.wrap ((o.re.getD k RE.z).snd.fst + wdI (o.re.getD k RE.z).snd.snd.fst) > (↑(o.se.getD (o.re.getD k RE.z).fst.toNat SE.z).snd.snd.snd.fst.length : Int)) then
 some (.ret, stOf 91 [1, 2] [.ptr 0 0 0, .val (.bool false)] (hO o) )
 else
 some (.normal, stOf 91 [1, 3, 4, 10, 11, 12] [.ptr 0 0 0, .val (.int .i64 ((o.re.getD k RE.z).fst)), .val (.int .i64 (IntKind.i64.wrap ((o.re.getD k RE.z).snd.fst + wdI (o.re.getD k RE.z).snd.snd.fst))), .ro (.tab 5 (o.re.length) (fun i => RE.row (o.re.getD i RE.z))) none, .val (.int .i64 ((↑o.re.length : Int))), .val (.int .i64 (IntKind.i64.wrap ((↑k : Int) + 1)))] (hO o) )
 else
 some (.ret, stOf 91 [1, 2] [.ptr 0 0 0, .val (.bool false)] (hO o) )
 else
 some (.ret, stOf 91 [1, 2] [.ptr 0 0 0, .val (.bool false)] (hO o) )
 else
 none
 else
 bif inR u o.se.length then
 bif decide ((o.re.getD k RE.z).snd.fst ≥ v) then
 bif decide ((o.re.getD k RE.z).snd.fst ≤ (↑(o.se.getD u.toNat SE.z).snd.snd.snd.fst.length : Int)) then
 bif decide (IntKind.i64.wrap ((o.re.getD k RE.z).snd.fst + wdI (o.re.getD k RE.z).snd.snd.fst) > (↑(o.se.getD u.toNat SE.z).snd.snd.snd.fst.length : Int)) then
 some (.ret, stOf 91 [1, 2] [.ptr 0 0 0, .val (.bool false)] (hO o) )
 else
 some (.normal, stOf 91 [1, 3, 4, 10, 11, 12] [.ptr 0 0 0, .val (.int .i64 (u)), .val (.int .i64 (IntKind.i64.wrap ((o.re.getD k RE.z).snd.fst + wdI (o.re.getD k RE.z).snd.snd.fst))), .ro (.tab 5 (o.re.length) (fun i => RE.row (o.re.getD i RE.z))) none, .val (.int .i64 ((↑o.re.length : Int))), .val (.int .i64 (IntKind.i64.wrap ((↑k : Int) + 1)))] (hO o) )
 else
 some (.ret, stOf 91 [1, 2] [.ptr 0 0 0, .val (.bool false)] (hO o) )
 else
 some (.ret, stOf 91 [1, 2] [.ptr 0 0 0, .val (.bool false)] (hO o) )
 else
 none
 else
 some (.ret, stOf 91 [1, 2] [.ptr 0 0 0, .val (.bool false)] (hO o) )
 else
 some (.ret, stOf 91 [1, 2] [.ptr 0 0 0, .val (.bool false)] (hO o) )
 else
 some (.ret, stOf 91 [1, 2] [.ptr 0 0 0, .val (.bool false)] (hO o) )
 else
 some (.ret, stOf 91 [1, 2] [.ptr 0 0 0, .val (.bool false)] (hO o) )
 else
 some (.ret, stOf 91 [1, 2] [.ptr 0 0 0, .val (.bool false)] (hO o) )
 else
 some (.ret, stOf 91 [1, 2] [.ptr 0 0 0, .val (.bool false)] (hO o) )
 else
 some (.ret, stOf 91 [1, 2] [.ptr 0 0 0, .val (.bool false)] (hO o) )
 else
 some (.ret, stOf 91 [1, 2] [.ptr 0 0 0, .val (.bool false)] (hO o) )
 else
 none
 else
 some (.exit 0, stOf 91 [1] [.ptr 0 0 0] (hO o) ) := by kernel_rfl
theorem rel_uv (o : OD) (k : Nat) (hok : ∀ i, i < k → relOk o i = true) : (relP o k ↔ relQ o (o.re.getD k RE.z) (ruK o k) (rvK o k)) ∧ 0 ≤ ruK o k ∧ 0 ≤ rvK o k := by
  cases k with
  | zero =>
    refine ⟨?_, by show (0 : Int) ≤ 0; omega, by show (0 : Int) ≤ 0; omega⟩
    unfold relP relQ
    show _ ↔ (((0 : Int) ≤ _ ∧ _) ∧ _ ∧ _ ∧ _ ∧ ((0 : Int) < _ → _) ∧ (_ = (0 : Int) → (0 : Int) ≤ _) ∧ _)
    generalize o.re.getD 0 RE.z = r
    constructor
    · rintro ⟨h1, h2, h3, h4, h5, _⟩; exact ⟨h1, h2, h3, h4, fun _ => h5.1, fun _ => h5.1, h5.2⟩
    · rintro ⟨h1, h2, h3, h4, h5, h6, h7⟩
      refine ⟨h1, h2, h3, h4, ⟨?_, h7⟩, fun q => by omega⟩
      by_cases hz : r.1 = 0
      · exact h6 hz
      · exact h5 (by omega)
  | succ k =>
    have hp : relP o k := propB_eq (hok k (by omega))
    have e1 : ruK o (k + 1) = (o.re.getD k RE.z).1 := rfl
    have e2 : rvK o (k + 1) = (o.re.getD k RE.z).2.1 + wdI (o.re.getD k RE.z).2.2.1 := rfl
    have w := wdI_b (o.re.getD k RE.z).2.2.1
    have p1 := hp.1
    have p5 := hp.2.2.2.2.1
    rw [e1, e2]
    refine ⟨?_, p1.1, by omega⟩
    unfold relP relQ
    rw [show k + 1 - 1 = k from rfl]
    generalize o.re.getD k RE.z = p at *
    generalize o.re.getD (k + 1) RE.z = r
    constructor
    · rintro ⟨h1, h2, h3, h4, h5, h6⟩
      obtain ⟨h7, h8⟩ := h6 (by omega)
      exact ⟨⟨h7, h1.2⟩, h2, h3, h4, fun _ => h5.1, h8, h5.2⟩
    · rintro ⟨h1, h2, h3, h4, h5, h6, h7⟩
      refine ⟨⟨by omega, h1.2⟩, h2, h3, h4, ⟨?_, h7⟩, fun _ => ⟨h1.1, h6⟩⟩
      by_cases hz : r.1 = p.1
      · have := h6 hz; omega
      · exact h5 (by omega)
theorem Tryz.sPr (o : OD) (k : Nat) (ho : reInv o ∧ o.se.length ≤ 1000000 ∧ o.sy.length ≤ 1000000) (hk : k ≤ o.re.length) (hok : ∀ i, i < k → relOk o i = true) : Tryz.BPr (stOf 91 [1, 3, 4, 10, 11, 12] (Vpr o (ruK o k) (rvK o k) k) (hO o)) =
    bif decide (k < o.re.length) then (bif relOk o k then some (.normal, stOf 91 [1, 3, 4, 10, 11, 12] (Vpr o (ruK o (k + 1)) (rvK o (k + 1)) (k + 1)) (hO o)) else some (.ret, zPr o k)) else some (.exit 0, stOf 91 [1, 2] [.ptr 0 0 0, .unk] (hO o)) := by
  obtain ⟨⟨h1, h2⟩, h3, h4⟩ := ho
  obtain ⟨hQ, hu, hv⟩ := rel_uv o k hok
  have key := Tryz.rPr o (ruK o k) (rvK o k) k
  rw [declt_nat, inR_nat, wrapS k (by omega)] at key
  refine key.trans ?_
  by_cases h : k < o.re.length
  rotate_left
  · rw [decide_eq_false h]; rfl
  rw [decide_eq_true h]
  simp only [cond_true]
  have hrel : relOk o k = propB (relQ o (o.re.getD k RE.z) (ruK o k) (rvK o k)) := by
    unfold relOk; rw [propext hQ]
  rw [hrel]
  have e1 : ruK o (k + 1) = (o.re.getD k RE.z).1 := rfl
  have e2 : rvK o (k + 1) = (o.re.getD k RE.z).2.1 + wdI (o.re.getD k RE.z).2.2.1 := rfl
  rw [e1, e2]
  have w := wdI_b (o.re.getD k RE.z).2.2.1
  have hsl : ∀ i : Nat, i < o.se.length → (o.se.getD i SE.z).2.2.2.1.length ≤ 140737488355328 := fun i hi => h2 _ (getD_mem hi)
  rw [wrap64 ((o.se.length : Int) - 1) (by omega) (by omega), wrap64 ((o.sy.length : Int) - 1) (by omega) (by omega)]
  unfold relQ secLen
  generalize ruK o k = u at hu ⊢
  generalize rvK o k = v at hv ⊢
  generalize o.re.getD k RE.z = r at w ⊢
  obtain ⟨sec, off, kind, sym, add⟩ := r
  simp only at w ⊢
  have hs2 := hsl sec.toNat
  have hB : (some (AX.ret, stOf 91 [1, 2] [.ptr 0 0 0, .val (.bool false)] (hO o)) : Option (AX × St)) = some (.ret, zPr o k) := rfl
  rw [hB]
  generalize (some (AX.ret, zPr o k) : Option (AX × St)) = B
  have hA : off + wdI kind ≤ 140737488355328 → 0 ≤ off → (some (AX.normal, stOf 91 [1, 3, 4, 10, 11, 12] [.ptr 0 0 0, .val (.int .i64 sec), .val (.int .i64 (IntKind.i64.wrap (off + wdI kind))), .ro (.tab 5 (o.re.length) (fun i => RE.row (o.re.getD i RE.z))) none, .val (.int .i64 (o.re.length : Int)), .val (.int .i64 ((k + 1 : Nat) : Int))] (hO o)) : Option (AX × St)) = some (.normal, stOf 91 [1, 3, 4, 10, 11, 12] (Vpr o sec (off + wdI kind) (k + 1)) (hO o)) := fun q q' => by
    rw [wrap64 (off + wdI kind) (by omega) (by omega)]; rfl
  generalize hAA : (some (AX.normal, stOf 91 [1, 3, 4, 10, 11, 12] (Vpr o sec (off + wdI kind) (k + 1)) (hO o)) : Option (AX × St)) = A at hA ⊢
  rw [propB_ite]
  by_cases c1 : sec ≥ u
  rotate_left
  · rw [decide_eq_false c1, cond_false, if_neg (fun q => by omega)]
  rw [decide_eq_true c1, cond_true]
  by_cases c2 : sec ≤ (o.se.length : Int) - 1
  rotate_left
  · rw [decide_eq_false c2, cond_false, if_neg (fun q => by omega)]
  rw [decide_eq_true c2, cond_true]
  by_cases c3 : kind ≥ 1
  rotate_left
  · rw [decide_eq_false c3, cond_false, if_neg (fun q => by omega)]
  rw [decide_eq_true c3, cond_true]
  by_cases c4 : kind ≤ 5
  rotate_left
  · rw [decide_eq_false c4, cond_false, if_neg (fun q => by omega)]
  rw [decide_eq_true c4, cond_true]
  by_cases c5 : sym ≥ 0
  rotate_left
  · rw [decide_eq_false c5, cond_false, if_neg (fun q => by omega)]
  rw [decide_eq_true c5, cond_true]
  by_cases c6 : sym ≤ (o.sy.length : Int) - 1
  rotate_left
  · rw [decide_eq_false c6, cond_false, if_neg (fun q => by omega)]
  rw [decide_eq_true c6, cond_true]
  by_cases c7 : add ≥ -2147483648
  rotate_left
  · rw [decide_eq_false c7, cond_false, if_neg (fun q => by omega)]
  rw [decide_eq_true c7, cond_true]
  by_cases c8 : add ≤ 2147483647
  rotate_left
  · rw [decide_eq_false c8, cond_false, if_neg (fun q => by omega)]
  rw [decide_eq_true c8, cond_true]
  have hs3 := hs2 (by omega)
  by_cases d : sec > u
  · rw [decide_eq_true d, cond_true, inR_prop.2 ⟨by omega, by omega⟩, cond_true]
    by_cases c9 : off ≥ 0
    rotate_left
    · rw [decide_eq_false c9, cond_false, if_neg (fun q => c9 (q.2.2.2.2.1 d))]
    rw [decide_eq_true c9, cond_true]
    by_cases c10 : off ≤ ((o.se.getD sec.toNat SE.z).snd.snd.snd.fst.length : Int)
    rotate_left
    · rw [decide_eq_false c10, cond_false, if_neg (fun q => by have := q.2.2.2.2.2.2; omega)]
    rw [decide_eq_true c10, cond_true]
    by_cases c11 : off + wdI kind > ((o.se.getD sec.toNat SE.z).snd.snd.snd.fst.length : Int)
    · rw [wrap64 (off + wdI kind) (by omega) (by omega), decide_eq_true c11, cond_true, if_neg (fun q => by have := q.2.2.2.2.2.2; omega)]
    · rw [if_pos ⟨by omega, by omega, by omega, by omega, fun _ => c9, fun q => by omega, by omega⟩, ← hA (by omega) (by omega), wrap64 (off + wdI kind) (by omega) (by omega), decide_eq_false c11, cond_false]
  · have hse : u = sec := by omega
    subst hse
    rw [decide_eq_false d, cond_false, inR_prop.2 ⟨by omega, by omega⟩, cond_true]
    by_cases c9 : off ≥ v
    rotate_left
    · rw [decide_eq_false c9, cond_false, if_neg (fun q => c9 (q.2.2.2.2.2.1 rfl))]
    rw [decide_eq_true c9, cond_true]
    by_cases c10 : off ≤ ((o.se.getD u.toNat SE.z).snd.snd.snd.fst.length : Int)
    rotate_left
    · rw [decide_eq_false c10, cond_false, if_neg (fun q => by have := q.2.2.2.2.2.2; omega)]
    rw [decide_eq_true c10, cond_true]
    by_cases c11 : off + wdI kind > ((o.se.getD u.toNat SE.z).snd.snd.snd.fst.length : Int)
    · rw [wrap64 (off + wdI kind) (by omega) (by omega), decide_eq_true c11, cond_true, if_neg (fun q => by have := q.2.2.2.2.2.2; omega)]
    · rw [if_pos ⟨by omega, by omega, by omega, by omega, fun q => absurd q d, fun _ => c9, by omega⟩, ← hA (by omega) (by omega), wrap64 (off + wdI kind) (by omega) (by omega), decide_eq_false c11, cond_false]
def prInv (o : OD) : Prop := reInv o ∧ o.se.length ≤ 1000000 ∧ o.sy.length ≤ 1000000
def fPr (vs : List AV) (h : Heap) : Ans (AX × List AV × Heap) := match vs, h with
  | [.ptr 0 0 0, .val (.int .i64 (.ofNat 0)), .val (.int .i64 (.ofNat 0)), .ro c cap, .val (.int .i64 n), .val (.int .i64 (.ofNat 0))], ⟨1, [⟨0, 0, .cells (.rows true 5 [r])⟩]⟩ =>
    .grd ((odIs (.agg r) && RE.ok c) && (propB (RE.list c = (odP (.agg r)).re ∧ prInv (odP (.agg r))) && (n == (((odP (.agg r)).re.length : Nat) : Int)))) (.br (allOk (odP (.agg r)).re.length (relOk (odP (.agg r)))) (.out (.exit 0, [.ptr 0 0 0, .unk], hO (odP (.agg r)))) (.out (.ret, [.unk, .val (.bool false)], ⟨0, []⟩)))
  | _, _ => .no
def LPr : LSum := toLSum 91 [1, 3, 4, 10, 11, 12] [1, 2] fPr
def prelS (args : List AV) : Ans (AV × Heap) := match args with
  | [o] => .grd (odIs o && propB (prInv (odP o))) (.out (.val (.bool (relsB (odP o))), ⟨0, []⟩))
  | _ => .no
theorem Tryz.ePr : EnvOk2 Tryz.prog Tryz.EPr := Tryz.envOk false (sumsOf Tryz.tPr) _ (sumsOf_ok (show AllS Tryz.prog Tryz.tPr from ⟨Tryz.sumWo, trivial⟩))
theorem Tryz.lPr : ∀ s e s', s.h.ok → (LPr s).run = some (e, s') → Triple Tryz.prog (.loop Tryz.bPr) s e s' := by
  refine scan_lawW Tryz.ePr (d := 6) (g := 111) (ls := lsumsOf []) (c := Tryz.bPr) trivial 91 [1, 3, 4, 10, 11, 12] [1, 2] (T := OD) (fun o k => Vpr o (ruK o k) (rvK o k) k) hO (fun o => o.re.length) relOk prInv
    (fun o => (.exit 0, [.ptr 0 0 0, .unk], hO o)) (fun _ => (.ret, [.unk, .val (.bool false)], ⟨0, []⟩)) fPr ?_ (fun o _ => hO_ok o) (fun _ _ => ⟨by simp, by simp⟩) (fun o _ => ⟨hO_ok o, heap0_ok⟩) zPr ?_ (fun o k hL hk hok => Tryz.sPr o k hL hk hok)
  · intro vs h e vo h' hok hf
    unfold fPr at hf
    split at hf
    · rename_i c cap n r
      rw [Ans.run_grd] at hf
      cases hb : ((odIs (.agg r) && RE.ok c) && (propB (RE.list c = (odP (.agg r)).re ∧ prInv (odP (.agg r))) && (n == (((odP (.agg r)).re.length : Nat) : Int)))) with
      | false => rw [hb] at hf; cases hf
      | true =>
        rw [hb, cond_true, Ans.run_br] at hf
        simp only [Bool.and_eq_true, beq_iff_eq] at hb
        obtain ⟨⟨b1, b2⟩, b3, b4⟩ := hb
        obtain ⟨b5, b6⟩ := propB_eq b3
        refine ⟨odP (.agg r), b6, ?_, ?_⟩
        · refine Weak.trans (Weak.slots (oneH_ok _) ?_) (Weak.oneH rfl (od_con b1))
          rw [b4]
          have := RE.aw b2 cap
          rw [b5] at this
          exact .cons (AW.refl _) (.cons (AW.refl _) (.cons (AW.refl _) (.cons this (AWs.refl _))))
        · cases hq : allOk (odP (.agg r)).re.length (relOk (odP (.agg r))) with
          | true => rw [hq] at hf; injection hf
          | false => rw [hq] at hf; injection hf
    · cases hf
  · intro o k _
    have h := Weak.canon (s := zPr o k) (hO_ok o) [2]
    have e : canon (some [2]) (zPr o k) = stOf 91 [1, 2] [.unk, .val (.bool false)] ⟨0, []⟩ := by kernel_rfl
    rw [e] at h
    exact h
theorem Tryz.wPr (o : OD) : rootS Tryz.EPr 6 111 (lsumsOf [(3, LPr)]) [o.av] =
 bif odIs (AV.agg (AV.agg o.row).cells) && RE.ok (RE.con o.re) && (propB (RE.list (RE.con o.re) = (odP (AV.agg (AV.agg o.row).cells)).re ∧ prInv (odP (AV.agg (AV.agg o.row).cells))) && (↑o.re.length : Int) == (↑(odP (AV.agg (AV.agg o.row).cells)).re.length : Int)) then
 bif allOk (odP (AV.agg (AV.agg o.row).cells)).re.length (relOk (odP (AV.agg (AV.agg o.row).cells))) then
 bif decide ((↑(odP (AV.agg (AV.agg o.row).cells)).re.length : Int) ≤ 2000) then
 some (.val (.bool true), ⟨0, []⟩)
 else
 some (.val (.bool false), ⟨0, []⟩)
 else
 some (.val (.bool false), ⟨0, []⟩)
 else
 none := by kernel_rfl
theorem Tryz.sumPr : SumC Tryz.prog 111 (pureA prelS) := by
  refine pureSumR 111 ⟨Tryz.f111, _, Tryz.fnOk111.1, Tryz.fnOk111.2, rfl⟩ ?_
  intro args v h2 hs
  unfold prelS at hs
  split at hs
  · rename_i ov
    rw [Ans.run_grd] at hs
    cases hb : (odIs ov && propB (prInv (odP ov))) with
    | false => rw [hb] at hs; cases hs
    | true =>
    rw [hb, cond_true] at hs
    rw [Bool.and_eq_true] at hb
    injection hs with hs
    injection hs with q1 q2
    subst q1; subst q2
    refine Alone.argsW (AWs.args (.cons (od_aw hb.1) .nil)) ?_
    have hi := propB_eq hb.2
    generalize odP ov = o at hi ⊢
    refine rootS_alone Tryz.ePr (d := 6) (g := 111) (ls := lsumsOf [(3, LPr)]) (AllL.of1 (a := Tryz.bPr) (by kernel_rfl) (LsOk.of rfl rfl Tryz.lPr)) ((Tryz.wPr o).trans ?_)
    have hl : RE.list (RE.con o.re) = o.re := RE.list_con _
    rw [show AV.agg (AV.agg o.row).cells = .agg o.row from rfl, odP_row, odIs_row, hl, propB_t (show o.re = o.re ∧ prInv o from ⟨rfl, hi⟩), RE.ok_con, beq_self_eq_true]
    unfold relsB
    simp only [Bool.and_self, cond_true]
    have e1 : decide ((o.re.length : Int) ≤ 2000) = decide (o.re.length ≤ 2000) := by rw [decide_eq_decide]; omega
    rw [e1]
    cases allOk o.re.length (relOk o) <;> cases decide (o.re.length ≤ 2000) <;> rfl
  · cases hs
end Go.Ev
/- Line tables, as the program checks them. -/
namespace Go.Ev
open Go.Proofs
def cmpI (a b : Int) : Int := if a < b then -1 else if a > b then 1 else 0
def cmpS (args : List AV) : Ans (AV × Heap) := match args with
  | [.val (.int .i64 a), .val (.int .i64 b)] => .out (.val (.int .i64 (cmpI a b)), ⟨0, []⟩)
  | _ => .no
theorem Tryz.wCi (a b : Int) : rootS Tryz.ESm 6 84 (lsumsOf []) [.val (.int .i64 a), .val (.int .i64 b)] =
 bif a != a then
 bif b != b then
 some (.val (.int .i64 0), ⟨0, []⟩)
 else
 some (.val (.int .i64 (-1)), ⟨0, []⟩)
 else
 bif b != b then
 some (.val (.int .i64 1), ⟨0, []⟩)
 else
 bif decide (a < b) then
 some (.val (.int .i64 (-1)), ⟨0, []⟩)
 else
 bif decide (a > b) then
 some (.val (.int .i64 1), ⟨0, []⟩)
 else
 some (.val (.int .i64 0), ⟨0, []⟩) := by kernel_rfl
theorem Tryz.sumCi : SumC Tryz.prog 84 (pureA cmpS) := by
  refine pureSumR 84 ⟨Tryz.f84, _, Tryz.fnOk84.1, Tryz.fnOk84.2, rfl⟩ ?_
  intro args v h2 hs
  unfold cmpS at hs
  split at hs
  · rename_i a b
    injection hs with hs
    injection hs with q1 q2
    subst q1; subst q2
    refine rootS_alone Tryz.eSm (d := 6) (g := 84) (ls := lsumsOf []) (AllL.noL _) ((Tryz.wCi a b).trans ?_)
    have n1 : ∀ x : Int, (x != x) = false := fun x => by simp
    rw [n1, n1]
    unfold cmpI
    by_cases h1 : a < b
    · rw [decide_eq_true h1, if_pos h1]; rfl
    · rw [decide_eq_false h1, if_neg h1]
      by_cases h2 : a > b
      · rw [decide_eq_true h2, if_pos h2]; rfl
      · rw [decide_eq_false h2, if_neg h2]; rfl
  · cases hs
def plI (a b : LinD) : Int := if cmpI a.1 b.1 = 0 then cmpI a.2.1 b.2.1 else cmpI a.1 b.1
def plS (args : List AV) : Ans (AV × Heap) := match args with
  | [.agg r, .agg q] => .grd (liIs r && liIs q) (.out (.val (.int .i64 (plI (liParse r) (liParse q))), ⟨0, []⟩))
  | _ => .no
def Tryz.tPl : List (Nat × AFun) := [(84, pureA cmpS)]
def Tryz.EPl : Env := Tryz.env0 false (sumsOf Tryz.tPl) (keepF 0 [])
def etS (args : List AV) : Ans (AV × Heap) := match args with
  | [.agg r] => .grd (liIs r) (.out (.val (.bool (propB (entP (liParse r)))), ⟨0, []⟩))
  | _ => .no
theorem Tryz.wPl (a b : LinD) : rootS Tryz.EPl 6 101 (lsumsOf []) [.agg (liRow a), .agg (liRow b)] =
 bif [cmpI a.fst b.fst, cmpI a.snd.fst b.snd.fst].getD 0 0 != 0 then
 some (.val (.int .i64 ([cmpI a.fst b.fst, cmpI a.snd.fst b.snd.fst].getD 0 0)), ⟨0, []⟩)
 else
 bif [cmpI a.fst b.fst, cmpI a.snd.fst b.snd.fst].getD 1 0 != 0 then
 some (.val (.int .i64 ([cmpI a.fst b.fst, cmpI a.snd.fst b.snd.fst].getD 1 0)), ⟨0, []⟩)
 else
 some (.val (.int .i64 0), ⟨0, []⟩) := by kernel_rfl
theorem Tryz.wEt (a : LinD) : rootS Tryz.ESm 6 150 (lsumsOf []) [.agg (liRow a)] =
 bif decide (a.fst ≥ 0) then
 bif decide (a.fst ≤ 15) then
 bif decide (a.snd.fst ≥ 0) then
 bif decide (a.snd.fst ≤ 65535) then
 bif decide (a.snd.snd.fst ≥ 0) then
 bif decide (a.snd.snd.fst ≤ 19) then
 bif decide (a.snd.snd.snd ≥ 0) then
 bif decide (a.snd.snd.snd ≤ 1048576) then
 some (.val (.bool true), ⟨0, []⟩)
 else
 some (.val (.bool false), ⟨0, []⟩)
 else
 some (.val (.bool false), ⟨0, []⟩)
 else
 some (.val (.bool false), ⟨0, []⟩)
 else
 some (.val (.bool false), ⟨0, []⟩)
 else
 some (.val (.bool false), ⟨0, []⟩)
 else
 some (.val (.bool false), ⟨0, []⟩)
 else
 some (.val (.bool false), ⟨0, []⟩)
 else
 some (.val (.bool false), ⟨0, []⟩) := by kernel_rfl
theorem li_aws {r : List AV} (h : liIs r = true) : AWs r (liRow (liParse r)) := by
  unfold liIs at h
  split at h
  · exact AWs.refl _
  · cases h
theorem Tryz.ePl : EnvOk2 Tryz.prog Tryz.EPl := Tryz.envOk false (sumsOf Tryz.tPl) _ (sumsOf_ok (show AllS Tryz.prog Tryz.tPl from ⟨Tryz.sumCi, trivial⟩))
theorem Tryz.sumPl : SumC Tryz.prog 101 (pureA plS) := by
  refine pureSumR 101 ⟨Tryz.f101, _, Tryz.fnOk101.1, Tryz.fnOk101.2, rfl⟩ ?_
  intro args v h2 hs
  unfold plS at hs
  split at hs
  · rename_i r q
    rw [Ans.run_grd] at hs
    cases hb : (liIs r && liIs q) with
    | false => rw [hb] at hs; cases hs
    | true =>
    rw [hb, cond_true] at hs
    rw [Bool.and_eq_true] at hb
    injection hs with hs
    injection hs with q1 q2
    subst q1; subst q2
    refine Alone.argsW (AWs.args (.cons (AW.agg (li_aws hb.1)) (.cons (AW.agg (li_aws hb.2)) .nil))) ?_
    refine rootS_alone Tryz.ePl (d := 6) (g := 101) (ls := lsumsOf []) (AllL.noL _) ((Tryz.wPl _ _).trans ?_)
    show (bif cmpI (liParse r).1 (liParse q).1 != 0 then some (AV.val (.int .i64 (cmpI (liParse r).1 (liParse q).1)), (⟨0, []⟩ : Heap)) else bif cmpI (liParse r).2.1 (liParse q).2.1 != 0 then some (AV.val (.int .i64 (cmpI (liParse r).2.1 (liParse q).2.1)), (⟨0, []⟩ : Heap)) else some (AV.val (.int .i64 0), (⟨0, []⟩ : Heap))) = _
    unfold plI
    by_cases h1 : cmpI (liParse r).1 (liParse q).1 = 0
    · rw [h1]
      by_cases h2 : cmpI (liParse r).2.1 (liParse q).2.1 = 0
      · rw [h2]; rfl
      · rw [show (cmpI (liParse r).2.1 (liParse q).2.1 != 0) = true from bne_iff_ne.2 h2]; rfl
    · rw [show (cmpI (liParse r).1 (liParse q).1 != 0) = true from bne_iff_ne.2 h1, if_neg h1]; rfl
  · cases hs
theorem Tryz.sumEt : SumC Tryz.prog 150 (pureA etS) := by
  refine pureSumR 150 ⟨Tryz.f150, _, Tryz.fnOk150.1, Tryz.fnOk150.2, rfl⟩ ?_
  intro args v h2 hs
  unfold etS at hs
  split at hs
  · rename_i r
    rw [Ans.run_grd] at hs
    cases hb : liIs r with
    | false => rw [hb] at hs; cases hs
    | true =>
    rw [hb, cond_true] at hs
    injection hs with hs
    injection hs with q1 q2
    subst q1; subst q2
    refine Alone.argsW (AWs.args (.cons (AW.agg (li_aws hb)) .nil)) ?_
    refine rootS_alone Tryz.eSm (d := 6) (g := 150) (ls := lsumsOf []) (AllL.noL _) ((Tryz.wEt _).trans ?_)
    rw [bB (propB (entP (liParse r))) (fun b => some (AV.val (.bool b), (⟨0, []⟩ : Heap))), propB_ite]
    unfold entP
    generalize (some (AV.val (.bool true), (⟨0, []⟩ : Heap))) = A
    generalize (some (AV.val (.bool false), (⟨0, []⟩ : Heap))) = B
    simp only [condI, decide_eq_true_eq]
    repeat' split
    all_goals first | rfl | (exfalso; omega)
  · cases hs
def Tryz.tPt : List (Nat × AFun) := [(101, pureA plS), (150, pureA etS)]
def Tryz.EPt : Env := Tryz.env0 false (sumsOf Tryz.tPt) (keepF 104 [(2, [0, 5, 6, 7])])
def Tryz.bPt : Code := nthD .skip (loopsOf (bodyOf Tryz.EPt 104)) 0
def Tryz.BPt (s : St) : Option (AX × St) := codeS Tryz.EPt (callF Tryz.EPt 6) (Tryz.EPt.keep 104) (lsumsOf []) Tryz.bPt (outK [0, 5, 6, 7] [0, 2]) s
def Vpt (L : List LinD) (k : Nat) : List AV := [.ro (LI.con L) none, .ro (LI.con L) none, .val (.int .i64 (L.length : Nat)), .val (.int .i64 k)]
theorem Tryz.rPt (L : List LinD) (k : Nat) : Tryz.BPt (stOf 43 [0, 5, 6, 7] (Vpt L k) ⟨0, []⟩) =
 bif decide ((↑k : Int) < (↑L.length : Int)) then
 bif inR (↑k : Int) L.length then
 bif propB (entP (liParse [AV.val (Value.int IntKind.i64 (L.getD k LI.z).fst), AV.val (Value.int IntKind.i64 (L.getD k LI.z).snd.fst), AV.val (Value.int IntKind.i64 (L.getD k LI.z).snd.snd.fst), AV.val (Value.int IntKind.i64 (L.getD k LI.z).snd.snd.snd)])) then
 bif (L.getD k LI.z).snd.snd.snd == 0 then
 bif (L.getD k LI.z).snd.snd.fst != 0 then
 some (.ret, stOf 43 [0, 2] [.ro (LI.con L) none, .val (.bool false)] ⟨0, []⟩)
 else
 bif decide ((↑k : Int) > 0) then
 bif inR (IntKind.i64.wrap ((↑k : Int) - 1)) L.length then
 bif decide (plI (liParse [AV.val (Value.int IntKind.i64 (L.getD (IntKind.i64.wrap ((↑k : Int) - 1)).toNat LI.z).fst), AV.val (Value.int IntKind.i64 (L.getD (IntKind.i64.wrap ((↑k : Int) - 1)).toNat LI.z).snd.fst), AV.val (Value.int IntKind.i64 (L.getD (IntKind.i64.wrap ((↑k : Int) - 1)).toNat LI.z).snd.snd.fst), AV.val (Value.int IntKind.i64 (L.getD (IntKind.i64.wrap ((↑k : Int) - 1)).toNat LI.z).snd.snd.snd)]) (liParse [AV.val (Value.int IntKind.i64 (L.getD k LI.z).fst), AV.val (Value.int IntKind.i64 (L.getD k LI.z).snd.fst), AV.val (Value.int IntKind.i64 (L.getD k LI.z).snd.snd.fst), AV.val (Value.int IntKind.i64 (L.getD k LI.z).snd.snd.snd)]) ≥ 0) then
 some (.ret, stOf 43 [0, 2] [.ro (LI.con L) none, .val (.bool false)] ⟨0, []⟩)
 else
 some (.normal, stOf 43 [0, 5, 6, 7] [.ro (LI.con L) none, .ro (LI.con L) none, .val (.int .i64 ((↑L.length : Int))), .val (.int .i64 (IntKind.i64.wrap ((↑k : Int) + 1)))] ⟨0, []⟩)
 else
 none
 else
 some (.normal, stOf 43 [0, 5, 6, 7] [.ro (LI.con L) none, .ro (LI.con L) none, .val (.int .i64 ((↑L.length : Int))), .val (.int .i64 (IntKind.i64.wrap ((↑k : Int) + 1)))] ⟨0, []⟩)
 else
 bif decide ((↑k : Int) > 0) then
 bif inR (IntKind.i64.wrap ((↑k : Int) - 1)) L.length then
 bif decide (plI (liParse [AV.val (Value.int IntKind.i64 (L.getD (IntKind.i64.wrap ((↑k : Int) - 1)).toNat LI.z).fst), AV.val (Value.int IntKind.i64 (L.getD (IntKind.i64.wrap ((↑k : Int) - 1)).toNat LI.z).snd.fst), AV.val (Value.int IntKind.i64 (L.getD (IntKind.i64.wrap ((↑k : Int) - 1)).toNat LI.z).snd.snd.fst), AV.val (Value.int IntKind.i64 (L.getD (IntKind.i64.wrap ((↑k : Int) - 1)).toNat LI.z).snd.snd.snd)]) (liParse [AV.val (Value.int IntKind.i64 (L.getD k LI.z).fst), AV.val (Value.int IntKind.i64 (L.getD k LI.z).snd.fst), AV.val (Value.int IntKind.i64 (L.getD k LI.z).snd.snd.fst), AV.val (Value.int IntKind.i64 (L.getD k LI.z).snd.snd.snd)]) ≥ 0) then
 some (.ret, stOf 43 [0, 2] [.ro (LI.con L) none, .val (.bool false)] ⟨0, []⟩)
 else
 some (.normal, stOf 43 [0, 5, 6, 7] [.ro (LI.con L) none, .ro (LI.con L) none, .val (.int .i64 ((↑L.length : Int))), .val (.int .i64 (IntKind.i64.wrap ((↑k : Int) + 1)))] ⟨0, []⟩)
 else
 none
 else
 some (.normal, stOf 43 [0, 5, 6, 7] [.ro (LI.con L) none, .ro (LI.con L) none, .val (.int .i64 ((↑L.length : Int))), .val (.int .i64 (IntKind.i64.wrap ((↑k : Int) + 1)))] ⟨0, []⟩)
 else
 some (.ret, stOf 43 [0, 2] [.ro (LI.con L) none, .val (.bool false)] ⟨0, []⟩)
 else
 none
 else
 some (.exit 0, stOf 43 [0] [.ro (LI.con L) none] ⟨0, []⟩) := by kernel_rfl
theorem pl_neg (p x : LinD) : plI p x ≥ 0 ↔ ¬ (p.1 ≤ x.1 ∧ (x.1 = p.1 → p.2.1 < x.2.1)) := by
  unfold plI cmpI
  repeat' split
  all_goals omega
theorem li_eta (x : LinD) : liParse [.val (.int .i64 x.1), .val (.int .i64 x.2.1), .val (.int .i64 x.2.2.1), .val (.int .i64 x.2.2.2)] = x := rfl
theorem Tryz.sPt (L : List LinD) (k : Nat) (hL : L.length ≤ 1000000) (hk : k ≤ L.length) : Tryz.BPt (stOf 43 [0, 5, 6, 7] (Vpt L k) ⟨0, []⟩) =
    bif decide (k < L.length) then (bif linOk L k then some (.normal, stOf 43 [0, 5, 6, 7] (Vpt L (k + 1)) ⟨0, []⟩) else some (.ret, stOf 43 [0, 2] [.ro (LI.con L) none, .val (.bool false)] ⟨0, []⟩)) else some (.exit 0, stOf 43 [0, 2] [.ro (LI.con L) none, .unk] ⟨0, []⟩) := by
  have key := Tryz.rPt L k
  rw [declt_nat, inR_nat, wrapS k (by omega), li_eta, li_eta] at key
  refine key.trans ?_
  by_cases h : k < L.length
  rotate_left
  · rw [decide_eq_false h]; rfl
  rw [decide_eq_true h]
  simp only [cond_true]
  have hA : (some (AX.normal, stOf 43 [0, 5, 6, 7] [.ro (LI.con L) none, .ro (LI.con L) none, .val (.int .i64 (L.length : Int)), .val (.int .i64 ((k + 1 : Nat) : Int))] ⟨0, []⟩) : Option (AX × St)) = some (.normal, stOf 43 [0, 5, 6, 7] (Vpt L (k + 1)) ⟨0, []⟩) := rfl
  rw [hA]
  generalize (some (AX.normal, stOf 43 [0, 5, 6, 7] (Vpt L (k + 1)) ⟨0, []⟩) : Option (AX × St)) = A
  generalize (some (AX.ret, stOf 43 [0, 2] [.ro (LI.con L) none, .val (.bool false)] (⟨0, []⟩ : Heap)) : Option (AX × St)) = B
  have e1 : 0 < k → IntKind.i64.wrap ((k : Int) - 1) = ((k - 1 : Nat) : Int) := fun hk0 => by rw [wrap64 _ (by omega) (by omega)]; omega
  unfold linOk
  rw [propB_ite (linP L k)]
  unfold linP
  generalize L.getD k LI.z = x
  have hp := pl_neg (L.getD (k - 1) LI.z) x
  by_cases c1 : entP x
  rotate_left
  · rw [propB_f c1, cond_false, if_neg (fun q => c1 q.1)]
  rw [propB_t c1, cond_true]
  have rest : (x.2.2.2 = 0 → x.2.2.1 = 0) → (bif decide ((k : Int) > 0) then bif inR (IntKind.i64.wrap ((k : Int) - 1)) L.length then bif decide (plI (L.getD (IntKind.i64.wrap ((k : Int) - 1)).toNat LI.z) x ≥ 0) then B else A else none else A) =
      @ite _ (entP x ∧ (x.2.2.2 = 0 → x.2.2.1 = 0) ∧ (0 < k → (L.getD (k - 1) LI.z).1 ≤ x.1 ∧ (x.1 = (L.getD (k - 1) LI.z).1 → (L.getD (k - 1) LI.z).2.1 < x.2.1))) (Classical.propDecidable _) A B := by
    intro hlf
    by_cases c12 : 0 < k
    rotate_left
    · rw [decide_eq_false (show ¬ (k : Int) > 0 by omega), cond_false, if_pos ⟨c1, hlf, fun q => absurd q c12⟩]
    rw [decide_eq_true (show (k : Int) > 0 by omega), cond_true, e1 c12, inR_nat, decide_eq_true (show k - 1 < L.length by omega), cond_true, Int.toNat_natCast]
    by_cases d1 : plI (L.getD (k - 1) LI.z) x ≥ 0
    · rw [decide_eq_true d1, cond_true, if_neg (fun q => hp.1 d1 (q.2.2 c12))]
    · rw [decide_eq_false d1, cond_false, if_pos ⟨c1, hlf, fun _ => Classical.byContradiction (fun q => d1 (hp.2 q))⟩]
  by_cases c9 : x.2.2.2 = 0
  · rw [show (x.2.2.2 == 0) = true from beq_iff_eq.2 c9, cond_true]
    by_cases c10 : x.2.2.1 = 0
    · rw [show (x.2.2.1 != 0) = false by rw [c10]; rfl, cond_false]
      exact rest (fun _ => c10)
    · rw [show (x.2.2.1 != 0) = true from bne_iff_ne.2 c10, cond_true, if_neg (fun q => c10 (q.2.1 c9))]
  · rw [show (x.2.2.2 == 0) = false from beq_eq_false_iff_ne.2 c9, cond_false]
    exact rest (fun q => absurd q c9)
def fPt (vs : List AV) (h : Heap) : Ans (AX × List AV × Heap) := match vs, h with
  | [.ro c cap, .ro c' cap', .val (.int .i64 n), .val (.int .i64 (.ofNat 0))], ⟨0, []⟩ =>
    .grd ((LI.ok c && LI.ok c') && (propB (LI.list c' = LI.list c ∧ (LI.list c).length ≤ 1000000) && (n == (((LI.list c).length : Nat) : Int)))) (.br (allOk (LI.list c).length (linOk (LI.list c))) (.out (.exit 0, [.ro (LI.con (LI.list c)) none, .unk], ⟨0, []⟩)) (.out (.ret, [.ro (LI.con (LI.list c)) none, .val (.bool false)], ⟨0, []⟩)))
  | _, _ => .no
def LPt : LSum := toLSum 43 [0, 5, 6, 7] [0, 2] fPt
theorem Tryz.wPt (L : List LinD) : rootS Tryz.EPt 6 104 (lsumsOf [(2, LPt)]) [.ro (LI.con L) none] =
 bif LI.ok (LI.con L) && LI.ok (LI.con L) && (propB (LI.list (LI.con L) = LI.list (LI.con L) ∧ (LI.list (LI.con L)).length ≤ 1000000) && (↑L.length : Int) == (↑(LI.list (LI.con L)).length : Int)) then
 bif allOk (LI.list (LI.con L)).length (linOk (LI.list (LI.con L))) then
 bif decide ((↑(LI.list (LI.con L)).length : Int) ≤ 4000) then
 some (.val (.bool true), ⟨0, []⟩)
 else
 some (.val (.bool false), ⟨0, []⟩)
 else
 some (.val (.bool false), ⟨0, []⟩)
 else
 none := by kernel_rfl
theorem Tryz.ePt : EnvOk2 Tryz.prog Tryz.EPt := Tryz.envOk false (sumsOf Tryz.tPt) _ (sumsOf_ok (show AllS Tryz.prog Tryz.tPt from ⟨Tryz.sumPl, Tryz.sumEt, trivial⟩))
theorem Tryz.lPt : ∀ s e s', s.h.ok → (LPt s).run = some (e, s') → Triple Tryz.prog (.loop Tryz.bPt) s e s' := by
  refine scan_law Tryz.ePt (d := 6) (g := 104) (ls := lsumsOf []) (c := Tryz.bPt) trivial 43 [0, 5, 6, 7] [0, 2] (T := List LinD) Vpt (fun _ => ⟨0, []⟩) (fun L => L.length) linOk (fun L => L.length ≤ 1000000)
    (fun L => (.exit 0, [.ro (LI.con L) none, .unk], ⟨0, []⟩)) (fun L => (.ret, [.ro (LI.con L) none, .val (.bool false)], ⟨0, []⟩)) fPt ?_ (fun _ _ => heap0_ok) (fun _ _ => ⟨by simp, by simp⟩) (fun _ _ => ⟨heap0_ok, heap0_ok⟩) (fun L k hL hk _ => Tryz.sPt L k hL hk)
  intro vs h e vo h' hok hf
  unfold fPt at hf
  split at hf
  · rename_i c cap c' cap' n
    rw [Ans.run_grd] at hf
    cases hb : ((LI.ok c && LI.ok c') && (propB (LI.list c' = LI.list c ∧ (LI.list c).length ≤ 1000000) && (n == (((LI.list c).length : Nat) : Int)))) with
    | false => rw [hb] at hf; cases hf
    | true =>
      rw [hb, cond_true, Ans.run_br] at hf
      simp only [Bool.and_eq_true, beq_iff_eq] at hb
      obtain ⟨⟨b1, b2⟩, b3, b4⟩ := hb
      obtain ⟨b5, b6⟩ := propB_eq b3
      refine ⟨LI.list c, b6, ?_, ?_⟩
      · refine Weak.slots heap0_ok ?_
        have := LI.aw b2 cap'
        rw [b5] at this
        rw [b4]
        exact .cons (LI.aw b1 cap) (.cons this (AWs.refl _))
      · cases hq : allOk (LI.list c).length (linOk (LI.list c)) with
        | true => rw [hq] at hf; injection hf
        | false => rw [hq] at hf; injection hf
  · cases hf
theorem Tryz.sumPt : SumC Tryz.prog 104 (pureA (fun args => tabS (nzs [LI.con []] args))) := by
  refine pureSumR 104 ⟨Tryz.f104, _, Tryz.fnOk104.1, Tryz.fnOk104.2, rfl⟩ ?_
  intro args v h2 hs
  refine Alone.nz (cs := [LI.con []]) (by simp [Con.len, RowTy.con]) ?_
  replace hs : (tabS (nzs [LI.con []] args)).run = some (v, h2) := hs
  generalize nzs [LI.con []] args = args' at hs ⊢
  unfold tabS at hs
  split at hs
  · rename_i c cap
    rw [Ans.run_grd] at hs
    cases hb : (LI.ok c && Nat.ble c.len 1000000) with
    | false => rw [hb] at hs; cases hs
    | true =>
    rw [hb, cond_true] at hs
    rw [Bool.and_eq_true, Nat.ble_eq] at hb
    injection hs with hs
    injection hs with q1 q2
    subst q1; subst q2
    refine Alone.argsW (AWs.args (.cons (LI.aw hb.1 cap) .nil)) ?_
    have hi : (LI.list c).length ≤ 1000000 := by rw [LI.list_len]; exact hb.2
    generalize LI.list c = L at hi ⊢
    refine rootS_alone Tryz.ePt (d := 6) (g := 104) (ls := lsumsOf [(2, LPt)]) (AllL.of1 (a := Tryz.bPt) (by kernel_rfl) (LsOk.of rfl rfl Tryz.lPt)) ((Tryz.wPt L).trans ?_)
    have hl : LI.list (LI.con L) = L := LI.list_con _
    rw [hl, LI.ok_con, propB_t (show L = L ∧ L.length ≤ 1000000 from ⟨rfl, hi⟩), beq_self_eq_true]
    unfold tabB
    simp only [Bool.and_self, cond_true]
    have e1 : decide ((L.length : Int) ≤ 4000) = decide (L.length ≤ 4000) := by rw [decide_eq_decide]; omega
    rw [e1]
    cases allOk L.length (linOk L) <;> cases decide (L.length ≤ 4000) <;> rfl
  · cases hs
end Go.Ev
/- Files and lines, as the program checks them. -/
namespace Go.Ev
open Go.Proofs
def Tryz.tXf : List (Nat × AFun) := [(160, pureA fileS)]
def Tryz.EXf : Env := Tryz.env0 false (sumsOf Tryz.tXf) (keepF 188 [(2, [0, 1, 7, 8])])
def Tryz.bXf : Code := nthD .skip (loopsOf (bodyOf Tryz.EXf 188)) 0
def Tryz.BXf (s : St) : Option (AX × St) := codeS Tryz.EXf (callF Tryz.EXf 6) (Tryz.EXf.keep 188) (lsumsOf []) Tryz.bXf (outK [0, 1, 7, 8] [4]) s
def Tryz.cloXf : AV := .clo (.func 159) [] []
def Tryz.Vxf (L : List ByteArray) (k : Nat) : List AV := [.ro (FI.con L) none, Tryz.cloXf, .val (.int .i64 (L.length : Nat)), .val (.int .i64 k)]
def pXf (L : List ByteArray) (k : Nat) : Bool := !(fileB (L.getD k FI.z))
def Tryz.LXf (L : List ByteArray) : LSum := ixL 19 4 0 (stOf 19 [0, 1, 7, 8] (Tryz.Vxf L 0) ⟨0, []⟩) (ixN (pXf L) L.length)
def Tryz.EXl : Env := Tryz.env0 false (sumsOf []) (keepF 191 [(2, [0, 1, 7, 8])])
def Tryz.bXl : Code := nthD .skip (loopsOf (bodyOf Tryz.EXl 191)) 0
def Tryz.BXl (s : St) : Option (AX × St) := codeS Tryz.EXl (callF Tryz.EXl 6) (Tryz.EXl.keep 191) (lsumsOf []) Tryz.bXl (outK [0, 1, 7, 8] [4]) s
def Tryz.cloXl (o : OD) : AV := .clo (.func 164) [] [.rptr (.rows true 5 [o.row]) 0 0]
def Tryz.Vxl (o : OD) (k : Nat) : List AV := [.ro (LI.con o.li) none, Tryz.cloXl o, .val (.int .i64 (o.li.length : Nat)), .val (.int .i64 k)]
def pXl (o : OD) (k : Nat) : Bool := !(covOk o k)
def Tryz.LXl (o : OD) : LSum := ixL 19 4 0 (stOf 19 [0, 1, 7, 8] (Tryz.Vxl o 0) ⟨0, []⟩) (ixN (pXl o) o.li.length)
theorem Tryz.rXf (L : List ByteArray) (k : Nat) : Tryz.BXf (stOf 19 [0, 1, 7, 8] (Tryz.Vxf L k) ⟨0, []⟩) =
 bif decide ((↑k : Int) < (↑L.length : Int)) then
 bif inR (↑k : Int) L.length then
 bif (L.getD k FI.z).size.ble 140737488355328 then
 bif fileB (L.getD k FI.z) then
 some (.normal, stOf 19 [0, 1, 7, 8] [.ro (.tab 1 (L.length) (fun i => FI.row (L.getD i FI.z))) none, .clo (Fn.func 159) [] [], .val (.int .i64 ((↑L.length : Int))), .val (.int .i64 (IntKind.i64.wrap ((↑k : Int) + 1)))] ⟨0, []⟩)
 else
 some (.ret, stOf 19 [4] [.val (.int .i64 (↑k : Int))] ⟨0, []⟩)
 else
 none
 else
 none
 else
 some (.exit 0, stOf 19 [] [] ⟨0, []⟩) := by kernel_rfl
theorem Tryz.wXf (L : List ByteArray) : rootS Tryz.EXf 6 188 (lsumsOf [(2, Tryz.LXf L)]) [.ro (FI.con L) none, Tryz.cloXf] =
 bif isSt (stOf 19 [0, 1, 7, 8] (Tryz.Vxf L 0) { next := 0, es := [] }) (stOf 19 [0, 1, 7, 8] (Tryz.Vxf L 0) { next := 0, es := [] }) then
 bif (ixN (pXf L) L.length).isSome then
 some (.val (.int .i64 (Int.ofNat ((ixN (pXf L) L.length).getD 0))), ⟨0, []⟩)
 else
 some (.val (.int .i64 (-1)), ⟨0, []⟩)
 else
 none := by kernel_rfl
theorem Tryz.rXl (o : OD) (k : Nat) : Tryz.BXl (stOf 19 [0, 1, 7, 8] (Tryz.Vxl o k) ⟨0, []⟩) =
 bif decide ((↑k : Int) < (↑o.li.length : Int)) then
 bif inR (↑k : Int) o.li.length then
 bif decide ((o.li.getD k LI.z).fst ≥ (↑o.se.length : Int)) then
 some (.ret, stOf 19 [4] [.val (.int .i64 (↑k : Int))] ⟨0, []⟩)
 else
 bif inR (o.li.getD k LI.z).fst o.se.length then
 bif decide ((o.li.getD k LI.z).snd.fst ≥ IntKind.i64.wrap ((↑(o.se.getD (o.li.getD k LI.z).fst.toNat SE.z).snd.snd.snd.fst.length : Int) + (o.se.getD (o.li.getD k LI.z).fst.toNat SE.z).snd.snd.snd.snd)) then
 some (.ret, stOf 19 [4] [.val (.int .i64 (↑k : Int))] ⟨0, []⟩)
 else
 bif (o.li.getD k LI.z).snd.snd.snd != 0 then
 bif decide ((o.li.getD k LI.z).snd.snd.fst ≥ (↑o.fi.length : Int)) then
 some (.ret, stOf 19 [4] [.val (.int .i64 (↑k : Int))] ⟨0, []⟩)
 else
 some (.normal, stOf 19 [0, 1, 7, 8] [.ro (.tab 4 (o.li.length) (fun i => LI.row (o.li.getD i LI.z))) none, .clo (Fn.func 164) [] [.rptr (.rows true 5 (o.row :: [])) (0) (0)], .val (.int .i64 ((↑o.li.length : Int))), .val (.int .i64 (IntKind.i64.wrap ((↑k : Int) + 1)))] ⟨0, []⟩)
 else
 some (.normal, stOf 19 [0, 1, 7, 8] [.ro (.tab 4 (o.li.length) (fun i => LI.row (o.li.getD i LI.z))) none, .clo (Fn.func 164) [] [.rptr (.rows true 5 (o.row :: [])) (0) (0)], .val (.int .i64 ((↑o.li.length : Int))), .val (.int .i64 (IntKind.i64.wrap ((↑k : Int) + 1)))] ⟨0, []⟩)
 else
 none
 else
 none
 else
 some (.exit 0, stOf 19 [] [] ⟨0, []⟩) := by kernel_rfl
theorem Tryz.wXl (o : OD) : rootS Tryz.EXl 6 191 (lsumsOf [(2, Tryz.LXl o)]) [.ro (LI.con o.li) none, Tryz.cloXl o] =
 bif isSt (stOf 19 [0, 1, 7, 8] (Tryz.Vxl o 0) { next := 0, es := [] }) (stOf 19 [0, 1, 7, 8] (Tryz.Vxl o 0) { next := 0, es := [] }) then
 bif (ixN (pXl o) o.li.length).isSome then
 some (.val (.int .i64 (Int.ofNat ((ixN (pXl o) o.li.length).getD 0))), ⟨0, []⟩)
 else
 some (.val (.int .i64 (-1)), ⟨0, []⟩)
 else
 none := by kernel_rfl
theorem Tryz.eXf : EnvOk2 Tryz.prog Tryz.EXf := Tryz.envOk false (sumsOf Tryz.tXf) _ (sumsOf_ok (show AllS Tryz.prog Tryz.tXf from ⟨Tryz.sumFo2, trivial⟩))
theorem Tryz.eXl : EnvOk2 Tryz.prog Tryz.EXl := Tryz.envOk false (sumsOf []) _ (fun g A h => by cases h)
theorem Tryz.sXf (L : List ByteArray) (hi : filInv L) (k : Nat) (hk : k ≤ L.length) : Tryz.BXf (stOf 19 [0, 1, 7, 8] (Tryz.Vxf L k) ⟨0, []⟩) =
    bif decide (k < L.length) then (bif pXf L k then some (.ret, ixX 19 4 k) else some (.normal, stOf 19 [0, 1, 7, 8] (Tryz.Vxf L (k + 1)) ⟨0, []⟩)) else some (.exit 0, stOf 19 [] [] ⟨0, []⟩) := by
  obtain ⟨h1, h2⟩ := hi
  have key := Tryz.rXf L k
  rw [declt_nat, inR_nat, wrapS k (by omega)] at key
  refine key.trans ?_
  by_cases h : k < L.length
  · rw [decide_eq_true h, ble_t (h2 _ (getD_mem h))]
    simp only [cond_true]
    unfold pXf
    cases fileB (L.getD k FI.z) <;> rfl
  · rw [decide_eq_false h]; rfl
theorem Tryz.lXf (L : List ByteArray) (hi : filInv L) : ∀ s e s', s.h.ok → (Tryz.LXf L s).run = some (e, s') → Triple Tryz.prog (.loop Tryz.bXf) s e s' :=
  ix_law Tryz.eXf (d := 6) (g := 188) (c := Tryz.bXf) rfl 19 4 0 [0, 1, 7, 8] (Tryz.Vxf L) (pXf L) L.length (fun k hk => Tryz.sXf L hi k hk)
theorem Tryz.sXl (o : OD) (hi : lisInv o) (k : Nat) (hk : k ≤ o.li.length) : Tryz.BXl (stOf 19 [0, 1, 7, 8] (Tryz.Vxl o k) ⟨0, []⟩) =
    bif decide (k < o.li.length) then (bif pXl o k then some (.ret, ixX 19 4 k) else some (.normal, stOf 19 [0, 1, 7, 8] (Tryz.Vxl o (k + 1)) ⟨0, []⟩)) else some (.exit 0, stOf 19 [] [] ⟨0, []⟩) := by
  obtain ⟨⟨h1, h2⟩, h3⟩ := hi
  have hl : o.li.length ≤ 4000 := by
    unfold tabB at h3
    simp only [Bool.and_eq_true, decide_eq_true_eq] at h3
    exact h3.1
  have key := Tryz.rXl o k
  rw [declt_nat, inR_nat, wrapS k (by omega)] at key
  refine key.trans ?_
  by_cases h : k < o.li.length
  rotate_left
  · rw [decide_eq_false h]; rfl
  rw [decide_eq_true h]
  simp only [cond_true]
  have he := tab_ent h3 h
  have hB : (some (AX.normal, stOf 19 [0, 1, 7, 8] [.ro (.tab 4 (o.li.length) (fun i => LI.row (o.li.getD i LI.z))) none, .clo (Fn.func 164) [] [.rptr (.rows true 5 (o.row :: [])) (0) (0)], .val (.int .i64 ((↑o.li.length : Int))), .val (.int .i64 ((k + 1 : Nat) : Int))] ⟨0, []⟩) : Option (AX × St)) = some (.normal, stOf 19 [0, 1, 7, 8] (Tryz.Vxl o (k + 1)) ⟨0, []⟩) := rfl
  have hA : (some (AX.ret, stOf 19 [4] [.val (.int .i64 (k : Int))] ⟨0, []⟩) : Option (AX × St)) = some (.ret, ixX 19 4 k) := rfl
  rw [hB, hA]
  generalize (some (AX.normal, stOf 19 [0, 1, 7, 8] (Tryz.Vxl o (k + 1)) ⟨0, []⟩) : Option (AX × St)) = B
  generalize (some (AX.ret, ixX 19 4 k) : Option (AX × St)) = A
  unfold pXl covOk
  rw [show ∀ p : Prop, (bif !(propB p) then A else B) = (bif propB p then B else A) from fun p => by cases propB p <;> rfl, propB_ite]
  unfold covP
  unfold entP at he
  generalize o.li.getD k LI.z = x at he ⊢
  obtain ⟨sec, off, file, line⟩ := x
  simp only at he ⊢
  by_cases c1 : sec ≥ (o.se.length : Int)
  · rw [decide_eq_true c1, cond_true, if_neg (fun q => by omega)]
  rw [decide_eq_false c1, cond_false, inR_prop.2 ⟨by omega, by omega⟩, cond_true]
  have hb := h2 _ (getD_mem (d := SE.z) (show sec.toNat < o.se.length by omega))
  have hw : IntKind.i64.wrap (((o.se.getD sec.toNat SE.z).snd.snd.snd.fst.length : Int) + (o.se.getD sec.toNat SE.z).snd.snd.snd.snd) = lenS (o.se.getD sec.toNat SE.z) := by
    unfold lenS at hb ⊢
    exact wrap64 _ (by omega) (by omega)
  rw [hw]
  by_cases c2 : off ≥ lenS (o.se.getD sec.toNat SE.z)
  · rw [decide_eq_true c2, cond_true, if_neg (fun q => by omega)]
  rw [decide_eq_false c2, cond_false]
  by_cases c3 : line = 0
  · rw [show (line != 0) = false by rw [c3]; rfl, cond_false, if_pos ⟨by omega, by omega, fun q => by omega⟩]
  · rw [show (line != 0) = true from bne_iff_ne.2 c3, cond_true]
    by_cases c4 : file ≥ (o.fi.length : Int)
    · rw [decide_eq_true c4, cond_true, if_neg (fun q => by have := q.2.2 (by omega); omega)]
    · rw [decide_eq_false c4, cond_false, if_pos ⟨by omega, by omega, fun _ => by omega⟩]
theorem Tryz.lXl (o : OD) (hi : lisInv o) : ∀ s e s', s.h.ok → (Tryz.LXl o s).run = some (e, s') → Triple Tryz.prog (.loop Tryz.bXl) s e s' :=
  ix_law Tryz.eXl (d := 6) (g := 191) (c := Tryz.bXl) rfl 19 4 0 [0, 1, 7, 8] (Tryz.Vxl o) (pXl o) o.li.length (fun k hk => Tryz.sXl o hi k hk)
def xfS (args : List AV) : Ans (AV × Heap) := match args with
  | [.ro c cap, .clo (.func 159) [] []] => .grd (FI.ok c && propB (filInv (FI.list c))) (ixO (ixN (pXf (FI.list c)) (FI.list c).length))
  | _ => .no
def xlS (args : List AV) : Ans (AV × Heap) := match args with
  | [.ro c cap, .clo (.func 164) [] [.rptr (.rows true 5 [r]) 0 0]] => .grd ((LI.ok c && odIs (.agg r)) && propB (LI.list c = (odP (.agg r)).li ∧ lisInv (odP (.agg r)))) (ixO (ixN (pXl (odP (.agg r))) (odP (.agg r)).li.length))
  | _ => .no
theorem Tryz.sumXf : SumC Tryz.prog 188 (pureA (fun args => xfS (nzs [FI.con []] args))) := by
  refine pureSumR 188 ⟨Tryz.f188, _, Tryz.fnOk188.1, Tryz.fnOk188.2, rfl⟩ ?_
  intro args v h2 hs
  refine Alone.nz (cs := [FI.con []]) (by simp [Con.len, RowTy.con]) ?_
  replace hs : (xfS (nzs [FI.con []] args)).run = some (v, h2) := hs
  generalize nzs [FI.con []] args = args' at hs ⊢
  unfold xfS at hs
  split at hs
  · rename_i c cap
    rw [Ans.run_grd] at hs
    cases hb : (FI.ok c && propB (filInv (FI.list c))) with
    | false => rw [hb] at hs; cases hs
    | true =>
    rw [hb, cond_true] at hs
    rw [Bool.and_eq_true] at hb
    have hi := propB_eq hb.2
    refine Alone.argsW (AWs.args (.cons (FI.aw hb.1 cap) (AWs.refl _))) ?_
    refine rootS_alone Tryz.eXf (d := 6) (g := 188) (ls := lsumsOf [(2, Tryz.LXf (FI.list c))]) (AllL.of1 (a := Tryz.bXf) (by kernel_rfl) (LsOk.of rfl rfl (Tryz.lXf _ hi))) ((Tryz.wXf _).trans ?_)
    rw [isSt_refl, cond_true]
    exact hs
  · cases hs
theorem Tryz.sumXl : SumC Tryz.prog 191 (pureA (fun args => xlS (nzs [LI.con []] args))) := by
  refine pureSumR 191 ⟨Tryz.f191, _, Tryz.fnOk191.1, Tryz.fnOk191.2, rfl⟩ ?_
  intro args v h2 hs
  refine Alone.nz (cs := [LI.con []]) (by simp [Con.len, RowTy.con]) ?_
  replace hs : (xlS (nzs [LI.con []] args)).run = some (v, h2) := hs
  generalize nzs [LI.con []] args = args' at hs ⊢
  unfold xlS at hs
  split at hs
  · rename_i c cap r
    rw [Ans.run_grd] at hs
    cases hb : ((LI.ok c && odIs (.agg r)) && propB (LI.list c = (odP (.agg r)).li ∧ lisInv (odP (.agg r)))) with
    | false => rw [hb] at hs; cases hs
    | true =>
    rw [hb, cond_true] at hs
    simp only [Bool.and_eq_true] at hb
    obtain ⟨p1, p2⟩ := propB_eq hb.2
    have hw := LI.aw hb.1.1 cap
    rw [p1] at hw
    refine Alone.argsW (AWs.args (.cons hw (.cons (AW.clo .nil (.cons (AW.rptr (od_con hb.1.2) 0 0) .nil)) .nil))) ?_
    refine rootS_alone Tryz.eXl (d := 6) (g := 191) (ls := lsumsOf [(2, Tryz.LXl (odP (.agg r)))]) (AllL.of1 (a := Tryz.bXl) (by kernel_rfl) (LsOk.of rfl rfl (Tryz.lXl _ p2))) ((Tryz.wXl _).trans ?_)
    rw [isSt_refl, cond_true]
    exact hs
  · cases hs
def Tryz.tPf : List (Nat × AFun) := [(188, pureA (fun args => xfS (nzs [FI.con []] args))), (191, pureA (fun args => xlS (nzs [LI.con []] args))), (161, pureA (fun args => dfDf (nzs [FI.con []] args))), (104, pureA (fun args => tabS (nzs [LI.con []] args)))]
def Tryz.EPf : Env := Tryz.env0 false (sumsOf Tryz.tPf) (keepF 0 [])
theorem Tryz.wPf (o : OD) : rootS Tryz.EPf 6 112 (lsumsOf []) [o.av] =
 bif decide ((↑o.fi.length : Int) > 20) then
 some (.val (.bool false), ⟨0, []⟩)
 else
 bif FI.ok (FI.con o.fi) && propB (filInv (FI.list (FI.con o.fi))) then
 bif (ixN (pXf (FI.list (FI.con o.fi))) (FI.list (FI.con o.fi)).length).isSome then
 some (.val (.bool false), ⟨0, []⟩)
 else
 bif FI.ok (FI.con o.fi) && o.fi.length.ble 1000000 then
 bif allNew (nmDf (FI.list (FI.con o.fi))) (FI.list (FI.con o.fi)).length then
 bif LI.ok (LI.con o.li) && o.li.length.ble 1000000 then
 bif tabB (LI.list (LI.con o.li)) then
 bif LI.ok (LI.con o.li) && odIs (AV.agg (AV.agg o.row).cells) && propB (LI.list (LI.con o.li) = (odP (AV.agg (AV.agg o.row).cells)).li ∧ lisInv (odP (AV.agg (AV.agg o.row).cells))) then
 bif (ixN (pXl (odP (AV.agg (AV.agg o.row).cells))) (odP (AV.agg (AV.agg o.row).cells)).li.length).isSome then
 some (.val (.bool false), ⟨0, []⟩)
 else
 some (.val (.bool true), ⟨0, []⟩)
 else
 none
 else
 some (.val (.bool false), ⟨0, []⟩)
 else
 none
 else
 some (.val (.bool false), ⟨0, []⟩)
 else
 none
 else
 none := by kernel_rfl
end Go.Ev
/- Valid objects, as the program checks them. -/
namespace Go.Ev
open Go.Proofs
theorem fils_split (L : List ByteArray) : allOk L.length (filOk L) = (!(ixN (pXf L) L.length).isSome && allNew (nmDf L) L.length) := by
  rw [ixN_some, Bool.not_not]
  refine (allOk_and _ _ _).trans ?_
  congr 1
  exact (not_not_all _ _).symm
theorem lins_split (o : OD) : allOk o.li.length (covOk o) = !(ixN (pXl o) o.li.length).isSome := by
  rw [ixN_some, Bool.not_not]
  exact (not_not_all _ _).symm
def pfInv (o : OD) : Prop := filInv o.fi ∧ o.li.length ≤ 1000000 ∧ seBound o.se
def pfilS (args : List AV) : Ans (AV × Heap) := match args with
  | [o] => .grd (odIs o && propB (pfInv (odP o))) (.out (.val (.bool (filsB (odP o).fi && (tabB (odP o).li && allOk (odP o).li.length (covOk (odP o))))), ⟨0, []⟩))
  | _ => .no
theorem Tryz.ePf : EnvOk2 Tryz.prog Tryz.EPf := Tryz.envOk false (sumsOf Tryz.tPf) _ (sumsOf_ok (show AllS Tryz.prog Tryz.tPf from ⟨Tryz.sumXf, Tryz.sumXl, Tryz.sumDf, Tryz.sumPt, trivial⟩))
theorem Tryz.sumPf : SumC Tryz.prog 112 (pureA pfilS) := by
  refine pureSumR 112 ⟨Tryz.f112, _, Tryz.fnOk112.1, Tryz.fnOk112.2, rfl⟩ ?_
  intro args v h2 hs
  unfold pfilS at hs
  split at hs
  · rename_i ov
    rw [Ans.run_grd] at hs
    cases hb : (odIs ov && propB (pfInv (odP ov))) with
    | false => rw [hb] at hs; cases hs
    | true =>
    rw [hb, cond_true] at hs
    rw [Bool.and_eq_true] at hb
    injection hs with hs
    injection hs with q1 q2
    subst q1; subst q2
    refine Alone.argsW (AWs.args (.cons (od_aw hb.1) .nil)) ?_
    obtain ⟨i1, i2, i3⟩ := propB_eq hb.2
    generalize odP ov = o at i1 i2 i3 ⊢
    refine rootS_alone Tryz.ePf (d := 6) (g := 112) (ls := lsumsOf []) (AllL.noL _) ((Tryz.wPf o).trans ?_)
    have hl : LI.list (LI.con o.li) = o.li := LI.list_con _
    have hf : FI.list (FI.con o.fi) = o.fi := FI.list_con _
    rw [show AV.agg (AV.agg o.row).cells = .agg o.row from rfl, odP_row, odIs_row, hl, hf, FI.ok_con, LI.ok_con, propB_t i1, ble_t i1.1, ble_t i2]
    unfold filsB
    rw [fils_split, lins_split]
    have e1 : decide ((o.fi.length : Int) > 20) = !(decide (o.fi.length ≤ 20)) := by
      by_cases h : o.fi.length ≤ 20
      · rw [decide_eq_true h, decide_eq_false (by omega)]; rfl
      · rw [decide_eq_false h, decide_eq_true (by omega)]; rfl
    rw [e1]
    cases htab : tabB o.li with
    | false => cases decide (o.fi.length ≤ 20) <;> cases (ixN (pXf o.fi) o.fi.length).isSome <;> cases allNew (nmDf o.fi) o.fi.length <;> rfl
    | true =>
      rw [propB_t (show o.li = o.li ∧ lisInv o from ⟨rfl, i3, htab⟩)]
      cases decide (o.fi.length ≤ 20) <;> cases (ixN (pXf o.fi) o.fi.length).isSome <;> cases allNew (nmDf o.fi) o.fi.length <;> cases (ixN (pXl o) o.li.length).isSome <;> rfl
  · cases hs
def Tryz.tPv : List (Nat × AFun) := [(109, pureA psecS), (110, pureA symsS), (111, pureA prelS), (112, pureA pfilS)]
def Tryz.EPv : Env := Tryz.env0 false (sumsOf Tryz.tPv) (keepF 0 [])
theorem Tryz.wPv (o : OD) : rootS Tryz.EPv 6 47 (lsumsOf []) [o.av] =
 bif odIs (AV.agg [AV.ro (SE.con o.se) none, AV.ro (SY.con o.sy) none, AV.ro (RE.con o.re) none, AV.ro (FI.con o.fi) none, AV.ro (LI.con o.li) none]) && propB (seInv (odP (AV.agg [AV.ro (SE.con o.se) none, AV.ro (SY.con o.sy) none, AV.ro (RE.con o.re) none, AV.ro (FI.con o.fi) none, AV.ro (LI.con o.li) none])).se) then
 bif secsB (odP (AV.agg [AV.ro (SE.con o.se) none, AV.ro (SY.con o.sy) none, AV.ro (RE.con o.re) none, AV.ro (FI.con o.fi) none, AV.ro (LI.con o.li) none])).se then
 bif odIs (AV.agg [AV.ro (SE.con o.se) none, AV.ro (SY.con o.sy) none, AV.ro (RE.con o.re) none, AV.ro (FI.con o.fi) none, AV.ro (LI.con o.li) none]) && propB (syInv (odP (AV.agg [AV.ro (SE.con o.se) none, AV.ro (SY.con o.sy) none, AV.ro (RE.con o.re) none, AV.ro (FI.con o.fi) none, AV.ro (LI.con o.li) none]))) then
 bif symsB (odP (AV.agg [AV.ro (SE.con o.se) none, AV.ro (SY.con o.sy) none, AV.ro (RE.con o.re) none, AV.ro (FI.con o.fi) none, AV.ro (LI.con o.li) none])) then
 bif odIs (AV.agg [AV.ro (SE.con o.se) none, AV.ro (SY.con o.sy) none, AV.ro (RE.con o.re) none, AV.ro (FI.con o.fi) none, AV.ro (LI.con o.li) none]) && propB (prInv (odP (AV.agg [AV.ro (SE.con o.se) none, AV.ro (SY.con o.sy) none, AV.ro (RE.con o.re) none, AV.ro (FI.con o.fi) none, AV.ro (LI.con o.li) none]))) then
 bif relsB (odP (AV.agg [AV.ro (SE.con o.se) none, AV.ro (SY.con o.sy) none, AV.ro (RE.con o.re) none, AV.ro (FI.con o.fi) none, AV.ro (LI.con o.li) none])) then
 bif odIs (AV.agg [AV.ro (SE.con o.se) none, AV.ro (SY.con o.sy) none, AV.ro (RE.con o.re) none, AV.ro (FI.con o.fi) none, AV.ro (LI.con o.li) none]) && propB (pfInv (odP (AV.agg [AV.ro (SE.con o.se) none, AV.ro (SY.con o.sy) none, AV.ro (RE.con o.re) none, AV.ro (FI.con o.fi) none, AV.ro (LI.con o.li) none]))) then
 bif filsB (odP (AV.agg [AV.ro (SE.con o.se) none, AV.ro (SY.con o.sy) none, AV.ro (RE.con o.re) none, AV.ro (FI.con o.fi) none, AV.ro (LI.con o.li) none])).fi && (tabB (odP (AV.agg [AV.ro (SE.con o.se) none, AV.ro (SY.con o.sy) none, AV.ro (RE.con o.re) none, AV.ro (FI.con o.fi) none, AV.ro (LI.con o.li) none])).li && allOk (odP (AV.agg [AV.ro (SE.con o.se) none, AV.ro (SY.con o.sy) none, AV.ro (RE.con o.re) none, AV.ro (FI.con o.fi) none, AV.ro (LI.con o.li) none])).li.length (covOk (odP (AV.agg [AV.ro (SE.con o.se) none, AV.ro (SY.con o.sy) none, AV.ro (RE.con o.re) none, AV.ro (FI.con o.fi) none, AV.ro (LI.con o.li) none])))) then
 some (.val (.bool true), ⟨0, []⟩)
 else
 some (.val (.bool false), ⟨0, []⟩)
 else
 none
 else
 some (.val (.bool false), ⟨0, []⟩)
 else
 none
 else
 some (.val (.bool false), ⟨0, []⟩)
 else
 none
 else
 some (.val (.bool false), ⟨0, []⟩)
 else
 none := by kernel_rfl
theorem Tryz.ePv : EnvOk2 Tryz.prog Tryz.EPv := Tryz.envOk false (sumsOf Tryz.tPv) _ (sumsOf_ok (show AllS Tryz.prog Tryz.tPv from ⟨Tryz.sumPs, Tryz.sumPo, Tryz.sumPr, Tryz.sumPf, trivial⟩))
theorem Tryz.sumPv : SumC Tryz.prog 47 (pureA isS) := by
  refine pureSumR 47 ⟨Tryz.f47, _, Tryz.fnOk47.1, Tryz.fnOk47.2, rfl⟩ ?_
  intro args v h2 hs
  unfold isS at hs
  split at hs
  · rename_i ov
    rw [Ans.run_grd] at hs
    cases hb : (odIs ov && propB (odInv (odP ov))) with
    | false => rw [hb] at hs; cases hs
    | true =>
    rw [hb, cond_true] at hs
    rw [Bool.and_eq_true] at hb
    injection hs with hs
    injection hs with q1 q2
    subst q1; subst q2
    refine Alone.argsW (AWs.args (.cons (od_aw hb.1) .nil)) ?_
    have hi := propB_eq hb.2
    generalize odP ov = o at hi ⊢
    refine rootS_alone Tryz.ePv (d := 6) (g := 47) (ls := lsumsOf []) (AllL.noL _) ((Tryz.wPv o).trans ?_)
    obtain ⟨i1, ⟨i2, i3⟩, i4, i5, i6⟩ := hi
    rw [show AV.agg [AV.ro (SE.con o.se) none, AV.ro (SY.con o.sy) none, AV.ro (RE.con o.re) none, AV.ro (FI.con o.fi) none, AV.ro (LI.con o.li) none] = .agg o.row from rfl, odP_row, odIs_row, propB_t i1]
    unfold objB
    cases h1 : secsB o.se with
    | false => rfl
    | true =>
    have hbd := secs_bound i1 h1
    rw [propB_t (show syInv o from ⟨i2, hbd, i3⟩)]
    cases h2 : symsB o with
    | false => rfl
    | true =>
    rw [propB_t (show prInv o from ⟨⟨i4, i1.2⟩, Nat.le_trans i1.1 (by omega), i2⟩)]
    cases h3 : relsB o with
    | false => rfl
    | true =>
    rw [propB_t (show pfInv o from ⟨i5, i6, hbd⟩)]
    cases (filsB o.fi && (tabB o.li && allOk o.li.length (covOk o))) <;> rfl
  · cases hs
end Go.Ev
/- Equal lists. -/
namespace Go.Ev
open Go.Proofs
def ceqSy (x y : SymD) : Bool := (x.1 == y.1) && ((x.2.1 == y.2.1) && ((x.2.2.1 == y.2.2.1) && ((x.2.2.2.1 == y.2.2.2.1) && ((x.2.2.2.2.1 == y.2.2.2.2.1) && ((x.2.2.2.2.2 == y.2.2.2.2.2) && true)))))
def ceqRe (x y : RelD) : Bool := (x.1 == y.1) && ((x.2.1 == y.2.1) && ((x.2.2.1 == y.2.2.1) && ((x.2.2.2.1 == y.2.2.2.1) && ((x.2.2.2.2 == y.2.2.2.2) && true))))
def ceqLi (x y : LinD) : Bool := (x.1 == y.1) && ((x.2.1 == y.2.1) && ((x.2.2.1 == y.2.2.1) && ((x.2.2.2 == y.2.2.2) && true)))
def ceqFi (x y : ByteArray) : Bool := x.toList == y.toList
def ceqBy (x y : Int) : Bool := !(x != y)
def byRow (n : Int) : List AV := [.val (.int .u8 n)]
def byParse : List AV → Int
  | [.val (.int .u8 n)] => n
  | _ => 0
def byIs : List AV → Bool
  | [.val (.int .u8 n)] => true
  | _ => false
theorem by_law (r : List AV) (h : byIs r = true) (j : Nat) (v' : AV) (hv : (byRow (byParse r))[j]? = some v') : ∃ v, r[j]? = some v ∧ AW v v' := by
  unfold byIs at h
  split at h
  · exact ⟨v', hv, AW.refl _⟩
  · cases h
def BY : RowTy Int := ⟨1, byRow, byParse, byIs, 0, by_law, fun _ => rfl, fun _ => rfl⟩
def Tryz.EQy : Env := Tryz.env0 false (sumsOf []) (keepF 30 [(4, [0, 1, 12, 13])])
def Tryz.bQy : Code := nthD .skip (loopsOf (bodyOf Tryz.EQy 30)) 0
def Tryz.VQy (L M : List SymD) (i : Int) : List AV := [.ro (SY.con L) none, .ro (SY.con M) none, .val (.int .i64 (L.length : Nat)), .val (.int .i64 i)]
theorem Tryz.eQy : EnvOk2 Tryz.prog Tryz.EQy := Tryz.envOk false (sumsOf []) _ (fun g A h => by cases h)
theorem Tryz.rQy (L M : List SymD) (i : Int) : codeS Tryz.EQy (callF Tryz.EQy 5) (Tryz.EQy.keep 30) (lsumsOf []) Tryz.bQy (outK [0, 1, 12, 13] [4]) (stOf 26 [0, 1, 12, 13] (Tryz.VQy L M i) ⟨0, []⟩) = eqRound SY ceqSy 26 [0, 1, 12, 13] (Tryz.VQy L M) L M i := by kernel_rfl
theorem Tryz.wQy (L M : List SymD) : rootS Tryz.EQy 5 30 (lsumsOf [(4, eqL SY ceqSy 26 [0, 1, 12, 13] (Tryz.VQy L M) L M)]) [.ro (SY.con L) none, .ro (SY.con M) none] = eqRun SY ceqSy 26 [0, 1, 12, 13] (Tryz.VQy L M) L M := by kernel_rfl
theorem Tryz.sumQy : SumC Tryz.prog 30 (eqqA SY ceqSy) := eq_sum Tryz.eQy (d := 5) (lid := 4) (c := Tryz.bQy) ⟨Tryz.f30, _, Tryz.fnOk30.1, Tryz.fnOk30.2, rfl⟩ (by kernel_rfl) (by kernel_rfl) (by kernel_rfl) Tryz.VQy Tryz.rQy Tryz.wQy
def Tryz.EQr : Env := Tryz.env0 false (sumsOf []) (keepF 75 [(4, [0, 1, 12, 13])])
def Tryz.bQr : Code := nthD .skip (loopsOf (bodyOf Tryz.EQr 75)) 0
def Tryz.VQr (L M : List RelD) (i : Int) : List AV := [.ro (RE.con L) none, .ro (RE.con M) none, .val (.int .i64 (L.length : Nat)), .val (.int .i64 i)]
theorem Tryz.eQr : EnvOk2 Tryz.prog Tryz.EQr := Tryz.envOk false (sumsOf []) _ (fun g A h => by cases h)
theorem Tryz.rQr (L M : List RelD) (i : Int) : codeS Tryz.EQr (callF Tryz.EQr 5) (Tryz.EQr.keep 75) (lsumsOf []) Tryz.bQr (outK [0, 1, 12, 13] [4]) (stOf 26 [0, 1, 12, 13] (Tryz.VQr L M i) ⟨0, []⟩) = eqRound RE ceqRe 26 [0, 1, 12, 13] (Tryz.VQr L M) L M i := by kernel_rfl
theorem Tryz.wQr (L M : List RelD) : rootS Tryz.EQr 5 75 (lsumsOf [(4, eqL RE ceqRe 26 [0, 1, 12, 13] (Tryz.VQr L M) L M)]) [.ro (RE.con L) none, .ro (RE.con M) none] = eqRun RE ceqRe 26 [0, 1, 12, 13] (Tryz.VQr L M) L M := by kernel_rfl
theorem Tryz.sumQr : SumC Tryz.prog 75 (eqqA RE ceqRe) := eq_sum Tryz.eQr (d := 5) (lid := 4) (c := Tryz.bQr) ⟨Tryz.f75, _, Tryz.fnOk75.1, Tryz.fnOk75.2, rfl⟩ (by kernel_rfl) (by kernel_rfl) (by kernel_rfl) Tryz.VQr Tryz.rQr Tryz.wQr
def Tryz.EQf : Env := Tryz.env0 false (sumsOf []) (keepF 76 [(4, [0, 1, 12, 13])])
def Tryz.bQf : Code := nthD .skip (loopsOf (bodyOf Tryz.EQf 76)) 0
def Tryz.VQf (L M : List ByteArray) (i : Int) : List AV := [.ro (FI.con L) none, .ro (FI.con M) none, .val (.int .i64 (L.length : Nat)), .val (.int .i64 i)]
theorem Tryz.eQf : EnvOk2 Tryz.prog Tryz.EQf := Tryz.envOk false (sumsOf []) _ (fun g A h => by cases h)
theorem Tryz.rQf (L M : List ByteArray) (i : Int) : codeS Tryz.EQf (callF Tryz.EQf 5) (Tryz.EQf.keep 76) (lsumsOf []) Tryz.bQf (outK [0, 1, 12, 13] [4]) (stOf 26 [0, 1, 12, 13] (Tryz.VQf L M i) ⟨0, []⟩) = eqRound FI ceqFi 26 [0, 1, 12, 13] (Tryz.VQf L M) L M i := by kernel_rfl
theorem Tryz.wQf (L M : List ByteArray) : rootS Tryz.EQf 5 76 (lsumsOf [(4, eqL FI ceqFi 26 [0, 1, 12, 13] (Tryz.VQf L M) L M)]) [.ro (FI.con L) none, .ro (FI.con M) none] = eqRun FI ceqFi 26 [0, 1, 12, 13] (Tryz.VQf L M) L M := by kernel_rfl
theorem Tryz.sumQf : SumC Tryz.prog 76 (eqqA FI ceqFi) := eq_sum Tryz.eQf (d := 5) (lid := 4) (c := Tryz.bQf) ⟨Tryz.f76, _, Tryz.fnOk76.1, Tryz.fnOk76.2, rfl⟩ (by kernel_rfl) (by kernel_rfl) (by kernel_rfl) Tryz.VQf Tryz.rQf Tryz.wQf
def Tryz.EQl : Env := Tryz.env0 false (sumsOf []) (keepF 45 [(4, [0, 1, 12, 13])])
def Tryz.bQl : Code := nthD .skip (loopsOf (bodyOf Tryz.EQl 45)) 0
def Tryz.VQl (L M : List LinD) (i : Int) : List AV := [.ro (LI.con L) none, .ro (LI.con M) none, .val (.int .i64 (L.length : Nat)), .val (.int .i64 i)]
theorem Tryz.eQl : EnvOk2 Tryz.prog Tryz.EQl := Tryz.envOk false (sumsOf []) _ (fun g A h => by cases h)
theorem Tryz.rQl (L M : List LinD) (i : Int) : codeS Tryz.EQl (callF Tryz.EQl 5) (Tryz.EQl.keep 45) (lsumsOf []) Tryz.bQl (outK [0, 1, 12, 13] [4]) (stOf 26 [0, 1, 12, 13] (Tryz.VQl L M i) ⟨0, []⟩) = eqRound LI ceqLi 26 [0, 1, 12, 13] (Tryz.VQl L M) L M i := by kernel_rfl
theorem Tryz.wQl (L M : List LinD) : rootS Tryz.EQl 5 45 (lsumsOf [(4, eqL LI ceqLi 26 [0, 1, 12, 13] (Tryz.VQl L M) L M)]) [.ro (LI.con L) none, .ro (LI.con M) none] = eqRun LI ceqLi 26 [0, 1, 12, 13] (Tryz.VQl L M) L M := by kernel_rfl
theorem Tryz.sumQl : SumC Tryz.prog 45 (eqqA LI ceqLi) := eq_sum Tryz.eQl (d := 5) (lid := 4) (c := Tryz.bQl) ⟨Tryz.f45, _, Tryz.fnOk45.1, Tryz.fnOk45.2, rfl⟩ (by kernel_rfl) (by kernel_rfl) (by kernel_rfl) Tryz.VQl Tryz.rQl Tryz.wQl
def Tryz.EQs : Env := Tryz.env0 false (sumsOf []) (keepF 72 [(4, [0, 1, 5])])
def Tryz.bQs : Code := nthD .skip (loopsOf (bodyOf Tryz.EQs 72)) 0
def Tryz.VQs (L M : List LinD) (i : Int) : List AV := [.ro (LI.con L) none, .ro (LI.con M) none, .val (.int .i64 i)]
theorem Tryz.eQs : EnvOk2 Tryz.prog Tryz.EQs := Tryz.envOk false (sumsOf []) _ (fun g A h => by cases h)
theorem Tryz.rQs (L M : List LinD) (i : Int) : codeS Tryz.EQs (callF Tryz.EQs 5) (Tryz.EQs.keep 72) (lsumsOf []) Tryz.bQs (outK [0, 1, 5] [4]) (stOf 26 [0, 1, 5] (Tryz.VQs L M i) ⟨0, []⟩) = eqRound LI ceqLi 26 [0, 1, 5] (Tryz.VQs L M) L M i := by kernel_rfl
theorem Tryz.wQs (L M : List LinD) : rootS Tryz.EQs 5 72 (lsumsOf [(4, eqL LI ceqLi 26 [0, 1, 5] (Tryz.VQs L M) L M)]) [.ro (LI.con L) none, .ro (LI.con M) none] = eqRun LI ceqLi 26 [0, 1, 5] (Tryz.VQs L M) L M := by kernel_rfl
theorem Tryz.sumQs : SumC Tryz.prog 72 (eqqA LI ceqLi) := eq_sum Tryz.eQs (d := 5) (lid := 4) (c := Tryz.bQs) ⟨Tryz.f72, _, Tryz.fnOk72.1, Tryz.fnOk72.2, rfl⟩ (by kernel_rfl) (by kernel_rfl) (by kernel_rfl) Tryz.VQs Tryz.rQs Tryz.wQs
def Tryz.EQb : Env := Tryz.env0 false (sumsOf []) (keepF 62 [(4, [0, 1, 12, 13])])
def Tryz.bQb : Code := nthD .skip (loopsOf (bodyOf Tryz.EQb 62)) 0
def Tryz.VQb (L M : List Int) (i : Int) : List AV := [.ro (BY.con L) none, .ro (BY.con M) none, .val (.int .i64 (L.length : Nat)), .val (.int .i64 i)]
theorem Tryz.eQb : EnvOk2 Tryz.prog Tryz.EQb := Tryz.envOk false (sumsOf []) _ (fun g A h => by cases h)
theorem Tryz.rQb (L M : List Int) (i : Int) : codeS Tryz.EQb (callF Tryz.EQb 5) (Tryz.EQb.keep 62) (lsumsOf []) Tryz.bQb (outK [0, 1, 12, 13] [4]) (stOf 26 [0, 1, 12, 13] (Tryz.VQb L M i) ⟨0, []⟩) = eqRound BY ceqBy 26 [0, 1, 12, 13] (Tryz.VQb L M) L M i := by
  refine (show _ = bif decide (i < (L.length : Int)) then (bif inR i L.length then (bif inR i M.length then (bif (L.getD i.toNat 0) != (M.getD i.toNat 0) then some (.ret, stOf 26 [4] [.val (.bool false)] ⟨0, []⟩) else some (.normal, stOf 26 [0, 1, 12, 13] (Tryz.VQb L M (IntKind.i64.wrap (i + 1))) ⟨0, []⟩)) else none) else none) else some (.exit 0, stOf 26 [] [] ⟨0, []⟩) from by kernel_rfl).trans ?_
  show _ = bif decide (i < (L.length : Int)) then (bif inR i L.length then (bif inR i M.length then (bif !(!((L.getD i.toNat 0) != (M.getD i.toNat 0))) then _ else _) else none) else none) else _
  rw [Bool.not_not]
theorem Tryz.wQb (L M : List Int) : rootS Tryz.EQb 5 62 (lsumsOf [(4, eqL BY ceqBy 26 [0, 1, 12, 13] (Tryz.VQb L M) L M)]) [.ro (BY.con L) none, .ro (BY.con M) none] = eqRun BY ceqBy 26 [0, 1, 12, 13] (Tryz.VQb L M) L M := by kernel_rfl
theorem Tryz.sumQb : SumC Tryz.prog 62 (eqqA BY ceqBy) := eq_sum Tryz.eQb (d := 5) (lid := 4) (c := Tryz.bQb) ⟨Tryz.f62, _, Tryz.fnOk62.1, Tryz.fnOk62.2, rfl⟩ (by kernel_rfl) (by kernel_rfl) (by kernel_rfl) Tryz.VQb Tryz.rQb Tryz.wQb
end Go.Ev
/- Equal objects. -/
namespace Go.Ev
open Go.Proofs
def Tryz.tQe : List (Nat × AFun) := [(62, eqqA BY ceqBy)]
def Tryz.EQe : Env := Tryz.env0 false (sumsOf Tryz.tQe) (keepF 74 [(4, [1, 2, 15, 16, 17])])
def Tryz.bQe : Code := nthD .skip (loopsOf (bodyOf Tryz.EQe 74)) 0
def Tryz.BQe (s : St) : Option (AX × St) := codeS Tryz.EQe (callF Tryz.EQe 6) (Tryz.EQe.keep 74) (lsumsOf []) Tryz.bQe (outK [1, 2, 15, 16, 17] [6]) s
def Tryz.cloQe : AV := .clo (.func 73) [] []
def Tryz.VQe (L M : List SecD) (k : Nat) : List AV := [.ro (SE.con M) none, Tryz.cloQe, .ro (SE.con L) none, .val (.int .i64 (L.length : Nat)), .val (.int .i64 k)]
theorem Tryz.rQe (L M : List SecD) (k : Nat) : Tryz.BQe (stOf 32 [1, 2, 15, 16, 17] (Tryz.VQe L M k) ⟨0, []⟩) =
 bif decide ((↑k : Int) < (↑L.length : Int)) then
 bif inR (↑k : Int) L.length then
 bif inR (↑k : Int) M.length then
 bif (L.getD k SE.z).fst.toList == (M.getD k SE.z).fst.toList then
 bif (L.getD k SE.z).snd.fst == (M.getD k SE.z).snd.fst then
 bif (L.getD k SE.z).snd.snd.fst == (M.getD k SE.z).snd.snd.fst then
 bif (L.getD k SE.z).snd.snd.snd.snd == (M.getD k SE.z).snd.snd.snd.snd then
 bif BY.ok (Con.ints IntKind.u8 (L.getD k SE.z).snd.snd.snd.fst) && (BY.ok (Con.ints IntKind.u8 (M.getD k SE.z).snd.snd.snd.fst) && (BY.list (Con.ints IntKind.u8 (L.getD k SE.z).snd.snd.snd.fst)).length.ble 1000000) then
 bif eqD BY ceqBy (BY.list (Con.ints IntKind.u8 (L.getD k SE.z).snd.snd.snd.fst)) (BY.list (Con.ints IntKind.u8 (M.getD k SE.z).snd.snd.snd.fst)) then
 some (.normal, stOf 32 [1, 2, 15, 16, 17] [.ro (SE.con M) none, .clo (Fn.func 73) [] [], .ro (SE.con L) none, .val (.int .i64 ((↑L.length : Int))), .val (.int .i64 (IntKind.i64.wrap ((↑k : Int) + 1)))] ⟨0, []⟩)
 else
 some (.ret, stOf 32 [6] [.val (.bool false)] ⟨0, []⟩)
 else
 none
 else
 some (.ret, stOf 32 [6] [.val (.bool false)] ⟨0, []⟩)
 else
 some (.ret, stOf 32 [6] [.val (.bool false)] ⟨0, []⟩)
 else
 some (.ret, stOf 32 [6] [.val (.bool false)] ⟨0, []⟩)
 else
 some (.ret, stOf 32 [6] [.val (.bool false)] ⟨0, []⟩)
 else
 none
 else
 none
 else
 some (.exit 0, stOf 32 [] [] ⟨0, []⟩) := by kernel_rfl
theorem by_ok (l : List Int) : BY.ok (.ints .u8 l) = true := by
  unfold RowTy.ok RowTy.all
  rw [show (Nat.beq (Con.wd (.ints .u8 l)) BY.wd) = true from rfl, Bool.true_and]
  exact @decide_eq_true _ (Classical.propDecidable _) (fun i _ => rfl)
theorem by_list (l : List Int) : BY.list (.ints .u8 l) = l := by
  unfold RowTy.list
  refine List.ext_getElem (by simp [Con.len]) (fun i h1 h2 => ?_)
  rw [List.getElem_map, List.getElem_range]
  show l.getD i 0 = l[i]
  rw [List.getD_eq_getElem?_getD, List.getElem?_eq_getElem h2]; rfl
theorem ceqBy_iff (x y : Int) : ceqBy x y = true ↔ x = y := by simp [ceqBy]
theorem str_eq (a b : ByteArray) : (a.toList == b.toList) = propB (a = b) := by
  rw [← bytes_beq]
  by_cases h : a = b
  · rw [propB_t h, ba_iff]; exact h
  · rw [propB_f h, ← Bool.not_eq_true, ba_iff]; exact h
theorem int_eq (a b : Int) : (a == b) = propB (a = b) := by
  by_cases h : a = b
  · rw [propB_t h, beq_iff_eq]; exact h
  · rw [propB_f h, beq_eq_false_iff_ne]; exact h
theorem propB_and (p q : Prop) : propB (p ∧ q) = (propB p && propB q) := by
  by_cases h1 : p <;> by_cases h2 : q
  · rw [propB_t h1, propB_t h2, propB_t ⟨h1, h2⟩]; rfl
  · rw [propB_t h1, propB_f h2, propB_f (fun h => h2 h.2)]; rfl
  · rw [propB_f h1, propB_f (fun h => h1 h.1)]; rfl
  · rw [propB_f h1, propB_f (fun h => h1 h.1)]; rfl
theorem propB_iff {p q : Prop} (h : p ↔ q) : propB p = propB q := by rw [propext h]
theorem bool_eq {b : Bool} {p : Prop} (h : b = true ↔ p) : b = propB p := by
  by_cases hp : p
  · rw [propB_t hp]; exact h.2 hp
  · rw [propB_f hp, ← Bool.not_eq_true]; exact fun q => hp (h.1 q)
theorem sec_ext (x y : SecD) : (x = y) ↔ (x.1 = y.1 ∧ x.2.1 = y.2.1 ∧ x.2.2.1 = y.2.2.1 ∧ x.2.2.2.2 = y.2.2.2.2 ∧ x.2.2.2.1 = y.2.2.2.1) := by
  obtain ⟨a, b, c, d, e⟩ := x
  obtain ⟨a', b', c', d', e'⟩ := y
  simp only [Prod.mk.injEq]
  constructor
  · rintro ⟨h1, h2, h3, h4, h5⟩; exact ⟨h1, h2, h3, h5, h4⟩
  · rintro ⟨h1, h2, h3, h5, h4⟩; exact ⟨h1, h2, h3, h4, h5⟩
theorem list_same {D : Type} {L M : List D} (z : D) (h : L.length = M.length) : allOk L.length (fun k => propB (L.getD k z = M.getD k z)) = propB (L = M) := by
  refine bool_eq ?_
  rw [allOk_iff]
  constructor
  · intro q
    refine List.ext_getElem h (fun i h1 h2 => ?_)
    have := propB_eq (q i h1)
    rwa [List.getD_eq_getElem?_getD, List.getD_eq_getElem?_getD, List.getElem?_eq_getElem h1, List.getElem?_eq_getElem h2] at this
  · rintro rfl i _; exact propB_t rfl
def seLen (L : List SecD) : Prop := L.length ≤ 1000000 ∧ ∀ e ∈ L, e.2.2.2.1.length ≤ 1000000
def okQe (L M : List SecD) (k : Nat) : Bool := propB (L.getD k SE.z = M.getD k SE.z)
def Tryz.LQe (L M : List SecD) : LSum := atL (stOf 32 [1, 2, 15, 16, 17] (Tryz.VQe L M 0) ⟨0, []⟩) (.grd (decide (L.length = M.length)) (.br (allOk L.length (okQe L M)) (.out (.exit 0, stOf 32 [] [] ⟨0, []⟩)) (.out (.ret, stOf 32 [6] [.val (.bool false)] ⟨0, []⟩))))
def qeS (args : List AV) : Ans (AV × Heap) := match args with
  | [.ro c1 k1, .ro c2 k2, .clo (.func 73) [] []] => .grd ((SE.ok c1 && SE.ok c2) && propB (seLen (SE.list c1))) (.out (.val (.bool (propB (SE.list c1 = SE.list c2))), ⟨0, []⟩))
  | _ => .no
theorem Tryz.eQe : EnvOk2 Tryz.prog Tryz.EQe := Tryz.envOk false (sumsOf Tryz.tQe) _ (sumsOf_ok (show AllS Tryz.prog Tryz.tQe from ⟨Tryz.sumQb, trivial⟩))
theorem Tryz.sQe (L M : List SecD) (hL : seLen L) (hlm : L.length = M.length) (k : Nat) (hk : k ≤ L.length) : Tryz.BQe (stOf 32 [1, 2, 15, 16, 17] (Tryz.VQe L M k) ⟨0, []⟩) =
    bif decide (k < L.length) then (bif okQe L M k then some (.normal, stOf 32 [1, 2, 15, 16, 17] (Tryz.VQe L M (k + 1)) ⟨0, []⟩) else some (.ret, stOf 32 [6] [.val (.bool false)] ⟨0, []⟩)) else some (.exit 0, stOf 32 [] [] ⟨0, []⟩) := by
  obtain ⟨h1, h2⟩ := hL
  have key := Tryz.rQe L M k
  rw [declt_nat, inR_nat, inR_nat, wrapS k (by omega)] at key
  refine key.trans ?_
  by_cases h : k < L.length
  · rw [decide_eq_true h, decide_eq_true (show k < M.length by omega)]
    simp only [cond_true]
    rw [by_ok, by_ok, by_list, by_list, ble_t (h2 _ (getD_mem h))]
    unfold okQe
    rw [propB_iff (sec_ext _ _), propB_and, propB_and, propB_and, propB_and, str_eq, int_eq, int_eq, int_eq, bool_eq (eqD_iff ceqBy_iff _ _)]
    generalize L.getD k SE.z = x
    generalize M.getD k SE.z = y
    cases propB (x.1 = y.1) <;> cases propB (x.2.1 = y.2.1) <;> cases propB (x.2.2.1 = y.2.2.1) <;> cases propB (x.2.2.2.2 = y.2.2.2.2) <;> cases propB (x.2.2.2.1 = y.2.2.2.1) <;> rfl
  · rw [decide_eq_false h]; rfl
theorem Tryz.lQe (L M : List SecD) (hL : seLen L) : ∀ s e s', s.h.ok → (Tryz.LQe L M s).run = some (e, s') → Triple Tryz.prog (.loop Tryz.bQe) s e s' := by
  refine atL_grd (fun hp => ?_)
  have hlm := of_decide_eq_true hp
  exact all_law Tryz.eQe (d := 6) (g := 74) (ls := lsumsOf []) (c := Tryz.bQe) trivial [1, 2, 15, 16, 17] [6] 0 (fun k => stOf 32 [1, 2, 15, 16, 17] (Tryz.VQe L M k) ⟨0, []⟩) _ _ _ (okQe L M) L.length (fun _ => heap0_ok) heap0_ok heap0_ok (Weak.refl heap0_ok) (fun k hk _ => Tryz.sQe L M hL hlm k hk)
theorem Tryz.wQe (L M : List SecD) : rootS Tryz.EQe 6 74 (lsumsOf [(4, Tryz.LQe L M)]) [.ro (SE.con L) none, .ro (SE.con M) none, Tryz.cloQe] =
 bif (↑L.length : Int) != (↑M.length : Int) then
 some (.val (.bool false), ⟨0, []⟩)
 else
 bif isSt (stOf 32 [1, 2, 15, 16, 17] (Tryz.VQe L M 0) { next := 0, es := [] }) (stOf 32 [1, 2, 15, 16, 17] (Tryz.VQe L M 0) { next := 0, es := [] }) then
 bif decide (L.length = M.length) then
 bif allOk L.length (okQe L M) then
 some (.val (.bool true), ⟨0, []⟩)
 else
 some (.val (.bool false), ⟨0, []⟩)
 else
 none
 else
 none := by kernel_rfl
theorem Tryz.sumQe : SumC Tryz.prog 74 (pureA (fun args => qeS (nzs [SE.con [], SE.con []] args))) := by
  refine pureSumR 74 ⟨Tryz.f74, _, Tryz.fnOk74.1, Tryz.fnOk74.2, rfl⟩ ?_
  intro args v h2 hs
  refine Alone.nz (cs := [SE.con [], SE.con []]) (by simp [Con.len, RowTy.con]) ?_
  replace hs : (qeS (nzs [SE.con [], SE.con []] args)).run = some (v, h2) := hs
  generalize nzs [SE.con [], SE.con []] args = args' at hs ⊢
  unfold qeS at hs
  split at hs
  · rename_i c1 k1 c2 k2
    rw [Ans.run_grd] at hs
    cases hb : ((SE.ok c1 && SE.ok c2) && propB (seLen (SE.list c1))) with
    | false => rw [hb] at hs; cases hs
    | true =>
    rw [hb, cond_true] at hs
    simp only [Bool.and_eq_true] at hb
    have hi := propB_eq hb.2
    injection hs with hs
    injection hs with q1 q2
    subst q1; subst q2
    refine Alone.argsW (AWs.args (.cons (SE.aw hb.1.1 k1) (.cons (SE.aw hb.1.2 k2) (AWs.refl _)))) ?_
    generalize SE.list c1 = L at hi ⊢
    generalize SE.list c2 = M
    have key := Tryz.wQe L M
    refine rootS_alone Tryz.eQe (d := 6) (g := 74) (ls := lsumsOf [(4, Tryz.LQe L M)]) (AllL.of1 (a := Tryz.bQe) (by kernel_rfl) (LsOk.of rfl rfl (Tryz.lQe L M hi))) (key.trans ?_)
    by_cases hlm : L.length = M.length
    · rw [isSt_refl, cond_true, show ((L.length : Int) != (M.length : Int)) = false by rw [hlm]; simp, cond_false, decide_eq_true hlm, cond_true]
      unfold okQe
      rw [list_same SE.z hlm]
      cases propB (L = M) <;> rfl
    · rw [propB_f (fun q => hlm (congrArg List.length q)), show ((L.length : Int) != (M.length : Int)) = true by rw [bne_iff_ne]; omega]
      rfl
  · cases hs
end Go.Ev
/- Equal objects, as the program and as the specification compare them. -/
namespace Go.Ev
open Go.Proofs
def Tryz.tSa : List (Nat × AFun) := [(74, pureA (fun args => qeS (nzs [SE.con [], SE.con []] args))), (30, eqqA SY ceqSy), (75, eqqA RE ceqRe), (76, eqqA FI ceqFi), (45, eqqA LI ceqLi)]
def Tryz.ESa : Env := Tryz.env0 false (sumsOf Tryz.tSa) (keepF 0 [])
def sameP (a b : OD) : Prop := a.se = b.se ∧ a.sy = b.sy ∧ a.re = b.re ∧ a.fi = b.fi ∧ a.li = b.li
def smlP (a : OD) : Prop := seLen a.se ∧ a.sy.length ≤ 1000000 ∧ a.re.length ≤ 1000000 ∧ a.fi.length ≤ 1000000 ∧ a.li.length ≤ 1000000
def osaS (args : List AV) : Ans (AV × Heap) := match args with
  | [a, b] => .grd ((odIs a && odIs b) && propB (smlP (odP a))) (.out (.val (.bool (propB (sameP (odP a) (odP b)))), ⟨0, []⟩))
  | _ => .no
theorem Tryz.wSa (a b : OD) : rootS Tryz.ESa 6 21 (lsumsOf []) [a.av, b.av] =
 bif SE.ok (SE.con a.se) && SE.ok (SE.con b.se) && propB (seLen (SE.list (SE.con a.se))) then
 bif propB (SE.list (SE.con a.se) = SE.list (SE.con b.se)) then
 bif SY.ok (SY.con a.sy) && (SY.ok (SY.con b.sy) && (SY.list (SY.con a.sy)).length.ble 1000000) then
 bif eqD SY ceqSy (SY.list (SY.con a.sy)) (SY.list (SY.con b.sy)) then
 bif RE.ok (RE.con a.re) && (RE.ok (RE.con b.re) && (RE.list (RE.con a.re)).length.ble 1000000) then
 bif eqD RE ceqRe (RE.list (RE.con a.re)) (RE.list (RE.con b.re)) then
 bif FI.ok (FI.con a.fi) && (FI.ok (FI.con b.fi) && (FI.list (FI.con a.fi)).length.ble 1000000) then
 bif eqD FI ceqFi (FI.list (FI.con a.fi)) (FI.list (FI.con b.fi)) then
 bif LI.ok (LI.con a.li) && (LI.ok (LI.con b.li) && (LI.list (LI.con a.li)).length.ble 1000000) then
 bif eqD LI ceqLi (LI.list (LI.con a.li)) (LI.list (LI.con b.li)) then
 some (.val (.bool true), ⟨0, []⟩)
 else
 some (.val (.bool false), ⟨0, []⟩)
 else
 none
 else
 some (.val (.bool false), ⟨0, []⟩)
 else
 none
 else
 some (.val (.bool false), ⟨0, []⟩)
 else
 none
 else
 some (.val (.bool false), ⟨0, []⟩)
 else
 none
 else
 some (.val (.bool false), ⟨0, []⟩)
 else
 none := by kernel_rfl
theorem Tryz.eSa : EnvOk2 Tryz.prog Tryz.ESa := Tryz.envOk false (sumsOf Tryz.tSa) _ (sumsOf_ok (show AllS Tryz.prog Tryz.tSa from ⟨Tryz.sumQe, Tryz.sumQy, Tryz.sumQr, Tryz.sumQf, Tryz.sumQl, trivial⟩))
theorem ceqSy_iff (x y : SymD) : ceqSy x y = true ↔ x = y := by
  obtain ⟨a, b, c, d, e, f⟩ := x
  obtain ⟨a', b', c', d', e', f'⟩ := y
  simp only [ceqSy, Bool.and_eq_true, ba_iff, beq_iff_eq, Prod.mk.injEq, and_true]
theorem ceqRe_iff (x y : RelD) : ceqRe x y = true ↔ x = y := by
  obtain ⟨a, b, c, d, e⟩ := x
  obtain ⟨a', b', c', d', e'⟩ := y
  simp [ceqRe]
theorem ceqLi_iff (x y : LinD) : ceqLi x y = true ↔ x = y := by
  obtain ⟨a, b, c, d⟩ := x
  obtain ⟨a', b', c', d'⟩ := y
  simp [ceqLi]
theorem ceqFi_iff (x y : ByteArray) : ceqFi x y = true ↔ x = y := by
  unfold ceqFi
  rw [← bytes_beq, ba_iff]
theorem Tryz.sumSa : SumC Tryz.prog 21 (pureA osaS) := by
  refine pureSumR 21 ⟨Tryz.f21, _, Tryz.fnOk21.1, Tryz.fnOk21.2, rfl⟩ ?_
  intro args v h2 hs
  unfold osaS at hs
  split at hs
  · rename_i va vb
    rw [Ans.run_grd] at hs
    cases hb : ((odIs va && odIs vb) && propB (smlP (odP va))) with
    | false => rw [hb] at hs; cases hs
    | true =>
    rw [hb, cond_true] at hs
    simp only [Bool.and_eq_true] at hb
    obtain ⟨i1, i2, i3, i4, i5⟩ := propB_eq hb.2
    injection hs with hs
    injection hs with q1 q2
    subst q1; subst q2
    refine Alone.argsW (AWs.args (.cons (od_aw hb.1.1) (.cons (od_aw hb.1.2) .nil))) ?_
    generalize odP va = a at i1 i2 i3 i4 i5 ⊢
    generalize odP vb = b
    refine rootS_alone Tryz.eSa (d := 6) (g := 21) (ls := lsumsOf []) (AllL.noL _) ((Tryz.wSa a b).trans ?_)
    have l1 : ∀ L : List SymD, SY.list (SY.con L) = L := fun L => SY.list_con _
    have l2 : ∀ L : List RelD, RE.list (RE.con L) = L := fun L => RE.list_con _
    have l3 : ∀ L : List ByteArray, FI.list (FI.con L) = L := fun L => FI.list_con _
    have l4 : ∀ L : List LinD, LI.list (LI.con L) = L := fun L => LI.list_con _
    simp only [listSE, l1, l2, l3, l4, SE.ok_con, SY.ok_con, RE.ok_con, FI.ok_con, LI.ok_con]
    rw [propB_t i1, ble_t i2, ble_t i3, ble_t i4, ble_t i5, bool_eq (eqD_iff ceqSy_iff _ _), bool_eq (eqD_iff ceqRe_iff _ _), bool_eq (eqD_iff ceqFi_iff _ _), bool_eq (eqD_iff ceqLi_iff _ _)]
    unfold sameP
    rw [propB_and, propB_and, propB_and, propB_and]
    cases propB (a.se = b.se) <;> cases propB (a.sy = b.sy) <;> cases propB (a.re = b.re) <;> cases propB (a.fi = b.fi) <;> cases propB (a.li = b.li) <;> rfl
  · cases hs
def Tryz.tRs : List (Nat × AFun) := [(72, eqqA LI ceqLi)]
def Tryz.ERs : Env := Tryz.env0 false (sumsOf Tryz.tRs) (keepF 18 [(4, [2, 3, 5]), (11, [2, 3, 8]), (16, [2, 3, 9]), (21, [2, 3, 10])])
def Tryz.bRs (n : Nat) : Code := nthD .skip (loopsOf (bodyOf Tryz.ERs 18)) n
def Tryz.BRs (n j : Nat) (s : St) : Option (AX × St) := codeS Tryz.ERs (callF Tryz.ERs 6) (Tryz.ERs.keep 18) (lsumsOf []) (Tryz.bRs n) (outK [2, 3, j] [2, 3, 4]) s
def hOO (a b : OD) : Heap := ⟨2, [⟨1, 0, .cells (.rows true 5 [b.row])⟩, ⟨0, 0, .cells (.rows true 5 [a.row])⟩]⟩
def sRs (a b : OD) (j k : Nat) : St := stOf 158 [2, 3, j] [.ptr 0 0 0, .ptr 1 0 0, .val (.int .i64 k)] (hOO a b)
def xRs (a b : OD) : St := stOf 158 [2, 3] [.ptr 0 0 0, .ptr 1 0 0] (hOO a b)
def yRs (a b : OD) : St := stOf 158 [2, 3, 4] [.ptr 0 0 0, .ptr 1 0 0, .val (.bool false)] (hOO a b)
theorem Tryz.rRs1 (a b : OD) (k : Nat) : Tryz.BRs 0 5 (sRs a b 5 k) =
 bif decide ((↑k : Int) < (↑a.se.length : Int)) then
 bif inR (↑k : Int) a.se.length then
 bif inR (↑k : Int) b.se.length then
 bif !(a.se.getD k SE.z).fst.toList == (b.se.getD k SE.z).fst.toList then
 some (.ret, stOf 158 [2, 3, 4] [.ptr 0 0 0, .ptr 1 0 0, .val (.bool false)] ⟨2, [⟨1, 0, .cells (.rows true 5 (b.row :: []))⟩, ⟨0, 0, .cells (.rows true 5 (a.row :: []))⟩]⟩ )
 else
 bif (a.se.getD k SE.z).snd.fst != (b.se.getD k SE.z).snd.fst then
 some (.ret, stOf 158 [2, 3, 4] [.ptr 0 0 0, .ptr 1 0 0, .val (.bool false)] ⟨2, [⟨1, 0, .cells (.rows true 5 (b.row :: []))⟩, ⟨0, 0, .cells (.rows true 5 (a.row :: []))⟩]⟩ )
 else
 bif (a.se.getD k SE.z).snd.snd.fst != (b.se.getD k SE.z).snd.snd.fst then
 some (.ret, stOf 158 [2, 3, 4] [.ptr 0 0 0, .ptr 1 0 0, .val (.bool false)] ⟨2, [⟨1, 0, .cells (.rows true 5 (b.row :: []))⟩, ⟨0, 0, .cells (.rows true 5 (a.row :: []))⟩]⟩ )
 else
 bif (a.se.getD k SE.z).snd.snd.snd.snd != (b.se.getD k SE.z).snd.snd.snd.snd then
 some (.ret, stOf 158 [2, 3, 4] [.ptr 0 0 0, .ptr 1 0 0, .val (.bool false)] ⟨2, [⟨1, 0, .cells (.rows true 5 (b.row :: []))⟩, ⟨0, 0, .cells (.rows true 5 (a.row :: []))⟩]⟩ )
 else
 bif (strOf (a.se.getD k SE.z).snd.snd.snd.fst).toList == (strOf (b.se.getD k SE.z).snd.snd.snd.fst).toList then
 some (.normal, stOf 158 [2, 3, 5] [.ptr 0 0 0, .ptr 1 0 0, .val (.int .i64 (IntKind.i64.wrap ((↑k : Int) + 1)))] ⟨2, [⟨1, 0, .cells (.rows true 5 (b.row :: []))⟩, ⟨0, 0, .cells (.rows true 5 (a.row :: []))⟩]⟩ )
 else
 some (.ret, stOf 158 [2, 3, 4] [.ptr 0 0 0, .ptr 1 0 0, .val (.bool false)] ⟨2, [⟨1, 0, .cells (.rows true 5 (b.row :: []))⟩, ⟨0, 0, .cells (.rows true 5 (a.row :: []))⟩]⟩ )
 else
 none
 else
 none
 else
 some (.exit 0, stOf 158 [2, 3] [.ptr 0 0 0, .ptr 1 0 0] ⟨2, [⟨1, 0, .cells (.rows true 5 (b.row :: []))⟩, ⟨0, 0, .cells (.rows true 5 (a.row :: []))⟩]⟩ ) := by kernel_rfl
theorem Tryz.rRs2 (a b : OD) (k : Nat) : Tryz.BRs 1 8 (sRs a b 8 k) =
 bif decide ((↑k : Int) < (↑a.sy.length : Int)) then
 bif inR (↑k : Int) a.sy.length then
 bif inR (↑k : Int) b.sy.length then
 bif !((a.sy.getD k SY.z).fst == (b.sy.getD k SY.z).fst && ((a.sy.getD k SY.z).snd.fst == (b.sy.getD k SY.z).snd.fst && ((a.sy.getD k SY.z).snd.snd.fst == (b.sy.getD k SY.z).snd.snd.fst && ((a.sy.getD k SY.z).snd.snd.snd.fst == (b.sy.getD k SY.z).snd.snd.snd.fst && ((a.sy.getD k SY.z).snd.snd.snd.snd.fst == (b.sy.getD k SY.z).snd.snd.snd.snd.fst && ((a.sy.getD k SY.z).snd.snd.snd.snd.snd == (b.sy.getD k SY.z).snd.snd.snd.snd.snd && true)))))) then
 some (.ret, stOf 158 [2, 3, 4] [.ptr 0 0 0, .ptr 1 0 0, .val (.bool false)] ⟨2, [⟨1, 0, .cells (.rows true 5 (b.row :: []))⟩, ⟨0, 0, .cells (.rows true 5 (a.row :: []))⟩]⟩ )
 else
 some (.normal, stOf 158 [2, 3, 8] [.ptr 0 0 0, .ptr 1 0 0, .val (.int .i64 (IntKind.i64.wrap ((↑k : Int) + 1)))] ⟨2, [⟨1, 0, .cells (.rows true 5 (b.row :: []))⟩, ⟨0, 0, .cells (.rows true 5 (a.row :: []))⟩]⟩ )
 else
 none
 else
 none
 else
 some (.exit 2, stOf 158 [2, 3] [.ptr 0 0 0, .ptr 1 0 0] ⟨2, [⟨1, 0, .cells (.rows true 5 (b.row :: []))⟩, ⟨0, 0, .cells (.rows true 5 (a.row :: []))⟩]⟩ ) := by kernel_rfl
theorem Tryz.rRs3 (a b : OD) (k : Nat) : Tryz.BRs 2 9 (sRs a b 9 k) =
 bif decide ((↑k : Int) < (↑a.re.length : Int)) then
 bif inR (↑k : Int) a.re.length then
 bif inR (↑k : Int) b.re.length then
 bif !((a.re.getD k RE.z).fst == (b.re.getD k RE.z).fst && ((a.re.getD k RE.z).snd.fst == (b.re.getD k RE.z).snd.fst && ((a.re.getD k RE.z).snd.snd.fst == (b.re.getD k RE.z).snd.snd.fst && ((a.re.getD k RE.z).snd.snd.snd.fst == (b.re.getD k RE.z).snd.snd.snd.fst && ((a.re.getD k RE.z).snd.snd.snd.snd == (b.re.getD k RE.z).snd.snd.snd.snd && true))))) then
 some (.ret, stOf 158 [2, 3, 4] [.ptr 0 0 0, .ptr 1 0 0, .val (.bool false)] ⟨2, [⟨1, 0, .cells (.rows true 5 (b.row :: []))⟩, ⟨0, 0, .cells (.rows true 5 (a.row :: []))⟩]⟩ )
 else
 some (.normal, stOf 158 [2, 3, 9] [.ptr 0 0 0, .ptr 1 0 0, .val (.int .i64 (IntKind.i64.wrap ((↑k : Int) + 1)))] ⟨2, [⟨1, 0, .cells (.rows true 5 (b.row :: []))⟩, ⟨0, 0, .cells (.rows true 5 (a.row :: []))⟩]⟩ )
 else
 none
 else
 none
 else
 some (.exit 4, stOf 158 [2, 3] [.ptr 0 0 0, .ptr 1 0 0] ⟨2, [⟨1, 0, .cells (.rows true 5 (b.row :: []))⟩, ⟨0, 0, .cells (.rows true 5 (a.row :: []))⟩]⟩ ) := by kernel_rfl
theorem Tryz.rRs4 (a b : OD) (k : Nat) : Tryz.BRs 3 10 (sRs a b 10 k) =
 bif decide ((↑k : Int) < (↑a.fi.length : Int)) then
 bif inR (↑k : Int) a.fi.length then
 bif inR (↑k : Int) b.fi.length then
 bif !(a.fi.getD k FI.z).toList == (b.fi.getD k FI.z).toList then
 some (.ret, stOf 158 [2, 3, 4] [.ptr 0 0 0, .ptr 1 0 0, .val (.bool false)] ⟨2, [⟨1, 0, .cells (.rows true 5 (b.row :: []))⟩, ⟨0, 0, .cells (.rows true 5 (a.row :: []))⟩]⟩ )
 else
 some (.normal, stOf 158 [2, 3, 10] [.ptr 0 0 0, .ptr 1 0 0, .val (.int .i64 (IntKind.i64.wrap ((↑k : Int) + 1)))] ⟨2, [⟨1, 0, .cells (.rows true 5 (b.row :: []))⟩, ⟨0, 0, .cells (.rows true 5 (a.row :: []))⟩]⟩ )
 else
 none
 else
 none
 else
 some (.exit 6, stOf 158 [2, 3] [.ptr 0 0 0, .ptr 1 0 0] ⟨2, [⟨1, 0, .cells (.rows true 5 (b.row :: []))⟩, ⟨0, 0, .cells (.rows true 5 (a.row :: []))⟩]⟩ ) := by kernel_rfl
end Go.Ev
/- Equal objects, as the specification compares them: the summary. -/
namespace Go.Ev
open Go.Proofs
theorem Tryz.eRs : EnvOk2 Tryz.prog Tryz.ERs := Tryz.envOk false (sumsOf Tryz.tRs) _ (sumsOf_ok (show AllS Tryz.prog Tryz.tRs from ⟨Tryz.sumQs, trivial⟩))
theorem sRs_ok (a b : OD) (j k : Nat) : (sRs a b j k).h.ok := heap_ok [1, 0] rfl (by decide) (by decide)
theorem xRs_ok (a b : OD) : (xRs a b).h.ok := heap_ok [1, 0] rfl (by decide) (by decide)
theorem yRs_ok (a b : OD) : (yRs a b).h.ok := heap_ok [1, 0] rfl (by decide) (by decide)
def LRs {D : Type} (R : RowTy D) (a b : OD) (L M : List D) (j e : Nat) : LSum := atL (sRs a b j 0) (.grd (decide (L.length = M.length) && Nat.ble L.length 1000000) (.br (allOk L.length (fun k => propB (L.getD k R.z = M.getD k R.z))) (.out (.exit e, xRs a b)) (.out (.ret, yRs a b))))
def byteL (l : List Int) : Prop := ∀ n ∈ l, 0 ≤ n ∧ n < 256
def byteP (a : OD) : Prop := ∀ e ∈ a.se, byteL e.2.2.2.1
theorem strOf_injP {l m : List Int} (hl : byteL l) (hm : byteL m) (h : strOf l = strOf m) : l = m := by
  unfold strOf at h
  have h1 : (l.map fun n => UInt8.ofNat n.toNat) = (m.map fun n => UInt8.ofNat n.toNat) := by
    have := congrArg (fun b : ByteArray => b.data.toList) h
    simpa using this
  have hlen : l.length = m.length := by
    have := congrArg List.length h1
    simpa using this
  refine List.ext_getElem hlen (fun i h2 h3 => ?_)
  have h4 : (l.map fun n => UInt8.ofNat n.toNat)[i]'(by simpa using h2) = (m.map fun n => UInt8.ofNat n.toNat)[i]'(by simpa using h3) := by simp only [h1]
  rw [List.getElem_map, List.getElem_map] at h4
  have h5 := congrArg UInt8.toNat h4
  rw [UInt8.toNat_ofNat', UInt8.toNat_ofNat'] at h5
  have b1 := hl _ (List.getElem_mem h2)
  have b2 := hm _ (List.getElem_mem h3)
  omega
theorem strOf_eqP {l m : List Int} (hl : byteL l) (hm : byteL m) : ((strOf l).toList == (strOf m).toList) = propB (l = m) := by
  rw [str_eq]
  exact propB_iff ⟨strOf_injP hl hm, fun h => by rw [h]⟩
theorem Tryz.lRs {D : Type} (R : RowTy D) (a b : OD) (L M : List D) (j e n : Nat) (hin : loopsOf (Tryz.bRs n) = [])
    (hr : ∀ k, L.length = M.length → L.length ≤ 1000000 → k ≤ L.length → Tryz.BRs n j (sRs a b j k) = bif decide (k < L.length) then (bif propB (L.getD k R.z = M.getD k R.z) then some (.normal, sRs a b j (k + 1)) else some (.ret, yRs a b)) else some (.exit e, xRs a b)) :
    ∀ s e' s', s.h.ok → (LRs R a b L M j e s).run = some (e', s') → Triple Tryz.prog (.loop (Tryz.bRs n)) s e' s' := by
  refine atL_grd (fun hp => ?_)
  rw [Bool.and_eq_true, decide_eq_true_eq, Nat.ble_eq] at hp
  exact all_law Tryz.eRs (d := 6) (g := 18) (ls := lsumsOf []) (c := Tryz.bRs n) (by rw [hin]; trivial) [2, 3, j] [2, 3, 4] e (sRs a b j) _ _ _ _ L.length (sRs_ok a b j) (xRs_ok a b) (yRs_ok a b) (Weak.refl (sRs_ok a b j 0)) (fun k hk _ => hr k hp.1 hp.2 hk)
theorem Tryz.l1Rs (a b : OD) (ha : byteP a) (hb : byteP b) : ∀ s e' s', s.h.ok → (LRs SE a b a.se b.se 5 0 s).run = some (e', s') → Triple Tryz.prog (.loop (Tryz.bRs 0)) s e' s' := by
  refine Tryz.lRs SE a b a.se b.se 5 0 0 (by kernel_rfl) (fun k h1 h2 hk => ?_)
  have key := Tryz.rRs1 a b k
  rw [declt_nat, inR_nat, inR_nat, wrapS k (by omega)] at key
  refine key.trans ?_
  by_cases h : k < a.se.length
  · rw [decide_eq_true h, decide_eq_true (show k < b.se.length by omega)]
    simp only [cond_true]
    rw [propB_iff (sec_ext _ _), propB_and, propB_and, propB_and, propB_and, bne, bne, bne, str_eq, int_eq, int_eq, int_eq, strOf_eqP (ha _ (getD_mem h)) (hb _ (getD_mem (show k < b.se.length by omega)))]
    generalize a.se.getD k SE.z = x
    generalize b.se.getD k SE.z = y
    cases propB (x.1 = y.1) <;> cases propB (x.2.1 = y.2.1) <;> cases propB (x.2.2.1 = y.2.2.1) <;> cases propB (x.2.2.2.2 = y.2.2.2.2) <;> cases propB (x.2.2.2.1 = y.2.2.2.1) <;> rfl
  · rw [decide_eq_false h]; rfl
theorem Tryz.l2Rs (a b : OD) : ∀ s e' s', s.h.ok → (LRs SY a b a.sy b.sy 8 2 s).run = some (e', s') → Triple Tryz.prog (.loop (Tryz.bRs 1)) s e' s' := by
  refine Tryz.lRs SY a b a.sy b.sy 8 2 1 (by kernel_rfl) (fun k h1 h2 hk => ?_)
  have key := Tryz.rRs2 a b k
  rw [declt_nat, inR_nat, inR_nat, wrapS k (by omega)] at key
  refine key.trans ?_
  by_cases h : k < a.sy.length
  · rw [decide_eq_true h, decide_eq_true (show k < b.sy.length by omega)]
    simp only [cond_true]
    rw [← bool_eq (ceqSy_iff (a.sy.getD k SY.z) (b.sy.getD k SY.z))]
    show (bif !(ceqSy (a.sy.getD k SY.z) (b.sy.getD k SY.z)) then _ else _) = _
    cases ceqSy (a.sy.getD k SY.z) (b.sy.getD k SY.z) <;> rfl
  · rw [decide_eq_false h]; rfl
theorem Tryz.l3Rs (a b : OD) : ∀ s e' s', s.h.ok → (LRs RE a b a.re b.re 9 4 s).run = some (e', s') → Triple Tryz.prog (.loop (Tryz.bRs 2)) s e' s' := by
  refine Tryz.lRs RE a b a.re b.re 9 4 2 (by kernel_rfl) (fun k h1 h2 hk => ?_)
  have key := Tryz.rRs3 a b k
  rw [declt_nat, inR_nat, inR_nat, wrapS k (by omega)] at key
  refine key.trans ?_
  by_cases h : k < a.re.length
  · rw [decide_eq_true h, decide_eq_true (show k < b.re.length by omega)]
    simp only [cond_true]
    rw [← bool_eq (ceqRe_iff (a.re.getD k RE.z) (b.re.getD k RE.z))]
    show (bif !(ceqRe (a.re.getD k RE.z) (b.re.getD k RE.z)) then _ else _) = _
    cases ceqRe (a.re.getD k RE.z) (b.re.getD k RE.z) <;> rfl
  · rw [decide_eq_false h]; rfl
theorem Tryz.l4Rs (a b : OD) : ∀ s e' s', s.h.ok → (LRs FI a b a.fi b.fi 10 6 s).run = some (e', s') → Triple Tryz.prog (.loop (Tryz.bRs 3)) s e' s' := by
  refine Tryz.lRs FI a b a.fi b.fi 10 6 3 (by kernel_rfl) (fun k h1 h2 hk => ?_)
  have key := Tryz.rRs4 a b k
  rw [declt_nat, inR_nat, inR_nat, wrapS k (by omega)] at key
  refine key.trans ?_
  by_cases h : k < a.fi.length
  · rw [decide_eq_true h, decide_eq_true (show k < b.fi.length by omega), str_eq]
    simp only [cond_true]
    cases propB (a.fi.getD k FI.z = b.fi.getD k FI.z) <;> rfl
  · rw [decide_eq_false h]; rfl
def Tryz.lsRs (a b : OD) : Nat → Option LSum := lsumsOf [(4, LRs SE a b a.se b.se 5 0), (11, LRs SY a b a.sy b.sy 8 2), (16, LRs RE a b a.re b.re 9 4), (21, LRs FI a b a.fi b.fi 10 6)]
def rsaS (args : List AV) : Ans (AV × Heap) := match args with
  | [a, b] => .grd ((odIs a && odIs b) && propB (smlP (odP a) ∧ byteP (odP a) ∧ byteP (odP b))) (.out (.val (.bool (propB (sameP (odP a) (odP b)))), ⟨0, []⟩))
  | _ => .no
theorem Tryz.wRs (a b : OD) : rootS Tryz.ERs 6 18 (Tryz.lsRs a b) [a.av, b.av] =
 bif (↑a.se.length : Int) != (↑b.se.length : Int) then
 some (.val (.bool false), ⟨0, []⟩)
 else
 bif (↑a.sy.length : Int) != (↑b.sy.length : Int) then
 some (.val (.bool false), ⟨0, []⟩)
 else
 bif (↑a.re.length : Int) != (↑b.re.length : Int) then
 some (.val (.bool false), ⟨0, []⟩)
 else
 bif (↑a.fi.length : Int) != (↑b.fi.length : Int) then
 some (.val (.bool false), ⟨0, []⟩)
 else
 bif LI.ok (LI.con a.li) && (LI.ok (LI.con b.li) && (LI.list (LI.con a.li)).length.ble 1000000) then
 bif eqD LI ceqLi (LI.list (LI.con a.li)) (LI.list (LI.con b.li)) then
 bif isSt (sRs a b 5 0) (sRs a b 5 0) then
 bif decide (a.se.length = b.se.length) && a.se.length.ble 1000000 then
 bif allOk a.se.length fun k => propB (a.se.getD k SE.z = b.se.getD k SE.z) then
 bif isSt (sRs a b 8 0) (sRs a b 8 0) then
 bif decide (a.sy.length = b.sy.length) && a.sy.length.ble 1000000 then
 bif allOk a.sy.length fun k => propB (a.sy.getD k SY.z = b.sy.getD k SY.z) then
 bif isSt (sRs a b 9 0) (sRs a b 9 0) then
 bif decide (a.re.length = b.re.length) && a.re.length.ble 1000000 then
 bif allOk a.re.length fun k => propB (a.re.getD k RE.z = b.re.getD k RE.z) then
 bif isSt (sRs a b 10 0) (sRs a b 10 0) then
 bif decide (a.fi.length = b.fi.length) && a.fi.length.ble 1000000 then
 bif allOk a.fi.length fun k => propB (a.fi.getD k FI.z = b.fi.getD k FI.z) then
 some (.val (.bool true), ⟨0, []⟩)
 else
 some (.val (.bool false), ⟨0, []⟩)
 else
 none
 else
 none
 else
 some (.val (.bool false), ⟨0, []⟩)
 else
 none
 else
 none
 else
 some (.val (.bool false), ⟨0, []⟩)
 else
 none
 else
 none
 else
 some (.val (.bool false), ⟨0, []⟩)
 else
 none
 else
 none
 else
 some (.val (.bool false), ⟨0, []⟩)
 else
 none := by kernel_rfl
theorem AllL.of4 {α : Type} {Q : α → Prop} {l : List α} {a b c d : α} (h : l = [a, b, c, d]) (h1 : Q a) (h2 : Q b) (h3 : Q c) (h4 : Q d) : AllL Q l := by rw [h]; exact ⟨h1, h2, h3, h4, trivial⟩
theorem len_ne (n m : Nat) : ((n : Int) != (m : Int)) = !(decide (n = m)) := by
  by_cases h : n = m
  · rw [decide_eq_true h, h]; simp
  · rw [decide_eq_false h, Bool.not_false, bne_iff_ne]; omega
theorem propB_len {D : Type} {L M : List D} (h : ¬ L.length = M.length) : propB (L = M) = false := propB_f (fun q => h (congrArg List.length q))
theorem Tryz.sumRs : SumC Tryz.prog 18 (pureA rsaS) := by
  refine pureSumR 18 ⟨Tryz.f18, _, Tryz.fnOk18.1, Tryz.fnOk18.2, rfl⟩ ?_
  intro args v h2 hs
  unfold rsaS at hs
  split at hs
  · rename_i va vb
    rw [Ans.run_grd] at hs
    cases hb : ((odIs va && odIs vb) && propB (smlP (odP va) ∧ byteP (odP va) ∧ byteP (odP vb))) with
    | false => rw [hb] at hs; cases hs
    | true =>
    rw [hb, cond_true] at hs
    simp only [Bool.and_eq_true] at hb
    obtain ⟨⟨i1, i2, i3, i4, i5⟩, b1, b2⟩ := propB_eq hb.2
    injection hs with hs
    injection hs with q1 q2
    subst q1; subst q2
    refine Alone.argsW (AWs.args (.cons (od_aw hb.1.1) (.cons (od_aw hb.1.2) .nil))) ?_
    generalize odP va = a at i1 i2 i3 i4 i5 b1 ⊢
    generalize odP vb = b at b2 ⊢
    refine rootS_alone Tryz.eRs (d := 6) (g := 18) (ls := Tryz.lsRs a b) (AllL.of4 (a := Tryz.bRs 0) (b := Tryz.bRs 1) (c := Tryz.bRs 2) (d := Tryz.bRs 3) (by kernel_rfl) (LsOk.of rfl rfl (Tryz.l1Rs a b b1 b2)) (LsOk.of rfl rfl (Tryz.l2Rs a b)) (LsOk.of rfl rfl (Tryz.l3Rs a b)) (LsOk.of rfl rfl (Tryz.l4Rs a b))) ((Tryz.wRs a b).trans ?_)
    have l4 : ∀ L : List LinD, LI.list (LI.con L) = L := fun L => LI.list_con _
    rw [isSt_refl, isSt_refl, isSt_refl, isSt_refl, l4, l4, LI.ok_con, LI.ok_con, ble_t i5, ble_t i1.1, ble_t i2, ble_t i3, ble_t i4, len_ne, len_ne, len_ne, len_ne, bool_eq (eqD_iff ceqLi_iff _ _)]
    unfold sameP
    rw [propB_and, propB_and, propB_and, propB_and]
    by_cases n1 : a.se.length = b.se.length
    rotate_left
    · rw [propB_len n1, decide_eq_false n1]; rfl
    rw [list_same SE.z n1, decide_eq_true n1]
    by_cases n2 : a.sy.length = b.sy.length
    rotate_left
    · rw [propB_len n2, decide_eq_false n2]; cases propB (a.se = b.se) <;> rfl
    rw [list_same SY.z n2, decide_eq_true n2]
    by_cases n3 : a.re.length = b.re.length
    rotate_left
    · rw [propB_len n3, decide_eq_false n3]; cases propB (a.se = b.se) <;> cases propB (a.sy = b.sy) <;> rfl
    rw [list_same RE.z n3, decide_eq_true n3]
    by_cases n4 : a.fi.length = b.fi.length
    rotate_left
    · rw [propB_len n4, decide_eq_false n4]; cases propB (a.se = b.se) <;> cases propB (a.sy = b.sy) <;> cases propB (a.re = b.re) <;> rfl
    rw [list_same FI.z n4, decide_eq_true n4]
    cases propB (a.se = b.se) <;> cases propB (a.sy = b.sy) <;> cases propB (a.re = b.re) <;> cases propB (a.fi = b.fi) <;> cases propB (a.li = b.li) <;> rfl
  · cases hs
end Go.Ev
/- Small objects. -/
namespace Go.Ev
open Go.Proofs
def addW (a b : Int) : Int := IntKind.i64.wrap (a + b)
def tot1 (L : List SecD) (u : Int) : Nat → Int := Nat.rec u (fun k u => addW u (addW ((L.getD k SE.z).1.size : Int) ((L.getD k SE.z).2.2.2.1.length : Int)))
def tot2 (L : List SymD) (u : Int) : Nat → Int := Nat.rec u (fun k u => addW u ((L.getD k SY.z).1.size : Int))
def tot3 (L : List ByteArray) (u : Int) : Nat → Int := Nat.rec u (fun k u => addW u ((L.getD k FI.z).size : Int))
def Tryz.ESl : Env := Tryz.env0 false (sumsOf []) (keepF 10 [(3, [1, 3, 11, 12, 13]), (8, [1, 3, 28, 29, 30]), (13, [1, 3, 41, 42, 43])])
def Tryz.bSl1 : Code := nthD .skip (loopsOf (bodyOf Tryz.ESl 10)) 0
def Tryz.bSl2 : Code := nthD .skip (loopsOf (bodyOf Tryz.ESl 10)) 1
def Tryz.bSl3 : Code := nthD .skip (loopsOf (bodyOf Tryz.ESl 10)) 2
def Tryz.BSl (b : Code) (ks : List Nat) (s : St) : Option (AX × St) := codeS Tryz.ESl (callF Tryz.ESl 4) (Tryz.ESl.keep 10) (lsumsOf []) b (outK ks [1, 3]) s
def Vsl {D : Type} (R : RowTy D) (tot : List D → Int → Nat → Int) (x : OD × List D × Int) (k : Nat) : List AV := [.ptr 0 0 0, .val (.int .i64 (tot x.2.1 x.2.2 k)), .ro (R.con x.2.1) none, .val (.int .i64 x.2.1.length), .val (.int .i64 k)]
def fSl {D : Type} (R : RowTy D) (tot : List D → Int → Nat → Int) (b : Nat) (vs : List AV) (h : Heap) : Ans (AX × List AV × Heap) := match vs, h with
  | [.ptr 0 0 0, .val (.int .i64 u), .ro c _, .val (.int .i64 n), .val (.int .i64 (.ofNat 0))], ⟨1, [⟨0, 0, .cells (.rows true 5 [r])⟩]⟩ =>
    .grd ((odIs (.agg r) && R.ok c) && (n == (c.len : Int) && Nat.ble c.len 140737488355328)) (.out (.exit b, [.ptr 0 0 0, .val (.int .i64 (tot (R.list c) u c.len))], hO (odP (.agg r))))
  | _, _ => .no
def LSl1 : LSum := toLSum 84 [1, 3, 11, 12, 13] [1, 3] (fSl SE tot1 0)
def LSl2 : LSum := toLSum 84 [1, 3, 28, 29, 30] [1, 3] (fSl SY tot2 2)
def LSl3 : LSum := toLSum 84 [1, 3, 41, 42, 43] [1, 3] (fSl FI tot3 4)
theorem Tryz.rSl1 (x : OD × List SecD × Int) (k : Nat) : Tryz.BSl Tryz.bSl1 [1, 3, 11, 12, 13] (stOf 84 [1, 3, 11, 12, 13] (Vsl SE tot1 x k) (hO x.1)) =
 bif decide ((↑k : Int) < (↑x.snd.fst.length : Int)) then
 bif inR (↑k : Int) x.snd.fst.length then
 some (.normal, stOf 84 [1, 3, 11, 12, 13] [.ptr 0 0 0, .val (.int .i64 (IntKind.i64.wrap (tot1 x.snd.fst x.snd.snd k + IntKind.i64.wrap ((↑(x.snd.fst.getD k SE.z).fst.size : Int) + (↑(x.snd.fst.getD k SE.z).snd.snd.snd.fst.length : Int))))), .ro (.tab 5 (x.snd.fst.length) (fun i => SE.row (x.snd.fst.getD i SE.z))) none, .val (.int .i64 ((↑x.snd.fst.length : Int))), .val (.int .i64 (IntKind.i64.wrap ((↑k : Int) + 1)))] ⟨1, [⟨0, 0, .cells (.rows true 5 ([.ro (.tab 5 (x.fst.se.length) (fun i => SE.row (x.fst.se.getD i SE.z))) none, .ro (.tab 6 (x.fst.sy.length) (fun i => SY.row (x.fst.sy.getD i SY.z))) none, .ro (.tab 5 (x.fst.re.length) (fun i => RE.row (x.fst.re.getD i RE.z))) none, .ro (.tab 1 (x.fst.fi.length) (fun i => FI.row (x.fst.fi.getD i FI.z))) none, .ro (.tab 4 (x.fst.li.length) (fun i => LI.row (x.fst.li.getD i LI.z))) none] :: []))⟩]⟩ )
 else
 none
 else
 some (.exit 0, stOf 84 [1, 3] [.ptr 0 0 0, .val (.int .i64 (tot1 x.snd.fst x.snd.snd k))] ⟨1, [⟨0, 0, .cells (.rows true 5 ([.ro (.tab 5 (x.fst.se.length) (fun i => SE.row (x.fst.se.getD i SE.z))) none, .ro (.tab 6 (x.fst.sy.length) (fun i => SY.row (x.fst.sy.getD i SY.z))) none, .ro (.tab 5 (x.fst.re.length) (fun i => RE.row (x.fst.re.getD i RE.z))) none, .ro (.tab 1 (x.fst.fi.length) (fun i => FI.row (x.fst.fi.getD i FI.z))) none, .ro (.tab 4 (x.fst.li.length) (fun i => LI.row (x.fst.li.getD i LI.z))) none] :: []))⟩]⟩ ) := by kernel_rfl
theorem Tryz.rSl2 (x : OD × List SymD × Int) (k : Nat) : Tryz.BSl Tryz.bSl2 [1, 3, 28, 29, 30] (stOf 84 [1, 3, 28, 29, 30] (Vsl SY tot2 x k) (hO x.1)) =
 bif decide ((↑k : Int) < (↑x.snd.fst.length : Int)) then
 bif inR (↑k : Int) x.snd.fst.length then
 some (.normal, stOf 84 [1, 3, 28, 29, 30] [.ptr 0 0 0, .val (.int .i64 (IntKind.i64.wrap (tot2 x.snd.fst x.snd.snd k + (↑(x.snd.fst.getD k SY.z).fst.size : Int)))), .ro (.tab 6 (x.snd.fst.length) (fun i => SY.row (x.snd.fst.getD i SY.z))) none, .val (.int .i64 ((↑x.snd.fst.length : Int))), .val (.int .i64 (IntKind.i64.wrap ((↑k : Int) + 1)))] ⟨1, [⟨0, 0, .cells (.rows true 5 ([.ro (.tab 5 (x.fst.se.length) (fun i => SE.row (x.fst.se.getD i SE.z))) none, .ro (.tab 6 (x.fst.sy.length) (fun i => SY.row (x.fst.sy.getD i SY.z))) none, .ro (.tab 5 (x.fst.re.length) (fun i => RE.row (x.fst.re.getD i RE.z))) none, .ro (.tab 1 (x.fst.fi.length) (fun i => FI.row (x.fst.fi.getD i FI.z))) none, .ro (.tab 4 (x.fst.li.length) (fun i => LI.row (x.fst.li.getD i LI.z))) none] :: []))⟩]⟩ )
 else
 none
 else
 some (.exit 2, stOf 84 [1, 3] [.ptr 0 0 0, .val (.int .i64 (tot2 x.snd.fst x.snd.snd k))] ⟨1, [⟨0, 0, .cells (.rows true 5 ([.ro (.tab 5 (x.fst.se.length) (fun i => SE.row (x.fst.se.getD i SE.z))) none, .ro (.tab 6 (x.fst.sy.length) (fun i => SY.row (x.fst.sy.getD i SY.z))) none, .ro (.tab 5 (x.fst.re.length) (fun i => RE.row (x.fst.re.getD i RE.z))) none, .ro (.tab 1 (x.fst.fi.length) (fun i => FI.row (x.fst.fi.getD i FI.z))) none, .ro (.tab 4 (x.fst.li.length) (fun i => LI.row (x.fst.li.getD i LI.z))) none] :: []))⟩]⟩ ) := by kernel_rfl
theorem Tryz.rSl3 (x : OD × List ByteArray × Int) (k : Nat) : Tryz.BSl Tryz.bSl3 [1, 3, 41, 42, 43] (stOf 84 [1, 3, 41, 42, 43] (Vsl FI tot3 x k) (hO x.1)) =
 bif decide ((↑k : Int) < (↑x.snd.fst.length : Int)) then
 bif inR (↑k : Int) x.snd.fst.length then
 some (.normal, stOf 84 [1, 3, 41, 42, 43] [.ptr 0 0 0, .val (.int .i64 (IntKind.i64.wrap (tot3 x.snd.fst x.snd.snd k + (↑(x.snd.fst.getD k FI.z).size : Int)))), .ro (.tab 1 (x.snd.fst.length) (fun i => FI.row (x.snd.fst.getD i FI.z))) none, .val (.int .i64 ((↑x.snd.fst.length : Int))), .val (.int .i64 (IntKind.i64.wrap ((↑k : Int) + 1)))] ⟨1, [⟨0, 0, .cells (.rows true 5 ([.ro (.tab 5 (x.fst.se.length) (fun i => SE.row (x.fst.se.getD i SE.z))) none, .ro (.tab 6 (x.fst.sy.length) (fun i => SY.row (x.fst.sy.getD i SY.z))) none, .ro (.tab 5 (x.fst.re.length) (fun i => RE.row (x.fst.re.getD i RE.z))) none, .ro (.tab 1 (x.fst.fi.length) (fun i => FI.row (x.fst.fi.getD i FI.z))) none, .ro (.tab 4 (x.fst.li.length) (fun i => LI.row (x.fst.li.getD i LI.z))) none] :: []))⟩]⟩ )
 else
 none
 else
 some (.exit 4, stOf 84 [1, 3] [.ptr 0 0 0, .val (.int .i64 (tot3 x.snd.fst x.snd.snd k))] ⟨1, [⟨0, 0, .cells (.rows true 5 ([.ro (.tab 5 (x.fst.se.length) (fun i => SE.row (x.fst.se.getD i SE.z))) none, .ro (.tab 6 (x.fst.sy.length) (fun i => SY.row (x.fst.sy.getD i SY.z))) none, .ro (.tab 5 (x.fst.re.length) (fun i => RE.row (x.fst.re.getD i RE.z))) none, .ro (.tab 1 (x.fst.fi.length) (fun i => FI.row (x.fst.fi.getD i FI.z))) none, .ro (.tab 4 (x.fst.li.length) (fun i => LI.row (x.fst.li.getD i LI.z))) none] :: []))⟩]⟩ ) := by kernel_rfl
theorem Tryz.wSl (o : OD) : rootS Tryz.ESl 4 10 (lsumsOf [(3, LSl1), (8, LSl2), (13, LSl3)]) [o.av] =
 bif odIs (AV.agg (AV.agg o.row).cells) && SE.ok (SE.con o.se) && ((↑o.se.length : Int) == (↑o.se.length : Int) && o.se.length.ble 140737488355328) then
 bif odIs (AV.agg (odP (AV.agg (AV.agg o.row).cells)).row) && SY.ok (SY.con (odP (AV.agg (AV.agg o.row).cells)).sy) && ((↑(odP (AV.agg (AV.agg o.row).cells)).sy.length : Int) == (↑(odP (AV.agg (AV.agg o.row).cells)).sy.length : Int) && (odP (AV.agg (AV.agg o.row).cells)).sy.length.ble 140737488355328) then
 bif odIs (AV.agg (odP (AV.agg (odP (AV.agg (AV.agg o.row).cells)).row)).row) && FI.ok (FI.con (odP (AV.agg (odP (AV.agg (AV.agg o.row).cells)).row)).fi) && ((↑(odP (AV.agg (odP (AV.agg (AV.agg o.row).cells)).row)).fi.length : Int) == (↑(odP (AV.agg (odP (AV.agg (AV.agg o.row).cells)).row)).fi.length : Int) && (odP (AV.agg (odP (AV.agg (AV.agg o.row).cells)).row)).fi.length.ble 140737488355328) then
 bif decide ((↑(odP (AV.agg (odP (AV.agg (odP (AV.agg (AV.agg o.row).cells)).row)).row)).se.length : Int) ≤ 20) then
 bif decide ((↑(odP (AV.agg (odP (AV.agg (odP (AV.agg (AV.agg o.row).cells)).row)).row)).sy.length : Int) ≤ 120) then
 bif decide ((↑(odP (AV.agg (odP (AV.agg (odP (AV.agg (AV.agg o.row).cells)).row)).row)).re.length : Int) ≤ 200) then
 bif decide ((↑(odP (AV.agg (odP (AV.agg (odP (AV.agg (AV.agg o.row).cells)).row)).row)).fi.length : Int) ≤ 30) then
 bif decide ((↑(odP (AV.agg (odP (AV.agg (odP (AV.agg (AV.agg o.row).cells)).row)).row)).li.length : Int) ≤ 200) then
 bif decide (tot3 (FI.list (FI.con (odP (AV.agg (odP (AV.agg (AV.agg o.row).cells)).row)).fi)) (tot2 (SY.list (SY.con (odP (AV.agg (AV.agg o.row).cells)).sy)) (tot1 (SE.list (SE.con o.se)) 0 o.se.length) (odP (AV.agg (AV.agg o.row).cells)).sy.length) (odP (AV.agg (odP (AV.agg (AV.agg o.row).cells)).row)).fi.length ≤ 4000) then
 some (.val (.bool true), ⟨0, []⟩)
 else
 some (.val (.bool false), ⟨0, []⟩)
 else
 some (.val (.bool false), ⟨0, []⟩)
 else
 some (.val (.bool false), ⟨0, []⟩)
 else
 some (.val (.bool false), ⟨0, []⟩)
 else
 some (.val (.bool false), ⟨0, []⟩)
 else
 some (.val (.bool false), ⟨0, []⟩)
 else
 none
 else
 none
 else
 none := by kernel_rfl
theorem Tryz.eSl : EnvOk2 Tryz.prog Tryz.ESl := Tryz.envOk false (sumsOf []) _ (fun g A h => by cases h)
theorem allOk_true (n : Nat) : allOk n (fun _ => true) = true := allOk_iff.2 (fun _ _ => rfl)
theorem sl_law {D : Type} (R : RowTy D) (tot : List D → Int → Nat → Int) (h0 : ∀ L u, tot L u 0 = u) (b : Nat) (c : Code) (ks : List Nat) (hks : ks.length = 5)
    (hc : AllL (LsOk Tryz.prog (lsumsOf [])) (loopsOf c))
    (hs : ∀ (x : OD × List D × Int) (k : Nat), x.2.1.length ≤ 140737488355328 → k ≤ x.2.1.length → Tryz.BSl c ks (stOf 84 ks (Vsl R tot x k) (hO x.1)) =
      bif decide (k < x.2.1.length) then some (.normal, stOf 84 ks (Vsl R tot x (k + 1)) (hO x.1)) else some (.exit b, stOf 84 [1, 3] [.ptr 0 0 0, .val (.int .i64 (tot x.2.1 x.2.2 x.2.1.length))] (hO x.1))) :
    ∀ s e s', s.h.ok → (toLSum 84 ks [1, 3] (fSl R tot b) s).run = some (e, s') → Triple Tryz.prog (.loop c) s e s' := by
  refine scan_law Tryz.eSl (d := 4) (g := 10) (ls := lsumsOf []) (c := c) hc 84 ks [1, 3] (T := OD × List D × Int) (Vsl R tot) (fun x => hO x.1) (fun x => x.2.1.length) (fun _ _ => true) (fun x => x.2.1.length ≤ 140737488355328)
    (fun x => (.exit b, [.ptr 0 0 0, .val (.int .i64 (tot x.2.1 x.2.2 x.2.1.length))], hO x.1)) (fun x => (.exit b, [.ptr 0 0 0, .val (.int .i64 (tot x.2.1 x.2.2 x.2.1.length))], hO x.1)) (fSl R tot b) ?_ (fun x _ => hO_ok x.1) (fun _ _ => ⟨by simp, by simp⟩) (fun x _ => ⟨hO_ok x.1, hO_ok x.1⟩)
    (fun x k hx hk _ => (hs x k hx hk).trans (by cases decide (k < x.2.1.length) <;> rfl))
  intro vs h e vo h' hok hf
  unfold fSl at hf
  split at hf
  · rename_i u cc cap n r
    rw [Ans.run_grd] at hf
    cases hb : ((odIs (.agg r) && R.ok cc) && (n == (cc.len : Int) && Nat.ble cc.len 140737488355328)) with
    | false => rw [hb] at hf; cases hf
    | true =>
      rw [hb, cond_true] at hf
      simp only [Bool.and_eq_true, Nat.ble_eq, beq_iff_eq] at hb
      obtain ⟨⟨b1, b2⟩, rfl, b3⟩ := hb
      refine ⟨(odP (.agg r), R.list cc, u), by show (R.list cc).length ≤ _; rw [R.list_len]; exact b3, ?_, ?_⟩
      · refine Weak.trans (Weak.slots (oneH_ok _) ?_) (Weak.oneH rfl (od_con b1))
        unfold Vsl
        simp only [h0, R.list_len]
        exact .cons (AW.refl _) (.cons (AW.refl _) (.cons (R.aw b2 cap) (AWs.refl _)))
      · rw [allOk_true, cond_true]
        simp only [R.list_len]
        injection hf
  · cases hf
end Go.Ev
/- Small objects: the summary. -/
namespace Go.Ev
open Go.Proofs
theorem Tryz.lSl1 : ∀ s e s', s.h.ok → (LSl1 s).run = some (e, s') → Triple Tryz.prog (.loop Tryz.bSl1) s e s' := by
  refine sl_law SE tot1 (fun _ _ => rfl) 0 Tryz.bSl1 [1, 3, 11, 12, 13] rfl trivial (fun x k hx hk => ?_)
  rw [Tryz.rSl1, declt_nat, inR_nat, wrapS k (by omega)]
  by_cases h : k < x.2.1.length
  · rw [decide_eq_true h]; rfl
  · rw [decide_eq_false h, show k = x.2.1.length by omega]; rfl
theorem Tryz.lSl2 : ∀ s e s', s.h.ok → (LSl2 s).run = some (e, s') → Triple Tryz.prog (.loop Tryz.bSl2) s e s' := by
  refine sl_law SY tot2 (fun _ _ => rfl) 2 Tryz.bSl2 [1, 3, 28, 29, 30] rfl trivial (fun x k hx hk => ?_)
  rw [Tryz.rSl2, declt_nat, inR_nat, wrapS k (by omega)]
  by_cases h : k < x.2.1.length
  · rw [decide_eq_true h]; rfl
  · rw [decide_eq_false h, show k = x.2.1.length by omega]; rfl
theorem Tryz.lSl3 : ∀ s e s', s.h.ok → (LSl3 s).run = some (e, s') → Triple Tryz.prog (.loop Tryz.bSl3) s e s' := by
  refine sl_law FI tot3 (fun _ _ => rfl) 4 Tryz.bSl3 [1, 3, 41, 42, 43] rfl trivial (fun x k hx hk => ?_)
  rw [Tryz.rSl3, declt_nat, inR_nat, wrapS k (by omega)]
  by_cases h : k < x.2.1.length
  · rw [decide_eq_true h]; rfl
  · rw [decide_eq_false h, show k = x.2.1.length by omega]; rfl
def cntB (o : OD) : Bool := decide (o.se.length ≤ 20) && (decide (o.sy.length ≤ 120) && (decide (o.re.length ≤ 200) && (decide (o.fi.length ≤ 30) && decide (o.li.length ≤ 200))))
def smallB (o : OD) : Bool := cntB o && decide (tot3 o.fi (tot2 o.sy (tot1 o.se 0 o.se.length) o.sy.length) o.fi.length ≤ 4000)
def slInv (o : OD) : Prop := o.se.length ≤ 140737488355328 ∧ o.sy.length ≤ 140737488355328 ∧ o.fi.length ≤ 140737488355328
def smallS (args : List AV) : Ans (AV × Heap) := match args with
  | [o] => .grd (odIs o && propB (slInv (odP o))) (.out (.val (.bool (smallB (odP o))), ⟨0, []⟩))
  | _ => .no
theorem AllL.of3 {α : Type} {Q : α → Prop} {l : List α} {a b c : α} (h : l = [a, b, c]) (h1 : Q a) (h2 : Q b) (h3 : Q c) : AllL Q l := by rw [h]; exact ⟨h1, h2, h3, trivial⟩
theorem Tryz.sumSl : SumC Tryz.prog 10 (pureA smallS) := by
  refine pureSumR 10 ⟨Tryz.f10, _, Tryz.fnOk10.1, Tryz.fnOk10.2, rfl⟩ ?_
  intro args v h2 hs
  unfold smallS at hs
  split at hs
  · rename_i ov
    rw [Ans.run_grd] at hs
    cases hb : (odIs ov && propB (slInv (odP ov))) with
    | false => rw [hb] at hs; cases hs
    | true =>
    rw [hb, cond_true] at hs
    rw [Bool.and_eq_true] at hb
    injection hs with hs
    injection hs with q1 q2
    subst q1; subst q2
    refine Alone.argsW (AWs.args (.cons (od_aw hb.1) .nil)) ?_
    have hi := propB_eq hb.2
    generalize odP ov = o at hi ⊢
    refine rootS_alone Tryz.eSl (d := 4) (g := 10) (ls := lsumsOf [(3, LSl1), (8, LSl2), (13, LSl3)]) (AllL.of3 (a := Tryz.bSl1) (b := Tryz.bSl2) (c := Tryz.bSl3) (by kernel_rfl) (LsOk.of rfl rfl Tryz.lSl1) (LsOk.of rfl rfl Tryz.lSl2) (LsOk.of rfl rfl Tryz.lSl3)) ((Tryz.wSl o).trans ?_)
    obtain ⟨i1, i2, i3⟩ := hi
    simp only [show AV.agg (AV.agg o.row).cells = .agg o.row from rfl, odP_row, odIs_row, show SE.list (SE.con o.se) = o.se from SE.list_con _, show FI.list (FI.con o.fi) = o.fi from FI.list_con _, show SY.list (SY.con o.sy) = o.sy from SY.list_con _, SE.ok_con, FI.ok_con, SY.ok_con, beq_self_eq_true, ble_t i1, ble_t i2, ble_t i3, Bool.and_self, cond_true]
    unfold smallB cntB
    generalize tot3 o.fi (tot2 o.sy (tot1 o.se 0 o.se.length) o.sy.length) o.fi.length = tt
    by_cases h1 : o.se.length ≤ 20
    · by_cases h2 : o.sy.length ≤ 120
      · by_cases h3 : o.re.length ≤ 200
        · by_cases h4 : o.fi.length ≤ 30
          · by_cases h5 : o.li.length ≤ 200
            · rw [decide_eq_true (show (o.se.length : Int) ≤ 20 by omega), decide_eq_true (show (o.sy.length : Int) ≤ 120 by omega), decide_eq_true (show (o.re.length : Int) ≤ 200 by omega), decide_eq_true (show (o.fi.length : Int) ≤ 30 by omega), decide_eq_true (show (o.li.length : Int) ≤ 200 by omega), decide_eq_true h1, decide_eq_true h2, decide_eq_true h3, decide_eq_true h4, decide_eq_true h5]
              cases decide (tt ≤ 4000) <;> rfl
            · rw [decide_eq_true (show (o.se.length : Int) ≤ 20 by omega), decide_eq_true (show (o.sy.length : Int) ≤ 120 by omega), decide_eq_true (show (o.re.length : Int) ≤ 200 by omega), decide_eq_true (show (o.fi.length : Int) ≤ 30 by omega), decide_eq_false (show ¬ (o.li.length : Int) ≤ 200 by omega), decide_eq_true h1, decide_eq_true h2, decide_eq_true h3, decide_eq_true h4, decide_eq_false h5]; rfl
          · rw [decide_eq_true (show (o.se.length : Int) ≤ 20 by omega), decide_eq_true (show (o.sy.length : Int) ≤ 120 by omega), decide_eq_true (show (o.re.length : Int) ≤ 200 by omega), decide_eq_false (show ¬ (o.fi.length : Int) ≤ 30 by omega), decide_eq_true h1, decide_eq_true h2, decide_eq_true h3, decide_eq_false h4]; rfl
        · rw [decide_eq_true (show (o.se.length : Int) ≤ 20 by omega), decide_eq_true (show (o.sy.length : Int) ≤ 120 by omega), decide_eq_false (show ¬ (o.re.length : Int) ≤ 200 by omega), decide_eq_true h1, decide_eq_true h2, decide_eq_false h3]; rfl
      · rw [decide_eq_true (show (o.se.length : Int) ≤ 20 by omega), decide_eq_false (show ¬ (o.sy.length : Int) ≤ 120 by omega), decide_eq_true h1, decide_eq_false h2]; rfl
    · rw [decide_eq_false (show ¬ (o.se.length : Int) ≤ 20 by omega), decide_eq_false h1]; rfl
  · cases hs
end Go.Ev
/- LineAt: the rounds. -/
namespace Go.Ev
open Go.Proofs
def hL (o : OD) (e : LinD) : Heap := ⟨2, [⟨1, 0, .cells (.rows true 4 [liRow e])⟩, ⟨0, 0, .cells (.rows true 5 [o.row])⟩]⟩
def hR (e : LinD) : Heap := ⟨1, [⟨0, 0, .cells (.rows true 4 [liRow e])⟩]⟩
end Go.Ev
/- LineAt: the summary; ObjCovered's run. -/
namespace Go.Ev
open Go.Proofs
end Go.Ev
/- ObjCovered: the plain law. -/
namespace Go.Ev
open Go.Proofs
def odB (o : OD) : Prop := slInv o ∧ (∀ e ∈ o.se, e.2.2.2.1.length ≤ 140737488355328) ∧ (∀ s ∈ o.sy, syBound s) ∧ ∀ s ∈ o.fi, s.size ≤ 140737488355328
theorem small_cnt {o : OD} (h : smallB o = true) : o.se.length ≤ 20 ∧ o.sy.length ≤ 120 ∧ o.re.length ≤ 200 ∧ o.fi.length ≤ 30 ∧ o.li.length ≤ 200 := by
  unfold smallB cntB at h
  simp only [Bool.and_eq_true, decide_eq_true_eq] at h
  exact ⟨h.1.1, h.1.2.1, h.1.2.2.1, h.1.2.2.2.1, h.1.2.2.2.2⟩
theorem small_inv {o : OD} (hb : odB o) (h : smallB o = true) : odInv o := by
  obtain ⟨h1, h2, h3, h4⟩ := hb
  obtain ⟨c1, c2, c3, c4, c5⟩ := small_cnt h
  exact ⟨⟨by omega, h2⟩, ⟨by omega, h3⟩, by omega, ⟨by omega, h4⟩, by omega⟩
end Go.Ev
/- ObjChecks: the run. -/
namespace Go.Ev
open Go.Proofs
def Tryz.tCk : List (Nat × AFun) := [(9, constA (.bool true)), (10, pureA smallS), (22, pureA isS), (47, pureA isS), (21, pureA osaS), (18, pureA rsaS)]
def Tryz.ECk : Env := Tryz.env0 false (sumsOf Tryz.tCk) (keepF 0 [])
theorem Tryz.eCk : EnvOk2 Tryz.prog Tryz.ECk := Tryz.envOk false (sumsOf Tryz.tCk) _ (sumsOf_ok (show AllS Tryz.prog Tryz.tCk from ⟨Tryz.saneSum, Tryz.sumSl, Tryz.sumIs, Tryz.sumPv, Tryz.sumSa, Tryz.sumRs, trivial⟩))
theorem Tryz.rCk (a b : OD) : rootS Tryz.ECk 6 4 (lsumsOf []) [a.av, b.av] =
 bif odIs (AV.agg a.row) && propB (slInv (odP (AV.agg a.row))) then
 bif smallB (odP (AV.agg a.row)) then
 bif odIs (AV.agg b.row) && propB (slInv (odP (AV.agg b.row))) then
 bif smallB (odP (AV.agg b.row)) then
 bif odIs (AV.agg a.row) && propB (odInv (odP (AV.agg a.row))) then
 bif objB (odP (AV.agg a.row)) then
 bif odIs (AV.agg a.row) && propB (odInv (odP (AV.agg a.row))) then
 bif objB (odP (AV.agg a.row)) then
 bif odIs (AV.agg b.row) && propB (odInv (odP (AV.agg b.row))) then
 bif objB (odP (AV.agg b.row)) then
 bif odIs (AV.agg b.row) && propB (odInv (odP (AV.agg b.row))) then
 bif objB (odP (AV.agg b.row)) then
 bif odIs (AV.agg a.row) && odIs (AV.agg b.row) && propB (smlP (odP (AV.agg a.row))) then
 bif propB (sameP (odP (AV.agg a.row)) (odP (AV.agg b.row))) then
 bif odIs (AV.agg a.row) && odIs (AV.agg b.row) && propB (smlP (odP (AV.agg a.row)) ∧ byteP (odP (AV.agg a.row)) ∧ byteP (odP (AV.agg b.row))) then
 bif propB (sameP (odP (AV.agg a.row)) (odP (AV.agg b.row))) then
 bif odIs (AV.agg a.row) && odIs (AV.agg a.row) && propB (smlP (odP (AV.agg a.row))) then
 bif propB (sameP (odP (AV.agg a.row)) (odP (AV.agg a.row))) then
 some (.val (.bool true), ⟨0, []⟩)
 else
 some (.val (.bool false), ⟨0, []⟩)
 else
 none
 else
 some (.val (.bool false), ⟨0, []⟩)
 else
 none
 else
 bif odIs (AV.agg a.row) && odIs (AV.agg b.row) && propB (smlP (odP (AV.agg a.row)) ∧ byteP (odP (AV.agg a.row)) ∧ byteP (odP (AV.agg b.row))) then
 bif propB (sameP (odP (AV.agg a.row)) (odP (AV.agg b.row))) then
 some (.val (.bool false), ⟨0, []⟩)
 else
 bif odIs (AV.agg a.row) && odIs (AV.agg a.row) && propB (smlP (odP (AV.agg a.row))) then
 bif propB (sameP (odP (AV.agg a.row)) (odP (AV.agg a.row))) then
 some (.val (.bool true), ⟨0, []⟩)
 else
 some (.val (.bool false), ⟨0, []⟩)
 else
 none
 else
 none
 else
 none
 else
 some (.val (.bool false), ⟨0, []⟩)
 else
 none
 else
 bif odIs (AV.agg b.row) && propB (odInv (odP (AV.agg b.row))) then
 bif objB (odP (AV.agg b.row)) then
 some (.val (.bool false), ⟨0, []⟩)
 else
 bif odIs (AV.agg a.row) && odIs (AV.agg b.row) && propB (smlP (odP (AV.agg a.row))) then
 bif propB (sameP (odP (AV.agg a.row)) (odP (AV.agg b.row))) then
 bif odIs (AV.agg a.row) && odIs (AV.agg b.row) && propB (smlP (odP (AV.agg a.row)) ∧ byteP (odP (AV.agg a.row)) ∧ byteP (odP (AV.agg b.row))) then
 bif propB (sameP (odP (AV.agg a.row)) (odP (AV.agg b.row))) then
 bif odIs (AV.agg a.row) && odIs (AV.agg a.row) && propB (smlP (odP (AV.agg a.row))) then
 bif propB (sameP (odP (AV.agg a.row)) (odP (AV.agg a.row))) then
 some (.val (.bool true), ⟨0, []⟩)
 else
 some (.val (.bool false), ⟨0, []⟩)
 else
 none
 else
 some (.val (.bool false), ⟨0, []⟩)
 else
 none
 else
 bif odIs (AV.agg a.row) && odIs (AV.agg b.row) && propB (smlP (odP (AV.agg a.row)) ∧ byteP (odP (AV.agg a.row)) ∧ byteP (odP (AV.agg b.row))) then
 bif propB (sameP (odP (AV.agg a.row)) (odP (AV.agg b.row))) then
 some (.val (.bool false), ⟨0, []⟩)
 else
 bif odIs (AV.agg a.row) && odIs (AV.agg a.row) && propB (smlP (odP (AV.agg a.row))) then
 bif propB (sameP (odP (AV.agg a.row)) (odP (AV.agg a.row))) then
 some (.val (.bool true), ⟨0, []⟩)
 else
 some (.val (.bool false), ⟨0, []⟩)
 else
 none
 else
 none
 else
 none
 else
 none
 else
 none
 else
 some (.val (.bool false), ⟨0, []⟩)
 else
 none
 else
 bif odIs (AV.agg a.row) && propB (odInv (odP (AV.agg a.row))) then
 bif objB (odP (AV.agg a.row)) then
 some (.val (.bool false), ⟨0, []⟩)
 else
 bif odIs (AV.agg b.row) && propB (odInv (odP (AV.agg b.row))) then
 bif objB (odP (AV.agg b.row)) then
 bif odIs (AV.agg b.row) && propB (odInv (odP (AV.agg b.row))) then
 bif objB (odP (AV.agg b.row)) then
 bif odIs (AV.agg a.row) && odIs (AV.agg b.row) && propB (smlP (odP (AV.agg a.row))) then
 bif propB (sameP (odP (AV.agg a.row)) (odP (AV.agg b.row))) then
 bif odIs (AV.agg a.row) && odIs (AV.agg b.row) && propB (smlP (odP (AV.agg a.row)) ∧ byteP (odP (AV.agg a.row)) ∧ byteP (odP (AV.agg b.row))) then
 bif propB (sameP (odP (AV.agg a.row)) (odP (AV.agg b.row))) then
 bif odIs (AV.agg a.row) && odIs (AV.agg a.row) && propB (smlP (odP (AV.agg a.row))) then
 bif propB (sameP (odP (AV.agg a.row)) (odP (AV.agg a.row))) then
 some (.val (.bool true), ⟨0, []⟩)
 else
 some (.val (.bool false), ⟨0, []⟩)
 else
 none
 else
 some (.val (.bool false), ⟨0, []⟩)
 else
 none
 else
 bif odIs (AV.agg a.row) && odIs (AV.agg b.row) && propB (smlP (odP (AV.agg a.row)) ∧ byteP (odP (AV.agg a.row)) ∧ byteP (odP (AV.agg b.row))) then
 bif propB (sameP (odP (AV.agg a.row)) (odP (AV.agg b.row))) then
 some (.val (.bool false), ⟨0, []⟩)
 else
 bif odIs (AV.agg a.row) && odIs (AV.agg a.row) && propB (smlP (odP (AV.agg a.row))) then
 bif propB (sameP (odP (AV.agg a.row)) (odP (AV.agg a.row))) then
 some (.val (.bool true), ⟨0, []⟩)
 else
 some (.val (.bool false), ⟨0, []⟩)
 else
 none
 else
 none
 else
 none
 else
 some (.val (.bool false), ⟨0, []⟩)
 else
 none
 else
 bif odIs (AV.agg b.row) && propB (odInv (odP (AV.agg b.row))) then
 bif objB (odP (AV.agg b.row)) then
 some (.val (.bool false), ⟨0, []⟩)
 else
 bif odIs (AV.agg a.row) && odIs (AV.agg b.row) && propB (smlP (odP (AV.agg a.row))) then
 bif propB (sameP (odP (AV.agg a.row)) (odP (AV.agg b.row))) then
 bif odIs (AV.agg a.row) && odIs (AV.agg b.row) && propB (smlP (odP (AV.agg a.row)) ∧ byteP (odP (AV.agg a.row)) ∧ byteP (odP (AV.agg b.row))) then
 bif propB (sameP (odP (AV.agg a.row)) (odP (AV.agg b.row))) then
 bif odIs (AV.agg a.row) && odIs (AV.agg a.row) && propB (smlP (odP (AV.agg a.row))) then
 bif propB (sameP (odP (AV.agg a.row)) (odP (AV.agg a.row))) then
 some (.val (.bool true), ⟨0, []⟩)
 else
 some (.val (.bool false), ⟨0, []⟩)
 else
 none
 else
 some (.val (.bool false), ⟨0, []⟩)
 else
 none
 else
 bif odIs (AV.agg a.row) && odIs (AV.agg b.row) && propB (smlP (odP (AV.agg a.row)) ∧ byteP (odP (AV.agg a.row)) ∧ byteP (odP (AV.agg b.row))) then
 bif propB (sameP (odP (AV.agg a.row)) (odP (AV.agg b.row))) then
 some (.val (.bool false), ⟨0, []⟩)
 else
 bif odIs (AV.agg a.row) && odIs (AV.agg a.row) && propB (smlP (odP (AV.agg a.row))) then
 bif propB (sameP (odP (AV.agg a.row)) (odP (AV.agg a.row))) then
 some (.val (.bool true), ⟨0, []⟩)
 else
 some (.val (.bool false), ⟨0, []⟩)
 else
 none
 else
 none
 else
 none
 else
 none
 else
 none
 else
 none
 else
 none
 else
 some (.val (.bool true), ⟨0, []⟩)
 else
 none
 else
 some (.val (.bool true), ⟨0, []⟩)
 else
 none := by kernel_rfl
def foldW (f : Nat → Int) (u : Int) : Nat → Int := Nat.rec u (fun k u => addW u (f k))
def odC (o : OD) : Prop := odB o ∧ byteP o ∧ (∀ e ∈ o.se, e.1.size ≤ 140737488355328) ∧ (∀ s ∈ o.sy, s.1.size ≤ 140737488355328)
theorem foldW_b {f : Nat → Int} {u : Int} (h0 : 0 ≤ u) (h1 : u ≤ 1152921504606846976) : ∀ k, k ≤ 1000 → (∀ i, i < k → 0 ≤ f i ∧ f i ≤ 281474976710656) → u ≤ foldW f u k ∧ foldW f u k ≤ u + (k : Int) * 281474976710656 ∧ ∀ i, i < k → u + f i ≤ foldW f u k
  | 0, _, _ => ⟨Int.le_refl _, by show u ≤ u + 0 * _; omega, fun i hi => by omega⟩
  | k + 1, hk, hf => by
    obtain ⟨a1, a2, a3⟩ := foldW_b h0 h1 k (by omega) (fun i hi => hf i (by omega))
    obtain ⟨b1, b2⟩ := hf k (by omega)
    have e : foldW f u (k + 1) = foldW f u k + f k := by
      show IntKind.i64.wrap (foldW f u k + f k) = _
      exact wrap64 _ (by omega) (by omega)
    rw [e]
    refine ⟨by omega, by omega, fun i hi => ?_⟩
    rcases Nat.lt_or_ge i k with q | q
    · have := a3 i q; omega
    · have : i = k := by omega
      subst this; omega
theorem small_sum {o : OD} (ho : odC o) (h : smallB o = true) : ∀ e ∈ o.se, e.1.size + e.2.2.2.1.length ≤ 4000 := by
  obtain ⟨⟨_, o1, _, o2⟩, _, o3, o4⟩ := ho
  obtain ⟨c1, c2, c3, c4, c5⟩ := small_cnt h
  unfold smallB at h
  simp only [Bool.and_eq_true, decide_eq_true_eq] at h
  have h := h.2
  have g1 : ∀ i, i < o.se.length → 0 ≤ addW ((o.se.getD i SE.z).1.size : Int) ((o.se.getD i SE.z).2.2.2.1.length : Int) ∧ addW ((o.se.getD i SE.z).1.size : Int) ((o.se.getD i SE.z).2.2.2.1.length : Int) ≤ 281474976710656 ∧ addW ((o.se.getD i SE.z).1.size : Int) ((o.se.getD i SE.z).2.2.2.1.length : Int) = ((o.se.getD i SE.z).1.size : Int) + ((o.se.getD i SE.z).2.2.2.1.length : Int) := by
    intro i hi
    have q1 := o1 _ (getD_mem (d := SE.z) hi)
    have q2 := o3 _ (getD_mem (d := SE.z) hi)
    have e : addW ((o.se.getD i SE.z).1.size : Int) ((o.se.getD i SE.z).2.2.2.1.length : Int) = ((o.se.getD i SE.z).1.size : Int) + ((o.se.getD i SE.z).2.2.2.1.length : Int) := wrap64 _ (by omega) (by omega)
    rw [e]
    omega
  obtain ⟨a1, a2, a3⟩ := foldW_b (u := 0) (f := fun i => addW ((o.se.getD i SE.z).1.size : Int) ((o.se.getD i SE.z).2.2.2.1.length : Int)) (by omega) (by omega) o.se.length (by omega) (fun i hi => ⟨(g1 i hi).1, (g1 i hi).2.1⟩)
  obtain ⟨b1, b2, b3⟩ := foldW_b (u := tot1 o.se 0 o.se.length) (f := fun i => ((o.sy.getD i SY.z).1.size : Int)) a1 (by
    have : tot1 o.se 0 o.se.length ≤ 0 + (o.se.length : Int) * 281474976710656 := a2
    omega) o.sy.length (by omega) (fun i hi => by
    have := o4 _ (getD_mem (d := SY.z) hi)
    show 0 ≤ ((o.sy.getD i SY.z).1.size : Int) ∧ ((o.sy.getD i SY.z).1.size : Int) ≤ _
    omega)
  have e1 : 0 ≤ tot1 o.se 0 o.se.length ∧ tot1 o.se 0 o.se.length ≤ 0 + (o.se.length : Int) * 281474976710656 := ⟨a1, a2⟩
  have e2 : tot1 o.se 0 o.se.length ≤ tot2 o.sy (tot1 o.se 0 o.se.length) o.sy.length ∧ tot2 o.sy (tot1 o.se 0 o.se.length) o.sy.length ≤ tot1 o.se 0 o.se.length + (o.sy.length : Int) * 281474976710656 := ⟨b1, b2⟩
  obtain ⟨d1, _, _⟩ := foldW_b (u := tot2 o.sy (tot1 o.se 0 o.se.length) o.sy.length) (f := fun i => ((o.fi.getD i FI.z).size : Int)) (by omega) (by omega) o.fi.length (by omega) (fun i hi => by
    have := o2 _ (getD_mem (d := FI.z) hi)
    show 0 ≤ ((o.fi.getD i FI.z).size : Int) ∧ ((o.fi.getD i FI.z).size : Int) ≤ _
    omega)
  have e3 : tot2 o.sy (tot1 o.se 0 o.se.length) o.sy.length ≤ tot3 o.fi (tot2 o.sy (tot1 o.se 0 o.se.length) o.sy.length) o.fi.length := d1
  intro e he
  obtain ⟨i, hi, rfl⟩ := List.getElem_of_mem he
  have e4 : (0 : Int) + addW ((o.se.getD i SE.z).1.size : Int) ((o.se.getD i SE.z).2.2.2.1.length : Int) ≤ tot1 o.se 0 o.se.length := a3 i hi
  rw [(g1 i hi).2.2] at e4
  rw [List.getD_eq_getElem?_getD, List.getElem?_eq_getElem hi] at e4
  simp only [Option.getD_some] at e4
  omega
theorem small_len {o : OD} (ho : odC o) (h : smallB o = true) : smlP o := by
  obtain ⟨c1, c2, c3, c4, c5⟩ := small_cnt h
  exact ⟨⟨by omega, fun e he => by have := small_sum ho h e he; omega⟩, by omega, by omega, by omega, by omega⟩
theorem Tryz.law4 (a b : OD) (ha : odC a) (hb : odC b) : rootS Tryz.ECk 6 4 (lsumsOf []) [a.av, b.av] = some (.val (.bool true), ⟨0, []⟩) := by
  have key := Tryz.rCk a b
  simp only [odP_row, odIs_row, Bool.true_and] at key
  rw [propB_t ha.1.1, propB_t hb.1.1] at key
  refine key.trans ?_
  cases h1 : smallB a with
  | false => rfl
  | true =>
  cases h2 : smallB b with
  | false => rfl
  | true =>
  rw [propB_t (small_inv ha.1 h1), propB_t (small_inv hb.1 h2), propB_t (small_len ha h1), propB_t (show smlP a ∧ byteP a ∧ byteP b from ⟨small_len ha h1, ha.2.1, hb.2.1⟩), propB_t (show sameP a a from ⟨rfl, rfl, rfl, rfl, rfl⟩)]
  cases objB a <;> cases objB b <;> cases propB (sameP a b) <;> rfl
end Go.Ev
/- What the form's own reach gives: no string and no slice that is met takes more than reachBytes. -/
namespace Go.Ev
section
variable {H : Type}
mutual
def wzD : Sh → DataW H → Prop
  | .int _, _ => True
  | .bool, _ => True
  | .str, d => (strD d).size ≤ 140737488355328
  | .sl e, d => (elemsD d).length ≤ 140737488355328 ∧ ∀ x ∈ elemsD d, wzD e x
  | .agg l, d => wzDL l (partsD d)
def wzDL : List Sh → List (DataW H) → Prop
  | [], _ => True
  | s :: l, ds => wzD s (ds.headD .nil) ∧ wzDL l ds.tail
end
mutual
def shB (P : Program) : Sh → TypeId → Bool
  | .int _, _ => true
  | .bool, _ => true
  | .str, _ => true
  | .sl e, t => (match P.underlying t with | some (.slice u) => shB P e u && Nat.blt 0 (P.bytesOf u) | _ => false)
  | .agg l, t => (match P.underlying t with | some (.struct fs) => shBL P l (fs.toList.map (·.type)) | _ => false)
def shBL (P : Program) : List Sh → List TypeId → Bool
  | [], [] => true
  | s :: l, t :: ts => shB P s t && shBL P l ts
  | _, _ => false
end
variable {P : Program}
theorem weightsAll_mem {e : TypeId} : ∀ {l : List (DataW H)} {x : DataW H} {n : Nat}, x ∈ l → n ∈ x.weights P e → n ∈ DataW.weightsAll P e l
  | y :: l, x, n, hx, hn => by
    simp only [DataW.weightsAll, List.mem_append]
    rcases List.mem_cons.1 hx with rfl | h
    · exact Or.inl hn
    · exact Or.inr (weightsAll_mem h hn)
mutual
theorem weights_wz : ∀ (s : Sh) (t : TypeId) (d : DataW H), shB P s t = true → (∀ n ∈ d.weights P t, n ≤ reachBytes) → wzD s d
  | .int _, t, d, hs, h => by simp only [wzD]
  | .bool, t, d, hs, h => by simp only [wzD]
  | .str, t, d, hs, h => by
    simp only [wzD]
    have hr : reachBytes ≤ 140737488355328 := by decide
    cases d with
    | lit x =>
      cases x with
      | string l =>
        have := h l.length (by simp [DataW.weights])
        show l.toArray.size ≤ _
        rw [List.size_toArray]; omega
      | _ => exact Nat.zero_le _
    | _ => exact Nat.zero_le _
  | .sl e, t, d, hs, h => by
    simp only [wzD]
    simp only [shB] at hs
    have hr : reachBytes ≤ 140737488355328 := by decide
    split at hs
    · rename_i u hu
      simp only [Bool.and_eq_true] at hs
      have hb : 0 < P.bytesOf u := by simpa [Nat.blt_eq] using hs.2
      cases d with
      | slice elems spare =>
        refine ⟨?_, fun x hx => weights_wz e u x hs.1 fun n hn => h n ?_⟩
        · have := h ((elems.length + spare.length) * P.bytesOf u) (by simp [DataW.weights, hu])
          have h2 : elems.length + spare.length ≤ (elems.length + spare.length) * P.bytesOf u := Nat.le_mul_of_pos_right _ hb
          show elems.length ≤ _
          omega
        · simp only [DataW.weights, hu]
          exact List.mem_cons_of_mem _ (List.mem_append_left _ (weightsAll_mem hx hn))
      | _ => exact ⟨Nat.zero_le _, fun x hx => by cases hx⟩
    · cases hs
  | .agg l, t, d, hs, h => by
    simp only [wzD]
    simp only [shB] at hs
    split at hs
    · rename_i fs hu
      cases d with
      | agg parts =>
        refine weights_wzL l _ parts hs fun n hn => h n ?_
        simp only [DataW.weights, hu]; exact hn
      | _ => exact weights_wzL l _ [] hs fun n hn => by (cases hfs : fs.toList.map (·.type) <;> rw [hfs] at hn <;> simp [DataW.weightsEach] at hn)
    · cases hs
theorem weights_wzL : ∀ (l : List Sh) (ts : List TypeId) (ds : List (DataW H)), shBL P l ts = true → (∀ n ∈ DataW.weightsEach P ts ds, n ≤ reachBytes) → wzDL l ds
  | [], ts, ds, hs, h => by simp only [wzDL]
  | s :: l, [], ds, hs, h => by simp [shBL] at hs
  | s :: l, t :: ts, [], hs, h => by
    simp only [shBL, Bool.and_eq_true] at hs
    simp only [wzDL, List.headD_nil, List.tail_nil]
    exact ⟨weights_wz s t .nil hs.1 (fun n hn => by simp [DataW.weights] at hn), weights_wzL l ts [] hs.2 (fun n hn => by cases ts <;> simp [DataW.weightsEach] at hn)⟩
  | s :: l, t :: ts, d :: ds, hs, h => by
    simp only [shBL, Bool.and_eq_true] at hs
    simp only [wzDL, List.headD_cons, List.tail_cons]
    exact ⟨weights_wz s t d hs.1 (fun n hn => h n (by simp only [DataW.weightsEach, List.mem_append]; exact Or.inl hn)), weights_wzL l ts ds hs.2 (fun n hn => h n (by simp only [DataW.weightsEach, List.mem_append]; exact Or.inr hn))⟩
end
end
end Go.Ev
