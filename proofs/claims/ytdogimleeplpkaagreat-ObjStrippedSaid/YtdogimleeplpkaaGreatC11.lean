/- The evaluator, its soundness and the walks: part 11. -/
import Derived.SizedLaws
import Derived.Test.YtdogimleeplpkaaGreatC10
set_option linter.unusedSectionVars false
set_option linter.unusedSimpArgs false
set_option linter.unusedVariables false
set_option maxRecDepth 100000
set_option maxRecDepth 1000000
noncomputable section
/- A symbol, as the program checks it. -/
namespace Go.Ev
open Go.Proofs
def Tryz.tPy : List (Nat × AFun) := [(151, pureA nameS)]
def Tryz.EPy : Env := Tryz.env0 false (sumsOf Tryz.tPy) (keepF 0 [])
def pySy (o : OD) (s : SymD) : Bool := nameB s.1 && symB o.se s
def psyS (args : List AV) : Ans (AV × Heap) := match args with
  | [o, .agg r] => .grd ((odIs o && syIs r) && propB (seBound (odP o).se ∧ syBound (syParse r))) (.out (.val (.bool (pySy (odP o) (syParse r))), ⟨0, []⟩))
  | _ => .no
theorem Tryz.wPy (o : OD) (s : SymD) : rootS Tryz.EPy 6 157 (lsumsOf []) [o.av, .agg (syRow s)] =
 bif nameB s.fst then
 bif decide (s.snd.snd.snd.snd.fst ≥ 0) then
 bif decide (s.snd.snd.snd.snd.fst ≤ 2) then
 bif decide (s.snd.snd.snd.snd.snd ≥ 0) then
 bif decide (s.snd.snd.snd.snd.snd ≤ 2) then
 bif s.snd.fst == -1 then
 bif s.snd.snd.snd.snd.fst != 0 then
 bif s.snd.snd.fst == 0 then
 bif s.snd.snd.snd.fst == 0 then
 some (.val (.bool true), ⟨0, []⟩)
 else
 some (.val (.bool false), ⟨0, []⟩)
 else
 some (.val (.bool false), ⟨0, []⟩)
 else
 some (.val (.bool false), ⟨0, []⟩)
 else
 bif s.snd.fst == -2 then
 bif s.snd.snd.snd.fst == 0 then
 some (.val (.bool true), ⟨0, []⟩)
 else
 some (.val (.bool false), ⟨0, []⟩)
 else
 bif decide (s.snd.fst ≥ 0) then
 bif decide (s.snd.fst ≤ IntKind.i64.wrap ((↑o.se.length : Int) - 1)) then
 bif decide (s.snd.snd.snd.fst ≥ 0) then
 bif decide (s.snd.snd.snd.fst ≤ 65536) then
 bif inR s.snd.fst o.se.length then
 bif decide (IntKind.i64.wrap (IntKind.i64.wrap s.snd.snd.fst + s.snd.snd.snd.fst) ≤ IntKind.i64.wrap ((↑(o.se.getD s.snd.fst.toNat SE.z).snd.snd.snd.fst.length : Int) + (o.se.getD s.snd.fst.toNat SE.z).snd.snd.snd.snd)) then
 bif s.snd.snd.snd.snd.snd != 1 then
 some (.val (.bool true), ⟨0, []⟩)
 else
 bif IntKind.i64.wrap (↑(BitVec.ofInt 64 (o.se.getD s.snd.fst.toNat SE.z).snd.fst &&& BitVec.ofInt 64 4).toNat : Int) != 0 then
 some (.val (.bool true), ⟨0, []⟩)
 else
 some (.val (.bool false), ⟨0, []⟩)
 else
 some (.val (.bool false), ⟨0, []⟩)
 else
 none
 else
 some (.val (.bool false), ⟨0, []⟩)
 else
 some (.val (.bool false), ⟨0, []⟩)
 else
 some (.val (.bool false), ⟨0, []⟩)
 else
 some (.val (.bool false), ⟨0, []⟩)
 else
 some (.val (.bool false), ⟨0, []⟩)
 else
 some (.val (.bool false), ⟨0, []⟩)
 else
 some (.val (.bool false), ⟨0, []⟩)
 else
 some (.val (.bool false), ⟨0, []⟩)
 else
 some (.val (.bool false), ⟨0, []⟩) := by kernel_rfl
theorem Tryz.ePy : EnvOk2 Tryz.prog Tryz.EPy := Tryz.envOk false (sumsOf Tryz.tPy) _ (sumsOf_ok (show AllS Tryz.prog Tryz.tPy from ⟨Tryz.sumNo, trivial⟩))
open Classical in
theorem Tryz.sPy (o : OD) (s : SymD) (ho : seBound o.se) (hs : syBound s) : rootS Tryz.EPy 6 157 (lsumsOf []) [o.av, .agg (syRow s)] = some (.val (.bool (pySy o s)), ⟨0, []⟩) := by
  rw [Tryz.wPy]
  unfold pySy
  cases nameB s.1 with
  | false => rfl
  | true =>
  rw [cond_true, Bool.true_and, bB (symB o.se s) (fun b => some (AV.val (.bool b), (⟨0, []⟩ : Heap)))]
  obtain ⟨o1, o2⟩ := ho
  unfold symB symP
  rw [show (IntKind.i64.wrap ((BitVec.ofInt 64 (o.se.getD s.snd.fst.toNat SE.z).snd.fst &&& BitVec.ofInt 64 4).toNat : Int) != 0) = execB (o.se.getD s.snd.fst.toNat SE.z).2.1 from rfl]
  have hl : ∀ i : Nat, i < o.se.length → 0 ≤ lenS (o.se.getD i SE.z) ∧ lenS (o.se.getD i SE.z) ≤ 1000000000000000 := fun i hi => o2 _ (getD_mem hi)
  obtain ⟨nm, sec, val, size, bind, kind⟩ := s
  unfold syBound at hs
  simp only at hs ⊢
  have hlen : 0 ≤ sec → sec < (o.se.length : Int) → IntKind.i64.wrap ((↑(o.se.getD sec.toNat SE.z).snd.snd.snd.fst.length : Int) + (o.se.getD sec.toNat SE.z).snd.snd.snd.snd) = lenS (o.se.getD sec.toNat SE.z) ∧ (0 ≤ lenS (o.se.getD sec.toNat SE.z) ∧ lenS (o.se.getD sec.toNat SE.z) ≤ 1000000000000000) := by
    intro h0 h1
    have := hl sec.toNat (by omega)
    refine ⟨?_, this⟩
    unfold lenS at this ⊢
    exact wrap64 _ (by omega) (by omega)
  have hval : IntKind.i64.wrap val = val := wrap64 _ (by omega) (by omega)
  have hw1 : IntKind.i64.wrap ((o.se.length : Int) - 1) = (o.se.length : Int) - 1 := wrap64 _ (by omega) (by omega)
  rw [hval, hw1]
  generalize lenS (o.se.getD sec.toNat SE.z) = ln at hlen ⊢
  generalize IntKind.i64.wrap ((↑(o.se.getD sec.toNat SE.z).snd.snd.snd.fst.length : Int) + (o.se.getD sec.toNat SE.z).snd.snd.snd.snd) = lw at hlen ⊢
  generalize execB (o.se.getD sec.toNat SE.z).snd.fst = ex
  have hsum : 0 ≤ size → size ≤ 65536 → IntKind.i64.wrap (val + size) = val + size := fun h0 h1 => wrap64 _ (by omega) (by omega)
  generalize IntKind.i64.wrap (val + size) = vs at hsum ⊢
  generalize (some (AV.val (.bool true), (⟨0, []⟩ : Heap))) = A
  generalize (some (AV.val (.bool false), (⟨0, []⟩ : Heap))) = B
  rw [propB_ite]
  by_cases c1 : bind ≥ 0
  rotate_left
  · rw [decide_eq_false c1, cond_false, if_neg (fun q => by omega)]
  rw [decide_eq_true c1, cond_true]
  by_cases c2 : bind ≤ 2
  rotate_left
  · rw [decide_eq_false c2, cond_false, if_neg (fun q => by omega)]
  rw [decide_eq_true c2, cond_true]
  by_cases c3 : kind ≥ 0
  rotate_left
  · rw [decide_eq_false c3, cond_false, if_neg (fun q => by omega)]
  rw [decide_eq_true c3, cond_true]
  by_cases c4 : kind ≤ 2
  rotate_left
  · rw [decide_eq_false c4, cond_false, if_neg (fun q => by omega)]
  rw [decide_eq_true c4, cond_true]
  by_cases d1 : sec = -1
  · rw [show (sec == -1) = true from beq_iff_eq.2 d1, cond_true]
    by_cases e1 : bind = 0
    · rw [show (bind != 0) = false by rw [e1]; rfl, cond_false, if_neg (fun q => (q.2.2.2.1 d1).1 e1)]
    rw [show (bind != 0) = true from bne_iff_ne.2 e1, cond_true]
    by_cases e2 : val = 0
    · rw [show (val == 0) = true from beq_iff_eq.2 e2, cond_true]
      by_cases e3 : size = 0
      · rw [show (size == 0) = true from beq_iff_eq.2 e3, cond_true, if_pos ⟨by omega, by omega, by omega, fun _ => ⟨e1, e2, e3⟩, fun q => by omega, fun q => by omega⟩]
      · rw [show (size == 0) = false from beq_eq_false_iff_ne.2 e3, cond_false, if_neg (fun q => e3 (q.2.2.2.1 d1).2.2)]
    · rw [show (val == 0) = false from beq_eq_false_iff_ne.2 e2, cond_false, if_neg (fun q => e2 (q.2.2.2.1 d1).2.1)]
  rw [show (sec == -1) = false from beq_eq_false_iff_ne.2 d1, cond_false]
  by_cases d2 : sec = -2
  · rw [show (sec == -2) = true from beq_iff_eq.2 d2, cond_true]
    by_cases e3 : size = 0
    · rw [show (size == 0) = true from beq_iff_eq.2 e3, cond_true, if_pos ⟨by omega, by omega, by omega, fun q => by omega, fun _ => e3, fun q => by omega⟩]
    · rw [show (size == 0) = false from beq_eq_false_iff_ne.2 e3, cond_false, if_neg (fun q => e3 (q.2.2.2.2.1 d2))]
  rw [show (sec == -2) = false from beq_eq_false_iff_ne.2 d2, cond_false]
  by_cases d3 : sec ≥ 0
  rotate_left
  · rw [decide_eq_false d3, cond_false, if_neg (fun q => by omega)]
  rw [decide_eq_true d3, cond_true]
  by_cases d4 : sec ≤ (o.se.length : Int) - 1
  rotate_left
  · rw [decide_eq_false d4, cond_false, if_neg (fun q => by omega)]
  rw [decide_eq_true d4, cond_true]
  obtain ⟨l1, l2, l3⟩ := hlen (by omega) (by omega)
  subst l1
  by_cases e1 : size ≥ 0
  rotate_left
  · rw [decide_eq_false e1, cond_false, if_neg (fun q => by have := (q.2.2.2.2.2 (by omega)).1; omega)]
  rw [decide_eq_true e1, cond_true]
  by_cases e2 : size ≤ 65536
  rotate_left
  · rw [decide_eq_false e2, cond_false, if_neg (fun q => by have := (q.2.2.2.2.2 (by omega)).1; omega)]
  rw [decide_eq_true e2, cond_true, inR_prop.2 ⟨by omega, by omega⟩, cond_true, hsum (by omega) (by omega)]
  by_cases e3 : val + size ≤ lw
  rotate_left
  · rw [decide_eq_false e3, cond_false, if_neg (fun q => by have := (q.2.2.2.2.2 (by omega)).2.1; omega)]
  rw [decide_eq_true e3, cond_true]
  by_cases e4 : kind = 1
  · rw [show (kind != 1) = false by rw [e4]; rfl, cond_false]
    cases ex with
    | true => rw [cond_true, if_pos ⟨by omega, by omega, by omega, fun q => by omega, fun q => by omega, fun _ => ⟨by omega, by omega, fun _ => rfl⟩⟩]
    | false => rw [cond_false, if_neg (fun q => by have := (q.2.2.2.2.2 (by omega)).2.2 e4; cases this)]
  · rw [show (kind != 1) = true from bne_iff_ne.2 e4, cond_true, if_pos ⟨by omega, by omega, by omega, fun q => by omega, fun q => by omega, fun _ => ⟨by omega, by omega, fun q => absurd q e4⟩⟩]
theorem sy_aws {r : List AV} (h : syIs r = true) : AWs r (syRow (syParse r)) := by
  unfold syIs at h
  split at h
  · exact AWs.refl _
  · cases h
theorem Tryz.sumPy : SumC Tryz.prog 157 (pureA psyS) := by
  refine pureSumR 157 ⟨Tryz.f157, _, Tryz.fnOk157.1, Tryz.fnOk157.2, rfl⟩ ?_
  intro args v h2 hs
  unfold psyS at hs
  split at hs
  · rename_i ov r
    rw [Ans.run_grd] at hs
    cases hb : ((odIs ov && syIs r) && propB (seBound (odP ov).se ∧ syBound (syParse r))) with
    | false => rw [hb] at hs; cases hs
    | true =>
    rw [hb, cond_true] at hs
    simp only [Bool.and_eq_true] at hb
    injection hs with hs
    injection hs with q1 q2
    subst q1; subst q2
    obtain ⟨p1, p2⟩ := propB_eq hb.2
    refine Alone.argsW (AWs.args (.cons (od_aw hb.1.1) (.cons (AW.agg (sy_aws hb.1.2)) .nil))) ?_
    exact rootS_alone Tryz.ePy (d := 6) (g := 157) (ls := lsumsOf []) (AllL.noL _) (Tryz.sPy _ _ p1 p2)
  · cases hs
def Tryz.tPx : List (Nat × AFun) := [(157, pureA psyS)]
def Tryz.EPx : Env := Tryz.env0 false (sumsOf Tryz.tPx) (keepF 85 [(2, [0, 1, 7, 8])])
def Tryz.bPx : Code := nthD .skip (loopsOf (bodyOf Tryz.EPx 85)) 0
def Tryz.BPx (s : St) : Option (AX × St) := codeS Tryz.EPx (callF Tryz.EPx 6) (Tryz.EPx.keep 85) (lsumsOf []) Tryz.bPx (outK [0, 1, 7, 8] [4]) s
def Tryz.cloPx (o : OD) : AV := .clo (.func 156) [] [.rptr (.rows true 5 [o.row]) 0 0]
def Tryz.Vpx (o : OD) (L : List SymD) (k : Nat) : List AV := [.ro (SY.con L) none, Tryz.cloPx o, .val (.int .i64 (L.length : Nat)), .val (.int .i64 k)]
def pPx (o : OD) (L : List SymD) (k : Nat) : Bool := !(pySy o (L.getD k SY.z))
def Tryz.LPx (o : OD) (L : List SymD) : LSum := ixL 19 4 0 (stOf 19 [0, 1, 7, 8] (Tryz.Vpx o L 0) ⟨0, []⟩) (ixN (pPx o L) L.length)
def pxInv (o : OD) (L : List SymD) : Prop := L.length ≤ 1000000 ∧ seBound o.se ∧ ∀ s ∈ L, syBound s
theorem Tryz.rPx (o : OD) (L : List SymD) (k : Nat) : Tryz.BPx (stOf 19 [0, 1, 7, 8] (Tryz.Vpx o L k) ⟨0, []⟩) =
 bif decide ((↑k : Int) < (↑L.length : Int)) then
 bif inR (↑k : Int) L.length then
 bif odIs (AV.agg [AV.ro (SE.con o.se) none, AV.ro (SY.con o.sy) none, AV.ro (RE.con o.re) none, AV.ro (FI.con o.fi) none, AV.ro (LI.con o.li) none]) && syIs [AV.val (Value.string (L.getD k SY.z).fst), AV.val (Value.int IntKind.i64 (L.getD k SY.z).snd.fst), AV.val (Value.int IntKind.u32 (L.getD k SY.z).snd.snd.fst), AV.val (Value.int IntKind.i64 (L.getD k SY.z).snd.snd.snd.fst), AV.val (Value.int IntKind.i64 (L.getD k SY.z).snd.snd.snd.snd.fst), AV.val (Value.int IntKind.i64 (L.getD k SY.z).snd.snd.snd.snd.snd)] && propB (seBound (odP (AV.agg [AV.ro (SE.con o.se) none, AV.ro (SY.con o.sy) none, AV.ro (RE.con o.re) none, AV.ro (FI.con o.fi) none, AV.ro (LI.con o.li) none])).se ∧ syBound (syParse [AV.val (Value.string (L.getD k SY.z).fst), AV.val (Value.int IntKind.i64 (L.getD k SY.z).snd.fst), AV.val (Value.int IntKind.u32 (L.getD k SY.z).snd.snd.fst), AV.val (Value.int IntKind.i64 (L.getD k SY.z).snd.snd.snd.fst), AV.val (Value.int IntKind.i64 (L.getD k SY.z).snd.snd.snd.snd.fst), AV.val (Value.int IntKind.i64 (L.getD k SY.z).snd.snd.snd.snd.snd)])) then
 bif pySy (odP (AV.agg [AV.ro (SE.con o.se) none, AV.ro (SY.con o.sy) none, AV.ro (RE.con o.re) none, AV.ro (FI.con o.fi) none, AV.ro (LI.con o.li) none])) (syParse [AV.val (Value.string (L.getD k SY.z).fst), AV.val (Value.int IntKind.i64 (L.getD k SY.z).snd.fst), AV.val (Value.int IntKind.u32 (L.getD k SY.z).snd.snd.fst), AV.val (Value.int IntKind.i64 (L.getD k SY.z).snd.snd.snd.fst), AV.val (Value.int IntKind.i64 (L.getD k SY.z).snd.snd.snd.snd.fst), AV.val (Value.int IntKind.i64 (L.getD k SY.z).snd.snd.snd.snd.snd)]) then
 some (.normal, stOf 19 [0, 1, 7, 8] [.ro (.tab 6 (L.length) (fun i => SY.row (L.getD i SY.z))) none, .clo (Fn.func 156) [] [.rptr (.rows true 5 ([.ro (.tab 5 (o.se.length) (fun i => SE.row (o.se.getD i SE.z))) none, .ro (.tab 6 (o.sy.length) (fun i => SY.row (o.sy.getD i SY.z))) none, .ro (.tab 5 (o.re.length) (fun i => RE.row (o.re.getD i RE.z))) none, .ro (.tab 1 (o.fi.length) (fun i => FI.row (o.fi.getD i FI.z))) none, .ro (.tab 4 (o.li.length) (fun i => LI.row (o.li.getD i LI.z))) none] :: [])) (0) (0)], .val (.int .i64 ((↑L.length : Int))), .val (.int .i64 (IntKind.i64.wrap ((↑k : Int) + 1)))] ⟨0, []⟩)
 else
 some (.ret, stOf 19 [4] [.val (.int .i64 (↑k : Int))] ⟨0, []⟩)
 else
 none
 else
 none
 else
 some (.exit 0, stOf 19 [] [] ⟨0, []⟩) := by kernel_rfl
theorem Tryz.wPx (o : OD) (L : List SymD) : rootS Tryz.EPx 6 85 (lsumsOf [(2, Tryz.LPx o L)]) [.ro (SY.con L) none, Tryz.cloPx o] =
 bif isSt (stOf 19 [0, 1, 7, 8] (Tryz.Vpx o L 0) { next := 0, es := [] }) (stOf 19 [0, 1, 7, 8] (Tryz.Vpx o L 0) { next := 0, es := [] }) then
 bif (ixN (pPx o L) L.length).isSome then
 some (.val (.int .i64 (Int.ofNat ((ixN (pPx o L) L.length).getD 0))), ⟨0, []⟩)
 else
 some (.val (.int .i64 (-1)), ⟨0, []⟩)
 else
 none := by kernel_rfl
end Go.Ev
/- Symbols, as the program checks them. -/
namespace Go.Ev
open Go.Proofs
theorem Tryz.ePx : EnvOk2 Tryz.prog Tryz.EPx := Tryz.envOk false (sumsOf Tryz.tPx) _ (sumsOf_ok (show AllS Tryz.prog Tryz.tPx from ⟨Tryz.sumPy, trivial⟩))
theorem Tryz.sPx (o : OD) (L : List SymD) (hi : pxInv o L) (k : Nat) (hk : k ≤ L.length) : Tryz.BPx (stOf 19 [0, 1, 7, 8] (Tryz.Vpx o L k) ⟨0, []⟩) =
    bif decide (k < L.length) then (bif pPx o L k then some (.ret, ixX 19 4 k) else some (.normal, stOf 19 [0, 1, 7, 8] (Tryz.Vpx o L (k + 1)) ⟨0, []⟩)) else some (.exit 0, stOf 19 [] [] ⟨0, []⟩) := by
  obtain ⟨h1, h2, h3⟩ := hi
  have key := Tryz.rPx o L k
  rw [declt_nat, inR_nat, wrapS k (by omega)] at key
  refine key.trans ?_
  by_cases h : k < L.length
  · rw [decide_eq_true h]
    simp only [cond_true]
    rw [show AV.agg [AV.ro (SE.con o.se) none, AV.ro (SY.con o.sy) none, AV.ro (RE.con o.re) none, AV.ro (FI.con o.fi) none, AV.ro (LI.con o.li) none] = .agg o.row from rfl, odP_row, odIs_row, sy_eta,
      show syIs [AV.val (Value.string (L.getD k SY.z).fst), AV.val (Value.int IntKind.i64 (L.getD k SY.z).snd.fst), AV.val (Value.int IntKind.u32 (L.getD k SY.z).snd.snd.fst), AV.val (Value.int IntKind.i64 (L.getD k SY.z).snd.snd.snd.fst), AV.val (Value.int IntKind.i64 (L.getD k SY.z).snd.snd.snd.snd.fst), AV.val (Value.int IntKind.i64 (L.getD k SY.z).snd.snd.snd.snd.snd)] = true from rfl,
      propB_t (show seBound o.se ∧ syBound (L.getD k SY.z) from ⟨h2, h3 _ (getD_mem h)⟩)]
    unfold pPx
    cases pySy o (L.getD k SY.z) <;> rfl
  · rw [decide_eq_false h]; rfl
theorem Tryz.lPx (o : OD) (L : List SymD) (hi : pxInv o L) : ∀ s e s', s.h.ok → (Tryz.LPx o L s).run = some (e, s') → Triple Tryz.prog (.loop Tryz.bPx) s e s' :=
  ix_law Tryz.ePx (d := 6) (g := 85) (c := Tryz.bPx) rfl 19 4 0 [0, 1, 7, 8] (Tryz.Vpx o L) (pPx o L) L.length (fun k hk => Tryz.sPx o L hi k hk)
def pxS (args : List AV) : Ans (AV × Heap) := match args with
  | [.ro c cap, .clo (.func 156) [] [.rptr (.rows true 5 [r]) 0 0]] => .grd ((SY.ok c && odIs (.agg r)) && propB (pxInv (odP (.agg r)) (SY.list c))) (ixO (ixN (pPx (odP (.agg r)) (SY.list c)) (SY.list c).length))
  | _ => .no
theorem Tryz.sumPx : SumC Tryz.prog 85 (pureA (fun args => pxS (nzs [SY.con []] args))) := by
  refine pureSumR 85 ⟨Tryz.f85, _, Tryz.fnOk85.1, Tryz.fnOk85.2, rfl⟩ ?_
  intro args v h2 hs
  refine Alone.nz (cs := [SY.con []]) (by simp [Con.len, RowTy.con]) ?_
  replace hs : (pxS (nzs [SY.con []] args)).run = some (v, h2) := hs
  generalize nzs [SY.con []] args = args' at hs ⊢
  unfold pxS at hs
  split at hs
  · rename_i c cap r
    rw [Ans.run_grd] at hs
    cases hb : ((SY.ok c && odIs (.agg r)) && propB (pxInv (odP (.agg r)) (SY.list c))) with
    | false => rw [hb] at hs; cases hs
    | true =>
    rw [hb, cond_true] at hs
    simp only [Bool.and_eq_true] at hb
    have hi := propB_eq hb.2
    refine Alone.argsW (AWs.args (.cons (SY.aw hb.1.1 cap) (.cons (AW.clo .nil (.cons (AW.rptr (od_con hb.1.2) 0 0) .nil)) .nil))) ?_
    refine rootS_alone Tryz.ePx (d := 6) (g := 85) (ls := lsumsOf [(2, Tryz.LPx (odP (.agg r)) (SY.list c))]) (AllL.of1 (a := Tryz.bPx) (by kernel_rfl) (LsOk.of rfl rfl (Tryz.lPx _ _ hi))) ((Tryz.wPx _ _).trans ?_)
    rw [isSt_refl, cond_true]
    exact hs
  · cases hs
def Tryz.tPo : List (Nat × AFun) := [(154, pureA (fun args => dfDy (nzs [SY.con []] args))), (85, pureA (fun args => pxS (nzs [SY.con []] args)))]
def Tryz.EPo : Env := Tryz.env0 false (sumsOf Tryz.tPo) (keepF 0 [])
theorem Tryz.wPo (o : OD) : rootS Tryz.EPo 6 110 (lsumsOf []) [o.av] =
 bif decide ((↑o.sy.length : Int) ≤ 500) then
 bif SY.ok (SY.con o.sy) && o.sy.length.ble 1000000 then
 bif allNew (nmDy (SY.list (SY.con o.sy))) (SY.list (SY.con o.sy)).length then
 bif SY.ok (SY.con o.sy) && odIs (AV.agg (AV.agg o.row).cells) && propB (pxInv (odP (AV.agg (AV.agg o.row).cells)) (SY.list (SY.con o.sy))) then
 bif (ixN (pPx (odP (AV.agg (AV.agg o.row).cells)) (SY.list (SY.con o.sy))) (SY.list (SY.con o.sy)).length).isSome then
 some (.val (.bool false), ⟨0, []⟩)
 else
 some (.val (.bool true), ⟨0, []⟩)
 else
 none
 else
 some (.val (.bool false), ⟨0, []⟩)
 else
 none
 else
 some (.val (.bool false), ⟨0, []⟩) := by kernel_rfl
theorem Tryz.ePo : EnvOk2 Tryz.prog Tryz.EPo := Tryz.envOk false (sumsOf Tryz.tPo) _ (sumsOf_ok (show AllS Tryz.prog Tryz.tPo from ⟨Tryz.sumDy, Tryz.sumPx, trivial⟩))
theorem not_not_all (n : Nat) (f : Nat → Bool) : allOk n (fun i => !(!(f i))) = allOk n f := allOk_congr (fun i _ => by cases f i <;> rfl)
theorem syms_split (o : OD) : allOk o.sy.length (symOk o) = (!(ixN (pPx o o.sy) o.sy.length).isSome && allNew (nmDy o.sy) o.sy.length) := by
  rw [ixN_some, Bool.not_not]
  refine (allOk_and _ _ _).trans ?_
  congr 1
  exact (not_not_all _ _).symm
theorem Tryz.sumPo : SumC Tryz.prog 110 (pureA symsS) := by
  refine pureSumR 110 ⟨Tryz.f110, _, Tryz.fnOk110.1, Tryz.fnOk110.2, rfl⟩ ?_
  intro args v h2 hs
  unfold symsS at hs
  split at hs
  · rename_i ov
    rw [Ans.run_grd] at hs
    cases hb : (odIs ov && propB (syInv (odP ov))) with
    | false => rw [hb] at hs; cases hs
    | true =>
    rw [hb, cond_true] at hs
    rw [Bool.and_eq_true] at hb
    injection hs with hs
    injection hs with q1 q2
    subst q1; subst q2
    refine Alone.argsW (AWs.args (.cons (od_aw hb.1) .nil)) ?_
    have hi := propB_eq hb.2
    generalize odP ov = o at hi ⊢
    refine rootS_alone Tryz.ePo (d := 6) (g := 110) (ls := lsumsOf []) (AllL.noL _) ((Tryz.wPo o).trans ?_)
    have hl : SY.list (SY.con o.sy) = o.sy := SY.list_con _
    rw [show AV.agg (AV.agg o.row).cells = .agg o.row from rfl, odP_row, odIs_row, hl, SY.ok_con, propB_t (show pxInv o o.sy from hi), ble_t hi.1]
    unfold symsB
    rw [syms_split]
    have e1 : decide ((o.sy.length : Int) ≤ 500) = decide (o.sy.length ≤ 500) := by rw [decide_eq_decide]; omega
    rw [e1]
    cases decide (o.sy.length ≤ 500) <;> cases (ixN (pPx o o.sy) o.sy.length).isSome <;> cases allNew (nmDy o.sy) o.sy.length <;> rfl
  · cases hs
end Go.Ev
/- Relocations, as the program checks them. -/
namespace Go.Ev
open Go.Proofs
theorem Tryz.wWo (k : Int) : rootS Tryz.ESm 6 107 (lsumsOf []) [.val (.int .i64 k)] =
 bif k == 2 then
 some (.val (.int .i64 2), ⟨0, []⟩)
 else
 bif k == 3 then
 some (.val (.int .i64 1), ⟨0, []⟩)
 else
 some (.val (.int .i64 4), ⟨0, []⟩) := by kernel_rfl
theorem Tryz.sumWo : SumC Tryz.prog 107 (pureA widS) := by
  refine pureSumR 107 ⟨Tryz.f107, _, Tryz.fnOk107.1, Tryz.fnOk107.2, rfl⟩ ?_
  intro args v h2 hs
  unfold widS at hs
  split at hs
  · rename_i k
    injection hs with hs
    injection hs with q1 q2
    subst q1; subst q2
    refine rootS_alone Tryz.eSm (d := 6) (g := 107) (ls := lsumsOf []) (AllL.noL _) ((Tryz.wWo k).trans ?_)
    unfold wdI
    by_cases h1 : k = 2
    · subst h1; rfl
    · rw [show (k == 2) = false from beq_eq_false_iff_ne.2 h1]
      by_cases h2 : k = 3
      · subst h2; rfl
      · rw [show (k == 3) = false from beq_eq_false_iff_ne.2 h2, if_neg h2, if_neg h1]; rfl
  · cases hs
def Tryz.tPr : List (Nat × AFun) := [(107, pureA widS)]
def Tryz.EPr : Env := Tryz.env0 false (sumsOf Tryz.tPr) (keepF 111 [(3, [1, 3, 4, 10, 11, 12])])
def Tryz.bPr : Code := nthD .skip (loopsOf (bodyOf Tryz.EPr 111)) 0
def Tryz.BPr (s : St) : Option (AX × St) := codeS Tryz.EPr (callF Tryz.EPr 6) (Tryz.EPr.keep 111) (lsumsOf []) Tryz.bPr (outK [1, 3, 4, 10, 11, 12] [1, 2]) s
def Vpr (o : OD) (u v : Int) (k : Nat) : List AV := [.ptr 0 0 0, .val (.int .i64 u), .val (.int .i64 v), .ro (RE.con o.re) none, .val (.int .i64 (o.re.length : Nat)), .val (.int .i64 k)]
def ruK (o : OD) : Nat → Int := Nat.rec 0 (fun k _ => (o.re.getD k RE.z).1)
def rvK (o : OD) : Nat → Int := Nat.rec 0 (fun k _ => (o.re.getD k RE.z).2.1 + wdI (o.re.getD k RE.z).2.2.1)
def zPr (o : OD) (k : Nat) : St := stOf 91 [1, 2] [.ptr 0 0 0, .val (.bool false)] (hO o)
def relQ (o : OD) (r : RelD) (u v : Int) : Prop := (u ≤ r.1 ∧ r.1 < (o.se.length : Int)) ∧ (1 ≤ r.2.2.1 ∧ r.2.2.1 ≤ 5) ∧ (0 ≤ r.2.2.2.1 ∧ r.2.2.2.1 < (o.sy.length : Int)) ∧ (-2147483648 ≤ r.2.2.2.2 ∧ r.2.2.2.2 ≤ 2147483647) ∧
  (u < r.1 → 0 ≤ r.2.1) ∧ (r.1 = u → v ≤ r.2.1) ∧ r.2.1 + wdI r.2.2.1 ≤ secLen o r.1
theorem Tryz.rPr (o : OD) (u v : Int) (k : Nat) : Tryz.BPr (stOf 91 [1, 3, 4, 10, 11, 12] (Vpr o u v k) (hO o)) =
 bif decide ((↑k : Int) < (↑o.re.length : Int)) then
 bif inR (↑k : Int) o.re.length then
 bif decide ((o.re.getD k RE.z).fst ≥ u) then
 bif decide ((o.re.getD k RE.z).fst ≤ IntKind.i64.wrap ((↑o.se.length : Int) - 1)) then
 bif decide ((o.re.getD k RE.z).snd.snd.fst ≥ 1) then
 bif decide ((o.re.getD k RE.z).snd.snd.fst ≤ 5) then
 bif decide ((o.re.getD k RE.z).snd.snd.snd.fst ≥ 0) then
 bif decide ((o.re.getD k RE.z).snd.snd.snd.fst ≤ IntKind.i64.wrap ((↑o.sy.length : Int) - 1)) then
 bif decide ((o.re.getD k RE.z).snd.snd.snd.snd ≥ -2147483648) then
 bif decide ((o.re.getD k RE.z).snd.snd.snd.snd ≤ 2147483647) then
 bif decide ((o.re.getD k RE.z).fst > u) then
 bif inR (o.re.getD k RE.z).fst o.se.length then
 bif decide ((o.re.getD k RE.z).snd.fst ≥ 0) then
 bif decide ((o.re.getD k RE.z).snd.fst ≤ (↑(o.se.getD (o.re.getD k RE.z).fst.toNat SE.z).snd.snd.snd.fst.length : Int)) then
 bif decide (IntKind.i64.wrap ((o.re.getD k RE.z).snd.fst + wdI (o.re.getD k RE.z).snd.snd.fst) > (↑(o.se.getD (o.re.getD k RE.z).fst.toNat SE.z).snd.snd.snd.fst.length : Int)) then
 some (.ret, stOf 91 [1, 2] [.ptr 0 0 0, .val (.bool false)] (hO o) )
 else
 some (.normal, stOf 91 [1, 3, 4, 10, 11, 12] [.ptr 0 0 0, .val (.int .i64 ((o.re.getD k RE.z).fst)), .val (.int .i64 (IntKind.i64.wrap ((o.re.getD k RE.z).snd.fst + wdI (o.re.getD k RE.z).snd.snd.fst))), .ro (.tab 5 (o.re.length) (fun i => RE.row (o.re.getD i RE.z))) none, .val (.int .i64 ((↑o.re.length : Int))), .val (.int .i64 (IntKind.i64.wrap ((↑k : Int) + 1)))] (hO o) )
 else
 some (.ret, stOf 91 [1, 2] [.ptr 0 0 0, .val (.bool false)] (hO o) )
 else
 some (.ret, stOf 91 [1, 2] [.ptr 0 0 0, .val (.bool false)] (hO o) )
 else
 none
 else
 bif inR u o.se.length then
 bif decide ((o.re.getD k RE.z).snd.fst ≥ v) then
 bif decide ((o.re.getD k RE.z).snd.fst ≤ (↑(o.se.getD u.toNat SE.z).snd.snd.snd.fst.length : Int)) then
 bif decide (IntKind.i64.wrap ((o.re.getD k RE.z).snd.fst + wdI (o.re.getD k RE.z).snd.snd.fst) > (↑(o.se.getD u.toNat SE.z).snd.snd.snd.fst.length : Int)) then
 some (.ret, stOf 91 [1, 2] [.ptr 0 0 0, .val (.bool false)] (hO o) )
 else
 some (.normal, stOf 91 [1, 3, 4, 10, 11, 12] [.ptr 0 0 0, .val (.int .i64 (u)), .val (.int .i64 (IntKind.i64.wrap ((o.re.getD k RE.z).snd.fst + wdI (o.re.getD k RE.z).snd.snd.fst))), .ro (.tab 5 (o.re.length) (fun i => RE.row (o.re.getD i RE.z))) none, .val (.int .i64 ((↑o.re.length : Int))), .val (.int .i64 (IntKind.i64.wrap ((↑k : Int) + 1)))] (hO o) )
 else
 some (.ret, stOf 91 [1, 2] [.ptr 0 0 0, .val (.bool false)] (hO o) )
 else
 some (.ret, stOf 91 [1, 2] [.ptr 0 0 0, .val (.bool false)] (hO o) )
 else
 none
 else
 some (.ret, stOf 91 [1, 2] [.ptr 0 0 0, .val (.bool false)] (hO o) )
 else
 some (.ret, stOf 91 [1, 2] [.ptr 0 0 0, .val (.bool false)] (hO o) )
 else
 some (.ret, stOf 91 [1, 2] [.ptr 0 0 0, .val (.bool false)] (hO o) )
 else
 some (.ret, stOf 91 [1, 2] [.ptr 0 0 0, .val (.bool false)] (hO o) )
 else
 some (.ret, stOf 91 [1, 2] [.ptr 0 0 0, .val (.bool false)] (hO o) )
 else
 some (.ret, stOf 91 [1, 2] [.ptr 0 0 0, .val (.bool false)] (hO o) )
 else
 some (.ret, stOf 91 [1, 2] [.ptr 0 0 0, .val (.bool false)] (hO o) )
 else
 some (.ret, stOf 91 [1, 2] [.ptr 0 0 0, .val (.bool false)] (hO o) )
 else
 none
 else
 some (.exit 0, stOf 91 [1] [.ptr 0 0 0] (hO o) ) := by kernel_rfl
theorem rel_uv (o : OD) (k : Nat) (hok : ∀ i, i < k → relOk o i = true) : (relP o k ↔ relQ o (o.re.getD k RE.z) (ruK o k) (rvK o k)) ∧ 0 ≤ ruK o k ∧ 0 ≤ rvK o k := by
  cases k with
  | zero =>
    refine ⟨?_, by show (0 : Int) ≤ 0; omega, by show (0 : Int) ≤ 0; omega⟩
    unfold relP relQ
    show _ ↔ (((0 : Int) ≤ _ ∧ _) ∧ _ ∧ _ ∧ _ ∧ ((0 : Int) < _ → _) ∧ (_ = (0 : Int) → (0 : Int) ≤ _) ∧ _)
    generalize o.re.getD 0 RE.z = r
    constructor
    · rintro ⟨h1, h2, h3, h4, h5, _⟩; exact ⟨h1, h2, h3, h4, fun _ => h5.1, fun _ => h5.1, h5.2⟩
    · rintro ⟨h1, h2, h3, h4, h5, h6, h7⟩
      refine ⟨h1, h2, h3, h4, ⟨?_, h7⟩, fun q => by omega⟩
      by_cases hz : r.1 = 0
      · exact h6 hz
      · exact h5 (by omega)
  | succ k =>
    have hp : relP o k := propB_eq (hok k (by omega))
    have e1 : ruK o (k + 1) = (o.re.getD k RE.z).1 := rfl
    have e2 : rvK o (k + 1) = (o.re.getD k RE.z).2.1 + wdI (o.re.getD k RE.z).2.2.1 := rfl
    have w := wdI_b (o.re.getD k RE.z).2.2.1
    have p1 := hp.1
    have p5 := hp.2.2.2.2.1
    rw [e1, e2]
    refine ⟨?_, p1.1, by omega⟩
    unfold relP relQ
    rw [show k + 1 - 1 = k from rfl]
    generalize o.re.getD k RE.z = p at *
    generalize o.re.getD (k + 1) RE.z = r
    constructor
    · rintro ⟨h1, h2, h3, h4, h5, h6⟩
      obtain ⟨h7, h8⟩ := h6 (by omega)
      exact ⟨⟨h7, h1.2⟩, h2, h3, h4, fun _ => h5.1, h8, h5.2⟩
    · rintro ⟨h1, h2, h3, h4, h5, h6, h7⟩
      refine ⟨⟨by omega, h1.2⟩, h2, h3, h4, ⟨?_, h7⟩, fun _ => ⟨h1.1, h6⟩⟩
      by_cases hz : r.1 = p.1
      · have := h6 hz; omega
      · exact h5 (by omega)
theorem Tryz.sPr (o : OD) (k : Nat) (ho : reInv o ∧ o.se.length ≤ 1000000 ∧ o.sy.length ≤ 1000000) (hk : k ≤ o.re.length) (hok : ∀ i, i < k → relOk o i = true) : Tryz.BPr (stOf 91 [1, 3, 4, 10, 11, 12] (Vpr o (ruK o k) (rvK o k) k) (hO o)) =
    bif decide (k < o.re.length) then (bif relOk o k then some (.normal, stOf 91 [1, 3, 4, 10, 11, 12] (Vpr o (ruK o (k + 1)) (rvK o (k + 1)) (k + 1)) (hO o)) else some (.ret, zPr o k)) else some (.exit 0, stOf 91 [1, 2] [.ptr 0 0 0, .unk] (hO o)) := by
  obtain ⟨⟨h1, h2⟩, h3, h4⟩ := ho
  obtain ⟨hQ, hu, hv⟩ := rel_uv o k hok
  have key := Tryz.rPr o (ruK o k) (rvK o k) k
  rw [declt_nat, inR_nat, wrapS k (by omega)] at key
  refine key.trans ?_
  by_cases h : k < o.re.length
  rotate_left
  · rw [decide_eq_false h]; rfl
  rw [decide_eq_true h]
  simp only [cond_true]
  have hrel : relOk o k = propB (relQ o (o.re.getD k RE.z) (ruK o k) (rvK o k)) := by
    unfold relOk; rw [propext hQ]
  rw [hrel]
  have e1 : ruK o (k + 1) = (o.re.getD k RE.z).1 := rfl
  have e2 : rvK o (k + 1) = (o.re.getD k RE.z).2.1 + wdI (o.re.getD k RE.z).2.2.1 := rfl
  rw [e1, e2]
  have w := wdI_b (o.re.getD k RE.z).2.2.1
  have hsl : ∀ i : Nat, i < o.se.length → (o.se.getD i SE.z).2.2.2.1.length ≤ 140737488355328 := fun i hi => h2 _ (getD_mem hi)
  rw [wrap64 ((o.se.length : Int) - 1) (by omega) (by omega), wrap64 ((o.sy.length : Int) - 1) (by omega) (by omega)]
  unfold relQ secLen
  generalize ruK o k = u at hu ⊢
  generalize rvK o k = v at hv ⊢
  generalize o.re.getD k RE.z = r at w ⊢
  obtain ⟨sec, off, kind, sym, add⟩ := r
  simp only at w ⊢
  have hs2 := hsl sec.toNat
  have hB : (some (AX.ret, stOf 91 [1, 2] [.ptr 0 0 0, .val (.bool false)] (hO o)) : Option (AX × St)) = some (.ret, zPr o k) := rfl
  rw [hB]
  generalize (some (AX.ret, zPr o k) : Option (AX × St)) = B
  have hA : off + wdI kind ≤ 140737488355328 → 0 ≤ off → (some (AX.normal, stOf 91 [1, 3, 4, 10, 11, 12] [.ptr 0 0 0, .val (.int .i64 sec), .val (.int .i64 (IntKind.i64.wrap (off + wdI kind))), .ro (.tab 5 (o.re.length) (fun i => RE.row (o.re.getD i RE.z))) none, .val (.int .i64 (o.re.length : Int)), .val (.int .i64 ((k + 1 : Nat) : Int))] (hO o)) : Option (AX × St)) = some (.normal, stOf 91 [1, 3, 4, 10, 11, 12] (Vpr o sec (off + wdI kind) (k + 1)) (hO o)) := fun q q' => by
    rw [wrap64 (off + wdI kind) (by omega) (by omega)]; rfl
  generalize hAA : (some (AX.normal, stOf 91 [1, 3, 4, 10, 11, 12] (Vpr o sec (off + wdI kind) (k + 1)) (hO o)) : Option (AX × St)) = A at hA ⊢
  rw [propB_ite]
  by_cases c1 : sec ≥ u
  rotate_left
  · rw [decide_eq_false c1, cond_false, if_neg (fun q => by omega)]
  rw [decide_eq_true c1, cond_true]
  by_cases c2 : sec ≤ (o.se.length : Int) - 1
  rotate_left
  · rw [decide_eq_false c2, cond_false, if_neg (fun q => by omega)]
  rw [decide_eq_true c2, cond_true]
  by_cases c3 : kind ≥ 1
  rotate_left
  · rw [decide_eq_false c3, cond_false, if_neg (fun q => by omega)]
  rw [decide_eq_true c3, cond_true]
  by_cases c4 : kind ≤ 5
  rotate_left
  · rw [decide_eq_false c4, cond_false, if_neg (fun q => by omega)]
  rw [decide_eq_true c4, cond_true]
  by_cases c5 : sym ≥ 0
  rotate_left
  · rw [decide_eq_false c5, cond_false, if_neg (fun q => by omega)]
  rw [decide_eq_true c5, cond_true]
  by_cases c6 : sym ≤ (o.sy.length : Int) - 1
  rotate_left
  · rw [decide_eq_false c6, cond_false, if_neg (fun q => by omega)]
  rw [decide_eq_true c6, cond_true]
  by_cases c7 : add ≥ -2147483648
  rotate_left
  · rw [decide_eq_false c7, cond_false, if_neg (fun q => by omega)]
  rw [decide_eq_true c7, cond_true]
  by_cases c8 : add ≤ 2147483647
  rotate_left
  · rw [decide_eq_false c8, cond_false, if_neg (fun q => by omega)]
  rw [decide_eq_true c8, cond_true]
  have hs3 := hs2 (by omega)
  by_cases d : sec > u
  · rw [decide_eq_true d, cond_true, inR_prop.2 ⟨by omega, by omega⟩, cond_true]
    by_cases c9 : off ≥ 0
    rotate_left
    · rw [decide_eq_false c9, cond_false, if_neg (fun q => c9 (q.2.2.2.2.1 d))]
    rw [decide_eq_true c9, cond_true]
    by_cases c10 : off ≤ ((o.se.getD sec.toNat SE.z).snd.snd.snd.fst.length : Int)
    rotate_left
    · rw [decide_eq_false c10, cond_false, if_neg (fun q => by have := q.2.2.2.2.2.2; omega)]
    rw [decide_eq_true c10, cond_true]
    by_cases c11 : off + wdI kind > ((o.se.getD sec.toNat SE.z).snd.snd.snd.fst.length : Int)
    · rw [wrap64 (off + wdI kind) (by omega) (by omega), decide_eq_true c11, cond_true, if_neg (fun q => by have := q.2.2.2.2.2.2; omega)]
    · rw [if_pos ⟨by omega, by omega, by omega, by omega, fun _ => c9, fun q => by omega, by omega⟩, ← hA (by omega) (by omega), wrap64 (off + wdI kind) (by omega) (by omega), decide_eq_false c11, cond_false]
  · have hse : u = sec := by omega
    subst hse
    rw [decide_eq_false d, cond_false, inR_prop.2 ⟨by omega, by omega⟩, cond_true]
    by_cases c9 : off ≥ v
    rotate_left
    · rw [decide_eq_false c9, cond_false, if_neg (fun q => c9 (q.2.2.2.2.2.1 rfl))]
    rw [decide_eq_true c9, cond_true]
    by_cases c10 : off ≤ ((o.se.getD u.toNat SE.z).snd.snd.snd.fst.length : Int)
    rotate_left
    · rw [decide_eq_false c10, cond_false, if_neg (fun q => by have := q.2.2.2.2.2.2; omega)]
    rw [decide_eq_true c10, cond_true]
    by_cases c11 : off + wdI kind > ((o.se.getD u.toNat SE.z).snd.snd.snd.fst.length : Int)
    · rw [wrap64 (off + wdI kind) (by omega) (by omega), decide_eq_true c11, cond_true, if_neg (fun q => by have := q.2.2.2.2.2.2; omega)]
    · rw [if_pos ⟨by omega, by omega, by omega, by omega, fun q => absurd q d, fun _ => c9, by omega⟩, ← hA (by omega) (by omega), wrap64 (off + wdI kind) (by omega) (by omega), decide_eq_false c11, cond_false]
def prInv (o : OD) : Prop := reInv o ∧ o.se.length ≤ 1000000 ∧ o.sy.length ≤ 1000000
def fPr (vs : List AV) (h : Heap) : Ans (AX × List AV × Heap) := match vs, h with
  | [.ptr 0 0 0, .val (.int .i64 (.ofNat 0)), .val (.int .i64 (.ofNat 0)), .ro c cap, .val (.int .i64 n), .val (.int .i64 (.ofNat 0))], ⟨1, [⟨0, 0, .cells (.rows true 5 [r])⟩]⟩ =>
    .grd ((odIs (.agg r) && RE.ok c) && (propB (RE.list c = (odP (.agg r)).re ∧ prInv (odP (.agg r))) && (n == (((odP (.agg r)).re.length : Nat) : Int)))) (.br (allOk (odP (.agg r)).re.length (relOk (odP (.agg r)))) (.out (.exit 0, [.ptr 0 0 0, .unk], hO (odP (.agg r)))) (.out (.ret, [.unk, .val (.bool false)], ⟨0, []⟩)))
  | _, _ => .no
def LPr : LSum := toLSum 91 [1, 3, 4, 10, 11, 12] [1, 2] fPr
def prelS (args : List AV) : Ans (AV × Heap) := match args with
  | [o] => .grd (odIs o && propB (prInv (odP o))) (.out (.val (.bool (relsB (odP o))), ⟨0, []⟩))
  | _ => .no
theorem Tryz.ePr : EnvOk2 Tryz.prog Tryz.EPr := Tryz.envOk false (sumsOf Tryz.tPr) _ (sumsOf_ok (show AllS Tryz.prog Tryz.tPr from ⟨Tryz.sumWo, trivial⟩))
theorem Tryz.lPr : ∀ s e s', s.h.ok → (LPr s).run = some (e, s') → Triple Tryz.prog (.loop Tryz.bPr) s e s' := by
  refine scan_lawW Tryz.ePr (d := 6) (g := 111) (ls := lsumsOf []) (c := Tryz.bPr) trivial 91 [1, 3, 4, 10, 11, 12] [1, 2] (T := OD) (fun o k => Vpr o (ruK o k) (rvK o k) k) hO (fun o => o.re.length) relOk prInv
    (fun o => (.exit 0, [.ptr 0 0 0, .unk], hO o)) (fun _ => (.ret, [.unk, .val (.bool false)], ⟨0, []⟩)) fPr ?_ (fun o _ => hO_ok o) (fun _ _ => ⟨by simp, by simp⟩) (fun o _ => ⟨hO_ok o, heap0_ok⟩) zPr ?_ (fun o k hL hk hok => Tryz.sPr o k hL hk hok)
  · intro vs h e vo h' hok hf
    unfold fPr at hf
    split at hf
    · rename_i c cap n r
      rw [Ans.run_grd] at hf
      cases hb : ((odIs (.agg r) && RE.ok c) && (propB (RE.list c = (odP (.agg r)).re ∧ prInv (odP (.agg r))) && (n == (((odP (.agg r)).re.length : Nat) : Int)))) with
      | false => rw [hb] at hf; cases hf
      | true =>
        rw [hb, cond_true, Ans.run_br] at hf
        simp only [Bool.and_eq_true, beq_iff_eq] at hb
        obtain ⟨⟨b1, b2⟩, b3, b4⟩ := hb
        obtain ⟨b5, b6⟩ := propB_eq b3
        refine ⟨odP (.agg r), b6, ?_, ?_⟩
        · refine Weak.trans (Weak.slots (oneH_ok _) ?_) (Weak.oneH rfl (od_con b1))
          rw [b4]
          have := RE.aw b2 cap
          rw [b5] at this
          exact .cons (AW.refl _) (.cons (AW.refl _) (.cons (AW.refl _) (.cons this (AWs.refl _))))
        · cases hq : allOk (odP (.agg r)).re.length (relOk (odP (.agg r))) with
          | true => rw [hq] at hf; injection hf
          | false => rw [hq] at hf; injection hf
    · cases hf
  · intro o k _
    have h := Weak.canon (s := zPr o k) (hO_ok o) [2]
    have e : canon (some [2]) (zPr o k) = stOf 91 [1, 2] [.unk, .val (.bool false)] ⟨0, []⟩ := by kernel_rfl
    rw [e] at h
    exact h
theorem Tryz.wPr (o : OD) : rootS Tryz.EPr 6 111 (lsumsOf [(3, LPr)]) [o.av] =
 bif odIs (AV.agg (AV.agg o.row).cells) && RE.ok (RE.con o.re) && (propB (RE.list (RE.con o.re) = (odP (AV.agg (AV.agg o.row).cells)).re ∧ prInv (odP (AV.agg (AV.agg o.row).cells))) && (↑o.re.length : Int) == (↑(odP (AV.agg (AV.agg o.row).cells)).re.length : Int)) then
 bif allOk (odP (AV.agg (AV.agg o.row).cells)).re.length (relOk (odP (AV.agg (AV.agg o.row).cells))) then
 bif decide ((↑(odP (AV.agg (AV.agg o.row).cells)).re.length : Int) ≤ 2000) then
 some (.val (.bool true), ⟨0, []⟩)
 else
 some (.val (.bool false), ⟨0, []⟩)
 else
 some (.val (.bool false), ⟨0, []⟩)
 else
 none := by kernel_rfl
theorem Tryz.sumPr : SumC Tryz.prog 111 (pureA prelS) := by
  refine pureSumR 111 ⟨Tryz.f111, _, Tryz.fnOk111.1, Tryz.fnOk111.2, rfl⟩ ?_
  intro args v h2 hs
  unfold prelS at hs
  split at hs
  · rename_i ov
    rw [Ans.run_grd] at hs
    cases hb : (odIs ov && propB (prInv (odP ov))) with
    | false => rw [hb] at hs; cases hs
    | true =>
    rw [hb, cond_true] at hs
    rw [Bool.and_eq_true] at hb
    injection hs with hs
    injection hs with q1 q2
    subst q1; subst q2
    refine Alone.argsW (AWs.args (.cons (od_aw hb.1) .nil)) ?_
    have hi := propB_eq hb.2
    generalize odP ov = o at hi ⊢
    refine rootS_alone Tryz.ePr (d := 6) (g := 111) (ls := lsumsOf [(3, LPr)]) (AllL.of1 (a := Tryz.bPr) (by kernel_rfl) (LsOk.of rfl rfl Tryz.lPr)) ((Tryz.wPr o).trans ?_)
    have hl : RE.list (RE.con o.re) = o.re := RE.list_con _
    rw [show AV.agg (AV.agg o.row).cells = .agg o.row from rfl, odP_row, odIs_row, hl, propB_t (show o.re = o.re ∧ prInv o from ⟨rfl, hi⟩), RE.ok_con, beq_self_eq_true]
    unfold relsB
    simp only [Bool.and_self, cond_true]
    have e1 : decide ((o.re.length : Int) ≤ 2000) = decide (o.re.length ≤ 2000) := by rw [decide_eq_decide]; omega
    rw [e1]
    cases allOk o.re.length (relOk o) <;> cases decide (o.re.length ≤ 2000) <;> rfl
  · cases hs
end Go.Ev
/- Line tables, as the program checks them. -/
namespace Go.Ev
open Go.Proofs
def cmpI (a b : Int) : Int := if a < b then -1 else if a > b then 1 else 0
def cmpS (args : List AV) : Ans (AV × Heap) := match args with
  | [.val (.int .i64 a), .val (.int .i64 b)] => .out (.val (.int .i64 (cmpI a b)), ⟨0, []⟩)
  | _ => .no
theorem Tryz.wCi (a b : Int) : rootS Tryz.ESm 6 84 (lsumsOf []) [.val (.int .i64 a), .val (.int .i64 b)] =
 bif a != a then
 bif b != b then
 some (.val (.int .i64 0), ⟨0, []⟩)
 else
 some (.val (.int .i64 (-1)), ⟨0, []⟩)
 else
 bif b != b then
 some (.val (.int .i64 1), ⟨0, []⟩)
 else
 bif decide (a < b) then
 some (.val (.int .i64 (-1)), ⟨0, []⟩)
 else
 bif decide (a > b) then
 some (.val (.int .i64 1), ⟨0, []⟩)
 else
 some (.val (.int .i64 0), ⟨0, []⟩) := by kernel_rfl
theorem Tryz.sumCi : SumC Tryz.prog 84 (pureA cmpS) := by
  refine pureSumR 84 ⟨Tryz.f84, _, Tryz.fnOk84.1, Tryz.fnOk84.2, rfl⟩ ?_
  intro args v h2 hs
  unfold cmpS at hs
  split at hs
  · rename_i a b
    injection hs with hs
    injection hs with q1 q2
    subst q1; subst q2
    refine rootS_alone Tryz.eSm (d := 6) (g := 84) (ls := lsumsOf []) (AllL.noL _) ((Tryz.wCi a b).trans ?_)
    have n1 : ∀ x : Int, (x != x) = false := fun x => by simp
    rw [n1, n1]
    unfold cmpI
    by_cases h1 : a < b
    · rw [decide_eq_true h1, if_pos h1]; rfl
    · rw [decide_eq_false h1, if_neg h1]
      by_cases h2 : a > b
      · rw [decide_eq_true h2, if_pos h2]; rfl
      · rw [decide_eq_false h2, if_neg h2]; rfl
  · cases hs
def plI (a b : LinD) : Int := if cmpI a.1 b.1 = 0 then cmpI a.2.1 b.2.1 else cmpI a.1 b.1
def plS (args : List AV) : Ans (AV × Heap) := match args with
  | [.agg r, .agg q] => .grd (liIs r && liIs q) (.out (.val (.int .i64 (plI (liParse r) (liParse q))), ⟨0, []⟩))
  | _ => .no
def Tryz.tPl : List (Nat × AFun) := [(84, pureA cmpS)]
def Tryz.EPl : Env := Tryz.env0 false (sumsOf Tryz.tPl) (keepF 0 [])
def etS (args : List AV) : Ans (AV × Heap) := match args with
  | [.agg r] => .grd (liIs r) (.out (.val (.bool (propB (entP (liParse r)))), ⟨0, []⟩))
  | _ => .no
theorem Tryz.wPl (a b : LinD) : rootS Tryz.EPl 6 101 (lsumsOf []) [.agg (liRow a), .agg (liRow b)] =
 bif [cmpI a.fst b.fst, cmpI a.snd.fst b.snd.fst].getD 0 0 != 0 then
 some (.val (.int .i64 ([cmpI a.fst b.fst, cmpI a.snd.fst b.snd.fst].getD 0 0)), ⟨0, []⟩)
 else
 bif [cmpI a.fst b.fst, cmpI a.snd.fst b.snd.fst].getD 1 0 != 0 then
 some (.val (.int .i64 ([cmpI a.fst b.fst, cmpI a.snd.fst b.snd.fst].getD 1 0)), ⟨0, []⟩)
 else
 some (.val (.int .i64 0), ⟨0, []⟩) := by kernel_rfl
theorem Tryz.wEt (a : LinD) : rootS Tryz.ESm 6 150 (lsumsOf []) [.agg (liRow a)] =
 bif decide (a.fst ≥ 0) then
 bif decide (a.fst ≤ 15) then
 bif decide (a.snd.fst ≥ 0) then
 bif decide (a.snd.fst ≤ 65535) then
 bif decide (a.snd.snd.fst ≥ 0) then
 bif decide (a.snd.snd.fst ≤ 19) then
 bif decide (a.snd.snd.snd ≥ 0) then
 bif decide (a.snd.snd.snd ≤ 1048576) then
 some (.val (.bool true), ⟨0, []⟩)
 else
 some (.val (.bool false), ⟨0, []⟩)
 else
 some (.val (.bool false), ⟨0, []⟩)
 else
 some (.val (.bool false), ⟨0, []⟩)
 else
 some (.val (.bool false), ⟨0, []⟩)
 else
 some (.val (.bool false), ⟨0, []⟩)
 else
 some (.val (.bool false), ⟨0, []⟩)
 else
 some (.val (.bool false), ⟨0, []⟩)
 else
 some (.val (.bool false), ⟨0, []⟩) := by kernel_rfl
theorem li_aws {r : List AV} (h : liIs r = true) : AWs r (liRow (liParse r)) := by
  unfold liIs at h
  split at h
  · exact AWs.refl _
  · cases h
theorem Tryz.ePl : EnvOk2 Tryz.prog Tryz.EPl := Tryz.envOk false (sumsOf Tryz.tPl) _ (sumsOf_ok (show AllS Tryz.prog Tryz.tPl from ⟨Tryz.sumCi, trivial⟩))
theorem Tryz.sumPl : SumC Tryz.prog 101 (pureA plS) := by
  refine pureSumR 101 ⟨Tryz.f101, _, Tryz.fnOk101.1, Tryz.fnOk101.2, rfl⟩ ?_
  intro args v h2 hs
  unfold plS at hs
  split at hs
  · rename_i r q
    rw [Ans.run_grd] at hs
    cases hb : (liIs r && liIs q) with
    | false => rw [hb] at hs; cases hs
    | true =>
    rw [hb, cond_true] at hs
    rw [Bool.and_eq_true] at hb
    injection hs with hs
    injection hs with q1 q2
    subst q1; subst q2
    refine Alone.argsW (AWs.args (.cons (AW.agg (li_aws hb.1)) (.cons (AW.agg (li_aws hb.2)) .nil))) ?_
    refine rootS_alone Tryz.ePl (d := 6) (g := 101) (ls := lsumsOf []) (AllL.noL _) ((Tryz.wPl _ _).trans ?_)
    show (bif cmpI (liParse r).1 (liParse q).1 != 0 then some (AV.val (.int .i64 (cmpI (liParse r).1 (liParse q).1)), (⟨0, []⟩ : Heap)) else bif cmpI (liParse r).2.1 (liParse q).2.1 != 0 then some (AV.val (.int .i64 (cmpI (liParse r).2.1 (liParse q).2.1)), (⟨0, []⟩ : Heap)) else some (AV.val (.int .i64 0), (⟨0, []⟩ : Heap))) = _
    unfold plI
    by_cases h1 : cmpI (liParse r).1 (liParse q).1 = 0
    · rw [h1]
      by_cases h2 : cmpI (liParse r).2.1 (liParse q).2.1 = 0
      · rw [h2]; rfl
      · rw [show (cmpI (liParse r).2.1 (liParse q).2.1 != 0) = true from bne_iff_ne.2 h2]; rfl
    · rw [show (cmpI (liParse r).1 (liParse q).1 != 0) = true from bne_iff_ne.2 h1, if_neg h1]; rfl
  · cases hs
theorem Tryz.sumEt : SumC Tryz.prog 150 (pureA etS) := by
  refine pureSumR 150 ⟨Tryz.f150, _, Tryz.fnOk150.1, Tryz.fnOk150.2, rfl⟩ ?_
  intro args v h2 hs
  unfold etS at hs
  split at hs
  · rename_i r
    rw [Ans.run_grd] at hs
    cases hb : liIs r with
    | false => rw [hb] at hs; cases hs
    | true =>
    rw [hb, cond_true] at hs
    injection hs with hs
    injection hs with q1 q2
    subst q1; subst q2
    refine Alone.argsW (AWs.args (.cons (AW.agg (li_aws hb)) .nil)) ?_
    refine rootS_alone Tryz.eSm (d := 6) (g := 150) (ls := lsumsOf []) (AllL.noL _) ((Tryz.wEt _).trans ?_)
    rw [bB (propB (entP (liParse r))) (fun b => some (AV.val (.bool b), (⟨0, []⟩ : Heap))), propB_ite]
    unfold entP
    generalize (some (AV.val (.bool true), (⟨0, []⟩ : Heap))) = A
    generalize (some (AV.val (.bool false), (⟨0, []⟩ : Heap))) = B
    simp only [condI, decide_eq_true_eq]
    repeat' split
    all_goals first | rfl | (exfalso; omega)
  · cases hs
def Tryz.tPt : List (Nat × AFun) := [(101, pureA plS), (150, pureA etS)]
def Tryz.EPt : Env := Tryz.env0 false (sumsOf Tryz.tPt) (keepF 104 [(2, [0, 5, 6, 7])])
def Tryz.bPt : Code := nthD .skip (loopsOf (bodyOf Tryz.EPt 104)) 0
def Tryz.BPt (s : St) : Option (AX × St) := codeS Tryz.EPt (callF Tryz.EPt 6) (Tryz.EPt.keep 104) (lsumsOf []) Tryz.bPt (outK [0, 5, 6, 7] [0, 2]) s
def Vpt (L : List LinD) (k : Nat) : List AV := [.ro (LI.con L) none, .ro (LI.con L) none, .val (.int .i64 (L.length : Nat)), .val (.int .i64 k)]
theorem Tryz.rPt (L : List LinD) (k : Nat) : Tryz.BPt (stOf 43 [0, 5, 6, 7] (Vpt L k) ⟨0, []⟩) =
 bif decide ((↑k : Int) < (↑L.length : Int)) then
 bif inR (↑k : Int) L.length then
 bif propB (entP (liParse [AV.val (Value.int IntKind.i64 (L.getD k LI.z).fst), AV.val (Value.int IntKind.i64 (L.getD k LI.z).snd.fst), AV.val (Value.int IntKind.i64 (L.getD k LI.z).snd.snd.fst), AV.val (Value.int IntKind.i64 (L.getD k LI.z).snd.snd.snd)])) then
 bif (L.getD k LI.z).snd.snd.snd == 0 then
 bif (L.getD k LI.z).snd.snd.fst != 0 then
 some (.ret, stOf 43 [0, 2] [.ro (LI.con L) none, .val (.bool false)] ⟨0, []⟩)
 else
 bif decide ((↑k : Int) > 0) then
 bif inR (IntKind.i64.wrap ((↑k : Int) - 1)) L.length then
 bif decide (plI (liParse [AV.val (Value.int IntKind.i64 (L.getD (IntKind.i64.wrap ((↑k : Int) - 1)).toNat LI.z).fst), AV.val (Value.int IntKind.i64 (L.getD (IntKind.i64.wrap ((↑k : Int) - 1)).toNat LI.z).snd.fst), AV.val (Value.int IntKind.i64 (L.getD (IntKind.i64.wrap ((↑k : Int) - 1)).toNat LI.z).snd.snd.fst), AV.val (Value.int IntKind.i64 (L.getD (IntKind.i64.wrap ((↑k : Int) - 1)).toNat LI.z).snd.snd.snd)]) (liParse [AV.val (Value.int IntKind.i64 (L.getD k LI.z).fst), AV.val (Value.int IntKind.i64 (L.getD k LI.z).snd.fst), AV.val (Value.int IntKind.i64 (L.getD k LI.z).snd.snd.fst), AV.val (Value.int IntKind.i64 (L.getD k LI.z).snd.snd.snd)]) ≥ 0) then
 some (.ret, stOf 43 [0, 2] [.ro (LI.con L) none, .val (.bool false)] ⟨0, []⟩)
 else
 some (.normal, stOf 43 [0, 5, 6, 7] [.ro (LI.con L) none, .ro (LI.con L) none, .val (.int .i64 ((↑L.length : Int))), .val (.int .i64 (IntKind.i64.wrap ((↑k : Int) + 1)))] ⟨0, []⟩)
 else
 none
 else
 some (.normal, stOf 43 [0, 5, 6, 7] [.ro (LI.con L) none, .ro (LI.con L) none, .val (.int .i64 ((↑L.length : Int))), .val (.int .i64 (IntKind.i64.wrap ((↑k : Int) + 1)))] ⟨0, []⟩)
 else
 bif decide ((↑k : Int) > 0) then
 bif inR (IntKind.i64.wrap ((↑k : Int) - 1)) L.length then
 bif decide (plI (liParse [AV.val (Value.int IntKind.i64 (L.getD (IntKind.i64.wrap ((↑k : Int) - 1)).toNat LI.z).fst), AV.val (Value.int IntKind.i64 (L.getD (IntKind.i64.wrap ((↑k : Int) - 1)).toNat LI.z).snd.fst), AV.val (Value.int IntKind.i64 (L.getD (IntKind.i64.wrap ((↑k : Int) - 1)).toNat LI.z).snd.snd.fst), AV.val (Value.int IntKind.i64 (L.getD (IntKind.i64.wrap ((↑k : Int) - 1)).toNat LI.z).snd.snd.snd)]) (liParse [AV.val (Value.int IntKind.i64 (L.getD k LI.z).fst), AV.val (Value.int IntKind.i64 (L.getD k LI.z).snd.fst), AV.val (Value.int IntKind.i64 (L.getD k LI.z).snd.snd.fst), AV.val (Value.int IntKind.i64 (L.getD k LI.z).snd.snd.snd)]) ≥ 0) then
 some (.ret, stOf 43 [0, 2] [.ro (LI.con L) none, .val (.bool false)] ⟨0, []⟩)
 else
 some (.normal, stOf 43 [0, 5, 6, 7] [.ro (LI.con L) none, .ro (LI.con L) none, .val (.int .i64 ((↑L.length : Int))), .val (.int .i64 (IntKind.i64.wrap ((↑k : Int) + 1)))] ⟨0, []⟩)
 else
 none
 else
 some (.normal, stOf 43 [0, 5, 6, 7] [.ro (LI.con L) none, .ro (LI.con L) none, .val (.int .i64 ((↑L.length : Int))), .val (.int .i64 (IntKind.i64.wrap ((↑k : Int) + 1)))] ⟨0, []⟩)
 else
 some (.ret, stOf 43 [0, 2] [.ro (LI.con L) none, .val (.bool false)] ⟨0, []⟩)
 else
 none
 else
 some (.exit 0, stOf 43 [0] [.ro (LI.con L) none] ⟨0, []⟩) := by kernel_rfl
theorem pl_neg (p x : LinD) : plI p x ≥ 0 ↔ ¬ (p.1 ≤ x.1 ∧ (x.1 = p.1 → p.2.1 < x.2.1)) := by
  unfold plI cmpI
  repeat' split
  all_goals omega
theorem li_eta (x : LinD) : liParse [.val (.int .i64 x.1), .val (.int .i64 x.2.1), .val (.int .i64 x.2.2.1), .val (.int .i64 x.2.2.2)] = x := rfl
theorem Tryz.sPt (L : List LinD) (k : Nat) (hL : L.length ≤ 1000000) (hk : k ≤ L.length) : Tryz.BPt (stOf 43 [0, 5, 6, 7] (Vpt L k) ⟨0, []⟩) =
    bif decide (k < L.length) then (bif linOk L k then some (.normal, stOf 43 [0, 5, 6, 7] (Vpt L (k + 1)) ⟨0, []⟩) else some (.ret, stOf 43 [0, 2] [.ro (LI.con L) none, .val (.bool false)] ⟨0, []⟩)) else some (.exit 0, stOf 43 [0, 2] [.ro (LI.con L) none, .unk] ⟨0, []⟩) := by
  have key := Tryz.rPt L k
  rw [declt_nat, inR_nat, wrapS k (by omega), li_eta, li_eta] at key
  refine key.trans ?_
  by_cases h : k < L.length
  rotate_left
  · rw [decide_eq_false h]; rfl
  rw [decide_eq_true h]
  simp only [cond_true]
  have hA : (some (AX.normal, stOf 43 [0, 5, 6, 7] [.ro (LI.con L) none, .ro (LI.con L) none, .val (.int .i64 (L.length : Int)), .val (.int .i64 ((k + 1 : Nat) : Int))] ⟨0, []⟩) : Option (AX × St)) = some (.normal, stOf 43 [0, 5, 6, 7] (Vpt L (k + 1)) ⟨0, []⟩) := rfl
  rw [hA]
  generalize (some (AX.normal, stOf 43 [0, 5, 6, 7] (Vpt L (k + 1)) ⟨0, []⟩) : Option (AX × St)) = A
  generalize (some (AX.ret, stOf 43 [0, 2] [.ro (LI.con L) none, .val (.bool false)] (⟨0, []⟩ : Heap)) : Option (AX × St)) = B
  have e1 : 0 < k → IntKind.i64.wrap ((k : Int) - 1) = ((k - 1 : Nat) : Int) := fun hk0 => by rw [wrap64 _ (by omega) (by omega)]; omega
  unfold linOk
  rw [propB_ite (linP L k)]
  unfold linP
  generalize L.getD k LI.z = x
  have hp := pl_neg (L.getD (k - 1) LI.z) x
  by_cases c1 : entP x
  rotate_left
  · rw [propB_f c1, cond_false, if_neg (fun q => c1 q.1)]
  rw [propB_t c1, cond_true]
  have rest : (x.2.2.2 = 0 → x.2.2.1 = 0) → (bif decide ((k : Int) > 0) then bif inR (IntKind.i64.wrap ((k : Int) - 1)) L.length then bif decide (plI (L.getD (IntKind.i64.wrap ((k : Int) - 1)).toNat LI.z) x ≥ 0) then B else A else none else A) =
      @ite _ (entP x ∧ (x.2.2.2 = 0 → x.2.2.1 = 0) ∧ (0 < k → (L.getD (k - 1) LI.z).1 ≤ x.1 ∧ (x.1 = (L.getD (k - 1) LI.z).1 → (L.getD (k - 1) LI.z).2.1 < x.2.1))) (Classical.propDecidable _) A B := by
    intro hlf
    by_cases c12 : 0 < k
    rotate_left
    · rw [decide_eq_false (show ¬ (k : Int) > 0 by omega), cond_false, if_pos ⟨c1, hlf, fun q => absurd q c12⟩]
    rw [decide_eq_true (show (k : Int) > 0 by omega), cond_true, e1 c12, inR_nat, decide_eq_true (show k - 1 < L.length by omega), cond_true, Int.toNat_natCast]
    by_cases d1 : plI (L.getD (k - 1) LI.z) x ≥ 0
    · rw [decide_eq_true d1, cond_true, if_neg (fun q => hp.1 d1 (q.2.2 c12))]
    · rw [decide_eq_false d1, cond_false, if_pos ⟨c1, hlf, fun _ => Classical.byContradiction (fun q => d1 (hp.2 q))⟩]
  by_cases c9 : x.2.2.2 = 0
  · rw [show (x.2.2.2 == 0) = true from beq_iff_eq.2 c9, cond_true]
    by_cases c10 : x.2.2.1 = 0
    · rw [show (x.2.2.1 != 0) = false by rw [c10]; rfl, cond_false]
      exact rest (fun _ => c10)
    · rw [show (x.2.2.1 != 0) = true from bne_iff_ne.2 c10, cond_true, if_neg (fun q => c10 (q.2.1 c9))]
  · rw [show (x.2.2.2 == 0) = false from beq_eq_false_iff_ne.2 c9, cond_false]
    exact rest (fun q => absurd q c9)
def fPt (vs : List AV) (h : Heap) : Ans (AX × List AV × Heap) := match vs, h with
  | [.ro c cap, .ro c' cap', .val (.int .i64 n), .val (.int .i64 (.ofNat 0))], ⟨0, []⟩ =>
    .grd ((LI.ok c && LI.ok c') && (propB (LI.list c' = LI.list c ∧ (LI.list c).length ≤ 1000000) && (n == (((LI.list c).length : Nat) : Int)))) (.br (allOk (LI.list c).length (linOk (LI.list c))) (.out (.exit 0, [.ro (LI.con (LI.list c)) none, .unk], ⟨0, []⟩)) (.out (.ret, [.ro (LI.con (LI.list c)) none, .val (.bool false)], ⟨0, []⟩)))
  | _, _ => .no
def LPt : LSum := toLSum 43 [0, 5, 6, 7] [0, 2] fPt
theorem Tryz.wPt (L : List LinD) : rootS Tryz.EPt 6 104 (lsumsOf [(2, LPt)]) [.ro (LI.con L) none] =
 bif LI.ok (LI.con L) && LI.ok (LI.con L) && (propB (LI.list (LI.con L) = LI.list (LI.con L) ∧ (LI.list (LI.con L)).length ≤ 1000000) && (↑L.length : Int) == (↑(LI.list (LI.con L)).length : Int)) then
 bif allOk (LI.list (LI.con L)).length (linOk (LI.list (LI.con L))) then
 bif decide ((↑(LI.list (LI.con L)).length : Int) ≤ 4000) then
 some (.val (.bool true), ⟨0, []⟩)
 else
 some (.val (.bool false), ⟨0, []⟩)
 else
 some (.val (.bool false), ⟨0, []⟩)
 else
 none := by kernel_rfl
theorem Tryz.ePt : EnvOk2 Tryz.prog Tryz.EPt := Tryz.envOk false (sumsOf Tryz.tPt) _ (sumsOf_ok (show AllS Tryz.prog Tryz.tPt from ⟨Tryz.sumPl, Tryz.sumEt, trivial⟩))
theorem Tryz.lPt : ∀ s e s', s.h.ok → (LPt s).run = some (e, s') → Triple Tryz.prog (.loop Tryz.bPt) s e s' := by
  refine scan_law Tryz.ePt (d := 6) (g := 104) (ls := lsumsOf []) (c := Tryz.bPt) trivial 43 [0, 5, 6, 7] [0, 2] (T := List LinD) Vpt (fun _ => ⟨0, []⟩) (fun L => L.length) linOk (fun L => L.length ≤ 1000000)
    (fun L => (.exit 0, [.ro (LI.con L) none, .unk], ⟨0, []⟩)) (fun L => (.ret, [.ro (LI.con L) none, .val (.bool false)], ⟨0, []⟩)) fPt ?_ (fun _ _ => heap0_ok) (fun _ _ => ⟨by simp, by simp⟩) (fun _ _ => ⟨heap0_ok, heap0_ok⟩) (fun L k hL hk _ => Tryz.sPt L k hL hk)
  intro vs h e vo h' hok hf
  unfold fPt at hf
  split at hf
  · rename_i c cap c' cap' n
    rw [Ans.run_grd] at hf
    cases hb : ((LI.ok c && LI.ok c') && (propB (LI.list c' = LI.list c ∧ (LI.list c).length ≤ 1000000) && (n == (((LI.list c).length : Nat) : Int)))) with
    | false => rw [hb] at hf; cases hf
    | true =>
      rw [hb, cond_true, Ans.run_br] at hf
      simp only [Bool.and_eq_true, beq_iff_eq] at hb
      obtain ⟨⟨b1, b2⟩, b3, b4⟩ := hb
      obtain ⟨b5, b6⟩ := propB_eq b3
      refine ⟨LI.list c, b6, ?_, ?_⟩
      · refine Weak.slots heap0_ok ?_
        have := LI.aw b2 cap'
        rw [b5] at this
        rw [b4]
        exact .cons (LI.aw b1 cap) (.cons this (AWs.refl _))
      · cases hq : allOk (LI.list c).length (linOk (LI.list c)) with
        | true => rw [hq] at hf; injection hf
        | false => rw [hq] at hf; injection hf
  · cases hf
theorem Tryz.sumPt : SumC Tryz.prog 104 (pureA (fun args => tabS (nzs [LI.con []] args))) := by
  refine pureSumR 104 ⟨Tryz.f104, _, Tryz.fnOk104.1, Tryz.fnOk104.2, rfl⟩ ?_
  intro args v h2 hs
  refine Alone.nz (cs := [LI.con []]) (by simp [Con.len, RowTy.con]) ?_
  replace hs : (tabS (nzs [LI.con []] args)).run = some (v, h2) := hs
  generalize nzs [LI.con []] args = args' at hs ⊢
  unfold tabS at hs
  split at hs
  · rename_i c cap
    rw [Ans.run_grd] at hs
    cases hb : (LI.ok c && Nat.ble c.len 1000000) with
    | false => rw [hb] at hs; cases hs
    | true =>
    rw [hb, cond_true] at hs
    rw [Bool.and_eq_true, Nat.ble_eq] at hb
    injection hs with hs
    injection hs with q1 q2
    subst q1; subst q2
    refine Alone.argsW (AWs.args (.cons (LI.aw hb.1 cap) .nil)) ?_
    have hi : (LI.list c).length ≤ 1000000 := by rw [LI.list_len]; exact hb.2
    generalize LI.list c = L at hi ⊢
    refine rootS_alone Tryz.ePt (d := 6) (g := 104) (ls := lsumsOf [(2, LPt)]) (AllL.of1 (a := Tryz.bPt) (by kernel_rfl) (LsOk.of rfl rfl Tryz.lPt)) ((Tryz.wPt L).trans ?_)
    have hl : LI.list (LI.con L) = L := LI.list_con _
    rw [hl, LI.ok_con, propB_t (show L = L ∧ L.length ≤ 1000000 from ⟨rfl, hi⟩), beq_self_eq_true]
    unfold tabB
    simp only [Bool.and_self, cond_true]
    have e1 : decide ((L.length : Int) ≤ 4000) = decide (L.length ≤ 4000) := by rw [decide_eq_decide]; omega
    rw [e1]
    cases allOk L.length (linOk L) <;> cases decide (L.length ≤ 4000) <;> rfl
  · cases hs
end Go.Ev
/- Files and lines, as the program checks them. -/
namespace Go.Ev
open Go.Proofs
def Tryz.tXf : List (Nat × AFun) := [(160, pureA fileS)]
def Tryz.EXf : Env := Tryz.env0 false (sumsOf Tryz.tXf) (keepF 188 [(2, [0, 1, 7, 8])])
def Tryz.bXf : Code := nthD .skip (loopsOf (bodyOf Tryz.EXf 188)) 0
def Tryz.BXf (s : St) : Option (AX × St) := codeS Tryz.EXf (callF Tryz.EXf 6) (Tryz.EXf.keep 188) (lsumsOf []) Tryz.bXf (outK [0, 1, 7, 8] [4]) s
def Tryz.cloXf : AV := .clo (.func 159) [] []
def Tryz.Vxf (L : List ByteArray) (k : Nat) : List AV := [.ro (FI.con L) none, Tryz.cloXf, .val (.int .i64 (L.length : Nat)), .val (.int .i64 k)]
def pXf (L : List ByteArray) (k : Nat) : Bool := !(fileB (L.getD k FI.z))
def Tryz.LXf (L : List ByteArray) : LSum := ixL 19 4 0 (stOf 19 [0, 1, 7, 8] (Tryz.Vxf L 0) ⟨0, []⟩) (ixN (pXf L) L.length)
def Tryz.EXl : Env := Tryz.env0 false (sumsOf []) (keepF 191 [(2, [0, 1, 7, 8])])
def Tryz.bXl : Code := nthD .skip (loopsOf (bodyOf Tryz.EXl 191)) 0
def Tryz.BXl (s : St) : Option (AX × St) := codeS Tryz.EXl (callF Tryz.EXl 6) (Tryz.EXl.keep 191) (lsumsOf []) Tryz.bXl (outK [0, 1, 7, 8] [4]) s
def Tryz.cloXl (o : OD) : AV := .clo (.func 164) [] [.rptr (.rows true 5 [o.row]) 0 0]
def Tryz.Vxl (o : OD) (k : Nat) : List AV := [.ro (LI.con o.li) none, Tryz.cloXl o, .val (.int .i64 (o.li.length : Nat)), .val (.int .i64 k)]
def pXl (o : OD) (k : Nat) : Bool := !(covOk o k)
def Tryz.LXl (o : OD) : LSum := ixL 19 4 0 (stOf 19 [0, 1, 7, 8] (Tryz.Vxl o 0) ⟨0, []⟩) (ixN (pXl o) o.li.length)
theorem Tryz.rXf (L : List ByteArray) (k : Nat) : Tryz.BXf (stOf 19 [0, 1, 7, 8] (Tryz.Vxf L k) ⟨0, []⟩) =
 bif decide ((↑k : Int) < (↑L.length : Int)) then
 bif inR (↑k : Int) L.length then
 bif (L.getD k FI.z).size.ble 140737488355328 then
 bif fileB (L.getD k FI.z) then
 some (.normal, stOf 19 [0, 1, 7, 8] [.ro (.tab 1 (L.length) (fun i => FI.row (L.getD i FI.z))) none, .clo (Fn.func 159) [] [], .val (.int .i64 ((↑L.length : Int))), .val (.int .i64 (IntKind.i64.wrap ((↑k : Int) + 1)))] ⟨0, []⟩)
 else
 some (.ret, stOf 19 [4] [.val (.int .i64 (↑k : Int))] ⟨0, []⟩)
 else
 none
 else
 none
 else
 some (.exit 0, stOf 19 [] [] ⟨0, []⟩) := by kernel_rfl
theorem Tryz.wXf (L : List ByteArray) : rootS Tryz.EXf 6 188 (lsumsOf [(2, Tryz.LXf L)]) [.ro (FI.con L) none, Tryz.cloXf] =
 bif isSt (stOf 19 [0, 1, 7, 8] (Tryz.Vxf L 0) { next := 0, es := [] }) (stOf 19 [0, 1, 7, 8] (Tryz.Vxf L 0) { next := 0, es := [] }) then
 bif (ixN (pXf L) L.length).isSome then
 some (.val (.int .i64 (Int.ofNat ((ixN (pXf L) L.length).getD 0))), ⟨0, []⟩)
 else
 some (.val (.int .i64 (-1)), ⟨0, []⟩)
 else
 none := by kernel_rfl
theorem Tryz.rXl (o : OD) (k : Nat) : Tryz.BXl (stOf 19 [0, 1, 7, 8] (Tryz.Vxl o k) ⟨0, []⟩) =
 bif decide ((↑k : Int) < (↑o.li.length : Int)) then
 bif inR (↑k : Int) o.li.length then
 bif decide ((o.li.getD k LI.z).fst ≥ (↑o.se.length : Int)) then
 some (.ret, stOf 19 [4] [.val (.int .i64 (↑k : Int))] ⟨0, []⟩)
 else
 bif inR (o.li.getD k LI.z).fst o.se.length then
 bif decide ((o.li.getD k LI.z).snd.fst ≥ IntKind.i64.wrap ((↑(o.se.getD (o.li.getD k LI.z).fst.toNat SE.z).snd.snd.snd.fst.length : Int) + (o.se.getD (o.li.getD k LI.z).fst.toNat SE.z).snd.snd.snd.snd)) then
 some (.ret, stOf 19 [4] [.val (.int .i64 (↑k : Int))] ⟨0, []⟩)
 else
 bif (o.li.getD k LI.z).snd.snd.snd != 0 then
 bif decide ((o.li.getD k LI.z).snd.snd.fst ≥ (↑o.fi.length : Int)) then
 some (.ret, stOf 19 [4] [.val (.int .i64 (↑k : Int))] ⟨0, []⟩)
 else
 some (.normal, stOf 19 [0, 1, 7, 8] [.ro (.tab 4 (o.li.length) (fun i => LI.row (o.li.getD i LI.z))) none, .clo (Fn.func 164) [] [.rptr (.rows true 5 (o.row :: [])) (0) (0)], .val (.int .i64 ((↑o.li.length : Int))), .val (.int .i64 (IntKind.i64.wrap ((↑k : Int) + 1)))] ⟨0, []⟩)
 else
 some (.normal, stOf 19 [0, 1, 7, 8] [.ro (.tab 4 (o.li.length) (fun i => LI.row (o.li.getD i LI.z))) none, .clo (Fn.func 164) [] [.rptr (.rows true 5 (o.row :: [])) (0) (0)], .val (.int .i64 ((↑o.li.length : Int))), .val (.int .i64 (IntKind.i64.wrap ((↑k : Int) + 1)))] ⟨0, []⟩)
 else
 none
 else
 none
 else
 some (.exit 0, stOf 19 [] [] ⟨0, []⟩) := by kernel_rfl
theorem Tryz.wXl (o : OD) : rootS Tryz.EXl 6 191 (lsumsOf [(2, Tryz.LXl o)]) [.ro (LI.con o.li) none, Tryz.cloXl o] =
 bif isSt (stOf 19 [0, 1, 7, 8] (Tryz.Vxl o 0) { next := 0, es := [] }) (stOf 19 [0, 1, 7, 8] (Tryz.Vxl o 0) { next := 0, es := [] }) then
 bif (ixN (pXl o) o.li.length).isSome then
 some (.val (.int .i64 (Int.ofNat ((ixN (pXl o) o.li.length).getD 0))), ⟨0, []⟩)
 else
 some (.val (.int .i64 (-1)), ⟨0, []⟩)
 else
 none := by kernel_rfl
theorem Tryz.eXf : EnvOk2 Tryz.prog Tryz.EXf := Tryz.envOk false (sumsOf Tryz.tXf) _ (sumsOf_ok (show AllS Tryz.prog Tryz.tXf from ⟨Tryz.sumFo2, trivial⟩))
theorem Tryz.eXl : EnvOk2 Tryz.prog Tryz.EXl := Tryz.envOk false (sumsOf []) _ (fun g A h => by cases h)
theorem Tryz.sXf (L : List ByteArray) (hi : filInv L) (k : Nat) (hk : k ≤ L.length) : Tryz.BXf (stOf 19 [0, 1, 7, 8] (Tryz.Vxf L k) ⟨0, []⟩) =
    bif decide (k < L.length) then (bif pXf L k then some (.ret, ixX 19 4 k) else some (.normal, stOf 19 [0, 1, 7, 8] (Tryz.Vxf L (k + 1)) ⟨0, []⟩)) else some (.exit 0, stOf 19 [] [] ⟨0, []⟩) := by
  obtain ⟨h1, h2⟩ := hi
  have key := Tryz.rXf L k
  rw [declt_nat, inR_nat, wrapS k (by omega)] at key
  refine key.trans ?_
  by_cases h : k < L.length
  · rw [decide_eq_true h, ble_t (h2 _ (getD_mem h))]
    simp only [cond_true]
    unfold pXf
    cases fileB (L.getD k FI.z) <;> rfl
  · rw [decide_eq_false h]; rfl
theorem Tryz.lXf (L : List ByteArray) (hi : filInv L) : ∀ s e s', s.h.ok → (Tryz.LXf L s).run = some (e, s') → Triple Tryz.prog (.loop Tryz.bXf) s e s' :=
  ix_law Tryz.eXf (d := 6) (g := 188) (c := Tryz.bXf) rfl 19 4 0 [0, 1, 7, 8] (Tryz.Vxf L) (pXf L) L.length (fun k hk => Tryz.sXf L hi k hk)
theorem Tryz.sXl (o : OD) (hi : lisInv o) (k : Nat) (hk : k ≤ o.li.length) : Tryz.BXl (stOf 19 [0, 1, 7, 8] (Tryz.Vxl o k) ⟨0, []⟩) =
    bif decide (k < o.li.length) then (bif pXl o k then some (.ret, ixX 19 4 k) else some (.normal, stOf 19 [0, 1, 7, 8] (Tryz.Vxl o (k + 1)) ⟨0, []⟩)) else some (.exit 0, stOf 19 [] [] ⟨0, []⟩) := by
  obtain ⟨⟨h1, h2⟩, h3⟩ := hi
  have hl : o.li.length ≤ 4000 := by
    unfold tabB at h3
    simp only [Bool.and_eq_true, decide_eq_true_eq] at h3
    exact h3.1
  have key := Tryz.rXl o k
  rw [declt_nat, inR_nat, wrapS k (by omega)] at key
  refine key.trans ?_
  by_cases h : k < o.li.length
  rotate_left
  · rw [decide_eq_false h]; rfl
  rw [decide_eq_true h]
  simp only [cond_true]
  have he := tab_ent h3 h
  have hB : (some (AX.normal, stOf 19 [0, 1, 7, 8] [.ro (.tab 4 (o.li.length) (fun i => LI.row (o.li.getD i LI.z))) none, .clo (Fn.func 164) [] [.rptr (.rows true 5 (o.row :: [])) (0) (0)], .val (.int .i64 ((↑o.li.length : Int))), .val (.int .i64 ((k + 1 : Nat) : Int))] ⟨0, []⟩) : Option (AX × St)) = some (.normal, stOf 19 [0, 1, 7, 8] (Tryz.Vxl o (k + 1)) ⟨0, []⟩) := rfl
  have hA : (some (AX.ret, stOf 19 [4] [.val (.int .i64 (k : Int))] ⟨0, []⟩) : Option (AX × St)) = some (.ret, ixX 19 4 k) := rfl
  rw [hB, hA]
  generalize (some (AX.normal, stOf 19 [0, 1, 7, 8] (Tryz.Vxl o (k + 1)) ⟨0, []⟩) : Option (AX × St)) = B
  generalize (some (AX.ret, ixX 19 4 k) : Option (AX × St)) = A
  unfold pXl covOk
  rw [show ∀ p : Prop, (bif !(propB p) then A else B) = (bif propB p then B else A) from fun p => by cases propB p <;> rfl, propB_ite]
  unfold covP
  unfold entP at he
  generalize o.li.getD k LI.z = x at he ⊢
  obtain ⟨sec, off, file, line⟩ := x
  simp only at he ⊢
  by_cases c1 : sec ≥ (o.se.length : Int)
  · rw [decide_eq_true c1, cond_true, if_neg (fun q => by omega)]
  rw [decide_eq_false c1, cond_false, inR_prop.2 ⟨by omega, by omega⟩, cond_true]
  have hb := h2 _ (getD_mem (d := SE.z) (show sec.toNat < o.se.length by omega))
  have hw : IntKind.i64.wrap (((o.se.getD sec.toNat SE.z).snd.snd.snd.fst.length : Int) + (o.se.getD sec.toNat SE.z).snd.snd.snd.snd) = lenS (o.se.getD sec.toNat SE.z) := by
    unfold lenS at hb ⊢
    exact wrap64 _ (by omega) (by omega)
  rw [hw]
  by_cases c2 : off ≥ lenS (o.se.getD sec.toNat SE.z)
  · rw [decide_eq_true c2, cond_true, if_neg (fun q => by omega)]
  rw [decide_eq_false c2, cond_false]
  by_cases c3 : line = 0
  · rw [show (line != 0) = false by rw [c3]; rfl, cond_false, if_pos ⟨by omega, by omega, fun q => by omega⟩]
  · rw [show (line != 0) = true from bne_iff_ne.2 c3, cond_true]
    by_cases c4 : file ≥ (o.fi.length : Int)
    · rw [decide_eq_true c4, cond_true, if_neg (fun q => by have := q.2.2 (by omega); omega)]
    · rw [decide_eq_false c4, cond_false, if_pos ⟨by omega, by omega, fun _ => by omega⟩]
theorem Tryz.lXl (o : OD) (hi : lisInv o) : ∀ s e s', s.h.ok → (Tryz.LXl o s).run = some (e, s') → Triple Tryz.prog (.loop Tryz.bXl) s e s' :=
  ix_law Tryz.eXl (d := 6) (g := 191) (c := Tryz.bXl) rfl 19 4 0 [0, 1, 7, 8] (Tryz.Vxl o) (pXl o) o.li.length (fun k hk => Tryz.sXl o hi k hk)
def xfS (args : List AV) : Ans (AV × Heap) := match args with
  | [.ro c cap, .clo (.func 159) [] []] => .grd (FI.ok c && propB (filInv (FI.list c))) (ixO (ixN (pXf (FI.list c)) (FI.list c).length))
  | _ => .no
def xlS (args : List AV) : Ans (AV × Heap) := match args with
  | [.ro c cap, .clo (.func 164) [] [.rptr (.rows true 5 [r]) 0 0]] => .grd ((LI.ok c && odIs (.agg r)) && propB (LI.list c = (odP (.agg r)).li ∧ lisInv (odP (.agg r)))) (ixO (ixN (pXl (odP (.agg r))) (odP (.agg r)).li.length))
  | _ => .no
theorem Tryz.sumXf : SumC Tryz.prog 188 (pureA (fun args => xfS (nzs [FI.con []] args))) := by
  refine pureSumR 188 ⟨Tryz.f188, _, Tryz.fnOk188.1, Tryz.fnOk188.2, rfl⟩ ?_
  intro args v h2 hs
  refine Alone.nz (cs := [FI.con []]) (by simp [Con.len, RowTy.con]) ?_
  replace hs : (xfS (nzs [FI.con []] args)).run = some (v, h2) := hs
  generalize nzs [FI.con []] args = args' at hs ⊢
  unfold xfS at hs
  split at hs
  · rename_i c cap
    rw [Ans.run_grd] at hs
    cases hb : (FI.ok c && propB (filInv (FI.list c))) with
    | false => rw [hb] at hs; cases hs
    | true =>
    rw [hb, cond_true] at hs
    rw [Bool.and_eq_true] at hb
    have hi := propB_eq hb.2
    refine Alone.argsW (AWs.args (.cons (FI.aw hb.1 cap) (AWs.refl _))) ?_
    refine rootS_alone Tryz.eXf (d := 6) (g := 188) (ls := lsumsOf [(2, Tryz.LXf (FI.list c))]) (AllL.of1 (a := Tryz.bXf) (by kernel_rfl) (LsOk.of rfl rfl (Tryz.lXf _ hi))) ((Tryz.wXf _).trans ?_)
    rw [isSt_refl, cond_true]
    exact hs
  · cases hs
theorem Tryz.sumXl : SumC Tryz.prog 191 (pureA (fun args => xlS (nzs [LI.con []] args))) := by
  refine pureSumR 191 ⟨Tryz.f191, _, Tryz.fnOk191.1, Tryz.fnOk191.2, rfl⟩ ?_
  intro args v h2 hs
  refine Alone.nz (cs := [LI.con []]) (by simp [Con.len, RowTy.con]) ?_
  replace hs : (xlS (nzs [LI.con []] args)).run = some (v, h2) := hs
  generalize nzs [LI.con []] args = args' at hs ⊢
  unfold xlS at hs
  split at hs
  · rename_i c cap r
    rw [Ans.run_grd] at hs
    cases hb : ((LI.ok c && odIs (.agg r)) && propB (LI.list c = (odP (.agg r)).li ∧ lisInv (odP (.agg r)))) with
    | false => rw [hb] at hs; cases hs
    | true =>
    rw [hb, cond_true] at hs
    simp only [Bool.and_eq_true] at hb
    obtain ⟨p1, p2⟩ := propB_eq hb.2
    have hw := LI.aw hb.1.1 cap
    rw [p1] at hw
    refine Alone.argsW (AWs.args (.cons hw (.cons (AW.clo .nil (.cons (AW.rptr (od_con hb.1.2) 0 0) .nil)) .nil))) ?_
    refine rootS_alone Tryz.eXl (d := 6) (g := 191) (ls := lsumsOf [(2, Tryz.LXl (odP (.agg r)))]) (AllL.of1 (a := Tryz.bXl) (by kernel_rfl) (LsOk.of rfl rfl (Tryz.lXl _ p2))) ((Tryz.wXl _).trans ?_)
    rw [isSt_refl, cond_true]
    exact hs
  · cases hs
def Tryz.tPf : List (Nat × AFun) := [(188, pureA (fun args => xfS (nzs [FI.con []] args))), (191, pureA (fun args => xlS (nzs [LI.con []] args))), (161, pureA (fun args => dfDf (nzs [FI.con []] args))), (104, pureA (fun args => tabS (nzs [LI.con []] args)))]
def Tryz.EPf : Env := Tryz.env0 false (sumsOf Tryz.tPf) (keepF 0 [])
theorem Tryz.wPf (o : OD) : rootS Tryz.EPf 6 112 (lsumsOf []) [o.av] =
 bif decide ((↑o.fi.length : Int) > 20) then
 some (.val (.bool false), ⟨0, []⟩)
 else
 bif FI.ok (FI.con o.fi) && propB (filInv (FI.list (FI.con o.fi))) then
 bif (ixN (pXf (FI.list (FI.con o.fi))) (FI.list (FI.con o.fi)).length).isSome then
 some (.val (.bool false), ⟨0, []⟩)
 else
 bif FI.ok (FI.con o.fi) && o.fi.length.ble 1000000 then
 bif allNew (nmDf (FI.list (FI.con o.fi))) (FI.list (FI.con o.fi)).length then
 bif LI.ok (LI.con o.li) && o.li.length.ble 1000000 then
 bif tabB (LI.list (LI.con o.li)) then
 bif LI.ok (LI.con o.li) && odIs (AV.agg (AV.agg o.row).cells) && propB (LI.list (LI.con o.li) = (odP (AV.agg (AV.agg o.row).cells)).li ∧ lisInv (odP (AV.agg (AV.agg o.row).cells))) then
 bif (ixN (pXl (odP (AV.agg (AV.agg o.row).cells))) (odP (AV.agg (AV.agg o.row).cells)).li.length).isSome then
 some (.val (.bool false), ⟨0, []⟩)
 else
 some (.val (.bool true), ⟨0, []⟩)
 else
 none
 else
 some (.val (.bool false), ⟨0, []⟩)
 else
 none
 else
 some (.val (.bool false), ⟨0, []⟩)
 else
 none
 else
 none := by kernel_rfl
end Go.Ev
/- Valid objects, as the program checks them. -/
namespace Go.Ev
open Go.Proofs
theorem fils_split (L : List ByteArray) : allOk L.length (filOk L) = (!(ixN (pXf L) L.length).isSome && allNew (nmDf L) L.length) := by
  rw [ixN_some, Bool.not_not]
  refine (allOk_and _ _ _).trans ?_
  congr 1
  exact (not_not_all _ _).symm
theorem lins_split (o : OD) : allOk o.li.length (covOk o) = !(ixN (pXl o) o.li.length).isSome := by
  rw [ixN_some, Bool.not_not]
  exact (not_not_all _ _).symm
def pfInv (o : OD) : Prop := filInv o.fi ∧ o.li.length ≤ 1000000 ∧ seBound o.se
def pfilS (args : List AV) : Ans (AV × Heap) := match args with
  | [o] => .grd (odIs o && propB (pfInv (odP o))) (.out (.val (.bool (filsB (odP o).fi && (tabB (odP o).li && allOk (odP o).li.length (covOk (odP o))))), ⟨0, []⟩))
  | _ => .no
theorem Tryz.ePf : EnvOk2 Tryz.prog Tryz.EPf := Tryz.envOk false (sumsOf Tryz.tPf) _ (sumsOf_ok (show AllS Tryz.prog Tryz.tPf from ⟨Tryz.sumXf, Tryz.sumXl, Tryz.sumDf, Tryz.sumPt, trivial⟩))
theorem Tryz.sumPf : SumC Tryz.prog 112 (pureA pfilS) := by
  refine pureSumR 112 ⟨Tryz.f112, _, Tryz.fnOk112.1, Tryz.fnOk112.2, rfl⟩ ?_
  intro args v h2 hs
  unfold pfilS at hs
  split at hs
  · rename_i ov
    rw [Ans.run_grd] at hs
    cases hb : (odIs ov && propB (pfInv (odP ov))) with
    | false => rw [hb] at hs; cases hs
    | true =>
    rw [hb, cond_true] at hs
    rw [Bool.and_eq_true] at hb
    injection hs with hs
    injection hs with q1 q2
    subst q1; subst q2
    refine Alone.argsW (AWs.args (.cons (od_aw hb.1) .nil)) ?_
    obtain ⟨i1, i2, i3⟩ := propB_eq hb.2
    generalize odP ov = o at i1 i2 i3 ⊢
    refine rootS_alone Tryz.ePf (d := 6) (g := 112) (ls := lsumsOf []) (AllL.noL _) ((Tryz.wPf o).trans ?_)
    have hl : LI.list (LI.con o.li) = o.li := LI.list_con _
    have hf : FI.list (FI.con o.fi) = o.fi := FI.list_con _
    rw [show AV.agg (AV.agg o.row).cells = .agg o.row from rfl, odP_row, odIs_row, hl, hf, FI.ok_con, LI.ok_con, propB_t i1, ble_t i1.1, ble_t i2]
    unfold filsB
    rw [fils_split, lins_split]
    have e1 : decide ((o.fi.length : Int) > 20) = !(decide (o.fi.length ≤ 20)) := by
      by_cases h : o.fi.length ≤ 20
      · rw [decide_eq_true h, decide_eq_false (by omega)]; rfl
      · rw [decide_eq_false h, decide_eq_true (by omega)]; rfl
    rw [e1]
    cases htab : tabB o.li with
    | false => cases decide (o.fi.length ≤ 20) <;> cases (ixN (pXf o.fi) o.fi.length).isSome <;> cases allNew (nmDf o.fi) o.fi.length <;> rfl
    | true =>
      rw [propB_t (show o.li = o.li ∧ lisInv o from ⟨rfl, i3, htab⟩)]
      cases decide (o.fi.length ≤ 20) <;> cases (ixN (pXf o.fi) o.fi.length).isSome <;> cases allNew (nmDf o.fi) o.fi.length <;> cases (ixN (pXl o) o.li.length).isSome <;> rfl
  · cases hs
def Tryz.tPv : List (Nat × AFun) := [(109, pureA psecS), (110, pureA symsS), (111, pureA prelS), (112, pureA pfilS)]
def Tryz.EPv : Env := Tryz.env0 false (sumsOf Tryz.tPv) (keepF 0 [])
theorem Tryz.wPv (o : OD) : rootS Tryz.EPv 6 47 (lsumsOf []) [o.av] =
 bif odIs (AV.agg [AV.ro (SE.con o.se) none, AV.ro (SY.con o.sy) none, AV.ro (RE.con o.re) none, AV.ro (FI.con o.fi) none, AV.ro (LI.con o.li) none]) && propB (seInv (odP (AV.agg [AV.ro (SE.con o.se) none, AV.ro (SY.con o.sy) none, AV.ro (RE.con o.re) none, AV.ro (FI.con o.fi) none, AV.ro (LI.con o.li) none])).se) then
 bif secsB (odP (AV.agg [AV.ro (SE.con o.se) none, AV.ro (SY.con o.sy) none, AV.ro (RE.con o.re) none, AV.ro (FI.con o.fi) none, AV.ro (LI.con o.li) none])).se then
 bif odIs (AV.agg [AV.ro (SE.con o.se) none, AV.ro (SY.con o.sy) none, AV.ro (RE.con o.re) none, AV.ro (FI.con o.fi) none, AV.ro (LI.con o.li) none]) && propB (syInv (odP (AV.agg [AV.ro (SE.con o.se) none, AV.ro (SY.con o.sy) none, AV.ro (RE.con o.re) none, AV.ro (FI.con o.fi) none, AV.ro (LI.con o.li) none]))) then
 bif symsB (odP (AV.agg [AV.ro (SE.con o.se) none, AV.ro (SY.con o.sy) none, AV.ro (RE.con o.re) none, AV.ro (FI.con o.fi) none, AV.ro (LI.con o.li) none])) then
 bif odIs (AV.agg [AV.ro (SE.con o.se) none, AV.ro (SY.con o.sy) none, AV.ro (RE.con o.re) none, AV.ro (FI.con o.fi) none, AV.ro (LI.con o.li) none]) && propB (prInv (odP (AV.agg [AV.ro (SE.con o.se) none, AV.ro (SY.con o.sy) none, AV.ro (RE.con o.re) none, AV.ro (FI.con o.fi) none, AV.ro (LI.con o.li) none]))) then
 bif relsB (odP (AV.agg [AV.ro (SE.con o.se) none, AV.ro (SY.con o.sy) none, AV.ro (RE.con o.re) none, AV.ro (FI.con o.fi) none, AV.ro (LI.con o.li) none])) then
 bif odIs (AV.agg [AV.ro (SE.con o.se) none, AV.ro (SY.con o.sy) none, AV.ro (RE.con o.re) none, AV.ro (FI.con o.fi) none, AV.ro (LI.con o.li) none]) && propB (pfInv (odP (AV.agg [AV.ro (SE.con o.se) none, AV.ro (SY.con o.sy) none, AV.ro (RE.con o.re) none, AV.ro (FI.con o.fi) none, AV.ro (LI.con o.li) none]))) then
 bif filsB (odP (AV.agg [AV.ro (SE.con o.se) none, AV.ro (SY.con o.sy) none, AV.ro (RE.con o.re) none, AV.ro (FI.con o.fi) none, AV.ro (LI.con o.li) none])).fi && (tabB (odP (AV.agg [AV.ro (SE.con o.se) none, AV.ro (SY.con o.sy) none, AV.ro (RE.con o.re) none, AV.ro (FI.con o.fi) none, AV.ro (LI.con o.li) none])).li && allOk (odP (AV.agg [AV.ro (SE.con o.se) none, AV.ro (SY.con o.sy) none, AV.ro (RE.con o.re) none, AV.ro (FI.con o.fi) none, AV.ro (LI.con o.li) none])).li.length (covOk (odP (AV.agg [AV.ro (SE.con o.se) none, AV.ro (SY.con o.sy) none, AV.ro (RE.con o.re) none, AV.ro (FI.con o.fi) none, AV.ro (LI.con o.li) none])))) then
 some (.val (.bool true), ⟨0, []⟩)
 else
 some (.val (.bool false), ⟨0, []⟩)
 else
 none
 else
 some (.val (.bool false), ⟨0, []⟩)
 else
 none
 else
 some (.val (.bool false), ⟨0, []⟩)
 else
 none
 else
 some (.val (.bool false), ⟨0, []⟩)
 else
 none := by kernel_rfl
theorem Tryz.ePv : EnvOk2 Tryz.prog Tryz.EPv := Tryz.envOk false (sumsOf Tryz.tPv) _ (sumsOf_ok (show AllS Tryz.prog Tryz.tPv from ⟨Tryz.sumPs, Tryz.sumPo, Tryz.sumPr, Tryz.sumPf, trivial⟩))
theorem Tryz.sumPv : SumC Tryz.prog 47 (pureA isS) := by
  refine pureSumR 47 ⟨Tryz.f47, _, Tryz.fnOk47.1, Tryz.fnOk47.2, rfl⟩ ?_
  intro args v h2 hs
  unfold isS at hs
  split at hs
  · rename_i ov
    rw [Ans.run_grd] at hs
    cases hb : (odIs ov && propB (odInv (odP ov))) with
    | false => rw [hb] at hs; cases hs
    | true =>
    rw [hb, cond_true] at hs
    rw [Bool.and_eq_true] at hb
    injection hs with hs
    injection hs with q1 q2
    subst q1; subst q2
    refine Alone.argsW (AWs.args (.cons (od_aw hb.1) .nil)) ?_
    have hi := propB_eq hb.2
    generalize odP ov = o at hi ⊢
    refine rootS_alone Tryz.ePv (d := 6) (g := 47) (ls := lsumsOf []) (AllL.noL _) ((Tryz.wPv o).trans ?_)
    obtain ⟨i1, ⟨i2, i3⟩, i4, i5, i6⟩ := hi
    rw [show AV.agg [AV.ro (SE.con o.se) none, AV.ro (SY.con o.sy) none, AV.ro (RE.con o.re) none, AV.ro (FI.con o.fi) none, AV.ro (LI.con o.li) none] = .agg o.row from rfl, odP_row, odIs_row, propB_t i1]
    unfold objB
    cases h1 : secsB o.se with
    | false => rfl
    | true =>
    have hbd := secs_bound i1 h1
    rw [propB_t (show syInv o from ⟨i2, hbd, i3⟩)]
    cases h2 : symsB o with
    | false => rfl
    | true =>
    rw [propB_t (show prInv o from ⟨⟨i4, i1.2⟩, Nat.le_trans i1.1 (by omega), i2⟩)]
    cases h3 : relsB o with
    | false => rfl
    | true =>
    rw [propB_t (show pfInv o from ⟨i5, i6, hbd⟩)]
    cases (filsB o.fi && (tabB o.li && allOk o.li.length (covOk o))) <;> rfl
  · cases hs
end Go.Ev
/- Equal lists. -/
namespace Go.Ev
open Go.Proofs
def ceqSy (x y : SymD) : Bool := (x.1 == y.1) && ((x.2.1 == y.2.1) && ((x.2.2.1 == y.2.2.1) && ((x.2.2.2.1 == y.2.2.2.1) && ((x.2.2.2.2.1 == y.2.2.2.2.1) && ((x.2.2.2.2.2 == y.2.2.2.2.2) && true)))))
def ceqRe (x y : RelD) : Bool := (x.1 == y.1) && ((x.2.1 == y.2.1) && ((x.2.2.1 == y.2.2.1) && ((x.2.2.2.1 == y.2.2.2.1) && ((x.2.2.2.2 == y.2.2.2.2) && true))))
def ceqLi (x y : LinD) : Bool := (x.1 == y.1) && ((x.2.1 == y.2.1) && ((x.2.2.1 == y.2.2.1) && ((x.2.2.2 == y.2.2.2) && true)))
def byRow (n : Int) : List AV := [.val (.int .u8 n)]
def byParse : List AV → Int
  | [.val (.int .u8 n)] => n
  | _ => 0
def byIs : List AV → Bool
  | [.val (.int .u8 n)] => true
  | _ => false
theorem by_law (r : List AV) (h : byIs r = true) (j : Nat) (v' : AV) (hv : (byRow (byParse r))[j]? = some v') : ∃ v, r[j]? = some v ∧ AW v v' := by
  unfold byIs at h
  split at h
  · exact ⟨v', hv, AW.refl _⟩
  · cases h
def BY : RowTy Int := ⟨1, byRow, byParse, byIs, 0, by_law, fun _ => rfl, fun _ => rfl⟩
def Tryz.EQy : Env := Tryz.env0 false (sumsOf []) (keepF 30 [(4, [0, 1, 12, 13])])
def Tryz.bQy : Code := nthD .skip (loopsOf (bodyOf Tryz.EQy 30)) 0
def Tryz.VQy (L M : List SymD) (i : Int) : List AV := [.ro (SY.con L) none, .ro (SY.con M) none, .val (.int .i64 (L.length : Nat)), .val (.int .i64 i)]
theorem Tryz.eQy : EnvOk2 Tryz.prog Tryz.EQy := Tryz.envOk false (sumsOf []) _ (fun g A h => by cases h)
theorem Tryz.rQy (L M : List SymD) (i : Int) : codeS Tryz.EQy (callF Tryz.EQy 5) (Tryz.EQy.keep 30) (lsumsOf []) Tryz.bQy (outK [0, 1, 12, 13] [4]) (stOf 26 [0, 1, 12, 13] (Tryz.VQy L M i) ⟨0, []⟩) = eqRound SY ceqSy 26 [0, 1, 12, 13] (Tryz.VQy L M) L M i := by kernel_rfl
theorem Tryz.wQy (L M : List SymD) : rootS Tryz.EQy 5 30 (lsumsOf [(4, eqL SY ceqSy 26 [0, 1, 12, 13] (Tryz.VQy L M) L M)]) [.ro (SY.con L) none, .ro (SY.con M) none] = eqRun SY ceqSy 26 [0, 1, 12, 13] (Tryz.VQy L M) L M := by kernel_rfl
theorem Tryz.sumQy : SumC Tryz.prog 30 (eqqA SY ceqSy) := eq_sum Tryz.eQy (d := 5) (lid := 4) (c := Tryz.bQy) ⟨Tryz.f30, _, Tryz.fnOk30.1, Tryz.fnOk30.2, rfl⟩ (by kernel_rfl) (by kernel_rfl) (by kernel_rfl) Tryz.VQy Tryz.rQy Tryz.wQy
def Tryz.EQs : Env := Tryz.env0 false (sumsOf []) (keepF 72 [(4, [0, 1, 5])])
def Tryz.bQs : Code := nthD .skip (loopsOf (bodyOf Tryz.EQs 72)) 0
def Tryz.VQs (L M : List LinD) (i : Int) : List AV := [.ro (LI.con L) none, .ro (LI.con M) none, .val (.int .i64 i)]
theorem Tryz.eQs : EnvOk2 Tryz.prog Tryz.EQs := Tryz.envOk false (sumsOf []) _ (fun g A h => by cases h)
theorem Tryz.rQs (L M : List LinD) (i : Int) : codeS Tryz.EQs (callF Tryz.EQs 5) (Tryz.EQs.keep 72) (lsumsOf []) Tryz.bQs (outK [0, 1, 5] [4]) (stOf 26 [0, 1, 5] (Tryz.VQs L M i) ⟨0, []⟩) = eqRound LI ceqLi 26 [0, 1, 5] (Tryz.VQs L M) L M i := by kernel_rfl
theorem Tryz.wQs (L M : List LinD) : rootS Tryz.EQs 5 72 (lsumsOf [(4, eqL LI ceqLi 26 [0, 1, 5] (Tryz.VQs L M) L M)]) [.ro (LI.con L) none, .ro (LI.con M) none] = eqRun LI ceqLi 26 [0, 1, 5] (Tryz.VQs L M) L M := by kernel_rfl
theorem Tryz.sumQs : SumC Tryz.prog 72 (eqqA LI ceqLi) := eq_sum Tryz.eQs (d := 5) (lid := 4) (c := Tryz.bQs) ⟨Tryz.f72, _, Tryz.fnOk72.1, Tryz.fnOk72.2, rfl⟩ (by kernel_rfl) (by kernel_rfl) (by kernel_rfl) Tryz.VQs Tryz.rQs Tryz.wQs
end Go.Ev
/- Equal objects. -/
namespace Go.Ev
open Go.Proofs
theorem by_ok (l : List Int) : BY.ok (.ints .u8 l) = true := by
  unfold RowTy.ok RowTy.all
  rw [show (Nat.beq (Con.wd (.ints .u8 l)) BY.wd) = true from rfl, Bool.true_and]
  exact @decide_eq_true _ (Classical.propDecidable _) (fun i _ => rfl)
theorem by_list (l : List Int) : BY.list (.ints .u8 l) = l := by
  unfold RowTy.list
  refine List.ext_getElem (by simp [Con.len]) (fun i h1 h2 => ?_)
  rw [List.getElem_map, List.getElem_range]
  show l.getD i 0 = l[i]
  rw [List.getD_eq_getElem?_getD, List.getElem?_eq_getElem h2]; rfl
theorem str_eq (a b : ByteArray) : (a.toList == b.toList) = propB (a = b) := by
  rw [← bytes_beq]
  by_cases h : a = b
  · rw [propB_t h, ba_iff]; exact h
  · rw [propB_f h, ← Bool.not_eq_true, ba_iff]; exact h
theorem int_eq (a b : Int) : (a == b) = propB (a = b) := by
  by_cases h : a = b
  · rw [propB_t h, beq_iff_eq]; exact h
  · rw [propB_f h, beq_eq_false_iff_ne]; exact h
theorem propB_and (p q : Prop) : propB (p ∧ q) = (propB p && propB q) := by
  by_cases h1 : p <;> by_cases h2 : q
  · rw [propB_t h1, propB_t h2, propB_t ⟨h1, h2⟩]; rfl
  · rw [propB_t h1, propB_f h2, propB_f (fun h => h2 h.2)]; rfl
  · rw [propB_f h1, propB_f (fun h => h1 h.1)]; rfl
  · rw [propB_f h1, propB_f (fun h => h1 h.1)]; rfl
theorem propB_iff {p q : Prop} (h : p ↔ q) : propB p = propB q := by rw [propext h]
theorem bool_eq {b : Bool} {p : Prop} (h : b = true ↔ p) : b = propB p := by
  by_cases hp : p
  · rw [propB_t hp]; exact h.2 hp
  · rw [propB_f hp, ← Bool.not_eq_true]; exact fun q => hp (h.1 q)
theorem sec_ext (x y : SecD) : (x = y) ↔ (x.1 = y.1 ∧ x.2.1 = y.2.1 ∧ x.2.2.1 = y.2.2.1 ∧ x.2.2.2.2 = y.2.2.2.2 ∧ x.2.2.2.1 = y.2.2.2.1) := by
  obtain ⟨a, b, c, d, e⟩ := x
  obtain ⟨a', b', c', d', e'⟩ := y
  simp only [Prod.mk.injEq]
  constructor
  · rintro ⟨h1, h2, h3, h4, h5⟩; exact ⟨h1, h2, h3, h5, h4⟩
  · rintro ⟨h1, h2, h3, h5, h4⟩; exact ⟨h1, h2, h3, h4, h5⟩
theorem list_same {D : Type} {L M : List D} (z : D) (h : L.length = M.length) : allOk L.length (fun k => propB (L.getD k z = M.getD k z)) = propB (L = M) := by
  refine bool_eq ?_
  rw [allOk_iff]
  constructor
  · intro q
    refine List.ext_getElem h (fun i h1 h2 => ?_)
    have := propB_eq (q i h1)
    rwa [List.getD_eq_getElem?_getD, List.getD_eq_getElem?_getD, List.getElem?_eq_getElem h1, List.getElem?_eq_getElem h2] at this
  · rintro rfl i _; exact propB_t rfl
def seLen (L : List SecD) : Prop := L.length ≤ 1000000 ∧ ∀ e ∈ L, e.2.2.2.1.length ≤ 1000000
end Go.Ev
/- Equal objects, as the program and as the specification compare them. -/
namespace Go.Ev
open Go.Proofs
def sameP (a b : OD) : Prop := a.se = b.se ∧ a.sy = b.sy ∧ a.re = b.re ∧ a.fi = b.fi ∧ a.li = b.li
def smlP (a : OD) : Prop := seLen a.se ∧ a.sy.length ≤ 1000000 ∧ a.re.length ≤ 1000000 ∧ a.fi.length ≤ 1000000 ∧ a.li.length ≤ 1000000
theorem ceqSy_iff (x y : SymD) : ceqSy x y = true ↔ x = y := by
  obtain ⟨a, b, c, d, e, f⟩ := x
  obtain ⟨a', b', c', d', e', f'⟩ := y
  simp only [ceqSy, Bool.and_eq_true, ba_iff, beq_iff_eq, Prod.mk.injEq, and_true]
theorem ceqRe_iff (x y : RelD) : ceqRe x y = true ↔ x = y := by
  obtain ⟨a, b, c, d, e⟩ := x
  obtain ⟨a', b', c', d', e'⟩ := y
  simp [ceqRe]
theorem ceqLi_iff (x y : LinD) : ceqLi x y = true ↔ x = y := by
  obtain ⟨a, b, c, d⟩ := x
  obtain ⟨a', b', c', d'⟩ := y
  simp [ceqLi]
def Tryz.tRs : List (Nat × AFun) := [(72, eqqA LI ceqLi)]
def Tryz.ERs : Env := Tryz.env0 false (sumsOf Tryz.tRs) (keepF 18 [(4, [2, 3, 5]), (11, [2, 3, 8]), (16, [2, 3, 9]), (21, [2, 3, 10])])
def Tryz.bRs (n : Nat) : Code := nthD .skip (loopsOf (bodyOf Tryz.ERs 18)) n
def Tryz.BRs (n j : Nat) (s : St) : Option (AX × St) := codeS Tryz.ERs (callF Tryz.ERs 6) (Tryz.ERs.keep 18) (lsumsOf []) (Tryz.bRs n) (outK [2, 3, j] [2, 3, 4]) s
def hOO (a b : OD) : Heap := ⟨2, [⟨1, 0, .cells (.rows true 5 [b.row])⟩, ⟨0, 0, .cells (.rows true 5 [a.row])⟩]⟩
def sRs (a b : OD) (j k : Nat) : St := stOf 158 [2, 3, j] [.ptr 0 0 0, .ptr 1 0 0, .val (.int .i64 k)] (hOO a b)
def xRs (a b : OD) : St := stOf 158 [2, 3] [.ptr 0 0 0, .ptr 1 0 0] (hOO a b)
def yRs (a b : OD) : St := stOf 158 [2, 3, 4] [.ptr 0 0 0, .ptr 1 0 0, .val (.bool false)] (hOO a b)
theorem Tryz.rRs1 (a b : OD) (k : Nat) : Tryz.BRs 0 5 (sRs a b 5 k) =
 bif decide ((↑k : Int) < (↑a.se.length : Int)) then
 bif inR (↑k : Int) a.se.length then
 bif inR (↑k : Int) b.se.length then
 bif !(a.se.getD k SE.z).fst.toList == (b.se.getD k SE.z).fst.toList then
 some (.ret, stOf 158 [2, 3, 4] [.ptr 0 0 0, .ptr 1 0 0, .val (.bool false)] ⟨2, [⟨1, 0, .cells (.rows true 5 (b.row :: []))⟩, ⟨0, 0, .cells (.rows true 5 (a.row :: []))⟩]⟩ )
 else
 bif (a.se.getD k SE.z).snd.fst != (b.se.getD k SE.z).snd.fst then
 some (.ret, stOf 158 [2, 3, 4] [.ptr 0 0 0, .ptr 1 0 0, .val (.bool false)] ⟨2, [⟨1, 0, .cells (.rows true 5 (b.row :: []))⟩, ⟨0, 0, .cells (.rows true 5 (a.row :: []))⟩]⟩ )
 else
 bif (a.se.getD k SE.z).snd.snd.fst != (b.se.getD k SE.z).snd.snd.fst then
 some (.ret, stOf 158 [2, 3, 4] [.ptr 0 0 0, .ptr 1 0 0, .val (.bool false)] ⟨2, [⟨1, 0, .cells (.rows true 5 (b.row :: []))⟩, ⟨0, 0, .cells (.rows true 5 (a.row :: []))⟩]⟩ )
 else
 bif (a.se.getD k SE.z).snd.snd.snd.snd != (b.se.getD k SE.z).snd.snd.snd.snd then
 some (.ret, stOf 158 [2, 3, 4] [.ptr 0 0 0, .ptr 1 0 0, .val (.bool false)] ⟨2, [⟨1, 0, .cells (.rows true 5 (b.row :: []))⟩, ⟨0, 0, .cells (.rows true 5 (a.row :: []))⟩]⟩ )
 else
 bif (strOf (a.se.getD k SE.z).snd.snd.snd.fst).toList == (strOf (b.se.getD k SE.z).snd.snd.snd.fst).toList then
 some (.normal, stOf 158 [2, 3, 5] [.ptr 0 0 0, .ptr 1 0 0, .val (.int .i64 (IntKind.i64.wrap ((↑k : Int) + 1)))] ⟨2, [⟨1, 0, .cells (.rows true 5 (b.row :: []))⟩, ⟨0, 0, .cells (.rows true 5 (a.row :: []))⟩]⟩ )
 else
 some (.ret, stOf 158 [2, 3, 4] [.ptr 0 0 0, .ptr 1 0 0, .val (.bool false)] ⟨2, [⟨1, 0, .cells (.rows true 5 (b.row :: []))⟩, ⟨0, 0, .cells (.rows true 5 (a.row :: []))⟩]⟩ )
 else
 none
 else
 none
 else
 some (.exit 0, stOf 158 [2, 3] [.ptr 0 0 0, .ptr 1 0 0] ⟨2, [⟨1, 0, .cells (.rows true 5 (b.row :: []))⟩, ⟨0, 0, .cells (.rows true 5 (a.row :: []))⟩]⟩ ) := by kernel_rfl
theorem Tryz.rRs2 (a b : OD) (k : Nat) : Tryz.BRs 1 8 (sRs a b 8 k) =
 bif decide ((↑k : Int) < (↑a.sy.length : Int)) then
 bif inR (↑k : Int) a.sy.length then
 bif inR (↑k : Int) b.sy.length then
 bif !((a.sy.getD k SY.z).fst == (b.sy.getD k SY.z).fst && ((a.sy.getD k SY.z).snd.fst == (b.sy.getD k SY.z).snd.fst && ((a.sy.getD k SY.z).snd.snd.fst == (b.sy.getD k SY.z).snd.snd.fst && ((a.sy.getD k SY.z).snd.snd.snd.fst == (b.sy.getD k SY.z).snd.snd.snd.fst && ((a.sy.getD k SY.z).snd.snd.snd.snd.fst == (b.sy.getD k SY.z).snd.snd.snd.snd.fst && ((a.sy.getD k SY.z).snd.snd.snd.snd.snd == (b.sy.getD k SY.z).snd.snd.snd.snd.snd && true)))))) then
 some (.ret, stOf 158 [2, 3, 4] [.ptr 0 0 0, .ptr 1 0 0, .val (.bool false)] ⟨2, [⟨1, 0, .cells (.rows true 5 (b.row :: []))⟩, ⟨0, 0, .cells (.rows true 5 (a.row :: []))⟩]⟩ )
 else
 some (.normal, stOf 158 [2, 3, 8] [.ptr 0 0 0, .ptr 1 0 0, .val (.int .i64 (IntKind.i64.wrap ((↑k : Int) + 1)))] ⟨2, [⟨1, 0, .cells (.rows true 5 (b.row :: []))⟩, ⟨0, 0, .cells (.rows true 5 (a.row :: []))⟩]⟩ )
 else
 none
 else
 none
 else
 some (.exit 2, stOf 158 [2, 3] [.ptr 0 0 0, .ptr 1 0 0] ⟨2, [⟨1, 0, .cells (.rows true 5 (b.row :: []))⟩, ⟨0, 0, .cells (.rows true 5 (a.row :: []))⟩]⟩ ) := by kernel_rfl
theorem Tryz.rRs3 (a b : OD) (k : Nat) : Tryz.BRs 2 9 (sRs a b 9 k) =
 bif decide ((↑k : Int) < (↑a.re.length : Int)) then
 bif inR (↑k : Int) a.re.length then
 bif inR (↑k : Int) b.re.length then
 bif !((a.re.getD k RE.z).fst == (b.re.getD k RE.z).fst && ((a.re.getD k RE.z).snd.fst == (b.re.getD k RE.z).snd.fst && ((a.re.getD k RE.z).snd.snd.fst == (b.re.getD k RE.z).snd.snd.fst && ((a.re.getD k RE.z).snd.snd.snd.fst == (b.re.getD k RE.z).snd.snd.snd.fst && ((a.re.getD k RE.z).snd.snd.snd.snd == (b.re.getD k RE.z).snd.snd.snd.snd && true))))) then
 some (.ret, stOf 158 [2, 3, 4] [.ptr 0 0 0, .ptr 1 0 0, .val (.bool false)] ⟨2, [⟨1, 0, .cells (.rows true 5 (b.row :: []))⟩, ⟨0, 0, .cells (.rows true 5 (a.row :: []))⟩]⟩ )
 else
 some (.normal, stOf 158 [2, 3, 9] [.ptr 0 0 0, .ptr 1 0 0, .val (.int .i64 (IntKind.i64.wrap ((↑k : Int) + 1)))] ⟨2, [⟨1, 0, .cells (.rows true 5 (b.row :: []))⟩, ⟨0, 0, .cells (.rows true 5 (a.row :: []))⟩]⟩ )
 else
 none
 else
 none
 else
 some (.exit 4, stOf 158 [2, 3] [.ptr 0 0 0, .ptr 1 0 0] ⟨2, [⟨1, 0, .cells (.rows true 5 (b.row :: []))⟩, ⟨0, 0, .cells (.rows true 5 (a.row :: []))⟩]⟩ ) := by kernel_rfl
theorem Tryz.rRs4 (a b : OD) (k : Nat) : Tryz.BRs 3 10 (sRs a b 10 k) =
 bif decide ((↑k : Int) < (↑a.fi.length : Int)) then
 bif inR (↑k : Int) a.fi.length then
 bif inR (↑k : Int) b.fi.length then
 bif !(a.fi.getD k FI.z).toList == (b.fi.getD k FI.z).toList then
 some (.ret, stOf 158 [2, 3, 4] [.ptr 0 0 0, .ptr 1 0 0, .val (.bool false)] ⟨2, [⟨1, 0, .cells (.rows true 5 (b.row :: []))⟩, ⟨0, 0, .cells (.rows true 5 (a.row :: []))⟩]⟩ )
 else
 some (.normal, stOf 158 [2, 3, 10] [.ptr 0 0 0, .ptr 1 0 0, .val (.int .i64 (IntKind.i64.wrap ((↑k : Int) + 1)))] ⟨2, [⟨1, 0, .cells (.rows true 5 (b.row :: []))⟩, ⟨0, 0, .cells (.rows true 5 (a.row :: []))⟩]⟩ )
 else
 none
 else
 none
 else
 some (.exit 6, stOf 158 [2, 3] [.ptr 0 0 0, .ptr 1 0 0] ⟨2, [⟨1, 0, .cells (.rows true 5 (b.row :: []))⟩, ⟨0, 0, .cells (.rows true 5 (a.row :: []))⟩]⟩ ) := by kernel_rfl
end Go.Ev
/- Equal objects, as the specification compares them: the summary. -/
namespace Go.Ev
open Go.Proofs
theorem Tryz.eRs : EnvOk2 Tryz.prog Tryz.ERs := Tryz.envOk false (sumsOf Tryz.tRs) _ (sumsOf_ok (show AllS Tryz.prog Tryz.tRs from ⟨Tryz.sumQs, trivial⟩))
theorem sRs_ok (a b : OD) (j k : Nat) : (sRs a b j k).h.ok := heap_ok [1, 0] rfl (by decide) (by decide)
theorem xRs_ok (a b : OD) : (xRs a b).h.ok := heap_ok [1, 0] rfl (by decide) (by decide)
theorem yRs_ok (a b : OD) : (yRs a b).h.ok := heap_ok [1, 0] rfl (by decide) (by decide)
def LRs {D : Type} (R : RowTy D) (a b : OD) (L M : List D) (j e : Nat) : LSum := atL (sRs a b j 0) (.grd (decide (L.length = M.length) && Nat.ble L.length 1000000) (.br (allOk L.length (fun k => propB (L.getD k R.z = M.getD k R.z))) (.out (.exit e, xRs a b)) (.out (.ret, yRs a b))))
def byteL (l : List Int) : Prop := ∀ n ∈ l, 0 ≤ n ∧ n < 256
def byteP (a : OD) : Prop := ∀ e ∈ a.se, byteL e.2.2.2.1
theorem strOf_injP {l m : List Int} (hl : byteL l) (hm : byteL m) (h : strOf l = strOf m) : l = m := by
  unfold strOf at h
  have h1 : (l.map fun n => UInt8.ofNat n.toNat) = (m.map fun n => UInt8.ofNat n.toNat) := by
    have := congrArg (fun b : ByteArray => b.data.toList) h
    simpa using this
  have hlen : l.length = m.length := by
    have := congrArg List.length h1
    simpa using this
  refine List.ext_getElem hlen (fun i h2 h3 => ?_)
  have h4 : (l.map fun n => UInt8.ofNat n.toNat)[i]'(by simpa using h2) = (m.map fun n => UInt8.ofNat n.toNat)[i]'(by simpa using h3) := by simp only [h1]
  rw [List.getElem_map, List.getElem_map] at h4
  have h5 := congrArg UInt8.toNat h4
  rw [UInt8.toNat_ofNat', UInt8.toNat_ofNat'] at h5
  have b1 := hl _ (List.getElem_mem h2)
  have b2 := hm _ (List.getElem_mem h3)
  omega
theorem strOf_eqP {l m : List Int} (hl : byteL l) (hm : byteL m) : ((strOf l).toList == (strOf m).toList) = propB (l = m) := by
  rw [str_eq]
  exact propB_iff ⟨strOf_injP hl hm, fun h => by rw [h]⟩
theorem Tryz.lRs {D : Type} (R : RowTy D) (a b : OD) (L M : List D) (j e n : Nat) (hin : loopsOf (Tryz.bRs n) = [])
    (hr : ∀ k, L.length = M.length → L.length ≤ 1000000 → k ≤ L.length → Tryz.BRs n j (sRs a b j k) = bif decide (k < L.length) then (bif propB (L.getD k R.z = M.getD k R.z) then some (.normal, sRs a b j (k + 1)) else some (.ret, yRs a b)) else some (.exit e, xRs a b)) :
    ∀ s e' s', s.h.ok → (LRs R a b L M j e s).run = some (e', s') → Triple Tryz.prog (.loop (Tryz.bRs n)) s e' s' := by
  refine atL_grd (fun hp => ?_)
  rw [Bool.and_eq_true, decide_eq_true_eq, Nat.ble_eq] at hp
  exact all_law Tryz.eRs (d := 6) (g := 18) (ls := lsumsOf []) (c := Tryz.bRs n) (by rw [hin]; trivial) [2, 3, j] [2, 3, 4] e (sRs a b j) _ _ _ _ L.length (sRs_ok a b j) (xRs_ok a b) (yRs_ok a b) (Weak.refl (sRs_ok a b j 0)) (fun k hk _ => hr k hp.1 hp.2 hk)
theorem Tryz.l1Rs (a b : OD) (ha : byteP a) (hb : byteP b) : ∀ s e' s', s.h.ok → (LRs SE a b a.se b.se 5 0 s).run = some (e', s') → Triple Tryz.prog (.loop (Tryz.bRs 0)) s e' s' := by
  refine Tryz.lRs SE a b a.se b.se 5 0 0 (by kernel_rfl) (fun k h1 h2 hk => ?_)
  have key := Tryz.rRs1 a b k
  rw [declt_nat, inR_nat, inR_nat, wrapS k (by omega)] at key
  refine key.trans ?_
  by_cases h : k < a.se.length
  · rw [decide_eq_true h, decide_eq_true (show k < b.se.length by omega)]
    simp only [cond_true]
    rw [propB_iff (sec_ext _ _), propB_and, propB_and, propB_and, propB_and, bne, bne, bne, str_eq, int_eq, int_eq, int_eq, strOf_eqP (ha _ (getD_mem h)) (hb _ (getD_mem (show k < b.se.length by omega)))]
    generalize a.se.getD k SE.z = x
    generalize b.se.getD k SE.z = y
    cases propB (x.1 = y.1) <;> cases propB (x.2.1 = y.2.1) <;> cases propB (x.2.2.1 = y.2.2.1) <;> cases propB (x.2.2.2.2 = y.2.2.2.2) <;> cases propB (x.2.2.2.1 = y.2.2.2.1) <;> rfl
  · rw [decide_eq_false h]; rfl
theorem Tryz.l2Rs (a b : OD) : ∀ s e' s', s.h.ok → (LRs SY a b a.sy b.sy 8 2 s).run = some (e', s') → Triple Tryz.prog (.loop (Tryz.bRs 1)) s e' s' := by
  refine Tryz.lRs SY a b a.sy b.sy 8 2 1 (by kernel_rfl) (fun k h1 h2 hk => ?_)
  have key := Tryz.rRs2 a b k
  rw [declt_nat, inR_nat, inR_nat, wrapS k (by omega)] at key
  refine key.trans ?_
  by_cases h : k < a.sy.length
  · rw [decide_eq_true h, decide_eq_true (show k < b.sy.length by omega)]
    simp only [cond_true]
    rw [← bool_eq (ceqSy_iff (a.sy.getD k SY.z) (b.sy.getD k SY.z))]
    show (bif !(ceqSy (a.sy.getD k SY.z) (b.sy.getD k SY.z)) then _ else _) = _
    cases ceqSy (a.sy.getD k SY.z) (b.sy.getD k SY.z) <;> rfl
  · rw [decide_eq_false h]; rfl
theorem Tryz.l3Rs (a b : OD) : ∀ s e' s', s.h.ok → (LRs RE a b a.re b.re 9 4 s).run = some (e', s') → Triple Tryz.prog (.loop (Tryz.bRs 2)) s e' s' := by
  refine Tryz.lRs RE a b a.re b.re 9 4 2 (by kernel_rfl) (fun k h1 h2 hk => ?_)
  have key := Tryz.rRs3 a b k
  rw [declt_nat, inR_nat, inR_nat, wrapS k (by omega)] at key
  refine key.trans ?_
  by_cases h : k < a.re.length
  · rw [decide_eq_true h, decide_eq_true (show k < b.re.length by omega)]
    simp only [cond_true]
    rw [← bool_eq (ceqRe_iff (a.re.getD k RE.z) (b.re.getD k RE.z))]
    show (bif !(ceqRe (a.re.getD k RE.z) (b.re.getD k RE.z)) then _ else _) = _
    cases ceqRe (a.re.getD k RE.z) (b.re.getD k RE.z) <;> rfl
  · rw [decide_eq_false h]; rfl
theorem Tryz.l4Rs (a b : OD) : ∀ s e' s', s.h.ok → (LRs FI a b a.fi b.fi 10 6 s).run = some (e', s') → Triple Tryz.prog (.loop (Tryz.bRs 3)) s e' s' := by
  refine Tryz.lRs FI a b a.fi b.fi 10 6 3 (by kernel_rfl) (fun k h1 h2 hk => ?_)
  have key := Tryz.rRs4 a b k
  rw [declt_nat, inR_nat, inR_nat, wrapS k (by omega)] at key
  refine key.trans ?_
  by_cases h : k < a.fi.length
  · rw [decide_eq_true h, decide_eq_true (show k < b.fi.length by omega), str_eq]
    simp only [cond_true]
    cases propB (a.fi.getD k FI.z = b.fi.getD k FI.z) <;> rfl
  · rw [decide_eq_false h]; rfl
def Tryz.lsRs (a b : OD) : Nat → Option LSum := lsumsOf [(4, LRs SE a b a.se b.se 5 0), (11, LRs SY a b a.sy b.sy 8 2), (16, LRs RE a b a.re b.re 9 4), (21, LRs FI a b a.fi b.fi 10 6)]
def rsaS (args : List AV) : Ans (AV × Heap) := match args with
  | [a, b] => .grd ((odIs a && odIs b) && propB (smlP (odP a) ∧ byteP (odP a) ∧ byteP (odP b))) (.out (.val (.bool (propB (sameP (odP a) (odP b)))), ⟨0, []⟩))
  | _ => .no
theorem Tryz.wRs (a b : OD) : rootS Tryz.ERs 6 18 (Tryz.lsRs a b) [a.av, b.av] =
 bif (↑a.se.length : Int) != (↑b.se.length : Int) then
 some (.val (.bool false), ⟨0, []⟩)
 else
 bif (↑a.sy.length : Int) != (↑b.sy.length : Int) then
 some (.val (.bool false), ⟨0, []⟩)
 else
 bif (↑a.re.length : Int) != (↑b.re.length : Int) then
 some (.val (.bool false), ⟨0, []⟩)
 else
 bif (↑a.fi.length : Int) != (↑b.fi.length : Int) then
 some (.val (.bool false), ⟨0, []⟩)
 else
 bif LI.ok (LI.con a.li) && (LI.ok (LI.con b.li) && (LI.list (LI.con a.li)).length.ble 1000000) then
 bif eqD LI ceqLi (LI.list (LI.con a.li)) (LI.list (LI.con b.li)) then
 bif isSt (sRs a b 5 0) (sRs a b 5 0) then
 bif decide (a.se.length = b.se.length) && a.se.length.ble 1000000 then
 bif allOk a.se.length fun k => propB (a.se.getD k SE.z = b.se.getD k SE.z) then
 bif isSt (sRs a b 8 0) (sRs a b 8 0) then
 bif decide (a.sy.length = b.sy.length) && a.sy.length.ble 1000000 then
 bif allOk a.sy.length fun k => propB (a.sy.getD k SY.z = b.sy.getD k SY.z) then
 bif isSt (sRs a b 9 0) (sRs a b 9 0) then
 bif decide (a.re.length = b.re.length) && a.re.length.ble 1000000 then
 bif allOk a.re.length fun k => propB (a.re.getD k RE.z = b.re.getD k RE.z) then
 bif isSt (sRs a b 10 0) (sRs a b 10 0) then
 bif decide (a.fi.length = b.fi.length) && a.fi.length.ble 1000000 then
 bif allOk a.fi.length fun k => propB (a.fi.getD k FI.z = b.fi.getD k FI.z) then
 some (.val (.bool true), ⟨0, []⟩)
 else
 some (.val (.bool false), ⟨0, []⟩)
 else
 none
 else
 none
 else
 some (.val (.bool false), ⟨0, []⟩)
 else
 none
 else
 none
 else
 some (.val (.bool false), ⟨0, []⟩)
 else
 none
 else
 none
 else
 some (.val (.bool false), ⟨0, []⟩)
 else
 none
 else
 none
 else
 some (.val (.bool false), ⟨0, []⟩)
 else
 none := by kernel_rfl
theorem AllL.of4 {α : Type} {Q : α → Prop} {l : List α} {a b c d : α} (h : l = [a, b, c, d]) (h1 : Q a) (h2 : Q b) (h3 : Q c) (h4 : Q d) : AllL Q l := by rw [h]; exact ⟨h1, h2, h3, h4, trivial⟩
theorem len_ne (n m : Nat) : ((n : Int) != (m : Int)) = !(decide (n = m)) := by
  by_cases h : n = m
  · rw [decide_eq_true h, h]; simp
  · rw [decide_eq_false h, Bool.not_false, bne_iff_ne]; omega
theorem propB_len {D : Type} {L M : List D} (h : ¬ L.length = M.length) : propB (L = M) = false := propB_f (fun q => h (congrArg List.length q))
theorem Tryz.sumRs : SumC Tryz.prog 18 (pureA rsaS) := by
  refine pureSumR 18 ⟨Tryz.f18, _, Tryz.fnOk18.1, Tryz.fnOk18.2, rfl⟩ ?_
  intro args v h2 hs
  unfold rsaS at hs
  split at hs
  · rename_i va vb
    rw [Ans.run_grd] at hs
    cases hb : ((odIs va && odIs vb) && propB (smlP (odP va) ∧ byteP (odP va) ∧ byteP (odP vb))) with
    | false => rw [hb] at hs; cases hs
    | true =>
    rw [hb, cond_true] at hs
    simp only [Bool.and_eq_true] at hb
    obtain ⟨⟨i1, i2, i3, i4, i5⟩, b1, b2⟩ := propB_eq hb.2
    injection hs with hs
    injection hs with q1 q2
    subst q1; subst q2
    refine Alone.argsW (AWs.args (.cons (od_aw hb.1.1) (.cons (od_aw hb.1.2) .nil))) ?_
    generalize odP va = a at i1 i2 i3 i4 i5 b1 ⊢
    generalize odP vb = b at b2 ⊢
    refine rootS_alone Tryz.eRs (d := 6) (g := 18) (ls := Tryz.lsRs a b) (AllL.of4 (a := Tryz.bRs 0) (b := Tryz.bRs 1) (c := Tryz.bRs 2) (d := Tryz.bRs 3) (by kernel_rfl) (LsOk.of rfl rfl (Tryz.l1Rs a b b1 b2)) (LsOk.of rfl rfl (Tryz.l2Rs a b)) (LsOk.of rfl rfl (Tryz.l3Rs a b)) (LsOk.of rfl rfl (Tryz.l4Rs a b))) ((Tryz.wRs a b).trans ?_)
    have l4 : ∀ L : List LinD, LI.list (LI.con L) = L := fun L => LI.list_con _
    rw [isSt_refl, isSt_refl, isSt_refl, isSt_refl, l4, l4, LI.ok_con, LI.ok_con, ble_t i5, ble_t i1.1, ble_t i2, ble_t i3, ble_t i4, len_ne, len_ne, len_ne, len_ne, bool_eq (eqD_iff ceqLi_iff _ _)]
    unfold sameP
    rw [propB_and, propB_and, propB_and, propB_and]
    by_cases n1 : a.se.length = b.se.length
    rotate_left
    · rw [propB_len n1, decide_eq_false n1]; rfl
    rw [list_same SE.z n1, decide_eq_true n1]
    by_cases n2 : a.sy.length = b.sy.length
    rotate_left
    · rw [propB_len n2, decide_eq_false n2]; cases propB (a.se = b.se) <;> rfl
    rw [list_same SY.z n2, decide_eq_true n2]
    by_cases n3 : a.re.length = b.re.length
    rotate_left
    · rw [propB_len n3, decide_eq_false n3]; cases propB (a.se = b.se) <;> cases propB (a.sy = b.sy) <;> rfl
    rw [list_same RE.z n3, decide_eq_true n3]
    by_cases n4 : a.fi.length = b.fi.length
    rotate_left
    · rw [propB_len n4, decide_eq_false n4]; cases propB (a.se = b.se) <;> cases propB (a.sy = b.sy) <;> cases propB (a.re = b.re) <;> rfl
    rw [list_same FI.z n4, decide_eq_true n4]
    cases propB (a.se = b.se) <;> cases propB (a.sy = b.sy) <;> cases propB (a.re = b.re) <;> cases propB (a.fi = b.fi) <;> cases propB (a.li = b.li) <;> rfl
  · cases hs
end Go.Ev
/- Small objects. -/
namespace Go.Ev
open Go.Proofs
def addW (a b : Int) : Int := IntKind.i64.wrap (a + b)
def tot1 (L : List SecD) (u : Int) : Nat → Int := Nat.rec u (fun k u => addW u (addW ((L.getD k SE.z).1.size : Int) ((L.getD k SE.z).2.2.2.1.length : Int)))
def tot2 (L : List SymD) (u : Int) : Nat → Int := Nat.rec u (fun k u => addW u ((L.getD k SY.z).1.size : Int))
def tot3 (L : List ByteArray) (u : Int) : Nat → Int := Nat.rec u (fun k u => addW u ((L.getD k FI.z).size : Int))
def Tryz.ESl : Env := Tryz.env0 false (sumsOf []) (keepF 10 [(3, [1, 3, 11, 12, 13]), (8, [1, 3, 28, 29, 30]), (13, [1, 3, 41, 42, 43])])
def Tryz.bSl1 : Code := nthD .skip (loopsOf (bodyOf Tryz.ESl 10)) 0
def Tryz.bSl2 : Code := nthD .skip (loopsOf (bodyOf Tryz.ESl 10)) 1
def Tryz.bSl3 : Code := nthD .skip (loopsOf (bodyOf Tryz.ESl 10)) 2
def Tryz.BSl (b : Code) (ks : List Nat) (s : St) : Option (AX × St) := codeS Tryz.ESl (callF Tryz.ESl 4) (Tryz.ESl.keep 10) (lsumsOf []) b (outK ks [1, 3]) s
def Vsl {D : Type} (R : RowTy D) (tot : List D → Int → Nat → Int) (x : OD × List D × Int) (k : Nat) : List AV := [.ptr 0 0 0, .val (.int .i64 (tot x.2.1 x.2.2 k)), .ro (R.con x.2.1) none, .val (.int .i64 x.2.1.length), .val (.int .i64 k)]
def fSl {D : Type} (R : RowTy D) (tot : List D → Int → Nat → Int) (b : Nat) (vs : List AV) (h : Heap) : Ans (AX × List AV × Heap) := match vs, h with
  | [.ptr 0 0 0, .val (.int .i64 u), .ro c _, .val (.int .i64 n), .val (.int .i64 (.ofNat 0))], ⟨1, [⟨0, 0, .cells (.rows true 5 [r])⟩]⟩ =>
    .grd ((odIs (.agg r) && R.ok c) && (n == (c.len : Int) && Nat.ble c.len 140737488355328)) (.out (.exit b, [.ptr 0 0 0, .val (.int .i64 (tot (R.list c) u c.len))], hO (odP (.agg r))))
  | _, _ => .no
def LSl1 : LSum := toLSum 84 [1, 3, 11, 12, 13] [1, 3] (fSl SE tot1 0)
def LSl2 : LSum := toLSum 84 [1, 3, 28, 29, 30] [1, 3] (fSl SY tot2 2)
def LSl3 : LSum := toLSum 84 [1, 3, 41, 42, 43] [1, 3] (fSl FI tot3 4)
theorem Tryz.rSl1 (x : OD × List SecD × Int) (k : Nat) : Tryz.BSl Tryz.bSl1 [1, 3, 11, 12, 13] (stOf 84 [1, 3, 11, 12, 13] (Vsl SE tot1 x k) (hO x.1)) =
 bif decide ((↑k : Int) < (↑x.snd.fst.length : Int)) then
 bif inR (↑k : Int) x.snd.fst.length then
 some (.normal, stOf 84 [1, 3, 11, 12, 13] [.ptr 0 0 0, .val (.int .i64 (IntKind.i64.wrap (tot1 x.snd.fst x.snd.snd k + IntKind.i64.wrap ((↑(x.snd.fst.getD k SE.z).fst.size : Int) + (↑(x.snd.fst.getD k SE.z).snd.snd.snd.fst.length : Int))))), .ro (.tab 5 (x.snd.fst.length) (fun i => SE.row (x.snd.fst.getD i SE.z))) none, .val (.int .i64 ((↑x.snd.fst.length : Int))), .val (.int .i64 (IntKind.i64.wrap ((↑k : Int) + 1)))] ⟨1, [⟨0, 0, .cells (.rows true 5 ([.ro (.tab 5 (x.fst.se.length) (fun i => SE.row (x.fst.se.getD i SE.z))) none, .ro (.tab 6 (x.fst.sy.length) (fun i => SY.row (x.fst.sy.getD i SY.z))) none, .ro (.tab 5 (x.fst.re.length) (fun i => RE.row (x.fst.re.getD i RE.z))) none, .ro (.tab 1 (x.fst.fi.length) (fun i => FI.row (x.fst.fi.getD i FI.z))) none, .ro (.tab 4 (x.fst.li.length) (fun i => LI.row (x.fst.li.getD i LI.z))) none] :: []))⟩]⟩ )
 else
 none
 else
 some (.exit 0, stOf 84 [1, 3] [.ptr 0 0 0, .val (.int .i64 (tot1 x.snd.fst x.snd.snd k))] ⟨1, [⟨0, 0, .cells (.rows true 5 ([.ro (.tab 5 (x.fst.se.length) (fun i => SE.row (x.fst.se.getD i SE.z))) none, .ro (.tab 6 (x.fst.sy.length) (fun i => SY.row (x.fst.sy.getD i SY.z))) none, .ro (.tab 5 (x.fst.re.length) (fun i => RE.row (x.fst.re.getD i RE.z))) none, .ro (.tab 1 (x.fst.fi.length) (fun i => FI.row (x.fst.fi.getD i FI.z))) none, .ro (.tab 4 (x.fst.li.length) (fun i => LI.row (x.fst.li.getD i LI.z))) none] :: []))⟩]⟩ ) := by kernel_rfl
theorem Tryz.rSl2 (x : OD × List SymD × Int) (k : Nat) : Tryz.BSl Tryz.bSl2 [1, 3, 28, 29, 30] (stOf 84 [1, 3, 28, 29, 30] (Vsl SY tot2 x k) (hO x.1)) =
 bif decide ((↑k : Int) < (↑x.snd.fst.length : Int)) then
 bif inR (↑k : Int) x.snd.fst.length then
 some (.normal, stOf 84 [1, 3, 28, 29, 30] [.ptr 0 0 0, .val (.int .i64 (IntKind.i64.wrap (tot2 x.snd.fst x.snd.snd k + (↑(x.snd.fst.getD k SY.z).fst.size : Int)))), .ro (.tab 6 (x.snd.fst.length) (fun i => SY.row (x.snd.fst.getD i SY.z))) none, .val (.int .i64 ((↑x.snd.fst.length : Int))), .val (.int .i64 (IntKind.i64.wrap ((↑k : Int) + 1)))] ⟨1, [⟨0, 0, .cells (.rows true 5 ([.ro (.tab 5 (x.fst.se.length) (fun i => SE.row (x.fst.se.getD i SE.z))) none, .ro (.tab 6 (x.fst.sy.length) (fun i => SY.row (x.fst.sy.getD i SY.z))) none, .ro (.tab 5 (x.fst.re.length) (fun i => RE.row (x.fst.re.getD i RE.z))) none, .ro (.tab 1 (x.fst.fi.length) (fun i => FI.row (x.fst.fi.getD i FI.z))) none, .ro (.tab 4 (x.fst.li.length) (fun i => LI.row (x.fst.li.getD i LI.z))) none] :: []))⟩]⟩ )
 else
 none
 else
 some (.exit 2, stOf 84 [1, 3] [.ptr 0 0 0, .val (.int .i64 (tot2 x.snd.fst x.snd.snd k))] ⟨1, [⟨0, 0, .cells (.rows true 5 ([.ro (.tab 5 (x.fst.se.length) (fun i => SE.row (x.fst.se.getD i SE.z))) none, .ro (.tab 6 (x.fst.sy.length) (fun i => SY.row (x.fst.sy.getD i SY.z))) none, .ro (.tab 5 (x.fst.re.length) (fun i => RE.row (x.fst.re.getD i RE.z))) none, .ro (.tab 1 (x.fst.fi.length) (fun i => FI.row (x.fst.fi.getD i FI.z))) none, .ro (.tab 4 (x.fst.li.length) (fun i => LI.row (x.fst.li.getD i LI.z))) none] :: []))⟩]⟩ ) := by kernel_rfl
theorem Tryz.rSl3 (x : OD × List ByteArray × Int) (k : Nat) : Tryz.BSl Tryz.bSl3 [1, 3, 41, 42, 43] (stOf 84 [1, 3, 41, 42, 43] (Vsl FI tot3 x k) (hO x.1)) =
 bif decide ((↑k : Int) < (↑x.snd.fst.length : Int)) then
 bif inR (↑k : Int) x.snd.fst.length then
 some (.normal, stOf 84 [1, 3, 41, 42, 43] [.ptr 0 0 0, .val (.int .i64 (IntKind.i64.wrap (tot3 x.snd.fst x.snd.snd k + (↑(x.snd.fst.getD k FI.z).size : Int)))), .ro (.tab 1 (x.snd.fst.length) (fun i => FI.row (x.snd.fst.getD i FI.z))) none, .val (.int .i64 ((↑x.snd.fst.length : Int))), .val (.int .i64 (IntKind.i64.wrap ((↑k : Int) + 1)))] ⟨1, [⟨0, 0, .cells (.rows true 5 ([.ro (.tab 5 (x.fst.se.length) (fun i => SE.row (x.fst.se.getD i SE.z))) none, .ro (.tab 6 (x.fst.sy.length) (fun i => SY.row (x.fst.sy.getD i SY.z))) none, .ro (.tab 5 (x.fst.re.length) (fun i => RE.row (x.fst.re.getD i RE.z))) none, .ro (.tab 1 (x.fst.fi.length) (fun i => FI.row (x.fst.fi.getD i FI.z))) none, .ro (.tab 4 (x.fst.li.length) (fun i => LI.row (x.fst.li.getD i LI.z))) none] :: []))⟩]⟩ )
 else
 none
 else
 some (.exit 4, stOf 84 [1, 3] [.ptr 0 0 0, .val (.int .i64 (tot3 x.snd.fst x.snd.snd k))] ⟨1, [⟨0, 0, .cells (.rows true 5 ([.ro (.tab 5 (x.fst.se.length) (fun i => SE.row (x.fst.se.getD i SE.z))) none, .ro (.tab 6 (x.fst.sy.length) (fun i => SY.row (x.fst.sy.getD i SY.z))) none, .ro (.tab 5 (x.fst.re.length) (fun i => RE.row (x.fst.re.getD i RE.z))) none, .ro (.tab 1 (x.fst.fi.length) (fun i => FI.row (x.fst.fi.getD i FI.z))) none, .ro (.tab 4 (x.fst.li.length) (fun i => LI.row (x.fst.li.getD i LI.z))) none] :: []))⟩]⟩ ) := by kernel_rfl
theorem Tryz.wSl (o : OD) : rootS Tryz.ESl 4 10 (lsumsOf [(3, LSl1), (8, LSl2), (13, LSl3)]) [o.av] =
 bif odIs (AV.agg (AV.agg o.row).cells) && SE.ok (SE.con o.se) && ((↑o.se.length : Int) == (↑o.se.length : Int) && o.se.length.ble 140737488355328) then
 bif odIs (AV.agg (odP (AV.agg (AV.agg o.row).cells)).row) && SY.ok (SY.con (odP (AV.agg (AV.agg o.row).cells)).sy) && ((↑(odP (AV.agg (AV.agg o.row).cells)).sy.length : Int) == (↑(odP (AV.agg (AV.agg o.row).cells)).sy.length : Int) && (odP (AV.agg (AV.agg o.row).cells)).sy.length.ble 140737488355328) then
 bif odIs (AV.agg (odP (AV.agg (odP (AV.agg (AV.agg o.row).cells)).row)).row) && FI.ok (FI.con (odP (AV.agg (odP (AV.agg (AV.agg o.row).cells)).row)).fi) && ((↑(odP (AV.agg (odP (AV.agg (AV.agg o.row).cells)).row)).fi.length : Int) == (↑(odP (AV.agg (odP (AV.agg (AV.agg o.row).cells)).row)).fi.length : Int) && (odP (AV.agg (odP (AV.agg (AV.agg o.row).cells)).row)).fi.length.ble 140737488355328) then
 bif decide ((↑(odP (AV.agg (odP (AV.agg (odP (AV.agg (AV.agg o.row).cells)).row)).row)).se.length : Int) ≤ 20) then
 bif decide ((↑(odP (AV.agg (odP (AV.agg (odP (AV.agg (AV.agg o.row).cells)).row)).row)).sy.length : Int) ≤ 120) then
 bif decide ((↑(odP (AV.agg (odP (AV.agg (odP (AV.agg (AV.agg o.row).cells)).row)).row)).re.length : Int) ≤ 200) then
 bif decide ((↑(odP (AV.agg (odP (AV.agg (odP (AV.agg (AV.agg o.row).cells)).row)).row)).fi.length : Int) ≤ 30) then
 bif decide ((↑(odP (AV.agg (odP (AV.agg (odP (AV.agg (AV.agg o.row).cells)).row)).row)).li.length : Int) ≤ 200) then
 bif decide (tot3 (FI.list (FI.con (odP (AV.agg (odP (AV.agg (AV.agg o.row).cells)).row)).fi)) (tot2 (SY.list (SY.con (odP (AV.agg (AV.agg o.row).cells)).sy)) (tot1 (SE.list (SE.con o.se)) 0 o.se.length) (odP (AV.agg (AV.agg o.row).cells)).sy.length) (odP (AV.agg (odP (AV.agg (AV.agg o.row).cells)).row)).fi.length ≤ 4000) then
 some (.val (.bool true), ⟨0, []⟩)
 else
 some (.val (.bool false), ⟨0, []⟩)
 else
 some (.val (.bool false), ⟨0, []⟩)
 else
 some (.val (.bool false), ⟨0, []⟩)
 else
 some (.val (.bool false), ⟨0, []⟩)
 else
 some (.val (.bool false), ⟨0, []⟩)
 else
 some (.val (.bool false), ⟨0, []⟩)
 else
 none
 else
 none
 else
 none := by kernel_rfl
theorem Tryz.eSl : EnvOk2 Tryz.prog Tryz.ESl := Tryz.envOk false (sumsOf []) _ (fun g A h => by cases h)
theorem allOk_true (n : Nat) : allOk n (fun _ => true) = true := allOk_iff.2 (fun _ _ => rfl)
theorem sl_law {D : Type} (R : RowTy D) (tot : List D → Int → Nat → Int) (h0 : ∀ L u, tot L u 0 = u) (b : Nat) (c : Code) (ks : List Nat) (hks : ks.length = 5)
    (hc : AllL (LsOk Tryz.prog (lsumsOf [])) (loopsOf c))
    (hs : ∀ (x : OD × List D × Int) (k : Nat), x.2.1.length ≤ 140737488355328 → k ≤ x.2.1.length → Tryz.BSl c ks (stOf 84 ks (Vsl R tot x k) (hO x.1)) =
      bif decide (k < x.2.1.length) then some (.normal, stOf 84 ks (Vsl R tot x (k + 1)) (hO x.1)) else some (.exit b, stOf 84 [1, 3] [.ptr 0 0 0, .val (.int .i64 (tot x.2.1 x.2.2 x.2.1.length))] (hO x.1))) :
    ∀ s e s', s.h.ok → (toLSum 84 ks [1, 3] (fSl R tot b) s).run = some (e, s') → Triple Tryz.prog (.loop c) s e s' := by
  refine scan_law Tryz.eSl (d := 4) (g := 10) (ls := lsumsOf []) (c := c) hc 84 ks [1, 3] (T := OD × List D × Int) (Vsl R tot) (fun x => hO x.1) (fun x => x.2.1.length) (fun _ _ => true) (fun x => x.2.1.length ≤ 140737488355328)
    (fun x => (.exit b, [.ptr 0 0 0, .val (.int .i64 (tot x.2.1 x.2.2 x.2.1.length))], hO x.1)) (fun x => (.exit b, [.ptr 0 0 0, .val (.int .i64 (tot x.2.1 x.2.2 x.2.1.length))], hO x.1)) (fSl R tot b) ?_ (fun x _ => hO_ok x.1) (fun _ _ => ⟨by simp, by simp⟩) (fun x _ => ⟨hO_ok x.1, hO_ok x.1⟩)
    (fun x k hx hk _ => (hs x k hx hk).trans (by cases decide (k < x.2.1.length) <;> rfl))
  intro vs h e vo h' hok hf
  unfold fSl at hf
  split at hf
  · rename_i u cc cap n r
    rw [Ans.run_grd] at hf
    cases hb : ((odIs (.agg r) && R.ok cc) && (n == (cc.len : Int) && Nat.ble cc.len 140737488355328)) with
    | false => rw [hb] at hf; cases hf
    | true =>
      rw [hb, cond_true] at hf
      simp only [Bool.and_eq_true, Nat.ble_eq, beq_iff_eq] at hb
      obtain ⟨⟨b1, b2⟩, rfl, b3⟩ := hb
      refine ⟨(odP (.agg r), R.list cc, u), by show (R.list cc).length ≤ _; rw [R.list_len]; exact b3, ?_, ?_⟩
      · refine Weak.trans (Weak.slots (oneH_ok _) ?_) (Weak.oneH rfl (od_con b1))
        unfold Vsl
        simp only [h0, R.list_len]
        exact .cons (AW.refl _) (.cons (AW.refl _) (.cons (R.aw b2 cap) (AWs.refl _)))
      · rw [allOk_true, cond_true]
        simp only [R.list_len]
        injection hf
  · cases hf
end Go.Ev
/- Small objects: the summary. -/
namespace Go.Ev
open Go.Proofs
theorem Tryz.lSl1 : ∀ s e s', s.h.ok → (LSl1 s).run = some (e, s') → Triple Tryz.prog (.loop Tryz.bSl1) s e s' := by
  refine sl_law SE tot1 (fun _ _ => rfl) 0 Tryz.bSl1 [1, 3, 11, 12, 13] rfl trivial (fun x k hx hk => ?_)
  rw [Tryz.rSl1, declt_nat, inR_nat, wrapS k (by omega)]
  by_cases h : k < x.2.1.length
  · rw [decide_eq_true h]; rfl
  · rw [decide_eq_false h, show k = x.2.1.length by omega]; rfl
theorem Tryz.lSl2 : ∀ s e s', s.h.ok → (LSl2 s).run = some (e, s') → Triple Tryz.prog (.loop Tryz.bSl2) s e s' := by
  refine sl_law SY tot2 (fun _ _ => rfl) 2 Tryz.bSl2 [1, 3, 28, 29, 30] rfl trivial (fun x k hx hk => ?_)
  rw [Tryz.rSl2, declt_nat, inR_nat, wrapS k (by omega)]
  by_cases h : k < x.2.1.length
  · rw [decide_eq_true h]; rfl
  · rw [decide_eq_false h, show k = x.2.1.length by omega]; rfl
theorem Tryz.lSl3 : ∀ s e s', s.h.ok → (LSl3 s).run = some (e, s') → Triple Tryz.prog (.loop Tryz.bSl3) s e s' := by
  refine sl_law FI tot3 (fun _ _ => rfl) 4 Tryz.bSl3 [1, 3, 41, 42, 43] rfl trivial (fun x k hx hk => ?_)
  rw [Tryz.rSl3, declt_nat, inR_nat, wrapS k (by omega)]
  by_cases h : k < x.2.1.length
  · rw [decide_eq_true h]; rfl
  · rw [decide_eq_false h, show k = x.2.1.length by omega]; rfl
def cntB (o : OD) : Bool := decide (o.se.length ≤ 20) && (decide (o.sy.length ≤ 120) && (decide (o.re.length ≤ 200) && (decide (o.fi.length ≤ 30) && decide (o.li.length ≤ 200))))
def smallB (o : OD) : Bool := cntB o && decide (tot3 o.fi (tot2 o.sy (tot1 o.se 0 o.se.length) o.sy.length) o.fi.length ≤ 4000)
def slInv (o : OD) : Prop := o.se.length ≤ 140737488355328 ∧ o.sy.length ≤ 140737488355328 ∧ o.fi.length ≤ 140737488355328
def smallS (args : List AV) : Ans (AV × Heap) := match args with
  | [o] => .grd (odIs o && propB (slInv (odP o))) (.out (.val (.bool (smallB (odP o))), ⟨0, []⟩))
  | _ => .no
theorem AllL.of3 {α : Type} {Q : α → Prop} {l : List α} {a b c : α} (h : l = [a, b, c]) (h1 : Q a) (h2 : Q b) (h3 : Q c) : AllL Q l := by rw [h]; exact ⟨h1, h2, h3, trivial⟩
theorem Tryz.sumSl : SumC Tryz.prog 10 (pureA smallS) := by
  refine pureSumR 10 ⟨Tryz.f10, _, Tryz.fnOk10.1, Tryz.fnOk10.2, rfl⟩ ?_
  intro args v h2 hs
  unfold smallS at hs
  split at hs
  · rename_i ov
    rw [Ans.run_grd] at hs
    cases hb : (odIs ov && propB (slInv (odP ov))) with
    | false => rw [hb] at hs; cases hs
    | true =>
    rw [hb, cond_true] at hs
    rw [Bool.and_eq_true] at hb
    injection hs with hs
    injection hs with q1 q2
    subst q1; subst q2
    refine Alone.argsW (AWs.args (.cons (od_aw hb.1) .nil)) ?_
    have hi := propB_eq hb.2
    generalize odP ov = o at hi ⊢
    refine rootS_alone Tryz.eSl (d := 4) (g := 10) (ls := lsumsOf [(3, LSl1), (8, LSl2), (13, LSl3)]) (AllL.of3 (a := Tryz.bSl1) (b := Tryz.bSl2) (c := Tryz.bSl3) (by kernel_rfl) (LsOk.of rfl rfl Tryz.lSl1) (LsOk.of rfl rfl Tryz.lSl2) (LsOk.of rfl rfl Tryz.lSl3)) ((Tryz.wSl o).trans ?_)
    obtain ⟨i1, i2, i3⟩ := hi
    simp only [show AV.agg (AV.agg o.row).cells = .agg o.row from rfl, odP_row, odIs_row, show SE.list (SE.con o.se) = o.se from SE.list_con _, show FI.list (FI.con o.fi) = o.fi from FI.list_con _, show SY.list (SY.con o.sy) = o.sy from SY.list_con _, SE.ok_con, FI.ok_con, SY.ok_con, beq_self_eq_true, ble_t i1, ble_t i2, ble_t i3, Bool.and_self, cond_true]
    unfold smallB cntB
    generalize tot3 o.fi (tot2 o.sy (tot1 o.se 0 o.se.length) o.sy.length) o.fi.length = tt
    by_cases h1 : o.se.length ≤ 20
    · by_cases h2 : o.sy.length ≤ 120
      · by_cases h3 : o.re.length ≤ 200
        · by_cases h4 : o.fi.length ≤ 30
          · by_cases h5 : o.li.length ≤ 200
            · rw [decide_eq_true (show (o.se.length : Int) ≤ 20 by omega), decide_eq_true (show (o.sy.length : Int) ≤ 120 by omega), decide_eq_true (show (o.re.length : Int) ≤ 200 by omega), decide_eq_true (show (o.fi.length : Int) ≤ 30 by omega), decide_eq_true (show (o.li.length : Int) ≤ 200 by omega), decide_eq_true h1, decide_eq_true h2, decide_eq_true h3, decide_eq_true h4, decide_eq_true h5]
              cases decide (tt ≤ 4000) <;> rfl
            · rw [decide_eq_true (show (o.se.length : Int) ≤ 20 by omega), decide_eq_true (show (o.sy.length : Int) ≤ 120 by omega), decide_eq_true (show (o.re.length : Int) ≤ 200 by omega), decide_eq_true (show (o.fi.length : Int) ≤ 30 by omega), decide_eq_false (show ¬ (o.li.length : Int) ≤ 200 by omega), decide_eq_true h1, decide_eq_true h2, decide_eq_true h3, decide_eq_true h4, decide_eq_false h5]; rfl
          · rw [decide_eq_true (show (o.se.length : Int) ≤ 20 by omega), decide_eq_true (show (o.sy.length : Int) ≤ 120 by omega), decide_eq_true (show (o.re.length : Int) ≤ 200 by omega), decide_eq_false (show ¬ (o.fi.length : Int) ≤ 30 by omega), decide_eq_true h1, decide_eq_true h2, decide_eq_true h3, decide_eq_false h4]; rfl
        · rw [decide_eq_true (show (o.se.length : Int) ≤ 20 by omega), decide_eq_true (show (o.sy.length : Int) ≤ 120 by omega), decide_eq_false (show ¬ (o.re.length : Int) ≤ 200 by omega), decide_eq_true h1, decide_eq_true h2, decide_eq_false h3]; rfl
      · rw [decide_eq_true (show (o.se.length : Int) ≤ 20 by omega), decide_eq_false (show ¬ (o.sy.length : Int) ≤ 120 by omega), decide_eq_true h1, decide_eq_false h2]; rfl
    · rw [decide_eq_false (show ¬ (o.se.length : Int) ≤ 20 by omega), decide_eq_false h1]; rfl
  · cases hs
end Go.Ev
/- LineAt: the rounds. -/
namespace Go.Ev
open Go.Proofs
def hL (o : OD) (e : LinD) : Heap := ⟨2, [⟨1, 0, .cells (.rows true 4 [liRow e])⟩, ⟨0, 0, .cells (.rows true 5 [o.row])⟩]⟩
def hR (e : LinD) : Heap := ⟨1, [⟨0, 0, .cells (.rows true 4 [liRow e])⟩]⟩
end Go.Ev
/- LineAt: the summary; ObjCovered's run. -/
namespace Go.Ev
open Go.Proofs
end Go.Ev
/- ObjCovered: the plain law. -/
namespace Go.Ev
open Go.Proofs
def odB (o : OD) : Prop := slInv o ∧ (∀ e ∈ o.se, e.2.2.2.1.length ≤ 140737488355328) ∧ (∀ s ∈ o.sy, syBound s) ∧ ∀ s ∈ o.fi, s.size ≤ 140737488355328
theorem small_cnt {o : OD} (h : smallB o = true) : o.se.length ≤ 20 ∧ o.sy.length ≤ 120 ∧ o.re.length ≤ 200 ∧ o.fi.length ≤ 30 ∧ o.li.length ≤ 200 := by
  unfold smallB cntB at h
  simp only [Bool.and_eq_true, decide_eq_true_eq] at h
  exact ⟨h.1.1, h.1.2.1, h.1.2.2.1, h.1.2.2.2.1, h.1.2.2.2.2⟩
theorem small_inv {o : OD} (hb : odB o) (h : smallB o = true) : odInv o := by
  obtain ⟨h1, h2, h3, h4⟩ := hb
  obtain ⟨c1, c2, c3, c4, c5⟩ := small_cnt h
  exact ⟨⟨by omega, h2⟩, ⟨by omega, h3⟩, by omega, ⟨by omega, h4⟩, by omega⟩
end Go.Ev
/- ObjChecks: the run. -/
namespace Go.Ev
open Go.Proofs
def foldW (f : Nat → Int) (u : Int) : Nat → Int := Nat.rec u (fun k u => addW u (f k))
def odC (o : OD) : Prop := odB o ∧ byteP o ∧ (∀ e ∈ o.se, e.1.size ≤ 140737488355328) ∧ (∀ s ∈ o.sy, s.1.size ≤ 140737488355328)
theorem foldW_b {f : Nat → Int} {u : Int} (h0 : 0 ≤ u) (h1 : u ≤ 1152921504606846976) : ∀ k, k ≤ 1000 → (∀ i, i < k → 0 ≤ f i ∧ f i ≤ 281474976710656) → u ≤ foldW f u k ∧ foldW f u k ≤ u + (k : Int) * 281474976710656 ∧ ∀ i, i < k → u + f i ≤ foldW f u k
  | 0, _, _ => ⟨Int.le_refl _, by show u ≤ u + 0 * _; omega, fun i hi => by omega⟩
  | k + 1, hk, hf => by
    obtain ⟨a1, a2, a3⟩ := foldW_b h0 h1 k (by omega) (fun i hi => hf i (by omega))
    obtain ⟨b1, b2⟩ := hf k (by omega)
    have e : foldW f u (k + 1) = foldW f u k + f k := by
      show IntKind.i64.wrap (foldW f u k + f k) = _
      exact wrap64 _ (by omega) (by omega)
    rw [e]
    refine ⟨by omega, by omega, fun i hi => ?_⟩
    rcases Nat.lt_or_ge i k with q | q
    · have := a3 i q; omega
    · have : i = k := by omega
      subst this; omega
theorem small_sum {o : OD} (ho : odC o) (h : smallB o = true) : ∀ e ∈ o.se, e.1.size + e.2.2.2.1.length ≤ 4000 := by
  obtain ⟨⟨_, o1, _, o2⟩, _, o3, o4⟩ := ho
  obtain ⟨c1, c2, c3, c4, c5⟩ := small_cnt h
  unfold smallB at h
  simp only [Bool.and_eq_true, decide_eq_true_eq] at h
  have h := h.2
  have g1 : ∀ i, i < o.se.length → 0 ≤ addW ((o.se.getD i SE.z).1.size : Int) ((o.se.getD i SE.z).2.2.2.1.length : Int) ∧ addW ((o.se.getD i SE.z).1.size : Int) ((o.se.getD i SE.z).2.2.2.1.length : Int) ≤ 281474976710656 ∧ addW ((o.se.getD i SE.z).1.size : Int) ((o.se.getD i SE.z).2.2.2.1.length : Int) = ((o.se.getD i SE.z).1.size : Int) + ((o.se.getD i SE.z).2.2.2.1.length : Int) := by
    intro i hi
    have q1 := o1 _ (getD_mem (d := SE.z) hi)
    have q2 := o3 _ (getD_mem (d := SE.z) hi)
    have e : addW ((o.se.getD i SE.z).1.size : Int) ((o.se.getD i SE.z).2.2.2.1.length : Int) = ((o.se.getD i SE.z).1.size : Int) + ((o.se.getD i SE.z).2.2.2.1.length : Int) := wrap64 _ (by omega) (by omega)
    rw [e]
    omega
  obtain ⟨a1, a2, a3⟩ := foldW_b (u := 0) (f := fun i => addW ((o.se.getD i SE.z).1.size : Int) ((o.se.getD i SE.z).2.2.2.1.length : Int)) (by omega) (by omega) o.se.length (by omega) (fun i hi => ⟨(g1 i hi).1, (g1 i hi).2.1⟩)
  obtain ⟨b1, b2, b3⟩ := foldW_b (u := tot1 o.se 0 o.se.length) (f := fun i => ((o.sy.getD i SY.z).1.size : Int)) a1 (by
    have : tot1 o.se 0 o.se.length ≤ 0 + (o.se.length : Int) * 281474976710656 := a2
    omega) o.sy.length (by omega) (fun i hi => by
    have := o4 _ (getD_mem (d := SY.z) hi)
    show 0 ≤ ((o.sy.getD i SY.z).1.size : Int) ∧ ((o.sy.getD i SY.z).1.size : Int) ≤ _
    omega)
  have e1 : 0 ≤ tot1 o.se 0 o.se.length ∧ tot1 o.se 0 o.se.length ≤ 0 + (o.se.length : Int) * 281474976710656 := ⟨a1, a2⟩
  have e2 : tot1 o.se 0 o.se.length ≤ tot2 o.sy (tot1 o.se 0 o.se.length) o.sy.length ∧ tot2 o.sy (tot1 o.se 0 o.se.length) o.sy.length ≤ tot1 o.se 0 o.se.length + (o.sy.length : Int) * 281474976710656 := ⟨b1, b2⟩
  obtain ⟨d1, _, _⟩ := foldW_b (u := tot2 o.sy (tot1 o.se 0 o.se.length) o.sy.length) (f := fun i => ((o.fi.getD i FI.z).size : Int)) (by omega) (by omega) o.fi.length (by omega) (fun i hi => by
    have := o2 _ (getD_mem (d := FI.z) hi)
    show 0 ≤ ((o.fi.getD i FI.z).size : Int) ∧ ((o.fi.getD i FI.z).size : Int) ≤ _
    omega)
  have e3 : tot2 o.sy (tot1 o.se 0 o.se.length) o.sy.length ≤ tot3 o.fi (tot2 o.sy (tot1 o.se 0 o.se.length) o.sy.length) o.fi.length := d1
  intro e he
  obtain ⟨i, hi, rfl⟩ := List.getElem_of_mem he
  have e4 : (0 : Int) + addW ((o.se.getD i SE.z).1.size : Int) ((o.se.getD i SE.z).2.2.2.1.length : Int) ≤ tot1 o.se 0 o.se.length := a3 i hi
  rw [(g1 i hi).2.2] at e4
  rw [List.getD_eq_getElem?_getD, List.getElem?_eq_getElem hi] at e4
  simp only [Option.getD_some] at e4
  omega
theorem small_len {o : OD} (ho : odC o) (h : smallB o = true) : smlP o := by
  obtain ⟨c1, c2, c3, c4, c5⟩ := small_cnt h
  exact ⟨⟨by omega, fun e he => by have := small_sum ho h e he; omega⟩, by omega, by omega, by omega, by omega⟩
end Go.Ev
/- Lists cloned. -/
namespace Go.Ev
open Go.Proofs
theorem cells1 (c : Con) : ∀ e ∈ (oneH c).es, ∃ k, e.blk = .cells k := by
  intro e he
  have he : e ∈ [(⟨0, 0, .cells c⟩ : Ent)] := he
  rw [List.mem_singleton] at he
  exact ⟨c, by rw [he]⟩
def clCs (args : List AV) : Ans (AV × Heap) := match args with
  | [.ro c cap] => .grd (SE.ok c && Nat.ble c.len 1000000) (.out (.own 0 0 c.len none SE.wd, oneH (SE.con (SE.list c))))
  | _ => .no
theorem Tryz.rCs1 (x : SecD) (L : List SecD) : rootS Tryz.ESm 3 135 (lsumsOf []) [.ro (SE.con (x :: L)) none] =
 bif ((0 + (x :: L).length) * 64).ble most && (0 + (x :: L).length).ble most then
 some (.own 0 0 (0 + (x :: L).length) none 5, ⟨1, [⟨0, 0, .cells (.tab 5 ((x :: L).length) (fun i => SE.row ((x :: L).getD i SE.z)))⟩]⟩)
 else
 none := by kernel_rfl
theorem Tryz.rCs2 (m : Nat) : rootS Tryz.ESm 3 135 (lsumsOf []) [.val (.slice none 0 m)] =
 some (.val (.slice none 0 0), ⟨0, []⟩) := by kernel_rfl
theorem Tryz.rCs3 (p : Addr) (m : Nat) : rootS Tryz.ESm 3 135 (lsumsOf []) [.val (.slice (some p) 0 m)] =
 some (.own 0 0 (0) none 5, ⟨1, [⟨0, 0, .cells (.rows true 5 [])⟩]⟩) := by kernel_rfl
theorem Tryz.alCs (L : List SecD) (hl : L.length ≤ 1000000) : Alone Tryz.prog 135 [.ro (SE.con L) none] (.own 0 0 L.length none SE.wd) (oneH (SE.con L)) := by
  have run := fun args v h2 => rootS_alone Tryz.eSm (d := 3) (g := 135) (ls := lsumsOf []) (AllL.noL _) (args := args) (v := v) (h2 := h2)
  have key := clone_alone (P := Tryz.prog) (g := 135) (SE.con L) none ?_ ?_ ?_
  · exact key
  · intro hl'
    cases L with
    | nil => cases hl'
    | cons x L =>
      refine run _ _ _ ((Tryz.rCs1 x L).trans ?_)
      rw [Nat.zero_add, ble_t (by rw [most_eq]; omega), ble_t (by rw [most_eq]; omega)]
      rfl
  · intro _ m; exact ⟨_, run _ _ _ (Tryz.rCs2 m)⟩
  · intro h0 p m
    have : L = [] := List.length_eq_zero_iff.1 h0
    subst this
    exact Alone.outW (v' := .own 0 0 0 none SE.wd) (Weak.oneH (c := .rows true SE.wd []) (c' := SE.con []) (t := [.own 0 0 0 none SE.wd]) rfl ⟨rfl, rfl, fun i hi => absurd hi (Nat.not_lt_zero _)⟩) (run _ _ _ (Tryz.rCs3 p m))
theorem Tryz.sumCs : SumC Tryz.prog 135 (roA (fun args => clCs (nzs [SE.con []] args))) := by
  refine roSumR 135 ⟨Tryz.f135, _, Tryz.fnOk135.1, Tryz.fnOk135.2, rfl⟩ ?_
  intro args v h2 hs
  replace hs : (clCs (nzs [SE.con []] args)).run = some (v, h2) := hs
  suffices fin : (∀ e ∈ h2.es, ∃ k, e.blk = .cells k) ∧ Alone Tryz.prog 135 (nzs [SE.con []] args) v h2 from ⟨fin.1, Alone.nz (cs := [SE.con []]) (by simp [Con.len, RowTy.con]) fin.2⟩
  generalize nzs [SE.con []] args = args' at hs ⊢
  unfold clCs at hs
  split at hs
  · rename_i c cap
    rw [Ans.run_grd] at hs
    cases hb : (SE.ok c && Nat.ble c.len 1000000) with
    | false => rw [hb] at hs; cases hs
    | true =>
    rw [hb, cond_true] at hs
    rw [Bool.and_eq_true, Nat.ble_eq] at hb
    injection hs with hs
    injection hs with q1 q2
    subst q1; subst q2
    have hi : (SE.list c).length ≤ 1000000 := by rw [SE.list_len]; exact hb.2
    refine ⟨cells1 _, Alone.argsW (AWs.args (.cons (SE.aw hb.1 cap) .nil)) ?_⟩
    have := Tryz.alCs (SE.list c) hi
    rw [SE.list_len] at this
    exact this
  · cases hs
def clCy (args : List AV) : Ans (AV × Heap) := match args with
  | [.ro c cap] => .grd (SY.ok c && Nat.ble c.len 1000000) (.out (.ro (SY.con (SY.list c)) none, ⟨0, []⟩))
  | _ => .no
theorem Tryz.rCy1 (x : SymD) (L : List SymD) : rootS Tryz.ESm 3 136 (lsumsOf []) [.ro (SY.con (x :: L)) none] =
 bif ((0 + (x :: L).length) * 56).ble most && (0 + (x :: L).length).ble most then
 some (.own 0 0 (0 + (x :: L).length) none 6, ⟨1, [⟨0, 0, .cells (.tab 6 ((x :: L).length) (fun i => SY.row ((x :: L).getD i SY.z)))⟩]⟩)
 else
 none := by kernel_rfl
theorem Tryz.rCy2 (m : Nat) : rootS Tryz.ESm 3 136 (lsumsOf []) [.val (.slice none 0 m)] =
 some (.val (.slice none 0 0), ⟨0, []⟩) := by kernel_rfl
theorem Tryz.rCy3 (p : Addr) (m : Nat) : rootS Tryz.ESm 3 136 (lsumsOf []) [.val (.slice (some p) 0 m)] =
 some (.own 0 0 (0) none 6, ⟨1, [⟨0, 0, .cells (.rows true 6 [])⟩]⟩) := by kernel_rfl
theorem Tryz.alCy (L : List SymD) (hl : L.length ≤ 1000000) : Alone Tryz.prog 136 [.ro (SY.con L) none] (.own 0 0 L.length none SY.wd) (oneH (SY.con L)) := by
  have run := fun args v h2 => rootS_alone Tryz.eSm (d := 3) (g := 136) (ls := lsumsOf []) (AllL.noL _) (args := args) (v := v) (h2 := h2)
  have key := clone_alone (P := Tryz.prog) (g := 136) (SY.con L) none ?_ ?_ ?_
  · exact key
  · intro hl'
    cases L with
    | nil => cases hl'
    | cons x L =>
      refine run _ _ _ ((Tryz.rCy1 x L).trans ?_)
      rw [Nat.zero_add, ble_t (by rw [most_eq]; omega), ble_t (by rw [most_eq]; omega)]
      rfl
  · intro _ m; exact ⟨_, run _ _ _ (Tryz.rCy2 m)⟩
  · intro h0 p m
    have : L = [] := List.length_eq_zero_iff.1 h0
    subst this
    exact Alone.outW (v' := .own 0 0 0 none SY.wd) (Weak.oneH (c := .rows true SY.wd []) (c' := SY.con []) (t := [.own 0 0 0 none SY.wd]) rfl ⟨rfl, rfl, fun i hi => absurd hi (Nat.not_lt_zero _)⟩) (run _ _ _ (Tryz.rCy3 p m))
theorem Tryz.sumCy : SumC Tryz.prog 136 (roA (fun args => clCy (nzs [SY.con []] args))) := by
  refine roSumR 136 ⟨Tryz.f136, _, Tryz.fnOk136.1, Tryz.fnOk136.2, rfl⟩ ?_
  intro args v h2 hs
  replace hs : (clCy (nzs [SY.con []] args)).run = some (v, h2) := hs
  suffices fin : (∀ e ∈ h2.es, ∃ k, e.blk = .cells k) ∧ Alone Tryz.prog 136 (nzs [SY.con []] args) v h2 from ⟨fin.1, Alone.nz (cs := [SY.con []]) (by simp [Con.len, RowTy.con]) fin.2⟩
  generalize nzs [SY.con []] args = args' at hs ⊢
  unfold clCy at hs
  split at hs
  · rename_i c cap
    rw [Ans.run_grd] at hs
    cases hb : (SY.ok c && Nat.ble c.len 1000000) with
    | false => rw [hb] at hs; cases hs
    | true =>
    rw [hb, cond_true] at hs
    rw [Bool.and_eq_true, Nat.ble_eq] at hb
    injection hs with hs
    injection hs with q1 q2
    subst q1; subst q2
    have hi : (SY.list c).length ≤ 1000000 := by rw [SY.list_len]; exact hb.2
    refine ⟨(fun e he => (by cases he)), Alone.argsW (AWs.args (.cons (SY.aw hb.1 cap) .nil)) ?_⟩
    exact Alone.freeze (con := SY.con (SY.list c)) rfl (Tryz.alCy (SY.list c) hi)
  · cases hs
def clCr (args : List AV) : Ans (AV × Heap) := match args with
  | [.ro c cap] => .grd (RE.ok c && Nat.ble c.len 1000000) (.out (.own 0 0 c.len none RE.wd, oneH (RE.con (RE.list c))))
  | _ => .no
theorem Tryz.rCr1 (x : RelD) (L : List RelD) : rootS Tryz.ESm 3 137 (lsumsOf []) [.ro (RE.con (x :: L)) none] =
 bif ((0 + (x :: L).length) * 40).ble most && (0 + (x :: L).length).ble most then
 some (.own 0 0 (0 + (x :: L).length) none 5, ⟨1, [⟨0, 0, .cells (.tab 5 ((x :: L).length) (fun i => RE.row ((x :: L).getD i RE.z)))⟩]⟩)
 else
 none := by kernel_rfl
theorem Tryz.rCr2 (m : Nat) : rootS Tryz.ESm 3 137 (lsumsOf []) [.val (.slice none 0 m)] =
 some (.val (.slice none 0 0), ⟨0, []⟩) := by kernel_rfl
theorem Tryz.rCr3 (p : Addr) (m : Nat) : rootS Tryz.ESm 3 137 (lsumsOf []) [.val (.slice (some p) 0 m)] =
 some (.own 0 0 (0) none 5, ⟨1, [⟨0, 0, .cells (.rows true 5 [])⟩]⟩) := by kernel_rfl
theorem Tryz.alCr (L : List RelD) (hl : L.length ≤ 1000000) : Alone Tryz.prog 137 [.ro (RE.con L) none] (.own 0 0 L.length none RE.wd) (oneH (RE.con L)) := by
  have run := fun args v h2 => rootS_alone Tryz.eSm (d := 3) (g := 137) (ls := lsumsOf []) (AllL.noL _) (args := args) (v := v) (h2 := h2)
  have key := clone_alone (P := Tryz.prog) (g := 137) (RE.con L) none ?_ ?_ ?_
  · exact key
  · intro hl'
    cases L with
    | nil => cases hl'
    | cons x L =>
      refine run _ _ _ ((Tryz.rCr1 x L).trans ?_)
      rw [Nat.zero_add, ble_t (by rw [most_eq]; omega), ble_t (by rw [most_eq]; omega)]
      rfl
  · intro _ m; exact ⟨_, run _ _ _ (Tryz.rCr2 m)⟩
  · intro h0 p m
    have : L = [] := List.length_eq_zero_iff.1 h0
    subst this
    exact Alone.outW (v' := .own 0 0 0 none RE.wd) (Weak.oneH (c := .rows true RE.wd []) (c' := RE.con []) (t := [.own 0 0 0 none RE.wd]) rfl ⟨rfl, rfl, fun i hi => absurd hi (Nat.not_lt_zero _)⟩) (run _ _ _ (Tryz.rCr3 p m))
theorem Tryz.sumCr : SumC Tryz.prog 137 (roA (fun args => clCr (nzs [RE.con []] args))) := by
  refine roSumR 137 ⟨Tryz.f137, _, Tryz.fnOk137.1, Tryz.fnOk137.2, rfl⟩ ?_
  intro args v h2 hs
  replace hs : (clCr (nzs [RE.con []] args)).run = some (v, h2) := hs
  suffices fin : (∀ e ∈ h2.es, ∃ k, e.blk = .cells k) ∧ Alone Tryz.prog 137 (nzs [RE.con []] args) v h2 from ⟨fin.1, Alone.nz (cs := [RE.con []]) (by simp [Con.len, RowTy.con]) fin.2⟩
  generalize nzs [RE.con []] args = args' at hs ⊢
  unfold clCr at hs
  split at hs
  · rename_i c cap
    rw [Ans.run_grd] at hs
    cases hb : (RE.ok c && Nat.ble c.len 1000000) with
    | false => rw [hb] at hs; cases hs
    | true =>
    rw [hb, cond_true] at hs
    rw [Bool.and_eq_true, Nat.ble_eq] at hb
    injection hs with hs
    injection hs with q1 q2
    subst q1; subst q2
    have hi : (RE.list c).length ≤ 1000000 := by rw [RE.list_len]; exact hb.2
    refine ⟨cells1 _, Alone.argsW (AWs.args (.cons (RE.aw hb.1 cap) .nil)) ?_⟩
    have := Tryz.alCr (RE.list c) hi
    rw [RE.list_len] at this
    exact this
  · cases hs
def clCf (args : List AV) : Ans (AV × Heap) := match args with
  | [.ro c cap] => .grd (FI.ok c && Nat.ble c.len 1000000) (.out (.ro (FI.con (FI.list c)) none, ⟨0, []⟩))
  | _ => .no
theorem Tryz.rCf1 (x : ByteArray) (L : List ByteArray) : rootS Tryz.ESm 3 138 (lsumsOf []) [.ro (FI.con (x :: L)) none] =
 bif ((0 + (x :: L).length) * 16).ble most && (0 + (x :: L).length).ble most then
 some (.own 0 0 (0 + (x :: L).length) none 1, ⟨1, [⟨0, 0, .cells (.tab 1 ((x :: L).length) (fun i => FI.row ((x :: L).getD i FI.z)))⟩]⟩)
 else
 none := by kernel_rfl
theorem Tryz.rCf2 (m : Nat) : rootS Tryz.ESm 3 138 (lsumsOf []) [.val (.slice none 0 m)] =
 some (.val (.slice none 0 0), ⟨0, []⟩) := by kernel_rfl
theorem Tryz.rCf3 (p : Addr) (m : Nat) : rootS Tryz.ESm 3 138 (lsumsOf []) [.val (.slice (some p) 0 m)] =
 some (.own 0 0 (0) none 1, ⟨1, [⟨0, 0, .cells (.rows true 1 [])⟩]⟩) := by kernel_rfl
theorem Tryz.alCf (L : List ByteArray) (hl : L.length ≤ 1000000) : Alone Tryz.prog 138 [.ro (FI.con L) none] (.own 0 0 L.length none FI.wd) (oneH (FI.con L)) := by
  have run := fun args v h2 => rootS_alone Tryz.eSm (d := 3) (g := 138) (ls := lsumsOf []) (AllL.noL _) (args := args) (v := v) (h2 := h2)
  have key := clone_alone (P := Tryz.prog) (g := 138) (FI.con L) none ?_ ?_ ?_
  · exact key
  · intro hl'
    cases L with
    | nil => cases hl'
    | cons x L =>
      refine run _ _ _ ((Tryz.rCf1 x L).trans ?_)
      rw [Nat.zero_add, ble_t (by rw [most_eq]; omega), ble_t (by rw [most_eq]; omega)]
      rfl
  · intro _ m; exact ⟨_, run _ _ _ (Tryz.rCf2 m)⟩
  · intro h0 p m
    have : L = [] := List.length_eq_zero_iff.1 h0
    subst this
    exact Alone.outW (v' := .own 0 0 0 none FI.wd) (Weak.oneH (c := .rows true FI.wd []) (c' := FI.con []) (t := [.own 0 0 0 none FI.wd]) rfl ⟨rfl, rfl, fun i hi => absurd hi (Nat.not_lt_zero _)⟩) (run _ _ _ (Tryz.rCf3 p m))
theorem Tryz.sumCf : SumC Tryz.prog 138 (roA (fun args => clCf (nzs [FI.con []] args))) := by
  refine roSumR 138 ⟨Tryz.f138, _, Tryz.fnOk138.1, Tryz.fnOk138.2, rfl⟩ ?_
  intro args v h2 hs
  replace hs : (clCf (nzs [FI.con []] args)).run = some (v, h2) := hs
  suffices fin : (∀ e ∈ h2.es, ∃ k, e.blk = .cells k) ∧ Alone Tryz.prog 138 (nzs [FI.con []] args) v h2 from ⟨fin.1, Alone.nz (cs := [FI.con []]) (by simp [Con.len, RowTy.con]) fin.2⟩
  generalize nzs [FI.con []] args = args' at hs ⊢
  unfold clCf at hs
  split at hs
  · rename_i c cap
    rw [Ans.run_grd] at hs
    cases hb : (FI.ok c && Nat.ble c.len 1000000) with
    | false => rw [hb] at hs; cases hs
    | true =>
    rw [hb, cond_true] at hs
    rw [Bool.and_eq_true, Nat.ble_eq] at hb
    injection hs with hs
    injection hs with q1 q2
    subst q1; subst q2
    have hi : (FI.list c).length ≤ 1000000 := by rw [FI.list_len]; exact hb.2
    refine ⟨(fun e he => (by cases he)), Alone.argsW (AWs.args (.cons (FI.aw hb.1 cap) .nil)) ?_⟩
    exact Alone.freeze (con := FI.con (FI.list c)) rfl (Tryz.alCf (FI.list c) hi)
  · cases hs
def clCl (args : List AV) : Ans (AV × Heap) := match args with
  | [.ro c cap] => .grd (LI.ok c && Nat.ble c.len 1000000) (.out (.ro (LI.con (LI.list c)) none, ⟨0, []⟩))
  | _ => .no
theorem Tryz.rCl1 (x : LinD) (L : List LinD) : rootS Tryz.ESm 3 139 (lsumsOf []) [.ro (LI.con (x :: L)) none] =
 bif ((0 + (x :: L).length) * 32).ble most && (0 + (x :: L).length).ble most then
 some (.own 0 0 (0 + (x :: L).length) none 4, ⟨1, [⟨0, 0, .cells (.tab 4 ((x :: L).length) (fun i => LI.row ((x :: L).getD i LI.z)))⟩]⟩)
 else
 none := by kernel_rfl
theorem Tryz.rCl2 (m : Nat) : rootS Tryz.ESm 3 139 (lsumsOf []) [.val (.slice none 0 m)] =
 some (.val (.slice none 0 0), ⟨0, []⟩) := by kernel_rfl
theorem Tryz.rCl3 (p : Addr) (m : Nat) : rootS Tryz.ESm 3 139 (lsumsOf []) [.val (.slice (some p) 0 m)] =
 some (.own 0 0 (0) none 4, ⟨1, [⟨0, 0, .cells (.rows true 4 [])⟩]⟩) := by kernel_rfl
theorem Tryz.alCl (L : List LinD) (hl : L.length ≤ 1000000) : Alone Tryz.prog 139 [.ro (LI.con L) none] (.own 0 0 L.length none LI.wd) (oneH (LI.con L)) := by
  have run := fun args v h2 => rootS_alone Tryz.eSm (d := 3) (g := 139) (ls := lsumsOf []) (AllL.noL _) (args := args) (v := v) (h2 := h2)
  have key := clone_alone (P := Tryz.prog) (g := 139) (LI.con L) none ?_ ?_ ?_
  · exact key
  · intro hl'
    cases L with
    | nil => cases hl'
    | cons x L =>
      refine run _ _ _ ((Tryz.rCl1 x L).trans ?_)
      rw [Nat.zero_add, ble_t (by rw [most_eq]; omega), ble_t (by rw [most_eq]; omega)]
      rfl
  · intro _ m; exact ⟨_, run _ _ _ (Tryz.rCl2 m)⟩
  · intro h0 p m
    have : L = [] := List.length_eq_zero_iff.1 h0
    subst this
    exact Alone.outW (v' := .own 0 0 0 none LI.wd) (Weak.oneH (c := .rows true LI.wd []) (c' := LI.con []) (t := [.own 0 0 0 none LI.wd]) rfl ⟨rfl, rfl, fun i hi => absurd hi (Nat.not_lt_zero _)⟩) (run _ _ _ (Tryz.rCl3 p m))
theorem Tryz.sumCl : SumC Tryz.prog 139 (roA (fun args => clCl (nzs [LI.con []] args))) := by
  refine roSumR 139 ⟨Tryz.f139, _, Tryz.fnOk139.1, Tryz.fnOk139.2, rfl⟩ ?_
  intro args v h2 hs
  replace hs : (clCl (nzs [LI.con []] args)).run = some (v, h2) := hs
  suffices fin : (∀ e ∈ h2.es, ∃ k, e.blk = .cells k) ∧ Alone Tryz.prog 139 (nzs [LI.con []] args) v h2 from ⟨fin.1, Alone.nz (cs := [LI.con []]) (by simp [Con.len, RowTy.con]) fin.2⟩
  generalize nzs [LI.con []] args = args' at hs ⊢
  unfold clCl at hs
  split at hs
  · rename_i c cap
    rw [Ans.run_grd] at hs
    cases hb : (LI.ok c && Nat.ble c.len 1000000) with
    | false => rw [hb] at hs; cases hs
    | true =>
    rw [hb, cond_true] at hs
    rw [Bool.and_eq_true, Nat.ble_eq] at hb
    injection hs with hs
    injection hs with q1 q2
    subst q1; subst q2
    have hi : (LI.list c).length ≤ 1000000 := by rw [LI.list_len]; exact hb.2
    refine ⟨(fun e he => (by cases he)), Alone.argsW (AWs.args (.cons (LI.aw hb.1 cap) .nil)) ?_⟩
    exact Alone.freeze (con := LI.con (LI.list c)) rfl (Tryz.alCl (LI.list c) hi)
  · cases hs
theorem BY.awI {c : Con} (h : BY.ok c = true) (cap : Option Nat) : AW (.ro c cap) (.ro (.ints .u8 (BY.list c)) none) := by
  have k := BY.conv h
  refine fun _ _ _ => VR.conv (b := .ints .u8 (BY.list c)) ⟨k.wd, ?_, fun i hi j v' hv => ?_⟩ (.inr rfl)
  · show (BY.list c).length = _; rw [BY.list_len]
  · exact k.row i hi j v' hv
def clCb (args : List AV) : Ans (AV × Heap) := match args with
  | [.ro c cap] => .grd (BY.ok c && Nat.ble c.len 1000000) (.out (.ro (.ints .u8 (BY.list c)) none, ⟨0, []⟩))
  | _ => .no
theorem Tryz.rCb1 (x : Int) (L : List Int) : rootS Tryz.ESm 3 108 (lsumsOf []) [.ro (.ints .u8 (x :: L)) none] =
 bif ((0 + (x :: L).length) * 1).ble most && (0 + (x :: L).length).ble most then
 some (.own 0 0 (0 + (x :: L).length) none 1, ⟨1, [⟨0, 0, .cells (.ints .u8 ([] ++ x :: L))⟩]⟩)
 else
 none := by kernel_rfl
theorem Tryz.rCb2 (m : Nat) : rootS Tryz.ESm 3 108 (lsumsOf []) [.val (.slice none 0 m)] =
 some (.val (.slice none 0 0), ⟨0, []⟩) := by kernel_rfl
theorem Tryz.rCb3 (p : Addr) (m : Nat) : rootS Tryz.ESm 3 108 (lsumsOf []) [.val (.slice (some p) 0 m)] =
 some (.own 0 0 (0) none 1, ⟨1, [⟨0, 0, .cells (.ints .u8 ([]))⟩]⟩) := by kernel_rfl
theorem Tryz.alCb (L : List Int) (hl : L.length ≤ 1000000) : Alone Tryz.prog 108 [.ro (.ints .u8 L) none] (.own 0 0 L.length none 1) (oneH (.ints .u8 L)) := by
  have run := fun args v h2 => rootS_alone Tryz.eSm (d := 3) (g := 108) (ls := lsumsOf []) (AllL.noL _) (args := args) (v := v) (h2 := h2)
  have key := clone_alone (P := Tryz.prog) (g := 108) (.ints .u8 L) none ?_ ?_ ?_
  · exact key
  · intro hl'
    cases L with
    | nil => cases hl'
    | cons x L =>
      refine run _ _ _ ((Tryz.rCb1 x L).trans ?_)
      rw [Nat.zero_add, ble_t (by rw [most_eq]; omega), ble_t (by rw [most_eq]; omega)]
      rfl
  · intro _ m; exact ⟨_, run _ _ _ (Tryz.rCb2 m)⟩
  · intro h0 p m
    have : L = [] := List.length_eq_zero_iff.1 h0
    subst this
    exact run _ _ _ (Tryz.rCb3 p m)
theorem Tryz.sumCb : SumC Tryz.prog 108 (roA (fun args => clCb (nzs [.ints .u8 []] args))) := by
  refine roSumR 108 ⟨Tryz.f108, _, Tryz.fnOk108.1, Tryz.fnOk108.2, rfl⟩ ?_
  intro args v h2 hs
  replace hs : (clCb (nzs [.ints .u8 []] args)).run = some (v, h2) := hs
  suffices fin : (∀ e ∈ h2.es, ∃ k, e.blk = .cells k) ∧ Alone Tryz.prog 108 (nzs [.ints .u8 []] args) v h2 from ⟨fin.1, Alone.nz (cs := [.ints .u8 []]) (by simp [Con.len, RowTy.con]) fin.2⟩
  generalize nzs [.ints .u8 []] args = args' at hs ⊢
  unfold clCb at hs
  split at hs
  · rename_i c cap
    rw [Ans.run_grd] at hs
    cases hb : (BY.ok c && Nat.ble c.len 1000000) with
    | false => rw [hb] at hs; cases hs
    | true =>
    rw [hb, cond_true] at hs
    rw [Bool.and_eq_true, Nat.ble_eq] at hb
    injection hs with hs
    injection hs with q1 q2
    subst q1; subst q2
    have hi : (BY.list c).length ≤ 1000000 := by rw [BY.list_len]; exact hb.2
    refine ⟨(fun e he => (by cases he)), Alone.argsW (AWs.args (.cons (BY.awI hb.1 cap) .nil)) ?_⟩
    exact Alone.freeze (con := .ints .u8 (BY.list c)) rfl (Tryz.alCb (BY.list c) hi)
  · cases hs
end Go.Ev
/- Objects copied. -/
namespace Go.Ev
open Go.Proofs
def Tryz.tCo : List (Nat × AFun) := [(135, roA (fun args => clCs (nzs [SE.con []] args))), (136, roA (fun args => clCy (nzs [SY.con []] args))), (137, roA (fun args => clCr (nzs [RE.con []] args))),
  (138, roA (fun args => clCf (nzs [FI.con []] args))), (139, roA (fun args => clCl (nzs [LI.con []] args))), (108, roA (fun args => clCb (nzs [.ints .u8 []] args)))]
def Tryz.ECo : Env := Tryz.env0 false (sumsOf Tryz.tCo) (keepF 88 [(3, [1, 2, 10, 11])])
def Tryz.bCo : Code := nthD .skip (loopsOf (bodyOf Tryz.ECo 88)) 0
def Tryz.BCo (s : St) : Option (AX × St) := codeS Tryz.ECo (callF Tryz.ECo 6) (Tryz.ECo.keep 88) (lsumsOf []) Tryz.bCo (outK [1, 2, 10, 11] [1, 2]) s
def rowCo (o : OD) (n : Nat) : List AV := [.own n 0 o.se.length none 5, .ro (SY.con o.sy) none, .ro (RE.con o.re) none, .ro (FI.con o.fi) none, .ro (LI.con o.li) none]
def nilRow : List AV := [.val (.slice none 0 0), .val (.slice none 0 0), .val (.slice none 0 0), .val (.slice none 0 0), .val (.slice none 0 0)]
def hCo (o : OD) : Heap := ⟨3, [⟨2, 0, .cells (.rows true 5 [nilRow])⟩, ⟨1, 0, .cells (SE.con o.se)⟩, ⟨0, 0, .cells (.rows false 5 [rowCo o 1])⟩]⟩
def sCo (o : OD) (k : Nat) : St := stOf 44 [1, 2, 10, 11] [.ptr 0 0 0, .ptr 2 0 0, .val (.int .i64 (o.se.length : Nat)), .val (.int .i64 k)] (hCo o)
theorem Tryz.rCo (o : OD) (k : Nat) : Tryz.BCo (sCo o k) =
 bif decide ((↑k : Int) < (↑o.se.length : Int)) then
 bif inR (↑k : Int) o.se.length then
 bif (0 + k).blt o.se.length then
 bif BY.ok (Con.ints IntKind.u8 (o.se.getD (0 + k) SE.z).snd.snd.snd.fst) && (o.se.getD (0 + k) SE.z).snd.snd.snd.fst.length.ble 1000000 then
 bif inR (↑k : Int) o.se.length then
 bif (0 + k).blt o.se.length && true then
 some (.normal, stOf 44 [1, 2, 10, 11] [.ptr 0 0 0, .ptr 2 0 0, .val (.int .i64 ((↑o.se.length : Int))), .val (.int .i64 (IntKind.i64.wrap ((↑k : Int) + 1)))] ⟨3, [⟨2, 0, .cells (.rows true 5 ([.val (.slice none 0 0), .val (.slice none 0 0), .val (.slice none 0 0), .val (.slice none 0 0), .val (.slice none 0 0)] :: []))⟩, ⟨1, 0, .cells (.rows true 5 (tabSet (o.se.length) (fun i => SE.row (o.se.getD i SE.z)) (0 + k) [.val (Value.string (o.se.getD (0 + k) SE.z).fst), .val (.int .i64 ((o.se.getD (0 + k) SE.z).snd.fst)), .val (.int .i64 ((o.se.getD (0 + k) SE.z).snd.snd.fst)), .ro (.ints .u8 (BY.list (Con.ints IntKind.u8 (o.se.getD (0 + k) SE.z).snd.snd.snd.fst))) none, .val (.int .i64 ((o.se.getD (0 + k) SE.z).snd.snd.snd.snd))]))⟩, ⟨0, 0, .cells (.rows false 5 ([.own 1 0 (o.se.length) none 5, .ro (SY.con o.sy) none, .ro (RE.con o.re) none, .ro (FI.con o.fi) none, .ro (LI.con o.li) none] :: []))⟩]⟩ )
 else
 none
 else
 none
 else
 none
 else
 none
 else
 none
 else
 some (.exit 0, stOf 44 [1, 2] [.ptr 0 0 0, .ptr 2 0 0] ⟨3, [⟨2, 0, .cells (.rows true 5 ([.val (.slice none 0 0), .val (.slice none 0 0), .val (.slice none 0 0), .val (.slice none 0 0), .val (.slice none 0 0)] :: []))⟩, ⟨1, 0, .cells (SE.con o.se)⟩, ⟨0, 0, .cells (.rows false 5 ([.own 1 0 (o.se.length) none 5, .ro (SY.con o.sy) none, .ro (RE.con o.re) none, .ro (FI.con o.fi) none, .ro (LI.con o.li) none] :: []))⟩]⟩ ) := by kernel_rfl
def xCo (o : OD) : St := stOf 44 [1, 2] [.ptr 0 0 0, .ptr 2 0 0] (hCo o)
def sCo0 (o : OD) : St := stOf 44 [1, 2, 10, 11] [.ptr 0 0 0, .ptr 2 0 0, .val (.int .i64 (o.se.length : Nat)), .val (.int .i64 0)] ⟨3, [⟨2, 0, .cells (.rows true 5 [nilRow])⟩, ⟨1, 0, .cells (SE.con (SE.list (SE.con o.se)))⟩, ⟨0, 0, .cells (.rows false 5 [rowCo o 1])⟩]⟩
def Tryz.LCo (o : OD) : LSum := atL (sCo0 o) (.grd (propB (seLen o.se)) (.out (.exit 0, xCo o)))
theorem Tryz.eCo : EnvOk2 Tryz.prog Tryz.ECo := Tryz.envOk false (sumsOf Tryz.tCo) _ (sumsOf_ok (show AllS Tryz.prog Tryz.tCo from ⟨Tryz.sumCs, Tryz.sumCy, Tryz.sumCr, Tryz.sumCf, Tryz.sumCl, Tryz.sumCb, trivial⟩))
theorem hCo_ok (o : OD) : (hCo o).ok := heap_ok [2, 1, 0] rfl (by decide) (by decide)
theorem sCo0_eq (o : OD) : sCo0 o = sCo o 0 := by unfold sCo0 sCo hCo; rw [listSE]; rfl
theorem Tryz.lCo (o : OD) : ∀ s e s', s.h.ok → (Tryz.LCo o s).run = some (e, s') → Triple Tryz.prog (.loop Tryz.bCo) s e s' := by
  unfold Tryz.LCo
  rw [sCo0_eq]
  refine atL_grd (fun hp => ?_)
  obtain ⟨h1, h2⟩ := propB_eq hp
  refine loop_at Tryz.eCo (d := 6) (g := 88) (ls := lsumsOf []) (c := Tryz.bCo) trivial [1, 2, 10, 11] [1, 2] (T := Nat) (sCo o) (fun k => k ≤ o.se.length) (fun k => o.se.length - k) (fun _ => (.exit 0, xCo o)) _ _ 0 (Nat.zero_le _) (Weak.refl (hCo_ok o)) ?_ (fun _ _ => hCo_ok o) ?_
  · intro e s' h; injection h
  · intro k hk
    have key : Tryz.BCo (sCo o k) = _ := Tryz.rCo o k
    rw [declt_nat, inR_nat, wrapS k (by omega), Nat.zero_add] at key
    by_cases h : k < o.se.length
    · rw [decide_eq_true h, blt_t h, by_ok, ble_t (h2 _ (getD_mem h)), by_list] at key
      refine .inl ⟨k + 1, _, key, ?_, h, by omega, rfl⟩
      exact Weak.heap (heap_ok [2, 1, 0] rfl (by decide) (by decide)) (.same _ (.con 1 0 0 rfl (tabSet_same (AWs.refl _)) (.same _ .nil)))
    · rw [decide_eq_false h] at key
      exact .inr ⟨_, key, Weak.refl (hCo_ok o), by simp⟩
theorem Tryz.wCo (o : OD) : rootS Tryz.ECo 6 88 (lsumsOf [(3, Tryz.LCo o)]) [o.av] =
 bif SE.ok (SE.con o.se) && o.se.length.ble 1000000 then
 bif isSt (sCo0 o) (sCo0 o) then
 bif propB (seLen o.se) then
 bif SY.ok (SY.con o.sy) && o.sy.length.ble 1000000 then
 bif RE.ok (RE.con o.re) && o.re.length.ble 1000000 then
 bif FI.ok (FI.con o.fi) && o.fi.length.ble 1000000 then
 bif LI.ok (LI.con o.li) && o.li.length.ble 1000000 then
 some (.agg [.own 0 0 (o.se.length) none 5, .ro (.tab 6 ((SY.list (SY.con o.sy)).length) (fun i => SY.row ((SY.list (SY.con o.sy)).getD i SY.z))) none, .own 1 0 (o.re.length) none 5, .ro (.tab 1 ((FI.list (FI.con o.fi)).length) (fun i => FI.row ((FI.list (FI.con o.fi)).getD i FI.z))) none, .ro (.tab 4 ((LI.list (LI.con o.li)).length) (fun i => LI.row ((LI.list (LI.con o.li)).getD i LI.z))) none], ⟨2, [⟨1, 0, .cells (.tab 5 ((RE.list (RE.con o.re)).length) (fun i => RE.row ((RE.list (RE.con o.re)).getD i RE.z)))⟩, ⟨0, 0, .cells (SE.con o.se)⟩]⟩)
 else
 none
 else
 none
 else
 none
 else
 none
 else
 none
 else
 none
 else
 none := by kernel_rfl
end Go.Ev
/- Objects copied: the summary. -/
namespace Go.Ev
open Go.Proofs
def copV (o : OD) : AV := .agg [.ro (SE.con o.se) none, .ro (SY.con o.sy) none, .own 0 0 o.re.length none 5, .ro (FI.con o.fi) none, .ro (LI.con o.li) none]
def copS (args : List AV) : Ans (AV × Heap) := match args with
  | [ov] => .grd (odIs ov && propB (smlP (odP ov))) (.out (copV (odP ov), oneH (RE.con (odP ov).re)))
  | _ => .no
theorem Tryz.alCo (o : OD) (hi : smlP o) : Alone Tryz.prog 88 [o.av] (copV o) (oneH (RE.con o.re)) := by
  obtain ⟨i1, i2, i3, i4, i5⟩ := hi
  have l1 : SY.list (SY.con o.sy) = o.sy := SY.list_con _
  have l2 : RE.list (RE.con o.re) = o.re := RE.list_con _
  have l3 : FI.list (FI.con o.fi) = o.fi := FI.list_con _
  have l4 : LI.list (LI.con o.li) = o.li := LI.list_con _
  have key := Tryz.wCo o
  rw [isSt_refl, propB_t i1, SE.ok_con, SY.ok_con, RE.ok_con, FI.ok_con, LI.ok_con, ble_t i1.1, ble_t i2, ble_t i3, ble_t i4, ble_t i5, l1, l2, l3, l4] at key
  have q := rootS_alone Tryz.eCo (d := 6) (g := 88) (ls := lsumsOf [(3, Tryz.LCo o)]) (AllL.of1 (a := Tryz.bCo) (by kernel_rfl) (LsOk.of rfl rfl (Tryz.lCo o))) key
  refine Alone.fzA (con := SE.con o.se) (id := 0) (v' := .agg [.ro (SE.con o.se) none, .ro (SY.con o.sy) none, .own 1 0 o.re.length none 5, .ro (FI.con o.fi) none, .ro (LI.con o.li) none]) (es' := [⟨1, 0, .cells (RE.con o.re)⟩]) rfl rfl ?_ ?_ ?_ q
  · exact .agg (.cons (.inr (.inr ⟨none, rfl, rfl⟩)) (.cons (.inl rfl) (.cons (.inl rfl) (.cons (.inl rfl) (.cons (.inl rfl) .nil)))))
  · exact .same _ rfl (.skip .nil)
  · kernel_rfl
theorem Tryz.sumCo : SumC Tryz.prog 88 (roA copS) := by
  refine roSumR 88 ⟨Tryz.f88, _, Tryz.fnOk88.1, Tryz.fnOk88.2, rfl⟩ ?_
  intro args v h2 hs
  unfold copS at hs
  split at hs
  · rename_i ov
    rw [Ans.run_grd] at hs
    cases hb : (odIs ov && propB (smlP (odP ov))) with
    | false => rw [hb] at hs; cases hs
    | true =>
    rw [hb, cond_true] at hs
    rw [Bool.and_eq_true] at hb
    injection hs with hs
    injection hs with q1 q2
    subst q1; subst q2
    exact ⟨cells1 _, Alone.argsW (AWs.args (.cons (od_aw hb.1) .nil)) (Tryz.alCo _ (propB_eq hb.2))⟩
  · cases hs
def bxN (n : Int) : Con := .rows true 1 [[.val (.int .i64 n)]]
def Tryz.EXr : Env := Tryz.env0 false (sumsOf []) (keepF 140 [(2, [0, 1, 7, 8])])
def Tryz.bXr : Code := nthD .skip (loopsOf (bodyOf Tryz.EXr 140)) 0
def Tryz.BXr (s : St) : Option (AX × St) := codeS Tryz.EXr (callF Tryz.EXr 6) (Tryz.EXr.keep 140) (lsumsOf []) Tryz.bXr (outK [0, 1, 7, 8] [4]) s
def Tryz.cloXr (i : Int) : AV := .clo (.func 90) [] [.rptr (bxN i) 0 0]
def Tryz.Vxr (L : List RelD) (i : Int) (k : Nat) : List AV := [.ro (RE.con L) none, Tryz.cloXr i, .val (.int .i64 (L.length : Nat)), .val (.int .i64 k)]
def pXr (L : List RelD) (i : Int) (k : Nat) : Bool := (L.getD k RE.z).2.2.2.1 == i
def Tryz.LXr (L : List RelD) (i : Int) : LSum := ixL 19 4 0 (stOf 19 [0, 1, 7, 8] (Tryz.Vxr L i 0) ⟨0, []⟩) (ixN (pXr L i) L.length)
def xrS (args : List AV) : Ans (AV × Heap) := match args with
  | [.ro c cap, .clo (.func 90) [] [.rptr (.rows true 1 [[.val (.int .i64 i)]]) 0 0]] => .grd (RE.ok c && Nat.ble c.len 1000000) (ixO (ixN (pXr (RE.list c) i) (RE.list c).length))
  | _ => .no
theorem Tryz.rXr (L : List RelD) (i : Int) (k : Nat) : Tryz.BXr (stOf 19 [0, 1, 7, 8] (Tryz.Vxr L i k) ⟨0, []⟩) =
 bif decide ((↑k : Int) < (↑L.length : Int)) then
 bif inR (↑k : Int) L.length then
 bif (L.getD k RE.z).snd.snd.snd.fst == i then
 some (.ret, stOf 19 [4] [.val (.int .i64 (↑k : Int))] ⟨0, []⟩)
 else
 some (.normal, stOf 19 [0, 1, 7, 8] [.ro (.tab 5 (L.length) (fun i => RE.row (L.getD i RE.z))) none, .clo (Fn.func 90) [] [.rptr (.rows true 1 ([.val (.int .i64 (i))] :: [])) (0) (0)], .val (.int .i64 ((↑L.length : Int))), .val (.int .i64 (IntKind.i64.wrap ((↑k : Int) + 1)))] ⟨0, []⟩)
 else
 none
 else
 some (.exit 0, stOf 19 [] [] ⟨0, []⟩) := by kernel_rfl
theorem Tryz.wXr (L : List RelD) (i : Int) : rootS Tryz.EXr 6 140 (lsumsOf [(2, Tryz.LXr L i)]) [.ro (RE.con L) none, Tryz.cloXr i] =
 bif isSt (stOf 19 [0, 1, 7, 8] (Tryz.Vxr L i 0) { next := 0, es := [] }) (stOf 19 [0, 1, 7, 8] (Tryz.Vxr L i 0) { next := 0, es := [] }) then
 bif (ixN (pXr L i) L.length).isSome then
 some (.val (.int .i64 (Int.ofNat ((ixN (pXr L i) L.length).getD 0))), ⟨0, []⟩)
 else
 some (.val (.int .i64 (-1)), ⟨0, []⟩)
 else
 none := by kernel_rfl
theorem Tryz.eXr : EnvOk2 Tryz.prog Tryz.EXr := Tryz.envOk false (sumsOf []) _ (fun g A h => by cases h)
theorem Tryz.lXr (L : List RelD) (i : Int) (hL : L.length ≤ 1000000) : ∀ s e s', s.h.ok → (Tryz.LXr L i s).run = some (e, s') → Triple Tryz.prog (.loop Tryz.bXr) s e s' := by
  refine ix_law Tryz.eXr (d := 6) (g := 140) (c := Tryz.bXr) rfl 19 4 0 [0, 1, 7, 8] (Tryz.Vxr L i) (pXr L i) L.length (fun k hk => ?_)
  have key : Tryz.BXr (stOf 19 [0, 1, 7, 8] (Tryz.Vxr L i k) ⟨0, []⟩) = _ := Tryz.rXr L i k
  rw [declt_nat, inR_nat, wrapS k (by omega)] at key
  refine key.trans ?_
  by_cases h : k < L.length
  · rw [decide_eq_true h]
    simp only [cond_true]
    unfold pXr
    cases ((L.getD k RE.z).snd.snd.snd.fst == i) <;> rfl
  · rw [decide_eq_false h]; rfl
theorem Tryz.sumXr : SumC Tryz.prog 140 (pureA (fun args => xrS (nzs [RE.con []] args))) := by
  refine pureSumR 140 ⟨Tryz.f140, _, Tryz.fnOk140.1, Tryz.fnOk140.2, rfl⟩ ?_
  intro args v h2 hs
  refine Alone.nz (cs := [RE.con []]) (by simp [Con.len, RowTy.con]) ?_
  replace hs : (xrS (nzs [RE.con []] args)).run = some (v, h2) := hs
  generalize nzs [RE.con []] args = args' at hs ⊢
  unfold xrS at hs
  split at hs
  · rename_i c cap i
    rw [Ans.run_grd] at hs
    cases hb : (RE.ok c && Nat.ble c.len 1000000) with
    | false => rw [hb] at hs; cases hs
    | true =>
    rw [hb, cond_true] at hs
    rw [Bool.and_eq_true, Nat.ble_eq] at hb
    have hi : (RE.list c).length ≤ 1000000 := by rw [RE.list_len]; exact hb.2
    refine Alone.argsW (AWs.args (.cons (RE.aw hb.1 cap) (AWs.refl _))) ?_
    refine rootS_alone Tryz.eXr (d := 6) (g := 140) (ls := lsumsOf [(2, Tryz.LXr (RE.list c) i)]) (AllL.of1 (a := Tryz.bXr) (by kernel_rfl) (LsOk.of rfl rfl (Tryz.lXr _ i hi))) ((Tryz.wXr _ i).trans ?_)
    rw [isSt_refl, cond_true]
    exact hs
  · cases hs
end Go.Ev
/- Strip: the rounds. -/
namespace Go.Ev
open Go.Proofs
def Tryz.tSt : List (Nat × AFun) := [(47, pureA isS), (88, roA copS), (140, pureA (fun args => xrS (nzs [RE.con []] args)))]
def Tryz.ESt : Env := Tryz.env0 false (sumsOf Tryz.tSt) (keepF 29 [(7, [1, 2, 4, 5, 23, 24, 25]), (14, [2, 4, 5, 54, 55])])
def Tryz.bSt (n : Nat) : Code := nthD .skip (loopsOf (bodyOf Tryz.ESt 29)) n
def Tryz.BSt1 (s : St) : Option (AX × St) := codeS Tryz.ESt (callF Tryz.ESt 6) (Tryz.ESt.keep 29) (lsumsOf []) (Tryz.bSt 0) (outK [1, 2, 4, 5, 23, 24, 25] [2, 4, 5]) s
def Tryz.BSt2 (s : St) : Option (AX × St) := codeS Tryz.ESt (callF Tryz.ESt 6) (Tryz.ESt.keep 29) (lsumsOf []) (Tryz.bSt 1) (outK [2, 4, 5, 54, 55] [2, 4, 5]) s
def rowSt (o : OD) (q n a : Nat) : List AV := [.ro (SE.con o.se) none, .own q 0 n none 6, .own a 0 o.re.length none 5, .val (.slice none 0 0), .val (.slice none 0 0)]
def hSt (o : OD) (K : List SymD) (R : List RelD) (T : List Int) : Heap := ⟨6, [⟨5, 0, .cells (.ints .i64 T)⟩, ⟨4, 0, .cells (RE.con R)⟩, ⟨3, 0, .cells (SY.con K)⟩, ⟨2, 0, .cells (.rows false 5 [rowSt o 3 K.length 4])⟩, ⟨1, 0, .cells (.rows true 5 [nilRow])⟩, ⟨0, 0, .cells (.rows true 5 [o.row])⟩]⟩
def sSt1 (o : OD) (K : List SymD) (T : List Int) (k : Nat) : St := stOf 74 [1, 2, 4, 5, 23, 24, 25] [.ptr 0 0 0, .ptr 1 0 0, .ptr 2 0 0, .own 5 0 T.length none 1, .ro (SY.con o.sy) none, .val (.int .i64 (o.sy.length : Nat)), .val (.int .i64 k)] (hSt o K o.re T)
theorem Tryz.rSt1 (o : OD) (K : List SymD) (T : List Int) (k : Nat) : Tryz.BSt1 (sSt1 o K T k) =
 bif decide ((↑k : Int) < (↑o.sy.length : Int)) then
 bif inR (↑k : Int) o.sy.length then
 bif (o.sy.getD k SY.z).snd.snd.snd.snd.fst != 0 then
 bif inR (↑k : Int) T.length then
 bif (0 + k).blt T.length then
 bif (0 + K.length).ble K.length then
 bif ((K.length + 1) * 56).ble most && (K.length + 1).ble most then
 some (.normal, stOf 74 [1, 2, 4, 5, 23, 24, 25] [.ptr 0 0 0, .ptr 1 0 0, .ptr 2 0 0, .own 5 0 (T.length) none 1, .ro (SY.con o.sy) none, .val (.int .i64 ((↑o.sy.length : Int))), .val (.int .i64 (IntKind.i64.wrap ((↑k : Int) + 1)))] ⟨6, [⟨5, 0, .cells (.ints .i64 (T.set (0 + k) (↑K.length : Int)))⟩, ⟨4, 0, .cells (RE.con o.re)⟩, ⟨3, 0, .cells (.tab 6 (K.length + 1) (fun i => bif i.blt K.length then SY.row (K.getD (0 + i) SY.z) else [[AV.val (Value.string (o.sy.getD k SY.z).fst), AV.val (Value.int IntKind.i64 (o.sy.getD k SY.z).snd.fst), AV.val (Value.int IntKind.u32 (o.sy.getD k SY.z).snd.snd.fst), AV.val (Value.int IntKind.i64 (o.sy.getD k SY.z).snd.snd.snd.fst), AV.val (Value.int IntKind.i64 (o.sy.getD k SY.z).snd.snd.snd.snd.fst), AV.val (Value.int IntKind.i64 (o.sy.getD k SY.z).snd.snd.snd.snd.snd)]].getD (i - K.length) []))⟩, ⟨2, 0, .cells (.rows false 5 ([.ro (SE.con o.se) none, .own 3 0 (K.length + 1) none 6, .own 4 0 (o.re.length) none 5, .val (.slice none 0 0), .val (.slice none 0 0)] :: []))⟩, ⟨1, 0, .cells (.rows true 5 ([.val (.slice none 0 0), .val (.slice none 0 0), .val (.slice none 0 0), .val (.slice none 0 0), .val (.slice none 0 0)] :: []))⟩, ⟨0, 0, .cells (.rows true 5 ([.ro (SE.con o.se) none, .ro (SY.con o.sy) none, .ro (RE.con o.re) none, .ro (FI.con o.fi) none, .ro (LI.con o.li) none] :: []))⟩]⟩ )
 else
 none
 else
 none
 else
 none
 else
 none
 else
 bif RE.ok (RE.con o.re) && o.re.length.ble 1000000 then
 bif (ixN (pXr (RE.list (RE.con o.re)) (↑k : Int)) (RE.list (RE.con o.re)).length).isSome then
 bif inR (↑k : Int) T.length then
 bif (0 + k).blt T.length then
 bif (0 + K.length).ble K.length then
 bif ((K.length + 1) * 56).ble most && (K.length + 1).ble most then
 some (.normal, stOf 74 [1, 2, 4, 5, 23, 24, 25] [.ptr 0 0 0, .ptr 1 0 0, .ptr 2 0 0, .own 5 0 (T.length) none 1, .ro (SY.con o.sy) none, .val (.int .i64 ((↑o.sy.length : Int))), .val (.int .i64 (IntKind.i64.wrap ((↑k : Int) + 1)))] ⟨6, [⟨5, 0, .cells (.ints .i64 (T.set (0 + k) (↑K.length : Int)))⟩, ⟨4, 0, .cells (RE.con o.re)⟩, ⟨3, 0, .cells (.tab 6 (K.length + 1) (fun i => bif i.blt K.length then SY.row (K.getD (0 + i) SY.z) else [[AV.val (Value.string (o.sy.getD k SY.z).fst), AV.val (Value.int IntKind.i64 (o.sy.getD k SY.z).snd.fst), AV.val (Value.int IntKind.u32 (o.sy.getD k SY.z).snd.snd.fst), AV.val (Value.int IntKind.i64 (o.sy.getD k SY.z).snd.snd.snd.fst), AV.val (Value.int IntKind.i64 (o.sy.getD k SY.z).snd.snd.snd.snd.fst), AV.val (Value.int IntKind.i64 (o.sy.getD k SY.z).snd.snd.snd.snd.snd)]].getD (i - K.length) []))⟩, ⟨2, 0, .cells (.rows false 5 ([.ro (SE.con o.se) none, .own 3 0 (K.length + 1) none 6, .own 4 0 (o.re.length) none 5, .val (.slice none 0 0), .val (.slice none 0 0)] :: []))⟩, ⟨1, 0, .cells (.rows true 5 ([.val (.slice none 0 0), .val (.slice none 0 0), .val (.slice none 0 0), .val (.slice none 0 0), .val (.slice none 0 0)] :: []))⟩, ⟨0, 0, .cells (.rows true 5 ([.ro (SE.con o.se) none, .ro (SY.con o.sy) none, .ro (RE.con o.re) none, .ro (FI.con o.fi) none, .ro (LI.con o.li) none] :: []))⟩]⟩ )
 else
 none
 else
 none
 else
 none
 else
 none
 else
 some (.normal, stOf 74 [1, 2, 4, 5, 23, 24, 25] [.ptr 0 0 0, .ptr 1 0 0, .ptr 2 0 0, .own 5 0 (T.length) none 1, .ro (SY.con o.sy) none, .val (.int .i64 ((↑o.sy.length : Int))), .val (.int .i64 (IntKind.i64.wrap ((↑k : Int) + 1)))] ⟨6, [⟨5, 0, .cells (.ints .i64 (T))⟩, ⟨4, 0, .cells (RE.con o.re)⟩, ⟨3, 0, .cells (.tab 6 (K.length) (fun i => SY.row (K.getD i SY.z)))⟩, ⟨2, 0, .cells (.rows false 5 ([.ro (SE.con o.se) none, .own 3 0 (K.length) none 6, .own 4 0 (o.re.length) none 5, .val (.slice none 0 0), .val (.slice none 0 0)] :: []))⟩, ⟨1, 0, .cells (.rows true 5 ([.val (.slice none 0 0), .val (.slice none 0 0), .val (.slice none 0 0), .val (.slice none 0 0), .val (.slice none 0 0)] :: []))⟩, ⟨0, 0, .cells (.rows true 5 ([.ro (SE.con o.se) none, .ro (SY.con o.sy) none, .ro (RE.con o.re) none, .ro (FI.con o.fi) none, .ro (LI.con o.li) none] :: []))⟩]⟩ )
 else
 none
 else
 none
 else
 some (.exit 0, stOf 74 [2, 4, 5] [.ptr 0 0 0, .ptr 1 0 0, .own 4 0 (T.length) none 1] ⟨5, [⟨4, 0, .cells (.ints .i64 (T))⟩, ⟨3, 0, .cells (RE.con o.re)⟩, ⟨2, 0, .cells (.tab 6 (K.length) (fun i => SY.row (K.getD i SY.z)))⟩, ⟨1, 0, .cells (.rows false 5 ([.ro (SE.con o.se) none, .own 2 0 (K.length) none 6, .own 3 0 (o.re.length) none 5, .val (.slice none 0 0), .val (.slice none 0 0)] :: []))⟩, ⟨0, 0, .cells (.rows true 5 ([.val (.slice none 0 0), .val (.slice none 0 0), .val (.slice none 0 0), .val (.slice none 0 0), .val (.slice none 0 0)] :: []))⟩]⟩ ) := by kernel_rfl
def hSt2 (o : OD) (K : List SymD) (R : List RelD) (T : List Int) : Heap := ⟨5, [⟨4, 0, .cells (.ints .i64 T)⟩, ⟨3, 0, .cells (RE.con R)⟩, ⟨2, 0, .cells (SY.con K)⟩, ⟨1, 0, .cells (.rows false 5 [[.ro (SE.con o.se) none, .own 2 0 K.length none 6, .own 3 0 R.length none 5, .val (.slice none 0 0), .val (.slice none 0 0)]])⟩, ⟨0, 0, .cells (.rows true 5 [nilRow])⟩]⟩
def sSt2 (o : OD) (K : List SymD) (R : List RelD) (T : List Int) (k : Nat) : St := stOf 74 [2, 4, 5, 54, 55] [.ptr 0 0 0, .ptr 1 0 0, .own 4 0 T.length none 1, .val (.int .i64 (R.length : Nat)), .val (.int .i64 k)] (hSt2 o K R T)
theorem Tryz.rSt2 (o : OD) (K : List SymD) (R : List RelD) (T : List Int) (k : Nat) : Tryz.BSt2 (sSt2 o K R T k) =
 bif decide ((↑k : Int) < (↑R.length : Int)) then
 bif inR (↑k : Int) R.length then
 bif (0 + k).blt R.length then
 bif inR (R.getD (0 + k) RE.z).snd.snd.snd.fst T.length then
 bif (0 + (R.getD (0 + k) RE.z).snd.snd.snd.fst.toNat).blt T.length then
 bif inR (↑k : Int) R.length then
 bif (0 + k).blt R.length && true then
 some (.normal, stOf 74 [2, 4, 5, 54, 55] [.ptr 0 0 0, .ptr 1 0 0, .own 4 0 (T.length) none 1, .val (.int .i64 ((↑R.length : Int))), .val (.int .i64 (IntKind.i64.wrap ((↑k : Int) + 1)))] ⟨5, [⟨4, 0, .cells (.ints .i64 (T))⟩, ⟨3, 0, .cells (.rows true 5 (tabSet (R.length) (fun i => RE.row (R.getD i RE.z)) (0 + k) [.val (.int .i64 ((R.getD (0 + k) RE.z).fst)), .val (.int .i64 ((R.getD (0 + k) RE.z).snd.fst)), .val (.int .i64 ((R.getD (0 + k) RE.z).snd.snd.fst)), .val (.int .i64 (T.getD (0 + (R.getD (0 + k) RE.z).snd.snd.snd.fst.toNat) 0)), .val (.int .i64 ((R.getD (0 + k) RE.z).snd.snd.snd.snd))]))⟩, ⟨2, 0, .cells (.tab 6 (K.length) (fun i => SY.row (K.getD i SY.z)))⟩, ⟨1, 0, .cells (.rows false 5 ([.ro (SE.con o.se) none, .own 2 0 (K.length) none 6, .own 3 0 (R.length) none 5, .val (.slice none 0 0), .val (.slice none 0 0)] :: []))⟩, ⟨0, 0, .cells (.rows true 5 ([.val (.slice none 0 0), .val (.slice none 0 0), .val (.slice none 0 0), .val (.slice none 0 0), .val (.slice none 0 0)] :: []))⟩]⟩ )
 else
 none
 else
 none
 else
 none
 else
 none
 else
 none
 else
 none
 else
 some (.exit 2, stOf 74 [2, 4, 5] [.ptr 0 0 0, .ptr 1 0 0, .own 4 0 (T.length) none 1] ⟨5, [⟨4, 0, .cells (.ints .i64 (T))⟩, ⟨3, 0, .cells (.tab 5 (R.length) (fun i => RE.row (R.getD i RE.z)))⟩, ⟨2, 0, .cells (.tab 6 (K.length) (fun i => SY.row (K.getD i SY.z)))⟩, ⟨1, 0, .cells (.rows false 5 ([.ro (SE.con o.se) none, .own 2 0 (K.length) none 6, .own 3 0 (R.length) none 5, .val (.slice none 0 0), .val (.slice none 0 0)] :: []))⟩, ⟨0, 0, .cells (.rows true 5 ([.val (.slice none 0 0), .val (.slice none 0 0), .val (.slice none 0 0), .val (.slice none 0 0), .val (.slice none 0 0)] :: []))⟩]⟩ ) := by kernel_rfl
end Go.Ev
/- Strip: the loops. -/
namespace Go.Ev
open Go.Proofs
def Tryz.oSt (o : OD) : OD := odP (.agg o.row)
def sSt0 (o p : OD) (T : List Int) : St := stOf 74 [1, 2, 4, 5, 23, 24, 25] [.ptr 0 0 0, .ptr 1 0 0, .ptr 2 0 0, .own 4 0 o.sy.length (some o.sy.length) 1, .ro (SY.con o.sy) none, .val (.int .i64 (o.sy.length : Nat)), .val (.int .i64 0)]
  ⟨5, [⟨4, 0, .cells (.ints .i64 T)⟩, ⟨3, 0, .cells (RE.con p.re)⟩, ⟨2, 0, .cells (.rows false 5 [[.ro (SE.con p.se) none, .val (.slice none 0 0), .own 3 0 p.re.length none 5, .val (.slice none 0 0), .val (.slice none 0 0)]])⟩, ⟨1, 0, .cells (.rows true 5 [nilRow])⟩, ⟨0, 0, .cells (.rows true 5 [o.row])⟩]⟩
def Tryz.LSt1 (o : OD) (x : AX × St) : LSum := atL (sSt0 o (Tryz.oSt o) (List.replicate o.sy.length 0)) (.out x)
def Tryz.LSt2 (s0 : St) (p : Prop) (x : AX × St) : LSum := atL s0 (.grd (propB p) (.out x))
theorem Tryz.wSt (o : OD) (K : List SymD) (R : List RelD) (T : List Int) (p : Prop) : rootS Tryz.ESt 6 29 (lsumsOf [(7, Tryz.LSt1 o (.exit 0, stOf 74 [2, 4, 5] [.ptr 0 0 0, .ptr 1 0 0, .own 4 0 T.length none 1] (hSt2 o K o.re T))), (14, Tryz.LSt2 (sSt2 o K o.re T 0) p (.exit 2, stOf 74 [2, 4, 5] [.ptr 0 0 0, .ptr 1 0 0, .own 4 0 T.length none 1] (hSt2 o K R T)))]) [o.av] =
 bif odIs (AV.agg [AV.ro (SE.con o.se) none, AV.ro (SY.con o.sy) none, AV.ro (RE.con o.re) none, AV.ro (FI.con o.fi) none, AV.ro (LI.con o.li) none]) && propB (odInv (odP (AV.agg [AV.ro (SE.con o.se) none, AV.ro (SY.con o.sy) none, AV.ro (RE.con o.re) none, AV.ro (FI.con o.fi) none, AV.ro (LI.con o.li) none]))) then
 bif objB (odP (AV.agg [AV.ro (SE.con o.se) none, AV.ro (SY.con o.sy) none, AV.ro (RE.con o.re) none, AV.ro (FI.con o.fi) none, AV.ro (LI.con o.li) none])) then
 bif odIs (AV.agg [AV.ro (SE.con o.se) none, AV.ro (SY.con o.sy) none, AV.ro (RE.con o.re) none, AV.ro (FI.con o.fi) none, AV.ro (LI.con o.li) none]) && propB (smlP (odP (AV.agg [AV.ro (SE.con o.se) none, AV.ro (SY.con o.sy) none, AV.ro (RE.con o.re) none, AV.ro (FI.con o.fi) none, AV.ro (LI.con o.li) none]))) then
 bif decide ((↑o.sy.length : Int) ≤ (↑o.sy.length : Int)) && decide ((↑o.sy.length : Int) * 8 ≤ 1099511627776) && decide ((↑o.sy.length : Int) ≤ 1099511627776) then
 bif isSt (sSt0 o (Tryz.oSt o) (List.replicate o.sy.length (0 : Int))) (sSt0 o (Tryz.oSt o) (List.replicate o.sy.length (0 : Int))) then
 bif isSt (sSt2 o K o.re T 0) (sSt2 o K o.re T 0) then
 bif propB p then
 some (.tup [.agg [.ro (.tab 5 (o.se.length) (fun i => SE.row (o.se.getD i SE.z))) none, .own 0 0 (K.length) none 6, .own 1 0 (R.length) none 5, .val (.slice none 0 0), .val (.slice none 0 0)], .val (.int .i64 0)], ⟨2, [⟨1, 0, .cells (.tab 5 (R.length) (fun i => RE.row (R.getD i RE.z)))⟩, ⟨0, 0, .cells (.tab 6 (K.length) (fun i => SY.row (K.getD i SY.z)))⟩]⟩)
 else
 none
 else
 none
 else
 none
 else
 none
 else
 none
 else
 some (.tup [.agg [.val (.slice none 0 0), .val (.slice none 0 0), .val (.slice none 0 0), .val (.slice none 0 0), .val (.slice none 0 0)], .val (.int .i64 30)], ⟨0, []⟩)
 else
 none := by kernel_rfl
def keptB (o : OD) (k : Nat) : Bool := ((o.sy.getD k SY.z).2.2.2.2.1 != 0) || (ixN (pXr o.re k) o.re.length).isSome
def stK (o : OD) : Nat → List SymD × List Int := Nat.rec ([], List.replicate o.sy.length 0) (fun k p => bif keptB o k then (p.1 ++ [o.sy.getD k SY.z], p.2.set k (p.1.length : Int)) else p)
def toR (T : List Int) (r : RelD) : RelD := (r.1, r.2.1, r.2.2.1, T.getD r.2.2.2.1.toNat 0, r.2.2.2.2)
def rK (R : List RelD) (T : List Int) : Nat → List RelD := Nat.rec R (fun k q => q.set k (toR T (q.getD k RE.z)))
def stripD (o : OD) : OD := ⟨o.se, (stK o o.sy.length).1, o.re.map (toR (stK o o.sy.length).2), [], []⟩
def s1St (o : OD) (k : Nat) : St := sSt1 o (stK o k).1 (stK o k).2 k
theorem stK_len (o : OD) : ∀ k, (stK o k).2.length = o.sy.length ∧ (stK o k).1.length ≤ k
  | 0 => ⟨by show (List.replicate o.sy.length (0 : Int)).length = _; simp, Nat.le_refl _⟩
  | k + 1 => by
    obtain ⟨h1, h2⟩ := stK_len o k
    have e : stK o (k + 1) = bif keptB o k then ((stK o k).1 ++ [o.sy.getD k SY.z], (stK o k).2.set k ((stK o k).1.length : Int)) else stK o k := rfl
    rw [e]
    cases keptB o k with
    | true => rw [cond_true]; exact ⟨by rw [List.length_set]; exact h1, by rw [List.length_append, List.length_singleton]; omega⟩
    | false => rw [cond_false]; exact ⟨h1, by omega⟩
theorem rK_len (R : List RelD) (T : List Int) : ∀ k, (rK R T k).length = R.length
  | 0 => rfl
  | k + 1 => by
    show ((rK R T k).set k _).length = _
    rw [List.length_set]; exact rK_len R T k
theorem rK_get (R : List RelD) (T : List Int) : ∀ k j, j < R.length → (rK R T k).getD j RE.z = bif Nat.blt j k then toR T (R.getD j RE.z) else R.getD j RE.z
  | 0, j, _ => by
    have : Nat.blt j 0 = false := by
      cases h : Nat.blt j 0 with
      | false => rfl
      | true => have := blt_iff.1 h; omega
    rw [this]; rfl
  | k + 1, j, hj => by
    have e : rK R T (k + 1) = (rK R T k).set k (toR T ((rK R T k).getD k RE.z)) := rfl
    rw [e, List.getD_eq_getElem?_getD, List.getElem?_set]
    by_cases h : k = j
    · subst h
      rw [if_pos rfl, if_pos (by rw [rK_len]; exact hj), rK_get R T k k hj, blt_t (show k < k + 1 by omega)]
      have : Nat.blt k k = false := by
        cases h : Nat.blt k k with
        | false => rfl
        | true => have := blt_iff.1 h; omega
      rw [this]; rfl
    · rw [if_neg h, ← List.getD_eq_getElem?_getD, rK_get R T k j hj]
      congr 1
      rw [Bool.eq_iff_iff, blt_iff, blt_iff]; omega
theorem rK_all (R : List RelD) (T : List Int) : rK R T R.length = R.map (toR T) := by
  refine List.ext_getElem (by rw [rK_len, List.length_map]) (fun i h1 h2 => ?_)
  rw [rK_len] at h1
  have := rK_get R T R.length i h1
  rw [blt_t h1, cond_true, List.getD_eq_getElem?_getD, List.getD_eq_getElem?_getD, List.getElem?_eq_getElem h1, List.getElem?_eq_getElem (by rw [rK_len]; exact h1)] at this
  rw [List.getElem_map]
  exact this
theorem AW.ownCap (id off len : Nat) (cap : Option Nat) (wd : Nat) : AW (.own id off len cap wd) (.own id off len none wd) := fun w c u h => by
  cases h with | own _ _ _ _ _ a m h1 h2 h3 h4 h5 => exact .own _ _ _ none _ a m h1 h2 h3 (fun _ q => by cases q) h5
theorem app_conW (K : List SymD) (x : SymD) : ConW (.tab 6 (K.length + 1) (fun i => bif i.blt K.length then SY.row (K.getD (0 + i) SY.z) else [SY.row x].getD (i - K.length) [])) (SY.con (K ++ [x])) := by
  refine ⟨rfl, by show (K ++ [x]).length = _; simp; rfl, fun i hi j v' hv => ?_⟩
  have hi : i < K.length + 1 := hi
  have hv : (SY.row ((K ++ [x]).getD i SY.z))[j]? = some v' := hv
  refine ⟨v', ?_, AW.refl _⟩
  show (bif i.blt K.length then SY.row (K.getD (0 + i) SY.z) else [SY.row x].getD (i - K.length) [])[j]? = some v'
  rcases Nat.lt_or_ge i K.length with q | q
  · rw [blt_t q, cond_true, Nat.zero_add]
    rw [List.getD_eq_getElem?_getD, List.getElem?_append_left q, ← List.getD_eq_getElem?_getD] at hv
    exact hv
  · have : i = K.length := by omega
    subst this
    have hb : Nat.blt K.length K.length = false := by
      cases h : Nat.blt K.length K.length with
      | false => rfl
      | true => have := blt_iff.1 h; omega
    rw [hb, cond_false, Nat.sub_self]
    rw [List.getD_eq_getElem?_getD, List.getElem?_append_right (Nat.le_refl _), Nat.sub_self] at hv
    exact hv
theorem set_conW (R : List RelD) (k : Nat) (x : List AV) (d : RelD) (hx : x = RE.row d) : ConW (.rows true 5 (tabSet R.length (fun i => RE.row (R.getD i RE.z)) k x)) (RE.con (R.set k d)) := by
  refine ⟨rfl, by show (R.set k d).length = (tabSet R.length _ k x).length; simp [tabSet], fun i hi j v' hv => ⟨v', ?_, AW.refl _⟩⟩
  have hi : i < R.length := by have hi : i < (tabSet R.length (fun i => RE.row (R.getD i RE.z)) k x).length := hi; simpa [tabSet] using hi
  have hv : (RE.row ((R.set k d).getD i RE.z))[j]? = some v' := hv
  show ((tabSet R.length (fun i => RE.row (R.getD i RE.z)) k x).getD i [])[j]? = some v'
  rw [List.getD_eq_getElem?_getD, List.getElem?_set] at hv
  unfold tabSet
  rw [List.getD_eq_getElem?_getD, List.getElem?_set]
  by_cases h : k = i
  · subst h
    rw [if_pos rfl, if_pos hi] at hv
    rw [if_pos rfl, if_pos (by simpa using hi), hx]
    exact hv
  · rw [if_neg h] at hv ⊢
    rw [List.getElem?_map, List.getElem?_range hi]
    rw [← List.getD_eq_getElem?_getD] at hv
    exact hv
theorem hSt_ok (o : OD) (K : List SymD) (R : List RelD) (T : List Int) : (hSt o K R T).ok := heap_ok [5, 4, 3, 2, 1, 0] rfl (by decide) (by decide)
theorem hSt2_ok (o : OD) (K : List SymD) (R : List RelD) (T : List Int) : (hSt2 o K R T).ok := heap_ok [4, 3, 2, 1, 0] rfl (by decide) (by decide)
theorem Tryz.eSt : EnvOk2 Tryz.prog Tryz.ESt := Tryz.envOk false (sumsOf Tryz.tSt) _ (sumsOf_ok (show AllS Tryz.prog Tryz.tSt from ⟨Tryz.sumPv, Tryz.sumCo, Tryz.sumXr, trivial⟩))
theorem sSt0_weak (o : OD) : Weak (sSt0 o o (List.replicate o.sy.length 0)) (s1St o 0) := by
  have h1 : Weak (sSt0 o o (List.replicate o.sy.length 0)) _ := Weak.slots (heap_ok [4, 3, 2, 1, 0] rfl (by decide) (by decide)) (.cons (AW.refl _) (.cons (AW.refl _) (.cons (AW.refl _) (.cons (AW.ownCap _ _ _ _ _) (AWs.refl _)))))
  have h2 := Weak.ofP (WeakP.nilCell (p := 0) (t := (stOf 74 [1, 2, 4, 5, 23, 24, 25] [.ptr 0 0 0, .ptr 1 0 0, .ptr 2 0 0, .own 4 0 o.sy.length none 1, .ro (SY.con o.sy) none, .val (.int .i64 (o.sy.length : Nat)), .val (.int .i64 0)] ⟨0, []⟩).t) (d := []) (n := 5)
    [⟨4, 0, .cells (.ints .i64 (List.replicate o.sy.length 0))⟩, ⟨3, 0, .cells (RE.con o.re)⟩] [⟨1, 0, .cells (.rows true 5 [nilRow])⟩, ⟨0, 0, .cells (.rows true 5 [o.row])⟩] (i0 := 2) (v0 := 0) (w := 5)
    (r := [.ro (SE.con o.se) none, .val (.slice none 0 0), .own 3 0 o.re.length none 5, .val (.slice none 0 0), .val (.slice none 0 0)]) (r' := [.ro (SE.con o.se) none, .own 5 0 0 none 6, .own 3 0 o.re.length none 5, .val (.slice none 0 0), .val (.slice none 0 0)]) (con := SY.con [])
    (heap_ok [4, 3, 2, 1, 0] rfl (by decide) (by decide)) rfl (.cons (.inl rfl) (.cons (.inr ⟨rfl, rfl⟩) (.cons (.inl rfl) (.cons (.inl rfl) (.cons (.inl rfl) .nil))))))
  have h3 := (h1.trans h2)
  have h4 := h3.trans (Weak.canon h3.1 [1, 2, 4, 5, 23, 24, 25])
  have e : (stK o 0).2.length = o.sy.length := (stK_len o 0).1
  have e2 : s1St o 0 = stOf 74 [1, 2, 4, 5, 23, 24, 25] [.ptr 0 0 0, .ptr 1 0 0, .ptr 2 0 0, .own 5 0 o.sy.length none 1, .ro (SY.con o.sy) none, .val (.int .i64 (o.sy.length : Nat)), .val (.int .i64 0)] (hSt o [] o.re (List.replicate o.sy.length 0)) := by
    unfold s1St sSt1; rw [e]; rfl
  rw [e2]
  exact h4
end Go.Ev
/- Strip: the summary. -/
namespace Go.Ev
open Go.Proofs
def x1St (o : OD) : AX × St := (.exit 0, stOf 74 [2, 4, 5] [.ptr 0 0 0, .ptr 1 0 0, .own 4 0 (stK o o.sy.length).2.length none 1] (hSt2 o (stK o o.sy.length).1 o.re (stK o o.sy.length).2))
def s2St (o : OD) (k : Nat) : St := sSt2 o (stK o o.sy.length).1 (rK o.re (stK o o.sy.length).2 k) (stK o o.sy.length).2 k
def x2St (o : OD) : AX × St := (.exit 2, stOf 74 [2, 4, 5] [.ptr 0 0 0, .ptr 1 0 0, .own 4 0 (stK o o.sy.length).2.length none 1] (hSt2 o (stK o o.sy.length).1 (o.re.map (toR (stK o o.sy.length).2)) (stK o o.sy.length).2))
def relS (o : OD) : Prop := ∀ r ∈ o.re, 0 ≤ r.2.2.2.1 ∧ r.2.2.2.1 < (o.sy.length : Int)
theorem keep_yes (o : OD) (k : Nat) (h : keptB o k = true) : stK o (k + 1) = ((stK o k).1 ++ [o.sy.getD k SY.z], (stK o k).2.set k ((stK o k).1.length : Int)) := by
  show (bif keptB o k then _ else _) = _
  rw [h]; rfl
theorem keep_no (o : OD) (k : Nat) (h : keptB o k = false) : stK o (k + 1) = stK o k := by
  show (bif keptB o k then _ else _) = _
  rw [h]; rfl
theorem s1_yes (o : OD) (k : Nat) (h : keptB o k = true) : Weak (stOf 74 [1, 2, 4, 5, 23, 24, 25] [.ptr 0 0 0, .ptr 1 0 0, .ptr 2 0 0, .own 5 0 (stK o k).2.length none 1, .ro (SY.con o.sy) none, .val (.int .i64 (o.sy.length : Int)), .val (.int .i64 ((k + 1 : Nat) : Int))]
    ⟨6, [⟨5, 0, .cells (.ints .i64 ((stK o k).2.set k ((stK o k).1.length : Int)))⟩, ⟨4, 0, .cells (RE.con o.re)⟩, ⟨3, 0, .cells (.tab 6 ((stK o k).1.length + 1) (fun i => bif i.blt (stK o k).1.length then SY.row ((stK o k).1.getD (0 + i) SY.z) else [SY.row (o.sy.getD k SY.z)].getD (i - (stK o k).1.length) []))⟩,
      ⟨2, 0, .cells (.rows false 5 [[.ro (SE.con o.se) none, .own 3 0 ((stK o k).1.length + 1) none 6, .own 4 0 o.re.length none 5, .val (.slice none 0 0), .val (.slice none 0 0)]])⟩, ⟨1, 0, .cells (.rows true 5 [nilRow])⟩, ⟨0, 0, .cells (.rows true 5 [o.row])⟩]⟩) (s1St o (k + 1)) := by
  have e := keep_yes o k h
  have e2 : s1St o (k + 1) = stOf 74 [1, 2, 4, 5, 23, 24, 25] [.ptr 0 0 0, .ptr 1 0 0, .ptr 2 0 0, .own 5 0 (stK o k).2.length none 1, .ro (SY.con o.sy) none, .val (.int .i64 (o.sy.length : Int)), .val (.int .i64 ((k + 1 : Nat) : Int))]
    ⟨6, [⟨5, 0, .cells (.ints .i64 ((stK o k).2.set k ((stK o k).1.length : Int)))⟩, ⟨4, 0, .cells (RE.con o.re)⟩, ⟨3, 0, .cells (SY.con ((stK o k).1 ++ [o.sy.getD k SY.z]))⟩,
      ⟨2, 0, .cells (.rows false 5 [[.ro (SE.con o.se) none, .own 3 0 ((stK o k).1.length + 1) none 6, .own 4 0 o.re.length none 5, .val (.slice none 0 0), .val (.slice none 0 0)]])⟩, ⟨1, 0, .cells (.rows true 5 [nilRow])⟩, ⟨0, 0, .cells (.rows true 5 [o.row])⟩]⟩ := by
    unfold s1St sSt1 hSt rowSt
    rw [e]
    simp only [List.length_set, List.length_append, List.length_singleton]
  rw [e2]
  exact Weak.heap (heap_ok [5, 4, 3, 2, 1, 0] rfl (by decide) (by decide)) (.same _ (.same _ (.con 3 0 0 rfl (app_conW _ _) (.same _ (.same _ (.same _ .nil))))))
theorem Tryz.lSt1 (o : OD) (hn : o.sy.length ≤ 1000000) (hr : o.re.length ≤ 1000000) : ∀ s e s', s.h.ok → (Tryz.LSt1 o (x1St o) s).run = some (e, s') → Triple Tryz.prog (.loop (Tryz.bSt 0)) s e s' := by
  unfold Tryz.LSt1
  rw [show Tryz.oSt o = o from odP_row o]
  refine loop_at Tryz.eSt (d := 6) (g := 29) (ls := lsumsOf []) (c := Tryz.bSt 0) (by rw [show loopsOf (Tryz.bSt 0) = [] by kernel_rfl]; trivial) [1, 2, 4, 5, 23, 24, 25] [2, 4, 5] (T := Nat) (s1St o) (fun k => k ≤ o.sy.length) (fun k => o.sy.length - k) (fun _ => x1St o) _ _ 0 (Nat.zero_le _) (sSt0_weak o) ?_ (fun _ _ => hSt_ok _ _ _ _) ?_
  · intro e s' h; injection h
  · intro k hk
    obtain ⟨t1, t2⟩ := stK_len o k
    have key : Tryz.BSt1 (s1St o k) = _ := Tryz.rSt1 o (stK o k).1 (stK o k).2 k
    rw [declt_nat, inR_nat, wrapS k (by omega), inR_nat, Nat.zero_add, Nat.zero_add] at key
    by_cases h : k < o.sy.length
    · have l1 : RE.list (RE.con o.re) = o.re := RE.list_con _
      rw [decide_eq_true h, decide_eq_true (show k < (stK o k).2.length by omega), blt_t (show k < (stK o k).2.length by omega), ble_t (Nat.le_refl _), ble_t (show ((stK o k).1.length + 1) * 56 ≤ most by rw [most_eq]; omega), ble_t (show (stK o k).1.length + 1 ≤ most by rw [most_eq]; omega), RE.ok_con, ble_t hr, l1] at key
      simp only [cond_true, Bool.and_self] at key
      cases hb : keptB o k with
      | true =>
        refine .inl ⟨k + 1, _, ?_, s1_yes o k hb, h, by omega, rfl⟩
        refine key.trans ?_
        unfold keptB at hb
        cases h1 : ((o.sy.getD k SY.z).2.2.2.2.1 != 0) with
        | true => rfl
        | false =>
          rw [h1, Bool.false_or] at hb
          rw [hb]; rfl
      | false =>
        have e : s1St o (k + 1) = sSt1 o (stK o k).1 (stK o k).2 (k + 1) := by unfold s1St; rw [keep_no o k hb]
        refine .inl ⟨k + 1, _, ?_, Weak.refl (hSt_ok _ _ _ _), h, by omega, rfl⟩
        rw [e]
        refine key.trans ?_
        unfold keptB at hb
        rw [Bool.or_eq_false_iff] at hb
        rw [hb.1, hb.2]; rfl
    · rw [decide_eq_false h] at key
      have : k = o.sy.length := by omega
      subst this
      exact .inr ⟨_, key, Weak.refl (hSt2_ok _ _ _ _), by show (AX.exit 0) ≠ .normal; simp⟩
theorem Tryz.lSt2 (o : OD) (hr : o.re.length ≤ 1000000) : ∀ s e s', s.h.ok → (Tryz.LSt2 (sSt2 o (stK o o.sy.length).1 o.re (stK o o.sy.length).2 0) (relS o) (x2St o) s).run = some (e, s') → Triple Tryz.prog (.loop (Tryz.bSt 1)) s e s' := by
  refine atL_grd (fun hp => ?_)
  have hs := propB_eq hp
  refine loop_at Tryz.eSt (d := 6) (g := 29) (ls := lsumsOf []) (c := Tryz.bSt 1) (by rw [show loopsOf (Tryz.bSt 1) = [] by kernel_rfl]; trivial) [2, 4, 5, 54, 55] [2, 4, 5] (T := Nat) (s2St o) (fun k => k ≤ o.re.length) (fun k => o.re.length - k) (fun _ => x2St o) _ _ 0 (Nat.zero_le _) (Weak.refl (hSt2_ok _ _ _ _)) ?_ (fun _ _ => hSt2_ok _ _ _ _) ?_
  · intro e s' h; injection h
  · intro k hk
    have t1 := (stK_len o o.sy.length).1
    have hl := rK_len o.re (stK o o.sy.length).2 k
    have key : Tryz.BSt2 (s2St o k) = _ := Tryz.rSt2 o (stK o o.sy.length).1 (rK o.re (stK o o.sy.length).2 k) (stK o o.sy.length).2 k
    rw [declt_nat, inR_nat, wrapS k (by omega), Nat.zero_add, Nat.zero_add] at key
    by_cases h : k < o.re.length
    · have hg := rK_get o.re (stK o o.sy.length).2 k k h
      have hb : Nat.blt k k = false := by
        cases h : Nat.blt k k with
        | false => rfl
        | true => have := blt_iff.1 h; omega
      rw [hb, cond_false] at hg
      obtain ⟨s1, s2⟩ := hs _ (getD_mem (d := RE.z) h)
      rw [decide_eq_true (show k < (rK o.re (stK o o.sy.length).2 k).length by omega), blt_t (show k < (rK o.re (stK o o.sy.length).2 k).length by omega), hg, inR_prop.2 ⟨s1, by omega⟩, blt_t (show (o.re.getD k RE.z).2.2.2.1.toNat < (stK o o.sy.length).2.length by omega)] at key
      refine .inl ⟨k + 1, _, key, ?_, h, by omega, rfl⟩
      have e : s2St o (k + 1) = stOf 74 [2, 4, 5, 54, 55] [.ptr 0 0 0, .ptr 1 0 0, .own 4 0 (stK o o.sy.length).2.length none 1, .val (.int .i64 ((rK o.re (stK o o.sy.length).2 k).length : Int)), .val (.int .i64 ((k + 1 : Nat) : Int))]
        ⟨5, [⟨4, 0, .cells (.ints .i64 (stK o o.sy.length).2)⟩, ⟨3, 0, .cells (RE.con ((rK o.re (stK o o.sy.length).2 k).set k (toR (stK o o.sy.length).2 (o.re.getD k RE.z))))⟩, ⟨2, 0, .cells (SY.con (stK o o.sy.length).1)⟩, ⟨1, 0, .cells (.rows false 5 [[.ro (SE.con o.se) none, .own 2 0 (stK o o.sy.length).1.length none 6, .own 3 0 (rK o.re (stK o o.sy.length).2 k).length none 5, .val (.slice none 0 0), .val (.slice none 0 0)]])⟩, ⟨0, 0, .cells (.rows true 5 [nilRow])⟩]⟩ := by
        have e0 : rK o.re (stK o o.sy.length).2 (k + 1) = (rK o.re (stK o o.sy.length).2 k).set k (toR (stK o o.sy.length).2 (o.re.getD k RE.z)) := by
          show (rK o.re (stK o o.sy.length).2 k).set k (toR (stK o o.sy.length).2 ((rK o.re (stK o o.sy.length).2 k).getD k RE.z)) = _
          rw [hg]
        unfold s2St sSt2 hSt2
        rw [e0, List.length_set]
      rw [e]
      refine Weak.heap (heap_ok [4, 3, 2, 1, 0] rfl (by decide) (by decide)) (.same _ (.con 3 0 0 rfl (set_conW _ _ _ _ ?_) (.same _ (.same _ (.same _ .nil)))))
      rfl
    · rw [decide_eq_false (show ¬ k < (rK o.re (stK o o.sy.length).2 k).length by omega)] at key
      have hk2 : k = o.re.length := by omega
      rw [hk2, rK_all] at key
      rw [hk2]
      refine .inr ⟨_, key, Weak.refl (hSt2_ok _ _ _ _), by show (AX.exit 2) ≠ .normal; simp⟩
def stripV (o : OD) : AV := .tup [(stripD o).av, .val (.int .i64 0)]
def noObjV : AV := .tup [.agg [.val (.slice none 0 0), .val (.slice none 0 0), .val (.slice none 0 0), .val (.slice none 0 0), .val (.slice none 0 0)], .val (.int .i64 30)]
def stInv (o : OD) : Prop := odInv o ∧ smlP o
def stripS (args : List AV) : Ans (AV × Heap) := match args with
  | [ov] => .grd (odIs ov && propB (stInv (odP ov))) (.br (objB (odP ov)) (.out (stripV (odP ov), ⟨0, []⟩)) (.out (noObjV, ⟨0, []⟩)))
  | _ => .no
theorem obj_relS {o : OD} (h : objB o = true) : relS o := by
  intro r hr
  unfold objB relsB at h
  simp only [Bool.and_eq_true, decide_eq_true_eq] at h
  obtain ⟨i, hi, rfl⟩ := List.getElem_of_mem hr
  have := propB_eq (allOk_iff.1 h.2.2.1.2 i hi)
  have q := this.2.2.1
  rw [List.getD_eq_getElem?_getD, List.getElem?_eq_getElem hi] at q
  exact q
theorem Tryz.alSt (o : OD) (hi : stInv o) : Alone Tryz.prog 29 [o.av] (bif objB o then stripV o else noObjV) ⟨0, []⟩ := by
  obtain ⟨i1, i2⟩ := hi
  have key := Tryz.wSt o (stK o o.sy.length).1 (o.re.map (toR (stK o o.sy.length).2)) (stK o o.sy.length).2 (relS o)
  have run := fun v h2 => rootS_alone Tryz.eSt (d := 6) (g := 29) (args := [o.av]) (v := v) (h2 := h2) (ls := lsumsOf [(7, Tryz.LSt1 o (x1St o)), (14, Tryz.LSt2 (sSt2 o (stK o o.sy.length).1 o.re (stK o o.sy.length).2 0) (relS o) (x2St o))])
    (AllL.of2 (a := Tryz.bSt 0) (b := Tryz.bSt 1) (by kernel_rfl) (LsOk.of rfl rfl (Tryz.lSt1 o i2.2.1 i2.2.2.1)) (LsOk.of rfl rfl (Tryz.lSt2 o i2.2.2.1)))
  rw [show AV.agg [AV.ro (SE.con o.se) none, AV.ro (SY.con o.sy) none, AV.ro (RE.con o.re) none, AV.ro (FI.con o.fi) none, AV.ro (LI.con o.li) none] = .agg o.row from rfl, odP_row, odIs_row, propB_t i1, propB_t i2, isSt_refl, isSt_refl] at key
  have c1 : decide ((o.sy.length : Int) ≤ (o.sy.length : Int)) = true := decide_eq_true (Int.le_refl _)
  have c2 : decide ((o.sy.length : Int) * 8 ≤ 1099511627776) = true := decide_eq_true (by have := i2.2.1; omega)
  have c3 : decide ((o.sy.length : Int) ≤ 1099511627776) = true := decide_eq_true (by have := i2.2.1; omega)
  rw [c1, c2, c3] at key
  cases hb : objB o with
  | false =>
    rw [hb] at key
    exact run _ _ key
  | true =>
    rw [hb, propB_t (obj_relS hb)] at key
    rw [cond_true]
    have q := run _ _ key
    have q2 := Alone.fz2 (c1 := RE.con (o.re.map (toR (stK o o.sy.length).2))) (c0 := SY.con (stK o o.sy.length).1) rfl rfl
      (v1 := .tup [.agg [.ro (SE.con o.se) none, .own 0 0 (stK o o.sy.length).1.length none 6, .ro (RE.con (o.re.map (toR (stK o o.sy.length).2))) none, .val (.slice none 0 0), .val (.slice none 0 0)], .val (.int .i64 0)])
      (v' := .tup [.agg [.ro (SE.con o.se) none, .ro (SY.con (stK o o.sy.length).1) none, .ro (RE.con (o.re.map (toR (stK o o.sy.length).2))) none, .val (.slice none 0 0), .val (.slice none 0 0)], .val (.int .i64 0)])
      (by kernel_rfl) (.tup1 (.cons (.inl rfl) (.cons (.inl rfl) (.cons (.inr (.inr ⟨none, rfl, rfl⟩)) (.cons (.inl rfl) (.cons (.inl rfl) .nil)))))) (.tup1 (.cons (.inl rfl) (.cons (.inr (.inr ⟨none, rfl, rfl⟩)) (.cons (.inl rfl) (.cons (.inl rfl) (.cons (.inl rfl) .nil)))))) q
    exact Alone.resW (AW.tup (.cons (AW.agg (.cons (AW.refl _) (.cons (AW.refl _) (.cons (AW.refl _) (.cons (AW.nil rfl) (.cons (AW.nil rfl) .nil)))))) (AWs.refl _))) q2
theorem Tryz.sumSt : SumC Tryz.prog 29 (roA stripS) := by
  refine roSumR 29 ⟨Tryz.f29, _, Tryz.fnOk29.1, Tryz.fnOk29.2, rfl⟩ ?_
  intro args v h2 hs
  unfold stripS at hs
  split at hs
  · rename_i ov
    rw [Ans.run_grd] at hs
    cases hb : (odIs ov && propB (stInv (odP ov))) with
    | false => rw [hb] at hs; cases hs
    | true =>
    rw [hb, cond_true, Ans.run_br] at hs
    rw [Bool.and_eq_true] at hb
    have key := Alone.argsW (AWs.args (.cons (od_aw hb.1) .nil)) (Tryz.alSt _ (propB_eq hb.2))
    cases ho : objB (odP ov) with
    | true =>
      rw [ho] at hs key
      injection hs with hs
      injection hs with q1 q2
      subst q1; subst q2
      exact ⟨fun e he => (by cases he), key⟩
    | false =>
      rw [ho] at hs key
      injection hs with hs
      injection hs with q1 q2
      subst q1; subst q2
      exact ⟨fun e he => (by cases he), key⟩
  · cases hs
end Go.Ev
/- The symbols that relocations name; lists that hold a symbol. -/
namespace Go.Ev
open Go.Proofs
def Tryz.ENs : Env := Tryz.env0 false (sumsOf []) (keepF 31 [(3, [1, 3, 7, 8, 9])])
def Tryz.bNs : Code := nthD .skip (loopsOf (bodyOf Tryz.ENs 31)) 0
def Tryz.BNs (s : St) : Option (AX × St) := codeS Tryz.ENs (callF Tryz.ENs 6) (Tryz.ENs.keep 31) (lsumsOf []) Tryz.bNs (outK [1, 3, 7, 8, 9] [3]) s
def symN (o : OD) (r : RelD) : SymD := o.sy.getD r.2.2.2.1.toNat SY.z
def nmK (o : OD) : Nat → List SymD := Nat.rec [] (fun k N => N ++ [symN o (o.re.getD k RE.z)])
def namesD (o : OD) : List SymD := o.re.map (symN o)
def sNs (o : OD) (N : List SymD) (k : Nat) : St := stOf 35 [1, 3, 7, 8, 9] [.ptr 0 0 0, .own 1 0 N.length none 6, .ro (RE.con o.re) none, .val (.int .i64 (o.re.length : Nat)), .val (.int .i64 k)] ⟨2, [⟨1, 0, .cells (SY.con N)⟩, ⟨0, 0, .cells (.rows true 5 [o.row])⟩]⟩
def sNs0 (o : OD) : St := stOf 35 [1, 3, 7, 8, 9] [.ptr 0 0 0, .val (.slice none 0 0), .ro (RE.con o.re) none, .val (.int .i64 (o.re.length : Nat)), .val (.int .i64 0)] (hO o)
def xNs (N : List SymD) : St := stOf 35 [3] [.own 0 0 N.length none 6] (oneH (SY.con N))
def Tryz.LNs (o : OD) : LSum := atL (sNs0 o) (.grd (propB (relS o ∧ o.re.length ≤ 1000000)) (.out (.exit 0, xNs (namesD o))))
def Tryz.EIy : Env := Tryz.env0 false (sumsOf []) (keepF 91 [(2, [0, 3, 7, 8])])
def Tryz.bIy : Code := nthD .skip (loopsOf (bodyOf Tryz.EIy 91)) 0
def Tryz.BIy (s : St) : Option (AX × St) := codeS Tryz.EIy (callF Tryz.EIy 6) (Tryz.EIy.keep 91) (lsumsOf []) Tryz.bIy (outK [0, 3, 7, 8] [4]) s
def sIy (L : List SymD) (x : SymD) (k : Nat) : St := stOf 19 [0, 3, 7, 8] [.ro (SY.con L) none, .ptr 0 0 0, .val (.int .i64 (L.length : Nat)), .val (.int .i64 k)] ⟨1, [⟨0, 0, .cells (.rows true 6 [syRow x])⟩]⟩
def pIy (L : List SymD) (x : SymD) (k : Nat) : Bool := ceqSy x (L.getD k SY.z)
def Tryz.LIy (L : List SymD) (x : SymD) : LSum := ixL 19 4 0 (sIy L x 0) (ixN (pIy L x) L.length)
def iyS (args : List AV) : Ans (AV × Heap) := match args with
  | [.ro c cap, .agg r] => .grd (SY.ok c && (syIs r && Nat.ble c.len 1000000)) (ixO (ixN (pIy (SY.list c) (syParse r)) (SY.list c).length))
  | _ => .no
def names1 (ov : AV) : Ans (AV × Heap) := .grd (odIs ov && propB (relS (odP ov) ∧ (odP ov).re.length ≤ 1000000)) (.out (.ro (SY.con (namesD (odP ov))) none, ⟨0, []⟩))
def namesS (args : List AV) : Ans (AV × Heap) := match args with
  | [.agg [.ro c1 k1, .ro c2 k2, .ro c3 k3, .ro c4 k4, .ro c5 k5]] => names1 (.agg [.ro c1 k1, .ro c2 k2, .ro c3 k3, .ro c4 k4, .ro c5 k5])
  | _ => .no
theorem Tryz.rNs (o : OD) (N : List SymD) (k : Nat) : Tryz.BNs (sNs o N k) =
 bif decide ((↑k : Int) < (↑o.re.length : Int)) then
 bif inR (↑k : Int) o.re.length then
 bif decide ((o.re.getD k RE.z).snd.snd.snd.fst < 0) then
 some (.ret, stOf 35 [3] [.own 0 0 (N.length) none 6] ⟨1, [⟨0, 0, .cells (.tab 6 (N.length) (fun i => SY.row (N.getD i SY.z)))⟩]⟩ )
 else
 bif decide ((o.re.getD k RE.z).snd.snd.snd.fst ≥ (↑o.sy.length : Int)) then
 some (.ret, stOf 35 [3] [.own 0 0 (N.length) none 6] ⟨1, [⟨0, 0, .cells (.tab 6 (N.length) (fun i => SY.row (N.getD i SY.z)))⟩]⟩ )
 else
 bif inR (o.re.getD k RE.z).snd.snd.snd.fst o.sy.length then
 bif (0 + N.length).ble N.length then
 bif ((N.length + 1) * 56).ble most && (N.length + 1).ble most then
 some (.normal, stOf 35 [1, 3, 7, 8, 9] [.ptr 0 0 0, .own 1 0 (N.length + 1) none 6, .ro (RE.con o.re) none, .val (.int .i64 ((↑o.re.length : Int))), .val (.int .i64 (IntKind.i64.wrap ((↑k : Int) + 1)))] ⟨2, [⟨1, 0, .cells (.tab 6 (N.length + 1) (fun i => bif i.blt N.length then SY.row (N.getD (0 + i) SY.z) else [[AV.val (Value.string (o.sy.getD (o.re.getD k RE.z).snd.snd.snd.fst.toNat SY.z).fst), AV.val (Value.int IntKind.i64 (o.sy.getD (o.re.getD k RE.z).snd.snd.snd.fst.toNat SY.z).snd.fst), AV.val (Value.int IntKind.u32 (o.sy.getD (o.re.getD k RE.z).snd.snd.snd.fst.toNat SY.z).snd.snd.fst), AV.val (Value.int IntKind.i64 (o.sy.getD (o.re.getD k RE.z).snd.snd.snd.fst.toNat SY.z).snd.snd.snd.fst), AV.val (Value.int IntKind.i64 (o.sy.getD (o.re.getD k RE.z).snd.snd.snd.fst.toNat SY.z).snd.snd.snd.snd.fst), AV.val (Value.int IntKind.i64 (o.sy.getD (o.re.getD k RE.z).snd.snd.snd.fst.toNat SY.z).snd.snd.snd.snd.snd)]].getD (i - N.length) []))⟩, ⟨0, 0, .cells (.rows true 5 ([.ro (.tab 5 (o.se.length) (fun i => SE.row (o.se.getD i SE.z))) none, .ro (.tab 6 (o.sy.length) (fun i => SY.row (o.sy.getD i SY.z))) none, .ro (RE.con o.re) none, .ro (.tab 1 (o.fi.length) (fun i => FI.row (o.fi.getD i FI.z))) none, .ro (.tab 4 (o.li.length) (fun i => LI.row (o.li.getD i LI.z))) none] :: []))⟩]⟩ )
 else
 none
 else
 none
 else
 none
 else
 none
 else
 some (.exit 0, stOf 35 [3] [.own 0 0 (N.length) none 6] ⟨1, [⟨0, 0, .cells (.tab 6 (N.length) (fun i => SY.row (N.getD i SY.z)))⟩]⟩ ) := by kernel_rfl
theorem Tryz.wNs (o : OD) : rootS Tryz.ENs 6 31 (lsumsOf [(3, Tryz.LNs o)]) [o.av] =
 bif isSt (sNs0 o) (sNs0 o) then
 bif propB (relS o ∧ o.re.length ≤ 1000000) then
 some (.own 0 0 ((namesD o).length) none 6, ⟨1, [⟨0, 0, .cells (.tab 6 ((namesD o).length) (fun i => SY.row ((namesD o).getD i SY.z)))⟩]⟩)
 else
 none
 else
 none := by kernel_rfl
theorem Tryz.rIy (L : List SymD) (x : SymD) (k : Nat) : Tryz.BIy (sIy L x k) =
 bif decide ((↑k : Int) < (↑L.length : Int)) then
 bif inR (↑k : Int) L.length then
 bif x.fst == (L.getD k SY.z).fst && (x.snd.fst == (L.getD k SY.z).snd.fst && (x.snd.snd.fst == (L.getD k SY.z).snd.snd.fst && (x.snd.snd.snd.fst == (L.getD k SY.z).snd.snd.snd.fst && (x.snd.snd.snd.snd.fst == (L.getD k SY.z).snd.snd.snd.snd.fst && (x.snd.snd.snd.snd.snd == (L.getD k SY.z).snd.snd.snd.snd.snd && true))))) then
 some (.ret, stOf 19 [4] [.val (.int .i64 (↑k : Int))] ⟨0, []⟩)
 else
 some (.normal, stOf 19 [0, 3, 7, 8] [.ro (.tab 6 (L.length) (fun i => SY.row (L.getD i SY.z))) none, .ptr 0 0 0, .val (.int .i64 ((↑L.length : Int))), .val (.int .i64 (IntKind.i64.wrap ((↑k : Int) + 1)))] ⟨1, [⟨0, 0, .cells (.rows true 6 ([.val (Value.string x.fst), .val (.int .i64 (x.snd.fst)), .val (.int .u32 (x.snd.snd.fst)), .val (.int .i64 (x.snd.snd.snd.fst)), .val (.int .i64 (x.snd.snd.snd.snd.fst)), .val (.int .i64 (x.snd.snd.snd.snd.snd))] :: []))⟩]⟩ )
 else
 none
 else
 some (.exit 0, stOf 19 [] [] ⟨0, []⟩) := by kernel_rfl
theorem Tryz.wIy (L : List SymD) (x : SymD) : rootS Tryz.EIy 6 91 (lsumsOf [(2, Tryz.LIy L x)]) [.ro (SY.con L) none, .agg (syRow x)] =
 bif isSt (sIy L x 0) (sIy L x 0) then
 bif (ixN (pIy L x) L.length).isSome then
 some (.val (.int .i64 (Int.ofNat ((ixN (pIy L x) L.length).getD 0))), ⟨0, []⟩)
 else
 some (.val (.int .i64 (-1)), ⟨0, []⟩)
 else
 none := by kernel_rfl
theorem Tryz.eNs : EnvOk2 Tryz.prog Tryz.ENs := Tryz.envOk false (sumsOf []) _ (fun g A h => by cases h)
theorem Tryz.eIy : EnvOk2 Tryz.prog Tryz.EIy := Tryz.envOk false (sumsOf []) _ (fun g A h => by cases h)
theorem sNs_ok (o : OD) (N : List SymD) (k : Nat) : (sNs o N k).h.ok := heap_ok [1, 0] rfl (by decide) (by decide)
theorem nmK_len (o : OD) : ∀ k, (nmK o k).length = k
  | 0 => rfl
  | k + 1 => by
    show (nmK o k ++ [_]).length = _
    rw [List.length_append, nmK_len o k]; rfl
theorem nmK_take (o : OD) : ∀ k, k ≤ o.re.length → nmK o k = (o.re.take k).map (symN o)
  | 0, _ => rfl
  | k + 1, h => by
    have e : nmK o (k + 1) = nmK o k ++ [symN o (o.re.getD k RE.z)] := rfl
    have h2 : k < o.re.length := by omega
    have e3 : o.re.getD k RE.z = o.re[k] := by rw [List.getD_eq_getElem?_getD, List.getElem?_eq_getElem h2]; rfl
    rw [e, nmK_take o k (by omega), List.take_add_one, List.getElem?_eq_getElem h2, List.map_append, e3]; rfl
theorem nmK_all (o : OD) : nmK o o.re.length = namesD o := by
  rw [nmK_take o _ (Nat.le_refl _), List.take_of_length_le (Nat.le_refl _)]; rfl
theorem sNs0_weak (o : OD) : Weak (sNs0 o) (sNs o [] 0) := by
  have h1 := Weak.nil (s := sNs0 o) (hO_ok o) 3 (SY.con []) rfl rfl
  have h2 := h1.trans (Weak.canon h1.1 [1, 3, 7, 8, 9])
  have e : canon (some [1, 3, 7, 8, 9]) (nil1 3 (SY.con []) (sNs0 o)) = sNs o [] 0 := by kernel_rfl
  rw [e] at h2
  exact h2
theorem Tryz.lNs (o : OD) : ∀ s e s', s.h.ok → (Tryz.LNs o s).run = some (e, s') → Triple Tryz.prog (.loop Tryz.bNs) s e s' := by
  refine atL_grd (fun hp => ?_)
  obtain ⟨hs, hl⟩ := propB_eq hp
  refine loop_at Tryz.eNs (d := 6) (g := 31) (ls := lsumsOf []) (c := Tryz.bNs) trivial [1, 3, 7, 8, 9] [3] (T := Nat) (fun k => sNs o (nmK o k) k) (fun k => k ≤ o.re.length) (fun k => o.re.length - k) (fun _ => (.exit 0, xNs (namesD o))) _ _ 0 (Nat.zero_le _) (sNs0_weak o) ?_ (fun _ _ => sNs_ok _ _ _) ?_
  · intro e s' h; injection h
  · intro k hk
    have hn := nmK_len o k
    have key : Tryz.BNs (sNs o (nmK o k) k) = _ := Tryz.rNs o (nmK o k) k
    rw [declt_nat, inR_nat, wrapS k (by omega)] at key
    by_cases h : k < o.re.length
    · obtain ⟨s1, s2⟩ := hs _ (getD_mem (d := RE.z) h)
      rw [decide_eq_true h, decide_eq_false (show ¬ (o.re.getD k RE.z).2.2.2.1 < 0 by omega), decide_eq_false (show ¬ (o.re.getD k RE.z).2.2.2.1 ≥ (o.sy.length : Int) by omega), inR_prop.2 ⟨s1, s2⟩, ble_t (show 0 + (nmK o k).length ≤ (nmK o k).length by omega), ble_t (show ((nmK o k).length + 1) * 56 ≤ most by rw [most_eq]; omega), ble_t (show (nmK o k).length + 1 ≤ most by rw [most_eq]; omega)] at key
      refine .inl ⟨k + 1, _, key, ?_, h, by omega, rfl⟩
      have e : sNs o (nmK o (k + 1)) (k + 1) = stOf 35 [1, 3, 7, 8, 9] [.ptr 0 0 0, .own 1 0 ((nmK o k).length + 1) none 6, .ro (RE.con o.re) none, .val (.int .i64 (o.re.length : Nat)), .val (.int .i64 ((k + 1 : Nat) : Int))] ⟨2, [⟨1, 0, .cells (SY.con (nmK o k ++ [symN o (o.re.getD k RE.z)]))⟩, ⟨0, 0, .cells (.rows true 5 [o.row])⟩]⟩ := by
        unfold sNs
        rw [nmK_len o (k + 1), nmK_len o k]; rfl
      rw [e]
      exact Weak.heap (heap_ok [1, 0] rfl (by decide) (by decide)) (.con 1 0 0 rfl (app_conW _ _) (.same _ .nil))
    · rw [decide_eq_false h] at key
      have hk2 : k = o.re.length := by omega
      rw [hk2, nmK_all] at key
      rw [hk2, nmK_all]
      exact .inr ⟨_, key, Weak.refl (oneH_ok _), by simp⟩
theorem Tryz.alNs (o : OD) (hs : relS o) (hl : o.re.length ≤ 1000000) : Alone Tryz.prog 31 [o.av] (.ro (SY.con (namesD o)) none) ⟨0, []⟩ := by
  have key := Tryz.wNs o
  rw [isSt_refl, propB_t (show relS o ∧ o.re.length ≤ 1000000 from ⟨hs, hl⟩)] at key
  exact Alone.freeze (con := SY.con (namesD o)) rfl (rootS_alone Tryz.eNs (d := 6) (g := 31) (ls := lsumsOf [(3, Tryz.LNs o)]) (AllL.of1 (a := Tryz.bNs) (by kernel_rfl) (LsOk.of rfl rfl (Tryz.lNs o))) key)
theorem Tryz.sumNs : SumC Tryz.prog 31 (roA namesS) := by
  refine roSumR 31 ⟨Tryz.f31, _, Tryz.fnOk31.1, Tryz.fnOk31.2, rfl⟩ ?_
  intro args v h2 hs
  unfold namesS at hs
  split at hs
  · rename_i c1 k1 c2 k2 c3 k3 c4 k4 c5 k5
    generalize AV.agg [.ro c1 k1, .ro c2 k2, .ro c3 k3, .ro c4 k4, .ro c5 k5] = ov at hs ⊢
    unfold names1 at hs
    rw [Ans.run_grd] at hs
    cases hb : (odIs ov && propB (relS (odP ov) ∧ (odP ov).re.length ≤ 1000000)) with
    | false => rw [hb] at hs; cases hs
    | true =>
    rw [hb, cond_true] at hs
    rw [Bool.and_eq_true] at hb
    obtain ⟨p1, p2⟩ := propB_eq hb.2
    injection hs with hs
    injection hs with q1 q2
    subst q1; subst q2
    exact ⟨fun e he => (by cases he), Alone.argsW (AWs.args (.cons (od_aw hb.1) .nil)) (Tryz.alNs _ p1 p2)⟩
  · cases hs
theorem Tryz.lIy (L : List SymD) (x : SymD) (hL : L.length ≤ 1000000) : ∀ s e s', s.h.ok → (Tryz.LIy L x s).run = some (e, s') → Triple Tryz.prog (.loop Tryz.bIy) s e s' := by
  refine ix_lawS Tryz.eIy (d := 6) (g := 91) (c := Tryz.bIy) rfl 19 4 0 [0, 3, 7, 8] (sIy L x) (fun _ => oneH_ok _) (pIy L x) L.length (fun k hk => ?_)
  have key : Tryz.BIy (sIy L x k) = _ := Tryz.rIy L x k
  rw [declt_nat, inR_nat, wrapS k (by omega)] at key
  refine key.trans ?_
  by_cases h : k < L.length
  · rw [decide_eq_true h]
    simp only [cond_true]
    show (bif ceqSy x (L.getD k SY.z) then _ else _) = _
    unfold pIy
    cases ceqSy x (L.getD k SY.z) <;> rfl
  · rw [decide_eq_false h]; rfl
theorem Tryz.sumIy : SumC Tryz.prog 91 (pureA (fun args => iyS (nzs [SY.con []] args))) := by
  refine pureSumR 91 ⟨Tryz.f91, _, Tryz.fnOk91.1, Tryz.fnOk91.2, rfl⟩ ?_
  intro args v h2 hs
  refine Alone.nz (cs := [SY.con []]) (by simp [Con.len, RowTy.con]) ?_
  replace hs : (iyS (nzs [SY.con []] args)).run = some (v, h2) := hs
  generalize nzs [SY.con []] args = args' at hs ⊢
  unfold iyS at hs
  split at hs
  · rename_i c cap r
    rw [Ans.run_grd] at hs
    cases hb : (SY.ok c && (syIs r && Nat.ble c.len 1000000)) with
    | false => rw [hb] at hs; cases hs
    | true =>
    rw [hb, cond_true] at hs
    simp only [Bool.and_eq_true, Nat.ble_eq] at hb
    have hi : (SY.list c).length ≤ 1000000 := by rw [SY.list_len]; exact hb.2.2
    refine Alone.argsW (AWs.args (.cons (SY.aw hb.1 cap) (.cons (AW.agg (sy_aws hb.2.1)) .nil))) ?_
    refine rootS_alone Tryz.eIy (d := 6) (g := 91) (ls := lsumsOf [(2, Tryz.LIy (SY.list c) (syParse r))]) (AllL.of1 (a := Tryz.bIy) (by kernel_rfl) (LsOk.of rfl rfl (Tryz.lIy _ _ hi))) ((Tryz.wIy _ _).trans ?_)
    rw [isSt_refl, cond_true]
    exact hs
  · cases hs
end Go.Ev
/- ObjStripped: the run. -/
namespace Go.Ev
open Go.Proofs
def Tryz.tSp : List (Nat × AFun) := [(9, constA (.bool true)), (10, pureA smallS), (22, pureA isS), (47, pureA isS), (29, roA stripS), (31, roA namesS), (30, eqqA SY ceqSy), (91, pureA (fun args => iyS (nzs [SY.con []] args))), (18, pureA rsaS)]
def Tryz.ESp : Env := Tryz.env0 false (sumsOf Tryz.tSp) (keepF 7 [(12, [1, 3, 83, 84, 85]), (18, [1, 101, 102, 103])])
def Tryz.bSp (n : Nat) : Code := nthD .skip (loopsOf (bodyOf Tryz.ESp 7)) n
def Tryz.BSp1 (s : St) : Option (AX × St) := codeS Tryz.ESp (callF Tryz.ESp 6) (Tryz.ESp.keep 7) (lsumsOf []) (Tryz.bSp 0) (outK [1, 3, 83, 84, 85] [1, 2, 3]) s
def Tryz.BSp2 (s : St) : Option (AX × St) := codeS Tryz.ESp (callF Tryz.ESp 6) (Tryz.ESp.keep 7) (lsumsOf []) (Tryz.bSp 1) (outK [1, 101, 102, 103] [2]) s
def hPp (a b : OD) : Heap := ⟨2, [⟨1, 0, .cells (.rows true 5 [b.row])⟩, ⟨0, 0, .cells (.rows true 5 [a.row])⟩]⟩
def sSp1 (o x : OD) (k : Nat) : St := stOf 118 [1, 3, 83, 84, 85] [.ptr 0 0 0, .ptr 1 0 0, .ro (SY.con o.sy) none, .val (.int .i64 (o.sy.length : Nat)), .val (.int .i64 k)] (hPp o x)
def sSp2 (o x : OD) (k : Nat) : St := stOf 118 [1, 101, 102, 103] [.ptr 0 0 0, .ro (SY.con x.sy) none, .val (.int .i64 (x.sy.length : Nat)), .val (.int .i64 k)] (hO o)
theorem Tryz.rSp1 (o x : OD) (k : Nat) : Tryz.BSp1 (sSp1 o x k) =
 bif decide ((↑k : Int) < (↑o.sy.length : Int)) then
 bif inR (↑k : Int) o.sy.length then
 bif (o.sy.getD k SY.z).snd.snd.snd.snd.fst != 0 then
 bif SY.ok (SY.con x.sy) && x.sy.length.ble 1000000 then
 bif (ixN (pIy (SY.list (SY.con x.sy)) (syParse [AV.val (Value.string (o.sy.getD k SY.z).fst), AV.val (Value.int IntKind.i64 (o.sy.getD k SY.z).snd.fst), AV.val (Value.int IntKind.u32 (o.sy.getD k SY.z).snd.snd.fst), AV.val (Value.int IntKind.i64 (o.sy.getD k SY.z).snd.snd.snd.fst), AV.val (Value.int IntKind.i64 (o.sy.getD k SY.z).snd.snd.snd.snd.fst), AV.val (Value.int IntKind.i64 (o.sy.getD k SY.z).snd.snd.snd.snd.snd)])) (SY.list (SY.con x.sy)).length).isSome then
 some (.normal, stOf 118 [1, 3, 83, 84, 85] [.ptr 0 0 0, .ptr 1 0 0, .ro (.tab 6 (o.sy.length) (fun i => SY.row (o.sy.getD i SY.z))) none, .val (.int .i64 ((↑o.sy.length : Int))), .val (.int .i64 (IntKind.i64.wrap ((↑k : Int) + 1)))] ⟨2, [⟨1, 0, .cells (.rows true 5 ([.ro (.tab 5 (x.se.length) (fun i => SE.row (x.se.getD i SE.z))) none, .ro (.tab 6 (x.sy.length) (fun i => SY.row (x.sy.getD i SY.z))) none, .ro (.tab 5 (x.re.length) (fun i => RE.row (x.re.getD i RE.z))) none, .ro (.tab 1 (x.fi.length) (fun i => FI.row (x.fi.getD i FI.z))) none, .ro (.tab 4 (x.li.length) (fun i => LI.row (x.li.getD i LI.z))) none] :: []))⟩, ⟨0, 0, .cells (.rows true 5 ([.ro (.tab 5 (o.se.length) (fun i => SE.row (o.se.getD i SE.z))) none, .ro (.tab 6 (o.sy.length) (fun i => SY.row (o.sy.getD i SY.z))) none, .ro (.tab 5 (o.re.length) (fun i => RE.row (o.re.getD i RE.z))) none, .ro (.tab 1 (o.fi.length) (fun i => FI.row (o.fi.getD i FI.z))) none, .ro (.tab 4 (o.li.length) (fun i => LI.row (o.li.getD i LI.z))) none] :: []))⟩]⟩ )
 else
 some (.ret, stOf 118 [1, 2, 3] [.ptr 0 0 0, .val (.bool false), .ptr 1 0 0] ⟨2, [⟨1, 0, .cells (.rows true 5 ([.ro (.tab 5 (x.se.length) (fun i => SE.row (x.se.getD i SE.z))) none, .ro (.tab 6 (x.sy.length) (fun i => SY.row (x.sy.getD i SY.z))) none, .ro (.tab 5 (x.re.length) (fun i => RE.row (x.re.getD i RE.z))) none, .ro (.tab 1 (x.fi.length) (fun i => FI.row (x.fi.getD i FI.z))) none, .ro (.tab 4 (x.li.length) (fun i => LI.row (x.li.getD i LI.z))) none] :: []))⟩, ⟨0, 0, .cells (.rows true 5 ([.ro (.tab 5 (o.se.length) (fun i => SE.row (o.se.getD i SE.z))) none, .ro (.tab 6 (o.sy.length) (fun i => SY.row (o.sy.getD i SY.z))) none, .ro (.tab 5 (o.re.length) (fun i => RE.row (o.re.getD i RE.z))) none, .ro (.tab 1 (o.fi.length) (fun i => FI.row (o.fi.getD i FI.z))) none, .ro (.tab 4 (o.li.length) (fun i => LI.row (o.li.getD i LI.z))) none] :: []))⟩]⟩ )
 else
 none
 else
 some (.normal, stOf 118 [1, 3, 83, 84, 85] [.ptr 0 0 0, .ptr 1 0 0, .ro (.tab 6 (o.sy.length) (fun i => SY.row (o.sy.getD i SY.z))) none, .val (.int .i64 ((↑o.sy.length : Int))), .val (.int .i64 (IntKind.i64.wrap ((↑k : Int) + 1)))] ⟨2, [⟨1, 0, .cells (.rows true 5 ([.ro (.tab 5 (x.se.length) (fun i => SE.row (x.se.getD i SE.z))) none, .ro (.tab 6 (x.sy.length) (fun i => SY.row (x.sy.getD i SY.z))) none, .ro (.tab 5 (x.re.length) (fun i => RE.row (x.re.getD i RE.z))) none, .ro (.tab 1 (x.fi.length) (fun i => FI.row (x.fi.getD i FI.z))) none, .ro (.tab 4 (x.li.length) (fun i => LI.row (x.li.getD i LI.z))) none] :: []))⟩, ⟨0, 0, .cells (.rows true 5 ([.ro (.tab 5 (o.se.length) (fun i => SE.row (o.se.getD i SE.z))) none, .ro (.tab 6 (o.sy.length) (fun i => SY.row (o.sy.getD i SY.z))) none, .ro (.tab 5 (o.re.length) (fun i => RE.row (o.re.getD i RE.z))) none, .ro (.tab 1 (o.fi.length) (fun i => FI.row (o.fi.getD i FI.z))) none, .ro (.tab 4 (o.li.length) (fun i => LI.row (o.li.getD i LI.z))) none] :: []))⟩]⟩ )
 else
 none
 else
 some (.exit 0, stOf 118 [1, 3] [.ptr 0 0 0, .ptr 1 0 0] ⟨2, [⟨1, 0, .cells (.rows true 5 ([.ro (.tab 5 (x.se.length) (fun i => SE.row (x.se.getD i SE.z))) none, .ro (.tab 6 (x.sy.length) (fun i => SY.row (x.sy.getD i SY.z))) none, .ro (.tab 5 (x.re.length) (fun i => RE.row (x.re.getD i RE.z))) none, .ro (.tab 1 (x.fi.length) (fun i => FI.row (x.fi.getD i FI.z))) none, .ro (.tab 4 (x.li.length) (fun i => LI.row (x.li.getD i LI.z))) none] :: []))⟩, ⟨0, 0, .cells (.rows true 5 ([.ro (.tab 5 (o.se.length) (fun i => SE.row (o.se.getD i SE.z))) none, .ro (.tab 6 (o.sy.length) (fun i => SY.row (o.sy.getD i SY.z))) none, .ro (.tab 5 (o.re.length) (fun i => RE.row (o.re.getD i RE.z))) none, .ro (.tab 1 (o.fi.length) (fun i => FI.row (o.fi.getD i FI.z))) none, .ro (.tab 4 (o.li.length) (fun i => LI.row (o.li.getD i LI.z))) none] :: []))⟩]⟩ ) := by kernel_rfl
theorem Tryz.rSp2 (o x : OD) (k : Nat) : Tryz.BSp2 (sSp2 o x k) =
 bif decide ((↑k : Int) < (↑x.sy.length : Int)) then
 bif inR (↑k : Int) x.sy.length then
 bif (x.sy.getD k SY.z).snd.snd.snd.snd.fst == 0 then
 bif odIs (AV.agg o.row) && propB (relS (odP (AV.agg o.row)) ∧ (odP (AV.agg o.row)).re.length ≤ 1000000) then
 bif SY.ok (SY.con (namesD (odP (AV.agg o.row)))) && (namesD (odP (AV.agg o.row))).length.ble 1000000 then
 bif (ixN (pIy (SY.list (SY.con (namesD (odP (AV.agg o.row))))) (syParse [AV.val (Value.string (x.sy.getD k SY.z).fst), AV.val (Value.int IntKind.i64 (x.sy.getD k SY.z).snd.fst), AV.val (Value.int IntKind.u32 (x.sy.getD k SY.z).snd.snd.fst), AV.val (Value.int IntKind.i64 (x.sy.getD k SY.z).snd.snd.snd.fst), AV.val (Value.int IntKind.i64 (x.sy.getD k SY.z).snd.snd.snd.snd.fst), AV.val (Value.int IntKind.i64 (x.sy.getD k SY.z).snd.snd.snd.snd.snd)])) (SY.list (SY.con (namesD (odP (AV.agg o.row))))).length).isSome then
 some (.normal, stOf 118 [1, 101, 102, 103] [.ptr 0 0 0, .ro (.tab 6 (x.sy.length) (fun i => SY.row (x.sy.getD i SY.z))) none, .val (.int .i64 ((↑x.sy.length : Int))), .val (.int .i64 (IntKind.i64.wrap ((↑k : Int) + 1)))] ⟨1, [⟨0, 0, .cells (.rows true 5 ([.ro (.tab 5 (o.se.length) (fun i => SE.row (o.se.getD i SE.z))) none, .ro (.tab 6 (o.sy.length) (fun i => SY.row (o.sy.getD i SY.z))) none, .ro (.tab 5 (o.re.length) (fun i => RE.row (o.re.getD i RE.z))) none, .ro (.tab 1 (o.fi.length) (fun i => FI.row (o.fi.getD i FI.z))) none, .ro (.tab 4 (o.li.length) (fun i => LI.row (o.li.getD i LI.z))) none] :: []))⟩]⟩ )
 else
 some (.ret, stOf 118 [2] [.val (.bool false)] ⟨0, []⟩)
 else
 none
 else
 none
 else
 some (.normal, stOf 118 [1, 101, 102, 103] [.ptr 0 0 0, .ro (.tab 6 (x.sy.length) (fun i => SY.row (x.sy.getD i SY.z))) none, .val (.int .i64 ((↑x.sy.length : Int))), .val (.int .i64 (IntKind.i64.wrap ((↑k : Int) + 1)))] ⟨1, [⟨0, 0, .cells (.rows true 5 ([.ro (.tab 5 (o.se.length) (fun i => SE.row (o.se.getD i SE.z))) none, .ro (.tab 6 (o.sy.length) (fun i => SY.row (o.sy.getD i SY.z))) none, .ro (.tab 5 (o.re.length) (fun i => RE.row (o.re.getD i RE.z))) none, .ro (.tab 1 (o.fi.length) (fun i => FI.row (o.fi.getD i FI.z))) none, .ro (.tab 4 (o.li.length) (fun i => LI.row (o.li.getD i LI.z))) none] :: []))⟩]⟩ )
 else
 none
 else
 some (.exit 2, stOf 118 [] [] ⟨0, []⟩) := by kernel_rfl
theorem has_iff (L : List SymD) (x : SymD) : (ixN (pIy L x) L.length).isSome = true ↔ x ∈ L := by
  rw [ixN, ixP_some]
  constructor
  · rintro ⟨j, _, h2, h3⟩
    have := (ceqSy_iff _ _).1 h3
    rw [this]; exact getD_mem (by omega)
  · intro h
    obtain ⟨j, hj, rfl⟩ := List.getElem_of_mem h
    refine ⟨j, Nat.zero_le _, by omega, (ceqSy_iff _ _).2 ?_⟩
    rw [List.getD_eq_getElem?_getD, List.getElem?_eq_getElem hj]; rfl
def sp1P (o x : OD) : Prop := o.sy.length ≤ 1000000 ∧ x.sy.length ≤ 1000000 ∧ ∀ s ∈ o.sy, s.2.2.2.2.1 ≠ 0 → s ∈ x.sy
def sp2P (o x : OD) : Prop := x.sy.length ≤ 1000000 ∧ (relS o ∧ o.re.length ≤ 1000000) ∧ ∀ s ∈ x.sy, s.2.2.2.2.1 = 0 → s ∈ namesD o
def Tryz.LSp1 (o x : OD) : LSum := atL (sSp1 o x 0) (.grd (propB (sp1P o x)) (.out (.exit 0, stOf 118 [1, 3] [.ptr 0 0 0, .ptr 1 0 0] (hPp o x))))
def Tryz.LSp2 (o x : OD) : LSum := atL (sSp2 o x 0) (.grd (propB (sp2P o x)) (.out (.exit 2, stOf 118 [] [] ⟨0, []⟩)))
theorem Tryz.eSp : EnvOk2 Tryz.prog Tryz.ESp := Tryz.envOk false (sumsOf Tryz.tSp) _ (sumsOf_ok (show AllS Tryz.prog Tryz.tSp from ⟨Tryz.saneSum, Tryz.sumSl, Tryz.sumIs, Tryz.sumPv, Tryz.sumSt, Tryz.sumNs, Tryz.sumQy, Tryz.sumIy, Tryz.sumRs, trivial⟩))
theorem hPp_ok (a b : OD) : (hPp a b).ok := heap_ok [1, 0] rfl (by decide) (by decide)
theorem Tryz.lSp1 (o x : OD) : ∀ s e s', s.h.ok → (Tryz.LSp1 o x s).run = some (e, s') → Triple Tryz.prog (.loop (Tryz.bSp 0)) s e s' := by
  refine atL_grd (fun hp => ?_)
  obtain ⟨h1, h2, h3⟩ := propB_eq hp
  refine loop_at Tryz.eSp (d := 6) (g := 7) (ls := lsumsOf []) (c := Tryz.bSp 0) (by rw [show loopsOf (Tryz.bSp 0) = [] by kernel_rfl]; trivial) [1, 3, 83, 84, 85] [1, 2, 3] (T := Nat) (sSp1 o x) (fun k => k ≤ o.sy.length) (fun k => o.sy.length - k) (fun _ => (.exit 0, stOf 118 [1, 3] [.ptr 0 0 0, .ptr 1 0 0] (hPp o x))) _ _ 0 (Nat.zero_le _) (Weak.refl (hPp_ok o x)) ?_ (fun _ _ => hPp_ok o x) ?_
  · intro e s' h; injection h
  · intro k hk
    have key : Tryz.BSp1 (sSp1 o x k) = _ := Tryz.rSp1 o x k
    have l1 : SY.list (SY.con x.sy) = x.sy := SY.list_con _
    rw [declt_nat, inR_nat, wrapS k (by omega), l1, sy_eta, SY.ok_con, ble_t h2] at key
    by_cases h : k < o.sy.length
    · have hm := h3 _ (getD_mem (d := SY.z) h)
      refine .inl ⟨k + 1, sSp1 o x (k + 1), key.trans ?_, Weak.refl (hPp_ok o x), h, by omega, rfl⟩
      rw [decide_eq_true h]
      by_cases hb : (o.sy.getD k SY.z).2.2.2.2.1 = 0
      · rw [show ((o.sy.getD k SY.z).2.2.2.2.1 != 0) = false by rw [hb]; rfl]; rfl
      · rw [show ((o.sy.getD k SY.z).2.2.2.2.1 != 0) = true from bne_iff_ne.2 hb, (has_iff _ _).2 (hm hb)]; rfl
    · rw [decide_eq_false h] at key
      exact .inr ⟨_, key, Weak.refl (hPp_ok o x), by simp⟩
theorem Tryz.lSp2 (o x : OD) : ∀ s e s', s.h.ok → (Tryz.LSp2 o x s).run = some (e, s') → Triple Tryz.prog (.loop (Tryz.bSp 1)) s e s' := by
  refine atL_grd (fun hp => ?_)
  obtain ⟨h1, h2, h3⟩ := propB_eq hp
  refine loop_at Tryz.eSp (d := 6) (g := 7) (ls := lsumsOf []) (c := Tryz.bSp 1) (by rw [show loopsOf (Tryz.bSp 1) = [] by kernel_rfl]; trivial) [1, 101, 102, 103] [2] (T := Nat) (sSp2 o x) (fun k => k ≤ x.sy.length) (fun k => x.sy.length - k) (fun _ => (.exit 2, stOf 118 [] [] ⟨0, []⟩)) _ _ 0 (Nat.zero_le _) (Weak.refl (hO_ok o)) ?_ (fun _ _ => hO_ok o) ?_
  · intro e s' h; injection h
  · intro k hk
    have key : Tryz.BSp2 (sSp2 o x k) = _ := Tryz.rSp2 o x k
    have l1 : SY.list (SY.con (namesD o)) = namesD o := SY.list_con _
    rw [declt_nat, inR_nat, wrapS k (by omega), odP_row, odIs_row, propB_t h2, l1, sy_eta, SY.ok_con, ble_t (show (namesD o).length ≤ 1000000 by unfold namesD; rw [List.length_map]; exact h2.2)] at key
    by_cases h : k < x.sy.length
    · have hm := h3 _ (getD_mem (d := SY.z) h)
      refine .inl ⟨k + 1, sSp2 o x (k + 1), key.trans ?_, Weak.refl (hO_ok o), h, by omega, rfl⟩
      rw [decide_eq_true h]
      by_cases hb : (x.sy.getD k SY.z).2.2.2.2.1 = 0
      · rw [show ((x.sy.getD k SY.z).2.2.2.2.1 == 0) = true by rw [hb]; rfl, (has_iff _ _).2 (hm hb)]; rfl
      · rw [show ((x.sy.getD k SY.z).2.2.2.2.1 == 0) = false from beq_eq_false_iff_ne.2 hb]; rfl
    · rw [decide_eq_false h] at key
      exact .inr ⟨_, key, Weak.refl heap0_ok, by simp⟩
def st1S (G : OD → OD) (ov : AV) : Ans (AV × Heap) := .grd (odIs ov && (propB (stInv (odP ov)) && objB (odP ov))) (.out (.tup [(G (odP ov)).av, .val (.int .i64 0)], ⟨0, []⟩))
def st2S (G : OD → OD) (args : List AV) : Ans (AV × Heap) := match args with
  | [.agg [.ro c1 k1, .ro c2 k2, .ro c3 k3, .ro c4 k4, .ro c5 k5]] => st1S G (.agg [.ro c1 k1, .ro c2 k2, .ro c3 k3, .ro c4 k4, .ro c5 k5])
  | _ => .no
def Tryz.tSq (G : OD → OD) : List (Nat × AFun) := [(9, constA (.bool true)), (10, pureA smallS), (22, pureA isS), (47, pureA isS), (29, roA (st2S G)), (31, roA namesS), (30, eqqA SY ceqSy), (91, pureA (fun args => iyS (nzs [SY.con []] args))), (18, pureA rsaS)]
def Tryz.ESq (G : OD → OD) : Env := Tryz.env0 false (sumsOf (Tryz.tSq G)) (keepF 7 [(12, [1, 3, 83, 84, 85]), (18, [1, 101, 102, 103])])
theorem Tryz.rSp (o : OD) (G : OD → OD) : rootS (Tryz.ESq G) 6 7 (lsumsOf [(12, Tryz.LSp1 o (G (odP (.agg o.row)))), (18, Tryz.LSp2 o (G (odP (.agg o.row))))]) [o.av] =
 bif odIs (AV.agg o.row) && propB (slInv (odP (AV.agg o.row))) then
 bif smallB (odP (AV.agg o.row)) then
 bif odIs (AV.agg o.row) && propB (odInv (odP (AV.agg o.row))) then
 bif objB (odP (AV.agg o.row)) then
 bif odIs (AV.agg o.row) && (propB (stInv (odP (AV.agg o.row))) && objB (odP (AV.agg o.row))) then
 bif odIs (AV.agg (G (odP (AV.agg o.row))).row) && propB (odInv (odP (AV.agg (G (odP (AV.agg o.row))).row))) then
 bif objB (odP (AV.agg (G (odP (AV.agg o.row))).row)) then
 bif decide (IntKind.i64.wrap ((↑(G (odP (AV.agg o.row))).fi.length : Int) + (↑(G (odP (AV.agg o.row))).li.length : Int)) > 0) then
 some (.val (.bool false), ⟨0, []⟩)
 else
 bif (↑(G (odP (AV.agg o.row))).re.length : Int) != (↑o.re.length : Int) then
 some (.val (.bool false), ⟨0, []⟩)
 else
 bif odIs (AV.agg (G (odP (AV.agg o.row))).row) && propB (relS (odP (AV.agg (G (odP (AV.agg o.row))).row)) ∧ (odP (AV.agg (G (odP (AV.agg o.row))).row)).re.length ≤ 1000000) then
 bif odIs (AV.agg o.row) && propB (relS (odP (AV.agg o.row)) ∧ (odP (AV.agg o.row)).re.length ≤ 1000000) then
 bif SY.ok (SY.con (namesD (odP (AV.agg (G (odP (AV.agg o.row))).row)))) && (SY.ok (SY.con (namesD (odP (AV.agg o.row)))) && (SY.list (SY.con (namesD (odP (AV.agg (G (odP (AV.agg o.row))).row))))).length.ble 1000000) then
 bif eqD SY ceqSy (SY.list (SY.con (namesD (odP (AV.agg (G (odP (AV.agg o.row))).row))))) (SY.list (SY.con (namesD (odP (AV.agg o.row))))) then
 bif odIs (AV.agg (G (odP (AV.agg o.row))).row) && (propB (stInv (odP (AV.agg (G (odP (AV.agg o.row))).row))) && objB (odP (AV.agg (G (odP (AV.agg o.row))).row))) then
 bif odIs (AV.agg (G (odP (AV.agg o.row))).row) && odIs (AV.agg (G (odP (AV.agg (G (odP (AV.agg o.row))).row))).row) && propB (smlP (odP (AV.agg (G (odP (AV.agg o.row))).row)) ∧ byteP (odP (AV.agg (G (odP (AV.agg o.row))).row)) ∧ byteP (odP (AV.agg (G (odP (AV.agg (G (odP (AV.agg o.row))).row))).row))) then
 bif propB (sameP (odP (AV.agg (G (odP (AV.agg o.row))).row)) (odP (AV.agg (G (odP (AV.agg (G (odP (AV.agg o.row))).row))).row))) then
 bif odIs (AV.agg [AV.ro (SE.con (G (odP (AV.agg o.row))).se) none, AV.val (Value.slice none 0 0), AV.val (Value.slice none 0 0), AV.val (Value.slice none 0 0), AV.val (Value.slice none 0 0)]) && odIs (AV.agg [AV.ro (SE.con o.se) none, AV.val (Value.slice none 0 0), AV.val (Value.slice none 0 0), AV.val (Value.slice none 0 0), AV.val (Value.slice none 0 0)]) && propB (smlP (odP (AV.agg [AV.ro (SE.con (G (odP (AV.agg o.row))).se) none, AV.val (Value.slice none 0 0), AV.val (Value.slice none 0 0), AV.val (Value.slice none 0 0), AV.val (Value.slice none 0 0)])) ∧ byteP (odP (AV.agg [AV.ro (SE.con (G (odP (AV.agg o.row))).se) none, AV.val (Value.slice none 0 0), AV.val (Value.slice none 0 0), AV.val (Value.slice none 0 0), AV.val (Value.slice none 0 0)])) ∧ byteP (odP (AV.agg [AV.ro (SE.con o.se) none, AV.val (Value.slice none 0 0), AV.val (Value.slice none 0 0), AV.val (Value.slice none 0 0), AV.val (Value.slice none 0 0)]))) then
 bif propB (sameP (odP (AV.agg [AV.ro (SE.con (G (odP (AV.agg o.row))).se) none, AV.val (Value.slice none 0 0), AV.val (Value.slice none 0 0), AV.val (Value.slice none 0 0), AV.val (Value.slice none 0 0)])) (odP (AV.agg [AV.ro (SE.con o.se) none, AV.val (Value.slice none 0 0), AV.val (Value.slice none 0 0), AV.val (Value.slice none 0 0), AV.val (Value.slice none 0 0)]))) then
 bif isSt (sSp1 o (G (odP (AV.agg o.row))) 0) (sSp1 o (G (odP (AV.agg o.row))) 0) then
 bif propB (sp1P o (G (odP (AV.agg o.row)))) then
 bif isSt (sSp2 o (G (odP (AV.agg o.row))) 0) (sSp2 o (G (odP (AV.agg o.row))) 0) then
 bif propB (sp2P o (G (odP (AV.agg o.row)))) then
 some (.val (.bool true), ⟨0, []⟩)
 else
 none
 else
 none
 else
 none
 else
 none
 else
 some (.val (.bool false), ⟨0, []⟩)
 else
 none
 else
 some (.val (.bool false), ⟨0, []⟩)
 else
 none
 else
 none
 else
 some (.val (.bool false), ⟨0, []⟩)
 else
 none
 else
 none
 else
 none
 else
 some (.val (.bool false), ⟨0, []⟩)
 else
 none
 else
 none
 else
 some (.val (.bool true), ⟨0, []⟩)
 else
 none
 else
 some (.val (.bool true), ⟨0, []⟩)
 else
 none := by kernel_rfl
end Go.Ev
/- ObjStripped: what Strip keeps, in plain words. -/
namespace Go.Ev
open Go.Proofs
def jK (o : OD) : Nat → List Nat := Nat.rec [] (fun k J => bif keptB o k then J ++ [k] else J)
theorem jK_yes (o : OD) (k : Nat) (h : keptB o k = true) : jK o (k + 1) = jK o k ++ [k] := by
  show (bif keptB o k then _ else _) = _
  rw [h]; rfl
theorem jK_no (o : OD) (k : Nat) (h : keptB o k = false) : jK o (k + 1) = jK o k := by
  show (bif keptB o k then _ else _) = _
  rw [h]; rfl
theorem jK_mem (o : OD) : ∀ k j, j ∈ jK o k ↔ j < k ∧ keptB o j = true
  | 0, j => by
    constructor
    · intro h; cases h
    · rintro ⟨h, _⟩; omega
  | k + 1, j => by
    cases hb : keptB o k with
    | true =>
      rw [jK_yes o k hb, List.mem_append, List.mem_singleton, jK_mem o k j]
      constructor
      · rintro (⟨h1, h2⟩ | rfl)
        · exact ⟨by omega, h2⟩
        · exact ⟨by omega, hb⟩
      · rintro ⟨h1, h2⟩
        rcases Nat.lt_succ_iff_lt_or_eq.1 h1 with q | q
        · exact .inl ⟨q, h2⟩
        · exact .inr q
    | false =>
      rw [jK_no o k hb, jK_mem o k j]
      constructor
      · rintro ⟨h1, h2⟩; exact ⟨by omega, h2⟩
      · rintro ⟨h1, h2⟩
        refine ⟨?_, h2⟩
        rcases Nat.lt_succ_iff_lt_or_eq.1 h1 with q | q
        · exact q
        · rw [q, hb] at h2; cases h2
theorem jK_sort (o : OD) : ∀ k, (jK o k).Pairwise (· < ·)
  | 0 => List.Pairwise.nil
  | k + 1 => by
    cases hb : keptB o k with
    | true =>
      rw [jK_yes o k hb, List.pairwise_append]
      refine ⟨jK_sort o k, List.pairwise_singleton _ _, fun a ha b hb => ?_⟩
      rw [List.mem_singleton] at hb
      rw [hb]; exact ((jK_mem o k a).1 ha).1
    | false => rw [jK_no o k hb]; exact jK_sort o k
theorem jK_sy (o : OD) : ∀ k, (stK o k).1 = (jK o k).map (fun j => o.sy.getD j SY.z)
  | 0 => rfl
  | k + 1 => by
    cases hb : keptB o k with
    | true => rw [jK_yes o k hb, keep_yes o k hb, List.map_append, jK_sy o k]; rfl
    | false => rw [jK_no o k hb, keep_no o k hb]; exact jK_sy o k
theorem jK_len (o : OD) (k : Nat) : (stK o k).1.length = (jK o k).length := by rw [jK_sy, List.length_map]
theorem jK_to (o : OD) : ∀ k, k ≤ o.sy.length → ∀ t (h : t < (jK o k).length), (stK o k).2.getD ((jK o k)[t]) 0 = (t : Int)
  | 0, _, t, h => by cases h
  | k + 1, hk, t, h => by
    cases hb : keptB o k with
    | true =>
      have e : (stK o (k + 1)).2 = (stK o k).2.set k ((stK o k).1.length : Int) := by rw [keep_yes o k hb]
      have hlen := (stK_len o k).1
      have ej := jK_yes o k hb
      have h' : t < (jK o k).length + 1 := by rw [ej, List.length_append, List.length_singleton] at h; exact h
      rw [e, List.getD_eq_getElem?_getD, List.getElem?_set]
      rcases Nat.lt_or_ge t (jK o k).length with q | q
      · have e1 : (jK o (k + 1))[t] = (jK o k)[t] := by simp only [ej, List.getElem_append_left q]
        have hlt := ((jK_mem o k _).1 (List.getElem_mem q)).1
        rw [e1, if_neg (by omega), ← List.getD_eq_getElem?_getD]
        exact jK_to o k (by omega) t q
      · have : t = (jK o k).length := by omega
        subst this
        have e1 : (jK o (k + 1))[(jK o k).length] = k := by simp only [ej, List.getElem_append_right (Nat.le_refl _), Nat.sub_self, List.getElem_singleton]
        rw [e1, if_pos rfl, if_pos (by omega), jK_len]; rfl
    | false =>
      have ej := jK_no o k hb
      have e : stK o (k + 1) = stK o k := keep_no o k hb
      have h' : t < (jK o k).length := by rw [ej] at h; exact h
      have e1 : (jK o (k + 1))[t] = (jK o k)[t] := by simp only [ej]
      rw [e, e1]
      exact jK_to o k (by omega) t h'
theorem kept_rel {o : OD} {r : RelD} (hr : r ∈ o.re) (h0 : 0 ≤ r.2.2.2.1) : keptB o r.2.2.2.1.toNat = true := by
  unfold keptB
  rw [Bool.or_eq_true]
  right
  rw [ixN, ixP_some]
  obtain ⟨j, hj, rfl⟩ := List.getElem_of_mem hr
  refine ⟨j, Nat.zero_le _, by omega, ?_⟩
  unfold pXr
  rw [List.getD_eq_getElem?_getD, List.getElem?_eq_getElem hj, beq_iff_eq]
  show (o.re[j]).2.2.2.1 = _
  omega
theorem kept_iff (o : OD) (k : Nat) : keptB o k = true ↔ ((o.sy.getD k SY.z).2.2.2.2.1 ≠ 0 ∨ ∃ r ∈ o.re, r.2.2.2.1 = (k : Int)) := by
  unfold keptB
  rw [Bool.or_eq_true, bne_iff_ne, ixN, ixP_some]
  constructor
  · rintro (h | ⟨j, _, h2, h3⟩)
    · exact .inl h
    · unfold pXr at h3
      rw [beq_iff_eq] at h3
      exact .inr ⟨_, getD_mem (by omega), h3⟩
  · rintro (h | ⟨r, hr, h⟩)
    · exact .inl h
    · obtain ⟨j, hj, rfl⟩ := List.getElem_of_mem hr
      refine .inr ⟨j, Nat.zero_le _, by omega, ?_⟩
      unfold pXr
      rw [List.getD_eq_getElem?_getD, List.getElem?_eq_getElem hj, beq_iff_eq]
      exact h
section
variable {o : OD} (hs : relS o)
include hs
theorem to_spec {r : RelD} (hr : r ∈ o.re) : ∃ t, t < (stripD o).sy.length ∧ (stK o o.sy.length).2.getD r.2.2.2.1.toNat 0 = (t : Int) ∧ (stripD o).sy.getD t SY.z = symN o r ∧ (jK o o.sy.length)[t]? = some r.2.2.2.1.toNat := by
  obtain ⟨h0, h1⟩ := hs r hr
  have hm : r.2.2.2.1.toNat ∈ jK o o.sy.length := (jK_mem o _ _).2 ⟨by omega, kept_rel hr h0⟩
  obtain ⟨t, ht, he⟩ := List.getElem_of_mem hm
  refine ⟨t, by show t < (stK o o.sy.length).1.length; rw [jK_len]; exact ht, ?_, ?_, ?_⟩
  · have := jK_to o o.sy.length (Nat.le_refl _) t ht
    rw [he] at this; exact this
  · show (stK o o.sy.length).1.getD t SY.z = _
    rw [jK_sy, List.getD_eq_getElem?_getD, List.getElem?_map, List.getElem?_eq_getElem ht, he]; rfl
  · rw [List.getElem?_eq_getElem ht, he]
theorem strip_relS : relS (stripD o) := by
  intro r hr
  obtain ⟨q, hq, rfl⟩ := List.mem_map.1 (show r ∈ o.re.map (toR (stK o o.sy.length).2) from hr)
  obtain ⟨t, h1, h2, _⟩ := to_spec hs hq
  show 0 ≤ (stK o o.sy.length).2.getD q.2.2.2.1.toNat 0 ∧ (stK o o.sy.length).2.getD q.2.2.2.1.toNat 0 < _
  rw [h2]
  omega
theorem strip_names : namesD (stripD o) = namesD o := by
  show (o.re.map (toR (stK o o.sy.length).2)).map (symN (stripD o)) = o.re.map (symN o)
  rw [List.map_map]
  refine List.map_congr_left (fun r hr => ?_)
  obtain ⟨t, h1, h2, h3, _⟩ := to_spec hs hr
  show (stripD o).sy.getD ((stK o o.sy.length).2.getD r.2.2.2.1.toNat 0).toNat SY.z = _
  rw [h2, Int.toNat_natCast, h3]
theorem strip_kept (t : Nat) (ht : t < (stripD o).sy.length) : keptB (stripD o) t = true := by
  have ht' : t < (jK o o.sy.length).length := by rw [← jK_len]; exact ht
  have hm := (jK_mem o _ _).1 (List.getElem_mem ht')
  have hsy : (stripD o).sy.getD t SY.z = o.sy.getD (jK o o.sy.length)[t] SY.z := by
    show (stK o o.sy.length).1.getD t SY.z = _
    rw [jK_sy, List.getD_eq_getElem?_getD, List.getElem?_map, List.getElem?_eq_getElem ht']; rfl
  rw [kept_iff]
  rcases (kept_iff o _).1 hm.2 with h | ⟨r, hr, h⟩
  · exact .inl (by rw [hsy]; exact h)
  · right
    obtain ⟨t', h1, h2, h3, h4⟩ := to_spec hs hr
    refine ⟨toR (stK o o.sy.length).2 r, List.mem_map.2 ⟨r, hr, rfl⟩, ?_⟩
    show (stK o o.sy.length).2.getD r.2.2.2.1.toNat 0 = _
    have e : r.2.2.2.1.toNat = (jK o o.sy.length)[t] := by omega
    rw [e, jK_to o o.sy.length (Nat.le_refl _) t ht']
end
theorem all_kept {o : OD} (h : ∀ k, k < o.sy.length → keptB o k = true) : ∀ k, k ≤ o.sy.length → jK o k = List.range k
  | 0, _ => rfl
  | k + 1, hk => by rw [jK_yes o k (h k (by omega)), all_kept h k (by omega), List.range_succ]
theorem all_kept_sy {o : OD} (h : ∀ k, k < o.sy.length → keptB o k = true) : (stK o o.sy.length).1 = o.sy := by
  rw [jK_sy, all_kept h _ (Nat.le_refl _)]
  refine List.ext_getElem (by simp) (fun i h1 h2 => ?_)
  rw [List.getElem_map, List.getElem_range, List.getD_eq_getElem?_getD, List.getElem?_eq_getElem h2]; rfl
theorem all_kept_to {o : OD} (h : ∀ k, k < o.sy.length → keptB o k = true) (t : Nat) (ht : t < o.sy.length) : (stK o o.sy.length).2.getD t 0 = (t : Int) := by
  have e := all_kept h o.sy.length (Nat.le_refl _)
  have hl : t < (jK o o.sy.length).length := by rw [e, List.length_range]; exact ht
  have := jK_to o o.sy.length (Nat.le_refl _) t hl
  rw [show (jK o o.sy.length)[t] = t by simp only [e, List.getElem_range]] at this
  exact this
theorem strip_strip {o : OD} (hs : relS o) : stripD (stripD o) = stripD o := by
  have hk := strip_kept hs
  have h1 := all_kept_sy hk
  have h2 : (stripD o).re.map (toR (stK (stripD o) (stripD o).sy.length).2) = (stripD o).re := by
    refine (List.map_congr_left (fun r hr => ?_)).trans (List.map_id _)
    obtain ⟨s1, s2⟩ := strip_relS hs r hr
    have e := all_kept_to hk r.2.2.2.1.toNat (by omega)
    show (r.1, r.2.1, r.2.2.1, (stK (stripD o) (stripD o).sy.length).2.getD r.2.2.2.1.toNat 0, r.2.2.2.2) = r
    rw [e]
    obtain ⟨a, b, c, d, f⟩ := r
    simp only at s1 ⊢
    rw [show ((d.toNat : Nat) : Int) = d by omega]
  show OD.mk (stripD o).se (stK (stripD o) (stripD o).sy.length).1 ((stripD o).re.map (toR (stK (stripD o) (stripD o).sy.length).2)) [] [] = _
  rw [h1, h2]; rfl
end Go.Ev
/- ObjStripped: the law. -/
namespace Go.Ev
open Go.Proofs
theorem strip_sy (o : OD) (i : Nat) (h : i < (jK o o.sy.length).length) : (stripD o).sy.getD i SY.z = o.sy.getD (jK o o.sy.length)[i] SY.z := by
  show (stK o o.sy.length).1.getD i SY.z = _
  rw [jK_sy, List.getD_eq_getElem?_getD, List.getElem?_map, List.getElem?_eq_getElem h]; rfl
theorem strip_re (o : OD) (i : Nat) (h : i < o.re.length) : (stripD o).re.getD i RE.z = toR (stK o o.sy.length).2 (o.re.getD i RE.z) := by
  show (o.re.map (toR (stK o o.sy.length).2)).getD i RE.z = _
  rw [List.getD_eq_getElem?_getD, List.getD_eq_getElem?_getD, List.getElem?_map, List.getElem?_eq_getElem h]; rfl
theorem strip_valid {o : OD} (h : objB o = true) : objB (stripD o) = true := by
  have hs := obj_relS h
  unfold objB at h ⊢
  simp only [Bool.and_eq_true] at h ⊢
  obtain ⟨h1, h2, h3, h4, h5, h6⟩ := h
  refine ⟨h1, ?_, ?_, rfl, rfl, rfl⟩
  · unfold symsB at h2 ⊢
    simp only [Bool.and_eq_true, decide_eq_true_eq] at h2 ⊢
    refine ⟨Nat.le_trans (stK_len o o.sy.length).2 h2.1, allOk_iff.2 (fun i hi => ?_)⟩
    have hi' : i < (jK o o.sy.length).length := by rw [← jK_len]; exact hi
    have hm := (jK_mem o _ _).1 (List.getElem_mem hi')
    have q := allOk_iff.1 h2.2 _ hm.1
    unfold symOk at q ⊢
    simp only [Bool.and_eq_true] at q ⊢
    rw [strip_sy o i hi']
    refine ⟨q.1, allOk_iff.2 (fun k hk => ?_)⟩
    have hk' : k < (jK o o.sy.length).length := by omega
    have hlt := List.pairwise_iff_getElem.1 (jK_sort o o.sy.length) k i hk' hi' hk
    have := allOk_iff.1 q.2 _ hlt
    unfold newY at this ⊢
    rw [strip_sy o i hi', strip_sy o k hk']
    exact this
  · unfold relsB at h3 ⊢
    simp only [Bool.and_eq_true, decide_eq_true_eq] at h3 ⊢
    have hl : (stripD o).re.length = o.re.length := List.length_map _
    rw [hl]
    refine ⟨h3.1, allOk_iff.2 (fun i hi => propB_t ?_)⟩
    have hp := propB_eq (allOk_iff.1 h3.2 i hi)
    have hr := strip_relS hs ((stripD o).re.getD i RE.z) (getD_mem (by omega))
    unfold relP at hp ⊢
    rw [strip_re o i hi] at hr ⊢
    obtain ⟨p1, p2, p3, p4, p5, p6⟩ := hp
    refine ⟨p1, p2, hr, p4, p5, fun hi0 => ?_⟩
    rw [strip_re o (i - 1) (by omega)]
    exact p6 hi0
theorem Tryz.sumSt2 : SumC Tryz.prog 29 (roA (st2S stripD)) := by
  refine roSumR 29 ⟨Tryz.f29, _, Tryz.fnOk29.1, Tryz.fnOk29.2, rfl⟩ ?_
  intro args v h2 hs
  unfold st2S at hs
  split at hs
  · rename_i c1 k1 c2 k2 c3 k3 c4 k4 c5 k5
    generalize AV.agg [.ro c1 k1, .ro c2 k2, .ro c3 k3, .ro c4 k4, .ro c5 k5] = ov at hs ⊢
    unfold st1S at hs
    rw [Ans.run_grd] at hs
    cases hb : (odIs ov && (propB (stInv (odP ov)) && objB (odP ov))) with
    | false => rw [hb] at hs; cases hs
    | true =>
    rw [hb, cond_true] at hs
    simp only [Bool.and_eq_true] at hb
    injection hs with hs
    injection hs with q1 q2
    subst q1; subst q2
    have key := Alone.argsW (AWs.args (.cons (od_aw hb.1) .nil)) (Tryz.alSt _ (propB_eq hb.2.1))
    rw [hb.2.2] at key
    exact ⟨fun e he => (by cases he), key⟩
  · cases hs
theorem Tryz.eSq : EnvOk2 Tryz.prog (Tryz.ESq stripD) := Tryz.envOk false (sumsOf (Tryz.tSq stripD)) _ (sumsOf_ok (show AllS Tryz.prog (Tryz.tSq stripD) from ⟨Tryz.saneSum, Tryz.sumSl, Tryz.sumIs, Tryz.sumPv, Tryz.sumSt2, Tryz.sumNs, Tryz.sumQy, Tryz.sumIy, Tryz.sumRs, trivial⟩))
theorem strip_inv {o : OD} (h : odC o) (hm : smallB o = true) : odInv (stripD o) ∧ smlP (stripD o) ∧ byteP (stripD o) := by
  obtain ⟨i1, ⟨i2, i3⟩, i4, i5, i6⟩ := small_inv h.1 hm
  obtain ⟨j1, j2, j3, j4, j5⟩ := small_len h hm
  have hl : (stripD o).re.length = o.re.length := List.length_map _
  have hs : (stripD o).sy.length ≤ o.sy.length := (stK_len o o.sy.length).2
  refine ⟨⟨i1, ⟨Nat.le_trans hs i2, fun s hs' => ?_⟩, by rw [hl]; exact i4, ⟨Nat.zero_le _, fun s hs => by cases hs⟩, Nat.zero_le _⟩, ⟨j1, Nat.le_trans hs j2, by rw [hl]; exact j3, Nat.zero_le _, Nat.zero_le _⟩, h.2.1⟩
  obtain ⟨i, hi, rfl⟩ := List.getElem_of_mem hs'
  have hi' : i < (jK o o.sy.length).length := by rw [← jK_len]; exact hi
  have e := strip_sy o i hi'
  rw [List.getD_eq_getElem?_getD, List.getElem?_eq_getElem hi] at e
  simp only [Option.getD_some] at e
  rw [e]
  exact i3 _ (getD_mem ((jK_mem o _ _).1 (List.getElem_mem hi')).1)
theorem strip_has {o : OD} (s : SymD) (h : s ∈ o.sy) (hb : s.2.2.2.2.1 ≠ 0) : s ∈ (stripD o).sy := by
  obtain ⟨j, hj, rfl⟩ := List.getElem_of_mem h
  have e : o.sy.getD j SY.z = o.sy[j] := by rw [List.getD_eq_getElem?_getD, List.getElem?_eq_getElem hj]; rfl
  show _ ∈ (stK o o.sy.length).1
  rw [jK_sy]
  exact List.mem_map.2 ⟨j, (jK_mem o _ _).2 ⟨hj, (kept_iff o j).2 (.inl (by rw [e]; exact hb))⟩, e⟩
theorem strip_named {o : OD} (hs : relS o) (s : SymD) (h : s ∈ (stripD o).sy) (hb : s.2.2.2.2.1 = 0) : s ∈ namesD o := by
  have h : s ∈ (stK o o.sy.length).1 := h
  rw [jK_sy] at h
  obtain ⟨j, hj, rfl⟩ := List.mem_map.1 h
  have hm := (jK_mem o _ _).1 hj
  rcases (kept_iff o j).1 hm.2 with q | ⟨r, hr, q⟩
  · exact absurd hb q
  · refine List.mem_map.2 ⟨r, hr, ?_⟩
    unfold symN
    rw [q, Int.toNat_natCast]
end Go.Ev
/- What the form's own reach gives: no string and no slice that is met takes more than reachBytes. -/
namespace Go.Ev
section
variable {H : Type}
mutual
def wzD : Sh → DataW H → Prop
  | .int _, _ => True
  | .bool, _ => True
  | .str, d => (strD d).size ≤ 140737488355328
  | .sl e, d => (elemsD d).length ≤ 140737488355328 ∧ ∀ x ∈ elemsD d, wzD e x
  | .agg l, d => wzDL l (partsD d)
def wzDL : List Sh → List (DataW H) → Prop
  | [], _ => True
  | s :: l, ds => wzD s (ds.headD .nil) ∧ wzDL l ds.tail
end
mutual
def shB (P : Program) : Sh → TypeId → Bool
  | .int _, _ => true
  | .bool, _ => true
  | .str, _ => true
  | .sl e, t => (match P.underlying t with | some (.slice u) => shB P e u && Nat.blt 0 (P.bytesOf u) | _ => false)
  | .agg l, t => (match P.underlying t with | some (.struct fs) => shBL P l (fs.toList.map (·.type)) | _ => false)
def shBL (P : Program) : List Sh → List TypeId → Bool
  | [], [] => true
  | s :: l, t :: ts => shB P s t && shBL P l ts
  | _, _ => false
end
variable {P : Program}
theorem weightsAll_mem {e : TypeId} : ∀ {l : List (DataW H)} {x : DataW H} {n : Nat}, x ∈ l → n ∈ x.weights P e → n ∈ DataW.weightsAll P e l
  | y :: l, x, n, hx, hn => by
    simp only [DataW.weightsAll, List.mem_append]
    rcases List.mem_cons.1 hx with rfl | h
    · exact Or.inl hn
    · exact Or.inr (weightsAll_mem h hn)
mutual
theorem weights_wz : ∀ (s : Sh) (t : TypeId) (d : DataW H), shB P s t = true → (∀ n ∈ d.weights P t, n ≤ reachBytes) → wzD s d
  | .int _, t, d, hs, h => by simp only [wzD]
  | .bool, t, d, hs, h => by simp only [wzD]
  | .str, t, d, hs, h => by
    simp only [wzD]
    have hr : reachBytes ≤ 140737488355328 := by decide
    cases d with
    | lit x =>
      cases x with
      | string l =>
        have := h l.length (by simp [DataW.weights])
        show l.toArray.size ≤ _
        rw [List.size_toArray]; omega
      | _ => exact Nat.zero_le _
    | _ => exact Nat.zero_le _
  | .sl e, t, d, hs, h => by
    simp only [wzD]
    simp only [shB] at hs
    have hr : reachBytes ≤ 140737488355328 := by decide
    split at hs
    · rename_i u hu
      simp only [Bool.and_eq_true] at hs
      have hb : 0 < P.bytesOf u := by simpa [Nat.blt_eq] using hs.2
      cases d with
      | slice elems spare =>
        refine ⟨?_, fun x hx => weights_wz e u x hs.1 fun n hn => h n ?_⟩
        · have := h ((elems.length + spare.length) * P.bytesOf u) (by simp [DataW.weights, hu])
          have h2 : elems.length + spare.length ≤ (elems.length + spare.length) * P.bytesOf u := Nat.le_mul_of_pos_right _ hb
          show elems.length ≤ _
          omega
        · simp only [DataW.weights, hu]
          exact List.mem_cons_of_mem _ (List.mem_append_left _ (weightsAll_mem hx hn))
      | _ => exact ⟨Nat.zero_le _, fun x hx => by cases hx⟩
    · cases hs
  | .agg l, t, d, hs, h => by
    simp only [wzD]
    simp only [shB] at hs
    split at hs
    · rename_i fs hu
      cases d with
      | agg parts =>
        refine weights_wzL l _ parts hs fun n hn => h n ?_
        simp only [DataW.weights, hu]; exact hn
      | _ => exact weights_wzL l _ [] hs fun n hn => by (cases hfs : fs.toList.map (·.type) <;> rw [hfs] at hn <;> simp [DataW.weightsEach] at hn)
    · cases hs
theorem weights_wzL : ∀ (l : List Sh) (ts : List TypeId) (ds : List (DataW H)), shBL P l ts = true → (∀ n ∈ DataW.weightsEach P ts ds, n ≤ reachBytes) → wzDL l ds
  | [], ts, ds, hs, h => by simp only [wzDL]
  | s :: l, [], ds, hs, h => by simp [shBL] at hs
  | s :: l, t :: ts, [], hs, h => by
    simp only [shBL, Bool.and_eq_true] at hs
    simp only [wzDL, List.headD_nil, List.tail_nil]
    exact ⟨weights_wz s t .nil hs.1 (fun n hn => by simp [DataW.weights] at hn), weights_wzL l ts [] hs.2 (fun n hn => by cases ts <;> simp [DataW.weightsEach] at hn)⟩
  | s :: l, t :: ts, d :: ds, hs, h => by
    simp only [shBL, Bool.and_eq_true] at hs
    simp only [wzDL, List.headD_cons, List.tail_cons]
    exact ⟨weights_wz s t d hs.1 (fun n hn => h n (by simp only [DataW.weightsEach, List.mem_append]; exact Or.inl hn)), weights_wzL l ts ds hs.2 (fun n hn => h n (by simp only [DataW.weightsEach, List.mem_append]; exact Or.inr hn))⟩
end
end
end Go.Ev
