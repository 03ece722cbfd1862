/- ObjStripped, for every input: the law answers true, and its argument reads as it did. -/
import Derived.Test.YtdogimleeplpkaaGreatChecked
import Derived.Test.YtdogimleeplpkaaGreatRows
import Derived.ProofKit
import Derived.JoinedCond
import Derived.Handed
import Derived.JoinedOf
import Derived.Test.YtdogimleeplpkaaGreatC11
set_option linter.unusedSectionVars false
set_option linter.unusedSimpArgs false
set_option linter.unusedVariables false
set_option maxRecDepth 100000
set_option maxRecDepth 1000000
noncomputable section
/- ObjCovered, for every input: the law answers true, and its arguments read as they did. -/
namespace Go.Ev
open Go.Proofs
section
variable {H : Type}
abbrev secSh : Sh := .agg [.str, .int .i64, .int .i64, .sl (.int .u8), .int .i64]
abbrev symSh : Sh := .agg [.str, .int .i64, .int .u32, .int .i64, .int .i64, .int .i64]
abbrev relSh : Sh := .agg [.int .i64, .int .i64, .int .i64, .int .i64, .int .i64]
abbrev linSh : Sh := .agg [.int .i64, .int .i64, .int .i64, .int .i64]
abbrev objSh : Sh := .agg [.sl secSh, .sl symSh, .sl relSh, .sl .str, .sl linSh]
def t0 (l : List (DataW H)) : DataW H := l.headD .nil
def t1 (l : List (DataW H)) : DataW H := l.tail.headD .nil
def t2 (l : List (DataW H)) : DataW H := l.tail.tail.headD .nil
def t3 (l : List (DataW H)) : DataW H := l.tail.tail.tail.headD .nil
def t4 (l : List (DataW H)) : DataW H := l.tail.tail.tail.tail.headD .nil
def t5 (l : List (DataW H)) : DataW H := l.tail.tail.tail.tail.tail.headD .nil
def secD (d : DataW H) : SecD := (strD (t0 (partsD d)), intD (t1 (partsD d)), intD (t2 (partsD d)), (elemsD (t3 (partsD d))).map intD, intD (t4 (partsD d)))
def symD (d : DataW H) : SymD := (strD (t0 (partsD d)), intD (t1 (partsD d)), intD (t2 (partsD d)), intD (t3 (partsD d)), intD (t4 (partsD d)), intD (t5 (partsD d)))
def relD (d : DataW H) : RelD := (intD (t0 (partsD d)), intD (t1 (partsD d)), intD (t2 (partsD d)), intD (t3 (partsD d)), intD (t4 (partsD d)))
def linD (d : DataW H) : LinD := (intD (t0 (partsD d)), intD (t1 (partsD d)), intD (t2 (partsD d)), intD (t3 (partsD d)))
def odD (d : DataW H) : OD := ⟨(elemsD (t0 (partsD d))).map secD, (elemsD (t1 (partsD d))).map symD, (elemsD (t2 (partsD d))).map relD, (elemsD (t3 (partsD d))).map strD, (elemsD (t4 (partsD d))).map linD⟩
theorem avs_tab {D : Type} (R : RowTy D) (sh : Sh) (f : DataW H → D) (hw : sh.wd = R.wd) (h1 : ∀ d, avs sh d = R.row (f d)) (h2 : f .nil = R.z) (l : List (DataW H)) :
    Con.tab (Sh.wd sh) l.length (fun i => avs sh (l.getD i .nil)) = R.con (l.map f) := by
  unfold RowTy.con
  have e : (fun i => avs sh (l.getD i .nil)) = fun i => R.row ((l.map f).getD i R.z) := by
    funext i
    rw [h1, List.getD_eq_getElem?_getD, List.getD_eq_getElem?_getD, List.getElem?_map, ← h2]
    cases l[i]? <;> rfl
  rw [e, List.length_map, hw]
theorem argA_obj (d : DataW H) : argA objSh d = (odD d).av := by
  have e1 := avs_tab SE secSh secD rfl (fun _ => rfl) rfl (elemsD (t0 (partsD d)))
  have e2 := avs_tab SY symSh symD rfl (fun _ => rfl) rfl (elemsD (t1 (partsD d)))
  have e3 := avs_tab RE relSh relD rfl (fun _ => rfl) rfl (elemsD (t2 (partsD d)))
  have e4 := avs_tab FI .str strD rfl (fun _ => rfl) rfl (elemsD (t3 (partsD d)))
  have e5 := avs_tab LI linSh linD rfl (fun _ => rfl) rfl (elemsD (t4 (partsD d)))
  unfold OD.av OD.row odD
  simp only
  rw [← e1, ← e2, ← e3, ← e4, ← e5]
  rfl
theorem u32_wf {d : DataW H} (h : wfD (.int .u32) d) : 0 ≤ intD d ∧ intD d < 4294967296 := by
  simp only [wfD, Lit.wf, IntKind.min, IntKind.max, IntKind.signed, IntKind.bits] at h
  simp at h
  omega
theorem obj_odB {d : DataW H} (hw : wfD objSh d) (hz : wzD objSh d) : odB (odD d) := by
  simp only [wfD, wfDL] at hw
  simp only [wzD, wzDL] at hz
  obtain ⟨z1, z2, z3, z4, z5, _⟩ := hz
  obtain ⟨w1, w2, w3, w4, w5, _⟩ := hw
  refine ⟨⟨?_, ?_, ?_⟩, ?_, ?_, ?_⟩
  · show ((elemsD _).map secD).length ≤ _
    rw [List.length_map]; exact z1.1
  · show ((elemsD _).map symD).length ≤ _
    rw [List.length_map]; exact z2.1
  · show ((elemsD _).map strD).length ≤ _
    rw [List.length_map]; exact z4.1
  · intro e he
    obtain ⟨x, hx, rfl⟩ := List.mem_map.1 he
    show ((elemsD _).map intD).length ≤ _
    rw [List.length_map]; exact (z1.2 x hx).2.2.2.1.1
  · intro e he
    obtain ⟨x, hx, rfl⟩ := List.mem_map.1 he
    have := (w2.2 x hx).2.2.1
    exact u32_wf (by simp only [wfD]; exact this)
  · intro e he
    obtain ⟨x, hx, rfl⟩ := List.mem_map.1 he
    exact z4.2 x hx
end
end Go.Ev
namespace Go.Proofs.YtdogimleeplpkaaGreat
open Go.Ev
theorem Tryz.ownG : ownKnob Tryz.prog.godebug = none := by kernel_rfl
theorem Tryz.kidsG : Kids Tryz.prog (· < Tryz.prog.types.size) := kids_rows (by kernel_rfl) (by kernel_rfl)
theorem Tryz.fullG : ∀ t e, t < Tryz.prog.types.size → Tryz.prog.underlying t = some (.slice e) → 0 < Tryz.prog.cellsOf e := slices_full_of Tryz.prog (by kernel_rfl)
end Go.Proofs.YtdogimleeplpkaaGreat
/- ObjChecks, for every input: the law answers true, and its arguments read as they did. -/
namespace Go.Ev
open Go.Proofs
section
variable {H : Type}
theorem u8_wf {d : DataW H} (h : wfD (.int .u8) d) : 0 ≤ intD d ∧ intD d < 256 := by
  simp only [wfD, Lit.wf, IntKind.min, IntKind.max, IntKind.signed, IntKind.bits] at h
  simp at h
  omega
theorem obj_odC {d : DataW H} (hw : wfD objSh d) (hz : wzD objSh d) : odC (odD d) := by
  refine ⟨obj_odB hw hz, ?_⟩
  simp only [wfD, wfDL] at hw
  simp only [wzD, wzDL] at hz
  obtain ⟨z1, z2, z3, z4, z5, _⟩ := hz
  obtain ⟨w1, w2, w3, w4, w5, _⟩ := hw
  refine ⟨?_, ?_, ?_⟩
  · intro e he n hn
    obtain ⟨x, hx, rfl⟩ := List.mem_map.1 he
    obtain ⟨y, hy, rfl⟩ := List.mem_map.1 (show n ∈ ((elemsD _).map intD) from hn)
    exact u8_wf (by have := (w1.2 x hx).2.2.2.1.2 y hy; simpa only [wfD] using this)
  · intro e he
    obtain ⟨x, hx, rfl⟩ := List.mem_map.1 he
    exact (z1.2 x hx).1
  · intro e he
    obtain ⟨x, hx, rfl⟩ := List.mem_map.1 he
    exact (z2.2 x hx).1
end
end Go.Ev
namespace Go.Proofs.YtdogimleeplpkaaGreat
open Go.Ev
end Go.Proofs.YtdogimleeplpkaaGreat
/- ObjStripped, for every input: the law answers true, and its argument reads as it did. -/
namespace Go.Ev
open Go.Proofs
theorem only_se (L : List SecD) : odP (AV.agg [AV.ro (SE.con L) none, AV.val (Value.slice none 0 0), AV.val (Value.slice none 0 0), AV.val (Value.slice none 0 0), AV.val (Value.slice none 0 0)]) = ⟨L, [], [], [], []⟩ := by
  show OD.mk (SE.list (SE.con L)) [] [] [] [] = _
  rw [listSE]
theorem only_is (L : List SecD) : odIs (AV.agg [AV.ro (SE.con L) none, AV.val (Value.slice none 0 0), AV.val (Value.slice none 0 0), AV.val (Value.slice none 0 0), AV.val (Value.slice none 0 0)]) = true := by
  show (SE.ok (SE.con L) && _) = true
  rw [SE.ok_con]; rfl
theorem Tryz.law7 (o : OD) (ho : odC o) : rootS (Tryz.ESq stripD) 6 7 (lsumsOf [(12, Tryz.LSp1 o (stripD (odP (.agg o.row)))), (18, Tryz.LSp2 o (stripD (odP (.agg o.row))))]) [o.av] = some (.val (.bool true), ⟨0, []⟩) := by
  have key := Tryz.rSp o stripD
  have l1 : ∀ L : List SymD, SY.list (SY.con L) = L := fun L => SY.list_con _
  simp only [odP_row, odIs_row, Bool.true_and, only_se, only_is, l1, SY.ok_con, isSt_refl, cond_true] at key
  rw [odP_row]
  rw [propB_t ho.1.1] at key
  refine key.trans ?_
  cases h1 : smallB o with
  | false => rfl
  | true =>
  rw [propB_t (small_inv ho.1 h1)]
  cases h2 : objB o with
  | false => rfl
  | true =>
  have hs := obj_relS h2
  obtain ⟨j1, j2, j3, j4, j5⟩ := small_len ho h1
  obtain ⟨x1, x2, x3⟩ := strip_inv ho h1
  have hl : (stripD o).re.length = o.re.length := List.length_map _
  have hc : ((((stripD o).re.length : Nat) : Int) != ((o.re.length : Nat) : Int)) = false := by rw [hl]; simp
  have hf : decide (IntKind.i64.wrap ((((stripD o).fi.length : Nat) : Int) + (((stripD o).li.length : Nat) : Int)) > 0) = false := by
    show decide (IntKind.i64.wrap (((([] : List ByteArray).length : Nat) : Int) + ((([] : List LinD).length : Nat) : Int)) > 0) = false
    rfl
  have hn : (namesD o).length ≤ 1000000 := by unfold namesD; rw [List.length_map]; exact j3
  rw [strip_strip hs, strip_valid h2, propB_t (show stInv o from ⟨small_inv ho.1 h1, j1, j2, j3, j4, j5⟩), propB_t x1, propB_t (show stInv (stripD o) from ⟨x1, x2⟩), hf, hc,
    propB_t (show relS (stripD o) ∧ (stripD o).re.length ≤ 1000000 from ⟨strip_relS hs, by omega⟩), propB_t (show relS o ∧ o.re.length ≤ 1000000 from ⟨hs, j3⟩), strip_names hs, ble_t hn, bool_eq (eqD_iff ceqSy_iff _ _), propB_t (rfl : namesD o = namesD o),
    propB_t (show smlP (stripD o) ∧ byteP (stripD o) ∧ byteP (stripD o) from ⟨x2, x3, x3⟩), propB_t (show sameP (stripD o) (stripD o) from ⟨rfl, rfl, rfl, rfl, rfl⟩)]
  rw [show (stripD o).se = o.se from rfl, propB_t (show smlP ⟨o.se, [], [], [], []⟩ ∧ byteP ⟨o.se, [], [], [], []⟩ ∧ byteP ⟨o.se, [], [], [], []⟩ from ⟨⟨j1, Nat.zero_le _, Nat.zero_le _, Nat.zero_le _, Nat.zero_le _⟩, ho.2.1, ho.2.1⟩),
    propB_t (show sameP ⟨o.se, [], [], [], []⟩ ⟨o.se, [], [], [], []⟩ from ⟨rfl, rfl, rfl, rfl, rfl⟩),
    propB_t (show sp1P o (stripD o) from ⟨j2, Nat.le_trans (stK_len o o.sy.length).2 j2, fun s h hb => strip_has s h hb⟩), propB_t (show sp2P o (stripD o) from ⟨Nat.le_trans (stK_len o o.sy.length).2 j2, ⟨hs, j3⟩, fun s h hb => strip_named hs s h hb⟩)]
  rfl
theorem Tryz.al7 (o : OD) (ho : odC o) : Alone Tryz.prog 7 [o.av] (.val (.bool true)) ⟨0, []⟩ :=
  rootS_alone Tryz.eSq (d := 6) (g := 7) (ls := lsumsOf [(12, Tryz.LSp1 o (stripD (odP (.agg o.row)))), (18, Tryz.LSp2 o (stripD (odP (.agg o.row))))]) (AllL.of2 (a := Tryz.bSp 0) (b := Tryz.bSp 1) (by kernel_rfl) (LsOk.of rfl rfl (Tryz.lSp1 o _)) (LsOk.of rfl rfl (Tryz.lSp2 o _))) (Tryz.law7 o ho)
section
variable {H : Type}
theorem argsA_st (d1 : DataW H) : argsA [objSh] [d1] = [(odD d1).av] := by
  rw [← argA_obj]; rfl
end
end Go.Ev
namespace Go.Proofs.YtdogimleeplpkaaGreat
open Go.Ev
theorem stripped_contract (H : Type) (enc : TypeId × Value → H) (W : World) (base : Nat) (args : Array Value) (ds gs : List (DataW H)) (before : List MemPlace)
    (hval : ∀ (j : Nat) t v, Tryz.f7.params[j]? = some t → args[j]? = some v → Value.okWide Tryz.prog W .any base t v)
    (hW : DataW.Whole enc Tryz.prog Tryz.f7.params.toList Rows.objStrippedSpec.vars false W args.toList ds gs before)
    (hz : (DataW.weightsEach Tryz.prog (Tryz.f7.params.toList ++ Rows.objStrippedSpec.plain.varTypes Tryz.prog) (ds ++ gs)).all (· ≤ reachBytes) = true) :
    Calls Tryz.prog 7 args W fun e W' => ∃ v, e = .returned v ∧ Rows.objStrippedSpec.post enc Tryz.prog Tryz.f7 false true false false W args v W' := by
  have hsh : shsOk Tryz.prog [objSh] Tryz.f7.params.toList = true := by kernel_rfl
  have hsb : shBL Tryz.prog [objSh] (Tryz.f7.params.toList ++ Rows.objStrippedSpec.plain.varTypes Tryz.prog) = true := by kernel_rfl
  obtain ⟨p, q, hA, hV, _⟩ := id hW
  obtain ⟨hwf, hlen⟩ := args_wf hsh hA
  obtain rfl : gs = [] := by cases gs with | nil => rfl | cons => cases hV
  have hwz := weights_wzL _ _ _ hsb (fun n hn => of_decide_eq_true (List.all_eq_true.1 hz n hn))
  match ds, hlen with
  | [d1], _ =>
    simp only [wfDL, List.headD_cons, List.tail_cons] at hwf
    simp only [List.append_nil, wzDL, List.headD_cons, List.tail_cons] at hwz
    have law := Tryz.al7 (odD d1) (obj_odC hwf.1 hwz.1)
    rw [← argsA_st] at law
    exact law_calls (b := 4) Tryz.kidsG Tryz.fullG (by kernel_rfl) rfl Tryz.underlying4 (by kernel_rfl) rfl hsh hval hW law
theorem stripped_lifted (os : Os) (started : os.Started) (H : Type) (enc : TypeId × Value → H) :
    ReturnsInHanded {} Tryz.checked os 7 .any (Rows.objStrippedSpec.pre6 enc Tryz.prog Tryz.f7 Rows.objStrippedRow.domain false) (Rows.objStrippedSpec.post enc Tryz.prog Tryz.f7 false true false false) := by
  refine returnsInHanded_of_change_sized (C := Tryz.checked) Tryz.ownG started (by kernel_rfl) Tryz.func7
    (ChangeSpec.witness6 (enc := enc) (C := Tryz.checked) false ⟨#[], #[.agg #[.slice none 0 0, .slice none 0 0, .slice none 0 0, .slice none 0 0, .slice none 0 0]], []⟩ 8 (by kernel_rfl) (by kernel_rfl) (by kernel_rfl) (by kernel_rfl)) ?_
  intro W base args ds gs before hval hW _ hz _
  exact stripped_contract H enc W base args ds gs before hval hW hz
theorem objStripped : Rows.ObjStrippedSaid :=
  OpenClaim.holds_of_wide 7 Tryz.f7 rfl rfl rfl rfl rfl rfl rfl ⟨rfl, rfl, rfl, rfl, rfl⟩ rfl rfl rfl rfl rfl (by kernel_rfl) Tryz.func7 (by kernel_rfl)
    (of_decide_eq_true (by kernel_rfl)) (by unfold Func.isWrapper; first | (rw [if_pos (by decide +kernel)]; kernel_rfl) | (rw [if_neg (by decide +kernel)]; exact ⟨rfl, rfl⟩))
    (fun os started H enc _ => stripped_lifted os started H enc)
end Go.Proofs.YtdogimleeplpkaaGreat
