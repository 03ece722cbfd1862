/- UnwindScans, for every input: the law answers true, and its arguments read as they did. -/
import Derived.Test.YtemblfgjamapbaaChecked
import Derived.Test.YtemblfgjamapbaaRows
import Derived.ProofKit
import Derived.JoinedCond
import Derived.Handed
import Derived.JoinedOf
import Derived.Test.YtemblfgjamapbaaC11
set_option linter.unusedSectionVars false
set_option linter.unusedSimpArgs false
set_option linter.unusedVariables false
set_option maxRecDepth 100000
set_option maxRecDepth 1000000
noncomputable section
/- Stacks: a round of its loop. -/
namespace Go.Ev
open Go.Proofs
end Go.Ev
/- Stacks, as a summary. -/
namespace Go.Ev
open Go.Proofs
end Go.Ev
/- Stacks, as a summary: its loop. -/
namespace Go.Ev
open Go.Proofs
end Go.Ev
/- Trace. -/
namespace Go.Ev
open Go.Proofs
end Go.Ev
/- UnwindStacks: its walk. -/
namespace Go.Ev
open Go.Proofs
def stepG (A : Nat → List UwE) (e : Evt) : Nat → List UwE := stepU (skGet (skA A)) e
def bT : Option (AV × Heap) := some (.val (.bool true), ⟨0, []⟩)
def bF : Option (AV × Heap) := some (.val (.bool false), ⟨0, []⟩)
end Go.Ev
/- UnwindStacks, for every input: the law answers true, and its arguments read as they did. -/
namespace Go.Ev
open Go.Proofs
section
variable {H : Type}
noncomputable def pAt (d : DataW H) (i : Nat) : DataW H := (partsD d).getD i .nil
theorem headTail (l : List (DataW H)) : l.headD .nil = l.getD 0 .nil ∧ ∀ i, l.tail.getD i .nil = l.getD (i + 1) .nil := by
  cases l <;> simp [List.headD]
end
end Go.Ev
namespace Go.Proofs.Ytemblfgjamapbaa
open Go.Ev
theorem Try.ownG : ownKnob Try.prog.godebug = none := by kernel_rfl
theorem Try.kidsG : Kids Try.prog (· < Try.prog.types.size) := kids_rows (by kernel_rfl) (by kernel_rfl)
theorem Try.fullG : ∀ t e, t < Try.prog.types.size → Try.prog.underlying t = some (.slice e) → 0 < Try.prog.cellsOf e := slices_full_of Try.prog (by kernel_rfl)
end Go.Proofs.Ytemblfgjamapbaa
/- Walks: frames compared. -/
namespace Go.Ev
open Go.Proofs
def uleq (x y : UlD) : Bool := x.1 == y.1 && (x.2.1 == y.2.1 && (x.2.2 == y.2.2 && true))
theorem uleq_iff (x y : UlD) : uleq x y = true ↔ x = y := by
  obtain ⟨a, b, c⟩ := x
  obtain ⟨a', b', c'⟩ := y
  simp [uleq]
def Try.E30 : Env := Try.env0 false (sumsOf []) (keepF 30 [(4, [0, 1, 12, 13])])
def Try.b30 : Code := nthD .skip (loopsOf (bodyOf Try.E30 30)) 0
def Try.V30 (L M : List UlD) (i : Int) : List AV := [.ro (UL.con L) none, .ro (UL.con M) none, .val (.int .i64 L.length), .val (.int .i64 i)]
theorem Try.r30 (L M : List UlD) (i : Int) : codeS Try.E30 (callF Try.E30 5) (Try.E30.keep 30) (lsumsOf []) Try.b30 (outK [0, 1, 12, 13] [4]) (stOf 26 [0, 1, 12, 13] (Try.V30 L M i) ⟨0, []⟩) = eqRound UL uleq 26 [0, 1, 12, 13] (Try.V30 L M) L M i := by kernel_rfl
theorem Try.e30 : EnvOk2 Try.prog Try.E30 := Try.envOk false (sumsOf []) _ (fun g A h => by cases h)
theorem Try.w30 (L M : List UlD) : rootS Try.E30 5 30 (lsumsOf [(4, eqL UL uleq 26 [0, 1, 12, 13] (Try.V30 L M) L M)]) [.ro (UL.con L) none, .ro (UL.con M) none] = eqRun UL uleq 26 [0, 1, 12, 13] (Try.V30 L M) L M := by kernel_rfl
def Try.A30 : AFun := eqqA UL uleq
theorem Try.sum30 : SumC Try.prog 30 Try.A30 := eq_sum Try.e30 (d := 5) (lid := 4) (c := Try.b30) ⟨Try.f30, _, Try.fnOk30.1, Try.fnOk30.2, rfl⟩ (by kernel_rfl) (by kernel_rfl) (by kernel_rfl) Try.V30 Try.r30 Try.w30
def badM : AV := .tup [.val (.pointer none), .val (.int .i64 4)]
def S22 (l : List PgD) (args : List AV) : Ans (AV × Heap) := match args with
  | [v] => .grd (isV v (.ro (PG.con l) none) && Nat.ble l.length 1000) (.br (propB (okPs l)) (.out (.tup [memV l, .val (.int .i64 0)], ⟨0, []⟩)) (.out (badM, ⟨0, []⟩)))
  | _ => .no
def Try.A22 (l : List PgD) : AFun := roA (S22 l)
theorem Try.sum22 (l : List PgD) : SumC Try.prog 22 (Try.A22 l) := by
  refine roSumR 22 ⟨Go.Proofs.Try.f22, _, Try.fnOk22.1, Try.fnOk22.2, rfl⟩ ?_
  intro args v h2 hs
  unfold S22 at hs
  split at hs
  · rename_i v0
    rw [gdB_run] at hs
    cases hb : (isV v0 (.ro (PG.con l) none) && Nat.ble l.length 1000) with
    | false => rw [hb] at hs; cases hs
    | true =>
      rw [hb] at hs
      rw [Bool.and_eq_true, Nat.ble_eq] at hb
      have h1 := isV_eq hb.1
      subst h1
      have key := Try.al22 l hb.2
      cases h : propB (okPs l) <;> (rw [h] at hs key; have hs := Option.some.inj hs; injection hs with q1 q2; subst q1; subst q2; exact ⟨fun e he => by (cases he), key⟩)
  · cases hs
end Go.Ev
/- UnwindPrefixes: the walk. -/
namespace Go.Ev
open Go.Proofs
def cpu0 : Cpu := ⟨fun _ => 0, 0, 0, fun _ => 0⟩
def in8 {α : Type} (w : List UlD) (i : Int) (x : Option α) : Option α := bif inR i w.length then x else none
theorem in8_t {α : Type} {w : List UlD} {k : Nat} (h : k < w.length) (x : Option α) : in8 w k x = x := by unfold in8; rw [inR_nat, decide_eq_true h]; rfl
def gV {α : Type} (a b : AV) (x : Option α) : Option α := bif isV a a && isV b b then x else none
end Go.Ev
/- UnwindPrefixes, for every input: the law answers true, and its arguments read as they did. -/
namespace Go.Ev
open Go.Proofs
theorem gV_t {α : Type} (a b : AV) (x : Option α) : gV a b x = x := by unfold gV; rw [isV_refl, isV_refl]; rfl
abbrev w32 : List Sh := [.int .u32, .int .u32, .int .u32, .int .u32]
abbrev vSh : Sh := .agg w32
abbrev cpuSh : Sh := .agg [.agg (w32 ++ w32 ++ w32 ++ w32), .int .u32, .int .i64, .agg [vSh, vSh, vSh, vSh, vSh, vSh, vSh, vSh]]
abbrev pgSh : Sh := .agg [.int .i64, .int .i64, .sl (.int .u8)]
section
variable {H : Type}
noncomputable def pgD (d : DataW H) : PgD := (intD (pAt d 0), intD (pAt d 1), (elemsD (pAt d 2)).map intD)
noncomputable def cpuD (d : DataW H) : Cpu := ⟨fun i => bif Nat.blt i 16 then intD (pAt (pAt d 0) i) else 0, intD (pAt d 1), intD (pAt d 2), fun i => intD (pAt (pAt (pAt d 3) (i / 4)) (i % 4))⟩
theorem avs_pg (d : DataW H) : avs pgSh d = pgRow (pgD d) := by
  simp only [avs, avsL, (headTail _).1, (headTail _).2]; rfl
theorem avs_pgs (l : List (DataW H)) : Con.tab (Sh.wd pgSh) l.length (fun i => avs pgSh (l.getD i .nil)) = PG.con (l.map pgD) := by
  unfold RowTy.con
  have e : (fun i => avs pgSh (l.getD i .nil)) = fun i => PG.row ((l.map pgD).getD i PG.z) := by
    funext i
    rw [avs_pg, List.getD_eq_getElem?_getD, List.getD_eq_getElem?_getD, List.getElem?_map]
    cases l[i]? <;> rfl
  rw [e, List.length_map]; rfl
theorem argA_pgs (d : DataW H) : argA (.sl pgSh) d = .ro (PG.con ((elemsD d).map pgD)) none := by rw [← avs_pgs]; rfl
theorem argA_cpu (d : DataW H) : argA cpuSh d = cpuV (cpuD d) := by
  show AV.agg (avsL _ (partsD d)) = _
  simp only [avs, avsL, (headTail _).1, (headTail _).2, List.cons_append, List.nil_append]
  rfl
theorem u8n_wf {d : DataW H} (h : wfD (.int .u8) d) : 0 ≤ intD d ∧ intD d ≤ 255 := by
  simp only [wfD, Lit.wf, IntKind.min, IntKind.max, IntKind.signed, IntKind.bits] at h
  simp at h
  omega
theorem u32n_wf {d : DataW H} (h : wfD (.int .u32) d) : 0 ≤ intD d ∧ intD d < 4294967296 := by
  simp only [wfD, Lit.wf, IntKind.min, IntKind.max, IntKind.signed, IntKind.bits] at h
  simp at h
  omega
theorem okB_wf {d : DataW H} (h : wfD (.sl pgSh) d) : okB ((elemsD d).map pgD) := by
  intro i
  rw [List.getD_eq_getElem?_getD, List.getElem?_map]
  simp only [wfD] at h
  cases hx : (elemsD d)[i]? with
  | none => exact fun j => ⟨Int.le_refl _, by show (0 : Int) < 256; decide⟩
  | some x =>
    have hm := h.2 x (List.mem_of_getElem? hx)
    simp only [wfDL, (headTail _).1, (headTail _).2] at hm
    have hb := hm.2.2.1
    simp only [wfD] at hb
    refine isBs_of (fun y hy => ?_)
    obtain ⟨z, hz, rfl⟩ := List.mem_map.1 hy
    have := u8n_wf (by simp only [wfD]; exact hb.2 z hz)
    omega
theorem wfDL_get : ∀ (s : List Sh) (ds : List (DataW H)) (i : Nat), wfDL s ds → ∀ x, s[i]? = some x → wfD x (ds.getD i .nil)
  | [], _, _, _, _, h => by simp at h
  | a :: s, ds, 0, h, x, hx => by
    simp only [wfDL, (headTail _).1] at h
    simp at hx; subst hx; exact h.1
  | a :: s, ds, i + 1, h, x, hx => by
    simp only [wfDL] at h
    rw [← (headTail ds).2 i]
    exact wfDL_get s ds.tail i h.2 x (by simpa using hx)
theorem cpu_wf {d : DataW H} (h : wfD cpuSh d) : 0 ≤ (cpuD d).pc ∧ ∀ i, 0 ≤ (cpuD d).r i ∧ (cpuD d).r i < 4294967296 := by
  simp only [wfD] at h
  refine ⟨(u32n_wf (wfDL_get _ _ 1 h _ rfl)).1, fun i => ?_⟩
  have h0 := wfDL_get _ _ 0 h _ rfl
  simp only [wfD] at h0
  show 0 ≤ (bif Nat.blt i 16 then intD (pAt (pAt d 0) i) else 0) ∧ (bif Nat.blt i 16 then intD (pAt (pAt d 0) i) else 0) < 4294967296
  rcases Nat.lt_or_ge i 16 with q | q
  · rw [blt_t q]
    refine u32n_wf (wfDL_get _ _ i h0 _ ?_)
    rcases i with _ | _ | _ | _ | _ | _ | _ | _ | _ | _ | _ | _ | _ | _ | _ | _ | i <;> first | rfl | omega
  · rw [blt_f q]; exact ⟨Int.le_refl _, by show (0 : Int) < 4294967296; decide⟩
end
end Go.Ev
namespace Go.Proofs.Ytemblfgjamapbaa
open Go.Ev
end Go.Proofs.Ytemblfgjamapbaa
/- Walks: frames found in a list; lists of frames cloned. -/
namespace Go.Ev
open Go.Proofs
def ixU (x : UlD) : List UlD → Nat → Int
  | [], _ => -1
  | y :: L, i => bif uleq x y then (i : Int) else ixU x L (i + 1)
def Try.E71 : Env := Try.env0 false (sumsOf []) (keepF 71 [(2, [0, 3, 7, 8])])
def Try.b71 : Code := nthD .skip (loopsOf (bodyOf Try.E71 71)) 0
def Try.s71 (L : List UlD) (x : UlD) (i : Int) : St := stOf 19 [0, 3, 7, 8] [.ro (UL.con L) none, .ptr 0 0 0, .val (.int .i64 L.length), .val (.int .i64 i)] ⟨1, [⟨0, 0, .cells (.rows true 3 [ulRow x])⟩]⟩
def Try.x71 (L : List UlD) (x : UlD) : AX × St := bif decide (0 ≤ ixU x L 0) then (.ret, stOf 19 [4] [.val (.int .i64 (ixU x L 0))] ⟨0, []⟩) else (.exit 0, stOf 19 [] [] ⟨0, []⟩)
def Try.L71 (L : List UlD) (x : UlD) : LSum := atL (Try.s71 L x 0) (.grd (Nat.ble L.length 1000000) (.br (decide (0 ≤ ixU x L 0)) (.out (.ret, stOf 19 [4] [.val (.int .i64 (ixU x L 0))] ⟨0, []⟩)) (.out (.exit 0, stOf 19 [] [] ⟨0, []⟩))))
theorem Try.r71 (L : List UlD) (x : UlD) (i : Int) : codeS Try.E71 (callF Try.E71 5) (Try.E71.keep 71) (lsumsOf []) Try.b71 (outK [0, 3, 7, 8] [4]) (Try.s71 L x i) =
    bif decide (i < (L.length : Int)) then (bif inR i L.length then (bif uleq x (L.getD i.toNat UL.z) then some (.ret, stOf 19 [4] [.val (.int .i64 i)] ⟨0, []⟩) else some (.normal, Try.s71 L x (IntKind.i64.wrap (i + 1)))) else none)
    else some (.exit 0, stOf 19 [] [] ⟨0, []⟩) := by kernel_rfl
theorem Try.e71 : EnvOk2 Try.prog Try.E71 := Try.envOk false (sumsOf []) _ (fun g A h => by cases h)
theorem Try.w71 (L : List UlD) (x : UlD) : rootS Try.E71 5 71 (lsumsOf [(2, Try.L71 L x)]) [.ro (UL.con L) none, .agg (ulRow x)] =
 bif isSt (Try.s71 L x 0) (Try.s71 L x 0) then (bif Nat.ble L.length 1000000 then (bif decide (0 ≤ ixU x L 0) then some (.val (.int .i64 (ixU x L 0)), ⟨0, []⟩) else some (.val (.int .i64 (-1)), ⟨0, []⟩)) else none) else none := by kernel_rfl
theorem ixU_ge (x : UlD) : ∀ (L : List UlD) (i : Nat), ixU x L i = -1 ∨ (i : Int) ≤ ixU x L i
  | [], i => .inl rfl
  | y :: L, i => by
    show (bif uleq x y then (i : Int) else ixU x L (i + 1)) = -1 ∨ (i : Int) ≤ bif uleq x y then (i : Int) else ixU x L (i + 1)
    cases uleq x y
    · rcases ixU_ge x L (i + 1) with h | h
      · exact .inl h
      · exact .inr (by show (i : Int) ≤ ixU x L (i + 1); omega)
    · exact .inr (Int.le_refl _)
theorem ixU_neg {x : UlD} {L : List UlD} (h : decide (0 ≤ ixU x L 0) = false) : ixU x L 0 = -1 := by
  rw [decide_eq_false_iff_not] at h
  rcases ixU_ge x L 0 with q | q
  · exact q
  · omega
theorem ixU_mem (x : UlD) : ∀ (L : List UlD) (i : Nat), x ∈ L → (i : Int) ≤ ixU x L i
  | [], i, h => by cases h
  | y :: L, i, h => by
    show (i : Int) ≤ bif uleq x y then (i : Int) else ixU x L (i + 1)
    cases hq : uleq x y with
    | true => exact Int.le_refl _
    | false =>
      rcases List.mem_cons.1 h with q | q
      · rw [(uleq_iff x y).2 q] at hq; cases hq
      · have := ixU_mem x L (i + 1) q
        show (i : Int) ≤ ixU x L (i + 1)
        omega
theorem drop_cons {α : Type} {L : List α} {k : Nat} {z : α} (h : k < L.length) : L.drop k = L.getD k z :: L.drop (k + 1) := by
  rw [List.drop_eq_getElem_cons h, List.getD_eq_getElem?_getD, List.getElem?_eq_getElem h]; rfl
theorem Try.s71_ok (L : List UlD) (x : UlD) (i : Int) : (Try.s71 L x i).h.ok := heap_ok [0] rfl (by decide) (by decide)
theorem Try.l71 (L : List UlD) (x : UlD) : ∀ s e s', s.h.ok → (Try.L71 L x s).run = some (e, s') → Triple Try.prog (.loop Try.b71) s e s' := by
  refine atL_grd (fun hp => ?_)
  rw [Nat.ble_eq] at hp
  refine loop_at Try.e71 (d := 5) (g := 71) (ls := lsumsOf []) (c := Try.b71) trivial [0, 3, 7, 8] [4] (T := Nat)
    (fun k => Try.s71 L x k) (fun k => k ≤ L.length ∧ ixU x L 0 = ixU x (L.drop k) k) (fun k => L.length - k) (fun _ => Try.x71 L x) _ _ 0 ⟨Nat.zero_le _, by rw [List.drop_zero]⟩ (Weak.refl (Try.s71_ok _ _ _)) (fun e s' h => by
      rw [Ans.run_br] at h
      unfold Try.x71
      cases hq : decide (0 ≤ ixU x L 0) <;> rw [hq] at h <;> exact Option.some.inj h) (fun k _ => Try.s71_ok _ _ _) ?_
  rintro k ⟨hk, he⟩
  have key := Try.r71 L x k
  by_cases h : k < L.length
  · have e2 : ixU x L 0 = bif uleq x (L.getD k UL.z) then (k : Int) else ixU x (L.drop (k + 1)) (k + 1) := by rw [he, drop_cons (z := UL.z) h]; rfl
    rw [declt_nat, inR_nat, decide_eq_true h, Int.toNat_natCast, wrapT k (by omega)] at key
    cases hq : uleq x (L.getD k UL.z) with
    | true =>
      rw [hq] at key e2
      refine .inr ?_
      show ∃ _, _
      have e3 : Try.x71 L x = (.ret, stOf 19 [4] [.val (.int .i64 k)] ⟨0, []⟩) := by
        unfold Try.x71
        rw [e2, cond_true, decide_eq_true (show (0 : Int) ≤ k by omega)]; rfl
      simp only [e3]
      exact ⟨_, key, Weak.refl heap0_ok, by show AX.ret ≠ .normal; simp⟩
    | false =>
      rw [hq] at key e2
      exact .inl ⟨k + 1, _, key, Weak.refl (Try.s71_ok _ _ _), ⟨h, e2⟩, by omega, rfl⟩
  · have e1 : k = L.length := by omega
    rw [declt_nat, decide_eq_false h] at key
    have e2 : ixU x L 0 = -1 := by rw [he, e1, List.drop_length]; rfl
    have e3 : Try.x71 L x = (.exit 0, stOf 19 [] [] ⟨0, []⟩) := by unfold Try.x71; rw [e2]; rfl
    refine .inr ?_
    show ∃ _, _
    simp only [e3]
    exact ⟨_, key, Weak.refl heap0_ok, by show (AX.exit 0) ≠ .normal; simp⟩
theorem Try.al71 (L : List UlD) (x : UlD) (h : L.length ≤ 1000000) : Alone Try.prog 71 [.ro (UL.con L) none, .agg (ulRow x)] (.val (.int .i64 (ixU x L 0))) ⟨0, []⟩ := by
  refine rootS_alone Try.e71 (d := 5) (g := 71) (ls := lsumsOf [(2, Try.L71 L x)]) (AllL.of1 (a := Try.b71) (by kernel_rfl) (LsOk.of rfl rfl (Try.l71 L x))) ((Try.w71 L x).trans ?_)
  rw [isSt_refl, ble_t h]
  cases hq : decide (0 ≤ ixU x L 0) with
  | true => rfl
  | false => rw [ixU_neg hq]; rfl
def S71 (args : List AV) : Ans (AV × Heap) := match args with
  | [.ro c cap, .agg r] => .grd (UL.ok c && (ulIs r && Nat.ble c.len 1000000)) (.out (.val (.int .i64 (ixU (ulParse r) (UL.list c) 0)), ⟨0, []⟩))
  | _ => .no
def Try.A71 : AFun := roA S71
def Try.A36 : AFun := roA (cloneR UL)
theorem ul_back {r : List AV} (h : ulIs r = true) : r = ulRow (ulParse r) := by
  unfold ulIs at h
  split at h
  · rfl
  · cases h
theorem Try.sum71 : SumC Try.prog 71 Try.A71 := by
  refine roSumR 71 ⟨Try.f71, _, Try.fnOk71.1, Try.fnOk71.2, rfl⟩ ?_
  intro args v h2 hs
  unfold S71 at hs
  split at hs
  · rename_i c cap r
    rw [Ans.run_grd] at hs
    obtain ⟨hb, hs⟩ := grd_some hs
    simp only [Bool.and_eq_true, Nat.ble_eq] at hb
    obtain ⟨h1, h2, h3⟩ := hb
    have hs := Option.some.inj hs
    injection hs with q1 q2
    subst q1; subst q2
    refine ⟨fun e he => (by cases he), ?_⟩
    have key := Try.al71 (UL.list c) (ulParse r) (by rw [UL.list_len]; exact h3)
    rw [← ul_back h2] at key
    exact Alone.argsW (AWs.args (.cons (UL.aw h1 _) (.cons (AW.refl _) .nil))) key
  · cases hs
theorem Try.r36a (n : Nat) (f : Nat → List AV) (cap : Option Nat) : rootS Try.E1 3 36 (lsumsOf []) [.ro (.tab 3 (n + 1) f) cap] = bif ((0 + (n + 1)) * 12).ble Ev.most && (0 + (n + 1)).ble Ev.most then some (.own 0 0 (0 + (n + 1)) none 3, ⟨1, [⟨0, 0, .cells (.tab 3 (n + 1) f)⟩]⟩) else none := by kernel_rfl
theorem Try.r36b (m : Nat) : rootS Try.E1 3 36 (lsumsOf []) [.val (.slice none 0 m)] = some (.val (.slice none 0 0), ⟨0, []⟩) := by kernel_rfl
theorem Try.r36c (p : Addr) (m : Nat) : rootS Try.E1 3 36 (lsumsOf []) [.val (.slice (some p) 0 m)] = some (.own 0 0 0 none 3, ⟨1, [⟨0, 0, .cells (.rows true 3 [])⟩]⟩) := by kernel_rfl
theorem Try.al36 (L : List UlD) (cap : Option Nat) (hL : L.length ≤ 1000000) : Alone Try.prog 36 [.ro (UL.con L) cap] (.own 0 0 L.length none 3) (oneH (UL.con L)) := by
  have run := fun args v h2 => rootS_alone Try.e1 (d := 3) (g := 36) (ls := lsumsOf []) (AllL.of0 (by kernel_rfl)) (args := args) (v := v) (h2 := h2)
  refine clone_tab UL cap (fun n f hn => ?_) (fun m => ⟨_, run _ _ _ (Try.r36b m)⟩) (fun p m => run _ _ _ (Try.r36c p m)) L hL
  have key := Try.r36a n f cap
  rw [Nat.zero_add, ble_t (by rw [most_eq]; omega), ble_t (by rw [most_eq]; omega)] at key
  exact run _ _ _ key
theorem Try.sum36 : SumC Try.prog 36 Try.A36 := cloneR_sum UL ⟨Try.f36, _, Try.fnOk36.1, Try.fnOk36.2, rfl⟩ (fun L cap hL => Try.al36 L cap hL)
end Go.Ev
/- UnwindScans: the walk. -/
namespace Go.Ev
open Go.Proofs
def Try.t9 (l : List PgD) (c : Cpu) : List (Nat × AFun) := [(12, constA (.bool true)), (22, Try.A22 l), (28, Try.A28 l c), (31, Try.A31 l), (30, Try.A30), (70, Try.A70 l), (71, Try.A71), (36, Try.A36)]
def k9 : List Nat := [2, 11, 13, 14, 15, 17, 21, 22]
def o9 : List Nat := [2, 10, 11, 13, 14, 17]
def Try.E9 (l : List PgD) (c : Cpu) : Env := Try.env0 false (sumsOf (Try.t9 l c)) (keepF 9 [(15, k9)])
def Try.b9 : Code := nthD .skip (loopsOf (bodyOf (Try.E9 [] cpu0) 9)) 0
structure S9 where
  w : List UlD
  all : List UlD
  a : Int
  many : Int
  part : Int
  can : Bool
def Try.s9 (l : List PgD) (t : S9) (i : Int) : St := stOf 166 k9 [.val (.int .u32 t.a), memV l, .val (.int .i64 t.many), .val (.int .i64 t.part), .ro (UL.con t.w) none, .ro (UL.con t.all) none, .val (.bool t.can), .val (.int .i64 i)] ⟨0, []⟩
def Try.x9 (l : List PgD) (t : S9) : AX × St := (.exit 0, stOf 166 [2, 11, 13, 14, 17] [.val (.int .u32 t.a), memV l, .val (.int .i64 t.many), .val (.int .i64 t.part), .ro (UL.con t.all) none] ⟨0, []⟩)
def Try.B9 (l : List PgD) (c : Cpu) (s : St) : Option (AX × St) := codeS (Try.E9 l c) (callF (Try.E9 l c) 5) ((Try.E9 l c).keep 9) (lsumsOf []) Try.b9 (outK k9 o9) s
def Try.no9 (l : List PgD) (t : S9) : Option (AX × St) := some (.ret, stOf 166 o9 [.val (.int .u32 t.a), .val (.bool false), memV l, .val (.int .i64 t.many), .val (.int .i64 t.part), .ro (UL.con t.all) none] ⟨0, []⟩)
def d9 (t : S9) (x : UlD) : Int := IntKind.u32.wrap (x.1 - t.a)
def n4 (n : Int) : Int := IntKind.i64.wrap (4 * n)
def Try.q9 (l : List PgD) (t : S9) (i : Int) (x : UlD) : Option (AX × St) :=
  bif decide (i < (t.w.length : Int)) then
   in8 t.w i (bif t.can then (bif (d9 t x).tmod 4 == 0 then (bif decide (d9 t x < IntKind.u32.wrap (n4 t.many)) then in8 t.w i (bif UL.ok (UL.con t.all) && (ulIs (ulRow x) && Nat.ble t.all.length 1000000) then
     (bif decide (ixU x (UL.list (UL.con t.all)) 0 ≥ 0) then some (.normal, Try.s9 l t (IntKind.i64.wrap (i + 1))) else Try.no9 l t) else none)
      else some (.normal, Try.s9 l t (IntKind.i64.wrap (i + 1)))) else some (.normal, Try.s9 l t (IntKind.i64.wrap (i + 1)))) else some (.normal, Try.s9 l t (IntKind.i64.wrap (i + 1))))
  else some (Try.x9 l t)
theorem Try.r9 (l : List PgD) (c : Cpu) (t : S9) (i : Int) : Try.B9 l c (Try.s9 l t i) =
 Try.q9 l t i (t.w.getD i.toNat UL.z) := by kernel_rfl
def pre9 (t : S9) : Prop := t.w.length ≤ 1000 ∧ t.all.length ≤ 1000000 ∧ ∀ x ∈ t.w, t.can = true → (d9 t x).tmod 4 = 0 → d9 t x < IntKind.u32.wrap (n4 t.many) → 0 ≤ ixU x t.all 0
def Try.L9 (l : List PgD) (t : S9) : LSum := atL (Try.s9 l t 0) (.grd (propB (pre9 t)) (.out (Try.x9 l t)))
def an3 (a : Int) : Int := IntKind.u32.wrap ((BitVec.ofInt 32 a &&& ~~~(BitVec.ofInt 32 3)).toNat : Int)
def many9 (n : Int) : Int := (IntKind.i64.wrap n).tmod 601
def part9 (n k : Int) : Int := (IntKind.i64.wrap k).tmod (IntKind.i64.wrap (many9 n + 1))
def rd9 {α : Type} (l : List PgD) (a n : Int) (K : Bool → Option α) : Option α := gdM l a (bif decide (n < 0) then K false else bif decide (n > 65536) then K false else bif (pcE l 1 a n).2.2 then K false else K true)
def sc9 {α : Type} (l : List PgD) (a n : Int) (no yes : Option α) : Option α := bif isV (memV l) (memV l) && decide (0 ≤ a) then (bif scanB a n then no else yes) else none
def cat9 (A B : List UlD) : Con := .tab 3 (A.length + B.length) (fun i => bif (0 + i).blt A.length then UL.row ((UL.list (UL.con A)).getD (0 + (0 + i)) UL.z) else UL.row (B.getD (0 + i - A.length) UL.z))
def f9 (A B all : List UlD) : Option (AV × Heap) :=
  bif UL.ok (UL.con A) && Nat.ble A.length 1000000 then
   (bif (0 + A.length).ble (UL.list (UL.con A)).length then (bif ((A.length + B.length) * 12).ble Ev.most && (A.length + B.length).ble Ev.most then
    (bif (0 + (A.length + B.length)).ble (A.length + B.length) && true then (bif UL.ok (cat9 A B) && (UL.ok (UL.con all) && Nat.ble (UL.list (cat9 A B)).length 1000000) then (bif eqD UL uleq (UL.list (cat9 A B)) (UL.list (UL.con all)) then bT else bF) else none) else none) else none) else none)
  else none
def Try.y9 (l : List PgD) (t : S9) (can : Bool) : Option (AV × Heap) :=
  sc9 l t.a t.part (sc9 l (IntKind.u32.wrap (t.a + IntKind.u32.wrap (n4 t.part))) (IntKind.i64.wrap (t.many - t.part)) bF bF)
   (sc9 l (IntKind.u32.wrap (t.a + IntKind.u32.wrap (n4 t.part))) (IntKind.i64.wrap (t.many - t.part)) bF (bif can then f9 (scanL l t.a t.part) (scanL l (IntKind.u32.wrap (t.a + IntKind.u32.wrap (n4 t.part))) (IntKind.i64.wrap (t.many - t.part))) t.all else bT))
def Try.z9 (l : List PgD) (t0 t : S9) : Option (AV × Heap) :=
  bif isSt (Try.s9 l t0 0) (Try.s9 l t 0) then (bif propB (pre9 t) then rd9 l t.a (n4 t.part) (fun b => Try.y9 l t b) else none) else none
theorem Try.w9 (l : List PgD) (c : Cpu) (a n k : Int) (t : S9) : rootS (Try.E9 l c) 5 9 (lsumsOf [(15, Try.L9 l t)]) [.ro (PG.con l) none, cpuV c, .val (.int .u32 a), .val (.int .u16 n), .val (.int .u16 k)] =
    bif decide ((l.length : Int) > 40) then bT
    else bif isV (.ro (PG.con l) none) (.ro (PG.con l) none) && Nat.ble l.length 1000 then
     (bif propB (okPs l) then
       (bif IntKind.i64.wrap (many9 n + 1) != 0 then gV (cpuV c) (memV l) (sc9 l (an3 a) (many9 n) bF (rd9 l (an3 a) (n4 (many9 n)) (fun b => Try.z9 l ⟨(walkR l c 100).2.2, scanL l (an3 a) (many9 n), an3 a, many9 n, part9 n k, b⟩ t))) else none)
      else bT)
    else none := by kernel_rfl
end Go.Ev
/- UnwindScans, for every input: the law answers true, and its arguments read as they did. -/
namespace Go.Ev
open Go.Proofs
theorem Try.r9t (l : List PgD) (c : Cpu) (t : S9) (hp : pre9 t) (k : Nat) (hk : k < t.w.length) : Try.B9 l c (Try.s9 l t k) = some (.normal, Try.s9 l t ((k + 1 : Nat) : Int)) := by
  obtain ⟨h1, h2, h3⟩ := hp
  have key := Try.r9 l c t k
  rw [Int.toNat_natCast] at key
  have hx : t.w.getD k UL.z ∈ t.w := by rw [List.getD_eq_getElem?_getD, List.getElem?_eq_getElem hk]; exact List.getElem_mem hk
  generalize t.w.getD k UL.z = x at *
  rw [key]
  unfold Try.q9
  rw [declt_nat, decide_eq_true hk, in8_t hk, in8_t hk, wrapT k (by omega), UL.ok_con, UL.list_con, ble_t h2]
  cases hc : t.can with
  | false => rfl
  | true =>
    cases hd : (d9 t x).tmod 4 == 0 with
    | false => rfl
    | true =>
      rw [beq_iff_eq] at hd
      cases he : decide (d9 t x < IntKind.u32.wrap (n4 t.many)) with
      | false => rfl
      | true =>
        rw [decide_eq_true_eq] at he
        have := h3 x hx hc hd he
        rw [decide_eq_true (show ixU x t.all 0 ≥ 0 from this)]; rfl
theorem Try.e9 (l : List PgD) (hl : okB l) (c : Cpu) (hc : 0 ≤ c.pc) (hr : ∀ i, 0 ≤ c.r i) : EnvOk2 Try.prog (Try.E9 l c) := Try.envOk false (sumsOf (Try.t9 l c)) _ (sumsOf_ok (show AllS Try.prog (Try.t9 l c) from ⟨Try.saneSum, Try.sum22 l, Try.sum28 l hl c hc hr, Try.sum31 l hl, Try.sum30, Try.sum70 l, Try.sum71, Try.sum36, trivial⟩))
theorem Try.l9 (l : List PgD) (hl : okB l) (c : Cpu) (hc : 0 ≤ c.pc) (hr : ∀ i, 0 ≤ c.r i) (t : S9) : ∀ s e s', s.h.ok → (Try.L9 l t s).run = some (e, s') → Triple Try.prog (.loop Try.b9) s e s' := by
  refine atL_grd (fun hp => ?_)
  have hp := propB_eq hp
  refine loop_at (Try.e9 l hl c hc hr) (d := 5) (g := 9) (ls := lsumsOf []) (c := Try.b9) trivial k9 o9 (T := Nat)
    (fun k => Try.s9 l t k) (fun k => k ≤ t.w.length) (fun k => t.w.length - k) (fun _ => Try.x9 l t) _ _ 0 (Nat.zero_le _) (Weak.refl heap0_ok) (fun e s' h => Option.some.inj h) (fun k _ => heap0_ok) ?_
  intro k hk
  by_cases h : k < t.w.length
  · exact .inl ⟨k + 1, _, Try.r9t l c t hp k h, Weak.refl heap0_ok, h, by omega, rfl⟩
  · have key := Try.r9 l c t k
    unfold Try.q9 at key
    rw [declt_nat, decide_eq_false h] at key
    exact .inr ⟨_, key, Weak.refl heap0_ok, by show (AX.exit 0) ≠ .normal; simp⟩
theorem an3_rg (a : Int) : 0 ≤ an3 a ∧ an3 a < 4294967296 ∧ an3 a % 4 = 0 := by
  unfold an3
  rw [IntKind.wrap_u32]
  have h : (BitVec.ofInt 32 a &&& ~~~(BitVec.ofInt 32 3)).toNat % 4 = 0 := by
    rw [BitVec.toNat_and]
    have e : (~~~(BitVec.ofInt 32 3)).toNat = 4294967292 := by decide
    rw [e, show (4 : Nat) = 2 ^ 2 from rfl, Nat.and_mod_two_pow]
    show _ &&& 0 = 0
    exact Nat.and_zero _
  omega
theorem many9_rg {n : Int} (h0 : 0 ≤ n) (h1 : n ≤ 65535) : 0 ≤ many9 n ∧ many9 n ≤ 600 := by
  unfold many9
  rw [wrap64 _ (by omega) (by omega), Int.tmod_eq_emod_of_nonneg h0]
  omega
theorem part9_rg {n k : Int} (h0 : 0 ≤ n) (h1 : n ≤ 65535) (h2 : 0 ≤ k) (h3 : k ≤ 65535) : 0 ≤ part9 n k ∧ part9 n k ≤ many9 n := by
  have := many9_rg h0 h1
  unfold part9
  rw [wrap64 k (by omega) (by omega), wrap64 _ (by omega) (by omega), Int.tmod_eq_emod_of_nonneg h2]
  have a1 := Int.emod_nonneg k (show many9 n + 1 ≠ 0 by omega)
  have a2 := Int.emod_lt_of_pos k (show 0 < many9 n + 1 by omega)
  omega
theorem n4_eq {n : Int} (h0 : 0 ≤ n) (h1 : n ≤ 600) : n4 n = 4 * n := by
  unfold n4
  rw [wrap64 _ (by omega) (by omega)]
theorem tmod4 {a : Int} (h0 : 0 ≤ a) (h : a % 4 = 0) : (a.tmod 4 != 0) = false := by
  rw [Int.tmod_eq_emod_of_nonneg h0, h]; rfl
theorem scanB_f {a n : Int} (h0 : 0 ≤ a) (h : a % 4 = 0) (h1 : 0 ≤ n) (h2 : n ≤ 600) : scanB a n = false := by
  unfold scanB
  rw [tmod4 h0 h, decide_eq_false (by omega), decide_eq_false (by omega)]; rfl
theorem sc9_t {α : Type} (l : List PgD) {a n : Int} (h0 : 0 ≤ a) (h : a % 4 = 0) (h1 : 0 ≤ n) (h2 : n ≤ 600) (x y : Option α) : sc9 l a n x y = y := by
  unfold sc9
  rw [isV_refl, decide_eq_true h0, scanB_f h0 h h1 h2]; rfl
theorem rd9_t {α : Type} (l : List PgD) {a n : Int} (h0 : 0 ≤ a) (h1 : 0 ≤ n) (h2 : n ≤ 2400) (K : Bool → Option α) : rd9 l a n K = K (!(pcE l 1 a n).2.2) := by
  unfold rd9
  rw [gdM_eq l h0, decide_eq_false (show ¬ n < 0 by omega), decide_eq_false (show ¬ n > 65536 by omega)]
  cases (pcE l 1 a n).2.2 <;> rfl
theorem cat9_ok (A B : List UlD) : UL.ok (cat9 A B) = true := by
  unfold RowTy.ok
  rw [Bool.and_eq_true]
  refine ⟨rfl, @decide_eq_true _ (Classical.propDecidable _) (fun i _ => ?_)⟩
  show UL.is (bif (0 + i).blt A.length then UL.row _ else UL.row _) = true
  cases (0 + i).blt A.length <;> exact UL.isr _
theorem cat9_list (A B : List UlD) : UL.list (cat9 A B) = A ++ B := by
  apply List.ext_getElem?
  intro i
  have e : ∀ i, i < A.length + B.length → (UL.list (cat9 A B))[i]? = some (UL.parse (bif (0 + i).blt A.length then UL.row ((UL.list (UL.con A)).getD (0 + (0 + i)) UL.z) else UL.row (B.getD (0 + i - A.length) UL.z))) := fun i hi => by
    show ((List.range (A.length + B.length)).map _)[i]? = _
    rw [List.getElem?_map, List.getElem?_range hi]; rfl
  rcases Nat.lt_or_ge i (A.length + B.length) with h | h
  · rw [e i h, UL.list_con, Nat.zero_add, Nat.zero_add]
    rcases Nat.lt_or_ge i A.length with q | q
    · rw [blt_t q, cond_true, UL.back, List.getElem?_append_left q, List.getD_eq_getElem?_getD, List.getElem?_eq_getElem q]; rfl
    · rw [blt_f q, cond_false, UL.back, List.getElem?_append_right q, List.getD_eq_getElem?_getD, List.getElem?_eq_getElem (show i - A.length < B.length by omega)]; rfl
  · rw [List.getElem?_eq_none (by rw [UL.list_len]; exact h), List.getElem?_eq_none (by rw [List.length_append]; exact h)]
theorem f9_t {A B all : List UlD} (h : A ++ B = all) (ha : A.length ≤ 1000) (hb : B.length ≤ 1000) : f9 A B all = bT := by
  have hm := most_eq
  unfold f9
  rw [UL.ok_con, ble_t (show A.length ≤ 1000000 by omega), UL.list_con, Nat.zero_add, ble_t (Nat.le_refl _), ble_t (show (A.length + B.length) * 12 ≤ Ev.most by omega), ble_t (show A.length + B.length ≤ Ev.most by omega), Nat.zero_add, ble_t (Nat.le_refl _), cat9_ok, cat9_list, UL.ok_con, UL.list_con, List.length_append, ble_t (show A.length + B.length ≤ 1000000 by omega), h,
    (eqD_iff (R := UL) uleq_iff all all).2 rfl]
  rfl
theorem y9_t (l : List PgD) (t : S9) (h0 : 0 ≤ t.a) (h1 : t.a < 4294967296) (h2 : t.a % 4 = 0) (h3 : 0 ≤ t.many) (h4 : t.many ≤ 600) (h5 : 0 ≤ t.part) (h6 : t.part ≤ t.many) (ha : t.all = scanL l t.a t.many) : rd9 l t.a (n4 t.part) (fun b => Try.y9 l t b) = bT := by
  have q := n4_eq (n := t.part) h5 (by omega)
  have e1 : IntKind.u32.wrap (t.a + IntKind.u32.wrap (n4 t.part)) = adr t.a (4 * t.part.toNat) := by
    rw [q, IntKind.wrap_u32, IntKind.wrap_u32]; unfold adr; omega
  have e2 : IntKind.i64.wrap (t.many - t.part) = t.many - t.part := wrap64 _ (by omega) (by omega)
  have r := adr_rg t.a (4 * t.part.toNat)
  have r2 : adr t.a (4 * t.part.toNat) % 4 = 0 := by unfold adr; omega
  rw [rd9_t l h0 (by omega) (by omega)]
  unfold Try.y9
  rw [sc9_t l h0 h2 h5 (by omega), e1, e2, sc9_t l r.1 r2 (by omega) (by omega)]
  cases hb : (pcE l 1 t.a (n4 t.part)).2.2 with
  | true => rfl
  | false =>
    show f9 _ _ _ = bT
    have l1 := scanM_len l t.part.toNat t.a
    have l2 := scanM_len l (t.many - t.part).toNat (adr t.a (4 * t.part.toNat))
    refine f9_t ?_ (by show (scanM l t.part.toNat t.a []).length ≤ 1000; omega) (by show (scanM l (t.many - t.part).toNat (adr t.a (4 * t.part.toNat)) []).length ≤ 1000; omega)
    rw [ha]
    show scanM l t.part.toNat t.a [] ++ scanM l (t.many - t.part).toNat (adr t.a (4 * t.part.toNat)) [] = scanM l t.many.toNat t.a []
    rw [show t.many.toNat = t.part.toNat + (t.many - t.part).toNat by omega]
    refine (scanM_parts l _ _ t.a h0 h1 (fun j hj => word_ok h0 h1 (n := t.part.toNat) (by omega) ?_ j hj)).symm
    rw [q] at hb
    rw [show ((4 * t.part.toNat : Nat) : Int) = 4 * t.part by omega]; exact hb
theorem pre9_t (l : List PgD) (c : Cpu) (hr : ∀ i, 0 ≤ c.r i ∧ c.r i < 4294967296) (a many part : Int) (h0 : 0 ≤ a) (h1 : a < 4294967296) (h3 : 0 ≤ many) (h4 : many ≤ 600) : pre9 ⟨(walkR l c 100).2.2, scanL l a many, a, many, part, !(pcE l 1 a (n4 many)).2.2⟩ := by
  have q := n4_eq h3 h4
  have hw := walkR_len l c 100 (by omega)
  refine ⟨by show (walkR l c 100).2.2.length ≤ 1000; omega, Nat.le_trans (scanM_len l many.toNat a) (by omega), ?_⟩
  intro x hx hc hd he
  obtain ⟨low, hf⟩ := walkR_frs l c hr 100
  obtain ⟨f1, f2, f3, f4⟩ := hf.fnd x hx
  replace hc : (!(pcE l 1 a (n4 many)).2.2) = true := hc
  rw [Bool.not_eq_true', q] at hc
  unfold fndB at f1
  rw [Bool.and_eq_true] at f1
  have ed : d9 ⟨(walkR l c 100).2.2, scanL l a many, a, many, part, !(pcE l 1 a (n4 many)).2.2⟩ x = (x.1 - a) % 4294967296 := by unfold d9; rw [IntKind.wrap_u32]
  rw [ed] at hd he
  replace he : (x.1 - a) % 4294967296 < IntKind.u32.wrap (n4 many) := he
  rw [q, IntKind.wrap_u32] at he
  rw [Int.tmod_eq_emod_of_nonneg (by omega)] at hd
  have ej : x.1 = adr a (4 * ((x.1 - a) % 4294967296 / 4).toNat) := by unfold adr; omega
  have hm : x ∈ scanM l many.toNat a [] := by
    have := scanM_has l many.toNat a ((x.1 - a) % 4294967296 / 4).toNat h0 h1 (by omega) (fun i hi => word_ok h0 h1 (n := many.toNat) (by omega) (by rw [show ((4 * many.toNat : Nat) : Int) = 4 * many by omega]; exact hc) i hi)
    rw [← ej] at this
    rw [f2]
    exact this f1.2
  have := ixU_mem x (scanM l many.toNat a []) 0 hm
  exact this
theorem Try.law9 (l : List PgD) (hl : okB l) (c : Cpu) (hc : 0 ≤ c.pc) (hr : ∀ i, 0 ≤ c.r i ∧ c.r i < 4294967296) (a n k : Int) (h0 : 0 ≤ n) (h1 : n ≤ 65535) (h2 : 0 ≤ k) (h3 : k ≤ 65535) :
    Alone Try.prog 9 [.ro (PG.con l) none, cpuV c, .val (.int .u32 a), .val (.int .u16 n), .val (.int .u16 k)] (.val (.bool true)) ⟨0, []⟩ := by
  have hr0 : ∀ i, 0 ≤ c.r i := fun i => (hr i).1
  have hm := many9_rg h0 h1
  have hp := part9_rg h0 h1 h2 h3
  obtain ⟨a1, a2, a3⟩ := an3_rg a
  have q := n4_eq hm.1 hm.2
  refine rootS_alone (Try.e9 l hl c hc hr0) (d := 5) (g := 9) (ls := lsumsOf [(15, Try.L9 l ⟨(walkR l c 100).2.2, scanL l (an3 a) (many9 n), an3 a, many9 n, part9 n k, !(pcE l 1 (an3 a) (n4 (many9 n))).2.2⟩)]) (AllL.of1 (a := Try.b9) (by kernel_rfl) (LsOk.of rfl rfl (Try.l9 l hl c hc hr0 _))) ((Try.w9 l c a n k _).trans ?_)
  cases hn : decide ((l.length : Int) > 40) with
  | true => rfl
  | false =>
  rw [decide_eq_false_iff_not] at hn
  rw [isV_refl, ble_t (show l.length ≤ 1000 by omega), gV_t, sc9_t l a1 a3 hm.1 hm.2, rd9_t l a1 (by omega) (by omega), wrap64 (many9 n + 1) (by omega) (by omega), show (many9 n + 1 != 0) = true by rw [bne, Bool.not_eq_true', beq_eq_false_iff_ne]; omega]
  have hz : Try.z9 l ⟨(walkR l c 100).2.2, scanL l (an3 a) (many9 n), an3 a, many9 n, part9 n k, !(pcE l 1 (an3 a) (n4 (many9 n))).2.2⟩ ⟨(walkR l c 100).2.2, scanL l (an3 a) (many9 n), an3 a, many9 n, part9 n k, !(pcE l 1 (an3 a) (n4 (many9 n))).2.2⟩ = bT := by
    unfold Try.z9
    rw [isSt_refl, propB_t (pre9_t l c hr (an3 a) (many9 n) (part9 n k) a1 a2 hm.1 hm.2)]
    exact y9_t l ⟨(walkR l c 100).2.2, scanL l (an3 a) (many9 n), an3 a, many9 n, part9 n k, !(pcE l 1 (an3 a) (n4 (many9 n))).2.2⟩ a1 a2 a3 hm.1 hm.2 hp.1 hp.2 rfl
  rw [hz]
  cases propB (okPs l) <;> rfl
theorem u16n_wf {H : Type} {d : DataW H} (h : wfD (.int .u16) d) : 0 ≤ intD d ∧ intD d ≤ 65535 := by
  simp only [wfD, Lit.wf, IntKind.min, IntKind.max, IntKind.signed, IntKind.bits] at h
  simp at h
  omega
end Go.Ev
namespace Go.Proofs.Ytemblfgjamapbaa
open Go.Ev
theorem scans_contract (H : Type) (enc : TypeId × Value → H) (W : World) (base : Nat) (args : Array Value) (ds gs : List (DataW H)) (before : List MemPlace)
    (hval : ∀ (j : Nat) t v, Try.f9.params[j]? = some t → args[j]? = some v → Value.okWide Try.prog W .any base t v)
    (hW : DataW.Whole enc Try.prog Try.f9.params.toList Rows.unwindScansSpec.vars false W args.toList ds gs before) :
    Calls Try.prog 9 args W fun e W' => ∃ v, e = .returned v ∧ Rows.unwindScansSpec.post enc Try.prog Try.f9 false true false false W args v W' := by
  have hsh : shsOk Try.prog [.sl pgSh, cpuSh, .int .u32, .int .u16, .int .u16] Try.f9.params.toList = true := by kernel_rfl
  obtain ⟨p, q, hA, hV, _⟩ := id hW
  obtain ⟨hwf, hlen⟩ := args_wf hsh hA
  obtain rfl : gs = [] := by cases gs with | nil => rfl | cons => cases hV
  match ds, hlen with
  | [d1, d2, d3, d4, d5], _ =>
    have k1 := wfDL_get _ _ 0 hwf _ rfl
    have k2 := wfDL_get _ _ 1 hwf _ rfl
    have k4 := u16n_wf (wfDL_get _ _ 3 hwf _ rfl)
    have k5 := u16n_wf (wfDL_get _ _ 4 hwf _ rfl)
    obtain ⟨c1, c2⟩ := cpu_wf k2
    have law := Try.law9 ((elemsD d1).map pgD) (okB_wf k1) (cpuD d2) c1 c2 (intD d3) (intD d4) (intD d5) k4.1 k4.2 k5.1 k5.2
    have e : argsA [.sl pgSh, cpuSh, .int .u32, .int .u16, .int .u16] [d1, d2, d3, d4, d5] = [.ro (PG.con ((elemsD d1).map pgD)) none, cpuV (cpuD d2), .val (.int .u32 (intD d3)), .val (.int .u16 (intD d4)), .val (.int .u16 (intD d5))] := by
      rw [← argA_pgs d1, ← argA_cpu d2]; rfl
    rw [← e] at law
    exact law_calls (b := 4) Try.kidsG Try.fullG (by kernel_rfl) rfl Try.underlying4 (by kernel_rfl) rfl hsh hval hW law
theorem scans_lifted (os : Os) (started : os.Started) (H : Type) (enc : TypeId × Value → H) :
    ReturnsInHanded {} Try.checked os 9 .any (Rows.unwindScansSpec.pre6 enc Try.prog Try.f9 Rows.unwindScansRow.domain false) (Rows.unwindScansSpec.post enc Try.prog Try.f9 false true false false) := by
  refine returnsInHanded_of_change (C := Try.checked) Try.ownG started (by kernel_rfl) Try.func9
    (ChangeSpec.witness6 (enc := enc) (C := Try.checked) false ⟨#[], #[.slice none 0 0, .agg #[.int .u32 0, .int .u32 0, .int .u32 0, .int .u32 0, .int .u32 0, .int .u32 0, .int .u32 0, .int .u32 0, .int .u32 0, .int .u32 0, .int .u32 0, .int .u32 0, .int .u32 0, .int .u32 0, .int .u32 0, .int .u32 0, .int .u32 0, .int .i64 0, .int .u32 0, .int .u32 0, .int .u32 0, .int .u32 0, .int .u32 0, .int .u32 0, .int .u32 0, .int .u32 0, .int .u32 0, .int .u32 0, .int .u32 0, .int .u32 0, .int .u32 0, .int .u32 0, .int .u32 0, .int .u32 0, .int .u32 0, .int .u32 0, .int .u32 0, .int .u32 0, .int .u32 0, .int .u32 0, .int .u32 0, .int .u32 0, .int .u32 0, .int .u32 0, .int .u32 0, .int .u32 0, .int .u32 0, .int .u32 0, .int .u32 0, .int .u32 0], .int .u32 0, .int .u16 0, .int .u16 0], []⟩ 8 (by kernel_rfl) (by kernel_rfl) (by kernel_rfl) (by kernel_rfl)) ?_
  intro W base args ds gs before hval hW _ _
  exact scans_contract H enc W base args ds gs before hval hW
theorem unwindScans : Rows.UnwindScansSaid :=
  OpenClaim.holds_of_wide 9 Try.f9 rfl rfl rfl rfl rfl rfl rfl ⟨rfl, rfl, rfl, rfl, rfl⟩ rfl rfl rfl rfl rfl (by kernel_rfl) Try.func9 (by kernel_rfl)
    (of_decide_eq_true (by kernel_rfl)) (by unfold Func.isWrapper; first | (rw [if_pos (by decide +kernel)]; kernel_rfl) | (rw [if_neg (by decide +kernel)]; exact ⟨rfl, rfl⟩))
    (fun os started H enc _ => scans_lifted os started H enc)
end Go.Proofs.Ytemblfgjamapbaa
