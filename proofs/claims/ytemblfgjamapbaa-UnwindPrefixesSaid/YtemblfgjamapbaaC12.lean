/- UnwindPrefixes, for every input: the law answers true, and its arguments read as they did. -/
import Derived.Test.YtemblfgjamapbaaChecked
import Derived.Test.YtemblfgjamapbaaRows
import Derived.ProofKit
import Derived.JoinedCond
import Derived.Handed
import Derived.JoinedOf
import Derived.Test.YtemblfgjamapbaaC11
set_option linter.unusedSectionVars false
set_option linter.unusedSimpArgs false
set_option linter.unusedVariables false
set_option maxRecDepth 100000
set_option maxRecDepth 1000000
noncomputable section
/- Stacks: a round of its loop. -/
namespace Go.Ev
open Go.Proofs
end Go.Ev
/- Stacks, as a summary. -/
namespace Go.Ev
open Go.Proofs
end Go.Ev
/- Stacks, as a summary: its loop. -/
namespace Go.Ev
open Go.Proofs
end Go.Ev
/- Trace. -/
namespace Go.Ev
open Go.Proofs
end Go.Ev
/- UnwindStacks: its walk. -/
namespace Go.Ev
open Go.Proofs
def stepG (A : Nat → List UwE) (e : Evt) : Nat → List UwE := stepU (skGet (skA A)) e
def bT : Option (AV × Heap) := some (.val (.bool true), ⟨0, []⟩)
def bF : Option (AV × Heap) := some (.val (.bool false), ⟨0, []⟩)
end Go.Ev
/- UnwindStacks, for every input: the law answers true, and its arguments read as they did. -/
namespace Go.Ev
open Go.Proofs
section
variable {H : Type}
noncomputable def pAt (d : DataW H) (i : Nat) : DataW H := (partsD d).getD i .nil
theorem headTail (l : List (DataW H)) : l.headD .nil = l.getD 0 .nil ∧ ∀ i, l.tail.getD i .nil = l.getD (i + 1) .nil := by
  cases l <;> simp [List.headD]
end
end Go.Ev
namespace Go.Proofs.Ytemblfgjamapbaa
open Go.Ev
theorem Try.ownG : ownKnob Try.prog.godebug = none := by kernel_rfl
theorem Try.kidsG : Kids Try.prog (· < Try.prog.types.size) := kids_rows (by kernel_rfl) (by kernel_rfl)
theorem Try.fullG : ∀ t e, t < Try.prog.types.size → Try.prog.underlying t = some (.slice e) → 0 < Try.prog.cellsOf e := slices_full_of Try.prog (by kernel_rfl)
end Go.Proofs.Ytemblfgjamapbaa
/- Walks: frames compared. -/
namespace Go.Ev
open Go.Proofs
def uleq (x y : UlD) : Bool := x.1 == y.1 && (x.2.1 == y.2.1 && (x.2.2 == y.2.2 && true))
theorem uleq_iff (x y : UlD) : uleq x y = true ↔ x = y := by
  obtain ⟨a, b, c⟩ := x
  obtain ⟨a', b', c'⟩ := y
  simp [uleq]
def Try.E30 : Env := Try.env0 false (sumsOf []) (keepF 30 [(4, [0, 1, 12, 13])])
def Try.b30 : Code := nthD .skip (loopsOf (bodyOf Try.E30 30)) 0
def Try.V30 (L M : List UlD) (i : Int) : List AV := [.ro (UL.con L) none, .ro (UL.con M) none, .val (.int .i64 L.length), .val (.int .i64 i)]
theorem Try.r30 (L M : List UlD) (i : Int) : codeS Try.E30 (callF Try.E30 5) (Try.E30.keep 30) (lsumsOf []) Try.b30 (outK [0, 1, 12, 13] [4]) (stOf 26 [0, 1, 12, 13] (Try.V30 L M i) ⟨0, []⟩) = eqRound UL uleq 26 [0, 1, 12, 13] (Try.V30 L M) L M i := by kernel_rfl
theorem Try.e30 : EnvOk2 Try.prog Try.E30 := Try.envOk false (sumsOf []) _ (fun g A h => by cases h)
theorem Try.w30 (L M : List UlD) : rootS Try.E30 5 30 (lsumsOf [(4, eqL UL uleq 26 [0, 1, 12, 13] (Try.V30 L M) L M)]) [.ro (UL.con L) none, .ro (UL.con M) none] = eqRun UL uleq 26 [0, 1, 12, 13] (Try.V30 L M) L M := by kernel_rfl
def Try.A30 : AFun := eqqA UL uleq
theorem Try.sum30 : SumC Try.prog 30 Try.A30 := eq_sum Try.e30 (d := 5) (lid := 4) (c := Try.b30) ⟨Try.f30, _, Try.fnOk30.1, Try.fnOk30.2, rfl⟩ (by kernel_rfl) (by kernel_rfl) (by kernel_rfl) Try.V30 Try.r30 Try.w30
def badM : AV := .tup [.val (.pointer none), .val (.int .i64 4)]
def S22 (l : List PgD) (args : List AV) : Ans (AV × Heap) := match args with
  | [v] => .grd (isV v (.ro (PG.con l) none) && Nat.ble l.length 1000) (.br (propB (okPs l)) (.out (.tup [memV l, .val (.int .i64 0)], ⟨0, []⟩)) (.out (badM, ⟨0, []⟩)))
  | _ => .no
def Try.A22 (l : List PgD) : AFun := roA (S22 l)
theorem Try.sum22 (l : List PgD) : SumC Try.prog 22 (Try.A22 l) := by
  refine roSumR 22 ⟨Go.Proofs.Try.f22, _, Try.fnOk22.1, Try.fnOk22.2, rfl⟩ ?_
  intro args v h2 hs
  unfold S22 at hs
  split at hs
  · rename_i v0
    rw [gdB_run] at hs
    cases hb : (isV v0 (.ro (PG.con l) none) && Nat.ble l.length 1000) with
    | false => rw [hb] at hs; cases hs
    | true =>
      rw [hb] at hs
      rw [Bool.and_eq_true, Nat.ble_eq] at hb
      have h1 := isV_eq hb.1
      subst h1
      have key := Try.al22 l hb.2
      cases h : propB (okPs l) <;> (rw [h] at hs key; have hs := Option.some.inj hs; injection hs with q1 q2; subst q1; subst q2; exact ⟨fun e he => by (cases he), key⟩)
  · cases hs
end Go.Ev
/- UnwindPrefixes: the walk. -/
namespace Go.Ev
open Go.Proofs
def Try.t8 (l : List PgD) (c : Cpu) : List (Nat × AFun) := [(12, constA (.bool true)), (22, Try.A22 l), (28, Try.A28 l c), (30, Try.A30), (70, Try.A70 l), (24, Try.A24 l)]
def Try.E8 (l : List PgD) (c : Cpu) : Env := Try.env0 false (sumsOf (Try.t8 l c)) (keepF 8 [(11, [4, 7, 9, 14])])
def cpu0 : Cpu := ⟨fun _ => 0, 0, 0, fun _ => 0⟩
def Try.b8 : Code := nthD .skip (loopsOf (bodyOf (Try.E8 [] cpu0) 8)) 0
def cpuB (c : Cpu) : Blk := .cells (.rows true 1 (flatRows (cpuL c)))
def Try.s8 (l : List PgD) (c : Cpu) (w : List UlD) (i : Int) : St := stOf 209 [4, 7, 9, 14] [.ptr 0 0 0, memV l, .ro (UL.con w) none, .val (.int .i64 i)] ⟨1, [⟨0, 0, cpuB c⟩]⟩
def Try.B8 (l : List PgD) (c : Cpu) (s : St) : Option (AX × St) := codeS (Try.E8 l c) (callF (Try.E8 l c) 5) ((Try.E8 l c).keep 8) (lsumsOf []) Try.b8 (outK [4, 7, 9, 14] [6]) s
def in8 {α : Type} (w : List UlD) (i : Int) (x : Option α) : Option α := bif inR i w.length then x else none
def Try.no8 : Option (AX × St) := some (.ret, stOf 209 [6] [.val (.bool false)] ⟨0, []⟩)
def Try.go8 (l : List PgD) (c : Cpu) (w : List UlD) (i : Int) : Option (AX × St) := some (.normal, Try.s8 l c w (IntKind.i64.wrap (i + 1)))
def Try.m8 (l : List PgD) (c : Cpu) (w : List UlD) (i : Int) : Option (AX × St) :=
  bif i == 0 then in8 w i (bif decide (IntKind.u32.wrap ((w.getD i.toNat UL.z).1 - c.r 15) > 4) then in8 w i (bif decide ((w.getD i.toNat UL.z).1 < c.r 15) then Try.no8 else Try.go8 l c w i) else Try.go8 l c w i) else Try.go8 l c w i
def Try.z8 (l : List PgD) (c : Cpu) (w : List UlD) (i : Int) : Option (AX × St) :=
  bif decide (i > 0) then in8 w i (in8 w (IntKind.i64.wrap (i - 1)) (bif decide ((w.getD i.toNat UL.z).1 ≤ (w.getD (IntKind.i64.wrap (i - 1)).toNat UL.z).1) then Try.no8 else Try.m8 l c w i)) else Try.m8 l c w i
def Try.y8 (l : List PgD) (c : Cpu) (w : List UlD) (i : Int) (x : UlD) : Option (AX × St) :=
  bif (((rdE l x.1 4).length : Int) != 4) then Try.no8 else in8 w i (bif siteA l x.2.1 != x.2.2 then Try.no8 else in4 (rdE l x.1 4) (in8 w i (bif wordB (rdE l x.1 4) 0 != x.2.1 then Try.no8 else Try.z8 l c w i)))
def Try.q8 (l : List PgD) (c : Cpu) (w : List UlD) (i : Int) (x : UlD) : Option (AX × St) :=
  bif decide (i < (w.length : Int)) then
   in8 w i (gdM l x.1 (bif (pcE l 1 x.1 4).2.2 then
      in8 w i (bif isV (memV l) (memV l) then (bif siteB l x.2.1 then Try.no8 else Try.no8) else none)
    else in8 w i (bif isV (memV l) (memV l) then (bif siteB l x.2.1 then Try.y8 l c w i x else (bif (((rdE l x.1 4).length : Int) != 4) then Try.no8 else Try.no8)) else none)))
  else some (.exit 0, stOf 209 [] [] ⟨0, []⟩)
theorem Try.r8 (l : List PgD) (c : Cpu) (w : List UlD) (i : Int) : Try.B8 l c (Try.s8 l c w i) =
 Try.q8 l c w i (w.getD i.toNat UL.z) := by kernel_rfl
theorem in8_t {α : Type} {w : List UlD} {k : Nat} (h : k < w.length) (x : Option α) : in8 w k x = x := by unfold in8; rw [inR_nat, decide_eq_true h]; rfl
theorem bne_self (a : Int) : (a != a) = false := by simp
theorem Try.r8t (l : List PgD) (c : Cpu) (w : List UlD) (hr : ∀ i, 0 ≤ c.r i ∧ c.r i < 4294967296) (low : Int) (hf : Frs l low w) (h1 : ∀ x X, w = x :: X → c.r 15 ≤ x.1 ∨ IntKind.u32.wrap (x.1 - c.r 15) ≤ 4) (k : Nat) (hk : k < w.length) (hw : w.length ≤ 1000) :
    Try.B8 l c (Try.s8 l c w k) = some (.normal, Try.s8 l c w ((k + 1 : Nat) : Int)) := by
  have key := Try.r8 l c w k
  rw [Int.toNat_natCast] at key
  have hx : w.getD k UL.z ∈ w := by rw [List.getD_eq_getElem?_getD, List.getElem?_eq_getElem hk]; exact List.getElem_mem hk
  obtain ⟨f1, f2, f3, f4⟩ := hf.fnd _ hx
  generalize hX : w.getD k UL.z = x at *
  unfold fndB wOk at f1
  rw [Bool.and_eq_true, Bool.not_eq_true'] at f1
  have e1 : x.2.1 = wd l x.1 := by rw [f2]; rfl
  have e2 : x.2.2 = siteA l x.2.1 := by rw [f2]; rfl
  have go : Try.go8 l c w k = some (.normal, Try.s8 l c w ((k + 1 : Nat) : Int)) := by unfold Try.go8; rw [wrapT k (by omega)]
  have hm : Try.m8 l c w k = some (.normal, Try.s8 l c w ((k + 1 : Nat) : Int)) := by
    unfold Try.m8
    rw [in8_t hk, in8_t hk, Int.toNat_natCast, hX, go]
    cases hz : ((k : Int) == 0) with
    | false => rfl
    | true =>
      rw [beq_iff_eq] at hz
      have hz : k = 0 := by omega
      subst hz
      obtain ⟨y, Y, hY⟩ : ∃ y Y, w = y :: Y := by
        cases w with
        | nil => cases hk
        | cons y Y => exact ⟨y, Y, rfl⟩
      have : y = x := by rw [← hX, hY]; rfl
      subst this
      rcases h1 y Y hY with q | q
      · rw [decide_eq_false (show ¬ y.1 < c.r 15 by omega)]
        cases decide (IntKind.u32.wrap (y.1 - c.r 15) > 4) <;> rfl
      · rw [decide_eq_false (show ¬ IntKind.u32.wrap (y.1 - c.r 15) > 4 by omega)]; rfl
  have hz : Try.z8 l c w k = some (.normal, Try.s8 l c w ((k + 1 : Nat) : Int)) := by
    unfold Try.z8
    rw [in8_t hk, Int.toNat_natCast, hX, hm]
    cases hz : decide ((k : Int) > 0) with
    | false => rfl
    | true =>
      rw [decide_eq_true_eq] at hz
      have e : IntKind.i64.wrap ((k : Int) - 1) = ((k - 1 : Nat) : Int) := by rw [wrap64 _ (by omega) (by omega)]; omega
      rw [e, in8_t (by omega), Int.toNat_natCast]
      have := List.pairwise_iff_getElem.1 hf.asc (k - 1) k (by omega) hk (by omega)
      have e3 : w.getD (k - 1) UL.z = w[k - 1] := by rw [List.getD_eq_getElem?_getD, List.getElem?_eq_getElem (show k - 1 < w.length by omega)]; rfl
      have e4 : x = w[k] := by rw [← hX, List.getD_eq_getElem?_getD, List.getElem?_eq_getElem hk]; rfl
      rw [e3, decide_eq_false (by rw [e4]; omega)]; rfl
  rw [key]
  unfold Try.q8 Try.y8
  rw [declt_nat, decide_eq_true hk, in8_t hk, in8_t hk, in8_t hk, in8_t hk, gdM_eq l f3, f1.1, isV_refl, e1, f1.2, in4_eq (by rw [rdE_len l f3 (by omega)]; rfl), rdE_len l f3 (by omega), e2, e1, bne_self, hz]
  have e5 : wordB (rdE l x.1 4) 0 = wd l x.1 := rfl
  rw [e5, bne_self, in8_t hk]; rfl
def pre8 (l : List PgD) (c : Cpu) (w : List UlD) : Prop := (∀ i, 0 ≤ c.r i ∧ c.r i < 4294967296) ∧ (∃ low, Frs l low w) ∧ (∀ x X, w = x :: X → c.r 15 ≤ x.1 ∨ IntKind.u32.wrap (x.1 - c.r 15) ≤ 4) ∧ w.length ≤ 1000
def Try.L8 (l : List PgD) (c : Cpu) (w : List UlD) : LSum := atL (Try.s8 l c w 0) (.grd (propB (pre8 l c w)) (.out (.exit 0, stOf 209 [] [] ⟨0, []⟩)))
theorem Try.e8 (l : List PgD) (hl : okB l) (c : Cpu) (hc : 0 ≤ c.pc) (hr : ∀ i, 0 ≤ c.r i) : EnvOk2 Try.prog (Try.E8 l c) := Try.envOk false (sumsOf (Try.t8 l c)) _ (sumsOf_ok (show AllS Try.prog (Try.t8 l c) from ⟨Try.saneSum, Try.sum22 l, Try.sum28 l hl c hc hr, Try.sum30, Try.sum70 l, Try.sum24 l hl, trivial⟩))
theorem Try.s8_ok (l : List PgD) (c : Cpu) (w : List UlD) (i : Int) : (Try.s8 l c w i).h.ok := heap_ok [0] rfl (by decide) (by decide)
theorem Try.l8 (l : List PgD) (hl : okB l) (c : Cpu) (hc : 0 ≤ c.pc) (w : List UlD) : ∀ s e s', s.h.ok → (Try.L8 l c w s).run = some (e, s') → Triple Try.prog (.loop Try.b8) s e s' := by
  refine atL_grd (fun hp => ?_)
  obtain ⟨hr, ⟨low, hf⟩, h1, hw⟩ := propB_eq hp
  refine loop_at (Try.e8 l hl c hc (fun i => (hr i).1)) (d := 5) (g := 8) (ls := lsumsOf []) (c := Try.b8) trivial [4, 7, 9, 14] [6] (T := Nat)
    (fun k => Try.s8 l c w k) (fun k => k ≤ w.length) (fun k => w.length - k) (fun _ => (.exit 0, stOf 209 [] [] ⟨0, []⟩)) _ _ 0 (Nat.zero_le _) (Weak.refl (Try.s8_ok _ _ _ _)) (fun e s' h => Option.some.inj h) (fun k _ => Try.s8_ok _ _ _ _) ?_
  intro k hk
  by_cases h : k < w.length
  · exact .inl ⟨k + 1, _, Try.r8t l c w hr low hf h1 k h hw, Weak.refl (Try.s8_ok _ _ _ _), h, by omega, rfl⟩
  · have key := Try.r8 l c w k
    unfold Try.q8 at key
    rw [declt_nat, decide_eq_false h] at key
    exact .inr ⟨_, key, Weak.refl heap0_ok, by show (AX.exit 0) ≠ .normal; simp⟩
def k8 (n : Int) : Int := IntKind.i64.wrap n
def minI (a b : Int) : Int := if b < a then b else a
def cutU (w : List UlD) (n : Nat) : Con := .tab 3 n (fun i => UL.row (w.getD (0 + i) UL.z))
def Try.j8 (l : List PgD) (c : Cpu) (w : List UlD) : Option (AV × Heap) := bif isSt (Try.s8 l c w 0) (Try.s8 l c w 0) then (bif propB (pre8 l c w) then bT else none) else none
def Try.p8 (l : List PgD) (c : Cpu) (w : List UlD) (v : Int × Int × List UlD) (n : Int) : Option (AV × Heap) :=
  bif (v.2.2.length : Int) != minI (w.length : Int) n then bF else
  bif decide (0 ≤ (v.2.2.length : Int)) && decide ((v.2.2.length : Int) ≤ (w.length : Int)) then
   (bif UL.ok (UL.con v.2.2) && (UL.ok (cutU w v.2.2.length) && Nat.ble (UL.list (UL.con v.2.2)).length 1000000) then
    (bif eqD UL uleq (UL.list (UL.con v.2.2)) (UL.list (cutU w v.2.2.length)) then
      (bif (v.2.2.length : Int) == n then (bif v.1 != 1 then bF else Try.j8 l c w) else Try.j8 l c w) else bF) else none)
  else none
def gV {α : Type} (a b : AV) (x : Option α) : Option α := bif isV a a && isV b b then x else none
theorem Try.w8 (l : List PgD) (c : Cpu) (n : Int) : rootS (Try.E8 l c) 5 8 (lsumsOf [(11, Try.L8 l c (walkR l c 1000).2.2)]) [.ro (PG.con l) none, cpuV c, .val (.int .u8 n)] =
    bif decide ((l.length : Int) > 40) then bT
    else bif isV (.ro (PG.con l) none) (.ro (PG.con l) none) && Nat.ble l.length 1000 then
     (bif propB (okPs l) then
       gV (cpuV c) (memV l) (gV (cpuV c) (memV l) (bif decide (k8 n < 0) || decide (k8 n > 1000) then bF else Try.p8 l c (walkR l c 1000).2.2 (walkR l c (k8 n)) (k8 n)))
      else bT)
    else none := by kernel_rfl
end Go.Ev
/- UnwindPrefixes, for every input: the law answers true, and its arguments read as they did. -/
namespace Go.Ev
open Go.Proofs
theorem gV_t {α : Type} (a b : AV) (x : Option α) : gV a b x = x := by unfold gV; rw [isV_refl, isV_refl]; rfl
section
variable {D : Type} (R : RowTy D)
theorem RowTy.ok_cut (L : List D) (lo n : Nat) : R.ok (.tab R.wd n (fun i => R.row (L.getD (lo + i) R.z))) = true := by
  unfold RowTy.ok
  rw [Bool.and_eq_true]
  exact ⟨Nat.beq_refl _, @decide_eq_true _ (Classical.propDecidable _) (fun i _ => R.isr _)⟩
theorem RowTy.list_cut (L : List D) (n : Nat) (h : n ≤ L.length) : R.list (.tab R.wd n (fun i => R.row (L.getD (0 + i) R.z))) = L.take n := by
  apply List.ext_getElem?
  intro i
  simp only [RowTy.list, Con.len, Con.row, List.getElem?_map]
  rcases Nat.lt_or_ge i n with q | q
  · rw [List.getElem?_range q, List.getElem?_take, if_pos q, List.getElem?_eq_getElem (show i < L.length by omega)]
    simp only [Option.map_some, R.back, Nat.zero_add, List.getD_eq_getElem?_getD, List.getElem?_eq_getElem (show i < L.length by omega), Option.getD_some]
  · rw [List.getElem?_eq_none (by simpa using q), List.getElem?_take, if_neg (by omega)]; rfl
end
theorem Try.law8 (l : List PgD) (hl : okB l) (c : Cpu) (hc : 0 ≤ c.pc) (hr : ∀ i, 0 ≤ c.r i ∧ c.r i < 4294967296) (n : Int) (h0 : 0 ≤ n) (h1 : n ≤ 255) : Alone Try.prog 8 [.ro (PG.con l) none, cpuV c, .val (.int .u8 n)] (.val (.bool true)) ⟨0, []⟩ := by
  have hr0 : ∀ i, 0 ≤ c.r i := fun i => (hr i).1
  refine rootS_alone (Try.e8 l hl c hc hr0) (d := 5) (g := 8) (ls := lsumsOf [(11, Try.L8 l c (walkR l c 1000).2.2)]) (AllL.of1 (a := Try.b8) (by kernel_rfl) (LsOk.of rfl rfl (Try.l8 l hl c hc _))) ((Try.w8 l c n).trans ?_)
  cases hn : decide ((l.length : Int) > 40) with
  | true => rfl
  | false =>
  rw [decide_eq_false_iff_not] at hn
  have e8 : k8 n = n := by unfold k8; rw [wrap64 _ (by omega) (by omega)]
  rw [isV_refl, ble_t (show l.length ≤ 1000 by omega), gV_t, gV_t, e8, decide_eq_false (show ¬ n < 0 by omega), decide_eq_false (show ¬ n > 1000 by omega)]
  have hlen := walkR_len l c 1000 (by omega)
  have hp : pre8 l c (walkR l c 1000).2.2 := ⟨hr, walkR_frs l c hr 1000, fun x X h => walkR_first l c hr 1000 x X h, hlen⟩
  have hj : Try.j8 l c (walkR l c 1000).2.2 = bT := by unfold Try.j8; rw [isSt_refl, propB_t hp]; rfl
  obtain ⟨t1, t2⟩ := walkR_take l c 1000 n h0 (by omega)
  have q : Try.p8 l c (walkR l c 1000).2.2 (walkR l c n) n = bT := by
    generalize walkR l c 1000 = w at *
    generalize walkR l c n = v at *
    have hv : v.2.2.length = min n.toNat w.2.2.length := by rw [t1, List.length_take]
    have hle : v.2.2.length ≤ w.2.2.length := by omega
    have e1 : ((v.2.2.length : Int) != minI (w.2.2.length : Int) n) = false := by
      unfold minI
      rw [bne, Bool.not_eq_false', beq_iff_eq]
      split <;> omega
    have e2 : UL.list (cutU w.2.2 v.2.2.length) = v.2.2 := by
      refine (UL.list_cut w.2.2 v.2.2.length hle).trans ?_
      rw [hv, t1]
      apply List.ext_getElem?
      intro i
      rw [List.getElem?_take, List.getElem?_take]
      split
      · rw [if_pos (by omega)]
      · rename_i q
        split
        · rw [List.getElem?_eq_none (by omega)]
        · rfl
    unfold Try.p8
    rw [e1, decide_eq_true (show 0 ≤ (v.2.2.length : Int) by omega), decide_eq_true (show (v.2.2.length : Int) ≤ (w.2.2.length : Int) by omega), UL.ok_con, UL.list_con, e2, show UL.ok (cutU w.2.2 v.2.2.length) = true from UL.ok_cut _ 0 _, ble_t (show v.2.2.length ≤ 1000000 by omega),
      (eqD_iff (R := UL) uleq_iff v.2.2 v.2.2).2 rfl, hj]
    cases h3 : (v.2.2.length : Int) == n with
    | false => rfl
    | true =>
      rw [beq_iff_eq] at h3
      rw [t2 (by omega)]; rfl
  cases propB (okPs l)
  · rfl
  · exact q
abbrev w32 : List Sh := [.int .u32, .int .u32, .int .u32, .int .u32]
abbrev vSh : Sh := .agg w32
abbrev cpuSh : Sh := .agg [.agg (w32 ++ w32 ++ w32 ++ w32), .int .u32, .int .i64, .agg [vSh, vSh, vSh, vSh, vSh, vSh, vSh, vSh]]
abbrev pgSh : Sh := .agg [.int .i64, .int .i64, .sl (.int .u8)]
section
variable {H : Type}
noncomputable def pgD (d : DataW H) : PgD := (intD (pAt d 0), intD (pAt d 1), (elemsD (pAt d 2)).map intD)
noncomputable def cpuD (d : DataW H) : Cpu := ⟨fun i => bif Nat.blt i 16 then intD (pAt (pAt d 0) i) else 0, intD (pAt d 1), intD (pAt d 2), fun i => intD (pAt (pAt (pAt d 3) (i / 4)) (i % 4))⟩
theorem avs_pg (d : DataW H) : avs pgSh d = pgRow (pgD d) := by
  simp only [avs, avsL, (headTail _).1, (headTail _).2]; rfl
theorem avs_pgs (l : List (DataW H)) : Con.tab (Sh.wd pgSh) l.length (fun i => avs pgSh (l.getD i .nil)) = PG.con (l.map pgD) := by
  unfold RowTy.con
  have e : (fun i => avs pgSh (l.getD i .nil)) = fun i => PG.row ((l.map pgD).getD i PG.z) := by
    funext i
    rw [avs_pg, List.getD_eq_getElem?_getD, List.getD_eq_getElem?_getD, List.getElem?_map]
    cases l[i]? <;> rfl
  rw [e, List.length_map]; rfl
theorem argA_pgs (d : DataW H) : argA (.sl pgSh) d = .ro (PG.con ((elemsD d).map pgD)) none := by rw [← avs_pgs]; rfl
theorem argA_cpu (d : DataW H) : argA cpuSh d = cpuV (cpuD d) := by
  show AV.agg (avsL _ (partsD d)) = _
  simp only [avs, avsL, (headTail _).1, (headTail _).2, List.cons_append, List.nil_append]
  rfl
theorem u8n_wf {d : DataW H} (h : wfD (.int .u8) d) : 0 ≤ intD d ∧ intD d ≤ 255 := by
  simp only [wfD, Lit.wf, IntKind.min, IntKind.max, IntKind.signed, IntKind.bits] at h
  simp at h
  omega
theorem u32n_wf {d : DataW H} (h : wfD (.int .u32) d) : 0 ≤ intD d ∧ intD d < 4294967296 := by
  simp only [wfD, Lit.wf, IntKind.min, IntKind.max, IntKind.signed, IntKind.bits] at h
  simp at h
  omega
theorem okB_wf {d : DataW H} (h : wfD (.sl pgSh) d) : okB ((elemsD d).map pgD) := by
  intro i
  rw [List.getD_eq_getElem?_getD, List.getElem?_map]
  simp only [wfD] at h
  cases hx : (elemsD d)[i]? with
  | none => exact fun j => ⟨Int.le_refl _, by show (0 : Int) < 256; decide⟩
  | some x =>
    have hm := h.2 x (List.mem_of_getElem? hx)
    simp only [wfDL, (headTail _).1, (headTail _).2] at hm
    have hb := hm.2.2.1
    simp only [wfD] at hb
    refine isBs_of (fun y hy => ?_)
    obtain ⟨z, hz, rfl⟩ := List.mem_map.1 hy
    have := u8n_wf (by simp only [wfD]; exact hb.2 z hz)
    omega
theorem wfDL_get : ∀ (s : List Sh) (ds : List (DataW H)) (i : Nat), wfDL s ds → ∀ x, s[i]? = some x → wfD x (ds.getD i .nil)
  | [], _, _, _, _, h => by simp at h
  | a :: s, ds, 0, h, x, hx => by
    simp only [wfDL, (headTail _).1] at h
    simp at hx; subst hx; exact h.1
  | a :: s, ds, i + 1, h, x, hx => by
    simp only [wfDL] at h
    rw [← (headTail ds).2 i]
    exact wfDL_get s ds.tail i h.2 x (by simpa using hx)
theorem cpu_wf {d : DataW H} (h : wfD cpuSh d) : 0 ≤ (cpuD d).pc ∧ ∀ i, 0 ≤ (cpuD d).r i ∧ (cpuD d).r i < 4294967296 := by
  simp only [wfD] at h
  refine ⟨(u32n_wf (wfDL_get _ _ 1 h _ rfl)).1, fun i => ?_⟩
  have h0 := wfDL_get _ _ 0 h _ rfl
  simp only [wfD] at h0
  show 0 ≤ (bif Nat.blt i 16 then intD (pAt (pAt d 0) i) else 0) ∧ (bif Nat.blt i 16 then intD (pAt (pAt d 0) i) else 0) < 4294967296
  rcases Nat.lt_or_ge i 16 with q | q
  · rw [blt_t q]
    refine u32n_wf (wfDL_get _ _ i h0 _ ?_)
    rcases i with _ | _ | _ | _ | _ | _ | _ | _ | _ | _ | _ | _ | _ | _ | _ | _ | i <;> first | rfl | omega
  · rw [blt_f q]; exact ⟨Int.le_refl _, by show (0 : Int) < 4294967296; decide⟩
end
end Go.Ev
namespace Go.Proofs.Ytemblfgjamapbaa
open Go.Ev
theorem prefixes_contract (H : Type) (enc : TypeId × Value → H) (W : World) (base : Nat) (args : Array Value) (ds gs : List (DataW H)) (before : List MemPlace)
    (hval : ∀ (j : Nat) t v, Try.f8.params[j]? = some t → args[j]? = some v → Value.okWide Try.prog W .any base t v)
    (hW : DataW.Whole enc Try.prog Try.f8.params.toList Rows.unwindPrefixesSpec.vars false W args.toList ds gs before) :
    Calls Try.prog 8 args W fun e W' => ∃ v, e = .returned v ∧ Rows.unwindPrefixesSpec.post enc Try.prog Try.f8 false true false false W args v W' := by
  have hsh : shsOk Try.prog [.sl pgSh, cpuSh, .int .u8] Try.f8.params.toList = true := by kernel_rfl
  obtain ⟨p, q, hA, hV, _⟩ := id hW
  obtain ⟨hwf, hlen⟩ := args_wf hsh hA
  obtain rfl : gs = [] := by cases gs with | nil => rfl | cons => cases hV
  match ds, hlen with
  | [d1, d2, d3], _ =>
    have k1 := wfDL_get _ _ 0 hwf _ rfl
    have k2 := wfDL_get _ _ 1 hwf _ rfl
    have k3 := u8n_wf (wfDL_get _ _ 2 hwf _ rfl)
    obtain ⟨c1, c2⟩ := cpu_wf k2
    have law := Try.law8 ((elemsD d1).map pgD) (okB_wf k1) (cpuD d2) c1 c2 (intD d3) k3.1 k3.2
    have e : argsA [.sl pgSh, cpuSh, .int .u8] [d1, d2, d3] = [.ro (PG.con ((elemsD d1).map pgD)) none, cpuV (cpuD d2), .val (.int .u8 (intD d3))] := by
      rw [← argA_pgs d1, ← argA_cpu d2]; rfl
    rw [← e] at law
    exact law_calls (b := 4) Try.kidsG Try.fullG (by kernel_rfl) rfl Try.underlying4 (by kernel_rfl) rfl hsh hval hW law
theorem prefixes_lifted (os : Os) (started : os.Started) (H : Type) (enc : TypeId × Value → H) :
    ReturnsInHanded {} Try.checked os 8 .any (Rows.unwindPrefixesSpec.pre6 enc Try.prog Try.f8 Rows.unwindPrefixesRow.domain false) (Rows.unwindPrefixesSpec.post enc Try.prog Try.f8 false true false false) := by
  refine returnsInHanded_of_change (C := Try.checked) Try.ownG started (by kernel_rfl) Try.func8
    (ChangeSpec.witness6 (enc := enc) (C := Try.checked) false ⟨#[], #[.slice none 0 0, .agg #[.int .u32 0, .int .u32 0, .int .u32 0, .int .u32 0, .int .u32 0, .int .u32 0, .int .u32 0, .int .u32 0, .int .u32 0, .int .u32 0, .int .u32 0, .int .u32 0, .int .u32 0, .int .u32 0, .int .u32 0, .int .u32 0, .int .u32 0, .int .i64 0, .int .u32 0, .int .u32 0, .int .u32 0, .int .u32 0, .int .u32 0, .int .u32 0, .int .u32 0, .int .u32 0, .int .u32 0, .int .u32 0, .int .u32 0, .int .u32 0, .int .u32 0, .int .u32 0, .int .u32 0, .int .u32 0, .int .u32 0, .int .u32 0, .int .u32 0, .int .u32 0, .int .u32 0, .int .u32 0, .int .u32 0, .int .u32 0, .int .u32 0, .int .u32 0, .int .u32 0, .int .u32 0, .int .u32 0, .int .u32 0, .int .u32 0, .int .u32 0], .int .u8 0], []⟩ 8 (by kernel_rfl) (by kernel_rfl) (by kernel_rfl) (by kernel_rfl)) ?_
  intro W base args ds gs before hval hW _ _
  exact prefixes_contract H enc W base args ds gs before hval hW
theorem unwindPrefixes : Rows.UnwindPrefixesSaid :=
  OpenClaim.holds_of_wide 8 Try.f8 rfl rfl rfl rfl rfl rfl rfl ⟨rfl, rfl, rfl, rfl, rfl⟩ rfl rfl rfl rfl rfl (by kernel_rfl) Try.func8 (by kernel_rfl)
    (of_decide_eq_true (by kernel_rfl)) (by unfold Func.isWrapper; first | (rw [if_pos (by decide +kernel)]; kernel_rfl) | (rw [if_neg (by decide +kernel)]; exact ⟨rfl, rfl⟩))
    (fun os started H enc _ => prefixes_lifted os started H enc)
end Go.Proofs.Ytemblfgjamapbaa
