/- UnwindWords, for every input: the law answers true, and its arguments read as they did. -/
import Derived.Test.YtemblfgjamapbaaChecked
import Derived.Test.YtemblfgjamapbaaRows
import Derived.ProofKit
import Derived.JoinedCond
import Derived.Handed
import Derived.JoinedOf
import Derived.Test.YtemblfgjamapbaaC11
set_option linter.unusedSectionVars false
set_option linter.unusedSimpArgs false
set_option linter.unusedVariables false
set_option maxRecDepth 100000
set_option maxRecDepth 1000000
noncomputable section
/- Stacks: a round of its loop. -/
namespace Go.Ev
open Go.Proofs
end Go.Ev
/- Stacks, as a summary. -/
namespace Go.Ev
open Go.Proofs
end Go.Ev
/- Stacks, as a summary: its loop. -/
namespace Go.Ev
open Go.Proofs
end Go.Ev
/- Trace. -/
namespace Go.Ev
open Go.Proofs
end Go.Ev
/- UnwindStacks: its walk. -/
namespace Go.Ev
open Go.Proofs
def stepG (A : Nat → List UwE) (e : Evt) : Nat → List UwE := stepU (skGet (skA A)) e
def bT : Option (AV × Heap) := some (.val (.bool true), ⟨0, []⟩)
def bF : Option (AV × Heap) := some (.val (.bool false), ⟨0, []⟩)
end Go.Ev
/- UnwindStacks, for every input: the law answers true, and its arguments read as they did. -/
namespace Go.Ev
open Go.Proofs
section
variable {H : Type}
noncomputable def pAt (d : DataW H) (i : Nat) : DataW H := (partsD d).getD i .nil
theorem headTail (l : List (DataW H)) : l.headD .nil = l.getD 0 .nil ∧ ∀ i, l.tail.getD i .nil = l.getD (i + 1) .nil := by
  cases l <;> simp [List.headD]
end
end Go.Ev
namespace Go.Proofs.Ytemblfgjamapbaa
open Go.Ev
theorem Try.ownG : ownKnob Try.prog.godebug = none := by kernel_rfl
theorem Try.kidsG : Kids Try.prog (· < Try.prog.types.size) := kids_rows (by kernel_rfl) (by kernel_rfl)
theorem Try.fullG : ∀ t e, t < Try.prog.types.size → Try.prog.underlying t = some (.slice e) → 0 < Try.prog.cellsOf e := slices_full_of Try.prog (by kernel_rfl)
end Go.Proofs.Ytemblfgjamapbaa
/- Walks: frames compared. -/
namespace Go.Ev
open Go.Proofs
def uleq (x y : UlD) : Bool := x.1 == y.1 && (x.2.1 == y.2.1 && (x.2.2 == y.2.2 && true))
theorem uleq_iff (x y : UlD) : uleq x y = true ↔ x = y := by
  obtain ⟨a, b, c⟩ := x
  obtain ⟨a', b', c'⟩ := y
  simp [uleq]
def Try.E30 : Env := Try.env0 false (sumsOf []) (keepF 30 [(4, [0, 1, 12, 13])])
def Try.b30 : Code := nthD .skip (loopsOf (bodyOf Try.E30 30)) 0
def Try.V30 (L M : List UlD) (i : Int) : List AV := [.ro (UL.con L) none, .ro (UL.con M) none, .val (.int .i64 L.length), .val (.int .i64 i)]
theorem Try.r30 (L M : List UlD) (i : Int) : codeS Try.E30 (callF Try.E30 5) (Try.E30.keep 30) (lsumsOf []) Try.b30 (outK [0, 1, 12, 13] [4]) (stOf 26 [0, 1, 12, 13] (Try.V30 L M i) ⟨0, []⟩) = eqRound UL uleq 26 [0, 1, 12, 13] (Try.V30 L M) L M i := by kernel_rfl
theorem Try.e30 : EnvOk2 Try.prog Try.E30 := Try.envOk false (sumsOf []) _ (fun g A h => by cases h)
theorem Try.w30 (L M : List UlD) : rootS Try.E30 5 30 (lsumsOf [(4, eqL UL uleq 26 [0, 1, 12, 13] (Try.V30 L M) L M)]) [.ro (UL.con L) none, .ro (UL.con M) none] = eqRun UL uleq 26 [0, 1, 12, 13] (Try.V30 L M) L M := by kernel_rfl
def Try.A30 : AFun := eqqA UL uleq
theorem Try.sum30 : SumC Try.prog 30 Try.A30 := eq_sum Try.e30 (d := 5) (lid := 4) (c := Try.b30) ⟨Try.f30, _, Try.fnOk30.1, Try.fnOk30.2, rfl⟩ (by kernel_rfl) (by kernel_rfl) (by kernel_rfl) Try.V30 Try.r30 Try.w30
def badM : AV := .tup [.val (.pointer none), .val (.int .i64 4)]
end Go.Ev
/- Memories of the specification: Load. -/
namespace Go.Ev
open Go.Proofs
theorem Try.r84 (n r : Int) (O : List Int) : rootS Try.E1 3 84 (lsumsOf []) [.agg [.val (.int .i64 n), .val (.int .i64 r), .ro (.ints .u8 O) none]] =
 bif ownNew (some 0) 0 O.length then
 bif ((0 + O.length) * 1).ble most && (0 + O.length).ble most then
 some (.agg [.val (.int .i64 (n)), .val (.int .i64 (r)), .own 0 0 (0 + O.length) none 1], ⟨1, [⟨0, 0, .cells (.ints .u8 ([] ++ O))⟩]⟩)
 else
 none
 else
 bif ((0 + O.length) * 1).ble most && (0 + O.length).ble most then
 some (.agg [.val (.int .i64 (n)), .val (.int .i64 (r)), .own 0 0 (0 + O.length) none 1], ⟨1, [⟨0, 0, .cells (.ints .u8 ([] ++ O))⟩]⟩)
 else
 none := by kernel_rfl
def Try.E56 : Env := Try.env0 false (sumsOf []) (keepF 56 [(2, [0, 3])])
def Try.b56 : Code := nthD .skip (loopsOf (bodyOf Try.E56 56)) 0
def Try.s56 (l : List PgD) (i : Int) : St := stOf 65 [0, 3] [.ro (PG.con l) none, .val (.int .i64 i)] ⟨0, []⟩
theorem Try.r56 (l : List PgD) (i : Int) : codeS Try.E56 (callF Try.E56 5) (Try.E56.keep 56) (lsumsOf []) Try.b56 (outK [0, 3] [2]) (Try.s56 l i) =
 bif decide (i < (↑l.length : Int)) then
 bif inR i l.length then
 bif decide ((l.getD i.toNat PG.z).fst < 0) then
 some (.ret, stOf 65 [2] [.val (.bool false)] ⟨0, []⟩)
 else
 bif inR i l.length then
 bif decide ((l.getD i.toNat PG.z).fst ≥ 16777216) then
 some (.ret, stOf 65 [2] [.val (.bool false)] ⟨0, []⟩)
 else
 bif inR i l.length then
 bif decide ((l.getD i.toNat PG.z).snd.fst < 0) then
 some (.ret, stOf 65 [2] [.val (.bool false)] ⟨0, []⟩)
 else
 bif inR i l.length then
 bif decide ((l.getD i.toNat PG.z).snd.fst > 7) then
 some (.ret, stOf 65 [2] [.val (.bool false)] ⟨0, []⟩)
 else
 bif inR i l.length then
 bif (↑(l.getD i.toNat PG.z).snd.snd.length : Int) != 256 then
 some (.ret, stOf 65 [2] [.val (.bool false)] ⟨0, []⟩)
 else
 bif decide (i > 0) then
 bif inR (IntKind.i64.wrap (i - 1)) l.length then
 bif inR i l.length then
 bif decide ((l.getD (IntKind.i64.wrap (i - 1)).toNat PG.z).fst ≥ (l.getD i.toNat PG.z).fst) then
 some (.ret, stOf 65 [2] [.val (.bool false)] ⟨0, []⟩)
 else
 some (.normal, stOf 65 [0, 3] [.ro (.tab 3 (l.length) (fun i => PG.row (l.getD i PG.z))) none, .val (.int .i64 (IntKind.i64.wrap (i + 1)))] ⟨0, []⟩)
 else
 none
 else
 none
 else
 some (.normal, stOf 65 [0, 3] [.ro (.tab 3 (l.length) (fun i => PG.row (l.getD i PG.z))) none, .val (.int .i64 (IntKind.i64.wrap (i + 1)))] ⟨0, []⟩)
 else
 none
 else
 none
 else
 none
 else
 none
 else
 none
 else
 some (.exit 0, stOf 65 [] [] ⟨0, []⟩) := by kernel_rfl
def Try.y56 : AX × St := (.exit 0, stOf 65 [] [] ⟨0, []⟩)
def Try.n56 : AX × St := (.ret, stOf 65 [2] [.val (.bool false)] ⟨0, []⟩)
def Try.z56 (l : List PgD) : AX × St := bif propB (okPs l) then Try.y56 else Try.n56
def Try.L56 (l : List PgD) : LSum := atL (Try.s56 l 0) (.grd (Nat.ble l.length 1000) (.br (propB (okPs l)) (.out Try.y56) (.out Try.n56)))
def badPg (l : List PgD) (k : Nat) : Bool := decide ((l.getD k PG.z).1 < 0) || (decide ((l.getD k PG.z).1 ≥ 16777216) || (decide ((l.getD k PG.z).2.1 < 0) || (decide ((l.getD k PG.z).2.1 > 7) || (((l.getD k PG.z).2.2.length : Int) != 256 || (decide ((k : Int) > 0) && decide ((l.getD (k - 1) PG.z).1 ≥ (l.getD k PG.z).1))))))
theorem badPg_iff (l : List PgD) (k : Nat) : badPg l k = false ↔ okPg l k := by
  unfold badPg okPg
  simp only [Bool.or_eq_false_iff, Bool.and_eq_false_iff, decide_eq_false_iff_not, bne, Bool.not_eq_false', beq_iff_eq]
  omega
theorem Try.r56t (l : List PgD) (k : Nat) (hk : k < l.length) (hl : l.length ≤ 1000) : codeS Try.E56 (callF Try.E56 5) (Try.E56.keep 56) (lsumsOf []) Try.b56 (outK [0, 3] [2]) (Try.s56 l k) = bif badPg l k then some Try.n56 else some (.normal, Try.s56 l ((k + 1 : Nat) : Int)) := by
  rw [Try.r56, declt_nat, decide_eq_true hk, inR_nat, decide_eq_true hk, Int.toNat_natCast, wrapU k (by omega)]
  unfold badPg
  cases decide ((l.getD k PG.z).1 < 0)
  · cases decide ((l.getD k PG.z).1 ≥ 16777216)
    · cases decide ((l.getD k PG.z).2.1 < 0)
      · cases decide ((l.getD k PG.z).2.1 > 7)
        · cases ((l.getD k PG.z).2.2.length : Int) != 256
          · cases h : decide ((k : Int) > 0) with
            | false => rfl
            | true =>
              rw [decide_eq_true_eq] at h
              have e : IntKind.i64.wrap ((k : Int) - 1) = ((k - 1 : Nat) : Int) := by rw [wrap64 _ (by omega) (by omega)]; omega
              rw [e, inR_nat, decide_eq_true (show k - 1 < l.length by omega), Int.toNat_natCast]
              cases decide ((l.getD (k - 1) PG.z).1 ≥ (l.getD k PG.z).1) <;> rfl
          · rfl
        · rfl
      · rfl
    · rfl
  · rfl
theorem Try.e56 : EnvOk2 Try.prog Try.E56 := Try.envOk false (sumsOf []) _ (fun g A h => by cases h)
theorem Try.l56 (l : List PgD) : ∀ s e s', s.h.ok → (Try.L56 l s).run = some (e, s') → Triple Try.prog (.loop Try.b56) s e s' := by
  refine atL_grd (fun hp => ?_)
  rw [Nat.ble_eq] at hp
  refine loop_at Try.e56 (d := 5) (g := 56) (ls := lsumsOf []) (c := Try.b56) trivial [0, 3] [2] (T := Nat)
    (fun k => Try.s56 l k) (fun k => k ≤ l.length ∧ ∀ i, i < k → okPg l i) (fun k => l.length - k) (fun _ => Try.z56 l) _ _ 0 ⟨Nat.zero_le _, fun i hi => by omega⟩ (Weak.refl heap0_ok) (fun e s' h => by
      rw [Ans.run_br] at h
      unfold Try.z56
      cases hq : propB (okPs l) <;> rw [hq] at h <;> exact Option.some.inj h) (fun k _ => heap0_ok) ?_
  rintro k ⟨h1, h2⟩
  by_cases h : k < l.length
  · have key := Try.r56t l k h hp
    cases hb : badPg l k with
    | true =>
      rw [hb] at key
      have hn : propB (okPs l) = false := pB_f (fun q => by rw [(badPg_iff l k).2 (q k h)] at hb; cases hb)
      refine .inr ?_
      show ∃ _, _
      simp only [Try.z56, hn, cond_false]
      exact ⟨_, key, Weak.refl heap0_ok, by show AX.ret ≠ .normal; simp⟩
    | false =>
      rw [hb] at key
      refine .inl ⟨k + 1, _, key, Weak.refl heap0_ok, ⟨h, fun i hi => ?_⟩, by omega, rfl⟩
      rcases Nat.lt_or_ge i k with q | q
      · exact h2 i q
      · have : i = k := by omega
        subst this
        exact (badPg_iff l i).1 hb
  · have key := Try.r56 l k
    rw [declt_nat, decide_eq_false h] at key
    have hn : propB (okPs l) = true := propB_t (fun i hi => h2 i (by omega))
    refine .inr ?_
    show ∃ _, _
    simp only [Try.z56, hn, cond_true]
    exact ⟨_, key, Weak.refl heap0_ok, by show (AX.exit 0) ≠ .normal; simp⟩
theorem Try.w56 (l : List PgD) : rootS Try.E56 5 56 (lsumsOf [(2, Try.L56 l)]) [.ro (PG.con l) none] = bif isSt (Try.s56 l 0) (Try.s56 l 0) then (bif Nat.ble l.length 1000 then (bif propB (okPs l) then bT else bF) else none) else none := by kernel_rfl
theorem Try.al56 (l : List PgD) (hl : l.length ≤ 1000) : Alone Try.prog 56 [.ro (PG.con l) none] (.val (.bool (propB (okPs l)))) ⟨0, []⟩ := by
  refine rootS_alone Try.e56 (d := 5) (g := 56) (ls := lsumsOf [(2, Try.L56 l)]) (AllL.of1 (a := Try.b56) (by kernel_rfl) (LsOk.of rfl rfl (Try.l56 l))) ((Try.w56 l).trans ?_)
  rw [isSt_refl, ble_t hl]
  cases propB (okPs l) <;> rfl
theorem Try.al84 (n r : Int) (O : List Int) (hO : O.length ≤ 1000000) : Alone Try.prog 84 [.agg [.val (.int .i64 n), .val (.int .i64 r), .ro (.ints .u8 O) none]] (.agg [.val (.int .i64 n), .val (.int .i64 r), .ro (.ints .u8 O) none]) ⟨0, []⟩ := by
  have key := Try.r84 n r O
  have hm := most_eq
  rw [Nat.zero_add, ble_t (show O.length * 1 ≤ Ev.most by omega), ble_t (show O.length ≤ Ev.most by omega), List.nil_append] at key
  have key2 : rootS Try.E1 3 84 (lsumsOf []) [.agg [.val (.int .i64 n), .val (.int .i64 r), .ro (.ints .u8 O) none]] = some (.agg [.val (.int .i64 n), .val (.int .i64 r), .own 0 0 O.length none 1], oneH (.ints .u8 O)) := by
    rw [key]; cases ownNew (some 0) 0 O.length <;> rfl
  have run := rootS_alone Try.e1 (d := 3) (g := 84) (ls := lsumsOf []) (AllL.of0 (by kernel_rfl)) key2
  exact Alone.fz1 (con := .ints .u8 O) rfl rfl (.agg (.cons (.inl rfl) (.cons (.inl rfl) (.cons (.inr (.inr ⟨none, rfl, rfl⟩)) .nil)))) run
def S84 (args : List AV) : Ans (AV × Heap) := match args with
  | [.agg [.val (.int .i64 n), .val (.int .i64 r), .ro (.ints .u8 O) cap]] => .grd (Nat.ble O.length 1000000) (.out (.agg [.val (.int .i64 n), .val (.int .i64 r), .ro (.ints .u8 O) none], ⟨0, []⟩))
  | _ => .no
def Try.A84 : AFun := roA S84
theorem Try.sum84 : SumC Try.prog 84 Try.A84 := by
  refine roSumR 84 ⟨Try.f84, _, Try.fnOk84.1, Try.fnOk84.2, rfl⟩ ?_
  intro args v h2 hs
  unfold S84 at hs
  split at hs
  · rename_i n r O cap
    rw [Ans.run_grd] at hs
    obtain ⟨hb, hs⟩ := grd_some hs
    rw [Nat.ble_eq] at hb
    have hs := Option.some.inj hs
    injection hs with q1 q2
    subst q1; subst q2
    refine ⟨fun e he => (by cases he), ?_⟩
    refine Alone.argsW (AWs.args (.cons (AW.agg (.cons (AW.refl _) (.cons (AW.refl _) (.cons (AW.cap _ _) .nil)))) .nil)) (Try.al84 n r O hb)
  · cases hs
def Try.E57 : Env := Try.env0 false (sumsOf [(84, Try.A84)]) (keepF 57 [(3, [0, 3, 4])])
def Try.b57 : Code := nthD .skip (loopsOf (bodyOf Try.E57 57)) 0
def Try.s57n (l : List PgD) (i : Int) : St := stOf 20 [0, 3, 4] [.ro (PG.con l) none, nilL, .val (.int .i64 i)] ⟨0, []⟩
def Try.s57o (l : List PgD) (i : Int) (n : Nat) (c : Con) : St := stOf 20 [0, 3, 4] [.ro (PG.con l) none, .own 0 0 n none 3, .val (.int .i64 i)] ⟨1, [⟨0, 0, .cells c⟩]⟩
def Try.B57 (s : St) : Option (AX × St) := codeS Try.E57 (callF Try.E57 5) (Try.E57.keep 57) (lsumsOf []) Try.b57 (outK [0, 3, 4] [3]) s
theorem Try.r57n (l : List PgD) (i : Int) : Try.B57 (Try.s57n l i) =
 bif decide (i < (↑l.length : Int)) then
 bif inR i l.length then
 bif (l.getD i.toNat PG.z).snd.snd.length.ble 1000000 then
 some (.normal, stOf 20 [0, 3, 4] [.ro (.tab 3 (l.length) (fun i => PG.row (l.getD i PG.z))) none, .own 0 0 (1) none 3, .val (.int .i64 (IntKind.i64.wrap (i + 1)))] ⟨1, [⟨0, 0, .cells (.rows true 3 ([.val (.int .i64 ((l.getD i.toNat PG.z).fst)), .val (.int .i64 ((l.getD i.toNat PG.z).snd.fst)), .ro (.ints .u8 ((l.getD i.toNat PG.z).snd.snd)) none] :: []))⟩]⟩ )
 else
 none
 else
 none
 else
 some (.exit 0, stOf 20 [3] [.val (.slice none 0 0)] ⟨0, []⟩) := by kernel_rfl
section
variable {D : Type} (R : RowTy D)
noncomputable def RowTy.cat1 (O : List D) (x : D) : Con := .tab R.wd (O.length + 1) (fun i => bif i.blt O.length then R.row (O.getD (0 + i) R.z) else [R.row x].getD (i - O.length) [])
theorem RowTy.one (x : D) (p : Bool) : ConW (.rows p R.wd [R.row x]) (R.con [x]) := ⟨rfl, rfl, fun i hi j v' hv => by
  have hi' : i < 1 := hi
  have : i = 0 := by omega
  subst this
  exact ⟨v', hv, AW.refl _⟩⟩
theorem RowTy.snoc (O : List D) (x : D) : ConW (R.cat1 O x) (R.con (O ++ [x])) := by
  refine ⟨rfl, by show (O ++ [x]).length = O.length + 1; simp, fun i hi j v' hv => ⟨v', ?_, AW.refl _⟩⟩
  have hi' : i < O.length + 1 := hi
  have hv' : (R.row ((O ++ [x]).getD i R.z))[j]? = some v' := hv
  show (bif i.blt O.length then R.row (O.getD (0 + i) R.z) else [R.row x].getD (i - O.length) [])[j]? = some v'
  rcases Nat.lt_or_ge i O.length with q | q
  · rw [blt_t q, cond_true, Nat.zero_add]
    rw [List.getD_eq_getElem?_getD, List.getElem?_append_left q, ← List.getD_eq_getElem?_getD] at hv'
    exact hv'
  · have e : i = O.length := by omega
    subst e
    rw [blt_f (Nat.le_refl _), cond_false, Nat.sub_self]
    rw [List.getD_eq_getElem?_getD, List.getElem?_append_right (Nat.le_refl _), Nat.sub_self] at hv'
    exact hv'
end
theorem Try.r57o (l : List PgD) (O : List PgD) (i : Int) : Try.B57 (Try.s57o l i O.length (PG.con O)) =
    bif decide (i < (l.length : Int)) then
     bif inR i l.length then
      bif (l.getD i.toNat PG.z).2.2.length.ble 1000000 then
       bif (0 + O.length).ble O.length then
        bif ((O.length + 1) * 40).ble Ev.most && (O.length + 1).ble Ev.most then
         some (.normal, Try.s57o l (IntKind.i64.wrap (i + 1)) (O.length + 1) (PG.cat1 O (l.getD i.toNat PG.z)))
        else none
       else none
      else none
     else none
    else some (.exit 0, stOf 20 [3] [.own 0 0 (O.length) none 3] ⟨1, [⟨0, 0, .cells (PG.con O)⟩]⟩) := by kernel_rfl
def shPs (l : List PgD) : Prop := ∀ i, i < l.length → (l.getD i PG.z).2.2.length ≤ 1000000
def Try.P57 (l : List PgD) (i : Int) : List PgD → St
  | [] => Try.s57n l i
  | x :: O => Try.s57o l i (x :: O).length (PG.con (x :: O))
def Try.x57 : List PgD → AX × St
  | [] => (.exit 0, stOf 20 [3] [.val (.slice none 0 0)] ⟨0, []⟩)
  | x :: O => (.exit 0, stOf 20 [3] [.own 0 0 (x :: O).length none 3] ⟨1, [⟨0, 0, .cells (PG.con (x :: O))⟩]⟩)
def Try.L57 (l : List PgD) : LSum := atL (Try.s57n l 0) (.grd (Nat.ble l.length 1000 && propB (shPs l)) (.br (isE l) (.out (.exit 0, stOf 20 [3] [.val (.slice none 0 0)] ⟨0, []⟩)) (.out (.exit 0, stOf 20 [3] [.own 0 0 l.length none 3] ⟨1, [⟨0, 0, .cells (PG.con l)⟩]⟩))))
theorem oneB_ok (b : Blk) : (⟨1, [⟨0, 0, b⟩]⟩ : Heap).ok := heap_ok [0] rfl (by decide) (by decide)
theorem Try.P57_ok (l : List PgD) (i : Int) (O : List PgD) : (Try.P57 l i O).h.ok := by
  cases O
  · exact heap0_ok
  · exact oneB_ok _
theorem Try.P57_snoc (l : List PgD) (i : Int) (O : List PgD) (x : PgD) : Try.P57 l i (O ++ [x]) = Try.s57o l i (O.length + 1) (PG.con (O ++ [x])) := by
  have e : ∀ L : List PgD, L ≠ [] → Try.P57 l i L = Try.s57o l i L.length (PG.con L) := fun L h => by
    cases L with
    | nil => exact absurd rfl h
    | cons => rfl
  rw [e _ (by simp), List.length_append]; rfl
theorem take_snoc {α : Type} {L : List α} {k : Nat} {z : α} (h : k < L.length) : L.take (k + 1) = L.take k ++ [L.getD k z] := by
  rw [List.take_succ_eq_append_getElem h, List.getD_eq_getElem?_getD, List.getElem?_eq_getElem h]; rfl
theorem Try.r57t (l : List PgD) (k : Nat) (hk : k < l.length) (hl : l.length ≤ 1000) (hs : shPs l) : ∃ s1, Try.B57 (Try.P57 l k (l.take k)) = some (.normal, s1) ∧ Weak s1 (Try.P57 l ((k + 1 : Nat) : Int) (l.take (k + 1))) := by
  have hm := most_eq
  have hx := hs k hk
  have hlen : (l.take k).length = k := by rw [List.length_take]; omega
  rw [take_snoc (z := PG.z) hk, Try.P57_snoc]
  generalize hO : l.take k = O at *
  cases O with
  | nil =>
    refine ⟨Try.s57o l ((k + 1 : Nat) : Int) 1 (.rows true 3 [pgRow (l.getD k PG.z)]), (Try.r57n l k).trans ?_, Weak.heap (oneB_ok _) (.con 0 0 0 rfl (PG.one (l.getD k PG.z) true) (EsW.refl _))⟩
    rw [declt_nat, decide_eq_true hk, inR_nat, decide_eq_true hk, Int.toNat_natCast, ble_t hx, wrapU k (by omega)]
    rfl
  | cons x O =>
    refine ⟨Try.s57o l ((k + 1 : Nat) : Int) ((x :: O).length + 1) (PG.cat1 (x :: O) (l.getD k PG.z)), (Try.r57o l (x :: O) k).trans ?_, Weak.heap (oneB_ok _) (.con 0 0 0 rfl (PG.snoc (x :: O) _) (EsW.refl _))⟩
    rw [declt_nat, decide_eq_true hk, inR_nat, decide_eq_true hk, Int.toNat_natCast, ble_t hx, wrapU k (by omega), Nat.zero_add, ble_t (Nat.le_refl _), ble_t (show ((x :: O).length + 1) * 40 ≤ Ev.most by omega), ble_t (show (x :: O).length + 1 ≤ Ev.most by omega)]
    rfl
theorem Try.e57 : EnvOk2 Try.prog Try.E57 := Try.envOk false (sumsOf [(84, Try.A84)]) _ (sumsOf_ok (show AllS Try.prog [(84, Try.A84)] from ⟨Try.sum84, trivial⟩))
theorem Try.l57 (l : List PgD) : ∀ s e s', s.h.ok → (Try.L57 l s).run = some (e, s') → Triple Try.prog (.loop Try.b57) s e s' := by
  refine atL_grd (fun hp => ?_)
  rw [Bool.and_eq_true, Nat.ble_eq] at hp
  obtain ⟨hl, hs⟩ := hp
  have hs := propB_eq hs
  refine loop_at Try.e57 (d := 5) (g := 57) (ls := lsumsOf []) (c := Try.b57) trivial [0, 3, 4] [3] (T := Nat)
    (fun k => Try.P57 l k (l.take k)) (fun k => k ≤ l.length) (fun k => l.length - k) (fun _ => Try.x57 l) _ _ 0 (Nat.zero_le _) (Weak.refl heap0_ok) (fun e s' h => by
      rw [Ans.run_br] at h
      cases l <;> exact Option.some.inj h) (fun k _ => Try.P57_ok _ _ _) ?_
  intro k h1
  by_cases h : k < l.length
  · obtain ⟨s1, r, hw⟩ := Try.r57t l k h hl hs
    exact .inl ⟨k + 1, s1, r, hw, h, by omega, rfl⟩
  · have e : k = l.length := by omega
    subst e
    refine .inr ?_
    show ∃ s1, Try.B57 (Try.P57 l _ (l.take l.length)) = _ ∧ _
    rw [List.take_length]
    cases l with
    | nil => exact ⟨_, (Try.r57n [] 0).trans rfl, Weak.refl heap0_ok, by show (AX.exit 0) ≠ .normal; simp⟩
    | cons x O =>
      refine ⟨_, (Try.r57o (x :: O) (x :: O) _).trans ?_, Weak.refl (oneB_ok _), by show (AX.exit 0) ≠ .normal; simp⟩
      rw [declt_nat, decide_eq_false (by omega)]; rfl
theorem Try.w57 (l : List PgD) : rootS Try.E57 5 57 (lsumsOf [(3, Try.L57 l)]) [.ro (PG.con l) none] = bif isSt (Try.s57n l 0) (Try.s57n l 0) then (bif Nat.ble l.length 1000 && propB (shPs l) then (bif isE l then some (nilL, ⟨0, []⟩) else some (.own 0 0 l.length none 3, oneH (PG.con l))) else none) else none := by kernel_rfl
theorem Try.al57 (l : List PgD) (hl : l.length ≤ 1000) (hs : shPs l) : Alone Try.prog 57 [.ro (PG.con l) none] (.ro (PG.con l) none) ⟨0, []⟩ := by
  have run := fun v h2 => rootS_alone Try.e57 (d := 5) (g := 57) (ls := lsumsOf [(3, Try.L57 l)]) (args := [.ro (PG.con l) none]) (v := v) (h2 := h2) (AllL.of1 (a := Try.b57) (by kernel_rfl) (LsOk.of rfl rfl (Try.l57 l)))
  have key := Try.w57 l
  rw [isSt_refl, ble_t hl, propB_t hs] at key
  cases l with
  | nil => exact Alone.resW (AW.nil rfl) (run _ _ key)
  | cons x O => exact Alone.fz1 (con := PG.con (x :: O)) rfl rfl (.one (.inr (.inr ⟨none, rfl, rfl⟩))) (run _ _ key)
end Go.Ev
/- Memories of the specification: Load, as a summary. -/
namespace Go.Ev
open Go.Proofs
def S56 (l : List PgD) (args : List AV) : Ans (AV × Heap) := match args with
  | [v] => .grd (isV v (.ro (PG.con l) none) && Nat.ble l.length 1000) (.out (.val (.bool (propB (okPs l))), ⟨0, []⟩))
  | _ => .no
def S57 (l : List PgD) (args : List AV) : Ans (AV × Heap) := match args with
  | [v] => .grd (isV v (.ro (PG.con l) none) && (Nat.ble l.length 1000 && propB (shPs l))) (.out (.ro (PG.con l) none, ⟨0, []⟩))
  | _ => .no
def Try.A56 (l : List PgD) : AFun := roA (S56 l)
def Try.A57 (l : List PgD) : AFun := roA (S57 l)
theorem Try.sum56 (l : List PgD) : SumC Try.prog 56 (Try.A56 l) := by
  refine roSumR 56 ⟨Try.f56, _, Try.fnOk56.1, Try.fnOk56.2, rfl⟩ ?_
  intro args v h2 hs
  unfold S56 at hs
  split at hs
  · rename_i v0
    rw [Ans.run_grd] at hs
    obtain ⟨hb, hz⟩ := grd_some hs
    rw [Bool.and_eq_true, Nat.ble_eq] at hb
    have h1 := isV_eq hb.1
    subst h1
    have hz := Option.some.inj hz
    injection hz with q1 q2
    subst q1; subst q2
    exact ⟨fun e he => (by cases he), Try.al56 l hb.2⟩
  · cases hs
theorem Try.sum57 (l : List PgD) : SumC Try.prog 57 (Try.A57 l) := by
  refine roSumR 57 ⟨Try.f57, _, Try.fnOk57.1, Try.fnOk57.2, rfl⟩ ?_
  intro args v h2 hs
  unfold S57 at hs
  split at hs
  · rename_i v0
    rw [Ans.run_grd] at hs
    obtain ⟨hb, hz⟩ := grd_some hs
    rw [Bool.and_eq_true, Bool.and_eq_true, Nat.ble_eq] at hb
    have h1 := isV_eq hb.1
    subst h1
    have hz := Option.some.inj hz
    injection hz with q1 q2
    subst q1; subst q2
    exact ⟨fun e he => (by cases he), Try.al57 l hb.2.1 (propB_eq hb.2.2)⟩
  · cases hs
def Try.E23 (l : List PgD) : Env := Try.env0 false (sumsOf [(56, Try.A56 l), (57, Try.A57 l)]) (keepF 23 [])
theorem Try.r23 (l : List PgD) : rootS (Try.E23 l) 5 23 (lsumsOf []) [.ro (PG.con l) none] =
 bif isV (AV.ro (PG.con l) none) (AV.ro (PG.con l) none) && l.length.ble 1000 then
 bif propB (okPs l) then
 bif decide ((↑l.length : Int) > 2000) then
 some (.tup [.val (Value.pointer none), .val (.int .i64 2)], ⟨0, []⟩)
 else
 bif isV (AV.ro (PG.con l) none) (AV.ro (PG.con l) none) && (l.length.ble 1000 && propB (shPs l)) then
 some (.tup [.ptr 0 0 0, .val (.int .i64 0)], ⟨1, [⟨0, 0, .cells (.rows true 2 ([.ro (.tab 3 (l.length) (fun i => PG.row (l.getD i PG.z))) none, .val (.slice none 0 0)] :: []))⟩]⟩)
 else
 none
 else
 some (.tup [.val (Value.pointer none), .val (.int .i64 4)], ⟨0, []⟩)
 else
 none := by kernel_rfl
def refV (l : List PgD) : AV := .rptr (.rows true 2 [[.ro (PG.con l) none, nilL]]) 0 0
theorem okPs_sh {l : List PgD} (h : okPs l) : shPs l := fun i hi => by rw [(h i hi).2.2.2.2.2]; decide
theorem Try.e23 (l : List PgD) : EnvOk2 Try.prog (Try.E23 l) := Try.envOk false (sumsOf [(56, Try.A56 l), (57, Try.A57 l)]) _ (sumsOf_ok (show AllS Try.prog [(56, Try.A56 l), (57, Try.A57 l)] from ⟨Try.sum56 l, Try.sum57 l, trivial⟩))
theorem Try.al23 (l : List PgD) (hl : l.length ≤ 1000) : Alone Try.prog 23 [.ro (PG.con l) none] (bif propB (okPs l) then .tup [refV l, .val (.int .i64 0)] else badM) ⟨0, []⟩ := by
  have run := fun v h2 => rootS_alone (Try.e23 l) (d := 5) (g := 23) (ls := lsumsOf []) (args := [.ro (PG.con l) none]) (v := v) (h2 := h2) (AllL.of0 (by kernel_rfl))
  have key := Try.r23 l
  rw [isV_refl, ble_t hl, decide_eq_false (show ¬ (l.length : Int) > 2000 by omega)] at key
  cases hp : propB (okPs l) with
  | false => rw [hp] at key; exact run _ _ key
  | true =>
    rw [hp, propB_t (okPs_sh (propB_eq hp))] at key
    refine Alone.lend ?_ (run _ _ key)
    kernel_rfl
end Go.Ev
/- Memories of the specification: pages by their numbers. -/
namespace Go.Ev
open Go.Proofs
def key (l : List PgD) (i : Nat) : Int := (l.getD i PG.z).1
def ascP (l : List PgD) : Prop := ∀ i j, i < j → j < l.length → key l i < key l j
def isLow (l : List PgD) (n : Int) (k : Nat) : Prop := k ≤ l.length ∧ (∀ i, i < k → key l i < n) ∧ ∀ i, k ≤ i → i < l.length → n ≤ key l i
def lowP (l : List PgD) (n : Int) : Nat := @dite _ (∃ k, isLow l n k) (Classical.propDecidable _) (fun h => Classical.choose h) (fun _ => 0)
def fndP (l : List PgD) (n : Int) : Bool := decide (lowP l n < l.length) && (key l (lowP l n) == n)
theorem isLow_eq {l : List PgD} {n : Int} {k : Nat} (h : isLow l n k) : lowP l n = k := by
  have hx : ∃ k, isLow l n k := ⟨k, h⟩
  have e : lowP l n = Classical.choose hx := dif_pos hx
  have g := Classical.choose_spec hx
  rw [e]
  generalize Classical.choose hx = j at g
  rcases Nat.lt_trichotomy j k with q | q | q
  · have a1 := h.2.1 j q
    have a2 := g.2.2 j (Nat.le_refl _) (by have := h.1; omega)
    omega
  · exact q
  · have a1 := g.2.1 k q
    have a2 := h.2.2 k (Nat.le_refl _) (by have := g.1; omega)
    omega
theorem okPs_asc {l : List PgD} (h : okPs l) : ascP l := by
  intro i j hij
  induction j with
  | zero => omega
  | succ j ih =>
    intro hj
    have h2 := (h (j + 1) hj).2.2.1 (by omega)
    replace h2 : key l j < key l (j + 1) := h2
    rcases Nat.lt_or_ge i j with q | q
    · have := ih q (by omega)
      omega
    · have : i = j := by omega
      subst this; exact h2
theorem fndP_iff {l : List PgD} (ha : ascP l) (n : Int) {k : Nat} (h : isLow l n k) : (fndP l n = true ↔ ∃ i, i < l.length ∧ key l i = n) := by
  unfold fndP
  rw [isLow_eq h, Bool.and_eq_true, decide_eq_true_eq, beq_iff_eq]
  constructor
  · rintro ⟨h1, h2⟩; exact ⟨k, h1, h2⟩
  · rintro ⟨i, h1, h2⟩
    have a1 : ¬ i < k := fun q => by have := h.2.1 i q; omega
    have a2 : i = k := by
      rcases Nat.lt_or_ge k i with q | q
      · have := ha k i q h1
        have := h.2.2 k (Nat.le_refl _) (by omega)
        omega
      · omega
    subst a2
    exact ⟨h1, h2⟩
theorem isLow_has {l : List PgD} (ha : ascP l) (n : Int) : ∃ k, isLow l n k := by
  suffices h : ∀ m, m ≤ l.length → ∃ k, k ≤ m ∧ (∀ i, i < k → key l i < n) ∧ ∀ i, k ≤ i → i < m → n ≤ key l i by
    obtain ⟨k, h1, h2, h3⟩ := h l.length (Nat.le_refl _)
    exact ⟨k, h1, h2, h3⟩
  intro m
  induction m with
  | zero => intro _; exact ⟨0, Nat.le_refl _, fun i hi => by omega, fun i _ hi => by omega⟩
  | succ m ih =>
    intro hm
    obtain ⟨k, h1, h2, h3⟩ := ih (by omega)
    rcases Int.lt_or_le (key l m) n with q | q
    · refine ⟨m + 1, Nat.le_refl _, fun i hi => ?_, fun i h4 h5 => by omega⟩
      rcases Nat.lt_or_ge i m with r | r
      · have := ha i m r (by omega); omega
      · have : i = m := by omega
        subst this; exact q
    · refine ⟨k, by omega, h2, fun i h4 h5 => ?_⟩
      rcases Nat.lt_or_ge i m with r | r
      · exact h3 i h4 r
      · have : i = m := by omega
        subst this; exact q
theorem pgHas_iff (l : List PgD) (n : Int) : pgHas l n = true ↔ ∃ i, i < l.length ∧ key l i = n := by
  unfold pgHas hasKey
  rw [@decide_eq_true_eq _ (Classical.propDecidable _)]
  constructor
  · rintro ⟨i, h1, h2⟩
    refine ⟨i, h1, ?_⟩
    have : Instr.sameNow iD (kI n) (kI (l.getD i PG.z).1) = some true := h2
    rw [same_kI] at this
    have := Option.some.inj this
    rw [beq_iff_eq] at this
    exact this.symm
  · rintro ⟨i, h1, h2⟩
    refine ⟨i, h1, ?_⟩
    show Instr.sameNow iD (kI n) (kI (l.getD i PG.z).1) = some true
    rw [same_kI]
    show some (n == key l i) = some true
    rw [h2, beq_self_eq_true]
theorem fndP_has {l : List PgD} (ha : ascP l) (n : Int) : fndP l n = pgHas l n := by
  obtain ⟨k, hk⟩ := isLow_has ha n
  have h1 := fndP_iff ha n hk
  have h2 := pgHas_iff l n
  rw [Bool.eq_iff_iff, h1, h2]
theorem pgX_low {l : List PgD} (ha : ascP l) (n : Int) (h : pgHas l n = true) : pgX l n = l.getD (lowP l n) PG.z := by
  have hf := h
  rw [← fndP_has ha n] at hf
  unfold fndP at hf
  rw [Bool.and_eq_true, decide_eq_true_eq, beq_iff_eq] at hf
  obtain ⟨h1, h2⟩ := hf
  unfold pgX idxKey
  have e : ∀ i, (Instr.sameNow iD (kI n) (fM l i).key == some true) = (n == key l i) := fun i => by
    show (Instr.sameNow iD (kI n) (kI (key l i)) == some true) = _
    rw [same_kI]
    cases n == key l i <;> rfl
  congr 1
  have hr : (List.range l.length).findIdx (fun i => Instr.sameNow iD (kI n) (fM l i).key == some true) < (List.range l.length).length := by
    rw [List.findIdx_lt_length]
    refine ⟨lowP l n, List.mem_range.2 h1, ?_⟩
    rw [e, h2, beq_self_eq_true]
  have hq := List.findIdx_getElem (w := hr)
  rw [e, beq_iff_eq, List.getElem_range] at hq
  rw [List.length_range] at hr
  generalize (List.range l.length).findIdx _ = j at *
  rcases Nat.lt_trichotomy j (lowP l n) with q | q | q
  · have := ha j (lowP l n) q h1; omega
  · exact q
  · have := ha (lowP l n) j q hr; omega
def Try.E100 : Env := Try.env0 false (sumsOf []) (keepF 100 [(3, [0, 1, 6, 7])])
def Try.b100 : Code := nthD .skip (loopsOf (bodyOf Try.E100 100)) 0
def Try.s100 (l : List PgD) (n lo hi : Int) : St := stOf 54 [0, 1, 6, 7] [refV l, .val (.int .i64 n), .val (.int .i64 lo), .val (.int .i64 hi)] ⟨0, []⟩
def midI (lo hi : Int) : Int := IntKind.i64.wrap ((IntKind.i64.wrap (lo + hi)).tdiv 2)
theorem Try.r100 (l : List PgD) (n lo hi : Int) : codeS Try.E100 (callF Try.E100 5) (Try.E100.keep 100) (lsumsOf []) Try.b100 (outK [0, 1, 6, 7] [0, 1, 6]) (Try.s100 l n lo hi) =
    bif decide (lo < hi) then (bif inR (midI lo hi) l.length then (bif decide ((l.getD (midI lo hi).toNat PG.z).1 < n) then some (.normal, Try.s100 l n (IntKind.i64.wrap (midI lo hi + 1)) hi) else some (.normal, Try.s100 l n lo (midI lo hi))) else none)
    else some (.exit 0, stOf 54 [0, 1, 6] [refV l, .val (.int .i64 n), .val (.int .i64 lo)] ⟨0, []⟩) := by kernel_rfl
def Try.x100 (l : List PgD) (n : Int) : AX × St := (.exit 0, stOf 54 [0, 1, 6] [refV l, .val (.int .i64 n), .val (.int .i64 (lowP l n))] ⟨0, []⟩)
def Try.L100 (l : List PgD) (n : Int) : LSum := atL (Try.s100 l n 0 l.length) (.grd (Nat.ble l.length 1000 && propB (ascP l)) (.out (Try.x100 l n)))
theorem Try.e100 : EnvOk2 Try.prog Try.E100 := Try.envOk false (sumsOf []) _ (fun g A h => by cases h)
theorem midI_eq {lo hi : Nat} (h : lo ≤ 1000) (h2 : hi ≤ 1000) : midI lo hi = (((lo + hi) / 2 : Nat) : Int) := by
  unfold midI
  rw [wrap64 ((lo : Int) + hi) (by omega) (by omega), Int.tdiv_eq_ediv_of_nonneg (by omega), wrap64 _ (by omega) (by omega)]
  omega
theorem Try.l100 (l : List PgD) (n : Int) : ∀ s e s', s.h.ok → (Try.L100 l n s).run = some (e, s') → Triple Try.prog (.loop Try.b100) s e s' := by
  refine atL_grd (fun hp => ?_)
  rw [Bool.and_eq_true, Nat.ble_eq] at hp
  obtain ⟨hl, ha⟩ := hp
  have ha := propB_eq ha
  refine loop_at Try.e100 (d := 5) (g := 100) (ls := lsumsOf []) (c := Try.b100) trivial [0, 1, 6, 7] [0, 1, 6] (T := Nat × Nat)
    (fun t => Try.s100 l n t.1 t.2) (fun t => t.1 ≤ t.2 ∧ t.2 ≤ l.length ∧ (∀ i, i < t.1 → key l i < n) ∧ ∀ i, t.2 ≤ i → i < l.length → n ≤ key l i) (fun t => t.2 - t.1) (fun _ => Try.x100 l n) _ _ (0, l.length) ⟨Nat.zero_le _, Nat.le_refl _, fun i hi => by replace hi : i < 0 := hi; omega, fun i h1 h2 => by replace h1 : l.length ≤ i := h1; omega⟩ (Weak.refl heap0_ok) (fun e s' h => Option.some.inj h) (fun t _ => heap0_ok) ?_
  rintro ⟨lo, hi⟩ ⟨h1, h2, h3, h4⟩
  replace h1 : lo ≤ hi := h1
  replace h2 : hi ≤ l.length := h2
  replace h3 : ∀ i, i < lo → key l i < n := h3
  replace h4 : ∀ i, hi ≤ i → i < l.length → n ≤ key l i := h4
  have r := Try.r100 l n lo hi
  by_cases h : lo < hi
  · rw [decide_eq_true (show (lo : Int) < hi by omega), midI_eq (by omega) (by omega), inR_nat, decide_eq_true (show (lo + hi) / 2 < l.length by omega), Int.toNat_natCast, wrapU _ (by omega)] at r
    cases hq : decide ((l.getD ((lo + hi) / 2) PG.z).1 < n) with
    | true =>
      rw [hq] at r
      rw [decide_eq_true_eq] at hq
      replace hq : key l ((lo + hi) / 2) < n := hq
      refine .inl ⟨((lo + hi) / 2 + 1, hi), _, r, Weak.refl heap0_ok, ⟨by show (lo + hi) / 2 + 1 ≤ hi; omega, h2, fun i h5 => ?_, h4⟩, by show hi - ((lo + hi) / 2 + 1) < hi - lo; omega, rfl⟩
      replace h5 : i < (lo + hi) / 2 + 1 := h5
      rcases Nat.lt_or_ge i ((lo + hi) / 2) with q | q
      · have := ha i _ q (by omega); omega
      · have : i = (lo + hi) / 2 := by omega
        subst this; exact hq
    | false =>
      rw [hq] at r
      rw [decide_eq_false_iff_not] at hq
      replace hq : ¬ key l ((lo + hi) / 2) < n := hq
      refine .inl ⟨(lo, (lo + hi) / 2), _, r, Weak.refl heap0_ok, ⟨by show lo ≤ (lo + hi) / 2; omega, by show (lo + hi) / 2 ≤ l.length; omega, h3, fun i h5 h6 => ?_⟩, by show (lo + hi) / 2 - lo < hi - lo; omega, rfl⟩
      replace h5 : (lo + hi) / 2 ≤ i := h5
      rcases Nat.lt_or_ge ((lo + hi) / 2) i with q | q
      · have := ha _ i q h6; omega
      · have : i = (lo + hi) / 2 := by omega
        subst this; omega
  · have e : lo = hi := by omega
    subst e
    rw [decide_eq_false (by omega)] at r
    have hk : lowP l n = lo := isLow_eq ⟨h2, h3, h4⟩
    refine .inr ?_
    show ∃ _, _
    simp only [Try.x100, hk]
    exact ⟨_, r, Weak.refl heap0_ok, by show (AX.exit 0) ≠ .normal; simp⟩
theorem Try.w100 (l : List PgD) (n : Int) : rootS Try.E100 5 100 (lsumsOf [(3, Try.L100 l n)]) [refV l, .val (.int .i64 n)] =
    bif isSt (Try.s100 l n 0 l.length) (Try.s100 l n 0 l.length) then (bif Nat.ble l.length 1000 && propB (ascP l) then
      (bif decide ((lowP l n : Int) < (l.length : Int)) then (bif inR (lowP l n) l.length then (bif (l.getD (Int.toNat (lowP l n)) PG.z).1 == n then some (.tup [.val (.int .i64 (lowP l n)), .val (.bool true)], ⟨0, []⟩) else some (.tup [.val (.int .i64 (lowP l n)), .val (.bool false)], ⟨0, []⟩)) else none) else some (.tup [.val (.int .i64 (lowP l n)), .val (.bool false)], ⟨0, []⟩)) else none) else none := by kernel_rfl
def fndV (l : List PgD) (n : Int) : AV := .tup [.val (.int .i64 (lowP l n)), .val (.bool (fndP l n))]
theorem Try.al100 (l : List PgD) (hl : l.length ≤ 1000) (ha : ascP l) (n : Int) : Alone Try.prog 100 [refV l, .val (.int .i64 n)] (fndV l n) ⟨0, []⟩ := by
  refine rootS_alone Try.e100 (d := 5) (g := 100) (ls := lsumsOf [(3, Try.L100 l n)]) (AllL.of1 (a := Try.b100) (by kernel_rfl) (LsOk.of rfl rfl (Try.l100 l n))) ((Try.w100 l n).trans ?_)
  rw [isSt_refl, ble_t hl, propB_t ha, inR_nat, Int.toNat_natCast]
  unfold fndV fndP
  by_cases h : lowP l n < l.length
  · rw [decide_eq_true h, decide_eq_true (show (lowP l n : Int) < l.length by omega)]
    unfold key
    cases (l.getD (lowP l n) PG.z).1 == n <;> rfl
  · rw [decide_eq_false h, decide_eq_false (show ¬ (lowP l n : Int) < l.length by omega)]
    rfl
def S100 (l : List PgD) (args : List AV) : Ans (AV × Heap) := match args with
  | [v, .val (.int .i64 n)] => .grd (isV v (refV l) && (Nat.ble l.length 1000 && propB (ascP l))) (.out (fndV l n, ⟨0, []⟩))
  | _ => .no
def Try.A100 (l : List PgD) : AFun := roA (S100 l)
theorem Try.sum100 (l : List PgD) : SumC Try.prog 100 (Try.A100 l) := by
  refine roSumR 100 ⟨Try.f100, _, Try.fnOk100.1, Try.fnOk100.2, rfl⟩ ?_
  intro args v h2 hs
  unfold S100 at hs
  split at hs
  · rename_i v0 n
    rw [Ans.run_grd] at hs
    obtain ⟨hb, hz⟩ := grd_some hs
    rw [Bool.and_eq_true, Bool.and_eq_true, Nat.ble_eq] at hb
    have h1 := isV_eq hb.1
    subst h1
    have hz := Option.some.inj hz
    injection hz with q1 q2
    subst q1; subst q2
    exact ⟨fun e he => (by cases he), Try.al100 l hb.2.1 (propB_eq hb.2.2) n⟩
  · cases hs
end Go.Ev
/- Memories of the specification: ranges. -/
namespace Go.Ev
open Go.Proofs
def Try.E99 (l : List PgD) : Env := Try.env0 false (sumsOf [(100, Try.A100 l)]) (keepF 99 [(2, [0, 1, 2, 3, 10])])
def Try.b99 : Code := nthD .skip (loopsOf (bodyOf (Try.E99 []) 99)) 0
def Try.s99 (l : List PgD) (a n need i : Int) : St := stOf 45 [0, 1, 2, 3, 10] [refV l, .val (.int .u32 a), .val (.int .i64 n), .val (.int .i64 need), .val (.int .i64 i)] ⟨0, []⟩
def adI (a i : Int) : Int := IntKind.u32.wrap (a + IntKind.u32.wrap i)
def gR {α : Type} (l : List PgD) (x : Option α) : Option α := bif isV (refV l) (refV l) && (Nat.ble l.length 1000 && propB (ascP l)) then x else none
def pgL (l : List PgD) (q : Int) : PgD := l.getD (lowP l q) PG.z
def lackL (l : List PgD) (q need : Int) : Bool := IntKind.i64.wrap ((BitVec.ofInt 64 (pgL l q).2.1 &&& BitVec.ofInt 64 need).toNat : Int) != need
def nxI (a i : Int) : Int := IntKind.i64.wrap (IntKind.i64.wrap (i + 256) - pcF (adI a i))
def Try.y99 (x : Int) : AX × St := (.ret, stOf 45 [8, 9] [.val (.int .u32 x), .val (.bool true)] ⟨0, []⟩)
def Try.n99 : AX × St := (.exit 0, stOf 45 [] [] ⟨0, []⟩)
def Try.z99 (t : Int × Int × Bool) : AX × St := bif t.2.2 then Try.y99 t.1 else Try.n99
theorem Try.r99 (l : List PgD) (a n need i : Int) : codeS (Try.E99 l) (callF (Try.E99 l) 5) ((Try.E99 l).keep 99) (lsumsOf []) Try.b99 (outK [0, 1, 2, 3, 10] [8, 9]) (Try.s99 l a n need i) =
    bif decide (i < n) then gR l (bif fndP l (pcQ (adI a i)) then (bif inR (lowP l (pcQ (adI a i))) l.length then (bif lackL l (pcQ (adI a i)) need then some (Try.y99 (adI a i)) else some (.normal, Try.s99 l a n need (nxI a i))) else none) else some (Try.y99 (adI a i)))
    else some Try.n99 := by kernel_rfl
theorem gR_t {α : Type} {l : List PgD} (hl : l.length ≤ 1000) (ha : ascP l) (x : Option α) : gR l x = x := by unfold gR; rw [isV_refl, ble_t hl, propB_t ha]; rfl
theorem adI_eq {a i : Int} (h : 0 ≤ i) : adI a i = adr a i.toNat := by unfold adI adr; rw [IntKind.wrap_u32, IntKind.wrap_u32]; omega
theorem fndP_lt {l : List PgD} {q : Int} (h : fndP l q = true) : lowP l q < l.length := by unfold fndP at h; rw [Bool.and_eq_true, decide_eq_true_eq] at h; exact h.1
theorem pgBad_ref {l : List PgD} (ha : ascP l) (need x : Int) : pgBad l need x = bif fndP l (pcQ x) then lackL l (pcQ x) need else true := by
  unfold pgBad
  rw [fndP_has ha]
  cases h : pgHas l (pcQ x) with
  | false => rw [cond_false, cond_false]
  | true =>
    have e : pgLack l (pcQ x) need = lackL l (pcQ x) need := by unfold pgLack lackL pgL; rw [pgX_low ha _ h]
    rw [cond_true, cond_true, e]
theorem Try.r99t {l : List PgD} (hl : l.length ≤ 1000) (ha : ascP l) (a n need i : Int) : codeS (Try.E99 l) (callF (Try.E99 l) 5) ((Try.E99 l).keep 99) (lsumsOf []) Try.b99 (outK [0, 1, 2, 3, 10] [8, 9]) (Try.s99 l a n need i) =
    bif decide (i < n) then (bif pgBad l need (adI a i) then some (Try.y99 (adI a i)) else some (.normal, Try.s99 l a n need (nxI a i))) else some Try.n99 := by
  rw [Try.r99, gR_t hl ha, pgBad_ref ha]
  cases h : fndP l (pcQ (adI a i)) with
  | false => rfl
  | true => rw [inR_nat, decide_eq_true (fndP_lt h)]; rfl
def okA (l : List PgD) (a n : Int) : Prop := l.length ≤ 1000 ∧ okPs l ∧ 0 ≤ a ∧ a < 4294967296 ∧ n ≤ 65536
def Try.L99 (l : List PgD) (a n need : Int) : LSum := atL (Try.s99 l a n need 0) (.grd (propB (okA l a n)) (.br (pcE l need a n).2.2 (.out (Try.y99 (pcE l need a n).1)) (.out Try.n99)))
theorem Try.e99 (l : List PgD) : EnvOk2 Try.prog (Try.E99 l) := Try.envOk false (sumsOf [(100, Try.A100 l)]) _ (sumsOf_ok (show AllS Try.prog [(100, Try.A100 l)] from ⟨Try.sum100 l, trivial⟩))
theorem nxI_eq {a i : Int} (h : 0 ≤ i) (h2 : i ≤ 70000) : nxI a i = i + (256 - pcF (adI a i)) := by
  have h3 := pcF_lt (adI a i)
  have h4 := pcF_gt (adI a i)
  unfold nxI
  rw [wrap64 (i + 256) (by omega) (by omega), wrap64 _ (by omega) (by omega)]; omega
theorem Try.l99 (l : List PgD) (a n need : Int) : ∀ s e s', s.h.ok → (Try.L99 l a n need s).run = some (e, s') → Triple Try.prog (.loop Try.b99) s e s' := by
  refine atL_grd (fun hp => ?_)
  obtain ⟨hl, hp, h0, h1, hn⟩ := propB_eq hp
  have ha := okPs_asc hp
  refine loop_at (Try.e99 l) (d := 5) (g := 99) (ls := lsumsOf []) (c := Try.b99) trivial [0, 1, 2, 3, 10] [8, 9] (T := Nat × Int)
    (fun t => Try.s99 l a n need t.2) (fun t => 0 ≤ t.2 ∧ t.2 ≤ 66000 ∧ n - t.2 ≤ t.1 ∧ t.1 ≤ 65536) (fun t => t.1) (fun t => Try.z99 (pcW l need t.1 (adI a t.2) (n - t.2))) _ _ (n.toNat, 0) ⟨Int.le_refl _, by show (0 : Int) ≤ 66000; decide, by show n - 0 ≤ (n.toNat : Int); omega, by show n.toNat ≤ 65536; omega⟩ (Weak.refl heap0_ok) (fun e s' h => by
      rw [Ans.run_br] at h
      show Try.z99 (pcW l need n.toNat (adI a 0) (n - 0)) = _
      rw [adI_eq (Int.le_refl _), show (0 : Int).toNat = 0 from rfl, adr_0 h0 h1, Int.sub_zero]
      unfold Try.z99
      show (bif (pcE l need a n).2.2 then _ else _) = _
      cases hq : (pcE l need a n).2.2 <;> rw [hq] at h <;> exact Option.some.inj h) (fun t _ => heap0_ok) ?_
  rintro ⟨k, i⟩ ⟨i0, i1, hk, hk2⟩
  replace i0 : 0 ≤ i := i0
  replace i1 : i ≤ 66000 := i1
  replace hk : n - i ≤ k := hk
  replace hk2 : k ≤ 65536 := hk2
  have r := Try.r99t hl ha a n need i
  have q := adI_eq (a := a) i0
  have q2 := adr_rg a i.toNat
  rw [← q] at q2
  by_cases h : i < n
  · rw [decide_eq_true h] at r
    obtain ⟨k, rfl⟩ : ∃ j, k = j + 1 := ⟨k - 1, by omega⟩
    have e : pcW l need (k + 1) (adI a i) (n - i) = bif pgBad l need (adI a i) then (adI a i, n - i, true) else pcW l need k (pcA (adI a i) (n - i)) (pcN (adI a i) (n - i)) := by
      show (bif decide (n - i > 0) then _ else _) = _
      rw [decide_eq_true (show n - i > 0 by omega)]; rfl
    cases hb : pgBad l need (adI a i) with
    | true =>
      rw [hb] at r e
      refine .inr ?_
      show ∃ _, _
      simp only [e]
      exact ⟨_, r, Weak.refl heap0_ok, by show AX.ret ≠ .normal; simp⟩
    | false =>
      rw [hb] at r e
      have f1 := pcF_eq q2.1
      have f2 := nxI_eq (a := a) i0 (by omega)
      have f3 := pcK_def (a := adI a i) (n := n - i) q2.1 (by omega)
      have f4 := pcA_eq (a := adI a i) (n := n - i) q2.1 (by omega) (by omega)
      have f5 := pcN_eq (a := adI a i) (n := n - i) (by omega) (by omega)
      refine .inl ⟨(k, nxI a i), _, r, Weak.refl heap0_ok, ⟨by show 0 ≤ nxI a i; omega, by show nxI a i ≤ 66000; omega, by show n - nxI a i ≤ k; omega, by show k ≤ 65536; omega⟩, by show k < k + 1; omega, ?_⟩
      show Try.z99 (pcW l need k (adI a (nxI a i)) (n - nxI a i)) = Try.z99 (pcW l need (k + 1) (adI a i) (n - i))
      rw [e]
      show _ = Try.z99 (pcW l need k (pcA (adI a i) (n - i)) (pcN (adI a i) (n - i)))
      by_cases hc : 256 - adI a i % 256 < n - i
      · rw [if_pos hc] at f3
        have e1 : adI a (nxI a i) = pcA (adI a i) (n - i) := by
          rw [adI_eq (by omega), f4, f3, q, adr_adr]
          congr 1
          rw [q] at f2 f1
          rw [f2, f1, ← q]
          omega
        rw [e1, show n - nxI a i = pcN (adI a i) (n - i) by omega]
      · rw [if_neg hc] at f3
        rw [pcW_end (show ¬ n - nxI a i > 0 by omega), pcW_end (show ¬ pcN (adI a i) (n - i) > 0 by omega)]
        rfl
  · rw [decide_eq_false h] at r
    refine .inr ?_
    show ∃ _, _
    simp only [pcW_end (show ¬ n - i > 0 by omega)]
    exact ⟨_, r, Weak.refl heap0_ok, by show (AX.exit 0) ≠ .normal; simp⟩
theorem Try.w99 (l : List PgD) (a n need : Int) : rootS (Try.E99 l) 5 99 (lsumsOf [(2, Try.L99 l a n need)]) [refV l, .val (.int .u32 a), .val (.int .i64 n), .val (.int .i64 need)] =
 bif isSt (Try.s99 l a n need 0) (Try.s99 l a n need 0) then gdB (propB (okA l a n)) (pcE l need a n).2.2 (some (u32b (pcE l need a n).1 true, ⟨0, []⟩)) (some (u32b 0 false, ⟨0, []⟩)) else none := by kernel_rfl
def S99 (l : List PgD) (args : List AV) : Ans (AV × Heap) := match args with
  | [v, .val (.int .u32 a), .val (.int .i64 n), .val (.int .i64 need)] => .grd (isV v (refV l) && propB (okA l a n)) (.br (pcE l need a n).2.2 (.out (u32b (pcE l need a n).1 true, ⟨0, []⟩)) (.out (u32b 0 false, ⟨0, []⟩)))
  | _ => .no
def Try.A99 (l : List PgD) : AFun := roA (S99 l)
theorem Try.sum99 (l : List PgD) : SumC Try.prog 99 (Try.A99 l) := by
  refine roSumR 99 ⟨Try.f99, _, Try.fnOk99.1, Try.fnOk99.2, rfl⟩ ?_
  intro args v h2 hs
  unfold S99 at hs
  split at hs
  · rename_i v0 a n need
    rw [gdB_run] at hs
    cases hb : (isV v0 (refV l) && propB (okA l a n)) with
    | false => rw [hb] at hs; cases hs
    | true =>
      rw [hb] at hs
      rw [Bool.and_eq_true] at hb
      have h1 := isV_eq hb.1
      subst h1
      have run := fun v h2 => rootS_alone (Try.e99 l) (d := 5) (g := 99) (ls := lsumsOf [(2, Try.L99 l a n need)]) (args := [refV l, .val (.int .u32 a), .val (.int .i64 n), .val (.int .i64 need)]) (v := v) (h2 := h2) (AllL.of1 (a := Try.b99) (by kernel_rfl) (LsOk.of rfl rfl (Try.l99 l a n need)))
      have key := Try.w99 l a n need
      rw [isSt_refl, hb.2] at key
      cases h : (pcE l need a n).2.2 <;> (rw [h] at hs key; have hs := Option.some.inj hs; injection hs with q1 q2; subst q1; subst q2; exact ⟨fun e he => (by cases he), run _ _ key⟩)
  · cases hs
end Go.Ev
/- Memories of the specification: bytes of ranges. -/
namespace Go.Ev
open Go.Proofs
def Try.E88 (l : List PgD) : Env := Try.env0 false (sumsOf [(100, Try.A100 l), (99, Try.A99 l)]) (keepF 88 [(8, [0, 1, 2, 13, 14])])
def Try.b88 : Code := nthD .skip (loopsOf (bodyOf (Try.E88 []) 88)) 0
def Try.s88n (l : List PgD) (a n i : Int) : St := stOf 84 [0, 1, 2, 13, 14] [refV l, .val (.int .u32 a), .val (.int .i64 n), nilL, .val (.int .i64 i)] ⟨0, []⟩
def Try.s88o (l : List PgD) (a n i : Int) (N : Nat) (O : List Int) : St := stOf 84 [0, 1, 2, 13, 14] [refV l, .val (.int .u32 a), .val (.int .i64 n), .own 0 0 N none 1, .val (.int .i64 i)] ⟨1, [⟨0, 0, .cells (.ints .u8 O)⟩]⟩
def Try.B88 (l : List PgD) (s : St) : Option (AX × St) := codeS (Try.E88 l) (callF (Try.E88 l) 5) ((Try.E88 l).keep 88) (lsumsOf []) Try.b88 (outK [0, 1, 2, 13, 14] [13]) s
def kI2 (a n i : Int) : Int := if IntKind.i64.wrap (n - i) < IntKind.i64.wrap (256 - pcF (adI a i)) then IntKind.i64.wrap (n - i) else IntKind.i64.wrap (256 - pcF (adI a i))
def tI2 (a n i : Int) : Int := IntKind.i64.wrap (pcF (adI a i) + kI2 a n i)
def cB (l : List PgD) (a n i : Int) : List Int := List.take ((tI2 a n i).toNat - (pcF (adI a i)).toNat) (List.drop (pcF (adI a i)).toNat (pgL l (pcQ (adI a i))).2.2)
def z88 {α : Type} (l : List PgD) (a n i : Int) (x : Option α) : Option α :=
  bif inR (lowP l (pcQ (adI a i))) l.length then
   (bif decide (0 ≤ tI2 a n i) && decide (tI2 a n i ≤ ((pgL l (pcQ (adI a i))).2.2.length : Int)) then (bif decide (0 ≤ pcF (adI a i)) && decide (pcF (adI a i) ≤ ((tI2 a n i).toNat : Int)) then x else none) else none)
  else none
theorem Try.r88n (l : List PgD) (a n i : Int) : Try.B88 l (Try.s88n l a n i) =
    bif decide (i < n) then gR l (bif fndP l (pcQ (adI a i)) then
      z88 l a n i (bif ((cB l a n i).length * 1).ble Ev.most && (cB l a n i).length.ble Ev.most then some (.normal, Try.s88o l a n (IntKind.i64.wrap (i + kI2 a n i)) (cB l a n i).length (cB l a n i)) else none)
     else z88 l a n i (bif ((cB l a n i).length * 1).ble Ev.most && (cB l a n i).length.ble Ev.most then some (.normal, Try.s88o l a n (IntKind.i64.wrap (i + kI2 a n i)) (cB l a n i).length (cB l a n i)) else none))
    else some (.exit 0, stOf 84 [13] [.val (.slice none 0 0)] ⟨0, []⟩) := by kernel_rfl
theorem Try.r88o (l : List PgD) (a n i : Int) (O : List Int) : Try.B88 l (Try.s88o l a n i O.length O) =
    bif decide (i < n) then gR l (bif fndP l (pcQ (adI a i)) then
      z88 l a n i (bif (0 + O.length).ble O.length then (bif ((O.length + (cB l a n i).length) * 1).ble Ev.most && (O.length + (cB l a n i).length).ble Ev.most then some (.normal, Try.s88o l a n (IntKind.i64.wrap (i + kI2 a n i)) (O.length + (cB l a n i).length) (List.take O.length (List.drop 0 O) ++ cB l a n i)) else none) else none)
     else z88 l a n i (bif (0 + O.length).ble O.length then (bif ((O.length + (cB l a n i).length) * 1).ble Ev.most && (O.length + (cB l a n i).length).ble Ev.most then some (.normal, Try.s88o l a n (IntKind.i64.wrap (i + kI2 a n i)) (O.length + (cB l a n i).length) (List.take O.length (List.drop 0 O) ++ cB l a n i)) else none) else none))
    else some (.exit 0, stOf 84 [13] [.own 0 0 O.length none 1] ⟨1, [⟨0, 0, .cells (.ints .u8 O)⟩]⟩) := by kernel_rfl
def Try.P88 (l : List PgD) (a n i : Int) : List Int → St
  | [] => Try.s88n l a n i
  | x :: O => Try.s88o l a n i (x :: O).length (x :: O)
def Try.x88 : List Int → AX × St
  | [] => (.exit 0, stOf 84 [13] [.val (.slice none 0 0)] ⟨0, []⟩)
  | x :: O => (.exit 0, stOf 84 [13] [.own 0 0 (x :: O).length none 1] ⟨1, [⟨0, 0, .cells (.ints .u8 (x :: O))⟩]⟩)
def pre88 (l : List PgD) (a n : Int) (need : Int) : Prop := okA l a n ∧ (pcE l need a n).2.2 = false
def Try.L88 (l : List PgD) (a n need : Int) : LSum := atL (Try.s88n l a n 0) (.grd (propB (pre88 l a n need)) (.br (isE (rdE l a n)) (.out (.exit 0, stOf 84 [13] [.val (.slice none 0 0)] ⟨0, []⟩)) (.out (.exit 0, stOf 84 [13] [.own 0 0 (rdE l a n).length none 1] ⟨1, [⟨0, 0, .cells (.ints .u8 (rdE l a n))⟩]⟩))))
theorem Try.P88_ok (l : List PgD) (a n i : Int) (O : List Int) : (Try.P88 l a n i O).h.ok := by
  cases O
  · exact heap0_ok
  · exact oneB_ok _
theorem Try.P88_app (l : List PgD) (a n i : Int) (O C : List Int) (h : C ≠ []) : Try.P88 l a n i (O ++ C) = Try.s88o l a n i (O.length + C.length) (O ++ C) := by
  have e : ∀ L : List Int, L ≠ [] → Try.P88 l a n i L = Try.s88o l a n i L.length L := fun L h => by
    cases L with
    | nil => exact absurd rfl h
    | cons => rfl
  rw [e _ (by simp [h]), List.length_append]
theorem kI2_eq {a n i : Int} (h0 : 0 ≤ i) (h1 : i < n) (h2 : n ≤ 65536) : kI2 a n i = pcK (adI a i) (n - i) := by
  have h3 := pcF_lt (adI a i)
  have h4 := pcF_gt (adI a i)
  unfold kI2 pcK
  rw [wrap64 (n - i) (by omega) (by omega), wrap64 (256 - pcF (adI a i)) (by omega) (by omega)]
  split <;> split <;> omega
theorem Try.r88t {l : List PgD} (hl : l.length ≤ 1000) (hp : okPs l) (a n i need : Int) (O : List Int) (h0 : 0 ≤ i) (h1 : i < n) (h2 : n ≤ 65536) (hb : pgBad l need (adI a i) = false) (hO : (O.length : Int) ≤ 70000) :
    Try.B88 l (Try.P88 l a n i O) = some (.normal, Try.P88 l a n (i + pcK (adI a i) (n - i)) (O ++ gB l (adI a i) (n - i))) ∧ gB l (adI a i) (n - i) ≠ [] := by
  have ha := okPs_asc hp
  have hm := most_eq
  have q := adI_eq (a := a) h0
  have q2 := adr_rg a i.toNat
  rw [← q] at q2
  have f1 := pcF_nn q2.1
  have f2 := pcF_lt (adI a i)
  have f3 := pcK_pos (a := adI a i) (n := n - i) (by omega)
  have f4 := pcK_room (a := adI a i) (n := n - i)
  have f5 := pcK_le (a := adI a i) (n := n - i)
  have f6 := pcC_eq (a := adI a i) (n := n - i) q2.1 (by omega)
  have ek := kI2_eq (a := a) h0 h1 h2
  have hf : fndP l (pcQ (adI a i)) = true := by
    rw [fndP_has ha]; exact pgBad_has hb
  have hlow := fndP_lt hf
  have hpl : (pgL l (pcQ (adI a i))).2.2.length = 256 := (hp _ hlow).2.2.2.2.2
  have et : tI2 a n i = pcF (adI a i) + pcK (adI a i) (n - i) := by unfold tI2; rw [ek, wrap64 _ (by omega) (by omega)]
  have hC : cB l a n i = gB l (adI a i) (n - i) := by
    unfold cB gB
    rw [et, pgX_low ha _ (pgBad_has hb)]
    show _ = List.map (fun j => (pgL l (pcQ (adI a i))).2.2.getD ((pcF (adI a i)).toNat + j) 0) _
    apply List.ext_getElem?
    intro j
    rw [List.getElem?_take, List.getElem?_map, List.getElem?_drop]
    by_cases hj : j < pcC (adI a i) (n - i)
    · rw [if_pos (by omega), List.getElem?_range hj, Option.map_some, List.getD_eq_getElem?_getD, List.getElem?_eq_getElem (show (pcF (adI a i)).toNat + j < (pgL l (pcQ (adI a i))).2.2.length by omega)]; rfl
    · rw [if_neg (by omega), List.getElem?_eq_none (by rw [List.length_range]; omega)]; rfl
  have hne : gB l (adI a i) (n - i) ≠ [] := by
    intro h
    have := gB_len l (adI a i) (n - i)
    rw [h] at this
    replace this : 0 = pcC (adI a i) (n - i) := this
    omega
  have z : ∀ {α : Type} (x : Option α), z88 l a n i x = x := fun x => by
    unfold z88
    rw [inR_nat, decide_eq_true hlow, et, hpl, decide_eq_true (by omega), decide_eq_true (by omega), decide_eq_true (by omega), decide_eq_true (by omega)]; rfl
  refine ⟨?_, hne⟩
  rw [Try.P88_app _ _ _ _ _ _ hne]
  have hgl := gB_len l (adI a i) (n - i)
  have ew : IntKind.i64.wrap (i + pcK (adI a i) (n - i)) = i + pcK (adI a i) (n - i) := wrap64 _ (by omega) (by omega)
  cases O with
  | nil =>
    refine (Try.r88n l a n i).trans ?_
    rw [decide_eq_true h1, gR_t hl ha, hf, hC, z, ek, ew, ble_t (show (gB l (adI a i) (n - i)).length * 1 ≤ Ev.most by omega), ble_t (show (gB l (adI a i) (n - i)).length ≤ Ev.most by omega), List.nil_append, List.length_nil, Nat.zero_add]
    rfl
  | cons x O =>
    refine (Try.r88o l a n i (x :: O)).trans ?_
    rw [decide_eq_true h1, gR_t hl ha, hf, hC, z, ek, ew, Nat.zero_add, ble_t (Nat.le_refl _), ble_t (show ((x :: O).length + (gB l (adI a i) (n - i)).length) * 1 ≤ Ev.most by omega), ble_t (show (x :: O).length + (gB l (adI a i) (n - i)).length ≤ Ev.most by omega), List.drop_zero, List.take_length]
    rfl
theorem Try.e88 (l : List PgD) : EnvOk2 Try.prog (Try.E88 l) := Try.envOk false (sumsOf [(100, Try.A100 l), (99, Try.A99 l)]) _ (sumsOf_ok (show AllS Try.prog [(100, Try.A100 l), (99, Try.A99 l)] from ⟨Try.sum100 l, Try.sum99 l, trivial⟩))
structure T88 where
  k : Nat
  i : Int
  O : List Int
theorem Try.l88 (l : List PgD) (a n need : Int) : ∀ s e s', s.h.ok → (Try.L88 l a n need s).run = some (e, s') → Triple Try.prog (.loop Try.b88) s e s' := by
  refine atL_grd (fun hp => ?_)
  obtain ⟨⟨hl, hp, h0, h1, hn⟩, hbad⟩ := propB_eq hp
  have ha := okPs_asc hp
  have ea : adI a 0 = a := by rw [adI_eq (Int.le_refl _), show (0 : Int).toNat = 0 from rfl, adr_0 h0 h1]
  refine loop_at (Try.e88 l) (d := 5) (g := 88) (ls := lsumsOf []) (c := Try.b88) trivial [0, 1, 2, 13, 14] [13] (T := T88)
    (fun t => Try.P88 l a n t.i t.O) (fun t => 0 ≤ t.i ∧ n - t.i ≤ t.k ∧ t.k ≤ 65536 ∧ t.O.length = t.i ∧ t.i ≤ 65536 ∧ (pcW l need t.k (adI a t.i) (n - t.i)).2.2 = false) (fun t => t.k) (fun t => Try.x88 (t.O ++ rdW l t.k (adI a t.i) (n - t.i))) _ _ ⟨n.toNat, 0, []⟩ ⟨Int.le_refl _, by show n - 0 ≤ (n.toNat : Int); omega, by show n.toNat ≤ 65536; omega, rfl, by show (0 : Int) ≤ 65536; decide, by show (pcW l need n.toNat (adI a 0) (n - 0)).2.2 = false; rw [ea, Int.sub_zero]; exact hbad⟩ (Weak.refl heap0_ok) (fun e s' h => by
      rw [Ans.run_br] at h
      show Try.x88 ([] ++ rdW l n.toNat (adI a 0) (n - 0)) = _
      rw [ea, Int.sub_zero, List.nil_append]
      show Try.x88 (rdE l a n) = _
      revert h
      generalize rdE l a n = R
      intro h
      cases R <;> exact Option.some.inj h) (fun t _ => Try.P88_ok _ _ _ _ _) ?_
  rintro ⟨k, i, O⟩ ⟨i0, hk, hk2, hO, hi2, hw⟩
  replace i0 : 0 ≤ i := i0
  replace hk : n - i ≤ k := hk
  replace hk2 : k ≤ 65536 := hk2
  replace hO : (O.length : Int) = i := hO
  replace hi2 : i ≤ 65536 := hi2
  replace hw : (pcW l need k (adI a i) (n - i)).2.2 = false := hw
  have q := adI_eq (a := a) i0
  have q2 := adr_rg a i.toNat
  rw [← q] at q2
  by_cases h : i < n
  · obtain ⟨k, rfl⟩ : ∃ j, k = j + 1 := ⟨k - 1, by omega⟩
    obtain ⟨hb, e⟩ := pcW_step (by omega) hw
    obtain ⟨r, hne⟩ := Try.r88t hl hp a n i need O i0 h hn hb (by omega)
    have f3 := pcK_pos (a := adI a i) (n := n - i) (by omega)
    have f5 := pcK_le (a := adI a i) (n := n - i)
    have f6 := pcC_eq (a := adI a i) (n := n - i) q2.1 (by omega)
    have f7 := pcA_eq (a := adI a i) (n := n - i) q2.1 (by omega) (by omega)
    have f8 := pcN_eq (a := adI a i) (n := n - i) (by omega) (by omega)
    have e1 : adI a (i + pcK (adI a i) (n - i)) = pcA (adI a i) (n - i) := by
      rw [f7, adI_eq (by omega)]
      rw [show (i + pcK (adI a i) (n - i)).toNat = i.toNat + (pcK (adI a i) (n - i)).toNat by omega, ← adr_adr, ← q]
    have e2 : n - (i + pcK (adI a i) (n - i)) = pcN (adI a i) (n - i) := by omega
    refine .inl ⟨⟨k, i + pcK (adI a i) (n - i), O ++ gB l (adI a i) (n - i)⟩, _, r, Weak.refl (Try.P88_ok _ _ _ _ _), ⟨by show 0 ≤ i + pcK (adI a i) (n - i); omega, by show n - (i + pcK (adI a i) (n - i)) ≤ k; omega, by show k ≤ 65536; omega, ?_, by show i + pcK (adI a i) (n - i) ≤ 65536; omega, ?_⟩, by show k < k + 1; omega, ?_⟩
    · show ((O ++ gB l (adI a i) (n - i)).length : Int) = i + pcK (adI a i) (n - i)
      rw [List.length_append, gB_len]; omega
    · show (pcW l need k (adI a (i + pcK (adI a i) (n - i))) (n - (i + pcK (adI a i) (n - i)))).2.2 = false
      rw [e1, e2, ← e]; exact hw
    · show Try.x88 (O ++ gB l (adI a i) (n - i) ++ rdW l k (adI a (i + pcK (adI a i) (n - i))) (n - (i + pcK (adI a i) (n - i)))) = Try.x88 (O ++ rdW l (k + 1) (adI a i) (n - i))
      rw [e1, e2, rdW_step (by omega), List.append_assoc]
  · refine .inr ?_
    show ∃ s1, Try.B88 l (Try.P88 l a n i O) = some ((Try.x88 (O ++ rdW l k (adI a i) (n - i))).1, s1) ∧ Weak s1 (Try.x88 (O ++ rdW l k (adI a i) (n - i))).2 ∧ (Try.x88 (O ++ rdW l k (adI a i) (n - i))).1 ≠ .normal
    rw [rdW_end (by omega), List.append_nil]
    cases O with
    | nil =>
      refine ⟨_, (Try.r88n l a n i).trans ?_, Weak.refl heap0_ok, by show (AX.exit 0) ≠ .normal; simp⟩
      rw [decide_eq_false h]; rfl
    | cons x O =>
      refine ⟨_, (Try.r88o l a n i (x :: O)).trans ?_, Weak.refl (oneB_ok _), by show (AX.exit 0) ≠ .normal; simp⟩
      rw [decide_eq_false h]; rfl
def o88 (l : List PgD) (a n : Int) : Option (AV × Heap) := bif isE (rdE l a n) then some (.tup [nilL, .val (.int .u32 0), .val (.bool true)], ⟨0, []⟩) else some (.tup [.own 0 0 (rdE l a n).length none 1, .val (.int .u32 0), .val (.bool true)], ⟨1, [⟨0, 0, .cells (.ints .u8 (rdE l a n))⟩]⟩)
def refYes (O : List Int) : AV := .tup [.ro (.ints .u8 O) none, .val (.int .u32 0), .val (.bool true)]
theorem Try.w88 (l : List PgD) (a n need : Int) : rootS (Try.E88 l) 5 88 (lsumsOf [(8, Try.L88 l a n need)]) [refV l, .val (.int .u32 a), .val (.int .i64 n), .val (.int .i64 need)] =
    bif decide (n < 0) then some (rdNo a, ⟨0, []⟩) else bif decide (n > 65536) then some (rdNo a, ⟨0, []⟩)
    else bif isV (refV l) (refV l) && propB (okA l a n) then (bif (pcE l need a n).2.2 then some (rdNo (pcE l need a n).1, ⟨0, []⟩) else
     (bif isSt (Try.s88n l a n 0) (Try.s88n l a n 0) then (bif propB (pre88 l a n need) then o88 l a n else none) else none)) else none := by kernel_rfl
def refR (l : List PgD) (need a n : Int) : AV := bif decide (n < 0) then rdNo a else bif decide (n > 65536) then rdNo a
  else bif (pcE l need a n).2.2 then rdNo (pcE l need a n).1 else refYes (rdE l a n)
theorem Try.al88 (l : List PgD) (hl : l.length ≤ 1000) (hp : okPs l) (need a n : Int) (h0 : 0 ≤ a) (h1 : a < 4294967296) : Alone Try.prog 88 [refV l, .val (.int .u32 a), .val (.int .i64 n), .val (.int .i64 need)] (refR l need a n) ⟨0, []⟩ := by
  have run := fun v h2 => rootS_alone (Try.e88 l) (d := 5) (g := 88) (ls := lsumsOf [(8, Try.L88 l a n need)]) (args := [refV l, .val (.int .u32 a), .val (.int .i64 n), .val (.int .i64 need)]) (v := v) (h2 := h2) (AllL.of1 (a := Try.b88) (by kernel_rfl) (LsOk.of rfl rfl (Try.l88 l a n need)))
  have key := Try.w88 l a n need
  rw [isSt_refl, isV_refl] at key
  unfold refR
  by_cases g1 : n < 0
  · rw [decide_eq_true g1] at key ⊢
    exact run _ _ key
  by_cases g2 : n > 65536
  · rw [decide_eq_false g1, decide_eq_true g2] at key
    rw [decide_eq_false g1, decide_eq_true g2]
    exact run _ _ key
  have hok : okA l a n := ⟨hl, hp, h0, h1, by omega⟩
  rw [decide_eq_false g1, decide_eq_false g2, propB_t hok] at key
  rw [decide_eq_false g1, decide_eq_false g2]
  cases g3 : (pcE l need a n).2.2 with
  | true => rw [g3] at key; exact run _ _ key
  | false =>
    rw [g3, propB_t (show pre88 l a n need from ⟨hok, g3⟩)] at key
    replace key := key.trans (show _ = o88 l a n from rfl)
    show Alone _ _ _ (refYes (rdE l a n)) _
    unfold o88 at key
    generalize rdE l a n = R at *
    cases R with
    | nil => exact Alone.resW (AW.tup (.cons (AW.nil rfl) (AWs.refl _))) (run _ _ key)
    | cons x R => exact Alone.fz1 (con := .ints .u8 (x :: R)) rfl rfl (.tup (.cons (.inr (.inr ⟨none, rfl, rfl⟩)) (FzL.refl _ _ _))) (run _ _ key)
def okM (l : List PgD) : Prop := l.length ≤ 1000 ∧ okPs l
def inU (a : Int) : Bool := decide (0 ≤ a) && decide (a < 4294967296)
def S88 (l : List PgD) (args : List AV) : Ans (AV × Heap) := match args with
  | [v, .val (.int .u32 a), .val (.int .i64 n), .val (.int .i64 need)] => .grd (isV v (refV l) && (propB (okM l) && inU a)) (.br (decide (n < 0)) (.out (rdNo a, ⟨0, []⟩)) (.br (decide (n > 65536)) (.out (rdNo a, ⟨0, []⟩)) (.br (pcE l need a n).2.2 (.out (rdNo (pcE l need a n).1, ⟨0, []⟩)) (.out (refYes (rdE l a n), ⟨0, []⟩)))))
  | _ => .no
def Try.A88 (l : List PgD) : AFun := roA (S88 l)
theorem Try.sum88 (l : List PgD) : SumC Try.prog 88 (Try.A88 l) := by
  refine roSumR 88 ⟨Try.f88, _, Try.fnOk88.1, Try.fnOk88.2, rfl⟩ ?_
  intro args v h2 hs
  unfold S88 at hs
  split at hs
  · rename_i v0 a n need
    rw [Ans.run_grd] at hs
    obtain ⟨hb, hz⟩ := grd_some hs
    rw [Ans.run_br, Ans.run_br, Ans.run_br] at hz
    unfold inU at hb
    simp only [Bool.and_eq_true, decide_eq_true_eq] at hb
    obtain ⟨b1, b2, b3, b4⟩ := hb
    have h1 := isV_eq b1
    obtain ⟨b5, b6⟩ := propB_eq b2
    subst h1
    have key := Try.al88 l b5 b6 need a n b3 b4
    unfold refR at key
    cases g1 : decide (n < 0) <;> cases g2 : decide (n > 65536) <;> cases g3 : (pcE l need a n).2.2 <;> (rw [g1, g2, g3] at hz; rw [g1, g2, g3] at key; have hz := Option.some.inj hz; injection hz with q1 q2; subst q1; subst q2; exact ⟨fun e he => by (cases he), key⟩)
  · cases hs
end Go.Ev
/- Instructions of the specification: what fields operations have. -/
namespace Go.Ev
open Go.Proofs
def Try.E113 : Env := Try.env0 false (sumsOf []) (keepF 113 [])
def Try.r113 (op : Int) : Option (AV × Heap) := rootS Try.E113 5 113 (lsumsOf []) [.val (.int .i64 op)]
def i64V (x : Int) : AV := .val (.int .i64 x)
def sizeV (r : Room) : AV := .agg [i64V (r.a + 1), i64V 0, i64V (r.b + 1), i64V 0, i64V (r.c + 1), i64V 0, i64V (r.d + 1), i64V 0, i64V (bif r.k then 256 else 1), i64V (bif r.k then -128 else 0), i64V (bif r.i then 4294967296 else 1), i64V 0]
def size113 (op : Nat) : Prop := Try.r113 op = some (sizeV (roomOf op).1, ⟨0, []⟩)
def isOpB (op : Int) : Bool := (decide (op ≥ 1) && decide (op ≤ 61)) || (decide (op ≥ 64) && decide (op ≤ 72))
theorem size_0 : size113 0 := by unfold size113; kernel_rfl
theorem size_1 : size113 1 := by unfold size113; kernel_rfl
theorem size_2 : size113 2 := by unfold size113; kernel_rfl
theorem size_3 : size113 3 := by unfold size113; kernel_rfl
theorem size_4 : size113 4 := by unfold size113; kernel_rfl
theorem size_5 : size113 5 := by unfold size113; kernel_rfl
theorem size_6 : size113 6 := by unfold size113; kernel_rfl
theorem size_7 : size113 7 := by unfold size113; kernel_rfl
theorem size_8 : size113 8 := by unfold size113; kernel_rfl
theorem size_9 : size113 9 := by unfold size113; kernel_rfl
theorem size_10 : size113 10 := by unfold size113; kernel_rfl
theorem size_11 : size113 11 := by unfold size113; kernel_rfl
theorem size_12 : size113 12 := by unfold size113; kernel_rfl
theorem size_13 : size113 13 := by unfold size113; kernel_rfl
theorem size_14 : size113 14 := by unfold size113; kernel_rfl
theorem size_15 : size113 15 := by unfold size113; kernel_rfl
theorem size_16 : size113 16 := by unfold size113; kernel_rfl
theorem size_17 : size113 17 := by unfold size113; kernel_rfl
theorem size_18 : size113 18 := by unfold size113; kernel_rfl
theorem size_19 : size113 19 := by unfold size113; kernel_rfl
theorem size_20 : size113 20 := by unfold size113; kernel_rfl
theorem size_21 : size113 21 := by unfold size113; kernel_rfl
theorem size_22 : size113 22 := by unfold size113; kernel_rfl
theorem size_23 : size113 23 := by unfold size113; kernel_rfl
theorem size_24 : size113 24 := by unfold size113; kernel_rfl
theorem size_25 : size113 25 := by unfold size113; kernel_rfl
theorem size_26 : size113 26 := by unfold size113; kernel_rfl
theorem size_27 : size113 27 := by unfold size113; kernel_rfl
theorem size_28 : size113 28 := by unfold size113; kernel_rfl
theorem size_29 : size113 29 := by unfold size113; kernel_rfl
theorem size_30 : size113 30 := by unfold size113; kernel_rfl
theorem size_31 : size113 31 := by unfold size113; kernel_rfl
theorem size_32 : size113 32 := by unfold size113; kernel_rfl
theorem size_33 : size113 33 := by unfold size113; kernel_rfl
theorem size_34 : size113 34 := by unfold size113; kernel_rfl
theorem size_35 : size113 35 := by unfold size113; kernel_rfl
theorem size_36 : size113 36 := by unfold size113; kernel_rfl
theorem size_37 : size113 37 := by unfold size113; kernel_rfl
theorem size_38 : size113 38 := by unfold size113; kernel_rfl
theorem size_39 : size113 39 := by unfold size113; kernel_rfl
theorem size_40 : size113 40 := by unfold size113; kernel_rfl
theorem size_41 : size113 41 := by unfold size113; kernel_rfl
theorem size_42 : size113 42 := by unfold size113; kernel_rfl
theorem size_43 : size113 43 := by unfold size113; kernel_rfl
theorem size_44 : size113 44 := by unfold size113; kernel_rfl
theorem size_45 : size113 45 := by unfold size113; kernel_rfl
theorem size_46 : size113 46 := by unfold size113; kernel_rfl
theorem size_47 : size113 47 := by unfold size113; kernel_rfl
theorem size_48 : size113 48 := by unfold size113; kernel_rfl
theorem size_49 : size113 49 := by unfold size113; kernel_rfl
theorem size_50 : size113 50 := by unfold size113; kernel_rfl
theorem size_51 : size113 51 := by unfold size113; kernel_rfl
theorem size_52 : size113 52 := by unfold size113; kernel_rfl
theorem size_53 : size113 53 := by unfold size113; kernel_rfl
theorem size_54 : size113 54 := by unfold size113; kernel_rfl
theorem size_55 : size113 55 := by unfold size113; kernel_rfl
theorem size_56 : size113 56 := by unfold size113; kernel_rfl
theorem size_57 : size113 57 := by unfold size113; kernel_rfl
theorem size_58 : size113 58 := by unfold size113; kernel_rfl
theorem size_59 : size113 59 := by unfold size113; kernel_rfl
theorem size_60 : size113 60 := by unfold size113; kernel_rfl
theorem size_61 : size113 61 := by unfold size113; kernel_rfl
theorem size_62 : size113 62 := by unfold size113; kernel_rfl
theorem size_63 : size113 63 := by unfold size113; kernel_rfl
theorem size_64 : size113 64 := by unfold size113; kernel_rfl
theorem size_65 : size113 65 := by unfold size113; kernel_rfl
theorem size_66 : size113 66 := by unfold size113; kernel_rfl
theorem size_67 : size113 67 := by unfold size113; kernel_rfl
theorem size_68 : size113 68 := by unfold size113; kernel_rfl
theorem size_69 : size113 69 := by unfold size113; kernel_rfl
theorem size_70 : size113 70 := by unfold size113; kernel_rfl
theorem size_71 : size113 71 := by unfold size113; kernel_rfl
theorem size_72 : size113 72 := by unfold size113; kernel_rfl
theorem size_73 : size113 73 := by unfold size113; kernel_rfl
theorem size_74 : size113 74 := by unfold size113; kernel_rfl
theorem size_75 : size113 75 := by unfold size113; kernel_rfl
theorem size_76 : size113 76 := by unfold size113; kernel_rfl
theorem size_77 : size113 77 := by unfold size113; kernel_rfl
theorem size_78 : size113 78 := by unfold size113; kernel_rfl
theorem size_79 : size113 79 := by unfold size113; kernel_rfl
theorem size_80 : size113 80 := by unfold size113; kernel_rfl
theorem size_81 : size113 81 := by unfold size113; kernel_rfl
theorem size_82 : size113 82 := by unfold size113; kernel_rfl
theorem size_83 : size113 83 := by unfold size113; kernel_rfl
theorem size_84 : size113 84 := by unfold size113; kernel_rfl
theorem size_85 : size113 85 := by unfold size113; kernel_rfl
theorem size_86 : size113 86 := by unfold size113; kernel_rfl
theorem size_87 : size113 87 := by unfold size113; kernel_rfl
theorem size_88 : size113 88 := by unfold size113; kernel_rfl
theorem size_89 : size113 89 := by unfold size113; kernel_rfl
theorem size_90 : size113 90 := by unfold size113; kernel_rfl
theorem size_91 : size113 91 := by unfold size113; kernel_rfl
theorem size_92 : size113 92 := by unfold size113; kernel_rfl
theorem size_93 : size113 93 := by unfold size113; kernel_rfl
theorem size_94 : size113 94 := by unfold size113; kernel_rfl
theorem size_95 : size113 95 := by unfold size113; kernel_rfl
theorem size_96 : size113 96 := by unfold size113; kernel_rfl
theorem size_97 : size113 97 := by unfold size113; kernel_rfl
theorem size_98 : size113 98 := by unfold size113; kernel_rfl
theorem size_99 : size113 99 := by unfold size113; kernel_rfl
theorem size_100 : size113 100 := by unfold size113; kernel_rfl
theorem size_101 : size113 101 := by unfold size113; kernel_rfl
theorem size_102 : size113 102 := by unfold size113; kernel_rfl
theorem size_103 : size113 103 := by unfold size113; kernel_rfl
theorem size_104 : size113 104 := by unfold size113; kernel_rfl
theorem size_105 : size113 105 := by unfold size113; kernel_rfl
theorem size_106 : size113 106 := by unfold size113; kernel_rfl
theorem size_107 : size113 107 := by unfold size113; kernel_rfl
theorem size_108 : size113 108 := by unfold size113; kernel_rfl
theorem size_109 : size113 109 := by unfold size113; kernel_rfl
theorem size_110 : size113 110 := by unfold size113; kernel_rfl
theorem size_111 : size113 111 := by unfold size113; kernel_rfl
theorem size_112 : size113 112 := by unfold size113; kernel_rfl
theorem size_113 : size113 113 := by unfold size113; kernel_rfl
theorem size_114 : size113 114 := by unfold size113; kernel_rfl
theorem size_115 : size113 115 := by unfold size113; kernel_rfl
theorem size_116 : size113 116 := by unfold size113; kernel_rfl
theorem size_117 : size113 117 := by unfold size113; kernel_rfl
theorem size_118 : size113 118 := by unfold size113; kernel_rfl
theorem size_119 : size113 119 := by unfold size113; kernel_rfl
theorem size_120 : size113 120 := by unfold size113; kernel_rfl
theorem size_121 : size113 121 := by unfold size113; kernel_rfl
theorem size_122 : size113 122 := by unfold size113; kernel_rfl
theorem size_123 : size113 123 := by unfold size113; kernel_rfl
theorem size_124 : size113 124 := by unfold size113; kernel_rfl
theorem size_125 : size113 125 := by unfold size113; kernel_rfl
theorem size_126 : size113 126 := by unfold size113; kernel_rfl
theorem size_127 : size113 127 := by unfold size113; kernel_rfl
theorem size_128 : size113 128 := by unfold size113; kernel_rfl
theorem size_129 : size113 129 := by unfold size113; kernel_rfl
theorem size_130 : size113 130 := by unfold size113; kernel_rfl
theorem size_131 : size113 131 := by unfold size113; kernel_rfl
theorem size_132 : size113 132 := by unfold size113; kernel_rfl
theorem size_133 : size113 133 := by unfold size113; kernel_rfl
theorem size_134 : size113 134 := by unfold size113; kernel_rfl
theorem size_135 : size113 135 := by unfold size113; kernel_rfl
theorem size_136 : size113 136 := by unfold size113; kernel_rfl
theorem size_137 : size113 137 := by unfold size113; kernel_rfl
theorem size_138 : size113 138 := by unfold size113; kernel_rfl
theorem size_139 : size113 139 := by unfold size113; kernel_rfl
theorem size_140 : size113 140 := by unfold size113; kernel_rfl
theorem size_141 : size113 141 := by unfold size113; kernel_rfl
theorem size_142 : size113 142 := by unfold size113; kernel_rfl
theorem size_143 : size113 143 := by unfold size113; kernel_rfl
theorem size_144 : size113 144 := by unfold size113; kernel_rfl
theorem size_145 : size113 145 := by unfold size113; kernel_rfl
theorem size_146 : size113 146 := by unfold size113; kernel_rfl
theorem size_147 : size113 147 := by unfold size113; kernel_rfl
theorem size_148 : size113 148 := by unfold size113; kernel_rfl
theorem size_149 : size113 149 := by unfold size113; kernel_rfl
theorem size_150 : size113 150 := by unfold size113; kernel_rfl
theorem size_151 : size113 151 := by unfold size113; kernel_rfl
theorem size_152 : size113 152 := by unfold size113; kernel_rfl
theorem size_153 : size113 153 := by unfold size113; kernel_rfl
theorem size_154 : size113 154 := by unfold size113; kernel_rfl
theorem size_155 : size113 155 := by unfold size113; kernel_rfl
theorem size_156 : size113 156 := by unfold size113; kernel_rfl
theorem size_157 : size113 157 := by unfold size113; kernel_rfl
theorem size_158 : size113 158 := by unfold size113; kernel_rfl
theorem size_159 : size113 159 := by unfold size113; kernel_rfl
theorem size_160 : size113 160 := by unfold size113; kernel_rfl
theorem size_161 : size113 161 := by unfold size113; kernel_rfl
theorem size_162 : size113 162 := by unfold size113; kernel_rfl
theorem size_163 : size113 163 := by unfold size113; kernel_rfl
theorem size_164 : size113 164 := by unfold size113; kernel_rfl
theorem size_165 : size113 165 := by unfold size113; kernel_rfl
theorem size_166 : size113 166 := by unfold size113; kernel_rfl
theorem size_167 : size113 167 := by unfold size113; kernel_rfl
theorem size_168 : size113 168 := by unfold size113; kernel_rfl
theorem size_169 : size113 169 := by unfold size113; kernel_rfl
theorem size_170 : size113 170 := by unfold size113; kernel_rfl
theorem size_171 : size113 171 := by unfold size113; kernel_rfl
theorem size_172 : size113 172 := by unfold size113; kernel_rfl
theorem size_173 : size113 173 := by unfold size113; kernel_rfl
theorem size_174 : size113 174 := by unfold size113; kernel_rfl
theorem size_175 : size113 175 := by unfold size113; kernel_rfl
theorem size_176 : size113 176 := by unfold size113; kernel_rfl
theorem size_177 : size113 177 := by unfold size113; kernel_rfl
theorem size_178 : size113 178 := by unfold size113; kernel_rfl
theorem size_179 : size113 179 := by unfold size113; kernel_rfl
theorem size_180 : size113 180 := by unfold size113; kernel_rfl
theorem size_181 : size113 181 := by unfold size113; kernel_rfl
theorem size_182 : size113 182 := by unfold size113; kernel_rfl
theorem size_183 : size113 183 := by unfold size113; kernel_rfl
theorem size_184 : size113 184 := by unfold size113; kernel_rfl
theorem size_185 : size113 185 := by unfold size113; kernel_rfl
theorem size_186 : size113 186 := by unfold size113; kernel_rfl
theorem size_187 : size113 187 := by unfold size113; kernel_rfl
theorem size_188 : size113 188 := by unfold size113; kernel_rfl
theorem size_189 : size113 189 := by unfold size113; kernel_rfl
theorem size_190 : size113 190 := by unfold size113; kernel_rfl
theorem size_191 : size113 191 := by unfold size113; kernel_rfl
theorem size_192 : size113 192 := by unfold size113; kernel_rfl
theorem size_193 : size113 193 := by unfold size113; kernel_rfl
theorem size_194 : size113 194 := by unfold size113; kernel_rfl
theorem size_195 : size113 195 := by unfold size113; kernel_rfl
theorem size_196 : size113 196 := by unfold size113; kernel_rfl
theorem size_197 : size113 197 := by unfold size113; kernel_rfl
theorem size_198 : size113 198 := by unfold size113; kernel_rfl
theorem size_199 : size113 199 := by unfold size113; kernel_rfl
theorem size_200 : size113 200 := by unfold size113; kernel_rfl
theorem size_201 : size113 201 := by unfold size113; kernel_rfl
theorem size_202 : size113 202 := by unfold size113; kernel_rfl
theorem size_203 : size113 203 := by unfold size113; kernel_rfl
theorem size_204 : size113 204 := by unfold size113; kernel_rfl
theorem size_205 : size113 205 := by unfold size113; kernel_rfl
theorem size_206 : size113 206 := by unfold size113; kernel_rfl
theorem size_207 : size113 207 := by unfold size113; kernel_rfl
theorem size_208 : size113 208 := by unfold size113; kernel_rfl
theorem size_209 : size113 209 := by unfold size113; kernel_rfl
theorem size_210 : size113 210 := by unfold size113; kernel_rfl
theorem size_211 : size113 211 := by unfold size113; kernel_rfl
theorem size_212 : size113 212 := by unfold size113; kernel_rfl
theorem size_213 : size113 213 := by unfold size113; kernel_rfl
theorem size_214 : size113 214 := by unfold size113; kernel_rfl
theorem size_215 : size113 215 := by unfold size113; kernel_rfl
theorem size_216 : size113 216 := by unfold size113; kernel_rfl
theorem size_217 : size113 217 := by unfold size113; kernel_rfl
theorem size_218 : size113 218 := by unfold size113; kernel_rfl
theorem size_219 : size113 219 := by unfold size113; kernel_rfl
theorem size_220 : size113 220 := by unfold size113; kernel_rfl
theorem size_221 : size113 221 := by unfold size113; kernel_rfl
theorem size_222 : size113 222 := by unfold size113; kernel_rfl
theorem size_223 : size113 223 := by unfold size113; kernel_rfl
theorem size_224 : size113 224 := by unfold size113; kernel_rfl
theorem size_225 : size113 225 := by unfold size113; kernel_rfl
theorem size_226 : size113 226 := by unfold size113; kernel_rfl
theorem size_227 : size113 227 := by unfold size113; kernel_rfl
theorem size_228 : size113 228 := by unfold size113; kernel_rfl
theorem size_229 : size113 229 := by unfold size113; kernel_rfl
theorem size_230 : size113 230 := by unfold size113; kernel_rfl
theorem size_231 : size113 231 := by unfold size113; kernel_rfl
theorem size_232 : size113 232 := by unfold size113; kernel_rfl
theorem size_233 : size113 233 := by unfold size113; kernel_rfl
theorem size_234 : size113 234 := by unfold size113; kernel_rfl
theorem size_235 : size113 235 := by unfold size113; kernel_rfl
theorem size_236 : size113 236 := by unfold size113; kernel_rfl
theorem size_237 : size113 237 := by unfold size113; kernel_rfl
theorem size_238 : size113 238 := by unfold size113; kernel_rfl
theorem size_239 : size113 239 := by unfold size113; kernel_rfl
theorem size_240 : size113 240 := by unfold size113; kernel_rfl
theorem size_241 : size113 241 := by unfold size113; kernel_rfl
theorem size_242 : size113 242 := by unfold size113; kernel_rfl
theorem size_243 : size113 243 := by unfold size113; kernel_rfl
theorem size_244 : size113 244 := by unfold size113; kernel_rfl
theorem size_245 : size113 245 := by unfold size113; kernel_rfl
theorem size_246 : size113 246 := by unfold size113; kernel_rfl
theorem size_247 : size113 247 := by unfold size113; kernel_rfl
theorem size_248 : size113 248 := by unfold size113; kernel_rfl
theorem size_249 : size113 249 := by unfold size113; kernel_rfl
theorem size_250 : size113 250 := by unfold size113; kernel_rfl
theorem size_251 : size113 251 := by unfold size113; kernel_rfl
theorem size_252 : size113 252 := by unfold size113; kernel_rfl
theorem size_253 : size113 253 := by unfold size113; kernel_rfl
theorem size_254 : size113 254 := by unfold size113; kernel_rfl
theorem size_255 : size113 255 := by unfold size113; kernel_rfl
theorem sizes_0 : AllF size113 0 16 := ⟨size_0, size_1, size_2, size_3, size_4, size_5, size_6, size_7, size_8, size_9, size_10, size_11, size_12, size_13, size_14, size_15, trivial⟩
theorem sizes_1 : AllF size113 16 16 := ⟨size_16, size_17, size_18, size_19, size_20, size_21, size_22, size_23, size_24, size_25, size_26, size_27, size_28, size_29, size_30, size_31, trivial⟩
theorem sizes_2 : AllF size113 32 16 := ⟨size_32, size_33, size_34, size_35, size_36, size_37, size_38, size_39, size_40, size_41, size_42, size_43, size_44, size_45, size_46, size_47, trivial⟩
theorem sizes_3 : AllF size113 48 16 := ⟨size_48, size_49, size_50, size_51, size_52, size_53, size_54, size_55, size_56, size_57, size_58, size_59, size_60, size_61, size_62, size_63, trivial⟩
theorem sizes_4 : AllF size113 64 16 := ⟨size_64, size_65, size_66, size_67, size_68, size_69, size_70, size_71, size_72, size_73, size_74, size_75, size_76, size_77, size_78, size_79, trivial⟩
theorem sizes_5 : AllF size113 80 16 := ⟨size_80, size_81, size_82, size_83, size_84, size_85, size_86, size_87, size_88, size_89, size_90, size_91, size_92, size_93, size_94, size_95, trivial⟩
theorem sizes_6 : AllF size113 96 16 := ⟨size_96, size_97, size_98, size_99, size_100, size_101, size_102, size_103, size_104, size_105, size_106, size_107, size_108, size_109, size_110, size_111, trivial⟩
theorem sizes_7 : AllF size113 112 16 := ⟨size_112, size_113, size_114, size_115, size_116, size_117, size_118, size_119, size_120, size_121, size_122, size_123, size_124, size_125, size_126, size_127, trivial⟩
theorem sizes_8 : AllF size113 128 16 := ⟨size_128, size_129, size_130, size_131, size_132, size_133, size_134, size_135, size_136, size_137, size_138, size_139, size_140, size_141, size_142, size_143, trivial⟩
theorem sizes_9 : AllF size113 144 16 := ⟨size_144, size_145, size_146, size_147, size_148, size_149, size_150, size_151, size_152, size_153, size_154, size_155, size_156, size_157, size_158, size_159, trivial⟩
theorem sizes_10 : AllF size113 160 16 := ⟨size_160, size_161, size_162, size_163, size_164, size_165, size_166, size_167, size_168, size_169, size_170, size_171, size_172, size_173, size_174, size_175, trivial⟩
theorem sizes_11 : AllF size113 176 16 := ⟨size_176, size_177, size_178, size_179, size_180, size_181, size_182, size_183, size_184, size_185, size_186, size_187, size_188, size_189, size_190, size_191, trivial⟩
theorem sizes_12 : AllF size113 192 16 := ⟨size_192, size_193, size_194, size_195, size_196, size_197, size_198, size_199, size_200, size_201, size_202, size_203, size_204, size_205, size_206, size_207, trivial⟩
theorem sizes_13 : AllF size113 208 16 := ⟨size_208, size_209, size_210, size_211, size_212, size_213, size_214, size_215, size_216, size_217, size_218, size_219, size_220, size_221, size_222, size_223, trivial⟩
theorem sizes_14 : AllF size113 224 16 := ⟨size_224, size_225, size_226, size_227, size_228, size_229, size_230, size_231, size_232, size_233, size_234, size_235, size_236, size_237, size_238, size_239, trivial⟩
theorem sizes_15 : AllF size113 240 16 := ⟨size_240, size_241, size_242, size_243, size_244, size_245, size_246, size_247, size_248, size_249, size_250, size_251, size_252, size_253, size_254, size_255, trivial⟩
theorem sizesTo_1 : AllF size113 0 32 := AllF.app (n := 16) (m := 16) sizes_0 sizes_1
theorem sizesTo_2 : AllF size113 0 48 := AllF.app (n := 32) (m := 16) sizesTo_1 sizes_2
theorem sizesTo_3 : AllF size113 0 64 := AllF.app (n := 48) (m := 16) sizesTo_2 sizes_3
theorem sizesTo_4 : AllF size113 0 80 := AllF.app (n := 64) (m := 16) sizesTo_3 sizes_4
theorem sizesTo_5 : AllF size113 0 96 := AllF.app (n := 80) (m := 16) sizesTo_4 sizes_5
theorem sizesTo_6 : AllF size113 0 112 := AllF.app (n := 96) (m := 16) sizesTo_5 sizes_6
theorem sizesTo_7 : AllF size113 0 128 := AllF.app (n := 112) (m := 16) sizesTo_6 sizes_7
theorem sizesTo_8 : AllF size113 0 144 := AllF.app (n := 128) (m := 16) sizesTo_7 sizes_8
theorem sizesTo_9 : AllF size113 0 160 := AllF.app (n := 144) (m := 16) sizesTo_8 sizes_9
theorem sizesTo_10 : AllF size113 0 176 := AllF.app (n := 160) (m := 16) sizesTo_9 sizes_10
theorem sizesTo_11 : AllF size113 0 192 := AllF.app (n := 176) (m := 16) sizesTo_10 sizes_11
theorem sizesTo_12 : AllF size113 0 208 := AllF.app (n := 192) (m := 16) sizesTo_11 sizes_12
theorem sizesTo_13 : AllF size113 0 224 := AllF.app (n := 208) (m := 16) sizesTo_12 sizes_13
theorem sizesTo_14 : AllF size113 0 240 := AllF.app (n := 224) (m := 16) sizesTo_13 sizes_14
theorem sizesTo_15 : AllF size113 0 256 := AllF.app (n := 240) (m := 16) sizesTo_14 sizes_15
theorem size_all (op : Nat) (h : op < 256) : size113 op := sizesTo_15.get op (Nat.zero_le _) (by omega)
theorem isOp_all : ∀ op : Fin 256, isOpB (op.val : Int) = (roomOf op.val).2 := by decide +kernel
end Go.Ev
/- Instructions of the specification: decoding. -/
namespace Go.Ev
open Go.Proofs
def S113 (args : List AV) : Ans (AV × Heap) := match args with
  | [.val (.int .i64 op)] => .grd (opOk op) (.out (sizeV (roomOf op.toNat).1, ⟨0, []⟩))
  | _ => .no
def Try.A113 : AFun := roA S113
theorem Try.e113 : EnvOk2 Try.prog Try.E113 := Try.envOk false (sumsOf []) _ (fun g A h => by cases h)
theorem Try.al113 (op : Nat) (h : op < 256) : Alone Try.prog 113 [.val (.int .i64 op)] (sizeV (roomOf op).1) ⟨0, []⟩ :=
  rootS_alone Try.e113 (d := 5) (g := 113) (ls := lsumsOf []) (AllL.of1 (a := nthD .skip (loopsOf (bodyOf Try.E113 113)) 0) (by kernel_rfl) trivial) (size_all op h)
theorem Try.sum113 : SumC Try.prog 113 Try.A113 := by
  refine roSumR 113 ⟨Try.f113, _, Try.fnOk113.1, Try.fnOk113.2, rfl⟩ ?_
  intro args v h2 hs
  unfold S113 at hs
  split at hs
  · rename_i op
    rw [Ans.run_grd] at hs
    cases hb : opOk op with
    | false => rw [hb] at hs; cases hs
    | true =>
      rw [hb] at hs
      have hs := Option.some.inj hs
      injection hs with q1 q2
      subst q1; subst q2
      unfold opOk at hb
      rw [Bool.and_eq_true, decide_eq_true_eq, decide_eq_true_eq] at hb
      have key := Try.al113 op.toNat (by omega)
      rw [Int.toNat_of_nonneg hb.1] at key
      exact ⟨fun e he => by (cases he), key⟩
  · cases hs
def Try.E96 : Env := Try.env0 false (sumsOf [(113, Try.A113)]) (keepF 96 [(6, [3, 4, 5])])
def bad2 {α : Type} (b c : Bool) (no x : α) : α := bif b then no else bif c then no else x
def kLo (r : Room) : Int := bif r.k then -128 else 0
def kMany (r : Room) : Int := bif r.k then 256 else 1
def iMany (r : Room) : Int := bif r.i then 4294967296 else 1
def chkC {α : Type} (r : Room) (x : Ins) (no yes : α) : α :=
  bad2 (decide (x.a < 0)) (decide (x.a ≥ IntKind.i64.wrap (0 + (r.a + 1)))) no (bad2 (decide (x.b < 0)) (decide (x.b ≥ IntKind.i64.wrap (0 + (r.b + 1)))) no (bad2 (decide (x.c < 0)) (decide (x.c ≥ IntKind.i64.wrap (0 + (r.c + 1)))) no
   (bad2 (decide (x.d < 0)) (decide (x.d ≥ IntKind.i64.wrap (0 + (r.d + 1)))) no (bad2 (decide (x.k < kLo r)) (decide (x.k ≥ IntKind.i64.wrap (kLo r + kMany r))) no
    (bad2 (decide (IntKind.i64.wrap x.i < 0)) (decide (IntKind.i64.wrap x.i ≥ IntKind.i64.wrap (0 + iMany r))) no yes)))))
def chkG (x : Ins) (no yes : Option (AV × Heap)) : Option (AV × Heap) := bif opOk x.o then chkC (roomOf x.o.toNat).1 x no yes else none
def isC (x : Ins) (no yes : Option (AV × Heap)) : Option (AV × Heap) :=
  bif decide (x.o ≥ 1) then (bif decide (x.o ≤ 61) then chkG x no yes else bif decide (x.o ≥ 64) then (bif decide (x.o ≤ 72) then chkG x no yes else no) else no)
  else bif decide (x.o ≥ 64) then (bif decide (x.o ≤ 72) then chkG x no yes else no) else no
def bad2B (b c : Bool) (x : Bool) : Bool := !b && (!c && x)
def chkB (r : Room) (x : Ins) : Bool :=
  bad2B (decide (x.a < 0)) (decide (x.a ≥ IntKind.i64.wrap (0 + (r.a + 1)))) (bad2B (decide (x.b < 0)) (decide (x.b ≥ IntKind.i64.wrap (0 + (r.b + 1)))) (bad2B (decide (x.c < 0)) (decide (x.c ≥ IntKind.i64.wrap (0 + (r.c + 1))))
   (bad2B (decide (x.d < 0)) (decide (x.d ≥ IntKind.i64.wrap (0 + (r.d + 1)))) (bad2B (decide (x.k < kLo r)) (decide (x.k ≥ IntKind.i64.wrap (kLo r + kMany r)))
    (bad2B (decide (IntKind.i64.wrap x.i < 0)) (decide (IntKind.i64.wrap x.i ≥ IntKind.i64.wrap (0 + iMany r))) true)))))
theorem bad2_eq {α : Type} (b c x : Bool) (no yes : α) : bad2 b c no (bif x then yes else no) = bif bad2B b c x then yes else no := by cases b <;> cases c <;> rfl
theorem chkC_eq {α : Type} (r : Room) (x : Ins) (no yes : α) : chkC r x no yes = bif chkB r x then yes else no := by
  unfold chkC chkB
  rw [show yes = bif true then yes else no from rfl, bad2_eq, bad2_eq, bad2_eq, bad2_eq, bad2_eq, bad2_eq, cond_true]
theorem isC_eq {x : Ins} (h : opOk x.o = true) (no yes : Option (AV × Heap)) : isC x no yes = bif isOpB x.o && chkB (roomOf x.o.toNat).1 x then yes else no := by
  unfold isC chkG isOpB
  rw [h, cond_true, chkC_eq]
  cases decide (x.o ≥ 1) <;> cases decide (x.o ≤ 61) <;> cases decide (x.o ≥ 64) <;> cases decide (x.o ≤ 72) <;> rfl
theorem Try.r96 (x : Ins) : rootS Try.E96 5 96 (lsumsOf []) [insV x] = isC x bF bT := by kernel_rfl
theorem room_rg : ∀ op : Fin 256, 0 ≤ (roomOf op.val).1.a ∧ (roomOf op.val).1.a ≤ 15 ∧ 0 ≤ (roomOf op.val).1.b ∧ (roomOf op.val).1.b ≤ 15 ∧ 0 ≤ (roomOf op.val).1.c ∧ (roomOf op.val).1.c ≤ 15 ∧ 0 ≤ (roomOf op.val).1.d ∧ (roomOf op.val).1.d ≤ 15 := by decide +kernel
structure InsRg (x : Ins) : Prop where
  o : 0 ≤ x.o ∧ x.o < 256
  k : -128 ≤ x.k ∧ x.k ≤ 127
  i : 0 ≤ x.i ∧ x.i < 4294967296
theorem chkB_eq {x : Ins} (h : InsRg x) : (isOpB x.o && chkB (roomOf x.o.toNat).1 x) = ((roomOf x.o.toNat).2 && hasB (roomOf x.o.toNat).1 x) := by
  have h1 := isOp_all ⟨x.o.toNat, by have := h.o; omega⟩
  have h2 := room_rg ⟨x.o.toNat, by have := h.o; omega⟩
  simp only [Int.toNat_of_nonneg h.o.1] at h1 h2
  have hk := h.k
  have hi := h.i
  rw [h1]
  congr 1
  generalize (roomOf x.o.toNat).1 = r at h2
  unfold chkB hasB bad2B
  rw [wrap64 (0 + (r.a + 1)) (by omega) (by omega), wrap64 (0 + (r.b + 1)) (by omega) (by omega), wrap64 (0 + (r.c + 1)) (by omega) (by omega), wrap64 (0 + (r.d + 1)) (by omega) (by omega), wrap64 x.i (by omega) (by omega), wrap64 (x.k + 128) (by omega) (by omega)]
  have e1 : (!decide (x.k < kLo r) && !decide (x.k ≥ IntKind.i64.wrap (kLo r + kMany r))) = (x.k == 0 || (r.k && (decide (x.k + 128 ≥ 0) && decide (x.k + 128 ≤ 255)))) := by
    unfold kLo kMany
    cases r.k with
    | true =>
      show (!decide (x.k < -128) && !decide (x.k ≥ IntKind.i64.wrap (-128 + 256))) = _
      rw [wrap64 _ (by omega) (by omega), decide_eq_false (by omega), decide_eq_false (by omega), decide_eq_true (by omega), decide_eq_true (by omega)]
      simp
    | false =>
      show (!decide (x.k < 0) && !decide (x.k ≥ IntKind.i64.wrap (0 + 1))) = _
      rw [wrap64 _ (by omega) (by omega)]
      rw [Bool.eq_iff_iff]
      simp
      omega
  have e2 : (!decide (x.i < 0) && !decide (x.i ≥ IntKind.i64.wrap (0 + iMany r))) = (x.i == 0 || r.i) := by
    unfold iMany
    cases r.i with
    | true =>
      show (!decide (x.i < 0) && !decide (x.i ≥ IntKind.i64.wrap (0 + 4294967296))) = _
      rw [wrap64 _ (by omega) (by omega), decide_eq_false (by omega), decide_eq_false (by omega)]
      simp
    | false =>
      show (!decide (x.i < 0) && !decide (x.i ≥ IntKind.i64.wrap (0 + 1))) = _
      rw [wrap64 _ (by omega) (by omega)]
      rw [Bool.eq_iff_iff]
      simp
      omega
  rw [← e1, ← e2]
  have f : ∀ y z : Int, (!decide (y < 0)) = decide (y ≥ 0) ∧ (!decide (y ≥ 0 + (z + 1))) = decide (y ≤ z) := fun y z => ⟨by rw [Bool.eq_iff_iff]; simp, by rw [Bool.eq_iff_iff]; simp; omega⟩
  rw [(f x.a r.a).1, (f x.a r.a).2, (f x.b r.b).1, (f x.b r.b).2, (f x.c r.c).1, (f x.c r.c).2, (f x.d r.d).1, (f x.d r.d).2]
  simp only [Bool.and_assoc, Bool.and_true]
theorem Try.e96 : EnvOk2 Try.prog Try.E96 := Try.envOk false (sumsOf [(113, Try.A113)]) _ (sumsOf_ok (show AllS Try.prog [(113, Try.A113)] from ⟨Try.sum113, trivial⟩))
def isV96 (x : Ins) : Bool := (roomOf x.o.toNat).2 && hasB (roomOf x.o.toNat).1 x
def insP : List AV → Ins
  | [.val (.int _ o), .val (.int _ a), .val (.int _ b), .val (.int _ c), .val (.int _ d), .val (.int _ k), .val (.int _ i)] => ⟨o, a, b, c, d, k, i⟩
  | _ => ins0
def S96 (args : List AV) : Ans (AV × Heap) := match args with
  | [.agg l] => .grd (isV (.agg l) (insV (insP l)) && propB (InsRg (insP l))) (.out (.val (.bool (isV96 (insP l))), ⟨0, []⟩))
  | _ => .no
def Try.A96 : AFun := roA S96
theorem Try.sum96 : SumC Try.prog 96 Try.A96 := by
  refine roSumR 96 ⟨Try.f96, _, Try.fnOk96.1, Try.fnOk96.2, rfl⟩ ?_
  intro args v h2 hs
  unfold S96 at hs
  split at hs
  · rename_i l
    rw [Ans.run_grd] at hs
    obtain ⟨hb, hz⟩ := grd_some hs
    rw [Bool.and_eq_true] at hb
    have e := isV_eq hb.1
    have hr := propB_eq hb.2
    have hz := Option.some.inj hz
    injection hz with q1 q2
    subst q1; subst q2
    refine ⟨fun e he => (by cases he), ?_⟩
    rw [e]
    generalize insP l = x at hr ⊢
    refine rootS_alone Try.e96 (d := 5) (g := 96) (ls := lsumsOf []) (AllL.of1 (a := nthD .skip (loopsOf (bodyOf Try.E96 96)) 0) (by kernel_rfl) trivial) ((Try.r96 x).trans ?_)
    have ho : opOk x.o = true := by unfold opOk; rw [decide_eq_true hr.o.1, decide_eq_true hr.o.2]; rfl
    rw [isC_eq ho, chkB_eq hr]
    unfold isV96
    cases ((roomOf x.o.toNat).2 && hasB (roomOf x.o.toNat).1 x) <;> rfl
  · cases hs
def Try.E87 : Env := Try.env0 false (sumsOf [(96, Try.A96)]) (keepF 87 [])
def gI (x : Ins) (y : Option (AV × Heap)) : Option (AV × Heap) := bif isV (insV x) (insV (insP (insL x))) && propB (InsRg (insP (insL x))) then y else none
theorem Try.w87 (O : List Int) : rootS Try.E87 5 87 (lsumsOf []) [.ro (.ints .u8 O) none] =
    bif decide ((O.length : Int) < 4) then some (decNo, ⟨0, []⟩)
    else bif inR 0 O.length then bif inR 1 O.length then bif inR 1 O.length then bif inR 2 O.length then bif inR 2 O.length then bif inR 3 O.length then
     bif decide (IntKind.i64.wrap (O.getD 0 0) ≥ 64) then
      bif decide ((O.length : Int) < 8) then some (decNo, ⟨0, []⟩)
      else bif inR 4 O.length then bif inR 5 O.length then bif inR 6 O.length then bif inR 7 O.length then
       gI (insn O (wordB O 4)) (bif isV96 (insn O (wordB O 4)) then some (decYes (insn O (wordB O 4)) 8, ⟨0, []⟩) else some (decNo, ⟨0, []⟩)) else none else none else none else none
     else gI (insn O 0) (bif isV96 (insn O 0) then some (decYes (insn O 0) 4, ⟨0, []⟩) else some (decNo, ⟨0, []⟩))
    else none else none else none else none else none else none := by kernel_rfl
end Go.Ev
/- Instructions of the specification: decoding, as a summary. -/
namespace Go.Ev
open Go.Proofs
theorem insn_rg {O : List Int} (h : isBs O) (i : Int) (hi : 0 ≤ i ∧ i < 4294967296) : InsRg (insn O i) := by
  have h0 := h 0
  refine ⟨?_, ?_, hi⟩
  · show 0 ≤ IntKind.i64.wrap (O.getD 0 0) ∧ IntKind.i64.wrap (O.getD 0 0) < 256
    rw [wrap64 _ (by omega) (by omega)]; exact h0
  · show -128 ≤ IntKind.i64.wrap (IntKind.i8.wrap (O.getD 3 0)) ∧ IntKind.i64.wrap (IntKind.i8.wrap (O.getD 3 0)) ≤ 127
    have e : -128 ≤ IntKind.i8.wrap (O.getD 3 0) ∧ IntKind.i8.wrap (O.getD 3 0) ≤ 127 := by
      have e8 : IntKind.i8.wrap (O.getD 3 0) = if O.getD 3 0 % 256 ≥ 128 then O.getD 3 0 % 256 - 256 else O.getD 3 0 % 256 := by simp [IntKind.wrap, IntKind.bits, IntKind.signed]
      rw [e8]
      by_cases h9 : O.getD 3 0 % 256 ≥ 128
      · rw [if_pos h9]; omega
      · rw [if_neg h9]; omega
    rw [wrap64 _ (by omega) (by omega)]; exact e
theorem gI_t {x : Ins} (h : InsRg x) (y : Option (AV × Heap)) : gI x y = y := by
  have e : insP (insL x) = x := rfl
  unfold gI
  rw [e, isV_refl, propB_t h]; rfl
theorem word_rg (O : List Int) (k : Nat) : 0 ≤ wordB O k ∧ wordB O k < 4294967296 := by
  unfold wordB or32
  rw [IntKind.wrap_u32]; omega
theorem Try.e87 : EnvOk2 Try.prog Try.E87 := Try.envOk false (sumsOf [(96, Try.A96)]) _ (sumsOf_ok (show AllS Try.prog [(96, Try.A96)] from ⟨Try.sum96, trivial⟩))
theorem Try.al87 (O : List Int) (h : isBs O) : Alone Try.prog 87 [.ro (.ints .u8 O) none] (decV O) ⟨0, []⟩ := by
  refine rootS_alone Try.e87 (d := 5) (g := 87) (ls := lsumsOf []) (AllL.of0 (by kernel_rfl)) ((Try.w87 O).trans ?_)
  have hr : ∀ k : Nat, (k : Int) < O.length → inR (k : Int) O.length = true := fun k hk => by rw [inR_nat]; exact decide_eq_true (by omega)
  unfold decV dOk dIns dLen
  by_cases h4 : (O.length : Int) < 4
  · rw [decide_eq_true h4]
    cases dLong O
    · rw [show decide ((bif false then (8 : Int) else 4) ≤ (O.length : Int)) = false from decide_eq_false (by show ¬ (4 : Int) ≤ _; omega)]; rfl
    · rw [show decide ((bif true then (8 : Int) else 4) ≤ (O.length : Int)) = false from decide_eq_false (by show ¬ (8 : Int) ≤ _; omega)]; rfl
  rw [decide_eq_false h4, show inR 0 O.length = true from hr 0 (by omega), show inR 1 O.length = true from hr 1 (by omega), show inR 2 O.length = true from hr 2 (by omega), show inR 3 O.length = true from hr 3 (by omega), gI_t (insn_rg h _ (word_rg O 4)), gI_t (insn_rg h 0 ⟨Int.le_refl _, by decide⟩)]
  unfold isV96
  show (bif dLong O then _ else _) = _
  cases hl : dLong O with
  | false =>
    rw [show decide ((bif false then (8 : Int) else 4) ≤ (O.length : Int)) = true from decide_eq_true (by show (4 : Int) ≤ _; omega)]
    simp only [cond_false, Bool.true_and]
    cases ((roomOf (insn O 0).o.toNat).2 && hasB (roomOf (insn O 0).o.toNat).1 (insn O 0)) <;> rfl
  | true =>
    by_cases h8 : (O.length : Int) < 8
    · rw [show decide ((bif true then (8 : Int) else 4) ≤ (O.length : Int)) = false from decide_eq_false (by show ¬ (8 : Int) ≤ _; omega), decide_eq_true h8]; rfl
    · rw [show decide ((bif true then (8 : Int) else 4) ≤ (O.length : Int)) = true from decide_eq_true (by show (8 : Int) ≤ _; omega), decide_eq_false h8, show inR 4 O.length = true from hr 4 (by omega), show inR 5 O.length = true from hr 5 (by omega), show inR 6 O.length = true from hr 6 (by omega), show inR 7 O.length = true from hr 7 (by omega)]
      simp only [cond_false, cond_true, Bool.true_and]
      cases ((roomOf (insn O (wordB O 4)).o.toNat).2 && hasB (roomOf (insn O (wordB O 4)).o.toNat).1 (insn O (wordB O 4))) <;> rfl
def S87 (args : List AV) : Ans (AV × Heap) := match args with
  | [.ro (.ints .u8 O) _] => .grd (propB (isBs O)) (.br (dOk O) (.out (decYes (dIns O) (dLen O), ⟨0, []⟩)) (.out (decNo, ⟨0, []⟩)))
  | _ => .no
def Try.A87 : AFun := roA S87
theorem Try.sum87 : SumC Try.prog 87 Try.A87 := by
  refine roSumR 87 ⟨Try.f87, _, Try.fnOk87.1, Try.fnOk87.2, rfl⟩ ?_
  intro args v h2 hs
  unfold S87 at hs
  split at hs
  · rename_i O cap
    rw [gdB_run] at hs
    cases hb : propB (isBs O) with
    | false => rw [hb] at hs; cases hs
    | true =>
      rw [hb] at hs
      have key := Try.al87 O (propB_eq hb)
      unfold decV at key
      have fin : ∀ v, Alone Try.prog 87 [.ro (.ints .u8 O) none] v ⟨0, []⟩ → Alone Try.prog 87 [.ro (.ints .u8 O) cap] v ⟨0, []⟩ := fun v k => Alone.argsW (AWs.args (.cons (AW.cap _ _) .nil)) k
      cases h : dOk O <;> (rw [h] at hs key; have hs := Option.some.inj hs; injection hs with q1 q2; subst q1; subst q2; exact ⟨fun e he => by (cases he), fin _ key⟩)
  · cases hs
def Try.t25 (l : List PgD) : List (Nat × AFun) := [(88, Try.A88 l), (87, Try.A87)]
def Try.E25 (l : List PgD) : Env := Try.env0 false (sumsOf (Try.t25 l)) (keepF 25 [])
def gU {α : Type} (l : List PgD) (a : Int) (x : Option α) : Option α := bif isV (refV l) (refV l) && (propB (okM l) && inU a) then x else none
def gB8 {α : Type} (O : List Int) (x : Option α) : Option α := bif propB (isBs O) then x else none
def op25 {α : Type} (l : List PgD) (a n op : Int) (yes no : Option α) : Option α :=
  gU l a (bif (pcE l 4 a n).2.2 then (bif a.tmod 4 != 0 then no else no) else (bif a.tmod 4 != 0 then no else gB8 (rdE l a n) (bif dOk (rdE l a n) then (bif dLen (rdE l a n) != n then no else (bif (dIns (rdE l a n)).o == op then yes else no)) else no)))
theorem Try.w25 (l : List PgD) (a : Int) : rootS (Try.E25 l) 5 25 (lsumsOf []) [refV l, .val (.int .u32 a)] =
 op25 l (at8 a) 8 68 (some (u32b (at8 a) true, ⟨0, []⟩)) (op25 l (at4 a) 4 41 (some (u32b (at4 a) true, ⟨0, []⟩)) (some (u32b 0 false, ⟨0, []⟩))) := by kernel_rfl
theorem gU_t {α : Type} {l : List PgD} (h : okM l) {a : Int} (h0 : 0 ≤ a) (h1 : a < 4294967296) (x : Option α) : gU l a x = x := by unfold gU inU; rw [isV_refl, propB_t h, decide_eq_true h0, decide_eq_true h1]; rfl
theorem op25_eq {α : Type} {l : List PgD} (h : okM l) (hl : okB l) {a n op : Int} (h0 : 0 ≤ a) (h1 : a < 4294967296) (yes no : Option α) : op25 l a n op yes no = bif !(a.tmod 4 != 0) && callB l a n op then yes else no := by
  unfold op25 callB
  rw [gU_t h h0 h1]
  have e : gB8 (rdE l a n) = fun x : Option α => x := by funext x; unfold gB8; rw [propB_t (rdE_bs hl a n)]; rfl
  rw [e]
  cases (pcE l 4 a n).2.2
  · cases a.tmod 4 != 0
    · cases dOk (rdE l a n)
      · rfl
      · show (bif dLen (rdE l a n) != n then no else _) = bif (dLen (rdE l a n) == n && _) then yes else no
        unfold bne
        cases dLen (rdE l a n) == n
        · rfl
        · cases (dIns (rdE l a n)).o == op <;> rfl
    · rfl
  · cases a.tmod 4 != 0 <;> rfl
theorem mod_at8 {a : Int} (h0 : 0 ≤ a) (h1 : a < 4294967296) : ((at8 a).tmod 4 != 0) = (a.tmod 4 != 0) := by
  have e : at8 a = (a - 8) % 4294967296 := IntKind.wrap_u32 _
  rw [Int.tmod_eq_emod_of_nonneg h0, Int.tmod_eq_emod_of_nonneg (by omega), e]
  congr 1
  omega
theorem mod_at4 {a : Int} (h0 : 0 ≤ a) (h1 : a < 4294967296) : ((at4 a).tmod 4 != 0) = (a.tmod 4 != 0) := by
  have e : at4 a = (a - 4) % 4294967296 := IntKind.wrap_u32 _
  rw [Int.tmod_eq_emod_of_nonneg h0, Int.tmod_eq_emod_of_nonneg (by omega), e]
  congr 1
  omega
theorem at8_rg (a : Int) : 0 ≤ at8 a ∧ at8 a < 4294967296 := by
  have e : at8 a = (a - 8) % 4294967296 := IntKind.wrap_u32 _
  omega
theorem at4_rg (a : Int) : 0 ≤ at4 a ∧ at4 a < 4294967296 := by
  have e : at4 a = (a - 4) % 4294967296 := IntKind.wrap_u32 _
  omega
theorem Try.e25 (l : List PgD) : EnvOk2 Try.prog (Try.E25 l) := Try.envOk false (sumsOf (Try.t25 l)) _ (sumsOf_ok (show AllS Try.prog (Try.t25 l) from ⟨Try.sum88 l, Try.sum87, trivial⟩))
theorem Try.al25 (l : List PgD) (h : okM l) (hl : okB l) (a : Int) (h0 : 0 ≤ a) (h1 : a < 4294967296) : Alone Try.prog 25 [refV l, .val (.int .u32 a)] (siteV l a) ⟨0, []⟩ := by
  refine rootS_alone (Try.e25 l) (d := 5) (g := 25) (ls := lsumsOf []) (AllL.of0 (by kernel_rfl)) ((Try.w25 l a).trans ?_)
  have q8 := at8_rg a
  have q4 := at4_rg a
  rw [op25_eq h hl q8.1 q8.2, op25_eq h hl q4.1 q4.2, mod_at8 h0 h1, mod_at4 h0 h1]
  unfold siteV siteB siteA
  cases a.tmod 4 != 0
  · cases callB l (at8 a) 8 68
    · cases callB l (at4 a) 4 41 <;> rfl
    · rfl
  · rfl
def S25 (l : List PgD) (args : List AV) : Ans (AV × Heap) := match args with
  | [v, .val (.int .u32 a)] => .grd (isV v (refV l) && inU a) (.br (siteB l a) (.out (u32b (siteA l a) true, ⟨0, []⟩)) (.out (u32b 0 false, ⟨0, []⟩)))
  | _ => .no
def Try.A25 (l : List PgD) : AFun := roA (S25 l)
theorem Try.sum25 (l : List PgD) (h : okM l) (hl : okB l) : SumC Try.prog 25 (Try.A25 l) := by
  refine roSumR 25 ⟨Try.f25, _, Try.fnOk25.1, Try.fnOk25.2, rfl⟩ ?_
  intro args v h2 hs
  unfold S25 at hs
  split at hs
  · rename_i v0 a
    rw [gdB_run] at hs
    cases hb : (isV v0 (refV l) && inU a) with
    | false => rw [hb] at hs; cases hs
    | true =>
      rw [hb] at hs
      unfold inU at hb
      simp only [Bool.and_eq_true, decide_eq_true_eq] at hb
      have h1 := isV_eq hb.1
      subst h1
      have key := Try.al25 l h hl a hb.2.1 hb.2.2
      unfold siteV at key
      cases g : siteB l a <;> (rw [g] at hs key; have hs := Option.some.inj hs; injection hs with q1 q2; subst q1; subst q2; exact ⟨fun e he => by (cases he), key⟩)
  · cases hs
end Go.Ev
/- Walks of the specification: the innermost frame. -/
namespace Go.Ev
open Go.Proofs
def Try.E27 (l : List PgD) : Env := Try.env0 false (sumsOf (Try.t25 l)) (keepF 27 [])
def decD {α : Type} (O : List Int) (no : Option α) (yes : Ins → Int → Option α) : Option α := gB8 O (bif dOk O then yes (dIns O) (dLen O) else no)
def fetC {α : Type} (l : List PgD) (a : Int) (no : Option α) (yes : Ins → Int → Option α) : Option α :=
  bif a.tmod 4 != 0 then no else gU l a (bif (pcE l 4 a 4).2.2 then no else bif inR 0 (rdE l a 4).length then
   (bif decide ((rdE l a 4).getD 0 0 ≥ 64) then (bif inR 0 (rdE l a 4).length then (bif decide ((rdE l a 4).getD 0 0 ≤ 72) then gU l a (bif (pcE l 4 a 8).2.2 then no else decD (rdE l a 8) no yes) else decD (rdE l a 4) no yes) else none) else decD (rdE l a 4) no yes) else none)
def no27 : Option (AV × Heap) := some (u32b 0 false, ⟨0, []⟩)
def yes27 (a : Int) : Option (AV × Heap) := some (u32b a true, ⟨0, []⟩)
theorem Try.w27 (l : List PgD) (c : Cpu) : rootS (Try.E27 l) 5 27 (lsumsOf []) [cpuV c, refV l] =
    fetC l c.pc no27 (fun x _ => bif isPush x then yes27 (c.r 15) else bif x.o == 42 then yes27 (c.r 15) else bif isMov x then
      fetC l (at4 c.pc) no27 (fun y n => bif n == 4 then (bif isPush y then yes27 (IntKind.u32.wrap (c.r 15 + 4)) else no27) else no27) else no27) := by kernel_rfl
theorem rdE_0 (l : List PgD) {a n : Int} (ha : 0 ≤ a) (hn : 0 < n) : (rdE l a n).getD 0 0 = (pgX l (pcQ a)).2.2.getD (pcF a).toNat 0 := by
  unfold rdE
  obtain ⟨k, hk⟩ : ∃ k, n.toNat = k + 1 := ⟨n.toNat - 1, by omega⟩
  rw [hk, rdW_step (by omega)]
  have h1 := pcC_eq (n := n) ha hn
  have h2 := pcK_pos (a := a) hn
  rw [List.getD_eq_getElem?_getD, List.getElem?_append_left (by rw [gB_len]; omega)]
  unfold gB
  rw [List.getElem?_map, List.getElem?_range (by omega)]
  rfl
theorem gB8_t {α : Type} {O : List Int} (h : isBs O) (x : Option α) : gB8 O x = x := by unfold gB8; rw [propB_t h]; rfl
theorem decD_eq {α : Type} {O : List Int} (h : isBs O) (no : Option α) (yes : Ins → Int → Option α) : decD O no yes = bif dOk O then yes (dIns O) (dLen O) else no := by unfold decD; rw [gB8_t h]
theorem dOk_out {O : List Int} (h : isBs O) (h2 : O.getD 0 0 > 72) : dOk O = false := by
  have h0 := h 0
  have e : (dIns O).o = O.getD 0 0 := by show IntKind.i64.wrap (O.getD 0 0) = _; exact wrap64 _ (by omega) (by omega)
  have q := isOp_all ⟨(O.getD 0 0).toNat, by omega⟩
  simp only [Int.toNat_of_nonneg h0.1] at q
  unfold dOk
  rw [e, ← q]
  unfold isOpB
  rw [decide_eq_false (show ¬ O.getD 0 0 ≤ 61 by omega), decide_eq_false (show ¬ O.getD 0 0 ≤ 72 by omega)]
  simp
def insO (l : List PgD) (a : Int) : List Int := bif insL8 l a then rdE l a 8 else rdE l a 4
theorem insX_eq (l : List PgD) (a : Int) : insX l a = dIns (insO l a) := by unfold insX insO; cases insL8 l a <;> rfl
theorem fetC_eq {α : Type} {l : List PgD} (h : okM l) (hl : okB l) {a : Int} (h0 : 0 ≤ a) (h1 : a < 4294967296) (no : Option α) (yes : Ins → Int → Option α) : fetC l a no yes = bif insB l a then yes (insX l a) (dLen (insO l a)) else no := by
  have b4 := rdE_bs hl a 4
  have b8 := rdE_bs hl a 8
  unfold fetC insB
  rw [gU_t h h0 h1, gU_t h h0 h1, decD_eq b8, decD_eq b4, show inR 0 (rdE l a 4).length = true by rw [rdE_len l h0 (by omega)]; rfl, insX_eq]
  cases a.tmod 4 != 0 with
  | true => rfl
  | false =>
    cases (pcE l 4 a 4).2.2 with
    | true => rfl
    | false =>
      unfold insO
      show (bif insL8 l a then _ else _) = _
      cases hq : insL8 l a with
      | false =>
        simp only [cond_false, cond_true, Bool.not_false, Bool.true_and]
      | true =>
        have hge : (rdE l a 4).getD 0 0 ≥ 64 := of_decide_eq_true hq
        have e8 : (rdE l a 8).getD 0 0 = (rdE l a 4).getD 0 0 := by rw [rdE_0 l h0 (by omega), rdE_0 l h0 (by omega)]
        by_cases h72 : (rdE l a 4).getD 0 0 ≤ 72
        · rw [decide_eq_true h72]
          cases (pcE l 4 a 8).2.2 with
          | true => rfl
          | false => simp only [cond_false, cond_true, Bool.not_false, Bool.true_and]
        · rw [decide_eq_false h72, dOk_out b4 (by omega), dOk_out b8 (by omega)]
          simp
theorem insB_ok {l : List PgD} {a : Int} (h : insB l a = true) : dOk (insO l a) = true := by
  unfold insB at h
  unfold insO
  cases hq : insL8 l a <;> rw [hq] at h <;> simp only [cond_true, cond_false, Bool.and_eq_true] at h ⊢
  · exact h.2.2
  · exact h.2.2.2
theorem insO_bs {l : List PgD} (hl : okB l) (a : Int) : isBs (insO l a) := by
  unfold insO
  cases insL8 l a
  · exact rdE_bs hl _ _
  · exact rdE_bs hl _ _
theorem ret_eq {O : List Int} (hb : isBs O) (h : dOk O = true) : isRet (dIns O) = ((dIns O).o == 42) := by
  unfold isRet isIns
  cases hq : (dIns O).o == 42 with
  | false => rfl
  | true =>
    rw [beq_iff_eq] at hq
    unfold dOk at h
    rw [hq] at h
    have e : (roomOf (Int.toNat 42)).1 = ⟨0, 0, 0, 0, false, false⟩ := by kernel_rfl
    rw [e] at h
    simp only [Bool.and_eq_true, hasB, decide_eq_true_eq, Bool.false_and, Bool.or_false] at h
    obtain ⟨_, _, a1, a2, b1, b2, c1, c2, d1, d2, k, i⟩ := h
    rw [show (dIns O).a = 0 by omega, show (dIns O).b = 0 by omega, show (dIns O).c = 0 by omega, show (dIns O).d = 0 by omega, k, i]
    rfl
theorem push_len {O : List Int} (h : isPush (dIns O) = true) : (dLen O == 4) = true := by
  unfold isPush isIns at h
  rw [Bool.and_eq_true, beq_iff_eq] at h
  have e : IntKind.i64.wrap (O.getD 0 0) = 34 := h.1
  unfold dLen dLong
  rw [e]; rfl
theorem Try.e27 (l : List PgD) : EnvOk2 Try.prog (Try.E27 l) := Try.envOk false (sumsOf (Try.t25 l)) _ (sumsOf_ok (show AllS Try.prog (Try.t25 l) from ⟨Try.sum88 l, Try.sum87, trivial⟩))
theorem Try.al27 (l : List PgD) (h : okM l) (hl : okB l) (c : Cpu) (h0 : 0 ≤ c.pc) (h1 : c.pc < 4294967296) : Alone Try.prog 27 [cpuV c, refV l] (topV l c) ⟨0, []⟩ := by
  refine rootS_alone (Try.e27 l) (d := 5) (g := 27) (ls := lsumsOf []) (AllL.of0 (by kernel_rfl)) ((Try.w27 l c).trans ?_)
  have q4 := at4_rg c.pc
  rw [fetC_eq h hl h0 h1, fetC_eq h hl q4.1 q4.2]
  unfold topV topB topA
  cases hi : insB l c.pc with
  | false => rfl
  | true =>
    have hr := ret_eq (insO_bs hl c.pc) (insB_ok hi)
    rw [← insX_eq] at hr
    rw [← hr]
    cases isPush (insX l c.pc)
    · cases isRet (insX l c.pc)
      · cases isMov (insX l c.pc)
        · rfl
        · cases insB l (at4 c.pc)
          · rfl
          · cases hp : isPush (insX l (at4 c.pc)) with
            | false => cases (dLen (insO l (at4 c.pc)) == 4) <;> rfl
            | true =>
              have := hp
              rw [insX_eq] at this
              rw [push_len this]; rfl
      · rfl
    · rfl
def S27 (l : List PgD) (c : Cpu) (args : List AV) : Ans (AV × Heap) := match args with
  | [v, m] => .grd (isV v (cpuV c) && isV m (refV l)) (.br (topB l c) (.out (u32b (topA l c) true, ⟨0, []⟩)) (.out (u32b 0 false, ⟨0, []⟩)))
  | _ => .no
def Try.A27 (l : List PgD) (c : Cpu) : AFun := roA (S27 l c)
theorem Try.sum27 (l : List PgD) (h : okM l) (hl : okB l) (c : Cpu) (h0 : 0 ≤ c.pc) (h1 : c.pc < 4294967296) : SumC Try.prog 27 (Try.A27 l c) := by
  refine roSumR 27 ⟨Try.f27, _, Try.fnOk27.1, Try.fnOk27.2, rfl⟩ ?_
  intro args v h2 hs
  unfold S27 at hs
  split at hs
  · rename_i v0 m
    rw [gdB_run] at hs
    cases hb : (isV v0 (cpuV c) && isV m (refV l)) with
    | false => rw [hb] at hs; cases hs
    | true =>
      rw [hb] at hs
      rw [Bool.and_eq_true] at hb
      have e1 := isV_eq hb.1
      have e2 := isV_eq hb.2
      subst e1; subst e2
      have key := Try.al27 l h hl c h0 h1
      unfold topV at key
      cases g : topB l c <;> (rw [g] at hs key; have hs := Option.some.inj hs; injection hs with q1 q2; subst q1; subst q2; exact ⟨fun e he => by (cases he), key⟩)
  · cases hs
end Go.Ev
/- Walks of the specification: words and frames. -/
namespace Go.Ev
open Go.Proofs
def Try.E68 : Env := Try.env0 false (sumsOf []) (keepF 68 [(3, [0, 3, 4])])
def step68 (x b : Int) : Int := or32 (IntKind.u32.wrap (x * 256)) (IntKind.u32.wrap b)
def word68 (b0 b1 b2 b3 : Int) : Int := step68 (step68 (step68 (step68 0 b3) b2) b1) b0
theorem Try.w68 (b0 b1 b2 b3 : Int) : rootS Try.E68 5 68 (lsumsOf []) [.ro (.ints .u8 [b0, b1, b2, b3]) none] = some (.val (.int .u32 (word68 b0 b1 b2 b3)), ⟨0, []⟩) := by kernel_rfl
theorem or32_nat {x y : Nat} (hx : x < 4294967296) (hy : y < 4294967296) : or32 x y = ((x ||| y : Nat) : Int) := by
  unfold or32
  have e1 : (BitVec.ofInt 32 (x : Int)).toNat = x := by
    rw [BitVec.toNat_ofInt]; omega
  have e2 : (BitVec.ofInt 32 (y : Int)).toNat = y := by
    rw [BitVec.toNat_ofInt]; omega
  rw [BitVec.toNat_or, e1, e2, IntKind.wrap_u32]
  have : x ||| y < 2 ^ 32 := Nat.or_lt_two_pow hx hy
  omega
theorem or32_hi {k a b : Nat} (hb : b < 2 ^ k) (h : 2 ^ k * a + b < 4294967296) : or32 ((2 ^ k * a : Nat) : Int) b = ((2 ^ k * a + b : Nat) : Int) := by
  rw [or32_nat (by omega) (by omega), Nat.two_pow_add_eq_or_of_lt hb]
theorem or32_lo {k a b : Nat} (hb : b < 2 ^ k) (h : 2 ^ k * a + b < 4294967296) : or32 (b : Int) ((2 ^ k * a : Nat) : Int) = ((2 ^ k * a + b : Nat) : Int) := by
  rw [or32_nat (by omega) (by omega), Nat.or_comm, Nat.two_pow_add_eq_or_of_lt hb]
theorem u32_nat {x : Nat} (h : x < 4294967296) : IntKind.u32.wrap (x : Int) = x := by rw [IntKind.wrap_u32]; omega
theorem word68_eq {b0 b1 b2 b3 : Nat} (h0 : b0 < 256) (h1 : b1 < 256) (h2 : b2 < 256) (h3 : b3 < 256) : word68 b0 b1 b2 b3 = ((b0 + 256 * b1 + 65536 * b2 + 16777216 * b3 : Nat) : Int) := by
  have st : ∀ x b : Nat, b < 256 → x * 256 + b < 4294967296 → step68 x b = ((x * 256 + b : Nat) : Int) := fun x b hb h => by
    unfold step68
    rw [show (x : Int) * 256 = ((2 ^ 8 * x : Nat) : Int) by omega, u32_nat (by omega), u32_nat (by omega), or32_hi (k := 8) (by omega) (by omega)]
    omega
  unfold word68
  rw [show step68 0 (b3 : Int) = ((0 * 256 + b3 : Nat) : Int) from st 0 b3 h3 (by omega), st _ b2 h2 (by omega), st _ b1 h1 (by omega), st _ b0 h0 (by omega)]
  omega
theorem wordB_eq {O : List Int} {b0 b1 b2 b3 : Nat} (h0 : b0 < 256) (h1 : b1 < 256) (h2 : b2 < 256) (h3 : b3 < 256) (e0 : O.getD 0 0 = b0) (e1 : O.getD 1 0 = b1) (e2 : O.getD 2 0 = b2) (e3 : O.getD 3 0 = b3) : wordB O 0 = ((b0 + 256 * b1 + 65536 * b2 + 16777216 * b3 : Nat) : Int) := by
  unfold wordB
  rw [e0, e1, e2, e3, u32_nat (by omega), u32_nat (by omega), u32_nat (by omega), u32_nat (by omega), show (b1 : Int) * 256 = ((2 ^ 8 * b1 : Nat) : Int) by omega, show (b2 : Int) * 65536 = ((2 ^ 16 * b2 : Nat) : Int) by omega, show (b3 : Int) * 16777216 = ((2 ^ 24 * b3 : Nat) : Int) by omega,
    u32_nat (by omega), u32_nat (by omega), u32_nat (by omega), or32_lo (k := 8) (by omega) (by omega), or32_lo (k := 16) (by omega) (by omega), or32_lo (k := 24) (by omega) (by omega)]
  omega
theorem four {O : List Int} (h : O.length = 4) (hb : isBs O) : ∃ b0 b1 b2 b3 : Nat, O = [(b0 : Int), b1, b2, b3] ∧ b0 < 256 ∧ b1 < 256 ∧ b2 < 256 ∧ b3 < 256 := by
  match O, h with
  | [x0, x1, x2, x3], _ =>
    have q0 := hb 0
    have q1 := hb 1
    have q2 := hb 2
    have q3 := hb 3
    replace q0 : 0 ≤ x0 ∧ x0 < 256 := q0
    replace q1 : 0 ≤ x1 ∧ x1 < 256 := q1
    replace q2 : 0 ≤ x2 ∧ x2 < 256 := q2
    replace q3 : 0 ≤ x3 ∧ x3 < 256 := q3
    refine ⟨x0.toNat, x1.toNat, x2.toNat, x3.toNat, ?_, by omega, by omega, by omega, by omega⟩
    rw [Int.toNat_of_nonneg q0.1, Int.toNat_of_nonneg q1.1, Int.toNat_of_nonneg q2.1, Int.toNat_of_nonneg q3.1]
theorem Try.e68 : EnvOk2 Try.prog Try.E68 := Try.envOk false (sumsOf []) _ (fun g A h => by cases h)
theorem Try.al68 (O : List Int) (h : O.length = 4) (hb : isBs O) : Alone Try.prog 68 [.ro (.ints .u8 O) none] (.val (.int .u32 (wordB O 0))) ⟨0, []⟩ := by
  obtain ⟨b0, b1, b2, b3, rfl, h0, h1, h2, h3⟩ := four h hb
  refine rootS_alone Try.e68 (d := 5) (g := 68) (ls := lsumsOf []) (AllL.of1 (a := nthD .skip (loopsOf (bodyOf Try.E68 68)) 0) (by kernel_rfl) trivial) ((Try.w68 b0 b1 b2 b3).trans ?_)
  rw [word68_eq h0 h1 h2 h3, wordB_eq h0 h1 h2 h3 rfl rfl rfl rfl]
def S68 (args : List AV) : Ans (AV × Heap) := match args with
  | [.ro (.ints .u8 O) _] => .grd (Nat.beq O.length 4 && propB (isBs O)) (.out (.val (.int .u32 (wordB O 0)), ⟨0, []⟩))
  | _ => .no
def Try.A68 : AFun := roA S68
theorem Try.sum68 : SumC Try.prog 68 Try.A68 := by
  refine roSumR 68 ⟨Try.f68, _, Try.fnOk68.1, Try.fnOk68.2, rfl⟩ ?_
  intro args v h2 hs
  unfold S68 at hs
  split at hs
  · rename_i O cap
    rw [Ans.run_grd] at hs
    obtain ⟨hb, hz⟩ := grd_some hs
    rw [Bool.and_eq_true] at hb
    have hz := Option.some.inj hz
    injection hz with q1 q2
    subst q1; subst q2
    exact ⟨fun e he => (by cases he), Alone.argsW (AWs.args (.cons (AW.cap _ _) .nil)) (Try.al68 O (Nat.eq_of_beq_eq_true hb.1) (propB_eq hb.2))⟩
  · cases hs
def Try.t66 (l : List PgD) : List (Nat × AFun) := [(88, Try.A88 l), (68, Try.A68), (25, Try.A25 l)]
def Try.E66 (l : List PgD) : Env := Try.env0 false (sumsOf (Try.t66 l)) (keepF 66 [])
def lkV (x : UlD) (r s : Bool) : AV := .agg [.val (.int .u32 x.1), .val (.int .u32 x.2.1), .val (.int .u32 x.2.2), .val (.bool r), .val (.bool s)]
def g68 {α : Type} (O : List Int) (x : Option α) : Option α := bif Nat.beq O.length 4 && propB (isBs O) then x else none
def g25 {α : Type} (l : List PgD) (a : Int) (x : Option α) : Option α := bif isV (refV l) (refV l) && inU a then x else none
theorem Try.w66 (l : List PgD) (a : Int) : rootS (Try.E66 l) 5 66 (lsumsOf []) [refV l, .val (.int .u32 a)] =
 gU l a (bif (pcE l 1 a 4).2.2 then some (lkV (0, 0, 0) false false, ⟨0, []⟩) else g68 (rdE l a 4) (g25 l (wd l a) (bif siteB l (wd l a) then some (lkV (fndL l a) true true, ⟨0, []⟩) else some (lkV (0, 0, 0) true false, ⟨0, []⟩)))) := by kernel_rfl
theorem Try.e66 (l : List PgD) (h : okM l) (hl : okB l) : EnvOk2 Try.prog (Try.E66 l) := Try.envOk false (sumsOf (Try.t66 l)) _ (sumsOf_ok (show AllS Try.prog (Try.t66 l) from ⟨Try.sum88 l, Try.sum68, Try.sum25 l h hl, trivial⟩))
theorem g68_t {α : Type} {l : List PgD} (hl : okB l) {a : Int} (ha : 0 ≤ a) (x : Option α) : g68 (rdE l a 4) x = x := by
  unfold g68
  rw [rdE_len l ha (by omega), propB_t (rdE_bs hl a 4)]; rfl
theorem g25_t {α : Type} (l : List PgD) {a : Int} (h0 : 0 ≤ a) (h1 : a < 4294967296) (x : Option α) : g25 l a x = x := by
  unfold g25 inU
  rw [isV_refl, decide_eq_true h0, decide_eq_true h1]; rfl
def S66 (l : List PgD) (args : List AV) : Ans (AV × Heap) := match args with
  | [v, .val (.int .u32 a)] => .grd (isV v (refV l) && inU a) (.br (pcE l 1 a 4).2.2 (.out (lkV (0, 0, 0) false false, ⟨0, []⟩)) (.br (siteB l (wd l a)) (.out (lkV (fndL l a) true true, ⟨0, []⟩)) (.out (lkV (0, 0, 0) true false, ⟨0, []⟩))))
  | _ => .no
def Try.A66 (l : List PgD) : AFun := roA (S66 l)
theorem Try.sum66 (l : List PgD) (h : okM l) (hl : okB l) : SumC Try.prog 66 (Try.A66 l) := by
  refine roSumR 66 ⟨Try.f66, _, Try.fnOk66.1, Try.fnOk66.2, rfl⟩ ?_
  intro args v h2 hs
  unfold S66 at hs
  split at hs
  · rename_i v0 a
    rw [Ans.run_grd] at hs
    obtain ⟨hb, hz⟩ := grd_some hs
    unfold inU at hb
    simp only [Bool.and_eq_true, decide_eq_true_eq] at hb
    obtain ⟨b1, b2, b3⟩ := hb
    have e1 := isV_eq b1
    subst e1
    have run := fun v h2 => rootS_alone (Try.e66 l h hl) (d := 5) (g := 66) (ls := lsumsOf []) (args := [refV l, .val (.int .u32 a)]) (v := v) (h2 := h2) (AllL.of0 (by kernel_rfl))
    have key := Try.w66 l a
    rw [gU_t h b2 b3, g68_t hl b2, g25_t l (wd_nn l a) (wd_lt l a)] at key
    rw [Ans.run_br, Ans.run_br] at hz
    cases g1 : (pcE l 1 a 4).2.2 <;> cases g2 : siteB l (wd l a) <;> (rw [g1, g2] at hz; rw [g1, g2] at key; have hz := Option.some.inj hz; injection hz with q1 q2; subst q1; subst q2; exact ⟨fun e he => by (cases he), run _ _ key⟩)
  · cases hs
end Go.Ev
/- UnwindPrefixes: the walk. -/
namespace Go.Ev
open Go.Proofs
def cpu0 : Cpu := ⟨fun _ => 0, 0, 0, fun _ => 0⟩
theorem bne_self (a : Int) : (a != a) = false := by simp
def gV {α : Type} (a b : AV) (x : Option α) : Option α := bif isV a a && isV b b then x else none
end Go.Ev
/- UnwindPrefixes, for every input: the law answers true, and its arguments read as they did. -/
namespace Go.Ev
open Go.Proofs
theorem gV_t {α : Type} (a b : AV) (x : Option α) : gV a b x = x := by unfold gV; rw [isV_refl, isV_refl]; rfl
abbrev w32 : List Sh := [.int .u32, .int .u32, .int .u32, .int .u32]
abbrev vSh : Sh := .agg w32
abbrev cpuSh : Sh := .agg [.agg (w32 ++ w32 ++ w32 ++ w32), .int .u32, .int .i64, .agg [vSh, vSh, vSh, vSh, vSh, vSh, vSh, vSh]]
abbrev pgSh : Sh := .agg [.int .i64, .int .i64, .sl (.int .u8)]
section
variable {H : Type}
noncomputable def pgD (d : DataW H) : PgD := (intD (pAt d 0), intD (pAt d 1), (elemsD (pAt d 2)).map intD)
noncomputable def cpuD (d : DataW H) : Cpu := ⟨fun i => bif Nat.blt i 16 then intD (pAt (pAt d 0) i) else 0, intD (pAt d 1), intD (pAt d 2), fun i => intD (pAt (pAt (pAt d 3) (i / 4)) (i % 4))⟩
theorem avs_pg (d : DataW H) : avs pgSh d = pgRow (pgD d) := by
  simp only [avs, avsL, (headTail _).1, (headTail _).2]; rfl
theorem avs_pgs (l : List (DataW H)) : Con.tab (Sh.wd pgSh) l.length (fun i => avs pgSh (l.getD i .nil)) = PG.con (l.map pgD) := by
  unfold RowTy.con
  have e : (fun i => avs pgSh (l.getD i .nil)) = fun i => PG.row ((l.map pgD).getD i PG.z) := by
    funext i
    rw [avs_pg, List.getD_eq_getElem?_getD, List.getD_eq_getElem?_getD, List.getElem?_map]
    cases l[i]? <;> rfl
  rw [e, List.length_map]; rfl
theorem argA_pgs (d : DataW H) : argA (.sl pgSh) d = .ro (PG.con ((elemsD d).map pgD)) none := by rw [← avs_pgs]; rfl
theorem argA_cpu (d : DataW H) : argA cpuSh d = cpuV (cpuD d) := by
  show AV.agg (avsL _ (partsD d)) = _
  simp only [avs, avsL, (headTail _).1, (headTail _).2, List.cons_append, List.nil_append]
  rfl
theorem u8n_wf {d : DataW H} (h : wfD (.int .u8) d) : 0 ≤ intD d ∧ intD d ≤ 255 := by
  simp only [wfD, Lit.wf, IntKind.min, IntKind.max, IntKind.signed, IntKind.bits] at h
  simp at h
  omega
theorem u32n_wf {d : DataW H} (h : wfD (.int .u32) d) : 0 ≤ intD d ∧ intD d < 4294967296 := by
  simp only [wfD, Lit.wf, IntKind.min, IntKind.max, IntKind.signed, IntKind.bits] at h
  simp at h
  omega
theorem okB_wf {d : DataW H} (h : wfD (.sl pgSh) d) : okB ((elemsD d).map pgD) := by
  intro i
  rw [List.getD_eq_getElem?_getD, List.getElem?_map]
  simp only [wfD] at h
  cases hx : (elemsD d)[i]? with
  | none => exact fun j => ⟨Int.le_refl _, by show (0 : Int) < 256; decide⟩
  | some x =>
    have hm := h.2 x (List.mem_of_getElem? hx)
    simp only [wfDL, (headTail _).1, (headTail _).2] at hm
    have hb := hm.2.2.1
    simp only [wfD] at hb
    refine isBs_of (fun y hy => ?_)
    obtain ⟨z, hz, rfl⟩ := List.mem_map.1 hy
    have := u8n_wf (by simp only [wfD]; exact hb.2 z hz)
    omega
theorem wfDL_get : ∀ (s : List Sh) (ds : List (DataW H)) (i : Nat), wfDL s ds → ∀ x, s[i]? = some x → wfD x (ds.getD i .nil)
  | [], _, _, _, _, h => by simp at h
  | a :: s, ds, 0, h, x, hx => by
    simp only [wfDL, (headTail _).1] at h
    simp at hx; subst hx; exact h.1
  | a :: s, ds, i + 1, h, x, hx => by
    simp only [wfDL] at h
    rw [← (headTail ds).2 i]
    exact wfDL_get s ds.tail i h.2 x (by simpa using hx)
theorem cpu_wf {d : DataW H} (h : wfD cpuSh d) : 0 ≤ (cpuD d).pc ∧ ∀ i, 0 ≤ (cpuD d).r i ∧ (cpuD d).r i < 4294967296 := by
  simp only [wfD] at h
  refine ⟨(u32n_wf (wfDL_get _ _ 1 h _ rfl)).1, fun i => ?_⟩
  have h0 := wfDL_get _ _ 0 h _ rfl
  simp only [wfD] at h0
  show 0 ≤ (bif Nat.blt i 16 then intD (pAt (pAt d 0) i) else 0) ∧ (bif Nat.blt i 16 then intD (pAt (pAt d 0) i) else 0) < 4294967296
  rcases Nat.lt_or_ge i 16 with q | q
  · rw [blt_t q]
    refine u32n_wf (wfDL_get _ _ i h0 _ ?_)
    rcases i with _ | _ | _ | _ | _ | _ | _ | _ | _ | _ | _ | _ | _ | _ | _ | _ | i <;> first | rfl | omega
  · rw [blt_f q]; exact ⟨Int.le_refl _, by show (0 : Int) < 4294967296; decide⟩
end
end Go.Ev
namespace Go.Proofs.Ytemblfgjamapbaa
open Go.Ev
end Go.Proofs.Ytemblfgjamapbaa
/- Walks: frames found in a list; lists of frames cloned. -/
namespace Go.Ev
open Go.Proofs
end Go.Ev
/- UnwindScans: the walk. -/
namespace Go.Ev
open Go.Proofs
def n4 (n : Int) : Int := IntKind.i64.wrap (4 * n)
end Go.Ev
/- UnwindScans, for every input: the law answers true, and its arguments read as they did. -/
namespace Go.Ev
open Go.Proofs
end Go.Ev
namespace Go.Proofs.Ytemblfgjamapbaa
open Go.Ev
end Go.Proofs.Ytemblfgjamapbaa
/- Walks of the specification: frame pointers. -/
namespace Go.Ev
open Go.Proofs
def Try.t29 (l : List PgD) (c : Cpu) : List (Nat × AFun) := [(27, Try.A27 l c), (66, Try.A66 l), (88, Try.A88 l), (68, Try.A68)]
def k29 : List Nat := [1, 2, 9, 10, 14]
def o29 : List Nat := [6, 7, 8]
def Try.E29 (l : List PgD) (c : Cpu) : Env := Try.env0 false (sumsOf (Try.t29 l c)) (keepF 29 [(12, k29)])
def Try.b29 : Code := nthD .skip (loopsOf (bodyOf (Try.E29 [] cpu0) 29)) 0
def Try.s29n (l : List PgD) (most low f : Int) : St := stOf 108 k29 [refV l, .val (.int .i64 most), nilL, .val (.int .u64 low), .val (.int .u32 f)] ⟨0, []⟩
def Try.s29o (l : List PgD) (most low f : Int) (n : Nat) (con : Con) : St := stOf 108 k29 [refV l, .val (.int .i64 most), .own 0 0 n none 3, .val (.int .u64 low), .val (.int .u32 f)] ⟨1, [⟨0, 0, .cells con⟩]⟩
def Try.B29 (l : List PgD) (c : Cpu) (s : St) : Option (AX × St) := codeS (Try.E29 l c) (callF (Try.E29 l c) 5) ((Try.E29 l c).keep 29) (lsumsOf []) Try.b29 (outK k29 o29) s
def r29n (k : Int) : AX × St := (.ret, stOf 108 o29 [nilL, .val (.int .i64 k), .val (.int .i64 0)] ⟨0, []⟩)
def r29o (k : Int) (n : Nat) (con : Con) : AX × St := (.ret, stOf 108 o29 [.own 0 0 n none 3, .val (.int .i64 k), .val (.int .i64 0)] ⟨1, [⟨0, 0, .cells con⟩]⟩)
def q29 (l : List PgD) (most low f n : Int) (no : Int → Option (AX × St)) (go : Option (AX × St)) : Option (AX × St) :=
  bif decide (n ≥ most) then no 1 else bif f == 0 then no 2 else bif f.tmod 4 != 0 then no 3 else bif decide (IntKind.u64.wrap f < low) then no 4 else
  gU l f (bif (pcE l 1 f 8).2.2 then no 5 else bif decide (up8 f > 4294967296) then no 5 else
   g25 l (up4 f) (bif (pcE l 1 (up4 f) 4).2.2 then no 6 else bif siteB l (wd l (up4 f)) then go else no 6))
def f29 (O : List Int) (x : Option (AX × St)) : Option (AX × St) := bif decide ((4 : Int) ≤ (O.length : Int)) then g68 (List.take 4 (List.drop 0 O)) x else none
def w8w (l : List PgD) (f : Int) : Int := wordB (List.take 4 (List.drop 0 (rdE l f 8))) 0
theorem Try.r29a (l : List PgD) (c : Cpu) (most low f : Int) : Try.B29 l c (Try.s29n l most low f) =
 q29 l most low f 0 (fun k => some (r29n k)) (f29 (rdE l f 8) (some (.normal, Try.s29o l most (up8 f) (w8w l f) 1 (.rows true 3 [ulRow (fndL l (up4 f))])))) := by kernel_rfl
theorem Try.r29b (l : List PgD) (c : Cpu) (most low f : Int) (O : List UlD) : Try.B29 l c (Try.s29o l most low f O.length (UL.con O)) =
 q29 l most low f O.length (fun k => some (r29o k O.length (UL.con O))) (bif (0 + O.length).ble O.length then (bif ((O.length + 1) * 12).ble Ev.most && (O.length + 1).ble Ev.most then f29 (rdE l f 8) (some (.normal, Try.s29o l most (up8 f) (w8w l f) (O.length + 1) (UL.cat1 O (fndL l (up4 f))))) else none) else none) := by kernel_rfl
theorem rdE_get (l : List PgD) {a n : Int} (ha : 0 ≤ a) (hn : 0 < n) {i : Nat} (hi : (i : Int) < pcK a n) : (rdE l a n).getD i 0 = (pgX l (pcQ a)).2.2.getD ((pcF a).toNat + i) 0 := by
  unfold rdE
  obtain ⟨k, hk⟩ : ∃ k, n.toNat = k + 1 := ⟨n.toNat - 1, by omega⟩
  rw [hk, rdW_step (by omega)]
  have h1 := pcC_eq (n := n) ha hn
  rw [List.getD_eq_getElem?_getD, List.getElem?_append_left (by rw [gB_len]; omega)]
  unfold gB
  rw [List.getElem?_map, List.getElem?_range (by omega)]
  rfl
theorem wordB_congr {O R : List Int} (h : ∀ i, i < 4 → O.getD i 0 = R.getD i 0) : wordB O 0 = wordB R 0 := by
  unfold wordB
  rw [h 0 (by omega), h (0 + 1) (by omega), h (0 + 2) (by omega), h (0 + 3) (by omega)]
theorem take_getD (R : List Int) {i : Nat} (hi : i < 4) : (List.take 4 (List.drop 0 R)).getD i 0 = R.getD i 0 := by
  rw [List.drop_zero, List.getD_eq_getElem?_getD, List.getD_eq_getElem?_getD, List.getElem?_take, if_pos hi]
theorem w8w_eq (l : List PgD) {f : Int} (h0 : 0 ≤ f) (h4 : f % 4 = 0) : w8w l f = wd l f := by
  unfold w8w wd
  refine wordB_congr fun i hi => ?_
  have a := pcK_def (a := f) (n := 4) h0 (by omega)
  have b := pcK_def (a := f) (n := 8) h0 (by omega)
  rw [take_getD _ hi, rdE_get l h0 (by omega) (by split at b <;> omega), rdE_get l h0 (by omega) (by split at a <;> omega)]
theorem f29_t {l : List PgD} (hl : okB l) {f : Int} (h0 : 0 ≤ f) (x : Option (AX × St)) : f29 (rdE l f 8) x = x := by
  have e := rdE_len l (n := 8) h0 (by omega)
  have hb := rdE_bs hl f 8
  unfold f29 g68
  rw [decide_eq_true (show (4 : Int) ≤ ((rdE l f 8).length : Int) by omega), List.drop_zero, List.length_take, show Nat.beq (min 4 (rdE l f 8).length) 4 = true by rw [e]; rfl, propB_t (show isBs ((rdE l f 8).take 4) from isBs_of fun x hx => rdW_bs hl _ _ _ x (List.mem_of_mem_take hx))]
  rfl
theorem pcE_less {l : List PgD} {need a : Int} (h0 : 0 ≤ a) (h1 : a < 4294967296) (h : (pcE l need a 8).2.2 = false) : (pcE l need a 4).2.2 = false :=
  (pcE_good l need a 4 h0 h1 (by omega)).2 fun i hi => (pcE_good l need a 8 h0 h1 (by omega)).1 h i (by omega)
theorem q29_eq {l : List PgD} (h : okM l) (most low f : Int) (n : Nat) (hn : (n : Int) ≤ most) (h0 : 0 ≤ f) (h1 : f < 4294967296) (no : Int → Option (AX × St)) (go : Option (AX × St)) :
    q29 l most low f n no go = bif wkGo l low f most n then go else no (wkStop l low f most n) := by
  have u := adr_rg f 4
  rw [← up4_adr] at u
  unfold q29 wkGo wkStop wk5 fndB wOk
  rw [gU_t h h0 h1, g25_t l u.1 u.2, show decide ((n : Int) ≥ most) = ((n : Int) == most) by rw [Bool.eq_iff_iff]; simp; omega]
  cases (n : Int) == most with
  | true => rfl
  | false =>
  cases f == 0 with
  | true => rfl
  | false =>
  cases f.tmod 4 != 0 with
  | true => rfl
  | false =>
  cases decide (IntKind.u64.wrap f < low) with
  | true => rfl
  | false =>
  cases h8 : (pcE l 1 f 8).2.2 with
  | true => cases (pcE l 1 f 4).2.2 <;> rfl
  | false =>
    rw [pcE_less h0 h1 h8]
    cases decide (up8 f > 4294967296) with
    | true => rfl
    | false =>
      cases (pcE l 1 (up4 f) 4).2.2 with
      | true => rfl
      | false => cases siteB l (wd l (up4 f)) <;> rfl
theorem wkGo_mod {l : List PgD} {low f most n : Int} (h0 : 0 ≤ f) (h : wkGo l low f most n = true) : f % 4 = 0 := by
  unfold wkGo wkStop at h
  cases a1 : n == most <;> rw [a1] at h
  case true => cases h
  cases a2 : f == 0 <;> rw [a2] at h
  case true => cases h
  cases a3 : f.tmod 4 != 0 <;> rw [a3] at h
  case true => cases h
  rw [bne, Bool.not_eq_false', beq_iff_eq, Int.tmod_eq_emod_of_nonneg h0] at a3
  exact a3
def Try.P29 (l : List PgD) (most low f : Int) : List UlD → St
  | [] => Try.s29n l most low f
  | x :: O => Try.s29o l most low f (x :: O).length (UL.con (x :: O))
def x29 (k : Int) : List UlD → AX × St
  | [] => r29n k
  | x :: O => r29o k (x :: O).length (UL.con (x :: O))
theorem Try.P29_ok (l : List PgD) (most low f : Int) (O : List UlD) : (Try.P29 l most low f O).h.ok := by
  cases O
  · exact heap0_ok
  · exact oneB_ok _
theorem Try.P29_snoc (l : List PgD) (most low f : Int) (O : List UlD) (x : UlD) : Try.P29 l most low f (O ++ [x]) = Try.s29o l most low f (O.length + 1) (UL.con (O ++ [x])) := by
  have e : ∀ L : List UlD, L ≠ [] → Try.P29 l most low f L = Try.s29o l most low f L.length (UL.con L) := fun L h => by
    cases L with
    | nil => exact absurd rfl h
    | cons => rfl
  rw [e _ (by simp), List.length_append]; rfl
theorem x29_ok (k : Int) (O : List UlD) : (x29 k O).2.h.ok := by
  cases O
  · exact heap0_ok
  · exact oneB_ok _
theorem x29_1 (k : Int) (O : List UlD) : (x29 k O).1 = .ret := by cases O <;> rfl
theorem Try.r29t {l : List PgD} (h : okM l) (hl : okB l) (c : Cpu) (most low f : Int) (h0 : 0 ≤ f) (h1 : f < 4294967296) (O : List UlD) (hO : (O.length : Int) ≤ most) (hm2 : most ≤ 1000) :
    (wkGo l low f most O.length = true ∧ ∃ s1, Try.B29 l c (Try.P29 l most low f O) = some (.normal, s1) ∧ Weak s1 (Try.P29 l most (up8 f) (wd l f) (O ++ [fndL l (up4 f)]))) ∨
    (wkGo l low f most O.length = false ∧ Try.B29 l c (Try.P29 l most low f O) = some (x29 (wkStop l low f most O.length) O)) := by
  have hm := most_eq
  cases hg : wkGo l low f most O.length with
  | true =>
    refine .inl ⟨rfl, ?_⟩
    have hf := wkGo_mod h0 hg
    rw [Try.P29_snoc]
    cases O with
    | nil =>
      refine ⟨Try.s29o l most (up8 f) (wd l f) 1 (.rows true 3 [ulRow (fndL l (up4 f))]), (Try.r29a l c most low f).trans ?_, Weak.heap (oneB_ok _) (.con 0 0 0 rfl (ul_one _) (EsW.refl _))⟩
      refine (q29_eq h most low f 0 hO h0 h1 _ _).trans ?_
      replace hg : wkGo l low f most (0 : Nat) = true := hg
      rw [hg, f29_t hl h0, w8w_eq l h0 hf]; rfl
    | cons x O =>
      refine ⟨Try.s29o l most (up8 f) (wd l f) ((x :: O).length + 1) (UL.cat1 (x :: O) (fndL l (up4 f))), (Try.r29b l c most low f (x :: O)).trans ?_, Weak.heap (oneB_ok _) (.con 0 0 0 rfl (UL.snoc (x :: O) _) (EsW.refl _))⟩
      refine (q29_eq h most low f _ hO h0 h1 _ _).trans ?_
      rw [hg, f29_t hl h0, w8w_eq l h0 hf, Nat.zero_add, ble_t (Nat.le_refl _), ble_t (show ((x :: O).length + 1) * 12 ≤ Ev.most by omega), ble_t (show (x :: O).length + 1 ≤ Ev.most by omega)]
      rfl
  | false =>
    refine .inr ⟨rfl, ?_⟩
    cases O with
    | nil =>
      refine (Try.r29a l c most low f).trans ((q29_eq h most low f 0 hO h0 h1 _ _).trans ?_)
      replace hg : wkGo l low f most (0 : Nat) = false := hg
      rw [hg]; rfl
    | cons x O =>
      refine (Try.r29b l c most low f (x :: O)).trans ((q29_eq h most low f _ hO h0 h1 _ _).trans ?_)
      rw [hg]; rfl
end Go.Ev
/- Walks of the specification: Walk. -/
namespace Go.Ev
open Go.Proofs
def top29 (l : List PgD) (c : Cpu) (most : Int) : Bool := topB l c && (decide (most > 0) && fndB l (topA l c))
def Try.sN29 (l : List PgD) (c : Cpu) (most : Int) : St := Try.s29n l most (low0 c) (c.r 14)
def Try.sO29 (l : List PgD) (c : Cpu) (most : Int) : St := Try.s29o l most (low1 l c) (c.r 14) 1 (.rows true 3 [ulRow (fndL l (topA l c))])
def Try.s029 (l : List PgD) (c : Cpu) (most : Int) : St := bif top29 l c most then Try.sO29 l c most else Try.sN29 l c most
def pre29 (c : Cpu) (most : Int) : Prop := 0 ≤ most ∧ most ≤ 1000 ∧ ∀ i, 0 ≤ c.r i ∧ c.r i < 4294967296
def Try.L29 (l : List PgD) (c : Cpu) (most : Int) : LSum := atL (Try.s029 l c most) (.grd (propB (pre29 c most)) (.br (isE (walkR l c most).2.2) (.out (r29n (walkR l c most).1)) (.out (r29o (walkR l c most).1 (walkR l c most).2.2.length (UL.con (walkR l c most).2.2)))))
def Try.z29 (l : List PgD) (c : Cpu) (most : Int) (s : St) : Option (AV × Heap) := bif isSt s (Try.s029 l c most) then (bif propB (pre29 c most) then (bif isE (walkR l c most).2.2 then some (wkNil (walkR l c most)) else some (wkOut (walkR l c most))) else none) else none
theorem Try.w29 (l : List PgD) (c : Cpu) (most : Int) : rootS (Try.E29 l c) 5 29 (lsumsOf [(12, Try.L29 l c most)]) [cpuV c, refV l, .val (.int .i64 most)] =
    bif decide (most < 0) then some wkBad else bif decide (most > 1000) then some wkBad else
    gV (cpuV c) (refV l) (bif topB l c then (bif decide (most > 0) then g25 l (topA l c) (bif (pcE l 1 (topA l c) 4).2.2 then Try.z29 l c most (Try.sN29 l c most) else bif siteB l (wd l (topA l c)) then Try.z29 l c most (Try.sO29 l c most) else Try.z29 l c most (Try.sN29 l c most)) else Try.z29 l c most (Try.sN29 l c most)) else Try.z29 l c most (Try.sN29 l c most)) := by kernel_rfl
theorem Try.e29 (l : List PgD) (h : okM l) (hl : okB l) (c : Cpu) (h0 : 0 ≤ c.pc) (h1 : c.pc < 4294967296) : EnvOk2 Try.prog (Try.E29 l c) := Try.envOk false (sumsOf (Try.t29 l c)) _ (sumsOf_ok (show AllS Try.prog (Try.t29 l c) from ⟨Try.sum27 l h hl c h0 h1, Try.sum66 l h hl, Try.sum88 l, Try.sum68, trivial⟩))
theorem Try.l29x (l : List PgD) (h : okM l) (hl : okB l) (c : Cpu) (h0 : 0 ≤ c.pc) (h1 : c.pc < 4294967296) (most : Int) (hm0 : 0 ≤ most) (hm : most ≤ 1000) (k : Nat) (low f : Int) (O : List UlD) (hf0 : 0 ≤ f) (hf1 : f < 4294967296) (hO : O.length + k = most.toNat) (s0 : St) (A : Ans (AX × St)) (hw : Weak s0 (Try.P29 l most low f O))
    (hA : ∀ e s', A.run = some (e, s') → x29 (walkM l most k low f O).1 (walkM l most k low f O).2.2 = (e, s')) : ∀ s e s', s.h.ok → (atL s0 A s).run = some (e, s') → Triple Try.prog (.loop Try.b29) s e s' := by
  refine loop_at (Try.e29 l h hl c h0 h1) (d := 5) (g := 29) (ls := lsumsOf []) (c := Try.b29) trivial k29 o29 (T := WkT)
    (fun t => Try.P29 l most t.low t.f t.O) (fun t => 0 ≤ t.f ∧ t.f < 4294967296 ∧ t.O.length + t.k = most.toNat) (fun t => t.k) (fun t => x29 (walkM l most t.k t.low t.f t.O).1 (walkM l most t.k t.low t.f t.O).2.2) s0 A ⟨k, low, f, O⟩ ⟨hf0, hf1, hO⟩ hw hA (fun t _ => Try.P29_ok _ _ _ _ _) ?_
  rintro ⟨k, low, f, O⟩ ⟨g0, g1, g2⟩
  replace g0 : 0 ≤ f := g0
  replace g1 : f < 4294967296 := g1
  replace g2 : O.length + k = most.toNat := g2
  rcases Try.r29t h hl c most low f g0 g1 O (by omega) hm with ⟨hg, s1, r, hw⟩ | ⟨hg, r⟩
  · have := wkGo_most hg
    obtain ⟨k, rfl⟩ : ∃ j, k = j + 1 := ⟨k - 1, by omega⟩
    refine .inl ⟨⟨k, up8 f, wd l f, O ++ [fndL l (up4 f)]⟩, s1, r, hw, ⟨wd_nn l f, wd_lt l f, ?_⟩, by show k < k + 1; omega, ?_⟩
    · show (O ++ [fndL l (up4 f)]).length + k = most.toNat
      rw [List.length_append]
      show O.length + 1 + k = _
      omega
    · show x29 (walkM l most k (up8 f) (wd l f) (O ++ [fndL l (up4 f)])).1 _ = x29 (walkM l most (k + 1) low f O).1 _
      rw [walkM_go hg]
  · refine .inr ?_
    show ∃ s1, _ = some ((x29 (walkM l most k low f O).1 (walkM l most k low f O).2.2).1, s1) ∧ Weak s1 (x29 (walkM l most k low f O).1 (walkM l most k low f O).2.2).2 ∧ (x29 (walkM l most k low f O).1 (walkM l most k low f O).2.2).1 ≠ .normal
    rw [walkM_no hg]
    exact ⟨_, r, Weak.refl (x29_ok _ _), by rw [x29_1]; simp⟩
theorem Try.l29 (l : List PgD) (h : okM l) (hl : okB l) (c : Cpu) (h0 : 0 ≤ c.pc) (h1 : c.pc < 4294967296) (most : Int) : ∀ s e s', s.h.ok → (Try.L29 l c most s).run = some (e, s') → Triple Try.prog (.loop Try.b29) s e s' := by
  refine atL_grd (fun hp => ?_)
  obtain ⟨m0, m1, hr⟩ := propB_eq hp
  have run : ∀ (e : AX) (s' : St), (Ans.br (isE (walkR l c most).2.2) (.out (r29n (walkR l c most).1)) (.out (r29o (walkR l c most).1 (walkR l c most).2.2.length (UL.con (walkR l c most).2.2)))).run = some (e, s') → x29 (walkR l c most).1 (walkR l c most).2.2 = (e, s') := by
    intro e s' h
    rw [Ans.run_br] at h
    generalize walkR l c most = w at h ⊢
    obtain ⟨k, low, W⟩ := w
    cases W <;> exact Option.some.inj h
  unfold Try.s029
  cases ht : top29 l c most with
  | false =>
    have e : walkR l c most = wkR l most (low0 c) (c.r 14) := by unfold walkR; unfold top29 at ht; rw [ht]; rfl
    rw [e] at run ⊢
    exact Try.l29x l h hl c h0 h1 most m0 m1 most.toNat (low0 c) (c.r 14) [] (hr 14).1 (hr 14).2 (by show 0 + most.toNat = most.toNat; omega) _ _ (Weak.refl heap0_ok) run
  | true =>
    have e : walkR l c most = wkR1 l most (low1 l c) (c.r 14) (fndL l (topA l c)) := by unfold walkR; unfold top29 at ht; rw [ht]; rfl
    have hm : most > 0 := by
      unfold top29 at ht
      simp only [Bool.and_eq_true, decide_eq_true_eq] at ht
      exact ht.2.1
    rw [e] at run ⊢
    exact Try.l29x l h hl c h0 h1 most m0 m1 (most.toNat - 1) (low1 l c) (c.r 14) [_] (hr 14).1 (hr 14).2 (by show 1 + (most.toNat - 1) = most.toNat; omega) _ _ (Weak.heap (oneB_ok _) (.con 0 0 0 rfl (ul_one _) (EsW.refl _))) run
theorem wkOut_al' {g : Nat} {args : List AV} (t : Int × Int × List UlD) (h : Alone Try.prog g args (wkOut t).1 (wkOut t).2) : Alone Try.prog g args (wkV t) ⟨0, []⟩ :=
  Alone.fz1 (con := UL.con t.2.2) rfl rfl (.tup (.cons (.inr (.inl ⟨none, rfl, rfl⟩)) (FzL.refl _ _ _))) h
theorem wkNil_al' {g : Nat} {args : List AV} (t : Int × Int × List UlD) (ht : isE t.2.2 = true) (h : Alone Try.prog g args (wkNil t).1 (wkNil t).2) : Alone Try.prog g args (wkV t) ⟨0, []⟩ := by
  obtain ⟨k, low, O⟩ := t
  cases O with
  | nil => exact Alone.resW (AW.tup (.cons (AW.nil rfl) (AWs.refl _))) h
  | cons x O => cases ht
theorem Try.al29 (l : List PgD) (h : okM l) (hl : okB l) (c : Cpu) (h0 : 0 ≤ c.pc) (h1 : c.pc < 4294967296) (hr : ∀ i, 0 ≤ c.r i ∧ c.r i < 4294967296) (most : Int) : Alone Try.prog 29 [cpuV c, refV l, .val (.int .i64 most)] (walkV l c most) ⟨0, []⟩ := by
  have run := fun v h2 => rootS_alone (Try.e29 l h hl c h0 h1) (d := 5) (g := 29) (ls := lsumsOf [(12, Try.L29 l c most)]) (args := [cpuV c, refV l, .val (.int .i64 most)]) (v := v) (h2 := h2) (AllL.of1 (a := Try.b29) (by kernel_rfl) (LsOk.of rfl rfl (Try.l29 l h hl c h0 h1 most)))
  have key := Try.w29 l c most
  unfold walkV
  by_cases g1 : most < 0
  · rw [decide_eq_true g1] at key ⊢
    exact run _ _ key
  by_cases g2 : most > 1000
  · rw [decide_eq_false g1, decide_eq_true g2] at key ⊢
    exact run _ _ key
  have ht := topA_rg l (hr 15).1 (hr 15).2
  rw [decide_eq_false g1, decide_eq_false g2, gV_t, g25_t l ht.1 ht.2] at key
  rw [decide_eq_false g1, decide_eq_false g2]
  show Alone _ _ _ (wkV (walkR l c most)) _
  have fin : rootS (Try.E29 l c) 5 29 (lsumsOf [(12, Try.L29 l c most)]) [cpuV c, refV l, .val (.int .i64 most)] = (bif isE (walkR l c most).2.2 then some (wkNil (walkR l c most)) else some (wkOut (walkR l c most))) → Alone Try.prog 29 [cpuV c, refV l, .val (.int .i64 most)] (wkV (walkR l c most)) ⟨0, []⟩ := fun k => by
    cases he : isE (walkR l c most).2.2 with
    | true => rw [he] at k; exact wkNil_al' _ he (run _ _ k)
    | false => rw [he] at k; exact wkOut_al' _ (run _ _ k)
  have hp : propB (pre29 c most) = true := propB_t ⟨by omega, by omega, hr⟩
  refine fin (key.trans ?_)
  have zN : top29 l c most = false → Try.z29 l c most (Try.sN29 l c most) = (bif isE (walkR l c most).2.2 then some (wkNil (walkR l c most)) else some (wkOut (walkR l c most))) := fun q => by
    unfold Try.z29 Try.s029
    rw [q, cond_false, isSt_refl, hp]; rfl
  have zO : top29 l c most = true → Try.z29 l c most (Try.sO29 l c most) = (bif isE (walkR l c most).2.2 then some (wkNil (walkR l c most)) else some (wkOut (walkR l c most))) := fun q => by
    unfold Try.z29 Try.s029
    rw [q, cond_true, isSt_refl, hp]; rfl
  unfold top29 fndB wOk at zN zO
  cases k1 : topB l c <;> rw [k1] at zN zO
  · exact zN rfl
  cases k2 : decide (most > 0) <;> rw [k2] at zN zO
  · exact zN rfl
  cases k3 : (pcE l 1 (topA l c) 4).2.2 <;> rw [k3] at zN zO
  · cases k4 : siteB l (wd l (topA l c)) <;> rw [k4] at zN zO
    · exact zN rfl
    · exact zO rfl
  · exact zN rfl
end Go.Ev
/- Walks of the specification: Scan. -/
namespace Go.Ev
open Go.Proofs
def Try.t32 (l : List PgD) : List (Nat × AFun) := [(66, Try.A66 l)]
def k32 : List Nat := [0, 1, 2, 8, 9]
def o32 : List Nat := [6, 7, 8]
def Try.E32 (l : List PgD) : Env := Try.env0 false (sumsOf (Try.t32 l)) (keepF 32 [(5, k32)])
def Try.b32 : Code := nthD .skip (loopsOf (bodyOf (Try.E32 []) 32)) 0
def Try.s32n (l : List PgD) (a n i : Int) : St := stOf 46 k32 [refV l, .val (.int .u32 a), .val (.int .i64 n), nilL, .val (.int .i64 i)] ⟨0, []⟩
def Try.s32o (l : List PgD) (a n i : Int) (N : Nat) (con : Con) : St := stOf 46 k32 [refV l, .val (.int .u32 a), .val (.int .i64 n), .own 0 0 N none 3, .val (.int .i64 i)] ⟨1, [⟨0, 0, .cells con⟩]⟩
def Try.B32 (l : List PgD) (s : St) : Option (AX × St) := codeS (Try.E32 l) (callF (Try.E32 l) 5) ((Try.E32 l).keep 32) (lsumsOf []) Try.b32 (outK k32 o32) s
def t32n : AX × St := (.ret, stOf 46 o32 [nilL, .val (.int .i64 0), nilL] ⟨0, []⟩)
def t32o (N : Nat) (con : Con) : AX × St := (.ret, stOf 46 o32 [.own 0 0 N none 3, .val (.int .i64 0), .own 0 0 N none 3] ⟨1, [⟨0, 0, .cells con⟩]⟩)
def e32n : AX × St := (.exit 0, stOf 46 [8] [nilL] ⟨0, []⟩)
def e32o (N : Nat) (con : Con) : AX × St := (.exit 0, stOf 46 [8] [.own 0 0 N none 3] ⟨1, [⟨0, 0, .cells con⟩]⟩)
def x32 (a i : Int) : Int := IntKind.u32.wrap (a + IntKind.u32.wrap (n4 i))
def q32 (l : List PgD) (a n i : Int) (rt ex yes no : Option (AX × St)) : Option (AX × St) :=
  bif decide (i < n) then g25 l (x32 a i) (bif (pcE l 1 (x32 a i) 4).2.2 then rt else bif siteB l (wd l (x32 a i)) then yes else no) else ex
theorem Try.r32a (l : List PgD) (a n i : Int) : Try.B32 l (Try.s32n l a n i) =
 q32 l a n i (some t32n) (some e32n) (some (.normal, Try.s32o l a n (IntKind.i64.wrap (i + 1)) 1 (.rows true 3 [ulRow (fndL l (x32 a i))]))) (some (.normal, Try.s32n l a n (IntKind.i64.wrap (i + 1)))) := by kernel_rfl
theorem Try.r32b (l : List PgD) (a n i : Int) (O : List UlD) : Try.B32 l (Try.s32o l a n i O.length (UL.con O)) =
 q32 l a n i (some (t32o O.length (UL.con O))) (some (e32o O.length (UL.con O))) (bif (0 + O.length).ble O.length then (bif ((O.length + 1) * 12).ble Ev.most && (O.length + 1).ble Ev.most then some (.normal, Try.s32o l a n (IntKind.i64.wrap (i + 1)) (O.length + 1) (UL.cat1 O (fndL l (x32 a i)))) else none) else none) (some (.normal, Try.s32o l a n (IntKind.i64.wrap (i + 1)) O.length (UL.con O))) := by kernel_rfl
def scanT (l : List PgD) : Nat → Int → Bool
  | 0, _ => false
  | k + 1, a => bif wOk l a then scanT l k (up4 a) else true
def Try.P32 (l : List PgD) (a n i : Int) : List UlD → St
  | [] => Try.s32n l a n i
  | x :: O => Try.s32o l a n i (x :: O).length (UL.con (x :: O))
def x32t : List UlD → AX × St
  | [] => t32n
  | x :: O => t32o (x :: O).length (UL.con (x :: O))
def x32e : List UlD → AX × St
  | [] => e32n
  | x :: O => e32o (x :: O).length (UL.con (x :: O))
def z32 (b : Bool) (O : List UlD) : AX × St := bif b then x32t O else x32e O
def Try.L32 (l : List PgD) (a n : Int) : LSum := atL (Try.s32n l a n 0) (.grd (inU a && (decide (0 ≤ n) && decide (n ≤ 4096))) (.br (scanT l n.toNat a) (.br (isE (scanL l a n)) (.out t32n) (.out (t32o (scanL l a n).length (UL.con (scanL l a n))))) (.br (isE (scanL l a n)) (.out e32n) (.out (e32o (scanL l a n).length (UL.con (scanL l a n)))))))
theorem Try.P32_ok (l : List PgD) (a n i : Int) (O : List UlD) : (Try.P32 l a n i O).h.ok := by
  cases O
  · exact heap0_ok
  · exact oneB_ok _
theorem z32_ok (b : Bool) (O : List UlD) : (z32 b O).2.h.ok := by
  cases b <;> cases O <;> first | exact heap0_ok | exact oneB_ok _
theorem z32_1 (b : Bool) (O : List UlD) : (z32 b O).1 ≠ .normal := by cases b <;> cases O <;> (intro h; cases h)
theorem Try.P32_snoc (l : List PgD) (a n i : Int) (O : List UlD) (x : UlD) : Try.P32 l a n i (O ++ [x]) = Try.s32o l a n i (O.length + 1) (UL.con (O ++ [x])) := by
  have e : ∀ L : List UlD, L ≠ [] → Try.P32 l a n i L = Try.s32o l a n i L.length (UL.con L) := fun L h => by
    cases L with
    | nil => exact absurd rfl h
    | cons => rfl
  rw [e _ (by simp), List.length_append]; rfl
theorem x32_eq {a i : Int} (h0 : 0 ≤ i) (h1 : i ≤ 4096) : x32 a i = adr a (4 * i.toNat) := by
  have e : n4 i = 4 * i := by unfold n4; rw [wrap64 _ (by omega) (by omega)]
  unfold x32 adr
  rw [e, IntKind.wrap_u32, IntKind.wrap_u32]; omega
theorem Try.r32t {l : List PgD} (a n i : Int) (h0 : 0 ≤ i) (h1 : i < n) (h2 : n ≤ 4096) (O : List UlD) (hO : O.length ≤ 5000) :
    (wOk l (x32 a i) = true ∧ ∃ s1, Try.B32 l (Try.P32 l a n i O) = some (.normal, s1) ∧ Weak s1 (Try.P32 l a n (i + 1) (bif siteB l (wd l (x32 a i)) then O ++ [fndL l (x32 a i)] else O))) ∨
    (wOk l (x32 a i) = false ∧ Try.B32 l (Try.P32 l a n i O) = some (x32t O)) := by
  have hm := most_eq
  have ew : IntKind.i64.wrap (i + 1) = i + 1 := wrap64 _ (by omega) (by omega)
  have r := adr_rg a (4 * i.toNat)
  rw [← x32_eq h0 (by omega)] at r
  have hq : ∀ rt ex yes no, q32 l a n i rt ex yes no = bif wOk l (x32 a i) then (bif siteB l (wd l (x32 a i)) then yes else no) else rt := fun rt ex yes no => by
    unfold q32 wOk
    rw [decide_eq_true h1, g25_t l r.1 r.2]
    cases (pcE l 1 (x32 a i) 4).2.2 <;> rfl
  cases hg : wOk l (x32 a i) with
  | false =>
    refine .inr ⟨rfl, ?_⟩
    cases O with
    | nil => refine (Try.r32a l a n i).trans ((hq _ _ _ _).trans ?_); rw [hg]; rfl
    | cons x O => refine (Try.r32b l a n i (x :: O)).trans ((hq _ _ _ _).trans ?_); rw [hg]; rfl
  | true =>
    refine .inl ⟨rfl, ?_⟩
    cases hs : siteB l (wd l (x32 a i)) with
    | false =>
      refine ⟨Try.P32 l a n (i + 1) O, ?_, Weak.refl (Try.P32_ok _ _ _ _ _)⟩
      cases O with
      | nil => refine (Try.r32a l a n i).trans ((hq _ _ _ _).trans ?_); rw [hg, hs, ew]; rfl
      | cons x O => refine (Try.r32b l a n i (x :: O)).trans ((hq _ _ _ _).trans ?_); rw [hg, hs, ew]; rfl
    | true =>
      rw [cond_true, Try.P32_snoc]
      cases O with
      | nil =>
        refine ⟨Try.s32o l a n (i + 1) 1 (.rows true 3 [ulRow (fndL l (x32 a i))]), (Try.r32a l a n i).trans ((hq _ _ _ _).trans ?_), Weak.heap (oneB_ok _) (.con 0 0 0 rfl (ul_one _) (EsW.refl _))⟩
        rw [hg, hs, ew]; rfl
      | cons x O =>
        refine ⟨Try.s32o l a n (i + 1) ((x :: O).length + 1) (UL.cat1 (x :: O) (fndL l (x32 a i))), (Try.r32b l a n i (x :: O)).trans ((hq _ _ _ _).trans ?_), Weak.heap (oneB_ok _) (.con 0 0 0 rfl (UL.snoc (x :: O) _) (EsW.refl _))⟩
        rw [hg, hs, ew, Nat.zero_add, ble_t (Nat.le_refl _), ble_t (show ((x :: O).length + 1) * 12 ≤ Ev.most by omega), ble_t (show (x :: O).length + 1 ≤ Ev.most by omega)]
        rfl
theorem Try.e32 (l : List PgD) (h : okM l) (hl : okB l) : EnvOk2 Try.prog (Try.E32 l) := Try.envOk false (sumsOf (Try.t32 l)) _ (sumsOf_ok (show AllS Try.prog (Try.t32 l) from ⟨Try.sum66 l h hl, trivial⟩))
theorem Try.l32 (l : List PgD) (h : okM l) (hl : okB l) (a n : Int) : ∀ s e s', s.h.ok → (Try.L32 l a n s).run = some (e, s') → Triple Try.prog (.loop Try.b32) s e s' := by
  refine atL_grd (fun hp => ?_)
  unfold inU at hp
  simp only [Bool.and_eq_true, decide_eq_true_eq] at hp
  obtain ⟨⟨ha0, ha1⟩, h0, h1⟩ := hp
  refine loop_at (Try.e32 l h hl) (d := 5) (g := 32) (ls := lsumsOf []) (c := Try.b32) trivial k32 o32 (T := Nat × List UlD)
    (fun t => Try.P32 l a n (n - t.1) t.2) (fun t => (t.1 : Int) ≤ n ∧ t.2.length + t.1 ≤ n.toNat) (fun t => t.1) (fun t => z32 (scanT l t.1 (x32 a (n - t.1))) (scanM l t.1 (x32 a (n - t.1)) t.2)) _ _ (n.toNat, []) ⟨by show (n.toNat : Int) ≤ n; omega, by show 0 + n.toNat ≤ n.toNat; omega⟩ ?_ (fun e s' h => by
      rw [Ans.run_br] at h
      have e1 : x32 a (n - (n.toNat : Int)) = a := by rw [show n - (n.toNat : Int) = 0 by omega, x32_eq (Int.le_refl _) (by omega)]; exact adr_0 ha0 ha1
      show z32 (scanT l n.toNat (x32 a (n - (n.toNat : Int)))) (scanM l n.toNat (x32 a (n - (n.toNat : Int))) []) = _
      rw [e1]
      show z32 (scanT l n.toNat a) (scanL l a n) = _
      revert h
      generalize scanL l a n = L
      intro h
      cases hq : scanT l n.toNat a <;> rw [hq] at h <;> cases L <;> exact Option.some.inj h) (fun t _ => Try.P32_ok _ _ _ _ _) ?_
  · show Weak _ (Try.s32n l a n (n - (n.toNat : Int)))
    rw [show n - (n.toNat : Int) = 0 by omega]
    exact Weak.refl heap0_ok
  · rintro ⟨k, O⟩ ⟨h3, h4⟩
    replace h3 : (k : Int) ≤ n := h3
    replace h4 : O.length + k ≤ n.toNat := h4
    cases k with
    | zero =>
      refine .inr ⟨(x32e O).2, ?_, ?_, z32_1 _ _⟩
      · show Try.B32 l (Try.P32 l a n (n - (0 : Nat)) O) = some ((x32e O).1, (x32e O).2)
        have hd : decide (n - ((0 : Nat) : Int) < n) = false := decide_eq_false (by omega)
        cases O with
        | nil => refine (Try.r32a l a n _).trans ?_; unfold q32; rw [hd]; rfl
        | cons x O => refine (Try.r32b l a n _ (x :: O)).trans ?_; unfold q32; rw [hd]; rfl
      · exact Weak.refl (z32_ok false O)
    | succ k =>
      have r0 := adr_rg a (4 * (n - ((k + 1 : Nat) : Int)).toNat)
      have e1 : x32 a (n - (k : Int)) = up4 (x32 a (n - ((k + 1 : Nat) : Int))) := by
        rw [up4_adr, x32_eq (by omega) (by omega), x32_eq (by omega) (by omega), adr_adr]
        congr 1
        omega
      have e2 : ∀ x : Int, scanT l (k + 1) x = bif wOk l x then scanT l k (up4 x) else true := fun _ => rfl
      have e3 : ∀ x : Int, scanM l (k + 1) x O = bif wOk l x then scanM l k (up4 x) (bif siteB l (wd l x) then O ++ [fndL l x] else O) else O := fun _ => rfl
      rcases Try.r32t (l := l) a n (n - ((k + 1 : Nat) : Int)) (by omega) (by omega) h1 O (by omega) with ⟨hg, s1, r, hw⟩ | ⟨hg, r⟩
      · rw [show n - ((k + 1 : Nat) : Int) + 1 = n - (k : Int) by omega] at hw
        refine .inl ⟨(k, bif siteB l (wd l (x32 a (n - ((k + 1 : Nat) : Int)))) then O ++ [fndL l (x32 a (n - ((k + 1 : Nat) : Int)))] else O), s1, r, hw, ⟨by show (k : Int) ≤ n; omega, ?_⟩, by show k < k + 1; omega, ?_⟩
        · show (bif siteB l (wd l (x32 a (n - ((k + 1 : Nat) : Int)))) then O ++ [fndL l (x32 a (n - ((k + 1 : Nat) : Int)))] else O).length + k ≤ n.toNat
          cases siteB l (wd l (x32 a (n - ((k + 1 : Nat) : Int))))
          · show O.length + k ≤ _; omega
          · show (O ++ [_]).length + k ≤ _
            rw [List.length_append]
            show O.length + 1 + k ≤ _
            omega
        · show z32 (scanT l k (x32 a (n - (k : Int)))) (scanM l k (x32 a (n - (k : Int))) _) = z32 (scanT l (k + 1) (x32 a (n - ((k + 1 : Nat) : Int)))) (scanM l (k + 1) (x32 a (n - ((k + 1 : Nat) : Int))) O)
          rw [e2, e3, hg, e1]; rfl
      · refine .inr ?_
        show ∃ s1, _ = some ((z32 (scanT l (k + 1) (x32 a (n - ((k + 1 : Nat) : Int)))) (scanM l (k + 1) (x32 a (n - ((k + 1 : Nat) : Int))) O)).1, s1) ∧ Weak s1 (z32 (scanT l (k + 1) (x32 a (n - ((k + 1 : Nat) : Int)))) (scanM l (k + 1) (x32 a (n - ((k + 1 : Nat) : Int))) O)).2 ∧ (z32 (scanT l (k + 1) (x32 a (n - ((k + 1 : Nat) : Int)))) (scanM l (k + 1) (x32 a (n - ((k + 1 : Nat) : Int))) O)).1 ≠ .normal
        rw [e2, e3, hg]
        exact ⟨_, r, Weak.refl (z32_ok true O), z32_1 true O⟩
end Go.Ev
/- Walks of the specification, as summaries; walks without a memory. -/
namespace Go.Ev
open Go.Proofs
def o32s (l : List PgD) (a n : Int) : Option (AV × Heap) := bif isE (scanL l a n) then some (scNil, ⟨0, []⟩) else some (scOut (scanL l a n))
theorem Try.w32 (l : List PgD) (a n : Int) : rootS (Try.E32 l) 5 32 (lsumsOf [(5, Try.L32 l a n)]) [refV l, .val (.int .u32 a), .val (.int .i64 n)] =
    bif a.tmod 4 != 0 then some (scBad, ⟨0, []⟩) else bif decide (n < 0) then some (scBad, ⟨0, []⟩) else bif decide (n > 4096) then some (scBad, ⟨0, []⟩)
    else bif isSt (Try.s32n l a n 0) (Try.s32n l a n 0) then (bif inU a && (decide (0 ≤ n) && decide (n ≤ 4096)) then (bif scanT l n.toNat a then o32s l a n else o32s l a n) else none) else none := by kernel_rfl
theorem Try.al32 (l : List PgD) (h : okM l) (hl : okB l) (a n : Int) (h0 : 0 ≤ a) (h1 : a < 4294967296) : Alone Try.prog 32 [refV l, .val (.int .u32 a), .val (.int .i64 n)] (scanV l a n) ⟨0, []⟩ := by
  have run := fun v h2 => rootS_alone (Try.e32 l h hl) (d := 5) (g := 32) (ls := lsumsOf [(5, Try.L32 l a n)]) (args := [refV l, .val (.int .u32 a), .val (.int .i64 n)]) (v := v) (h2 := h2) (AllL.of1 (a := Try.b32) (by kernel_rfl) (LsOk.of rfl rfl (Try.l32 l h hl a n)))
  have key := Try.w32 l a n
  rw [isSt_refl] at key
  unfold scanV scanB
  cases g1 : a.tmod 4 != 0 with
  | true => rw [g1] at key; exact run _ _ key
  | false =>
    rw [g1] at key
    by_cases g2 : n < 0
    · rw [decide_eq_true g2] at key ⊢; exact run _ _ key
    by_cases g3 : n > 4096
    · rw [decide_eq_false g2, decide_eq_true g3] at key ⊢; exact run _ _ key
    unfold inU at key
    rw [decide_eq_false g2, decide_eq_false g3, decide_eq_true h0, decide_eq_true h1, decide_eq_true (show 0 ≤ n by omega), decide_eq_true (show n ≤ 4096 by omega)] at key
    rw [decide_eq_false g2, decide_eq_false g3]
    have key2 : rootS (Try.E32 l) 5 32 (lsumsOf [(5, Try.L32 l a n)]) [refV l, .val (.int .u32 a), .val (.int .i64 n)] = o32s l a n := by
      rw [key]; cases scanT l n.toNat a <;> rfl
    show Alone _ _ _ (scV (scanL l a n)) _
    unfold o32s at key2
    clear key
    generalize scanL l a n = O at key2
    cases O with
    | nil => exact Alone.resW (AW.tup (.cons (AW.nil rfl) (AWs.refl _))) (run _ _ key2)
    | cons x O => exact Alone.fz1 (con := UL.con (x :: O)) rfl rfl (.tup (.cons (.inr (.inl ⟨none, rfl, rfl⟩)) (FzL.refl _ _ _))) (run _ _ key2)
def S32 (l : List PgD) (args : List AV) : Ans (AV × Heap) := match args with
  | [v, .val (.int .u32 a), .val (.int .i64 n)] => .grd (isV v (refV l) && inU a) (.br (scanB a n) (.out (scBad, ⟨0, []⟩)) (.out (scV (scanL l a n), ⟨0, []⟩)))
  | _ => .no
def Try.A32 (l : List PgD) : AFun := roA (S32 l)
def S29 (l : List PgD) (c : Cpu) (args : List AV) : Ans (AV × Heap) := match args with
  | [v, m, .val (.int .i64 n)] => .grd (isV v (cpuV c) && isV m (refV l)) (.br (decide (n < 0) || decide (n > 1000)) (.out (wkBadV, ⟨0, []⟩)) (.out (wkV (walkR l c n), ⟨0, []⟩)))
  | _ => .no
def Try.A29 (l : List PgD) (c : Cpu) : AFun := roA (S29 l c)
theorem Try.sum32 (l : List PgD) (h : okM l) (hl : okB l) : SumC Try.prog 32 (Try.A32 l) := by
  refine roSumR 32 ⟨Try.f32, _, Try.fnOk32.1, Try.fnOk32.2, rfl⟩ ?_
  intro args v h2 hs
  unfold S32 at hs
  split at hs
  · rename_i v0 a n
    rw [gdB_run] at hs
    cases hb : (isV v0 (refV l) && inU a) with
    | false => rw [hb] at hs; cases hs
    | true =>
      rw [hb] at hs
      unfold inU at hb
      simp only [Bool.and_eq_true, decide_eq_true_eq] at hb
      have h1 := isV_eq hb.1
      subst h1
      have key := Try.al32 l h hl a n hb.2.1 hb.2.2
      unfold scanV at key
      cases h : scanB a n <;> (rw [h] at hs key; have hs := Option.some.inj hs; injection hs with q1 q2; subst q1; subst q2; exact ⟨fun e he => by (cases he), key⟩)
  · cases hs
theorem Try.sum29 (l : List PgD) (h : okM l) (hl : okB l) (c : Cpu) (h0 : 0 ≤ c.pc) (h1 : c.pc < 4294967296) (hr : ∀ i, 0 ≤ c.r i ∧ c.r i < 4294967296) : SumC Try.prog 29 (Try.A29 l c) := by
  refine roSumR 29 ⟨Try.f29, _, Try.fnOk29.1, Try.fnOk29.2, rfl⟩ ?_
  intro args v h2 hs
  unfold S29 at hs
  split at hs
  · rename_i v0 m n
    rw [gdB_run] at hs
    cases hb : (isV v0 (cpuV c) && isV m (refV l)) with
    | false => rw [hb] at hs; cases hs
    | true =>
      rw [hb] at hs
      rw [Bool.and_eq_true] at hb
      have e1 := isV_eq hb.1
      have e2 := isV_eq hb.2
      subst e1; subst e2
      have key := Try.al29 l h hl c h0 h1 hr n
      unfold walkV at key
      cases h : (decide (n < 0) || decide (n > 1000)) <;> (rw [h] at hs key; have hs := Option.some.inj hs; injection hs with q1 q2; subst q1; subst q2; exact ⟨fun e he => by (cases he), key⟩)
  · cases hs
def nilM : AV := .val (.pointer none)
def noS : Option (AV × Heap) := some (u32b 0 false, ⟨0, []⟩)
def wkNm (k : Int) : Option (AV × Heap) := some (.tup [nilL, .val (.int .i64 k), .val (.int .i64 0)], ⟨0, []⟩)
def nilW (c : Cpu) (full : Bool) : Option (AV × Heap) := bif full then wkNm 1 else bif c.r 14 == 0 then wkNm 2 else bif (c.r 14).tmod 4 != 0 then wkNm 3 else bif decide (IntKind.u64.wrap (c.r 14) < low0 c) then wkNm 4 else wkNm 5
theorem Try.n24 (a : Int) : rootS Try.E1 5 24 (lsumsOf []) [nilM, .val (.int .u32 a)] = bif a.tmod 4 != 0 then noS else noS := by kernel_rfl
theorem Try.n25 (a : Int) : rootS Try.E1 5 25 (lsumsOf []) [nilM, .val (.int .u32 a)] = bif (at8 a).tmod 4 != 0 then (bif (at4 a).tmod 4 != 0 then noS else noS) else (bif (at4 a).tmod 4 != 0 then noS else noS) := by kernel_rfl
theorem Try.n26 (c : Cpu) : rootS Try.E1 5 26 (lsumsOf []) [cpuV c, nilM] = bif c.pc.tmod 4 != 0 then noS else noS := by kernel_rfl
theorem Try.n27 (c : Cpu) : rootS Try.E1 5 27 (lsumsOf []) [cpuV c, nilM] = bif c.pc.tmod 4 != 0 then noS else noS := by kernel_rfl
def wkBadO : Option (AV × Heap) := some (wkBad.1, ⟨0, []⟩)
def n28w (c : Cpu) (most : Int) (b : Bool) : Option (AV × Heap) := bif decide (most < 0) then wkBadO else bif decide (most > 1000) then wkBadO else bif c.pc.tmod 4 != 0 then nilW c b else nilW c b
def scN (a n : Int) : Option (AV × Heap) := bif a.tmod 4 != 0 then some (scBad, ⟨0, []⟩) else bif decide (n < 0) then some (scBad, ⟨0, []⟩) else bif decide (n > 4096) then some (scBad, ⟨0, []⟩) else bif decide (0 < n) then some (scNil, ⟨0, []⟩) else some (scNil, ⟨0, []⟩)
theorem Try.n28 (c : Cpu) (most : Int) : rootS Try.E1 5 28 (lsumsOf []) [cpuV c, nilM, .val (.int .i64 most)] = n28w c most ((0 : Int) == most) := by kernel_rfl
theorem Try.n29 (c : Cpu) (most : Int) : rootS Try.E1 5 29 (lsumsOf []) [cpuV c, nilM, .val (.int .i64 most)] = n28w c most (decide ((0 : Int) ≥ most)) := by kernel_rfl
theorem Try.n31 (a n : Int) : rootS Try.E1 5 31 (lsumsOf []) [nilM, .val (.int .u32 a), .val (.int .i64 n)] = scN a n := by kernel_rfl
theorem Try.n32 (a n : Int) : rootS Try.E1 5 32 (lsumsOf []) [nilM, .val (.int .u32 a), .val (.int .i64 n)] = scN a n := by kernel_rfl
end Go.Ev
/- Walks without a memory, as summaries. -/
namespace Go.Ev
open Go.Proofs
def stopN (c : Cpu) (most : Int) : Int := bif (0 : Int) == most then 1 else bif c.r 14 == 0 then 2 else bif (c.r 14).tmod 4 != 0 then 3 else bif decide (IntKind.u64.wrap (c.r 14) < low0 c) then 4 else 5
def wkNV (c : Cpu) (most : Int) : AV := .tup [nilL, .val (.int .i64 (stopN c most)), .val (.int .i64 0)]
def S24n (args : List AV) : Ans (AV × Heap) := match args with
  | [v, .val (.int .u32 a)] => .grd (isV v nilM) (.out (u32b 0 false, ⟨0, []⟩))
  | _ => .no
def S26n (c : Cpu) (args : List AV) : Ans (AV × Heap) := match args with
  | [v, m] => .grd (isV v (cpuV c) && isV m nilM) (.out (u32b 0 false, ⟨0, []⟩))
  | _ => .no
def S28n (c : Cpu) (args : List AV) : Ans (AV × Heap) := match args with
  | [v, m, .val (.int .i64 n)] => .grd (isV v (cpuV c) && isV m nilM) (.br (decide (n < 0) || decide (n > 1000)) (.out (wkBadV, ⟨0, []⟩)) (.out (wkNV c n, ⟨0, []⟩)))
  | _ => .no
def S31n (args : List AV) : Ans (AV × Heap) := match args with
  | [v, .val (.int .u32 a), .val (.int .i64 n)] => .grd (isV v nilM) (.br (scanB a n) (.out (scBad, ⟨0, []⟩)) (.out (scNil, ⟨0, []⟩)))
  | _ => .no
theorem mkN24 {g : Nat} (hf : ∃ fn c, Try.prog.funcs[g]? = some fn ∧ fn.name ≠ "runtime.NumGoroutine" ∧ fn.body = some c) (al : ∀ a : Int, Alone Try.prog g [nilM, .val (.int .u32 a)] (u32b 0 false) ⟨0, []⟩) : SumC Try.prog g (roA S24n) := by
  refine roSumR g hf ?_
  intro args v h2 hs
  unfold S24n at hs
  split at hs
  · rename_i v0 a
    rw [Ans.run_grd] at hs
    obtain ⟨hb, hz⟩ := grd_some hs
    have h1 := isV_eq hb
    subst h1
    have hz := Option.some.inj hz
    injection hz with q1 q2
    subst q1; subst q2
    exact ⟨fun e he => (by cases he), al a⟩
  · cases hs
theorem mkN26 {g : Nat} (hf : ∃ fn c, Try.prog.funcs[g]? = some fn ∧ fn.name ≠ "runtime.NumGoroutine" ∧ fn.body = some c) (c : Cpu) (al : Alone Try.prog g [cpuV c, nilM] (u32b 0 false) ⟨0, []⟩) : SumC Try.prog g (roA (S26n c)) := by
  refine roSumR g hf ?_
  intro args v h2 hs
  unfold S26n at hs
  split at hs
  · rename_i v0 m
    rw [Ans.run_grd] at hs
    obtain ⟨hb, hz⟩ := grd_some hs
    rw [Bool.and_eq_true] at hb
    have h1 := isV_eq hb.1
    have h2 := isV_eq hb.2
    subst h1; subst h2
    have hz := Option.some.inj hz
    injection hz with q1 q2
    subst q1; subst q2
    exact ⟨fun e he => (by cases he), al⟩
  · cases hs
theorem mkN28 {g : Nat} (hf : ∃ fn c, Try.prog.funcs[g]? = some fn ∧ fn.name ≠ "runtime.NumGoroutine" ∧ fn.body = some c) (c : Cpu) (b : Int → Bool) (hb : ∀ n, ¬ n < 0 → b n = ((0 : Int) == n)) (al : ∀ (n : Int) (v : AV) (h2 : Heap), n28w c n (b n) = some (v, h2) → Alone Try.prog g [cpuV c, nilM, .val (.int .i64 n)] v h2) : SumC Try.prog g (roA (S28n c)) := by
  refine roSumR g hf ?_
  intro args v h2 hs
  unfold S28n at hs
  split at hs
  · rename_i v0 m n
    rw [gdB_run] at hs
    cases hq : (isV v0 (cpuV c) && isV m nilM) with
    | false => rw [hq] at hs; cases hs
    | true =>
      rw [hq] at hs
      rw [Bool.and_eq_true] at hq
      have h1 := isV_eq hq.1
      have h2 := isV_eq hq.2
      subst h1; subst h2
      have key := al n
      unfold n28w at key
      cases h : (decide (n < 0) || decide (n > 1000)) with
      | true =>
        rw [h] at hs
        have hs := Option.some.inj hs; injection hs with q1 q2; subst q1; subst q2
        refine ⟨fun e he => (by cases he), key _ _ ?_⟩
        cases g1 : decide (n < 0)
        · rw [g1, Bool.false_or] at h
          rw [h]; rfl
        · rfl
      | false =>
        rw [h] at hs
        have hs := Option.some.inj hs; injection hs with q1 q2; subst q1; subst q2
        refine ⟨fun e he => (by cases he), key _ _ ?_⟩
        rw [Bool.or_eq_false_iff] at h
        have e := hb n (of_decide_eq_false h.1)
        rw [h.1, h.2, e]
        unfold nilW wkNV stopN
        cases c.pc.tmod 4 != 0 <;> cases (0 : Int) == n <;> cases c.r 14 == 0 <;> cases (c.r 14).tmod 4 != 0 <;> cases decide (IntKind.u64.wrap (c.r 14) < low0 c) <;> rfl
  · cases hs
theorem mkN31 {g : Nat} (hf : ∃ fn c, Try.prog.funcs[g]? = some fn ∧ fn.name ≠ "runtime.NumGoroutine" ∧ fn.body = some c) (al : ∀ (a n : Int) (v : AV) (h2 : Heap), scN a n = some (v, h2) → Alone Try.prog g [nilM, .val (.int .u32 a), .val (.int .i64 n)] v h2) : SumC Try.prog g (roA S31n) := by
  refine roSumR g hf ?_
  intro args v h2 hs
  unfold S31n at hs
  split at hs
  · rename_i v0 a n
    rw [gdB_run] at hs
    cases hq : isV v0 nilM with
    | false => rw [hq] at hs; cases hs
    | true =>
      rw [hq] at hs
      have h1 := isV_eq hq
      subst h1
      have key := al a n
      unfold scN at key
      unfold scanB at hs
      cases g1 : a.tmod 4 != 0 <;> cases g2 : decide (n < 0) <;> cases g3 : decide (n > 4096) <;> (rw [g1, g2, g3] at hs; rw [g1, g2, g3] at key; have hs := Option.some.inj hs; injection hs with q1 q2; subst q1; subst q2; refine ⟨fun e he => (by cases he), key _ _ ?_⟩; cases decide (0 < n) <;> rfl)
  · cases hs
theorem e1al {g : Nat} {args : List AV} {v : AV} {h2 : Heap} (hl : loopsOf (bodyOf Try.E1 g) = []) (k : rootS Try.E1 5 g (lsumsOf []) args = some (v, h2)) : Alone Try.prog g args v h2 := rootS_alone Try.e1 (d := 5) (g := g) (ls := lsumsOf []) (AllL.of0 hl) k
theorem e1al1 {g : Nat} {args : List AV} {v : AV} {h2 : Heap} (c : Code) (hl : loopsOf (bodyOf Try.E1 g) = [c]) (hk : LsOk Try.prog (lsumsOf []) c) (k : rootS Try.E1 5 g (lsumsOf []) args = some (v, h2)) : Alone Try.prog g args v h2 := rootS_alone Try.e1 (d := 5) (g := g) (ls := lsumsOf []) (AllL.of1 (a := c) hl hk) k
theorem Try.sum24n : SumC Try.prog 24 (roA S24n) := mkN24 ⟨Try.f24, _, Try.fnOk24.1, Try.fnOk24.2, rfl⟩ (fun a => e1al1 (nthD .skip (loopsOf (bodyOf Try.E1 24)) 0) (by kernel_rfl) trivial ((Try.n24 a).trans (by cases a.tmod 4 != 0 <;> rfl)))
theorem Try.sum25n : SumC Try.prog 25 (roA S24n) := mkN24 ⟨Try.f25, _, Try.fnOk25.1, Try.fnOk25.2, rfl⟩ (fun a => e1al (by kernel_rfl) ((Try.n25 a).trans (by cases (at8 a).tmod 4 != 0 <;> cases (at4 a).tmod 4 != 0 <;> rfl)))
theorem Try.sum26n (c : Cpu) : SumC Try.prog 26 (roA (S26n c)) := mkN26 ⟨Try.f26, _, Try.fnOk26.1, Try.fnOk26.2, rfl⟩ c (e1al (by kernel_rfl) ((Try.n26 c).trans (by cases c.pc.tmod 4 != 0 <;> rfl)))
theorem Try.sum27n (c : Cpu) : SumC Try.prog 27 (roA (S26n c)) := mkN26 ⟨Try.f27, _, Try.fnOk27.1, Try.fnOk27.2, rfl⟩ c (e1al (by kernel_rfl) ((Try.n27 c).trans (by cases c.pc.tmod 4 != 0 <;> rfl)))
theorem Try.sum28n (c : Cpu) : SumC Try.prog 28 (roA (S28n c)) := mkN28 ⟨Try.f28, _, Try.fnOk28.1, Try.fnOk28.2, rfl⟩ c (fun n => (0 : Int) == n) (fun _ _ => rfl) (fun n v h2 k => e1al (by kernel_rfl) ((Try.n28 c n).trans k))
theorem Try.sum29n (c : Cpu) : SumC Try.prog 29 (roA (S28n c)) := mkN28 ⟨Try.f29, _, Try.fnOk29.1, Try.fnOk29.2, rfl⟩ c (fun n => decide ((0 : Int) ≥ n)) (fun n hn => by rw [Bool.eq_iff_iff]; simp; omega) (fun n v h2 k => e1al1 (nthD .skip (loopsOf (bodyOf Try.E1 29)) 0) (by kernel_rfl) trivial ((Try.n29 c n).trans k))
theorem Try.sum31n : SumC Try.prog 31 (roA S31n) := mkN31 ⟨Try.f31, _, Try.fnOk31.1, Try.fnOk31.2, rfl⟩ (fun a n v h2 k => e1al1 (nthD .skip (loopsOf (bodyOf Try.E1 31)) 0) (by kernel_rfl) trivial ((Try.n31 a n).trans k))
theorem Try.sum32n : SumC Try.prog 32 (roA S31n) := mkN31 ⟨Try.f32, _, Try.fnOk32.1, Try.fnOk32.2, rfl⟩ (fun a n v h2 k => e1al1 (nthD .skip (loopsOf (bodyOf Try.E1 32)) 0) (by kernel_rfl) trivial ((Try.n32 a n).trans k))
end Go.Ev
/- UnwindWords, for every input: the law answers true, and its arguments read as they did. -/
namespace Go.Ev
open Go.Proofs
def S22g (l : List PgD) (args : List AV) : Ans (AV × Heap) := match args with
  | [v] => .grd (isV v (.ro (PG.con l) none) && (Nat.ble l.length 1000 && propB (okPs l))) (.out (.tup [memV l, .val (.int .i64 0)], ⟨0, []⟩))
  | _ => .no
def S23g (l : List PgD) (args : List AV) : Ans (AV × Heap) := match args with
  | [v] => .grd (isV v (.ro (PG.con l) none) && (Nat.ble l.length 1000 && propB (okPs l))) (.out (.tup [refV l, .val (.int .i64 0)], ⟨0, []⟩))
  | _ => .no
def S22b (l : List PgD) (args : List AV) : Ans (AV × Heap) := match args with
  | [v] => .grd (isV v (.ro (PG.con l) none) && (Nat.ble l.length 1000 && !propB (okPs l))) (.out (badM, ⟨0, []⟩))
  | _ => .no
def Try.t4g (l : List PgD) (c : Cpu) : List (Nat × AFun) := [(12, constA (.bool true)), (22, roA (S22g l)), (23, roA (S23g l)), (24, Try.A24 l), (25, Try.A25 l), (26, Try.A26 l c), (27, Try.A27 l c), (28, Try.A28 l c), (29, Try.A29 l c), (31, Try.A31 l), (32, Try.A32 l), (30, Try.A30)]
def Try.E4g (l : List PgD) (c : Cpu) : Env := Try.env0 false (sumsOf (Try.t4g l c)) (keepF 4 [])
def Try.t4b (l : List PgD) (c : Cpu) : List (Nat × AFun) := [(12, constA (.bool true)), (22, roA (S22b l)), (23, roA (S22b l)), (24, roA S24n), (25, roA S24n), (26, roA (S26n c)), (27, roA (S26n c)), (28, roA (S28n c)), (29, roA (S28n c)), (31, roA S31n), (32, roA S31n), (30, Try.A30)]
def Try.E4b (l : List PgD) (c : Cpu) : Env := Try.env0 false (sumsOf (Try.t4b l c)) (keepF 4 [])
def gP {α : Type} (l : List PgD) (b : Bool) (x : Option α) : Option α := bif isV (.ro (PG.con l) none) (.ro (PG.con l) none) && (Nat.ble l.length 1000 && b) then x else none
def g1V {α : Type} (a : AV) (x : Option α) : Option α := bif isV a a then x else none
def pr4 (b : Bool) (x : Int) (g : Option (AV × Heap) → Option (AV × Heap)) (K : Option (AV × Heap)) : Option (AV × Heap) :=
  bif b then g (bif b then (bif x != x then bF else K) else (bif x != 0 then bF else bF)) else g (bif b then (bif 0 != x then bF else bF) else K)
def eq4 (A B : List UlD) (K : Option (AV × Heap)) : Option (AV × Heap) := bif UL.ok (UL.con A) && (UL.ok (UL.con B) && Nat.ble (UL.list (UL.con A)).length 1000000) then (bif eqD UL uleq (UL.list (UL.con A)) (UL.list (UL.con B)) then K else bF) else none
def wk4 (b : Bool) (k : Int) (W : List UlD) (g : Option (AV × Heap) → Option (AV × Heap)) (K : Option (AV × Heap)) : Option (AV × Heap) :=
  bif b then g (bif b then eq4 [] [] K else (bif 0 != k then bF else bF)) else g (bif b then (bif k != 0 then bF else bF) else bif k != k then bF else eq4 W W K)
def sc4 (b : Bool) (W : List UlD) (g : Option (AV × Heap) → Option (AV × Heap)) : Option (AV × Heap) :=
  bif b then g (bif b then eq4 [] [] bT else bF) else g (bif b then bF else eq4 W W bT)
def bad1000 (n : Int) : Bool := decide (n < 0) || decide (n > 1000)
def gm31 {α : Type} (l : List PgD) (a : Int) (x : Option α) : Option α := bif isV (memV l) (memV l) && decide (0 ≤ a) then x else none
theorem Try.w4b (l : List PgD) (c : Cpu) (a n most : Int) : rootS (Try.E4b l c) 5 4 (lsumsOf []) [.ro (PG.con l) none, cpuV c, .val (.int .u32 a), .val (.int .i64 n), .val (.int .i64 most)] =
    bif decide ((l.length : Int) > 40) then bT else
    gP l (!propB (okPs l)) (gP l (!propB (okPs l)) (g1V nilM (g1V nilM (gV (cpuV c) nilM (gV (cpuV c) nilM (gV (cpuV c) nilM (wk4 (bad1000 most) (stopN c most) [] (gV (cpuV c) nilM)
      (g1V nilM (sc4 (scanB a n) [] (g1V nilM)))))))))) := by kernel_rfl
theorem Try.w4g (l : List PgD) (c : Cpu) (a n most : Int) : rootS (Try.E4g l c) 5 4 (lsumsOf []) [.ro (PG.con l) none, cpuV c, .val (.int .u32 a), .val (.int .i64 n), .val (.int .i64 most)] =
    bif decide ((l.length : Int) > 40) then bT else
    gP l (propB (okPs l)) (gP l (propB (okPs l)) (g1V (memV l) (pr4 (siteB l a) (siteA l a) (g25 l a)
     (gV (cpuV c) (memV l) (pr4 (topB l c) (topA l c) (gV (cpuV c) (refV l))
      (gV (cpuV c) (memV l) (wk4 (bad1000 most) (walkR l c most).1 (walkR l c most).2.2 (gV (cpuV c) (refV l))
       (gm31 l a (sc4 (scanB a n) (scanL l a n) (g25 l a)))))))))) := by kernel_rfl
theorem sum1 {g : Nat} {S : List AV → Ans (AV × Heap)} (hf : ∃ fn c, Try.prog.funcs[g]? = some fn ∧ fn.name ≠ "runtime.NumGoroutine" ∧ fn.body = some c) (l : List PgD) (b : Bool) (v : AV)
    (hS : S = fun args => match args with | [x] => .grd (isV x (.ro (PG.con l) none) && (Nat.ble l.length 1000 && b)) (.out (v, ⟨0, []⟩)) | _ => .no) (al : l.length ≤ 1000 → b = true → Alone Try.prog g [.ro (PG.con l) none] v ⟨0, []⟩) : SumC Try.prog g (roA S) := by
  refine roSumR g hf ?_
  intro args w h2 hs
  rw [hS] at hs
  dsimp only at hs
  split at hs
  · rename_i x
    rw [Ans.run_grd] at hs
    obtain ⟨hb, hz⟩ := grd_some hs
    rw [Bool.and_eq_true, Bool.and_eq_true, Nat.ble_eq] at hb
    have h1 := isV_eq hb.1
    subst h1
    have hz := Option.some.inj hz
    injection hz with q1 q2
    subst q1; subst q2
    exact ⟨fun e he => (by cases he), al hb.2.1 hb.2.2⟩
  · cases hs
theorem S22g_eq (l : List PgD) : S22g l = fun args => match args with | [x] => .grd (isV x (.ro (PG.con l) none) && (Nat.ble l.length 1000 && propB (okPs l))) (.out (.tup [memV l, .val (.int .i64 0)], ⟨0, []⟩)) | _ => .no := by
  funext args
  unfold S22g
  rcases args with _ | ⟨x, _ | ⟨y, t⟩⟩ <;> rfl
theorem S23g_eq (l : List PgD) : S23g l = fun args => match args with | [x] => .grd (isV x (.ro (PG.con l) none) && (Nat.ble l.length 1000 && propB (okPs l))) (.out (.tup [refV l, .val (.int .i64 0)], ⟨0, []⟩)) | _ => .no := by
  funext args
  unfold S23g
  rcases args with _ | ⟨x, _ | ⟨y, t⟩⟩ <;> rfl
theorem S22b_eq (l : List PgD) : S22b l = fun args => match args with | [x] => .grd (isV x (.ro (PG.con l) none) && (Nat.ble l.length 1000 && !propB (okPs l))) (.out (badM, ⟨0, []⟩)) | _ => .no := by
  funext args
  unfold S22b
  rcases args with _ | ⟨x, _ | ⟨y, t⟩⟩ <;> rfl
theorem Try.sum22g (l : List PgD) : SumC Try.prog 22 (roA (S22g l)) := sum1 ⟨Go.Proofs.Try.f22, _, Try.fnOk22.1, Try.fnOk22.2, rfl⟩ l _ _ (S22g_eq l) (fun h hb => by have := Try.al22 l h; rw [hb] at this; exact this)
theorem Try.sum23g (l : List PgD) : SumC Try.prog 23 (roA (S23g l)) := sum1 ⟨Try.f23, _, Try.fnOk23.1, Try.fnOk23.2, rfl⟩ l _ _ (S23g_eq l) (fun h hb => by have := Try.al23 l h; rw [hb] at this; exact this)
theorem Try.sum22b (l : List PgD) : SumC Try.prog 22 (roA (S22b l)) := sum1 ⟨Go.Proofs.Try.f22, _, Try.fnOk22.1, Try.fnOk22.2, rfl⟩ l _ _ (S22b_eq l) (fun h hb => by have := Try.al22 l h; rw [Bool.not_eq_true'] at hb; rw [hb] at this; exact this)
theorem Try.sum23b (l : List PgD) : SumC Try.prog 23 (roA (S22b l)) := sum1 ⟨Try.f23, _, Try.fnOk23.1, Try.fnOk23.2, rfl⟩ l _ _ (S22b_eq l) (fun h hb => by have := Try.al23 l h; rw [Bool.not_eq_true'] at hb; rw [hb] at this; exact this)
theorem eq4_t (A : List UlD) (hA : A.length ≤ 1000000) (K : Option (AV × Heap)) : eq4 A A K = K := by
  unfold eq4
  rw [UL.ok_con, UL.list_con, ble_t hA, (eqD_iff (R := UL) uleq_iff A A).2 rfl]; rfl
theorem pr4_t (b : Bool) (x : Int) {g : Option (AV × Heap) → Option (AV × Heap)} (hg : ∀ y, g y = y) (K : Option (AV × Heap)) : pr4 b x g K = K := by
  unfold pr4
  cases b <;> simp only [hg, cond_true, cond_false, bne_self]
theorem wk4_t (b : Bool) (k : Int) (W : List UlD) (hW : b = false → W.length ≤ 1000000) {g : Option (AV × Heap) → Option (AV × Heap)} (hg : ∀ y, g y = y) (K : Option (AV × Heap)) : wk4 b k W g K = K := by
  unfold wk4
  cases b with
  | false => simp only [hg, cond_false, bne_self, eq4_t W (hW rfl)]
  | true => simp only [hg, cond_true, eq4_t [] (Nat.zero_le _)]
theorem sc4_t (b : Bool) (W : List UlD) (hW : b = false → W.length ≤ 1000000) {g : Option (AV × Heap) → Option (AV × Heap)} (hg : ∀ y, g y = y) : sc4 b W g = bT := by
  unfold sc4
  cases b with
  | false => simp only [hg, cond_false, eq4_t W (hW rfl)]
  | true => simp only [hg, cond_true, eq4_t [] (Nat.zero_le _)]
theorem g1V_t {α : Type} (a : AV) (x : Option α) : g1V a x = x := by unfold g1V; rw [isV_refl]; rfl
theorem gP_t {α : Type} {l : List PgD} (h : l.length ≤ 1000) {b : Bool} (hb : b = true) (x : Option α) : gP l b x = x := by unfold gP; rw [isV_refl, ble_t h, hb]; rfl
theorem gm31_t {α : Type} (l : List PgD) {a : Int} (h0 : 0 ≤ a) (x : Option α) : gm31 l a x = x := by unfold gm31; rw [isV_refl, decide_eq_true h0]; rfl
theorem Try.law4 (l : List PgD) (hl : okB l) (c : Cpu) (hc : 0 ≤ c.pc ∧ c.pc < 4294967296) (hr : ∀ i, 0 ≤ c.r i ∧ c.r i < 4294967296) (a n most : Int) (h0 : 0 ≤ a) (h1 : a < 4294967296) :
    Alone Try.prog 4 [.ro (PG.con l) none, cpuV c, .val (.int .u32 a), .val (.int .i64 n), .val (.int .i64 most)] (.val (.bool true)) ⟨0, []⟩ := by
  have hr0 : ∀ i, 0 ≤ c.r i := fun i => (hr i).1
  cases hp : propB (okPs l) with
  | false =>
    have he : EnvOk2 Try.prog (Try.E4b l c) := Try.envOk false (sumsOf (Try.t4b l c)) _ (sumsOf_ok (show AllS Try.prog (Try.t4b l c) from ⟨Try.saneSum, Try.sum22b l, Try.sum23b l, Try.sum24n, Try.sum25n, Try.sum26n c, Try.sum27n c, Try.sum28n c, Try.sum29n c, Try.sum31n, Try.sum32n, Try.sum30, trivial⟩))
    refine rootS_alone he (d := 5) (g := 4) (ls := lsumsOf []) (AllL.of0 (by kernel_rfl)) ((Try.w4b l c a n most).trans ?_)
    cases hn : decide ((l.length : Int) > 40) with
    | true => rfl
    | false =>
    rw [decide_eq_false_iff_not] at hn
    have hb : (!propB (okPs l)) = true := by rw [hp]; rfl
    rw [gP_t (by omega) hb, gP_t (by omega) hb, g1V_t, g1V_t, gV_t, gV_t, gV_t, wk4_t _ _ _ (fun _ => Nat.zero_le _) (gV_t _ _), g1V_t, sc4_t _ _ (fun _ => Nat.zero_le _) (g1V_t _)]
    rfl
  | true =>
    cases hn : decide ((l.length : Int) > 40) with
    | true =>
      have he : EnvOk2 Try.prog (Try.E4b l c) := Try.envOk false (sumsOf (Try.t4b l c)) _ (sumsOf_ok (show AllS Try.prog (Try.t4b l c) from ⟨Try.saneSum, Try.sum22b l, Try.sum23b l, Try.sum24n, Try.sum25n, Try.sum26n c, Try.sum27n c, Try.sum28n c, Try.sum29n c, Try.sum31n, Try.sum32n, Try.sum30, trivial⟩))
      refine rootS_alone he (d := 5) (g := 4) (ls := lsumsOf []) (AllL.of0 (by kernel_rfl)) ((Try.w4b l c a n most).trans ?_)
      rw [hn]; rfl
    | false =>
    rw [decide_eq_false_iff_not] at hn
    have hm : okM l := ⟨by omega, propB_eq hp⟩
    have he : EnvOk2 Try.prog (Try.E4g l c) := Try.envOk false (sumsOf (Try.t4g l c)) _ (sumsOf_ok (show AllS Try.prog (Try.t4g l c) from ⟨Try.saneSum, Try.sum22g l, Try.sum23g l, Try.sum24 l hl, Try.sum25 l hm hl, Try.sum26 l hl c hc.1, Try.sum27 l hm hl c hc.1 hc.2, Try.sum28 l hl c hc.1 hr0, Try.sum29 l hm hl c hc.1 hc.2 hr, Try.sum31 l hl, Try.sum32 l hm hl, Try.sum30, trivial⟩))
    refine rootS_alone he (d := 5) (g := 4) (ls := lsumsOf []) (AllL.of0 (by kernel_rfl)) ((Try.w4g l c a n most).trans ?_)
    rw [decide_eq_false hn, gP_t (by omega) hp, gP_t (by omega) hp, g1V_t, pr4_t _ _ (g25_t l h0 h1), gV_t, pr4_t _ _ (gV_t _ _), gV_t, wk4_t _ _ _ (fun hb => ?_) (gV_t _ _), gm31_t l h0, sc4_t _ _ (fun hb => ?_) (g25_t l h0 h1)]
    · rfl
    · unfold scanB at hb
      simp only [Bool.or_eq_false_iff, decide_eq_false_iff_not] at hb
      have := scanM_len l n.toNat a
      show (scanM l n.toNat a []).length ≤ 1000000
      omega
    · unfold bad1000 at hb
      simp only [Bool.or_eq_false_iff, decide_eq_false_iff_not] at hb
      have := walkR_len l c most (by omega)
      omega
theorem cpu_pc {H : Type} {d : DataW H} (h : wfD cpuSh d) : 0 ≤ (cpuD d).pc ∧ (cpuD d).pc < 4294967296 := by
  simp only [wfD] at h
  exact u32n_wf (wfDL_get _ _ 1 h _ rfl)
end Go.Ev
namespace Go.Proofs.Ytemblfgjamapbaa
open Go.Ev
theorem words_contract (H : Type) (enc : TypeId × Value → H) (W : World) (base : Nat) (args : Array Value) (ds gs : List (DataW H)) (before : List MemPlace)
    (hval : ∀ (j : Nat) t v, Try.f4.params[j]? = some t → args[j]? = some v → Value.okWide Try.prog W .any base t v)
    (hW : DataW.Whole enc Try.prog Try.f4.params.toList Rows.unwindWordsSpec.vars false W args.toList ds gs before) :
    Calls Try.prog 4 args W fun e W' => ∃ v, e = .returned v ∧ Rows.unwindWordsSpec.post enc Try.prog Try.f4 false true false false W args v W' := by
  have hsh : shsOk Try.prog [.sl pgSh, cpuSh, .int .u32, .int .i64, .int .i64] Try.f4.params.toList = true := by kernel_rfl
  obtain ⟨p, q, hA, hV, _⟩ := id hW
  obtain ⟨hwf, hlen⟩ := args_wf hsh hA
  obtain rfl : gs = [] := by cases gs with | nil => rfl | cons => cases hV
  match ds, hlen with
  | [d1, d2, d3, d4, d5], _ =>
    have k1 := wfDL_get _ _ 0 hwf _ rfl
    have k2 := wfDL_get _ _ 1 hwf _ rfl
    have k3 := u32n_wf (wfDL_get _ _ 2 hwf _ rfl)
    obtain ⟨c1, c2⟩ := cpu_wf k2
    have law := Try.law4 ((elemsD d1).map pgD) (okB_wf k1) (cpuD d2) (cpu_pc k2) c2 (intD d3) (intD d4) (intD d5) k3.1 k3.2
    have e : argsA [.sl pgSh, cpuSh, .int .u32, .int .i64, .int .i64] [d1, d2, d3, d4, d5] = [.ro (PG.con ((elemsD d1).map pgD)) none, cpuV (cpuD d2), .val (.int .u32 (intD d3)), .val (.int .i64 (intD d4)), .val (.int .i64 (intD d5))] := by
      rw [← argA_pgs d1, ← argA_cpu d2]; rfl
    rw [← e] at law
    exact law_calls (b := 4) Try.kidsG Try.fullG (by kernel_rfl) rfl Try.underlying4 (by kernel_rfl) rfl hsh hval hW law
theorem words_lifted (os : Os) (started : os.Started) (H : Type) (enc : TypeId × Value → H) :
    ReturnsInHanded {} Try.checked os 4 .any (Rows.unwindWordsSpec.pre6 enc Try.prog Try.f4 Rows.unwindWordsRow.domain false) (Rows.unwindWordsSpec.post enc Try.prog Try.f4 false true false false) := by
  refine returnsInHanded_of_change (C := Try.checked) Try.ownG started (by kernel_rfl) Try.func4
    (ChangeSpec.witness6 (enc := enc) (C := Try.checked) false ⟨#[], #[.slice none 0 0, .agg #[.int .u32 0, .int .u32 0, .int .u32 0, .int .u32 0, .int .u32 0, .int .u32 0, .int .u32 0, .int .u32 0, .int .u32 0, .int .u32 0, .int .u32 0, .int .u32 0, .int .u32 0, .int .u32 0, .int .u32 0, .int .u32 0, .int .u32 0, .int .i64 0, .int .u32 0, .int .u32 0, .int .u32 0, .int .u32 0, .int .u32 0, .int .u32 0, .int .u32 0, .int .u32 0, .int .u32 0, .int .u32 0, .int .u32 0, .int .u32 0, .int .u32 0, .int .u32 0, .int .u32 0, .int .u32 0, .int .u32 0, .int .u32 0, .int .u32 0, .int .u32 0, .int .u32 0, .int .u32 0, .int .u32 0, .int .u32 0, .int .u32 0, .int .u32 0, .int .u32 0, .int .u32 0, .int .u32 0, .int .u32 0, .int .u32 0, .int .u32 0], .int .u32 0, .int .i64 0, .int .i64 0], []⟩ 8 (by kernel_rfl) (by kernel_rfl) (by kernel_rfl) (by kernel_rfl)) ?_
  intro W base args ds gs before hval hW _ _
  exact words_contract H enc W base args ds gs before hval hW
theorem unwindWords : Rows.UnwindWordsSaid :=
  OpenClaim.holds_of_wide 4 Try.f4 rfl rfl rfl rfl rfl rfl rfl ⟨rfl, rfl, rfl, rfl, rfl⟩ rfl rfl rfl rfl rfl (by kernel_rfl) Try.func4 (by kernel_rfl)
    (of_decide_eq_true (by kernel_rfl)) (by unfold Func.isWrapper; first | (rw [if_pos (by decide +kernel)]; kernel_rfl) | (rw [if_neg (by decide +kernel)]; exact ⟨rfl, rfl⟩))
    (fun os started H enc _ => words_lifted os started H enc)
end Go.Proofs.Ytemblfgjamapbaa
