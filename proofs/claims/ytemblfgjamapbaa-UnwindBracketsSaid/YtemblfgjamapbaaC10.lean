/- UnwindBrackets, for every input: the law answers true, and its arguments read as they did. -/
import Derived.Test.YtemblfgjamapbaaChecked
import Derived.Test.YtemblfgjamapbaaRows
import Derived.ProofKit
import Derived.JoinedCond
import Derived.Handed
import Derived.JoinedOf
import Derived.Test.YtemblfgjamapbaaC9
set_option linter.unusedSectionVars false
set_option linter.unusedSimpArgs false
set_option linter.unusedVariables false
set_option maxRecDepth 100000
set_option maxRecDepth 1000000
noncomputable section
/- Stacks: a round of its loop. -/
namespace Go.Ev
open Go.Proofs
end Go.Ev
/- Stacks, as a summary. -/
namespace Go.Ev
open Go.Proofs
end Go.Ev
/- Stacks, as a summary: its loop. -/
namespace Go.Ev
open Go.Proofs
end Go.Ev
/- Trace. -/
namespace Go.Ev
open Go.Proofs
end Go.Ev
/- UnwindStacks: its walk. -/
namespace Go.Ev
open Go.Proofs
def stepG (A : Nat → List UwE) (e : Evt) : Nat → List UwE := stepU (skGet (skA A)) e
theorem twoB_ok (c1 c0 : Blk) : (⟨2, [⟨1, 0, c1⟩, ⟨0, 0, c0⟩]⟩ : Heap).ok := heap_ok [1, 0] rfl (by decide) (by decide)
def bT : Option (AV × Heap) := some (.val (.bool true), ⟨0, []⟩)
end Go.Ev
/- UnwindStacks, for every input: the law answers true, and its arguments read as they did. -/
namespace Go.Ev
open Go.Proofs
abbrev evSh : Sh := .agg [.int .i64, .int .i64, .int .u32, .int .u32, .int .u32, .int .i64]
section
variable {H : Type}
noncomputable def pAt (d : DataW H) (i : Nat) : DataW H := (partsD d).getD i .nil
noncomputable def evD (d : DataW H) : Evt := ⟨intD (pAt d 0), intD (pAt d 1), intD (pAt d 2), intD (pAt d 3), intD (pAt d 4), intD (pAt d 5)⟩
theorem headTail (l : List (DataW H)) : l.headD .nil = l.getD 0 .nil ∧ ∀ i, l.tail.getD i .nil = l.getD (i + 1) .nil := by
  cases l <;> simp [List.headD]
theorem avs_ev (d : DataW H) : avs evSh d = evL (evD d) := by
  simp only [avs, avsL, (headTail _).1, (headTail _).2]; rfl
theorem avs_evs (l : List (DataW H)) : Con.tab (Sh.wd evSh) l.length (fun i => avs evSh (l.getD i .nil)) = EV.con (l.map evD) := by
  unfold RowTy.con
  have e : (fun i => avs evSh (l.getD i .nil)) = fun i => EV.row ((l.map evD).getD i EV.z) := by
    funext i
    rw [avs_ev, List.getD_eq_getElem?_getD, List.getD_eq_getElem?_getD, List.getElem?_map]
    cases l[i]? <;> rfl
  rw [e, List.length_map]; rfl
theorem argA_evs (d : DataW H) : argA (.sl evSh) d = .ro (EV.con ((elemsD d).map evD)) none := by rw [← avs_evs]; rfl
end
end Go.Ev
namespace Go.Proofs.Ytemblfgjamapbaa
open Go.Ev
theorem Try.ownG : ownKnob Try.prog.godebug = none := by kernel_rfl
theorem Try.kidsG : Kids Try.prog (· < Try.prog.types.size) := kids_rows (by kernel_rfl) (by kernel_rfl)
theorem Try.fullG : ∀ t e, t < Try.prog.types.size → Try.prog.underlying t = some (.slice e) → 0 < Try.prog.cellsOf e := slices_full_of Try.prog (by kernel_rfl)
end Go.Proofs.Ytemblfgjamapbaa
/- UnwindBrackets: its inner loop. -/
namespace Go.Ev
open Go.Proofs
def Try.t5 : List (Nat × AFun) := [(12, constA (.bool true)), (13, Try.A13), (33, Try.A33)]
def Try.E5 : Env := Try.env0 false (sumsOf Try.t5) (keepF 5 [(7, [0, 1, 7, 8, 9, 10]), (15, [0, 1, 7, 8, 9, 10, 11, 12])])
def Try.b5 : Code := nthD .skip (loopsOf (bodyOf Try.E5 5)) 0
def Try.c5 : Code := nthD .skip (loopsOf Try.b5) 0
def k15 : List Nat := [0, 1, 7, 8, 9, 10, 11, 12]
def k5 : List Nat := [0, 1, 7, 8, 9, 10]
def Try.V15 (l : List Evt) (bk : List Int) (t m : Nat) (i n k : Int) : List AV := [.ro (EV.con l) none, .ro (.ints .u8 bk) none, .val (.int .i64 t), .own 0 0 m none 5, .ptr 1 0 0, .val (.int .i64 i), .val (.int .i64 n), .val (.int .i64 k)]
def H5 (S : Nat → List UwE) (c : Con) : Heap := ⟨2, [⟨1, 0, skBlk S⟩, ⟨0, 0, .cells c⟩]⟩
def Try.s15 (l : List Evt) (bk : List Int) (t m : Nat) (i n k : Int) (S : Nat → List UwE) (c : Con) : St := stOf 111 k15 (Try.V15 l bk t m i n k) (H5 S c)
def Try.V5 (l : List Evt) (bk : List Int) (t m : Nat) (i : Int) : List AV := [.ro (EV.con l) none, .ro (.ints .u8 bk) none, .val (.int .i64 t), .own 0 0 m none 5, .ptr 1 0 0, .val (.int .i64 i)]
def Try.sb5 (l : List Evt) (bk : List Int) (t m : Nat) (i : Int) (S : Nat → List UwE) (c : Con) : St := stOf 111 k5 (Try.V5 l bk t m i) (H5 S c)
def Try.B15 (s : St) : Option (AX × St) := codeS Try.E5 (callF Try.E5 5) (Try.E5.keep 5) (lsumsOf []) Try.c5 (outK k15 k5) s
def tS (t : Nat) (O : List UwE) : Nat → List UwE := setS (fun _ => []) t O
def w1 (O : List UwE) : Int := IntKind.i64.wrap ((O.length : Int) - 1)
def topE (O : List UwE) : UwE := O.getD (0 + (w1 O).toNat) UE.z
theorem Try.r15 (l : List Evt) (bk : List Int) (i n k : Int) (S : Nat → List UwE) (O : List UwE) : ∀ t : Nat, t < 8 → Try.B15 (Try.s15 l bk t O.length i n k S (UE.con O)) =
    bif decide (k < n) then
     bif decide ((O.length : Int) > 0) then
      bif inR (w1 O) O.length then
       bif (0 + (w1 O).toNat).blt O.length then
        bif decide (0 ≤ w1 O) && decide (w1 O ≤ (O.length : Int)) then
         bif skIs (skA S) then
          some (.normal, Try.s15 l bk t ((w1 O).toNat - 0) i n (IntKind.i64.wrap (k + 1)) (stepG S ⟨7, t, (topE O).2.2.1, (topE O).2.2.2.1, 0, 0⟩) (UE.con O))
         else none
        else none
       else none
      else none
     else some (.exit 2, Try.sb5 l bk t O.length i S (UE.con O))
    else some (.exit 2, Try.sb5 l bk t O.length i S (UE.con O)) :=
  each8 (by kernel_rfl) (by kernel_rfl) (by kernel_rfl) (by kernel_rfl) (by kernel_rfl) (by kernel_rfl) (by kernel_rfl) (by kernel_rfl)
def cOf (h : Heap) (id : Nat) : Con := match h.con id with
  | some c => c
  | none => .rows true 0 []
def intOf : AV → Int
  | .val (.int _ n) => n
  | _ => 0
def blkSk (h : Heap) (id i : Nat) : List UwE := match nth ((cOf h id).row i) 0 with
  | some v => roGet v
  | none => []
def kinds1 (O : List UwE) : Prop := ∀ x ∈ O, x.1 = 1
def good5 (t : Nat) (O : List UwE) (S : Nat → List UwE) : Prop := (∀ j, j < 8 → S j = tS t O j) ∧ kinds1 O
def popN (O : List UwE) (n : Int) : List UwE := O.take (O.length - n.toNat)
def Try.n15 (l : List Evt) (bk : List Int) (t : Nat) (s : St) : St := Try.s15 l bk t (cOf s.h 0).len (intOf (getT s.t 10)) (intOf (getT s.t 11)) 0 (blkSk s.h 1) (cOf s.h 0)
def Try.g15 (t : Nat) (s : St) : Bool := ((cOf s.h 0).pureF && UE.ok (cOf s.h 0)) && propB ((cOf s.h 0).len ≤ 1000 ∧ 0 ≤ intOf (getT s.t 11) ∧ intOf (getT s.t 11) ≤ 3 ∧ good5 t (UE.list (cOf s.h 0)) (blkSk s.h 1))
def Try.xb15 (l : List Evt) (bk : List Int) (t : Nat) (i : Int) (O : List UwE) : AX × St := (.exit 2, Try.sb5 l bk t O.length i (tS t O) (UE.con O))
def Try.L15 (l : List Evt) (bk : List Int) (t : Nat) : LSum := fun s => .grd (isSt s (Try.n15 l bk t s)) (.grd (Try.g15 t s) (.out (Try.xb15 l bk t (intOf (getT s.t 10)) (popN (UE.list (cOf s.h 0)) (intOf (getT s.t 11))))))
theorem Try.e5 : EnvOk2 Try.prog Try.E5 := Try.envOk false (sumsOf Try.t5) _ (sumsOf_ok (show AllS Try.prog Try.t5 from ⟨Try.saneSum, Try.sum13, Try.sum33, trivial⟩))
theorem H5_ok (S : Nat → List UwE) (c : Con) : (H5 S c).ok := twoB_ok _ _
theorem setS_set (S : Nat → List UwE) (t : Nat) (A B : List UwE) : setS (setS S t A) t B = setS S t B := funext fun i => by unfold setS; cases Nat.beq i t <;> rfl
theorem tS_len {t : Nat} {O : List UwE} {n : Nat} (h : O.length ≤ n) (i : Nat) : (tS t O i).length ≤ n := setS_len _ _ _ _ _ h (Nat.zero_le _)
theorem ret_top {t : Nat} (ht : t < 8) {P : List UwE} {x : UwE} (hx : x.1 = 1) : stepU (tS t (P ++ [x])) ⟨7, t, x.2.2.1, x.2.2.2.1, 0, 0⟩ = tS t P := by
  have et : Int.toNat (t : Int) = t := Int.toNat_natCast t
  have hr : retN (P ++ [x]) x.2.2.2.1 = P.length := by
    have hl : (P ++ [x]).length = P.length + 1 := by simp
    have hg : (P ++ [x]).getD P.length UE.z = x := by rw [List.getD_eq_getElem?_getD, List.getElem?_append_right (Nat.le_refl _), Nat.sub_self]; rfl
    have hs : seekR (P ++ [x]) x.2.2.2.1 (P ++ [x]).length = some (some P.length) := by
      rw [hl]
      simp only [seekR, hg, hx]
      simp
    unfold retN
    rw [hs]
  unfold stepU
  simp only [thrd_nat ht, cond_true, et]
  show setS (tS t (P ++ [x])) t ((tS t (P ++ [x]) t).take (retN (tS t (P ++ [x]) t) x.2.2.2.1)) = tS t P
  unfold tS
  rw [setS_set, setS_same, hr, List.take_left]
theorem popN_s (O : List UwE) (k : Nat) (h : k < O.length) : ∃ x, O.take (O.length - k) = O.take (O.length - (k + 1)) ++ [x] ∧ x ∈ O := by
  refine ⟨O[O.length - (k + 1)]'(by omega), ?_, List.getElem_mem _⟩
  rw [show O.length - k = O.length - (k + 1) + 1 by omega, List.take_add_one, List.getElem?_eq_getElem (by omega)]; rfl
theorem Try.l15 (l : List Evt) (bk : List Int) (t : Nat) (ht : t < 8) : ∀ s e s', s.h.ok → (Try.L15 l bk t s).run = some (e, s') → Triple Try.prog (.loop Try.c5) s e s' := by
  intro s e s' hk hL
  unfold Try.L15 at hL
  rw [Ans.run_grd, Ans.run_grd] at hL
  cases hs : isSt s (Try.n15 l bk t s) with
  | false => rw [hs] at hL; cases hL
  | true =>
  cases hg : Try.g15 t s with
  | false => rw [hs, hg] at hL; cases hL
  | true =>
  rw [hs, hg] at hL
  replace hL := Option.some.inj hL
  replace hs := isSt_eq hs
  unfold Try.g15 at hg
  rw [Bool.and_eq_true, Bool.and_eq_true] at hg
  obtain ⟨⟨hpf, hok⟩, hp⟩ := hg
  obtain ⟨h1, h2, h3, hgd⟩ := propB_eq hp
  unfold Try.n15 at hs
  generalize cOf s.h 0 = c at hs hpf hok h1 hgd hL
  generalize intOf (getT s.t 10) = i at hs hL
  generalize intOf (getT s.t 11) = n at hs h2 h3 hL
  generalize blkSk s.h 1 = S at hs hgd
  subst hs
  have hlen : (UE.list c).length = c.len := UE.list_len c
  obtain ⟨hSt, hk1⟩ := hgd
  have hw : Weak (Try.s15 l bk t c.len i n 0 S c) (Try.s15 l bk t (UE.list c).length i n 0 (tS t (UE.list c)) (UE.con (UE.list c))) := by
    unfold Try.s15 H5
    rw [skBlk_congr hSt, hlen]
    exact Weak.heap (twoB_ok _ _) (.same _ (.con 0 0 0 hpf.symm (UE.conv hok) .nil))
  generalize UE.list c = O at hlen hk1 hL hw
  obtain ⟨m, rfl⟩ : ∃ m : Nat, n = m := ⟨n.toNat, by omega⟩
  refine Triple.weak hw ?_
  have hX := codeS_sound (ρ := AX × St) (callF_sound Try.e5 5) Try.e5.ok Try.e5.mix (Try.E5.keep 5) (lsumsOf []) Try.c5 trivial
  have key := loop_tripleW hX k15 k5 (T := Nat) (fun k => Try.s15 l bk t (O.take (O.length - k)).length i m k (tS t (O.take (O.length - k))) (UE.con (O.take (O.length - k)))) (fun k => k ≤ m ∧ k ≤ O.length) (fun k => m - k) (fun _ => Try.xb15 l bk t i (popN O m)) (fun k _ => H5_ok _ _) (fun k hk => by
    obtain ⟨k1, k2⟩ : k ≤ m ∧ k ≤ O.length := hk
    have r := Try.r15 l bk i m k (tS t (O.take (O.length - k))) (O.take (O.length - k)) t ht
    have hlk : (O.take (O.length - k)).length = O.length - k := by rw [List.length_take]; omega
    by_cases hkm : k < m
    · rw [declt_nat, decide_eq_true hkm] at r
      by_cases hkO : k < O.length
      · obtain ⟨x, hx, hxm⟩ := popN_s O k hkO
        generalize hP : O.take (O.length - (k + 1)) = P at hx
        have hPl : P.length = O.length - (k + 1) := by rw [← hP, List.length_take]; omega
        rw [hx] at r
        have hpx : (P ++ [x]).length = P.length + 1 := by simp
        have e1 : w1 (P ++ [x]) = (P.length : Int) := by
          unfold w1
          rw [List.length_append, wrap64 _ (by omega) (by simp; omega)]
          simp
        have e2 : topE (P ++ [x]) = x := by
          unfold topE
          rw [e1, Int.toNat_natCast, Nat.zero_add, List.getD_eq_getElem?_getD, List.getElem?_append_right (Nat.le_refl _), Nat.sub_self]; rfl
        have hle : ∀ i, i < 8 → (tS t (P ++ [x]) i).length ≤ 1000000 := fun i _ => tS_len (by rw [List.length_append]; simp; omega) i
        rw [e1, e2, decide_eq_true (show ((P ++ [x]).length : Int) > 0 by rw [hpx]; omega), inR_nat, decide_eq_true (show P.length < (P ++ [x]).length by rw [hpx]; omega), Int.toNat_natCast, Nat.zero_add, blt_t (show P.length < (P ++ [x]).length by rw [hpx]; omega), decide_eq_true (show (0 : Int) ≤ P.length by omega), decide_eq_true (show (P.length : Int) ≤ ((P ++ [x]).length : Int) by rw [hpx]; omega), skIs_t hle, wrapT k (by omega)] at r
        have e3 : ∀ j, j < 8 → stepG (tS t (P ++ [x])) ⟨7, t, x.2.2.1, x.2.2.2.1, 0, 0⟩ j = tS t P j := fun j hj => by
          rw [← ret_top ht (P := P) (hk1 x hxm)]
          exact stepU_get _ _ j hj
        refine .inl ⟨k + 1, Try.s15 l bk t (P.length - 0) i m ((k + 1 : Nat) : Int) (stepG (tS t (P ++ [x])) ⟨7, t, x.2.2.1, x.2.2.2.1, 0, 0⟩) (UE.con (P ++ [x])), ?_, ?_, ⟨hkm, hkO⟩, by omega, rfl⟩
        · simp only [hx]
          exact r
        · simp only [hP]
          unfold Try.s15 H5
          rw [skBlk_congr e3, Nat.sub_zero]
          refine Weak.ofP (WeakP.cut (p := 0) (twoB_ok _ _) (.same _ (.con 0 0 0 rfl ?_ .nil)))
          have := cut_con (P ++ [x]) P.length
          rw [List.take_left] at this
          exact this
      · have hOk : O.length - k = 0 := by omega
        have e0 : O.take (O.length - k) = [] := by rw [hOk]; rfl
        rw [e0] at r
        have e1 : popN O m = [] := by unfold popN; rw [Int.toNat_natCast, show O.length - m = 0 by omega]; rfl
        refine .inr ⟨(Try.xb15 l bk t i (popN O m)).2, ?_, Weak.refl (H5_ok _ _), by show (AX.exit 2) ≠ .normal; simp⟩
        simp only [e0, e1]
        exact r
    · have e1 : k = m := by omega
      rw [declt_nat, decide_eq_false hkm] at r
      refine .inr ⟨(Try.xb15 l bk t i (popN O m)).2, ?_, Weak.refl (H5_ok _ _), by show (AX.exit 2) ≠ .normal; simp⟩
      have e2 : popN O m = O.take (O.length - k) := by unfold popN; rw [Int.toNat_natCast, e1]
      rw [e2]
      exact r) 0 ⟨Nat.zero_le _, Nat.zero_le _⟩
  rw [show Try.xb15 l bk t i (popN O m) = (e, s') from hL] at key
  simp only [Nat.sub_zero, List.take_length] at key
  exact key
end Go.Ev
/- UnwindBrackets: its walk. -/
namespace Go.Ev
open Go.Proofs
def app5 (O : List UwE) (x : UwE) : Con := .tab 5 (O.length + 1) (fun i => bif i.blt O.length then UE.row (O.getD (0 + i) UE.z) else [UE.row x].getD (i - O.length) [])
def sub5 (O : List UwE) : Con := .tab 5 O.length (fun i => UE.row (O.getD (0 + i) UE.z))
def callE (t : Nat) (e : Evt) : Evt := ⟨6, t, e.pc, e.a, e.b, 0⟩
def callU (e : Evt) : UwE := (1, e.pc, e.a, e.b, 0)
def Try.Y5 (l : List Evt) (bk : List Int) (t : Nat) (i n : Int) (S : Nat → List UwE) (O : List UwE) (e : Evt) : St := Try.s15 l bk t (O.length + 1) i n 0 (stepG S (callE t e)) (app5 O (callU e))
def Try.cmp5 (l : List Evt) (bk : List Int) (t : Nat) (i : Int) (O : List UwE) : Option (AX × St) :=
  bif (0 + O.length).ble O.length && true then
   bif UE.ok (UE.con (tS t O t)) && (UE.ok (sub5 O) && (UE.list (UE.con (tS t O t))).length.ble 1000000) then
    bif eqD UE ueq (UE.list (UE.con (tS t O t))) (UE.list (sub5 O)) then some (.normal, Try.sb5 l bk t O.length (IntKind.i64.wrap (i + 1)) (tS t O) (UE.con O))
    else some (.ret, stOf 111 [6] [.val (.bool false)] ⟨0, []⟩)
   else none
  else none
def Try.lp5 (l : List Evt) (bk : List Int) (t : Nat) (s : St) : Option (AX × St) := bif isSt s (Try.n15 l bk t s) then (bif Try.g15 t s then Try.cmp5 l bk t (intOf (getT s.t 10)) (popN (UE.list (cOf s.h 0)) (intOf (getT s.t 11))) else none) else none
def Try.B5 (l : List Evt) (bk : List Int) (t : Nat) (s : St) : Option (AX × St) := codeS Try.E5 (callF Try.E5 5) (Try.E5.keep 5) (lsumsOf [(15, Try.L15 l bk t)]) Try.b5 (outK k5 [6]) s
def nB (bk : List Int) (i : Int) : Int := IntKind.i64.wrap ((bk.getD i.toNat 0).tmod 4)
theorem Try.r5 (l : List Evt) (bk : List Int) (i : Int) (S : Nat → List UwE) (O : List UwE) : ∀ t : Nat, t < 8 → Try.B5 l bk t (Try.sb5 l bk t O.length i S (UE.con O)) =
    bif decide (i < (l.length : Int)) then
     bif inR i l.length then
      bif inR i l.length then
       bif inR i l.length then
        bif skIs (skA S) then
         bif inR i l.length then
          bif inR i l.length then
           bif inR i l.length then
            bif (0 + O.length).ble O.length then
             bif ((O.length + 1) * 32).ble most && (O.length + 1).ble most then
              bif decide (i < (bk.length : Int)) then
               bif inR i bk.length then Try.lp5 l bk t (Try.Y5 l bk t i (nB bk i) S O (l.getD i.toNat EV.z)) else none
              else Try.lp5 l bk t (Try.Y5 l bk t i 0 S O (l.getD i.toNat EV.z))
             else none
            else none
           else none
          else none
         else none
        else none
       else none
      else none
     else none
    else some (.exit 0, stOf 111 [] [] ⟨0, []⟩) :=
  each8 (by kernel_rfl) (by kernel_rfl) (by kernel_rfl) (by kernel_rfl) (by kernel_rfl) (by kernel_rfl) (by kernel_rfl) (by kernel_rfl)
theorem ue_rows {c : Con} {L : List UwE} (hw : c.wd = 5) (hl : c.len = L.length) (hr : ∀ i, i < L.length → c.row i = UE.row (L.getD i UE.z)) : UE.ok c = true ∧ UE.list c = L := by
  constructor
  · unfold RowTy.ok
    rw [hw]
    have : UE.all c = true := by
      unfold RowTy.all
      refine @decide_eq_true _ (Classical.propDecidable _) (fun i hi => ?_)
      rw [hr i (by omega)]; exact UE.isr _
    rw [this]; rfl
  · unfold RowTy.list
    refine List.ext_getElem (by simp [hl]) (fun i h1 h2 => ?_)
    rw [List.getElem_map, List.getElem_range, hr i h2, UE.back, List.getD_eq_getElem?_getD, List.getElem?_eq_getElem h2]; rfl
theorem app5_rows (O : List UwE) (x : UwE) : UE.ok (app5 O x) = true ∧ UE.list (app5 O x) = O ++ [x] := by
  refine ue_rows rfl (by show O.length + 1 = (O ++ [x]).length; simp) (fun i hi => ?_)
  show (bif i.blt O.length then UE.row (O.getD (0 + i) UE.z) else [UE.row x].getD (i - O.length) []) = _
  rcases Nat.lt_or_ge i O.length with q | q
  · rw [blt_t q, cond_true, Nat.zero_add, List.getD_eq_getElem?_getD, List.getD_eq_getElem?_getD, List.getElem?_append_left q]
  · have e : i = O.length := by rw [List.length_append, List.length_singleton] at hi; omega
    subst e
    rw [blt_f (Nat.le_refl _), cond_false, Nat.sub_self, List.getD_eq_getElem?_getD (l := O ++ [x]), List.getElem?_append_right (Nat.le_refl _), Nat.sub_self]; rfl
theorem sub5_rows (O : List UwE) : UE.ok (sub5 O) = true ∧ UE.list (sub5 O) = O := by
  refine ue_rows rfl rfl (fun i hi => ?_)
  show UE.row (O.getD (0 + i) UE.z) = _
  rw [Nat.zero_add]
theorem n15_eq (l : List Evt) (bk : List Int) (t m : Nat) (i n : Int) (S : Nat → List UwE) (c : Con) : Try.n15 l bk t (Try.s15 l bk t m i n 0 S c) = Try.s15 l bk t c.len i n 0 S c := by
  have h : ∀ j, j < 8 → blkSk (Try.s15 l bk t m i n 0 S c).h 1 j = S j := each8 (UE.list_con _) (UE.list_con _) (UE.list_con _) (UE.list_con _) (UE.list_con _) (UE.list_con _) (UE.list_con _) (UE.list_con _)
  show Try.s15 l bk t c.len i n 0 (blkSk (Try.s15 l bk t m i n 0 S c).h 1) c = _
  unfold Try.s15 H5 at h ⊢
  rw [skBlk_congr h]
theorem call_top {t : Nat} (ht : t < 8) (O : List UwE) (e : Evt) : ∀ j, j < 8 → stepG (tS t O) (callE t e) j = tS t (O ++ [callU e]) j := by
  intro j hj
  have et : Int.toNat (t : Int) = t := Int.toNat_natCast t
  rw [show stepG (tS t O) (callE t e) j = stepU (tS t O) (callE t e) j from stepU_get _ _ j hj]
  unfold stepU callE
  simp only [thrd_nat ht, cond_true, et]
  show setS (tS t O) t (tS t O t ++ [callU e]) j = _
  unfold tS
  rw [setS_set, setS_same]
def Try.z5 (l : List Evt) (bk : List Int) (v : Int) : St := stOf 111 k5 [.ro (EV.con l) none, .ro (.ints .u8 bk) none, .val (.int .i64 v), .val (.slice none 0 0), .ptr 0 0 0, .val (.int .i64 0)] ⟨1, [⟨0, 0, nilBlk⟩]⟩
def bytes (bk : List Int) : Prop := ∀ x ∈ bk, 0 ≤ x ∧ x ≤ 255
def Try.L5 (l : List Evt) (bk : List Int) (t : Nat) : LSum := atL (Try.z5 l bk t) (.grd (propB (l.length ≤ 300 ∧ bytes bk)) (.out (.exit 0, stOf 111 [] [] ⟨0, []⟩)))
theorem nB_le {bk : List Int} (h : bytes bk) (k : Nat) : 0 ≤ nB bk k ∧ nB bk k ≤ 3 := by
  unfold nB
  rw [Int.toNat_natCast]
  have hx : 0 ≤ bk.getD k 0 ∧ bk.getD k 0 ≤ 255 := by
    rw [List.getD_eq_getElem?_getD]
    cases hg : bk[k]? with
    | none => simp
    | some y => exact h y (List.mem_of_getElem? hg)
  have h1 := Int.tmod_nonneg 4 hx.1
  have h2 := Int.tmod_lt_of_pos (bk.getD k 0) (show (0 : Int) < 4 by omega)
  rw [wrap64 _ (by omega) (by omega)]
  omega
theorem tS_nil (t : Nat) : tS t [] = fun _ => [] := funext fun i => by unfold tS setS; cases Nat.beq i t <;> rfl
theorem z5_weak (l : List Evt) (bk : List Int) (t : Nat) : Weak (Try.z5 l bk t) (Try.sb5 l bk t 0 0 (tS t []) (UE.con [])) := by
  have hk : (Try.z5 l bk t).h.ok := heap_ok [0] rfl (by decide) (by decide)
  have h1 := Weak.nil hk 8 (UE.con []) rfl rfl
  have h2 : Weak (nil1 8 (UE.con []) (Try.z5 l bk t)) ⟨(nil1 8 (UE.con []) (Try.z5 l bk t)).t, [], ⟨2, [⟨1, 0, .cells (UE.con [])⟩, ⟨0, 0, skBlk (fun _ => [])⟩]⟩⟩ :=
    Weak.heap (t := (nil1 8 (UE.con []) (Try.z5 l bk t)).t) (d := []) (n := 2) (es := [⟨1, 0, .cells (UE.con [])⟩, ⟨0, 0, nilBlk⟩]) (twoB_ok _ _) (.same _ (.con 0 0 0 rfl (flat_w (AWs.l8 (fun i => AW.nil rfl))) .nil))
  have h3 := Weak.canon h2.1 k5
  have e : canon (some k5) ⟨(nil1 8 (UE.con []) (Try.z5 l bk t)).t, [], ⟨2, [⟨1, 0, .cells (UE.con [])⟩, ⟨0, 0, skBlk (fun _ => [])⟩]⟩⟩ = Try.sb5 l bk t 0 0 (fun _ => []) (UE.con []) := by kernel_rfl
  rw [e] at h3
  rw [tS_nil]
  exact h1.trans (h2.trans h3)
theorem Try.l5 (l : List Evt) (bk : List Int) (t : Nat) (ht : t < 8) : ∀ s e s', s.h.ok → (Try.L5 l bk t s).run = some (e, s') → Triple Try.prog (.loop Try.b5) s e s' := by
  refine atL_grd (fun hp => ?_)
  obtain ⟨hl, hbk⟩ := propB_eq hp
  refine loop_at Try.e5 (d := 5) (g := 5) (ls := lsumsOf [(15, Try.L15 l bk t)]) (c := Try.b5) (AllL.of1 (a := Try.c5) (by kernel_rfl) (LsOk.of rfl rfl (Try.l15 l bk t ht))) k5 [6] (T := List UwE × Nat)
    (fun x => Try.sb5 l bk t x.1.length x.2 (tS t x.1) (UE.con x.1)) (fun x => x.2 ≤ l.length ∧ x.1.length ≤ x.2 ∧ kinds1 x.1) (fun x => l.length - x.2) (fun _ => (.exit 0, stOf 111 [] [] ⟨0, []⟩)) _ _ ([], 0) ⟨Nat.zero_le _, Nat.le_refl _, fun x hx => by cases hx⟩ (z5_weak l bk t) (fun e s' h => Option.some.inj h) (fun _ _ => H5_ok _ _) ?_
  rintro ⟨O, k⟩ ⟨h1, h2, h3⟩
  simp only at h1 h2 h3
  have key := Try.r5 l bk k (tS t O) O t ht
  by_cases h : k < l.length
  · have step : ∀ n : Int, 0 ≤ n → n ≤ 3 → ∃ O' : List UwE, O'.length ≤ k + 1 ∧ kinds1 O' ∧ Try.lp5 l bk t (Try.Y5 l bk t k n (tS t O) O (l.getD k EV.z)) = some (.normal, Try.sb5 l bk t O'.length ((k + 1 : Nat) : Int) (tS t O') (UE.con O')) := by
      intro n n0 n3
      obtain ⟨a1, a2⟩ := app5_rows O (callU (l.getD k EV.z))
      have hg : Try.g15 t (Try.Y5 l bk t k n (tS t O) O (l.getD k EV.z)) = true := by
        have hb : ∀ j, j < 8 → blkSk (Try.Y5 l bk t k n (tS t O) O (l.getD k EV.z)).h 1 j = stepG (tS t O) (callE t (l.getD k EV.z)) j := each8 (UE.list_con _) (UE.list_con _) (UE.list_con _) (UE.list_con _) (UE.list_con _) (UE.list_con _) (UE.list_con _) (UE.list_con _)
        show ((true && UE.ok (app5 O (callU (l.getD k EV.z)))) && propB (O.length + 1 ≤ 1000 ∧ 0 ≤ n ∧ n ≤ 3 ∧ good5 t (UE.list (app5 O (callU (l.getD k EV.z)))) (blkSk (Try.Y5 l bk t k n (tS t O) O (l.getD k EV.z)).h 1))) = true
        rw [a1, a2]
        refine propB_t ⟨by omega, n0, n3, fun j hj => (hb j hj).trans (call_top ht O _ j hj), fun x hx => ?_⟩
        rcases List.mem_append.1 hx with q | q
        · exact h3 x q
        · rw [List.mem_singleton] at q; subst q; rfl
      refine ⟨popN (O ++ [callU (l.getD k EV.z)]) n, ?_, ?_, ?_⟩
      · unfold popN; rw [List.length_take, List.length_append, List.length_singleton]; omega
      · intro x hx
        have hx' := List.mem_of_mem_take hx
        rcases List.mem_append.1 hx' with q | q
        · exact h3 x q
        · rw [List.mem_singleton] at q; subst q; rfl
      · unfold Try.lp5
        rw [hg]
        unfold Try.Y5
        rw [n15_eq]
        rw [show (app5 O (callU (l.getD k EV.z))).len = O.length + 1 from rfl, isSt_refl]
        show Try.cmp5 l bk t k (popN (UE.list (app5 O (callU (l.getD k EV.z)))) n) = _
        rw [a2]
        generalize hP : popN (O ++ [callU (l.getD k EV.z)]) n = P
        have hPl : P.length ≤ 1000 := by rw [← hP]; unfold popN; rw [List.length_take, List.length_append, List.length_singleton]; omega
        obtain ⟨b1, b2⟩ := sub5_rows P
        unfold Try.cmp5
        have e1 : tS t P t = P := setS_same _ _ _
        rw [e1, UE.ok_con, UE.list_con, b1, b2, ble_t (show P.length ≤ 1000000 by omega), Nat.zero_add, ble_t (Nat.le_refl _), (eqD_iff ueq_iff P P).2 rfl, wrapT k (by omega)]
        rfl
    rw [declt_nat, inR_nat, decide_eq_true h, Int.toNat_natCast, skIs_t (fun i _ => tS_len (show O.length ≤ 1000000 by omega) i), Nat.zero_add, ble_t (Nat.le_refl _), ble_t (show (O.length + 1) * 32 ≤ most by rw [most_eq]; omega), ble_t (show O.length + 1 ≤ most by rw [most_eq]; omega), declt_nat, inR_nat] at key
    cases hb : decide (k < bk.length) with
    | true =>
      rw [hb] at key
      obtain ⟨n0, n3⟩ := nB_le hbk k
      obtain ⟨O', q1, q2, q3⟩ := step (nB bk k) n0 n3
      exact .inl ⟨(O', k + 1), _, key.trans q3, Weak.refl (H5_ok _ _), ⟨h, q1, q2⟩, by show l.length - (k + 1) < l.length - k; omega, rfl⟩
    | false =>
      rw [hb] at key
      obtain ⟨O', q1, q2, q3⟩ := step 0 (by omega) (by omega)
      exact .inl ⟨(O', k + 1), _, key.trans q3, Weak.refl (H5_ok _ _), ⟨h, q1, q2⟩, by show l.length - (k + 1) < l.length - k; omega, rfl⟩
  · rw [declt_nat, decide_eq_false h] at key
    exact .inr ⟨_, key, Weak.refl heap0_ok, by show (AX.exit 0) ≠ .normal; simp⟩
theorem Try.w5 (l : List Evt) (bk : List Int) (th : Int) (t : Nat) : rootS Try.E5 5 5 (lsumsOf [(7, Try.L5 l bk t)]) [.ro (EV.con l) none, .ro (.ints .u8 bk) none, .val (.int .u8 th)] =
    bif decide ((l.length : Int) > 300) then bT
    else bif isSt (Try.z5 l bk ((IntKind.i64.wrap th).tmod 8)) (Try.z5 l bk t) then (bif propB (l.length ≤ 300 ∧ bytes bk) then bT else none) else none := by kernel_rfl
theorem Try.law5 (l : List Evt) (bk : List Int) (hbk : bytes bk) (th : Int) (h0 : 0 ≤ th) (h1 : th ≤ 255) : Alone Try.prog 5 [.ro (EV.con l) none, .ro (.ints .u8 bk) none, .val (.int .u8 th)] (.val (.bool true)) ⟨0, []⟩ := by
  have q0 := Int.tmod_nonneg 8 h0
  have q1 := Int.tmod_lt_of_pos th (show (0 : Int) < 8 by omega)
  have e0 : (IntKind.i64.wrap th).tmod 8 = ((th.tmod 8).toNat : Int) := by rw [wrap64 _ (by omega) (by omega)]; omega
  have ht : (th.tmod 8).toNat < 8 := by omega
  generalize (th.tmod 8).toNat = t at e0 ht
  refine rootS_alone Try.e5 (d := 5) (g := 5) (ls := lsumsOf [(7, Try.L5 l bk t)]) ?_ ((Try.w5 l bk th t).trans ?_)
  · refine AllL.of2 (a := Try.b5) (b := Try.c5) (by kernel_rfl) (LsOk.of rfl rfl (Try.l5 l bk t ht)) ?_
    have e : lsOf (lsumsOf [(7, Try.L5 l bk t)]) Try.c5 = none := by kernel_rfl
    unfold LsOk; rw [e]; trivial
  · rw [e0, isSt_refl]
    cases hl : decide ((l.length : Int) > 300) with
    | true => rfl
    | false =>
      rw [decide_eq_false_iff_not] at hl
      rw [propB_t (show l.length ≤ 300 ∧ bytes bk from ⟨by omega, hbk⟩)]; rfl
end Go.Ev
/- UnwindBrackets, for every input: the law answers true, and its arguments read as they did. -/
namespace Go.Ev
open Go.Proofs
theorem u8_wf {H : Type} {d : DataW H} (h : wfD (.int .u8) d) : 0 ≤ intD d ∧ intD d ≤ 255 := by
  simp only [wfD, Lit.wf, IntKind.min, IntKind.max, IntKind.signed, IntKind.bits] at h
  simp at h
  omega
theorem bytes_wf {H : Type} {d : DataW H} (h : wfD (.sl (.int .u8)) d) : bytes ((elemsD d).map intD) := by
  intro x hx
  obtain ⟨y, hy, rfl⟩ := List.mem_map.1 hx
  simp only [wfD] at h
  exact u8_wf (h.2 y hy)
end Go.Ev
namespace Go.Proofs.Ytemblfgjamapbaa
open Go.Ev
theorem brackets_contract (H : Type) (enc : TypeId × Value → H) (W : World) (base : Nat) (args : Array Value) (ds gs : List (DataW H)) (before : List MemPlace)
    (hval : ∀ (j : Nat) t v, Try.f5.params[j]? = some t → args[j]? = some v → Value.okWide Try.prog W .any base t v)
    (hW : DataW.Whole enc Try.prog Try.f5.params.toList Rows.unwindBracketsSpec.vars false W args.toList ds gs before) :
    Calls Try.prog 5 args W fun e W' => ∃ v, e = .returned v ∧ Rows.unwindBracketsSpec.post enc Try.prog Try.f5 false true false false W args v W' := by
  have hsh : shsOk Try.prog [.sl evSh, .sl (.int .u8), .int .u8] Try.f5.params.toList = true := by kernel_rfl
  obtain ⟨p, q, hA, hV, _⟩ := id hW
  obtain ⟨hwf, hlen⟩ := args_wf hsh hA
  obtain rfl : gs = [] := by cases gs with | nil => rfl | cons => cases hV
  match ds, hlen with
  | [d1, d2, d3], _ =>
    simp only [wfDL, List.headD_cons, List.tail_cons] at hwf
    obtain ⟨w1, w2⟩ := u8_wf hwf.2.2.1
    have law := Try.law5 ((elemsD d1).map evD) ((elemsD d2).map intD) (bytes_wf hwf.2.1) (intD d3) w1 w2
    have e : argsA [.sl evSh, .sl (.int .u8), .int .u8] [d1, d2, d3] = [.ro (EV.con ((elemsD d1).map evD)) none, .ro (.ints .u8 ((elemsD d2).map intD)) none, .val (.int .u8 (intD d3))] := by
      rw [← argA_evs d1]; rfl
    rw [← e] at law
    exact law_calls (b := 4) Try.kidsG Try.fullG (by kernel_rfl) rfl Try.underlying4 (by kernel_rfl) rfl hsh hval hW law
theorem brackets_lifted (os : Os) (started : os.Started) (H : Type) (enc : TypeId × Value → H) :
    ReturnsInHanded {} Try.checked os 5 .any (Rows.unwindBracketsSpec.pre6 enc Try.prog Try.f5 Rows.unwindBracketsRow.domain false) (Rows.unwindBracketsSpec.post enc Try.prog Try.f5 false true false false) := by
  refine returnsInHanded_of_change (C := Try.checked) Try.ownG started (by kernel_rfl) Try.func5
    (ChangeSpec.witness6 (enc := enc) (C := Try.checked) false ⟨#[], #[.slice none 0 0, .slice none 0 0, .int .u8 0], []⟩ 8 (by kernel_rfl) (by kernel_rfl) (by kernel_rfl) (by kernel_rfl)) ?_
  intro W base args ds gs before hval hW _ _
  exact brackets_contract H enc W base args ds gs before hval hW
theorem unwindBrackets : Rows.UnwindBracketsSaid :=
  OpenClaim.holds_of_wide 5 Try.f5 rfl rfl rfl rfl rfl rfl rfl ⟨rfl, rfl, rfl, rfl, rfl⟩ rfl rfl rfl rfl rfl (by kernel_rfl) Try.func5 (by kernel_rfl)
    (of_decide_eq_true (by kernel_rfl)) (by unfold Func.isWrapper; first | (rw [if_pos (by decide +kernel)]; kernel_rfl) | (rw [if_neg (by decide +kernel)]; exact ⟨rfl, rfl⟩))
    (fun os started H enc _ => brackets_lifted os started H enc)
end Go.Proofs.Ytemblfgjamapbaa
