/- UnwindStacks, for every input: the law answers true, and its arguments read as they did. -/
import Derived.Test.YtemblfgjamapbaaChecked
import Derived.Test.YtemblfgjamapbaaRows
import Derived.ProofKit
import Derived.JoinedCond
import Derived.Handed
import Derived.JoinedOf
import Derived.Test.YtemblfgjamapbaaC9
set_option linter.unusedSectionVars false
set_option linter.unusedSimpArgs false
set_option linter.unusedVariables false
set_option maxRecDepth 100000
set_option maxRecDepth 1000000
noncomputable section
/- Stacks: a round of its loop. -/
namespace Go.Ev
open Go.Proofs
def sq1 : Code → Code
  | .seq a _ => a
  | _ => .skip
def sq2 : Code → Code
  | .seq _ b => b
  | _ => .skip
def blkIn : Code → Code
  | .block _ c => c
  | _ => .skip
def Try.t16s : List (Nat × AFun) := [(77, Try.A77), (79, Try.A79)]
def Try.t16o : List (Nat × AFun) := [(76, noA), (77, noA), (78, noA), (79, noA), (80, noA), (81, noA), (82, noA)]
def Try.E16 (o : Bool) : Env := Try.env0 false (sumsOf (bif o then Try.t16o else Try.t16s)) (keepF 16 [(5, [2, 4, 5, 15, 16, 17])])
def Try.b16 : Code := nthD .skip (loopsOf (bodyOf (Try.E16 false) 16)) 0
def Try.k16 : List Nat := [2, 4, 5, 15, 16, 17]
def Try.C16 (o : Bool) (c : Code) (K : KC (AX × St)) (s : St) : Option (AX × St) := codeS (Try.E16 o) (callF (Try.E16 o) 5) ((Try.E16 o).keep 16) (lsumsOf []) c K s
def Try.B16 (o : Bool) (s : St) : Option (AX × St) := Try.C16 o Try.b16 (outK Try.k16 [2, 4]) s
def Try.V16 (m : Nat) (l : List Evt) (i : Int) : List AV := [.ptr 0 0 0, .ptr 1 0 0, .mp m, .ro (EV.con l) none, .val (.int .i64 l.length), .val (.int .i64 i)]
def mapE (m : Nat) : Ent := ⟨m, 0, .map true kindsM⟩
def zE : Ent := ⟨0, 0, nilBlk⟩
def skRow (R : List AV) : Ent := ⟨1, 0, .cells (.rows false 1 (flatRows R))⟩
def H16 (S : Nat → List UwE) : Heap := ⟨11, mapE 10 :: skEb 2 S ++ [skRow (skCb 2 S), zE]⟩
def Try.s16 (l : List Evt) (S : Nat → List UwE) (i : Int) : St := stOf 30 Try.k16 (Try.V16 10 l i) (H16 S)
def Try.x16 (S : Nat → List UwE) : AX × St := (.exit 0, stOf 30 [2, 4] [.ptr 0 0 0, .ptr 1 0 0] ⟨10, skEb 2 S ++ [skRow (skCb 2 S), zE]⟩)
def Try.t16 (l : List Evt) (S : Nat → List UwE) (i : Int) (e : Evt) : St := stOf 30 [2, 4, 5, 7, 15, 16, 17, 18, 19, 20] [.ptr 0 0 0, .ptr 1 0 0, .mp 10, .ptr 11 0 0, .ro (EV.con l) none, .val (.int .i64 l.length), .val (.int .i64 i), .val (.bool true), .rptr (EV.con l) i.toNat 0, evA e]
  ⟨12, ⟨11, 1, .cells (.rows true 6 [evL e])⟩ :: mapE 10 :: skEb 2 S ++ [skRow (skCb 2 S), zE]⟩
def Try.c7 : Code := sq2 (blkIn (sq1 (sq2 (sq2 Try.b16))))
def Try.c8 : Code := sq2 (sq2 (sq2 Try.b16))
def Try.K8 (o : Bool) : KC (AX × St) := thenK (fun s' => Try.C16 o Try.c8 (outK Try.k16 [2, 4]) s') (outK Try.k16 [2, 4])
def Try.F16 (o : Bool) (l : List Evt) (S : Nat → List UwE) (i : Int) (e : Evt) : Option (AX × St) := Try.C16 o Try.c7 (blockK 1 (Try.K8 o)) (Try.t16 l S i e)
def Try.s5t (l : List Evt) (S : Nat → List UwE) (i : Int) (b : Bool) : St := stOf 30 [2, 4, 5, 15, 16, 17, 18] [.ptr 0 0 0, .ptr 1 0 0, .mp 10, .ro (EV.con l) none, .val (.int .i64 l.length), .val (.int .i64 i), .val (.bool b)] (H16 S)
def Try.R5 : Code := sq1 Try.b16
def Try.cif : Code := sq1 (sq2 Try.b16)
def Try.R6 : Code := sq1 (blkIn (sq1 (sq2 (sq2 Try.b16))))
theorem Try.b16_eq : Try.b16 = .seq Try.R5 (.seq Try.cif (.seq (.block 1 (.seq Try.R6 Try.c7)) Try.c8)) := by kernel_rfl
theorem Try.r16_5 (o : Bool) (l : List Evt) (S : Nat → List UwE) (i : Int) (K : KC (AX × St)) : Try.C16 o Try.R5 K (Try.s16 l S i) = bif decide (i < (l.length : Int)) then K .normal (Try.s5t l S i true) else K .normal (Try.s5t l S i false) := by kernel_rfl
theorem Try.r16_i (o : Bool) (l : List Evt) (S : Nat → List UwE) (i : Int) (K : KC (AX × St)) : Try.C16 o Try.cif K (Try.s5t l S i true) = K .normal (Try.s5t l S i true) := by kernel_rfl
theorem Try.r16_j (o : Bool) (l : List Evt) (S : Nat → List UwE) (i : Int) (K : KC (AX × St)) : Try.C16 o Try.cif K (Try.s5t l S i false) = K (.exit 0) (Try.s5t l S i false) := by kernel_rfl
theorem Try.r16_6 (o : Bool) (l : List Evt) (S : Nat → List UwE) (i : Int) (K : KC (AX × St)) : Try.C16 o Try.R6 K (Try.s5t l S i true) = bif inR i l.length then K .normal (Try.t16 l S i (l.getD i.toNat EV.z)) else none := by kernel_rfl
theorem Try.r16_o (l : List Evt) (S : Nat → List UwE) (i : Int) : outK Try.k16 [2, 4] (.exit 0) (Try.s5t l S i false) = some (Try.x16 S) := by kernel_rfl
theorem thenK_n {ρ : Type} (J : St → Option ρ) (K : KC ρ) (s : St) : thenK J K .normal s = J s := rfl
theorem thenK_e {ρ : Type} (J : St → Option ρ) (K : KC ρ) (i : Nat) (s : St) : thenK J K (.exit i) s = K (.exit i) s := rfl
theorem Try.r16 (o : Bool) (l : List Evt) (S : Nat → List UwE) (i : Int) : Try.B16 o (Try.s16 l S i) =
    bif decide (i < (l.length : Int)) then (bif inR i l.length then Try.F16 o l S i (l.getD i.toNat EV.z) else none) else some (Try.x16 S) := by
  unfold Try.B16
  rw [Try.b16_eq]
  show Try.C16 o Try.R5 (thenK (fun s' => Try.C16 o (.seq Try.cif (.seq (.block 1 (.seq Try.R6 Try.c7)) Try.c8)) (outK Try.k16 [2, 4]) s') (outK Try.k16 [2, 4])) (Try.s16 l S i) = _
  rw [Try.r16_5]
  cases decide (i < (l.length : Int)) with
  | true =>
    rw [cond_true, cond_true, thenK_n]
    show Try.C16 o Try.cif (thenK (fun s' => Try.C16 o (.seq (.block 1 (.seq Try.R6 Try.c7)) Try.c8) (outK Try.k16 [2, 4]) s') (outK Try.k16 [2, 4])) (Try.s5t l S i true) = _
    rw [Try.r16_i]
    show Try.C16 o Try.R6 (thenK (fun s' => Try.C16 o Try.c7 (blockK 1 (Try.K8 o)) s') (blockK 1 (Try.K8 o))) (Try.s5t l S i true) = _
    rw [Try.r16_6, thenK_n]
    unfold Try.F16
    rfl
  | false =>
    rw [cond_false, cond_false, thenK_n]
    show Try.C16 o Try.cif (thenK (fun s' => Try.C16 o (.seq (.block 1 (.seq Try.R6 Try.c7)) Try.c8) (outK Try.k16 [2, 4]) s') (outK Try.k16 [2, 4])) (Try.s5t l S i false) = _
    rw [Try.r16_j, thenK_e]
    exact Try.r16_o l S i
def n16 (l : List Evt) (i : Int) (C : Nat → Con) (N : Nat → Nat) : Option (AX × St) := some (.normal, stOf 30 Try.k16 (Try.V16 10 l (IntKind.i64.wrap (i + 1))) ⟨11, mapE 10 :: skEn 2 C ++ [skRow (l8 (skN 2 N)), zE]⟩)
def cS (S : Nat → List UwE) (i : Nat) : Con := UE.con (S i)
def q16 (l : List Evt) (i : Int) (S : Nat → List UwE) : Option (AX × St) := some (.normal, Try.s16 l S (IntKind.i64.wrap (i + 1)))
def appC0 (S : Nat → List UwE) (x : UwE) (t i : Nat) : Con := bif Nat.beq i t then .tab 5 ((S t).length + 1) (fun i => bif i.blt (S t).length then UE.row ((S t).getD (0 + i) UE.z) else [UE.row x].getD (i - (S t).length) []) else UE.con (S i)
def appR0 {α : Type} (S : Nat → List UwE) (t : Nat) (x : Option α) : Option α := bif (0 + (S t).length).ble (S t).length then (bif (((S t).length + 1) * 32).ble most && ((S t).length + 1).ble most then x else none) else none
def cut0 (f : List UwE → Int → Nat) (S : Nat → List UwE) (a : Int) (t : Nat) : Nat → List UwE := setS (rowAt (H9 S)) (Int.toNat t) ((rowAt (H9 S) (Int.toNat t)).take (f (rowAt (H9 S) (Int.toNat t)) a))
def hx16 (S : Nat → List UwE) (t : Nat) (R : Nat → AV) : List Ent := mapE 9 :: skEx 2 t (cS S) ++ [skRow (l8 R), zE]
def hole16 (l : List Evt) (i : Int) (S : Nat → List UwE) (t : Nat) : Option (AX × St) := some (.normal, stOf 30 Try.k16 (Try.V16 9 l (IntKind.i64.wrap (i + 1))) ⟨10, hx16 S t (skX 2 t (lenS S))⟩)
theorem Try.f16c (l : List Evt) (S : Nat → List UwE) (i : Int) (pc a b n : Int) : ∀ t : Nat, t < 8 → Try.F16 false l S i ⟨6, t, pc, a, b, n⟩ = appR0 S t (n16 l i (appC0 S (1, pc, a, b, 0) t) (appN S t)) :=
  each8 (by kernel_rfl) (by kernel_rfl) (by kernel_rfl) (by kernel_rfl) (by kernel_rfl) (by kernel_rfl) (by kernel_rfl) (by kernel_rfl)
theorem Try.f16s (l : List Evt) (S : Nat → List UwE) (i : Int) (pc a b n : Int) : ∀ t : Nat, t < 8 → Try.F16 false l S i ⟨9, t, pc, a, b, n⟩ = bif a != 0 then appR0 S t (n16 l i (appC0 S (2, pc, a, pc, n) t) (appN S t)) else q16 l i S :=
  each8 (by kernel_rfl) (by kernel_rfl) (by kernel_rfl) (by kernel_rfl) (by kernel_rfl) (by kernel_rfl) (by kernel_rfl) (by kernel_rfl)
theorem Try.f16r (l : List Evt) (S : Nat → List UwE) (i : Int) (pc a b n : Int) : ∀ t : Nat, t < 8 → Try.F16 false l S i ⟨7, t, pc, a, b, n⟩ = bif isH (H9 S) (H9 (rowAt (H9 S))) then (bif thrd t && Nat.ble (rowAt (H9 S) (Int.toNat t)).length 1000000 then q16 l i (cut0 retN S a t) else none) else none :=
  each8 (by kernel_rfl) (by kernel_rfl) (by kernel_rfl) (by kernel_rfl) (by kernel_rfl) (by kernel_rfl) (by kernel_rfl) (by kernel_rfl)
theorem Try.f16b (l : List Evt) (S : Nat → List UwE) (i : Int) (pc a b n : Int) : ∀ t : Nat, t < 8 → Try.F16 false l S i ⟨10, t, pc, a, b, n⟩ = bif isH (H9 S) (H9 (rowAt (H9 S))) then (bif thrd t && Nat.ble (rowAt (H9 S) (Int.toNat t)).length 1000000 then q16 l i (cut0 (fun l _ => backN' l) S a t) else none) else none :=
  each8 (by kernel_rfl) (by kernel_rfl) (by kernel_rfl) (by kernel_rfl) (by kernel_rfl) (by kernel_rfl) (by kernel_rfl) (by kernel_rfl)
theorem Try.f16e (l : List Evt) (S : Nat → List UwE) (i : Int) (pc a b n : Int) : ∀ t : Nat, t < 8 → Try.F16 false l S i ⟨12, t, pc, a, b, n⟩ = hole16 l i S t :=
  each8 (by kernel_rfl) (by kernel_rfl) (by kernel_rfl) (by kernel_rfl) (by kernel_rfl) (by kernel_rfl) (by kernel_rfl) (by kernel_rfl)
theorem Try.f16n (l : List Evt) (S : Nat → List UwE) (i : Int) (th pc a b : Int) : ∀ t : Nat, t < 8 → Try.F16 false l S i ⟨11, th, pc, a, b, t⟩ = thx th (hole16 l i S t) (q16 l i S) :=
  each8 (by kernel_rfl) (by kernel_rfl) (by kernel_rfl) (by kernel_rfl) (by kernel_rfl) (by kernel_rfl) (by kernel_rfl) (by kernel_rfl)
theorem Try.f16u (l : List Evt) (S : Nat → List UwE) (i : Int) (th pc a b : Int) (m : Nat) : Try.F16 false l S i ⟨11, th, pc, a, b, .negSucc m⟩ = thx th (q16 l i S) (q16 l i S) := by kernel_rfl
theorem Try.f16v (l : List Evt) (S : Nat → List UwE) (i : Int) (th pc a b : Int) (m : Nat) : Try.F16 false l S i ⟨11, th, pc, a, b, .ofNat (m + 8)⟩ = thx th (q16 l i S) (q16 l i S) := by kernel_rfl
theorem Try.f16o (l : List Evt) (S : Nat → List UwE) (i : Int) (k th pc a b n : Int) : Try.F16 true l S i ⟨k, th, pc, a, b, n⟩ = kx k (thx th none (q16 l i S)) (q16 l i S) := by kernel_rfl
end Go.Ev
/- Stacks, as a summary. -/
namespace Go.Ev
open Go.Proofs
noncomputable def orK {ρ : Type} (X Y : KC ρ → St → Option ρ) (K : KC ρ) (s : St) : Option ρ := match X K s with
  | some r => some r
  | none => Y K s
theorem COk.or {P : Program} {root : Md} {round : Bool} {c : Code} {ρ : Type} {X Y : KC ρ → St → Option ρ} (hX : COk P root round c X) (hY : COk P root round c Y) : COk P root round c (orK X Y) := by
  intro K s r hk hK
  unfold orK at hK
  split at hK
  · rename_i r' h
    injection hK with hK
    subst hK
    exact hX K s r' hk h
  · exact hY K s r hk hK
theorem nilFlat {n wd : Nat} {f f' : Nat → AV} (h : ∀ i, NilV n wd (f i) (f' i)) (i : Nat) : NilL n wd ((flatRows (l8 f)).getD i []) ((flatRows (l8 f')).getD i []) := by
  rcases i with _ | _ | _ | _ | _ | _ | _ | _ | i
  · exact .cons (h 0) .nil
  · exact .cons (h 1) .nil
  · exact .cons (h 2) .nil
  · exact .cons (h 3) .nil
  · exact .cons (h 4) .nil
  · exact .cons (h 5) .nil
  · exact .cons (h 6) .nil
  · exact .cons (h 7) .nil
  · show NilL n wd (([] : List (List AV)).getD i []) (([] : List (List AV)).getD i [])
    simp only [List.getD_eq_getElem?_getD, List.getElem?_nil, Option.getD_none]
    exact .nil
def skY (b t : Nat) (N : Nat → Nat) (i : Nat) : AV := bif Nat.beq i t then ow 10 0 else ow (b + (bif Nat.blt i t then i else i - 1)) (N i)
def eE (id : Nat) : Ent := ⟨id, 0, .cells (UE.con [])⟩
def entsN : Nat → List Ent
  | 0 => []
  | m + 1 => eE (3 + m) :: entsN m
def rowN (m i : Nat) : AV := bif Nat.blt i m then ow (3 + i) 0 else .val (.slice none 0 0)
def rowE (p : Bool) (R : List AV) : Ent := ⟨1, 0, .cells (.rows p 1 (flatRows R))⟩
def Try.n16s (p : Bool) (l : List Evt) (i : Int) (m : Nat) : St := stOf 30 Try.k16 (Try.V16 2 l i) ⟨3 + m, entsN m ++ mapE 2 :: [rowE p (l8 (rowN m)), zE]⟩
theorem hx16_ok (S : Nat → List UwE) (R : Nat → AV) : ∀ t, t < 8 → (⟨10, hx16 S t R⟩ : Heap).ok :=
  each8 (heap_ok [9, 8, 7, 6, 5, 4, 3, 2, 1, 0] rfl (by decide) (by decide)) (heap_ok [9, 8, 7, 6, 5, 4, 3, 2, 1, 0] rfl (by decide) (by decide)) (heap_ok [9, 8, 7, 6, 5, 4, 3, 2, 1, 0] rfl (by decide) (by decide)) (heap_ok [9, 8, 7, 6, 5, 4, 3, 2, 1, 0] rfl (by decide) (by decide)) (heap_ok [9, 8, 7, 6, 5, 4, 3, 2, 1, 0] rfl (by decide) (by decide)) (heap_ok [9, 8, 7, 6, 5, 4, 3, 2, 1, 0] rfl (by decide) (by decide)) (heap_ok [9, 8, 7, 6, 5, 4, 3, 2, 1, 0] rfl (by decide) (by decide)) (heap_ok [9, 8, 7, 6, 5, 4, 3, 2, 1, 0] rfl (by decide) (by decide))
theorem H16_ok (C : Nat → Con) (R : List AV) : (⟨11, mapE 10 :: skEn 2 C ++ [skRow R, zE]⟩ : Heap).ok := heap_ok [10, 9, 8, 7, 6, 5, 4, 3, 2, 1, 0] rfl (by decide) (by decide)
theorem hole_canon (l : List Evt) (i : Int) (S : Nat → List UwE) : ∀ t, t < 8 → canon (some Try.k16) (stOf 30 Try.k16 (Try.V16 9 l i) ⟨11, eE 10 :: hx16 S t (skY 2 t (lenS S))⟩) =
    stOf 30 Try.k16 (Try.V16 10 l i) ⟨11, mapE 10 :: skEn 2 (fun i => bif Nat.beq i t then UE.con [] else UE.con (S i)) ++ [skRow (l8 (skN 2 (fun i => bif Nat.beq i t then 0 else (S i).length))), zE]⟩ :=
  each8 (by kernel_rfl) (by kernel_rfl) (by kernel_rfl) (by kernel_rfl) (by kernel_rfl) (by kernel_rfl) (by kernel_rfl) (by kernel_rfl)
theorem hole_weak (l : List Evt) (i : Int) (S : Nat → List UwE) (t : Nat) (ht : t < 8) : Weak (stOf 30 Try.k16 (Try.V16 9 l i) ⟨10, hx16 S t (skX 2 t (lenS S))⟩) (Try.s16 l (setS S t []) i) := by
  have h1 : WeakP 0 (stOf 30 Try.k16 (Try.V16 9 l i) ⟨10, hx16 S t (skX 2 t (lenS S))⟩) (stOf 30 Try.k16 (Try.V16 9 l i) ⟨11, eE 10 :: hx16 S t (skY 2 t (lenS S))⟩) := by
    refine WeakP.nilRows (mapE 9 :: skEx 2 t (cS S)) [zE] (con := UE.con []) (hx16_ok S _ t ht) rfl (by rw [flatRows_len, flatRows_len]; rfl) (nilFlat (fun i => ?_))
    unfold skX skY
    cases Nat.beq i t
    · exact .inl rfl
    · exact .inr ⟨rfl, rfl⟩
  have h2 := Weak.canon h1.1 Try.k16
  rw [hole_canon l i S t ht] at h2
  have e1 : (fun i => bif Nat.beq i t then UE.con [] else UE.con (S i)) = cS (setS S t []) := funext fun i => by unfold cS setS; cases Nat.beq i t <;> rfl
  have e2 : (fun i => bif Nat.beq i t then 0 else (S i).length) = lenS (setS S t []) := funext fun i => by unfold lenS setS; cases Nat.beq i t <;> rfl
  rw [e1, e2] at h2
  exact (Weak.ofP h1).trans h2
theorem n16s_ok (p : Bool) (R : List AV) : ∀ m, m ≤ 8 → (⟨3 + m, entsN m ++ mapE 2 :: [rowE p R, zE]⟩ : Heap).ok := by
  intro m hm
  have h : m < 9 := by omega
  rcases m with _ | _ | _ | _ | _ | _ | _ | _ | _ | m
  · exact heap_ok [2, 1, 0] rfl (by decide) (by decide)
  · exact heap_ok [3, 2, 1, 0] rfl (by decide) (by decide)
  · exact heap_ok [4, 3, 2, 1, 0] rfl (by decide) (by decide)
  · exact heap_ok [5, 4, 3, 2, 1, 0] rfl (by decide) (by decide)
  · exact heap_ok [6, 5, 4, 3, 2, 1, 0] rfl (by decide) (by decide)
  · exact heap_ok [7, 6, 5, 4, 3, 2, 1, 0] rfl (by decide) (by decide)
  · exact heap_ok [8, 7, 6, 5, 4, 3, 2, 1, 0] rfl (by decide) (by decide)
  · exact heap_ok [9, 8, 7, 6, 5, 4, 3, 2, 1, 0] rfl (by decide) (by decide)
  · exact heap_ok [10, 9, 8, 7, 6, 5, 4, 3, 2, 1, 0] rfl (by decide) (by decide)
  · omega
theorem nil_step (p : Bool) (l : List Evt) (i : Int) (m : Nat) (hm : m < 8) : Weak (Try.n16s p l i m) (Try.n16s false l i (m + 1)) := by
  have h1 : WeakP 0 (Try.n16s p l i m) (stOf 30 Try.k16 (Try.V16 2 l i) ⟨3 + m + 1, eE (3 + m) :: ((entsN m ++ [mapE 2]) ++ ⟨1, 0, .cells (.rows false 1 (flatRows (l8 (rowN (m + 1)))))⟩ :: [zE])⟩) := by
    have e : entsN m ++ mapE 2 :: [rowE p (l8 (rowN m)), zE] = (entsN m ++ [mapE 2]) ++ ⟨1, 0, .cells (.rows p 1 (flatRows (l8 (rowN m))))⟩ :: [zE] := by
      rw [List.append_assoc]; rfl
    unfold Try.n16s
    rw [e]
    refine WeakP.nilRows (entsN m ++ [mapE 2]) [zE] (con := UE.con []) (by rw [← e]; exact n16s_ok p _ m (by omega)) rfl (by rw [flatRows_len, flatRows_len]; rfl) (nilFlat (fun j => ?_))
    unfold rowN
    rcases Nat.lt_or_ge j m with q | q
    · rw [blt_t q, blt_t (show j < m + 1 by omega)]; exact .inl rfl
    · rw [blt_f q]
      rcases Nat.lt_or_ge j (m + 1) with q2 | q2
      · have : j = m := by omega
        subst this
        rw [blt_t q2]; exact .inr ⟨rfl, rfl⟩
      · rw [blt_f q2]; exact .inl rfl
  have e2 : eE (3 + m) :: ((entsN m ++ [mapE 2]) ++ ⟨1, 0, .cells (.rows false 1 (flatRows (l8 (rowN (m + 1)))))⟩ :: [zE]) = entsN (m + 1) ++ mapE 2 :: [rowE false (l8 (rowN (m + 1))), zE] := by
    rw [List.append_assoc]; rfl
  rw [e2] at h1
  exact Weak.ofP h1
theorem nil_all (p : Bool) (l : List Evt) (i : Int) : ∀ m, m < 8 → Weak (Try.n16s p l i 0) (Try.n16s false l i (m + 1))
  | 0, _ => nil_step p l i 0 (by omega)
  | m + 1, h => (nil_all p l i m (by omega)).trans (nil_step false l i (m + 1) h)
theorem nil_canon (l : List Evt) (i : Int) : canon (some Try.k16) (Try.n16s false l i 8) = Try.s16 l (fun _ => []) i := by kernel_rfl
theorem nil_weak (p : Bool) (l : List Evt) (i : Int) : Weak (Try.n16s p l i 0) (Try.s16 l (fun _ => []) i) := by
  have h := nil_all p l i 7 (by omega)
  have h2 := Weak.canon h.1 Try.k16
  rw [nil_canon] at h2
  exact h.trans h2
theorem Try.f16z (l : List Evt) (S : Nat → List UwE) (i : Int) (th pc a b n : Int) : Try.F16 false l S i ⟨24, th, pc, a, b, n⟩ = thx th (some (.normal, Try.n16s false l (IntKind.i64.wrap (i + 1)) 0)) (q16 l i S) := by kernel_rfl
end Go.Ev
/- Stacks, as a summary: its loop. -/
namespace Go.Ev
open Go.Proofs
theorem s16_ok (l : List Evt) (S : Nat → List UwE) (i : Int) : (Try.s16 l S i).h.ok := H16_ok (cS S) _
theorem q16_refl (l : List Evt) (S : Nat → List UwE) (i : Int) : Weak (Try.s16 l S i) (Try.s16 l S i) := Weak.refl (s16_ok l S i)
theorem H9_rows (S : Nat → List UwE) : H9 S = H9 (rowAt (H9 S)) ∧ ∀ t, t < 8 → rowAt (H9 S) t = S t := by
  have h : ∀ t, t < 8 → rowAt (H9 S) t = S t := each8 (UE.list_con _) (UE.list_con _) (UE.list_con _) (UE.list_con _) (UE.list_con _) (UE.list_con _) (UE.list_con _) (UE.list_con _)
  exact ⟨H9_congr (fun t ht => (h t ht).symm), h⟩
theorem s16_congr {S T : Nat → List UwE} (h : ∀ i, i < 8 → S i = T i) (l : List Evt) (i : Int) : Try.s16 l S i = Try.s16 l T i := by
  obtain ⟨c1, c2, _⟩ := skEb_congr h 2
  unfold Try.s16 H16
  rw [c1, c2]
theorem cut0_eq (f : List UwE → Int → Nat) (S : Nat → List UwE) (a : Int) (t : Nat) (ht : t < 8) : ∀ i, i < 8 → cut0 f S a t i = setS S t ((S t).take (f (S t) a)) i := by
  intro i hi
  unfold cut0
  have e : Int.toNat (t : Int) = t := Int.toNat_natCast t
  rw [e, (H9_rows S).2 t ht]
  unfold setS
  rw [(H9_rows S).2 i hi]
theorem appC0_w (S : Nat → List UwE) (x : UwE) (t i : Nat) : ConW (appC0 S x t i) (cS (setS S t (S t ++ [x])) i) := by
  have h := appC_w S x t i
  unfold appC at h
  rw [rl_eq, rlC_eq] at h
  exact h
theorem app16_w (l : List Evt) (S : Nat → List UwE) (x : UwE) (t : Nat) (i : Int) : Weak (stOf 30 Try.k16 (Try.V16 10 l i) ⟨11, mapE 10 :: skEn 2 (appC0 S x t) ++ [skRow (l8 (skN 2 (appN S t))), zE]⟩) (Try.s16 l (setS S t (S t ++ [x])) i) := by
  have e : appN S t = lenS (setS S t (S t ++ [x])) := funext fun i => by unfold appN lenS setS; cases Nat.beq i t <;> simp
  rw [e]
  refine Weak.heap (H16_ok _ _) (.same _ (skEn_w (fun i => ?_) (appC0_w S x t) (EsW.refl _)))
  unfold appC0
  cases Nat.beq i t <;> rfl
theorem appR0_t {α : Type} {S : Nat → List UwE} (h : ∀ i, (S i).length ≤ 1000000) (t : Nat) (x : Option α) : appR0 S t x = x := by
  have := h t
  unfold appR0
  rw [Nat.zero_add, ble_t (Nat.le_refl _), ble_t (show ((S t).length + 1) * 32 ≤ most by rw [most_eq]; omega), ble_t (show (S t).length + 1 ≤ most by rw [most_eq]; omega)]; rfl
theorem Try.e16 (o : Bool) : EnvOk2 Try.prog (Try.E16 o) := by
  cases o
  · exact Try.envOk false (sumsOf Try.t16s) _ (sumsOf_ok (show AllS Try.prog Try.t16s from ⟨Try.sum77, Try.sum79, trivial⟩))
  · exact Try.envOk false (sumsOf Try.t16o) _ (sumsOf_ok (show AllS Try.prog Try.t16o from ⟨noA_sum Try.fnOk76 rfl, noA_sum Try.fnOk77 rfl, noA_sum Try.fnOk78 rfl, noA_sum Try.fnOk79 rfl, noA_sum Try.fnOk80 rfl, noA_sum Try.fnOk81 rfl, noA_sum Try.fnOk82 rfl, trivial⟩))
theorem F16_step (l : List Evt) (S : Nat → List UwE) (hS : ∀ i, (S i).length ≤ 1000000) (i : Int) (e : Evt) :
    (∃ s1, Try.F16 true l S i e = some (.normal, s1) ∧ Weak s1 (Try.s16 l (stepU S e) (IntKind.i64.wrap (i + 1)))) ∨ (Try.F16 true l S i e = none ∧ ∃ s1, Try.F16 false l S i e = some (.normal, s1) ∧ Weak s1 (Try.s16 l (stepU S e) (IntKind.i64.wrap (i + 1)))) := by
  obtain ⟨k, th, pc, a, b, n⟩ := e
  have ho := Try.f16o l S i k th pc a b n
  cases hth : thrd th with
  | false =>
    have e1 : stepU S ⟨k, th, pc, a, b, n⟩ = S := by unfold stepU; simp only [hth]; rfl
    rw [thx_f hth] at ho
    have e2 : kx k (q16 l i S) (q16 l i S) = q16 l i S := by unfold kx; simp only [cond_sameB]
    rw [e2] at ho
    rw [e1]
    exact .inl ⟨_, ho, q16_refl _ _ _⟩
  | true =>
    obtain ⟨t, ht, rfl⟩ := thrd_cast hth
    have et : Int.toNat (t : Int) = t := Int.toNat_natCast t
    rw [thx_t hth] at ho
    obtain ⟨hh, hr⟩ := H9_rows S
    unfold stepU
    simp only [hth, cond_true, et]
    rcases kx_cases k with rfl | rfl | rfl | rfl | rfl | rfl | rfl | hk
    · refine .inr ⟨ho, _, (Try.f16c l S i pc a b n t ht).trans (appR0_t hS t _), app16_w l S _ t _⟩
    · have key := Try.f16r l S i pc a b n t ht
      rw [← hh, isH_refl, hth, et, hr t ht, ble_t (hS t)] at key
      unfold q16 at key
      rw [s16_congr (cut0_eq retN S a t ht)] at key
      exact .inr ⟨ho, _, key, q16_refl _ _ _⟩
    · have key := Try.f16s l S i pc a b n t ht
      rw [appR0_t hS] at key
      refine .inr ⟨ho, ?_⟩
      show ∃ s1, _ ∧ Weak s1 (Try.s16 l (bif a != 0 then _ else S) _)
      cases ha : a != 0 with
      | true => rw [ha] at key; exact ⟨_, key, app16_w l S _ t _⟩
      | false => rw [ha] at key; exact ⟨_, key, q16_refl _ _ _⟩
    · have key := Try.f16b l S i pc a b n t ht
      rw [← hh, isH_refl, hth, et, hr t ht, ble_t (hS t)] at key
      unfold q16 at key
      rw [s16_congr (cut0_eq (fun l _ => backN' l) S a t ht)] at key
      exact .inr ⟨ho, _, key, q16_refl _ _ _⟩
    · refine .inr ⟨ho, ?_⟩
      show ∃ s1, _ ∧ Weak s1 (Try.s16 l (bif thrd n then setS S n.toNat [] else S) _)
      cases hn : thrd n with
      | true =>
        obtain ⟨m, hm, rfl⟩ := thrd_cast hn
        have key := Try.f16n l S i t pc a b m hm
        rw [thx_t hth] at key
        rw [Int.toNat_natCast]
        exact ⟨_, key, hole_weak l _ S m hm⟩
      | false =>
        rcases thrd_out hn with ⟨m, rfl⟩ | ⟨m, rfl⟩
        · have key := Try.f16u l S i t pc a b m
          rw [thx_t hth] at key
          exact ⟨_, key, q16_refl _ _ _⟩
        · have key := Try.f16v l S i t pc a b m
          rw [thx_t hth] at key
          exact ⟨_, key, q16_refl _ _ _⟩
    · exact .inr ⟨ho, _, Try.f16e l S i pc a b n t ht, hole_weak l _ S t ht⟩
    · have key := Try.f16z l S i t pc a b n
      rw [thx_t hth] at key
      exact .inr ⟨ho, _, key, nil_weak false l _⟩
    · obtain ⟨k1, k2, k3, k4, k5, k6, k7⟩ := hk
      unfold kx at ho
      rw [beqI_f k1, beqI_f k2, beqI_f k3, beqI_f k4, beqI_f k5, beqI_f k6, beqI_f k7] at ho ⊢
      exact .inl ⟨_, ho, q16_refl _ _ _⟩
theorem orK_some {ρ : Type} {X Y : KC ρ → St → Option ρ} {K : KC ρ} {s : St} {r : ρ} (h : X K s = some r) : orK X Y K s = some r := by unfold orK; rw [h]
theorem orK_none {ρ : Type} {X Y : KC ρ → St → Option ρ} {K : KC ρ} {s : St} {r : ρ} (h : X K s = none) (h2 : Y K s = some r) : orK X Y K s = some r := by unfold orK; rw [h]; exact h2
def Try.L16 (l : List Evt) : LSum := atL (Try.n16s true l 0 0) (.grd (Nat.ble l.length 1000000) (.out (Try.x16 (runE l))))
theorem x16_ok (S : Nat → List UwE) : (Try.x16 S).2.h.ok := heap_ok [9, 8, 7, 6, 5, 4, 3, 2, 1, 0] rfl (by decide) (by decide)
theorem Try.l16 (l : List Evt) : ∀ s e s', s.h.ok → (Try.L16 l s).run = some (e, s') → Triple Try.prog (.loop Try.b16) s e s' := by
  intro s e s' hk hL
  obtain ⟨rfl, hA⟩ := atL_some hL
  rw [Ans.run_grd] at hA
  cases hd : Nat.ble l.length 1000000 with
  | false => rw [hd] at hA; cases hA
  | true =>
  rw [hd, cond_true] at hA
  have hA := Option.some.inj hA
  rw [Nat.ble_eq] at hd
  have hX := fun o => codeS_sound (ρ := AX × St) (callF_sound (Try.e16 o) 5) (Try.e16 o).ok (Try.e16 o).mix ((Try.E16 o).keep 16) (lsumsOf []) Try.b16 trivial
  have hO : COk Try.prog ⟨true, 0⟩ false Try.b16 (orK (fun K s => Try.C16 true Try.b16 K s) (fun K s => Try.C16 false Try.b16 K s)) := COk.or (hX true) (hX false)
  have key := loop_tripleW hO Try.k16 [2, 4] (T := Nat) (fun k => Try.s16 l (runN l k) k) (fun k => k ≤ l.length) (fun k => l.length - k) (fun _ => Try.x16 (runE l)) (fun k _ => s16_ok l _ _) (fun k hk => by
    replace hk : k ≤ l.length := hk
    have r1 := Try.r16 true l (runN l k) k
    have r2 := Try.r16 false l (runN l k) k
    unfold Try.B16 at r1 r2
    by_cases h : k < l.length
    · rw [declt_nat, inR_nat, decide_eq_true h, Int.toNat_natCast] at r1 r2
      have hst := F16_step l (runN l k) (fun i => Nat.le_trans (runN_len l k i) (by omega)) k (l.getD k EV.z)
      rw [wrapT k (by omega)] at hst
      rcases hst with ⟨s1, q1, q2⟩ | ⟨q0, s1, q1, q2⟩
      · refine .inl ⟨k + 1, s1, ?_, q2, h, by omega, rfl⟩
        exact orK_some (by rw [r1, q1]; rfl)
      · refine .inl ⟨k + 1, s1, ?_, q2, h, by omega, rfl⟩
        exact orK_none (by rw [r1, q0]; rfl) (by rw [r2, q1]; rfl)
    · have e1 : k = l.length := by omega
      rw [declt_nat, decide_eq_false h] at r1
      refine .inr ⟨(Try.x16 (runE l)).2, ?_, Weak.refl (x16_ok _), by show (AX.exit 0) ≠ .normal; simp⟩
      subst e1
      exact orK_some (by rw [r1]; rfl)) 0 (Nat.zero_le _)
  rw [show Try.x16 (runE l) = (e, s') from hA] at key
  exact Triple.weak (nil_weak true l 0) key
theorem purS2 (S : Nat → List UwE) (x : Value) : purT ⟨8, skEb 0 S⟩ (.tup [.agg (skCb 0 S), .val x]) = some (.tup [.agg (l8 (fun i => .ro (.tab 5 (lenS S i) (fun j => UE.row ((S i).getD (0 + j) UE.z))) none)), .val x]) := by
  have key : purA ⟨8, skEb 0 S⟩ (.agg (skCb 0 S)) = opt8 (fun i => bif (0 + lenS S i).ble (S i).length && true then some (.ro (.tab 5 (lenS S i) (fun j => UE.row ((S i).getD (0 + j) UE.z))) none) else none) := by kernel_rfl
  have e : ∀ i, (bif (0 + lenS S i).ble (S i).length && true then some (AV.ro (.tab 5 (lenS S i) (fun j => UE.row ((S i).getD (0 + j) UE.z))) none) else none) = some (AV.ro (.tab 5 (lenS S i) (fun j => UE.row ((S i).getD (0 + j) UE.z))) none) := fun i => by
    rw [Nat.zero_add, show lenS S i = (S i).length from rfl, ble_t (Nat.le_refl _)]; rfl
  rw [opt8_some e] at key
  show (match consO (purA ⟨8, skEb 0 S⟩ (.agg (skCb 0 S))) (some [AV.val x]) with | some l => some (AV.tup l) | none => none) = _
  rw [key]; rfl
theorem lendS2 {P : Program} {g : Nat} {args : List AV} (S : Nat → List UwE) (x : Value) (h : Alone P g args (.tup [.agg (skCb 0 S), .val x]) ⟨8, skEb 0 S⟩) : Alone P g args (.tup [skA S, .val x]) ⟨0, []⟩ :=
  Alone.resW (AW.tup (.cons (AW.agg (AWs.l8 (fun i => row_aw (S i)))) (.cons (AW.refl _) .nil))) (Alone.lend (purS2 S x) h)
theorem Try.w16 (l : List Evt) : rootS (Try.E16 false) 5 16 (lsumsOf [(5, Try.L16 l)]) [.ro (EV.con l) none] =
    bif decide ((l.length : Int) > 1000000) then some (.tup [.agg (l8 (fun _ => .val (.slice none 0 0))), .val (.int .i64 2)], ⟨0, []⟩)
    else bif isSt (Try.n16s true l 0 0) (Try.n16s true l 0 0) then (bif Nat.ble l.length 1000000 then some (.tup [.agg (skCb 0 (runE l)), .val (.int .i64 0)], ⟨8, skEb 0 (runE l)⟩) else none) else none := by kernel_rfl
theorem Try.al16 (l : List Evt) (hl : l.length ≤ 1000000) : Alone Try.prog 16 [.ro (EV.con l) none] (.tup [skA (runE l), .val (.int .i64 0)]) ⟨0, []⟩ := by
  refine lendS2 _ _ (rootS_alone (Try.e16 false) (d := 5) (g := 16) (ls := lsumsOf [(5, Try.L16 l)]) (AllL.of1 (a := Try.b16) (by kernel_rfl) (LsOk.of rfl rfl (Try.l16 l))) ((Try.w16 l).trans ?_))
  rw [isSt_refl, ble_t hl, decide_eq_false (by omega)]; rfl
theorem Try.sum16 : SumC Try.prog 16 Try.A17 := stacks_sum Try.fnOk16 rfl Try.al16
end Go.Ev
/- Trace. -/
namespace Go.Ev
open Go.Proofs
def Try.E19 : Env := Try.env0 false (sumsOf []) (keepF 19 [(3, [5,11])])
def Try.rg19 : Code := nthD .skip (rangesOf (bodyOf Try.E19 19)) 0
def Try.T19 : List AV := placeL [5,11] [.ptr 2 0 0, .clo (.func 83) [] [.ptr 3 0 0]] 23 0
def Try.H19 (st : LoopState) (pend : Option Code) (L : List UwE) (v : AV) : List Ent := [⟨3, 0, .cells (.rows true 1 [[.ro (UE.con L) none]])⟩, ⟨2, 0, .cells (.rows (noOwn0 v) 1 [[v]])⟩, ⟨1, 0, .defd⟩, ⟨0, 0, .loop st pend Try.T19 [12, 13] (asg Try.rg19) (bdy Try.rg19) 1⟩]
def pc1 (pc : Int) : AV := .ro (.ints .u32 [pc]) (some 1)
def Try.Ha (L : List UwE) (pc : Int) : Heap := ⟨4, Try.H19 .ready none L (pc1 pc)⟩
def Try.Hb (st : LoopState) (pend : Option Code) (L : List UwE) (O : List Int) : Heap := ⟨5, ⟨4, 0, .cells (U3.con O)⟩ :: Try.H19 st pend L (.own 4 0 O.length none 1)⟩
def trO (L : List UwE) (pc : Int) (k : Nat) : List Int := pc :: (L.drop k).reverse.map (fun e => e.2.1)
def traceL (L : List UwE) (pc : Int) : List Int := trO L pc (L.length - 39)
theorem Try.r19a (L : List UwE) (pc : Int) (i : Int) : Try.B83 4 (stOf 19 [0,1,3] (Try.V83 3 i) (Try.Ha L pc)) =
    bif decide (i ≥ 0) then (bif inR i L.length then some (.normal, stOf 19 [0,1,3] (Try.V83 3 (IntKind.i64.wrap (i - 1))) ⟨5, ⟨4, 0, .cells (.ints .u32 [pc, (L.getD i.toNat UE.z).2.1])⟩ :: Try.H19 .ready none L (.own 4 0 2 none 1)⟩) else none)
    else some (.exit 0, stOf 19 [] [] (Try.Ha L pc)) := by kernel_rfl
theorem Try.r19b (L : List UwE) (O : List Int) (i : Int) : Try.B83 4 (stOf 19 [0,1,3] (Try.V83 3 i) (Try.Hb .ready none L O)) =
    bif decide (i ≥ 0) then
     bif inR i L.length then
      bif (O.length : Int) == 40 then some (.ret, stOf 19 [] [] (Try.Hb .done (some (.exit 0)) L O))
      else bif (0 + O.length).ble O.length then
       bif ((O.length + 1) * 4).ble most && (O.length + 1).ble most then
        some (.normal, stOf 19 [0,1,3] (Try.V83 3 (IntKind.i64.wrap (i - 1))) ⟨5, ⟨4, 0, .cells (.tab 1 (O.length + 1) (fun j => bif j.blt O.length then U3.row (O.getD (0 + j) 0) else [AV.val (Value.int IntKind.u32 ([(L.getD i.toNat UE.z).2.1].getD (j - O.length) 0))]))⟩ :: Try.H19 .ready none L (.own 4 0 (O.length + 1) none 1)⟩)
       else none
      else none
     else none
    else some (.exit 0, stOf 19 [] [] (Try.Hb .ready none L O)) := by kernel_rfl
theorem trO_len (L : List UwE) (pc : Int) (k : Nat) : (trO L pc k).length = L.length - k + 1 := by simp [trO]
theorem trO_s (L : List UwE) (pc : Int) (k : Nat) (h : k < L.length) : trO L pc k = trO L pc (k + 1) ++ [(L.getD k UE.z).2.1] := by
  unfold trO
  rw [List.drop_eq_getElem_cons h, List.getD_eq_getElem?_getD, List.getElem?_eq_getElem h, List.reverse_cons, List.map_append, Option.getD_some]
  rfl
theorem u3_snoc (O : List Int) (x : Int) : ConW (.tab 1 (O.length + 1) (fun j => bif j.blt O.length then U3.row (O.getD (0 + j) 0) else [AV.val (Value.int IntKind.u32 ([x].getD (j - O.length) 0))])) (U3.con (O ++ [x])) := by
  refine ⟨rfl, by show (O ++ [x]).length = O.length + 1; simp, fun i hi j v' hv => ⟨v', ?_, AW.refl _⟩⟩
  have hi' : i < O.length + 1 := hi
  have hv' : (U3.row ((O ++ [x]).getD i 0))[j]? = some v' := hv
  show (bif i.blt O.length then U3.row (O.getD (0 + i) 0) else [AV.val (Value.int IntKind.u32 ([x].getD (i - O.length) 0))])[j]? = some v'
  rcases Nat.lt_or_ge i O.length with q | q
  · rw [blt_t q, cond_true, Nat.zero_add]
    rw [List.getD_eq_getElem?_getD, List.getElem?_append_left q, ← List.getD_eq_getElem?_getD] at hv'
    exact hv'
  · have e : i = O.length := by omega
    subst e
    rw [blt_f (Nat.le_refl _), cond_false, Nat.sub_self]
    rw [List.getD_eq_getElem?_getD, List.getElem?_append_right (Nat.le_refl _), Nat.sub_self] at hv'
    exact hv'
theorem u3_ints (l : List Int) : ConW (.ints .u32 l) (U3.con l) := ⟨rfl, rfl, fun i hi j v' hv => ⟨v', hv, AW.refl _⟩⟩
def Try.x83 (L : List UwE) (pc : Int) : AX × Heap := bif Nat.beq L.length 0 then (.exit 0, Try.Ha L pc) else bif Nat.ble 40 L.length then (.ret, Try.Hb .done (some (.exit 0)) L (traceL L pc)) else (.exit 0, Try.Hb .ready none L (traceL L pc))
def Try.S83 (L : List UwE) (pc : Int) (k : Nat) : Heap := bif Nat.beq k L.length then Try.Ha L pc else Try.Hb .ready none L (trO L pc k)
def Try.o83 {α : Type} (L : List UwE) (x y z : Ans α) : Ans α := .grd (Nat.ble L.length 1000000) (.br (Nat.beq L.length 0) x (.br (Nat.ble 40 L.length) y z))
def Try.L83t (L : List UwE) (pc : Int) : LSum := atL (Try.s83 3 (IntKind.i64.wrap ((L.length : Int) - 1)) (Try.Ha L pc)) (Try.o83 L (.out (.exit 0, stOf 19 [] [] (Try.Ha L pc))) (.out (.ret, stOf 19 [] [] (Try.Hb .done (some (.exit 0)) L (traceL L pc)))) (.out (.exit 0, stOf 19 [] [] (Try.Hb .ready none L (traceL L pc)))))
theorem Try.Ha_ok (L : List UwE) (pc : Int) : (Try.Ha L pc).ok := heap_ok [3, 2, 1, 0] rfl (by decide) (by decide)
theorem Try.Hb_ok (st : LoopState) (pend : Option Code) (L : List UwE) (v : AV) (c : Con) : (⟨5, ⟨4, 0, .cells c⟩ :: Try.H19 st pend L v⟩ : Heap).ok := heap_ok [4, 3, 2, 1, 0] rfl (by decide) (by decide)
theorem Try.S83_ok (L : List UwE) (pc : Int) (k : Nat) : (Try.S83 L pc k).ok := by
  unfold Try.S83
  cases Nat.beq k L.length
  · exact Try.Hb_ok _ _ _ _ _
  · exact Try.Ha_ok _ _
theorem Try.l83t (L : List UwE) (pc : Int) : ∀ s x s', s.h.ok → (Try.L83t L pc s).run = some (x, s') → TripleP Try.prog 4 (.loop Try.b83) s x s' := by
  intro s x s' hk hL
  obtain ⟨rfl, hA⟩ := atL_some hL
  unfold Try.o83 at hA
  rw [Ans.run_grd, Ans.run_br, Ans.run_br] at hA
  cases hl : Nat.ble L.length 1000000 with
  | false => rw [hl] at hA; cases hA
  | true =>
  rw [hl, cond_true] at hA
  rw [Nat.ble_eq] at hl
  have hX := codeP_sound (ρ := AX × St) (p := 4) (callF_sound Try.e83 5) Try.e83.ok Try.e83.mix (Try.E83.keep 83) (lsumsOf []) Try.b83 trivial
  have key := loop_tripleP hX [0,1,3] [] (T := Nat) (fun k => Try.s83 3 ((k : Int) - 1) (Try.S83 L pc k)) (fun k => L.length - 39 ≤ k ∧ k ≤ L.length) (fun k => k) (fun k => ((Try.x83 L pc).1, stOf 19 [] [] (Try.x83 L pc).2)) (fun k _ => Try.S83_ok _ _ _) (fun k hk => by
    obtain ⟨hk1, hk2⟩ : L.length - 39 ≤ k ∧ k ≤ L.length := hk
    by_cases hL : k = L.length
    · have e1 : Try.S83 L pc k = Try.Ha L pc := by unfold Try.S83; rw [hL, Nat.beq_refl]; rfl
      rw [e1]
      cases k with
      | zero =>
        have e2 : Try.x83 L pc = (.exit 0, Try.Ha L pc) := by unfold Try.x83; rw [← hL]; rfl
        rw [e2]
        exact .inr ⟨_, (Try.r19a L pc (((0 : Nat) : Int) - 1)).trans (by rfl), WeakP.refl (Try.Ha_ok _ _), by show (AX.exit 0) ≠ .normal; simp⟩
      | succ k =>
        have key := Try.r19a L pc (k : Int)
        have e0 : (((k + 1 : Nat) : Int) - 1) = (k : Int) := by omega
        rw [inR_nat, decide_eq_true (show k < L.length by omega), decide_eq_true (show (k : Int) ≥ 0 by omega), Int.toNat_natCast, wrap64 _ (by omega) (by omega)] at key
        rw [e0]
        refine .inl ⟨k, _, key, ?_, ⟨by omega, by omega⟩, Nat.lt_succ_self _, rfl⟩
        have e3 : Try.S83 L pc k = Try.Hb .ready none L (trO L pc k) := by unfold Try.S83; rw [beqF (by omega)]; rfl
        have e4 : trO L pc k = [pc, (L.getD k UE.z).2.1] := by
          rw [trO_s L pc k (by omega), hL]
          unfold trO
          rw [List.drop_length]; rfl
        rw [e3, e4]
        exact WeakP.heap (Try.Hb_ok _ _ _ _ _) (.con 4 0 0 rfl (u3_ints _) (EsW.refl _))
    · have e1 : Try.S83 L pc k = Try.Hb .ready none L (trO L pc k) := by unfold Try.S83; rw [beqF hL]; rfl
      rw [e1]
      have hn0 : Nat.beq L.length 0 = false := beqF (by omega)
      cases k with
      | zero =>
        have e2 : Try.x83 L pc = (.exit 0, Try.Hb .ready none L (trO L pc 0)) := by
          unfold Try.x83 traceL
          rw [hn0, ble_f (show L.length < 40 by omega), show L.length - 39 = 0 by omega]; rfl
        rw [e2]
        exact .inr ⟨_, (Try.r19b L _ (((0 : Nat) : Int) - 1)).trans (by rfl), WeakP.refl (Try.Hb_ok _ _ _ _ _), by show (AX.exit 0) ≠ .normal; simp⟩
      | succ k =>
        have key := Try.r19b L (trO L pc (k + 1)) (k : Int)
        have e0 : (((k + 1 : Nat) : Int) - 1) = (k : Int) := by omega
        have hO := trO_len L pc (k + 1)
        rw [inR_nat, decide_eq_true (show k < L.length by omega), decide_eq_true (show (k : Int) ≥ 0 by omega), Int.toNat_natCast, wrap64 _ (by omega) (by omega), Nat.zero_add, ble_t (Nat.le_refl _), ble_t (show ((trO L pc (k + 1)).length + 1) * 4 ≤ most by rw [most_eq, hO]; omega), ble_t (show (trO L pc (k + 1)).length + 1 ≤ most by rw [most_eq, hO]; omega)] at key
        rw [e0]
        by_cases h40 : k + 1 = L.length - 39
        · have q : (((trO L pc (k + 1)).length : Int) == 40) = true := by rw [hO, beq_iff_eq]; omega
          rw [q] at key
          have e2 : Try.x83 L pc = (.ret, Try.Hb .done (some (.exit 0)) L (trO L pc (k + 1))) := by
            unfold Try.x83 traceL
            rw [hn0, ble_t (show 40 ≤ L.length by omega), ← h40]; rfl
          rw [e2]
          exact .inr ⟨_, key, WeakP.refl (Try.Hb_ok _ _ _ _ _), by show AX.ret ≠ .normal; simp⟩
        · have q : (((trO L pc (k + 1)).length : Int) == 40) = false := by rw [hO]; exact beqI_f (by omega)
          rw [q] at key
          refine .inl ⟨k, _, key, ?_, ⟨by omega, by omega⟩, Nat.lt_succ_self _, rfl⟩
          have e3 : Try.S83 L pc k = Try.Hb .ready none L (trO L pc k) := by unfold Try.S83; rw [beqF (by omega)]; rfl
          have e5 : (trO L pc k).length = (trO L pc (k + 1)).length + 1 := by rw [trO_s L pc k (by omega)]; simp
          rw [e3]
          unfold Try.Hb
          rw [e5, trO_s L pc k (by omega)]
          exact WeakP.heap (Try.Hb_ok _ _ _ _ _) (.con 4 0 0 rfl (u3_snoc _ _) (EsW.refl _))) L.length ⟨by omega, Nat.le_refl _⟩
  have e1 : Try.S83 L pc L.length = Try.Ha L pc := by unfold Try.S83; rw [Nat.beq_refl]; rfl
  rw [e1] at key
  rw [wrap64 _ (by omega) (by omega)]
  unfold Try.x83 at key
  cases h1 : Nat.beq L.length 0 with
  | true => rw [h1] at key hA; injection hA with hA; injection hA with h1 h2; subst h1; subst h2; exact key
  | false =>
    rw [h1] at key hA
    cases h2 : Nat.ble 40 L.length <;> (rw [h2] at key hA; injection hA with hA; injection hA with h1 h2; subst h1; subst h2; exact key)
def ag19 : List AV := [.clo (.yield 0) [] [], .ptr 3 0 0]
def Try.F83t (L : List UwE) (pc : Int) (args : List AV) (h : Heap) : Ans (AV × Heap) := .grd (isAH args h ag19 (Try.Ha L pc)) (Try.o83 L (.out (.tup [], Try.Ha L pc)) (.out (.tup [], Try.Hb .done (some (.exit 0)) L (traceL L pc))) (.out (.tup [], Try.Hb .ready none L (traceL L pc))))
def Try.A83t (L : List UwE) (pc : Int) : AFun := effA (Try.F83t L pc)
def og {α : Type} (L : List UwE) (x y z : Option α) : Option α := bif Nat.ble L.length 1000000 then (bif Nat.beq L.length 0 then x else bif Nat.ble 40 L.length then y else z) else none
theorem Try.w83t (L : List UwE) (pc : Int) : rootR Try.E83 5 83 4 (lsumsOf [(1, Try.L83t L pc)]) (lsumsOf []) (outVP 4) ag19 (Try.Ha L pc) =
 bif isSt (Try.s83 3 (IntKind.i64.wrap ((L.length : Int) - 1)) (Try.Ha L pc)) (Try.s83 3 (IntKind.i64.wrap ((L.length : Int) - 1)) (Try.Ha L pc)) then og L (some (.tup [], Try.Ha L pc)) (some (.tup [], Try.Hb .done (some (.exit 0)) L (traceL L pc))) (some (.tup [], Try.Hb .ready none L (traceL L pc))) else none := by kernel_rfl
theorem Try.sum83t (L : List UwE) (pc : Int) : SumC Try.prog 83 (Try.A83t L pc) := by
  refine effSumR 83 ⟨Try.f83, _, Try.fnOk83.1, Try.fnOk83.2, rfl⟩ ?_
  intro args h v h2 hok hs
  unfold Try.F83t at hs
  rw [Ans.run_grd] at hs
  cases hb : isAH args h ag19 (Try.Ha L pc) with
  | false => rw [hb] at hs; cases hs
  | true =>
  rw [hb, cond_true] at hs
  obtain ⟨rfl, rfl⟩ := isAH_eq hb
  refine rootR_alone Try.e83 (d := 5) (p := 4) (ls := lsumsOf [(1, Try.L83t L pc)]) (rs := lsumsOf []) outVP_weak (AllL.of1 (a := Try.b83) (by kernel_rfl) (LsOkP.of rfl rfl (Try.l83t L pc))) (AllL.of0 (by kernel_rfl)) (Try.Ha_ok _ _) ((Try.w83t L pc).trans ?_)
  rw [isSt_refl, ← hs]
  rfl
def Try.E19r (L : List UwE) (pc : Int) : Env := Try.env0 false (sumsOf [(83, Try.A83t L pc)]) (keepF 19 [(3, [5,11])])
def lE (id : Nat) (L : List UwE) : Ent := ⟨id, 0, .cells (.rows true 1 [[.ro (UE.con L) none]])⟩
def Try.s19 (L : List UwE) (pc : Int) : St := stOf 23 [5, 11] [.ptr 0 0 0, .clo (.func 83) [] [.ptr 2 0 0]] ⟨3, [lE 2 L, ⟨1, 0, .cells (.ints .u32 [pc])⟩, ⟨0, 0, .cells (.rows false 1 [[.own 1 0 1 (some 1) 1]])⟩]⟩
def Try.s19f (L : List UwE) (pc : Int) : St := stOf 23 [5, 11] [.ptr 0 0 0, .clo (.func 83) [] [.ptr 2 0 0]] ⟨3, [lE 2 L, ⟨0, 0, .cells (.rows true 1 [[pc1 pc]])⟩]⟩
def Try.sA (pc : Int) : St := ⟨placeL [5] [.ptr 0 0 0] 23 0, [1], ⟨2, [⟨1, 0, .defd⟩, ⟨0, 0, .cells (.rows true 1 [[pc1 pc]])⟩]⟩⟩
def Try.sB (O : List Int) : St := ⟨placeL [5] [.ptr 0 0 0] 23 0, [2], ⟨3, [⟨2, 0, .defd⟩, ⟨1, 0, .cells (U3.con O)⟩, ⟨0, 0, .cells (.rows false 1 [[.own 1 0 O.length none 1]])⟩]⟩⟩
def Try.R19 (L : List UwE) (pc : Int) : LSum := atL (Try.s19 L pc) (Try.o83 L (.out (.normal, Try.sA pc)) (.out (.exit 0, Try.sB (traceL L pc))) (.out (.normal, Try.sB (traceL L pc))))
theorem Try.g19 (L : List UwE) (pc : Int) : rangeK (Try.E19r L pc).strict (callF (Try.E19r L pc) 5) (ev (Try.s19f L pc).t (opn Try.rg19)) (prsA Try.rg19) (asg Try.rg19) (bdy Try.rg19) (outKP 0 [5] [5]) (Try.s19f L pc) =
 bif isAH ag19 (Try.Ha L pc) ag19 (Try.Ha L pc) then og L (some (.normal, Try.sA pc)) (some (.exit 0, Try.sB (traceL L pc))) (some (.normal, Try.sB (traceL L pc))) else none := by kernel_rfl
theorem Try.e19r (L : List UwE) (pc : Int) : EnvOk2 Try.prog (Try.E19r L pc) := Try.envOk false (sumsOf [(83, Try.A83t L pc)]) _ (sumsOf_ok (show AllS Try.prog [(83, Try.A83t L pc)] from ⟨Try.sum83t L pc, trivial⟩))
theorem Try.e19 : EnvOk2 Try.prog Try.E19 := Try.envOk false (sumsOf []) _ (fun g A h => by cases h)
theorem Try.rg19_eq : Try.rg19 = .rangeFunc (opn Try.rg19) (prsA Try.rg19) (asg Try.rg19) (bdy Try.rg19) := by kernel_rfl
theorem og_run {α : Type} (L : List UwE) (x y z : α) : (Try.o83 L (.out x) (.out y) (.out z)).run = og L (some x) (some y) (some z) := rfl
theorem og_or {α : Type} {L : List UwE} {x y z r : α} (h : og L (some x) (some y) (some z) = some r) : r = x ∨ r = y ∨ r = z := by
  unfold og at h
  generalize Nat.ble L.length 1000000 = p at h
  generalize Nat.beq L.length 0 = q at h
  generalize Nat.ble 40 L.length = q2 at h
  cases p
  · cases h
  · cases q
    · cases q2
      · injection h with h; exact .inr (.inr h.symm)
      · injection h with h; exact .inr (.inl h.symm)
    · injection h with h; exact .inl h.symm
theorem Try.s19_ok (L : List UwE) (pc : Int) : (Try.s19 L pc).h.ok := heap_ok [2, 1, 0] rfl (by decide) (by decide)
theorem Try.sA_ok (pc : Int) : (Try.sA pc).h.ok := heap_ok [1, 0] rfl (by decide) (by decide)
theorem Try.sB_ok (O : List Int) : (Try.sB O).h.ok := heap_ok [2, 1, 0] rfl (by decide) (by decide)
theorem Try.s19_f (L : List UwE) (pc : Int) : WeakP 0 (Try.s19 L pc) (Try.s19f L pc) := by
  refine WeakP.fzHs (con := .ints .u32 [pc]) (id := 1) (Try.s19_ok L pc) rfl rfl (FzL.refl _ _ _) ?_
  refine .same _ rfl (.skip (.row 0 0 rfl (fun _ => rfl) (FzC.oneT (.cons (.inr (.inl ⟨some 1, rfl, rfl⟩)) .nil) (fun v hv => ?_)) .nil))
  simp at hv
  subst hv; rfl
theorem Try.k19 (L : List UwE) (pc : Int) : RsOkP Try.prog 0 (lsumsOf [(3, Try.R19 L pc)]) Try.rg19 := by
  rw [Try.rg19_eq]
  show (match lsOf (lsumsOf [(3, Try.R19 L pc)]) (asg Try.rg19) with | some L => ∀ s e s', s.h.ok → (L s).run = some (e, s') → TripleP Try.prog 0 (.rangeFunc (opn Try.rg19) (prsA Try.rg19) (asg Try.rg19) (bdy Try.rg19)) s e s' | none => True)
  have e1 : lsOf (lsumsOf [(3, Try.R19 L pc)]) (asg Try.rg19) = some (Try.R19 L pc) := by kernel_rfl
  rw [e1]
  intro s x s' hk hL
  obtain ⟨rfl, hA⟩ := atL_some hL
  rw [og_run] at hA
  have key := Try.g19 L pc
  rw [isAH_refl] at key
  replace key := key.trans hA
  refine TripleP.weak (Try.s19_f L pc) (range_triple (Try.e19r L pc) (Try.s19_f L pc).1 key (WeakP.refl ?_))
  rcases og_or hA with h | h | h <;> (injection h with h1 h2; subst h2)
  · exact Try.sA_ok _
  · exact Try.sB_ok _
  · exact Try.sB_ok _
theorem Try.w19 (L : List UwE) (pc : Int) : rootR Try.E19 5 19 0 (lsumsOf []) (lsumsOf [(3, Try.R19 L pc)]) (outVP 0) [.ro (UE.con L) none, .val (.int .u32 pc)] ⟨0, []⟩ =
 bif isSt (Try.s19 L pc) (Try.s19 L pc) then og L (some (pc1 pc, ⟨0, []⟩)) (some (.own 0 0 (traceL L pc).length none 1, oneH (U3.con (traceL L pc)))) (some (.own 0 0 (traceL L pc).length none 1, oneH (U3.con (traceL L pc)))) else none := by kernel_rfl
theorem Try.al19 (L : List UwE) (pc : Int) (hl : L.length ≤ 1000000) : Alone Try.prog 19 [.ro (UE.con L) none, .val (.int .u32 pc)] (.ro (U3.con (traceL L pc)) none) ⟨0, []⟩ := by
  have run := fun v h2 => rootR_alone Try.e19 (d := 5) (g := 19) (p := 0) (ls := lsumsOf []) (rs := lsumsOf [(3, Try.R19 L pc)]) outVP_weak (AllL.of0 (by kernel_rfl)) (AllL.of1 (a := Try.rg19) (by kernel_rfl) (Try.k19 L pc)) heap0_ok (args := [.ro (UE.con L) none, .val (.int .u32 pc)]) (v := v) (h2 := h2)
  have key := Try.w19 L pc
  rw [isSt_refl] at key
  unfold og at key
  rw [ble_t hl] at key
  cases h1 : Nat.beq L.length 0 with
  | true =>
    rw [h1] at key
    have h0 := Nat.eq_of_beq_eq_true h1
    have e : traceL L pc = [pc] := by
      have : L = [] := List.length_eq_zero_iff.1 h0
      subst this; rfl
    rw [e]
    exact Alone.resW (fun _ _ _ h => VR.conv (u3_ints [pc]) (.inr rfl) h) (EffAlone.alone (run _ _ key))
  | false =>
    rw [h1] at key
    simp only [cond_false, cond_true, cond_sameB] at key
    exact Alone.freeze (con := U3.con (traceL L pc)) rfl (EffAlone.alone (run _ _ key))
def S19 (args : List AV) : Ans (AV × Heap) := match args with
  | [v, .val (.int .u32 pc)] => .grd (roOk v) (.out (.ro (U3.con (traceL (roGet v) pc)) none, ⟨0, []⟩))
  | _ => .no
def Try.A19 : AFun := roA (fun args => S19 (nzs nzU args))
theorem trace_sum {g : Nat} {fn : Func} {code : Code} (hg : Try.prog.funcs[g]? = some fn ∧ fn.name ≠ "runtime.NumGoroutine") (hc : fn.body = some code)
    (hal : ∀ (L : List UwE) (pc : Int), L.length ≤ 1000000 → Alone Try.prog g [.ro (UE.con L) none, .val (.int .u32 pc)] (.ro (U3.con (traceL L pc)) none) ⟨0, []⟩) : SumC Try.prog g Try.A19 := by
  refine roSumR g ⟨fn, code, hg.1, hg.2, hc⟩ ?_
  intro args v h2 hs
  replace hs : (S19 (nzs nzU args)).run = some (v, h2) := hs
  have fin : Alone Try.prog g (nzs nzU args) v h2 ∧ ∀ e ∈ h2.es, ∃ k, e.blk = .cells k := by
    generalize nzs nzU args = args' at hs ⊢
    unfold S19 at hs
    split at hs
    · rename_i v0 pc
      rw [Ans.run_grd] at hs
      cases hb : roOk v0 with
      | false => rw [hb] at hs; cases hs
      | true =>
        rw [hb, cond_true] at hs
        injection hs with hs
        injection hs with q1 q2
        subst q1; subst q2
        exact ⟨Alone.argsW (AWs.args (.cons (roOk_some hb).1 (AWs.refl _))) (hal _ _ (roOk_some hb).2), fun e he => by cases he⟩
    · cases hs
  exact ⟨fin.2, fin.1.nz nzU_len⟩
theorem Try.sum19 : SumC Try.prog 19 Try.A19 := trace_sum Try.fnOk19 rfl Try.al19
def Try.E20 : Env := Try.env0 false (sumsOf []) (keepF 20 [(3, [0, 5, 6])])
def Try.b20 : Code := nthD .skip (loopsOf (bodyOf Try.E20 20)) 0
def Try.s20 (L : List UwE) (O : List Int) (i : Int) : St := stOf 30 [0, 5, 6] [.ro (UE.con L) none, .own 0 0 O.length none 1, .val (.int .i64 i)] (oneH (U3.con O))
def Try.z20 (L : List UwE) (pc : Int) : St := stOf 30 [0, 5, 6] [.ro (UE.con L) none, .own 0 0 1 (some 1) 1, .val (.int .i64 (IntKind.i64.wrap ((L.length : Int) - 1)))] (oneH (.ints .u32 [pc]))
def Try.x20 (O : List Int) : AX × St := (.exit 0, stOf 30 [5] [.own 0 0 O.length none 1] (oneH (U3.con O)))
def Try.L20 (L : List UwE) (pc : Int) : LSum := atL (Try.z20 L pc) (.grd (Nat.ble L.length 1000000) (.out (Try.x20 (traceL L pc))))
theorem Try.r20 (L : List UwE) (O : List Int) (i : Int) : codeS Try.E20 (callF Try.E20 5) (Try.E20.keep 20) (lsumsOf []) Try.b20 (outK [0, 5, 6] [5]) (Try.s20 L O i) =
    bif decide (i ≥ 0) then
     bif decide ((O.length : Int) < 40) then
      bif inR i L.length then
       bif (0 + O.length).ble O.length then
        bif ((O.length + 1) * 4).ble most && (O.length + 1).ble most then
         some (.normal, stOf 30 [0, 5, 6] [.ro (UE.con L) none, .own 0 0 (O.length + 1) none 1, .val (.int .i64 (IntKind.i64.wrap (i - 1)))] (oneH (.tab 1 (O.length + 1) (fun j => bif j.blt O.length then U3.row (O.getD (0 + j) 0) else [AV.val (Value.int IntKind.u32 ([(L.getD i.toNat UE.z).2.1].getD (j - O.length) 0))]))))
        else none
       else none
      else none
     else some (Try.x20 O)
    else some (Try.x20 O) := by kernel_rfl
theorem Try.e20 : EnvOk2 Try.prog Try.E20 := Try.envOk false (sumsOf []) _ (fun g A h => by cases h)
theorem own_cap (id off len wd : Nat) (cap : Option Nat) : AW (.own id off len cap wd) (.own id off len none wd) := by
  intro w c u h
  cases h with | own _ _ _ _ _ a m h1 h2 h3 h4 h5 => exact .own _ _ _ _ _ a m h1 h2 h3 (fun _ q => by cases q) h5
theorem Try.l20 (L : List UwE) (pc : Int) : ∀ s e s', s.h.ok → (Try.L20 L pc s).run = some (e, s') → Triple Try.prog (.loop Try.b20) s e s' := by
  refine atL_grd (fun hp => ?_)
  rw [Nat.ble_eq] at hp
  refine loop_at Try.e20 (d := 5) (g := 20) (ls := lsumsOf []) (c := Try.b20) trivial [0, 5, 6] [5] (T := Nat)
    (fun k => Try.s20 L (trO L pc k) ((k : Int) - 1)) (fun k => L.length - 39 ≤ k ∧ k ≤ L.length) (fun k => k) (fun _ => Try.x20 (traceL L pc)) _ _ L.length ⟨by omega, Nat.le_refl _⟩ ?_ (fun e s' h => Option.some.inj h) (fun k _ => oneH_ok _) ?_
  · have e1 : trO L pc L.length = [pc] := by unfold trO; rw [List.drop_length]; rfl
    rw [e1]
    unfold Try.z20
    rw [wrap64 _ (by omega) (by omega)]
    refine Weak.trans (Weak.slots (oneH_ok _) (.cons (AW.refl _) (.cons (own_cap _ _ _ _ _) (AWs.refl _)))) ?_
    exact Weak.oneH rfl (u3_ints [pc])
  · rintro k ⟨h1, h2⟩
    have key := Try.r20 L (trO L pc k) ((k : Int) - 1)
    have hO := trO_len L pc k
    cases k with
    | zero =>
      refine .inr ⟨_, key.trans (by rfl), ?_, by show (AX.exit 0) ≠ .normal; simp⟩
      unfold traceL
      rw [show L.length - 39 = 0 by omega]
      exact Weak.refl (oneH_ok _)
    | succ k =>
      have e0 : (((k + 1 : Nat) : Int) - 1) = (k : Int) := by omega
      rw [e0, inR_nat, decide_eq_true (show k < L.length by omega), decide_eq_true (show (k : Int) ≥ 0 by omega), Int.toNat_natCast, wrap64 _ (by omega) (by omega), Nat.zero_add, ble_t (Nat.le_refl _), ble_t (show ((trO L pc (k + 1)).length + 1) * 4 ≤ most by rw [most_eq, hO]; omega), ble_t (show (trO L pc (k + 1)).length + 1 ≤ most by rw [most_eq, hO]; omega)] at key
      rw [e0]
      by_cases h40 : k + 1 = L.length - 39
      · rw [decide_eq_false (by rw [hO]; omega)] at key
        refine .inr ⟨_, key, ?_, by show (AX.exit 0) ≠ .normal; simp⟩
        unfold traceL
        rw [← h40]
        exact Weak.refl (oneH_ok _)
      · rw [decide_eq_true (by rw [hO]; omega)] at key
        refine .inl ⟨k, _, key, ?_, ⟨by omega, by omega⟩, Nat.lt_succ_self _, rfl⟩
        have e5 : (trO L pc k).length = (trO L pc (k + 1)).length + 1 := by rw [trO_s L pc k (by omega)]; simp
        unfold Try.s20
        rw [e5, trO_s L pc k (by omega)]
        exact Weak.oneH rfl (u3_snoc _ _)
theorem Try.w20 (L : List UwE) (pc : Int) : rootS Try.E20 5 20 (lsumsOf [(3, Try.L20 L pc)]) [.ro (UE.con L) none, .val (.int .u32 pc)] = bif isSt (Try.z20 L pc) (Try.z20 L pc) then (bif Nat.ble L.length 1000000 then some (.own 0 0 (traceL L pc).length none 1, oneH (U3.con (traceL L pc))) else none) else none := by kernel_rfl
theorem Try.al20 (L : List UwE) (pc : Int) (hl : L.length ≤ 1000000) : Alone Try.prog 20 [.ro (UE.con L) none, .val (.int .u32 pc)] (.ro (U3.con (traceL L pc)) none) ⟨0, []⟩ := by
  refine Alone.freeze (con := U3.con (traceL L pc)) rfl (rootS_alone Try.e20 (d := 5) (g := 20) (ls := lsumsOf [(3, Try.L20 L pc)]) (AllL.of1 (a := Try.b20) (by kernel_rfl) (LsOk.of rfl rfl (Try.l20 L pc))) ((Try.w20 L pc).trans ?_))
  rw [isSt_refl, ble_t hl]; rfl
theorem Try.sum20 : SumC Try.prog 20 Try.A19 := trace_sum Try.fnOk20 rfl Try.al20
end Go.Ev
/- UnwindStacks: its walk. -/
namespace Go.Ev
open Go.Proofs
def Try.t3 : List (Nat × AFun) := [(11, Try.A11), (12, constA (.bool true)), (13, Try.A13), (14, Try.A13), (15, Try.A15), (16, Try.A17), (17, Try.A17), (18, Try.A18), (19, Try.A19), (20, Try.A19), (21, Try.A15)]
def Try.E3 : Env := Try.env0 false (sumsOf Try.t3) (keepF 3 [(6, [2, 3, 4, 5, 9, 10, 11]), (15, [3, 4, 5, 12, 13, 14, 15, 16])])
def Try.b3 : Code := nthD .skip (loopsOf (bodyOf Try.E3 3)) 0
def Try.c3 : Code := nthD .skip (loopsOf (bodyOf Try.E3 3)) 1
def Try.s3 (l : List Evt) (pc : Int) (S T A B : Nat → List UwE) (i : Int) : St := stOf 106 [2, 3, 4, 5, 9, 10, 11] [.ro (EV.con l) none, .val (.int .u32 pc), .ptr 0 0 0, .ptr 1 0 0, .ptr 2 0 0, .ptr 3 0 0, .val (.int .i64 i)] ⟨4, [⟨3, 0, skBlk B⟩, ⟨2, 0, skBlk A⟩, ⟨1, 0, skBlk T⟩, ⟨0, 0, skBlk S⟩]⟩
def Try.o3 (l : List Evt) (pc : Int) (S T : Nat → List UwE) (o : List Nat) (v : List AV) : St := stOf 106 ([2, 3, 4, 5] ++ o) ([.ro (EV.con l) none, .val (.int .u32 pc), .ptr 0 0 0, .ptr 1 0 0] ++ v) ⟨2, [⟨1, 0, skBlk T⟩, ⟨0, 0, skBlk S⟩]⟩
def Try.x3 (l : List Evt) (pc : Int) (S T : Nat → List UwE) : AX × St := (.exit 0, Try.o3 l pc S T [] [])
def Try.B3 (s : St) : Option (AX × St) := codeS Try.E3 (callF Try.E3 5) (Try.E3.keep 3) (lsumsOf []) Try.b3 (outK [2, 3, 4, 5, 9, 10, 11] [2, 3, 4, 5, 8]) s
def stepG (A : Nat → List UwE) (e : Evt) : Nat → List UwE := stepU (skGet (skA A)) e
theorem Try.r3 (l : List Evt) (pc : Int) (S T A B : Nat → List UwE) (i : Int) : Try.B3 (Try.s3 l pc S T A B i) =
    bif decide (i < (l.length : Int)) then
     bif inR i l.length then
      bif skIs (skA A) then
       bif inR i l.length then
        bif skIs (skA B) then
         bif skIs (skA (stepG A (l.getD i.toNat EV.z))) && skIs (skA (stepG B (l.getD i.toNat EV.z))) then
          bif same8 (skGet (skA (stepG A (l.getD i.toNat EV.z)))) (skGet (skA (stepG B (l.getD i.toNat EV.z)))) then
           some (.normal, Try.s3 l pc S T (stepG A (l.getD i.toNat EV.z)) (stepG B (l.getD i.toNat EV.z)) (IntKind.i64.wrap (i + 1)))
          else some (.ret, Try.o3 l pc S T [8] [.val (.bool false)])
         else none
        else none
       else none
      else none
     else none
    else some (Try.x3 l pc S T) := by kernel_rfl
def runS (S : Nat → List UwE) (l : List Evt) (k : Nat) : Nat → List UwE := Nat.rec S (fun k X => stepU X (l.getD k EV.z)) k
def Try.L3 (l : List Evt) (pc : Int) (S T : Nat → List UwE) : LSum := atL (Try.s3 l pc S T S S 0) (.grd (propB (l.length ≤ 300 ∧ ∀ i, (S i).length ≤ 300)) (.out (Try.x3 l pc S T)))
theorem runS_len {S : Nat → List UwE} (h : ∀ i, (S i).length ≤ 300) (l : List Evt) : ∀ k i, (runS S l k i).length ≤ 300 + k
  | 0, i => h i
  | k + 1, i => stepU_len _ _ i (300 + k) (runS_len h l k)
theorem four_ok (c3 c2 c1 c0 : Blk) : (⟨4, [⟨3, 0, c3⟩, ⟨2, 0, c2⟩, ⟨1, 0, c1⟩, ⟨0, 0, c0⟩]⟩ : Heap).ok := heap_ok [3, 2, 1, 0] rfl (by decide) (by decide)
theorem twoB_ok (c1 c0 : Blk) : (⟨2, [⟨1, 0, c1⟩, ⟨0, 0, c0⟩]⟩ : Heap).ok := heap_ok [1, 0] rfl (by decide) (by decide)
theorem Try.e3 : EnvOk2 Try.prog Try.E3 := Try.envOk false (sumsOf Try.t3) _ (sumsOf_ok (show AllS Try.prog Try.t3 from ⟨Try.sum11, Try.saneSum, Try.sum13, Try.sum14, Try.sum15, Try.sum16, Try.sum17, Try.sum18, Try.sum19, Try.sum20, Try.sum21, trivial⟩))
theorem Try.l3 (l : List Evt) (pc : Int) (S T : Nat → List UwE) : ∀ s e s', s.h.ok → (Try.L3 l pc S T s).run = some (e, s') → Triple Try.prog (.loop Try.b3) s e s' := by
  refine atL_grd (fun hp => ?_)
  obtain ⟨hl, hS⟩ := propB_eq hp
  refine loop_at Try.e3 (d := 5) (g := 3) (ls := lsumsOf []) (c := Try.b3) trivial [2, 3, 4, 5, 9, 10, 11] [2, 3, 4, 5, 8] (T := Nat)
    (fun k => Try.s3 l pc S T (runS S l k) (runS S l k) k) (fun k => k ≤ l.length) (fun k => l.length - k) (fun _ => Try.x3 l pc S T) _ _ 0 (Nat.zero_le _) (Weak.refl (four_ok _ _ _ _)) (fun e s' h => Option.some.inj h) (fun k _ => four_ok _ _ _ _) ?_
  intro k hk
  replace hk : k ≤ l.length := hk
  have key := Try.r3 l pc S T (runS S l k) (runS S l k) k
  by_cases h : k < l.length
  · have hle := fun k i (h : k ≤ 300) => Nat.le_trans (runS_len hS l k i) (show 300 + k ≤ 1000000 by omega)
    have e1 : ∀ i, i < 8 → stepG (runS S l k) (l.getD k EV.z) i = runS S l (k + 1) i := fun i hi => stepU_get (runS S l k) (l.getD k EV.z) i hi
    have e2 : skBlk (stepG (runS S l k) (l.getD k EV.z)) = skBlk (runS S l (k + 1)) := skBlk_congr e1
    rw [declt_nat, inR_nat, decide_eq_true h, Int.toNat_natCast, skIs_t (fun i _ => hle k i (by omega)), skA_congr e1, skIs_t (fun i _ => hle (k + 1) i (by omega)), (same8_iff _ _).2 (fun _ _ => rfl), wrapT k (by omega)] at key
    refine .inl ⟨k + 1, Try.s3 l pc S T (runS S l (k + 1)) (runS S l (k + 1)) ((k + 1 : Nat) : Int), ?_, Weak.refl (four_ok _ _ _ _), h, by omega, rfl⟩
    refine Eq.trans key ?_
    show some (AX.normal, Try.s3 l pc S T (stepG (runS S l k) (l.getD k EV.z)) (stepG (runS S l k) (l.getD k EV.z)) ((k + 1 : Nat) : Int)) = _
    unfold Try.s3
    rw [e2]
  · rw [declt_nat, decide_eq_false h] at key
    exact .inr ⟨_, key, Weak.refl (twoB_ok _ _), by show (AX.exit 0) ≠ .normal; simp⟩
def tl3 (S : Nat → List UwE) (pc : Int) (i : Nat) : List Int := traceL (roGet (.ro (UE.con (S i)) none)) pc
def tr3 (S : Nat → List UwE) (pc : Int) (next : Option (AV × Heap)) (l : List Nat) : Option (AV × Heap) := List.rec next (fun i _ ih => bif roOk (.ro (UE.con (S i)) none) then (bif roOk (.ro (UE.con (S i)) none) then (bif U3.ok (U3.con (tl3 S pc i)) && (U3.ok (U3.con (tl3 S pc i)) && (U3.list (U3.con (tl3 S pc i))).length.ble 1000000) then
  (bif eqD U3 (fun x y => !(x != y)) (U3.list (U3.con (tl3 S pc i))) (U3.list (U3.con (tl3 S pc i))) then ih else some (.val (.bool false), ⟨0, []⟩)) else none) else none) else none) l
def bT : Option (AV × Heap) := some (.val (.bool true), ⟨0, []⟩)
def bF : Option (AV × Heap) := some (.val (.bool false), ⟨0, []⟩)
def sm (S T : Nat → List UwE) (x y : Option (AV × Heap)) : Option (AV × Heap) := bif skIs (skA S) && skIs (skA T) then (bif same8 (skGet (skA S)) (skGet (skA T)) then x else y) else none
def fin3 (S T X Y : Nat → List UwE) : Option (AV × Heap) := sm X Y (sm S T (sm S T (sm S S bT bF) bF) (sm S T bF (sm S S bT bF))) bF
def rE (l : List Evt) : Nat → List UwE := runE (EV.list (EV.con l))
def okE (l : List Evt) {α : Type} (x : Option α) : Option α := bif EV.ok (EV.con l) && Nat.ble l.length 1000000 then x else none
theorem Try.w3 (l : List Evt) (pc : Int) (S T : Nat → List UwE) : rootS Try.E3 5 3 (lsumsOf [(6, Try.L3 l pc S T)]) [skA S, skA T, .ro (EV.con l) none, .val (.int .u32 pc)] =
    bif skOk (skA S) then
     bif few8 (skGet (skA S)) then
      bif skOk (skA T) then
       bif few8 (skGet (skA T)) then
        bif decide ((l.length : Int) > 300) then bT
        else bif isSt (Try.s3 l pc S T S S 0) (Try.s3 l pc S T S S 0) then
         (bif propB (l.length ≤ 300 ∧ ∀ i, (S i).length ≤ 300) then
          okE l (okE l (tr3 S pc (fin3 S T (rE l) (rE l)) n8)) else none) else none
       else bT
      else none
     else bT
    else none := by kernel_rfl
end Go.Ev
/- UnwindStacks, for every input: the law answers true, and its arguments read as they did. -/
namespace Go.Ev
open Go.Proofs
theorem traceL_len (L : List UwE) (pc : Int) : (traceL L pc).length ≤ 1000000 := by unfold traceL; rw [trO_len]; omega
theorem tr3_t {S : Nat → List UwE} (hS : ∀ i, (S i).length ≤ 1000000) (pc : Int) (next : Option (AV × Heap)) : ∀ l, tr3 S pc next l = next
  | [] => rfl
  | i :: l => by
    have h1 : roOk (.ro (UE.con (S i)) none) = true := by
      show (UE.ok (UE.con (S i)) && Nat.ble (S i).length 1000000) = true
      rw [UE.ok_con, ble_t (hS i)]; rfl
    have h2 : (U3.list (U3.con (tl3 S pc i))).length.ble 1000000 = true := by rw [U3.list_con]; exact ble_t (traceL_len _ _)
    have h3 : eqD U3 (fun x y => !(x != y)) (U3.list (U3.con (tl3 S pc i))) (U3.list (U3.con (tl3 S pc i))) = true := (eqD_iff (R := U3) (ceq := fun x y => !(x != y)) ieq_iff _ _).2 rfl
    show (bif roOk (.ro (UE.con (S i)) none) then (bif roOk (.ro (UE.con (S i)) none) then (bif U3.ok (U3.con (tl3 S pc i)) && (U3.ok (U3.con (tl3 S pc i)) && (U3.list (U3.con (tl3 S pc i))).length.ble 1000000) then
      (bif eqD U3 (fun x y => !(x != y)) (U3.list (U3.con (tl3 S pc i))) (U3.list (U3.con (tl3 S pc i))) then tr3 S pc next l else some (.val (.bool false), ⟨0, []⟩)) else none) else none) else none) = next
    rw [h1, h2, h3, U3.ok_con]
    exact tr3_t hS pc next l
theorem okE_t {l : List Evt} (h : l.length ≤ 1000000) {α : Type} (x : Option α) : okE l x = x := by
  unfold okE; rw [EV.ok_con, ble_t h]; rfl
theorem sm_t {S T : Nat → List UwE} (hS : ∀ i, i < 8 → (S i).length ≤ 1000000) (hT : ∀ i, i < 8 → (T i).length ≤ 1000000) (x y : Option (AV × Heap)) : sm S T x y = bif same8 S T then x else y := by
  unfold sm
  rw [skIs_t hS, skIs_t hT, same8_congr (skGet_eq S) (skGet_eq T)]; rfl
theorem same8_self (S : Nat → List UwE) : same8 S S = true := (same8_iff S S).2 (fun _ _ => rfl)
theorem fin3_t {S T X : Nat → List UwE} (hS : ∀ i, i < 8 → (S i).length ≤ 1000000) (hT : ∀ i, i < 8 → (T i).length ≤ 1000000) (hX : ∀ i, i < 8 → (X i).length ≤ 1000000) : fin3 S T X X = bT := by
  unfold fin3
  simp only [sm_t hX hX, sm_t hS hT, sm_t hS hS, same8_self, cond_true]
  cases same8 S T <;> rfl
theorem rE_eq (l : List Evt) : rE l = runE l := by unfold rE; rw [EV.list_con]
theorem Try.law3 (S T : Nat → List UwE) (hS8 : ∀ i, 8 ≤ i → S i = []) (l : List Evt) (pc : Int) : Alone Try.prog 3 [skA S, skA T, .ro (EV.con l) none, .val (.int .u32 pc)] (.val (.bool true)) ⟨0, []⟩ := by
  refine rootS_alone Try.e3 (d := 5) (g := 3) (ls := lsumsOf [(6, Try.L3 l pc S T)]) ?_ ((Try.w3 l pc S T).trans ?_)
  · refine AllL.of2 (a := Try.b3) (b := Try.c3) (by kernel_rfl) (LsOk.of rfl rfl (Try.l3 l pc S T)) ?_
    have e : lsOf (lsumsOf [(6, Try.L3 l pc S T)]) Try.c3 = none := by kernel_rfl
    unfold LsOk; rw [e]; trivial
  · rw [skOk_t, skOk_t, few8_congr (skGet_eq S), few8_congr (skGet_eq T)]
    cases hf : few8 S with
    | false => rfl
    | true =>
    cases hg : few8 T with
    | false => rfl
    | true =>
    cases hl : decide ((l.length : Int) > 300) with
    | true => rfl
    | false =>
    rw [decide_eq_false_iff_not] at hl
    have h1 := (few8_iff S).1 hf
    have h2 := (few8_iff T).1 hg
    have h3 : ∀ i, (S i).length ≤ 300 := fun i => by
      rcases Nat.lt_or_ge i 8 with q | q
      · exact h1 i q
      · rw [hS8 i q]; exact Nat.zero_le _
    have hl2 : l.length ≤ 300 := by omega
    rw [isSt_refl, propB_t (show l.length ≤ 300 ∧ ∀ i, (S i).length ≤ 300 from ⟨hl2, h3⟩), okE_t (show l.length ≤ 1000000 by omega), okE_t (show l.length ≤ 1000000 by omega), tr3_t (fun i => Nat.le_trans (h3 i) (by omega)), rE_eq,
      fin3_t (X := runE l) (fun i _ => Nat.le_trans (h3 i) (by omega)) (fun i hi => Nat.le_trans (h2 i hi) (by omega)) (fun i _ => Nat.le_trans (runN_len l l.length i) (by omega))]
    rfl
abbrev uwSh : Sh := .agg [.int .i64, .int .u32, .int .u32, .int .u32, .int .i64]
abbrev evSh : Sh := .agg [.int .i64, .int .i64, .int .u32, .int .u32, .int .u32, .int .i64]
abbrev skSh : Sh := .agg [.sl uwSh, .sl uwSh, .sl uwSh, .sl uwSh, .sl uwSh, .sl uwSh, .sl uwSh, .sl uwSh]
section
variable {H : Type}
noncomputable def pAt (d : DataW H) (i : Nat) : DataW H := (partsD d).getD i .nil
noncomputable def uwD (d : DataW H) : UwE := (intD (pAt d 0), intD (pAt d 1), intD (pAt d 2), intD (pAt d 3), intD (pAt d 4))
noncomputable def evD (d : DataW H) : Evt := ⟨intD (pAt d 0), intD (pAt d 1), intD (pAt d 2), intD (pAt d 3), intD (pAt d 4), intD (pAt d 5)⟩
theorem headTail (l : List (DataW H)) : l.headD .nil = l.getD 0 .nil ∧ ∀ i, l.tail.getD i .nil = l.getD (i + 1) .nil := by
  cases l <;> simp [List.headD]
theorem avs_uw (d : DataW H) : avs uwSh d = ueRow (uwD d) := by
  simp only [avs, avsL, (headTail _).1, (headTail _).2]; rfl
theorem avs_ev (d : DataW H) : avs evSh d = evL (evD d) := by
  simp only [avs, avsL, (headTail _).1, (headTail _).2]; rfl
theorem avs_uws (l : List (DataW H)) : Con.tab (Sh.wd uwSh) l.length (fun i => avs uwSh (l.getD i .nil)) = UE.con (l.map uwD) := by
  unfold RowTy.con
  have e : (fun i => avs uwSh (l.getD i .nil)) = fun i => UE.row ((l.map uwD).getD i UE.z) := by
    funext i
    rw [avs_uw, List.getD_eq_getElem?_getD, List.getD_eq_getElem?_getD, List.getElem?_map]
    cases l[i]? <;> rfl
  rw [e, List.length_map]; rfl
theorem avs_evs (l : List (DataW H)) : Con.tab (Sh.wd evSh) l.length (fun i => avs evSh (l.getD i .nil)) = EV.con (l.map evD) := by
  unfold RowTy.con
  have e : (fun i => avs evSh (l.getD i .nil)) = fun i => EV.row ((l.map evD).getD i EV.z) := by
    funext i
    rw [avs_ev, List.getD_eq_getElem?_getD, List.getD_eq_getElem?_getD, List.getElem?_map]
    cases l[i]? <;> rfl
  rw [e, List.length_map]; rfl
noncomputable def skD (d : DataW H) (i : Nat) : List UwE := bif Nat.blt i 8 then (elemsD (pAt d i)).map uwD else []
theorem skD_out (d : DataW H) (i : Nat) (h : 8 ≤ i) : skD d i = [] := by unfold skD; rw [blt_f h]; rfl
theorem argA_sk (d : DataW H) : argA skSh d = skA (skD d) := by
  have e : ∀ x : DataW H, avs (.sl uwSh) x = [.ro (UE.con ((elemsD x).map uwD)) none] := fun x => by rw [← avs_uws]; rfl
  show AV.agg (avsL [.sl uwSh, .sl uwSh, .sl uwSh, .sl uwSh, .sl uwSh, .sl uwSh, .sl uwSh, .sl uwSh] (partsD d)) = _
  simp only [avsL, e, (headTail _).1, (headTail _).2]
  rfl
theorem argA_evs (d : DataW H) : argA (.sl evSh) d = .ro (EV.con ((elemsD d).map evD)) none := by rw [← avs_evs]; rfl
end
end Go.Ev
namespace Go.Proofs.Ytemblfgjamapbaa
open Go.Ev
theorem Try.ownG : ownKnob Try.prog.godebug = none := by kernel_rfl
theorem Try.kidsG : Kids Try.prog (· < Try.prog.types.size) := kids_rows (by kernel_rfl) (by kernel_rfl)
theorem Try.fullG : ∀ t e, t < Try.prog.types.size → Try.prog.underlying t = some (.slice e) → 0 < Try.prog.cellsOf e := slices_full_of Try.prog (by kernel_rfl)
theorem stacks_contract (H : Type) (enc : TypeId × Value → H) (W : World) (base : Nat) (args : Array Value) (ds gs : List (DataW H)) (before : List MemPlace)
    (hval : ∀ (j : Nat) t v, Try.f3.params[j]? = some t → args[j]? = some v → Value.okWide Try.prog W .any base t v)
    (hW : DataW.Whole enc Try.prog Try.f3.params.toList Rows.unwindStacksSpec.vars false W args.toList ds gs before) :
    Calls Try.prog 3 args W fun e W' => ∃ v, e = .returned v ∧ Rows.unwindStacksSpec.post enc Try.prog Try.f3 false true false false W args v W' := by
  have hsh : shsOk Try.prog [skSh, skSh, .sl evSh, .int .u32] Try.f3.params.toList = true := by kernel_rfl
  obtain ⟨p, q, hA, hV, _⟩ := id hW
  obtain ⟨hwf, hlen⟩ := args_wf hsh hA
  obtain rfl : gs = [] := by cases gs with | nil => rfl | cons => cases hV
  match ds, hlen with
  | [d1, d2, d3, d4], _ =>
    have law := Try.law3 (skD d1) (skD d2) (skD_out d1) ((elemsD d3).map evD) (intD d4)
    have e : argsA [skSh, skSh, .sl evSh, .int .u32] [d1, d2, d3, d4] = [skA (skD d1), skA (skD d2), .ro (EV.con ((elemsD d3).map evD)) none, .val (.int .u32 (intD d4))] := by
      rw [← argA_sk d1, ← argA_sk d2, ← argA_evs d3]; rfl
    rw [← e] at law
    exact law_calls (b := 4) Try.kidsG Try.fullG (by kernel_rfl) rfl Try.underlying4 (by kernel_rfl) rfl hsh hval hW law
theorem stacks_lifted (os : Os) (started : os.Started) (H : Type) (enc : TypeId × Value → H) :
    ReturnsInHanded {} Try.checked os 3 .any (Rows.unwindStacksSpec.pre6 enc Try.prog Try.f3 Rows.unwindStacksRow.domain false) (Rows.unwindStacksSpec.post enc Try.prog Try.f3 false true false false) := by
  refine returnsInHanded_of_change (C := Try.checked) Try.ownG started (by kernel_rfl) Try.func3
    (ChangeSpec.witness6 (enc := enc) (C := Try.checked) false ⟨#[], #[.agg #[.slice none 0 0, .slice none 0 0, .slice none 0 0, .slice none 0 0, .slice none 0 0, .slice none 0 0, .slice none 0 0, .slice none 0 0], .agg #[.slice none 0 0, .slice none 0 0, .slice none 0 0, .slice none 0 0, .slice none 0 0, .slice none 0 0, .slice none 0 0, .slice none 0 0], .slice none 0 0, .int .u32 0], []⟩ 8 (by kernel_rfl) (by kernel_rfl) (by kernel_rfl) (by kernel_rfl)) ?_
  intro W base args ds gs before hval hW _ _
  exact stacks_contract H enc W base args ds gs before hval hW
theorem unwindStacks : Rows.UnwindStacksSaid :=
  OpenClaim.holds_of_wide 3 Try.f3 rfl rfl rfl rfl rfl rfl rfl ⟨rfl, rfl, rfl, rfl, rfl⟩ rfl rfl rfl rfl rfl (by kernel_rfl) Try.func3 (by kernel_rfl)
    (of_decide_eq_true (by kernel_rfl)) (by unfold Func.isWrapper; first | (rw [if_pos (by decide +kernel)]; kernel_rfl) | (rw [if_neg (by decide +kernel)]; exact ⟨rfl, rfl⟩))
    (fun os started H enc _ => stacks_lifted os started H enc)
end Go.Proofs.Ytemblfgjamapbaa
