/- UnwindThreads, for every input: the law answers true, and its arguments read as they did. -/
import Derived.Test.YtemblfgjamapbaaChecked
import Derived.Test.YtemblfgjamapbaaRows
import Derived.ProofKit
import Derived.JoinedCond
import Derived.Handed
import Derived.JoinedOf
import Derived.Test.YtemblfgjamapbaaC9
set_option linter.unusedSectionVars false
set_option linter.unusedSimpArgs false
set_option linter.unusedVariables false
set_option maxRecDepth 100000
set_option maxRecDepth 1000000
noncomputable section
/- Stacks: a round of its loop. -/
namespace Go.Ev
open Go.Proofs
def sq1 : Code → Code
  | .seq a _ => a
  | _ => .skip
def sq2 : Code → Code
  | .seq _ b => b
  | _ => .skip
def blkIn : Code → Code
  | .block _ c => c
  | _ => .skip
def Try.t16s : List (Nat × AFun) := [(77, Try.A77), (79, Try.A79)]
def Try.t16o : List (Nat × AFun) := [(76, noA), (77, noA), (78, noA), (79, noA), (80, noA), (81, noA), (82, noA)]
def Try.E16 (o : Bool) : Env := Try.env0 false (sumsOf (bif o then Try.t16o else Try.t16s)) (keepF 16 [(5, [2, 4, 5, 15, 16, 17])])
def Try.b16 : Code := nthD .skip (loopsOf (bodyOf (Try.E16 false) 16)) 0
def Try.k16 : List Nat := [2, 4, 5, 15, 16, 17]
def Try.C16 (o : Bool) (c : Code) (K : KC (AX × St)) (s : St) : Option (AX × St) := codeS (Try.E16 o) (callF (Try.E16 o) 5) ((Try.E16 o).keep 16) (lsumsOf []) c K s
def Try.B16 (o : Bool) (s : St) : Option (AX × St) := Try.C16 o Try.b16 (outK Try.k16 [2, 4]) s
def Try.V16 (m : Nat) (l : List Evt) (i : Int) : List AV := [.ptr 0 0 0, .ptr 1 0 0, .mp m, .ro (EV.con l) none, .val (.int .i64 l.length), .val (.int .i64 i)]
def mapE (m : Nat) : Ent := ⟨m, 0, .map true kindsM⟩
def zE : Ent := ⟨0, 0, nilBlk⟩
def skRow (R : List AV) : Ent := ⟨1, 0, .cells (.rows false 1 (flatRows R))⟩
def H16 (S : Nat → List UwE) : Heap := ⟨11, mapE 10 :: skEb 2 S ++ [skRow (skCb 2 S), zE]⟩
def Try.s16 (l : List Evt) (S : Nat → List UwE) (i : Int) : St := stOf 30 Try.k16 (Try.V16 10 l i) (H16 S)
def Try.x16 (S : Nat → List UwE) : AX × St := (.exit 0, stOf 30 [2, 4] [.ptr 0 0 0, .ptr 1 0 0] ⟨10, skEb 2 S ++ [skRow (skCb 2 S), zE]⟩)
def Try.t16 (l : List Evt) (S : Nat → List UwE) (i : Int) (e : Evt) : St := stOf 30 [2, 4, 5, 7, 15, 16, 17, 18, 19, 20] [.ptr 0 0 0, .ptr 1 0 0, .mp 10, .ptr 11 0 0, .ro (EV.con l) none, .val (.int .i64 l.length), .val (.int .i64 i), .val (.bool true), .rptr (EV.con l) i.toNat 0, evA e]
  ⟨12, ⟨11, 1, .cells (.rows true 6 [evL e])⟩ :: mapE 10 :: skEb 2 S ++ [skRow (skCb 2 S), zE]⟩
def Try.c7 : Code := sq2 (blkIn (sq1 (sq2 (sq2 Try.b16))))
def Try.c8 : Code := sq2 (sq2 (sq2 Try.b16))
def Try.K8 (o : Bool) : KC (AX × St) := thenK (fun s' => Try.C16 o Try.c8 (outK Try.k16 [2, 4]) s') (outK Try.k16 [2, 4])
def Try.F16 (o : Bool) (l : List Evt) (S : Nat → List UwE) (i : Int) (e : Evt) : Option (AX × St) := Try.C16 o Try.c7 (blockK 1 (Try.K8 o)) (Try.t16 l S i e)
def Try.s5t (l : List Evt) (S : Nat → List UwE) (i : Int) (b : Bool) : St := stOf 30 [2, 4, 5, 15, 16, 17, 18] [.ptr 0 0 0, .ptr 1 0 0, .mp 10, .ro (EV.con l) none, .val (.int .i64 l.length), .val (.int .i64 i), .val (.bool b)] (H16 S)
def Try.R5 : Code := sq1 Try.b16
def Try.cif : Code := sq1 (sq2 Try.b16)
def Try.R6 : Code := sq1 (blkIn (sq1 (sq2 (sq2 Try.b16))))
theorem Try.b16_eq : Try.b16 = .seq Try.R5 (.seq Try.cif (.seq (.block 1 (.seq Try.R6 Try.c7)) Try.c8)) := by kernel_rfl
theorem Try.r16_5 (o : Bool) (l : List Evt) (S : Nat → List UwE) (i : Int) (K : KC (AX × St)) : Try.C16 o Try.R5 K (Try.s16 l S i) = bif decide (i < (l.length : Int)) then K .normal (Try.s5t l S i true) else K .normal (Try.s5t l S i false) := by kernel_rfl
theorem Try.r16_i (o : Bool) (l : List Evt) (S : Nat → List UwE) (i : Int) (K : KC (AX × St)) : Try.C16 o Try.cif K (Try.s5t l S i true) = K .normal (Try.s5t l S i true) := by kernel_rfl
theorem Try.r16_j (o : Bool) (l : List Evt) (S : Nat → List UwE) (i : Int) (K : KC (AX × St)) : Try.C16 o Try.cif K (Try.s5t l S i false) = K (.exit 0) (Try.s5t l S i false) := by kernel_rfl
theorem Try.r16_6 (o : Bool) (l : List Evt) (S : Nat → List UwE) (i : Int) (K : KC (AX × St)) : Try.C16 o Try.R6 K (Try.s5t l S i true) = bif inR i l.length then K .normal (Try.t16 l S i (l.getD i.toNat EV.z)) else none := by kernel_rfl
theorem Try.r16_o (l : List Evt) (S : Nat → List UwE) (i : Int) : outK Try.k16 [2, 4] (.exit 0) (Try.s5t l S i false) = some (Try.x16 S) := by kernel_rfl
theorem thenK_n {ρ : Type} (J : St → Option ρ) (K : KC ρ) (s : St) : thenK J K .normal s = J s := rfl
theorem thenK_e {ρ : Type} (J : St → Option ρ) (K : KC ρ) (i : Nat) (s : St) : thenK J K (.exit i) s = K (.exit i) s := rfl
theorem Try.r16 (o : Bool) (l : List Evt) (S : Nat → List UwE) (i : Int) : Try.B16 o (Try.s16 l S i) =
    bif decide (i < (l.length : Int)) then (bif inR i l.length then Try.F16 o l S i (l.getD i.toNat EV.z) else none) else some (Try.x16 S) := by
  unfold Try.B16
  rw [Try.b16_eq]
  show Try.C16 o Try.R5 (thenK (fun s' => Try.C16 o (.seq Try.cif (.seq (.block 1 (.seq Try.R6 Try.c7)) Try.c8)) (outK Try.k16 [2, 4]) s') (outK Try.k16 [2, 4])) (Try.s16 l S i) = _
  rw [Try.r16_5]
  cases decide (i < (l.length : Int)) with
  | true =>
    rw [cond_true, cond_true, thenK_n]
    show Try.C16 o Try.cif (thenK (fun s' => Try.C16 o (.seq (.block 1 (.seq Try.R6 Try.c7)) Try.c8) (outK Try.k16 [2, 4]) s') (outK Try.k16 [2, 4])) (Try.s5t l S i true) = _
    rw [Try.r16_i]
    show Try.C16 o Try.R6 (thenK (fun s' => Try.C16 o Try.c7 (blockK 1 (Try.K8 o)) s') (blockK 1 (Try.K8 o))) (Try.s5t l S i true) = _
    rw [Try.r16_6, thenK_n]
    unfold Try.F16
    rfl
  | false =>
    rw [cond_false, cond_false, thenK_n]
    show Try.C16 o Try.cif (thenK (fun s' => Try.C16 o (.seq (.block 1 (.seq Try.R6 Try.c7)) Try.c8) (outK Try.k16 [2, 4]) s') (outK Try.k16 [2, 4])) (Try.s5t l S i false) = _
    rw [Try.r16_j, thenK_e]
    exact Try.r16_o l S i
def n16 (l : List Evt) (i : Int) (C : Nat → Con) (N : Nat → Nat) : Option (AX × St) := some (.normal, stOf 30 Try.k16 (Try.V16 10 l (IntKind.i64.wrap (i + 1))) ⟨11, mapE 10 :: skEn 2 C ++ [skRow (l8 (skN 2 N)), zE]⟩)
def cS (S : Nat → List UwE) (i : Nat) : Con := UE.con (S i)
def q16 (l : List Evt) (i : Int) (S : Nat → List UwE) : Option (AX × St) := some (.normal, Try.s16 l S (IntKind.i64.wrap (i + 1)))
def appC0 (S : Nat → List UwE) (x : UwE) (t i : Nat) : Con := bif Nat.beq i t then .tab 5 ((S t).length + 1) (fun i => bif i.blt (S t).length then UE.row ((S t).getD (0 + i) UE.z) else [UE.row x].getD (i - (S t).length) []) else UE.con (S i)
def appR0 {α : Type} (S : Nat → List UwE) (t : Nat) (x : Option α) : Option α := bif (0 + (S t).length).ble (S t).length then (bif (((S t).length + 1) * 32).ble most && ((S t).length + 1).ble most then x else none) else none
def cut0 (f : List UwE → Int → Nat) (S : Nat → List UwE) (a : Int) (t : Nat) : Nat → List UwE := setS (rowAt (H9 S)) (Int.toNat t) ((rowAt (H9 S) (Int.toNat t)).take (f (rowAt (H9 S) (Int.toNat t)) a))
def hx16 (S : Nat → List UwE) (t : Nat) (R : Nat → AV) : List Ent := mapE 9 :: skEx 2 t (cS S) ++ [skRow (l8 R), zE]
def hole16 (l : List Evt) (i : Int) (S : Nat → List UwE) (t : Nat) : Option (AX × St) := some (.normal, stOf 30 Try.k16 (Try.V16 9 l (IntKind.i64.wrap (i + 1))) ⟨10, hx16 S t (skX 2 t (lenS S))⟩)
theorem Try.f16c (l : List Evt) (S : Nat → List UwE) (i : Int) (pc a b n : Int) : ∀ t : Nat, t < 8 → Try.F16 false l S i ⟨6, t, pc, a, b, n⟩ = appR0 S t (n16 l i (appC0 S (1, pc, a, b, 0) t) (appN S t)) :=
  each8 (by kernel_rfl) (by kernel_rfl) (by kernel_rfl) (by kernel_rfl) (by kernel_rfl) (by kernel_rfl) (by kernel_rfl) (by kernel_rfl)
theorem Try.f16s (l : List Evt) (S : Nat → List UwE) (i : Int) (pc a b n : Int) : ∀ t : Nat, t < 8 → Try.F16 false l S i ⟨9, t, pc, a, b, n⟩ = bif a != 0 then appR0 S t (n16 l i (appC0 S (2, pc, a, pc, n) t) (appN S t)) else q16 l i S :=
  each8 (by kernel_rfl) (by kernel_rfl) (by kernel_rfl) (by kernel_rfl) (by kernel_rfl) (by kernel_rfl) (by kernel_rfl) (by kernel_rfl)
theorem Try.f16r (l : List Evt) (S : Nat → List UwE) (i : Int) (pc a b n : Int) : ∀ t : Nat, t < 8 → Try.F16 false l S i ⟨7, t, pc, a, b, n⟩ = bif isH (H9 S) (H9 (rowAt (H9 S))) then (bif thrd t && Nat.ble (rowAt (H9 S) (Int.toNat t)).length 1000000 then q16 l i (cut0 retN S a t) else none) else none :=
  each8 (by kernel_rfl) (by kernel_rfl) (by kernel_rfl) (by kernel_rfl) (by kernel_rfl) (by kernel_rfl) (by kernel_rfl) (by kernel_rfl)
theorem Try.f16b (l : List Evt) (S : Nat → List UwE) (i : Int) (pc a b n : Int) : ∀ t : Nat, t < 8 → Try.F16 false l S i ⟨10, t, pc, a, b, n⟩ = bif isH (H9 S) (H9 (rowAt (H9 S))) then (bif thrd t && Nat.ble (rowAt (H9 S) (Int.toNat t)).length 1000000 then q16 l i (cut0 (fun l _ => backN' l) S a t) else none) else none :=
  each8 (by kernel_rfl) (by kernel_rfl) (by kernel_rfl) (by kernel_rfl) (by kernel_rfl) (by kernel_rfl) (by kernel_rfl) (by kernel_rfl)
theorem Try.f16e (l : List Evt) (S : Nat → List UwE) (i : Int) (pc a b n : Int) : ∀ t : Nat, t < 8 → Try.F16 false l S i ⟨12, t, pc, a, b, n⟩ = hole16 l i S t :=
  each8 (by kernel_rfl) (by kernel_rfl) (by kernel_rfl) (by kernel_rfl) (by kernel_rfl) (by kernel_rfl) (by kernel_rfl) (by kernel_rfl)
theorem Try.f16n (l : List Evt) (S : Nat → List UwE) (i : Int) (th pc a b : Int) : ∀ t : Nat, t < 8 → Try.F16 false l S i ⟨11, th, pc, a, b, t⟩ = thx th (hole16 l i S t) (q16 l i S) :=
  each8 (by kernel_rfl) (by kernel_rfl) (by kernel_rfl) (by kernel_rfl) (by kernel_rfl) (by kernel_rfl) (by kernel_rfl) (by kernel_rfl)
theorem Try.f16u (l : List Evt) (S : Nat → List UwE) (i : Int) (th pc a b : Int) (m : Nat) : Try.F16 false l S i ⟨11, th, pc, a, b, .negSucc m⟩ = thx th (q16 l i S) (q16 l i S) := by kernel_rfl
theorem Try.f16v (l : List Evt) (S : Nat → List UwE) (i : Int) (th pc a b : Int) (m : Nat) : Try.F16 false l S i ⟨11, th, pc, a, b, .ofNat (m + 8)⟩ = thx th (q16 l i S) (q16 l i S) := by kernel_rfl
theorem Try.f16o (l : List Evt) (S : Nat → List UwE) (i : Int) (k th pc a b n : Int) : Try.F16 true l S i ⟨k, th, pc, a, b, n⟩ = kx k (thx th none (q16 l i S)) (q16 l i S) := by kernel_rfl
end Go.Ev
/- Stacks, as a summary. -/
namespace Go.Ev
open Go.Proofs
noncomputable def orK {ρ : Type} (X Y : KC ρ → St → Option ρ) (K : KC ρ) (s : St) : Option ρ := match X K s with
  | some r => some r
  | none => Y K s
theorem COk.or {P : Program} {root : Md} {round : Bool} {c : Code} {ρ : Type} {X Y : KC ρ → St → Option ρ} (hX : COk P root round c X) (hY : COk P root round c Y) : COk P root round c (orK X Y) := by
  intro K s r hk hK
  unfold orK at hK
  split at hK
  · rename_i r' h
    injection hK with hK
    subst hK
    exact hX K s r' hk h
  · exact hY K s r hk hK
theorem nilFlat {n wd : Nat} {f f' : Nat → AV} (h : ∀ i, NilV n wd (f i) (f' i)) (i : Nat) : NilL n wd ((flatRows (l8 f)).getD i []) ((flatRows (l8 f')).getD i []) := by
  rcases i with _ | _ | _ | _ | _ | _ | _ | _ | i
  · exact .cons (h 0) .nil
  · exact .cons (h 1) .nil
  · exact .cons (h 2) .nil
  · exact .cons (h 3) .nil
  · exact .cons (h 4) .nil
  · exact .cons (h 5) .nil
  · exact .cons (h 6) .nil
  · exact .cons (h 7) .nil
  · show NilL n wd (([] : List (List AV)).getD i []) (([] : List (List AV)).getD i [])
    simp only [List.getD_eq_getElem?_getD, List.getElem?_nil, Option.getD_none]
    exact .nil
def skY (b t : Nat) (N : Nat → Nat) (i : Nat) : AV := bif Nat.beq i t then ow 10 0 else ow (b + (bif Nat.blt i t then i else i - 1)) (N i)
def eE (id : Nat) : Ent := ⟨id, 0, .cells (UE.con [])⟩
def entsN : Nat → List Ent
  | 0 => []
  | m + 1 => eE (3 + m) :: entsN m
def rowN (m i : Nat) : AV := bif Nat.blt i m then ow (3 + i) 0 else .val (.slice none 0 0)
def rowE (p : Bool) (R : List AV) : Ent := ⟨1, 0, .cells (.rows p 1 (flatRows R))⟩
def Try.n16s (p : Bool) (l : List Evt) (i : Int) (m : Nat) : St := stOf 30 Try.k16 (Try.V16 2 l i) ⟨3 + m, entsN m ++ mapE 2 :: [rowE p (l8 (rowN m)), zE]⟩
theorem hx16_ok (S : Nat → List UwE) (R : Nat → AV) : ∀ t, t < 8 → (⟨10, hx16 S t R⟩ : Heap).ok :=
  each8 (heap_ok [9, 8, 7, 6, 5, 4, 3, 2, 1, 0] rfl (by decide) (by decide)) (heap_ok [9, 8, 7, 6, 5, 4, 3, 2, 1, 0] rfl (by decide) (by decide)) (heap_ok [9, 8, 7, 6, 5, 4, 3, 2, 1, 0] rfl (by decide) (by decide)) (heap_ok [9, 8, 7, 6, 5, 4, 3, 2, 1, 0] rfl (by decide) (by decide)) (heap_ok [9, 8, 7, 6, 5, 4, 3, 2, 1, 0] rfl (by decide) (by decide)) (heap_ok [9, 8, 7, 6, 5, 4, 3, 2, 1, 0] rfl (by decide) (by decide)) (heap_ok [9, 8, 7, 6, 5, 4, 3, 2, 1, 0] rfl (by decide) (by decide)) (heap_ok [9, 8, 7, 6, 5, 4, 3, 2, 1, 0] rfl (by decide) (by decide))
theorem H16_ok (C : Nat → Con) (R : List AV) : (⟨11, mapE 10 :: skEn 2 C ++ [skRow R, zE]⟩ : Heap).ok := heap_ok [10, 9, 8, 7, 6, 5, 4, 3, 2, 1, 0] rfl (by decide) (by decide)
theorem hole_canon (l : List Evt) (i : Int) (S : Nat → List UwE) : ∀ t, t < 8 → canon (some Try.k16) (stOf 30 Try.k16 (Try.V16 9 l i) ⟨11, eE 10 :: hx16 S t (skY 2 t (lenS S))⟩) =
    stOf 30 Try.k16 (Try.V16 10 l i) ⟨11, mapE 10 :: skEn 2 (fun i => bif Nat.beq i t then UE.con [] else UE.con (S i)) ++ [skRow (l8 (skN 2 (fun i => bif Nat.beq i t then 0 else (S i).length))), zE]⟩ :=
  each8 (by kernel_rfl) (by kernel_rfl) (by kernel_rfl) (by kernel_rfl) (by kernel_rfl) (by kernel_rfl) (by kernel_rfl) (by kernel_rfl)
theorem hole_weak (l : List Evt) (i : Int) (S : Nat → List UwE) (t : Nat) (ht : t < 8) : Weak (stOf 30 Try.k16 (Try.V16 9 l i) ⟨10, hx16 S t (skX 2 t (lenS S))⟩) (Try.s16 l (setS S t []) i) := by
  have h1 : WeakP 0 (stOf 30 Try.k16 (Try.V16 9 l i) ⟨10, hx16 S t (skX 2 t (lenS S))⟩) (stOf 30 Try.k16 (Try.V16 9 l i) ⟨11, eE 10 :: hx16 S t (skY 2 t (lenS S))⟩) := by
    refine WeakP.nilRows (mapE 9 :: skEx 2 t (cS S)) [zE] (con := UE.con []) (hx16_ok S _ t ht) rfl (by rw [flatRows_len, flatRows_len]; rfl) (nilFlat (fun i => ?_))
    unfold skX skY
    cases Nat.beq i t
    · exact .inl rfl
    · exact .inr ⟨rfl, rfl⟩
  have h2 := Weak.canon h1.1 Try.k16
  rw [hole_canon l i S t ht] at h2
  have e1 : (fun i => bif Nat.beq i t then UE.con [] else UE.con (S i)) = cS (setS S t []) := funext fun i => by unfold cS setS; cases Nat.beq i t <;> rfl
  have e2 : (fun i => bif Nat.beq i t then 0 else (S i).length) = lenS (setS S t []) := funext fun i => by unfold lenS setS; cases Nat.beq i t <;> rfl
  rw [e1, e2] at h2
  exact (Weak.ofP h1).trans h2
theorem n16s_ok (p : Bool) (R : List AV) : ∀ m, m ≤ 8 → (⟨3 + m, entsN m ++ mapE 2 :: [rowE p R, zE]⟩ : Heap).ok := by
  intro m hm
  have h : m < 9 := by omega
  rcases m with _ | _ | _ | _ | _ | _ | _ | _ | _ | m
  · exact heap_ok [2, 1, 0] rfl (by decide) (by decide)
  · exact heap_ok [3, 2, 1, 0] rfl (by decide) (by decide)
  · exact heap_ok [4, 3, 2, 1, 0] rfl (by decide) (by decide)
  · exact heap_ok [5, 4, 3, 2, 1, 0] rfl (by decide) (by decide)
  · exact heap_ok [6, 5, 4, 3, 2, 1, 0] rfl (by decide) (by decide)
  · exact heap_ok [7, 6, 5, 4, 3, 2, 1, 0] rfl (by decide) (by decide)
  · exact heap_ok [8, 7, 6, 5, 4, 3, 2, 1, 0] rfl (by decide) (by decide)
  · exact heap_ok [9, 8, 7, 6, 5, 4, 3, 2, 1, 0] rfl (by decide) (by decide)
  · exact heap_ok [10, 9, 8, 7, 6, 5, 4, 3, 2, 1, 0] rfl (by decide) (by decide)
  · omega
theorem nil_step (p : Bool) (l : List Evt) (i : Int) (m : Nat) (hm : m < 8) : Weak (Try.n16s p l i m) (Try.n16s false l i (m + 1)) := by
  have h1 : WeakP 0 (Try.n16s p l i m) (stOf 30 Try.k16 (Try.V16 2 l i) ⟨3 + m + 1, eE (3 + m) :: ((entsN m ++ [mapE 2]) ++ ⟨1, 0, .cells (.rows false 1 (flatRows (l8 (rowN (m + 1)))))⟩ :: [zE])⟩) := by
    have e : entsN m ++ mapE 2 :: [rowE p (l8 (rowN m)), zE] = (entsN m ++ [mapE 2]) ++ ⟨1, 0, .cells (.rows p 1 (flatRows (l8 (rowN m))))⟩ :: [zE] := by
      rw [List.append_assoc]; rfl
    unfold Try.n16s
    rw [e]
    refine WeakP.nilRows (entsN m ++ [mapE 2]) [zE] (con := UE.con []) (by rw [← e]; exact n16s_ok p _ m (by omega)) rfl (by rw [flatRows_len, flatRows_len]; rfl) (nilFlat (fun j => ?_))
    unfold rowN
    rcases Nat.lt_or_ge j m with q | q
    · rw [blt_t q, blt_t (show j < m + 1 by omega)]; exact .inl rfl
    · rw [blt_f q]
      rcases Nat.lt_or_ge j (m + 1) with q2 | q2
      · have : j = m := by omega
        subst this
        rw [blt_t q2]; exact .inr ⟨rfl, rfl⟩
      · rw [blt_f q2]; exact .inl rfl
  have e2 : eE (3 + m) :: ((entsN m ++ [mapE 2]) ++ ⟨1, 0, .cells (.rows false 1 (flatRows (l8 (rowN (m + 1)))))⟩ :: [zE]) = entsN (m + 1) ++ mapE 2 :: [rowE false (l8 (rowN (m + 1))), zE] := by
    rw [List.append_assoc]; rfl
  rw [e2] at h1
  exact Weak.ofP h1
theorem nil_all (p : Bool) (l : List Evt) (i : Int) : ∀ m, m < 8 → Weak (Try.n16s p l i 0) (Try.n16s false l i (m + 1))
  | 0, _ => nil_step p l i 0 (by omega)
  | m + 1, h => (nil_all p l i m (by omega)).trans (nil_step false l i (m + 1) h)
theorem nil_canon (l : List Evt) (i : Int) : canon (some Try.k16) (Try.n16s false l i 8) = Try.s16 l (fun _ => []) i := by kernel_rfl
theorem nil_weak (p : Bool) (l : List Evt) (i : Int) : Weak (Try.n16s p l i 0) (Try.s16 l (fun _ => []) i) := by
  have h := nil_all p l i 7 (by omega)
  have h2 := Weak.canon h.1 Try.k16
  rw [nil_canon] at h2
  exact h.trans h2
theorem Try.f16z (l : List Evt) (S : Nat → List UwE) (i : Int) (th pc a b n : Int) : Try.F16 false l S i ⟨24, th, pc, a, b, n⟩ = thx th (some (.normal, Try.n16s false l (IntKind.i64.wrap (i + 1)) 0)) (q16 l i S) := by kernel_rfl
end Go.Ev
/- Stacks, as a summary: its loop. -/
namespace Go.Ev
open Go.Proofs
theorem s16_ok (l : List Evt) (S : Nat → List UwE) (i : Int) : (Try.s16 l S i).h.ok := H16_ok (cS S) _
theorem q16_refl (l : List Evt) (S : Nat → List UwE) (i : Int) : Weak (Try.s16 l S i) (Try.s16 l S i) := Weak.refl (s16_ok l S i)
theorem H9_rows (S : Nat → List UwE) : H9 S = H9 (rowAt (H9 S)) ∧ ∀ t, t < 8 → rowAt (H9 S) t = S t := by
  have h : ∀ t, t < 8 → rowAt (H9 S) t = S t := each8 (UE.list_con _) (UE.list_con _) (UE.list_con _) (UE.list_con _) (UE.list_con _) (UE.list_con _) (UE.list_con _) (UE.list_con _)
  exact ⟨H9_congr (fun t ht => (h t ht).symm), h⟩
theorem s16_congr {S T : Nat → List UwE} (h : ∀ i, i < 8 → S i = T i) (l : List Evt) (i : Int) : Try.s16 l S i = Try.s16 l T i := by
  obtain ⟨c1, c2, _⟩ := skEb_congr h 2
  unfold Try.s16 H16
  rw [c1, c2]
theorem cut0_eq (f : List UwE → Int → Nat) (S : Nat → List UwE) (a : Int) (t : Nat) (ht : t < 8) : ∀ i, i < 8 → cut0 f S a t i = setS S t ((S t).take (f (S t) a)) i := by
  intro i hi
  unfold cut0
  have e : Int.toNat (t : Int) = t := Int.toNat_natCast t
  rw [e, (H9_rows S).2 t ht]
  unfold setS
  rw [(H9_rows S).2 i hi]
theorem appC0_w (S : Nat → List UwE) (x : UwE) (t i : Nat) : ConW (appC0 S x t i) (cS (setS S t (S t ++ [x])) i) := by
  have h := appC_w S x t i
  unfold appC at h
  rw [rl_eq, rlC_eq] at h
  exact h
theorem app16_w (l : List Evt) (S : Nat → List UwE) (x : UwE) (t : Nat) (i : Int) : Weak (stOf 30 Try.k16 (Try.V16 10 l i) ⟨11, mapE 10 :: skEn 2 (appC0 S x t) ++ [skRow (l8 (skN 2 (appN S t))), zE]⟩) (Try.s16 l (setS S t (S t ++ [x])) i) := by
  have e : appN S t = lenS (setS S t (S t ++ [x])) := funext fun i => by unfold appN lenS setS; cases Nat.beq i t <;> simp
  rw [e]
  refine Weak.heap (H16_ok _ _) (.same _ (skEn_w (fun i => ?_) (appC0_w S x t) (EsW.refl _)))
  unfold appC0
  cases Nat.beq i t <;> rfl
theorem appR0_t {α : Type} {S : Nat → List UwE} (h : ∀ i, (S i).length ≤ 1000000) (t : Nat) (x : Option α) : appR0 S t x = x := by
  have := h t
  unfold appR0
  rw [Nat.zero_add, ble_t (Nat.le_refl _), ble_t (show ((S t).length + 1) * 32 ≤ most by rw [most_eq]; omega), ble_t (show (S t).length + 1 ≤ most by rw [most_eq]; omega)]; rfl
theorem Try.e16 (o : Bool) : EnvOk2 Try.prog (Try.E16 o) := by
  cases o
  · exact Try.envOk false (sumsOf Try.t16s) _ (sumsOf_ok (show AllS Try.prog Try.t16s from ⟨Try.sum77, Try.sum79, trivial⟩))
  · exact Try.envOk false (sumsOf Try.t16o) _ (sumsOf_ok (show AllS Try.prog Try.t16o from ⟨noA_sum Try.fnOk76 rfl, noA_sum Try.fnOk77 rfl, noA_sum Try.fnOk78 rfl, noA_sum Try.fnOk79 rfl, noA_sum Try.fnOk80 rfl, noA_sum Try.fnOk81 rfl, noA_sum Try.fnOk82 rfl, trivial⟩))
theorem F16_step (l : List Evt) (S : Nat → List UwE) (hS : ∀ i, (S i).length ≤ 1000000) (i : Int) (e : Evt) :
    (∃ s1, Try.F16 true l S i e = some (.normal, s1) ∧ Weak s1 (Try.s16 l (stepU S e) (IntKind.i64.wrap (i + 1)))) ∨ (Try.F16 true l S i e = none ∧ ∃ s1, Try.F16 false l S i e = some (.normal, s1) ∧ Weak s1 (Try.s16 l (stepU S e) (IntKind.i64.wrap (i + 1)))) := by
  obtain ⟨k, th, pc, a, b, n⟩ := e
  have ho := Try.f16o l S i k th pc a b n
  cases hth : thrd th with
  | false =>
    have e1 : stepU S ⟨k, th, pc, a, b, n⟩ = S := by unfold stepU; simp only [hth]; rfl
    rw [thx_f hth] at ho
    have e2 : kx k (q16 l i S) (q16 l i S) = q16 l i S := by unfold kx; simp only [cond_sameB]
    rw [e2] at ho
    rw [e1]
    exact .inl ⟨_, ho, q16_refl _ _ _⟩
  | true =>
    obtain ⟨t, ht, rfl⟩ := thrd_cast hth
    have et : Int.toNat (t : Int) = t := Int.toNat_natCast t
    rw [thx_t hth] at ho
    obtain ⟨hh, hr⟩ := H9_rows S
    unfold stepU
    simp only [hth, cond_true, et]
    rcases kx_cases k with rfl | rfl | rfl | rfl | rfl | rfl | rfl | hk
    · refine .inr ⟨ho, _, (Try.f16c l S i pc a b n t ht).trans (appR0_t hS t _), app16_w l S _ t _⟩
    · have key := Try.f16r l S i pc a b n t ht
      rw [← hh, isH_refl, hth, et, hr t ht, ble_t (hS t)] at key
      unfold q16 at key
      rw [s16_congr (cut0_eq retN S a t ht)] at key
      exact .inr ⟨ho, _, key, q16_refl _ _ _⟩
    · have key := Try.f16s l S i pc a b n t ht
      rw [appR0_t hS] at key
      refine .inr ⟨ho, ?_⟩
      show ∃ s1, _ ∧ Weak s1 (Try.s16 l (bif a != 0 then _ else S) _)
      cases ha : a != 0 with
      | true => rw [ha] at key; exact ⟨_, key, app16_w l S _ t _⟩
      | false => rw [ha] at key; exact ⟨_, key, q16_refl _ _ _⟩
    · have key := Try.f16b l S i pc a b n t ht
      rw [← hh, isH_refl, hth, et, hr t ht, ble_t (hS t)] at key
      unfold q16 at key
      rw [s16_congr (cut0_eq (fun l _ => backN' l) S a t ht)] at key
      exact .inr ⟨ho, _, key, q16_refl _ _ _⟩
    · refine .inr ⟨ho, ?_⟩
      show ∃ s1, _ ∧ Weak s1 (Try.s16 l (bif thrd n then setS S n.toNat [] else S) _)
      cases hn : thrd n with
      | true =>
        obtain ⟨m, hm, rfl⟩ := thrd_cast hn
        have key := Try.f16n l S i t pc a b m hm
        rw [thx_t hth] at key
        rw [Int.toNat_natCast]
        exact ⟨_, key, hole_weak l _ S m hm⟩
      | false =>
        rcases thrd_out hn with ⟨m, rfl⟩ | ⟨m, rfl⟩
        · have key := Try.f16u l S i t pc a b m
          rw [thx_t hth] at key
          exact ⟨_, key, q16_refl _ _ _⟩
        · have key := Try.f16v l S i t pc a b m
          rw [thx_t hth] at key
          exact ⟨_, key, q16_refl _ _ _⟩
    · exact .inr ⟨ho, _, Try.f16e l S i pc a b n t ht, hole_weak l _ S t ht⟩
    · have key := Try.f16z l S i t pc a b n
      rw [thx_t hth] at key
      exact .inr ⟨ho, _, key, nil_weak false l _⟩
    · obtain ⟨k1, k2, k3, k4, k5, k6, k7⟩ := hk
      unfold kx at ho
      rw [beqI_f k1, beqI_f k2, beqI_f k3, beqI_f k4, beqI_f k5, beqI_f k6, beqI_f k7] at ho ⊢
      exact .inl ⟨_, ho, q16_refl _ _ _⟩
theorem orK_some {ρ : Type} {X Y : KC ρ → St → Option ρ} {K : KC ρ} {s : St} {r : ρ} (h : X K s = some r) : orK X Y K s = some r := by unfold orK; rw [h]
theorem orK_none {ρ : Type} {X Y : KC ρ → St → Option ρ} {K : KC ρ} {s : St} {r : ρ} (h : X K s = none) (h2 : Y K s = some r) : orK X Y K s = some r := by unfold orK; rw [h]; exact h2
def Try.L16 (l : List Evt) : LSum := atL (Try.n16s true l 0 0) (.grd (Nat.ble l.length 1000000) (.out (Try.x16 (runE l))))
theorem x16_ok (S : Nat → List UwE) : (Try.x16 S).2.h.ok := heap_ok [9, 8, 7, 6, 5, 4, 3, 2, 1, 0] rfl (by decide) (by decide)
theorem Try.l16 (l : List Evt) : ∀ s e s', s.h.ok → (Try.L16 l s).run = some (e, s') → Triple Try.prog (.loop Try.b16) s e s' := by
  intro s e s' hk hL
  obtain ⟨rfl, hA⟩ := atL_some hL
  rw [Ans.run_grd] at hA
  cases hd : Nat.ble l.length 1000000 with
  | false => rw [hd] at hA; cases hA
  | true =>
  rw [hd, cond_true] at hA
  have hA := Option.some.inj hA
  rw [Nat.ble_eq] at hd
  have hX := fun o => codeS_sound (ρ := AX × St) (callF_sound (Try.e16 o) 5) (Try.e16 o).ok (Try.e16 o).mix ((Try.E16 o).keep 16) (lsumsOf []) Try.b16 trivial
  have hO : COk Try.prog ⟨true, 0⟩ false Try.b16 (orK (fun K s => Try.C16 true Try.b16 K s) (fun K s => Try.C16 false Try.b16 K s)) := COk.or (hX true) (hX false)
  have key := loop_tripleW hO Try.k16 [2, 4] (T := Nat) (fun k => Try.s16 l (runN l k) k) (fun k => k ≤ l.length) (fun k => l.length - k) (fun _ => Try.x16 (runE l)) (fun k _ => s16_ok l _ _) (fun k hk => by
    replace hk : k ≤ l.length := hk
    have r1 := Try.r16 true l (runN l k) k
    have r2 := Try.r16 false l (runN l k) k
    unfold Try.B16 at r1 r2
    by_cases h : k < l.length
    · rw [declt_nat, inR_nat, decide_eq_true h, Int.toNat_natCast] at r1 r2
      have hst := F16_step l (runN l k) (fun i => Nat.le_trans (runN_len l k i) (by omega)) k (l.getD k EV.z)
      rw [wrapT k (by omega)] at hst
      rcases hst with ⟨s1, q1, q2⟩ | ⟨q0, s1, q1, q2⟩
      · refine .inl ⟨k + 1, s1, ?_, q2, h, by omega, rfl⟩
        exact orK_some (by rw [r1, q1]; rfl)
      · refine .inl ⟨k + 1, s1, ?_, q2, h, by omega, rfl⟩
        exact orK_none (by rw [r1, q0]; rfl) (by rw [r2, q1]; rfl)
    · have e1 : k = l.length := by omega
      rw [declt_nat, decide_eq_false h] at r1
      refine .inr ⟨(Try.x16 (runE l)).2, ?_, Weak.refl (x16_ok _), by show (AX.exit 0) ≠ .normal; simp⟩
      subst e1
      exact orK_some (by rw [r1]; rfl)) 0 (Nat.zero_le _)
  rw [show Try.x16 (runE l) = (e, s') from hA] at key
  exact Triple.weak (nil_weak true l 0) key
theorem purS2 (S : Nat → List UwE) (x : Value) : purT ⟨8, skEb 0 S⟩ (.tup [.agg (skCb 0 S), .val x]) = some (.tup [.agg (l8 (fun i => .ro (.tab 5 (lenS S i) (fun j => UE.row ((S i).getD (0 + j) UE.z))) none)), .val x]) := by
  have key : purA ⟨8, skEb 0 S⟩ (.agg (skCb 0 S)) = opt8 (fun i => bif (0 + lenS S i).ble (S i).length && true then some (.ro (.tab 5 (lenS S i) (fun j => UE.row ((S i).getD (0 + j) UE.z))) none) else none) := by kernel_rfl
  have e : ∀ i, (bif (0 + lenS S i).ble (S i).length && true then some (AV.ro (.tab 5 (lenS S i) (fun j => UE.row ((S i).getD (0 + j) UE.z))) none) else none) = some (AV.ro (.tab 5 (lenS S i) (fun j => UE.row ((S i).getD (0 + j) UE.z))) none) := fun i => by
    rw [Nat.zero_add, show lenS S i = (S i).length from rfl, ble_t (Nat.le_refl _)]; rfl
  rw [opt8_some e] at key
  show (match consO (purA ⟨8, skEb 0 S⟩ (.agg (skCb 0 S))) (some [AV.val x]) with | some l => some (AV.tup l) | none => none) = _
  rw [key]; rfl
theorem lendS2 {P : Program} {g : Nat} {args : List AV} (S : Nat → List UwE) (x : Value) (h : Alone P g args (.tup [.agg (skCb 0 S), .val x]) ⟨8, skEb 0 S⟩) : Alone P g args (.tup [skA S, .val x]) ⟨0, []⟩ :=
  Alone.resW (AW.tup (.cons (AW.agg (AWs.l8 (fun i => row_aw (S i)))) (.cons (AW.refl _) .nil))) (Alone.lend (purS2 S x) h)
theorem Try.w16 (l : List Evt) : rootS (Try.E16 false) 5 16 (lsumsOf [(5, Try.L16 l)]) [.ro (EV.con l) none] =
    bif decide ((l.length : Int) > 1000000) then some (.tup [.agg (l8 (fun _ => .val (.slice none 0 0))), .val (.int .i64 2)], ⟨0, []⟩)
    else bif isSt (Try.n16s true l 0 0) (Try.n16s true l 0 0) then (bif Nat.ble l.length 1000000 then some (.tup [.agg (skCb 0 (runE l)), .val (.int .i64 0)], ⟨8, skEb 0 (runE l)⟩) else none) else none := by kernel_rfl
theorem Try.al16 (l : List Evt) (hl : l.length ≤ 1000000) : Alone Try.prog 16 [.ro (EV.con l) none] (.tup [skA (runE l), .val (.int .i64 0)]) ⟨0, []⟩ := by
  refine lendS2 _ _ (rootS_alone (Try.e16 false) (d := 5) (g := 16) (ls := lsumsOf [(5, Try.L16 l)]) (AllL.of1 (a := Try.b16) (by kernel_rfl) (LsOk.of rfl rfl (Try.l16 l))) ((Try.w16 l).trans ?_))
  rw [isSt_refl, ble_t hl, decide_eq_false (by omega)]; rfl
theorem Try.sum16 : SumC Try.prog 16 Try.A17 := stacks_sum Try.fnOk16 rfl Try.al16
end Go.Ev
/- Trace. -/
namespace Go.Ev
open Go.Proofs
end Go.Ev
/- UnwindStacks: its walk. -/
namespace Go.Ev
open Go.Proofs
def stepG (A : Nat → List UwE) (e : Evt) : Nat → List UwE := stepU (skGet (skA A)) e
def bT : Option (AV × Heap) := some (.val (.bool true), ⟨0, []⟩)
def bF : Option (AV × Heap) := some (.val (.bool false), ⟨0, []⟩)
def sm (S T : Nat → List UwE) (x y : Option (AV × Heap)) : Option (AV × Heap) := bif skIs (skA S) && skIs (skA T) then (bif same8 (skGet (skA S)) (skGet (skA T)) then x else y) else none
def rE (l : List Evt) : Nat → List UwE := runE (EV.list (EV.con l))
end Go.Ev
/- UnwindStacks, for every input: the law answers true, and its arguments read as they did. -/
namespace Go.Ev
open Go.Proofs
theorem sm_t {S T : Nat → List UwE} (hS : ∀ i, i < 8 → (S i).length ≤ 1000000) (hT : ∀ i, i < 8 → (T i).length ≤ 1000000) (x y : Option (AV × Heap)) : sm S T x y = bif same8 S T then x else y := by
  unfold sm
  rw [skIs_t hS, skIs_t hT, same8_congr (skGet_eq S) (skGet_eq T)]; rfl
theorem rE_eq (l : List Evt) : rE l = runE l := by unfold rE; rw [EV.list_con]
abbrev evSh : Sh := .agg [.int .i64, .int .i64, .int .u32, .int .u32, .int .u32, .int .i64]
section
variable {H : Type}
noncomputable def pAt (d : DataW H) (i : Nat) : DataW H := (partsD d).getD i .nil
noncomputable def evD (d : DataW H) : Evt := ⟨intD (pAt d 0), intD (pAt d 1), intD (pAt d 2), intD (pAt d 3), intD (pAt d 4), intD (pAt d 5)⟩
theorem headTail (l : List (DataW H)) : l.headD .nil = l.getD 0 .nil ∧ ∀ i, l.tail.getD i .nil = l.getD (i + 1) .nil := by
  cases l <;> simp [List.headD]
theorem avs_ev (d : DataW H) : avs evSh d = evL (evD d) := by
  simp only [avs, avsL, (headTail _).1, (headTail _).2]; rfl
theorem avs_evs (l : List (DataW H)) : Con.tab (Sh.wd evSh) l.length (fun i => avs evSh (l.getD i .nil)) = EV.con (l.map evD) := by
  unfold RowTy.con
  have e : (fun i => avs evSh (l.getD i .nil)) = fun i => EV.row ((l.map evD).getD i EV.z) := by
    funext i
    rw [avs_ev, List.getD_eq_getElem?_getD, List.getD_eq_getElem?_getD, List.getElem?_map]
    cases l[i]? <;> rfl
  rw [e, List.length_map]; rfl
theorem argA_evs (d : DataW H) : argA (.sl evSh) d = .ro (EV.con ((elemsD d).map evD)) none := by rw [← avs_evs]; rfl
end
end Go.Ev
namespace Go.Proofs.Ytemblfgjamapbaa
open Go.Ev
theorem Try.ownG : ownKnob Try.prog.godebug = none := by kernel_rfl
theorem Try.kidsG : Kids Try.prog (· < Try.prog.types.size) := kids_rows (by kernel_rfl) (by kernel_rfl)
theorem Try.fullG : ∀ t e, t < Try.prog.types.size → Try.prog.underlying t = some (.slice e) → 0 < Try.prog.cellsOf e := slices_full_of Try.prog (by kernel_rfl)
end Go.Proofs.Ytemblfgjamapbaa
/- UnwindBrackets: its inner loop. -/
namespace Go.Ev
open Go.Proofs
def k5 : List Nat := [0, 1, 7, 8, 9, 10]
def w1 (O : List UwE) : Int := IntKind.i64.wrap ((O.length : Int) - 1)
end Go.Ev
/- UnwindBrackets: its walk. -/
namespace Go.Ev
open Go.Proofs
def bytes (bk : List Int) : Prop := ∀ x ∈ bk, 0 ≤ x ∧ x ≤ 255
end Go.Ev
/- UnwindBrackets, for every input: the law answers true, and its arguments read as they did. -/
namespace Go.Ev
open Go.Proofs
theorem u8_wf {H : Type} {d : DataW H} (h : wfD (.int .u8) d) : 0 ≤ intD d ∧ intD d ≤ 255 := by
  simp only [wfD, Lit.wf, IntKind.min, IntKind.max, IntKind.signed, IntKind.bits] at h
  simp at h
  omega
end Go.Ev
namespace Go.Proofs.Ytemblfgjamapbaa
open Go.Ev
end Go.Proofs.Ytemblfgjamapbaa
/- UnwindThreads: its walk. -/
namespace Go.Ev
open Go.Proofs
def keepsE (t : Int) (e : Evt) : Bool := e.th == t || ((e.k == 11 && e.n == t) || e.k == 24)
def runL (S : Nat → List UwE) (l : List Evt) : Nat → List UwE := l.foldl stepU S
theorem runN_take (l : List Evt) : ∀ k, k ≤ l.length → runN l k = runL (fun _ => []) (l.take k)
  | 0, _ => rfl
  | k + 1, h => by
    have ih := runN_take l k (by omega)
    show stepU (runN l k) (l.getD k EV.z) = _
    rw [ih, List.take_add_one, List.getElem?_eq_getElem (by omega), List.getD_eq_getElem?_getD, List.getElem?_eq_getElem (by omega)]
    unfold runL
    rw [List.foldl_append]; rfl
theorem runE_eq (l : List Evt) : runE l = runL (fun _ => []) l := by
  unfold runE
  rw [runN_take l l.length (Nat.le_refl _), List.take_length]
theorem setS_row (S S' : Nat → List UwE) (u t : Nat) (A A' : List UwE) (hA : u = t → A = A') (h : S t = S' t) : setS S u A t = setS S' u A' t := by
  unfold setS
  cases hq : Nat.beq t u with
  | true => exact hA (Nat.eq_of_beq_eq_true hq).symm
  | false => exact h
theorem thrd_inj {a : Int} {t : Nat} (h : thrd a = true) (hn : a ≠ t) : a.toNat ≠ t := by
  unfold thrd at h
  simp only [Bool.and_eq_true, decide_eq_true_eq] at h
  omega
theorem step_row {S S' : Nat → List UwE} {t : Nat} (h : S t = S' t) (e : Evt) : stepU S e t = stepU S' e t := by
  by_cases hth : e.th = t
  · unfold stepU
    have et : e.th.toNat = t := by rw [hth]; exact Int.toNat_natCast t
    cases thrd e.th <;> simp only [cond_true, cond_false, et, h]
    cases e.k == 6 <;> simp only [cond_true, cond_false, setS_same]
    cases e.k == 7 <;> simp only [cond_true, cond_false, setS_same]
    cases e.k == 9 <;> simp only [cond_true, cond_false]
    · cases e.k == 10 <;> simp only [cond_true, cond_false, setS_same]
      cases e.k == 11 <;> simp only [cond_true, cond_false]
      · cases e.k == 12 <;> simp only [cond_true, cond_false, setS_same]
        cases e.k == 24 <;> simp only [cond_true, cond_false]
        exact h
      · cases thrd e.n <;> simp only [cond_true, cond_false]
        · exact h
        · exact setS_row _ _ _ _ _ _ (fun _ => rfl) h
    · cases e.a != 0 <;> simp only [cond_true, cond_false, setS_same]
      exact h
  · unfold stepU
    cases hv : thrd e.th <;> simp only [cond_true, cond_false]
    · exact h
    have hne := thrd_inj hv hth
    have ho : ∀ (X : Nat → List UwE) A, setS X e.th.toNat A t = X t := fun X A => setS_other X (fun q => hne q.symm) A
    cases e.k == 6 <;> simp only [cond_true, cond_false, ho]
    cases e.k == 7 <;> simp only [cond_true, cond_false, ho]
    cases e.k == 9 <;> simp only [cond_true, cond_false]
    · cases e.k == 10 <;> simp only [cond_true, cond_false, ho]
      cases e.k == 11 <;> simp only [cond_true, cond_false]
      · cases e.k == 12 <;> simp only [cond_true, cond_false, ho]
        cases e.k == 24 <;> simp only [cond_true, cond_false]
        all_goals exact h
      · cases thrd e.n <;> simp only [cond_true, cond_false]
        · exact h
        · exact setS_row _ _ _ _ _ _ (fun _ => rfl) h
      · exact h
    · cases e.a != 0 <;> simp only [cond_true, cond_false, ho] <;> exact h
    · exact h
    · exact h
theorem step_keep {S : Nat → List UwE} {t : Nat} {e : Evt} (hk : keepsE t e = false) : stepU S e t = S t := by
  unfold keepsE at hk
  simp only [Bool.or_eq_false_iff, Bool.and_eq_false_iff, beq_eq_false_iff_ne] at hk
  obtain ⟨h1, h2, h3⟩ := hk
  unfold stepU
  cases hv : thrd e.th <;> simp only [cond_true, cond_false]
  have hne := thrd_inj hv h1
  have ho : ∀ (X : Nat → List UwE) A, setS X e.th.toNat A t = X t := fun X A => setS_other X (fun q => hne q.symm) A
  cases e.k == 6 <;> simp only [cond_true, cond_false, ho]
  cases e.k == 7 <;> simp only [cond_true, cond_false, ho]
  cases e.k == 9 <;> simp only [cond_true, cond_false]
  · cases e.k == 10 <;> simp only [cond_true, cond_false, ho]
    cases h11 : e.k == 11 <;> simp only [cond_true, cond_false]
    · cases e.k == 12 <;> simp only [cond_true, cond_false, ho]
      rw [beqI_f h3]; rfl
    · cases hn : thrd e.n <;> simp only [cond_true, cond_false]
      have : e.n ≠ t := by
        rcases h2 with q | q
        · rw [beq_iff_eq] at h11; exact absurd h11 q
        · exact q
      exact setS_other S (fun q => thrd_inj hn this q.symm) _
  · cases e.a != 0 <;> simp only [cond_true, cond_false, ho]
theorem run_own (t : Nat) : ∀ (l : List Evt) {S S' : Nat → List UwE}, S t = S' t → runL S l t = runL S' (l.filter (keepsE t)) t
  | [], S, S', h => h
  | e :: l, S, S', h => by
    rw [List.filter_cons]
    cases hk : keepsE t e with
    | true => exact run_own t l (step_row h e)
    | false => exact run_own t l ((step_keep hk).trans h)
def Try.t6 : List (Nat × AFun) := [(12, constA (.bool true)), (13, Try.A13), (15, Try.A15), (16, Try.A17), (33, Try.A33)]
def Try.E6 : Env := Try.env0 false (sumsOf Try.t6) (keepF 6 [(6, [0, 5, 6, 7])])
def Try.b6 : Code := nthD .skip (loopsOf (bodyOf Try.E6 6)) 0
def k6 : List Nat := [0, 5, 6, 7]
def Try.s6 (l : List Evt) (t : Int) (O : List Evt) (i : Int) : St := stOf 126 k6 [.ro (EV.con l) none, .val (.int .i64 t), .own 0 0 O.length none 6, .val (.int .i64 i)] (oneH (EV.con O))
def Try.B6 (s : St) : Option (AX × St) := codeS Try.E6 (callF Try.E6 5) (Try.E6.keep 6) (lsumsOf []) Try.b6 (outK k6 [0, 4, 5, 6]) s
def appV (O : List Evt) (x : Evt) : Con := .tab 6 (O.length + 1) (fun i => bif i.blt O.length then EV.row (O.getD (0 + i) EV.z) else [EV.row x].getD (i - O.length) [])
def Try.p6 (l : List Evt) (t : Int) (O : List Evt) (i : Int) : Option (AX × St) :=
  bif inR i l.length then
   bif (0 + O.length).ble O.length then
    bif ((O.length + 1) * 40).ble most && (O.length + 1).ble most then
     some (.normal, stOf 126 k6 [.ro (EV.con l) none, .val (.int .i64 t), .own 0 0 (O.length + 1) none 6, .val (.int .i64 (IntKind.i64.wrap (i + 1)))] (oneH (appV O (l.getD i.toNat EV.z))))
    else none
   else none
  else none
def Try.q6 (l : List Evt) (t : Int) (O : List Evt) (i : Int) : Option (AX × St) := bif inR i l.length then (bif (l.getD i.toNat EV.z).k == 24 then Try.p6 l t O i else some (.normal, Try.s6 l t O (IntKind.i64.wrap (i + 1)))) else none
theorem Try.r6 (l : List Evt) (t : Int) (O : List Evt) (i : Int) : Try.B6 (Try.s6 l t O i) =
    bif decide (i < (l.length : Int)) then
     bif inR i l.length then
      bif (l.getD i.toNat EV.z).th == t then Try.p6 l t O i
      else bif inR i l.length then
       bif (l.getD i.toNat EV.z).k == 11 then
        bif inR i l.length then
         bif (l.getD i.toNat EV.z).n == t then Try.p6 l t O i else Try.q6 l t O i
        else none
       else Try.q6 l t O i
      else none
     else none
    else some (.exit 0, stOf 126 [0, 5, 6] [.ro (EV.con l) none, .val (.int .i64 t), .own 0 0 O.length none 6] (oneH (EV.con O))) := by kernel_rfl
def Try.z6 (l : List Evt) (t : Int) : St := stOf 126 k6 [.ro (EV.con l) none, .val (.int .i64 t), .val (.slice none 0 0), .val (.int .i64 0)] ⟨0, []⟩
def Try.x6 (l : List Evt) (t : Int) (O : List Evt) : AX × St := (.exit 0, stOf 126 [0, 5, 6] [.ro (EV.con l) none, .val (.int .i64 t), .ro (EV.con O) none] ⟨1, []⟩)
def Try.L6 (l : List Evt) (t : Int) : LSum := atL (Try.z6 l t) (.grd (Nat.ble l.length 300) (.out (Try.x6 l t (l.filter (keepsE t)))))
theorem Try.e6 : EnvOk2 Try.prog Try.E6 := Try.envOk false (sumsOf Try.t6) _ (sumsOf_ok (show AllS Try.prog Try.t6 from ⟨Try.saneSum, Try.sum13, Try.sum15, Try.sum16, Try.sum33, trivial⟩))
theorem appV_w (O : List Evt) (x : Evt) : ConW (appV O x) (EV.con (O ++ [x])) := by
  refine ⟨rfl, by show (O ++ [x]).length = O.length + 1; simp, fun i hi j v' hv => ⟨v', ?_, AW.refl _⟩⟩
  have hi' : i < O.length + 1 := hi
  have hv' : (EV.row ((O ++ [x]).getD i EV.z))[j]? = some v' := hv
  show (bif i.blt O.length then EV.row (O.getD (0 + i) EV.z) else [EV.row x].getD (i - O.length) [])[j]? = some v'
  rcases Nat.lt_or_ge i O.length with q | q
  · rw [blt_t q, cond_true, Nat.zero_add]
    rw [List.getD_eq_getElem?_getD, List.getElem?_append_left q, ← List.getD_eq_getElem?_getD] at hv'
    exact hv'
  · have e : i = O.length := by omega
    subst e
    rw [blt_f (Nat.le_refl _), cond_false, Nat.sub_self]
    rw [List.getD_eq_getElem?_getD, List.getElem?_append_right (Nat.le_refl _), Nat.sub_self] at hv'
    exact hv'
theorem p6_t {l : List Evt} {O : List Evt} {k : Nat} (hk : k < l.length) (hO : O.length ≤ 300) (hk3 : k ≤ 300) (t : Int) : Try.p6 l t O k = some (.normal, stOf 126 k6 [.ro (EV.con l) none, .val (.int .i64 t), .own 0 0 (O.length + 1) none 6, .val (.int .i64 ((k + 1 : Nat) : Int))] (oneH (appV O (l.getD k EV.z)))) := by
  unfold Try.p6
  rw [inR_nat, decide_eq_true hk, Nat.zero_add, ble_t (Nat.le_refl _), ble_t (show (O.length + 1) * 40 ≤ most by rw [most_eq]; omega), ble_t (show O.length + 1 ≤ most by rw [most_eq]; omega), Int.toNat_natCast, wrapT k (by omega)]; rfl
theorem p6_w (l : List Evt) (t : Int) (O : List Evt) (x : Evt) (i : Int) : Weak (stOf 126 k6 [.ro (EV.con l) none, .val (.int .i64 t), .own 0 0 (O.length + 1) none 6, .val (.int .i64 i)] (oneH (appV O x))) (Try.s6 l t (O ++ [x]) i) := by
  unfold Try.s6
  rw [List.length_append, List.length_singleton]
  exact Weak.oneH rfl (appV_w O x)
theorem filter_take (l : List Evt) (f : Evt → Bool) (k : Nat) (h : k < l.length) : (l.take (k + 1)).filter f = (l.take k).filter f ++ (bif f (l.getD k EV.z) then [l.getD k EV.z] else []) := by
  rw [List.take_add_one, List.getElem?_eq_getElem h, List.filter_append, List.getD_eq_getElem?_getD, List.getElem?_eq_getElem h]
  show _ ++ [l[k]].filter f = _
  rw [List.filter_cons]
  show _ = (l.take k).filter f ++ (bif f l[k] then [l[k]] else [])
  cases f l[k] <;> rfl
theorem Try.l6 (l : List Evt) (t : Int) : ∀ s e s', s.h.ok → (Try.L6 l t s).run = some (e, s') → Triple Try.prog (.loop Try.b6) s e s' := by
  refine atL_grd (fun hp => ?_)
  rw [Nat.ble_eq] at hp
  refine loop_at Try.e6 (d := 5) (g := 6) (ls := lsumsOf []) (c := Try.b6) trivial k6 [0, 4, 5, 6] (T := Nat)
    (fun k => Try.s6 l t ((l.take k).filter (keepsE t)) k) (fun k => k ≤ l.length) (fun k => l.length - k) (fun _ => Try.x6 l t (l.filter (keepsE t))) _ _ 0 (Nat.zero_le _) ?_ (fun e s' h => Option.some.inj h) (fun k _ => oneH_ok _) ?_
  · have h1 := Weak.nil (s := Try.z6 l t) heap0_ok 6 (EV.con []) rfl rfl
    have e : nil1 6 (EV.con []) (Try.z6 l t) = Try.s6 l t [] 0 := by kernel_rfl
    rw [e] at h1
    exact h1
  · intro k hk
    replace hk : k ≤ l.length := hk
    have key := Try.r6 l t ((l.take k).filter (keepsE t)) k
    by_cases h : k < l.length
    · have hO : ((l.take k).filter (keepsE t)).length ≤ 300 := Nat.le_trans (List.length_filter_le _ _) (by rw [List.length_take]; omega)
      have hf := filter_take l (keepsE t) k h
      have hp6 := p6_t h hO (by omega) t
      rw [declt_nat, inR_nat, decide_eq_true h, Int.toNat_natCast, hp6] at key
      have hq6 : Try.q6 l t ((l.take k).filter (keepsE t)) k = bif (l.getD k EV.z).k == 24 then Try.p6 l t ((l.take k).filter (keepsE t)) k else some (.normal, Try.s6 l t ((l.take k).filter (keepsE t)) ((k + 1 : Nat) : Int)) := by
        unfold Try.q6
        rw [inR_nat, decide_eq_true h, Int.toNat_natCast, wrapT k (by omega)]; rfl
      rw [hq6, hp6] at key
      have yes : keepsE t (l.getD k EV.z) = true → Weak (stOf 126 k6 [.ro (EV.con l) none, .val (.int .i64 t), .own 0 0 (((l.take k).filter (keepsE t)).length + 1) none 6, .val (.int .i64 ((k + 1 : Nat) : Int))] (oneH (appV ((l.take k).filter (keepsE t)) (l.getD k EV.z)))) (Try.s6 l t ((l.take (k + 1)).filter (keepsE t)) ((k + 1 : Nat) : Int)) := fun hy => by
        rw [hf, hy]
        exact p6_w l t _ _ _
      refine .inl ⟨k + 1, ?_⟩
      have hk1 : k + 1 ≤ l.length := h
      cases h1 : (l.getD k EV.z).th == t with
      | true =>
        rw [h1] at key
        exact ⟨_, key, yes (by unfold keepsE; rw [h1]; rfl), hk1, by omega, rfl⟩
      | false =>
        rw [h1] at key
        cases h24 : (l.getD k EV.z).k == 24 with
        | true =>
          have hy := yes (by unfold keepsE; rw [h24]; simp)
          rw [h24] at key
          simp only [cond_true, cond_false, cond_sameB] at key
          exact ⟨_, key, hy, hk1, by omega, rfl⟩
        | false =>
          rw [h24] at key
          cases h11 : (l.getD k EV.z).k == 11 with
          | false =>
            rw [h11] at key
            refine ⟨_, key, ?_, hk1, by omega, rfl⟩
            rw [hf, show keepsE t (l.getD k EV.z) = false by unfold keepsE; rw [h1, h11, h24]; rfl, cond_false, List.append_nil]
            exact Weak.refl (oneH_ok _)
          | true =>
            rw [h11] at key
            cases hn : (l.getD k EV.z).n == t with
            | true =>
              rw [hn] at key
              exact ⟨_, key, yes (by unfold keepsE; rw [h11, hn]; simp), hk1, by omega, rfl⟩
            | false =>
              rw [hn] at key
              refine ⟨_, key, ?_, hk1, by omega, rfl⟩
              rw [hf, show keepsE t (l.getD k EV.z) = false by unfold keepsE; rw [h1, h11, h24, hn]; rfl, cond_false, List.append_nil]
              exact Weak.refl (oneH_ok _)
    · have e1 : k = l.length := by omega
      rw [declt_nat, decide_eq_false h] at key
      refine .inr ⟨_, key, ?_, by show (AX.exit 0) ≠ .normal; simp⟩
      rw [e1, List.take_length]
      exact Weak.fzSt (con := EV.con (l.filter (keepsE t))) (n := 1) (id := 0) (es := []) (oneH_ok _) rfl (.cons (.inl rfl) (.cons (.inl rfl) (.cons (.inr (.inl ⟨none, rfl, rfl⟩)) .nil)))
def okV (l : List Evt) {α : Type} (x : Option α) : Option α := bif EV.ok (EV.con l) && Nat.ble l.length 1000000 then x else none
def cmp6 (X Y : Nat → List UwE) (t : Nat) (x : Option (AV × Heap)) : Option (AV × Heap) := bif UE.ok (UE.con (X t)) && (UE.ok (UE.con (Y t)) && (UE.list (UE.con (X t))).length.ble 1000000) then (bif eqD UE ueq (UE.list (UE.con (X t))) (UE.list (UE.con (Y t))) then x else bF) else none
def zS (_ : Nat) : List UwE := []
def wl (l : List Evt) : Int := IntKind.i64.wrap ((l.length : Int) - 1)
def subV (l : List Evt) : Con := .tab 6 ((wl l).toNat - 0) (fun i => EV.row (l.getD (0 + i) EV.z))
def last6 (l : List Evt) (X Z : Nat → List UwE) : Option (AV × Heap) := bif inR (wl l) l.length then (bif skIs (skA Z) then sm X (stepG Z (l.getD (wl l).toNat EV.z)) bT bF else none) else none
def tail6 (l : List Evt) (X : Nat → List UwE) : Option (AV × Heap) := bif (l.length : Int) == 0 then sm X zS bT bF
  else bif decide (0 ≤ wl l) && decide (wl l ≤ (l.length : Int)) then (bif EV.ok (subV l) && Nat.ble ((wl l).toNat - 0) 1000000 then last6 l X (runE (EV.list (subV l))) else none) else none
theorem Try.w6 (l : List Evt) (th : Int) : ∀ t : Nat, t < 8 → rootS Try.E6 5 6 (lsumsOf [(6, Try.L6 l t)]) [.ro (EV.con l) none, .val (.int .u8 th)] =
    bif decide ((l.length : Int) > 300) then bT
    else bif isSt (Try.z6 l ((IntKind.i64.wrap th).tmod 8)) (Try.z6 l t) then
     (bif Nat.ble l.length 300 then okV l (okV (l.filter (keepsE t)) (cmp6 (rE l) (rE (l.filter (keepsE t))) t (tail6 l (rE l)))) else none) else none :=
  each8 (by kernel_rfl) (by kernel_rfl) (by kernel_rfl) (by kernel_rfl) (by kernel_rfl) (by kernel_rfl) (by kernel_rfl) (by kernel_rfl)
end Go.Ev
/- UnwindThreads, for every input: the law answers true, and its arguments read as they did. -/
namespace Go.Ev
open Go.Proofs
theorem rows_of {D : Type} (R : RowTy D) {c : Con} {L : List D} (hw : c.wd = R.wd) (hl : c.len = L.length) (hr : ∀ i, i < L.length → c.row i = R.row (L.getD i R.z)) : R.ok c = true ∧ R.list c = L := by
  constructor
  · unfold RowTy.ok
    rw [hw, Nat.beq_refl]
    have : R.all c = true := by
      unfold RowTy.all
      refine @decide_eq_true _ (Classical.propDecidable _) (fun i hi => ?_)
      rw [hr i (by omega)]; exact R.isr _
    rw [this]; rfl
  · unfold RowTy.list
    refine List.ext_getElem (by simp [hl]) (fun i h1 h2 => ?_)
    rw [List.getElem_map, List.getElem_range, hr i h2, R.back, List.getD_eq_getElem?_getD, List.getElem?_eq_getElem h2]; rfl
theorem okV_t {l : List Evt} (h : l.length ≤ 1000000) {α : Type} (x : Option α) : okV l x = x := by
  unfold okV; rw [EV.ok_con, ble_t h]; rfl
theorem subV_rows {l : List Evt} {n : Nat} (h : n ≤ l.length) : EV.ok (.tab 6 (n - 0) (fun i => EV.row (l.getD (0 + i) EV.z))) = true ∧ EV.list (.tab 6 (n - 0) (fun i => EV.row (l.getD (0 + i) EV.z))) = l.take n := by
  refine rows_of EV rfl (by show n - 0 = (l.take n).length; rw [List.length_take]; omega) (fun i hi => ?_)
  rw [List.length_take] at hi
  show EV.row (l.getD (0 + i) EV.z) = _
  rw [Nat.zero_add]
  simp only [List.getD_eq_getElem?_getD, List.getElem?_take, if_pos (show i < n by omega)]
theorem runE_len {l : List Evt} {n : Nat} (h : l.length ≤ n) (i : Nat) : (runE l i).length ≤ n := Nat.le_trans (runN_len l l.length i) h
theorem runE_last (l : List Evt) (n : Nat) (h : l.length = n + 1) : runE l = stepU (runE (l.take n)) (l.getD n EV.z) := by
  have e : runE (l.take n) = runN l n := by rw [runE_eq, runN_take l n (by omega)]
  rw [e]
  unfold runE
  rw [h]; rfl
theorem tail6_t {l : List Evt} (hl : l.length ≤ 300) : tail6 l (runE l) = bT := by
  have hX := fun (i : Nat) (_ : i < 8) => runE_len (l := l) (n := 1000000) (by omega) i
  unfold tail6
  cases hn : l.length with
  | zero =>
    have : l = [] := List.length_eq_zero_iff.1 hn
    subst this
    show sm (runE []) zS bT bF = bT
    rw [sm_t (fun i _ => Nat.zero_le _) (fun i _ => Nat.zero_le _), (same8_iff (runE []) zS).2 (fun i _ => rfl)]; rfl
  | succ n =>
    have hw : wl l = (n : Int) := by unfold wl; rw [hn, wrap64 _ (by omega) (by omega)]; omega
    rw [beqI_f (show ((n + 1 : Nat) : Int) ≠ 0 by omega), hw, decide_eq_true (show (0 : Int) ≤ n by omega), decide_eq_true (show (n : Int) ≤ ((n + 1 : Nat) : Int) by omega), Int.toNat_natCast]
    obtain ⟨a1, a2⟩ := subV_rows (l := l) (n := n) (by omega)
    have hs : subV l = .tab 6 (n - 0) (fun i => EV.row (l.getD (0 + i) EV.z)) := by unfold subV; rw [hw, Int.toNat_natCast]
    rw [hs, a1, a2, ble_t (show n - 0 ≤ 1000000 by omega)]
    show last6 l (runE l) (runE (l.take n)) = bT
    unfold last6
    have hZ : ∀ i, i < 8 → (runE (l.take n) i).length ≤ 1000000 := fun i _ => runE_len (by rw [List.length_take]; omega) i
    have hst : ∀ i, i < 8 → stepG (runE (l.take n)) (l.getD n EV.z) i = runE l i := fun i hi => by
      rw [runE_last l n hn]; exact stepU_get _ _ i hi
    rw [hw, hn, inR_nat, decide_eq_true (show n < n + 1 by omega), skIs_t hZ, Int.toNat_natCast, sm_t hX (fun i hi => by rw [hst i hi]; exact hX i hi), (same8_iff _ _).2 (fun i hi => (hst i hi).symm)]
    rfl
theorem Try.law6 (l : List Evt) (th : Int) (h0 : 0 ≤ th) (h1 : th ≤ 255) : Alone Try.prog 6 [.ro (EV.con l) none, .val (.int .u8 th)] (.val (.bool true)) ⟨0, []⟩ := by
  have q0 := Int.tmod_nonneg 8 h0
  have q1 := Int.tmod_lt_of_pos th (show (0 : Int) < 8 by omega)
  have e0 : (IntKind.i64.wrap th).tmod 8 = ((th.tmod 8).toNat : Int) := by rw [wrap64 _ (by omega) (by omega)]; omega
  have ht : (th.tmod 8).toNat < 8 := by omega
  generalize (th.tmod 8).toNat = t at e0 ht
  refine rootS_alone Try.e6 (d := 5) (g := 6) (ls := lsumsOf [(6, Try.L6 l t)]) (AllL.of1 (a := Try.b6) (by kernel_rfl) (LsOk.of rfl rfl (Try.l6 l t))) ((Try.w6 l th t ht).trans ?_)
  rw [e0, isSt_refl]
  cases hl : decide ((l.length : Int) > 300) with
  | true => rfl
  | false =>
    rw [decide_eq_false_iff_not] at hl
    have hl2 : l.length ≤ 300 := by omega
    have hf : (l.filter (keepsE t)).length ≤ 300 := Nat.le_trans (List.length_filter_le _ _) hl2
    rw [ble_t hl2, okV_t (by omega), okV_t (by omega), rE_eq, rE_eq, tail6_t hl2]
    unfold cmp6
    have hrow : runE l t = runE (l.filter (keepsE t)) t := by rw [runE_eq, runE_eq]; exact run_own t l rfl
    rw [UE.ok_con, UE.ok_con, UE.list_con, UE.list_con, ble_t (runE_len (n := 1000000) (by omega) t), hrow, (eqD_iff ueq_iff _ _).2 rfl]
    rfl
end Go.Ev
namespace Go.Proofs.Ytemblfgjamapbaa
open Go.Ev
theorem threads_contract (H : Type) (enc : TypeId × Value → H) (W : World) (base : Nat) (args : Array Value) (ds gs : List (DataW H)) (before : List MemPlace)
    (hval : ∀ (j : Nat) t v, Try.f6.params[j]? = some t → args[j]? = some v → Value.okWide Try.prog W .any base t v)
    (hW : DataW.Whole enc Try.prog Try.f6.params.toList Rows.unwindThreadsSpec.vars false W args.toList ds gs before) :
    Calls Try.prog 6 args W fun e W' => ∃ v, e = .returned v ∧ Rows.unwindThreadsSpec.post enc Try.prog Try.f6 false true false false W args v W' := by
  have hsh : shsOk Try.prog [.sl evSh, .int .u8] Try.f6.params.toList = true := by kernel_rfl
  obtain ⟨p, q, hA, hV, _⟩ := id hW
  obtain ⟨hwf, hlen⟩ := args_wf hsh hA
  obtain rfl : gs = [] := by cases gs with | nil => rfl | cons => cases hV
  match ds, hlen with
  | [d1, d2], _ =>
    simp only [wfDL, List.headD_cons, List.tail_cons] at hwf
    obtain ⟨w1, w2⟩ := u8_wf hwf.2.1
    have law := Try.law6 ((elemsD d1).map evD) (intD d2) w1 w2
    have e : argsA [.sl evSh, .int .u8] [d1, d2] = [.ro (EV.con ((elemsD d1).map evD)) none, .val (.int .u8 (intD d2))] := by
      rw [← argA_evs d1]; rfl
    rw [← e] at law
    exact law_calls (b := 4) Try.kidsG Try.fullG (by kernel_rfl) rfl Try.underlying4 (by kernel_rfl) rfl hsh hval hW law
theorem threads_lifted (os : Os) (started : os.Started) (H : Type) (enc : TypeId × Value → H) :
    ReturnsInHanded {} Try.checked os 6 .any (Rows.unwindThreadsSpec.pre6 enc Try.prog Try.f6 Rows.unwindThreadsRow.domain false) (Rows.unwindThreadsSpec.post enc Try.prog Try.f6 false true false false) := by
  refine returnsInHanded_of_change (C := Try.checked) Try.ownG started (by kernel_rfl) Try.func6
    (ChangeSpec.witness6 (enc := enc) (C := Try.checked) false ⟨#[], #[.slice none 0 0, .int .u8 0], []⟩ 8 (by kernel_rfl) (by kernel_rfl) (by kernel_rfl) (by kernel_rfl)) ?_
  intro W base args ds gs before hval hW _ _
  exact threads_contract H enc W base args ds gs before hval hW
theorem unwindThreads : Rows.UnwindThreadsSaid :=
  OpenClaim.holds_of_wide 6 Try.f6 rfl rfl rfl rfl rfl rfl rfl ⟨rfl, rfl, rfl, rfl, rfl⟩ rfl rfl rfl rfl rfl (by kernel_rfl) Try.func6 (by kernel_rfl)
    (of_decide_eq_true (by kernel_rfl)) (by unfold Func.isWrapper; first | (rw [if_pos (by decide +kernel)]; kernel_rfl) | (rw [if_neg (by decide +kernel)]; exact ⟨rfl, rfl⟩))
    (fun os started H enc _ => threads_lifted os started H enc)
end Go.Proofs.Ytemblfgjamapbaa
