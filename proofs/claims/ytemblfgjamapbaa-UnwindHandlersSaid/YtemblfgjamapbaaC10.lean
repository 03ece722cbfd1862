/- UnwindHandlers, for every input: the law answers true, and its arguments read as they did. -/
import Derived.Test.YtemblfgjamapbaaChecked
import Derived.Test.YtemblfgjamapbaaRows
import Derived.ProofKit
import Derived.JoinedCond
import Derived.Handed
import Derived.JoinedOf
import Derived.Laws.BitsLemmas
import Derived.Test.YtemblfgjamapbaaC9
set_option linter.unusedSectionVars false
set_option linter.unusedSimpArgs false
set_option linter.unusedVariables false
set_option maxRecDepth 100000
set_option maxRecDepth 1000000
noncomputable section
/- Stacks: a round of its loop. -/
namespace Go.Ev
open Go.Proofs
def sq1 : Code → Code
  | .seq a _ => a
  | _ => .skip
def sq2 : Code → Code
  | .seq _ b => b
  | _ => .skip
def blkIn : Code → Code
  | .block _ c => c
  | _ => .skip
def Try.t16s : List (Nat × AFun) := [(77, Try.A77), (79, Try.A79)]
def Try.t16o : List (Nat × AFun) := [(76, noA), (77, noA), (78, noA), (79, noA), (80, noA), (81, noA), (82, noA)]
def Try.E16 (o : Bool) : Env := Try.env0 false (sumsOf (bif o then Try.t16o else Try.t16s)) (keepF 16 [(5, [2, 4, 5, 15, 16, 17])])
def Try.b16 : Code := nthD .skip (loopsOf (bodyOf (Try.E16 false) 16)) 0
def Try.k16 : List Nat := [2, 4, 5, 15, 16, 17]
def Try.C16 (o : Bool) (c : Code) (K : KC (AX × St)) (s : St) : Option (AX × St) := codeS (Try.E16 o) (callF (Try.E16 o) 5) ((Try.E16 o).keep 16) (lsumsOf []) c K s
def Try.B16 (o : Bool) (s : St) : Option (AX × St) := Try.C16 o Try.b16 (outK Try.k16 [2, 4]) s
def Try.V16 (m : Nat) (l : List Evt) (i : Int) : List AV := [.ptr 0 0 0, .ptr 1 0 0, .mp m, .ro (EV.con l) none, .val (.int .i64 l.length), .val (.int .i64 i)]
def mapE (m : Nat) : Ent := ⟨m, 0, .map true kindsM⟩
def zE : Ent := ⟨0, 0, nilBlk⟩
def skRow (R : List AV) : Ent := ⟨1, 0, .cells (.rows false 1 (flatRows R))⟩
def H16 (S : Nat → List UwE) : Heap := ⟨11, mapE 10 :: skEb 2 S ++ [skRow (skCb 2 S), zE]⟩
def Try.s16 (l : List Evt) (S : Nat → List UwE) (i : Int) : St := stOf 30 Try.k16 (Try.V16 10 l i) (H16 S)
def Try.x16 (S : Nat → List UwE) : AX × St := (.exit 0, stOf 30 [2, 4] [.ptr 0 0 0, .ptr 1 0 0] ⟨10, skEb 2 S ++ [skRow (skCb 2 S), zE]⟩)
def Try.t16 (l : List Evt) (S : Nat → List UwE) (i : Int) (e : Evt) : St := stOf 30 [2, 4, 5, 7, 15, 16, 17, 18, 19, 20] [.ptr 0 0 0, .ptr 1 0 0, .mp 10, .ptr 11 0 0, .ro (EV.con l) none, .val (.int .i64 l.length), .val (.int .i64 i), .val (.bool true), .rptr (EV.con l) i.toNat 0, evA e]
  ⟨12, ⟨11, 1, .cells (.rows true 6 [evL e])⟩ :: mapE 10 :: skEb 2 S ++ [skRow (skCb 2 S), zE]⟩
def Try.c7 : Code := sq2 (blkIn (sq1 (sq2 (sq2 Try.b16))))
def Try.c8 : Code := sq2 (sq2 (sq2 Try.b16))
def Try.K8 (o : Bool) : KC (AX × St) := thenK (fun s' => Try.C16 o Try.c8 (outK Try.k16 [2, 4]) s') (outK Try.k16 [2, 4])
def Try.F16 (o : Bool) (l : List Evt) (S : Nat → List UwE) (i : Int) (e : Evt) : Option (AX × St) := Try.C16 o Try.c7 (blockK 1 (Try.K8 o)) (Try.t16 l S i e)
def Try.s5t (l : List Evt) (S : Nat → List UwE) (i : Int) (b : Bool) : St := stOf 30 [2, 4, 5, 15, 16, 17, 18] [.ptr 0 0 0, .ptr 1 0 0, .mp 10, .ro (EV.con l) none, .val (.int .i64 l.length), .val (.int .i64 i), .val (.bool b)] (H16 S)
def Try.R5 : Code := sq1 Try.b16
def Try.cif : Code := sq1 (sq2 Try.b16)
def Try.R6 : Code := sq1 (blkIn (sq1 (sq2 (sq2 Try.b16))))
theorem Try.b16_eq : Try.b16 = .seq Try.R5 (.seq Try.cif (.seq (.block 1 (.seq Try.R6 Try.c7)) Try.c8)) := by kernel_rfl
theorem Try.r16_5 (o : Bool) (l : List Evt) (S : Nat → List UwE) (i : Int) (K : KC (AX × St)) : Try.C16 o Try.R5 K (Try.s16 l S i) = bif decide (i < (l.length : Int)) then K .normal (Try.s5t l S i true) else K .normal (Try.s5t l S i false) := by kernel_rfl
theorem Try.r16_i (o : Bool) (l : List Evt) (S : Nat → List UwE) (i : Int) (K : KC (AX × St)) : Try.C16 o Try.cif K (Try.s5t l S i true) = K .normal (Try.s5t l S i true) := by kernel_rfl
theorem Try.r16_j (o : Bool) (l : List Evt) (S : Nat → List UwE) (i : Int) (K : KC (AX × St)) : Try.C16 o Try.cif K (Try.s5t l S i false) = K (.exit 0) (Try.s5t l S i false) := by kernel_rfl
theorem Try.r16_6 (o : Bool) (l : List Evt) (S : Nat → List UwE) (i : Int) (K : KC (AX × St)) : Try.C16 o Try.R6 K (Try.s5t l S i true) = bif inR i l.length then K .normal (Try.t16 l S i (l.getD i.toNat EV.z)) else none := by kernel_rfl
theorem Try.r16_o (l : List Evt) (S : Nat → List UwE) (i : Int) : outK Try.k16 [2, 4] (.exit 0) (Try.s5t l S i false) = some (Try.x16 S) := by kernel_rfl
theorem thenK_n {ρ : Type} (J : St → Option ρ) (K : KC ρ) (s : St) : thenK J K .normal s = J s := rfl
theorem thenK_e {ρ : Type} (J : St → Option ρ) (K : KC ρ) (i : Nat) (s : St) : thenK J K (.exit i) s = K (.exit i) s := rfl
theorem Try.r16 (o : Bool) (l : List Evt) (S : Nat → List UwE) (i : Int) : Try.B16 o (Try.s16 l S i) =
    bif decide (i < (l.length : Int)) then (bif inR i l.length then Try.F16 o l S i (l.getD i.toNat EV.z) else none) else some (Try.x16 S) := by
  unfold Try.B16
  rw [Try.b16_eq]
  show Try.C16 o Try.R5 (thenK (fun s' => Try.C16 o (.seq Try.cif (.seq (.block 1 (.seq Try.R6 Try.c7)) Try.c8)) (outK Try.k16 [2, 4]) s') (outK Try.k16 [2, 4])) (Try.s16 l S i) = _
  rw [Try.r16_5]
  cases decide (i < (l.length : Int)) with
  | true =>
    rw [cond_true, cond_true, thenK_n]
    show Try.C16 o Try.cif (thenK (fun s' => Try.C16 o (.seq (.block 1 (.seq Try.R6 Try.c7)) Try.c8) (outK Try.k16 [2, 4]) s') (outK Try.k16 [2, 4])) (Try.s5t l S i true) = _
    rw [Try.r16_i]
    show Try.C16 o Try.R6 (thenK (fun s' => Try.C16 o Try.c7 (blockK 1 (Try.K8 o)) s') (blockK 1 (Try.K8 o))) (Try.s5t l S i true) = _
    rw [Try.r16_6, thenK_n]
    unfold Try.F16
    rfl
  | false =>
    rw [cond_false, cond_false, thenK_n]
    show Try.C16 o Try.cif (thenK (fun s' => Try.C16 o (.seq (.block 1 (.seq Try.R6 Try.c7)) Try.c8) (outK Try.k16 [2, 4]) s') (outK Try.k16 [2, 4])) (Try.s5t l S i false) = _
    rw [Try.r16_j, thenK_e]
    exact Try.r16_o l S i
def n16 (l : List Evt) (i : Int) (C : Nat → Con) (N : Nat → Nat) : Option (AX × St) := some (.normal, stOf 30 Try.k16 (Try.V16 10 l (IntKind.i64.wrap (i + 1))) ⟨11, mapE 10 :: skEn 2 C ++ [skRow (l8 (skN 2 N)), zE]⟩)
def cS (S : Nat → List UwE) (i : Nat) : Con := UE.con (S i)
def q16 (l : List Evt) (i : Int) (S : Nat → List UwE) : Option (AX × St) := some (.normal, Try.s16 l S (IntKind.i64.wrap (i + 1)))
def appC0 (S : Nat → List UwE) (x : UwE) (t i : Nat) : Con := bif Nat.beq i t then .tab 5 ((S t).length + 1) (fun i => bif i.blt (S t).length then UE.row ((S t).getD (0 + i) UE.z) else [UE.row x].getD (i - (S t).length) []) else UE.con (S i)
def appR0 {α : Type} (S : Nat → List UwE) (t : Nat) (x : Option α) : Option α := bif (0 + (S t).length).ble (S t).length then (bif (((S t).length + 1) * 32).ble most && ((S t).length + 1).ble most then x else none) else none
def cut0 (f : List UwE → Int → Nat) (S : Nat → List UwE) (a : Int) (t : Nat) : Nat → List UwE := setS (rowAt (H9 S)) (Int.toNat t) ((rowAt (H9 S) (Int.toNat t)).take (f (rowAt (H9 S) (Int.toNat t)) a))
def hx16 (S : Nat → List UwE) (t : Nat) (R : Nat → AV) : List Ent := mapE 9 :: skEx 2 t (cS S) ++ [skRow (l8 R), zE]
def hole16 (l : List Evt) (i : Int) (S : Nat → List UwE) (t : Nat) : Option (AX × St) := some (.normal, stOf 30 Try.k16 (Try.V16 9 l (IntKind.i64.wrap (i + 1))) ⟨10, hx16 S t (skX 2 t (lenS S))⟩)
theorem Try.f16c (l : List Evt) (S : Nat → List UwE) (i : Int) (pc a b n : Int) : ∀ t : Nat, t < 8 → Try.F16 false l S i ⟨6, t, pc, a, b, n⟩ = appR0 S t (n16 l i (appC0 S (1, pc, a, b, 0) t) (appN S t)) :=
  each8 (by kernel_rfl) (by kernel_rfl) (by kernel_rfl) (by kernel_rfl) (by kernel_rfl) (by kernel_rfl) (by kernel_rfl) (by kernel_rfl)
theorem Try.f16s (l : List Evt) (S : Nat → List UwE) (i : Int) (pc a b n : Int) : ∀ t : Nat, t < 8 → Try.F16 false l S i ⟨9, t, pc, a, b, n⟩ = bif a != 0 then appR0 S t (n16 l i (appC0 S (2, pc, a, pc, n) t) (appN S t)) else q16 l i S :=
  each8 (by kernel_rfl) (by kernel_rfl) (by kernel_rfl) (by kernel_rfl) (by kernel_rfl) (by kernel_rfl) (by kernel_rfl) (by kernel_rfl)
theorem Try.f16r (l : List Evt) (S : Nat → List UwE) (i : Int) (pc a b n : Int) : ∀ t : Nat, t < 8 → Try.F16 false l S i ⟨7, t, pc, a, b, n⟩ = bif isH (H9 S) (H9 (rowAt (H9 S))) then (bif thrd t && Nat.ble (rowAt (H9 S) (Int.toNat t)).length 1000000 then q16 l i (cut0 retN S a t) else none) else none :=
  each8 (by kernel_rfl) (by kernel_rfl) (by kernel_rfl) (by kernel_rfl) (by kernel_rfl) (by kernel_rfl) (by kernel_rfl) (by kernel_rfl)
theorem Try.f16b (l : List Evt) (S : Nat → List UwE) (i : Int) (pc a b n : Int) : ∀ t : Nat, t < 8 → Try.F16 false l S i ⟨10, t, pc, a, b, n⟩ = bif isH (H9 S) (H9 (rowAt (H9 S))) then (bif thrd t && Nat.ble (rowAt (H9 S) (Int.toNat t)).length 1000000 then q16 l i (cut0 (fun l _ => backN' l) S a t) else none) else none :=
  each8 (by kernel_rfl) (by kernel_rfl) (by kernel_rfl) (by kernel_rfl) (by kernel_rfl) (by kernel_rfl) (by kernel_rfl) (by kernel_rfl)
theorem Try.f16e (l : List Evt) (S : Nat → List UwE) (i : Int) (pc a b n : Int) : ∀ t : Nat, t < 8 → Try.F16 false l S i ⟨12, t, pc, a, b, n⟩ = hole16 l i S t :=
  each8 (by kernel_rfl) (by kernel_rfl) (by kernel_rfl) (by kernel_rfl) (by kernel_rfl) (by kernel_rfl) (by kernel_rfl) (by kernel_rfl)
theorem Try.f16n (l : List Evt) (S : Nat → List UwE) (i : Int) (th pc a b : Int) : ∀ t : Nat, t < 8 → Try.F16 false l S i ⟨11, th, pc, a, b, t⟩ = thx th (hole16 l i S t) (q16 l i S) :=
  each8 (by kernel_rfl) (by kernel_rfl) (by kernel_rfl) (by kernel_rfl) (by kernel_rfl) (by kernel_rfl) (by kernel_rfl) (by kernel_rfl)
theorem Try.f16u (l : List Evt) (S : Nat → List UwE) (i : Int) (th pc a b : Int) (m : Nat) : Try.F16 false l S i ⟨11, th, pc, a, b, .negSucc m⟩ = thx th (q16 l i S) (q16 l i S) := by kernel_rfl
theorem Try.f16v (l : List Evt) (S : Nat → List UwE) (i : Int) (th pc a b : Int) (m : Nat) : Try.F16 false l S i ⟨11, th, pc, a, b, .ofNat (m + 8)⟩ = thx th (q16 l i S) (q16 l i S) := by kernel_rfl
theorem Try.f16o (l : List Evt) (S : Nat → List UwE) (i : Int) (k th pc a b n : Int) : Try.F16 true l S i ⟨k, th, pc, a, b, n⟩ = kx k (thx th none (q16 l i S)) (q16 l i S) := by kernel_rfl
end Go.Ev
/- Stacks, as a summary. -/
namespace Go.Ev
open Go.Proofs
noncomputable def orK {ρ : Type} (X Y : KC ρ → St → Option ρ) (K : KC ρ) (s : St) : Option ρ := match X K s with
  | some r => some r
  | none => Y K s
theorem COk.or {P : Program} {root : Md} {round : Bool} {c : Code} {ρ : Type} {X Y : KC ρ → St → Option ρ} (hX : COk P root round c X) (hY : COk P root round c Y) : COk P root round c (orK X Y) := by
  intro K s r hk hK
  unfold orK at hK
  split at hK
  · rename_i r' h
    injection hK with hK
    subst hK
    exact hX K s r' hk h
  · exact hY K s r hk hK
theorem nilFlat {n wd : Nat} {f f' : Nat → AV} (h : ∀ i, NilV n wd (f i) (f' i)) (i : Nat) : NilL n wd ((flatRows (l8 f)).getD i []) ((flatRows (l8 f')).getD i []) := by
  rcases i with _ | _ | _ | _ | _ | _ | _ | _ | i
  · exact .cons (h 0) .nil
  · exact .cons (h 1) .nil
  · exact .cons (h 2) .nil
  · exact .cons (h 3) .nil
  · exact .cons (h 4) .nil
  · exact .cons (h 5) .nil
  · exact .cons (h 6) .nil
  · exact .cons (h 7) .nil
  · show NilL n wd (([] : List (List AV)).getD i []) (([] : List (List AV)).getD i [])
    simp only [List.getD_eq_getElem?_getD, List.getElem?_nil, Option.getD_none]
    exact .nil
def skY (b t : Nat) (N : Nat → Nat) (i : Nat) : AV := bif Nat.beq i t then ow 10 0 else ow (b + (bif Nat.blt i t then i else i - 1)) (N i)
def eE (id : Nat) : Ent := ⟨id, 0, .cells (UE.con [])⟩
def entsN : Nat → List Ent
  | 0 => []
  | m + 1 => eE (3 + m) :: entsN m
def rowN (m i : Nat) : AV := bif Nat.blt i m then ow (3 + i) 0 else .val (.slice none 0 0)
def rowE (p : Bool) (R : List AV) : Ent := ⟨1, 0, .cells (.rows p 1 (flatRows R))⟩
def Try.n16s (p : Bool) (l : List Evt) (i : Int) (m : Nat) : St := stOf 30 Try.k16 (Try.V16 2 l i) ⟨3 + m, entsN m ++ mapE 2 :: [rowE p (l8 (rowN m)), zE]⟩
theorem hx16_ok (S : Nat → List UwE) (R : Nat → AV) : ∀ t, t < 8 → (⟨10, hx16 S t R⟩ : Heap).ok :=
  each8 (heap_ok [9, 8, 7, 6, 5, 4, 3, 2, 1, 0] rfl (by decide) (by decide)) (heap_ok [9, 8, 7, 6, 5, 4, 3, 2, 1, 0] rfl (by decide) (by decide)) (heap_ok [9, 8, 7, 6, 5, 4, 3, 2, 1, 0] rfl (by decide) (by decide)) (heap_ok [9, 8, 7, 6, 5, 4, 3, 2, 1, 0] rfl (by decide) (by decide)) (heap_ok [9, 8, 7, 6, 5, 4, 3, 2, 1, 0] rfl (by decide) (by decide)) (heap_ok [9, 8, 7, 6, 5, 4, 3, 2, 1, 0] rfl (by decide) (by decide)) (heap_ok [9, 8, 7, 6, 5, 4, 3, 2, 1, 0] rfl (by decide) (by decide)) (heap_ok [9, 8, 7, 6, 5, 4, 3, 2, 1, 0] rfl (by decide) (by decide))
theorem H16_ok (C : Nat → Con) (R : List AV) : (⟨11, mapE 10 :: skEn 2 C ++ [skRow R, zE]⟩ : Heap).ok := heap_ok [10, 9, 8, 7, 6, 5, 4, 3, 2, 1, 0] rfl (by decide) (by decide)
theorem hole_canon (l : List Evt) (i : Int) (S : Nat → List UwE) : ∀ t, t < 8 → canon (some Try.k16) (stOf 30 Try.k16 (Try.V16 9 l i) ⟨11, eE 10 :: hx16 S t (skY 2 t (lenS S))⟩) =
    stOf 30 Try.k16 (Try.V16 10 l i) ⟨11, mapE 10 :: skEn 2 (fun i => bif Nat.beq i t then UE.con [] else UE.con (S i)) ++ [skRow (l8 (skN 2 (fun i => bif Nat.beq i t then 0 else (S i).length))), zE]⟩ :=
  each8 (by kernel_rfl) (by kernel_rfl) (by kernel_rfl) (by kernel_rfl) (by kernel_rfl) (by kernel_rfl) (by kernel_rfl) (by kernel_rfl)
theorem hole_weak (l : List Evt) (i : Int) (S : Nat → List UwE) (t : Nat) (ht : t < 8) : Weak (stOf 30 Try.k16 (Try.V16 9 l i) ⟨10, hx16 S t (skX 2 t (lenS S))⟩) (Try.s16 l (setS S t []) i) := by
  have h1 : WeakP 0 (stOf 30 Try.k16 (Try.V16 9 l i) ⟨10, hx16 S t (skX 2 t (lenS S))⟩) (stOf 30 Try.k16 (Try.V16 9 l i) ⟨11, eE 10 :: hx16 S t (skY 2 t (lenS S))⟩) := by
    refine WeakP.nilRows (mapE 9 :: skEx 2 t (cS S)) [zE] (con := UE.con []) (hx16_ok S _ t ht) rfl (by rw [flatRows_len, flatRows_len]; rfl) (nilFlat (fun i => ?_))
    unfold skX skY
    cases Nat.beq i t
    · exact .inl rfl
    · exact .inr ⟨rfl, rfl⟩
  have h2 := Weak.canon h1.1 Try.k16
  rw [hole_canon l i S t ht] at h2
  have e1 : (fun i => bif Nat.beq i t then UE.con [] else UE.con (S i)) = cS (setS S t []) := funext fun i => by unfold cS setS; cases Nat.beq i t <;> rfl
  have e2 : (fun i => bif Nat.beq i t then 0 else (S i).length) = lenS (setS S t []) := funext fun i => by unfold lenS setS; cases Nat.beq i t <;> rfl
  rw [e1, e2] at h2
  exact (Weak.ofP h1).trans h2
theorem n16s_ok (p : Bool) (R : List AV) : ∀ m, m ≤ 8 → (⟨3 + m, entsN m ++ mapE 2 :: [rowE p R, zE]⟩ : Heap).ok := by
  intro m hm
  have h : m < 9 := by omega
  rcases m with _ | _ | _ | _ | _ | _ | _ | _ | _ | m
  · exact heap_ok [2, 1, 0] rfl (by decide) (by decide)
  · exact heap_ok [3, 2, 1, 0] rfl (by decide) (by decide)
  · exact heap_ok [4, 3, 2, 1, 0] rfl (by decide) (by decide)
  · exact heap_ok [5, 4, 3, 2, 1, 0] rfl (by decide) (by decide)
  · exact heap_ok [6, 5, 4, 3, 2, 1, 0] rfl (by decide) (by decide)
  · exact heap_ok [7, 6, 5, 4, 3, 2, 1, 0] rfl (by decide) (by decide)
  · exact heap_ok [8, 7, 6, 5, 4, 3, 2, 1, 0] rfl (by decide) (by decide)
  · exact heap_ok [9, 8, 7, 6, 5, 4, 3, 2, 1, 0] rfl (by decide) (by decide)
  · exact heap_ok [10, 9, 8, 7, 6, 5, 4, 3, 2, 1, 0] rfl (by decide) (by decide)
  · omega
theorem nil_step (p : Bool) (l : List Evt) (i : Int) (m : Nat) (hm : m < 8) : Weak (Try.n16s p l i m) (Try.n16s false l i (m + 1)) := by
  have h1 : WeakP 0 (Try.n16s p l i m) (stOf 30 Try.k16 (Try.V16 2 l i) ⟨3 + m + 1, eE (3 + m) :: ((entsN m ++ [mapE 2]) ++ ⟨1, 0, .cells (.rows false 1 (flatRows (l8 (rowN (m + 1)))))⟩ :: [zE])⟩) := by
    have e : entsN m ++ mapE 2 :: [rowE p (l8 (rowN m)), zE] = (entsN m ++ [mapE 2]) ++ ⟨1, 0, .cells (.rows p 1 (flatRows (l8 (rowN m))))⟩ :: [zE] := by
      rw [List.append_assoc]; rfl
    unfold Try.n16s
    rw [e]
    refine WeakP.nilRows (entsN m ++ [mapE 2]) [zE] (con := UE.con []) (by rw [← e]; exact n16s_ok p _ m (by omega)) rfl (by rw [flatRows_len, flatRows_len]; rfl) (nilFlat (fun j => ?_))
    unfold rowN
    rcases Nat.lt_or_ge j m with q | q
    · rw [blt_t q, blt_t (show j < m + 1 by omega)]; exact .inl rfl
    · rw [blt_f q]
      rcases Nat.lt_or_ge j (m + 1) with q2 | q2
      · have : j = m := by omega
        subst this
        rw [blt_t q2]; exact .inr ⟨rfl, rfl⟩
      · rw [blt_f q2]; exact .inl rfl
  have e2 : eE (3 + m) :: ((entsN m ++ [mapE 2]) ++ ⟨1, 0, .cells (.rows false 1 (flatRows (l8 (rowN (m + 1)))))⟩ :: [zE]) = entsN (m + 1) ++ mapE 2 :: [rowE false (l8 (rowN (m + 1))), zE] := by
    rw [List.append_assoc]; rfl
  rw [e2] at h1
  exact Weak.ofP h1
theorem nil_all (p : Bool) (l : List Evt) (i : Int) : ∀ m, m < 8 → Weak (Try.n16s p l i 0) (Try.n16s false l i (m + 1))
  | 0, _ => nil_step p l i 0 (by omega)
  | m + 1, h => (nil_all p l i m (by omega)).trans (nil_step false l i (m + 1) h)
theorem nil_canon (l : List Evt) (i : Int) : canon (some Try.k16) (Try.n16s false l i 8) = Try.s16 l (fun _ => []) i := by kernel_rfl
theorem nil_weak (p : Bool) (l : List Evt) (i : Int) : Weak (Try.n16s p l i 0) (Try.s16 l (fun _ => []) i) := by
  have h := nil_all p l i 7 (by omega)
  have h2 := Weak.canon h.1 Try.k16
  rw [nil_canon] at h2
  exact h.trans h2
theorem Try.f16z (l : List Evt) (S : Nat → List UwE) (i : Int) (th pc a b n : Int) : Try.F16 false l S i ⟨24, th, pc, a, b, n⟩ = thx th (some (.normal, Try.n16s false l (IntKind.i64.wrap (i + 1)) 0)) (q16 l i S) := by kernel_rfl
end Go.Ev
/- Stacks, as a summary: its loop. -/
namespace Go.Ev
open Go.Proofs
theorem s16_ok (l : List Evt) (S : Nat → List UwE) (i : Int) : (Try.s16 l S i).h.ok := H16_ok (cS S) _
theorem q16_refl (l : List Evt) (S : Nat → List UwE) (i : Int) : Weak (Try.s16 l S i) (Try.s16 l S i) := Weak.refl (s16_ok l S i)
theorem H9_rows (S : Nat → List UwE) : H9 S = H9 (rowAt (H9 S)) ∧ ∀ t, t < 8 → rowAt (H9 S) t = S t := by
  have h : ∀ t, t < 8 → rowAt (H9 S) t = S t := each8 (UE.list_con _) (UE.list_con _) (UE.list_con _) (UE.list_con _) (UE.list_con _) (UE.list_con _) (UE.list_con _) (UE.list_con _)
  exact ⟨H9_congr (fun t ht => (h t ht).symm), h⟩
theorem s16_congr {S T : Nat → List UwE} (h : ∀ i, i < 8 → S i = T i) (l : List Evt) (i : Int) : Try.s16 l S i = Try.s16 l T i := by
  obtain ⟨c1, c2, _⟩ := skEb_congr h 2
  unfold Try.s16 H16
  rw [c1, c2]
theorem cut0_eq (f : List UwE → Int → Nat) (S : Nat → List UwE) (a : Int) (t : Nat) (ht : t < 8) : ∀ i, i < 8 → cut0 f S a t i = setS S t ((S t).take (f (S t) a)) i := by
  intro i hi
  unfold cut0
  have e : Int.toNat (t : Int) = t := Int.toNat_natCast t
  rw [e, (H9_rows S).2 t ht]
  unfold setS
  rw [(H9_rows S).2 i hi]
theorem appC0_w (S : Nat → List UwE) (x : UwE) (t i : Nat) : ConW (appC0 S x t i) (cS (setS S t (S t ++ [x])) i) := by
  have h := appC_w S x t i
  unfold appC at h
  rw [rl_eq, rlC_eq] at h
  exact h
theorem app16_w (l : List Evt) (S : Nat → List UwE) (x : UwE) (t : Nat) (i : Int) : Weak (stOf 30 Try.k16 (Try.V16 10 l i) ⟨11, mapE 10 :: skEn 2 (appC0 S x t) ++ [skRow (l8 (skN 2 (appN S t))), zE]⟩) (Try.s16 l (setS S t (S t ++ [x])) i) := by
  have e : appN S t = lenS (setS S t (S t ++ [x])) := funext fun i => by unfold appN lenS setS; cases Nat.beq i t <;> simp
  rw [e]
  refine Weak.heap (H16_ok _ _) (.same _ (skEn_w (fun i => ?_) (appC0_w S x t) (EsW.refl _)))
  unfold appC0
  cases Nat.beq i t <;> rfl
theorem appR0_t {α : Type} {S : Nat → List UwE} (h : ∀ i, (S i).length ≤ 1000000) (t : Nat) (x : Option α) : appR0 S t x = x := by
  have := h t
  unfold appR0
  rw [Nat.zero_add, ble_t (Nat.le_refl _), ble_t (show ((S t).length + 1) * 32 ≤ most by rw [most_eq]; omega), ble_t (show (S t).length + 1 ≤ most by rw [most_eq]; omega)]; rfl
theorem Try.e16 (o : Bool) : EnvOk2 Try.prog (Try.E16 o) := by
  cases o
  · exact Try.envOk false (sumsOf Try.t16s) _ (sumsOf_ok (show AllS Try.prog Try.t16s from ⟨Try.sum77, Try.sum79, trivial⟩))
  · exact Try.envOk false (sumsOf Try.t16o) _ (sumsOf_ok (show AllS Try.prog Try.t16o from ⟨noA_sum Try.fnOk76 rfl, noA_sum Try.fnOk77 rfl, noA_sum Try.fnOk78 rfl, noA_sum Try.fnOk79 rfl, noA_sum Try.fnOk80 rfl, noA_sum Try.fnOk81 rfl, noA_sum Try.fnOk82 rfl, trivial⟩))
theorem F16_step (l : List Evt) (S : Nat → List UwE) (hS : ∀ i, (S i).length ≤ 1000000) (i : Int) (e : Evt) :
    (∃ s1, Try.F16 true l S i e = some (.normal, s1) ∧ Weak s1 (Try.s16 l (stepU S e) (IntKind.i64.wrap (i + 1)))) ∨ (Try.F16 true l S i e = none ∧ ∃ s1, Try.F16 false l S i e = some (.normal, s1) ∧ Weak s1 (Try.s16 l (stepU S e) (IntKind.i64.wrap (i + 1)))) := by
  obtain ⟨k, th, pc, a, b, n⟩ := e
  have ho := Try.f16o l S i k th pc a b n
  cases hth : thrd th with
  | false =>
    have e1 : stepU S ⟨k, th, pc, a, b, n⟩ = S := by unfold stepU; simp only [hth]; rfl
    rw [thx_f hth] at ho
    have e2 : kx k (q16 l i S) (q16 l i S) = q16 l i S := by unfold kx; simp only [cond_sameB]
    rw [e2] at ho
    rw [e1]
    exact .inl ⟨_, ho, q16_refl _ _ _⟩
  | true =>
    obtain ⟨t, ht, rfl⟩ := thrd_cast hth
    have et : Int.toNat (t : Int) = t := Int.toNat_natCast t
    rw [thx_t hth] at ho
    obtain ⟨hh, hr⟩ := H9_rows S
    unfold stepU
    simp only [hth, cond_true, et]
    rcases kx_cases k with rfl | rfl | rfl | rfl | rfl | rfl | rfl | hk
    · refine .inr ⟨ho, _, (Try.f16c l S i pc a b n t ht).trans (appR0_t hS t _), app16_w l S _ t _⟩
    · have key := Try.f16r l S i pc a b n t ht
      rw [← hh, isH_refl, hth, et, hr t ht, ble_t (hS t)] at key
      unfold q16 at key
      rw [s16_congr (cut0_eq retN S a t ht)] at key
      exact .inr ⟨ho, _, key, q16_refl _ _ _⟩
    · have key := Try.f16s l S i pc a b n t ht
      rw [appR0_t hS] at key
      refine .inr ⟨ho, ?_⟩
      show ∃ s1, _ ∧ Weak s1 (Try.s16 l (bif a != 0 then _ else S) _)
      cases ha : a != 0 with
      | true => rw [ha] at key; exact ⟨_, key, app16_w l S _ t _⟩
      | false => rw [ha] at key; exact ⟨_, key, q16_refl _ _ _⟩
    · have key := Try.f16b l S i pc a b n t ht
      rw [← hh, isH_refl, hth, et, hr t ht, ble_t (hS t)] at key
      unfold q16 at key
      rw [s16_congr (cut0_eq (fun l _ => backN' l) S a t ht)] at key
      exact .inr ⟨ho, _, key, q16_refl _ _ _⟩
    · refine .inr ⟨ho, ?_⟩
      show ∃ s1, _ ∧ Weak s1 (Try.s16 l (bif thrd n then setS S n.toNat [] else S) _)
      cases hn : thrd n with
      | true =>
        obtain ⟨m, hm, rfl⟩ := thrd_cast hn
        have key := Try.f16n l S i t pc a b m hm
        rw [thx_t hth] at key
        rw [Int.toNat_natCast]
        exact ⟨_, key, hole_weak l _ S m hm⟩
      | false =>
        rcases thrd_out hn with ⟨m, rfl⟩ | ⟨m, rfl⟩
        · have key := Try.f16u l S i t pc a b m
          rw [thx_t hth] at key
          exact ⟨_, key, q16_refl _ _ _⟩
        · have key := Try.f16v l S i t pc a b m
          rw [thx_t hth] at key
          exact ⟨_, key, q16_refl _ _ _⟩
    · exact .inr ⟨ho, _, Try.f16e l S i pc a b n t ht, hole_weak l _ S t ht⟩
    · have key := Try.f16z l S i t pc a b n
      rw [thx_t hth] at key
      exact .inr ⟨ho, _, key, nil_weak false l _⟩
    · obtain ⟨k1, k2, k3, k4, k5, k6, k7⟩ := hk
      unfold kx at ho
      rw [beqI_f k1, beqI_f k2, beqI_f k3, beqI_f k4, beqI_f k5, beqI_f k6, beqI_f k7] at ho ⊢
      exact .inl ⟨_, ho, q16_refl _ _ _⟩
theorem orK_some {ρ : Type} {X Y : KC ρ → St → Option ρ} {K : KC ρ} {s : St} {r : ρ} (h : X K s = some r) : orK X Y K s = some r := by unfold orK; rw [h]
theorem orK_none {ρ : Type} {X Y : KC ρ → St → Option ρ} {K : KC ρ} {s : St} {r : ρ} (h : X K s = none) (h2 : Y K s = some r) : orK X Y K s = some r := by unfold orK; rw [h]; exact h2
def Try.L16 (l : List Evt) : LSum := atL (Try.n16s true l 0 0) (.grd (Nat.ble l.length 1000000) (.out (Try.x16 (runE l))))
theorem x16_ok (S : Nat → List UwE) : (Try.x16 S).2.h.ok := heap_ok [9, 8, 7, 6, 5, 4, 3, 2, 1, 0] rfl (by decide) (by decide)
theorem Try.l16 (l : List Evt) : ∀ s e s', s.h.ok → (Try.L16 l s).run = some (e, s') → Triple Try.prog (.loop Try.b16) s e s' := by
  intro s e s' hk hL
  obtain ⟨rfl, hA⟩ := atL_some hL
  rw [Ans.run_grd] at hA
  cases hd : Nat.ble l.length 1000000 with
  | false => rw [hd] at hA; cases hA
  | true =>
  rw [hd, cond_true] at hA
  have hA := Option.some.inj hA
  rw [Nat.ble_eq] at hd
  have hX := fun o => codeS_sound (ρ := AX × St) (callF_sound (Try.e16 o) 5) (Try.e16 o).ok (Try.e16 o).mix ((Try.E16 o).keep 16) (lsumsOf []) Try.b16 trivial
  have hO : COk Try.prog ⟨true, 0⟩ false Try.b16 (orK (fun K s => Try.C16 true Try.b16 K s) (fun K s => Try.C16 false Try.b16 K s)) := COk.or (hX true) (hX false)
  have key := loop_tripleW hO Try.k16 [2, 4] (T := Nat) (fun k => Try.s16 l (runN l k) k) (fun k => k ≤ l.length) (fun k => l.length - k) (fun _ => Try.x16 (runE l)) (fun k _ => s16_ok l _ _) (fun k hk => by
    replace hk : k ≤ l.length := hk
    have r1 := Try.r16 true l (runN l k) k
    have r2 := Try.r16 false l (runN l k) k
    unfold Try.B16 at r1 r2
    by_cases h : k < l.length
    · rw [declt_nat, inR_nat, decide_eq_true h, Int.toNat_natCast] at r1 r2
      have hst := F16_step l (runN l k) (fun i => Nat.le_trans (runN_len l k i) (by omega)) k (l.getD k EV.z)
      rw [wrapT k (by omega)] at hst
      rcases hst with ⟨s1, q1, q2⟩ | ⟨q0, s1, q1, q2⟩
      · refine .inl ⟨k + 1, s1, ?_, q2, h, by omega, rfl⟩
        exact orK_some (by rw [r1, q1]; rfl)
      · refine .inl ⟨k + 1, s1, ?_, q2, h, by omega, rfl⟩
        exact orK_none (by rw [r1, q0]; rfl) (by rw [r2, q1]; rfl)
    · have e1 : k = l.length := by omega
      rw [declt_nat, decide_eq_false h] at r1
      refine .inr ⟨(Try.x16 (runE l)).2, ?_, Weak.refl (x16_ok _), by show (AX.exit 0) ≠ .normal; simp⟩
      subst e1
      exact orK_some (by rw [r1]; rfl)) 0 (Nat.zero_le _)
  rw [show Try.x16 (runE l) = (e, s') from hA] at key
  exact Triple.weak (nil_weak true l 0) key
theorem purS2 (S : Nat → List UwE) (x : Value) : purT ⟨8, skEb 0 S⟩ (.tup [.agg (skCb 0 S), .val x]) = some (.tup [.agg (l8 (fun i => .ro (.tab 5 (lenS S i) (fun j => UE.row ((S i).getD (0 + j) UE.z))) none)), .val x]) := by
  have key : purA ⟨8, skEb 0 S⟩ (.agg (skCb 0 S)) = opt8 (fun i => bif (0 + lenS S i).ble (S i).length && true then some (.ro (.tab 5 (lenS S i) (fun j => UE.row ((S i).getD (0 + j) UE.z))) none) else none) := by kernel_rfl
  have e : ∀ i, (bif (0 + lenS S i).ble (S i).length && true then some (AV.ro (.tab 5 (lenS S i) (fun j => UE.row ((S i).getD (0 + j) UE.z))) none) else none) = some (AV.ro (.tab 5 (lenS S i) (fun j => UE.row ((S i).getD (0 + j) UE.z))) none) := fun i => by
    rw [Nat.zero_add, show lenS S i = (S i).length from rfl, ble_t (Nat.le_refl _)]; rfl
  rw [opt8_some e] at key
  show (match consO (purA ⟨8, skEb 0 S⟩ (.agg (skCb 0 S))) (some [AV.val x]) with | some l => some (AV.tup l) | none => none) = _
  rw [key]; rfl
theorem lendS2 {P : Program} {g : Nat} {args : List AV} (S : Nat → List UwE) (x : Value) (h : Alone P g args (.tup [.agg (skCb 0 S), .val x]) ⟨8, skEb 0 S⟩) : Alone P g args (.tup [skA S, .val x]) ⟨0, []⟩ :=
  Alone.resW (AW.tup (.cons (AW.agg (AWs.l8 (fun i => row_aw (S i)))) (.cons (AW.refl _) .nil))) (Alone.lend (purS2 S x) h)
theorem Try.w16 (l : List Evt) : rootS (Try.E16 false) 5 16 (lsumsOf [(5, Try.L16 l)]) [.ro (EV.con l) none] =
    bif decide ((l.length : Int) > 1000000) then some (.tup [.agg (l8 (fun _ => .val (.slice none 0 0))), .val (.int .i64 2)], ⟨0, []⟩)
    else bif isSt (Try.n16s true l 0 0) (Try.n16s true l 0 0) then (bif Nat.ble l.length 1000000 then some (.tup [.agg (skCb 0 (runE l)), .val (.int .i64 0)], ⟨8, skEb 0 (runE l)⟩) else none) else none := by kernel_rfl
theorem Try.al16 (l : List Evt) (hl : l.length ≤ 1000000) : Alone Try.prog 16 [.ro (EV.con l) none] (.tup [skA (runE l), .val (.int .i64 0)]) ⟨0, []⟩ := by
  refine lendS2 _ _ (rootS_alone (Try.e16 false) (d := 5) (g := 16) (ls := lsumsOf [(5, Try.L16 l)]) (AllL.of1 (a := Try.b16) (by kernel_rfl) (LsOk.of rfl rfl (Try.l16 l))) ((Try.w16 l).trans ?_))
  rw [isSt_refl, ble_t hl, decide_eq_false (by omega)]; rfl
theorem Try.sum16 : SumC Try.prog 16 Try.A17 := stacks_sum Try.fnOk16 rfl Try.al16
end Go.Ev
/- Trace. -/
namespace Go.Ev
open Go.Proofs
end Go.Ev
/- UnwindStacks: its walk. -/
namespace Go.Ev
open Go.Proofs
def stepG (A : Nat → List UwE) (e : Evt) : Nat → List UwE := stepU (skGet (skA A)) e
theorem twoB_ok (c1 c0 : Blk) : (⟨2, [⟨1, 0, c1⟩, ⟨0, 0, c0⟩]⟩ : Heap).ok := heap_ok [1, 0] rfl (by decide) (by decide)
def bT : Option (AV × Heap) := some (.val (.bool true), ⟨0, []⟩)
def bF : Option (AV × Heap) := some (.val (.bool false), ⟨0, []⟩)
def sm (S T : Nat → List UwE) (x y : Option (AV × Heap)) : Option (AV × Heap) := bif skIs (skA S) && skIs (skA T) then (bif same8 (skGet (skA S)) (skGet (skA T)) then x else y) else none
def rE (l : List Evt) : Nat → List UwE := runE (EV.list (EV.con l))
def okE (l : List Evt) {α : Type} (x : Option α) : Option α := bif EV.ok (EV.con l) && Nat.ble l.length 1000000 then x else none
end Go.Ev
/- UnwindStacks, for every input: the law answers true, and its arguments read as they did. -/
namespace Go.Ev
open Go.Proofs
theorem okE_t {l : List Evt} (h : l.length ≤ 1000000) {α : Type} (x : Option α) : okE l x = x := by
  unfold okE; rw [EV.ok_con, ble_t h]; rfl
theorem sm_t {S T : Nat → List UwE} (hS : ∀ i, i < 8 → (S i).length ≤ 1000000) (hT : ∀ i, i < 8 → (T i).length ≤ 1000000) (x y : Option (AV × Heap)) : sm S T x y = bif same8 S T then x else y := by
  unfold sm
  rw [skIs_t hS, skIs_t hT, same8_congr (skGet_eq S) (skGet_eq T)]; rfl
theorem rE_eq (l : List Evt) : rE l = runE l := by unfold rE; rw [EV.list_con]
abbrev evSh : Sh := .agg [.int .i64, .int .i64, .int .u32, .int .u32, .int .u32, .int .i64]
section
variable {H : Type}
noncomputable def pAt (d : DataW H) (i : Nat) : DataW H := (partsD d).getD i .nil
noncomputable def evD (d : DataW H) : Evt := ⟨intD (pAt d 0), intD (pAt d 1), intD (pAt d 2), intD (pAt d 3), intD (pAt d 4), intD (pAt d 5)⟩
theorem headTail (l : List (DataW H)) : l.headD .nil = l.getD 0 .nil ∧ ∀ i, l.tail.getD i .nil = l.getD (i + 1) .nil := by
  cases l <;> simp [List.headD]
theorem avs_ev (d : DataW H) : avs evSh d = evL (evD d) := by
  simp only [avs, avsL, (headTail _).1, (headTail _).2]; rfl
theorem avs_evs (l : List (DataW H)) : Con.tab (Sh.wd evSh) l.length (fun i => avs evSh (l.getD i .nil)) = EV.con (l.map evD) := by
  unfold RowTy.con
  have e : (fun i => avs evSh (l.getD i .nil)) = fun i => EV.row ((l.map evD).getD i EV.z) := by
    funext i
    rw [avs_ev, List.getD_eq_getElem?_getD, List.getD_eq_getElem?_getD, List.getElem?_map]
    cases l[i]? <;> rfl
  rw [e, List.length_map]; rfl
theorem argA_evs (d : DataW H) : argA (.sl evSh) d = .ro (EV.con ((elemsD d).map evD)) none := by rw [← avs_evs]; rfl
end
end Go.Ev
namespace Go.Proofs.Ytemblfgjamapbaa
open Go.Ev
theorem Try.ownG : ownKnob Try.prog.godebug = none := by kernel_rfl
theorem Try.kidsG : Kids Try.prog (· < Try.prog.types.size) := kids_rows (by kernel_rfl) (by kernel_rfl)
theorem Try.fullG : ∀ t e, t < Try.prog.types.size → Try.prog.underlying t = some (.slice e) → 0 < Try.prog.cellsOf e := slices_full_of Try.prog (by kernel_rfl)
end Go.Proofs.Ytemblfgjamapbaa
/- UnwindBrackets: its inner loop. -/
namespace Go.Ev
open Go.Proofs
def k5 : List Nat := [0, 1, 7, 8, 9, 10]
def w1 (O : List UwE) : Int := IntKind.i64.wrap ((O.length : Int) - 1)
def kinds1 (O : List UwE) : Prop := ∀ x ∈ O, x.1 = 1
end Go.Ev
/- UnwindBrackets: its walk. -/
namespace Go.Ev
open Go.Proofs
def bytes (bk : List Int) : Prop := ∀ x ∈ bk, 0 ≤ x ∧ x ≤ 255
end Go.Ev
/- UnwindBrackets, for every input: the law answers true, and its arguments read as they did. -/
namespace Go.Ev
open Go.Proofs
theorem u8_wf {H : Type} {d : DataW H} (h : wfD (.int .u8) d) : 0 ≤ intD d ∧ intD d ≤ 255 := by
  simp only [wfD, Lit.wf, IntKind.min, IntKind.max, IntKind.signed, IntKind.bits] at h
  simp at h
  omega
end Go.Ev
namespace Go.Proofs.Ytemblfgjamapbaa
open Go.Ev
end Go.Proofs.Ytemblfgjamapbaa
/- UnwindThreads: its walk. -/
namespace Go.Ev
open Go.Proofs
def k6 : List Nat := [0, 5, 6, 7]
end Go.Ev
/- UnwindThreads, for every input: the law answers true, and its arguments read as they did. -/
namespace Go.Ev
open Go.Proofs
theorem rows_of {D : Type} (R : RowTy D) {c : Con} {L : List D} (hw : c.wd = R.wd) (hl : c.len = L.length) (hr : ∀ i, i < L.length → c.row i = R.row (L.getD i R.z)) : R.ok c = true ∧ R.list c = L := by
  constructor
  · unfold RowTy.ok
    rw [hw, Nat.beq_refl]
    have : R.all c = true := by
      unfold RowTy.all
      refine @decide_eq_true _ (Classical.propDecidable _) (fun i hi => ?_)
      rw [hr i (by omega)]; exact R.isr _
    rw [this]; rfl
  · unfold RowTy.list
    refine List.ext_getElem (by simp [hl]) (fun i h1 h2 => ?_)
    rw [List.getElem_map, List.getElem_range, hr i h2, R.back, List.getD_eq_getElem?_getD, List.getElem?_eq_getElem h2]; rfl
theorem runE_len {l : List Evt} {n : Nat} (h : l.length ≤ n) (i : Nat) : (runE l i).length ≤ n := Nat.le_trans (runN_len l l.length i) h
end Go.Ev
namespace Go.Proofs.Ytemblfgjamapbaa
open Go.Ev
end Go.Proofs.Ytemblfgjamapbaa
/- UnwindHandlers: its walk. -/
namespace Go.Ev
open Go.Proofs
def Try.t7 : List (Nat × AFun) := [(12, constA (.bool true)), (13, Try.A13), (15, Try.A15), (16, Try.A17), (33, Try.A33)]
def Try.E7 : Env := Try.env0 false (sumsOf Try.t7) (keepF 7 [(13, [1, 9, 10, 12, 13])])
def Try.b7 : Code := nthD .skip (loopsOf (bodyOf Try.E7 7)) 0
def k7 : List Nat := [1, 9, 10, 12, 13]
def H7 (W S : Nat → List UwE) : Heap := ⟨2, [⟨1, 0, skBlk W⟩, ⟨0, 0, skBlk S⟩]⟩
def Try.s7 (l : List Evt) (t : Int) (S W : Nat → List UwE) (i : Int) : St := stOf 143 k7 [.ro (EV.con l) none, .val (.int .i64 t), .ptr 0 0 0, .ptr 1 0 0, .val (.int .i64 i)] (H7 W S)
def Try.B7 (s : St) : Option (AX × St) := codeS Try.E7 (callF Try.E7 5) (Try.E7.keep 7) (lsumsOf []) Try.b7 (outK k7 [8, 9, 10, 12]) s
def odd7 (k : Int) : Bool := IntKind.i64.wrap ((BitVec.ofInt 64 k &&& BitVec.ofInt 64 1).toNat : Int) != 0
def Try.ret7 (t : Nat) (S W : Nat → List UwE) : Option (AX × St) := some (.ret, stOf 143 [8, 9, 10, 12] [.val (.bool false), .val (.int .i64 t), .ptr 0 0 0, .ptr 1 0 0] (H7 W S))
def cut7 (X W : List UwE) : Con := .tab 5 (W.length - 0) (fun i => UE.row (X.getD (0 + i) UE.z))
def Try.chk7 (l : List Evt) (t : Nat) (S W : Nat → List UwE) (i : Int) (e : Evt) : Option (AX × St) :=
  bif skIs (skA S) then
   bif decide (((stepG S e t).length : Int) ≤ ((W t).length : Int)) then Try.ret7 t (stepG S e) W
   else bif decide (((W t).length : Int) ≤ ((stepG S e t).length : Int)) then
    bif UE.ok (cut7 (stepG S e t) (W t)) && (UE.ok (UE.con (W t)) && (UE.list (cut7 (stepG S e t) (W t))).length.ble 1000000) then
     bif eqD UE ueq (UE.list (cut7 (stepG S e t) (W t))) (UE.list (UE.con (W t))) then
      bif inR ((W t).length : Int) (stepG S e t).length then
       bif ((stepG S e t).getD (W t).length UE.z).1 != 2 then Try.ret7 t (stepG S e) W
       else some (.normal, Try.s7 l t (stepG S e) W (IntKind.i64.wrap (i + 1)))
      else none
     else Try.ret7 t (stepG S e) W
    else none
   else none
  else none
def ev7 (t : Nat) (k : Int) (e : Evt) : Evt := ⟨k, t, e.pc, e.a, e.b, e.n⟩
def ev7a (t : Nat) (k : Int) (e : Evt) (a : Int) : Evt := ⟨k, t, e.pc, a, e.b, e.n⟩
theorem Try.r7 (l : List Evt) (S W : Nat → List UwE) (i : Int) : ∀ t : Nat, t < 8 → Try.B7 (Try.s7 l t S W i) =
    bif decide (i < (l.length : Int)) then
     bif inR i l.length then
      bif inR i l.length then
       bif odd7 (l.getD i.toNat EV.z).k then
        bif odd7 i then
         bif decide (((W t).length : Int) > 0) then Try.chk7 l t S W i (ev7 t 6 (l.getD i.toNat EV.z)) else Try.chk7 l t S W i (ev7 t 6 (l.getD i.toNat EV.z))
        else Try.chk7 l t S W i (ev7 t 6 (l.getD i.toNat EV.z))
       else
        bif odd7 i then
         bif decide (((W t).length : Int) > 0) then
          bif ((W t).length : Int) != 0 then
           bif inR (i.tmod ((W t).length : Int)) (W t).length then Try.chk7 l t S W i (ev7a t 7 (l.getD i.toNat EV.z) ((W t).getD (i.tmod ((W t).length : Int)).toNat UE.z).2.2.2.1) else none
          else none
         else Try.chk7 l t S W i (ev7 t 7 (l.getD i.toNat EV.z))
        else Try.chk7 l t S W i (ev7 t 7 (l.getD i.toNat EV.z))
      else none
     else none
    else some (.exit 0, stOf 143 [9, 10, 12] [.val (.int .i64 t), .ptr 0 0 0, .ptr 1 0 0] (H7 W S)) :=
  each8 (by kernel_rfl) (by kernel_rfl) (by kernel_rfl) (by kernel_rfl) (by kernel_rfl) (by kernel_rfl) (by kernel_rfl) (by kernel_rfl)
def inv7 (t : Nat) (W S : Nat → List UwE) (n : Nat) : Prop := (∃ x R, S t = W t ++ x :: R ∧ x.1 = 2 ∧ kinds1 R) ∧ (∀ j, j < 8 → j ≠ t → S j = W j) ∧ (S t).length ≤ n
theorem seekR_above {l : List UwE} {a : Int} {p : Nat} (hp : ((l.getD p UE.z).1 == 2) = true) : ∀ {n : Nat}, p < n → seekR l a n = some none ∨ ∃ k, p < k ∧ k < n ∧ seekR l a n = some (some k)
  | 0, h => by omega
  | n + 1, h => by
    simp only [seekR]
    cases h1 : (l.getD n UE.z).1 == 2 with
    | true => exact .inl rfl
    | false =>
      have hne : p ≠ n := fun q => by rw [q, h1] at hp; cases hp
      cases h2 : (l.getD n UE.z).2.2.2.1 == a with
      | true => exact .inr ⟨n, by omega, by omega, rfl⟩
      | false =>
        rcases seekR_above hp (n := n) (by omega) with q | ⟨k, q1, q2, q3⟩
        · exact .inl q
        · exact .inr ⟨k, q1, by omega, q3⟩
theorem retN_above {l : List UwE} {a : Int} {p : Nat} (hp : ((l.getD p UE.z).1 == 2) = true) (h : p < l.length) : p < retN l a := by
  unfold retN
  rcases seekR_above (a := a) hp h with q | ⟨k, q1, q2, q3⟩
  · rw [q]; exact h
  · rw [q3]; exact q1
theorem seekB_at {l : List UwE} {p : Nat} (hp : ((l.getD p UE.z).1 == 2) = true) : ∀ {n : Nat}, p < n → (∀ i, p < i → i < n → ((l.getD i UE.z).1 == 2) = false) → seekB l n = some p
  | 0, h, _ => by omega
  | n + 1, h, hn => by
    simp only [seekB]
    by_cases q : p = n
    · subst q; rw [hp]; rfl
    · rw [hn n (by omega) (by omega)]
      exact seekB_at hp (by omega) (fun i h1 h2 => hn i h1 (by omega))
theorem mid_get (A R : List UwE) (x : UwE) : (A ++ x :: R).getD A.length UE.z = x := by
  rw [List.getD_eq_getElem?_getD, List.getElem?_append_right (Nat.le_refl _), Nat.sub_self]; rfl
theorem mid_after {A R : List UwE} {x : UwE} (hR : kinds1 R) (i : Nat) (h1 : A.length < i) (h2 : i < (A ++ x :: R).length) : (((A ++ x :: R).getD i UE.z).1 == 2) = false := by
  rw [List.length_append, List.length_cons] at h2
  obtain ⟨j, rfl⟩ : ∃ j, i = A.length + 1 + j := ⟨i - A.length - 1, by omega⟩
  have hj : j < R.length := by omega
  have e : (A ++ x :: R).getD (A.length + 1 + j) UE.z = R[j] := by
    rw [List.getD_eq_getElem?_getD, List.getElem?_append_right (by omega), show A.length + 1 + j - A.length = j + 1 by omega, List.getElem?_cons_succ, List.getElem?_eq_getElem hj]; rfl
  rw [e, hR R[j] (List.getElem_mem hj)]; rfl
theorem inv7_take {t : Nat} {W S : Nat → List UwE} {n : Nat} (h : inv7 t W S n) (m : Nat) (hm : (W t).length < m) {S' : Nat → List UwE} (ht : S' t = (S t).take m) (ho : ∀ j, j < 8 → j ≠ t → S' j = S j) : inv7 t W S' n := by
  obtain ⟨⟨x, R, h1, h2, h3⟩, h4, h5⟩ := h
  refine ⟨⟨x, R.take (m - (W t).length - 1), ?_, h2, fun y hy => h3 y (List.mem_of_mem_take hy)⟩, fun j hj hn => (ho j hj hn).trans (h4 j hj hn), ?_⟩
  · rw [ht, h1, List.take_append, List.take_of_length_le (by omega)]
    obtain ⟨k, hk⟩ : ∃ k, m - (W t).length = k + 1 := ⟨m - (W t).length - 1, by omega⟩
    rw [hk, List.take_succ_cons, Nat.add_sub_cancel]
  · rw [ht, List.length_take]; omega
theorem row_t {t : Nat} (ht : t < 8) (S : Nat → List UwE) (e : Evt) : ∀ j, j < 8 → stepG S e j = stepU S e j := fun j hj => stepU_get S e j hj
theorem inv7_call {t : Nat} (ht : t < 8) {W S : Nat → List UwE} {n : Nat} (h : inv7 t W S n) (e : Evt) : inv7 t W (stepG S (ev7 t 6 e)) (n + 1) := by
  have et : Int.toNat (t : Int) = t := Int.toNat_natCast t
  have hs : ∀ j, j < 8 → stepG S (ev7 t 6 e) j = setS S t (S t ++ [(1, e.pc, e.a, e.b, 0)]) j := fun j hj => by
    rw [row_t ht S _ j hj]
    unfold stepU ev7
    simp only [thrd_nat ht, cond_true, et]
    rfl
  obtain ⟨⟨x, R, h1, h2, h3⟩, h4, h5⟩ := h
  refine ⟨⟨x, R ++ [(1, e.pc, e.a, e.b, 0)], ?_, h2, fun y hy => ?_⟩, fun j hj hn => ?_, ?_⟩
  · rw [hs t ht, setS_same, h1, List.append_assoc]; rfl
  · rcases List.mem_append.1 hy with q | q
    · exact h3 y q
    · rw [List.mem_singleton] at q; subst q; rfl
  · rw [hs j hj, setS_other S hn]; exact h4 j hj hn
  · rw [hs t ht, setS_same, List.length_append, List.length_singleton]; omega
theorem inv7_ret {t : Nat} (ht : t < 8) {W S : Nat → List UwE} {n : Nat} (h : inv7 t W S n) (e : Evt) (a : Int) : inv7 t W (stepG S (ev7a t 7 e a)) n := by
  have et : Int.toNat (t : Int) = t := Int.toNat_natCast t
  have hs : ∀ j, j < 8 → stepG S (ev7a t 7 e a) j = setS S t ((S t).take (retN (S t) a)) j := fun j hj => by
    rw [row_t ht S _ j hj]
    unfold stepU ev7a
    simp only [thrd_nat ht, cond_true, et]
    rfl
  obtain ⟨⟨x, R, h1, h2, h3⟩, h4, h5⟩ := id h
  have hx : (((S t).getD (W t).length UE.z).1 == 2) = true := by rw [h1, mid_get, h2]; rfl
  have hl : (W t).length < (S t).length := by rw [h1, List.length_append, List.length_cons]; omega
  exact inv7_take h (retN (S t) a) (retN_above hx hl) (by rw [hs t ht, setS_same]) (fun j hj hn => by rw [hs j hj, setS_other S hn])
theorem inv7_back {t : Nat} (ht : t < 8) {W S : Nat → List UwE} {n : Nat} (h : inv7 t W S n) : ∀ j, j < 8 → stepU S ⟨10, t, 0, 0, 0, 0⟩ j = W j := by
  have et : Int.toNat (t : Int) = t := Int.toNat_natCast t
  obtain ⟨⟨x, R, h1, h2, h3⟩, h4, h5⟩ := h
  intro j hj
  unfold stepU
  simp only [thrd_nat ht, cond_true, et]
  show setS S t ((S t).take (backN' (S t))) j = W j
  by_cases q : j = t
  · subst q
    have hb : backN' (S j) = (W j).length := by
      unfold backN'
      rw [seekB_at (p := (W j).length) (by rw [h1, mid_get, h2]; rfl) (by rw [h1, List.length_append, List.length_cons]; omega) (fun i a1 a2 => by rw [h1] at a2 ⊢; exact mid_after h3 i a1 a2)]
    rw [setS_same, hb, h1, List.take_left]
  · rw [setS_other S q]; exact h4 j hj q
theorem cut7_rows {X W R : List UwE} (h : X = W ++ R) : UE.ok (cut7 X W) = true ∧ UE.list (cut7 X W) = W := by
  refine rows_of UE rfl (Nat.sub_zero _) (fun i hi => ?_)
  show UE.row (X.getD (0 + i) UE.z) = _
  rw [Nat.zero_add, h, List.getD_eq_getElem?_getD, List.getD_eq_getElem?_getD, List.getElem?_append_left hi]
theorem chk7_t {l : List Evt} {t : Nat} {S W : Nat → List UwE} {k : Nat} {e : Evt} (hS : ∀ i, i < 8 → (S i).length ≤ 1000000) {n : Nat} (h : inv7 t W (stepG S e) n) (hn : n ≤ 1000) (hk : k ≤ 1000) : Try.chk7 l t S W k e = some (.normal, Try.s7 l t (stepG S e) W ((k + 1 : Nat) : Int)) := by
  obtain ⟨⟨x, R, h1, h2, h3⟩, h4, h5⟩ := h
  have hl : (stepG S e t).length = (W t).length + R.length + 1 := by rw [h1, List.length_append, List.length_cons]; omega
  obtain ⟨a1, a2⟩ := cut7_rows h1
  unfold Try.chk7
  rw [skIs_t hS, decide_eq_false (by rw [hl]; omega), decide_eq_true (by rw [hl]; omega), a1, a2, UE.ok_con, UE.list_con, ble_t (show (W t).length ≤ 1000000 by omega), (eqD_iff ueq_iff (W t) (W t)).2 rfl, inR_nat, decide_eq_true (by rw [hl]; omega), h1, mid_get, h2, wrapT k (by omega)]
  rfl
end Go.Ev
/- UnwindHandlers, for every input: the law answers true, and its arguments read as they did. -/
namespace Go.Ev
open Go.Proofs
def evt7 (t : Nat) (W : Nat → List UwE) (m : List Evt) (k : Nat) : Evt :=
  bif odd7 (m.getD k EV.z).k then ev7 t 6 (m.getD k EV.z)
  else bif odd7 k then (bif decide (((W t).length : Int) > 0) then ev7a t 7 (m.getD k EV.z) ((W t).getD ((k : Int).tmod ((W t).length : Int)).toNat UE.z).2.2.2.1 else ev7 t 7 (m.getD k EV.z)) else ev7 t 7 (m.getD k EV.z)
def run7 (t : Nat) (W S : Nat → List UwE) (m : List Evt) (k : Nat) : Nat → List UwE := Nat.rec S (fun k X => stepG X (evt7 t W m k)) k
def Try.x7 (t : Nat) (W S : Nat → List UwE) : AX × St := (.exit 0, stOf 143 [9, 10, 12] [.val (.int .i64 t), .ptr 0 0 0, .ptr 1 0 0] (H7 W S))
def pre7 (t : Nat) (W S : Nat → List UwE) (m : List Evt) : Prop := m.length ≤ 150 ∧ (∀ i, i < 8 → (W i).length ≤ 150) ∧ inv7 t W S 151
def Try.L7 (m : List Evt) (t : Nat) (W S : Nat → List UwE) : LSum := atL (Try.s7 m t S W 0) (.grd (propB (pre7 t W S m)) (.out (Try.x7 t W (run7 t W S m m.length))))
theorem Try.e7 : EnvOk2 Try.prog Try.E7 := Try.envOk false (sumsOf Try.t7) _ (sumsOf_ok (show AllS Try.prog Try.t7 from ⟨Try.saneSum, Try.sum13, Try.sum15, Try.sum16, Try.sum33, trivial⟩))
theorem inv7_mono {t : Nat} {W S : Nat → List UwE} {n n' : Nat} (h : inv7 t W S n) (hn : n ≤ n') : inv7 t W S n' := ⟨h.1, h.2.1, Nat.le_trans h.2.2 hn⟩
theorem ev7_a (t : Nat) (k : Int) (e : Evt) : ev7 t k e = ev7a t k e e.a := rfl
theorem run7_inv {t : Nat} (ht : t < 8) {W S : Nat → List UwE} {m : List Evt} (h : inv7 t W S 151) : ∀ k, inv7 t W (run7 t W S m k) (151 + k)
  | 0 => h
  | k + 1 => by
    have ih := run7_inv ht (m := m) h k
    show inv7 t W (stepG (run7 t W S m k) (evt7 t W m k)) (151 + k + 1)
    unfold evt7
    cases odd7 (m.getD k EV.z).k <;> simp only [cond_true, cond_false]
    · cases odd7 k <;> simp only [cond_true, cond_false]
      · rw [ev7_a]; exact inv7_mono (inv7_ret ht ih _ _) (by omega)
      · cases decide (((W t).length : Int) > 0) <;> simp only [cond_true, cond_false]
        · rw [ev7_a]; exact inv7_mono (inv7_ret ht ih _ _) (by omega)
        · exact inv7_mono (inv7_ret ht ih _ _) (by omega)
    · exact inv7_call ht ih _
theorem inv7_len {t : Nat} {W S : Nat → List UwE} {n : Nat} (h : inv7 t W S n) (hW : ∀ i, i < 8 → (W i).length ≤ 150) (hn : n ≤ 1000) : ∀ i, i < 8 → (S i).length ≤ 1000000 := fun i hi => by
  by_cases q : i = t
  · subst q; have := h.2.2; omega
  · rw [h.2.1 i hi q]; have := hW i hi; omega
theorem H7_ok (W S : Nat → List UwE) : (H7 W S).ok := twoB_ok _ _
theorem Try.l7 (m : List Evt) (t : Nat) (ht : t < 8) (W S : Nat → List UwE) : ∀ s e s', s.h.ok → (Try.L7 m t W S s).run = some (e, s') → Triple Try.prog (.loop Try.b7) s e s' := by
  refine atL_grd (fun hp => ?_)
  obtain ⟨hm, hW, h0⟩ := propB_eq hp
  refine loop_at Try.e7 (d := 5) (g := 7) (ls := lsumsOf []) (c := Try.b7) trivial k7 [8, 9, 10, 12] (T := Nat)
    (fun k => Try.s7 m t (run7 t W S m k) W k) (fun k => k ≤ m.length) (fun k => m.length - k) (fun _ => Try.x7 t W (run7 t W S m m.length)) _ _ 0 (Nat.zero_le _) (Weak.refl (H7_ok _ _)) (fun e s' h => Option.some.inj h) (fun k _ => H7_ok _ _) ?_
  intro k hk
  replace hk : k ≤ m.length := hk
  have key := Try.r7 m (run7 t W S m k) W k t ht
  by_cases h : k < m.length
  · have hi := run7_inv ht (m := m) h0 k
    have hi1 := run7_inv ht (m := m) h0 (k + 1)
    have hc := chk7_t (l := m) (k := k) (e := evt7 t W m k) (inv7_len hi hW (by omega)) hi1 (by omega) (by omega)
    rw [declt_nat, inR_nat, decide_eq_true h, Int.toNat_natCast] at key
    simp only [cond_true, cond_sameB] at key
    refine .inl ⟨k + 1, _, Eq.trans key ?_, Weak.refl (H7_ok _ _), h, by omega, rfl⟩
    show _ = some (AX.normal, Try.s7 m t (stepG (run7 t W S m k) (evt7 t W m k)) W ((k + 1 : Nat) : Int))
    unfold evt7 at hc ⊢
    cases h1 : odd7 (m.getD k EV.z).k with
    | true =>
      rw [h1] at hc
      simp only [cond_true] at hc ⊢
      exact hc
    | false =>
      rw [h1] at hc
      cases h2 : odd7 k with
      | false => rw [h2] at hc; simp only [cond_false] at hc ⊢; exact hc
      | true =>
        rw [h2] at hc
        cases h3 : decide (((W t).length : Int) > 0) with
        | false => rw [h3] at hc; simp only [cond_true, cond_false] at hc ⊢; exact hc
        | true =>
          rw [h3] at hc
          rw [decide_eq_true_eq] at h3
          have q0 := Int.tmod_nonneg ((W t).length : Int) (show (0 : Int) ≤ k by omega)
          have q1 := Int.tmod_lt_of_pos (k : Int) (show (0 : Int) < ((W t).length : Int) by omega)
          have e1 : inR ((k : Int).tmod ((W t).length : Int)) (W t).length = true := by
            have : (k : Int).tmod ((W t).length : Int) = (((k : Int).tmod ((W t).length : Int)).toNat : Int) := by omega
            rw [this, inR_nat, decide_eq_true (by omega)]
          simp only [cond_true, cond_false] at hc ⊢
          rw [show (((W t).length : Int) != 0) = true by rw [bne, Bool.not_eq_true', beq_eq_false_iff_ne]; omega, e1]
          exact hc
  · have e1 : k = m.length := by omega
    rw [declt_nat, decide_eq_false h] at key
    subst e1
    exact .inr ⟨_, key, Weak.refl (H7_ok _ _), by show (AX.exit 0) ≠ .normal; simp⟩
def or4 (a : Int) : Int := IntKind.u32.wrap ((BitVec.ofInt 32 a ||| BitVec.ofInt 32 4).toNat : Int)
def th8 (th : Int) : Int := (IntKind.i64.wrap th).tmod 8
def sig7 (t pc a b n : Int) : Evt := ⟨9, t, pc, or4 a, b, n⟩
def back7 (t : Nat) : Evt := ⟨10, t, 0, 0, 0, 0⟩
theorem or4_ne (a : Int) : (or4 a != 0) = true := by
  have h1 : (BitVec.ofInt 32 a ||| BitVec.ofInt 32 4).toNat < 4294967296 := (BitVec.ofInt 32 a ||| BitVec.ofInt 32 4).isLt
  have h2 : 4 ≤ (BitVec.ofInt 32 a ||| BitVec.ofInt 32 4).toNat := by
    rw [BitVec.toNat_or]
    exact Nat.right_le_or
  unfold or4
  rw [IntKind.wrap_u32, bne, Bool.not_eq_true', beq_eq_false_iff_ne]
  omega
theorem Try.w7 (l m : List Evt) (th k h pc a b n : Int) (t : Nat) : rootS Try.E7 5 7 (lsumsOf [(13, Try.L7 m t (rE l) (stepG (rE l) (sig7 t pc a b n)))]) [.ro (EV.con l) none, .ro (EV.con m) none, .val (.int .u8 th), evA ⟨k, h, pc, a, b, n⟩] =
    bif decide ((l.length : Int) > 150) then bT
    else bif decide ((m.length : Int) > 150) then bT
    else okE l (bif skIs (skA (rE l)) then
     (bif isSt (Try.s7 m (th8 th) (stepG (rE l) (sig7 (th8 th) pc a b n)) (rE l) 0) (Try.s7 m t (stepG (rE l) (sig7 t pc a b n)) (rE l) 0) then
      (bif propB (pre7 t (rE l) (stepG (rE l) (sig7 t pc a b n)) m) then
       (bif skIs (skA (run7 t (rE l) (stepG (rE l) (sig7 t pc a b n)) m m.length)) then sm (stepG (run7 t (rE l) (stepG (rE l) (sig7 t pc a b n)) m m.length) (back7 t)) (rE l) bT bF else none) else none) else none) else none) := by kernel_rfl
theorem sig7_inv {t : Nat} (ht : t < 8) {W : Nat → List UwE} (hW : ∀ i, i < 8 → (W i).length ≤ 150) (pc a b n : Int) : inv7 t W (stepG W (sig7 t pc a b n)) 151 := by
  have et : Int.toNat (t : Int) = t := Int.toNat_natCast t
  have hs : ∀ j, j < 8 → stepG W (sig7 t pc a b n) j = setS W t (W t ++ [(2, pc, or4 a, pc, n)]) j := fun j hj => by
    rw [row_t ht W _ j hj]
    unfold stepU sig7
    simp only [thrd_nat ht, cond_true, et, or4_ne]
    rfl
  refine ⟨⟨(2, pc, or4 a, pc, n), [], by rw [hs t ht, setS_same], rfl, fun y hy => by cases hy⟩, fun j hj hn => by rw [hs j hj, setS_other W hn], ?_⟩
  rw [hs t ht, setS_same, List.length_append, List.length_singleton]
  have := hW t ht
  omega
theorem Try.law7 (l m : List Evt) (th : Int) (h0 : 0 ≤ th) (h1 : th ≤ 255) (e : Evt) : Alone Try.prog 7 [.ro (EV.con l) none, .ro (EV.con m) none, .val (.int .u8 th), evA e] (.val (.bool true)) ⟨0, []⟩ := by
  obtain ⟨k, h, pc, a, b, n⟩ := e
  have q0 := Int.tmod_nonneg 8 h0
  have q1 := Int.tmod_lt_of_pos th (show (0 : Int) < 8 by omega)
  have e0 : th8 th = ((th.tmod 8).toNat : Int) := by unfold th8; rw [wrap64 _ (by omega) (by omega)]; omega
  have ht : (th.tmod 8).toNat < 8 := by omega
  generalize (th.tmod 8).toNat = t at e0 ht
  refine rootS_alone Try.e7 (d := 5) (g := 7) (ls := lsumsOf [(13, Try.L7 m t (rE l) (stepG (rE l) (sig7 t pc a b n)))]) (AllL.of1 (a := Try.b7) (by kernel_rfl) (LsOk.of rfl rfl (Try.l7 m t ht _ _))) ((Try.w7 l m th k h pc a b n t).trans ?_)
  rw [e0, isSt_refl]
  cases hl : decide ((l.length : Int) > 150) with
  | true => rfl
  | false =>
  cases hm : decide ((m.length : Int) > 150) with
  | true => rfl
  | false =>
    rw [decide_eq_false_iff_not] at hl hm
    have hW : ∀ i, i < 8 → (rE l i).length ≤ 150 := fun i _ => by rw [rE_eq]; exact runE_len (by omega) i
    have hs := sig7_inv ht hW pc a b n
    have hr := run7_inv ht (m := m) hs m.length
    have hlen := inv7_len hr hW (by omega)
    have hb : ∀ j, j < 8 → stepG (run7 t (rE l) (stepG (rE l) (sig7 t pc a b n)) m m.length) (back7 t) j = rE l j := fun j hj => (row_t ht _ _ j hj).trans (inv7_back ht hr j hj)
    have hW6 : ∀ i, i < 8 → (rE l i).length ≤ 1000000 := fun i hi => Nat.le_trans (hW i hi) (by omega)
    rw [okE_t (by omega), skIs_t hW6, propB_t (show pre7 t (rE l) (stepG (rE l) (sig7 t pc a b n)) m from ⟨by omega, hW, hs⟩), skIs_t hlen, sm_t (fun i hi => by rw [hb i hi]; exact hW6 i hi) hW6, (same8_iff _ (rE l)).2 hb]
    rfl
theorem argA_ev {H : Type} (d : DataW H) : argA evSh d = evA (evD d) := by
  show AV.agg (avsL _ (partsD d)) = _
  have := avs_ev d
  simp only [avs] at this
  rw [this]; rfl
end Go.Ev
namespace Go.Proofs.Ytemblfgjamapbaa
open Go.Ev
theorem handlers_contract (H : Type) (enc : TypeId × Value → H) (W : World) (base : Nat) (args : Array Value) (ds gs : List (DataW H)) (before : List MemPlace)
    (hval : ∀ (j : Nat) t v, Try.f7.params[j]? = some t → args[j]? = some v → Value.okWide Try.prog W .any base t v)
    (hW : DataW.Whole enc Try.prog Try.f7.params.toList Rows.unwindHandlersSpec.vars false W args.toList ds gs before) :
    Calls Try.prog 7 args W fun e W' => ∃ v, e = .returned v ∧ Rows.unwindHandlersSpec.post enc Try.prog Try.f7 false true false false W args v W' := by
  have hsh : shsOk Try.prog [.sl evSh, .sl evSh, .int .u8, evSh] Try.f7.params.toList = true := by kernel_rfl
  obtain ⟨p, q, hA, hV, _⟩ := id hW
  obtain ⟨hwf, hlen⟩ := args_wf hsh hA
  obtain rfl : gs = [] := by cases gs with | nil => rfl | cons => cases hV
  match ds, hlen with
  | [d1, d2, d3, d4], _ =>
    simp only [wfDL, List.headD_cons, List.tail_cons] at hwf
    obtain ⟨w1, w2⟩ := u8_wf hwf.2.2.1
    have law := Try.law7 ((elemsD d1).map evD) ((elemsD d2).map evD) (intD d3) w1 w2 (evD d4)
    have e : argsA [.sl evSh, .sl evSh, .int .u8, evSh] [d1, d2, d3, d4] = [.ro (EV.con ((elemsD d1).map evD)) none, .ro (EV.con ((elemsD d2).map evD)) none, .val (.int .u8 (intD d3)), evA (evD d4)] := by
      rw [← argA_evs d1, ← argA_evs d2, ← argA_ev d4]; rfl
    rw [← e] at law
    exact law_calls (b := 4) Try.kidsG Try.fullG (by kernel_rfl) rfl Try.underlying4 (by kernel_rfl) rfl hsh hval hW law
theorem handlers_lifted (os : Os) (started : os.Started) (H : Type) (enc : TypeId × Value → H) :
    ReturnsInHanded {} Try.checked os 7 .any (Rows.unwindHandlersSpec.pre6 enc Try.prog Try.f7 Rows.unwindHandlersRow.domain false) (Rows.unwindHandlersSpec.post enc Try.prog Try.f7 false true false false) := by
  refine returnsInHanded_of_change (C := Try.checked) Try.ownG started (by kernel_rfl) Try.func7
    (ChangeSpec.witness6 (enc := enc) (C := Try.checked) false ⟨#[], #[.slice none 0 0, .slice none 0 0, .int .u8 0, .agg #[.int .i64 0, .int .i64 0, .int .u32 0, .int .u32 0, .int .u32 0, .int .i64 0]], []⟩ 8 (by kernel_rfl) (by kernel_rfl) (by kernel_rfl) (by kernel_rfl)) ?_
  intro W base args ds gs before hval hW _ _
  exact handlers_contract H enc W base args ds gs before hval hW
theorem unwindHandlers : Rows.UnwindHandlersSaid :=
  OpenClaim.holds_of_wide 7 Try.f7 rfl rfl rfl rfl rfl rfl rfl ⟨rfl, rfl, rfl, rfl, rfl⟩ rfl rfl rfl rfl rfl (by kernel_rfl) Try.func7 (by kernel_rfl)
    (of_decide_eq_true (by kernel_rfl)) (by unfold Func.isWrapper; first | (rw [if_pos (by decide +kernel)]; kernel_rfl) | (rw [if_neg (by decide +kernel)]; exact ⟨rfl, rfl⟩))
    (fun os started H enc _ => handlers_lifted os started H enc)
end Go.Proofs.Ytemblfgjamapbaa
