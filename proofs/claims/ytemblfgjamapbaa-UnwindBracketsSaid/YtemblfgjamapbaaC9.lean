/- The evaluator, its soundness and the walks: part 9. -/
import Derived.Test.YtemblfgjamapbaaC8
set_option linter.unusedSectionVars false
set_option linter.unusedSimpArgs false
set_option linter.unusedVariables false
set_option maxRecDepth 100000
set_option maxRecDepth 1000000
noncomputable section
/- Stacks compared. -/
namespace Go.Ev
open Go.Proofs
def ueq (x y : UwE) : Bool := x.1 == y.1 && (x.2.1 == y.2.1 && (x.2.2.1 == y.2.2.1 && (x.2.2.2.1 == y.2.2.2.1 && (x.2.2.2.2 == y.2.2.2.2 && true))))
def isU32 : List AV → Bool
  | [.val (.int .u32 _)] => true
  | _ => false
theorem ueq_iff (x y : UwE) : ueq x y = true ↔ x = y := by
  obtain ⟨a, b, c, d, e⟩ := x
  obtain ⟨a', b', c', d', e'⟩ := y
  simp [ueq]
def Try.E33 : Env := Try.env0 false (sumsOf []) (keepF 33 [(4, [0, 1, 5])])
def Try.b33 : Code := nthD .skip (loopsOf (bodyOf Try.E33 33)) 0
def Try.V33 (L M : List UwE) (i : Int) : List AV := [.ro (UE.con L) none, .ro (UE.con M) none, .val (.int .i64 i)]
theorem Try.r33 (L M : List UwE) (i : Int) : codeS Try.E33 (callF Try.E33 5) (Try.E33.keep 33) (lsumsOf []) Try.b33 (outK [0, 1, 5] [4]) (stOf 26 [0, 1, 5] (Try.V33 L M i) ⟨0, []⟩) = eqRound UE ueq 26 [0, 1, 5] (Try.V33 L M) L M i := by kernel_rfl
theorem Try.e33 : EnvOk2 Try.prog Try.E33 := Try.envOk false (sumsOf []) _ (fun g A h => by cases h)
theorem Try.w33 (L M : List UwE) : rootS Try.E33 5 33 (lsumsOf [(4, eqL UE ueq 26 [0, 1, 5] (Try.V33 L M) L M)]) [.ro (UE.con L) none, .ro (UE.con M) none] = eqRun UE ueq 26 [0, 1, 5] (Try.V33 L M) L M := by kernel_rfl
def Try.A33 : AFun := eqqA UE ueq
theorem Try.sum33 : SumC Try.prog 33 Try.A33 := eq_sum Try.e33 (d := 5) (lid := 4) (c := Try.b33) ⟨Try.f33, _, Try.fnOk33.1, Try.fnOk33.2, rfl⟩ (by kernel_rfl) (by kernel_rfl) (by kernel_rfl) Try.V33 Try.r33 Try.w33
def roOk : AV → Bool
  | .ro c _ => UE.ok c && Nat.ble c.len 1000000
  | _ => false
def roGet : AV → List UwE
  | .ro c _ => UE.list c
  | _ => []
def skIs : AV → Bool
  | .agg l => Nat.beq l.length 8 && foldL true (fun v _ ih => roOk v && ih) l
  | _ => false
def skGet (v : AV) (i : Nat) : List UwE := roGet (nthD .unk v.cells i)
def nzU : List Con := [UE.con [], UE.con []]
def S13 (args : List AV) : Ans (AV × Heap) := match args with
  | [v, .agg [.val (.int .i64 k), .val (.int .i64 th), .val (.int .u32 pc), .val (.int .u32 a), .val (.int .u32 b), .val (.int .i64 n)]] => .grd (skIs v) (.out (skA (stepU (skGet v) ⟨k, th, pc, a, b, n⟩), ⟨0, []⟩))
  | _ => .no
def Try.A13 : AFun := roA (fun args => S13 (nzs nzU args))
theorem roOk_some {v : AV} (h : roOk v = true) : AW v (.ro (UE.con (roGet v)) none) ∧ (roGet v).length ≤ 1000000 := by
  cases v with
  | ro c cap =>
    unfold roOk at h
    rw [Bool.and_eq_true, Nat.ble_eq] at h
    exact ⟨UE.aw h.1 cap, by show (UE.list c).length ≤ _; rw [UE.list_len]; exact h.2⟩
  | _ => cases h
theorem skIs_some {v : AV} (h : skIs v = true) : AW v (skA (skGet v)) ∧ ∀ i, (skGet v i).length ≤ 1000000 := by
  unfold skIs at h
  split at h
  · rename_i l
    rw [Bool.and_eq_true] at h
    obtain ⟨h1, h2⟩ := h
    have h1 := Nat.eq_of_beq_eq_true h1
    obtain ⟨a0, a1, a2, a3, a4, a5, a6, a7, rfl⟩ : ∃ a0 a1 a2 a3 a4 a5 a6 a7, l = [a0, a1, a2, a3, a4, a5, a6, a7] := by
      rcases l with _ | ⟨a0, _ | ⟨a1, _ | ⟨a2, _ | ⟨a3, _ | ⟨a4, _ | ⟨a5, _ | ⟨a6, _ | ⟨a7, _ | ⟨a8, l⟩⟩⟩⟩⟩⟩⟩⟩⟩ <;> simp at h1
      exact ⟨a0, a1, a2, a3, a4, a5, a6, a7, rfl⟩
    have h3 : (roOk a0 && (roOk a1 && (roOk a2 && (roOk a3 && (roOk a4 && (roOk a5 && (roOk a6 && (roOk a7 && true)))))))) = true := h2
    simp only [Bool.and_eq_true, and_true] at h3
    obtain ⟨k0, k1, k2, k3, k4, k5, k6, k7⟩ := h3
    refine ⟨AW.agg (.cons (roOk_some k0).1 (.cons (roOk_some k1).1 (.cons (roOk_some k2).1 (.cons (roOk_some k3).1 (.cons (roOk_some k4).1 (.cons (roOk_some k5).1 (.cons (roOk_some k6).1 (.cons (roOk_some k7).1 .nil)))))))), fun i => ?_⟩
    rcases i with _ | _ | _ | _ | _ | _ | _ | _ | i
    · exact (roOk_some k0).2
    · exact (roOk_some k1).2
    · exact (roOk_some k2).2
    · exact (roOk_some k3).2
    · exact (roOk_some k4).2
    · exact (roOk_some k5).2
    · exact (roOk_some k6).2
    · exact (roOk_some k7).2
    · exact Nat.zero_le _
  · cases h
theorem skIs_t {S : Nat → List UwE} (h : ∀ i, i < 8 → (S i).length ≤ 1000000) : skIs (skA S) = true := by
  have e : ∀ i, i < 8 → roOk (.ro (UE.con (S i)) none) = true := fun i hi => by
    show (UE.ok (UE.con (S i)) && Nat.ble (S i).length 1000000) = true
    rw [UE.ok_con, ble_t (h i hi)]; rfl
  show (true && (roOk (.ro (UE.con (S 0)) none) && (roOk (.ro (UE.con (S 1)) none) && (roOk (.ro (UE.con (S 2)) none) && (roOk (.ro (UE.con (S 3)) none) && (roOk (.ro (UE.con (S 4)) none) && (roOk (.ro (UE.con (S 5)) none) && (roOk (.ro (UE.con (S 6)) none) && (roOk (.ro (UE.con (S 7)) none) && true))))))))) = true
  rw [e 0 (by omega), e 1 (by omega), e 2 (by omega), e 3 (by omega), e 4 (by omega), e 5 (by omega), e 6 (by omega), e 7 (by omega)]; rfl
theorem skGet_eq (S : Nat → List UwE) : ∀ i, i < 8 → skGet (skA S) i = S i :=
  each8 (UE.list_con _) (UE.list_con _) (UE.list_con _) (UE.list_con _) (UE.list_con _) (UE.list_con _) (UE.list_con _) (UE.list_con _)
theorem stepU_congr {S T : Nat → List UwE} (h : ∀ i, i < 8 → S i = T i) (e : Evt) : ∀ i, i < 8 → stepU S e i = stepU T e i := by
  intro i hi
  unfold stepU
  cases ht : thrd e.th with
  | false => exact h i hi
  | true =>
    obtain ⟨t, ht', q⟩ := thrd_cast ht
    have e1 : e.th.toNat = t := by rw [q]; exact Int.toNat_natCast t
    have hst : ∀ t l, setS S t l i = setS T t l i := fun t l => by unfold setS; rw [h i hi]
    simp only [cond_true, e1, h t ht']
    cases e.k == 6 <;> simp only [cond_true, cond_false, hst]
    cases e.k == 7 <;> simp only [cond_true, cond_false, hst]
    cases e.k == 9 <;> simp only [cond_true, cond_false]
    · cases e.k == 10 <;> simp only [cond_true, cond_false, hst]
      cases e.k == 11 <;> simp only [cond_true, cond_false]
      · cases e.k == 12 <;> simp only [cond_true, cond_false, hst]
        cases e.k == 24 <;> simp only [cond_true, cond_false]
        exact h i hi
      · cases thrd e.n <;> simp only [cond_true, cond_false, hst]
        exact h i hi
    · cases e.a != 0 <;> simp only [cond_true, cond_false, hst]
      exact h i hi
theorem nzU_len : ∀ c ∈ nzU, c.len = 0 := by simp [nzU, Con.len, RowTy.con]
theorem Try.sum13 : SumC Try.prog 13 Try.A13 := by
  refine roSumR 13 ⟨Try.f13, _, Try.fnOk13.1, Try.fnOk13.2, rfl⟩ ?_
  intro args v h2 hs
  replace hs : (S13 (nzs nzU args)).run = some (v, h2) := hs
  have fin : Alone Try.prog 13 (nzs nzU args) v h2 ∧ ∀ e ∈ h2.es, ∃ k, e.blk = .cells k := by
    generalize nzs nzU args = args' at hs ⊢
    unfold S13 at hs
    split at hs
    · rename_i v0 k th pc a b n
      rw [Ans.run_grd] at hs
      cases hb : skIs v0 with
      | false => rw [hb] at hs; cases hs
      | true =>
        rw [hb, cond_true] at hs
        injection hs with hs
        injection hs with q1 q2
        subst q1; subst q2
        obtain ⟨a1, a2⟩ := skIs_some hb
        exact ⟨Alone.argsW (AWs.args (.cons a1 (AWs.refl _))) (Try.al13 (skGet v0) a2 ⟨k, th, pc, a, b, n⟩), fun e he => by cases he⟩
    · cases hs
  exact ⟨fin.2, fin.1.nz nzU_len⟩
end Go.Ev
/- The reference's put, handler, returned. -/
namespace Go.Ev
open Go.Proofs
end Go.Ev
/- The reference's Step. -/
namespace Go.Ev
open Go.Proofs
end Go.Ev
/- Events in a row: the reference's Stacks. -/
namespace Go.Ev
open Go.Proofs
def evZ : Evt := ⟨0, 0, 0, 0, 0, 0⟩
def evParse : List AV → Evt
  | [.val (.int .i64 k), .val (.int .i64 th), .val (.int .u32 pc), .val (.int .u32 a), .val (.int .u32 b), .val (.int .i64 n)] => ⟨k, th, pc, a, b, n⟩
  | _ => evZ
def evIs : List AV → Bool
  | [.val (.int .i64 k), .val (.int .i64 th), .val (.int .u32 pc), .val (.int .u32 a), .val (.int .u32 b), .val (.int .i64 n)] => true
  | _ => false
theorem ev_law (r : List AV) (h : evIs r = true) (j : Nat) (v' : AV) (hv : (evL (evParse r))[j]? = some v') : ∃ v, r[j]? = some v ∧ AW v v' := by
  unfold evIs at h
  split at h
  · exact ⟨v', hv, AW.refl _⟩
  · cases h
def EV : RowTy Evt := ⟨6, evL, evParse, evIs, evZ, ev_law, fun _ => rfl, fun _ => rfl⟩
def skCells (S : Nat → List UwE) : List AV := l8 (fun i => .ro (UE.con (S i)) none)
def skBlk (S : Nat → List UwE) : Blk := .cells (.rows true 1 (flatRows (skCells S)))
def nilBlk : Blk := .cells (.rows true 1 (flatRows (l8 (fun _ => .val (.slice none 0 0)))))
theorem setS_len (S : Nat → List UwE) (t : Nat) (l : List UwE) (i n : Nat) (h1 : l.length ≤ n) (h2 : (S i).length ≤ n) : (setS S t l i).length ≤ n := by
  unfold setS
  cases Nat.beq i t <;> assumption
theorem flat_w {l l' : List AV} (h : AWs l l') : ConW (.rows true 1 (flatRows l)) (.rows true 1 (flatRows l')) := by
  have hl : ∀ {l l' : List AV}, AWs l l' → l'.length = l.length := by
    intro l l' h
    induction h with
    | nil => rfl
    | cons _ _ ih => simp [ih]
  refine ⟨rfl, by show (flatRows l').length = (flatRows l).length; rw [flatRows_len, flatRows_len, hl h], fun i hi => ?_⟩
  show ∀ (j : Nat) (v' : AV), ((flatRows l').getD i [])[j]? = some v' → ∃ v, ((flatRows l).getD i [])[j]? = some v ∧ AW v v'
  clear hi hl
  induction h generalizing i with
  | nil => intro j v' hv; simp [flatRows, foldL] at hv
  | cons h1 _ ih =>
    cases i with
    | zero => intro j v' hv; exact AWs.get (.cons h1 .nil) j v' hv
    | succ i => exact ih i
theorem stepU_get (S : Nat → List UwE) (e : Evt) : ∀ i, i < 8 → stepU (skGet (skA S)) e i = stepU S e i := stepU_congr (skGet_eq S) e
theorem skBlk_congr {S T : Nat → List UwE} (h : ∀ i, i < 8 → S i = T i) : skBlk S = skBlk T := by
  unfold skBlk skCells l8
  simp only [h 0 (by omega), h 1 (by omega), h 2 (by omega), h 3 (by omega), h 4 (by omega), h 5 (by omega), h 6 (by omega), h 7 (by omega)]
end Go.Ev
/- Nil slices in the rows of a block, told as own blocks without cells. -/
namespace Go.Ev
end Go.Ev
