/- The evaluator, its soundness and the walks: part 9. -/
import Derived.Test.YtemblfgjamapbaaC8
set_option linter.unusedSectionVars false
set_option linter.unusedSimpArgs false
set_option linter.unusedVariables false
set_option maxRecDepth 100000
set_option maxRecDepth 1000000
noncomputable section
/- Stacks compared. -/
namespace Go.Ev
open Go.Proofs
def ueq (x y : UwE) : Bool := x.1 == y.1 && (x.2.1 == y.2.1 && (x.2.2.1 == y.2.2.1 && (x.2.2.2.1 == y.2.2.2.1 && (x.2.2.2.2 == y.2.2.2.2 && true))))
def isU32 : List AV → Bool
  | [.val (.int .u32 _)] => true
  | _ => false
theorem ueq_iff (x y : UwE) : ueq x y = true ↔ x = y := by
  obtain ⟨a, b, c, d, e⟩ := x
  obtain ⟨a', b', c', d', e'⟩ := y
  simp [ueq]
def Try.E33 : Env := Try.env0 false (sumsOf []) (keepF 33 [(4, [0, 1, 5])])
def Try.b33 : Code := nthD .skip (loopsOf (bodyOf Try.E33 33)) 0
def Try.V33 (L M : List UwE) (i : Int) : List AV := [.ro (UE.con L) none, .ro (UE.con M) none, .val (.int .i64 i)]
theorem Try.r33 (L M : List UwE) (i : Int) : codeS Try.E33 (callF Try.E33 5) (Try.E33.keep 33) (lsumsOf []) Try.b33 (outK [0, 1, 5] [4]) (stOf 26 [0, 1, 5] (Try.V33 L M i) ⟨0, []⟩) = eqRound UE ueq 26 [0, 1, 5] (Try.V33 L M) L M i := by kernel_rfl
theorem Try.e33 : EnvOk2 Try.prog Try.E33 := Try.envOk false (sumsOf []) _ (fun g A h => by cases h)
theorem Try.w33 (L M : List UwE) : rootS Try.E33 5 33 (lsumsOf [(4, eqL UE ueq 26 [0, 1, 5] (Try.V33 L M) L M)]) [.ro (UE.con L) none, .ro (UE.con M) none] = eqRun UE ueq 26 [0, 1, 5] (Try.V33 L M) L M := by kernel_rfl
def Try.A33 : AFun := eqqA UE ueq
theorem Try.sum33 : SumC Try.prog 33 Try.A33 := eq_sum Try.e33 (d := 5) (lid := 4) (c := Try.b33) ⟨Try.f33, _, Try.fnOk33.1, Try.fnOk33.2, rfl⟩ (by kernel_rfl) (by kernel_rfl) (by kernel_rfl) Try.V33 Try.r33 Try.w33
def Try.E15 : Env := Try.env0 false (sumsOf [(33, Try.A33)]) (keepF 15 [(2, [2, 3, 5])])
def okP (S T : Nat → List UwE) (i : Nat) : Bool := UE.ok (UE.con (S i)) && (UE.ok (UE.con (T i)) && Nat.ble (rl S i).length 1000000)
def eqP (S T : Nat → List UwE) (i : Nat) : Bool := eqD UE ueq (rl S i) (rl T i)
def chT (f q : Nat → Bool) (l : List Nat) : Option (AV × Heap) := List.rec (some (.val (.bool true), ⟨0, []⟩)) (fun i _ ih => bif f i then (bif q i then ih else some (.val (.bool false), ⟨0, []⟩)) else none) l
def n8 : List Nat := [0, 1, 2, 3, 4, 5, 6, 7]
theorem Try.x15 (S T : Nat → List UwE) : rootS Try.E15 5 15 (lsumsOf []) [skA S, skA T] = chT (okP S T) (eqP S T) n8 := by kernel_rfl
theorem chT_t {f q : Nat → Bool} (h : ∀ i, f i = true) : ∀ l, chT f q l = some (.val (.bool (l.all q)), ⟨0, []⟩)
  | [] => rfl
  | i :: l => by
    show (bif f i then (bif q i then chT f q l else some (.val (.bool false), ⟨0, []⟩)) else none) = _
    rw [h i, cond_true, chT_t h l, List.all_cons]
    cases q i <;> rfl
def roOk : AV → Bool
  | .ro c _ => UE.ok c && Nat.ble c.len 1000000
  | _ => false
def roGet : AV → List UwE
  | .ro c _ => UE.list c
  | _ => []
def skIs : AV → Bool
  | .agg l => Nat.beq l.length 8 && foldL true (fun v _ ih => roOk v && ih) l
  | _ => false
def skGet (v : AV) (i : Nat) : List UwE := roGet (nthD .unk v.cells i)
def same8 (S T : Nat → List UwE) : Bool := n8.all fun i => eqD UE ueq (S i) (T i)
def nzU : List Con := [UE.con [], UE.con []]
def S13 (args : List AV) : Ans (AV × Heap) := match args with
  | [v, .agg [.val (.int .i64 k), .val (.int .i64 th), .val (.int .u32 pc), .val (.int .u32 a), .val (.int .u32 b), .val (.int .i64 n)]] => .grd (skIs v) (.out (skA (stepU (skGet v) ⟨k, th, pc, a, b, n⟩), ⟨0, []⟩))
  | _ => .no
def S15 (args : List AV) : Ans (AV × Heap) := match args with
  | [v, w] => .grd (skIs v && skIs w) (.out (.val (.bool (same8 (skGet v) (skGet w))), ⟨0, []⟩))
  | _ => .no
def Try.A13 : AFun := roA (fun args => S13 (nzs nzU args))
def Try.A15 : AFun := pureA (fun args => S15 (nzs nzU args))
theorem same8_iff (S T : Nat → List UwE) : same8 S T = true ↔ ∀ i, i < 8 → S i = T i := by
  unfold same8 n8
  simp only [List.all_cons, List.all_nil, Bool.and_true, Bool.and_eq_true, eqD_iff ueq_iff]
  constructor
  · rintro ⟨h0, h1, h2, h3, h4, h5, h6, h7⟩
    exact each8 h0 h1 h2 h3 h4 h5 h6 h7
  · intro h
    exact ⟨h 0 (by omega), h 1 (by omega), h 2 (by omega), h 3 (by omega), h 4 (by omega), h 5 (by omega), h 6 (by omega), h 7 (by omega)⟩
theorem roOk_some {v : AV} (h : roOk v = true) : AW v (.ro (UE.con (roGet v)) none) ∧ (roGet v).length ≤ 1000000 := by
  cases v with
  | ro c cap =>
    unfold roOk at h
    rw [Bool.and_eq_true, Nat.ble_eq] at h
    exact ⟨UE.aw h.1 cap, by show (UE.list c).length ≤ _; rw [UE.list_len]; exact h.2⟩
  | _ => cases h
theorem skIs_some {v : AV} (h : skIs v = true) : AW v (skA (skGet v)) ∧ ∀ i, (skGet v i).length ≤ 1000000 := by
  unfold skIs at h
  split at h
  · rename_i l
    rw [Bool.and_eq_true] at h
    obtain ⟨h1, h2⟩ := h
    have h1 := Nat.eq_of_beq_eq_true h1
    obtain ⟨a0, a1, a2, a3, a4, a5, a6, a7, rfl⟩ : ∃ a0 a1 a2 a3 a4 a5 a6 a7, l = [a0, a1, a2, a3, a4, a5, a6, a7] := by
      rcases l with _ | ⟨a0, _ | ⟨a1, _ | ⟨a2, _ | ⟨a3, _ | ⟨a4, _ | ⟨a5, _ | ⟨a6, _ | ⟨a7, _ | ⟨a8, l⟩⟩⟩⟩⟩⟩⟩⟩⟩ <;> simp at h1
      exact ⟨a0, a1, a2, a3, a4, a5, a6, a7, rfl⟩
    have h3 : (roOk a0 && (roOk a1 && (roOk a2 && (roOk a3 && (roOk a4 && (roOk a5 && (roOk a6 && (roOk a7 && true)))))))) = true := h2
    simp only [Bool.and_eq_true, and_true] at h3
    obtain ⟨k0, k1, k2, k3, k4, k5, k6, k7⟩ := h3
    refine ⟨AW.agg (.cons (roOk_some k0).1 (.cons (roOk_some k1).1 (.cons (roOk_some k2).1 (.cons (roOk_some k3).1 (.cons (roOk_some k4).1 (.cons (roOk_some k5).1 (.cons (roOk_some k6).1 (.cons (roOk_some k7).1 .nil)))))))), fun i => ?_⟩
    rcases i with _ | _ | _ | _ | _ | _ | _ | _ | i
    · exact (roOk_some k0).2
    · exact (roOk_some k1).2
    · exact (roOk_some k2).2
    · exact (roOk_some k3).2
    · exact (roOk_some k4).2
    · exact (roOk_some k5).2
    · exact (roOk_some k6).2
    · exact (roOk_some k7).2
    · exact Nat.zero_le _
  · cases h
theorem skIs_t {S : Nat → List UwE} (h : ∀ i, i < 8 → (S i).length ≤ 1000000) : skIs (skA S) = true := by
  have e : ∀ i, i < 8 → roOk (.ro (UE.con (S i)) none) = true := fun i hi => by
    show (UE.ok (UE.con (S i)) && Nat.ble (S i).length 1000000) = true
    rw [UE.ok_con, ble_t (h i hi)]; rfl
  show (true && (roOk (.ro (UE.con (S 0)) none) && (roOk (.ro (UE.con (S 1)) none) && (roOk (.ro (UE.con (S 2)) none) && (roOk (.ro (UE.con (S 3)) none) && (roOk (.ro (UE.con (S 4)) none) && (roOk (.ro (UE.con (S 5)) none) && (roOk (.ro (UE.con (S 6)) none) && (roOk (.ro (UE.con (S 7)) none) && true))))))))) = true
  rw [e 0 (by omega), e 1 (by omega), e 2 (by omega), e 3 (by omega), e 4 (by omega), e 5 (by omega), e 6 (by omega), e 7 (by omega)]; rfl
theorem skGet_eq (S : Nat → List UwE) : ∀ i, i < 8 → skGet (skA S) i = S i :=
  each8 (UE.list_con _) (UE.list_con _) (UE.list_con _) (UE.list_con _) (UE.list_con _) (UE.list_con _) (UE.list_con _) (UE.list_con _)
theorem stepU_congr {S T : Nat → List UwE} (h : ∀ i, i < 8 → S i = T i) (e : Evt) : ∀ i, i < 8 → stepU S e i = stepU T e i := by
  intro i hi
  unfold stepU
  cases ht : thrd e.th with
  | false => exact h i hi
  | true =>
    obtain ⟨t, ht', q⟩ := thrd_cast ht
    have e1 : e.th.toNat = t := by rw [q]; exact Int.toNat_natCast t
    have hst : ∀ t l, setS S t l i = setS T t l i := fun t l => by unfold setS; rw [h i hi]
    simp only [cond_true, e1, h t ht']
    cases e.k == 6 <;> simp only [cond_true, cond_false, hst]
    cases e.k == 7 <;> simp only [cond_true, cond_false, hst]
    cases e.k == 9 <;> simp only [cond_true, cond_false]
    · cases e.k == 10 <;> simp only [cond_true, cond_false, hst]
      cases e.k == 11 <;> simp only [cond_true, cond_false]
      · cases e.k == 12 <;> simp only [cond_true, cond_false, hst]
        cases e.k == 24 <;> simp only [cond_true, cond_false]
        exact h i hi
      · cases thrd e.n <;> simp only [cond_true, cond_false, hst]
        exact h i hi
    · cases e.a != 0 <;> simp only [cond_true, cond_false, hst]
      exact h i hi
theorem same8_congr {S T S' T' : Nat → List UwE} (h : ∀ i, i < 8 → S i = S' i) (h' : ∀ i, i < 8 → T i = T' i) : same8 S T = same8 S' T' := by
  rw [Bool.eq_iff_iff, same8_iff, same8_iff]
  exact ⟨fun q i hi => by rw [← h i hi, ← h' i hi]; exact q i hi, fun q i hi => by rw [h i hi, h' i hi]; exact q i hi⟩
theorem nzU_len : ∀ c ∈ nzU, c.len = 0 := by simp [nzU, Con.len, RowTy.con]
theorem Try.sum13 : SumC Try.prog 13 Try.A13 := by
  refine roSumR 13 ⟨Try.f13, _, Try.fnOk13.1, Try.fnOk13.2, rfl⟩ ?_
  intro args v h2 hs
  replace hs : (S13 (nzs nzU args)).run = some (v, h2) := hs
  have fin : Alone Try.prog 13 (nzs nzU args) v h2 ∧ ∀ e ∈ h2.es, ∃ k, e.blk = .cells k := by
    generalize nzs nzU args = args' at hs ⊢
    unfold S13 at hs
    split at hs
    · rename_i v0 k th pc a b n
      rw [Ans.run_grd] at hs
      cases hb : skIs v0 with
      | false => rw [hb] at hs; cases hs
      | true =>
        rw [hb, cond_true] at hs
        injection hs with hs
        injection hs with q1 q2
        subst q1; subst q2
        obtain ⟨a1, a2⟩ := skIs_some hb
        exact ⟨Alone.argsW (AWs.args (.cons a1 (AWs.refl _))) (Try.al13 (skGet v0) a2 ⟨k, th, pc, a, b, n⟩), fun e he => by cases he⟩
    · cases hs
  exact ⟨fin.2, fin.1.nz nzU_len⟩
theorem Try.e15 : EnvOk2 Try.prog Try.E15 := Try.envOk false (sumsOf [(33, Try.A33)]) _ (sumsOf_ok (show AllS Try.prog [(33, Try.A33)] from ⟨Try.sum33, trivial⟩))
theorem okP_t {S T : Nat → List UwE} (h : ∀ i, (S i).length ≤ 1000000) (i : Nat) : okP S T i = true := by
  unfold okP; rw [UE.ok_con, UE.ok_con, rl_eq, ble_t (h i)]; rfl
theorem eqP_same (S T : Nat → List UwE) : n8.all (eqP S T) = same8 S T := by
  unfold eqP; simp only [rl_eq]; rfl
theorem same_sum {g : Nat} {fn : Func} {code : Code} (hg : Try.prog.funcs[g]? = some fn ∧ fn.name ≠ "runtime.NumGoroutine") (hc : fn.body = some code)
    (hal : ∀ S T, (∀ i, (S i).length ≤ 1000000) → Alone Try.prog g [skA S, skA T] (.val (.bool (same8 S T))) ⟨0, []⟩) : SumC Try.prog g Try.A15 := by
  refine pureSumR g ⟨fn, code, hg.1, hg.2, hc⟩ ?_
  intro args v h2 hs
  refine Alone.nz nzU_len ?_
  replace hs : (S15 (nzs nzU args)).run = some (v, h2) := hs
  generalize nzs nzU args = args' at hs ⊢
  unfold S15 at hs
  split at hs
  · rename_i v0 w0
    rw [Ans.run_grd] at hs
    cases hb : (skIs v0 && skIs w0) with
    | false => rw [hb] at hs; cases hs
    | true =>
      rw [hb, cond_true] at hs
      injection hs with hs
      injection hs with q1 q2
      subst q1; subst q2
      rw [Bool.and_eq_true] at hb
      obtain ⟨a1, a2⟩ := skIs_some hb.1
      obtain ⟨b1, b2⟩ := skIs_some hb.2
      exact Alone.argsW (AWs.args (.cons a1 (.cons b1 .nil))) (hal _ _ a2)
  · cases hs
theorem Try.sum15 : SumC Try.prog 15 Try.A15 := same_sum Try.fnOk15 rfl (fun S T hS => by
  refine rootS_alone Try.e15 (d := 5) (g := 15) (ls := lsumsOf []) (AllL.ls0 _) ((Try.x15 S T).trans ?_)
  rw [chT_t (okP_t hS), eqP_same])
end Go.Ev
/- The reference's put, handler, returned. -/
namespace Go.Ev
open Go.Proofs
end Go.Ev
/- The reference's Step. -/
namespace Go.Ev
open Go.Proofs
end Go.Ev
/- Events in a row: the reference's Stacks. -/
namespace Go.Ev
open Go.Proofs
def evZ : Evt := ⟨0, 0, 0, 0, 0, 0⟩
def evParse : List AV → Evt
  | [.val (.int .i64 k), .val (.int .i64 th), .val (.int .u32 pc), .val (.int .u32 a), .val (.int .u32 b), .val (.int .i64 n)] => ⟨k, th, pc, a, b, n⟩
  | _ => evZ
def evIs : List AV → Bool
  | [.val (.int .i64 k), .val (.int .i64 th), .val (.int .u32 pc), .val (.int .u32 a), .val (.int .u32 b), .val (.int .i64 n)] => true
  | _ => false
theorem ev_law (r : List AV) (h : evIs r = true) (j : Nat) (v' : AV) (hv : (evL (evParse r))[j]? = some v') : ∃ v, r[j]? = some v ∧ AW v v' := by
  unfold evIs at h
  split at h
  · exact ⟨v', hv, AW.refl _⟩
  · cases h
def EV : RowTy Evt := ⟨6, evL, evParse, evIs, evZ, ev_law, fun _ => rfl, fun _ => rfl⟩
def runN (l : List Evt) (k : Nat) : Nat → List UwE := Nat.rec (fun _ => []) (fun k S => stepU S (l.getD k EV.z)) k
def runE (l : List Evt) : Nat → List UwE := runN l l.length
def skCells (S : Nat → List UwE) : List AV := l8 (fun i => .ro (UE.con (S i)) none)
def skBlk (S : Nat → List UwE) : Blk := .cells (.rows true 1 (flatRows (skCells S)))
def nilBlk : Blk := .cells (.rows true 1 (flatRows (l8 (fun _ => .val (.slice none 0 0)))))
theorem setS_len (S : Nat → List UwE) (t : Nat) (l : List UwE) (i n : Nat) (h1 : l.length ≤ n) (h2 : (S i).length ≤ n) : (setS S t l i).length ≤ n := by
  unfold setS
  cases Nat.beq i t <;> assumption
theorem stepU_len (S : Nat → List UwE) (e : Evt) (i n : Nat) (h : ∀ i, (S i).length ≤ n) : (stepU S e i).length ≤ n + 1 := by
  have h0 : (S i).length ≤ n + 1 := Nat.le_succ_of_le (h i)
  have ha : ∀ (t : Nat) (x : UwE), (setS S t (S t ++ [x]) i).length ≤ n + 1 := fun t x => setS_len _ _ _ _ _ (by rw [List.length_append]; have := h t; simp; omega) h0
  have ht : ∀ t m, (setS S t ((S t).take m) i).length ≤ n + 1 := fun t m => setS_len _ _ _ _ _ (by rw [List.length_take]; have := h t; omega) h0
  have hn : ∀ t, (setS S t [] i).length ≤ n + 1 := fun t => setS_len _ _ _ _ _ (Nat.zero_le _) h0
  unfold stepU
  cases thrd e.th <;> simp only [cond_true, cond_false]
  · exact h0
  cases e.k == 6 <;> simp only [cond_true, cond_false, ha]
  cases e.k == 7 <;> simp only [cond_true, cond_false, ht]
  cases e.k == 9 <;> simp only [cond_true, cond_false]
  · cases e.k == 10 <;> simp only [cond_true, cond_false, ht]
    cases e.k == 11 <;> simp only [cond_true, cond_false]
    · cases e.k == 12 <;> simp only [cond_true, cond_false, hn]
      cases e.k == 24 <;> simp only [cond_true, cond_false]
      · exact h0
      · exact Nat.zero_le _
    · cases thrd e.n <;> simp only [cond_true, cond_false, hn]
      exact h0
  · cases e.a != 0 <;> simp only [cond_true, cond_false, ha]
    exact h0
theorem runN_len (l : List Evt) : ∀ k i, (runN l k i).length ≤ k
  | 0, i => Nat.zero_le _
  | k + 1, i => stepU_len _ _ i k (runN_len l k)
theorem stepU_get (S : Nat → List UwE) (e : Evt) : ∀ i, i < 8 → stepU (skGet (skA S)) e i = stepU S e i := stepU_congr (skGet_eq S) e
def nzV : List Con := [EV.con []]
def S17 (args : List AV) : Ans (AV × Heap) := match args with
  | [.ro c cap] => .grd (EV.ok c && Nat.ble c.len 1000000) (.out (.tup [skA (runE (EV.list c)), .val (.int .i64 0)], ⟨0, []⟩))
  | _ => .no
def Try.A17 : AFun := roA (fun args => S17 (nzs nzV args))
theorem stacks_sum {g : Nat} {fn : Func} {code : Code} (hg : Try.prog.funcs[g]? = some fn ∧ fn.name ≠ "runtime.NumGoroutine") (hc : fn.body = some code)
    (hal : ∀ l : List Evt, l.length ≤ 1000000 → Alone Try.prog g [.ro (EV.con l) none] (.tup [skA (runE l), .val (.int .i64 0)]) ⟨0, []⟩) : SumC Try.prog g Try.A17 := by
  refine roSumR g ⟨fn, code, hg.1, hg.2, hc⟩ ?_
  intro args v h2 hs
  replace hs : (S17 (nzs nzV args)).run = some (v, h2) := hs
  have fin : Alone Try.prog g (nzs nzV args) v h2 ∧ ∀ e ∈ h2.es, ∃ k, e.blk = .cells k := by
    generalize nzs nzV args = args' at hs ⊢
    unfold S17 at hs
    split at hs
    · rename_i c cap
      rw [Ans.run_grd] at hs
      cases hb : (EV.ok c && Nat.ble c.len 1000000) with
      | false => rw [hb] at hs; cases hs
      | true =>
        rw [hb, cond_true] at hs
        injection hs with hs
        injection hs with q1 q2
        subst q1; subst q2
        rw [Bool.and_eq_true, Nat.ble_eq] at hb
        exact ⟨Alone.argsW (AWs.args (.cons (EV.aw hb.1 _) .nil)) (hal _ (by rw [EV.list_len]; exact hb.2)), fun e he => by cases he⟩
    · cases hs
  exact ⟨fin.2, fin.1.nz (by simp [nzV, Con.len, RowTy.con])⟩
end Go.Ev
/- Nil slices in the rows of a block, told as own blocks without cells. -/
namespace Go.Ev
theorem WeakP.nilRows {p : Nat} {t : List AV} {d : List Nat} {n : Nat} (es1 es2 : List Ent) {i0 v0 w : Nat} {p0 : Bool} {l l' : List (List AV)} {con : Con} (hk : (⟨n, es1 ++ ⟨i0, v0, .cells (.rows p0 w l)⟩ :: es2⟩ : Heap).ok) (h0 : con.len = 0) (hl : l'.length = l.length) (hr' : ∀ i, NilL n con.wd (l.getD i []) (l'.getD i [])) :
    WeakP p ⟨t, d, ⟨n, es1 ++ ⟨i0, v0, .cells (.rows p0 w l)⟩ :: es2⟩⟩ ⟨t, d, ⟨n + 1, ⟨n, 0, .cells con⟩ :: (es1 ++ ⟨i0, v0, .cells (.rows false w l')⟩ :: es2)⟩⟩ := by
  have hfind : ∀ j, findE (es1 ++ ⟨i0, v0, .cells (.rows false w l')⟩ :: es2) j = (findE (es1 ++ ⟨i0, v0, .cells (.rows p0 w l)⟩ :: es2) j) ∨
      (∃ e, findE (es1 ++ ⟨i0, v0, .cells (.rows p0 w l)⟩ :: es2) j = some e ∧ e.blk = .cells (.rows p0 w l) ∧ findE (es1 ++ ⟨i0, v0, .cells (.rows false w l')⟩ :: es2) j = some ⟨i0, v0, .cells (.rows false w l')⟩) := by
    intro j
    simp only [findE_append, findE_cons]
    cases findE es1 j with
    | some e => exact .inl rfl
    | none =>
      by_cases q : i0 = j
      · rw [if_pos q, if_pos q]
        exact .inr ⟨_, rfl, rfl, rfl⟩
      · rw [if_neg q, if_neg q]
        exact .inl rfl
  have hsome : ∀ j e', findE (es1 ++ ⟨i0, v0, .cells (.rows false w l')⟩ :: es2) j = some e' → j < n := by
    intro j e' h
    rcases hfind j with q | ⟨e, q, _, _⟩
    · rw [q] at h; exact hk.lt j e' h
    · exact hk.lt j e q
  have hok : (⟨n + 1, ⟨n, 0, .cells con⟩ :: (es1 ++ ⟨i0, v0, .cells (.rows false w l')⟩ :: es2)⟩ : Heap).ok := by
    refine ⟨?_, fun j e h => ?_⟩
    · have hu := hk.uniq
      unfold Uniq at *
      rw [List.map_cons, List.nodup_cons]
      have e1 : (es1 ++ ⟨i0, v0, .cells (.rows false w l')⟩ :: es2).map (·.id) = (es1 ++ ⟨i0, v0, .cells (.rows p0 w l)⟩ :: es2).map (·.id) := by simp
      rw [e1]
      refine ⟨fun hm => ?_, hu⟩
      obtain ⟨x, hx, hxn⟩ := List.mem_map.1 hm
      have := hk.lt x.id x (findE_mem hk.uniq hx)
      simp only at hxn this
      omega
    · rw [findE_cons] at h
      split at h
      · rename_i q
        have q' : n = j := q
        show j < n + 1; omega
      · have := hsome j e h
        show j < n + 1; omega
  refine ⟨hok, fun w0 c a hr hv => ?_⟩
  have hv : ∀ id, c.V id → id < n := hv
  have hnv : ¬ c.V n := fun q => Nat.lt_irrefl _ (hv _ q)
  have hne : ∀ i, c.V i → i ≠ n := fun i hi e => hnv (e ▸ hi)
  let c2 : Cx := ⟨c.M, c.O, fun j => if j = n then ⟨false, 0, 0, con.wd, 0⟩ else c.ι j, fun j => c.V j ∨ j = n⟩
  have hx : Ext w0 c w0 c2 := ⟨⟨fun _ q => q, fun _ _ _ => rfl, fun i hi => ⟨.inl hi, if_neg (hne i hi)⟩⟩, rfl, rfl, rfl, Nat.le_refl _, fun _ _ _ => rfl, fun _ _ q => q, fun _ _ q => q, fun _ q q' => absurd q q'⟩
  have hι : c2.ι n = ⟨false, 0, 0, con.wd, 0⟩ := if_pos rfl
  have hG : ∀ i b, (⟨n + 1, ⟨n, 0, .cells con⟩ :: (es1 ++ ⟨i0, v0, .cells (.rows false w l')⟩ :: es2)⟩ : Heap).G i = some b → (i = n ∧ b = .cells con) ∨ (i ≠ n ∧ ((⟨n, es1 ++ ⟨i0, v0, .cells (.rows p0 w l)⟩ :: es2⟩ : Heap).G i = some b ∨
      ((⟨n, es1 ++ ⟨i0, v0, .cells (.rows p0 w l)⟩ :: es2⟩ : Heap).G i = some (.cells (.rows p0 w l)) ∧ b = .cells (.rows false w l')))) := by
    intro i b hb
    simp only [Heap.G] at hb ⊢
    rw [findE_cons] at hb
    split at hb
    · rename_i q
      simp only [Option.map_some, Option.some.injEq] at hb
      exact .inl ⟨q.symm, hb.symm⟩
    · rename_i q
      refine .inr ⟨fun e => q e.symm, ?_⟩
      rcases hfind i with z | ⟨e, z1, z2, z3⟩
      · rw [z] at hb; exact .inl hb
      · rw [z3] at hb
        simp only [Option.map_some, Option.some.injEq] at hb
        exact .inr ⟨by rw [z1]; simp [z2], hb.symm⟩
  have old : ∀ i b, i ≠ n → (⟨n + 1, ⟨n, 0, .cells con⟩ :: (es1 ++ ⟨i0, v0, .cells (.rows false w l')⟩ :: es2)⟩ : Heap).G i = some b → ∃ b0, (⟨n, es1 ++ ⟨i0, v0, .cells (.rows p0 w l)⟩ :: es2⟩ : Heap).G i = some b0 := by
    intro i b hi hb
    rcases hG i b hb with ⟨q, _⟩ | ⟨_, q | ⟨q, _⟩⟩
    · exact absurd q hi
    · exact ⟨_, q⟩
    · exact ⟨_, q⟩
  refine ⟨c2, ⟨VRs.mono hx.toExt0 hr.t, ?_, ?_, fun id hid => .inl (hr.dv id hid)⟩, hx.w, ?_, fun i _ hi => ⟨.inl hi, if_neg (hne i hi)⟩⟩
  · refine ⟨?_, ?_, ?_, hr.h.dis⟩
    · intro i b hb
      by_cases q : i = n
      · exact .inr q
      · obtain ⟨b0, hb0⟩ := old i b q hb
        exact .inl (hr.h.valid i b0 hb0)
    · intro i b hb
      rcases hG i b hb with ⟨rfl, rfl⟩ | ⟨q, hb1 | ⟨hb1, rfl⟩⟩
      · rw [hι]
        exact ⟨rfl, fun _ => h0, fun q => (by cases q), fun q => (by cases q)⟩
      · rw [show c2.ι i = c.ι i from if_neg q]
        exact BlkRel.keep hx.toExt0 (hr.h.blk i b hb1) (fun _ => rfl) (fun hl => (hr.h.blk i b hb1).owned hl)
      · rw [show c2.ι i = c.ι i from if_neg q]
        have hb0 : CellsRel w0 c (c.ι i) (.rows p0 w l) := hr.h.blk i _ hb1
        refine ⟨hb0.wd, fun q => by show l'.length = 0; rw [hl]; exact hb0.dead q, hb0.own, fun lv => ?_⟩
        obtain ⟨arr, te, fz, a1, a2, a3, a4, a5, a6⟩ := hb0.arr lv
        refine ⟨arr, te, fz, a1, a2, a3, a4, by show _ + l'.length * _ ≤ _; rw [hl]; exact a5, ?_⟩
        intro k j v' u hk2 hj hv' hu
        have hk3 : k < l.length := by rw [← hl]; exact hk2
        have hv2 : (l'.getD k [])[j]? = some v' := hv'
        obtain ⟨v, e1, e2⟩ := (hr' k).get j v' hv2
        have hold : VR w0 c v u := VR.lower (a6 k j v u hk3 hj e1 hu)
        rcases e2 with rfl | ⟨rfl, rfl⟩
        · exact VR.mono hx.toExt0 hold
        · have hu0 := hold.val_inv
          subst hu0
          exact .own _ _ _ _ _ none 0 (.inr rfl) (by show (c2.ι n).wd = con.wd; rw [hι]) (Nat.le_refl _) (fun _ q => by cases q) (.inl rfl)
    · intro i j b b' hi hj li lj hbk
      have qi : i ≠ n := fun q => by rw [q, hι] at li; cases li
      have qj : j ≠ n := fun q => by rw [q, hι] at lj; cases lj
      obtain ⟨b1, h1⟩ := old i b qi hi
      obtain ⟨b2, h2⟩ := old j b' qj hj
      rw [show c2.ι i = c.ι i from if_neg qi] at li hbk
      rw [show c2.ι j = c.ι j from if_neg qj] at lj hbk
      exact hr.h.inj i j b1 b2 h1 h2 li lj hbk
  · show a.defers = marks c2 d
    rw [hr.d, marks_ids hx.ids hr.dv]
  · rintro id (q | q)
    · exact Nat.lt_succ_of_lt (hv id q)
    · rw [q]; exact Nat.lt_succ_self _
end Go.Ev
