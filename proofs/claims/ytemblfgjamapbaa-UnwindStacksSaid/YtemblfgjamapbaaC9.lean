/- The evaluator, its soundness and the walks: part 9. -/
import Derived.Test.YtemblfgjamapbaaC8
set_option linter.unusedSectionVars false
set_option linter.unusedSimpArgs false
set_option linter.unusedVariables false
set_option maxRecDepth 100000
set_option maxRecDepth 1000000
noncomputable section
/- Stacks compared. -/
namespace Go.Ev
open Go.Proofs
def ueq (x y : UwE) : Bool := x.1 == y.1 && (x.2.1 == y.2.1 && (x.2.2.1 == y.2.2.1 && (x.2.2.2.1 == y.2.2.2.1 && (x.2.2.2.2 == y.2.2.2.2 && true))))
def u32Row (x : Int) : List AV := [.val (.int .u32 x)]
def isU32 : List AV → Bool
  | [.val (.int .u32 _)] => true
  | _ => false
theorem u32_law (r : List AV) (h : isU32 r = true) (j : Nat) (v' : AV) (hv : (u32Row (cellI r))[j]? = some v') : ∃ v, r[j]? = some v ∧ AW v v' := by
  unfold isU32 at h
  split at h
  · exact ⟨v', hv, AW.refl _⟩
  · cases h
def U3 : RowTy Int := ⟨1, u32Row, cellI, isU32, 0, u32_law, fun _ => rfl, fun _ => rfl⟩
theorem ueq_iff (x y : UwE) : ueq x y = true ↔ x = y := by
  obtain ⟨a, b, c, d, e⟩ := x
  obtain ⟨a', b', c', d', e'⟩ := y
  simp [ueq]
def ieq (x y : Int) : Bool := !(x != y)
theorem ieq_iff (x y : Int) : ieq x y = true ↔ x = y := by simp [ieq, bne]
def Try.E33 : Env := Try.env0 false (sumsOf []) (keepF 33 [(4, [0, 1, 5])])
def Try.E54 : Env := Try.env0 false (sumsOf []) (keepF 54 [(4, [0, 1, 12, 13])])
def Try.E18 : Env := Try.env0 false (sumsOf []) (keepF 18 [(4, [0, 1, 12, 13])])
def Try.b33 : Code := nthD .skip (loopsOf (bodyOf Try.E33 33)) 0
def Try.b54 : Code := nthD .skip (loopsOf (bodyOf Try.E54 54)) 0
def Try.b18 : Code := nthD .skip (loopsOf (bodyOf Try.E18 18)) 0
def Try.V33 (L M : List UwE) (i : Int) : List AV := [.ro (UE.con L) none, .ro (UE.con M) none, .val (.int .i64 i)]
def Try.V54 (L M : List UwE) (i : Int) : List AV := [.ro (UE.con L) none, .ro (UE.con M) none, .val (.int .i64 L.length), .val (.int .i64 i)]
def Try.V18 (L M : List Int) (i : Int) : List AV := [.ro (U3.con L) none, .ro (U3.con M) none, .val (.int .i64 L.length), .val (.int .i64 i)]
theorem Try.r33 (L M : List UwE) (i : Int) : codeS Try.E33 (callF Try.E33 5) (Try.E33.keep 33) (lsumsOf []) Try.b33 (outK [0, 1, 5] [4]) (stOf 26 [0, 1, 5] (Try.V33 L M i) ⟨0, []⟩) = eqRound UE ueq 26 [0, 1, 5] (Try.V33 L M) L M i := by kernel_rfl
theorem Try.r54 (L M : List UwE) (i : Int) : codeS Try.E54 (callF Try.E54 5) (Try.E54.keep 54) (lsumsOf []) Try.b54 (outK [0, 1, 12, 13] [4]) (stOf 26 [0, 1, 12, 13] (Try.V54 L M i) ⟨0, []⟩) = eqRound UE ueq 26 [0, 1, 12, 13] (Try.V54 L M) L M i := by kernel_rfl
theorem Try.r18 (L M : List Int) (i : Int) : codeS Try.E18 (callF Try.E18 5) (Try.E18.keep 18) (lsumsOf []) Try.b18 (outK [0, 1, 12, 13] [4]) (stOf 26 [0, 1, 12, 13] (Try.V18 L M i) ⟨0, []⟩) = eqRound U3 (fun x y => !(x != y)) 26 [0, 1, 12, 13] (Try.V18 L M) L M i := by
  have key : codeS Try.E18 (callF Try.E18 5) (Try.E18.keep 18) (lsumsOf []) Try.b18 (outK [0, 1, 12, 13] [4]) (stOf 26 [0, 1, 12, 13] (Try.V18 L M i) ⟨0, []⟩) =
    bif decide (i < (L.length : Int)) then (bif inR i L.length then (bif inR i M.length then (bif (L.getD i.toNat 0) != (M.getD i.toNat 0) then some (.ret, stOf 26 [4] [.val (.bool false)] ⟨0, []⟩)
     else some (.normal, stOf 26 [0, 1, 12, 13] (Try.V18 L M (IntKind.i64.wrap (i + 1))) ⟨0, []⟩)) else none) else none) else some (.exit 0, stOf 26 [] [] ⟨0, []⟩) := by kernel_rfl
  rw [key]
  unfold eqRound
  show _ = bif decide (i < (L.length : Int)) then (bif inR i L.length then (bif inR i M.length then (bif !(!((L.getD i.toNat 0) != (M.getD i.toNat 0))) then _ else _) else none) else none) else _
  rw [Bool.not_not]
theorem Try.e33 : EnvOk2 Try.prog Try.E33 := Try.envOk false (sumsOf []) _ (fun g A h => by cases h)
theorem Try.e54 : EnvOk2 Try.prog Try.E54 := Try.envOk false (sumsOf []) _ (fun g A h => by cases h)
theorem Try.e18 : EnvOk2 Try.prog Try.E18 := Try.envOk false (sumsOf []) _ (fun g A h => by cases h)
theorem Try.w33 (L M : List UwE) : rootS Try.E33 5 33 (lsumsOf [(4, eqL UE ueq 26 [0, 1, 5] (Try.V33 L M) L M)]) [.ro (UE.con L) none, .ro (UE.con M) none] = eqRun UE ueq 26 [0, 1, 5] (Try.V33 L M) L M := by kernel_rfl
theorem Try.w54 (L M : List UwE) : rootS Try.E54 5 54 (lsumsOf [(4, eqL UE ueq 26 [0, 1, 12, 13] (Try.V54 L M) L M)]) [.ro (UE.con L) none, .ro (UE.con M) none] = eqRun UE ueq 26 [0, 1, 12, 13] (Try.V54 L M) L M := by kernel_rfl
theorem Try.w18 (L M : List Int) : rootS Try.E18 5 18 (lsumsOf [(4, eqL U3 (fun x y => !(x != y)) 26 [0, 1, 12, 13] (Try.V18 L M) L M)]) [.ro (U3.con L) none, .ro (U3.con M) none] = eqRun U3 (fun x y => !(x != y)) 26 [0, 1, 12, 13] (Try.V18 L M) L M := by kernel_rfl
def Try.A33 : AFun := eqqA UE ueq
def Try.A18 : AFun := eqqA U3 (fun x y => !(x != y))
theorem Try.sum33 : SumC Try.prog 33 Try.A33 := eq_sum Try.e33 (d := 5) (lid := 4) (c := Try.b33) ⟨Try.f33, _, Try.fnOk33.1, Try.fnOk33.2, rfl⟩ (by kernel_rfl) (by kernel_rfl) (by kernel_rfl) Try.V33 Try.r33 Try.w33
theorem Try.sum54 : SumC Try.prog 54 Try.A33 := eq_sum Try.e54 (d := 5) (lid := 4) (c := Try.b54) ⟨Try.f54, _, Try.fnOk54.1, Try.fnOk54.2, rfl⟩ (by kernel_rfl) (by kernel_rfl) (by kernel_rfl) Try.V54 Try.r54 Try.w54
theorem Try.sum18 : SumC Try.prog 18 Try.A18 := eq_sum Try.e18 (d := 5) (lid := 4) (c := Try.b18) ⟨Try.f18, _, Try.fnOk18.1, Try.fnOk18.2, rfl⟩ (by kernel_rfl) (by kernel_rfl) (by kernel_rfl) Try.V18 Try.r18 Try.w18
def Try.E15 : Env := Try.env0 false (sumsOf [(33, Try.A33)]) (keepF 15 [(2, [2, 3, 5])])
def Try.E21 : Env := Try.env0 false (sumsOf [(54, Try.A33)]) (keepF 21 [(2, [2, 3, 6])])
def Try.E11 : Env := Try.env0 false (sumsOf []) (keepF 11 [(2, [1, 3])])
def okP (S T : Nat → List UwE) (i : Nat) : Bool := UE.ok (UE.con (S i)) && (UE.ok (UE.con (T i)) && Nat.ble (rl S i).length 1000000)
def eqP (S T : Nat → List UwE) (i : Nat) : Bool := eqD UE ueq (rl S i) (rl T i)
def chT (f q : Nat → Bool) (l : List Nat) : Option (AV × Heap) := List.rec (some (.val (.bool true), ⟨0, []⟩)) (fun i _ ih => bif f i then (bif q i then ih else some (.val (.bool false), ⟨0, []⟩)) else none) l
def chX (q : Nat → Bool) (l : List Nat) : Option (AV × Heap) := List.rec (some (.val (.bool true), ⟨0, []⟩)) (fun i _ ih => bif q i then some (.val (.bool false), ⟨0, []⟩) else ih) l
def n8 : List Nat := [0, 1, 2, 3, 4, 5, 6, 7]
theorem Try.x15 (S T : Nat → List UwE) : rootS Try.E15 5 15 (lsumsOf []) [skA S, skA T] = chT (okP S T) (eqP S T) n8 := by kernel_rfl
theorem Try.x21 (S T : Nat → List UwE) : rootS Try.E21 5 21 (lsumsOf []) [skA S, skA T] = chT (okP S T) (eqP S T) n8 := by kernel_rfl
theorem Try.x11 (S : Nat → List UwE) : rootS Try.E11 5 11 (lsumsOf []) [skA S] = chX (fun i => decide (((S i).length : Int) > 300)) n8 := by kernel_rfl
theorem chT_t {f q : Nat → Bool} (h : ∀ i, f i = true) : ∀ l, chT f q l = some (.val (.bool (l.all q)), ⟨0, []⟩)
  | [] => rfl
  | i :: l => by
    show (bif f i then (bif q i then chT f q l else some (.val (.bool false), ⟨0, []⟩)) else none) = _
    rw [h i, cond_true, chT_t h l, List.all_cons]
    cases q i <;> rfl
theorem chX_t {q : Nat → Bool} : ∀ l, chX q l = some (.val (.bool (l.all fun i => !(q i))), ⟨0, []⟩)
  | [] => rfl
  | i :: l => by
    show (bif q i then some (.val (.bool false), ⟨0, []⟩) else chX q l) = _
    rw [chX_t l, List.all_cons]
    cases q i <;> rfl
def roOk : AV → Bool
  | .ro c _ => UE.ok c && Nat.ble c.len 1000000
  | _ => false
def roGet : AV → List UwE
  | .ro c _ => UE.list c
  | _ => []
def skIs : AV → Bool
  | .agg l => Nat.beq l.length 8 && foldL true (fun v _ ih => roOk v && ih) l
  | _ => false
def skGet (v : AV) (i : Nat) : List UwE := roGet (nthD .unk v.cells i)
def same8 (S T : Nat → List UwE) : Bool := n8.all fun i => eqD UE ueq (S i) (T i)
def few8 (S : Nat → List UwE) : Bool := n8.all fun i => !decide (((S i).length : Int) > 300)
def nzU : List Con := [UE.con [], UE.con []]
def S13 (args : List AV) : Ans (AV × Heap) := match args with
  | [v, .agg [.val (.int .i64 k), .val (.int .i64 th), .val (.int .u32 pc), .val (.int .u32 a), .val (.int .u32 b), .val (.int .i64 n)]] => .grd (skIs v) (.out (skA (stepU (skGet v) ⟨k, th, pc, a, b, n⟩), ⟨0, []⟩))
  | _ => .no
def S15 (args : List AV) : Ans (AV × Heap) := match args with
  | [v, w] => .grd (skIs v && skIs w) (.out (.val (.bool (same8 (skGet v) (skGet w))), ⟨0, []⟩))
  | _ => .no
def roIs : AV → Bool
  | .ro c _ => UE.ok c
  | _ => false
def skOk : AV → Bool
  | .agg l => Nat.beq l.length 8 && foldL true (fun v _ ih => roIs v && ih) l
  | _ => false
def S11 (args : List AV) : Ans (AV × Heap) := match args with
  | [v] => .grd (skOk v) (.out (.val (.bool (few8 (skGet v))), ⟨0, []⟩))
  | _ => .no
def Try.A13 : AFun := roA (fun args => S13 (nzs nzU args))
def Try.A15 : AFun := pureA (fun args => S15 (nzs nzU args))
def Try.A11 : AFun := pureA (fun args => S11 (nzs nzU args))
theorem same8_iff (S T : Nat → List UwE) : same8 S T = true ↔ ∀ i, i < 8 → S i = T i := by
  unfold same8 n8
  simp only [List.all_cons, List.all_nil, Bool.and_true, Bool.and_eq_true, eqD_iff ueq_iff]
  constructor
  · rintro ⟨h0, h1, h2, h3, h4, h5, h6, h7⟩
    exact each8 h0 h1 h2 h3 h4 h5 h6 h7
  · intro h
    exact ⟨h 0 (by omega), h 1 (by omega), h 2 (by omega), h 3 (by omega), h 4 (by omega), h 5 (by omega), h 6 (by omega), h 7 (by omega)⟩
theorem few8_iff (S : Nat → List UwE) : few8 S = true ↔ ∀ i, i < 8 → (S i).length ≤ 300 := by
  have e : ∀ n : Nat, ((!decide ((n : Int) > 300)) = true) ↔ n ≤ 300 := fun n => by simp; omega
  unfold few8 n8
  simp only [List.all_cons, List.all_nil, Bool.and_true, Bool.and_eq_true, e]
  constructor
  · rintro ⟨h0, h1, h2, h3, h4, h5, h6, h7⟩
    exact each8 h0 h1 h2 h3 h4 h5 h6 h7
  · intro h
    exact ⟨h 0 (by omega), h 1 (by omega), h 2 (by omega), h 3 (by omega), h 4 (by omega), h 5 (by omega), h 6 (by omega), h 7 (by omega)⟩
theorem roOk_some {v : AV} (h : roOk v = true) : AW v (.ro (UE.con (roGet v)) none) ∧ (roGet v).length ≤ 1000000 := by
  cases v with
  | ro c cap =>
    unfold roOk at h
    rw [Bool.and_eq_true, Nat.ble_eq] at h
    exact ⟨UE.aw h.1 cap, by show (UE.list c).length ≤ _; rw [UE.list_len]; exact h.2⟩
  | _ => cases h
theorem skIs_some {v : AV} (h : skIs v = true) : AW v (skA (skGet v)) ∧ ∀ i, (skGet v i).length ≤ 1000000 := by
  unfold skIs at h
  split at h
  · rename_i l
    rw [Bool.and_eq_true] at h
    obtain ⟨h1, h2⟩ := h
    have h1 := Nat.eq_of_beq_eq_true h1
    obtain ⟨a0, a1, a2, a3, a4, a5, a6, a7, rfl⟩ : ∃ a0 a1 a2 a3 a4 a5 a6 a7, l = [a0, a1, a2, a3, a4, a5, a6, a7] := by
      rcases l with _ | ⟨a0, _ | ⟨a1, _ | ⟨a2, _ | ⟨a3, _ | ⟨a4, _ | ⟨a5, _ | ⟨a6, _ | ⟨a7, _ | ⟨a8, l⟩⟩⟩⟩⟩⟩⟩⟩⟩ <;> simp at h1
      exact ⟨a0, a1, a2, a3, a4, a5, a6, a7, rfl⟩
    have h3 : (roOk a0 && (roOk a1 && (roOk a2 && (roOk a3 && (roOk a4 && (roOk a5 && (roOk a6 && (roOk a7 && true)))))))) = true := h2
    simp only [Bool.and_eq_true, and_true] at h3
    obtain ⟨k0, k1, k2, k3, k4, k5, k6, k7⟩ := h3
    refine ⟨AW.agg (.cons (roOk_some k0).1 (.cons (roOk_some k1).1 (.cons (roOk_some k2).1 (.cons (roOk_some k3).1 (.cons (roOk_some k4).1 (.cons (roOk_some k5).1 (.cons (roOk_some k6).1 (.cons (roOk_some k7).1 .nil)))))))), fun i => ?_⟩
    rcases i with _ | _ | _ | _ | _ | _ | _ | _ | i
    · exact (roOk_some k0).2
    · exact (roOk_some k1).2
    · exact (roOk_some k2).2
    · exact (roOk_some k3).2
    · exact (roOk_some k4).2
    · exact (roOk_some k5).2
    · exact (roOk_some k6).2
    · exact (roOk_some k7).2
    · exact Nat.zero_le _
  · cases h
theorem roIs_some {v : AV} (h : roIs v = true) : AW v (.ro (UE.con (roGet v)) none) := by
  cases v with
  | ro c cap => exact UE.aw h cap
  | _ => cases h
theorem skOk_some {v : AV} (h : skOk v = true) : AW v (skA (skGet v)) := by
  unfold skOk at h
  split at h
  · rename_i l
    rw [Bool.and_eq_true] at h
    obtain ⟨h1, h2⟩ := h
    have h1 := Nat.eq_of_beq_eq_true h1
    obtain ⟨a0, a1, a2, a3, a4, a5, a6, a7, rfl⟩ : ∃ a0 a1 a2 a3 a4 a5 a6 a7, l = [a0, a1, a2, a3, a4, a5, a6, a7] := by
      rcases l with _ | ⟨a0, _ | ⟨a1, _ | ⟨a2, _ | ⟨a3, _ | ⟨a4, _ | ⟨a5, _ | ⟨a6, _ | ⟨a7, _ | ⟨a8, l⟩⟩⟩⟩⟩⟩⟩⟩⟩ <;> simp at h1
      exact ⟨a0, a1, a2, a3, a4, a5, a6, a7, rfl⟩
    have h3 : (roIs a0 && (roIs a1 && (roIs a2 && (roIs a3 && (roIs a4 && (roIs a5 && (roIs a6 && (roIs a7 && true)))))))) = true := h2
    simp only [Bool.and_eq_true, and_true] at h3
    obtain ⟨k0, k1, k2, k3, k4, k5, k6, k7⟩ := h3
    exact AW.agg (.cons (roIs_some k0) (.cons (roIs_some k1) (.cons (roIs_some k2) (.cons (roIs_some k3) (.cons (roIs_some k4) (.cons (roIs_some k5) (.cons (roIs_some k6) (.cons (roIs_some k7) .nil))))))))
  · cases h
theorem skOk_t (S : Nat → List UwE) : skOk (skA S) = true := by
  have e : ∀ i, roIs (.ro (UE.con (S i)) none) = true := fun i => UE.ok_con (S i)
  show (true && (roIs (.ro (UE.con (S 0)) none) && (roIs (.ro (UE.con (S 1)) none) && (roIs (.ro (UE.con (S 2)) none) && (roIs (.ro (UE.con (S 3)) none) && (roIs (.ro (UE.con (S 4)) none) && (roIs (.ro (UE.con (S 5)) none) && (roIs (.ro (UE.con (S 6)) none) && (roIs (.ro (UE.con (S 7)) none) && true))))))))) = true
  rw [e, e, e, e, e, e, e, e]; rfl
theorem skIs_t {S : Nat → List UwE} (h : ∀ i, i < 8 → (S i).length ≤ 1000000) : skIs (skA S) = true := by
  have e : ∀ i, i < 8 → roOk (.ro (UE.con (S i)) none) = true := fun i hi => by
    show (UE.ok (UE.con (S i)) && Nat.ble (S i).length 1000000) = true
    rw [UE.ok_con, ble_t (h i hi)]; rfl
  show (true && (roOk (.ro (UE.con (S 0)) none) && (roOk (.ro (UE.con (S 1)) none) && (roOk (.ro (UE.con (S 2)) none) && (roOk (.ro (UE.con (S 3)) none) && (roOk (.ro (UE.con (S 4)) none) && (roOk (.ro (UE.con (S 5)) none) && (roOk (.ro (UE.con (S 6)) none) && (roOk (.ro (UE.con (S 7)) none) && true))))))))) = true
  rw [e 0 (by omega), e 1 (by omega), e 2 (by omega), e 3 (by omega), e 4 (by omega), e 5 (by omega), e 6 (by omega), e 7 (by omega)]; rfl
theorem skGet_eq (S : Nat → List UwE) : ∀ i, i < 8 → skGet (skA S) i = S i :=
  each8 (UE.list_con _) (UE.list_con _) (UE.list_con _) (UE.list_con _) (UE.list_con _) (UE.list_con _) (UE.list_con _) (UE.list_con _)
theorem stepU_congr {S T : Nat → List UwE} (h : ∀ i, i < 8 → S i = T i) (e : Evt) : ∀ i, i < 8 → stepU S e i = stepU T e i := by
  intro i hi
  unfold stepU
  cases ht : thrd e.th with
  | false => exact h i hi
  | true =>
    obtain ⟨t, ht', q⟩ := thrd_cast ht
    have e1 : e.th.toNat = t := by rw [q]; exact Int.toNat_natCast t
    have hst : ∀ t l, setS S t l i = setS T t l i := fun t l => by unfold setS; rw [h i hi]
    simp only [cond_true, e1, h t ht']
    cases e.k == 6 <;> simp only [cond_true, cond_false, hst]
    cases e.k == 7 <;> simp only [cond_true, cond_false, hst]
    cases e.k == 9 <;> simp only [cond_true, cond_false]
    · cases e.k == 10 <;> simp only [cond_true, cond_false, hst]
      cases e.k == 11 <;> simp only [cond_true, cond_false]
      · cases e.k == 12 <;> simp only [cond_true, cond_false, hst]
        cases e.k == 24 <;> simp only [cond_true, cond_false]
        exact h i hi
      · cases thrd e.n <;> simp only [cond_true, cond_false, hst]
        exact h i hi
    · cases e.a != 0 <;> simp only [cond_true, cond_false, hst]
      exact h i hi
theorem skA_congr {S T : Nat → List UwE} (h : ∀ i, i < 8 → S i = T i) : skA S = skA T := (skEb_congr h 0).2.2
theorem same8_congr {S T S' T' : Nat → List UwE} (h : ∀ i, i < 8 → S i = S' i) (h' : ∀ i, i < 8 → T i = T' i) : same8 S T = same8 S' T' := by
  rw [Bool.eq_iff_iff, same8_iff, same8_iff]
  exact ⟨fun q i hi => by rw [← h i hi, ← h' i hi]; exact q i hi, fun q i hi => by rw [h i hi, h' i hi]; exact q i hi⟩
theorem few8_congr {S S' : Nat → List UwE} (h : ∀ i, i < 8 → S i = S' i) : few8 S = few8 S' := by
  rw [Bool.eq_iff_iff, few8_iff, few8_iff]
  exact ⟨fun q i hi => by rw [← h i hi]; exact q i hi, fun q i hi => by rw [h i hi]; exact q i hi⟩
theorem nzU_len : ∀ c ∈ nzU, c.len = 0 := by simp [nzU, Con.len, RowTy.con]
theorem Try.sum13 : SumC Try.prog 13 Try.A13 := by
  refine roSumR 13 ⟨Try.f13, _, Try.fnOk13.1, Try.fnOk13.2, rfl⟩ ?_
  intro args v h2 hs
  replace hs : (S13 (nzs nzU args)).run = some (v, h2) := hs
  have fin : Alone Try.prog 13 (nzs nzU args) v h2 ∧ ∀ e ∈ h2.es, ∃ k, e.blk = .cells k := by
    generalize nzs nzU args = args' at hs ⊢
    unfold S13 at hs
    split at hs
    · rename_i v0 k th pc a b n
      rw [Ans.run_grd] at hs
      cases hb : skIs v0 with
      | false => rw [hb] at hs; cases hs
      | true =>
        rw [hb, cond_true] at hs
        injection hs with hs
        injection hs with q1 q2
        subst q1; subst q2
        obtain ⟨a1, a2⟩ := skIs_some hb
        exact ⟨Alone.argsW (AWs.args (.cons a1 (AWs.refl _))) (Try.al13 (skGet v0) a2 ⟨k, th, pc, a, b, n⟩), fun e he => by cases he⟩
    · cases hs
  exact ⟨fin.2, fin.1.nz nzU_len⟩
theorem Try.e15 : EnvOk2 Try.prog Try.E15 := Try.envOk false (sumsOf [(33, Try.A33)]) _ (sumsOf_ok (show AllS Try.prog [(33, Try.A33)] from ⟨Try.sum33, trivial⟩))
theorem Try.e21 : EnvOk2 Try.prog Try.E21 := Try.envOk false (sumsOf [(54, Try.A33)]) _ (sumsOf_ok (show AllS Try.prog [(54, Try.A33)] from ⟨Try.sum54, trivial⟩))
theorem Try.e11 : EnvOk2 Try.prog Try.E11 := Try.envOk false (sumsOf []) _ (fun g A h => by cases h)
theorem okP_t {S T : Nat → List UwE} (h : ∀ i, (S i).length ≤ 1000000) (i : Nat) : okP S T i = true := by
  unfold okP; rw [UE.ok_con, UE.ok_con, rl_eq, ble_t (h i)]; rfl
theorem eqP_same (S T : Nat → List UwE) : n8.all (eqP S T) = same8 S T := by
  unfold eqP; simp only [rl_eq]; rfl
theorem same_sum {g : Nat} {fn : Func} {code : Code} (hg : Try.prog.funcs[g]? = some fn ∧ fn.name ≠ "runtime.NumGoroutine") (hc : fn.body = some code)
    (hal : ∀ S T, (∀ i, (S i).length ≤ 1000000) → Alone Try.prog g [skA S, skA T] (.val (.bool (same8 S T))) ⟨0, []⟩) : SumC Try.prog g Try.A15 := by
  refine pureSumR g ⟨fn, code, hg.1, hg.2, hc⟩ ?_
  intro args v h2 hs
  refine Alone.nz nzU_len ?_
  replace hs : (S15 (nzs nzU args)).run = some (v, h2) := hs
  generalize nzs nzU args = args' at hs ⊢
  unfold S15 at hs
  split at hs
  · rename_i v0 w0
    rw [Ans.run_grd] at hs
    cases hb : (skIs v0 && skIs w0) with
    | false => rw [hb] at hs; cases hs
    | true =>
      rw [hb, cond_true] at hs
      injection hs with hs
      injection hs with q1 q2
      subst q1; subst q2
      rw [Bool.and_eq_true] at hb
      obtain ⟨a1, a2⟩ := skIs_some hb.1
      obtain ⟨b1, b2⟩ := skIs_some hb.2
      exact Alone.argsW (AWs.args (.cons a1 (.cons b1 .nil))) (hal _ _ a2)
  · cases hs
theorem Try.sum15 : SumC Try.prog 15 Try.A15 := same_sum Try.fnOk15 rfl (fun S T hS => by
  refine rootS_alone Try.e15 (d := 5) (g := 15) (ls := lsumsOf []) (AllL.ls0 _) ((Try.x15 S T).trans ?_)
  rw [chT_t (okP_t hS), eqP_same])
theorem Try.sum21 : SumC Try.prog 21 Try.A15 := same_sum Try.fnOk21 rfl (fun S T hS => by
  refine rootS_alone Try.e21 (d := 5) (g := 21) (ls := lsumsOf []) (AllL.ls0 _) ((Try.x21 S T).trans ?_)
  rw [chT_t (okP_t hS), eqP_same])
theorem Try.sum11 : SumC Try.prog 11 Try.A11 := by
  refine pureSumR 11 ⟨Try.f11, _, Try.fnOk11.1, Try.fnOk11.2, rfl⟩ ?_
  intro args v h2 hs
  refine Alone.nz nzU_len ?_
  replace hs : (S11 (nzs nzU args)).run = some (v, h2) := hs
  generalize nzs nzU args = args' at hs ⊢
  unfold S11 at hs
  split at hs
  · rename_i v0
    rw [Ans.run_grd] at hs
    cases hb : skOk v0 with
    | false => rw [hb] at hs; cases hs
    | true =>
      rw [hb, cond_true] at hs
      injection hs with hs
      injection hs with q1 q2
      subst q1; subst q2
      have a1 := skOk_some hb
      refine Alone.argsW (AWs.args (.cons a1 .nil)) ?_
      generalize skGet v0 = S
      refine rootS_alone Try.e11 (d := 5) (g := 11) (ls := lsumsOf []) (AllL.ls0 _) ((Try.x11 S).trans ?_)
      rw [chX_t]; rfl
  · cases hs
end Go.Ev
/- The reference's put, handler, returned. -/
namespace Go.Ev
open Go.Proofs
def Try.E50 : Env := Try.env0 false (sumsOf []) (keepF 50 [])
def Try.E52 : Env := Try.env0 false (sumsOf []) (keepF 52 [(3, [0, 3, 4])])
def Try.b52 : Code := nthD .skip (loopsOf (bodyOf Try.E52 52)) 0
def handI (l : List UwE) : Nat → Int
  | 0 => -1
  | k + 1 => bif (l.getD k UE.z).1 == 2 then (k : Int) else handI l k
def handL (l : List UwE) : Int := handI l l.length
def Try.s52 (L : List UwE) (k : Nat) : St := stOf 19 [0, 3, 4] [.ro (UE.con L) none, .val (.int .i64 (handI L k)), .val (.int .i64 k)] ⟨0, []⟩
def Try.x52 (L : List UwE) : AX × St := (.exit 0, stOf 19 [3] [.val (.int .i64 (handL L))] ⟨0, []⟩)
def Try.L52 (L : List UwE) : LSum := atL (Try.s52 L 0) (.grd (Nat.ble L.length 1000000) (.out (Try.x52 L)))
theorem Try.r50 (L : List UwE) (k a t r n : Int) : rootS Try.E50 5 50 (lsumsOf []) [.ro (UE.con L) none, .agg (UE.row (k, a, t, r, n))] =
 bif ownNew (some 0) 0 L.length then
 bif ((0 + L.length) * 32).ble most && (0 + L.length).ble most then
 bif (0 + (0 + L.length)).ble L.length then
 bif ((0 + L.length + 1) * 32).ble most && (0 + L.length + 1).ble most then
 some (.own 0 0 (0 + L.length + 1) none 5, ⟨1, [⟨0, 0, .cells (.tab 5 (0 + L.length + 1) (fun i => bif i.blt (0 + L.length) then UE.row (L.getD (0 + i) UE.z) else [[AV.val (Value.int IntKind.i64 k), AV.val (Value.int IntKind.u32 a), AV.val (Value.int IntKind.u32 t), AV.val (Value.int IntKind.u32 r), AV.val (Value.int IntKind.i64 n)]].getD (i - (0 + L.length)) []))⟩]⟩)
 else
 none
 else
 none
 else
 none
 else
 bif ((0 + L.length) * 32).ble most && (0 + L.length).ble most then
 bif (0 + (0 + L.length)).ble L.length then
 bif ((0 + L.length + 1) * 32).ble most && (0 + L.length + 1).ble most then
 some (.own 0 0 (0 + L.length + 1) none 5, ⟨1, [⟨0, 0, .cells (.tab 5 (0 + L.length + 1) (fun i => bif i.blt (0 + L.length) then UE.row (L.getD (0 + i) UE.z) else [[AV.val (Value.int IntKind.i64 k), AV.val (Value.int IntKind.u32 a), AV.val (Value.int IntKind.u32 t), AV.val (Value.int IntKind.u32 r), AV.val (Value.int IntKind.i64 n)]].getD (i - (0 + L.length)) []))⟩]⟩)
 else
 none
 else
 none
 else
 none := by kernel_rfl
theorem Try.r52 (L : List UwE) (at' : Int) (i : Int) : codeS Try.E52 (callF Try.E52 5) (Try.E52.keep 52) (lsumsOf []) Try.b52 (outK [0, 3, 4] [3]) (stOf 19 [0, 3, 4] [.ro (UE.con L) none, .val (.int .i64 at'), .val (.int .i64 i)] ⟨0, []⟩) =
 bif decide (i < (↑L.length : Int)) then
 bif inR i L.length then
 bif (L.getD i.toNat UE.z).fst == 2 then
 some (.normal, stOf 19 [0, 3, 4] [.ro (.tab 5 (L.length) (fun i => UE.row (L.getD i UE.z))) none, .val (.int .i64 (i)), .val (.int .i64 (IntKind.i64.wrap (i + 1)))] ⟨0, []⟩)
 else
 some (.normal, stOf 19 [0, 3, 4] [.ro (.tab 5 (L.length) (fun i => UE.row (L.getD i UE.z))) none, .val (.int .i64 (at')), .val (.int .i64 (IntKind.i64.wrap (i + 1)))] ⟨0, []⟩)
 else
 none
 else
 some (.exit 0, stOf 19 [3] [.val (.int .i64 (at'))] ⟨0, []⟩) := by kernel_rfl
theorem Try.e50 : EnvOk2 Try.prog Try.E50 := Try.envOk false (sumsOf []) _ (fun g A h => by cases h)
theorem Try.e52 : EnvOk2 Try.prog Try.E52 := Try.envOk false (sumsOf []) _ (fun g A h => by cases h)
theorem handI_lt (l : List UwE) : ∀ k, handI l k < k ∧ -1 ≤ handI l k
  | 0 => by simp [handI]
  | k + 1 => by
    have := handI_lt l k
    simp only [handI]
    cases (l.getD k UE.z).1 == 2 <;> simp only [cond_true, cond_false] <;> omega
theorem Try.l52 (L : List UwE) : ∀ s e s', s.h.ok → (Try.L52 L s).run = some (e, s') → Triple Try.prog (.loop Try.b52) s e s' := by
  refine atL_grd (fun hp => ?_)
  rw [Nat.ble_eq] at hp
  refine loop_at Try.e52 (d := 5) (g := 52) (ls := lsumsOf []) (c := Try.b52) trivial [0, 3, 4] [3] (T := Nat)
    (fun k => Try.s52 L k) (fun k => k ≤ L.length) (fun k => L.length - k) (fun _ => Try.x52 L) _ _ 0 (Nat.zero_le _) (Weak.refl heap0_ok) (fun e s' h => Option.some.inj h) (fun k _ => heap0_ok) ?_
  intro k hk
  replace hk : k ≤ L.length := hk
  have key := Try.r52 L (handI L k) k
  by_cases h : k < L.length
  · rw [declt_nat, inR_nat, decide_eq_true h, Int.toNat_natCast, wrapT k (by omega)] at key
    refine .inl ⟨k + 1, Try.s52 L (k + 1), ?_, Weak.refl heap0_ok, h, by omega, rfl⟩
    unfold Try.s52
    simp only [handI]
    cases hq : (L.getD k UE.z).1 == 2 with
    | true => rw [hq] at key; exact key
    | false => rw [hq] at key; exact key
  · have e1 : k = L.length := by omega
    rw [declt_nat, decide_eq_false h] at key
    subst e1
    exact .inr ⟨_, key, Weak.refl heap0_ok, by show (AX.exit 0) ≠ .normal; simp⟩
theorem Try.w52 (L : List UwE) : rootS Try.E52 5 52 (lsumsOf [(3, Try.L52 L)]) [.ro (UE.con L) none] = bif isSt (Try.s52 L 0) (Try.s52 L 0) then (bif Nat.ble L.length 1000000 then some (.val (.int .i64 (handL L)), ⟨0, []⟩) else none) else none := by kernel_rfl
theorem Try.al52 (L : List UwE) (hl : L.length ≤ 1000000) : Alone Try.prog 52 [.ro (UE.con L) none] (.val (.int .i64 (handL L))) ⟨0, []⟩ := by
  refine rootS_alone Try.e52 (d := 5) (g := 52) (ls := lsumsOf [(3, Try.L52 L)]) (AllL.of1 (a := Try.b52) (by kernel_rfl) (LsOk.of rfl rfl (Try.l52 L))) ((Try.w52 L).trans ?_)
  rw [isSt_refl, ble_t hl]; rfl
theorem Try.al50 (L : List UwE) (x : UwE) (hl : L.length ≤ 1000000) : Alone Try.prog 50 [.ro (UE.con L) none, .agg (UE.row x)] (.ro (UE.con (L ++ [x])) none) ⟨0, []⟩ := by
  obtain ⟨k, a, t, r, n⟩ := x
  have key := Try.r50 L k a t r n
  simp only [Nat.zero_add, ble_t (show L.length * 32 ≤ most by rw [most_eq]; omega), ble_t (show L.length ≤ most by rw [most_eq]; omega), ble_t (Nat.le_refl L.length), ble_t (show (L.length + 1) * 32 ≤ most by rw [most_eq]; omega), ble_t (show L.length + 1 ≤ most by rw [most_eq]; omega), Bool.and_self, cond_true', cond_sameB] at key
  have run := rootS_alone Try.e50 (d := 5) (g := 50) (ls := lsumsOf []) (AllL.ls0 _) key
  have e : (UE.con (L ++ [(k, a, t, r, n)])).len = L.length + 1 := by show (L ++ [_]).length = _; simp
  refine Alone.freeze (con := UE.con (L ++ [(k, a, t, r, n)])) rfl ?_
  rw [e]
  refine Alone.outW (Weak.oneH (c := .tab 5 (L.length + 1) (fun i => bif i.blt L.length then UE.row (L.getD i UE.z) else [UE.row (k, a, t, r, n)].getD (i - L.length) [])) rfl ?_) run
  have := appC_w (fun _ => L) (k, a, t, r, n) 0 0
  unfold appC at this
  rw [rl_eq, setS_same, Nat.beq_refl, cond_true] at this
  simp only [Nat.zero_add] at this
  exact this
def S52 (args : List AV) : Ans (AV × Heap) := match args with
  | [v] => .grd (roOk v) (.out (.val (.int .i64 (handL (roGet v))), ⟨0, []⟩))
  | _ => .no
def S50 (args : List AV) : Ans (AV × Heap) := match args with
  | [v, .agg [.val (.int .i64 k), .val (.int .u32 a), .val (.int .u32 t), .val (.int .u32 r), .val (.int .i64 n)]] => .grd (roOk v) (.out (.ro (UE.con (roGet v ++ [(k, a, t, r, n)])) none, ⟨0, []⟩))
  | _ => .no
def S51 (args : List AV) : Ans (AV × Heap) := match args with
  | [v, .val (.int .u32 a)] => .grd (roOk v) (.out (.ro (UE.con ((roGet v).take (retN (roGet v) a))) none, ⟨0, []⟩))
  | _ => .no
def Try.A52 : AFun := pureA (fun args => S52 (nzs nzU args))
def Try.A50 : AFun := roA (fun args => S50 (nzs nzU args))
def Try.A51 : AFun := roA (fun args => S51 (nzs nzU args))
def Try.E51 : Env := Try.env0 false (sumsOf [(52, Try.A52)]) (keepF 51 [(3, [0, 1, 5, 6])])
def Try.b51 : Code := nthD .skip (loopsOf (bodyOf Try.E51 51)) 0
theorem Try.sum52 : SumC Try.prog 52 Try.A52 := by
  refine pureSumR 52 ⟨Try.f52, _, Try.fnOk52.1, Try.fnOk52.2, rfl⟩ ?_
  intro args v h2 hs
  refine Alone.nz nzU_len ?_
  replace hs : (S52 (nzs nzU args)).run = some (v, h2) := hs
  generalize nzs nzU args = args' at hs ⊢
  unfold S52 at hs
  split at hs
  · rename_i v0
    rw [Ans.run_grd] at hs
    cases hb : roOk v0 with
    | false => rw [hb] at hs; cases hs
    | true =>
      rw [hb, cond_true] at hs
      injection hs with hs
      injection hs with q1 q2
      subst q1; subst q2
      exact Alone.argsW (AWs.args (.cons (roOk_some hb).1 .nil)) (Try.al52 _ (roOk_some hb).2)
  · cases hs
theorem Try.sum50 : SumC Try.prog 50 Try.A50 := by
  refine roSumR 50 ⟨Try.f50, _, Try.fnOk50.1, Try.fnOk50.2, rfl⟩ ?_
  intro args v h2 hs
  replace hs : (S50 (nzs nzU args)).run = some (v, h2) := hs
  have fin : Alone Try.prog 50 (nzs nzU args) v h2 ∧ ∀ e ∈ h2.es, ∃ k, e.blk = .cells k := by
    generalize nzs nzU args = args' at hs ⊢
    unfold S50 at hs
    split at hs
    · rename_i v0 k a t r n
      rw [Ans.run_grd] at hs
      cases hb : roOk v0 with
      | false => rw [hb] at hs; cases hs
      | true =>
        rw [hb, cond_true] at hs
        injection hs with hs
        injection hs with q1 q2
        subst q1; subst q2
        exact ⟨Alone.argsW (AWs.args (.cons (roOk_some hb).1 (AWs.refl _))) (Try.al50 _ (k, a, t, r, n) (roOk_some hb).2), fun e he => by cases he⟩
    · cases hs
  exact ⟨fin.2, fin.1.nz nzU_len⟩
theorem Try.e51 : EnvOk2 Try.prog Try.E51 := Try.envOk false (sumsOf [(52, Try.A52)]) _ (sumsOf_ok (show AllS Try.prog [(52, Try.A52)] from ⟨Try.sum52, trivial⟩))
theorem Try.r51 (L : List UwE) (a : Int) (low : Int) (i : Int) : codeS Try.E51 (callF Try.E51 5) (Try.E51.keep 51) (lsumsOf []) Try.b51 (outK [0, 1, 5, 6] [0, 4]) (stOf 28 [0, 1, 5, 6] [.ro (UE.con L) none, .val (.int .u32 a), .val (.int .i64 low), .val (.int .i64 i)] ⟨0, []⟩) =
 bif decide (i > low) then
 bif inR i L.length then
 bif (L.getD i.toNat UE.z).snd.snd.snd.fst == a then
 bif decide (0 ≤ i) && decide (i ≤ (↑L.length : Int)) then
 some (.ret, stOf 28 [0, 4] [.ro (.tab 5 (L.length) (fun i => UE.row (L.getD i UE.z))) none, .ro (.tab 5 (i.toNat - 0) (fun i => UE.row (L.getD (0 + i) UE.z))) none] ⟨0, []⟩)
 else
 none
 else
 some (.normal, stOf 28 [0, 1, 5, 6] [.ro (.tab 5 (L.length) (fun i => UE.row (L.getD i UE.z))) none, .val (.int .u32 (a)), .val (.int .i64 (low)), .val (.int .i64 (IntKind.i64.wrap (i - 1)))] ⟨0, []⟩)
 else
 none
 else
 some (.exit 0, stOf 28 [0] [.ro (.tab 5 (L.length) (fun i => UE.row (L.getD i UE.z))) none] ⟨0, []⟩) := by kernel_rfl
def Try.s51 (L : List UwE) (a : Int) (i : Int) : St := stOf 28 [0, 1, 5, 6] [.ro (UE.con L) none, .val (.int .u32 a), .val (.int .i64 (handL L)), .val (.int .i64 i)] ⟨0, []⟩
def fin51 (L : List UwE) : Option (Option Nat) → AX × St
  | some (some k) => (.ret, stOf 28 [0, 4] [.ro (UE.con L) none, .ro (UE.con (L.take k)) none] ⟨0, []⟩)
  | _ => (.exit 0, stOf 28 [0] [.ro (UE.con L) none] ⟨0, []⟩)
def isSS : Option (Option Nat) → Bool
  | some (some _) => true
  | _ => false
def Try.L51 (L : List UwE) (a : Int) : LSum := atL (Try.s51 L a (IntKind.i64.wrap ((rl (fun _ => L) 0).length - 1))) (.grd (Nat.ble L.length 1000000) (.br (isSS (seekR L a L.length)) (.out (.ret, stOf 28 [0, 4] [.ro (UE.con L) none, .ro (UE.con (L.take (retN L a))) none] ⟨0, []⟩)) (.out (.exit 0, stOf 28 [0] [.ro (UE.con L) none] ⟨0, []⟩))))
theorem seekB_hand (l : List UwE) : ∀ k, handI l k = match seekB l k with | some j => (j : Int) | none => -1
  | 0 => rfl
  | k + 1 => by
    simp only [handI, seekB]
    cases (l.getD k UE.z).1 == 2
    · exact seekB_hand l k
    · rfl
theorem handI_above (l : List UwE) : ∀ n j : Nat, handI l n < (j : Int) → j < n → ((l.getD j UE.z).1 == 2) = false
  | 0, j, _, h => by omega
  | n + 1, j, h1, h2 => by
    simp only [handI] at h1
    cases hq : (l.getD n UE.z).1 == 2 with
    | true => rw [hq] at h1; simp only [cond_true] at h1; omega
    | false =>
      rw [hq] at h1
      simp only [cond_false] at h1
      rcases Nat.lt_or_ge j n with q | q
      · exact handI_above l n j h1 q
      · have : j = n := by omega
        subst this; exact hq
theorem handI_at (l : List UwE) : ∀ n (j : Nat), handI l n = (j : Int) → ((l.getD j UE.z).1 == 2) = true
  | 0, j, h => by simp [handI] at h
  | n + 1, j, h => by
    simp only [handI] at h
    cases hq : (l.getD n UE.z).1 == 2 with
    | true =>
      rw [hq] at h
      simp only [cond_true] at h
      have : n = j := by omega
      subst this; exact hq
    | false => rw [hq] at h; exact handI_at l n j h
theorem seekR_low (l : List UwE) (a : Int) (k : Nat) (h : (k : Int) = handL l + 1) : isSS (seekR l a k) = false := by
  cases k with
  | zero => rfl
  | succ k =>
    have h1 : handI l l.length = (k : Int) := by unfold handL at h; omega
    simp only [seekR]
    rw [handI_at l l.length k h1]; rfl
theorem Try.l51 (L : List UwE) (a : Int) : ∀ s e s', s.h.ok → (Try.L51 L a s).run = some (e, s') → Triple Try.prog (.loop Try.b51) s e s' := by
  refine atL_grd (fun hp => ?_)
  rw [Nat.ble_eq] at hp
  have hh := handI_lt L L.length
  refine loop_at Try.e51 (d := 5) (g := 51) (ls := lsumsOf []) (c := Try.b51) trivial [0, 1, 5, 6] [0, 4] (T := Nat)
    (fun k => Try.s51 L a ((k : Int) - 1)) (fun k => k ≤ L.length ∧ handL L + 1 ≤ k) (fun k => k) (fun k => fin51 L (seekR L a k)) _ _ L.length ⟨Nat.le_refl _, by unfold handL; omega⟩ ?_ ?_ (fun k _ => heap0_ok) ?_
  · rw [rl_eq, wrap64 _ (by omega) (by omega)]
    exact Weak.refl heap0_ok
  · intro e s' h
    rw [Ans.run_br] at h
    unfold retN at h
    rcases hq : seekR L a L.length with _ | _ | k
    · rw [hq] at h; exact Option.some.inj h
    · rw [hq] at h; exact Option.some.inj h
    · rw [hq] at h; exact Option.some.inj h
  · rintro k ⟨h1, h2⟩
    have key := Try.r51 L a (handL L) ((k : Int) - 1)
    by_cases h : (k : Int) - 1 > handL L
    · cases k with
      | zero => unfold handL at h; omega
      | succ k =>
        have e0 : (((k + 1 : Nat) : Int) - 1) = (k : Int) := by omega
        rw [decide_eq_true h, e0, inR_nat, decide_eq_true (show k < L.length by omega), Int.toNat_natCast, wrap64 _ (by omega) (by omega), decide_eq_true (show (0 : Int) ≤ (k : Int) by omega), decide_eq_true (show (k : Int) ≤ (L.length : Int) by omega)] at key
        have hk2 : ((L.getD k UE.z).1 == 2) = false := handI_above L L.length k (by unfold handL at h; omega) (by omega)
        simp only [seekR, hk2, cond_false, e0]
        cases hq : (L.getD k UE.z).2.2.2.1 == a with
        | true =>
          rw [hq] at key
          refine .inr ⟨_, key, ?_, by show AX.ret ≠ .normal; simp⟩
          refine Weak.slots heap0_ok (.cons (AW.refl _) (.cons (AW.ro (a := .tab 5 (k - 0) (fun i => UE.row (L.getD (0 + i) UE.z))) (b := UE.con (L.take k)) ⟨rfl, by show (L.take k).length = k - 0; rw [List.length_take]; omega, fun i hi j v' hv => ⟨v', ?_, AW.refl _⟩⟩ none) .nil))
          have hi' : i < k - 0 := hi
          show (UE.row (L.getD (0 + i) UE.z))[j]? = some v'
          have hv' : (UE.row ((L.take k).getD i UE.z))[j]? = some v' := hv
          rw [Nat.zero_add]
          simp only [List.getD_eq_getElem?_getD, List.getElem?_take, if_pos (show i < k by omega)] at hv' ⊢
          exact hv'
        | false =>
          rw [hq] at key
          exact .inl ⟨k, _, key, Weak.refl heap0_ok, ⟨by omega, by unfold handL at h ⊢; omega⟩, Nat.lt_succ_self _, rfl⟩
    · rw [decide_eq_false h] at key
      have e1 := seekR_low L a k (by omega)
      have e2 : fin51 L (seekR L a k) = (.exit 0, stOf 28 [0] [.ro (UE.con L) none] ⟨0, []⟩) := by
        rcases hq : seekR L a k with _ | _ | j
        · rfl
        · rfl
        · rw [hq] at e1; cases e1
      simp only [e2]
      exact .inr ⟨_, key, Weak.refl heap0_ok, by show (AX.exit 0) ≠ .normal; simp⟩
theorem Try.w51 (L : List UwE) (a : Int) : rootS Try.E51 5 51 (lsumsOf [(3, Try.L51 L a)]) [.ro (UE.con L) none, .val (.int .u32 a)] =
    bif roOk (.ro (UE.con L) none) then
      (bif isSt (stOf 28 [0, 1, 5, 6] [.ro (UE.con L) none, .val (.int .u32 a), .val (.int .i64 (handL (rl (fun _ => L) 0))), .val (.int .i64 (IntKind.i64.wrap ((L.length : Int) - 1)))] ⟨0, []⟩) (Try.s51 L a (IntKind.i64.wrap ((rl (fun _ => L) 0).length - 1))) then
        (bif Nat.ble L.length 1000000 then (bif isSS (seekR L a L.length) then some (.ro (UE.con (L.take (retN L a))) none, ⟨0, []⟩) else some (.ro (UE.con L) none, ⟨0, []⟩)) else none) else none)
    else none := by kernel_rfl
theorem Try.al51 (L : List UwE) (a : Int) (hl : L.length ≤ 1000000) : Alone Try.prog 51 [.ro (UE.con L) none, .val (.int .u32 a)] (.ro (UE.con (L.take (retN L a))) none) ⟨0, []⟩ := by
  refine rootS_alone Try.e51 (d := 5) (g := 51) (ls := lsumsOf [(3, Try.L51 L a)]) (AllL.of1 (a := Try.b51) (by kernel_rfl) (LsOk.of rfl rfl (Try.l51 L a))) ((Try.w51 L a).trans ?_)
  have h1 : roOk (.ro (UE.con L) none) = true := by
    show (UE.ok (UE.con L) && Nat.ble L.length 1000000) = true
    rw [UE.ok_con, ble_t hl]; rfl
  unfold Try.s51
  rw [h1, rl_eq, isSt_refl, ble_t hl]
  unfold retN
  rcases hq : seekR L a L.length with _ | _ | k
  · simp only [isSS, List.take_length]; rfl
  · simp only [isSS, List.take_length]; rfl
  · rfl
theorem Try.sum51 : SumC Try.prog 51 Try.A51 := by
  refine roSumR 51 ⟨Try.f51, _, Try.fnOk51.1, Try.fnOk51.2, rfl⟩ ?_
  intro args v h2 hs
  replace hs : (S51 (nzs nzU args)).run = some (v, h2) := hs
  have fin : Alone Try.prog 51 (nzs nzU args) v h2 ∧ ∀ e ∈ h2.es, ∃ k, e.blk = .cells k := by
    generalize nzs nzU args = args' at hs ⊢
    unfold S51 at hs
    split at hs
    · rename_i v0 a
      rw [Ans.run_grd] at hs
      cases hb : roOk v0 with
      | false => rw [hb] at hs; cases hs
      | true =>
        rw [hb, cond_true] at hs
        injection hs with hs
        injection hs with q1 q2
        subst q1; subst q2
        exact ⟨Alone.argsW (AWs.args (.cons (roOk_some hb).1 (AWs.refl _))) (Try.al51 _ a (roOk_some hb).2), fun e he => by cases he⟩
    · cases hs
  exact ⟨fin.2, fin.1.nz nzU_len⟩
end Go.Ev
/- The reference's Step. -/
namespace Go.Ev
open Go.Proofs
def Try.t14 : List (Nat × AFun) := [(50, Try.A50), (51, Try.A51), (52, Try.A52)]
def Try.E14 : Env := Try.env0 false (sumsOf Try.t14) (keepF 14 [])
def rowX (S : Nat → List UwE) (t : Nat) (v : AV) (i : Nat) : AV := bif Nat.beq i t then v else .ro (UE.con (S i)) none
def outX (S : Nat → List UwE) (t : Nat) (v : AV) : Option (AV × Heap) := some (.agg (l8 (rowX S t v)), ⟨0, []⟩)
def roS (S : Nat → List UwE) (t : Nat) : Bool := roOk (.ro (UE.con (S t)) none)
def putX (S : Nat → List UwE) (t : Nat) (x : UwE) : Option (AV × Heap) := bif roS S t then outX S t (.ro (UE.con (rl S t ++ [x])) none) else none
def sameX (S : Nat → List UwE) : Option (AV × Heap) := some (skA S, ⟨0, []⟩)
def back14 (S : Nat → List UwE) (t : Nat) : Option (AV × Heap) := bif roS S t then (bif decide (handL (rl S t) ≥ 0) then (bif decide (0 ≤ handL (rl S t)) && decide (handL (rl S t) ≤ ((S t).length : Int)) then outX S t (.ro (.tab 5 ((handL (rl S t)).toNat - 0) (fun i => UE.row ((S t).getD (0 + i) UE.z))) none) else none) else sameX S) else none
def K14 (S : Nat → List UwE) (k : Int) (t : Nat) (pc a b n : Int) (x : Option (AV × Heap)) : Option (AV × Heap) :=
  bif k == 6 then putX S t (1, pc, a, b, 0)
  else bif k == 7 then (bif roS S t then outX S t (.ro (UE.con ((rl S t).take (retN (rl S t) a))) none) else none)
  else bif k == 9 then (bif a != 0 then putX S t (2, pc, a, pc, n) else sameX S)
  else bif k == 10 then back14 S t
  else bif k == 11 then x
  else bif k == 12 then outX S t (.val (.slice none 0 0))
  else bif k == 24 then some (.agg (l8 (fun _ => .val (.slice none 0 0))), ⟨0, []⟩)
  else sameX S
theorem Try.e14 : EnvOk2 Try.prog Try.E14 := Try.envOk false (sumsOf Try.t14) _ (sumsOf_ok (show AllS Try.prog Try.t14 from ⟨Try.sum50, Try.sum51, Try.sum52, trivial⟩))
theorem Try.x14i (S : Nat → List UwE) (k pc a b n : Int) (m : Nat) : rootS Try.E14 5 14 (lsumsOf []) [skA S, evA ⟨k, .negSucc m, pc, a, b, n⟩] = sameX S := by kernel_rfl
theorem Try.x14j (S : Nat → List UwE) (k pc a b n : Int) (m : Nat) : rootS Try.E14 5 14 (lsumsOf []) [skA S, evA ⟨k, .ofNat (m + 8), pc, a, b, n⟩] = sameX S := by kernel_rfl
theorem Try.x14u (S : Nat → List UwE) (k pc a b : Int) (m : Nat) : ∀ t : Nat, t < 8 → rootS Try.E14 5 14 (lsumsOf []) [skA S, evA ⟨k, t, pc, a, b, .negSucc m⟩] = K14 S k t pc a b (.negSucc m) (sameX S) :=
  each8 (by kernel_rfl) (by kernel_rfl) (by kernel_rfl) (by kernel_rfl) (by kernel_rfl) (by kernel_rfl) (by kernel_rfl) (by kernel_rfl)
theorem Try.x14v (S : Nat → List UwE) (k pc a b : Int) (m : Nat) : ∀ t : Nat, t < 8 → rootS Try.E14 5 14 (lsumsOf []) [skA S, evA ⟨k, t, pc, a, b, .ofNat (m + 8)⟩] = K14 S k t pc a b (.ofNat (m + 8)) (sameX S) :=
  each8 (by kernel_rfl) (by kernel_rfl) (by kernel_rfl) (by kernel_rfl) (by kernel_rfl) (by kernel_rfl) (by kernel_rfl) (by kernel_rfl)
theorem Try.x14n (S : Nat → List UwE) (k pc a b : Int) : ∀ m : Nat, m < 8 → ∀ t : Nat, t < 8 → rootS Try.E14 5 14 (lsumsOf []) [skA S, evA ⟨k, t, pc, a, b, m⟩] = K14 S k t pc a b m (outX S m (.val (.slice none 0 0))) :=
  each8 (each8 (by kernel_rfl) (by kernel_rfl) (by kernel_rfl) (by kernel_rfl) (by kernel_rfl) (by kernel_rfl) (by kernel_rfl) (by kernel_rfl))
    (each8 (by kernel_rfl) (by kernel_rfl) (by kernel_rfl) (by kernel_rfl) (by kernel_rfl) (by kernel_rfl) (by kernel_rfl) (by kernel_rfl))
    (each8 (by kernel_rfl) (by kernel_rfl) (by kernel_rfl) (by kernel_rfl) (by kernel_rfl) (by kernel_rfl) (by kernel_rfl) (by kernel_rfl))
    (each8 (by kernel_rfl) (by kernel_rfl) (by kernel_rfl) (by kernel_rfl) (by kernel_rfl) (by kernel_rfl) (by kernel_rfl) (by kernel_rfl))
    (each8 (by kernel_rfl) (by kernel_rfl) (by kernel_rfl) (by kernel_rfl) (by kernel_rfl) (by kernel_rfl) (by kernel_rfl) (by kernel_rfl))
    (each8 (by kernel_rfl) (by kernel_rfl) (by kernel_rfl) (by kernel_rfl) (by kernel_rfl) (by kernel_rfl) (by kernel_rfl) (by kernel_rfl))
    (each8 (by kernel_rfl) (by kernel_rfl) (by kernel_rfl) (by kernel_rfl) (by kernel_rfl) (by kernel_rfl) (by kernel_rfl) (by kernel_rfl))
    (each8 (by kernel_rfl) (by kernel_rfl) (by kernel_rfl) (by kernel_rfl) (by kernel_rfl) (by kernel_rfl) (by kernel_rfl) (by kernel_rfl))
section
variable {P : Program} {g : Nat} {args : List AV}
theorem outX_ok {S : Nat → List UwE} {t : Nat} {v : AV} {l : List UwE} (hv : AW v (.ro (UE.con l) none)) (h : Alone P g args (.agg (l8 (rowX S t v))) ⟨0, []⟩) : Alone P g args (skA (setS S t l)) ⟨0, []⟩ := by
  refine Alone.resW (AW.agg (AWs.l8 (g := fun i => .ro (UE.con (setS S t l i)) none) (fun i => ?_))) h
  unfold rowX setS
  cases Nat.beq i t
  · exact AW.refl _
  · exact hv
end
theorem roS_t {S : Nat → List UwE} (h : ∀ i, (S i).length ≤ 1000000) (t : Nat) : roS S t = true := by
  show (UE.ok (UE.con (S t)) && Nat.ble (S t).length 1000000) = true
  rw [UE.ok_con, ble_t (h t)]; rfl
theorem setS_self (S : Nat → List UwE) (t : Nat) : setS S t (S t) = S := funext fun i => by
  by_cases h : i = t
  · subst h; exact setS_same _ _ _
  · exact setS_other S h _
theorem K14_ok {P : Program} {g : Nat} {args : List AV} {S : Nat → List UwE} (hS : ∀ i, (S i).length ≤ 1000000) {k : Int} {t : Nat} (ht : t < 8) {pc a b n : Int} {x : Option (AV × Heap)}
    (hx : ∀ v h, x = some (v, h) → Alone P g args v h → Alone P g args (skA (bif thrd n then setS S n.toNat [] else S)) ⟨0, []⟩) (hsome : ∃ r, x = some r)
    (h : ∀ v h2, K14 S k t pc a b n x = some (v, h2) → Alone P g args v h2) : Alone P g args (skA (stepU S ⟨k, t, pc, a, b, n⟩)) ⟨0, []⟩ := by
  have et : Int.toNat (t : Int) = t := Int.toNat_natCast t
  unfold stepU
  simp only [thrd_nat ht, cond_true, et]
  unfold K14 putX back14 at h
  simp only [roS_t hS, rl_eq, cond_true] at h
  cases h1 : k == 6 with
  | true => rw [h1] at h; simp only [cond_true] at h ⊢; exact outX_ok (AW.refl _) (h _ _ rfl)
  | false =>
  rw [h1] at h; simp only [cond_false] at h ⊢
  cases h2 : k == 7 with
  | true => rw [h2] at h; simp only [cond_true] at h ⊢; exact outX_ok (AW.refl _) (h _ _ rfl)
  | false =>
  rw [h2] at h; simp only [cond_false] at h ⊢
  cases h3 : k == 9 with
  | true =>
    rw [h3] at h; simp only [cond_true] at h ⊢
    cases h4 : a != 0 with
    | true => rw [h4] at h; simp only [cond_true] at h ⊢; exact outX_ok (AW.refl _) (h _ _ rfl)
    | false => rw [h4] at h; simp only [cond_false] at h ⊢; exact h _ _ rfl
  | false =>
  rw [h3] at h; simp only [cond_false] at h ⊢
  cases h5 : k == 10 with
  | true =>
    rw [h5] at h; simp only [cond_true] at h ⊢
    have hb := seekB_hand (S t) (S t).length
    have hl := handI_lt (S t) (S t).length
    have hL : handL (S t) = handI (S t) (S t).length := rfl
    unfold backN'
    cases hq : seekB (S t) (S t).length with
    | none =>
      rw [hq] at hb
      simp only at hb
      rw [hL, hb, decide_eq_false (by omega)] at h
      simp only [List.take_length, setS_self]
      exact h _ _ rfl
    | some j =>
      rw [hq] at hb
      simp only at hb
      rw [hL, hb, decide_eq_true (show (j : Int) ≥ 0 by omega), decide_eq_true (show (j : Int) ≤ ((S t).length : Int) by omega), Int.toNat_natCast] at h
      refine outX_ok (AW.ro (a := .tab 5 (j - 0) (fun i => UE.row ((S t).getD (0 + i) UE.z))) (b := UE.con ((S t).take j)) ⟨rfl, by show ((S t).take j).length = j - 0; rw [List.length_take]; omega, fun i hi q v' hv => ⟨v', ?_, AW.refl _⟩⟩ none) (h _ _ rfl)
      have hi' : i < j - 0 := hi
      show (UE.row ((S t).getD (0 + i) UE.z))[q]? = some v'
      have hv' : (UE.row (((S t).take j).getD i UE.z))[q]? = some v' := hv
      rw [Nat.zero_add]
      simp only [List.getD_eq_getElem?_getD, List.getElem?_take, if_pos (show i < j by omega)] at hv' ⊢
      exact hv'
  | false =>
  rw [h5] at h; simp only [cond_false] at h ⊢
  cases h6 : k == 11 with
  | true =>
    rw [h6] at h; simp only [cond_true] at h ⊢
    obtain ⟨⟨v, h2⟩, rfl⟩ := hsome
    exact hx v h2 rfl (h _ _ rfl)
  | false =>
  rw [h6] at h; simp only [cond_false] at h ⊢
  cases h7 : k == 12 with
  | true => rw [h7] at h; simp only [cond_true] at h ⊢; exact outX_ok (AW.nil rfl) (h _ _ rfl)
  | false =>
  rw [h7] at h; simp only [cond_false] at h ⊢
  cases h8 : k == 24 with
  | true => rw [h8] at h; simp only [cond_true] at h ⊢; exact Alone.resW (AW.agg (AWs.l8 (g := fun i => .ro (UE.con []) none) (fun i => AW.nil rfl))) (h _ _ rfl)
  | false => rw [h8] at h; simp only [cond_false] at h ⊢; exact h _ _ rfl
theorem Try.al14 (S : Nat → List UwE) (hS : ∀ i, (S i).length ≤ 1000000) (e : Evt) : Alone Try.prog 14 [skA S, evA e] (skA (stepU S e)) ⟨0, []⟩ := by
  obtain ⟨k, th, pc, a, b, n⟩ := e
  have run := fun args v h2 => rootS_alone Try.e14 (d := 5) (g := 14) (ls := lsumsOf []) (AllL.ls0 _) (args := args) (v := v) (h2 := h2)
  cases hth : thrd th with
  | false =>
    have e1 : stepU S ⟨k, th, pc, a, b, n⟩ = S := by unfold stepU; simp only [hth]; rfl
    rw [e1]
    rcases thrd_out hth with ⟨m, rfl⟩ | ⟨m, rfl⟩
    · exact run _ _ _ (Try.x14i S k pc a b n m)
    · exact run _ _ _ (Try.x14j S k pc a b n m)
  | true =>
    obtain ⟨t, ht, rfl⟩ := thrd_cast hth
    cases hn : thrd n with
    | true =>
      obtain ⟨m, hm, rfl⟩ := thrd_cast hn
      refine K14_ok hS ht (fun v h hv ha => ?_) ⟨_, rfl⟩ (fun v h2 hk => run _ _ _ ((Try.x14n S k pc a b m hm t ht).trans hk))
      injection hv with hv
      injection hv with q1 q2
      subst q1; subst q2
      rw [hn, Int.toNat_natCast]
      exact outX_ok (AW.nil rfl) ha
    | false =>
      rcases thrd_out hn with ⟨m, rfl⟩ | ⟨m, rfl⟩
      · refine K14_ok hS ht (fun v h hv ha => ?_) ⟨_, rfl⟩ (fun v h2 hk => run _ _ _ ((Try.x14u S k pc a b m t ht).trans hk))
        injection hv with hv
        injection hv with q1 q2
        subst q1; subst q2
        rw [hn]; exact ha
      · refine K14_ok hS ht (fun v h hv ha => ?_) ⟨_, rfl⟩ (fun v h2 hk => run _ _ _ ((Try.x14v S k pc a b m t ht).trans hk))
        injection hv with hv
        injection hv with q1 q2
        subst q1; subst q2
        rw [hn]; exact ha
theorem Try.sum14 : SumC Try.prog 14 Try.A13 := by
  refine roSumR 14 ⟨Try.f14, _, Try.fnOk14.1, Try.fnOk14.2, rfl⟩ ?_
  intro args v h2 hs
  replace hs : (S13 (nzs nzU args)).run = some (v, h2) := hs
  have fin : Alone Try.prog 14 (nzs nzU args) v h2 ∧ ∀ e ∈ h2.es, ∃ k, e.blk = .cells k := by
    generalize nzs nzU args = args' at hs ⊢
    unfold S13 at hs
    split at hs
    · rename_i v0 k th pc a b n
      rw [Ans.run_grd] at hs
      cases hb : skIs v0 with
      | false => rw [hb] at hs; cases hs
      | true =>
        rw [hb, cond_true] at hs
        injection hs with hs
        injection hs with q1 q2
        subst q1; subst q2
        obtain ⟨a1, a2⟩ := skIs_some hb
        exact ⟨Alone.argsW (AWs.args (.cons a1 (AWs.refl _))) (Try.al14 (skGet v0) a2 ⟨k, th, pc, a, b, n⟩), fun e he => by cases he⟩
    · cases hs
  exact ⟨fin.2, fin.1.nz nzU_len⟩
end Go.Ev
/- Events in a row: the reference's Stacks. -/
namespace Go.Ev
open Go.Proofs
def evZ : Evt := ⟨0, 0, 0, 0, 0, 0⟩
def evParse : List AV → Evt
  | [.val (.int .i64 k), .val (.int .i64 th), .val (.int .u32 pc), .val (.int .u32 a), .val (.int .u32 b), .val (.int .i64 n)] => ⟨k, th, pc, a, b, n⟩
  | _ => evZ
def evIs : List AV → Bool
  | [.val (.int .i64 k), .val (.int .i64 th), .val (.int .u32 pc), .val (.int .u32 a), .val (.int .u32 b), .val (.int .i64 n)] => true
  | _ => false
theorem ev_law (r : List AV) (h : evIs r = true) (j : Nat) (v' : AV) (hv : (evL (evParse r))[j]? = some v') : ∃ v, r[j]? = some v ∧ AW v v' := by
  unfold evIs at h
  split at h
  · exact ⟨v', hv, AW.refl _⟩
  · cases h
def EV : RowTy Evt := ⟨6, evL, evParse, evIs, evZ, ev_law, fun _ => rfl, fun _ => rfl⟩
def runN (l : List Evt) (k : Nat) : Nat → List UwE := Nat.rec (fun _ => []) (fun k S => stepU S (l.getD k EV.z)) k
def runE (l : List Evt) : Nat → List UwE := runN l l.length
def skCells (S : Nat → List UwE) : List AV := l8 (fun i => .ro (UE.con (S i)) none)
def skBlk (S : Nat → List UwE) : Blk := .cells (.rows true 1 (flatRows (skCells S)))
def nilBlk : Blk := .cells (.rows true 1 (flatRows (l8 (fun _ => .val (.slice none 0 0)))))
def Try.E17 : Env := Try.env0 false (sumsOf [(14, Try.A13)]) (keepF 17 [(5, [0, 2, 4, 5])])
def Try.b17 : Code := nthD .skip (loopsOf (bodyOf Try.E17 17)) 0
def Try.s17 (l : List Evt) (S : Nat → List UwE) (i : Int) : St := stOf 24 [0, 2, 4, 5] [.ro (EV.con l) none, .ptr 0 0 0, .ptr 1 0 0, .val (.int .i64 i)] ⟨2, [⟨1, 0, skBlk S⟩, ⟨0, 0, nilBlk⟩]⟩
def Try.x17 (l : List Evt) (S : Nat → List UwE) : AX × St := (.exit 0, stOf 24 [2, 4] [.ptr 0 0 0, .ptr 1 0 0] ⟨2, [⟨1, 0, skBlk S⟩, ⟨0, 0, nilBlk⟩]⟩)
def Try.B17 (s : St) : Option (AX × St) := codeS Try.E17 (callF Try.E17 5) (Try.E17.keep 17) (lsumsOf []) Try.b17 (outK [0, 2, 4, 5] [2, 4]) s
theorem Try.r17 (l : List Evt) (S : Nat → List UwE) (i : Int) : Try.B17 (Try.s17 l S i) =
 bif decide (i < (l.length : Int)) then (bif inR i l.length then (bif skIs (skA S) then some (.normal, Try.s17 l (stepU (skGet (skA S)) (l.getD i.toNat EV.z)) (IntKind.i64.wrap (i + 1))) else none) else none) else some (Try.x17 l S) := by kernel_rfl
def Try.z17 (l : List Evt) : St := stOf 24 [0, 2, 4, 5] [.ro (EV.con l) none, .ptr 0 0 0, .ptr 1 0 0, .val (.int .i64 0)] ⟨2, [⟨1, 0, nilBlk⟩, ⟨0, 0, nilBlk⟩]⟩
def Try.L17 (l : List Evt) : LSum := atL (Try.z17 l) (.grd (Nat.ble l.length 1000000) (.out (Try.x17 l (runE l))))
theorem setS_len (S : Nat → List UwE) (t : Nat) (l : List UwE) (i n : Nat) (h1 : l.length ≤ n) (h2 : (S i).length ≤ n) : (setS S t l i).length ≤ n := by
  unfold setS
  cases Nat.beq i t <;> assumption
theorem stepU_len (S : Nat → List UwE) (e : Evt) (i n : Nat) (h : ∀ i, (S i).length ≤ n) : (stepU S e i).length ≤ n + 1 := by
  have h0 : (S i).length ≤ n + 1 := Nat.le_succ_of_le (h i)
  have ha : ∀ (t : Nat) (x : UwE), (setS S t (S t ++ [x]) i).length ≤ n + 1 := fun t x => setS_len _ _ _ _ _ (by rw [List.length_append]; have := h t; simp; omega) h0
  have ht : ∀ t m, (setS S t ((S t).take m) i).length ≤ n + 1 := fun t m => setS_len _ _ _ _ _ (by rw [List.length_take]; have := h t; omega) h0
  have hn : ∀ t, (setS S t [] i).length ≤ n + 1 := fun t => setS_len _ _ _ _ _ (Nat.zero_le _) h0
  unfold stepU
  cases thrd e.th <;> simp only [cond_true, cond_false]
  · exact h0
  cases e.k == 6 <;> simp only [cond_true, cond_false, ha]
  cases e.k == 7 <;> simp only [cond_true, cond_false, ht]
  cases e.k == 9 <;> simp only [cond_true, cond_false]
  · cases e.k == 10 <;> simp only [cond_true, cond_false, ht]
    cases e.k == 11 <;> simp only [cond_true, cond_false]
    · cases e.k == 12 <;> simp only [cond_true, cond_false, hn]
      cases e.k == 24 <;> simp only [cond_true, cond_false]
      · exact h0
      · exact Nat.zero_le _
    · cases thrd e.n <;> simp only [cond_true, cond_false, hn]
      exact h0
  · cases e.a != 0 <;> simp only [cond_true, cond_false, ha]
    exact h0
theorem runN_len (l : List Evt) : ∀ k i, (runN l k i).length ≤ k
  | 0, i => Nat.zero_le _
  | k + 1, i => stepU_len _ _ i k (runN_len l k)
theorem flat_w {l l' : List AV} (h : AWs l l') : ConW (.rows true 1 (flatRows l)) (.rows true 1 (flatRows l')) := by
  have hl : ∀ {l l' : List AV}, AWs l l' → l'.length = l.length := by
    intro l l' h
    induction h with
    | nil => rfl
    | cons _ _ ih => simp [ih]
  refine ⟨rfl, by show (flatRows l').length = (flatRows l).length; rw [flatRows_len, flatRows_len, hl h], fun i hi => ?_⟩
  show ∀ (j : Nat) (v' : AV), ((flatRows l').getD i [])[j]? = some v' → ∃ v, ((flatRows l).getD i [])[j]? = some v ∧ AW v v'
  clear hi hl
  induction h generalizing i with
  | nil => intro j v' hv; simp [flatRows, foldL] at hv
  | cons h1 _ ih =>
    cases i with
    | zero => intro j v' hv; exact AWs.get (.cons h1 .nil) j v' hv
    | succ i => exact ih i
theorem stepU_get (S : Nat → List UwE) (e : Evt) : ∀ i, i < 8 → stepU (skGet (skA S)) e i = stepU S e i := stepU_congr (skGet_eq S) e
theorem skBlk_congr {S T : Nat → List UwE} (h : ∀ i, i < 8 → S i = T i) : skBlk S = skBlk T := by
  unfold skBlk skCells l8
  simp only [h 0 (by omega), h 1 (by omega), h 2 (by omega), h 3 (by omega), h 4 (by omega), h 5 (by omega), h 6 (by omega), h 7 (by omega)]
theorem Try.e17 : EnvOk2 Try.prog Try.E17 := Try.envOk false (sumsOf [(14, Try.A13)]) _ (sumsOf_ok (show AllS Try.prog [(14, Try.A13)] from ⟨Try.sum14, trivial⟩))
theorem Try.l17 (l : List Evt) : ∀ s e s', s.h.ok → (Try.L17 l s).run = some (e, s') → Triple Try.prog (.loop Try.b17) s e s' := by
  refine atL_grd (fun hp => ?_)
  rw [Nat.ble_eq] at hp
  refine loop_at Try.e17 (d := 5) (g := 17) (ls := lsumsOf []) (c := Try.b17) trivial [0, 2, 4, 5] [2, 4] (T := Nat)
    (fun k => Try.s17 l (runN l k) k) (fun k => k ≤ l.length) (fun k => l.length - k) (fun _ => Try.x17 l (runE l)) _ _ 0 (Nat.zero_le _) ?_ (fun e s' h => Option.some.inj h) (fun k _ => two_ok _ _) ?_
  · exact Weak.heap (two_ok _ _) (.con 1 0 0 rfl (flat_w (AWs.l8 (fun i => AW.nil rfl))) (EsW.refl _))
  · intro k hk
    replace hk : k ≤ l.length := hk
    have key := Try.r17 l (runN l k) k
    by_cases h : k < l.length
    · rw [declt_nat, inR_nat, decide_eq_true h, Int.toNat_natCast, wrapT k (by omega), skIs_t (fun i _ => Nat.le_trans (runN_len l k i) (by omega))] at key
      refine .inl ⟨k + 1, Try.s17 l (runN l (k + 1)) ((k + 1 : Nat) : Int), ?_, Weak.refl (two_ok _ _), h, by omega, rfl⟩
      refine Eq.trans key ?_
      show some (AX.normal, Try.s17 l (stepU (skGet (skA (runN l k))) (l.getD k EV.z)) ((k + 1 : Nat) : Int)) = _
      unfold Try.s17
      rw [skBlk_congr (stepU_get (runN l k) (l.getD k EV.z))]
      rfl
    · have e1 : k = l.length := by omega
      rw [declt_nat, decide_eq_false h] at key
      refine .inr ⟨(Try.x17 l (runN l k)).2, key, ?_, by show (AX.exit 0) ≠ .normal; simp⟩
      subst e1
      exact Weak.refl (two_ok _ _)
theorem Try.w17 (l : List Evt) : rootS Try.E17 5 17 (lsumsOf [(5, Try.L17 l)]) [.ro (EV.con l) none] =
    bif decide ((l.length : Int) > 1000000) then some (.tup [.agg (l8 (fun _ => .val (.slice none 0 0))), .val (.int .i64 2)], ⟨0, []⟩)
    else bif isSt (Try.z17 l) (Try.z17 l) then (bif Nat.ble l.length 1000000 then some (.tup [skA (runE l), .val (.int .i64 0)], ⟨0, []⟩) else none) else none := by kernel_rfl
theorem Try.al17 (l : List Evt) (hl : l.length ≤ 1000000) : Alone Try.prog 17 [.ro (EV.con l) none] (.tup [skA (runE l), .val (.int .i64 0)]) ⟨0, []⟩ := by
  refine rootS_alone Try.e17 (d := 5) (g := 17) (ls := lsumsOf [(5, Try.L17 l)]) (AllL.of1 (a := Try.b17) (by kernel_rfl) (LsOk.of rfl rfl (Try.l17 l))) ((Try.w17 l).trans ?_)
  rw [isSt_refl, ble_t hl, decide_eq_false (by omega)]; rfl
def nzV : List Con := [EV.con []]
def S17 (args : List AV) : Ans (AV × Heap) := match args with
  | [.ro c cap] => .grd (EV.ok c && Nat.ble c.len 1000000) (.out (.tup [skA (runE (EV.list c)), .val (.int .i64 0)], ⟨0, []⟩))
  | _ => .no
def Try.A17 : AFun := roA (fun args => S17 (nzs nzV args))
theorem stacks_sum {g : Nat} {fn : Func} {code : Code} (hg : Try.prog.funcs[g]? = some fn ∧ fn.name ≠ "runtime.NumGoroutine") (hc : fn.body = some code)
    (hal : ∀ l : List Evt, l.length ≤ 1000000 → Alone Try.prog g [.ro (EV.con l) none] (.tup [skA (runE l), .val (.int .i64 0)]) ⟨0, []⟩) : SumC Try.prog g Try.A17 := by
  refine roSumR g ⟨fn, code, hg.1, hg.2, hc⟩ ?_
  intro args v h2 hs
  replace hs : (S17 (nzs nzV args)).run = some (v, h2) := hs
  have fin : Alone Try.prog g (nzs nzV args) v h2 ∧ ∀ e ∈ h2.es, ∃ k, e.blk = .cells k := by
    generalize nzs nzV args = args' at hs ⊢
    unfold S17 at hs
    split at hs
    · rename_i c cap
      rw [Ans.run_grd] at hs
      cases hb : (EV.ok c && Nat.ble c.len 1000000) with
      | false => rw [hb] at hs; cases hs
      | true =>
        rw [hb, cond_true] at hs
        injection hs with hs
        injection hs with q1 q2
        subst q1; subst q2
        rw [Bool.and_eq_true, Nat.ble_eq] at hb
        exact ⟨Alone.argsW (AWs.args (.cons (EV.aw hb.1 _) .nil)) (hal _ (by rw [EV.list_len]; exact hb.2)), fun e he => by cases he⟩
    · cases hs
  exact ⟨fin.2, fin.1.nz (by simp [nzV, Con.len, RowTy.con])⟩
theorem Try.sum17 : SumC Try.prog 17 Try.A17 := stacks_sum Try.fnOk17 rfl Try.al17
end Go.Ev
/- Nil slices in the rows of a block, told as own blocks without cells. -/
namespace Go.Ev
theorem WeakP.nilRows {p : Nat} {t : List AV} {d : List Nat} {n : Nat} (es1 es2 : List Ent) {i0 v0 w : Nat} {p0 : Bool} {l l' : List (List AV)} {con : Con} (hk : (⟨n, es1 ++ ⟨i0, v0, .cells (.rows p0 w l)⟩ :: es2⟩ : Heap).ok) (h0 : con.len = 0) (hl : l'.length = l.length) (hr' : ∀ i, NilL n con.wd (l.getD i []) (l'.getD i [])) :
    WeakP p ⟨t, d, ⟨n, es1 ++ ⟨i0, v0, .cells (.rows p0 w l)⟩ :: es2⟩⟩ ⟨t, d, ⟨n + 1, ⟨n, 0, .cells con⟩ :: (es1 ++ ⟨i0, v0, .cells (.rows false w l')⟩ :: es2)⟩⟩ := by
  have hfind : ∀ j, findE (es1 ++ ⟨i0, v0, .cells (.rows false w l')⟩ :: es2) j = (findE (es1 ++ ⟨i0, v0, .cells (.rows p0 w l)⟩ :: es2) j) ∨
      (∃ e, findE (es1 ++ ⟨i0, v0, .cells (.rows p0 w l)⟩ :: es2) j = some e ∧ e.blk = .cells (.rows p0 w l) ∧ findE (es1 ++ ⟨i0, v0, .cells (.rows false w l')⟩ :: es2) j = some ⟨i0, v0, .cells (.rows false w l')⟩) := by
    intro j
    simp only [findE_append, findE_cons]
    cases findE es1 j with
    | some e => exact .inl rfl
    | none =>
      by_cases q : i0 = j
      · rw [if_pos q, if_pos q]
        exact .inr ⟨_, rfl, rfl, rfl⟩
      · rw [if_neg q, if_neg q]
        exact .inl rfl
  have hsome : ∀ j e', findE (es1 ++ ⟨i0, v0, .cells (.rows false w l')⟩ :: es2) j = some e' → j < n := by
    intro j e' h
    rcases hfind j with q | ⟨e, q, _, _⟩
    · rw [q] at h; exact hk.lt j e' h
    · exact hk.lt j e q
  have hok : (⟨n + 1, ⟨n, 0, .cells con⟩ :: (es1 ++ ⟨i0, v0, .cells (.rows false w l')⟩ :: es2)⟩ : Heap).ok := by
    refine ⟨?_, fun j e h => ?_⟩
    · have hu := hk.uniq
      unfold Uniq at *
      rw [List.map_cons, List.nodup_cons]
      have e1 : (es1 ++ ⟨i0, v0, .cells (.rows false w l')⟩ :: es2).map (·.id) = (es1 ++ ⟨i0, v0, .cells (.rows p0 w l)⟩ :: es2).map (·.id) := by simp
      rw [e1]
      refine ⟨fun hm => ?_, hu⟩
      obtain ⟨x, hx, hxn⟩ := List.mem_map.1 hm
      have := hk.lt x.id x (findE_mem hk.uniq hx)
      simp only at hxn this
      omega
    · rw [findE_cons] at h
      split at h
      · rename_i q
        have q' : n = j := q
        show j < n + 1; omega
      · have := hsome j e h
        show j < n + 1; omega
  refine ⟨hok, fun w0 c a hr hv => ?_⟩
  have hv : ∀ id, c.V id → id < n := hv
  have hnv : ¬ c.V n := fun q => Nat.lt_irrefl _ (hv _ q)
  have hne : ∀ i, c.V i → i ≠ n := fun i hi e => hnv (e ▸ hi)
  let c2 : Cx := ⟨c.M, c.O, fun j => if j = n then ⟨false, 0, 0, con.wd, 0⟩ else c.ι j, fun j => c.V j ∨ j = n⟩
  have hx : Ext w0 c w0 c2 := ⟨⟨fun _ q => q, fun _ _ _ => rfl, fun i hi => ⟨.inl hi, if_neg (hne i hi)⟩⟩, rfl, rfl, rfl, Nat.le_refl _, fun _ _ _ => rfl, fun _ _ q => q, fun _ _ q => q, fun _ q q' => absurd q q'⟩
  have hι : c2.ι n = ⟨false, 0, 0, con.wd, 0⟩ := if_pos rfl
  have hG : ∀ i b, (⟨n + 1, ⟨n, 0, .cells con⟩ :: (es1 ++ ⟨i0, v0, .cells (.rows false w l')⟩ :: es2)⟩ : Heap).G i = some b → (i = n ∧ b = .cells con) ∨ (i ≠ n ∧ ((⟨n, es1 ++ ⟨i0, v0, .cells (.rows p0 w l)⟩ :: es2⟩ : Heap).G i = some b ∨
      ((⟨n, es1 ++ ⟨i0, v0, .cells (.rows p0 w l)⟩ :: es2⟩ : Heap).G i = some (.cells (.rows p0 w l)) ∧ b = .cells (.rows false w l')))) := by
    intro i b hb
    simp only [Heap.G] at hb ⊢
    rw [findE_cons] at hb
    split at hb
    · rename_i q
      simp only [Option.map_some, Option.some.injEq] at hb
      exact .inl ⟨q.symm, hb.symm⟩
    · rename_i q
      refine .inr ⟨fun e => q e.symm, ?_⟩
      rcases hfind i with z | ⟨e, z1, z2, z3⟩
      · rw [z] at hb; exact .inl hb
      · rw [z3] at hb
        simp only [Option.map_some, Option.some.injEq] at hb
        exact .inr ⟨by rw [z1]; simp [z2], hb.symm⟩
  have old : ∀ i b, i ≠ n → (⟨n + 1, ⟨n, 0, .cells con⟩ :: (es1 ++ ⟨i0, v0, .cells (.rows false w l')⟩ :: es2)⟩ : Heap).G i = some b → ∃ b0, (⟨n, es1 ++ ⟨i0, v0, .cells (.rows p0 w l)⟩ :: es2⟩ : Heap).G i = some b0 := by
    intro i b hi hb
    rcases hG i b hb with ⟨q, _⟩ | ⟨_, q | ⟨q, _⟩⟩
    · exact absurd q hi
    · exact ⟨_, q⟩
    · exact ⟨_, q⟩
  refine ⟨c2, ⟨VRs.mono hx.toExt0 hr.t, ?_, ?_, fun id hid => .inl (hr.dv id hid)⟩, hx.w, ?_, fun i _ hi => ⟨.inl hi, if_neg (hne i hi)⟩⟩
  · refine ⟨?_, ?_, ?_, hr.h.dis⟩
    · intro i b hb
      by_cases q : i = n
      · exact .inr q
      · obtain ⟨b0, hb0⟩ := old i b q hb
        exact .inl (hr.h.valid i b0 hb0)
    · intro i b hb
      rcases hG i b hb with ⟨rfl, rfl⟩ | ⟨q, hb1 | ⟨hb1, rfl⟩⟩
      · rw [hι]
        exact ⟨rfl, fun _ => h0, fun q => (by cases q), fun q => (by cases q)⟩
      · rw [show c2.ι i = c.ι i from if_neg q]
        exact BlkRel.keep hx.toExt0 (hr.h.blk i b hb1) (fun _ => rfl) (fun hl => (hr.h.blk i b hb1).owned hl)
      · rw [show c2.ι i = c.ι i from if_neg q]
        have hb0 : CellsRel w0 c (c.ι i) (.rows p0 w l) := hr.h.blk i _ hb1
        refine ⟨hb0.wd, fun q => by show l'.length = 0; rw [hl]; exact hb0.dead q, hb0.own, fun lv => ?_⟩
        obtain ⟨arr, te, fz, a1, a2, a3, a4, a5, a6⟩ := hb0.arr lv
        refine ⟨arr, te, fz, a1, a2, a3, a4, by show _ + l'.length * _ ≤ _; rw [hl]; exact a5, ?_⟩
        intro k j v' u hk2 hj hv' hu
        have hk3 : k < l.length := by rw [← hl]; exact hk2
        have hv2 : (l'.getD k [])[j]? = some v' := hv'
        obtain ⟨v, e1, e2⟩ := (hr' k).get j v' hv2
        have hold : VR w0 c v u := VR.lower (a6 k j v u hk3 hj e1 hu)
        rcases e2 with rfl | ⟨rfl, rfl⟩
        · exact VR.mono hx.toExt0 hold
        · have hu0 := hold.val_inv
          subst hu0
          exact .own _ _ _ _ _ none 0 (.inr rfl) (by show (c2.ι n).wd = con.wd; rw [hι]) (Nat.le_refl _) (fun _ q => by cases q) (.inl rfl)
    · intro i j b b' hi hj li lj hbk
      have qi : i ≠ n := fun q => by rw [q, hι] at li; cases li
      have qj : j ≠ n := fun q => by rw [q, hι] at lj; cases lj
      obtain ⟨b1, h1⟩ := old i b qi hi
      obtain ⟨b2, h2⟩ := old j b' qj hj
      rw [show c2.ι i = c.ι i from if_neg qi] at li hbk
      rw [show c2.ι j = c.ι j from if_neg qj] at lj hbk
      exact hr.h.inj i j b1 b2 h1 h2 li lj hbk
  · show a.defers = marks c2 d
    rw [hr.d, marks_ids hx.ids hr.dv]
  · rintro id (q | q)
    · exact Nat.lt_succ_of_lt (hv id q)
    · rw [q]; exact Nat.lt_succ_self _
end Go.Ev
