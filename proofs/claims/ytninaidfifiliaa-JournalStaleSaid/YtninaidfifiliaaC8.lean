/- The evaluator, its soundness and the walks: part 8. -/
import Derived.Test.YtninaidfifiliaaC7
set_option linter.unusedSectionVars false
set_option linter.unusedSimpArgs false
set_option linter.unusedVariables false
set_option maxRecDepth 100000
set_option maxRecDepth 1000000
noncomputable section
/- Devices: small, IsDevice, validDevice. -/
namespace Go.Ev
open Go.Proofs
theorem wrapT (k : Nat) (h : k < 9223372036854775807) : IntKind.i64.wrap ((k : Int) + 1) = ((k + 1 : Nat) : Int) := by rw [wrap64 _ (by omega) (by omega)]; omega
abbrev SwD := Int × List Int
def swRow (e : SwD) : List AV := [.val (.int .i64 e.1), .ro (.ints .u8 e.2) none]
def swParse : List AV → SwD
  | [.val (.int .i64 k), .ro (.ints .u8 l) _] => (k, l)
  | [.val (.int .i64 k), .val (.slice none 0 0)] => (k, [])
  | _ => (0, [])
def swIs : List AV → Bool
  | [.val (.int .i64 k), .ro (.ints .u8 l) _] => true
  | [.val (.int .i64 k), .val (.slice none 0 0)] => true
  | _ => false
theorem sw_law (r : List AV) (h : swIs r = true) (j : Nat) (v' : AV) (hv : (swRow (swParse r))[j]? = some v') : ∃ v, r[j]? = some v ∧ AW v v' := by
  unfold swIs at h
  split at h
  · rename_i k l cap
    have e : swRow (swParse [.val (.int .i64 k), .ro (.ints .u8 l) cap]) = [.val (.int .i64 k), .ro (.ints .u8 l) none] := rfl
    rw [e] at hv
    rcases j with _ | _ | j
    · simp at hv; subst hv; exact ⟨_, rfl, AW.refl _⟩
    · simp at hv; subst hv; exact ⟨_, rfl, AW.cap _ _⟩
    · simp at hv
  · rename_i k
    have e : swRow (swParse [.val (.int .i64 k), .val (.slice none 0 0)]) = [.val (.int .i64 k), .ro (.ints .u8 []) none] := rfl
    rw [e] at hv
    rcases j with _ | _ | j
    · simp at hv; subst hv; exact ⟨_, rfl, AW.refl _⟩
    · simp at hv; subst hv; exact ⟨_, rfl, AW.nil rfl⟩
    · simp at hv
  · cases h
def SW : RowTy SwD := ⟨2, swRow, swParse, swIs, (0, []), sw_law, fun _ => rfl, fun _ => rfl⟩
def box1 (N : Int) (x y : AV) : Con := .rows true 3 [[.val (.int .i64 N), x, y]]
def sumW (P : List SwD) (n : Int) : Int := P.foldl (fun n e => IntKind.i64.wrap (n + (e.2.length : Int))) n
def badB (N : Int) (e : SwD) : Bool := !(decide (e.1 ≥ 0) && decide (e.1 < N)) || ((e.2.length : Int) != 64)
def idxB (N : Int) (P : List SwD) : Int := bif P.any (badB N) then (P.findIdx (badB N) : Int) else -1
def isDevB (N : Int) (B : List Int) (P : List SwD) : Bool := decide (N ≥ 8) && (decide (N ≤ 4096) && (((B.length : Int) == IntKind.i64.wrap (N * 64)) && (decide ((P.length : Int) ≤ 2000) && !P.any (badB N))))
def okSW (c : Con) : Bool := SW.ok c && Nat.ble c.len 9223372036854775807
def devA (N : Int) (B : List Int) (P : List SwD) : AV := .agg [.val (.int .i64 N), .ro (.ints .u8 B) none, .ro (SW.con P) none]
def Try.f22L (vs : List AV) (h : Heap) : Ans (AX × List AV × Heap) := match vs, h with
  | [.ptr 0 0 0, .val (.int .i64 n), .ro c cap, .val (.int .i64 m), .val (.int .i64 (.ofNat 0))], ⟨1, [⟨0, 0, .cells (.rows true 3 [[.val (.int .i64 N), x, y]])⟩]⟩ => .grd (m == (c.len : Int) && okSW c) (.out (.exit 0, [.ptr 0 0 0, .val (.int .i64 (sumW (SW.list c) n))], oneH (box1 N x y)))
  | _, _ => .no
def Try.E108 : Env := Try.env0 false (sumsOf []) (keepF 108 [(2, [0,1,7,8])])
def Try.b108 : Code := nthD .skip (loopsOf (bodyOf Try.E108 108)) 0
def Try.B108 (s : St) : Option (AX × St) := codeS Try.E108 (callF Try.E108 5) (Try.E108.keep 108) (lsumsOf []) Try.b108 (outK [0,1,7,8] [4]) s
def Try.V108 (N : Int) (x y : AV) (P : List SwD) (k : Nat) : List AV := [.ro (SW.con P) none, .clo (.func 95) [] [.rptr (box1 N x y) 0 0], .val (.int .i64 P.length), .val (.int .i64 k)]
def Try.f108L (vs : List AV) (h : Heap) : Ans (AX × List AV × Heap) := match vs, h with
  | [.ro c cap, .clo (.func 95) [] [.rptr (.rows true 3 [[.val (.int .i64 N), x, y]]) 0 0], .val (.int .i64 m), .val (.int .i64 (.ofNat 0))], ⟨0, []⟩ => .grd (m == (c.len : Int) && okSW c) (.br ((SW.list c).any (badB N)) (.out (.ret, [.val (.int .i64 ((SW.list c).findIdx (badB N)))], ⟨0, []⟩)) (.out (.exit 0, [.unk], ⟨0, []⟩)))
  | _, _ => .no
def Try.L108 : LSum := toLSum 19 [0,1,7,8] [4] Try.f108L
def Try.S108 (args : List AV) : Ans (AV × Heap) := match args with
  | [.ro c cap, .clo (.func 95) [] [.rptr (.rows true 3 [[.val (.int .i64 N), x, y]]) 0 0]] => .grd (okSW c) (.out (.val (.int .i64 (idxB N (SW.list c))), ⟨0, []⟩))
  | _ => .no
def Try.nzD : List Con := [.tab 2 0 (fun _ => []), .tab 2 0 (fun _ => [])]
def Try.Sdev (f : Int → List Int → List SwD → Bool) (args : List AV) : Ans (AV × Heap) := match args with
  | [.agg [.val (.int .i64 N), .ro (.ints .u8 B) cap, .ro c cap']] => .grd (okSW c) (.out (.val (.bool (f N B (SW.list c))), ⟨0, []⟩))
  | _ => .no
theorem Try.r108 (N : Int) (x y : AV) (P : List SwD) (k : Nat) : Try.B108 (stOf 19 [0,1,7,8] (Try.V108 N x y P k) ⟨0, []⟩) =
 bif decide ((↑k : Int) < (↑P.length : Int)) then
 bif inR (↑k : Int) P.length then
 bif decide ((P.getD k SW.z).fst ≥ 0) then
 bif decide ((P.getD k SW.z).fst < N) then
 bif (↑(P.getD k SW.z).snd.length : Int) != 64 then
 some (.ret, stOf 19 [4] [.val (.int .i64 (↑k : Int))] ⟨0, []⟩)
 else
 some (.normal, stOf 19 [0, 1, 7, 8] [.ro (SW.con P) none, .clo (Fn.func 95) [] [.rptr (.rows true 3 ([.val (.int .i64 (N)), «x», «y»] :: [])) (0) (0)], .val (.int .i64 ((↑P.length : Int))), .val (.int .i64 (IntKind.i64.wrap ((↑k : Int) + 1)))] ⟨0, []⟩)
 else
 some (.ret, stOf 19 [4] [.val (.int .i64 (↑k : Int))] ⟨0, []⟩)
 else
 some (.ret, stOf 19 [4] [.val (.int .i64 (↑k : Int))] ⟨0, []⟩)
 else
 none
 else
 some (.exit 0, stOf 19 [] [] ⟨0, []⟩) := by kernel_rfl
theorem Try.w108 (N : Int) (x y : AV) (P : List SwD) : rootS Try.E108 5 108 (lsumsOf [(2, Try.L108)]) [.ro (SW.con P) none, .clo (.func 95) [] [.rptr (box1 N x y) 0 0]] =
 bif (↑P.length : Int) == (↑P.length : Int) && okSW (SW.con P) then
 bif (SW.list (SW.con P)).any (badB N) then
 some (.val (.int .i64 ((↑(List.findIdx (badB N) (SW.list (SW.con P))) : Int))), ⟨0, []⟩)
 else
 some (.val (.int .i64 (-1)), ⟨0, []⟩)
 else
 none := by kernel_rfl
theorem Try.e108 : EnvOk2 Try.prog Try.E108 := Try.envOk false (sumsOf []) _ (fun g A h => by cases h)
theorem okSW_some {c : Con} (h : okSW c = true) : SW.ok c = true ∧ c.len ≤ 9223372036854775807 := by
  unfold okSW at h
  rw [Bool.and_eq_true, Nat.ble_eq] at h; exact h
theorem okSW_con {c : Con} (h : okSW c = true) : okSW (SW.con (SW.list c)) = true := by
  unfold okSW
  rw [SW.ok_con, Bool.true_and]
  show Nat.ble (SW.list c).length _ = true
  rw [SW.list_len]; exact ble_t (okSW_some h).2
theorem SW_list_con (P : List SwD) : SW.list (SW.con P) = P := SW.list_con P
theorem Try.l108 : ∀ s e s', s.h.ok → (Try.L108 s).run = some (e, s') → Triple Try.prog (.loop Try.b108) s e s' := by
  refine loop_lawW Try.e108 (d := 5) (g := 108) (ls := lsumsOf []) (c := Try.b108) trivial 19 [0,1,7,8] [4] (T := Int × AV × AV × List SwD × Nat)
    (fun x => Try.V108 x.1 x.2.1 x.2.2.1 x.2.2.2.1 x.2.2.2.2) (fun x => ⟨0, []⟩) (fun x => x.2.2.2.1.length ≤ 9223372036854775807 ∧ x.2.2.2.2 ≤ x.2.2.2.1.length ∧ ∀ e ∈ x.2.2.2.1.take x.2.2.2.2, badB x.1 e = false) (fun x => x.2.2.2.1.length - x.2.2.2.2)
    (fun x => bif x.2.2.2.1.any (badB x.1) then (.ret, [.val (.int .i64 (x.2.2.2.1.findIdx (badB x.1)))], ⟨0, []⟩) else (.exit 0, [.unk], ⟨0, []⟩)) Try.f108L ?_ (fun x _ => heap0_ok) ?_
  · intro vs h e vo h' hok hf
    unfold Try.f108L at hf
    split at hf
    · rename_i c cap N x y m
      rw [Ans.run_grd] at hf
      cases hb : (m == (c.len : Int) && okSW c) with
      | false => rw [hb] at hf; cases hf
      | true =>
      rw [hb, cond_true, Ans.run_br] at hf
      rw [Bool.and_eq_true, beq_iff_eq] at hb
      obtain ⟨rfl, h1⟩ := hb
      refine ⟨(N, x, y, SW.list c, 0), ⟨by rw [SW.list_len]; exact (okSW_some h1).2, Nat.zero_le _, fun e he => by simp at he⟩, ?_, ?_⟩
      · refine Weak.slots heap0_ok ?_
        show AWs _ [.ro (SW.con (SW.list c)) none, .clo (.func 95) [] [.rptr (box1 N x y) 0 0], .val (.int .i64 (SW.list c).length), .val (.int .i64 (0 : Nat))]
        rw [SW.list_len]
        exact .cons (SW.aw (okSW_some h1).1 _) (AWs.refl _)
      · simp only
        cases hq : (SW.list c).any (badB N) with
        | true => rw [hq] at hf; injection hf with hf
        | false => rw [hq] at hf; injection hf with hf
    · cases hf
  · rintro ⟨N, x, y, P, k⟩ ⟨hl, hk, hpre⟩
    simp only at hl hk hpre
    have key := Try.r108 N x y P k
    by_cases h : k < P.length
    · rw [declt_nat, inR_nat, decide_eq_true h, wrapT k (by omega)] at key
      cases hbad : badB N (P.getD k SW.z) with
      | true =>
        obtain ⟨q1, q2⟩ := findIdx_at (d := SW.z) h hpre hbad
        refine .inr ?_
        simp only [q1, q2, cond_true']
        refine ⟨_, key.trans ?_, Weak.refl heap0_ok, by simp⟩
        simp only [badB] at hbad
        by_cases a1 : (P.getD k SW.z).1 ≥ 0
        · rw [decide_eq_true a1] at hbad ⊢
          by_cases a2 : (P.getD k SW.z).1 < N
          · rw [decide_eq_true a2] at hbad ⊢
            simp only [Bool.and_self, Bool.not_true, Bool.false_or] at hbad
            rw [hbad]; rfl
          · rw [decide_eq_false a2]; rfl
        · rw [decide_eq_false a1]; rfl
      | false =>
        have hb' := hbad
        simp only [badB, Bool.or_eq_false_iff, Bool.not_eq_false', Bool.and_eq_true, decide_eq_true_eq] at hbad
        obtain ⟨⟨a1, a2⟩, a3⟩ := hbad
        rw [decide_eq_true a1, decide_eq_true a2, a3] at key
        exact .inl ⟨(N, x, y, P, k + 1), _, key, Weak.refl heap0_ok, ⟨hl, h, take_succ_all (d := SW.z) h hpre hb'⟩, by show P.length - (k + 1) < P.length - k; omega, rfl⟩
    · have : k = P.length := by omega
      subst this
      have q := none_any hpre
      rw [declt_nat, decide_eq_false h] at key
      refine .inr ?_
      simp only [q, cond_false']
      exact ⟨_, key, Weak.refl heap0_ok, by simp⟩
theorem dev_args {N : Int} {B : List Int} {c : Con} {cap cap' : Option Nat} (h : okSW c = true) : ArgsW [.agg [.val (.int .i64 N), .ro (.ints .u8 B) cap, .ro c cap']] [devA N B (SW.list c)] :=
  AWs.args (.cons (AW.agg (.cons (AW.refl _) (.cons (AW.cap _ _) (.cons (SW.aw (okSW_some h).1 _) .nil)))) .nil)
theorem Sdev_some {f : Int → List Int → List SwD → Bool} {args : List AV} {v : AV} {h2 : Heap} (hs : (Try.Sdev f args).run = some (v, h2)) :
    ∃ N B cap c cap', args = [.agg [.val (.int .i64 N), .ro (.ints .u8 B) cap, .ro c cap']] ∧ okSW c = true ∧ v = .val (.bool (f N B (SW.list c))) ∧ h2 = ⟨0, []⟩ := by
  unfold Try.Sdev at hs
  split at hs
  · rename_i N B cap c cap'
    rw [Ans.run_grd] at hs
    cases hb : okSW c with
    | false => rw [hb] at hs; cases hs
    | true =>
      rw [hb, cond_true] at hs
      injection hs with hs
      injection hs with q1 q2
      exact ⟨_, _, _, _, _, rfl, hb, q1.symm, q2.symm⟩
  · cases hs
def nzDev : AV → AV
  | .agg [n, b, p] => .agg [n, nz0 (.ints .u8 []) b, nz0 (.tab 2 0 (fun _ => [])) p]
  | v => v
def nzDevs : List AV → List AV
  | v :: r => nzDev v :: r
  | [] => []
theorem nz0_aw {c : Con} (h0 : c.len = 0) (v : AV) : AW v (nz0 c v) := fun _ _ _ h => nz0_rel h0 h
theorem nzDev_aw (v : AV) : AW v (nzDev v) := by
  unfold nzDev
  split
  · exact AW.agg (.cons (AW.refl _) (.cons (nz0_aw rfl _) (.cons (nz0_aw rfl _) .nil)))
  · exact AW.refl _
theorem nzDevs_aw (l : List AV) : ArgsW l (nzDevs l) := by
  cases l with
  | nil => exact fun _ _ _ h => h
  | cons v r => exact AWs.args (.cons (nzDev_aw v) (AWs.refl r))
theorem dev_sum {g : Nat} {fn : Func} {code : Code} (hg : Try.prog.funcs[g]? = some fn ∧ fn.name ≠ "runtime.NumGoroutine") (hc : fn.body = some code) (f : Int → List Int → List SwD → Bool)
    (hal : ∀ N B P, okSW (SW.con P) = true → Alone Try.prog g [devA N B P] (.val (.bool (f N B P))) ⟨0, []⟩) : SumC Try.prog g (pureA (fun args => Try.Sdev f (nzDevs args))) := by
  refine pureSumR g ⟨fn, code, hg.1, hg.2, hc⟩ ?_
  intro args v h2 hs
  obtain ⟨N, B, cap, c, cap', e, ok, rfl, rfl⟩ := Sdev_some hs
  refine Alone.argsW (nzDevs_aw args) ?_
  rw [e]
  exact Alone.argsW (dev_args ok) (hal N B (SW.list c) (okSW_con ok))
theorem Try.sum108 : SumC Try.prog 108 (pureA (fun args => Try.S108 (nzs Try.nzD args))) := by
  refine pureSumR 108 ⟨Try.f108, _, Try.fnOk108.1, Try.fnOk108.2, rfl⟩ ?_
  intro args v h2 hs
  refine Alone.nz (cs := Try.nzD) (by simp [Try.nzD, Con.len]) ?_
  replace hs : (Try.S108 (nzs Try.nzD args)).run = some (v, h2) := hs
  generalize nzs Try.nzD args = args' at hs ⊢
  unfold Try.S108 at hs
  split at hs
  · rename_i c cap N x y
    rw [Ans.run_grd] at hs
    cases hb : okSW c with
    | false => rw [hb] at hs; cases hs
    | true =>
      rw [hb, cond_true] at hs
      refine Alone.argsW (args' := [.ro (SW.con (SW.list c)) none, .clo (.func 95) [] [.rptr (box1 N x y) 0 0]]) (AWs.args (.cons (SW.aw (okSW_some hb).1 _) (AWs.refl _))) ?_
      refine rootS_alone Try.e108 (d := 5) (ls := lsumsOf [(2, Try.L108)]) (AllL.of1 (a := Try.b108) (by kernel_rfl) (LsOk.of rfl rfl Try.l108)) ((Try.w108 N x y _).trans ?_)
      rw [← hs, okSW_con hb, SW_list_con, beq_self_eq_true]
      unfold idxB
      cases (SW.list c).any (badB N) <;> rfl
  · cases hs
def Try.A108 : AFun := pureA (fun args => Try.S108 (nzs Try.nzD args))
def Try.E63 : Env := Try.env0 false (sumsOf [(108, Try.A108)]) (keepF 0 [])
theorem Try.e63 : EnvOk2 Try.prog Try.E63 := Try.envOk false (sumsOf [(108, Try.A108)]) _ (sumsOf_ok (show AllS Try.prog [(108, Try.A108)] from ⟨Try.sum108, trivial⟩))
theorem Try.w63 (N : Int) (B : List Int) (P : List SwD) : rootS Try.E63 5 63 (lsumsOf []) [devA N B P] =
 bif decide (N ≥ 8) then
 bif decide (N ≤ 4096) then
 bif (↑B.length : Int) == IntKind.i64.wrap (N * 64) then
 bif decide ((↑P.length : Int) ≤ 2000) then
 bif okSW (SW.con P) then
 bif decide (idxB N (SW.list (SW.con P)) ≥ 0) then
 some (.val (.bool false), ⟨0, []⟩)
 else
 some (.val (.bool true), ⟨0, []⟩)
 else
 none
 else
 some (.val (.bool false), ⟨0, []⟩)
 else
 some (.val (.bool false), ⟨0, []⟩)
 else
 some (.val (.bool false), ⟨0, []⟩)
 else
 some (.val (.bool false), ⟨0, []⟩) := by kernel_rfl
theorem Try.sum63 : SumC Try.prog 63 (pureA (fun args => Try.Sdev isDevB (nzDevs args))) := by
  refine dev_sum Try.fnOk63 rfl isDevB ?_
  intro N B P ok
  refine rootS_alone Try.e63 (d := 5) (ls := lsumsOf []) (AllL.of0 (by kernel_rfl)) ((Try.w63 N B P).trans ?_)
  rw [ok, SW_list_con]
  unfold isDevB idxB
  cases decide (N ≥ 8) <;> cases decide (N ≤ 4096) <;> cases ((B.length : Int) == IntKind.i64.wrap (N * 64)) <;> cases decide ((P.length : Int) ≤ 2000) <;> cases hp : P.any (badB N) <;> rfl
end Go.Ev
/- Devices: slices.Clone of writes; owned. -/
namespace Go.Ev
open Go.Proofs
def Try.S96 (args : List AV) : Ans (AV × Heap) := match args with
  | [.ro c cap] => .grd (SW.ok c && Nat.ble c.len 1000000) (.out (.own 0 0 c.len none 2, oneH (SW.con (SW.list c))))
  | _ => .no
def Try.A96 : AFun := roA (fun args => Try.S96 (nzs Try.nzD args))
def Try.S59x (args : List AV) : Ans (AV × Heap) := match args with
  | [.ro (.tab w n f) cap] => .grd (BT.ok (.tab w n f) && Nat.ble n 1000000) (.out (.own 0 0 n none 1, oneH (.ints .u8 (BT.list (.tab w n f)))))
  | [.ro (.ints .u8 l) cap] => .grd (Nat.ble l.length 1000000) (.out (.ro (.ints .u8 l) none, ⟨0, []⟩))
  | _ => .no
def Try.A59x : AFun := roA Try.S59x
theorem Try.al59 (l : List Int) (cap : Option Nat) (hb : l.length ≤ 1000000) : Alone Try.prog 59 [.ro (.ints .u8 l) cap] (.own 0 0 l.length none 1) (oneH (.ints .u8 l)) := by
  have run := fun args v h2 => rootS_alone Try.e1 (d := 3) (g := 59) (ls := lsumsOf []) (AllL.of0 (by kernel_rfl)) (args := args) (v := v) (h2 := h2)
  refine clone_alone (.ints .u8 l) cap ?_ ?_ ?_
  · intro hl
    cases l with
    | nil => cases hl
    | cons x l =>
      refine run _ _ _ ((Try.r59a x l cap).trans ?_)
      rw [Nat.zero_add, Nat.mul_one, ble_t (by rw [most_eq]; omega)]; rfl
  · intro _ m; exact ⟨_, run _ _ _ (Try.r59b m)⟩
  · intro h0 p m
    have : l = [] := List.length_eq_zero_iff.1 h0
    subst this
    exact run _ _ _ (Try.r59c p m)
theorem Try.sum59x : SumC Try.prog 59 Try.A59x := by
  refine roSumR 59 ⟨Try.f59, _, Try.fnOk59.1, Try.fnOk59.2, rfl⟩ ?_
  intro args v h2 hs
  unfold Try.S59x at hs
  split at hs
  · rename_i w n f cap
    rw [Ans.run_grd] at hs
    cases hb : (BT.ok (.tab w n f) && Nat.ble n 1000000) with
    | false => rw [hb] at hs; cases hs
    | true =>
      rw [hb, cond_true] at hs
      rw [Bool.and_eq_true, Nat.ble_eq] at hb
      injection hs with hs
      injection hs with q1 q2
      subst q1; subst q2
      have hlen : (BT.list (.tab w n f)).length = n := BT.list_len _
      refine ⟨fun e he => ?_, ?_⟩
      · have : e = ⟨0, 0, .cells (.ints .u8 (BT.list (.tab w n f)))⟩ := by simpa [oneH] using he
        rw [this]; exact ⟨_, rfl⟩
      · have := Try.al59 (BT.list (.tab w n f)) none (by rw [hlen]; exact hb.2)
        rw [hlen] at this
        exact Alone.argsW (AWs.args (.cons (fun _ _ _ => VR.conv (tab_ints hb.1) (.inr rfl)) .nil)) this
  · rename_i l cap
    rw [Ans.run_grd] at hs
    cases hb : Nat.ble l.length 1000000 with
    | false => rw [hb] at hs; cases hs
    | true =>
      rw [hb, cond_true] at hs
      rw [Nat.ble_eq] at hb
      injection hs with hs
      injection hs with q1 q2
      subst q1; subst q2
      exact ⟨fun e he => (by cases he), Alone.freeze (con := .ints .u8 l) rfl (Try.al59 l cap hb)⟩
  · cases hs
theorem Try.r96a (e : SwD) (P : List SwD) : rootS Try.E1 3 96 (lsumsOf []) [.ro (SW.own (e :: P)) none] =
 bif ((0 + (List.map SW.row (e :: P)).length) * 32).ble most && (0 + (List.map SW.row (e :: P)).length).ble most then
 some (.own 0 0 (0 + (List.map SW.row (e :: P)).length) none 2, ⟨1, [⟨0, 0, .cells (.rows true 2 ([] ++ (List.map SW.row (e :: P))))⟩]⟩)
 else
 none := by kernel_rfl
theorem Try.r96b (m : Nat) : rootS Try.E1 3 96 (lsumsOf []) [.val (.slice none 0 m)] =
 some (.val (.slice none 0 0), ⟨0, []⟩) := by kernel_rfl
theorem Try.r96c (p : Addr) (m : Nat) : rootS Try.E1 3 96 (lsumsOf []) [.val (.slice (some p) 0 m)] =
 some (.own 0 0 (0) none 2, ⟨1, [⟨0, 0, .cells (.rows true 2 [])⟩]⟩) := by kernel_rfl
theorem SW_own_len (P : List SwD) : (SW.own P).len = P.length := by simp [RowTy.own, Con.len]
theorem Try.al96 (P : List SwD) (hl : P.length ≤ 1000000) : Alone Try.prog 96 [.ro (SW.own P) none] (.own 0 0 P.length none 2) (oneH (SW.con P)) := by
  have run := fun args v h2 => rootS_alone Try.e1 (d := 3) (g := 96) (ls := lsumsOf []) (AllL.of0 (by kernel_rfl)) (args := args) (v := v) (h2 := h2)
  have key := clone_alone (P := Try.prog) (g := 96) (SW.own P) none ?_ ?_ ?_
  · rw [SW_own_len] at key
    have h1 := SW.conv (SW.ok_own P)
    rw [SW.list_own] at h1
    exact Alone.outW (v' := .own 0 0 P.length none 2) (Weak.oneH (c := SW.own P) (c' := SW.con P) (t := [.own 0 0 P.length none 2]) rfl h1) key
  · intro hl'
    cases P with
    | nil => cases hl'
    | cons x P =>
      refine run _ _ _ ((Try.r96a x P).trans ?_)
      have e1 : 0 + (List.map SW.row (x :: P)).length = (x :: P).length := by simp
      rw [e1, ble_t (by rw [most_eq]; omega), ble_t (by rw [most_eq]; omega), SW_own_len]
      rfl
  · intro _ m; exact ⟨_, run _ _ _ (Try.r96b m)⟩
  · intro h0 p m
    have : P = [] := by cases P with | nil => rfl | cons => simp [RowTy.own, Con.len] at h0
    subst this
    exact run _ _ _ (Try.r96c p m)
theorem Try.sum96 : SumC Try.prog 96 Try.A96 := by
  refine roSumR 96 ⟨Try.f96, _, Try.fnOk96.1, Try.fnOk96.2, rfl⟩ ?_
  intro args v h2 hs
  replace hs : (Try.S96 (nzs Try.nzD args)).run = some (v, h2) := hs
  have fin : Alone Try.prog 96 (nzs Try.nzD args) v h2 ∧ ∀ e ∈ h2.es, ∃ k, e.blk = .cells k := by
    generalize nzs Try.nzD args = args' at hs ⊢
    unfold Try.S96 at hs
    split at hs
    · rename_i c cap
      rw [Ans.run_grd] at hs
      cases hb : (SW.ok c && Nat.ble c.len 1000000) with
      | false => rw [hb] at hs; cases hs
      | true =>
        rw [hb, cond_true] at hs
        rw [Bool.and_eq_true, Nat.ble_eq] at hb
        injection hs with hs
        injection hs with q1 q2
        subst q1; subst q2
        refine ⟨?_, fun e he => ?_⟩
        · refine Alone.argsW (args' := [.ro (SW.own (SW.list c)) none]) (AWs.args (.cons (fun _ _ _ => VR.conv (SW.convOwn hb.1) (.inr rfl)) .nil)) ?_
          have := Try.al96 (SW.list c) (by rw [SW.list_len]; exact hb.2)
          rw [SW.list_len] at this
          exact this
        · have : e = ⟨0, 0, .cells (SW.con (SW.list c))⟩ := by simpa [oneH] using he
          rw [this]; exact ⟨_, rfl⟩
    · cases hs
  exact ⟨fin.2, fin.1.nz (cs := Try.nzD) (by simp [Try.nzD, Con.len])⟩
def Try.t64 : List (Nat × AFun) := [(59, Try.A59x), (96, Try.A96)]
def Try.E64 : Env := Try.env0 false (sumsOf Try.t64) (keepF 64 [(3, [1,2,14,15,16])])
def Try.V64 (P : List SwD) (k : Nat) : List AV := [.ptr 0 0 0, .ptr 3 0 0, .own 2 0 P.length none 2, .val (.int .i64 P.length), .val (.int .i64 k)]
def Try.H64 (z : List (List AV)) (N : Int) (B : List Int) (P : List SwD) : Heap := ⟨4, [⟨3, 0, .cells (.rows true 3 z)⟩, ⟨2, 0, .cells (SW.con P)⟩, ⟨1, 0, .cells (.ints .u8 B)⟩, ⟨0, 0, .cells (.rows false 3 [[.val (.int .i64 N), .own 1 0 B.length none 1, .own 2 0 P.length none 2]])⟩]⟩
def Try.b64 : Code := nthD .skip (loopsOf (bodyOf Try.E64 64)) 0
def Try.B64 (s : St) : Option (AX × St) := codeS Try.E64 (callF Try.E64 3) (Try.E64.keep 64) (lsumsOf []) Try.b64 (outK [1,2,14,15,16] [1,2]) s
def lensOk (P : List SwD) : Bool := P.all fun e => Nat.ble e.2.length 1000000
def Try.f64L (vs : List AV) (h : Heap) : Ans (AX × List AV × Heap) := match vs, h with
  | [.ptr 0 0 0, .ptr 3 0 0, .own 2 0 n none 2, .val (.int .i64 m), .val (.int .i64 (.ofNat 0))], ⟨4, [⟨3, 0, .cells (.rows true 3 z)⟩, ⟨2, 0, .cells c⟩, ⟨1, 0, .cells (.ints .u8 B)⟩, ⟨0, 0, .cells (.rows false 3 [[.val (.int .i64 N), .own 1 0 bl none 1, .own 2 0 n' none 2]])⟩]⟩ =>
    .grd (m == (c.len : Int) && (decide (n = c.len) && (decide (n' = c.len) && (decide (bl = B.length) && (c.pureF && (SW.ok c && (Nat.ble c.len 1000000 && lensOk (SW.list c)))))))) (.out (.exit 0, [.ptr 0 0 0, .ptr 3 0 0], Try.H64 z N B (SW.list c)))
  | _, _ => .no
def Try.L64 : LSum := toLSum 32 [1,2,14,15,16] [1,2] Try.f64L
def devT (N : Int) (B : List Int) (P : List SwD) : AV := .agg [.val (.int .i64 N), .ro (BT.con B) none, .ro (SW.con P) none]
theorem Try.e64 : EnvOk2 Try.prog Try.E64 := Try.envOk false (sumsOf Try.t64) _ (sumsOf_ok (show AllS Try.prog Try.t64 from ⟨Try.sum59x, Try.sum96, trivial⟩))
theorem Try.r64 (z : List (List AV)) (N : Int) (B : List Int) (P : List SwD) (k : Nat) : Try.B64 (stOf 32 [1,2,14,15,16] (Try.V64 P k) (Try.H64 z N B P)) =
 bif decide ((↑k : Int) < (↑P.length : Int)) then
 bif inR (↑k : Int) P.length then
 bif (0 + k).blt P.length then
 bif (P.getD (0 + k) SW.z).snd.length.ble 1000000 then
 bif inR (↑k : Int) P.length then
 bif (0 + k).blt P.length && true then
 some (.normal, stOf 32 [1, 2, 14, 15, 16] [.ptr 0 0 0, .ptr 3 0 0, .own 2 0 (P.length) none 2, .val (.int .i64 ((↑P.length : Int))), .val (.int .i64 (IntKind.i64.wrap ((↑k : Int) + 1)))] ⟨4, [⟨3, 0, .cells (.rows true 3 (z))⟩, ⟨2, 0, .cells (.rows true 2 (tabSet (P.length) (fun i => SW.row (P.getD i SW.z)) (0 + k) [.val (.int .i64 ((P.getD (0 + k) SW.z).fst)), .ro (.ints .u8 ((P.getD (0 + k) SW.z).snd)) none]))⟩, ⟨1, 0, .cells (.ints .u8 (B))⟩, ⟨0, 0, .cells (.rows false 3 ([.val (.int .i64 (N)), .own 1 0 (B.length) none 1, .own 2 0 (P.length) none 2] :: []))⟩]⟩ )
 else
 none
 else
 none
 else
 none
 else
 none
 else
 none
 else
 some (.exit 0, stOf 32 [1, 2] [.ptr 0 0 0, .ptr 3 0 0] ⟨4, [⟨3, 0, .cells (.rows true 3 (z))⟩, ⟨2, 0, .cells (SW.con P)⟩, ⟨1, 0, .cells (.ints .u8 (B))⟩, ⟨0, 0, .cells (.rows false 3 ([.val (.int .i64 (N)), .own 1 0 (B.length) none 1, .own 2 0 (P.length) none 2] :: []))⟩]⟩ ) := by kernel_rfl
theorem Try.H64_ok (z : List (List AV)) (N : Int) (B : List Int) (P : List SwD) : (Try.H64 z N B P).ok := by
  refine ⟨by show List.Nodup [3, 2, 1, 0]; decide, fun id e h => ?_⟩
  have h' : (bif Nat.beq 3 id then some _ else bif Nat.beq 2 id then some _ else bif Nat.beq 1 id then some _ else bif Nat.beq 0 id then some _ else none) = some e := h
  have : id < 4 := by
    rcases Nat.lt_or_ge id 4 with q | q
    · exact q
    · rw [show Nat.beq 3 id = false from beqF (by omega), show Nat.beq 2 id = false from beqF (by omega), show Nat.beq 1 id = false from beqF (by omega), show Nat.beq 0 id = false from beqF (by omega)] at h'
      cases h'
  exact this
theorem lensOk_get {P : List SwD} (h : lensOk P = true) (k : Nat) : (P.getD k SW.z).2.length ≤ 1000000 := by
  unfold lensOk at h
  rw [List.getD_eq_getElem?_getD]
  cases hi : P[k]? with
  | none => simp [SW]
  | some x =>
    have := (List.all_eq_true.1 h) x (List.mem_of_getElem? hi)
    simpa [Nat.ble_eq] using this
theorem Try.l64 : ∀ s e s', s.h.ok → (Try.L64 s).run = some (e, s') → Triple Try.prog (.loop Try.b64) s e s' := by
  refine loop_lawW Try.e64 (d := 3) (g := 64) (ls := lsumsOf []) (c := Try.b64) trivial 32 [1,2,14,15,16] [1,2] (T := List (List AV) × Int × List Int × List SwD × Nat)
    (fun x => Try.V64 x.2.2.2.1 x.2.2.2.2) (fun x => Try.H64 x.1 x.2.1 x.2.2.1 x.2.2.2.1) (fun x => (x.2.2.2.1.length ≤ 1000000 ∧ lensOk x.2.2.2.1 = true) ∧ x.2.2.2.2 ≤ x.2.2.2.1.length) (fun x => x.2.2.2.1.length - x.2.2.2.2)
    (fun x => (.exit 0, [.ptr 0 0 0, .ptr 3 0 0], Try.H64 x.1 x.2.1 x.2.2.1 x.2.2.2.1)) Try.f64L ?_ (fun x _ => Try.H64_ok _ _ _ _) ?_
  · intro vs h e vo h' hok hf
    unfold Try.f64L at hf
    split at hf
    · rename_i n m z c B N bl n'
      rw [Ans.run_grd] at hf
      cases hb : (m == (c.len : Int) && (decide (n = c.len) && (decide (n' = c.len) && (decide (bl = B.length) && (c.pureF && (SW.ok c && (Nat.ble c.len 1000000 && lensOk (SW.list c)))))))) with
      | false => rw [hb] at hf; cases hf
      | true =>
      rw [hb, cond_true] at hf
      simp only [Bool.and_eq_true, beq_iff_eq, decide_eq_true_eq, Nat.ble_eq] at hb
      obtain ⟨rfl, rfl, rfl, rfl, h1, h2, h3, h4⟩ := hb
      injection hf with hf
      refine ⟨(z, N, B, SW.list c, 0), ⟨⟨by rw [SW.list_len]; exact h3, h4⟩, Nat.zero_le _⟩, ?_, hf⟩
      have e1 : (SW.list c).length = c.len := SW.list_len c
      show Weak _ (stOf 32 [1,2,14,15,16] [.ptr 0 0 0, .ptr 3 0 0, .own 2 0 (SW.list c).length none 2, .val (.int .i64 (SW.list c).length), .val (.int .i64 (0 : Nat))] (Try.H64 z N B (SW.list c)))
      unfold Try.H64
      rw [e1]
      exact Weak.heap hok (.same _ (.con 2 0 0 (by rw [h1]; rfl) (SW.conv h2) (EsW.refl _)))
    · cases hf
  · rintro ⟨z, N, B, P, k⟩ ⟨⟨hl, hls⟩, hk⟩
    simp only at hl hls hk
    have key := Try.r64 z N B P k
    by_cases h : k < P.length
    · rw [declt_nat, inR_nat, Nat.zero_add, decide_eq_true h, blt_t h, ble_t (lensOk_get hls k), wrapT k (by omega)] at key
      refine .inl ⟨(z, N, B, P, k + 1), _, key, ?_, ⟨⟨hl, hls⟩, h⟩, by show P.length - (k + 1) < P.length - k; omega, rfl⟩
      refine Weak.heap ?_ (.same _ (.con 2 0 0 rfl (tabSet_same (AWs.refl _)) (EsW.refl _)))
      have := Try.H64_ok z N B P
      refine ⟨this.uniq, fun id e he => ?_⟩
      have hq : (findE (Try.H64 z N B P).es id).isSome = true := by
        revert he
        simp only [findE_cons, Try.H64]
        split
        · intro _; rfl
        · split
          · intro _; rfl
          · split
            · intro _; rfl
            · split
              · intro _; rfl
              · intro q; simp [findE, foldL] at q
      cases hf : findE (Try.H64 z N B P).es id with
      | none => rw [hf] at hq; cases hq
      | some e0 => exact this.lt id e0 hf
    · have : k = P.length := by omega
      subst this
      rw [declt_nat, decide_eq_false h] at key
      exact .inr ⟨_, key, Weak.refl (Try.H64_ok _ _ _ _), by simp⟩
theorem Try.w64 (N : Int) (B : List Int) (P : List SwD) : rootS Try.E64 3 64 (lsumsOf [(3, Try.L64)]) [devT N B P] =
 bif BT.ok (Con.tab 1 B.length fun i => BT.row (B.getD i 0)) && B.length.ble 1000000 then
 bif SW.ok (SW.con P) && P.length.ble 1000000 then
 bif (↑P.length : Int) == (↑(SW.list (SW.con P)).length : Int) && (decide (P.length = (SW.list (SW.con P)).length) && (decide (P.length = (SW.list (SW.con P)).length) && (decide (B.length = (BT.list (Con.tab 1 B.length fun i => BT.row (B.getD i 0))).length) && (SW.ok (SW.con (SW.list (SW.con P))) && ((SW.list (SW.con P)).length.ble 1000000 && lensOk (SW.list (SW.con (SW.list (SW.con P))))))))) then
 some (.agg [.val (.int .i64 (N)), .own 0 0 ((BT.list (Con.tab 1 B.length fun i => BT.row (B.getD i 0))).length) none 1, .own 1 0 ((SW.list (SW.con (SW.list (SW.con P)))).length) none 2], ⟨2, [⟨1, 0, .cells (SW.con (SW.list (SW.con (SW.list (SW.con P)))))⟩, ⟨0, 0, .cells (.ints .u8 (BT.list (Con.tab 1 B.length fun i => BT.row (B.getD i 0))))⟩]⟩)
 else
 none
 else
 none
 else
 none := by kernel_rfl
def devO (N : Int) (B : List Int) (P : List SwD) : AV := .agg [.val (.int .i64 N), .own 0 0 B.length none 1, .own 1 0 P.length none 2]
def devH (B : List Int) (P : List SwD) : Heap := ⟨2, [⟨1, 0, .cells (SW.con P)⟩, ⟨0, 0, .cells (.ints .u8 B)⟩]⟩
def Try.S64 (args : List AV) : Ans (AV × Heap) := match args with
  | [.agg [.val (.int .i64 N), .ro (.ints .u8 B) cap, .ro c cap']] => .grd (okSW c && (Nat.ble B.length 1000000 && (Nat.ble c.len 1000000 && lensOk (SW.list c)))) (.out (devO N B (SW.list c), devH B (SW.list c)))
  | _ => .no
def Try.A64 : AFun := roA (fun args => Try.S64 (nzDevs args))
theorem BT_list_con (l : List Int) : BT.list (BT.con l) = l := BT.list_con l
theorem Try.al64 (N : Int) (B : List Int) (P : List SwD) (h1 : B.length ≤ 1000000) (h2 : P.length ≤ 1000000) (h3 : lensOk P = true) : Alone Try.prog 64 [devA N B P] (devO N B P) (devH B P) := by
  refine Alone.argsW (args' := [devT N B P]) (AWs.args (.cons (AW.agg (.cons (AW.refl _) (.cons (AW.ro (ints_tab B) none) (AWs.refl _)))) .nil)) ?_
  refine rootS_alone Try.e64 (d := 3) (ls := lsumsOf [(3, Try.L64)]) (AllL.of1 (a := Try.b64) (by kernel_rfl) (LsOk.of rfl rfl Try.l64)) ((Try.w64 N B P).trans ?_)
  have e1 : BT.list (Con.tab 1 B.length fun i => BT.row (B.getD i 0)) = B := BT_list_con B
  have e2 : BT.ok (Con.tab 1 B.length fun i => BT.row (B.getD i 0)) = true := BT.ok_con B
  rw [e2, SW.ok_con, SW_list_con, SW_list_con, SW.ok_con, e1, beq_self_eq_true, ble_t h1, ble_t h2, h3, decide_eq_true (rfl : P.length = P.length), decide_eq_true (rfl : B.length = B.length)]
  rfl
theorem Try.sum64 : SumC Try.prog 64 Try.A64 := by
  refine roSumR 64 ⟨Try.f64, _, Try.fnOk64.1, Try.fnOk64.2, rfl⟩ ?_
  intro args v h2 hs
  replace hs : (Try.S64 (nzDevs args)).run = some (v, h2) := hs
  have fin : Alone Try.prog 64 (nzDevs args) v h2 ∧ ∀ e ∈ h2.es, ∃ k, e.blk = .cells k := by
    generalize nzDevs args = args' at hs ⊢
    unfold Try.S64 at hs
    split at hs
    · rename_i N B cap c cap'
      rw [Ans.run_grd] at hs
      cases hb : (okSW c && (Nat.ble B.length 1000000 && (Nat.ble c.len 1000000 && lensOk (SW.list c)))) with
      | false => rw [hb] at hs; cases hs
      | true =>
        rw [hb, cond_true] at hs
        simp only [Bool.and_eq_true, Nat.ble_eq] at hb
        injection hs with hs
        injection hs with q1 q2
        subst q1; subst q2
        refine ⟨Alone.argsW (dev_args hb.1) (Try.al64 N B (SW.list c) hb.2.1 (by rw [SW.list_len]; exact hb.2.2.1) hb.2.2.2), fun e he => ?_⟩
        simp only [devH, List.mem_cons, List.not_mem_nil, or_false] at he
        rcases he with rfl | rfl
        · exact ⟨_, rfl⟩
        · exact ⟨_, rfl⟩
    · cases hs
  exact ⟨fin.2, fin.1.argsW (nzDevs_aw args)⟩
end Go.Ev
/- Functions that write to their caller's blocks, by what they do. -/
namespace Go.Ev
theorem renTo_ok {p : Nat} {m : List Nat} {t : List AV} {h : Heap} (hk : h.ok) : (⟨m.length, renEs (fun id => posN id m) h.es m⟩ : Heap).ok ∧ ∀ (w : World) (c : Cx) (us : List Value), VRs w c t us → HR w c h.G →
    ∃ c1, VRs w c1 (rens (fun id => posN id m) t) us ∧ HR w c1 (⟨m.length, renEs (fun id => posN id m) h.es m⟩ : Heap).G ∧ c1.M = c.M ∧ c1.O = c.O ∧ (∀ id, c1.V id → id < m.length) ∧ (∀ i j, posN i m = some j → c.V i → c1.V j ∧ c1.ι j = c.ι i) := by
  obtain ⟨σ, hσ⟩ : ∃ σ : Nat → Option Nat, σ = fun id => posN id m := ⟨_, rfl⟩
  rw [← hσ]
  have hlt : ∀ i j, σ i = some j → j < m.length := by rw [hσ]; exact fun i j h => posN_lt h
  have hget : ∀ i j, σ i = some j → m.reverse.getD j 0 = i := by
    rw [hσ]
    intro i j h
    simp [List.getD_eq_getElem?_getD, posN_get m i j h]
  have huq := renEs_uniq σ h.es m
  refine ⟨⟨huq, fun id e he => ?_⟩, ?_⟩
  · have := renEs_lt σ h.es m e (findE_some_mem he)
    rw [findE_id he] at this
    exact this
  · intro w c us hv hr
    let c2 : Cx := ⟨c.M, c.O, fun j => c.ι (m.reverse.getD j 0), fun j => ∃ i, σ i = some j ∧ c.V i⟩
    have hs : RenTo σ c c2 := ⟨rfl, fun i j h hv => ⟨⟨i, h, hv⟩, by show c.ι (m.reverse.getD j 0) = c.ι i; rw [hget i j h]⟩⟩
    refine ⟨c2, rens_rel hs hv, ?_, rfl, rfl, ?_, fun i j hij hi => hs.ids i j (by rw [hσ]; exact hij) hi⟩
    · have hG : ∀ j b, (⟨m.length, renEs σ h.es m⟩ : Heap).G j = some b → ∃ i e0, σ i = some j ∧ findE h.es i = some e0 ∧ e0.blk.ren σ = some b := by
        intro j b hb
        simp only [Heap.G, Option.map_eq_some_iff] at hb
        obtain ⟨e, he, rfl⟩ := hb
        obtain ⟨i, e0, h1, h2, h3⟩ := renEs_mem σ h.es m e (findE_some_mem he)
        rw [findE_id he] at h1
        exact ⟨i, e0, h1, h2, h3⟩
      have hGo : ∀ i e0, findE h.es i = some e0 → h.G i = some e0.blk := fun i e0 q => by simp [Heap.G, q]
      refine ⟨?_, ?_, ?_, hr.dis⟩
      · intro j b hb
        obtain ⟨i, e0, h1, h2, h3⟩ := hG j b hb
        exact ⟨i, h1, hr.valid i _ (hGo i e0 h2)⟩
      · intro j b hb
        obtain ⟨i, e0, h1, h2, h3⟩ := hG j b hb
        have := blk_ren hs (fun _ q => q) (hr.blk i _ (hGo i e0 h2)) h3
        have e1 : c2.ι j = c.ι i := by show c.ι (m.reverse.getD j 0) = c.ι i; rw [hget i j h1]
        rw [e1]; exact this
      · intro j1 j2 b1 b2 hb1 hb2 l1 l2 hbk
        obtain ⟨i1, e1, h1, h2, h3⟩ := hG j1 b1 hb1
        obtain ⟨i2, e2, g1, g2, g3⟩ := hG j2 b2 hb2
        have q1 : c2.ι j1 = c.ι i1 := by show c.ι (m.reverse.getD j1 0) = c.ι i1; rw [hget i1 j1 h1]
        have q2 : c2.ι j2 = c.ι i2 := by show c.ι (m.reverse.getD j2 0) = c.ι i2; rw [hget i2 j2 g1]
        rw [q1] at l1 hbk
        rw [q2] at l2 hbk
        have := hr.inj i1 i2 _ _ (hGo i1 e1 h2) (hGo i2 e2 g2) l1 l2 hbk
        subst this
        rw [h1] at g1
        injection g1
    · rintro j ⟨i, h1, _⟩
      exact hlt i j h1
def EffAlone (P : Program) (g p : Nat) (args : List AV) (h : Heap) (v : AV) (h2 : Heap) : Prop := h2.ok ∧ ∀ (w : World) (c : Cx) (args' : List Value), HR w c h.G → VRs w c args args' → (∀ id, c.V id → id < h.next) →
      CallsIn Fence.wide 0 P g args'.toArray w (fun e w' => ∃ v', e = .returned v' ∧ PostF ⟨true, p⟩ w c h h2 v v' w')
def backN (m : List Nat) (n : Nat) : Nat → Option Nat := fun j => bif Nat.blt j m.length then some (m.reverse.getD j 0) else some (n + j)
def verOf (es : List Ent) (id : Nat) : Nat := match findE es id with | some e => e.ver + 1 | none => 0
def backE (m : List Nat) (n : Nat) (es : List Ent) (e : Ent) : Ent := ⟨match backN m n e.id with | some j => j | none => 0, match backN m n e.id with | some j => verOf es j | none => 0, match e.blk.ren (backN m n) with | some b => b | none => .defd⟩
def backEs (m : List Nat) (n : Nat) (es : List Ent) (l : List Ent) : List Ent := foldL [] (fun e _ ih => backE m n es e :: ih) l
def nodupB (l : List Nat) : Bool := foldL true (fun a l ih => !memN a l && ih) l
def allIn (m : List Nat) (es : List Ent) : Bool := foldL true (fun e _ ih => memN e.id m && ih) es
def allHas (m : List Nat) (es : List Ent) : Bool := foldL true (fun a _ ih => (findE es a).isSome && ih) m
def effA (S : List AV → Heap → Ans (AV × Heap)) : AFun := fun _ args h K =>
  (fun m => bif nodupB m && (allIn m h.es && allHas m h.es) then
    (S (rens (fun id => posN id m) args) ⟨m.length, renEs (fun id => posN id m) h.es m⟩).walk fun r => match r with
      | (v, h2) => bif allHas (downTo m.length) h2.es then K (v.ren (backN m h.next)) ⟨h.next + h2.next, backEs m h.next h.es h2.es⟩ else none
  else none) (reach fuelR h.es (refss args) [])
theorem memN_of {a : Nat} {l : List Nat} : memN a l = true ↔ a ∈ l := memN_iff a l
theorem nodupB_iff : ∀ {l : List Nat}, nodupB l = true → l.Nodup
  | [], _ => List.nodup_nil
  | a :: l, h => by
    have h' : (!memN a l && nodupB l) = true := h
    rw [Bool.and_eq_true, Bool.not_eq_true'] at h'
    refine List.nodup_cons.2 ⟨fun q => ?_, nodupB_iff h'.2⟩
    rw [memN_of.2 q] at h'
    exact absurd h'.1 (by simp)
theorem allIn_get : ∀ {es : List Ent} {m : List Nat}, allIn m es = true → ∀ e ∈ es, e.id ∈ m
  | [], _, _, e, h => by cases h
  | a :: l, m, h, e, he => by
    have h' : (memN a.id m && allIn m l) = true := h
    rw [Bool.and_eq_true] at h'
    rcases List.mem_cons.1 he with rfl | q
    · exact memN_of.1 h'.1
    · exact allIn_get h'.2 e q
theorem allHas_get : ∀ {m : List Nat} {es : List Ent}, allHas m es = true → ∀ a ∈ m, ∃ e, findE es a = some e
  | [], _, _, a, h => by cases h
  | b :: l, es, h, a, ha => by
    have h' : ((findE es b).isSome && allHas l es) = true := h
    rw [Bool.and_eq_true] at h'
    rcases List.mem_cons.1 ha with rfl | q
    · exact Option.isSome_iff_exists.1 h'.1
    · exact allHas_get h'.2 a q
theorem mem_downTo : ∀ {p i : Nat}, i < p → i ∈ downTo p
  | 0, i, h => by omega
  | p + 1, i, h => by
    show i ∈ p :: downTo p
    rcases Nat.lt_or_ge i p with q | q
    · exact List.mem_cons_of_mem _ (mem_downTo q)
    · have : i = p := by omega
      rw [this]; exact List.mem_cons_self
theorem backEs_eq (m : List Nat) (n : Nat) (es : List Ent) : ∀ l, backEs m n es l = l.map (backE m n es)
  | [] => rfl
  | e :: l => by show backE m n es e :: backEs m n es l = _; rw [backEs_eq m n es l]; rfl
theorem posN_rev {m : List Nat} (hn : m.Nodup) : ∀ {j : Nat}, j < m.length → posN (m.reverse.getD j 0) m = some j := by
  induction m with
  | nil => intro j h; simp at h
  | cons a l ih =>
    intro j hj
    rw [List.nodup_cons] at hn
    rw [List.reverse_cons]
    rcases Nat.lt_or_ge j l.length with q | q
    · have e1 : (l.reverse ++ [a]).getD j 0 = l.reverse.getD j 0 := by
        rw [List.getD_eq_getElem?_getD, List.getD_eq_getElem?_getD, List.getElem?_append_left (by simpa using q)]
      have hm : l.reverse.getD j 0 ∈ l := by
        rw [List.getD_eq_getElem?_getD, List.getElem?_eq_getElem (by simpa using q)]
        exact List.mem_reverse.1 (List.getElem_mem _)
      rw [e1]
      show (bif Nat.beq a (l.reverse.getD j 0) then some l.length else posN (l.reverse.getD j 0) l) = some j
      rw [beqF (fun e => hn.1 (by rw [e]; exact hm)), cond_false]
      exact ih hn.2 q
    · have : j = l.length := by simp at hj; omega
      subst this
      have e1 : (l.reverse ++ [a]).getD l.length 0 = a := by
        rw [List.getD_eq_getElem?_getD, List.getElem?_append_right (by simp)]; simp
      rw [e1]
      show (bif Nat.beq a a then some l.length else _) = some l.length
      rw [Nat.beq_refl]; rfl
theorem effSumR {P : Program} (g : Nat) {S : List AV → Heap → Ans (AV × Heap)} (hf : ∃ fn c, P.funcs[g]? = some fn ∧ fn.name ≠ "runtime.NumGoroutine" ∧ fn.body = some c)
    (hS : ∀ args h v h2, h.ok → (S args h).run = some (v, h2) → EffAlone P g h.next args h v h2) : SumC P g (effA S) := by
  refine ⟨hf, ?_⟩
  intro ρ args h K r hk hA
  unfold effA at hA
  simp only at hA
  obtain ⟨m, hm⟩ : ∃ m, m = reach fuelR h.es (refss args) [] := ⟨_, rfl⟩
  rw [← hm] at hA
  cases hck : (nodupB m && (allIn m h.es && allHas m h.es)) with
  | false => rw [hck] at hA; cases hA
  | true =>
  rw [hck, cond_true, Ans.walk_eq] at hA
  simp only [Bool.and_eq_true] at hck
  obtain ⟨ck1, ck2, ck3⟩ := hck
  have hnd := nodupB_iff ck1
  split at hA
  · rename_i r0 hs
    obtain ⟨v0, h0⟩ := r0
    simp only at hA
    cases cc3 : allHas (downTo m.length) h0.es with
    | false => rw [cc3] at hA; cases hA
    | true =>
    rw [cc3, cond_true] at hA
    obtain ⟨hc0, hren⟩ := renTo_ok (p := 0) (m := m) (t := args) hk
    obtain ⟨k2, k3⟩ := hS _ _ v0 h0 hc0 hs
    obtain ⟨h', hh'⟩ : ∃ h' : Heap, h' = ⟨h.next + h0.next, backEs m h.next h.es h0.es⟩ := ⟨_, rfl⟩
    rw [← hh'] at hA
    have hmem : ∀ i, i < m.length → m.reverse.getD i 0 ∈ m := fun i hi => by
      rw [List.getD_eq_getElem?_getD, List.getElem?_eq_getElem (by simpa using hi)]
      exact List.mem_reverse.1 (List.getElem_mem _)
    have hold : ∀ i, i < m.length → ∃ e, findE h.es (m.reverse.getD i 0) = some e := fun i hi => allHas_get ck3 _ (hmem i hi)
    have hbk : ∀ i, i < m.length → backN m h.next i = some (m.reverse.getD i 0) ∧ m.reverse.getD i 0 < h.next := by
      intro i hi
      refine ⟨by unfold backN; rw [show Nat.blt i m.length = true from blt_t hi]; rfl, ?_⟩
      obtain ⟨e, he⟩ := hold i hi
      exact hk.lt _ e he
    have hbk2 : ∀ i, m.length ≤ i → backN m h.next i = some (h.next + i) := fun i hi => by
      unfold backN; rw [show Nat.blt i m.length = false from blt_f hi]; rfl
    have hinj : ∀ i j a, backN m h.next i = some a → backN m h.next j = some a → i = j := by
      intro i j a hi hj
      rcases Nat.lt_or_ge i m.length with qi | qi <;> rcases Nat.lt_or_ge j m.length with qj | qj
      · have e1 := (hbk i qi).1.symm.trans hi
        have e2 := (hbk j qj).1.symm.trans hj
        injection e1 with e1
        injection e2 with e2
        have := posN_rev hnd qi
        rw [e1, ← e2, posN_rev hnd qj] at this
        injection this with this
        exact this.symm
      · have e1 := (hbk i qi).1.symm.trans hi
        have e2 := (hbk2 j qj).symm.trans hj
        injection e1 with e1
        injection e2 with e2
        have := (hbk i qi).2
        omega
      · have e1 := (hbk2 i qi).symm.trans hi
        have e2 := (hbk j qj).1.symm.trans hj
        injection e1 with e1
        injection e2 with e2
        have := (hbk j qj).2
        omega
      · have e1 := (hbk2 i qi).symm.trans hi
        have e2 := (hbk2 j qj).symm.trans hj
        injection e1 with e1
        injection e2 with e2
        omega
    have hbs : ∀ i, ∃ a, backN m h.next i = some a := fun i => by
      rcases Nat.lt_or_ge i m.length with q | q
      · exact ⟨_, (hbk i q).1⟩
      · exact ⟨_, hbk2 i q⟩
    have hbid : ∀ e a, backN m h.next e.id = some a → (backE m h.next h.es e).id = a := fun e a ha => by
      unfold backE; simp only [ha]
    have hfind : ∀ j e', findE h'.es j = some e' → ∃ e, findE h0.es e.id = some e ∧ e' = backE m h.next h.es e ∧ backN m h.next e.id = some j := by
      intro j e' he'
      have h1 := findE_some_mem he'
      have h2 := findE_id he'
      rw [hh', backEs_eq] at h1
      obtain ⟨e, m1, rfl⟩ := List.mem_map.1 h1
      obtain ⟨a, ha⟩ := hbs e.id
      rw [hbid e a ha] at h2
      subst h2
      exact ⟨e, findE_mem k2.uniq m1, rfl, ha⟩
    have hok : h'.ok := by
      refine ⟨?_, ?_⟩
      · rw [hh', backEs_eq]
        unfold Uniq
        rw [List.map_map]
        have hu := k2.uniq
        unfold Uniq at hu
        have : ∀ l : List Ent, (l.map (·.id)).Nodup → (l.map ((fun e => e.id) ∘ backE m h.next h.es)).Nodup := by
          intro l
          induction l with
          | nil => exact fun _ => List.nodup_nil
          | cons e l ih =>
            intro hl
            rw [List.map_cons, List.nodup_cons] at hl ⊢
            refine ⟨fun q => hl.1 ?_, ih hl.2⟩
            obtain ⟨e2, m2, q2⟩ := List.mem_map.1 q
            obtain ⟨a, ha⟩ := hbs e.id
            obtain ⟨a2, ha2⟩ := hbs e2.id
            have q3 : (backE m h.next h.es e2).id = (backE m h.next h.es e).id := q2
            rw [hbid e a ha, hbid e2 a2 ha2] at q3
            subst q3
            exact List.mem_map.2 ⟨e2, m2, hinj _ _ _ ha2 ha⟩
        exact this _ hu
      · intro j e' he'
        obtain ⟨e, m1, _, ha⟩ := hfind j e' he'
        have hl := k2.lt _ e m1
        rw [hh']
        show j < h.next + h0.next
        rcases Nat.lt_or_ge e.id m.length with q | q
        · have e1 := (hbk _ q).1.symm.trans ha
          injection e1 with e1
          have := (hbk _ q).2
          omega
        · have e1 := (hbk2 _ q).symm.trans ha
          injection e1 with e1
          omega
    refine ⟨_, h', hA, ⟨by rw [hh']; exact Nat.le_add_right _ _, hok, ?_⟩, ?_⟩
    · intro id e' he' hi
      obtain ⟨e, m1, rfl, ha⟩ := hfind id e' he'
      have hlt : e.id < m.length := by
        rcases Nat.lt_or_ge e.id m.length with q | q
        · exact q
        · have e1 := (hbk2 _ q).symm.trans ha
          injection e1 with e1
          omega
      obtain ⟨e0, m2⟩ := hold e.id hlt
      have e1 := (hbk _ hlt).1.symm.trans ha
      injection e1 with e1
      rw [e1] at m2
      have hv : (backE m h.next h.es e).ver = e0.ver + 1 := by
        unfold backE verOf
        simp only [ha, m2]
      exact ⟨e0, m2, by rw [hv]; omega, fun q => by rw [hv] at q; omega⟩
    · intro w c args' hr hv hfr
      classical
      let c0 : Cx := ⟨c.M, fun b => ∃ id e, findE h.es id = some e ∧ (c.ι id).live = true ∧ (c.ι id).blk = b, c.ι, c.V⟩
      have hx0 : Ext0 w c w c0 := ⟨fun _ q => q, fun _ _ _ => rfl, fun i hi => ⟨hi, rfl⟩⟩
      have hG0 : ∀ id e, findE h.es id = some e → h.G id = some e.blk := fun id e he => by simp [Heap.G, he]
      have hO0 : ∀ b, c0.O b → c.O b := by
        rintro b ⟨id, e, he, hl, rfl⟩
        exact (hr.blk id _ (hG0 id e he)).owned hl
      have hr0 : HR w c0 h.G := by
        refine ⟨hr.valid, fun id b hb => ?_, hr.inj, fun b hb => ⟨fun o => (hr.dis b hb).1 (hO0 b o), (hr.dis b hb).2⟩⟩
        refine BlkRel.keep hx0 (hr.blk id b hb) (fun _ => rfl) (fun hl => ?_)
        simp only [Heap.G, Option.map_eq_some_iff] at hb
        obtain ⟨e, he, _⟩ := hb
        exact ⟨id, e, he, hl, rfl⟩
      obtain ⟨c1, q1, q2, q3, q4, q5, q6⟩ := hren w c0 args' (VRs.mono hx0 hv) hr0
      refine CallsIn.mono (k3 w c1 args' q2 q1 q5) ?_
      rintro e w' ⟨v', rfl, c', r1, r2, r3, r4⟩
      have horig : ∀ i, i < m.length → c.V (m.reverse.getD i 0) ∧ c1.V i ∧ c'.V i ∧ c'.ι i = c.ι (m.reverse.getD i 0) := by
        intro i hi
        obtain ⟨e, he⟩ := hold i hi
        have h1 := hr.valid _ _ (hG0 _ e he)
        obtain ⟨a1, a2⟩ := q6 _ i (posN_rev hnd hi) h1
        obtain ⟨b1, b2⟩ := r3.P rfl i hi a1
        exact ⟨h1, a1, b1, b2.trans a2⟩
      have hposm : ∀ id, id ∈ m → ∃ i, i < m.length ∧ m.reverse.getD i 0 = id := by
        intro id hid
        obtain ⟨i, hi, he⟩ := List.getElem_of_mem (List.mem_reverse.2 hid)
        exact ⟨i, by simpa using hi, by rw [List.getD_eq_getElem?_getD, List.getElem?_eq_getElem hi, he]; rfl⟩
      have h0G : ∀ i e, findE h0.es i = some e → h0.G i = some e.blk := fun i e q => by simp [Heap.G, q]
      have hMo : ∀ b, b < w.heap.size → c'.M b → c.M b := by
        intro b hb hm'
        rcases r2.Mo b hb hm' with z | ⟨_, z⟩
        · rw [q3] at z; exact z
        · rw [q4] at z
          obtain ⟨id, e, he, hl, rfl⟩ := z
          obtain ⟨i, hi, rfl⟩ := hposm id (by
            have := allIn_get ck2 e (findE_some_mem he)
            rwa [findE_id he] at this)
          obtain ⟨e2, he2⟩ := allHas_get cc3 i (mem_downTo hi)
          obtain ⟨_, _, _, b4⟩ := horig i hi
          have ho := (r4.blk i _ (h0G i e2 he2)).owned (by rw [b4]; exact hl)
          rw [b4] at ho
          exact absurd ho (r4.dis _ hm').1
      have hVc : ∀ id, c'.V id → id < h0.next := r3.R rfl
      have hn' : h'.next = h.next + h0.next := by rw [hh']
      let c2 : Cx := ⟨c'.M, fun b => c'.O b ∨ (c.O b ∧ b < w.heap.size), fun j => if h.next + m.length ≤ j ∧ c'.V (j - h.next) then c'.ι (j - h.next) else c.ι j, fun j => c.V j ∨ (h.next + m.length ≤ j ∧ c'.V (j - h.next))⟩
      have hX : RenTo (backN m h.next) c' c2 := by
        refine ⟨rfl, fun i j hij hi => ?_⟩
        rcases Nat.lt_or_ge i m.length with q | q
        · obtain ⟨e1, e2⟩ := hbk i q
          have e1 := e1.symm.trans hij
          injection e1 with e1
          subst e1
          obtain ⟨b1, _, _, b4⟩ := horig i q
          refine ⟨.inl b1, ?_⟩
          show (if _ then _ else _) = _
          rw [if_neg (fun z => by omega), b4]
        · have e1 := (hbk2 i q).symm.trans hij
          injection e1 with e1
          subst e1
          have e2 : h.next + i - h.next = i := by omega
          refine ⟨.inr ⟨by omega, by rw [e2]; exact hi⟩, ?_⟩
          show (if _ then _ else _) = _
          rw [e2, if_pos ⟨by omega, hi⟩]
      have hold2 : ∀ i, c.V i → c2.V i ∧ c2.ι i = c.ι i := by
        intro i hi
        refine ⟨.inl hi, ?_⟩
        show (if _ then _ else _) = _
        rw [if_neg]
        rintro ⟨z1, z2⟩
        have := hVc _ z2
        exact hfr i (by omega) (by rw [hn']; omega) hi
      have hx : Ext w c w' c2 := by
        refine ⟨⟨fun b q => r2.M b (by rw [q3]; exact q), fun b hb q => r2.mkeep b hb (by rw [q3]; exact q), hold2⟩, r2.os, r2.tape, r2.output, r2.size, fun b hb q => r2.keep b hb (fun o => q (hO0 b (by rw [q4] at o; exact o))), ?_, hMo, ?_⟩
        · rintro b hb (z | z)
          · have := r2.own b hb z
            rw [q4] at this
            exact hO0 b this
          · exact z.1
        · intro b hm' hn
          obtain ⟨z1, z2⟩ := r2.nd b hm' (by rw [q3]; exact hn)
          refine ⟨?_, z2⟩
          rintro (z | z)
          · exact z1 z
          · exact hn (hMo b z.2 hm')
      have hG : ∀ j b, h'.G j = some b → ∃ e, findE h0.es e.id = some e ∧ backN m h.next e.id = some j ∧ e.blk.ren (backN m h.next) = some b := by
        intro j b hb
        simp only [Heap.G, Option.map_eq_some_iff] at hb
        obtain ⟨e', he', rfl⟩ := hb
        obtain ⟨e, m1, rfl, ha⟩ := hfind j e' he'
        refine ⟨e, m1, ha, ?_⟩
        obtain ⟨i0, v0, b0⟩ := e
        cases b0 with
        | cells k => rfl
        | defd => rfl
        | loop st pend t ps a b df =>
          obtain ⟨d, hd⟩ := hbs df
          simp only [backE, Blk.ren, hd]
      refine ⟨v', rfl, c2, ren_rel hX r1, hx, ?_, ?_⟩
      · rintro id (z | ⟨z1, z2⟩)
        · exact .inl z
        · have := hVc _ z2
          exact .inr ⟨by omega, by rw [hn']; omega⟩
      · refine ⟨?_, ?_, ?_, ?_⟩
        · intro j b hb
          obtain ⟨e, m1, ha, _⟩ := hG j b hb
          exact (hX.ids _ _ ha (r4.valid _ _ (h0G _ e m1))).1
        · intro j b hb
          obtain ⟨e, m1, ha, hb2⟩ := hG j b hb
          rw [(hX.ids _ _ ha (r4.valid _ _ (h0G _ e m1))).2]
          exact blk_ren hX (fun b q => Or.inl q) (r4.blk _ _ (h0G _ e m1)) hb2
        · intro j1 j2 b1 b2 hb1 hb2 l1 l2 hbk'
          obtain ⟨e1, m1, ha1, _⟩ := hG j1 b1 hb1
          obtain ⟨e2, m2, ha2, _⟩ := hG j2 b2 hb2
          rw [(hX.ids _ _ ha1 (r4.valid _ _ (h0G _ e1 m1))).2] at l1 hbk'
          rw [(hX.ids _ _ ha2 (r4.valid _ _ (h0G _ e2 m2))).2] at l2 hbk'
          have := r4.inj _ _ _ _ (h0G _ e1 m1) (h0G _ e2 m2) l1 l2 hbk'
          rw [this] at ha1
          exact Option.some.inj (ha1.symm.trans ha2)
        · intro b hb
          obtain ⟨z1, z2⟩ := r4.dis b hb
          refine ⟨?_, z2⟩
          rintro (z | z)
          · exact z1 z
          · exact (hr.dis b (hMo b z.2 hb)).1 z.1
  · cases hA
end Go.Ev
/- Code of functions that write to their caller's blocks; loops there. -/
namespace Go.Ev
def TripleP (P : Program) (p : Nat) (c : Code) (s : St) (e : AX) (s' : St) : Prop := s'.h.ok ∧ ∀ {F : Fence} (hF : FOk F) (hro : F.round = none) (w : World) (cx : Cx) (a : Act), StRel w cx s a → Fresh ⟨true, p⟩ cx s.h.next s'.h.next →
    c.wpIn F 0 P (fun e' a' w' => e' = exitOf e ∧ PostC ⟨true, p⟩ w cx s.h.next s' a' w') a w
def codeP {ρ : Type} (env : Env) (call : Calling) (kp : Nat → Option (List Nat)) (ls : Nat → Option LSum) (p : Nat) (c : Code) : KC ρ → St → Option ρ :=
  Code.rec (motive := fun _ => KC ρ → St → Option ρ)
    (fun K s => K .normal s)
    (fun _ ops draw K s => regionK env call ops draw K s)
    (fun _ b iha ihb K s => iha (thenK (fun s' => ihb K (trimR ⟨true, p⟩ (kpOf kp b) s')) K) s)
    (fun c _ _ iha ihb K s => condV (ev s.t c) (iha K s) (ihb K s))
    (fun id _ ih K s => ih (blockK id K) s)
    (fun c ih K s => match lsOf ls c with
      | some L => sumK (L (trimR ⟨true, p⟩ (kpOf kp c) s)) K
      | none => loopK (trimR ⟨true, p⟩ (kpOf kp c)) ih K env.rounds (trimR ⟨true, p⟩ (kpOf kp c) s))
    (fun f ps assign body _ _ K s => rangeK env.strict call (ev s.t f) ps assign body K s)
    (fun id K s => K (.exit id) s)
    (fun _ _ _ _ => none)
    (fun _ K s => K .normal s)
    (fun _ _ _ => none)
    (fun K s => K .ret s)
    (fun _ _ _ => none) c
def LsOkP (P : Program) (p : Nat) (ls : Nat → Option LSum) (c : Code) : Prop := match lsOf ls c with | some L => ∀ s e s', s.h.ok → (L s).run = some (e, s') → TripleP P p (.loop c) s e s' | none => True
def WeakP (p : Nat) (s s' : St) : Prop := s'.h.ok ∧ ∀ w c a, StRel w c s a → (∀ id, c.V id → id < s.h.next) → ∃ c', StRel w c' s' a ∧ ExtW ⟨true, p⟩ w c w c' ∧ (∀ id, c'.V id → id < s'.h.next) ∧ (∀ i, i < p → c.V i → c'.V i ∧ c'.ι i = c.ι i)
theorem WeakP.refl {p : Nat} {s : St} (h : s.h.ok) : WeakP p s s := ⟨h, fun w c a hr hv => ⟨c, hr, (Ext.refl w c).w, hv, fun _ _ hi => ⟨hi, rfl⟩⟩⟩
theorem WeakP.trans {p : Nat} {s s' s'' : St} (h : WeakP p s s') (k : WeakP p s' s'') : WeakP p s s'' := ⟨k.1, fun w c a hr hv => by
  obtain ⟨c1, r1, x1, v1, u1⟩ := h.2 w c a hr hv
  obtain ⟨c2, r2, x2, v2, u2⟩ := k.2 w c1 a r1 v1
  exact ⟨c2, r2, x1.trans x2, v2, fun i hi q => by
    obtain ⟨a1, a2⟩ := u1 i hi q
    obtain ⟨b1, b2⟩ := u2 i hi a1
    exact ⟨b1, b2.trans a2⟩⟩⟩
theorem WeakP.cells {p : Nat} {s : St} {h' : Heap} (hok : h'.ok) (hnx : s.h.next ≤ h'.next)
    (hG : ∀ j b', h'.G j = some b' → s.h.G j = some b' ∨ ∃ k k', s.h.G j = some (.cells k) ∧ b' = .cells k' ∧ k'.pureF = k.pureF ∧ ConW k k') : WeakP p s ⟨s.t, s.d, h'⟩ := by
  refine ⟨hok, fun w c a hr hv => ⟨c, ⟨hr.t, ?_, hr.d, hr.dv⟩, (Ext.refl w c).w, fun i hi => Nat.lt_of_lt_of_le (hv i hi) hnx, fun _ _ hi => ⟨hi, rfl⟩⟩⟩
  have old : ∀ j b', h'.G j = some b' → ∃ b, s.h.G j = some b := fun j b' hj => by
    rcases hG j b' hj with q | ⟨k, k', q, _⟩
    · exact ⟨_, q⟩
    · exact ⟨_, q⟩
  refine ⟨fun j b' hj => ?_, ?_, ?_, hr.h.dis⟩
  · obtain ⟨b, hb⟩ := old j b' hj; exact hr.h.valid j b hb
  · intro j b' hj
    rcases hG j b' hj with q | ⟨k, k', q, rfl, hpf, hz⟩
    · exact hr.h.blk j b' q
    · have hb : CellsRel w c (c.ι j) k := hr.h.blk j _ q
      refine ⟨hz.wd.trans hb.wd, fun l => hz.len.trans (hb.dead l), hb.own, fun l => ?_⟩
      obtain ⟨arr, te, fz, a1, a2, a3, a4, a5, a6⟩ := hb.arr l
      refine ⟨arr, te, fz, a1, a2, a3, a4, by rw [hz.len]; exact a5, ?_⟩
      intro i j2 v' u hi hj2 hv' hu
      rw [hz.len] at hi
      obtain ⟨v, e1, e2⟩ := hz.row i hi j2 v' hv'
      rw [hpf]
      exact e2 _ _ _ (a6 i j2 v u hi hj2 e1 hu)
  · intro i j b b' hi hj li lj hbk
    obtain ⟨bi, qi⟩ := old i b hi
    obtain ⟨bj, qj⟩ := old j b' hj
    exact hr.h.inj i j bi bj qi qj li lj hbk
theorem WeakP.heap {p : Nat} {t : List AV} {d : List Nat} {n : Nat} {es es' : List Ent} (hok : (⟨n, es⟩ : Heap).ok) (h : EsW es es') : WeakP p ⟨t, d, ⟨n, es⟩⟩ ⟨t, d, ⟨n, es'⟩⟩ := by
  have hok' : (⟨n, es'⟩ : Heap).ok := by
    refine ⟨by have := hok.uniq; unfold Uniq at *; rw [h.ids]; exact this, fun j e hj => ?_⟩
    have : ((findE es j).map (·.blk)).isSome = true := by
      have q := h.find j e.blk (by rw [hj]; rfl)
      rcases q with q | ⟨k, k', q, _⟩ <;> rw [q] <;> rfl
    cases hf : findE es j with
    | none => rw [hf] at this; cases this
    | some e0 => exact hok.lt j e0 hf
  refine WeakP.cells (s := ⟨t, d, ⟨n, es⟩⟩) hok' (Nat.le_refl _) (fun j b' hj => ?_)
  exact h.find j b' hj
section
variable {P : Program} {ρ : Type} {p : Nat}
theorem codeP_sound {call : Calling} (hc : CallOk P call) {env : Env} (he : EnvOk P env) (hmix : P.follows .mixedOrders = true) (kp : Nat → Option (List Nat)) (ls : Nat → Option LSum) (c : Code) (hl : AllL (LsOkP P p ls) (loopsOf c)) : COk P ⟨true, p⟩ false c (fun (K : KC ρ) s => codeP env call kp ls p c K s) := by
  induction c with
  | skip => exact COk.skip
  | region id ops draw => exact COk.region hc he hmix
  | seq a b iha ihb => exact COk.seq (iha (AllL.append hl).1) (ihb (AllL.append hl).2) _
  | cond c a b iha ihb => exact COk.cond (iha (AllL.append hl).1) (ihb (AllL.append hl).2)
  | block id c ih => exact COk.block (ih hl)
  | loop c ih =>
    have hl' : LsOkP P p ls c ∧ AllL (LsOkP P p ls) (loopsOf c) := hl
    obtain ⟨h1, h2⟩ := hl'
    intro K s r hk hK
    have hK' : (match lsOf ls c with
      | some L => sumK (L (trimR ⟨true, p⟩ (kpOf kp c) s)) K
      | none => loopK (trimR ⟨true, p⟩ (kpOf kp c)) (codeP env call kp ls p c) K env.rounds (trimR ⟨true, p⟩ (kpOf kp c) s)) = some r := hK
    unfold LsOkP at h1
    cases hls : lsOf ls c with
    | none =>
      rw [hls] at hK'
      exact COk.loop (ih h2) (kpOf kp c) env.rounds K s r hk hK'
    | some L =>
      rw [hls] at hK' h1
      simp only at hK' h1
      unfold sumK at hK'
      rw [Ans.walk_eq] at hK'
      split at hK'
      · rename_i r0 hL
        obtain ⟨e, s'⟩ := r0
        simp only at hK'
        obtain ⟨t2, t5⟩ := trimR_ok (root := ⟨true, p⟩) (ks := kpOf kp c) hk
        obtain ⟨q1, q2⟩ := h1 _ _ _ t2.1 hL
        refine ⟨e, s', hK', ⟨q1, fun q => by cases q⟩, fun hF hro w cx a hr hfr => ?_⟩
        obtain ⟨c2, r2, x2, v2⟩ := t5 w cx a _ hr hfr
        refine wpIn_mono (q2 hF (hro rfl) w c2 a r2 (hfr.onward v2)) ?_
        rintro e2 a2 w2 ⟨rfl, hp⟩
        exact ⟨rfl, hp.trans x2 v2⟩
      · cases hK'
  | rangeFunc f ps assign body _ _ => exact COk.rangeFunc hc
  | exit id => exact COk.exit
  | scope c _ => intro K s r hk hK; cases hK
  | label l => exact COk.label
  | goto l => intro K s r hk hK; cases hK
  | ret => exact COk.ret
  | refuse why => intro K s r hk hK; cases hK
noncomputable def outKP (p : Nat) (ks ko : List Nat) : KC (AX × St) := fun e s => match e with
  | .normal => some (.normal, canonP p (some ks) s)
  | e => some (e, canonP p (some ko) s)
theorem loop_tripleP {c : Code} {X : KC (AX × St) → St → Option (AX × St)} (hX : COk P ⟨true, p⟩ false c X) (ks ko : List Nat) {T : Type} (st : T → St) (Inv : T → Prop) (m : T → Nat) (fin : T → AX × St)
    (hok : ∀ x, Inv x → (st x).h.ok)
    (hb : ∀ x, Inv x → (∃ x' s1, X (outKP p ks ko) (st x) = some (.normal, s1) ∧ WeakP p s1 (st x') ∧ Inv x' ∧ m x' < m x ∧ fin x' = fin x) ∨ (∃ s1, X (outKP p ks ko) (st x) = some ((fin x).1, s1) ∧ WeakP p s1 (fin x).2 ∧ (fin x).1 ≠ .normal)) :
    ∀ x, Inv x → TripleP P p (.loop c) (st x) (fin x).1 (fin x).2 := by
  have key : ∀ n x, m x < n → Inv x → (fin x).2.h.ok ∧ ∀ {F : Fence} (hF : FOk F) (hro : F.round = none) (w : World) (cx : Cx) (a : Act), StRel w cx (st x) a → (∀ id, cx.V id → id < (st x).h.next) →
      LoopWp F P c (fun e' a' w' => e' = exitOf (fin x).1 ∧ PostC ⟨true, p⟩ w cx (st x).h.next (fin x).2 a' w') n a w := by
    intro n
    induction n with
    | zero => intro x h; omega
    | succ n ih =>
      intro x hm hi
      rcases hb x hi with ⟨x', sx, h1, hw, h2, h3, h4⟩ | ⟨sx, h1, hw, h2⟩
      · obtain ⟨e, s1, k1, k2, k3⟩ := hX _ _ _ (hok x hi) h1
        obtain ⟨i1, i2⟩ := ih x' (by omega) h2
        rw [h4] at i1 i2
        refine ⟨i1, fun hF hro w cx a hr hfr => ?_⟩
        cases e with
        | normal =>
          have hs : canonP p (some ks) s1 = sx := by injection k1 with k1; injection k1 with _ k1
          obtain ⟨t2, t5⟩ := trimR_ok (root := ⟨true, p⟩) (ks := some ks) k2.1
          refine wpIn_mono (k3 hF (fun _ => hro) w cx a hr ⟨fun q => (by cases q), fun _ => hfr⟩) ?_
          rintro e1 a1 w1 ⟨rfl, c1, r1, x1, v1⟩
          have f1 : Fresh ⟨true, p⟩ c1 s1.h.next s1.h.next := ⟨fun q => (by cases q), v1.R⟩
          obtain ⟨c2, r2, x2, v2⟩ := t5 w1 c1 a1 _ r1 f1
          have e2 : trimR ⟨true, p⟩ (some ks) s1 = sx := hs
          rw [e2] at r2 v2
          obtain ⟨c3, r3, x3, v3, u3⟩ := hw.2 w1 c2 a1 r2 (v2.R rfl)
          refine LoopWp.mono ?_ n a1 w1 (i2 hF hro w1 c3 a1 r3 v3)
          rintro e2 a2 w2 ⟨rfl, hp⟩
          have k12 := v1.trans v2
          have k3' : Keeps ⟨true, p⟩ c2 c3 sx.h.next (st x').h.next := ⟨fun q => (by cases q), fun q => (by cases q), fun q => (by cases q), fun _ => v3, fun _ => u3⟩
          exact ⟨rfl, hp.trans ((x1.trans x2).trans x3) (k12.trans k3')⟩
        | exit i => injection k1 with k1; injection k1 with k1; cases k1
        | ret => injection k1 with k1; injection k1 with k1; cases k1
      · obtain ⟨e, s1, k1, k2, k3⟩ := hX _ _ _ (hok x hi) h1
        have hs : ((fin x).1, sx) = (e, canonP p (some ko) s1) ∧ e ≠ .normal := by
          cases e with
          | normal => injection k1 with k1; injection k1 with k1 k1'; exact absurd k1.symm h2
          | exit i => injection k1 with k1; exact ⟨k1.symm, by simp⟩
          | ret => injection k1 with k1; exact ⟨k1.symm, by simp⟩
        obtain ⟨hs, hne⟩ := hs
        injection hs with hs1 hs2
        rw [hs1]
        obtain ⟨t2, t5⟩ := trimR_ok (root := ⟨true, p⟩) (ks := some ko) k2.1
        refine ⟨hw.1, fun hF hro w cx a hr hfr => wpIn_mono (k3 hF (fun _ => hro) w cx a hr ⟨fun q => (by cases q), fun _ => hfr⟩) ?_⟩
        rintro e1 a1 w1 ⟨rfl, c1, r1, x1, v1⟩
        have f1 : Fresh ⟨true, p⟩ c1 s1.h.next s1.h.next := ⟨fun q => (by cases q), v1.R⟩
        obtain ⟨c2, r2, x2, v2⟩ := t5 w1 c1 a1 _ r1 f1
        have e2 : trimR ⟨true, p⟩ (some ko) s1 = sx := hs2.symm
        rw [e2] at r2 v2
        obtain ⟨c3, r3, x3, v3, u3⟩ := hw.2 w1 c2 a1 r2 (v2.R rfl)
        have k12 := v1.trans v2
        have k3' : Keeps ⟨true, p⟩ c2 c3 sx.h.next (fin x).2.h.next := ⟨fun q => (by cases q), fun q => (by cases q), fun q => (by cases q), fun _ => v3, fun _ => u3⟩
        have fin' : exitOf e = exitOf e ∧ PostC ⟨true, p⟩ w cx (st x).h.next (fin x).2 a1 w1 := ⟨rfl, c3, r3, (x1.trans x2).trans x3, k12.trans k3'⟩
        cases e with
        | normal => exact absurd rfl hne
        | exit i => exact fin'
        | ret => exact fin'
  intro x hi
  obtain ⟨h1, h2⟩ := key (m x + 1) x (Nat.lt_succ_self _) hi
  exact ⟨h1, fun hF hro w cx a hr hfr => wpIn_loop_n ⟨m x + 1, h2 hF hro w cx a hr (hfr.R rfl)⟩⟩
theorem TripleP.weak {c : Code} {s s1 s' : St} {e : AX} (hw : WeakP p s s1) (h : TripleP P p c s1 e s') : TripleP P p c s e s' := by
  refine ⟨h.1, fun hF hro w cx a hr hfr => ?_⟩
  obtain ⟨c1, r1, x1, v1, u1⟩ := hw.2 w cx a hr (hfr.R rfl)
  refine wpIn_mono (h.2 hF hro w c1 a r1 ⟨fun q => (by cases q), fun _ => v1⟩) ?_
  rintro e1 a1 w1 ⟨rfl, c2, r2, x2, v2⟩
  have k1 : Keeps ⟨true, p⟩ cx c1 s.h.next s1.h.next := ⟨fun q => (by cases q), fun q => (by cases q), fun q => (by cases q), fun _ => v1, fun _ => u1⟩
  exact ⟨rfl, c2, r2, x1.trans x2, k1.trans v2⟩
theorem loop_lawP {env : Env} (he : EnvOk2 P env) {d g : Nat} {ls : Nat → Option LSum} {c : Code} (hin : AllL (LsOkP P p ls) (loopsOf c)) (n : Nat) (ks ko : List Nat) {T : Type} (V : T → List AV) (H : T → Heap) (Inv : T → Prop) (m : T → Nat) (fin : T → AX × List AV × Heap)
    (f : List AV → Heap → Ans (AX × List AV × Heap))
    (hf : ∀ vs h e vo h', h.ok → (f vs h).run = some (e, vo, h') → ∃ x, Inv x ∧ WeakP p (stOf n ks vs h) (stOf n ks (V x) (H x)) ∧ fin x = (e, vo, h'))
    (hok : ∀ x, Inv x → (H x).ok)
    (hb : ∀ x, Inv x → (∃ x' s1, codeP env (callF env d) (env.keep g) ls p c (outKP p ks ko) (stOf n ks (V x) (H x)) = some (.normal, s1) ∧ WeakP p s1 (stOf n ks (V x') (H x')) ∧ Inv x' ∧ m x' < m x ∧ fin x' = fin x) ∨
      (∃ s1, codeP env (callF env d) (env.keep g) ls p c (outKP p ks ko) (stOf n ks (V x) (H x)) = some ((fin x).1, s1) ∧ WeakP p s1 (stOf n ko (fin x).2.1 (fin x).2.2) ∧ (fin x).1 ≠ .normal)) :
    ∀ s e s', s.h.ok → (toLSum n ks ko f s).run = some (e, s') → TripleP P p (.loop c) s e s' := by
  intro s e s' hk hL
  obtain ⟨vs, vo, h', h1, h2, h3⟩ := toLSum_some hL
  obtain ⟨x, hi, hw, hfin⟩ := hf _ _ _ _ _ hk h2
  have hX := codeP_sound (ρ := AX × St) (p := p) (callF_sound he d) he.ok he.mix (env.keep g) ls c hin
  have key := loop_tripleP hX ks ko (fun x => stOf n ks (V x) (H x)) Inv m (fun x => ((fin x).1, stOf n ko (fin x).2.1 (fin x).2.2)) hok (fun x hi => by
    rcases hb x hi with ⟨x', s1, q1, q2, q3, q4, q5⟩ | ⟨s1, q⟩
    · exact .inl ⟨x', s1, q1, q2, q3, q4, by rw [q5]⟩
    · exact .inr ⟨s1, q⟩) x hi
  rw [hfin] at key
  rw [h1, h3]
  exact TripleP.weak hw key
theorem LsOkP.of {ls : Nat → Option LSum} {c : Code} {i : Nat} {L : LSum} (h1 : Code.fst c = some i) (h2 : ls i = some L) (h : ∀ s e s', s.h.ok → (L s).run = some (e, s') → TripleP P p (.loop c) s e s') : LsOkP P p ls c := by
  have : lsOf ls c = some L := by unfold lsOf; rw [h1]; exact h2
  unfold LsOkP
  rw [this]
  exact h
end
def outVP (p : Nat) (v : AV) (h : Heap) : Option (AV × Heap) := some (getT (canonP p (some [0]) ⟨[v], [], h⟩).t 0, (canonP p (some [0]) ⟨[v], [], h⟩).h)
def rootE (env : Env) (d g p : Nat) (ls : Nat → Option LSum) (args : List AV) (h : Heap) : Option (AV × Heap) :=
  match env.fn.get g with
  | some fn => (match fn.body with
    | some c => codeP env (callF env d) (env.keep g) ls p c (endK env fn (outVP p)) ⟨startT fn args, [], h⟩
    | none => none)
  | none => none
section
variable {P : Program} {env : Env} (he : EnvOk2 P env)
include he
theorem rootE_alone {d g p : Nat} {ls : Nat → Option LSum} (hl : AllL (LsOkP P p ls) (loopsOf (bodyOf env g))) {args : List AV} {h0 : Heap} (hk0 : h0.ok) {v : AV} {h2 : Heap} (hK : rootE env d g p ls args h0 = some (v, h2)) : EffAlone P g p args h0 v h2 := by
  have hc := callF_sound he d
  unfold rootE at hK
  unfold bodyOf at hl
  split at hK
  · rename_i fn hfn
    rw [hfn] at hl
    simp only at hl
    obtain ⟨f1, f2⟩ := he.fn g fn hfn
    split at hK
    · rename_i c hb
      rw [hb] at hl
      simp only at hl
      obtain ⟨e, s', h1, h2', h3⟩ := codeP_sound (p := p) hc he.ok he.mix (env.keep g) ls c hl _ _ _ hk0 hK
      have hl : leaveK env fn (outVP p) s' = some (v, h2) ∧ ∀ id, e ≠ .exit id := by
        cases e with
        | normal => exact ⟨h1, by simp⟩
        | exit id => cases h1
        | ret => exact ⟨h1, by simp⟩
      obtain ⟨hl, hne⟩ := hl
      unfold leaveK at hl
      split at hl
      · rename_i h' hcm
        unfold leaveH at hl
        split at hl
        · rename_i l hla
          rw [sAV_eq] at hl
          obtain ⟨m1, m2, _⟩ := closeMarks_sound (P := P) (fn := fn) (tmps := #[]) (R := fun _ _ => True) s'.d s'.h h' h2'.1 hcm
          obtain ⟨t2, t5⟩ := trimR_ok (root := ⟨true, p⟩) (ks := some [0]) (s := ⟨[oneOrTup l], [], h'⟩) m1.ok
          have hl' : (getT (canonP p (some [0]) ⟨[oneOrTup l], [], h'⟩).t 0, (canonP p (some [0]) ⟨[oneOrTup l], [], h'⟩).h) = (v, h2) := by
            unfold outVP at hl; injection hl
          injection hl' with e1 e2
          refine ⟨by rw [← e2]; exact t2.1, ?_⟩
          intro w cx args' hr hv hV
          apply callsIn_of_wp_marks f1 hb trivial
          have hst : StRel w cx ⟨startT fn args, [], h0⟩ { tmps := args'.toArray ++ Array.replicate (fn.ntmps - args'.toArray.size) undef, defers := [] } := by
            refine ⟨?_, hr, rfl, by simp⟩
            show VRs w cx (args ++ List.replicate (fn.ntmps - args.length) undefA) _
            have : (args'.toArray ++ Array.replicate (fn.ntmps - args'.toArray.size) undef).toList = args' ++ List.replicate (fn.ntmps - args.length) undef := by
              simp [hv.length]
            rw [this]
            exact hv.append (VRs.replicate _ (.val _))
          have hx := h3 (.inl rfl) (fun _ => rfl) w cx _ hst ⟨fun q => (by cases q), fun _ => hV⟩
          refine wpIn_mono hx ?_
          rintro e1' a1 w1 ⟨rfl, c1, r1, x1, v1⟩
          have fin : LeavesInM Fence.wide 0 P fn a1.tmps (fun e w' => ∃ v', e = .returned v' ∧ PostF ⟨true, p⟩ w cx h0 h2 v v' w') a1.defers .returning w1 := by
            obtain ⟨_, _, m3⟩ := closeMarks_sound (P := P) (fn := fn) (tmps := a1.tmps) (R := fun e w' => ∃ v', e = .returned v' ∧ PostF ⟨true, p⟩ w cx h0 h2 v v' w') s'.d s'.h h' h2'.1 hcm
            obtain ⟨w', y1, y2, y3⟩ := m3 w1 c1 r1.h r1.dv
            rw [r1.d]
            apply y3
            obtain ⟨v', z1, z2⟩ := results_sound he.ok (fn := fn) (VRs.mono y1.toExt0 r1.t) y2 hla
            have v1' : Keeps ⟨true, p⟩ cx c1 h0.next h'.next := by rw [m2]; exact v1
            obtain ⟨c2, r2, x2, v2⟩ := t5 w' c1 { tmps := #[v'], defers := [] } h'.next ⟨.cons _ _ _ _ z2 .nil, y2, rfl, by simp⟩ ⟨fun q => (by cases q), v1'.R⟩
            refine ⟨v', z1, v', rfl, c2, ?_, (x1.trans y1.w).trans x2, ?_, ?_⟩
            · rw [← e1]
              have r3 : VRs w' c2 (canonP p (some [0]) ⟨[oneOrTup l], [], h'⟩).t [v'] := r2.t
              generalize (canonP p (some [0]) ⟨[oneOrTup l], [], h'⟩).t = tt at r3
              cases r3 with | cons _ _ _ _ q1 q2 => exact q1
            · rw [← e2]; exact v1'.trans v2
            · rw [← e2]; exact r2.h
          cases e with
          | normal => exact fin
          | exit id => exact absurd rfl (hne id)
          | ret => exact fin
        · cases hl
      · cases hl
    · cases hK
  · cases hK
end
theorem EffAlone.weak {P : Program} {g p : Nat} {args args' : List AV} {h h' : Heap} (hw : WeakP p ⟨args, [], h⟩ ⟨args', [], h'⟩) {v : AV} {h2 : Heap} (k : EffAlone P g p args' h' v h2) : EffAlone P g p args h v h2 := by
  refine ⟨k.1, fun w c us hr hv hV => ?_⟩
  obtain ⟨c1, r1, x1, v1, u1⟩ := hw.2 w c { tmps := us.toArray, defers := [] } ⟨by simpa using hv, hr, rfl, by simp⟩ hV
  have hv1 : VRs w c1 args' us := by simpa using r1.t
  refine CallsIn.mono (k.2 w c1 us r1.h hv1 v1) ?_
  rintro e w' ⟨v', rfl, c', a1, a2, a3, a4⟩
  have k1 : Keeps ⟨true, p⟩ c c1 h.next h'.next := ⟨fun q => (by cases q), fun q => (by cases q), fun q => (by cases q), fun _ => v1, fun _ => u1⟩
  exact ⟨v', rfl, c', a1, x1.trans a2, k1.trans a3, a4⟩
end Go.Ev
