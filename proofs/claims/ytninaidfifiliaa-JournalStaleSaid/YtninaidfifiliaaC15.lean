/- The evaluator, its soundness and the walks: part 15. -/
import Derived.Test.YtninaidfifiliaaC14
set_option linter.unusedSectionVars false
set_option linter.unusedSimpArgs false
set_option linter.unusedVariables false
set_option maxRecDepth 100000
set_option maxRecDepth 1000000
noncomputable section
/- Journals: entries compared (SameEntries); operations as rows, few. -/
namespace Go.Ev
open Go.Proofs
def sameE (x y : EntD) : Bool := sameB x.1 x.2.1 x.2.2.1 x.2.2.2.1 y.1 y.2.1 y.2.2.1 y.2.2.2.1 x.2.2.2.2 y.2.2.2.2
def eqEs (L M : List EntD) : Bool := propB (L.length = M.length ∧ ∀ i, i < L.length → sameE (L.getD i EN.z) (M.getD i EN.z) = true)
def Try.E48 : Env := Try.env0 false (sumsOf [(18, Try.A18)]) (keepF 48 [(4, [0,1,5])])
def Try.b48 : Code := nthD .skip (loopsOf (bodyOf Try.E48 48)) 0
def Try.B48 (s : St) : Option (AX × St) := codeS Try.E48 (callF Try.E48 3) (Try.E48.keep 48) (lsumsOf []) Try.b48 (outK [0,1,5] [4]) s
def Try.V48 (L M : List EntD) (k : Nat) : List AV := [.ro (EN.con L) none, .ro (EN.con M) none, .val (.int .i64 k)]
def Try.s48 (L M : List EntD) : St := stOf 27 [0,1,5] (Try.V48 L M 0) ⟨0, []⟩
def Try.L48 (L M : List EntD) : LSum := atL (Try.s48 L M) (.grd (decide (L.length = M.length) && Nat.ble L.length 1000000) (.br (eqEs L M) (.out (.exit 0, stOf 27 [] [] ⟨0, []⟩)) (.out (.ret, stOf 27 [4] [.val (.bool false)] ⟨0, []⟩))))
theorem Try.e48 : EnvOk2 Try.prog Try.E48 := Try.envOk false (sumsOf [(18, Try.A18)]) _ (sumsOf_ok (show AllS Try.prog [(18, Try.A18)] from ⟨Try.sum18, trivial⟩))
theorem Try.r48 (L M : List EntD) (k : Nat) : Try.B48 (stOf 27 [0,1,5] (Try.V48 L M k) ⟨0, []⟩) =
 bif decide ((↑k : Int) < (↑L.length : Int)) then
 bif inR (↑k : Int) L.length then
 bif inR (↑k : Int) M.length then
 bif sameB (L.getD k EN.z).fst (L.getD k EN.z).snd.fst (L.getD k EN.z).snd.snd.fst (L.getD k EN.z).snd.snd.snd.fst (M.getD k EN.z).fst (M.getD k EN.z).snd.fst (M.getD k EN.z).snd.snd.fst (M.getD k EN.z).snd.snd.snd.fst (L.getD k EN.z).snd.snd.snd.snd (M.getD k EN.z).snd.snd.snd.snd then
 some (.normal, stOf 27 [0, 1, 5] [.ro (EN.con L) none, .ro (EN.con M) none, .val (.int .i64 (IntKind.i64.wrap ((↑k : Int) + 1)))] ⟨0, []⟩)
 else
 some (.ret, stOf 27 [4] [.val (.bool false)] ⟨0, []⟩)
 else
 none
 else
 none
 else
 some (.exit 0, stOf 27 [] [] ⟨0, []⟩) := by kernel_rfl
theorem Try.w48 (L M : List EntD) : rootS Try.E48 3 48 (lsumsOf [(4, Try.L48 L M)]) [.ro (EN.con L) none, .ro (EN.con M) none] =
 bif (↑L.length : Int) != (↑M.length : Int) then
 some (.val (.bool false), ⟨0, []⟩)
 else
 bif isSt (Try.s48 L M) (Try.s48 L M) then
 bif decide (L.length = M.length) && L.length.ble 1000000 then
 bif eqEs L M then
 some (.val (.bool true), ⟨0, []⟩)
 else
 some (.val (.bool false), ⟨0, []⟩)
 else
 none
 else
 none := by kernel_rfl
theorem propB_f {p : Prop} (h : ¬ p) : propB p = false := @decide_eq_false _ (Classical.propDecidable _) h
theorem Try.l48 (L M : List EntD) : ∀ s e s', s.h.ok → (Try.L48 L M s).run = some (e, s') → Triple Try.prog (.loop Try.b48) s e s' := by
  refine atL_grd (fun hp => ?_)
  rw [Bool.and_eq_true, decide_eq_true_eq, Nat.ble_eq] at hp
  obtain ⟨hlm, hl⟩ := hp
  refine loop_at Try.e48 (d := 3) (g := 48) (ls := lsumsOf []) (c := Try.b48) trivial [0,1,5] [4] (T := Nat)
    (fun k => stOf 27 [0,1,5] (Try.V48 L M k) ⟨0, []⟩) (fun k => k ≤ L.length ∧ ∀ i, i < k → sameE (L.getD i EN.z) (M.getD i EN.z) = true) (fun k => L.length - k) (fun _ => bif eqEs L M then (.exit 0, stOf 27 [] [] ⟨0, []⟩) else (.ret, stOf 27 [4] [.val (.bool false)] ⟨0, []⟩)) _ _ 0 ⟨Nat.zero_le _, fun i hi => by omega⟩ (Weak.refl heap0_ok) ?_ (fun k _ => heap0_ok) ?_
  · intro e s' h
    rw [Ans.run_br] at h
    cases hq : eqEs L M <;> rw [hq] at h <;> exact Option.some.inj h
  · rintro k ⟨h1, h2⟩
    have key := Try.r48 L M k
    by_cases hk : k < L.length
    · rw [declt_nat, inR_nat, inR_nat, decide_eq_true hk, decide_eq_true (show k < M.length by omega)] at key
      simp only [Bool.and_self, cond_true'] at key
      have es : sameB (L.getD k EN.z).1 (L.getD k EN.z).2.1 (L.getD k EN.z).2.2.1 (L.getD k EN.z).2.2.2.1 (M.getD k EN.z).1 (M.getD k EN.z).2.1 (M.getD k EN.z).2.2.1 (M.getD k EN.z).2.2.2.1 (L.getD k EN.z).2.2.2.2 (M.getD k EN.z).2.2.2.2 = sameE (L.getD k EN.z) (M.getD k EN.z) := rfl
      rw [es] at key
      cases he : sameE (L.getD k EN.z) (M.getD k EN.z) with
      | true =>
        rw [he, wrapT k (by omega)] at key
        refine .inl ⟨k + 1, _, key, Weak.refl heap0_ok, ⟨hk, fun i hi => ?_⟩, by omega, rfl⟩
        rcases Nat.lt_or_ge i k with q | q
        · exact h2 i q
        · have : i = k := by omega
          subst this; exact he
      | false =>
        rw [he] at key
        have hne : eqEs L M = false := propB_f (fun e => by have := e.2 k hk; rw [he] at this; cases this)
        simp only [hne, cond_false']
        exact .inr ⟨_, key, Weak.refl heap0_ok, by show AX.ret ≠ .normal; intro h; cases h⟩
    · have e1 : k = L.length := by omega
      rw [declt_nat, decide_eq_false hk] at key
      have he : eqEs L M = true := propB_t ⟨hlm, fun i hi => h2 i (by omega)⟩
      simp only [he, cond_true']
      exact .inr ⟨_, key, Weak.refl heap0_ok, by show (AX.exit 0) ≠ .normal; intro h; cases h⟩
def Try.S48 (args : List AV) : Ans (AV × Heap) := match args with
  | [.ro c1 k1, .ro c2 k2] => .grd (okEN c1 && (okEN c2 && Nat.ble (EN.list c1).length 1000000)) (.out (.val (.bool (eqEs (EN.list c1) (EN.list c2))), ⟨0, []⟩))
  | _ => .no
def nzEE : List Con := [.tab 5 0 (fun _ => []), .tab 5 0 (fun _ => [])]
def Try.A48 : AFun := pureA (fun args => Try.S48 (nzs nzEE args))
theorem okEN_some {c : Con} (h : okEN c = true) : EN.ok c = true := by
  unfold okEN at h; rw [Bool.and_eq_true] at h; exact h.1
theorem Try.sum48 : SumC Try.prog 48 Try.A48 := by
  refine pureSumR 48 ⟨Try.f48, _, Try.fnOk48.1, Try.fnOk48.2, rfl⟩ ?_
  intro args v h2 hs
  refine Alone.nz (cs := nzEE) (by simp [nzEE, Con.len]) ?_
  replace hs : (Try.S48 (nzs nzEE args)).run = some (v, h2) := hs
  generalize nzs nzEE args = args' at hs ⊢
  unfold Try.S48 at hs
  split at hs
  · rename_i c1 k1 c2 k2
    rw [Ans.run_grd] at hs
    cases hb : (okEN c1 && (okEN c2 && Nat.ble (EN.list c1).length 1000000)) with
    | false => rw [hb] at hs; cases hs
    | true =>
      rw [hb, cond_true] at hs
      injection hs with hs
      injection hs with q1 q2
      subst q1; subst q2
      rw [Bool.and_eq_true, Bool.and_eq_true] at hb
      obtain ⟨o1, o2, hb⟩ := hb
      refine Alone.argsW (AWs.args (.cons (EN.aw (okEN_some o1) _) (.cons (EN.aw (okEN_some o2) _) .nil))) ?_
      generalize EN.list c1 = L at hb ⊢
      generalize EN.list c2 = M at ⊢
      refine rootS_alone Try.e48 (d := 3) (g := 48) (ls := lsumsOf [(4, Try.L48 L M)]) (AllL.of1 (a := Try.b48) (by kernel_rfl) (LsOk.of rfl rfl (Try.l48 L M))) ((Try.w48 L M).trans ?_)
      by_cases h : L.length = M.length
      · rw [show ((L.length : Int) != (M.length : Int)) = false by rw [h]; simp, isSt_refl, decide_eq_true h, hb]
        cases eqEs L M <;> rfl
      · have h1 : ((L.length : Int) != (M.length : Int)) = true := by rw [bne, Bool.not_eq_true', beq_eq_false_iff_ne]; omega
        have h2 : eqEs L M = false := propB_f (fun e => h e.1)
        rw [h1, h2]; rfl
  · cases hs
abbrev OpD := Int × Int × EntD × List Int
def opRow (x : OpD) : List AV := [.val (.int .i64 x.1), .val (.int .i64 x.2.1), .val (.int .i64 x.2.2.1.1), .val (.int .i64 x.2.2.1.2.1), .val (.int .i64 x.2.2.1.2.2.1), .val (.int .i64 x.2.2.1.2.2.2.1), .ro (.ints .u8 x.2.2.1.2.2.2.2) none, .ro (.ints .i64 x.2.2.2) none]
def opParse : List AV → OpD
  | [.val (.int .i64 k), .val (.int .i64 n), .val (.int .i64 e), .val (.int .i64 a), .val (.int .i64 b), .val (.int .i64 c), .ro (.ints .u8 l) _, .ro (.ints .i64 m) _] => (k, n, (e, a, b, c, l), m)
  | _ => (0, 0, entZ, [])
def opIs : List AV → Bool
  | [.val (.int .i64 k), .val (.int .i64 n), .val (.int .i64 e), .val (.int .i64 a), .val (.int .i64 b), .val (.int .i64 c), .ro (.ints .u8 l) _, .ro (.ints .i64 m) _] => true
  | _ => false
theorem op_law (r : List AV) (h : opIs r = true) (j : Nat) (v' : AV) (hv : (opRow (opParse r))[j]? = some v') : ∃ v, r[j]? = some v ∧ AW v v' := by
  unfold opIs at h
  split at h
  · rename_i k n e a b c l cap m cap2
    exact AWs.get (l' := [.val (.int .i64 k), .val (.int .i64 n), .val (.int .i64 e), .val (.int .i64 a), .val (.int .i64 b), .val (.int .i64 c), .ro (.ints .u8 l) none, .ro (.ints .i64 m) none]) (.cons (AW.refl _) (.cons (AW.refl _) (.cons (AW.refl _) (.cons (AW.refl _) (.cons (AW.refl _) (.cons (AW.refl _) (.cons (AW.cap _ _) (.cons (AW.cap _ _) .nil)))))))) j v' hv
  · cases h
def OP : RowTy OpD := ⟨8, opRow, opParse, opIs, (0, 0, entZ, []), op_law, fun _ => rfl, fun _ => rfl⟩
def Try.E42 : Env := Try.env0 false (sumsOf []) (keepF 42 [(3, [0,3,6,7,8])])
def Try.b42 : Code := nthD .skip (loopsOf (bodyOf Try.E42 42)) 0
def Try.B42 (s : St) : Option (AX × St) := codeS Try.E42 (callF Try.E42 3) (Try.E42.keep 42) (lsumsOf []) Try.b42 (outK [0,3,6,7,8] [0,3]) s
def Try.V42 (l : List OpD) (n : Int) (k : Nat) : List AV := [.ro (OP.con l) none, .val (.int .i64 n), .ro (OP.con l) none, .val (.int .i64 l.length), .val (.int .i64 k)]
def fewN (l : List OpD) (k : Nat) : Int := Nat.rec 0 (fun k ih => IntKind.i64.wrap (ih + IntKind.i64.wrap (((l.getD k OP.z).2.2.1.2.2.2.2.length : Int) + ((l.getD k OP.z).2.2.2.length : Int)))) k
def Try.s42 (l : List OpD) (k : Nat) : St := stOf 30 [0,3,6,7,8] (Try.V42 l (fewN l k) k) ⟨0, []⟩
def Try.x42 (l : List OpD) : AX × St := (.exit 0, stOf 30 [0,3] [.ro (OP.con l) none, .val (.int .i64 (fewN l l.length))] ⟨0, []⟩)
def Try.L42 (l : List OpD) : LSum := atL (Try.s42 l 0) (.grd (Nat.ble l.length 9223372036854775807) (.out (Try.x42 l)))
theorem Try.e42 : EnvOk2 Try.prog Try.E42 := Try.envOk false (sumsOf []) _ (fun g A h => by cases h)
theorem Try.r42 (l : List OpD) (n : Int) (k : Nat) : Try.B42 (stOf 30 [0,3,6,7,8] (Try.V42 l n k) ⟨0, []⟩) =
 bif decide ((↑k : Int) < (↑l.length : Int)) then
 bif inR (↑k : Int) l.length then
 some (.normal, stOf 30 [0, 3, 6, 7, 8] [.ro (OP.con l) none, .val (.int .i64 (IntKind.i64.wrap (n + IntKind.i64.wrap ((↑(l.getD k OP.z).snd.snd.fst.snd.snd.snd.snd.length : Int) + (↑(l.getD k OP.z).snd.snd.snd.length : Int))))), .ro (OP.con l) none, .val (.int .i64 ((↑l.length : Int))), .val (.int .i64 (IntKind.i64.wrap ((↑k : Int) + 1)))] ⟨0, []⟩)
 else
 none
 else
 some (.exit 0, stOf 30 [0, 3] [.ro (OP.con l) none, .val (.int .i64 (n))] ⟨0, []⟩) := by kernel_rfl
theorem Try.w42 (l : List OpD) : rootS Try.E42 3 42 (lsumsOf [(3, Try.L42 l)]) [.ro (OP.con l) none] =
 bif isSt (Try.s42 l 0) (Try.s42 l 0) then
 bif l.length.ble 9223372036854775807 then
 bif decide ((↑l.length : Int) ≤ 60) then
 bif decide (fewN l l.length ≤ 5000) then
 some (.val (.bool true), ⟨0, []⟩)
 else
 some (.val (.bool false), ⟨0, []⟩)
 else
 some (.val (.bool false), ⟨0, []⟩)
 else
 none
 else
 none := by kernel_rfl
theorem Try.l42 (l : List OpD) : ∀ s e s', s.h.ok → (Try.L42 l s).run = some (e, s') → Triple Try.prog (.loop Try.b42) s e s' := by
  refine atL_grd (fun hp => ?_)
  rw [Nat.ble_eq] at hp
  refine loop_at Try.e42 (d := 3) (g := 42) (ls := lsumsOf []) (c := Try.b42) trivial [0,3,6,7,8] [0,3] (T := Nat)
    (fun k => Try.s42 l k) (fun k => k ≤ l.length) (fun k => l.length - k) (fun _ => Try.x42 l) _ _ 0 (Nat.zero_le _) (Weak.refl heap0_ok) ?_ (fun k _ => heap0_ok) ?_
  · intro e s' h
    exact Option.some.inj h
  · intro k h1
    have key := Try.r42 l (fewN l k) k
    by_cases hk : k < l.length
    · rw [declt_nat, inR_nat, decide_eq_true hk, wrapT k (by omega)] at key
      exact .inl ⟨k + 1, _, key, Weak.refl heap0_ok, hk, by show l.length - (k + 1) < l.length - k; omega, rfl⟩
    · have e1 : k = l.length := by omega
      rw [declt_nat, decide_eq_false hk] at key
      subst e1
      exact .inr ⟨_, key, Weak.refl heap0_ok, by show (AX.exit 0) ≠ .normal; intro h; cases h⟩
def fewB (l : List OpD) : Bool := decide ((l.length : Int) ≤ 60) && decide (fewN l l.length ≤ 5000)
def okOP (c : Con) : Bool := OP.ok c && Nat.ble c.len 9223372036854775807
def Try.S42 (args : List AV) : Ans (AV × Heap) := match args with
  | [.ro c1 k1] => .grd (okOP c1) (.out (.val (.bool (fewB (OP.list c1))), ⟨0, []⟩))
  | _ => .no
def nzOP : List Con := [.tab 8 0 (fun _ => [])]
def Try.A42 : AFun := pureA (fun args => Try.S42 (nzs nzOP args))
theorem Try.sum42 : SumC Try.prog 42 Try.A42 := by
  refine pureSumR 42 ⟨Try.f42, _, Try.fnOk42.1, Try.fnOk42.2, rfl⟩ ?_
  intro args v h2 hs
  refine Alone.nz (cs := nzOP) (by simp [nzOP, Con.len]) ?_
  replace hs : (Try.S42 (nzs nzOP args)).run = some (v, h2) := hs
  generalize nzs nzOP args = args' at hs ⊢
  unfold Try.S42 at hs
  split at hs
  · rename_i c1 k1
    rw [Ans.run_grd] at hs
    cases hb : okOP c1 with
    | false => rw [hb] at hs; cases hs
    | true =>
      rw [hb, cond_true] at hs
      injection hs with hs
      injection hs with q1 q2
      subst q1; subst q2
      unfold okOP at hb
      rw [Bool.and_eq_true] at hb
      obtain ⟨o1, hb⟩ := hb
      refine Alone.argsW (AWs.args (.cons (OP.aw o1 _) .nil)) ?_
      rw [← OP.list_len] at hb
      generalize OP.list c1 = l at hb ⊢
      refine rootS_alone Try.e42 (d := 3) (g := 42) (ls := lsumsOf [(3, Try.L42 l)]) (AllL.of1 (a := Try.b42) (by kernel_rfl) (LsOk.of rfl rfl (Try.l42 l))) ((Try.w42 l).trans ?_)
      rw [isSt_refl, hb]
      unfold fewB
      cases decide ((l.length : Int) ≤ 60) <;> cases decide (fewN l l.length ≤ 5000) <;> rfl
  · cases hs
end Go.Ev
/- play: its model; the closure of JournalSurvives. -/
namespace Go.Ev
open Go.Proofs
abbrev MD := List EntD × Int × Int × Int
def mdC (A : List EntD) (b s y : Int) : Con := .rows true 4 [[.ro (EN.con A) none, .val (.int .i64 b), .val (.int .i64 s), .val (.int .i64 y)]]
def OkP (J : JD) : Prop := J.N ≤ 60 ∧ J.gen ≤ 1000 ∧ J.ep ≤ 1000 ∧ ∃ A d sy V, PI J A d sy V
def OkN (n : Int) (J : JD) : Prop := J.N = n ∧ OkP J
def sameAs (a b : List AV) : Bool := propB (a = b)
def Try.bP : Code := nthD .skip (loopsOf (bodyOf Try.E1 43)) 0
def Try.bQ : Code := nthD .skip (loopsOf (bodyOf Try.E1 43)) 1
theorem sameAs_refl (a : List AV) : sameAs a a = true := propB_t rfl
theorem tab_list {n : Nat} {f : Nat → List AV} {M : List EntD} (h : M.length = n) (hf : ∀ i, i < n → f i = EN.row (M.getD i EN.z)) : EN.ok (.tab 5 n f) = true ∧ EN.list (.tab 5 n f) = M := by
  refine ⟨?_, ?_⟩
  · unfold RowTy.ok
    rw [Bool.and_eq_true]
    refine ⟨rfl, @decide_eq_true _ (Classical.propDecidable _) (fun i hi => ?_)⟩
    have hi' : i < n := hi
    show EN.is (f i) = true
    rw [hf i hi']
    exact EN.isr _
  · apply List.ext_getElem?
    intro i
    simp only [RowTy.list, List.getElem?_map]
    show (List.range n)[i]?.map (fun i => EN.parse (f i)) = _
    rcases Nat.lt_or_ge i n with q | q
    · rw [List.getElem?_range q, Option.map_some, hf i q, EN.back, List.getD_eq_getElem?_getD, List.getElem?_eq_getElem (by omega)]; rfl
    · rw [List.getElem?_eq_none (by simpa using q), List.getElem?_eq_none (by omega)]; rfl
theorem en_slice (A : List EntD) (a n : Nat) (h : a + n ≤ A.length) : EN.ok (.tab 5 n (fun i => EN.row (A.getD (a + i) EN.z))) = true ∧ EN.list (.tab 5 n (fun i => EN.row (A.getD (a + i) EN.z))) = (A.drop a).take n :=
  tab_list (by rw [List.length_take, List.length_drop]; omega) (fun i hi => by
    rw [List.getD_eq_getElem?_getD, List.getD_eq_getElem?_getD, List.getElem?_take, if_pos hi, List.getElem?_drop])
theorem en_ok {c : Con} (h : EN.ok c = true) (hl : (EN.list c).length ≤ 9223372036854775807) : okEN c = true := by
  unfold okEN
  rw [h, Bool.true_and, ← RowTy.list_len EN c]
  exact ble_t hl
def okFit (m : MD) (K : List EntD) (a : Int) : Bool := decide (a + K.length ≤ m.1.length) && (decide (a + K.length ≥ if (m.1.length : Int) < m.2.2.2 then (m.1.length : Int) else m.2.2.2) && eqEs K ((m.1.drop a.toNat).take K.length))
def tryM (q : Bool × MD) (K : List EntD) (a : Int) : Bool × MD := bif q.1 then q else bif okFit q.2 K a then (true, (q.2.1.take (a + K.length).toNat, a, a, a + K.length)) else q
def fitM (m : MD) (K : List EntD) : Bool × MD := tryM (tryM (false, m) K m.2.1) K m.2.2.1
def QB (m : MD) (K : JD) : Prop := 0 ≤ m.2.1 ∧ m.2.1 ≤ 1000 ∧ 0 ≤ m.2.2.1 ∧ m.2.2.1 ≤ 1000 ∧ m.1.length ≤ 1000 ∧ K.L.length ≤ 1000
def flD (J : JD) (kp : List Int) : DevD × Int := failD (J.N, J.B, SW.list (SW.con J.P)) kp
def kOf (J : JD) (kp : List Int) : JD := (openJ ((flD J kp).1.1, (flD J kp).1.2.1, [])).1
def PB (n : Int) (l : List OpD) : Prop := n ≤ 60 ∧ l.length ≤ 60 ∧ ∀ x ∈ l, bytesOk x.2.2.1.2.2.2.2 = true ∧ x.2.2.2.length ≤ 9223372036854775807
theorem md_aw {A : List EntD} {c : Con} {cap : Option Nat} (h : EN.ok c = true) (e : EN.list c = A) (b s y : Int) : AWs [.ro c cap, .val (.int .i64 b), .val (.int .i64 s), .val (.int .i64 y)] [.ro (EN.con A) none, .val (.int .i64 b), .val (.int .i64 s), .val (.int .i64 y)] := by
  subst e
  exact .cons (EN.aw h _) (AWs.refl _)
end Go.Ev
/- Operations out of what is read of them. -/
namespace Go.Ev
open Go.Proofs
abbrev opSh : Sh := .agg [.int .i64, .int .i64, entSh, intsSh]
section
variable {H : Type}
noncomputable def intsD (d : DataW H) : List Int := (elemsD d).map intD
noncomputable def tl3 (l : List (DataW H)) : DataW H := l.tail.tail.tail.headD .nil
noncomputable def opD (d : DataW H) : OpD := (intD ((partsD d).headD .nil), intD (tl1 (partsD d)), entD (tl2 (partsD d)), intsD (tl3 (partsD d)))
theorem avs_op (d : DataW H) : avs opSh d = opRow (opD d) := rfl
theorem avs_ops (l : List (DataW H)) : Con.tab (Sh.wd opSh) l.length (fun i => avs opSh (l.getD i .nil)) = OP.con (l.map opD) := by
  unfold RowTy.con
  have e : (fun i => avs opSh (l.getD i .nil)) = fun i => OP.row ((l.map opD).getD i OP.z) := by
    funext i
    rw [avs_op, List.getD_eq_getElem?_getD, List.getD_eq_getElem?_getD, List.getElem?_map]
    cases l[i]? <;> rfl
  rw [e, List.length_map]; rfl
theorem ops_wf {d : DataW H} (h : wfD (.sl opSh) d) : (∀ x ∈ (elemsD d).map opD, bytesOk x.2.2.1.2.2.2.2 = true ∧ x.2.2.2.length ≤ 9223372036854775807) ∧ ((elemsD d).map opD).length ≤ 9223372036854775807 := by
  simp only [wfD] at h
  refine ⟨fun x hx => ?_, by rw [List.length_map]; have := h.1; rw [show maxLen = 9223372036854775807 from rfl] at this; exact this⟩
  obtain ⟨y, hy, rfl⟩ := List.mem_map.1 hx
  have hw := h.2 y hy
  simp only [wfD, wfDL] at hw
  obtain ⟨_, _, ⟨_, _, e3, _⟩, k, _⟩ := hw
  refine ⟨bytes_wf (d := tl2 (partsD (tl2 (partsD y)))) (by simp only [wfD]; exact e3), ?_⟩
  show ((elemsD (tl3 (partsD y))).map intD).length ≤ _
  rw [List.length_map]
  have := k.1
  rw [show maxLen = 9223372036854775807 from rfl] at this
  exact this
end
end Go.Ev
/- play: what stays so from operation to operation (plain law). -/
namespace Go.Ev
open Go.Proofs
theorem sameE_refl (x : EntD) : sameE x x = true := sameB_refl _ _ _ _ _
theorem eqEs_refl (L : List EntD) : eqEs L L = true := propB_t ⟨rfl, fun i _ => sameE_refl _⟩
theorem strOf_inj : ∀ {l m : List Int}, bytesOk l = true → bytesOk m = true → (strOf l).toList = (strOf m).toList → l = m := by
  have h1 : ∀ l : List Int, (strOf l).data.toList = l.map (fun n => UInt8.ofNat n.toNat) := fun l => by unfold strOf; simp
  have h2 : ∀ b : ByteArray, b.toList = b.data.toList := fun b => ByteArray.toList_eq b
  have h3 : ∀ {l m : List Int}, bytesOk l = true → bytesOk m = true → l.map (fun n => UInt8.ofNat n.toNat) = m.map (fun n => UInt8.ofNat n.toNat) → l = m := by
    intro l
    induction l with
    | nil => intro m _ _ h; cases m with
      | nil => rfl
      | cons _ _ => simp at h
    | cons x l ih => intro m hl hm h; cases m with
      | nil => simp at h
      | cons y m =>
        rw [bytesOk_cons] at hl hm
        simp only [Bool.and_eq_true, decide_eq_true_eq] at hl hm
        simp only [List.map_cons, List.cons.injEq] at h
        have e := congrArg UInt8.toNat h.1
        simp only [UInt8.toNat_ofNat'] at e
        have : x = y := by omega
        subst this
        rw [ih hl.2 hm.2 h.2]
  intro l m hl hm h
  rw [h2, h2, h1, h1] at h
  exact h3 hl hm h
theorem sameE_eq {x y : EntD} (hx : bytesOk x.2.2.2.2 = true) (hy : bytesOk y.2.2.2.2 = true) (h : sameE x y = true) : x = y := by
  obtain ⟨k, a, b, c, l⟩ := x
  obtain ⟨k', a', b', c', l'⟩ := y
  unfold sameE sameB at h
  simp only [Bool.and_eq_true, beq_iff_eq] at h
  obtain ⟨h1, ⟨h2, h3, h4, _⟩, h5⟩ := h
  unfold eqS at h5
  have h6 := strOf_inj hx hy (by simpa using h5)
  simp only at h6
  subst h1; subst h2; subst h3; subst h4; subst h6
  rfl
theorem eqEs_eq {L M : List EntD} (hL : ∀ e ∈ L, EntOk e) (hM : ∀ e ∈ M, EntOk e) (h : eqEs L M = true) : L = M := by
  obtain ⟨h1, h2⟩ := propB_eq h
  apply List.ext_getElem h1
  intro i q1 q2
  have := sameE_eq (hL _ (getD_mem q1)).2 (hM _ (getD_mem q2)).2 (h2 i q1)
  rw [List.getD_eq_getElem?_getD, List.getD_eq_getElem?_getD, List.getElem?_eq_getElem q1, List.getElem?_eq_getElem q2] at this
  exact this
structure PInv (n : Int) (k : Nat) (J : JD) (m : MD) : Prop where
  N : J.N = n
  hi : n ≤ 60
  len : m.1.length ≤ k
  gen : J.gen ≤ k + 1
  ep : J.ep ≤ k + 1
  ex : ∃ (b d sy : Nat) (V : Int → List Int), m.2.1 = b ∧ m.2.2.1 = ((b + d : Nat) : Int) ∧ m.2.2.2 = ((b + sy : Nat) : Int) ∧ b ≤ m.1.length ∧ PI J (m.1.drop b) d sy V
theorem PInv.next {n : Int} {k : Nat} {J : JD} {m : MD} (h : PInv n k J m) : PInv n (k + 1) J m :=
  ⟨h.N, h.hi, by have := h.len; omega, by have := h.gen; omega, by have := h.ep; omega, h.ex⟩
theorem PInv.okP {n : Int} {k : Nat} {J : JD} {m : MD} (h : PInv n k J m) (hk : k ≤ 900) : OkP J := by
  obtain ⟨b, d, sy, V, _, _, _, _, p⟩ := h.ex
  exact ⟨by rw [h.N]; exact h.hi, by have := h.gen; omega, by have := h.ep; omega, _, d, sy, V, p⟩
structure PFacts (n : Int) (k : Nat) (J : JD) (m : MD) : Prop where
  jx : JX J
  L : J.L = m.1.drop m.2.2.1.toNat
  b0 : 0 ≤ m.2.1
  bs : m.2.1 ≤ m.2.2.1
  sl : m.2.2.1 ≤ m.1.length
  few : J.L.length ≤ k
theorem PInv.facts {n : Int} {k : Nat} {J : JD} {m : MD} (h : PInv n k J m) : PFacts n k J m := by
  obtain ⟨b, d, sy, V, e1, e2, e3, e4, p⟩ := h.ex
  have hl := h.len
  have hd := p.d1
  rw [List.length_drop] at hd
  have eL : J.L = m.1.drop m.2.2.1.toNat := by rw [p.L, List.drop_drop, e2, Int.toNat_natCast]
  exact ⟨p.jx, eL, by omega, by omega, by omega, by rw [eL, List.length_drop]; omega⟩
theorem pinv_app {n : Int} {k : Nat} {J : JD} {m : MD} (h : PInv n k J m) {e : EntD} (hb : bytesOk e.2.2.2.2 = true) (he : (appJ J e).2 = 0) : appJ J e = (appX J e, 0) ∧ PInv n (k + 1) (appX J e) (m.1 ++ [e], m.2) := by
  obtain ⟨b, d, sy, V, e1, e2, e3, e4, p⟩ := h.ex
  have hj := jr_of p.jx.jr
  have hx := he
  unfold appJ at hx
  rw [hj, cond_true] at hx
  cases h1 : entD? e with
  | false => rw [h1] at hx; cases hx
  | true =>
  rw [h1, cond_true] at hx
  cases h2 : decide ((nP (encD e) : Int) > freeI J) with
  | true => rw [h2] at hx; cases hx
  | false =>
  rw [h2, cond_false] at hx
  cases h3 : decide (J.P.length + nP (encD e) > 2000) with
  | true => rw [h3] at hx; cases hx
  | false =>
  rw [decide_eq_false_iff_not] at h2 h3
  refine ⟨appJ_eq hj h1 (by omega) (by omega), h.N, h.hi, by have := h.len; show (m.1 ++ [e]).length ≤ _; rw [List.length_append]; simp only [List.length_cons, List.length_nil]; omega, by have := h.gen; show J.gen ≤ _; omega, by have := h.ep; show J.ep ≤ _; omega, b, d, sy, appV J e V, e1, e2, e3, by show b ≤ (m.1 ++ [e]).length; rw [List.length_append]; omega, ?_⟩
  show PI (appX J e) ((m.1 ++ [e]).drop b) d sy _
  rw [List.drop_append_of_le_length e4]
  exact pi_app p ⟨h1, hb⟩ (by omega) (by omega)
theorem pinv_sync {n : Int} {k : Nat} {J : JD} {m : MD} (h : PInv n k J m) : syncJ J = (syncX J, 0) ∧ PInv n (k + 1) (syncX J) (m.1, m.2.2.1, m.2.2.1, (m.1.length : Int)) := by
  obtain ⟨b, d, sy, V, e1, e2, e3, e4, p⟩ := h.ex
  have hd := p.d1
  rw [List.length_drop] at hd
  refine ⟨syncJ_eq (jr_of p.jx.jr), h.N, h.hi, by have := h.len; show m.1.length ≤ _; omega, by have := h.gen; show J.gen ≤ _; omega, by have := h.ep; show J.ep ≤ _; omega, b + d, 0, (m.1.drop (b + d)).length, V, e2, e2, ?_, by show b + d ≤ m.1.length; omega, ?_⟩
  · show (m.1.length : Int) = ((b + d + (m.1.drop (b + d)).length : Nat) : Int)
    rw [List.length_drop]; omega
  · show PI (syncX J) (m.1.drop (b + d)) 0 _ V
    have := pi_sync p
    rw [List.drop_drop] at this
    exact this
theorem pinv_trim {n : Int} {k : Nat} {J : JD} {m : MD} (h : PInv n k J m) {x : Int} (hk : k ≤ 900) (he : (trimJ J x).2 = 0) : trimJ J x = (trimX J x, 0) ∧ 0 ≤ x ∧ m.2.2.1 + x ≤ m.1.length ∧ PInv n (k + 1) (trimX J x) (m.1, m.2.1, m.2.2.1 + x, m.2.2.2) := by
  obtain ⟨b, d, sy, V, e1, e2, e3, e4, p⟩ := h.ex
  have hj := jr_of p.jx.jr
  have hg := h.gen
  have hx := he
  unfold trimJ at hx
  rw [hj, cond_true] at hx
  cases h1 : (decide (x < 0) || decide (x > (J.L.length : Int))) with
  | true => rw [h1] at hx; cases hx
  | false =>
  rw [h1, cond_false] at hx
  cases h2 : J.so with
  | true => rw [h2] at hx; cases hx
  | false =>
  rw [h2, cond_false] at hx
  cases h3 : (J.gen == 1073741824 || (J.P.length : Int) == 2000) with
  | true => rw [h3] at hx; cases hx
  | false =>
  rw [Bool.or_eq_false_iff, decide_eq_false_iff_not, decide_eq_false_iff_not] at h1
  rw [Bool.or_eq_false_iff, beq_eq_false_iff_ne, beq_eq_false_iff_ne] at h3
  have hP := (dev_facts p.jx.jr.dev).few
  have hd0 := p.so h2
  subst hd0
  have eL : J.L = m.1.drop b := p.L
  obtain ⟨t, rfl⟩ : ∃ t : Nat, x = t := ⟨x.toNat, by omega⟩
  have ht : t ≤ J.L.length := by omega
  have htl : b + t ≤ m.1.length := by rw [eL, List.length_drop] at ht; omega
  refine ⟨trimJ_eq hj ht h2 (by omega) (by omega), by omega, by rw [e2]; omega, h.N, h.hi, by have := h.len; show m.1.length ≤ _; omega, by show J.gen + 1 ≤ _; omega, by have := h.ep; show J.ep ≤ _; omega, b, t, sy, V, e1, by show m.2.2.1 + (t : Int) = _; rw [e2]; omega, e3, e4, ?_⟩
  exact pi_trim p h2 ht (by omega) (by omega)
theorem many_le {K : List Int} (h : K.any badK = false) (i : Nat) : manyK K i ≤ 64 := by
  unfold manyK
  rcases Nat.lt_or_ge i K.length with q | q
  · rw [List.any_eq_false] at h
    have hm : K.getD i 0 ∈ K := by
      rw [List.getD_eq_getElem?_getD, List.getElem?_eq_getElem q]; exact List.getElem_mem q
    have := h _ hm
    unfold badK at this
    simp only [Bool.or_eq_true, decide_eq_true_eq, not_or] at this
    omega
  · rw [List.getD_eq_getElem?_getD, List.getElem?_eq_none q]
    exact Nat.zero_le _
theorem fail_torn {J : JD} {kp : List Int} (hd : isDevB J.N J.B J.P = true) (he : (flD J kp).2 = 0) : ∃ B', Torn J.B J.P B' ∧ flD J kp = ((J.N, B', []), 0) := by
  unfold flD at he ⊢
  rw [SW_list_con] at he ⊢
  unfold failD isDevD at he ⊢
  simp only at he ⊢
  rw [hd, cond_true] at he ⊢
  cases h1 : (decide ((kp.length : Int) > (J.P.length : Int)) || kp.any badK) with
  | true => rw [h1] at he; cases he
  | false =>
    rw [cond_false]
    rw [Bool.or_eq_false_iff] at h1
    exact ⟨_, torn_settle (many_le h1.2) J.P J.B, rfl⟩
theorem okFit_t {m : MD} {K : List EntD} {a : Int} (ha : 0 ≤ a) (h1 : a + K.length ≤ m.1.length) (h2 : a + K.length ≥ m.2.2.2) (h3 : K = (m.1.drop a.toNat).take K.length) : okFit m K a = true := by
  unfold okFit
  rw [decide_eq_true h1, decide_eq_true (by split <;> omega), ← h3, eqEs_refl]; rfl
theorem okFit_f {m : MD} {K : List EntD} {a : Int} (h : okFit m K a = true) : a + K.length ≤ m.1.length ∧ eqEs K ((m.1.drop a.toNat).take K.length) = true := by
  unfold okFit at h
  simp only [Bool.and_eq_true, decide_eq_true_eq] at h
  exact ⟨h.1, h.2.2⟩
theorem pinv_fail {n : Int} {k : Nat} {J : JD} {m : MD} (h : PInv n k J m) {kp : List Int} (hk : k ≤ 900) (he : (flD J kp).2 = 0) : ∃ B', Torn J.B J.P B' ∧ bytesOk B' = true ∧ flD J kp = ((J.N, B', []), 0) ∧ openJ (J.N, B', []) = (kOf J kp, 0) ∧ JX (kOf J kp) ∧ QB m (kOf J kp) ∧ (fitM m (kOf J kp).L).1 = true ∧ PInv n (k + 1) (kOf J kp) (fitM m (kOf J kp).L).2 := by
  obtain ⟨b, d, sy, V, e1, e2, e3, e4, p⟩ := h.ex
  have hg := h.gen
  have hp := h.ep
  have hl := h.len
  have hd := p.d1
  rw [List.length_drop] at hd
  obtain ⟨B', t1, t2⟩ := fail_torn p.jx.jr.dev he
  obtain ⟨b', c, c1, c2, c3, c4, o1, o2, o3, o4, o5, o6, o7, o8, o9, _, _⟩ := pi_open p t1 (by omega) (by omega)
  have ek : kOf J kp = openX J.N B' := by unfold kOf; rw [t2]; show (openJ (J.N, B', [])).1 = _; rw [o1]
  have eL : (openX J.N B').L = ((m.1.drop b).drop b').take c := o2.L
  have hlen : (openX J.N B').L.length = c := by rw [eL, List.length_take]; omega
  have hb' : b' ≤ d := by rcases c1 with q | q <;> omega
  rw [List.length_drop, List.length_drop] at c3
  have hby := (p.T B' t1).1.by'
  have entsK := o2.ents
  rw [← eL] at entsK
  rw [ek]
  refine ⟨B', t1, hby, t2, o1, o2.jx, ⟨by omega, by omega, by omega, by omega, by omega, by rw [hlen]; omega⟩, ?_⟩
  -- a place that fits
  have fin : ∀ a : Nat, b ≤ a → okFit m (openX J.N B').L a = true → PInv n (k + 1) (openX J.N B') (m.1.take ((a : Int) + (openX J.N B').L.length).toNat, (a : Int), (a : Int), (a : Int) + (openX J.N B').L.length) := fun a ha hf => by
    obtain ⟨f1, f2⟩ := okFit_f hf
    rw [hlen] at f1 f2 ⊢
    have es : (openX J.N B').L = (m.1.drop a).take c := by
      have := eqEs_eq entsK (fun e hm => ?_) f2
      · rw [Int.toNat_natCast] at this; exact this
      · have hm2 := List.mem_of_mem_take hm
        rw [Int.toNat_natCast, show a = b + (a - b) by omega, ← List.drop_drop] at hm2
        exact p.ents e (List.mem_of_mem_drop hm2)
    have e5 : ((a : Int) + (c : Int)).toNat = a + c := by omega
    rw [e5]
    have ed : (m.1.take (a + c)).drop a = (openX J.N B').L := by rw [es, List.drop_take, show a + c - a = c by omega]
    refine ⟨o6.trans h.N, h.hi, ?_, by omega, by rw [o3]; omega, a, 0, c, V, rfl, rfl, by show (a : Int) + (c : Int) = _; omega, ?_, ?_⟩
    · show (m.1.take (a + c)).length ≤ _
      rw [List.length_take]; omega
    · show a ≤ (m.1.take (a + c)).length
      rw [List.length_take]; omega
    · show PI (openX J.N B') ((m.1.take (a + c)).drop a) 0 c V
      rw [ed, eL]; exact o2
  have hA : b' = d → 0 ≤ m.2.2.1 ∧ m.2.2.1 + (c : Int) ≤ m.1.length ∧ m.2.2.1 + (c : Int) ≥ m.2.2.2 := fun q => ⟨by omega, by omega, by omega⟩
  have hB : b' = 0 → 0 ≤ m.2.1 ∧ m.2.1 + (c : Int) ≤ m.1.length ∧ m.2.1 + (c : Int) ≥ m.2.2.2 := fun q => ⟨by omega, by omega, by omega⟩
  have f1 : m.2.1.toNat = b := by omega
  have f2 : m.2.2.1.toNat = b + d := by omega
  unfold fitM
  cases h1 : okFit m (openX J.N B').L m.2.1 with
  | true =>
    have e : tryM (false, m) (openX J.N B').L m.2.1 = (true, (m.1.take (m.2.1 + (openX J.N B').L.length).toNat, m.2.1, m.2.1, m.2.1 + (openX J.N B').L.length)) := by unfold tryM; rw [cond_false, h1]; rfl
    rw [e]
    refine ⟨rfl, ?_⟩
    have := fin b (Nat.le_refl _) (by rw [← e1]; exact h1)
    rw [← e1] at this
    exact this
  | false =>
    have e : tryM (false, m) (openX J.N B').L m.2.1 = (false, m) := by unfold tryM; rw [cond_false, h1]; rfl
    rw [e]
    have h2 : okFit m (openX J.N B').L m.2.2.1 = true := by
      rcases c1 with q | q
      · obtain ⟨k1, k2, k3⟩ := hA q
        subst q
        refine okFit_t k1 (by rw [hlen]; exact k2) (by rw [hlen]; exact k3) ?_
        rw [hlen, f2, eL, List.drop_drop]
      · obtain ⟨k1, k2, k3⟩ := hB q
        subst q
        exfalso
        have : okFit m (openX J.N B').L m.2.1 = true := by
          refine okFit_t k1 (by rw [hlen]; exact k2) (by rw [hlen]; exact k3) ?_
          rw [hlen, f1, eL, List.drop_drop, Nat.add_zero]
        rw [h1] at this
        cases this
    have e' : tryM (false, m) (openX J.N B').L m.2.2.1 = (true, (m.1.take (m.2.2.1 + (openX J.N B').L.length).toNat, m.2.2.1, m.2.2.1, m.2.2.1 + (openX J.N B').L.length)) := by unfold tryM; rw [cond_false, h2]; rfl
    rw [e']
    refine ⟨rfl, ?_⟩
    have := fin (b + d) (by omega) (by rw [← e2]; exact h2)
    rw [← e2] at this
    exact this
theorem pinv_fmt {n : Int} (h0 : 8 ≤ n) (h1 : n ≤ 60) : PInv n 0 (fmtX n) ([], 0, 0, 0) :=
  ⟨rfl, h1, Nat.le_refl _, by show (1 : Int) ≤ _; decide, by show (1 : Int) ≤ _; decide, 0, 0, 0, fun _ => [], rfl, rfl, rfl, Nat.le_refl _, pi_fmt h0 (by omega)⟩
end Go.Ev
/- Journals of a session: what is opened behind Sync; Trim in parts. -/
namespace Go.Ev
open Go.Proofs
theorem PI.len {J : JD} {A : List EntD} {d sy : Nat} {V : Int → List Int} (h : PI J A d sy V) (hN : J.N ≤ 60) : J.L.length ≤ 60 := by
  obtain ⟨n1, n2, n3, n4, n5, n6, n7⟩ := jx_nN h.jx
  have := (at_le h.jx (Nat.le_refl _)).1
  rw [h.jx.jr.fin] at this
  omega
theorem PI.ends {J : JD} {A : List EntD} {d sy : Nat} {V : Int → List Int} (h : PI J A d sy V) : J.nx = J.st + sizN J.L := by
  have h1 := h.st
  have h2 := h.nx
  have h3 := siz_split A d
  rw [h.L]
  omega
theorem jx_ends {J K : JD} (h : JX J) (k : JX K) (hs : K.st = J.st) (hL : K.L = J.L) : K.E = J.E := by
  have l1 := h.jr.len
  have l2 := k.jr.len
  apply List.ext_getElem (by rw [l1, l2, hL])
  intro i q1 q2
  have e1 := h.ex i (by omega)
  have e2 := k.ex i (by omega)
  rw [at_siz h (by omega)] at e1
  rw [at_siz k (by omega), hs, hL] at e2
  rw [← e1, List.getD_eq_getElem?_getD, List.getD_eq_getElem?_getD, List.getElem?_eq_getElem q1, List.getElem?_eq_getElem q2] at e2
  exact e2
theorem jx_oks {J : JD} (h : JX J) : okSW (SW.con J.P) = true ∧ okEN (EN.con J.L) = true := by
  have := jx_ok h
  unfold JD.ok at this
  rw [Bool.and_eq_true] at this
  exact this
theorem open_sync {J : JD} {A : List EntD} {V : Int → List Int} (h : PI J A 0 A.length V) (hP : J.P = []) (hs : J.so = false) (hg : J.gen < 1073741824) (he : J.ep < 1073741824) :
    ∃ x, openJ (J.N, J.B, []) = (x, 0) ∧ PI x A 0 A.length V ∧ bytesOk J.B = true ∧ x.N = J.N ∧ x.L = J.L ∧ x.st = J.st ∧ x.nx = J.nx ∧ x.E = J.E ∧ x.ep = J.ep + 1 ∧ x.gen = J.gen + 1 ∧ x.so = false ∧ x.P = [] := by
  have t : Torn J.B J.P J.B := by rw [hP]; exact .nil
  obtain ⟨b, c, c1, c2, c3, c4, o1, o2, o3, o4, o5, o6, o7, o8, o9, _, _⟩ := pi_open h t hg he
  have hb := c2 hs
  subst hb
  have e0 : A.drop 0 = A := rfl
  rw [e0] at c3 o2
  have hc : c = A.length := by omega
  subst hc
  rw [List.take_length] at o2
  have eL : (openX J.N J.B).L = J.L := by rw [o2.L, h.L]
  have es := o7 hs
  refine ⟨_, o1, o2, (h.T _ t).1.by', o6, eL, es, ?_, jx_ends h.jx o2.jx es eL, o3, o5 hs, o8, o9⟩
  rw [o2.ends, h.ends, es, eL]
end Go.Ev
/- Journals: an entry of which a power failure has kept a part. -/
namespace Go.Ev
open Go.Proofs
def clampI (x : Int) : Int := if 64 < if 0 > x then 0 else x then 64 else if 0 > x then 0 else x
theorem clamp_ok (l : List Int) : (l.map clampI).any badK = false := by
  rw [List.any_eq_false]
  intro x hx
  obtain ⟨y, _, rfl⟩ := List.mem_map.1 hx
  unfold clampI badK
  simp only [Bool.or_eq_true, decide_eq_true_eq, not_or]
  constructor <;> (repeat' split) <;> omega
theorem fail_clamp {K : JD} (hd : isDevB K.N K.B K.P = true) {l : List Int} (hl : l.length ≤ K.P.length) : (flD K (l.map clampI)).2 = 0 := by
  unfold flD
  rw [SW_list_con]
  unfold failD isDevD
  simp only
  rw [hd, cond_true, clamp_ok, List.length_map, decide_eq_false (by omega)]
  rfl
end Go.Ev
/- Journals: entries that are appended behind a power failure. -/
namespace Go.Ev
open Go.Proofs
def StI (n : Int) (X : JD) : Prop := X.N = n ∧ n ≤ 60 ∧ X.gen ≤ 1001 ∧ X.ep ≤ 1001 ∧ X.so = false ∧ ∃ A sy V, PI X A 0 sy V
theorem StI.jx {n : Int} {X : JD} (h : StI n X) : JX X := by obtain ⟨_, _, _, _, _, A, sy, V, p⟩ := h; exact p.jx
theorem StI.len {n : Int} {X : JD} (h : StI n X) : X.L.length ≤ 60 := by obtain ⟨h1, h2, _, _, _, A, sy, V, p⟩ := h; exact p.len (by omega)
theorem sti_app {n : Int} {X : JD} (h : StI n X) {e : EntD} (hb : bytesOk e.2.2.2.2 = true) (he : (appJ X e).2 = 0) : StI n (appJ X e).1 := by
  obtain ⟨n1, n2, g, ep, so, A, sy, V, p⟩ := h
  have hj := jr_of p.jx.jr
  have hx := he
  unfold appJ at hx
  rw [hj, cond_true] at hx
  cases h1 : entD? e with
  | false => rw [h1] at hx; cases hx
  | true =>
  rw [h1, cond_true] at hx
  cases h2 : decide ((nP (encD e) : Int) > freeI X) with
  | true => rw [h2] at hx; cases hx
  | false =>
  rw [h2, cond_false] at hx
  cases h3 : decide (X.P.length + nP (encD e) > 2000) with
  | true => rw [h3] at hx; cases hx
  | false =>
  rw [decide_eq_false_iff_not] at h2 h3
  rw [appJ_eq hj h1 (by omega) (by omega)]
  exact ⟨n1, n2, g, ep, so, _, sy, _, pi_app p ⟨h1, hb⟩ (by omega) (by omega)⟩
def appsN (X : JD) (mo : List EntD) (k : Nat) : JD := Nat.rec X (fun i X => bif (appJ X (mo.getD i EN.z)).2 == 0 then (appJ X (mo.getD i EN.z)).1 else X) k
theorem apps_sti {n : Int} {X : JD} (h : StI n X) {mo : List EntD} (hm : ∀ e ∈ mo, bytesOk e.2.2.2.2 = true) : ∀ k, StI n (appsN X mo k)
  | 0 => h
  | k + 1 => by
    have ih := apps_sti h hm k
    show StI n (bif (appJ (appsN X mo k) (mo.getD k EN.z)).2 == 0 then (appJ (appsN X mo k) (mo.getD k EN.z)).1 else appsN X mo k)
    cases he : (appJ (appsN X mo k) (mo.getD k EN.z)).2 == 0 with
    | false => exact ih
    | true =>
      rw [cond_true]
      refine sti_app ih ?_ (by simpa using he)
      rcases Nat.lt_or_ge k mo.length with q | q
      · exact hm _ (by rw [List.getD_eq_getElem?_getD, List.getElem?_eq_getElem q]; exact List.getElem_mem q)
      · rw [List.getD_eq_getElem?_getD, List.getElem?_eq_none q]; rfl
theorem stale_open {n : Int} {J : JD} (h : OkN n J) {l : List Int} (hl : l.length ≤ J.P.length) :
    ∃ B', JX J ∧ J.L.length ≤ 60 ∧ flD J (l.map clampI) = ((J.N, B', []), 0) ∧ bytesOk B' = true ∧ openJ (J.N, B', []) = (kOf J (l.map clampI), 0) ∧ StI n (kOf J (l.map clampI)) := by
  obtain ⟨hn, hN, hg, hep, A, d, sy, V, p⟩ := h
  obtain ⟨B', t1, t2⟩ := fail_torn p.jx.jr.dev (fail_clamp p.jx.jr.dev hl)
  obtain ⟨b, c, c1, c2, c3, c4, o1, o2, o3, o4, o5, o6, o7, o8, o9, _, _⟩ := pi_open p t1 (by omega) (by omega)
  have ek : kOf J (l.map clampI) = openX J.N B' := by unfold kOf; rw [t2]; show (openJ (J.N, B', [])).1 = _; rw [o1]
  refine ⟨B', p.jx, p.len hN, t2, (p.T B' t1).1.by', by rw [ek]; exact o1, ?_⟩
  rw [ek]
  exact ⟨o6.trans hn, by omega, by omega, by omega, o8, _, _, _, o2⟩
theorem stale_end {n : Int} {X : JD} (h : StI n X) : ∃ z, syncJ X = (syncX X, 0) ∧ JX (syncX X) ∧ (syncX X).P = [] ∧ flD (syncX X) [] = (((syncX X).N, (syncX X).B, []), 0) ∧ bytesOk (syncX X).B = true ∧ openJ ((syncX X).N, (syncX X).B, []) = (z, 0) ∧ JX z ∧ z.L = X.L := by
  obtain ⟨n1, n2, g, ep, so, A, sy, V, p⟩ := h
  have q := pi_sync p
  have g1 : (syncX X).gen = X.gen := rfl
  have g2 : (syncX X).ep = X.ep := rfl
  obtain ⟨z, a1, a2, a3, a4, a5, a6, a7, a8, a9, a10, a11, a12⟩ := open_sync q rfl rfl (by omega) (by omega)
  refine ⟨z, syncJ_eq (jr_of p.jx.jr), q.jx, rfl, ?_, a3, a1, a2.jx, a5⟩
  have hd := q.jx.jr.dev
  have eP : (syncX X).P = [] := rfl
  unfold flD failD isDevD settled
  simp only [SW_list_con]
  rw [hd, eP]
  rfl
end Go.Ev
/- Frozen blocks, and loops from one state, the caller's blocks being about. -/
namespace Go.Ev
theorem WeakP.freezeX {p0 : Nat} {s : St} (hk : s.h.ok) (id : Nat) (con : Con) (hid : s.h.G id = some (.cells con)) (hp : con.pureF = true) {t' : List AV} {h' : Heap} (hok : h'.ok) (hnx : s.h.next ≤ h'.next)
    (ht : ∀ w c c2 us, (∀ v v' u, FzV id con v v' → VR w c v u → VR w c2 v' u) → VRs w c s.t us → VRs w c2 t' us)
    (hG : ∀ j b', h'.G j = some b' → j ≠ id ∧ (s.h.G j = some b' ∨ ∃ k k', s.h.G j = some (.cells k) ∧ b' = .cells k' ∧ (k'.pureF = false → k.pureF = false) ∧ FzC id con k k')) : WeakP p0 s ⟨t', s.d, h'⟩ := by
  refine ⟨hok, fun w c a hr hv => ?_⟩
  have hb0 := hr.h.blk id _ hid
  have hv0 := hr.h.valid id _ hid
  classical
  let c2 : Cx := ⟨fun b => c.M b ∨ ((c.ι id).live = true ∧ b = (c.ι id).blk), fun b => c.O b ∧ ¬ ((c.ι id).live = true ∧ b = (c.ι id).blk), c.ι, c.V⟩
  have hx0 : Ext0 w c w c2 := ⟨fun b q => .inl q, fun _ _ _ => rfl, fun i hi => ⟨hi, rfl⟩⟩
  have hxw : ExtW ⟨true, p0⟩ w c w c2 := by
    refine ⟨fun b q => .inl q, fun _ _ _ => rfl, rfl, rfl, rfl, Nat.le_refl _, fun _ _ _ => rfl, fun b _ q => q.1, ?_, ?_⟩
    · rintro b hb (q | ⟨q1, q2⟩)
      · exact .inl q
      · exact .inr ⟨rfl, by rw [q2]; exact hb0.owned q1⟩
    · rintro b (q | ⟨q1, q2⟩) hn
      · exact absurd q hn
      · exact ⟨fun o => o.2 ⟨q1, q2⟩, by rw [q2]; exact hb0.lt q1⟩
  have hb1 : CellsRel w c (c.ι id) con := hb0
  have fz : ∀ cap u, VR w c (.own id 0 con.len cap con.wd) u → VR w c2 (.ro con cap) u := by
    intro cap u hu
    cases hu with | own _ _ _ _ _ p m h1 h2 h3 h4 h5 =>
    refine .ro con cap p m h3 h4 ?_ ?_
    · rcases h5 with h5 | ⟨l1, l2, l3⟩
      · left; omega
      · rcases Nat.eq_zero_or_pos con.len with z | z
        · exact .inl z
        · exact .inr ⟨_, _, l2, z⟩
    · intro b o e hpos
      rcases h5 with h5 | ⟨l1, l2, l3⟩
      · omega
      · rw [l2] at e
        injection e with e
        injection e with e1 e2
        obtain ⟨arr, te, fz, a1, a2, a3, a4, a5, a6⟩ := hb1.arr l1
        have hwd : con.wd = (c.ι id).wd := hb1.wd
        subst e1
        have e2' : o = (c.ι id).st := by rw [← e2]; omega
        subst e2'
        have bound : ∀ i j, i < con.len → j < con.wd → (c.ι id).st + i * con.wd + j < arr.size := by
          intro i j hi hj
          have := rowlt hi hj
          rw [a2, hwd] at *
          omega
        refine .mk con _ _ arr te fz (fun i j => (arr[(c.ι id).st + i * con.wd + j]?).getD undef) (.inr ⟨l1, rfl⟩) a1 ?_ ?_
        · intro i j hi hj
          have hb := bound i j hi hj
          rw [Array.getElem?_eq_getElem hb]
          exact ⟨rfl, a4 _ _ (Array.getElem?_eq_getElem hb)⟩
        · intro i j v hi hj hv
          have hb := bound i j hi hj
          have hu : arr[(c.ι id).st + i * con.wd + j]? = some arr[(c.ι id).st + i * con.wd + j] := Array.getElem?_eq_getElem hb
          simp only [hu, Option.getD_some]
          have q := a6 i j v _ hi (by rw [← hwd]; exact hj) hv (by rw [← hwd]; exact hu)
          rw [hp] at q
          exact VR.mono hx0.bare q
  have fzv : ∀ v v' u, FzV id con v v' → VR w c v u → VR w c2 v' u := by
    intro v v' u hz hu
    rcases hz with rfl | ⟨cap, rfl, rfl⟩ | ⟨cap, rfl, rfl⟩
    · exact VR.mono hx0 hu
    · exact fz cap u hu
    · exact AW.cap con cap _ _ _ (fz cap u hu)
  refine ⟨c2, ⟨?_, ?_, ?_, fun i hi => hr.dv i hi⟩, hxw, fun i hi => Nat.lt_of_lt_of_le (hv i hi) hnx, fun _ _ hi => ⟨hi, rfl⟩⟩
  · exact ht w c c2 _ fzv hr.t
  · have notid : ∀ j b, s.h.G j = some b → j ≠ id → (c.ι j).live = true → ¬ ((c.ι id).live = true ∧ (c.ι j).blk = (c.ι id).blk) := by
      rintro j b hj hne lj ⟨li, hbk⟩
      exact hne (hr.h.inj j id b _ hj hid lj li hbk)
    have old : ∀ j b', h'.G j = some b' → ∃ b, s.h.G j = some b := fun j b' hj => by
      rcases (hG j b' hj).2 with q | ⟨k, k', q, _⟩
      · exact ⟨_, q⟩
      · exact ⟨_, q⟩
    refine ⟨fun j b' hj => ?_, ?_, ?_, ?_⟩
    · obtain ⟨b, hb⟩ := old j b' hj; exact hr.h.valid j b hb
    · intro j b' hj
      obtain ⟨hne, q⟩ := hG j b' hj
      rcases q with q | ⟨k, k', q, rfl, hpf, hz⟩
      · exact BlkRel.keep hx0 (hr.h.blk j b' q) (fun _ => rfl) (fun l => ⟨(hr.h.blk j b' q).owned l, notid j b' q hne l⟩)
      · have hb : CellsRel w c (c.ι j) k := hr.h.blk j _ q
        refine ⟨hz.wd.trans hb.wd, fun l => hz.len.trans (hb.dead l), fun l => ⟨hb.own l, notid j _ q hne l⟩, fun l => ?_⟩
        obtain ⟨arr, te, fz, a1, a2, a3, a4, a5, a6⟩ := hb.arr l
        refine ⟨arr, te, fz, a1, a2, a3, a4, by rw [hz.len]; exact a5, ?_⟩
        intro i j2 v' u hi hj2 hv' hu
        rw [hz.len] at hi
        obtain ⟨⟨v, e1, e2⟩, e3⟩ := hz.row i hi j2 v' hv'
        have hold := a6 i j2 v u hi hj2 e1 hu
        cases hq : k'.pureF with
        | false =>
          rw [hpf hq] at hold
          exact fzv _ _ _ e2 hold
        | true =>
          cases hq2 : k.pureF with
          | true =>
            rw [hq2] at hold
            rcases e2 with rfl | ⟨cap, rfl, _⟩ | ⟨cap, rfl, _⟩
            · exact VR.mono hx0.bare hold
            · cases hold with | own _ _ _ _ _ _ _ z => exact z.elim
            · cases hold with | own _ _ _ _ _ _ _ z => exact z.elim
          | false =>
            rw [hq2] at hold
            rcases e3 hq with z | z
            · rw [hq2] at z; cases z
            · exact noOwn0_rel z (fzv _ _ _ e2 hold)
    · intro i j b b' hi hj li lj hbk
      obtain ⟨bi, qi⟩ := old i b hi
      obtain ⟨bj, qj⟩ := old j b' hj
      exact hr.h.inj i j bi bj qi qj li lj hbk
    · rintro b (q | ⟨q1, q2⟩)
      · exact ⟨fun o => (hr.h.dis b q).1 o.1, (hr.h.dis b q).2⟩
      · exact ⟨fun o => o.2 ⟨q1, q2⟩, by rw [q2]; exact hb0.lt q1⟩
  · show a.defers = marks c2 s.d
    exact hr.d
theorem WeakP.fzH {p0 : Nat} {t t' : List AV} {con : Con} {n id : Nat} {es es' : List Ent} (hk : (⟨n, es⟩ : Heap).ok) (hp : con.pureF = true) (hid : (⟨n, es⟩ : Heap).G id = some (.cells con))
    (ht : ∀ w c c2 us, (∀ v v' u, FzV id con v v' → VR w c v u → VR w c2 v' u) → VRs w c t us → VRs w c2 t' us) (he : EsFz id con es es') : WeakP p0 ⟨t, [], ⟨n, es⟩⟩ ⟨t', [], ⟨n, es'⟩⟩ := by
  have hG : ∀ j b', (⟨n, es'⟩ : Heap).G j = some b' → j ≠ id ∧ ((⟨n, es⟩ : Heap).G j = some b' ∨ ∃ k k', (⟨n, es⟩ : Heap).G j = some (.cells k) ∧ b' = .cells k' ∧ (k'.pureF = false → k.pureF = false) ∧ FzC id con k k') := by
    intro j b' hj
    simp only [Heap.G, Option.map_eq_some_iff] at hj
    obtain ⟨e', h1, rfl⟩ := hj
    obtain ⟨q1, e, q2, q3⟩ := he.find j e' h1
    refine ⟨q1, ?_⟩
    rcases q3 with q3 | ⟨k, k', q3, q4, q5, q6⟩
    · exact .inl (by simp [Heap.G, q2, q3])
    · exact .inr ⟨k, k', by simp [Heap.G, q2, q3], q4, q5, q6⟩
  refine WeakP.freezeX (s := ⟨t, [], ⟨n, es⟩⟩) hk id con hid hp ⟨List.Nodup.sublist he.sub hk.uniq, fun j e' hj => ?_⟩ (Nat.le_refl _) ht hG
  obtain ⟨q1, e, q2, q3⟩ := he.find j e' hj
  exact hk.lt j e q2
theorem WeakP.fzHs {p0 : Nat} {m : Nat} {ks : List Nat} {vs vs' : List AV} {con : Con} {n id : Nat} {es es' : List Ent} (hk : (⟨n, es⟩ : Heap).ok) (hp : con.pureF = true) (hid : (⟨n, es⟩ : Heap).G id = some (.cells con)) (hv : FzL id con vs vs') (he : EsFz id con es es') : WeakP p0 (stOf m ks vs ⟨n, es⟩) (stOf m ks vs' ⟨n, es'⟩) :=
  WeakP.fzH hk hp hid (fun w c c2 us hx h => (placeL_fz hv m 0).rel hx h) he
theorem FzC.oneT {id : Nat} {con : Con} {p : Bool} {w : Nat} {r r' : List AV} (h : FzL id con r r') (hn : ∀ v ∈ r', noOwn0 v = true) : FzC id con (.rows p w [r]) (.rows true w [r']) := by
  refine ⟨rfl, rfl, fun i hi j v' hv => ?_⟩
  have : i = 0 := by simpa [Con.len] using hi
  subst this
  have hv2 : r'[j]? = some v' := hv
  exact ⟨h.get j v' hv, fun _ => .inr (hn v' (List.mem_of_getElem? hv2))⟩
theorem WeakP.canon {p : Nat} {s : St} (hk : s.h.ok) (ks : List Nat) : WeakP p s (canonP p (some ks) s) := by
  obtain ⟨t2, t5⟩ := trimR_ok (root := ⟨true, p⟩) (ks := some ks) hk
  refine ⟨t2.1, fun w c a hr hv => ?_⟩
  obtain ⟨c1, r1, x1, v1⟩ := t5 w c a s.h.next hr ⟨fun q => (by cases q), fun _ => hv⟩
  exact ⟨c1, r1, x1, v1.R rfl, fun i hi hv => v1.P rfl i hi hv⟩
theorem loop_atP {P : Program} {env : Env} (he : EnvOk2 P env) {p d g : Nat} {ls : Nat → Option LSum} {c : Code} (hin : AllL (LsOkP P p ls) (loopsOf c)) (ks ko : List Nat) {T : Type} (S : T → St) (Inv : T → Prop) (m : T → Nat) (fin : T → AX × St)
    (s0 : St) (A : Ans (AX × St)) (x0 : T) (hi : Inv x0) (hw : WeakP p s0 (S x0)) (hA : ∀ e s', A.run = some (e, s') → fin x0 = (e, s'))
    (hok : ∀ x, Inv x → (S x).h.ok)
    (hb : ∀ x, Inv x → (∃ x' s1, codeP env (callF env d) (env.keep g) ls p c (outKP p ks ko) (S x) = some (.normal, s1) ∧ WeakP p s1 (S x') ∧ Inv x' ∧ m x' < m x ∧ fin x' = fin x) ∨
      (∃ s1, codeP env (callF env d) (env.keep g) ls p c (outKP p ks ko) (S x) = some ((fin x).1, s1) ∧ WeakP p s1 (fin x).2 ∧ (fin x).1 ≠ .normal)) :
    ∀ s e s', s.h.ok → (atL s0 A s).run = some (e, s') → TripleP P p (.loop c) s e s' := by
  intro s e s' hk hL
  obtain ⟨rfl, hA2⟩ := atL_some hL
  have hX := codeP_sound (ρ := AX × St) (p := p) (callF_sound he d) he.ok he.mix (env.keep g) ls c hin
  have key := loop_tripleP hX ks ko S Inv m fin hok hb x0 hi
  rw [hA _ _ hA2] at key
  exact TripleP.weak hw key
theorem atLP_grd {P : Program} {p : Nat} {c : Code} {s0 : St} {b : Bool} {A : Ans (AX × St)} (h : b = true → ∀ s e s', s.h.ok → (atL s0 A s).run = some (e, s') → TripleP P p (.loop c) s e s') : ∀ s e s', s.h.ok → (atL s0 (.grd b A) s).run = some (e, s') → TripleP P p (.loop c) s e s' := by
  intro s e s' hk hs
  obtain ⟨h1, h2⟩ := atL_some hs
  rw [Ans.run_grd] at h2
  cases hb : b with
  | false => rw [hb] at h2; cases h2
  | true =>
    rw [hb, cond_true] at h2
    refine h hb s e s' hk ?_
    unfold atL
    rw [Ans.run_grd, h1, isSt_refl, cond_true]
    exact h2
theorem loop_tripleX {P : Program} {p : Nat} {c : Code} {T : Type} {X : T → KC (AX × St) → St → Option (AX × St)} (hX : ∀ x, COk P ⟨true, p⟩ false c (X x)) (ks ko : List Nat) (st : T → St) (Inv : T → Prop) (m : T → Nat) (fin : T → AX × St)
    (hok : ∀ x, Inv x → (st x).h.ok)
    (hb : ∀ x, Inv x → (∃ x' s1, X x (outKP p ks ko) (st x) = some (.normal, s1) ∧ WeakP p s1 (st x') ∧ Inv x' ∧ m x' < m x ∧ fin x' = fin x) ∨ (∃ s1, X x (outKP p ks ko) (st x) = some ((fin x).1, s1) ∧ WeakP p s1 (fin x).2 ∧ (fin x).1 ≠ .normal)) :
    ∀ x, Inv x → TripleP P p (.loop c) (st x) (fin x).1 (fin x).2 := by
  have key : ∀ n x, m x < n → Inv x → (fin x).2.h.ok ∧ ∀ {F : Fence} (hF : FOk F) (hro : F.round = none) (w : World) (cx : Cx) (a : Act), StRel w cx (st x) a → (∀ id, cx.V id → id < (st x).h.next) →
      LoopWp F P c (fun e' a' w' => e' = exitOf (fin x).1 ∧ PostC ⟨true, p⟩ w cx (st x).h.next (fin x).2 a' w') n a w := by
    intro n
    induction n with
    | zero => intro x h; omega
    | succ n ih =>
      intro x hm hi
      rcases hb x hi with ⟨x', sx, h1, hw, h2, h3, h4⟩ | ⟨sx, h1, hw, h2⟩
      · obtain ⟨e, s1, k1, k2, k3⟩ := hX x _ _ _ (hok x hi) h1
        obtain ⟨i1, i2⟩ := ih x' (by omega) h2
        rw [h4] at i1 i2
        refine ⟨i1, fun hF hro w cx a hr hfr => ?_⟩
        cases e with
        | normal =>
          have hs : canonP p (some ks) s1 = sx := by injection k1 with k1; injection k1 with _ k1
          obtain ⟨t2, t5⟩ := trimR_ok (root := ⟨true, p⟩) (ks := some ks) k2.1
          refine wpIn_mono (k3 hF (fun _ => hro) w cx a hr ⟨fun q => (by cases q), fun _ => hfr⟩) ?_
          rintro e1 a1 w1 ⟨rfl, c1, r1, x1, v1⟩
          have f1 : Fresh ⟨true, p⟩ c1 s1.h.next s1.h.next := ⟨fun q => (by cases q), v1.R⟩
          obtain ⟨c2, r2, x2, v2⟩ := t5 w1 c1 a1 _ r1 f1
          have e2 : trimR ⟨true, p⟩ (some ks) s1 = sx := hs
          rw [e2] at r2 v2
          obtain ⟨c3, r3, x3, v3, u3⟩ := hw.2 w1 c2 a1 r2 (v2.R rfl)
          refine LoopWp.mono ?_ n a1 w1 (i2 hF hro w1 c3 a1 r3 v3)
          rintro e2 a2 w2 ⟨rfl, hp⟩
          have k12 := v1.trans v2
          have k3' : Keeps ⟨true, p⟩ c2 c3 sx.h.next (st x').h.next := ⟨fun q => (by cases q), fun q => (by cases q), fun q => (by cases q), fun _ => v3, fun _ => u3⟩
          exact ⟨rfl, hp.trans ((x1.trans x2).trans x3) (k12.trans k3')⟩
        | exit i => injection k1 with k1; injection k1 with k1; cases k1
        | ret => injection k1 with k1; injection k1 with k1; cases k1
      · obtain ⟨e, s1, k1, k2, k3⟩ := hX x _ _ _ (hok x hi) h1
        have hs : ((fin x).1, sx) = (e, canonP p (some ko) s1) ∧ e ≠ .normal := by
          cases e with
          | normal => injection k1 with k1; injection k1 with k1 k1'; exact absurd k1.symm h2
          | exit i => injection k1 with k1; exact ⟨k1.symm, by simp⟩
          | ret => injection k1 with k1; exact ⟨k1.symm, by simp⟩
        obtain ⟨hs, hne⟩ := hs
        injection hs with hs1 hs2
        rw [hs1]
        obtain ⟨t2, t5⟩ := trimR_ok (root := ⟨true, p⟩) (ks := some ko) k2.1
        refine ⟨hw.1, fun hF hro w cx a hr hfr => wpIn_mono (k3 hF (fun _ => hro) w cx a hr ⟨fun q => (by cases q), fun _ => hfr⟩) ?_⟩
        rintro e1 a1 w1 ⟨rfl, c1, r1, x1, v1⟩
        have f1 : Fresh ⟨true, p⟩ c1 s1.h.next s1.h.next := ⟨fun q => (by cases q), v1.R⟩
        obtain ⟨c2, r2, x2, v2⟩ := t5 w1 c1 a1 _ r1 f1
        have e2 : trimR ⟨true, p⟩ (some ko) s1 = sx := hs2.symm
        rw [e2] at r2 v2
        obtain ⟨c3, r3, x3, v3, u3⟩ := hw.2 w1 c2 a1 r2 (v2.R rfl)
        have k12 := v1.trans v2
        have k3' : Keeps ⟨true, p⟩ c2 c3 sx.h.next (fin x).2.h.next := ⟨fun q => (by cases q), fun q => (by cases q), fun q => (by cases q), fun _ => v3, fun _ => u3⟩
        have fin' : exitOf e = exitOf e ∧ PostC ⟨true, p⟩ w cx (st x).h.next (fin x).2 a1 w1 := ⟨rfl, c3, r3, (x1.trans x2).trans x3, k12.trans k3'⟩
        cases e with
        | normal => exact absurd rfl hne
        | exit i => exact fin'
        | ret => exact fin'
  intro x hi
  obtain ⟨h1, h2⟩ := key (m x + 1) x (Nat.lt_succ_self _) hi
  exact ⟨h1, fun hF hro w cx a hr hfr => wpIn_loop_n ⟨m x + 1, h2 hF hro w cx a hr (hfr.R rfl)⟩⟩
end Go.Ev
