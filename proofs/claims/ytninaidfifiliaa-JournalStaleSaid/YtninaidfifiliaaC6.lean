/- The evaluator, its soundness and the walks: part 6. -/
import Derived.ReadAgain
import Derived.JoinedCond
import Derived.ChangeArms
import Derived.ChangeSame
import Derived.Test.YtninaidfifiliaaC5
set_option linter.unusedSectionVars false
set_option linter.unusedSimpArgs false
set_option linter.unusedVariables false
set_option maxRecDepth 100000
set_option maxRecDepth 1000000
noncomputable section
/- journal.words: the bytes of words. -/
namespace Go.Ev
open Go.Proofs
def Try.E92 : Env := Try.env0 false (sumsOf []) (keepF 92 [(3, [3,6,7,8])])
def Try.b92 : Code := nthD .skip (loopsOf (bodyOf Try.E92 92)) 0
def Try.B92 (s : St) : Option (AX × St) := codeS Try.E92 (callF Try.E92 3) (Try.E92.keep 92) (lsumsOf []) Try.b92 (outK [3,6,7,8] [3]) s
def Try.V92 (v : AV) (l : List Int) (cap : Option Nat) (k : Nat) : List AV := [v, .ro (.ints .i64 l) cap, .val (.int .i64 l.length), .val (.int .i64 k)]
def w4 (x : Int) : List Int := [IntKind.u8.wrap x, IntKind.u8.wrap (x.fdiv 256), IntKind.u8.wrap (x.fdiv 65536), IntKind.u8.wrap (x.fdiv 16777216)]
def wordsB (l : List Int) : List Int := l.flatMap w4
def Try.f92L (vs : List AV) (h : Heap) : Ans (AX × List AV × Heap) := match vs, h with
  | [.val (.slice none 0 0), .ro (.ints .i64 l) cap, .val (.int .i64 n), .val (.int .i64 (.ofNat 0))], ⟨0, []⟩ => .grd (n == (l.length : Int) && Nat.ble l.length 1000000) (.out (.exit 0, [slB (wordsB l)], slH (wordsB l)))
  | _, _ => .no
def Try.L92 : LSum := toLSum 28 [3,6,7,8] [3] Try.f92L
def Try.S92 (args : List AV) : Ans (AV × Heap) := match args with
  | [.ro (.ints .i64 l) cap] => .grd (Nat.ble l.length 1000000) (.out (slB (wordsB l), slH (wordsB l)))
  | _ => .no
theorem Try.r92a (l : List Int) (cap : Option Nat) (k : Nat) : Try.B92 (stOf 28 [3,6,7,8] (Try.V92 (.val (.slice none 0 0)) l cap k) ⟨0, []⟩) =
 bif decide ((↑k : Int) < (↑l.length : Int)) then
 bif inR (↑k : Int) l.length then
 some (.normal, stOf 28 [3, 6, 7, 8] [.own 0 0 (4) none 1, .ro (.ints .i64 (l)) (cap), .val (.int .i64 ((↑l.length : Int))), .val (.int .i64 (IntKind.i64.wrap ((↑k : Int) + 1)))] ⟨1, [⟨0, 0, .cells (.ints .u8 ([IntKind.u8.wrap (l.getD k 0), IntKind.u8.wrap ((l.getD k 0).fdiv 256), IntKind.u8.wrap ((l.getD k 0).fdiv 65536), IntKind.u8.wrap ((l.getD k 0).fdiv 16777216)]))⟩]⟩ )
 else
 none
 else
 some (.exit 0, stOf 28 [3] [.val (.slice none 0 0)] ⟨0, []⟩) := by kernel_rfl
theorem Try.r92b (l o : List Int) (cap : Option Nat) (k : Nat) : Try.B92 (stOf 28 [3,6,7,8] (Try.V92 (.own 0 0 o.length none 1) l cap k) (oneH (.ints .u8 o))) =
 bif decide ((↑k : Int) < (↑l.length : Int)) then
 bif inR (↑k : Int) l.length then
 bif (0 + o.length).ble o.length then
 bif ((o.length + 4) * 1).ble most && (o.length + 4).ble most then
 some (.normal, stOf 28 [3, 6, 7, 8] [.own 0 0 (o.length + 4) none 1, .ro (.ints .i64 (l)) (cap), .val (.int .i64 ((↑l.length : Int))), .val (.int .i64 (IntKind.i64.wrap ((↑k : Int) + 1)))] ⟨1, [⟨0, 0, .cells (.ints .u8 (List.take o.length (List.drop 0 o) ++ [IntKind.u8.wrap (l.getD k 0), IntKind.u8.wrap ((l.getD k 0).fdiv 256), IntKind.u8.wrap ((l.getD k 0).fdiv 65536), IntKind.u8.wrap ((l.getD k 0).fdiv 16777216)]))⟩]⟩ )
 else
 none
 else
 none
 else
 none
 else
 some (.exit 0, stOf 28 [3] [.own 0 0 (o.length) none 1] ⟨1, [⟨0, 0, .cells (.ints .u8 (o))⟩]⟩ ) := by kernel_rfl
theorem Try.s92 (l o : List Int) (cap : Option Nat) (k : Nat) (ho : o.length ≤ 8000000) (hk : k ≤ 1000000) : Try.B92 (stOf 28 [3,6,7,8] (Try.V92 (slB o) l cap k) (slH o)) =
    if k < l.length then some (.normal, stOf 28 [3,6,7,8] (Try.V92 (slB (o ++ w4 (l.getD k 0))) l cap (k + 1)) (slH (o ++ w4 (l.getD k 0)))) else some (.exit 0, stOf 28 [3] [slB o] (slH o)) := by
  cases o with
  | nil =>
    refine (Try.r92a l cap k).trans ?_
    rw [declt_nat, inR_nat]
    by_cases h : k < l.length
    · rw [decide_eq_true h, if_pos h, wrapS k (by omega)]; rfl
    · rw [decide_eq_false h, if_neg h]; rfl
  | cons a o =>
    refine (Try.r92b l (a :: o) cap k).trans ?_
    rw [declt_nat, inR_nat, Nat.zero_add, ble_t (Nat.le_refl _), List.drop_zero, List.take_length, ble_t (by rw [most_eq]; omega), ble_t (by rw [most_eq]; omega)]
    by_cases h : k < l.length
    · rw [decide_eq_true h, if_pos h, wrapS k (by omega)]
      have : (a :: o).length + 4 = ((a :: o) ++ w4 (l.getD k 0)).length := by simp [w4]
      rw [this]; rfl
    · rw [decide_eq_false h, if_neg h]; rfl
theorem Try.e92 : EnvOk2 Try.prog Try.E92 := Try.envOk false (sumsOf []) _ (fun g A h => by cases h)
theorem Try.l92 : ∀ s e s', s.h.ok → (Try.L92 s).run = some (e, s') → Triple Try.prog (.loop Try.b92) s e s' := by
  refine loop_law Try.e92 (d := 3) (g := 92) (ls := lsumsOf []) (c := Try.b92) trivial 28 [3,6,7,8] [3] (T := List Int × Option Nat × Nat)
    (fun x => Try.V92 (slB (wordsB (x.1.take x.2.2))) x.1 x.2.1 x.2.2) (fun x => slH (wordsB (x.1.take x.2.2))) (fun x => x.1.length ≤ 1000000 ∧ x.2.2 ≤ x.1.length) (fun x => x.1.length - x.2.2)
    (fun x => (.exit 0, [slB (wordsB x.1)], slH (wordsB x.1))) Try.f92L ?_ (fun x _ => slH_ok _) ?_
  · intro vs h e vo h' hf
    unfold Try.f92L at hf
    split at hf
    · rename_i l cap n
      rw [Ans.grd, Ans.run_br] at hf
      cases hb : (n == (l.length : Int) && Nat.ble l.length 1000000) with
      | false => rw [hb] at hf; cases hf
      | true =>
        rw [hb, cond_true] at hf
        rw [Bool.and_eq_true, beq_iff_eq, Nat.ble_eq] at hb
        injection hf with hf
        refine ⟨(l, cap, 0), ⟨hb.2, Nat.zero_le _⟩, ?_, rfl, hf⟩
        rw [hb.1]; rfl
    · cases hf
  · rintro ⟨l, cap, k⟩ ⟨hl, hk⟩
    have hlen : ∀ m : List Int, (wordsB m).length = 4 * m.length := by
      intro m
      induction m with
      | nil => rfl
      | cons a m ih => show (w4 a ++ wordsB m).length = _; rw [List.length_append, ih]; simp [w4]; omega
    simp only at hl hk
    have key := Try.s92 l (wordsB (l.take k)) cap k (by rw [hlen, List.length_take]; omega) (by omega)
    by_cases h : k < l.length
    · rw [if_pos h] at key
      have e : wordsB (l.take k) ++ w4 (l.getD k 0) = wordsB (l.take (k + 1)) := by
        unfold wordsB
        rw [List.take_add_one, List.flatMap_append, List.getD_eq_getElem?_getD, List.getElem?_eq_getElem h, Option.toList_some, List.flatMap_singleton]
        rfl
      rw [e] at key
      exact .inl ⟨(l, cap, k + 1), key, ⟨hl, h⟩, by show l.length - (k + 1) < l.length - k; omega, rfl⟩
    · rw [if_neg h] at key
      have : k = l.length := by omega
      subst this
      rw [List.take_length] at key
      refine .inr ⟨?_, by simp⟩
      rw [← List.take_length (l := l)] at key
      simp only [List.take_length] at key ⊢
      exact key
theorem Try.w92a (l : List Int) (cap : Option Nat) (a : Int) : rootS Try.E92 3 92 (lsumsOf [(3, Try.L92)]) [.ro (.ints .i64 (a :: l)) cap] =
 bif (↑(a :: l).length : Int) == (↑(a :: l).length : Int) && (a :: l).length.ble 1000000 then
 some (.own 0 0 ((wordsB (a :: l)).length) none 1, ⟨1, [⟨0, 0, .cells (.ints .u8 (wordsB (a :: l)))⟩]⟩)
 else
 none := by kernel_rfl
theorem Try.w92b (cap : Option Nat) : rootS Try.E92 3 92 (lsumsOf [(3, Try.L92)]) [.ro (.ints .i64 []) cap] =
 some (.val (.slice none 0 0), ⟨0, []⟩) := by kernel_rfl
theorem Try.sum92 : SumC Try.prog 92 (pureA (fun args => Try.S92 (nzs [.ints .i64 []] args))) := by
  refine pureSumN Try.e92 (d := 3) (ls := lsumsOf [(3, Try.L92)]) (AllL.of1 (a := Try.b92) (by kernel_rfl) (LsOk.of rfl rfl Try.l92)) _ (by simp [Con.len]) rfl rfl ?_
  intro args v h2 hs
  unfold Try.S92 at hs
  split at hs
  · rename_i l cap
    rw [Ans.grd, Ans.run_br] at hs
    cases hb : Nat.ble l.length 1000000 with
    | false => rw [hb] at hs; cases hs
    | true =>
      rw [hb] at hs
      rw [← hs]
      cases l with
      | nil => exact (Try.w92b cap).trans rfl
      | cons a l => 
        refine (Try.w92a l cap a).trans ?_
        rw [hb]
        rw [show ((↑(a :: l).length : Int) == (↑(a :: l).length : Int)) = true from beq_self_eq_true _]
        rfl
  · cases hs
end Go.Ev
/- Functions without loops: entries. -/
namespace Go.Ev
open Go.Proofs
def Try.E1 : Env := Try.env0 false (sumsOf []) (keepF 0 [])
def Try.ent (k a b c : Int) (v : AV) : AV := .agg [.val (.int .i64 k), .val (.int .i64 a), .val (.int .i64 b), .val (.int .i64 c), v]
def turnB (a b c : Int) : Bool := decide (a ≥ 0) && (decide (a < 8) && (decide (b ≥ 0) && (decide (b ≤ 200000) && (decide (c ≥ 0) && decide (c ≤ 8)))))
def zeroB (a b c : Int) : Bool := a == 0 && (b == 0 && (c == 0 && true))
def entB (k a b c : Int) (n : Nat) : Bool := bif k == 2 then ((n : Int) == 0) && turnB a b c else ((k == 1 || (k == 3 || k == 4)) && (zeroB a b c && decide ((n : Int) < 20000)))
def eqS (l m : List Int) : Bool := (strOf l).toList == (strOf m).toList
def sameB (k a b c k' a' b' c' : Int) (l l' : List Int) : Bool := k == k' && ((a == a' && (b == b' && (c == c' && true))) && eqS l l')
def Try.nzE : List Con := [.ints .u8 [], .ints .u8 []]
def Try.S55 (args : List AV) : Ans (AV × Heap) := match args with
  | [.agg [.val (.int .i64 k), .val (.int .i64 a), .val (.int .i64 b), .val (.int .i64 c), .ro (.ints .u8 l) cap]] => .out (.val (.bool (entB k a b c l.length)), ⟨0, []⟩)
  | _ => .no
def Try.S18 (args : List AV) : Ans (AV × Heap) := match args with
  | [.agg [.val (.int .i64 k), .val (.int .i64 a), .val (.int .i64 b), .val (.int .i64 c), .ro (.ints .u8 l) cap], .agg [.val (.int .i64 k'), .val (.int .i64 a'), .val (.int .i64 b'), .val (.int .i64 c'), .ro (.ints .u8 l') cap']] => .out (.val (.bool (sameB k a b c k' a' b' c' l l')), ⟨0, []⟩)
  | _ => .no
def Try.S59 (args : List AV) : Ans (AV × Heap) := match args with
  | [.ro (.ints .u8 l) cap] => .grd (Nat.ble l.length 1000000) (.out (.own 0 0 l.length none 1, oneH (.ints .u8 l)))
  | _ => .no
theorem Try.e1 : EnvOk2 Try.prog Try.E1 := Try.envOk false (sumsOf []) _ (fun g A h => by cases h)
theorem Try.r55 (k a b c : Int) (l : List Int) (cap : Option Nat) : rootS Try.E1 3 55 (lsumsOf []) [Try.ent k a b c (.ro (.ints .u8 l) cap)] =
 bif k == 2 then
 bif (↑l.length : Int) == 0 then
 bif decide (a ≥ 0) then
 bif decide (a < 8) then
 bif decide (b ≥ 0) then
 bif decide (b ≤ 200000) then
 bif decide (c ≥ 0) then
 bif decide (c ≤ 8) then
 some (.val (.bool true), ⟨0, []⟩)
 else
 some (.val (.bool false), ⟨0, []⟩)
 else
 some (.val (.bool false), ⟨0, []⟩)
 else
 some (.val (.bool false), ⟨0, []⟩)
 else
 some (.val (.bool false), ⟨0, []⟩)
 else
 some (.val (.bool false), ⟨0, []⟩)
 else
 some (.val (.bool false), ⟨0, []⟩)
 else
 some (.val (.bool false), ⟨0, []⟩)
 else
 bif k == 1 then
 bif a == 0 && (b == 0 && (c == 0 && true)) then
 bif decide ((↑l.length : Int) < 20000) then
 some (.val (.bool true), ⟨0, []⟩)
 else
 some (.val (.bool false), ⟨0, []⟩)
 else
 some (.val (.bool false), ⟨0, []⟩)
 else
 bif k == 3 then
 bif a == 0 && (b == 0 && (c == 0 && true)) then
 bif decide ((↑l.length : Int) < 20000) then
 some (.val (.bool true), ⟨0, []⟩)
 else
 some (.val (.bool false), ⟨0, []⟩)
 else
 some (.val (.bool false), ⟨0, []⟩)
 else
 bif k == 4 then
 bif a == 0 && (b == 0 && (c == 0 && true)) then
 bif decide ((↑l.length : Int) < 20000) then
 some (.val (.bool true), ⟨0, []⟩)
 else
 some (.val (.bool false), ⟨0, []⟩)
 else
 some (.val (.bool false), ⟨0, []⟩)
 else
 some (.val (.bool false), ⟨0, []⟩) := by kernel_rfl
theorem Try.r57 (k a b c : Int) (l : List Int) (cap : Option Nat) : rootS Try.E1 3 57 (lsumsOf []) [Try.ent k a b c (.ro (.ints .u8 l) cap)] =
 bif k == 2 then
 bif decide (a ≥ 0) then
 bif decide (a < 8) then
 bif decide (b ≥ 0) then
 bif decide (b ≤ 200000) then
 bif decide (c ≥ 0) then
 bif decide (c ≤ 8) then
 bif (↑l.length : Int) == 0 then
 some (.val (.bool true), ⟨0, []⟩)
 else
 some (.val (.bool false), ⟨0, []⟩)
 else
 some (.val (.bool false), ⟨0, []⟩)
 else
 some (.val (.bool false), ⟨0, []⟩)
 else
 some (.val (.bool false), ⟨0, []⟩)
 else
 some (.val (.bool false), ⟨0, []⟩)
 else
 some (.val (.bool false), ⟨0, []⟩)
 else
 some (.val (.bool false), ⟨0, []⟩)
 else
 bif k == 1 then
 bif a == 0 && (b == 0 && (c == 0 && true)) then
 bif decide ((↑l.length : Int) < 20000) then
 some (.val (.bool true), ⟨0, []⟩)
 else
 some (.val (.bool false), ⟨0, []⟩)
 else
 some (.val (.bool false), ⟨0, []⟩)
 else
 bif k == 3 then
 bif a == 0 && (b == 0 && (c == 0 && true)) then
 bif decide ((↑l.length : Int) < 20000) then
 some (.val (.bool true), ⟨0, []⟩)
 else
 some (.val (.bool false), ⟨0, []⟩)
 else
 some (.val (.bool false), ⟨0, []⟩)
 else
 bif k == 4 then
 bif a == 0 && (b == 0 && (c == 0 && true)) then
 bif decide ((↑l.length : Int) < 20000) then
 some (.val (.bool true), ⟨0, []⟩)
 else
 some (.val (.bool false), ⟨0, []⟩)
 else
 some (.val (.bool false), ⟨0, []⟩)
 else
 some (.val (.bool false), ⟨0, []⟩) := by kernel_rfl
theorem Try.r18 (k a b c k' a' b' c' : Int) (l l' : List Int) (cap cap' : Option Nat) : rootS Try.E1 3 18 (lsumsOf []) [Try.ent k a b c (.ro (.ints .u8 l) cap), Try.ent k' a' b' c' (.ro (.ints .u8 l') cap')] =
 bif k == k' then
 bif a == a' && (b == b' && (c == c' && true)) then
 bif (strOf l).toList == (strOf l').toList then
 some (.val (.bool true), ⟨0, []⟩)
 else
 some (.val (.bool false), ⟨0, []⟩)
 else
 some (.val (.bool false), ⟨0, []⟩)
 else
 some (.val (.bool false), ⟨0, []⟩) := by kernel_rfl
theorem Try.r59a (x : Int) (l : List Int) (cap : Option Nat) : rootS Try.E1 3 59 (lsumsOf []) [.ro (.ints .u8 (x :: l)) cap] =
 bif ((0 + (x :: l).length) * 1).ble most && (0 + (x :: l).length).ble most then
 some (.own 0 0 (0 + (x :: l).length) none 1, ⟨1, [⟨0, 0, .cells (.ints .u8 ([] ++ x :: l))⟩]⟩)
 else
 none := by kernel_rfl
theorem Try.r59b (m : Nat) : rootS Try.E1 3 59 (lsumsOf []) [.val (.slice none 0 m)] =
 some (.val (.slice none 0 0), ⟨0, []⟩) := by kernel_rfl
theorem Try.r59c (p : Addr) (m : Nat) : rootS Try.E1 3 59 (lsumsOf []) [.val (.slice (some p) 0 m)] =
 some (.own 0 0 (0) none 1, ⟨1, [⟨0, 0, .cells (.ints .u8 ([]))⟩]⟩) := by kernel_rfl
theorem Try.sum55 : SumC Try.prog 55 (pureA (fun args => Try.S55 (nzs Try.nzE args))) := by
  refine pureSumN Try.e1 (d := 3) (ls := lsumsOf []) (AllL.of0 (by kernel_rfl)) _ (by simp [Try.nzE, Con.len]) rfl rfl ?_
  intro args v h2 hs
  unfold Try.S55 at hs
  split at hs
  · rename_i k a b c l cap
    rw [← hs]
    refine (Try.r55 k a b c l cap).trans ?_
    show _ = some (AV.val (.bool (entB k a b c l.length)), _)
    rw [boolOut (entB k a b c l.length)]
    simp only [entB, turnB, zeroB, cond_andB, cond_orB, cond_condB]
  · cases hs
theorem Try.sum57 : SumC Try.prog 57 (pureA (fun args => Try.S55 (nzs Try.nzE args))) := by
  refine pureSumN Try.e1 (d := 3) (ls := lsumsOf []) (AllL.of0 (by kernel_rfl)) _ (by simp [Try.nzE, Con.len]) rfl rfl ?_
  intro args v h2 hs
  unfold Try.S55 at hs
  split at hs
  · rename_i k a b c l cap
    rw [← hs]
    refine (Try.r57 k a b c l cap).trans ?_
    show _ = some (AV.val (.bool (entB k a b c l.length)), _)
    rw [boolOut (entB k a b c l.length)]
    simp only [entB, turnB, zeroB, cond_andB, cond_orB, cond_condB]
    generalize ((l.length : Int) == 0) = q
    cases q <;> simp [cond_sameB]
  · cases hs
theorem Try.sum18 : SumC Try.prog 18 (pureA (fun args => Try.S18 (nzs Try.nzE args))) := by
  refine pureSumN Try.e1 (d := 3) (ls := lsumsOf []) (AllL.of0 (by kernel_rfl)) _ (by simp [Try.nzE, Con.len]) rfl rfl ?_
  intro args v h2 hs
  unfold Try.S18 at hs
  split at hs
  · rename_i k a b c l cap k' a' b' c' l' cap'
    rw [← hs]
    refine (Try.r18 k a b c k' a' b' c' l l' cap cap').trans ?_
    show _ = some (AV.val (.bool (sameB k a b c k' a' b' c' l l')), _)
    rw [boolOut (sameB k a b c k' a' b' c' l l')]
    unfold sameB eqS
    simp only [cond_andB]
  · cases hs
theorem Try.sum59 : SumC Try.prog 59 (pureA (fun args => Try.S59 (nzs Try.nzE args))) := by
  refine pureSumR 59 ⟨Try.f59, _, Try.fnOk59.1, Try.fnOk59.2, rfl⟩ ?_
  intro args v h2 hs
  refine Alone.nz (cs := Try.nzE) (by simp [Try.nzE, Con.len]) ?_
  replace hs : (Try.S59 (nzs Try.nzE args)).run = some (v, h2) := hs
  generalize nzs Try.nzE args = args' at hs ⊢
  unfold Try.S59 at hs
  split at hs
  · rename_i l cap
    rw [Ans.grd, Ans.run_br] at hs
    cases hb : Nat.ble l.length 1000000 with
    | false => rw [hb] at hs; cases hs
    | true =>
      rw [hb] at hs
      rw [Nat.ble_eq] at hb
      injection hs with hs
      injection hs with q1 q2
      subst q1; subst q2
      have run := fun args v h2 => rootS_alone Try.e1 (d := 3) (g := 59) (ls := lsumsOf []) (AllL.of0 (by kernel_rfl)) (args := args) (v := v) (h2 := h2)
      refine clone_alone (.ints .u8 l) cap ?_ ?_ ?_
      · intro hl
        cases l with
        | nil => cases hl
        | cons x l =>
          refine run _ _ _ ((Try.r59a x l cap).trans ?_)
          rw [Nat.zero_add, Nat.mul_one, ble_t (by rw [most_eq]; omega)]; rfl
      · intro _ m; exact ⟨_, run _ _ _ (Try.r59b m)⟩
      · intro h0 p m
        have : l = [] := List.length_eq_zero_iff.1 h0
        subst this
        exact run _ _ _ (Try.r59c p m)
  · cases hs
end Go.Ev
/- Words out of bytes. -/
namespace Go.Ev
open Go.Proofs
def bytesOk (l : List Int) : Bool := l.all fun x => decide (0 ≤ x) && decide (x < 256)
def wdB (l : List Int) (k : Nat) : Int := l.getD k 0 + l.getD (k + 1) 0 * 256 + l.getD (k + 2) 0 * 65536 + l.getD (k + 3) 0 * 16777216
def Try.S60 (args : List AV) : Ans (AV × Heap) := match args with
  | [.ro (.ints .u8 l) cap, .val (.int .i64 (.ofNat k))] => .grd (bytesOk l && (Nat.ble (k + 4) l.length && Nat.ble k 1000000000)) (.out (.val (.int .i64 (wdB l k)), ⟨0, []⟩))
  | _ => .no
theorem bytesOk_get {l : List Int} (h : bytesOk l = true) (i : Nat) : 0 ≤ l.getD i 0 ∧ l.getD i 0 < 256 := by
  unfold bytesOk at h
  rw [List.getD_eq_getElem?_getD]
  cases hi : l[i]? with
  | none => simp
  | some x =>
    have := (List.all_eq_true.1 h) x (List.mem_of_getElem? hi)
    simpa using this
theorem or64 (i : Nat) (x y : Int) (hy0 : 0 ≤ y) (hy : y % 2 ^ i = 0) (hy1 : y < 2 ^ 62) (hx0 : 0 ≤ x) (hx : x < 2 ^ i) (hx1 : x < 2 ^ 62) : IntKind.i64.wrap ((BitVec.ofInt 64 x ||| BitVec.ofInt 64 y).toNat : Int) = x + y := by
  rw [BitVec.or_comm, Int.add_comm]
  exact bits_join .i64 62 (by decide) (fun n h0 h1 => wrap64 n (by omega) (by omega)) i y x hy0 hy hy1 hx0 hx hx1
theorem Try.r60 (l : List Int) (cap : Option Nat) (k : Nat) : rootS Try.E1 3 60 (lsumsOf []) [.ro (.ints .u8 l) cap, .val (.int .i64 (Int.ofNat k))] =
 bif inR (Int.ofNat k) l.length then
 bif inR (IntKind.i64.wrap (Int.ofNat k + 1)) l.length then
 bif inR (IntKind.i64.wrap (Int.ofNat k + 2)) l.length then
 bif inR (IntKind.i64.wrap (Int.ofNat k + 3)) l.length then
 some (.val (.int .i64 (IntKind.i64.wrap (↑(BitVec.ofInt 64 (IntKind.i64.wrap (↑(BitVec.ofInt 64 (IntKind.i64.wrap (↑(BitVec.ofInt 64 (IntKind.i64.wrap (l.getD k 0)) ||| BitVec.ofInt 64 (IntKind.i64.wrap (IntKind.i64.wrap (l.getD (IntKind.i64.wrap (Int.ofNat k + 1)).toNat 0) * 256))).toNat : Int)) ||| BitVec.ofInt 64 (IntKind.i64.wrap (IntKind.i64.wrap (l.getD (IntKind.i64.wrap (Int.ofNat k + 2)).toNat 0) * 65536))).toNat : Int)) ||| BitVec.ofInt 64 (IntKind.i64.wrap (IntKind.i64.wrap (l.getD (IntKind.i64.wrap (Int.ofNat k + 3)).toNat 0) * 16777216))).toNat : Int))), ⟨0, []⟩)
 else
 none
 else
 none
 else
 none
 else
 none := by kernel_rfl
theorem Try.r61 (l : List Int) (cap : Option Nat) (k : Nat) : rootS Try.E1 3 61 (lsumsOf []) [.ro (.ints .u8 l) cap, .val (.int .i64 (Int.ofNat k))] =
 bif inR (Int.ofNat k) l.length then
 bif inR (IntKind.i64.wrap (Int.ofNat k + 1)) l.length then
 bif inR (IntKind.i64.wrap (Int.ofNat k + 2)) l.length then
 bif inR (IntKind.i64.wrap (Int.ofNat k + 3)) l.length then
 some (.val (.int .i64 (IntKind.i64.wrap (IntKind.i64.wrap (IntKind.i64.wrap (IntKind.i64.wrap (l.getD k 0) + IntKind.i64.wrap (IntKind.i64.wrap (l.getD (IntKind.i64.wrap (Int.ofNat k + 1)).toNat 0) * 256)) + IntKind.i64.wrap (IntKind.i64.wrap (l.getD (IntKind.i64.wrap (Int.ofNat k + 2)).toNat 0) * 65536)) + IntKind.i64.wrap (IntKind.i64.wrap (l.getD (IntKind.i64.wrap (Int.ofNat k + 3)).toNat 0) * 16777216)))), ⟨0, []⟩)
 else
 none
 else
 none
 else
 none
 else
 none := by kernel_rfl
theorem Try.sum60 : SumC Try.prog 60 (pureA (fun args => Try.S60 (nzs Try.nzE args))) := by
  refine pureSumN Try.e1 (d := 3) (ls := lsumsOf []) (AllL.of0 (by kernel_rfl)) _ (by simp [Try.nzE, Con.len]) rfl rfl ?_
  intro args v h2 hs
  unfold Try.S60 at hs
  split at hs
  · rename_i l cap k
    rw [Ans.run_grd] at hs
    cases hb : (bytesOk l && (Nat.ble (k + 4) l.length && Nat.ble k 1000000000)) with
    | false => rw [hb] at hs; cases hs
    | true =>
      rw [hb] at hs
      rw [Bool.and_eq_true, Bool.and_eq_true, Nat.ble_eq, Nat.ble_eq] at hb
      obtain ⟨h0, h1, h2⟩ := hb
      rw [← hs]
      refine (Try.r60 l cap k).trans ?_
      have b0 := bytesOk_get h0 k
      have b1 := bytesOk_get h0 (k + 1)
      have b2 := bytesOk_get h0 (k + 2)
      have b3 := bytesOk_get h0 (k + 3)
      have e1 : IntKind.i64.wrap (Int.ofNat k + 1) = ((k + 1 : Nat) : Int) := by rw [wrap64 _ (by simp; omega) (by simp; omega)]; simp
      have e2 : IntKind.i64.wrap (Int.ofNat k + 2) = ((k + 2 : Nat) : Int) := by rw [wrap64 _ (by simp; omega) (by simp; omega)]; simp
      have e3 : IntKind.i64.wrap (Int.ofNat k + 3) = ((k + 3 : Nat) : Int) := by rw [wrap64 _ (by simp; omega) (by simp; omega)]; simp
      have e0 : (Int.ofNat k) = (k : Int) := rfl
      simp only [e1, e2, e3]
      simp only [e0, inR_nat, decide_eq_true (show k < l.length by omega), decide_eq_true (show k + 1 < l.length by omega), decide_eq_true (show k + 2 < l.length by omega), decide_eq_true (show k + 3 < l.length by omega), cond_true', Int.toNat_natCast]
      rw [wrap64 (l.getD k 0) (by omega) (by omega), wrap64 (l.getD (k + 1) 0) (by omega) (by omega), wrap64 (l.getD (k + 2) 0) (by omega) (by omega), wrap64 (l.getD (k + 3) 0) (by omega) (by omega)]
      rw [wrap64 (l.getD (k + 1) 0 * 256) (by omega) (by omega), wrap64 (l.getD (k + 2) 0 * 65536) (by omega) (by omega), wrap64 (l.getD (k + 3) 0 * 16777216) (by omega) (by omega)]
      rw [or64 8 (l.getD k 0) (l.getD (k + 1) 0 * 256) (by omega) (by omega) (by omega) (by omega) (by omega) (by omega)]
      rw [or64 16 (l.getD k 0 + l.getD (k + 1) 0 * 256) (l.getD (k + 2) 0 * 65536) (by omega) (by omega) (by omega) (by omega) (by omega) (by omega)]
      rw [or64 24 (l.getD k 0 + l.getD (k + 1) 0 * 256 + l.getD (k + 2) 0 * 65536) (l.getD (k + 3) 0 * 16777216) (by omega) (by omega) (by omega) (by omega) (by omega) (by omega)]
      rfl
  · cases hs
theorem Try.sum61 : SumC Try.prog 61 (pureA (fun args => Try.S60 (nzs Try.nzE args))) := by
  refine pureSumN Try.e1 (d := 3) (ls := lsumsOf []) (AllL.of0 (by kernel_rfl)) _ (by simp [Try.nzE, Con.len]) rfl rfl ?_
  intro args v h2 hs
  unfold Try.S60 at hs
  split at hs
  · rename_i l cap k
    rw [Ans.run_grd] at hs
    cases hb : (bytesOk l && (Nat.ble (k + 4) l.length && Nat.ble k 1000000000)) with
    | false => rw [hb] at hs; cases hs
    | true =>
      rw [hb] at hs
      rw [Bool.and_eq_true, Bool.and_eq_true, Nat.ble_eq, Nat.ble_eq] at hb
      obtain ⟨h0, h1, h2⟩ := hb
      rw [← hs]
      refine (Try.r61 l cap k).trans ?_
      have b0 := bytesOk_get h0 k
      have b1 := bytesOk_get h0 (k + 1)
      have b2 := bytesOk_get h0 (k + 2)
      have b3 := bytesOk_get h0 (k + 3)
      have e1 : IntKind.i64.wrap (Int.ofNat k + 1) = ((k + 1 : Nat) : Int) := by rw [wrap64 _ (by simp; omega) (by simp; omega)]; simp
      have e2 : IntKind.i64.wrap (Int.ofNat k + 2) = ((k + 2 : Nat) : Int) := by rw [wrap64 _ (by simp; omega) (by simp; omega)]; simp
      have e3 : IntKind.i64.wrap (Int.ofNat k + 3) = ((k + 3 : Nat) : Int) := by rw [wrap64 _ (by simp; omega) (by simp; omega)]; simp
      have e0 : (Int.ofNat k) = (k : Int) := rfl
      simp only [e1, e2, e3]
      simp only [e0, inR_nat, decide_eq_true (show k < l.length by omega), decide_eq_true (show k + 1 < l.length by omega), decide_eq_true (show k + 2 < l.length by omega), decide_eq_true (show k + 3 < l.length by omega), cond_true', Int.toNat_natCast]
      rw [wrap64 (l.getD k 0) (by omega) (by omega), wrap64 (l.getD (k + 1) 0) (by omega) (by omega), wrap64 (l.getD (k + 2) 0) (by omega) (by omega), wrap64 (l.getD (k + 3) 0) (by omega) (by omega)]
      rw [wrap64 (l.getD (k + 1) 0 * 256) (by omega) (by omega), wrap64 (l.getD (k + 2) 0 * 65536) (by omega) (by omega), wrap64 (l.getD (k + 3) 0 * 16777216) (by omega) (by omega)]
      rw [wrap64 (l.getD k 0 + l.getD (k + 1) 0 * 256) (by omega) (by omega), wrap64 (l.getD k 0 + l.getD (k + 1) 0 * 256 + l.getD (k + 2) 0 * 65536) (by omega) (by omega), wrap64 (l.getD k 0 + l.getD (k + 1) 0 * 256 + l.getD (k + 2) 0 * 65536 + l.getD (k + 3) 0 * 16777216) (by omega) (by omega)]
      rfl
  · cases hs
end Go.Ev
/- Encode and Decode, and their references. -/
namespace Go.Ev
open Go.Proofs
def Try.A55 : AFun := pureA (fun args => Try.S55 (nzs Try.nzE args))
def Try.A18 : AFun := pureA (fun args => Try.S18 (nzs Try.nzE args))
def Try.A59 : AFun := pureA (fun args => Try.S59 (nzs Try.nzE args))
def Try.A60 : AFun := pureA (fun args => Try.S60 (nzs Try.nzE args))
def Try.A92 : AFun := pureA (fun args => Try.S92 (nzs [.ints .i64 []] args))
def encB (k a b c : Int) (l : List Int) : List Int := IntKind.u8.wrap k :: (bif k == 2 then wordsB [a, b, c] else l)
def Try.err : AV × Heap := (.tup [.val (.slice none 0 0), .val (.int .i64 4)], ⟨0, []⟩)
def Try.S13 (args : List AV) : Ans (AV × Heap) := match args with
  | [.agg [.val (.int .i64 k), .val (.int .i64 a), .val (.int .i64 b), .val (.int .i64 c), .ro (.ints .u8 l) cap]] => .grd (Nat.ble l.length 1000000) (.br (entB k a b c l.length) (.out (.tup [.own 0 0 (encB k a b c l).length none 1, .val (.int .i64 0)], oneH (.ints .u8 (encB k a b c l)))) (.out Try.err))
  | _ => .no
def kdB (l : List Int) : Int := IntKind.i64.wrap (l.getD 0 0)
def Try.errE : AV × Heap := (.tup [Try.ent 0 0 0 0 (.val (.slice none 0 0)), .val (.int .i64 4)], ⟨0, []⟩)
def Try.S15 (args : List AV) : Ans (AV × Heap) := match args with
  | [.ro (.ints .u8 l) cap] => .grd (bytesOk l && Nat.ble l.length 1000000) (.br ((l.length : Int) == 0) (.out Try.errE)
      (.br (kdB l == 2) (.br ((l.length : Int) == 13) (.br (entB (kdB l) (wdB l 1) (wdB l 5) (wdB l 9) 0) (.out (.tup [Try.ent (kdB l) (wdB l 1) (wdB l 5) (wdB l 9) (.val (.slice none 0 0)), .val (.int .i64 0)], ⟨0, []⟩)) (.out Try.errE)) (.out Try.errE))
        (.br (entB (kdB l) 0 0 0 (l.drop 1).length) (.out (.tup [Try.ent (kdB l) 0 0 0 (.own 0 0 (l.drop 1).length none 1), .val (.int .i64 0)], oneH (.ints .u8 (l.drop 1)))) (.out Try.errE))))
  | _ => .no
abbrev EntD := Int × Int × Int × Int × List Int
def entZ : EntD := (0, 0, 0, 0, [])
def decOk (l : List Int) : Bool := bif (l.length : Int) == 0 then false else bif kdB l == 2 then ((l.length : Int) == 13) && entB (kdB l) (wdB l 1) (wdB l 5) (wdB l 9) 0 else entB (kdB l) 0 0 0 (l.drop 1).length
def decD (l : List Int) : EntD := bif decOk l then (bif kdB l == 2 then (kdB l, wdB l 1, wdB l 5, wdB l 9, []) else (kdB l, 0, 0, 0, l.drop 1)) else entZ
def decE (l : List Int) : Int := bif decOk l then 0 else 4
def Try.entO (e : EntD) : AV := Try.ent e.1 e.2.1 e.2.2.1 e.2.2.2.1 (.own 0 0 e.2.2.2.2.length none 1)
def Try.t3 : List (Nat × AFun) := [(55, Try.A55), (57, Try.A55), (59, Try.A59), (60, Try.A60), (61, Try.A60), (92, Try.A92)]
def Try.E3 : Env := Try.env0 false (sumsOf Try.t3) (keepF 0 [])
theorem Try.e3 : EnvOk2 Try.prog Try.E3 := Try.envOk false (sumsOf Try.t3) _ (sumsOf_ok (show AllS Try.prog Try.t3 from ⟨Try.sum55, Try.sum57, Try.sum59, Try.sum60, Try.sum61, Try.sum92, trivial⟩))
theorem Try.r15 (l : List Int) (cap : Option Nat) : rootS Try.E3 3 15 (lsumsOf []) [.ro (.ints .u8 l) cap] =
 bif (↑l.length : Int) == 0 then
 some (.tup [.agg [.val (.int .i64 0), .val (.int .i64 0), .val (.int .i64 0), .val (.int .i64 0), .val (.slice none 0 0)], .val (.int .i64 4)], ⟨0, []⟩)
 else
 bif inR 0 l.length then
 bif decide (1 ≤ (↑l.length : Int)) then
 bif (List.take (l.length - 1) (List.drop 1 l)).length.ble 1000000 then
 bif IntKind.i64.wrap (l.getD 0 0) == 2 then
 bif (↑l.length : Int) == 13 then
 bif bytesOk l && (Nat.ble 5 l.length && true) then
 bif bytesOk l && (Nat.ble 9 l.length && true) then
 bif bytesOk l && (Nat.ble 13 l.length && true) then
 bif entB (IntKind.i64.wrap (l.getD 0 0)) (wdB l 1) (wdB l 5) (wdB l 9) 0 then
 bif IntKind.i64.wrap (l.getD 0 0) == 2 then
 bif (↑l.length : Int) != 13 then
 some (.tup [.agg [.val (.int .i64 0), .val (.int .i64 0), .val (.int .i64 0), .val (.int .i64 0), .val (.slice none 0 0)], .val (.int .i64 4)], ⟨0, []⟩)
 else
 some (.tup [.agg [.val (.int .i64 (IntKind.i64.wrap (l.getD 0 0))), .val (.int .i64 (wdB l 1)), .val (.int .i64 (wdB l 5)), .val (.int .i64 (wdB l 9)), .val (.slice none 0 0)], .val (.int .i64 0)], ⟨0, []⟩)
 else
 some (.tup [.agg [.val (.int .i64 (IntKind.i64.wrap (l.getD 0 0))), .val (.int .i64 (wdB l 1)), .val (.int .i64 (wdB l 5)), .val (.int .i64 (wdB l 9)), .val (.slice none 0 0)], .val (.int .i64 0)], ⟨0, []⟩)
 else
 some (.tup [.agg [.val (.int .i64 0), .val (.int .i64 0), .val (.int .i64 0), .val (.int .i64 0), .val (.slice none 0 0)], .val (.int .i64 4)], ⟨0, []⟩)
 else
 none
 else
 none
 else
 none
 else
 bif (0 + (List.take (l.length - 1) (List.drop 1 l)).length).ble (List.take (l.length - 1) (List.drop 1 l)).length && true then
 bif entB (IntKind.i64.wrap (l.getD 0 0)) 0 0 0 (List.take (List.take (l.length - 1) (List.drop 1 l)).length (List.drop 0 (List.take (l.length - 1) (List.drop 1 l)))).length then
 bif IntKind.i64.wrap (l.getD 0 0) == 2 then
 bif (↑l.length : Int) != 13 then
 some (.tup [.agg [.val (.int .i64 0), .val (.int .i64 0), .val (.int .i64 0), .val (.int .i64 0), .val (.slice none 0 0)], .val (.int .i64 4)], ⟨0, []⟩)
 else
 some (.tup [.agg [.val (.int .i64 (IntKind.i64.wrap (l.getD 0 0))), .val (.int .i64 0), .val (.int .i64 0), .val (.int .i64 0), .own 0 0 ((List.take (l.length - 1) (List.drop 1 l)).length) none 1], .val (.int .i64 0)], ⟨1, [⟨0, 0, .cells (.ints .u8 (List.take (l.length - 1) (List.drop 1 l)))⟩]⟩)
 else
 some (.tup [.agg [.val (.int .i64 (IntKind.i64.wrap (l.getD 0 0))), .val (.int .i64 0), .val (.int .i64 0), .val (.int .i64 0), .own 0 0 ((List.take (l.length - 1) (List.drop 1 l)).length) none 1], .val (.int .i64 0)], ⟨1, [⟨0, 0, .cells (.ints .u8 (List.take (l.length - 1) (List.drop 1 l)))⟩]⟩)
 else
 some (.tup [.agg [.val (.int .i64 0), .val (.int .i64 0), .val (.int .i64 0), .val (.int .i64 0), .val (.slice none 0 0)], .val (.int .i64 4)], ⟨0, []⟩)
 else
 none
 else
 bif (0 + (List.take (l.length - 1) (List.drop 1 l)).length).ble (List.take (l.length - 1) (List.drop 1 l)).length && true then
 bif entB (IntKind.i64.wrap (l.getD 0 0)) 0 0 0 (List.take (List.take (l.length - 1) (List.drop 1 l)).length (List.drop 0 (List.take (l.length - 1) (List.drop 1 l)))).length then
 bif IntKind.i64.wrap (l.getD 0 0) == 2 then
 bif (↑l.length : Int) != 13 then
 some (.tup [.agg [.val (.int .i64 0), .val (.int .i64 0), .val (.int .i64 0), .val (.int .i64 0), .val (.slice none 0 0)], .val (.int .i64 4)], ⟨0, []⟩)
 else
 some (.tup [.agg [.val (.int .i64 (IntKind.i64.wrap (l.getD 0 0))), .val (.int .i64 0), .val (.int .i64 0), .val (.int .i64 0), .own 0 0 ((List.take (l.length - 1) (List.drop 1 l)).length) none 1], .val (.int .i64 0)], ⟨1, [⟨0, 0, .cells (.ints .u8 (List.take (l.length - 1) (List.drop 1 l)))⟩]⟩)
 else
 some (.tup [.agg [.val (.int .i64 (IntKind.i64.wrap (l.getD 0 0))), .val (.int .i64 0), .val (.int .i64 0), .val (.int .i64 0), .own 0 0 ((List.take (l.length - 1) (List.drop 1 l)).length) none 1], .val (.int .i64 0)], ⟨1, [⟨0, 0, .cells (.ints .u8 (List.take (l.length - 1) (List.drop 1 l)))⟩]⟩)
 else
 some (.tup [.agg [.val (.int .i64 0), .val (.int .i64 0), .val (.int .i64 0), .val (.int .i64 0), .val (.slice none 0 0)], .val (.int .i64 4)], ⟨0, []⟩)
 else
 none
 else
 none
 else
 none
 else
 none := by kernel_rfl
theorem Try.rs15 : ∀ args v h2, (Try.S15 args).run = some (v, h2) → rootS Try.E3 3 15 (lsumsOf []) args = some (v, h2) := by
  intro args v h2 hs
  unfold Try.S15 at hs
  split at hs
  · rename_i l cap
    rw [Ans.run_grd] at hs
    cases hb : (bytesOk l && Nat.ble l.length 1000000) with
    | false => rw [hb] at hs; cases hs
    | true =>
      rw [hb, cond_true] at hs
      rw [Bool.and_eq_true, Nat.ble_eq] at hb
      obtain ⟨h0, h1⟩ := hb
      rw [← hs]
      refine (Try.r15 l cap).trans ?_
      simp only [Ans.run_br]
      have ekd : IntKind.i64.wrap (l.getD 0 0) = kdB l := rfl
      rw [ekd]
      cases hl : ((l.length : Int) == 0) with
      | true => rfl
      | false =>
        have hpos : 0 < l.length := by
          rcases Nat.eq_zero_or_pos l.length with q | q
          · rw [q] at hl; cases hl
          · exact q
        have g1 : inR 0 l.length = true := by rw [show (0 : Int) = ((0 : Nat) : Int) from rfl, inR_nat, decide_eq_true hpos]
        have g2 : decide (1 ≤ (l.length : Int)) = true := decide_eq_true (by omega)
        have e1 : List.take (l.length - 1) (List.drop 1 l) = l.drop 1 := by rw [List.take_of_length_le]; simp
        have e3 : (l.drop 1).length ≤ 1000000 := by simp; omega
        simp only [g1, g2, e1, h0, cond_true', cond_false', List.drop_zero, List.take_length, Nat.zero_add, Nat.mul_one, List.nil_append, ble_t (Nat.le_refl _), ble_t e3, ble_t (show (l.drop 1).length ≤ most by rw [most_eq]; omega), Bool.and_true, Bool.true_and]
        cases hk : (kdB l == 2) with
        | false =>
          simp only [cond_false', cond_sameB]
          cases entB (kdB l) 0 0 0 (l.drop 1).length <;> cases ((l.length : Int) == 13) <;> rfl
        | true =>
          simp only [cond_true']
          cases hn : ((l.length : Int) == 13) with
          | true =>
            have hn' : l.length = 13 := by rw [beq_iff_eq] at hn; omega
            have hne : ((l.length : Int) != 13) = false := by rw [bne, hn]; rfl
            simp only [hne, cond_true', cond_false', ble_t (show 5 ≤ l.length by omega), ble_t (show 9 ≤ l.length by omega), ble_t (show 13 ≤ l.length by omega)]
            cases entB (kdB l) (wdB l 1) (wdB l 5) (wdB l 9) 0 <;> rfl
          | false =>
            have hne : ((l.length : Int) != 13) = true := by rw [bne, hn]; rfl
            simp only [hne, cond_true', cond_false', cond_sameB]
            first | rfl | (cases entB (kdB l) 0 0 0 (l.drop 1).length <;> rfl)
  · cases hs
end Go.Ev
/- Turns, and its reference. -/
namespace Go.Ev
open Go.Proofs
def entRow (e : EntD) : List AV := [.val (.int .i64 e.1), .val (.int .i64 e.2.1), .val (.int .i64 e.2.2.1), .val (.int .i64 e.2.2.2.1), .ro (.ints .u8 e.2.2.2.2) none]
def entC (L : List EntD) : Con := .tab 5 L.length (fun i => entRow (L.getD i entZ))
end Go.Ev
/- slices.Equal of turns; sameTurns. -/
namespace Go.Ev
open Go.Proofs
def isT : List AV → Bool
  | [.val (.int .i64 a), .val (.int .i64 b), .val (.int .i64 c)] => true
  | _ => false
def allT (c : Con) : Bool := @decide (∀ i, i < c.len → isT (c.row i) = true) (Classical.propDecidable _)
def okT (c : Con) : Bool := Nat.beq c.wd 3 && (allT c && Nat.ble c.len 1000000)
end Go.Ev
namespace Go.Ev
open Go.Proofs
theorem Try.saneRun : callF (Try.env0 true (fun _ => none) (fun _ _ => none)) 50 AV (.clo (.func 12) [] []) [] heap0 (fun v _ => some v) = some (.val (.bool true)) := by kernel_rfl
theorem Try.saneSum : SumC Try.prog 12 (constA (.bool true)) := SumC.closed (Try.envOk _ _ _ (fun g A h => by cases h)) 49 12 rfl Try.saneRun
end Go.Ev
/- JournalCodes: the walk of the law. -/
namespace Go.Ev
open Go.Proofs
end Go.Ev
/- JournalCodes: the plain law. -/
namespace Go.Ev
open Go.Proofs
theorem eqS_refl (l : List Int) : eqS l l = true := beq_self_eq_true _
theorem sameB_refl (k a b c : Int) (l : List Int) : sameB k a b c k a b c l l = true := by simp [sameB, eqS_refl]
theorem entB_two {k a b c : Int} {n : Nat} (h : entB k a b c n = true) (hk : k = 2) : n = 0 ∧ 0 ≤ a ∧ a < 8 ∧ 0 ≤ b ∧ b ≤ 200000 ∧ 0 ≤ c ∧ c ≤ 8 := by
  subst hk
  simp [entB, turnB] at h
  omega
theorem entB_else {k a b c : Int} {n : Nat} (h : entB k a b c n = true) (hk : k ≠ 2) : (k = 1 ∨ k = 3 ∨ k = 4) ∧ a = 0 ∧ b = 0 ∧ c = 0 ∧ n < 20000 := by
  have hk' : (k == 2) = false := by simpa using hk
  simp [entB, zeroB, hk', hk] at h
  omega
theorem u8w (x : Int) : IntKind.u8.wrap x = x % 256 := IntKind.wrap_u8 x
theorem fdiv_pos (x y : Int) (h : 0 ≤ y) : x.fdiv y = x / y := Int.fdiv_eq_ediv_of_nonneg x h
theorem bytesOk_cons (x : Int) (l : List Int) : bytesOk (x :: l) = (decide (0 ≤ x) && decide (x < 256) && bytesOk l) := by simp [bytesOk]
theorem bytesOk_w4 (x : Int) (l : List Int) (h : bytesOk l = true) : bytesOk (w4 x ++ l) = true := by
  unfold bytesOk at *
  rw [List.all_append, h]
  simp only [w4, u8w, List.all_cons, List.all_nil, Bool.and_true, Bool.and_eq_true, decide_eq_true_eq]
  omega
theorem words3 (a b c : Int) : wordsB [a, b, c] = w4 a ++ (w4 b ++ (w4 c ++ [])) := rfl
theorem enc_ok {k a b c : Int} {l : List Int} (h : entB k a b c l.length = true) (hl : bytesOk l = true) : bytesOk (encB k a b c l) = true := by
  unfold encB
  rw [bytesOk_cons, u8w]
  have h0 : (decide (0 ≤ k % 256) && decide (k % 256 < 256)) = true := by
    simp only [Bool.and_eq_true, decide_eq_true_eq]; omega
  rw [h0, Bool.true_and]
  cases hk : k == 2 with
  | true => rw [cond_true', words3]; exact bytesOk_w4 _ _ (bytesOk_w4 _ _ (bytesOk_w4 _ _ rfl))
  | false => exact hl
theorem dec_enc {k a b c : Int} {l : List Int} (h : entB k a b c l.length = true) (hl : bytesOk l = true) : decOk (encB k a b c l) = true ∧ decD (encB k a b c l) = (k, a, b, c, l) := by
  by_cases hk : k = 2
  · obtain ⟨h0, h1, h2, h3, h4, h5, h6⟩ := entB_two h hk
    have hl0 : l = [] := List.length_eq_zero_iff.1 h0
    subst hl0
    subst hk
    have e : encB 2 a b c [] = [2 % 256, a % 256, a / 256 % 256, a / 65536 % 256, a / 16777216 % 256, b % 256, b / 256 % 256, b / 65536 % 256, b / 16777216 % 256, c % 256, c / 256 % 256, c / 65536 % 256, c / 16777216 % 256] := by
      simp [encB, words3, w4, u8w, fdiv_pos]
    have kd : kdB (encB 2 a b c []) = 2 := by rw [e]; show IntKind.i64.wrap (2 % 256) = 2; rfl
    have w1 : wdB (encB 2 a b c []) 1 = a := by rw [e]; show a % 256 + a / 256 % 256 * 256 + a / 65536 % 256 * 65536 + a / 16777216 % 256 * 16777216 = a; omega
    have w5 : wdB (encB 2 a b c []) 5 = b := by rw [e]; show b % 256 + b / 256 % 256 * 256 + b / 65536 % 256 * 65536 + b / 16777216 % 256 * 16777216 = b; omega
    have w9 : wdB (encB 2 a b c []) 9 = c := by rw [e]; show c % 256 + c / 256 % 256 * 256 + c / 65536 % 256 * 65536 + c / 16777216 % 256 * 16777216 = c; omega
    have hlen : ((encB 2 a b c []).length : Int) = 13 := by rw [e]; rfl
    have ok : decOk (encB 2 a b c []) = true := by
      unfold decOk
      rw [hlen, kd, w1, w5, w9]
      exact h
    refine ⟨ok, ?_⟩
    unfold decD
    rw [ok, kd, w1, w5, w9]; rfl
  · obtain ⟨h0, rfl, rfl, rfl, h4⟩ := entB_else h hk
    have hk' : (k == 2) = false := by simpa using hk
    have e : encB k 0 0 0 l = k :: l := by
      unfold encB
      rw [hk', u8w]
      have : k % 256 = k := by omega
      rw [this]; rfl
    have kd : kdB (k :: l) = k := wrap64 _ (by show _ ≤ k; omega) (by show k < _; omega)
    have ok : decOk (k :: l) = true := by
      unfold decOk
      rw [kd, hk']
      have : (((k :: l).length : Int) == 0) = false := by simp; omega
      rw [this]
      exact h
    rw [e]
    refine ⟨ok, ?_⟩
    unfold decD
    rw [ok, kd, hk']; rfl
theorem getD_of {m : List Int} {i : Nat} (h : i < m.length) : m.getD i 0 = m[i] := by
  rw [List.getD_eq_getElem?_getD, List.getElem?_eq_getElem h]; rfl
end Go.Ev
/- What is read of arguments, as abstract values. -/
namespace Go.Ev
inductive Sh where
  | int (k : IntKind)
  | bool
  | str
  | agg (l : List Sh)
  | sl (e : Sh)
mutual
def Sh.wd : Sh → Nat
  | .int _ => 1
  | .bool => 1
  | .str => 1
  | .sl _ => 1
  | .agg l => wdL l
def wdL : List Sh → Nat
  | [] => 0
  | s :: l => s.wd + wdL l
end
mutual
def shOk (P : Program) : Sh → TypeId → Bool
  | .int k, t => (match P.underlying t with | some (.int k') => decide (k' = k) | _ => false)
  | .bool, t => (match P.underlying t with | some .bool => true | _ => false)
  | .str, t => (match P.underlying t with | some .string => true | _ => false)
  | .sl e, t => (match P.underlying t with | some (.slice u) => shOk P e u && (Nat.beq (P.cellsOf u) e.wd && Nat.blt 0 e.wd) | _ => false)
  | .agg l, t => (match P.underlying t with | some (.struct fs) => Nat.beq (P.cellsOf t) (wdL l) && shOkF P l fs.toList 0 | _ => false)
def shOkF (P : Program) : List Sh → List Field → Nat → Bool
  | [], [], _ => true
  | s :: l, f :: fs, off => shOk P s f.type && (Nat.beq f.offset off && (Nat.beq (P.cellsOf f.type) s.wd && shOkF P l fs (off + s.wd)))
  | _, _, _ => false
end
section
variable {H : Type}
def intD : DataW H → Int
  | .lit (.int _ n) => n
  | _ => 0
def boolD : DataW H → Bool
  | .lit (.bool b) => b
  | _ => false
def strD : DataW H → ByteArray
  | .lit (.string l) => ⟨l.toArray⟩
  | _ => .empty
def elemsD : DataW H → List (DataW H)
  | .slice l _ => l
  | _ => []
def partsD : DataW H → List (DataW H)
  | .agg l => l
  | _ => []
mutual
def avs : Sh → DataW H → List AV
  | .int k, d => [.val (.int k (intD d))]
  | .bool, d => [.val (.bool (boolD d))]
  | .str, d => [.val (.string (strD d))]
  | .sl (.int k), d => [.ro (.ints k ((elemsD d).map intD)) none]
  | .sl e, d => [.ro (.tab e.wd (elemsD d).length (fun i => avs e ((elemsD d).getD i .nil))) none]
  | .agg l, d => avsL l (partsD d)
def avsL : List Sh → List (DataW H) → List AV
  | [], _ => []
  | s :: l, ds => avs s (ds.headD .nil) ++ avsL l ds.tail
end
def argA : Sh → DataW H → AV
  | .agg l, d => .agg (avsL l (partsD d))
  | s, d => (avs s d).headD .unk
def argsA : List Sh → List (DataW H) → List AV
  | [], _ => []
  | s :: l, ds => argA s (ds.headD .nil) :: argsA l ds.tail
end
section
variable {H : Type} {enc : TypeId × Value → H} {P : Program} {w : World} {c : Cx} {sp : Nat → Bool} {held : Bool}
theorem cells_get {a : Addr} {n : Nat} {cs : List Value} (h : w.cells? 0 a n = some cs) (hn : 0 < n) : a.spot = none ∧ ∃ arr e fz, w.heap[a.block]? = some (.cells arr e fz) ∧ ∀ i, i < n → arr[a.off + i]? = cs[i]? := by
  obtain ⟨_, hl, hc⟩ := World.cells?_some h
  have h0 := hc 0 hn
  have e0 : a.add 0 = a := rfl
  rw [e0] at h0
  have hsome : ∃ v, cs[0]? = some v := ⟨cs[0]'(by omega), List.getElem?_eq_getElem (by omega)⟩
  obtain ⟨v, hv⟩ := hsome
  rw [hv] at h0
  unfold World.cell? at h0
  split at h0
  · rename_i arr e fz hb
    split at h0
    · cases h0
    · rename_i hs
      have hsn : a.spot = none := by cases hq : a.spot with | none => rfl | some x => rw [hq] at hs; exact absurd rfl hs
      refine ⟨hsn, arr, e, fz, hb, fun i hi => ?_⟩
      have := hc i hi
      unfold World.cell? at this
      have eb : (a.add i).block = a.block := by unfold Addr.add; split <;> rfl
      have eo : (a.add i).off = a.off + i := by
        unfold Addr.add; split
        · rename_i q; rw [q]; rfl
        · rfl
      have es : (a.add i).spot = none := by unfold Addr.add; split <;> first | exact hsn | rfl
      rw [eb, hb, es, eo] at this
      simpa using this
  · cases h0
theorem VRs.get2 {w : World} {c : Cx} : ∀ {l : List AV} {l' : List Value} {i : Nat} {v : AV} {u : Value}, VRs w c l l' → l[i]? = some v → l'[i]? = some u → VR w c v u
  | _, _, _, _, _, .nil, h, _ => by simp at h
  | _, _, 0, _, _, .cons a a' l l' h1 h2, h, h' => by simp at h h'; subst h; subst h'; exact h1
  | _, _, i + 1, _, _, .cons a a' l l' h1 h2, h, h' => VRs.get2 (i := i) h2 (by simpa using h) (by simpa using h')
structure Read (w : World) (c : Cx) (l : List AV) (n : Nat) (cs : List Value) : Prop where
  rel : VRs w c l cs
  len : cs.length = n
  one : ∀ v ∈ cs, v.oneCell' = true
theorem slice_read (hM : ∀ b, b < w.heap.size → c.M b) {a : Addr} {cap m : Nat} {u : TypeId} {elems : List (DataW H × List MemPlace)} (con : Con) (wd : Nat) (hcw : P.cellsOf u = wd) (hw : 0 < wd) (hcon : con.wd = wd) (hlen : con.len = elems.length) (hcap : elems.length ≤ cap)
    (hel : ∀ i, i < elems.length → (w.cells? 0 (a.add (i * P.cellsOf u)) (P.cellsOf u)).bind (DataW.trod enc P w 0 sp held m u) = elems[i]?)
    (hread : ∀ i cs y, i < elems.length → elems[i]? = some y → DataW.trod enc P w 0 sp held m u cs = some y → Read w c.none (con.row i) wd cs) : VR w c (.ro con none) (.slice (some a) elems.length cap) := by
  rw [← hlen]
  rcases Nat.eq_zero_or_pos elems.length with hz | hpos
  · exact .ro con none (some a) cap (by omega) (fun _ q => by cases q) (.inl (by omega)) (fun b o e hp => by omega)
  · have each : ∀ i, i < elems.length → ∃ cs y, w.cells? 0 (a.add (i * wd)) wd = some cs ∧ elems[i]? = some y ∧ DataW.trod enc P w 0 sp held m u cs = some y := by
      intro i hi
      have := hel i hi
      rw [hcw, List.getElem?_eq_getElem hi] at this
      rw [Option.bind_eq_some_iff] at this
      obtain ⟨cs, h1, h2⟩ := this
      exact ⟨cs, _, h1, List.getElem?_eq_getElem hi, h2⟩
    obtain ⟨cs0, y0, k1, k2, k3⟩ := each 0 hpos
    rw [Nat.zero_mul, show a.add 0 = a from rfl] at k1
    obtain ⟨hs, arr, e, fz, hb, harr⟩ := cells_get k1 hw
    have ea : a = ⟨a.block, a.off, none⟩ := by cases a; simp only at hs; subst hs; rfl
    have hlt : a.block < w.heap.size := by
      rcases Nat.lt_or_ge a.block w.heap.size with q | q
      · exact q
      · rw [Array.getElem?_eq_none q] at hb; cases hb
    have cell : ∀ i, i < elems.length → ∃ cs, Read w c.none (con.row i) wd cs ∧ ∀ j, j < wd → arr[a.off + i * wd + j]? = cs[j]? := by
      intro i hi
      obtain ⟨cs, y, h1, h2, h3⟩ := each i hi
      obtain ⟨_, arr', e', fz', hb', harr'⟩ := cells_get h1 hw
      have eb : (a.add (i * wd)).block = a.block := by unfold Addr.add; split <;> rfl
      have eo : (a.add (i * wd)).off = a.off + i * wd := by
        unfold Addr.add; split
        · rename_i q; rw [q]; rfl
        · rfl
      rw [eb, hb] at hb'
      injection hb' with hb'
      injection hb' with q1 q2 q3
      subst q1
      refine ⟨cs, hread i cs y hi h2 h3, fun j hj => ?_⟩
      have := harr' j hj
      rwa [eo] at this
    rw [ea]
    refine .ro con none _ cap (by omega) (fun _ q => by cases q) (.inr ⟨a.block, a.off, rfl, by omega⟩) ?_
    intro b o hbo hp
    injection hbo with hbo
    injection hbo with q1 q2
    subst q1; subst q2
    refine .mk con a.block a.off arr e fz (fun i j => (arr[a.off + i * wd + j]?).getD undef) (hM _ hlt) hb ?_ ?_
    · intro i j hi hj
      rw [hcon] at hj ⊢
      obtain ⟨cs, r, h2⟩ := cell i (by omega)
      have hj' : j < cs.length := by rw [r.len]; exact hj
      have := h2 j hj
      rw [List.getElem?_eq_getElem hj'] at this
      rw [this]
      exact ⟨rfl, r.one _ (List.getElem_mem hj')⟩
    · intro i j v hi hj hv
      rw [hcon] at hj
      obtain ⟨cs, r, h2⟩ := cell i (by omega)
      have hj' : j < cs.length := by rw [r.len]; exact hj
      have := h2 j hj
      rw [List.getElem?_eq_getElem hj'] at this
      simp only [this, Option.getD_some]
      exact r.rel.get2 hv (List.getElem?_eq_getElem hj')
theorem Read.append {l l' : List AV} {n n' : Nat} {cs cs' : List Value} (h : Read w c l n cs) (h' : Read w c l' n' cs') : Read w c (l ++ l') (n + n') (cs ++ cs') :=
  ⟨h.rel.append h'.rel, by rw [List.length_append, h.len, h'.len], fun v hv => (List.mem_append.1 hv).elim (h.one v) (h'.one v)⟩
theorem Read.single {v : AV} {u : Value} (h : VR w c v u) (h1 : u.oneCell' = true) : Read w c [v] 1 [u] := ⟨.cons _ _ _ _ h .nil, rfl, fun x hx => by simp at hx; subst hx; exact h1⟩
mutual
theorem read_ok : ∀ (s : Sh) {c : Cx} (hM : ∀ b, b < w.heap.size → c.M b) (t : TypeId) (fuel : Nat) (cs : List Value) (x : DataW H × List MemPlace), shOk P s t = true → DataW.trod enc P w 0 sp held fuel t cs = some x → Read w c (avs s x.1) s.wd cs
  | .int k, c, hM, t, fuel, cs, x, hs, h => by
    simp only [shOk] at hs
    split at hs
    · rename_i k' hu
      have hk := of_decide_eq_true hs
      subst hk
      obtain ⟨n, rfl, rfl, _⟩ := DataW.trod_int hu h
      simp only [avs, intD, Sh.wd]
      exact Read.single (.val _) rfl
    · cases hs
  | .bool, c, hM, t, fuel, cs, x, hs, h => by
    simp only [shOk] at hs
    split at hs
    · rename_i hu
      obtain ⟨b, rfl, rfl⟩ := DataW.trod_bool hu h
      simp only [avs, boolD, Sh.wd]
      exact Read.single (.val _) rfl
    · cases hs
  | .str, c, hM, t, fuel, cs, x, hs, h => by
    simp only [shOk] at hs
    split at hs
    · rename_i hu
      obtain ⟨b, rfl, rfl, _⟩ := DataW.trod_string hu h
      simp only [avs, strD, Sh.wd]
      exact Read.single (.val _) rfl
    · cases hs
  | .sl e, c, hM, t, fuel, cs, x, hs, h => by
    simp only [shOk] at hs
    split at hs
    · rename_i u hu
      simp only [Bool.and_eq_true] at hs
      obtain ⟨h1, h2, h3⟩ := hs
      have h2 := Nat.eq_of_beq_eq_true h2
      rw [Nat.blt_eq] at h3
      simp only [Sh.wd]
      have key : ∀ (con : Con) (es : List (DataW H)), avs (.sl e) x.1 = [.ro con none] → con.wd = e.wd → con.len = (elemsD x.1).length →
          (∀ (i : Nat) (y : DataW H × List MemPlace) (cs : List Value), (elemsD x.1)[i]? = some y.1 → Read w c.none (avs e y.1) e.wd cs → Read w c.none (con.row i) e.wd cs) → Read w c (avs (.sl e) x.1) 1 cs := by
        intro con es ha hcw hcl hrow
        rw [ha]
        rcases DataW.trod_slice hu h with ⟨rfl, rfl⟩ | ⟨a, len, cap, elems, rest, n, rfl, rfl, rfl, hb, hl, hm, hlen, hel, _, _⟩
        · refine Read.single ?_ rfl
          have h0 : con.len = 0 := hcl
          exact nz0_rel (v := .val (.slice none 0 0)) h0 (.val _)
        · refine Read.single ?_ rfl
          have he : elemsD (DataW.slice (elems.map (·.1)) (rest.map (·.1))) = elems.map (·.1) := rfl
          simp only [he] at hcl hrow
          subst hlen
          refine slice_read hM con e.wd h2 h3 hcw (by rw [hcl, List.length_map]) hl hel ?_
          intro i cs y hi hy ht
          refine hrow i y cs (by rw [List.getElem?_map, hy]; rfl) ?_
          exact read_ok e (c := c.none) hM u n cs y h1 ht
      cases e with
      | int k =>
        refine key _ [] rfl rfl (by simp [Con.len]) ?_
        intro i y cs hy hr
        simp only [avs] at hr
        have er : (Con.ints k ((elemsD x.1).map intD)).row i = [.val (.int k (intD y.1))] := by
          simp only [Con.row, List.getD_eq_getElem?_getD, List.getElem?_map, hy]
          rfl
        rw [er]; exact hr
      | bool => exact key (.tab _ _ _) [] rfl rfl rfl (fun i y cs hy hr => by simp only [Con.row, List.getD_eq_getElem?_getD, hy]; exact hr)
      | str => exact key (.tab _ _ _) [] rfl rfl rfl (fun i y cs hy hr => by simp only [Con.row, List.getD_eq_getElem?_getD, hy]; exact hr)
      | agg l => exact key (.tab _ _ _) [] rfl rfl rfl (fun i y cs hy hr => by simp only [Con.row, List.getD_eq_getElem?_getD, hy]; exact hr)
      | sl e' => exact key (.tab _ _ _) [] rfl rfl rfl (fun i y cs hy hr => by simp only [Con.row, List.getD_eq_getElem?_getD, hy]; exact hr)
    · cases hs
  | .agg l, c, hM, t, fuel, cs, x, hs, h => by
    simp only [shOk] at hs
    split at hs
    · rename_i fs hu
      simp only [Bool.and_eq_true] at hs
      obtain ⟨h1, h2⟩ := hs
      obtain ⟨xs, n, rfl, rfl, hlen, hxl, hf⟩ := DataW.trod_struct hu h
      simp only [avs, partsD, Sh.wd]
      have hwd := Nat.eq_of_beq_eq_true h1
      have := readL_ok l (c := c) hM fs.toList 0 n cs xs h2 (by simpa using hxl) (by omega) (fun i f hi => hf i f (by simpa using hi))
      simpa using this
    · cases hs
theorem readL_ok : ∀ (l : List Sh) {c : Cx} (hM : ∀ b, b < w.heap.size → c.M b) (fs : List Field) (off n : Nat) (cs : List Value) (xs : List (DataW H × List MemPlace)), shOkF P l fs off = true → xs.length = fs.length → cs.length = off + wdL l →
    (∀ (i : Nat) (f : Field), fs[i]? = some f → DataW.trod enc P w 0 sp held n f.type ((cs.drop f.offset).take (P.cellsOf f.type)) = xs[i]?) → Read w c (avsL l (xs.map (·.1))) (wdL l) (cs.drop off)
  | [], c, hM, fs, off, n, cs, xs, hs, hx, hl, hf => by
    simp only [wdL, Nat.add_zero] at hl
    simp only [avsL, wdL]
    rw [List.drop_of_length_le (by omega)]
    exact ⟨.nil, rfl, fun _ q => by cases q⟩
  | s :: l, c, hM, [], off, n, cs, xs, hs, hx, hl, hf => by simp [shOkF] at hs
  | s :: l, c, hM, f :: fs, off, n, cs, xs, hs, hx, hl, hf => by
    simp only [shOkF, Bool.and_eq_true] at hs
    obtain ⟨h1, h2, h3, h4⟩ := hs
    have h2 := Nat.eq_of_beq_eq_true h2
    have h3 := Nat.eq_of_beq_eq_true h3
    cases xs with
    | nil => simp at hx
    | cons x xs =>
      have q0 := hf 0 f rfl
      rw [h2, h3, List.getElem?_cons_zero] at q0
      have r1 := read_ok s (c := c) hM f.type n _ x h1 q0
      have r2 := readL_ok l (c := c) hM fs (off + s.wd) n cs xs h4 (by simpa using hx) (by simp only [wdL] at hl; omega) (fun i g hg => hf (i + 1) g (by simpa using hg))
      simp only [avsL, wdL, List.map_cons, List.headD_cons, List.tail_cons]
      have e : cs.drop off = (cs.drop off).take s.wd ++ cs.drop (off + s.wd) := by rw [← List.drop_drop, List.take_append_drop]
      rw [e]
      exact r1.append r2
end
def shsOk (P : Program) : List Sh → List TypeId → Bool
  | [], [] => true
  | s :: l, t :: ts => shOk P s t && shsOk P l ts
  | _, _ => false
theorem arg_read (hM : ∀ b, b < w.heap.size → c.M b) {s : Sh} {t : TypeId} {v : Value} {d : DataW H} {ps : List MemPlace} {base : Nat} (hs : shOk P s t = true) (hv : Value.okWide P w .any base t v) (h : DataW.Trod enc P w 0 sp held t v d ps) : VR w c (argA s d) v := by
  obtain ⟨fuel, h⟩ := h
  have r := read_ok (held := held) s hM t fuel _ _ hs h
  have plain : (∀ fs, P.underlying t ≠ some (.struct fs)) → (∀ n e, P.underlying t ≠ some (.array n e)) → v.cells.toList = [v] := by
    intro h1 h2
    cases v with
    | agg cs =>
      unfold Value.okWide at hv
      split at hv
      · rename_i fs hu; exact absurd hu (h1 fs)
      · rename_i n e hu; exact absurd hu (h2 n e)
      · exfalso
        unfold Cell.okWide at hv
        split at hv <;> first
          | (rename_i hq; cases hq; done)
          | (unfold Cell.ok at hv; split at hv <;> simp_all)
    | _ => rfl
  cases s with
  | int k =>
    simp only [shOk] at hs
    split at hs
    · rename_i k' hu
      rw [plain (fun fs q => by rw [hu] at q; cases q) (fun n e q => by rw [hu] at q; cases q)] at r
      have := r.rel
      simp only [avs] at this
      cases this with | cons _ _ _ _ q1 q2 => exact q1
    · cases hs
  | bool =>
    simp only [shOk] at hs
    split at hs
    · rename_i hu
      rw [plain (fun fs q => by rw [hu] at q; cases q) (fun n e q => by rw [hu] at q; cases q)] at r
      have := r.rel
      simp only [avs] at this
      cases this with | cons _ _ _ _ q1 q2 => exact q1
    · cases hs
  | str =>
    simp only [shOk] at hs
    split at hs
    · rename_i hu
      rw [plain (fun fs q => by rw [hu] at q; cases q) (fun n e q => by rw [hu] at q; cases q)] at r
      have := r.rel
      simp only [avs] at this
      cases this with | cons _ _ _ _ q1 q2 => exact q1
    · cases hs
  | sl e =>
    simp only [shOk] at hs
    split at hs
    · rename_i u hu
      rw [plain (fun fs q => by rw [hu] at q; cases q) (fun n e q => by rw [hu] at q; cases q)] at r
      have := r.rel
      show VR w c ((avs (.sl e) d).headD .unk) v
      generalize avs (.sl e) d = l at this
      cases this with | cons _ _ _ _ q1 q2 => exact q1
    · cases hs
  | agg l =>
    simp only [shOk] at hs
    split at hs
    · rename_i fs hu
      unfold Value.okWide at hv
      rw [hu] at hv
      obtain ⟨cs, rfl, _, _⟩ := hv
      have := r.rel
      simp only [avs] at this
      exact .agg _ _ this
    · cases hs
theorem args_read (hM : ∀ b, b < w.heap.size → c.M b) {base : Nat} : ∀ {shs : List Sh} {ts : List TypeId} {vs : List Value} {ds : List (DataW H)} {ps : List MemPlace}, shsOk P shs ts = true →
    (∀ (j : Nat) (t : TypeId) (v : Value), ts[j]? = some t → vs[j]? = some v → Value.okWide P w .any base t v) → DataW.TrodAll enc P w 0 sp held ts vs ds ps → VRs w c (argsA shs ds) vs
  | [], [], vs, ds, ps, _, _, h => by
    cases vs <;> cases ds <;> simp [DataW.TrodAll] at h
    exact .nil
  | s :: l, t :: ts, vs, ds, ps, hs, hv, h => by
    simp only [shsOk, Bool.and_eq_true] at hs
    cases vs <;> cases ds <;> simp [DataW.TrodAll] at h
    rename_i v vs d ds
    obtain ⟨p, h1, q, h2, _⟩ := h
    exact .cons _ _ _ _ (arg_read hM hs.1 (hv 0 t v rfl rfl) h1) (args_read hM hs.2 (fun j t v a b => hv (j + 1) t v (by simpa using a) (by simpa using b)) h2)
  | [], _ :: _, _, _, _, h, _, _ => by simp [shsOk] at h
  | _ :: _, [], _, _, _, h, _, _ => by simp [shsOk] at h
end
section
variable {H : Type}
mutual
def wfD : Sh → DataW H → Prop
  | .int k, d => (Lit.int k (intD d)).wf = true
  | .bool, _ => True
  | .str, _ => True
  | .sl e, d => (elemsD d).length ≤ maxLen ∧ ∀ x ∈ elemsD d, wfD e x
  | .agg l, d => wfDL l (partsD d)
def wfDL : List Sh → List (DataW H) → Prop
  | [], _ => True
  | s :: l, ds => wfD s (ds.headD .nil) ∧ wfDL l ds.tail
end
variable {enc : TypeId × Value → H} {P : Program} {w : World} {sp : Nat → Bool} {held : Bool}
mutual
theorem read_wf : ∀ (s : Sh) (t : TypeId) (fuel : Nat) (cs : List Value) (x : DataW H × List MemPlace), shOk P s t = true → DataW.trod enc P w 0 sp held fuel t cs = some x → wfD s x.1
  | .int k, t, fuel, cs, x, hs, h => by
    simp only [shOk] at hs
    split at hs
    · rename_i k' hu
      have hk := of_decide_eq_true hs
      subst hk
      obtain ⟨n, rfl, rfl, hw⟩ := DataW.trod_int hu h
      simp only [wfD, intD]; exact hw
    · cases hs
  | .bool, t, fuel, cs, x, hs, h => by simp only [wfD]
  | .str, t, fuel, cs, x, hs, h => by simp only [wfD]
  | .sl e, t, fuel, cs, x, hs, h => by
    simp only [shOk] at hs
    split at hs
    · rename_i u hu
      simp only [Bool.and_eq_true] at hs
      rcases DataW.trod_slice hu h with ⟨rfl, rfl⟩ | ⟨a, len, cap, elems, rest, n, rfl, rfl, rfl, hb, hl, hm, hlen, hel, _, _⟩
      · simp only [wfD, elemsD]; exact ⟨Nat.zero_le _, fun _ q => by cases q⟩
      · simp only [wfD, elemsD]
        refine ⟨by rw [List.length_map]; omega, ?_⟩
        intro y hy
        obtain ⟨z, hz, rfl⟩ := List.mem_map.1 hy
        obtain ⟨i, hi, he⟩ := List.getElem_of_mem hz
        have := hel i (by omega)
        rw [List.getElem?_eq_getElem hi, he, Option.bind_eq_some_iff] at this
        obtain ⟨cs, _, h2⟩ := this
        exact read_wf e u n cs z hs.1 h2
    · cases hs
  | .agg l, t, fuel, cs, x, hs, h => by
    simp only [shOk] at hs
    split at hs
    · rename_i fs hu
      simp only [Bool.and_eq_true] at hs
      obtain ⟨xs, n, rfl, rfl, hlen, hxl, hf⟩ := DataW.trod_struct hu h
      simp only [wfD, partsD]
      exact readL_wf l fs.toList 0 n cs xs hs.2 (by simpa using hxl) (fun i f hi => hf i f (by simpa using hi))
    · cases hs
theorem readL_wf : ∀ (l : List Sh) (fs : List Field) (off n : Nat) (cs : List Value) (xs : List (DataW H × List MemPlace)), shOkF P l fs off = true → xs.length = fs.length →
    (∀ (i : Nat) (f : Field), fs[i]? = some f → DataW.trod enc P w 0 sp held n f.type ((cs.drop f.offset).take (P.cellsOf f.type)) = xs[i]?) → wfDL l (xs.map (·.1))
  | [], fs, off, n, cs, xs, hs, hx, hf => by simp only [wfDL]
  | s :: l, [], off, n, cs, xs, hs, hx, hf => by simp [shOkF] at hs
  | s :: l, f :: fs, off, n, cs, xs, hs, hx, hf => by
    simp only [shOkF, Bool.and_eq_true] at hs
    cases xs with
    | nil => simp at hx
    | cons x xs =>
      have q0 := hf 0 f rfl
      rw [List.getElem?_cons_zero] at q0
      simp only [wfDL, List.map_cons, List.headD_cons, List.tail_cons]
      exact ⟨read_wf s f.type n _ x hs.1 q0, readL_wf l fs (off + s.wd) n cs xs hs.2.2.2 (by simpa using hx) (fun i g hg => hf (i + 1) g (by simpa using hg))⟩
end
theorem args_wf : ∀ {shs : List Sh} {ts : List TypeId} {vs : List Value} {ds : List (DataW H)} {ps : List MemPlace}, shsOk P shs ts = true → DataW.TrodAll enc P w 0 sp held ts vs ds ps → wfDL shs ds ∧ ds.length = shs.length
  | [], [], vs, ds, ps, _, h => by
    cases vs <;> cases ds <;> simp [DataW.TrodAll] at h
    exact ⟨by simp only [wfDL], rfl⟩
  | s :: l, t :: ts, vs, ds, ps, hs, h => by
    simp only [shsOk, Bool.and_eq_true] at hs
    cases vs <;> cases ds <;> simp [DataW.TrodAll] at h
    rename_i v vs d ds
    obtain ⟨p, ⟨n, h1⟩, q, h2, _⟩ := h
    obtain ⟨k1, k2⟩ := args_wf hs.2 h2
    refine ⟨?_, by simp [k2]⟩
    simp only [wfDL, List.headD_cons, List.tail_cons]
    exact ⟨read_wf s t n _ _ hs.1 h1, k1⟩
  | [], _ :: _, _, _, _, h, _ => by simp [shsOk] at h
  | _ :: _, [], _, _, _, h, _ => by simp [shsOk] at h
end
section
variable {H : Type} {enc : TypeId × Value → H} {P : Program}
theorem sameAt_of {w w' : World} (hsz : ∀ b, b < w.heap.size → w'.heap[b]? = w.heap[b]?) {p : MemPlace} (hp : p.block < w.heap.size) : w.sameAt w' p := by
  cases p with
  | cell b off => show w'.cell? _ = w.cell? _; unfold World.cell?; rw [hsz b hp]
  | map b => exact hsz b hp
theorem trodAll_carry {w w' : World} {base : Nat} {sp : Nat → Bool} {held : Bool} : ∀ {ts : List TypeId} {vs : List Value} {ds : List (DataW H)} {ps : List MemPlace}, DataW.TrodAll enc P w base sp held ts vs ds ps → (∀ p ∈ ps, w.sameAt w' p) → DataW.TrodAll enc P w' base sp held ts vs ds ps
  | [], [], [], _, h, _ => h
  | _ :: _, _ :: _, _ :: _, _, ⟨p, q, ⟨n, h1⟩, h2, e⟩, hs => ⟨p, q, ⟨n, DataW.trod_carry n _ _ _ h1 (fun x hx => hs x (by rw [e]; exact List.mem_append_left _ hx))⟩, trodAll_carry h2 (fun x hx => hs x (by rw [e]; exact List.mem_append_right _ hx)), e⟩
theorem law_post {f : Func} {s : ChangeSpec} {apart fresh handsOn again : Bool} {W W' : World} {args : Array Value} {ds : List (DataW H)} {before : List MemPlace} {b : TypeId}
    (kids : Kids P (· < P.types.size)) (full : ∀ t e, t < P.types.size → P.underlying t = some (.slice e) → 0 < P.cellsOf e)
    (hts : ∀ t ∈ f.params.toList, t < P.types.size) (hvars : s.vars = []) (hb : P.underlying b = some .bool) (hrt : f.resultTypes = #[b])
    (hfn : s.fn H (ds ++ []) = { results := [.lit (.bool true)], args := ds })
    (hW : DataW.Whole enc P f.params.toList s.vars apart W args.toList ds [] before)
    (hkeep : ∀ i, i < W.heap.size → W'.heap[i]? = W.heap[i]?) (hos : W'.os = W.os) (hout : W'.output = W.output) :
    s.post enc P f apart fresh handsOn again W args (.bool true) W' := by
  have hW0 := hW
  obtain ⟨p, q, hA, hV, hpq, hfz, hnd⟩ := hW
  rw [hvars] at hV
  obtain rfl : q = [] := hV
  have hbp : before = p := by rw [hpq, List.append_nil]
  have hlt : ∀ x ∈ before, x.block < W.heap.size := fun x hx => hA.lt x (by rw [← hbp]; exact hx)
  have hA' : DataW.TrodAll enc P W' 0 (fun _ => true) true f.params.toList args.toList ds p := trodAll_carry hA (fun x hx => sameAt_of hkeep (hlt x (by rw [hbp]; exact hx)))
  have hsz : f.resultTypes.size = 1 := by rw [hrt]; rfl
  have hres : ∀ (b' : Nat) (sp : Nat → Bool) (hd : Bool), DataW.TrodAll enc P W' b' sp hd f.resultTypes.toList ((Value.bool true).resultList f.resultTypes.size) (s.fn H (ds ++ [])).results [] := by
    intro b' sp hd
    rw [hfn, hsz, hrt]
    exact ⟨[], [], ⟨1, by show DataW.trod enc P W' b' sp hd 1 b [.bool true] = _; unfold DataW.trod; rw [hb]⟩, rfl, rfl⟩
  have hold : ∀ x ∈ before, (fun b => decide (b < W.heap.size)) x.block = true := fun x hx => by simpa using hlt x hx
  have hargs : ∀ sp : Nat → Bool, (∀ x ∈ before, sp x.block = true) → DataW.TrodAll enc P W' 0 sp true f.params.toList args.toList (s.fn H (ds ++ [])).args p := by
    intro sp hs
    rw [hfn]
    exact DataW.TrodAll.respare kids full hts hA' (fun x hx => hs x (by rw [hbp]; exact hx))
  have hvs : ∀ sp : Nat → Bool, DataW.TrodVars enc P W' sp s.vars (s.fn H (ds ++ [])).vars [] := by
    intro sp; rw [hfn, hvars]; rfl
  have hok : ∀ (j : Nat) (t : TypeId) (r : Value), f.resultTypes[j]? = some t → ((Value.bool true).resultList f.resultTypes.size)[j]? = some r → Value.okWide P W' .any 0 t r := by
    intro j t r h1 h2
    rw [hsz] at h2
    rw [hrt] at h1
    have e1 : (Value.bool true).resultList 1 = [.bool true] := rfl
    rw [e1] at h2
    cases j with
    | succ j => simp at h2
    | zero =>
      simp at h1 h2
      subst h1; subst h2
      simp [Value.okWide, hb, Cell.okWide, Cell.ok]
  have hk : W.keptBut W' (· ∈ before) := by
    refine ⟨hos, hout, fun i hi => ?_⟩
    rw [hkeep i hi]
    cases hh : W.heap[i]? with
    | none => rfl
    | some o => cases o with
      | cells c t fr => exact ⟨rfl, rfl, rfl, fun _ _ => rfl⟩
      | map es clock => exact .inr ⟨rfl, rfl⟩
      | _ => rfl
  refine ⟨ds, [], before, [], p, [], hW0, hres _ _ _, hargs _ hold, hvs _, World.keptBut_mono (fun x hx => ⟨hx, ?_⟩) hk, fun _ => ?_⟩
  · rw [hbp] at hx
    exact Or.inr (Or.inl hx)
  · refine ⟨hok, _, _, ([] ++ p) ++ [], ⟨[] ++ p, [], Go.ChangeShapes.trodAll_append (hargs _ (fun _ _ => rfl)) (hres _ _ _), hvs _, rfl, ?_, ?_⟩, ?_⟩
    · intro b off hx
      have hx' : MemPlace.cell b off ∈ before := by rw [hbp]; simpa using hx
      have := hfz b off hx'
      have hbl := hlt _ hx'
      have e : W'.frozen? ⟨b, off, none⟩ = W.frozen? ⟨b, off, none⟩ := by unfold World.frozen?; rw [hkeep b hbl]
      rw [e]; exact this
    · intro ha
      have := hnd ha
      rw [hbp] at this
      simpa using this
    · intro x hx _
      rw [hbp]
      simpa using hx
theorem law_calls {f : FuncId} {fn : Func} {s : ChangeSpec} {apart fresh handsOn again : Bool} {W : World} {base : Nat} {args : Array Value} {ds : List (DataW H)} {before : List MemPlace} {b : TypeId} {shs : List Sh} {h2 : Heap}
    (kids : Kids P (· < P.types.size)) (full : ∀ t e, t < P.types.size → P.underlying t = some (.slice e) → 0 < P.cellsOf e)
    (hts : (fn.params.toList.all fun t => decide (t < P.types.size)) = true) (hvars : s.vars = []) (hb : P.underlying b = some .bool) (hrt : fn.resultTypes = #[b])
    (hfn : s.fn H (ds ++ []) = { results := [.lit (.bool true)], args := ds })
    (hsh : shsOk P shs fn.params.toList = true)
    (hval : ∀ (j : Nat) (t : TypeId) (v : Value), fn.params[j]? = some t → args[j]? = some v → Value.okWide P W .any base t v)
    (hW : DataW.Whole enc P fn.params.toList s.vars apart W args.toList ds [] before)
    (hal : Alone P f (argsA shs ds) (.val (.bool true)) h2) :
    Calls P f args W fun e W' => ∃ v, e = .returned v ∧ s.post enc P fn apart fresh handsOn again W args v W' := by
  obtain ⟨p, q, hA, _⟩ := id hW
  have hv : VRs W (Cx.lent W) (argsA shs ds) args.toList := args_read (c := Cx.lent W) (fun b hb => hb) hsh (fun j t v h1 h2 => hval j t v (by simpa using h1) (by simpa using h2)) hA
  have hr : HR W (Cx.lent W) heap0.G := ⟨fun id b hb => by simp [Heap.G, heap0] at hb, fun id b hb => by simp [Heap.G, heap0] at hb, fun i j b b' hb => by simp [Heap.G, heap0] at hb, fun b hb => ⟨fun q => q, hb⟩⟩
  have := callsIn_wide.1 (hal.2 W (Cx.lent W) args.toList hr hv (fun _ q => q))
  rw [show args.toList.toArray = args from by simp] at this
  refine this.mono ?_
  rintro e W' ⟨v', rfl, c', k1, k2, k3, k4⟩
  have := k1.val_inv
  subst this
  exact ⟨_, rfl, law_post kids full (fun t ht => by simpa using List.all_eq_true.1 hts t ht) hvars hb hrt hfn hW (fun i hi => k2.keep i hi (fun q => q)) k2.os k2.output⟩
end
end Go.Ev
