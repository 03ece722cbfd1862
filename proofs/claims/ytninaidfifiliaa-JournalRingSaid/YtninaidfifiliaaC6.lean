/- The evaluator, its soundness and the walks: part 6. -/
import Derived.ReadAgain
import Derived.JoinedCond
import Derived.ChangeArms
import Derived.ChangeSame
import Derived.Test.YtninaidfifiliaaC5
set_option linter.unusedSimpArgs false
set_option linter.unusedVariables false
set_option linter.unusedSectionVars false
/- journal.words: the bytes of words. -/
set_option linter.unusedVariables false
set_option maxRecDepth 100000
namespace Go.Ev
open Go.Proofs
noncomputable section
def Try.E92 : Env := Try.env0 false (sumsOf []) (keepF 92 [(3, [3,6,7,8])])
def Try.b92 : Code := nthD .skip (loopsOf (bodyOf Try.E92 92)) 0
def Try.B92 (s : St) : Option (AX × St) := codeS Try.E92 (callF Try.E92 3) (Try.E92.keep 92) (lsumsOf []) Try.b92 (outK [3,6,7,8] [3]) s
def Try.V92 (v : AV) (l : List Int) (cap : Option Nat) (k : Nat) : List AV := [v, .ro (.ints .i64 l) cap, .val (.int .i64 l.length), .val (.int .i64 k)]
def w4 (x : Int) : List Int := [IntKind.u8.wrap x, IntKind.u8.wrap (x.fdiv 256), IntKind.u8.wrap (x.fdiv 65536), IntKind.u8.wrap (x.fdiv 16777216)]
def wordsB (l : List Int) : List Int := l.flatMap w4
def Try.f92L (vs : List AV) (h : Heap) : Ans (AX × List AV × Heap) := match vs, h with
  | [.val (.slice none 0 0), .ro (.ints .i64 l) cap, .val (.int .i64 n), .val (.int .i64 (.ofNat 0))], ⟨0, []⟩ => .grd (n == (l.length : Int) && Nat.ble l.length 1000000) (.out (.exit 0, [slB (wordsB l)], slH (wordsB l)))
  | _, _ => .no
def Try.L92 : LSum := toLSum 28 [3,6,7,8] [3] Try.f92L
def Try.S92 (args : List AV) : Ans (AV × Heap) := match args with
  | [.ro (.ints .i64 l) cap] => .grd (Nat.ble l.length 1000000) (.out (slB (wordsB l), slH (wordsB l)))
  | _ => .no
end
theorem Try.r92a (l : List Int) (cap : Option Nat) (k : Nat) : Try.B92 (stOf 28 [3,6,7,8] (Try.V92 (.val (.slice none 0 0)) l cap k) ⟨0, []⟩) =
      bif decide ((↑k : Int) < (↑l.length : Int)) then
       bif inR (↑k : Int) l.length then
        some (.normal, stOf 28 [3, 6, 7, 8] [.own 0 (0) (4) none 1, .ro (.ints .i64 (l)) (cap), .val (.int .i64 ((↑l.length : Int))), .val (.int .i64 (IntKind.i64.wrap ((↑k : Int) + 1)))] ⟨1, [⟨0, 0, .cells (.ints .u8 ([IntKind.u8.wrap (l.getD k 0), IntKind.u8.wrap ((l.getD k 0).fdiv 256), IntKind.u8.wrap ((l.getD k 0).fdiv 65536), IntKind.u8.wrap ((l.getD k 0).fdiv 16777216)]))⟩]⟩ )
       else
        none
      else
       some (.exit 0, stOf 28 [3] [.val (.slice none 0 0)] ⟨0, []⟩ ) := by kernel_rfl
theorem Try.r92b (l o : List Int) (cap : Option Nat) (k : Nat) : Try.B92 (stOf 28 [3,6,7,8] (Try.V92 (.own 0 0 o.length none 1) l cap k) (oneH (.ints .u8 o))) =
      bif decide ((↑k : Int) < (↑l.length : Int)) then
       bif inR (↑k : Int) l.length then
        bif (0 + o.length).ble o.length then
         bif ((o.length + 4) * 1).ble most && (o.length + 4).ble most then
          some (.normal, stOf 28 [3, 6, 7, 8] [.own 0 (0) (o.length + 4) none 1, .ro (.ints .i64 (l)) (cap), .val (.int .i64 ((↑l.length : Int))), .val (.int .i64 (IntKind.i64.wrap ((↑k : Int) + 1)))] ⟨1, [⟨0, 0, .cells (.ints .u8 (List.take o.length (List.drop 0 o) ++ [IntKind.u8.wrap (l.getD k 0), IntKind.u8.wrap ((l.getD k 0).fdiv 256), IntKind.u8.wrap ((l.getD k 0).fdiv 65536), IntKind.u8.wrap ((l.getD k 0).fdiv 16777216)]))⟩]⟩ )
         else
          none
        else
         none
       else
        none
      else
       some (.exit 0, stOf 28 [3] [.own 0 (0) (o.length) none 1] ⟨1, [⟨0, 0, .cells (.ints .u8 (o))⟩]⟩ ) := by kernel_rfl
theorem Try.s92 (l o : List Int) (cap : Option Nat) (k : Nat) (ho : o.length ≤ 8000000) (hk : k ≤ 1000000) : Try.B92 (stOf 28 [3,6,7,8] (Try.V92 (slB o) l cap k) (slH o)) =
    if k < l.length then some (.normal, stOf 28 [3,6,7,8] (Try.V92 (slB (o ++ w4 (l.getD k 0))) l cap (k + 1)) (slH (o ++ w4 (l.getD k 0)))) else some (.exit 0, stOf 28 [3] [slB o] (slH o)) := by
  cases o with
  | nil =>
    refine (Try.r92a l cap k).trans ?_
    rw [declt_nat, inR_nat]
    by_cases h : k < l.length
    · rw [decide_eq_true h, if_pos h, wrapS k (by omega)]; rfl
    · rw [decide_eq_false h, if_neg h]; rfl
  | cons a o =>
    refine (Try.r92b l (a :: o) cap k).trans ?_
    rw [declt_nat, inR_nat, Nat.zero_add, ble_t (Nat.le_refl _), List.drop_zero, List.take_length, ble_t (by rw [most_eq]; omega), ble_t (by rw [most_eq]; omega)]
    by_cases h : k < l.length
    · rw [decide_eq_true h, if_pos h, wrapS k (by omega)]
      have : (a :: o).length + 4 = ((a :: o) ++ w4 (l.getD k 0)).length := by simp [w4]
      rw [this]; rfl
    · rw [decide_eq_false h, if_neg h]; rfl
theorem Try.e92 : EnvOk2 Try.prog Try.E92 := Try.envOk false (sumsOf []) _ (fun g A h => by cases h)
theorem Try.l92 : ∀ s e s', s.h.ok → (Try.L92 s).run = some (e, s') → Triple Try.prog (.loop Try.b92) s e s' := by
  refine loop_law Try.e92 (d := 3) (g := 92) (ls := lsumsOf []) (c := Try.b92) trivial 28 [3,6,7,8] [3] (T := List Int × Option Nat × Nat)
    (fun x => Try.V92 (slB (wordsB (x.1.take x.2.2))) x.1 x.2.1 x.2.2) (fun x => slH (wordsB (x.1.take x.2.2))) (fun x => x.1.length ≤ 1000000 ∧ x.2.2 ≤ x.1.length) (fun x => x.1.length - x.2.2)
    (fun x => (.exit 0, [slB (wordsB x.1)], slH (wordsB x.1))) Try.f92L ?_ (fun x _ => slH_ok _) ?_
  · intro vs h e vo h' hf
    unfold Try.f92L at hf
    split at hf
    · rename_i l cap n
      rw [Ans.grd, Ans.run_br] at hf
      cases hb : (n == (l.length : Int) && Nat.ble l.length 1000000) with
      | false => rw [hb] at hf; cases hf
      | true =>
        rw [hb, cond_true] at hf
        rw [Bool.and_eq_true, beq_iff_eq, Nat.ble_eq] at hb
        injection hf with hf
        refine ⟨(l, cap, 0), ⟨hb.2, Nat.zero_le _⟩, ?_, rfl, hf⟩
        rw [hb.1]; rfl
    · cases hf
  · rintro ⟨l, cap, k⟩ ⟨hl, hk⟩
    have hlen : ∀ m : List Int, (wordsB m).length = 4 * m.length := by
      intro m
      induction m with
      | nil => rfl
      | cons a m ih => show (w4 a ++ wordsB m).length = _; rw [List.length_append, ih]; simp [w4]; omega
    simp only at hl hk
    have key := Try.s92 l (wordsB (l.take k)) cap k (by rw [hlen, List.length_take]; omega) (by omega)
    by_cases h : k < l.length
    · rw [if_pos h] at key
      have e : wordsB (l.take k) ++ w4 (l.getD k 0) = wordsB (l.take (k + 1)) := by
        unfold wordsB
        rw [List.take_add_one, List.flatMap_append, List.getD_eq_getElem?_getD, List.getElem?_eq_getElem h, Option.toList_some, List.flatMap_singleton]
        rfl
      rw [e] at key
      exact .inl ⟨(l, cap, k + 1), key, ⟨hl, h⟩, by show l.length - (k + 1) < l.length - k; omega, rfl⟩
    · rw [if_neg h] at key
      have : k = l.length := by omega
      subst this
      rw [List.take_length] at key
      refine .inr ⟨?_, by simp⟩
      rw [← List.take_length (l := l)] at key
      simp only [List.take_length] at key ⊢
      exact key
theorem Try.w92a (l : List Int) (cap : Option Nat) (a : Int) : rootS Try.E92 3 92 (lsumsOf [(3, Try.L92)]) [.ro (.ints .i64 (a :: l)) cap] =
      bif (↑(a :: l).length : Int) == (↑(a :: l).length : Int) && (a :: l).length.ble 1000000 then
       some (.own 0 (0) ((wordsB (a :: l)).length) none 1, ⟨1, [⟨0, 0, .cells (.ints .u8 (wordsB (a :: l)))⟩]⟩)
      else
       none := by kernel_rfl
theorem Try.w92b (cap : Option Nat) : rootS Try.E92 3 92 (lsumsOf [(3, Try.L92)]) [.ro (.ints .i64 []) cap] =
      some (.val (.slice none 0 0), ⟨0, []⟩) := by kernel_rfl
theorem Try.sum92 : SumC Try.prog 92 (pureA (fun args => Try.S92 (nzs [.ints .i64 []] args))) := by
  refine pureSumN Try.e92 (d := 3) (ls := lsumsOf [(3, Try.L92)]) (AllL.of1 (a := Try.b92) (by kernel_rfl) (LsOk.of rfl rfl Try.l92)) _ (by simp [Con.len]) rfl rfl ?_
  intro args v h2 hs
  unfold Try.S92 at hs
  split at hs
  · rename_i l cap
    rw [Ans.grd, Ans.run_br] at hs
    cases hb : Nat.ble l.length 1000000 with
    | false => rw [hb] at hs; cases hs
    | true =>
      rw [hb] at hs
      rw [← hs]
      cases l with
      | nil => exact (Try.w92b cap).trans rfl
      | cons a l => 
        refine (Try.w92a l cap a).trans ?_
        rw [hb]
        rw [show ((↑(a :: l).length : Int) == (↑(a :: l).length : Int)) = true from beq_self_eq_true _]
        rfl
  · cases hs
end Go.Ev

/- Functions without loops: entries. -/
set_option linter.unusedVariables false
set_option maxRecDepth 100000
namespace Go.Ev
open Go.Proofs
noncomputable section
def Try.E1 : Env := Try.env0 false (sumsOf []) (keepF 0 [])
def Try.ent (k a b c : Int) (v : AV) : AV := .agg [.val (.int .i64 k), .val (.int .i64 a), .val (.int .i64 b), .val (.int .i64 c), v]
def turnB (a b c : Int) : Bool := decide (a ≥ 0) && (decide (a < 8) && (decide (b ≥ 0) && (decide (b ≤ 200000) && (decide (c ≥ 0) && decide (c ≤ 8)))))
def zeroB (a b c : Int) : Bool := a == 0 && (b == 0 && (c == 0 && true))
def entB (k a b c : Int) (n : Nat) : Bool := bif k == 2 then ((n : Int) == 0) && turnB a b c else ((k == 1 || (k == 3 || k == 4)) && (zeroB a b c && decide ((n : Int) < 20000)))
def eqS (l m : List Int) : Bool := (strOf l).toList == (strOf m).toList
def sameB (k a b c k' a' b' c' : Int) (l l' : List Int) : Bool := k == k' && ((a == a' && (b == b' && (c == c' && true))) && eqS l l')
def Try.nzE : List Con := [.ints .u8 [], .ints .u8 []]
def Try.S55 (args : List AV) : Ans (AV × Heap) := match args with
  | [.agg [.val (.int .i64 k), .val (.int .i64 a), .val (.int .i64 b), .val (.int .i64 c), .ro (.ints .u8 l) cap]] => .out (.val (.bool (entB k a b c l.length)), ⟨0, []⟩)
  | _ => .no
def Try.S17 (args : List AV) : Ans (AV × Heap) := match args with
  | [.ro (.ints .u8 l) cap, .ro (.ints .u8 m) cap'] => .out (.val (.bool (eqS l m)), ⟨0, []⟩)
  | _ => .no
def Try.S18 (args : List AV) : Ans (AV × Heap) := match args with
  | [.agg [.val (.int .i64 k), .val (.int .i64 a), .val (.int .i64 b), .val (.int .i64 c), .ro (.ints .u8 l) cap], .agg [.val (.int .i64 k'), .val (.int .i64 a'), .val (.int .i64 b'), .val (.int .i64 c'), .ro (.ints .u8 l') cap']] => .out (.val (.bool (sameB k a b c k' a' b' c' l l')), ⟨0, []⟩)
  | _ => .no
def Try.S59 (args : List AV) : Ans (AV × Heap) := match args with
  | [.ro (.ints .u8 l) cap] => .grd (Nat.ble l.length 1000000) (.out (.own 0 0 l.length none 1, oneH (.ints .u8 l)))
  | _ => .no
end
theorem Try.e1 : EnvOk2 Try.prog Try.E1 := Try.envOk false (sumsOf []) _ (fun g A h => by cases h)
theorem Try.r55 (k a b c : Int) (l : List Int) (cap : Option Nat) : rootS Try.E1 3 55 (lsumsOf []) [Try.ent k a b c (.ro (.ints .u8 l) cap)] =
      bif k == 2 then
       bif (↑l.length : Int) == 0 then
        bif decide (a ≥ 0) then
         bif decide (a < 8) then
          bif decide (b ≥ 0) then
           bif decide (b ≤ 200000) then
            bif decide (c ≥ 0) then
             bif decide (c ≤ 8) then
              some (.val (.bool true), ⟨0, []⟩)
             else
              some (.val (.bool false), ⟨0, []⟩)
            else
             some (.val (.bool false), ⟨0, []⟩)
           else
            some (.val (.bool false), ⟨0, []⟩)
          else
           some (.val (.bool false), ⟨0, []⟩)
         else
          some (.val (.bool false), ⟨0, []⟩)
        else
         some (.val (.bool false), ⟨0, []⟩)
       else
        some (.val (.bool false), ⟨0, []⟩)
      else
       bif k == 1 then
        bif a == 0 && (b == 0 && (c == 0 && true)) then
         bif decide ((↑l.length : Int) < 20000) then
          some (.val (.bool true), ⟨0, []⟩)
         else
          some (.val (.bool false), ⟨0, []⟩)
        else
         some (.val (.bool false), ⟨0, []⟩)
       else
        bif k == 3 then
         bif a == 0 && (b == 0 && (c == 0 && true)) then
          bif decide ((↑l.length : Int) < 20000) then
           some (.val (.bool true), ⟨0, []⟩)
          else
           some (.val (.bool false), ⟨0, []⟩)
         else
          some (.val (.bool false), ⟨0, []⟩)
        else
         bif k == 4 then
          bif a == 0 && (b == 0 && (c == 0 && true)) then
           bif decide ((↑l.length : Int) < 20000) then
            some (.val (.bool true), ⟨0, []⟩)
           else
            some (.val (.bool false), ⟨0, []⟩)
          else
           some (.val (.bool false), ⟨0, []⟩)
         else
          some (.val (.bool false), ⟨0, []⟩) := by kernel_rfl
theorem Try.r57 (k a b c : Int) (l : List Int) (cap : Option Nat) : rootS Try.E1 3 57 (lsumsOf []) [Try.ent k a b c (.ro (.ints .u8 l) cap)] =
      bif k == 2 then
       bif decide (a ≥ 0) then
        bif decide (a < 8) then
         bif decide (b ≥ 0) then
          bif decide (b ≤ 200000) then
           bif decide (c ≥ 0) then
            bif decide (c ≤ 8) then
             bif (↑l.length : Int) == 0 then
              some (.val (.bool true), ⟨0, []⟩)
             else
              some (.val (.bool false), ⟨0, []⟩)
            else
             some (.val (.bool false), ⟨0, []⟩)
           else
            some (.val (.bool false), ⟨0, []⟩)
          else
           some (.val (.bool false), ⟨0, []⟩)
         else
          some (.val (.bool false), ⟨0, []⟩)
        else
         some (.val (.bool false), ⟨0, []⟩)
       else
        some (.val (.bool false), ⟨0, []⟩)
      else
       bif k == 1 then
        bif a == 0 && (b == 0 && (c == 0 && true)) then
         bif decide ((↑l.length : Int) < 20000) then
          some (.val (.bool true), ⟨0, []⟩)
         else
          some (.val (.bool false), ⟨0, []⟩)
        else
         some (.val (.bool false), ⟨0, []⟩)
       else
        bif k == 3 then
         bif a == 0 && (b == 0 && (c == 0 && true)) then
          bif decide ((↑l.length : Int) < 20000) then
           some (.val (.bool true), ⟨0, []⟩)
          else
           some (.val (.bool false), ⟨0, []⟩)
         else
          some (.val (.bool false), ⟨0, []⟩)
        else
         bif k == 4 then
          bif a == 0 && (b == 0 && (c == 0 && true)) then
           bif decide ((↑l.length : Int) < 20000) then
            some (.val (.bool true), ⟨0, []⟩)
           else
            some (.val (.bool false), ⟨0, []⟩)
          else
           some (.val (.bool false), ⟨0, []⟩)
         else
          some (.val (.bool false), ⟨0, []⟩) := by kernel_rfl
theorem Try.r17 (l m : List Int) (cap cap' : Option Nat) : rootS Try.E1 3 17 (lsumsOf []) [.ro (.ints .u8 l) cap, .ro (.ints .u8 m) cap'] =
      bif (strOf l).toList == (strOf m).toList then
       some (.val (.bool true), ⟨0, []⟩)
      else
       some (.val (.bool false), ⟨0, []⟩) := by kernel_rfl
theorem Try.r18 (k a b c k' a' b' c' : Int) (l l' : List Int) (cap cap' : Option Nat) : rootS Try.E1 3 18 (lsumsOf []) [Try.ent k a b c (.ro (.ints .u8 l) cap), Try.ent k' a' b' c' (.ro (.ints .u8 l') cap')] =
      bif k == k' then
       bif a == a' && (b == b' && (c == c' && true)) then
        bif (strOf l).toList == (strOf l').toList then
         some (.val (.bool true), ⟨0, []⟩)
        else
         some (.val (.bool false), ⟨0, []⟩)
       else
        some (.val (.bool false), ⟨0, []⟩)
      else
       some (.val (.bool false), ⟨0, []⟩) := by kernel_rfl
theorem Try.r59a (x : Int) (l : List Int) (cap : Option Nat) : rootS Try.E1 3 59 (lsumsOf []) [.ro (.ints .u8 (x :: l)) cap] =
      bif ((0 + (x :: l).length) * 1).ble most && (0 + (x :: l).length).ble most then
       some (.own 0 (0) (0 + (x :: l).length) none 1, ⟨1, [⟨0, 0, .cells (.ints .u8 ([] ++ x :: l))⟩]⟩)
      else
       none := by kernel_rfl
theorem Try.r59b (m : Nat) : rootS Try.E1 3 59 (lsumsOf []) [.val (.slice none 0 m)] =
      some (.val (.slice none 0 0), ⟨0, []⟩) := by kernel_rfl
theorem Try.r59c (p : Addr) (m : Nat) : rootS Try.E1 3 59 (lsumsOf []) [.val (.slice (some p) 0 m)] =
      some (.own 0 (0) (0) none 1, ⟨1, [⟨0, 0, .cells (.ints .u8 ([]))⟩]⟩) := by kernel_rfl
theorem Try.sum55 : SumC Try.prog 55 (pureA (fun args => Try.S55 (nzs Try.nzE args))) := by
  refine pureSumN Try.e1 (d := 3) (ls := lsumsOf []) (AllL.of0 (by kernel_rfl)) _ (by simp [Try.nzE, Con.len]) rfl rfl ?_
  intro args v h2 hs
  unfold Try.S55 at hs
  split at hs
  · rename_i k a b c l cap
    rw [← hs]
    refine (Try.r55 k a b c l cap).trans ?_
    show _ = some (AV.val (.bool (entB k a b c l.length)), _)
    rw [boolOut (entB k a b c l.length)]
    simp only [entB, turnB, zeroB, cond_andB, cond_orB, cond_condB]
  · cases hs
theorem Try.sum57 : SumC Try.prog 57 (pureA (fun args => Try.S55 (nzs Try.nzE args))) := by
  refine pureSumN Try.e1 (d := 3) (ls := lsumsOf []) (AllL.of0 (by kernel_rfl)) _ (by simp [Try.nzE, Con.len]) rfl rfl ?_
  intro args v h2 hs
  unfold Try.S55 at hs
  split at hs
  · rename_i k a b c l cap
    rw [← hs]
    refine (Try.r57 k a b c l cap).trans ?_
    show _ = some (AV.val (.bool (entB k a b c l.length)), _)
    rw [boolOut (entB k a b c l.length)]
    simp only [entB, turnB, zeroB, cond_andB, cond_orB, cond_condB]
    generalize ((l.length : Int) == 0) = q
    cases q <;> simp [cond_sameB]
  · cases hs
theorem Try.sum17 : SumC Try.prog 17 (pureA (fun args => Try.S17 (nzs Try.nzE args))) := by
  refine pureSumN Try.e1 (d := 3) (ls := lsumsOf []) (AllL.of0 (by kernel_rfl)) _ (by simp [Try.nzE, Con.len]) rfl rfl ?_
  intro args v h2 hs
  unfold Try.S17 at hs
  split at hs
  · rename_i l cap m cap'
    rw [← hs]
    refine (Try.r17 l m cap cap').trans ?_
    exact (boolOut _ _).symm
  · cases hs
theorem Try.sum18 : SumC Try.prog 18 (pureA (fun args => Try.S18 (nzs Try.nzE args))) := by
  refine pureSumN Try.e1 (d := 3) (ls := lsumsOf []) (AllL.of0 (by kernel_rfl)) _ (by simp [Try.nzE, Con.len]) rfl rfl ?_
  intro args v h2 hs
  unfold Try.S18 at hs
  split at hs
  · rename_i k a b c l cap k' a' b' c' l' cap'
    rw [← hs]
    refine (Try.r18 k a b c k' a' b' c' l l' cap cap').trans ?_
    show _ = some (AV.val (.bool (sameB k a b c k' a' b' c' l l')), _)
    rw [boolOut (sameB k a b c k' a' b' c' l l')]
    unfold sameB eqS
    simp only [cond_andB]
  · cases hs
theorem Try.sum59 : SumC Try.prog 59 (pureA (fun args => Try.S59 (nzs Try.nzE args))) := by
  refine pureSumR 59 ⟨Try.f59, _, Try.fnOk59.1, Try.fnOk59.2, rfl⟩ ?_
  intro args v h2 hs
  refine Alone.nz (cs := Try.nzE) (by simp [Try.nzE, Con.len]) ?_
  replace hs : (Try.S59 (nzs Try.nzE args)).run = some (v, h2) := hs
  generalize nzs Try.nzE args = args' at hs ⊢
  unfold Try.S59 at hs
  split at hs
  · rename_i l cap
    rw [Ans.grd, Ans.run_br] at hs
    cases hb : Nat.ble l.length 1000000 with
    | false => rw [hb] at hs; cases hs
    | true =>
      rw [hb] at hs
      rw [Nat.ble_eq] at hb
      injection hs with hs
      injection hs with q1 q2
      subst q1; subst q2
      have run := fun args v h2 => rootS_alone Try.e1 (d := 3) (g := 59) (ls := lsumsOf []) (AllL.of0 (by kernel_rfl)) (args := args) (v := v) (h2 := h2)
      refine clone_alone (.ints .u8 l) cap ?_ ?_ ?_
      · intro hl
        cases l with
        | nil => cases hl
        | cons x l =>
          refine run _ _ _ ((Try.r59a x l cap).trans ?_)
          rw [Nat.zero_add, Nat.mul_one, ble_t (by rw [most_eq]; omega)]; rfl
      · intro _ m; exact ⟨_, run _ _ _ (Try.r59b m)⟩
      · intro h0 p m
        have : l = [] := List.length_eq_zero_iff.1 h0
        subst this
        exact run _ _ _ (Try.r59c p m)
  · cases hs
end Go.Ev

/- Words out of bytes. -/
set_option linter.unusedVariables false
set_option maxRecDepth 100000
namespace Go.Ev
open Go.Proofs
noncomputable section
def bytesOk (l : List Int) : Bool := l.all fun x => decide (0 ≤ x) && decide (x < 256)
def wdB (l : List Int) (k : Nat) : Int := l.getD k 0 + l.getD (k + 1) 0 * 256 + l.getD (k + 2) 0 * 65536 + l.getD (k + 3) 0 * 16777216
def Try.S60 (args : List AV) : Ans (AV × Heap) := match args with
  | [.ro (.ints .u8 l) cap, .val (.int .i64 (.ofNat k))] => .grd (bytesOk l && (Nat.ble (k + 4) l.length && Nat.ble k 1000000000)) (.out (.val (.int .i64 (wdB l k)), ⟨0, []⟩))
  | _ => .no
end
theorem bytesOk_get {l : List Int} (h : bytesOk l = true) (i : Nat) : 0 ≤ l.getD i 0 ∧ l.getD i 0 < 256 := by
  unfold bytesOk at h
  rw [List.getD_eq_getElem?_getD]
  cases hi : l[i]? with
  | none => simp
  | some x =>
    have := (List.all_eq_true.1 h) x (List.mem_of_getElem? hi)
    simpa using this
theorem or64 (i : Nat) (x y : Int) (hy0 : 0 ≤ y) (hy : y % 2 ^ i = 0) (hy1 : y < 2 ^ 62) (hx0 : 0 ≤ x) (hx : x < 2 ^ i) (hx1 : x < 2 ^ 62) : IntKind.i64.wrap ((BitVec.ofInt 64 x ||| BitVec.ofInt 64 y).toNat : Int) = x + y := by
  rw [BitVec.or_comm, Int.add_comm]
  exact bits_join .i64 62 (by decide) (fun n h0 h1 => wrap64 n (by omega) (by omega)) i y x hy0 hy hy1 hx0 hx hx1
theorem Try.r60 (l : List Int) (cap : Option Nat) (k : Nat) : rootS Try.E1 3 60 (lsumsOf []) [.ro (.ints .u8 l) cap, .val (.int .i64 (Int.ofNat k))] =
      bif inR (Int.ofNat k) l.length then
       bif inR (IntKind.i64.wrap (Int.ofNat k + 1)) l.length then
        bif inR (IntKind.i64.wrap (Int.ofNat k + 2)) l.length then
         bif inR (IntKind.i64.wrap (Int.ofNat k + 3)) l.length then
          some (.val (.int .i64 (IntKind.i64.wrap (↑(BitVec.ofInt 64 (IntKind.i64.wrap (↑(BitVec.ofInt 64 (IntKind.i64.wrap (↑(BitVec.ofInt 64 (IntKind.i64.wrap (l.getD k 0)) ||| BitVec.ofInt 64 (IntKind.i64.wrap (IntKind.i64.wrap (l.getD (IntKind.i64.wrap (Int.ofNat k + 1)).toNat 0) * 256))).toNat : Int)) ||| BitVec.ofInt 64 (IntKind.i64.wrap (IntKind.i64.wrap (l.getD (IntKind.i64.wrap (Int.ofNat k + 2)).toNat 0) * 65536))).toNat : Int)) ||| BitVec.ofInt 64 (IntKind.i64.wrap (IntKind.i64.wrap (l.getD (IntKind.i64.wrap (Int.ofNat k + 3)).toNat 0) * 16777216))).toNat : Int))), ⟨0, []⟩)
         else
          none
        else
         none
       else
        none
      else
       none := by kernel_rfl
theorem Try.r61 (l : List Int) (cap : Option Nat) (k : Nat) : rootS Try.E1 3 61 (lsumsOf []) [.ro (.ints .u8 l) cap, .val (.int .i64 (Int.ofNat k))] =
      bif inR (Int.ofNat k) l.length then
       bif inR (IntKind.i64.wrap (Int.ofNat k + 1)) l.length then
        bif inR (IntKind.i64.wrap (Int.ofNat k + 2)) l.length then
         bif inR (IntKind.i64.wrap (Int.ofNat k + 3)) l.length then
          some (.val (.int .i64 (IntKind.i64.wrap (IntKind.i64.wrap (IntKind.i64.wrap (IntKind.i64.wrap (l.getD k 0) + IntKind.i64.wrap (IntKind.i64.wrap (l.getD (IntKind.i64.wrap (Int.ofNat k + 1)).toNat 0) * 256)) + IntKind.i64.wrap (IntKind.i64.wrap (l.getD (IntKind.i64.wrap (Int.ofNat k + 2)).toNat 0) * 65536)) + IntKind.i64.wrap (IntKind.i64.wrap (l.getD (IntKind.i64.wrap (Int.ofNat k + 3)).toNat 0) * 16777216)))), ⟨0, []⟩)
         else
          none
        else
         none
       else
        none
      else
       none := by kernel_rfl
theorem Try.sum60 : SumC Try.prog 60 (pureA (fun args => Try.S60 (nzs Try.nzE args))) := by
  refine pureSumN Try.e1 (d := 3) (ls := lsumsOf []) (AllL.of0 (by kernel_rfl)) _ (by simp [Try.nzE, Con.len]) rfl rfl ?_
  intro args v h2 hs
  unfold Try.S60 at hs
  split at hs
  · rename_i l cap k
    rw [Ans.run_grd] at hs
    cases hb : (bytesOk l && (Nat.ble (k + 4) l.length && Nat.ble k 1000000000)) with
    | false => rw [hb] at hs; cases hs
    | true =>
      rw [hb] at hs
      rw [Bool.and_eq_true, Bool.and_eq_true, Nat.ble_eq, Nat.ble_eq] at hb
      obtain ⟨h0, h1, h2⟩ := hb
      rw [← hs]
      refine (Try.r60 l cap k).trans ?_
      have b0 := bytesOk_get h0 k
      have b1 := bytesOk_get h0 (k + 1)
      have b2 := bytesOk_get h0 (k + 2)
      have b3 := bytesOk_get h0 (k + 3)
      have e1 : IntKind.i64.wrap (Int.ofNat k + 1) = ((k + 1 : Nat) : Int) := by rw [wrap64 _ (by simp; omega) (by simp; omega)]; simp
      have e2 : IntKind.i64.wrap (Int.ofNat k + 2) = ((k + 2 : Nat) : Int) := by rw [wrap64 _ (by simp; omega) (by simp; omega)]; simp
      have e3 : IntKind.i64.wrap (Int.ofNat k + 3) = ((k + 3 : Nat) : Int) := by rw [wrap64 _ (by simp; omega) (by simp; omega)]; simp
      have e0 : (Int.ofNat k) = (k : Int) := rfl
      simp only [e1, e2, e3]
      simp only [e0, inR_nat, decide_eq_true (show k < l.length by omega), decide_eq_true (show k + 1 < l.length by omega), decide_eq_true (show k + 2 < l.length by omega), decide_eq_true (show k + 3 < l.length by omega), cond_true', Int.toNat_natCast]
      rw [wrap64 (l.getD k 0) (by omega) (by omega), wrap64 (l.getD (k + 1) 0) (by omega) (by omega), wrap64 (l.getD (k + 2) 0) (by omega) (by omega), wrap64 (l.getD (k + 3) 0) (by omega) (by omega)]
      rw [wrap64 (l.getD (k + 1) 0 * 256) (by omega) (by omega), wrap64 (l.getD (k + 2) 0 * 65536) (by omega) (by omega), wrap64 (l.getD (k + 3) 0 * 16777216) (by omega) (by omega)]
      rw [or64 8 (l.getD k 0) (l.getD (k + 1) 0 * 256) (by omega) (by omega) (by omega) (by omega) (by omega) (by omega)]
      rw [or64 16 (l.getD k 0 + l.getD (k + 1) 0 * 256) (l.getD (k + 2) 0 * 65536) (by omega) (by omega) (by omega) (by omega) (by omega) (by omega)]
      rw [or64 24 (l.getD k 0 + l.getD (k + 1) 0 * 256 + l.getD (k + 2) 0 * 65536) (l.getD (k + 3) 0 * 16777216) (by omega) (by omega) (by omega) (by omega) (by omega) (by omega)]
      rfl
  · cases hs
theorem Try.sum61 : SumC Try.prog 61 (pureA (fun args => Try.S60 (nzs Try.nzE args))) := by
  refine pureSumN Try.e1 (d := 3) (ls := lsumsOf []) (AllL.of0 (by kernel_rfl)) _ (by simp [Try.nzE, Con.len]) rfl rfl ?_
  intro args v h2 hs
  unfold Try.S60 at hs
  split at hs
  · rename_i l cap k
    rw [Ans.run_grd] at hs
    cases hb : (bytesOk l && (Nat.ble (k + 4) l.length && Nat.ble k 1000000000)) with
    | false => rw [hb] at hs; cases hs
    | true =>
      rw [hb] at hs
      rw [Bool.and_eq_true, Bool.and_eq_true, Nat.ble_eq, Nat.ble_eq] at hb
      obtain ⟨h0, h1, h2⟩ := hb
      rw [← hs]
      refine (Try.r61 l cap k).trans ?_
      have b0 := bytesOk_get h0 k
      have b1 := bytesOk_get h0 (k + 1)
      have b2 := bytesOk_get h0 (k + 2)
      have b3 := bytesOk_get h0 (k + 3)
      have e1 : IntKind.i64.wrap (Int.ofNat k + 1) = ((k + 1 : Nat) : Int) := by rw [wrap64 _ (by simp; omega) (by simp; omega)]; simp
      have e2 : IntKind.i64.wrap (Int.ofNat k + 2) = ((k + 2 : Nat) : Int) := by rw [wrap64 _ (by simp; omega) (by simp; omega)]; simp
      have e3 : IntKind.i64.wrap (Int.ofNat k + 3) = ((k + 3 : Nat) : Int) := by rw [wrap64 _ (by simp; omega) (by simp; omega)]; simp
      have e0 : (Int.ofNat k) = (k : Int) := rfl
      simp only [e1, e2, e3]
      simp only [e0, inR_nat, decide_eq_true (show k < l.length by omega), decide_eq_true (show k + 1 < l.length by omega), decide_eq_true (show k + 2 < l.length by omega), decide_eq_true (show k + 3 < l.length by omega), cond_true', Int.toNat_natCast]
      rw [wrap64 (l.getD k 0) (by omega) (by omega), wrap64 (l.getD (k + 1) 0) (by omega) (by omega), wrap64 (l.getD (k + 2) 0) (by omega) (by omega), wrap64 (l.getD (k + 3) 0) (by omega) (by omega)]
      rw [wrap64 (l.getD (k + 1) 0 * 256) (by omega) (by omega), wrap64 (l.getD (k + 2) 0 * 65536) (by omega) (by omega), wrap64 (l.getD (k + 3) 0 * 16777216) (by omega) (by omega)]
      rw [wrap64 (l.getD k 0 + l.getD (k + 1) 0 * 256) (by omega) (by omega), wrap64 (l.getD k 0 + l.getD (k + 1) 0 * 256 + l.getD (k + 2) 0 * 65536) (by omega) (by omega), wrap64 (l.getD k 0 + l.getD (k + 1) 0 * 256 + l.getD (k + 2) 0 * 65536 + l.getD (k + 3) 0 * 16777216) (by omega) (by omega)]
      rfl
  · cases hs
end Go.Ev

/- Encode and Decode, and their references. -/
set_option linter.unusedVariables false
set_option maxRecDepth 100000
namespace Go.Ev
open Go.Proofs
noncomputable section
def Try.A55 : AFun := pureA (fun args => Try.S55 (nzs Try.nzE args))
def Try.A17 : AFun := pureA (fun args => Try.S17 (nzs Try.nzE args))
def Try.A18 : AFun := pureA (fun args => Try.S18 (nzs Try.nzE args))
def Try.A59 : AFun := pureA (fun args => Try.S59 (nzs Try.nzE args))
def Try.A60 : AFun := pureA (fun args => Try.S60 (nzs Try.nzE args))
def Try.A92 : AFun := pureA (fun args => Try.S92 (nzs [.ints .i64 []] args))
def encB (k a b c : Int) (l : List Int) : List Int := IntKind.u8.wrap k :: (bif k == 2 then wordsB [a, b, c] else l)
def Try.err : AV × Heap := (.tup [.val (.slice none 0 0), .val (.int .i64 4)], ⟨0, []⟩)
def Try.S13 (args : List AV) : Ans (AV × Heap) := match args with
  | [.agg [.val (.int .i64 k), .val (.int .i64 a), .val (.int .i64 b), .val (.int .i64 c), .ro (.ints .u8 l) cap]] => .grd (Nat.ble l.length 1000000) (.br (entB k a b c l.length) (.out (.tup [.own 0 0 (encB k a b c l).length none 1, .val (.int .i64 0)], oneH (.ints .u8 (encB k a b c l)))) (.out Try.err))
  | _ => .no
def kdB (l : List Int) : Int := IntKind.i64.wrap (l.getD 0 0)
def Try.errE : AV × Heap := (.tup [Try.ent 0 0 0 0 (.val (.slice none 0 0)), .val (.int .i64 4)], ⟨0, []⟩)
def Try.S15 (args : List AV) : Ans (AV × Heap) := match args with
  | [.ro (.ints .u8 l) cap] => .grd (bytesOk l && Nat.ble l.length 1000000) (.br ((l.length : Int) == 0) (.out Try.errE)
      (.br (kdB l == 2) (.br ((l.length : Int) == 13) (.br (entB (kdB l) (wdB l 1) (wdB l 5) (wdB l 9) 0) (.out (.tup [Try.ent (kdB l) (wdB l 1) (wdB l 5) (wdB l 9) (.val (.slice none 0 0)), .val (.int .i64 0)], ⟨0, []⟩)) (.out Try.errE)) (.out Try.errE))
        (.br (entB (kdB l) 0 0 0 (l.drop 1).length) (.out (.tup [Try.ent (kdB l) 0 0 0 (.own 0 0 (l.drop 1).length none 1), .val (.int .i64 0)], oneH (.ints .u8 (l.drop 1)))) (.out Try.errE))))
  | _ => .no
def encX (k a b c : Int) (l : List Int) : List Int := bif entB k a b c l.length then encB k a b c l else []
def encE (k a b c : Int) (n : Nat) : Int := bif entB k a b c n then 0 else 4
def Try.M13 (args : List AV) : Ans (AV × Heap) := match args with
  | [.agg [.val (.int .i64 k), .val (.int .i64 a), .val (.int .i64 b), .val (.int .i64 c), .ro (.ints .u8 l) cap]] => .grd (Nat.ble l.length 1000000) (.out (.tup [.own 0 0 (encX k a b c l).length none 1, .val (.int .i64 (encE k a b c l.length))], oneH (.ints .u8 (encX k a b c l))))
  | _ => .no
abbrev EntD := Int × Int × Int × Int × List Int
def entZ : EntD := (0, 0, 0, 0, [])
def decOk (l : List Int) : Bool := bif (l.length : Int) == 0 then false else bif kdB l == 2 then ((l.length : Int) == 13) && entB (kdB l) (wdB l 1) (wdB l 5) (wdB l 9) 0 else entB (kdB l) 0 0 0 (l.drop 1).length
def decD (l : List Int) : EntD := bif decOk l then (bif kdB l == 2 then (kdB l, wdB l 1, wdB l 5, wdB l 9, []) else (kdB l, 0, 0, 0, l.drop 1)) else entZ
def decE (l : List Int) : Int := bif decOk l then 0 else 4
def Try.entO (e : EntD) : AV := Try.ent e.1 e.2.1 e.2.2.1 e.2.2.2.1 (.own 0 0 e.2.2.2.2.length none 1)
def Try.M15 (args : List AV) : Ans (AV × Heap) := match args with
  | [.ro (.ints .u8 l) cap] => .grd (bytesOk l && Nat.ble l.length 1000000) (.out (.tup [Try.entO (decD l), .val (.int .i64 (decE l))], oneH (.ints .u8 (decD l).2.2.2.2)))
  | _ => .no
def Try.t3 : List (Nat × AFun) := [(55, Try.A55), (57, Try.A55), (59, Try.A59), (60, Try.A60), (61, Try.A60), (92, Try.A92)]
def Try.E3 : Env := Try.env0 false (sumsOf Try.t3) (keepF 0 [])
end
theorem Try.e3 : EnvOk2 Try.prog Try.E3 := Try.envOk false (sumsOf Try.t3) _ (sumsOf_ok (show AllS Try.prog Try.t3 from ⟨Try.sum55, Try.sum57, Try.sum59, Try.sum60, Try.sum61, Try.sum92, trivial⟩))
theorem Try.r13 (k a b c : Int) (l : List Int) (cap : Option Nat) : rootS Try.E3 3 13 (lsumsOf []) [Try.ent k a b c (.ro (.ints .u8 l) cap)] =
      bif entB k a b c l.length then
       bif k == 2 then
        some (.tup [.own 0 (0) (13) none 1, .val (.int .i64 (0))], ⟨1, [⟨0, 0, .cells (.ints .u8 ([IntKind.u8.wrap k, IntKind.u8.wrap a, IntKind.u8.wrap (a.fdiv 256), IntKind.u8.wrap (a.fdiv 65536), IntKind.u8.wrap (a.fdiv 16777216), IntKind.u8.wrap b, IntKind.u8.wrap (b.fdiv 256), IntKind.u8.wrap (b.fdiv 65536), IntKind.u8.wrap (b.fdiv 16777216), IntKind.u8.wrap c, IntKind.u8.wrap (c.fdiv 256), IntKind.u8.wrap (c.fdiv 65536), IntKind.u8.wrap (c.fdiv 16777216)]))⟩]⟩)
       else
        bif ownNew (some 1) 1 l.length then
         bif ((1 + l.length) * 1).ble most && (1 + l.length).ble most then
          some (.tup [.own 0 (0) (1 + l.length) none 1, .val (.int .i64 (0))], ⟨1, [⟨0, 0, .cells (.ints .u8 ([IntKind.u8.wrap k] ++ l))⟩]⟩)
         else
          none
        else
         bif ((1 + l.length) * 1).ble most && (1 + l.length).ble most then
          some (.tup [.own 0 (0) (1 + l.length) none 1, .val (.int .i64 (0))], ⟨1, [⟨0, 0, .cells (.ints .u8 ([IntKind.u8.wrap k] ++ l))⟩]⟩)
         else
          none
      else
       some (.tup [.val (.slice none 0 0), .val (.int .i64 (4))], ⟨0, []⟩) := by kernel_rfl
theorem Try.r14 (k a b c : Int) (l : List Int) (cap : Option Nat) : rootS Try.E3 3 14 (lsumsOf []) [Try.ent k a b c (.ro (.ints .u8 l) cap)] =
      bif entB k a b c l.length then
       bif k == 2 then
        some (.tup [.own 0 (0) (13) none 1, .val (.int .i64 (0))], ⟨1, [⟨0, 0, .cells (.ints .u8 ([IntKind.u8.wrap k, IntKind.u8.wrap a, IntKind.u8.wrap (a.fdiv 256), IntKind.u8.wrap (a.fdiv 65536), IntKind.u8.wrap (a.fdiv 16777216), IntKind.u8.wrap b, IntKind.u8.wrap (b.fdiv 256), IntKind.u8.wrap (b.fdiv 65536), IntKind.u8.wrap (b.fdiv 16777216), IntKind.u8.wrap c, IntKind.u8.wrap (c.fdiv 256), IntKind.u8.wrap (c.fdiv 65536), IntKind.u8.wrap (c.fdiv 16777216)]))⟩]⟩)
       else
        bif ownNew (some 1) 1 l.length then
         bif ((1 + l.length) * 1).ble most && (1 + l.length).ble most then
          some (.tup [.own 0 (0) (1 + l.length) none 1, .val (.int .i64 (0))], ⟨1, [⟨0, 0, .cells (.ints .u8 ([IntKind.u8.wrap k] ++ l))⟩]⟩)
         else
          none
        else
         bif ((1 + l.length) * 1).ble most && (1 + l.length).ble most then
          some (.tup [.own 0 (0) (1 + l.length) none 1, .val (.int .i64 (0))], ⟨1, [⟨0, 0, .cells (.ints .u8 ([IntKind.u8.wrap k] ++ l))⟩]⟩)
         else
          none
      else
       some (.tup [.val (.slice none 0 0), .val (.int .i64 (4))], ⟨0, []⟩) := by kernel_rfl
theorem Try.r15 (l : List Int) (cap : Option Nat) : rootS Try.E3 3 15 (lsumsOf []) [.ro (.ints .u8 l) cap] =
      bif (↑l.length : Int) == 0 then
       some (.tup [.agg [.val (.int .i64 (0)), .val (.int .i64 (0)), .val (.int .i64 (0)), .val (.int .i64 (0)), .val (.slice none 0 0)], .val (.int .i64 (4))], ⟨0, []⟩)
      else
       bif inR 0 l.length then
        bif decide (1 ≤ (↑l.length : Int)) then
         bif (List.take (l.length - 1) (List.drop 1 l)).length.ble 1000000 then
          bif IntKind.i64.wrap (l.getD 0 0) == 2 then
           bif (↑l.length : Int) == 13 then
            bif bytesOk l && (Nat.ble 5 l.length && true) then
             bif bytesOk l && (Nat.ble 9 l.length && true) then
              bif bytesOk l && (Nat.ble 13 l.length && true) then
               bif entB (IntKind.i64.wrap (l.getD 0 0)) (wdB l 1) (wdB l 5) (wdB l 9) 0 then
                bif IntKind.i64.wrap (l.getD 0 0) == 2 then
                 bif (↑l.length : Int) != 13 then
                  some (.tup [.agg [.val (.int .i64 (0)), .val (.int .i64 (0)), .val (.int .i64 (0)), .val (.int .i64 (0)), .val (.slice none 0 0)], .val (.int .i64 (4))], ⟨0, []⟩)
                 else
                  some (.tup [.agg [.val (.int .i64 (IntKind.i64.wrap (l.getD 0 0))), .val (.int .i64 (wdB l 1)), .val (.int .i64 (wdB l 5)), .val (.int .i64 (wdB l 9)), .val (.slice none 0 0)], .val (.int .i64 (0))], ⟨0, []⟩)
                else
                 some (.tup [.agg [.val (.int .i64 (IntKind.i64.wrap (l.getD 0 0))), .val (.int .i64 (wdB l 1)), .val (.int .i64 (wdB l 5)), .val (.int .i64 (wdB l 9)), .val (.slice none 0 0)], .val (.int .i64 (0))], ⟨0, []⟩)
               else
                some (.tup [.agg [.val (.int .i64 (0)), .val (.int .i64 (0)), .val (.int .i64 (0)), .val (.int .i64 (0)), .val (.slice none 0 0)], .val (.int .i64 (4))], ⟨0, []⟩)
              else
               none
             else
              none
            else
             none
           else
            bif (0 + (List.take (l.length - 1) (List.drop 1 l)).length).ble (List.take (l.length - 1) (List.drop 1 l)).length && true then
             bif entB (IntKind.i64.wrap (l.getD 0 0)) 0 0 0 (List.take (List.take (l.length - 1) (List.drop 1 l)).length (List.drop 0 (List.take (l.length - 1) (List.drop 1 l)))).length then
              bif IntKind.i64.wrap (l.getD 0 0) == 2 then
               bif (↑l.length : Int) != 13 then
                some (.tup [.agg [.val (.int .i64 (0)), .val (.int .i64 (0)), .val (.int .i64 (0)), .val (.int .i64 (0)), .val (.slice none 0 0)], .val (.int .i64 (4))], ⟨0, []⟩)
               else
                some (.tup [.agg [.val (.int .i64 (IntKind.i64.wrap (l.getD 0 0))), .val (.int .i64 (0)), .val (.int .i64 (0)), .val (.int .i64 (0)), .own 0 (0) ((List.take (l.length - 1) (List.drop 1 l)).length) none 1], .val (.int .i64 (0))], ⟨1, [⟨0, 0, .cells (.ints .u8 (List.take (l.length - 1) (List.drop 1 l)))⟩]⟩)
              else
               some (.tup [.agg [.val (.int .i64 (IntKind.i64.wrap (l.getD 0 0))), .val (.int .i64 (0)), .val (.int .i64 (0)), .val (.int .i64 (0)), .own 0 (0) ((List.take (l.length - 1) (List.drop 1 l)).length) none 1], .val (.int .i64 (0))], ⟨1, [⟨0, 0, .cells (.ints .u8 (List.take (l.length - 1) (List.drop 1 l)))⟩]⟩)
             else
              some (.tup [.agg [.val (.int .i64 (0)), .val (.int .i64 (0)), .val (.int .i64 (0)), .val (.int .i64 (0)), .val (.slice none 0 0)], .val (.int .i64 (4))], ⟨0, []⟩)
            else
             none
          else
           bif (0 + (List.take (l.length - 1) (List.drop 1 l)).length).ble (List.take (l.length - 1) (List.drop 1 l)).length && true then
            bif entB (IntKind.i64.wrap (l.getD 0 0)) 0 0 0 (List.take (List.take (l.length - 1) (List.drop 1 l)).length (List.drop 0 (List.take (l.length - 1) (List.drop 1 l)))).length then
             bif IntKind.i64.wrap (l.getD 0 0) == 2 then
              bif (↑l.length : Int) != 13 then
               some (.tup [.agg [.val (.int .i64 (0)), .val (.int .i64 (0)), .val (.int .i64 (0)), .val (.int .i64 (0)), .val (.slice none 0 0)], .val (.int .i64 (4))], ⟨0, []⟩)
              else
               some (.tup [.agg [.val (.int .i64 (IntKind.i64.wrap (l.getD 0 0))), .val (.int .i64 (0)), .val (.int .i64 (0)), .val (.int .i64 (0)), .own 0 (0) ((List.take (l.length - 1) (List.drop 1 l)).length) none 1], .val (.int .i64 (0))], ⟨1, [⟨0, 0, .cells (.ints .u8 (List.take (l.length - 1) (List.drop 1 l)))⟩]⟩)
             else
              some (.tup [.agg [.val (.int .i64 (IntKind.i64.wrap (l.getD 0 0))), .val (.int .i64 (0)), .val (.int .i64 (0)), .val (.int .i64 (0)), .own 0 (0) ((List.take (l.length - 1) (List.drop 1 l)).length) none 1], .val (.int .i64 (0))], ⟨1, [⟨0, 0, .cells (.ints .u8 (List.take (l.length - 1) (List.drop 1 l)))⟩]⟩)
            else
             some (.tup [.agg [.val (.int .i64 (0)), .val (.int .i64 (0)), .val (.int .i64 (0)), .val (.int .i64 (0)), .val (.slice none 0 0)], .val (.int .i64 (4))], ⟨0, []⟩)
           else
            none
         else
          none
        else
         none
       else
        none := by kernel_rfl
theorem Try.r16 (l : List Int) (cap : Option Nat) : rootS Try.E3 3 16 (lsumsOf []) [.ro (.ints .u8 l) cap] =
      bif (↑l.length : Int) == 0 then
       some (.tup [.agg [.val (.int .i64 (0)), .val (.int .i64 (0)), .val (.int .i64 (0)), .val (.int .i64 (0)), .val (.slice none 0 0)], .val (.int .i64 (4))], ⟨0, []⟩)
      else
       bif inR 0 l.length then
        bif IntKind.i64.wrap (l.getD 0 0) == 2 then
         bif (↑l.length : Int) != 13 then
          some (.tup [.agg [.val (.int .i64 (0)), .val (.int .i64 (0)), .val (.int .i64 (0)), .val (.int .i64 (0)), .val (.slice none 0 0)], .val (.int .i64 (4))], ⟨0, []⟩)
         else
          bif bytesOk l && (Nat.ble 5 l.length && true) then
           bif bytesOk l && (Nat.ble 9 l.length && true) then
            bif bytesOk l && (Nat.ble 13 l.length && true) then
             bif entB (IntKind.i64.wrap (l.getD 0 0)) (wdB l 1) (wdB l 5) (wdB l 9) 0 then
              some (.tup [.agg [.val (.int .i64 (IntKind.i64.wrap (l.getD 0 0))), .val (.int .i64 (wdB l 1)), .val (.int .i64 (wdB l 5)), .val (.int .i64 (wdB l 9)), .val (.slice none 0 0)], .val (.int .i64 (0))], ⟨0, []⟩)
             else
              some (.tup [.agg [.val (.int .i64 (0)), .val (.int .i64 (0)), .val (.int .i64 (0)), .val (.int .i64 (0)), .val (.slice none 0 0)], .val (.int .i64 (4))], ⟨0, []⟩)
            else
             none
           else
            none
          else
           none
        else
         bif decide (1 ≤ (↑l.length : Int)) then
          bif ((List.take (l.length - 1) (List.drop 1 l)).length * 1).ble most && (List.take (l.length - 1) (List.drop 1 l)).length.ble most then
           bif (0 + (List.take (l.length - 1) (List.drop 1 l)).length).ble ([] ++ List.take (l.length - 1) (List.drop 1 l)).length && true then
            bif entB (IntKind.i64.wrap (l.getD 0 0)) 0 0 0 (List.take (List.take (l.length - 1) (List.drop 1 l)).length (List.drop 0 ([] ++ List.take (l.length - 1) (List.drop 1 l)))).length then
             some (.tup [.agg [.val (.int .i64 (IntKind.i64.wrap (l.getD 0 0))), .val (.int .i64 (0)), .val (.int .i64 (0)), .val (.int .i64 (0)), .own 0 (0) ((List.take (l.length - 1) (List.drop 1 l)).length) none 1], .val (.int .i64 (0))], ⟨1, [⟨0, 0, .cells (.ints .u8 ([] ++ List.take (l.length - 1) (List.drop 1 l)))⟩]⟩)
            else
             some (.tup [.agg [.val (.int .i64 (0)), .val (.int .i64 (0)), .val (.int .i64 (0)), .val (.int .i64 (0)), .val (.slice none 0 0)], .val (.int .i64 (4))], ⟨0, []⟩)
           else
            none
          else
           none
         else
          none
       else
        none := by kernel_rfl
theorem Try.rs13 : ∀ args v h2, (Try.S13 args).run = some (v, h2) → rootS Try.E3 3 13 (lsumsOf []) args = some (v, h2) := by
  intro args v h2 hs
  unfold Try.S13 at hs
  split at hs
  · rename_i k a b c l cap
    rw [Ans.run_grd] at hs
    cases hb : Nat.ble l.length 1000000 with
    | false => rw [hb] at hs; cases hs
    | true =>
      rw [hb, cond_true, Ans.run_br] at hs
      rw [Nat.ble_eq] at hb
      rw [← hs]
      refine (Try.r13 k a b c l cap).trans ?_
      cases entB k a b c l.length with
      | false => rfl
      | true =>
        simp only [cond_true']
        cases hk : (k == 2) with
        | true => simp only [encB, hk]; rfl
        | false =>
          simp only [cond_false']
          rw [ble_t (show (1 + l.length) * 1 ≤ most by rw [most_eq]; omega), ble_t (show 1 + l.length ≤ most by rw [most_eq]; omega)]
          have e1 : encB k a b c l = [IntKind.u8.wrap k] ++ l := by unfold encB; rw [hk]; rfl
          have e2 : 1 + l.length = ([IntKind.u8.wrap k] ++ l).length := by simp; omega
          rw [e1, e2]
          cases ownNew (some 1) 1 l.length <;> rfl
  · cases hs
theorem Try.rs14 : ∀ args v h2, (Try.S13 args).run = some (v, h2) → rootS Try.E3 3 14 (lsumsOf []) args = some (v, h2) := by
  intro args v h2 hs
  unfold Try.S13 at hs
  split at hs
  · rename_i k a b c l cap
    rw [Ans.run_grd] at hs
    cases hb : Nat.ble l.length 1000000 with
    | false => rw [hb] at hs; cases hs
    | true =>
      rw [hb, cond_true, Ans.run_br] at hs
      rw [Nat.ble_eq] at hb
      rw [← hs]
      refine (Try.r14 k a b c l cap).trans ?_
      cases entB k a b c l.length with
      | false => rfl
      | true =>
        simp only [cond_true']
        cases hk : (k == 2) with
        | true => simp only [encB, hk]; rfl
        | false =>
          simp only [cond_false']
          rw [ble_t (show (1 + l.length) * 1 ≤ most by rw [most_eq]; omega), ble_t (show 1 + l.length ≤ most by rw [most_eq]; omega)]
          have e1 : encB k a b c l = [IntKind.u8.wrap k] ++ l := by unfold encB; rw [hk]; rfl
          have e2 : 1 + l.length = ([IntKind.u8.wrap k] ++ l).length := by simp; omega
          rw [e1, e2]
          cases ownNew (some 1) 1 l.length <;> rfl
  · cases hs
theorem Try.rs15 : ∀ args v h2, (Try.S15 args).run = some (v, h2) → rootS Try.E3 3 15 (lsumsOf []) args = some (v, h2) := by
  intro args v h2 hs
  unfold Try.S15 at hs
  split at hs
  · rename_i l cap
    rw [Ans.run_grd] at hs
    cases hb : (bytesOk l && Nat.ble l.length 1000000) with
    | false => rw [hb] at hs; cases hs
    | true =>
      rw [hb, cond_true] at hs
      rw [Bool.and_eq_true, Nat.ble_eq] at hb
      obtain ⟨h0, h1⟩ := hb
      rw [← hs]
      refine (Try.r15 l cap).trans ?_
      simp only [Ans.run_br]
      have ekd : IntKind.i64.wrap (l.getD 0 0) = kdB l := rfl
      rw [ekd]
      cases hl : ((l.length : Int) == 0) with
      | true => rfl
      | false =>
        have hpos : 0 < l.length := by
          rcases Nat.eq_zero_or_pos l.length with q | q
          · rw [q] at hl; cases hl
          · exact q
        have g1 : inR 0 l.length = true := by rw [show (0 : Int) = ((0 : Nat) : Int) from rfl, inR_nat, decide_eq_true hpos]
        have g2 : decide (1 ≤ (l.length : Int)) = true := decide_eq_true (by omega)
        have e1 : List.take (l.length - 1) (List.drop 1 l) = l.drop 1 := by rw [List.take_of_length_le]; simp
        have e3 : (l.drop 1).length ≤ 1000000 := by simp; omega
        simp only [g1, g2, e1, h0, cond_true', cond_false', List.drop_zero, List.take_length, Nat.zero_add, Nat.mul_one, List.nil_append, ble_t (Nat.le_refl _), ble_t e3, ble_t (show (l.drop 1).length ≤ most by rw [most_eq]; omega), Bool.and_true, Bool.true_and]
        cases hk : (kdB l == 2) with
        | false =>
          simp only [cond_false', cond_sameB]
          cases entB (kdB l) 0 0 0 (l.drop 1).length <;> cases ((l.length : Int) == 13) <;> rfl
        | true =>
          simp only [cond_true']
          cases hn : ((l.length : Int) == 13) with
          | true =>
            have hn' : l.length = 13 := by rw [beq_iff_eq] at hn; omega
            have hne : ((l.length : Int) != 13) = false := by rw [bne, hn]; rfl
            simp only [hne, cond_true', cond_false', ble_t (show 5 ≤ l.length by omega), ble_t (show 9 ≤ l.length by omega), ble_t (show 13 ≤ l.length by omega)]
            cases entB (kdB l) (wdB l 1) (wdB l 5) (wdB l 9) 0 <;> rfl
          | false =>
            have hne : ((l.length : Int) != 13) = true := by rw [bne, hn]; rfl
            simp only [hne, cond_true', cond_false', cond_sameB]
            first | rfl | (cases entB (kdB l) 0 0 0 (l.drop 1).length <;> rfl)
  · cases hs
theorem Try.rs16 : ∀ args v h2, (Try.S15 args).run = some (v, h2) → rootS Try.E3 3 16 (lsumsOf []) args = some (v, h2) := by
  intro args v h2 hs
  unfold Try.S15 at hs
  split at hs
  · rename_i l cap
    rw [Ans.run_grd] at hs
    cases hb : (bytesOk l && Nat.ble l.length 1000000) with
    | false => rw [hb] at hs; cases hs
    | true =>
      rw [hb, cond_true] at hs
      rw [Bool.and_eq_true, Nat.ble_eq] at hb
      obtain ⟨h0, h1⟩ := hb
      rw [← hs]
      refine (Try.r16 l cap).trans ?_
      simp only [Ans.run_br]
      have ekd : IntKind.i64.wrap (l.getD 0 0) = kdB l := rfl
      rw [ekd]
      cases hl : ((l.length : Int) == 0) with
      | true => rfl
      | false =>
        have hpos : 0 < l.length := by
          rcases Nat.eq_zero_or_pos l.length with q | q
          · rw [q] at hl; cases hl
          · exact q
        have g1 : inR 0 l.length = true := by rw [show (0 : Int) = ((0 : Nat) : Int) from rfl, inR_nat, decide_eq_true hpos]
        have g2 : decide (1 ≤ (l.length : Int)) = true := decide_eq_true (by omega)
        have e1 : List.take (l.length - 1) (List.drop 1 l) = l.drop 1 := by rw [List.take_of_length_le]; simp
        have e3 : (l.drop 1).length ≤ 1000000 := by simp; omega
        simp only [g1, g2, e1, h0, cond_true', cond_false', List.drop_zero, List.take_length, Nat.zero_add, Nat.mul_one, List.nil_append, ble_t (Nat.le_refl _), ble_t e3, ble_t (show (l.drop 1).length ≤ most by rw [most_eq]; omega), Bool.and_true, Bool.true_and]
        cases hk : (kdB l == 2) with
        | false =>
          simp only [cond_false', cond_sameB]
          cases entB (kdB l) 0 0 0 (l.drop 1).length <;> cases ((l.length : Int) == 13) <;> rfl
        | true =>
          simp only [cond_true']
          cases hn : ((l.length : Int) == 13) with
          | true =>
            have hn' : l.length = 13 := by rw [beq_iff_eq] at hn; omega
            have hne : ((l.length : Int) != 13) = false := by rw [bne, hn]; rfl
            simp only [hne, cond_true', cond_false', ble_t (show 5 ≤ l.length by omega), ble_t (show 9 ≤ l.length by omega), ble_t (show 13 ≤ l.length by omega)]
            cases entB (kdB l) (wdB l 1) (wdB l 5) (wdB l 9) 0 <;> rfl
          | false =>
            have hne : ((l.length : Int) != 13) = true := by rw [bne, hn]; rfl
            simp only [hne, cond_true', cond_false', cond_sameB]
            first | rfl | (cases entB (kdB l) 0 0 0 (l.drop 1).length <;> rfl)
  · cases hs
theorem Try.sum13 : SumC Try.prog 13 (pureA (fun args => Try.M13 (nzs Try.nzE args))) := by
  refine pureSumR 13 ⟨Try.f13, _, Try.fnOk13.1, Try.fnOk13.2, rfl⟩ ?_
  intro args v h2 hs
  refine Alone.nz (cs := Try.nzE) (by simp [Try.nzE, Con.len]) ?_
  replace hs : (Try.M13 (nzs Try.nzE args)).run = some (v, h2) := hs
  generalize nzs Try.nzE args = args' at hs ⊢
  unfold Try.M13 at hs
  split at hs
  · rename_i k a b c l cap
    rw [Ans.run_grd] at hs
    cases hb : Nat.ble l.length 1000000 with
    | false => rw [hb] at hs; cases hs
    | true =>
      rw [hb, cond_true] at hs
      injection hs with hs
      injection hs with q1 q2
      subst q1; subst q2
      have al := fun v h2 hs => rootS_alone Try.e3 (d := 3) (g := 13) (ls := lsumsOf []) (AllL.of0 (by kernel_rfl)) (Try.rs13 [Try.ent k a b c (.ro (.ints .u8 l) cap)] v h2 hs)
      have hrun : (Try.S13 [Try.ent k a b c (.ro (.ints .u8 l) cap)]).run = bif Nat.ble l.length 1000000 then (bif entB k a b c l.length then some (.tup [.own 0 0 (encB k a b c l).length none 1, .val (.int .i64 0)], oneH (.ints .u8 (encB k a b c l))) else some Try.err) else none := rfl
      rw [hb, cond_true] at hrun
      unfold encX encE
      cases he : entB k a b c l.length with
      | true => rw [he] at hrun; exact al _ _ hrun
      | false =>
        rw [he] at hrun
        exact Alone.nilW (.ints .u8 []) rfl (.cons .nil (NilWs.refl _ _)) (al _ _ hrun)
  · cases hs
theorem Try.sum14 : SumC Try.prog 14 (pureA (fun args => Try.M13 (nzs Try.nzE args))) := by
  refine pureSumR 14 ⟨Try.f14, _, Try.fnOk14.1, Try.fnOk14.2, rfl⟩ ?_
  intro args v h2 hs
  refine Alone.nz (cs := Try.nzE) (by simp [Try.nzE, Con.len]) ?_
  replace hs : (Try.M13 (nzs Try.nzE args)).run = some (v, h2) := hs
  generalize nzs Try.nzE args = args' at hs ⊢
  unfold Try.M13 at hs
  split at hs
  · rename_i k a b c l cap
    rw [Ans.run_grd] at hs
    cases hb : Nat.ble l.length 1000000 with
    | false => rw [hb] at hs; cases hs
    | true =>
      rw [hb, cond_true] at hs
      injection hs with hs
      injection hs with q1 q2
      subst q1; subst q2
      have al := fun v h2 hs => rootS_alone Try.e3 (d := 3) (g := 14) (ls := lsumsOf []) (AllL.of0 (by kernel_rfl)) (Try.rs14 [Try.ent k a b c (.ro (.ints .u8 l) cap)] v h2 hs)
      have hrun : (Try.S13 [Try.ent k a b c (.ro (.ints .u8 l) cap)]).run = bif Nat.ble l.length 1000000 then (bif entB k a b c l.length then some (.tup [.own 0 0 (encB k a b c l).length none 1, .val (.int .i64 0)], oneH (.ints .u8 (encB k a b c l))) else some Try.err) else none := rfl
      rw [hb, cond_true] at hrun
      unfold encX encE
      cases he : entB k a b c l.length with
      | true => rw [he] at hrun; exact al _ _ hrun
      | false =>
        rw [he] at hrun
        exact Alone.nilW (.ints .u8 []) rfl (.cons .nil (NilWs.refl _ _)) (al _ _ hrun)
  · cases hs
theorem Try.sum15 : SumC Try.prog 15 (pureA (fun args => Try.M15 (nzs Try.nzE args))) := by
  refine pureSumR 15 ⟨Try.f15, _, Try.fnOk15.1, Try.fnOk15.2, rfl⟩ ?_
  intro args v h2 hs
  refine Alone.nz (cs := Try.nzE) (by simp [Try.nzE, Con.len]) ?_
  replace hs : (Try.M15 (nzs Try.nzE args)).run = some (v, h2) := hs
  generalize nzs Try.nzE args = args' at hs ⊢
  unfold Try.M15 at hs
  split at hs
  · rename_i l cap
    rw [Ans.run_grd] at hs
    cases hb : (bytesOk l && Nat.ble l.length 1000000) with
    | false => rw [hb] at hs; cases hs
    | true =>
      rw [hb, cond_true] at hs
      injection hs with hs
      injection hs with q1 q2
      subst q1; subst q2
      have al := fun v h2 hs => rootS_alone Try.e3 (d := 3) (g := 15) (ls := lsumsOf []) (AllL.of0 (by kernel_rfl)) (Try.rs15 [.ro (.ints .u8 l) cap] v h2 hs)
      have hrun : (Try.S15 [.ro (.ints .u8 l) cap]).run = bif bytesOk l && Nat.ble l.length 1000000 then (bif (l.length : Int) == 0 then some Try.errE else
        (bif kdB l == 2 then (bif (l.length : Int) == 13 then (bif entB (kdB l) (wdB l 1) (wdB l 5) (wdB l 9) 0 then some (.tup [Try.ent (kdB l) (wdB l 1) (wdB l 5) (wdB l 9) (.val (.slice none 0 0)), .val (.int .i64 0)], ⟨0, []⟩) else some Try.errE) else some Try.errE)
          else (bif entB (kdB l) 0 0 0 (l.drop 1).length then some (.tup [Try.ent (kdB l) 0 0 0 (.own 0 0 (l.drop 1).length none 1), .val (.int .i64 0)], oneH (.ints .u8 (l.drop 1))) else some Try.errE))) else none := rfl
      rw [hb, cond_true] at hrun
      have nilE : ∀ k a b c e, Alone Try.prog 15 [.ro (.ints .u8 l) cap] (.tup [Try.ent k a b c (.val (.slice none 0 0)), .val (.int .i64 e)]) ⟨0, []⟩ → Alone Try.prog 15 [.ro (.ints .u8 l) cap] (.tup [Try.ent k a b c (.own 0 0 0 none 1), .val (.int .i64 e)]) (oneH (.ints .u8 [])) := fun k a b c e h =>
        Alone.nilW (.ints .u8 []) rfl (.agg (.cons (.same _) (.cons (.same _) (.cons (.same _) (.cons (.same _) (.cons .nil .nil))))) (NilWs.refl _ _)) h
      unfold decD decE decOk
      cases hl : ((l.length : Int) == 0) with
      | true => rw [hl] at hrun; exact nilE _ _ _ _ _ (al _ _ hrun)
      | false =>
        rw [hl] at hrun
        simp only [cond_false'] at hrun ⊢
        cases hk : (kdB l == 2) with
        | true =>
          rw [hk] at hrun
          simp only [cond_true'] at hrun ⊢
          cases hn : ((l.length : Int) == 13) with
          | true =>
            rw [hn] at hrun
            simp only [cond_true', Bool.true_and] at hrun ⊢
            cases he : entB (kdB l) (wdB l 1) (wdB l 5) (wdB l 9) 0 with
            | true => rw [he] at hrun; exact nilE _ _ _ _ _ (al _ _ hrun)
            | false => rw [he] at hrun; exact nilE _ _ _ _ _ (al _ _ hrun)
          | false => rw [hn] at hrun; exact nilE _ _ _ _ _ (al _ _ hrun)
        | false =>
          rw [hk] at hrun
          simp only [cond_false'] at hrun ⊢
          cases he : entB (kdB l) 0 0 0 (l.drop 1).length with
          | true => rw [he] at hrun; exact al _ _ hrun
          | false => rw [he] at hrun; exact nilE _ _ _ _ _ (al _ _ hrun)
  · cases hs
theorem Try.sum16 : SumC Try.prog 16 (pureA (fun args => Try.M15 (nzs Try.nzE args))) := by
  refine pureSumR 16 ⟨Try.f16, _, Try.fnOk16.1, Try.fnOk16.2, rfl⟩ ?_
  intro args v h2 hs
  refine Alone.nz (cs := Try.nzE) (by simp [Try.nzE, Con.len]) ?_
  replace hs : (Try.M15 (nzs Try.nzE args)).run = some (v, h2) := hs
  generalize nzs Try.nzE args = args' at hs ⊢
  unfold Try.M15 at hs
  split at hs
  · rename_i l cap
    rw [Ans.run_grd] at hs
    cases hb : (bytesOk l && Nat.ble l.length 1000000) with
    | false => rw [hb] at hs; cases hs
    | true =>
      rw [hb, cond_true] at hs
      injection hs with hs
      injection hs with q1 q2
      subst q1; subst q2
      have al := fun v h2 hs => rootS_alone Try.e3 (d := 3) (g := 16) (ls := lsumsOf []) (AllL.of0 (by kernel_rfl)) (Try.rs16 [.ro (.ints .u8 l) cap] v h2 hs)
      have hrun : (Try.S15 [.ro (.ints .u8 l) cap]).run = bif bytesOk l && Nat.ble l.length 1000000 then (bif (l.length : Int) == 0 then some Try.errE else
        (bif kdB l == 2 then (bif (l.length : Int) == 13 then (bif entB (kdB l) (wdB l 1) (wdB l 5) (wdB l 9) 0 then some (.tup [Try.ent (kdB l) (wdB l 1) (wdB l 5) (wdB l 9) (.val (.slice none 0 0)), .val (.int .i64 0)], ⟨0, []⟩) else some Try.errE) else some Try.errE)
          else (bif entB (kdB l) 0 0 0 (l.drop 1).length then some (.tup [Try.ent (kdB l) 0 0 0 (.own 0 0 (l.drop 1).length none 1), .val (.int .i64 0)], oneH (.ints .u8 (l.drop 1))) else some Try.errE))) else none := rfl
      rw [hb, cond_true] at hrun
      have nilE : ∀ k a b c e, Alone Try.prog 16 [.ro (.ints .u8 l) cap] (.tup [Try.ent k a b c (.val (.slice none 0 0)), .val (.int .i64 e)]) ⟨0, []⟩ → Alone Try.prog 16 [.ro (.ints .u8 l) cap] (.tup [Try.ent k a b c (.own 0 0 0 none 1), .val (.int .i64 e)]) (oneH (.ints .u8 [])) := fun k a b c e h =>
        Alone.nilW (.ints .u8 []) rfl (.agg (.cons (.same _) (.cons (.same _) (.cons (.same _) (.cons (.same _) (.cons .nil .nil))))) (NilWs.refl _ _)) h
      unfold decD decE decOk
      cases hl : ((l.length : Int) == 0) with
      | true => rw [hl] at hrun; exact nilE _ _ _ _ _ (al _ _ hrun)
      | false =>
        rw [hl] at hrun
        simp only [cond_false'] at hrun ⊢
        cases hk : (kdB l == 2) with
        | true =>
          rw [hk] at hrun
          simp only [cond_true'] at hrun ⊢
          cases hn : ((l.length : Int) == 13) with
          | true =>
            rw [hn] at hrun
            simp only [cond_true', Bool.true_and] at hrun ⊢
            cases he : entB (kdB l) (wdB l 1) (wdB l 5) (wdB l 9) 0 with
            | true => rw [he] at hrun; exact nilE _ _ _ _ _ (al _ _ hrun)
            | false => rw [he] at hrun; exact nilE _ _ _ _ _ (al _ _ hrun)
          | false => rw [hn] at hrun; exact nilE _ _ _ _ _ (al _ _ hrun)
        | false =>
          rw [hk] at hrun
          simp only [cond_false'] at hrun ⊢
          cases he : entB (kdB l) 0 0 0 (l.drop 1).length with
          | true => rw [he] at hrun; exact al _ _ hrun
          | false => rw [he] at hrun; exact nilE _ _ _ _ _ (al _ _ hrun)
  · cases hs
end Go.Ev

/- Turns, and its reference. -/
set_option linter.unusedVariables false
set_option maxRecDepth 100000
namespace Go.Ev
open Go.Proofs
noncomputable section
def entRow (e : EntD) : List AV := [.val (.int .i64 e.1), .val (.int .i64 e.2.1), .val (.int .i64 e.2.2.1), .val (.int .i64 e.2.2.2.1), .ro (.ints .u8 e.2.2.2.2) none]
def entC (L : List EntD) : Con := .tab 5 L.length (fun i => entRow (L.getD i entZ))
def rowT (t : Int × Int × Int) : List AV := [.val (.int .i64 t.1), .val (.int .i64 t.2.1), .val (.int .i64 t.2.2)]
def turnC (P : List (Int × Int × Int)) : Con := .rows true 3 (P.map rowT)
def twoH (a b : Con) : Heap := ⟨2, [⟨1, 0, .cells b⟩, ⟨0, 0, .cells a⟩]⟩
def turnsOf (L : List EntD) : List (Int × Int × Int) := L.flatMap fun e => bif e.1 == 2 then [(e.2.1, e.2.2.1, e.2.2.2.1)] else []
def inOf (L : List EntD) : List Int := L.flatMap fun e => bif e.1 == 3 then e.2.2.2.2 else []
def rowEnt : List AV → EntD
  | [.val (.int .i64 k), .val (.int .i64 a), .val (.int .i64 b), .val (.int .i64 c), .ro (.ints .u8 l) _] => (k, a, b, c, l)
  | [.val (.int .i64 k), .val (.int .i64 a), .val (.int .i64 b), .val (.int .i64 c), .val (.slice none 0 0)] => (k, a, b, c, [])
  | _ => entZ
def isE : List AV → Bool
  | [.val (.int .i64 k), .val (.int .i64 a), .val (.int .i64 b), .val (.int .i64 c), .ro (.ints .u8 l) _] => true
  | [.val (.int .i64 k), .val (.int .i64 a), .val (.int .i64 b), .val (.int .i64 c), .val (.slice none 0 0)] => true
  | _ => false
def allE (c : Con) : Bool := @decide (∀ i, i < c.len → isE (c.row i) = true) (Classical.propDecidable _)
def entsOf (c : Con) : List EntD := (List.range c.len).map fun i => rowEnt (c.row i)
def okE (c : Con) : Bool := Nat.beq c.wd 5 && (allE c && (Nat.ble c.len 1000000 && Nat.ble (inOf (entsOf c)).length 1000000000))
def Try.tOut (L : List EntD) : List AV := [.own 0 0 (turnsOf L).length none 3, .own 1 0 (inOf L).length none 1]
def Try.S19 (args : List AV) : Ans (AV × Heap) := match args with
  | [.ro c cap] => .grd (okE c) (.out (.tup (Try.tOut (entsOf c)), twoH (turnC (turnsOf (entsOf c))) (.ints .u8 (inOf (entsOf c)))))
  | _ => .no
def Try.f19L (vs : List AV) (h : Heap) : Ans (AX × List AV × Heap) := match vs, h with
  | [.val (.slice none 0 0), .val (.slice none 0 0), .ro c cap, .val (.int .i64 n), .val (.int .i64 (.ofNat 0))], ⟨0, []⟩ => .grd (n == (c.len : Int) && okE c) (.out (.exit 0, Try.tOut (entsOf c), twoH (turnC (turnsOf (entsOf c))) (.ints .u8 (inOf (entsOf c)))))
  | _, _ => .no
def Try.f20L (vs : List AV) (h : Heap) : Ans (AX × List AV × Heap) := match vs, h with
  | [.ro c cap, .val (.slice none 0 0), .val (.slice none 0 0), .val (.int .i64 (.ofNat 0))], ⟨0, []⟩ => .grd (okE c) (.out (.exit 0, Try.tOut (entsOf c), twoH (turnC (turnsOf (entsOf c))) (.ints .u8 (inOf (entsOf c)))))
  | _, _ => .no
def Try.L19 : LSum := toLSum 32 [4,5,8,9,10] [4,5] Try.f19L
def Try.L20 : LSum := toLSum 42 [0,4,5,6] [4,5] Try.f20L
def Try.E19 : Env := Try.env0 false (sumsOf []) (keepF 19 [(4, [4,5,8,9,10])])
def Try.b19 : Code := nthD .skip (loopsOf (bodyOf Try.E19 19)) 0
def Try.B19 (s : St) : Option (AX × St) := codeS Try.E19 (callF Try.E19 3) (Try.E19.keep 19) (lsumsOf []) Try.b19 (outK [4,5,8,9,10] [4,5]) s
def Try.V19 (L : List EntD) (cap : Option Nat) (k : Nat) (P : List (Int × Int × Int)) (w : List Int) : List AV := [.own 0 0 P.length none 3, .own 1 0 w.length none 1, .ro (entC L) cap, .val (.int .i64 L.length), .val (.int .i64 k)]
def Try.E20 : Env := Try.env0 false (sumsOf []) (keepF 20 [(4, [0,4,5,6])])
def Try.b20 : Code := nthD .skip (loopsOf (bodyOf Try.E20 20)) 0
def Try.B20 (s : St) : Option (AX × St) := codeS Try.E20 (callF Try.E20 3) (Try.E20.keep 20) (lsumsOf []) Try.b20 (outK [0,4,5,6] [4,5]) s
def Try.V20 (L : List EntD) (cap : Option Nat) (k : Nat) (P : List (Int × Int × Int)) (w : List Int) : List AV := [.ro (entC L) cap, .own 0 0 P.length none 3, .own 1 0 w.length none 1, .val (.int .i64 k)]
end
theorem Try.r19 (L : List EntD) (cap : Option Nat) (k : Nat) (P : List (Int × Int × Int)) (w : List Int) : Try.B19 (stOf 32 [4,5,8,9,10] (Try.V19 L cap k P w) (twoH (turnC P) (.ints .u8 w))) =
      bif decide ((↑k : Int) < (↑L.length : Int)) then
       bif inR (↑k : Int) L.length then
        bif (L.getD k entZ).fst == 2 then
         bif (0 + P.length).ble (List.map rowT P).length then
          bif ((P.length + 1) * 24).ble most && (P.length + 1).ble most then
           some (.normal, stOf 32 [4, 5, 8, 9, 10] [.own 0 (0) (P.length + 1) none 3, .own 1 (0) (w.length) none 1, .ro (.tab 5 (L.length) (fun i => entRow (L.getD i entZ))) (cap), .val (.int .i64 ((↑L.length : Int))), .val (.int .i64 (IntKind.i64.wrap ((↑k : Int) + 1)))] ⟨2, [⟨1, 0, .cells (.ints .u8 (w))⟩, ⟨0, 0, .cells (.rows true 3 (List.take P.length (List.drop 0 (List.map rowT P)) ++ [[AV.val (Value.int IntKind.i64 (L.getD k entZ).snd.fst), AV.val (Value.int IntKind.i64 (L.getD k entZ).snd.snd.fst), AV.val (Value.int IntKind.i64 (L.getD k entZ).snd.snd.snd.fst)]]))⟩]⟩ )
          else
           none
         else
          none
        else
         bif (L.getD k entZ).fst == 3 then
          bif (0 + w.length).ble w.length then
           bif ((w.length + (L.getD k entZ).snd.snd.snd.snd.length) * 1).ble most && (w.length + (L.getD k entZ).snd.snd.snd.snd.length).ble most then
            some (.normal, stOf 32 [4, 5, 8, 9, 10] [.own 0 (0) (P.length) none 3, .own 1 (0) (w.length + (L.getD k entZ).snd.snd.snd.snd.length) none 1, .ro (.tab 5 (L.length) (fun i => entRow (L.getD i entZ))) (cap), .val (.int .i64 ((↑L.length : Int))), .val (.int .i64 (IntKind.i64.wrap ((↑k : Int) + 1)))] ⟨2, [⟨1, 0, .cells (.ints .u8 (List.take w.length (List.drop 0 w) ++ (L.getD k entZ).snd.snd.snd.snd))⟩, ⟨0, 0, .cells (.rows true 3 (List.map rowT P))⟩]⟩ )
           else
            none
          else
           none
         else
          some (.normal, stOf 32 [4, 5, 8, 9, 10] [.own 0 (0) (P.length) none 3, .own 1 (0) (w.length) none 1, .ro (.tab 5 (L.length) (fun i => entRow (L.getD i entZ))) (cap), .val (.int .i64 ((↑L.length : Int))), .val (.int .i64 (IntKind.i64.wrap ((↑k : Int) + 1)))] ⟨2, [⟨1, 0, .cells (.ints .u8 (w))⟩, ⟨0, 0, .cells (.rows true 3 (List.map rowT P))⟩]⟩ )
       else
        none
      else
       some (.exit 0, stOf 32 [4, 5] [.own 0 (0) (P.length) none 3, .own 1 (0) (w.length) none 1] ⟨2, [⟨1, 0, .cells (.ints .u8 (w))⟩, ⟨0, 0, .cells (.rows true 3 (List.map rowT P))⟩]⟩ ) := by kernel_rfl
theorem Try.r20 (L : List EntD) (cap : Option Nat) (k : Nat) (P : List (Int × Int × Int)) (w : List Int) : Try.B20 (stOf 42 [0,4,5,6] (Try.V20 L cap k P w) (twoH (turnC P) (.ints .u8 w))) =
      bif decide ((↑k : Int) < (↑L.length : Int)) then
       bif inR (↑k : Int) L.length then
        bif (L.getD k entZ).fst == 2 then
         bif inR (↑k : Int) L.length then
          bif (0 + P.length).ble (List.map rowT P).length then
           bif ((P.length + 1) * 24).ble most && (P.length + 1).ble most then
            bif inR (↑k : Int) L.length then
             bif (L.getD k entZ).fst == 3 then
              bif inR (↑k : Int) L.length then
               bif (0 + w.length).ble w.length then
                bif ((w.length + (L.getD k entZ).snd.snd.snd.snd.length) * 1).ble most && (w.length + (L.getD k entZ).snd.snd.snd.snd.length).ble most then
                 some (.normal, stOf 42 [0, 4, 5, 6] [.ro (.tab 5 (L.length) (fun i => entRow (L.getD i entZ))) (cap), .own 0 (0) (P.length + 1) none 3, .own 1 (0) (w.length + (L.getD k entZ).snd.snd.snd.snd.length) none 1, .val (.int .i64 (IntKind.i64.wrap ((↑k : Int) + 1)))] ⟨2, [⟨1, 0, .cells (.ints .u8 (List.take w.length (List.drop 0 w) ++ (L.getD k entZ).snd.snd.snd.snd))⟩, ⟨0, 0, .cells (.rows true 3 (List.take P.length (List.drop 0 (List.map rowT P)) ++ [[AV.val (Value.int IntKind.i64 (L.getD k entZ).snd.fst), AV.val (Value.int IntKind.i64 (L.getD k entZ).snd.snd.fst), AV.val (Value.int IntKind.i64 (L.getD k entZ).snd.snd.snd.fst)]]))⟩]⟩ )
                else
                 none
               else
                none
              else
               none
             else
              some (.normal, stOf 42 [0, 4, 5, 6] [.ro (.tab 5 (L.length) (fun i => entRow (L.getD i entZ))) (cap), .own 0 (0) (P.length + 1) none 3, .own 1 (0) (w.length) none 1, .val (.int .i64 (IntKind.i64.wrap ((↑k : Int) + 1)))] ⟨2, [⟨1, 0, .cells (.ints .u8 (w))⟩, ⟨0, 0, .cells (.rows true 3 (List.take P.length (List.drop 0 (List.map rowT P)) ++ [[AV.val (Value.int IntKind.i64 (L.getD k entZ).snd.fst), AV.val (Value.int IntKind.i64 (L.getD k entZ).snd.snd.fst), AV.val (Value.int IntKind.i64 (L.getD k entZ).snd.snd.snd.fst)]]))⟩]⟩ )
            else
             none
           else
            none
          else
           none
         else
          none
        else
         bif inR (↑k : Int) L.length then
          bif (L.getD k entZ).fst == 3 then
           bif inR (↑k : Int) L.length then
            bif (0 + w.length).ble w.length then
             bif ((w.length + (L.getD k entZ).snd.snd.snd.snd.length) * 1).ble most && (w.length + (L.getD k entZ).snd.snd.snd.snd.length).ble most then
              some (.normal, stOf 42 [0, 4, 5, 6] [.ro (.tab 5 (L.length) (fun i => entRow (L.getD i entZ))) (cap), .own 0 (0) (P.length) none 3, .own 1 (0) (w.length + (L.getD k entZ).snd.snd.snd.snd.length) none 1, .val (.int .i64 (IntKind.i64.wrap ((↑k : Int) + 1)))] ⟨2, [⟨1, 0, .cells (.ints .u8 (List.take w.length (List.drop 0 w) ++ (L.getD k entZ).snd.snd.snd.snd))⟩, ⟨0, 0, .cells (.rows true 3 (List.map rowT P))⟩]⟩ )
             else
              none
            else
             none
           else
            none
          else
           some (.normal, stOf 42 [0, 4, 5, 6] [.ro (.tab 5 (L.length) (fun i => entRow (L.getD i entZ))) (cap), .own 0 (0) (P.length) none 3, .own 1 (0) (w.length) none 1, .val (.int .i64 (IntKind.i64.wrap ((↑k : Int) + 1)))] ⟨2, [⟨1, 0, .cells (.ints .u8 (w))⟩, ⟨0, 0, .cells (.rows true 3 (List.map rowT P))⟩]⟩ )
         else
          none
       else
        none
      else
       some (.exit 0, stOf 42 [4, 5] [.own 0 (0) (P.length) none 3, .own 1 (0) (w.length) none 1] ⟨2, [⟨1, 0, .cells (.ints .u8 (w))⟩, ⟨0, 0, .cells (.rows true 3 (List.map rowT P))⟩]⟩ ) := by kernel_rfl
theorem Try.w19 (L : List EntD) : rootS Try.E19 3 19 (lsumsOf [(4, Try.L19)]) [.ro (entC L) none] =
      bif (↑L.length : Int) == (↑L.length : Int) && okE (entC L) then
       some (.tup [.own 0 (0) ((turnsOf (entsOf (entC L))).length) none 3, .own 1 (0) ((inOf (entsOf (entC L))).length) none 1], ⟨2, [⟨1, 0, .cells (.ints .u8 (inOf (entsOf (entC L))))⟩, ⟨0, 0, .cells (.rows true 3 (List.map rowT (turnsOf (entsOf (entC L)))))⟩]⟩)
      else
       none := by kernel_rfl
theorem Try.w20 (L : List EntD) : rootS Try.E20 3 20 (lsumsOf [(4, Try.L20)]) [.ro (entC L) none] =
      bif okE (entC L) then
       some (.tup [.own 0 (0) ((turnsOf (entsOf (entC L))).length) none 3, .own 1 (0) ((inOf (entsOf (entC L))).length) none 1], ⟨2, [⟨1, 0, .cells (.ints .u8 (inOf (entsOf (entC L))))⟩, ⟨0, 0, .cells (.rows true 3 (List.map rowT (turnsOf (entsOf (entC L)))))⟩]⟩)
      else
       none := by kernel_rfl
theorem Try.e19 : EnvOk2 Try.prog Try.E19 := Try.envOk false (sumsOf []) _ (fun g A h => by cases h)
theorem Try.e20 : EnvOk2 Try.prog Try.E20 := Try.envOk false (sumsOf []) _ (fun g A h => by cases h)
theorem entsOf_len (c : Con) : (entsOf c).length = c.len := by simp [entsOf]
theorem entsOf_entC (L : List EntD) : entsOf (entC L) = L := by
  apply List.ext_getElem?
  intro i
  simp only [entsOf, entC, Con.len, Con.row, List.getElem?_map]
  rcases Nat.lt_or_ge i L.length with h | h
  · rw [List.getElem?_range h, List.getElem?_eq_getElem h]
    simp [entRow, rowEnt, List.getD_eq_getElem?_getD, List.getElem?_eq_getElem h]
  · rw [List.getElem?_eq_none (by simpa using h), List.getElem?_eq_none h]; rfl
theorem allE_entC (L : List EntD) : allE (entC L) = true := by
  refine @decide_eq_true _ (Classical.propDecidable _) ?_
  intro i _
  rfl
theorem isE_row {r : List AV} (h : isE r = true) (j : Nat) (v' : AV) (hv : (entRow (rowEnt r))[j]? = some v') : ∃ v, r[j]? = some v ∧ AW v v' := by
  unfold isE at h
  split at h
  · rename_i k a b c l cap
    have e : entRow (rowEnt [.val (.int .i64 k), .val (.int .i64 a), .val (.int .i64 b), .val (.int .i64 c), .ro (.ints .u8 l) cap]) = [.val (.int .i64 k), .val (.int .i64 a), .val (.int .i64 b), .val (.int .i64 c), .ro (.ints .u8 l) none] := rfl
    rw [e] at hv
    rcases j with _ | _ | _ | _ | _ | j
    all_goals first
      | (simp at hv; subst hv; exact ⟨_, rfl, AW.refl _⟩)
      | (simp at hv; subst hv; exact ⟨_, rfl, AW.cap _ _⟩)
      | (simp at hv)
  · rename_i k a b c
    have e : entRow (rowEnt [.val (.int .i64 k), .val (.int .i64 a), .val (.int .i64 b), .val (.int .i64 c), .val (.slice none 0 0)]) = [.val (.int .i64 k), .val (.int .i64 a), .val (.int .i64 b), .val (.int .i64 c), .ro (.ints .u8 []) none] := rfl
    rw [e] at hv
    rcases j with _ | _ | _ | _ | _ | j
    all_goals first
      | (simp at hv; subst hv; exact ⟨_, rfl, AW.refl _⟩)
      | (simp at hv; subst hv; exact ⟨_, rfl, AW.nil rfl⟩)
      | (simp at hv)
  · cases h
theorem ent_conv {c : Con} (h : okE c = true) : ConW c (entC (entsOf c)) := by
  unfold okE at h
  simp only [Bool.and_eq_true] at h
  obtain ⟨h1, h2, _⟩ := h
  replace h2 := @of_decide_eq_true _ (Classical.propDecidable _) h2
  refine ⟨(Nat.eq_of_beq_eq_true h1).symm, entsOf_len c, ?_⟩
  intro i hi j v' hv
  have e : (entC (entsOf c)).row i = entRow (rowEnt (c.row i)) := by
    show entRow ((entsOf c).getD i entZ) = _
    rw [List.getD_eq_getElem?_getD, entsOf, List.getElem?_map, List.getElem?_range hi]
    rfl
  rw [e] at hv
  exact isE_row (h2 i hi) j v' hv
theorem okE_entC {c : Con} (h : okE c = true) : okE (entC (entsOf c)) = true := by
  have h' := h
  unfold okE at h ⊢
  simp only [Bool.and_eq_true] at h ⊢
  refine ⟨rfl, allE_entC _, ?_, ?_⟩
  · show Nat.ble (entsOf c).length 1000000 = true; rw [entsOf_len]; exact h.2.2.1
  · rw [entsOf_entC]; exact h.2.2.2
theorem turnsOf_snoc {L : List EntD} {k : Nat} (h : k < L.length) : turnsOf (L.take (k + 1)) = turnsOf (L.take k) ++ (bif (L.getD k entZ).1 == 2 then [((L.getD k entZ).2.1, (L.getD k entZ).2.2.1, (L.getD k entZ).2.2.2.1)] else []) := by
  unfold turnsOf
  rw [List.take_add_one, List.flatMap_append, List.getD_eq_getElem?_getD, List.getElem?_eq_getElem h, Option.toList_some, List.flatMap_singleton]
  rfl
theorem inOf_snoc {L : List EntD} {k : Nat} (h : k < L.length) : inOf (L.take (k + 1)) = inOf (L.take k) ++ (bif (L.getD k entZ).1 == 3 then (L.getD k entZ).2.2.2.2 else []) := by
  unfold inOf
  rw [List.take_add_one, List.flatMap_append, List.getD_eq_getElem?_getD, List.getElem?_eq_getElem h, Option.toList_some, List.flatMap_singleton]
  rfl
theorem inOf_le {L : List EntD} {k : Nat} : (inOf (L.take k)).length ≤ (inOf L).length := by
  conv => rhs; rw [← List.take_append_drop k L]
  unfold inOf
  rw [List.flatMap_append, List.length_append]
  exact Nat.le_add_right _ _
theorem turnsOf_len (L : List EntD) : (turnsOf L).length ≤ L.length := by
  induction L with
  | nil => exact Nat.le_refl _
  | cons e L ih =>
    show ((bif e.1 == 2 then [(e.2.1, e.2.2.1, e.2.2.2.1)] else []) ++ turnsOf L).length ≤ _
    rw [List.length_append, List.length_cons]
    have : ∀ b : Bool, (bif b then [(e.2.1, e.2.2.1, e.2.2.2.1)] else []).length ≤ 1 := fun b => by cases b <;> simp
    have := this (e.1 == 2)
    omega
theorem twoH_ok (a b : Con) : (twoH a b).ok := by
  refine ⟨?_, ?_⟩
  · show List.Nodup [1, 0]; decide
  · intro id e h
    have h' : (bif Nat.beq 1 id then some (⟨1, 0, .cells b⟩ : Ent) else bif Nat.beq 0 id then some ⟨0, 0, .cells a⟩ else none) = some e := h
    cases h1 : Nat.beq 1 id with
    | true => have := Nat.eq_of_beq_eq_true h1; subst this; show 1 < 2; omega
    | false =>
      rw [h1] at h'
      cases h0 : Nat.beq 0 id with
      | true => have := Nat.eq_of_beq_eq_true h0; subst this; show 0 < 2; omega
      | false => rw [h0] at h'; cases h'
/-- What one entry does to the turns and the input. -/
theorem Try.s19 (L : List EntD) (k : Nat) (hk : k < L.length) (hl : L.length ≤ 1000000) (hi : (inOf L).length ≤ 1000000000) :
    Try.B19 (stOf 32 [4,5,8,9,10] (Try.V19 L none k (turnsOf (L.take k)) (inOf (L.take k))) (twoH (turnC (turnsOf (L.take k))) (.ints .u8 (inOf (L.take k))))) =
      some (.normal, stOf 32 [4,5,8,9,10] (Try.V19 L none (k + 1) (turnsOf (L.take (k + 1))) (inOf (L.take (k + 1)))) (twoH (turnC (turnsOf (L.take (k + 1)))) (.ints .u8 (inOf (L.take (k + 1)))))) := by
  refine (Try.r19 L none k _ _).trans ?_
  have hP : (turnsOf (L.take k)).length ≤ 1000000 := Nat.le_trans (turnsOf_len _) (by rw [List.length_take]; omega)
  have hw : (inOf (L.take k)).length ≤ 1000000000 := Nat.le_trans inOf_le hi
  have hw1 : (inOf (L.take (k + 1))).length ≤ 1000000000 := Nat.le_trans inOf_le hi
  rw [turnsOf_snoc hk, inOf_snoc hk] at *
  generalize L.getD k entZ = e at *
  generalize turnsOf (L.take k) = P at *
  generalize inOf (L.take k) = w at *
  simp only [declt_nat, decide_eq_true hk, inR_nat, cond_true', List.length_map, Nat.zero_add, ble_t (Nat.le_refl _), List.drop_zero, wrapS k (by omega),
    ble_t (show (P.length + 1) * 24 ≤ most by rw [most_eq]; omega), ble_t (show P.length + 1 ≤ most by rw [most_eq]; omega), Bool.and_true, List.take_length]
  have tk : List.take P.length (List.map rowT P) = List.map rowT P := List.take_of_length_le (by simp)
  rw [tk]
  cases h2 : e.1 == 2 with
  | true =>
    have h3 : (e.1 == 3) = false := by rw [beq_iff_eq] at h2; rw [h2]; rfl
    simp only [h3, cond_true', cond_false', List.append_nil]
    have e1 : P.length + 1 = (P ++ [(e.2.1, e.2.2.1, e.2.2.2.1)]).length := by simp
    have e2 : List.map rowT P ++ [[AV.val (Value.int IntKind.i64 e.2.1), AV.val (Value.int IntKind.i64 e.2.2.1), AV.val (Value.int IntKind.i64 e.2.2.2.1)]] = List.map rowT (P ++ [(e.2.1, e.2.2.1, e.2.2.2.1)]) := by simp [rowT]
    rw [e1, e2]; rfl
  | false =>
    simp only [cond_false', List.append_nil]
    cases h3 : e.1 == 3 with
    | true =>
      rw [h3] at hw1
      simp only [cond_true', List.length_append] at hw1
      simp only [cond_true', Nat.mul_one, ble_t (show w.length + e.2.2.2.2.length ≤ most by rw [most_eq]; omega), Bool.and_true]
      rw [← List.length_append]; rfl
    | false => simp only [cond_false', List.append_nil]; rfl
theorem Try.s20 (L : List EntD) (k : Nat) (hk : k < L.length) (hl : L.length ≤ 1000000) (hi : (inOf L).length ≤ 1000000000) :
    Try.B20 (stOf 42 [0,4,5,6] (Try.V20 L none k (turnsOf (L.take k)) (inOf (L.take k))) (twoH (turnC (turnsOf (L.take k))) (.ints .u8 (inOf (L.take k))))) =
      some (.normal, stOf 42 [0,4,5,6] (Try.V20 L none (k + 1) (turnsOf (L.take (k + 1))) (inOf (L.take (k + 1)))) (twoH (turnC (turnsOf (L.take (k + 1)))) (.ints .u8 (inOf (L.take (k + 1)))))) := by
  refine (Try.r20 L none k _ _).trans ?_
  have hP : (turnsOf (L.take k)).length ≤ 1000000 := Nat.le_trans (turnsOf_len _) (by rw [List.length_take]; omega)
  have hw : (inOf (L.take k)).length ≤ 1000000000 := Nat.le_trans inOf_le hi
  have hw1 : (inOf (L.take (k + 1))).length ≤ 1000000000 := Nat.le_trans inOf_le hi
  rw [turnsOf_snoc hk, inOf_snoc hk] at *
  generalize L.getD k entZ = e at *
  generalize turnsOf (L.take k) = P at *
  generalize inOf (L.take k) = w at *
  simp only [declt_nat, decide_eq_true hk, inR_nat, cond_true', List.length_map, Nat.zero_add, ble_t (Nat.le_refl _), List.drop_zero, wrapS k (by omega),
    ble_t (show (P.length + 1) * 24 ≤ most by rw [most_eq]; omega), ble_t (show P.length + 1 ≤ most by rw [most_eq]; omega), Bool.and_true, List.take_length]
  have tk : List.take P.length (List.map rowT P) = List.map rowT P := List.take_of_length_le (by simp)
  rw [tk]
  cases h2 : e.1 == 2 with
  | true =>
    have h3 : (e.1 == 3) = false := by rw [beq_iff_eq] at h2; rw [h2]; rfl
    simp only [h3, cond_true', cond_false', List.append_nil]
    have e1 : P.length + 1 = (P ++ [(e.2.1, e.2.2.1, e.2.2.2.1)]).length := by simp
    have e2 : List.map rowT P ++ [[AV.val (Value.int IntKind.i64 e.2.1), AV.val (Value.int IntKind.i64 e.2.2.1), AV.val (Value.int IntKind.i64 e.2.2.2.1)]] = List.map rowT (P ++ [(e.2.1, e.2.2.1, e.2.2.2.1)]) := by simp [rowT]
    rw [e1, e2]; rfl
  | false =>
    simp only [cond_false', List.append_nil]
    cases h3 : e.1 == 3 with
    | true =>
      rw [h3] at hw1
      simp only [cond_true', List.length_append] at hw1
      simp only [cond_true', Nat.mul_one, ble_t (show w.length + e.2.2.2.2.length ≤ most by rw [most_eq]; omega), Bool.and_true]
      rw [← List.length_append]; rfl
    | false => simp only [cond_false', List.append_nil]; rfl
theorem Try.l19 : ∀ s e s', s.h.ok → (Try.L19 s).run = some (e, s') → Triple Try.prog (.loop Try.b19) s e s' := by
  refine loop_lawW Try.e19 (d := 3) (g := 19) (ls := lsumsOf []) (c := Try.b19) trivial 32 [4,5,8,9,10] [4,5] (T := List EntD × Nat)
    (fun x => Try.V19 x.1 none x.2 (turnsOf (x.1.take x.2)) (inOf (x.1.take x.2))) (fun x => twoH (turnC (turnsOf (x.1.take x.2))) (.ints .u8 (inOf (x.1.take x.2)))) (fun x => (x.1.length ≤ 1000000 ∧ (inOf x.1).length ≤ 1000000000) ∧ x.2 ≤ x.1.length) (fun x => x.1.length - x.2)
    (fun x => (.exit 0, Try.tOut x.1, twoH (turnC (turnsOf x.1)) (.ints .u8 (inOf x.1)))) Try.f19L ?_ (fun x _ => twoH_ok _ _) ?_
  · intro vs h e vo h' hok hf
    unfold Try.f19L at hf
    split at hf
    · rename_i c cap n
      rw [Ans.run_grd] at hf
      cases hb : (n == (c.len : Int) && okE c) with
      | false => rw [hb] at hf; cases hf
      | true =>
      rw [hb, cond_true] at hf
      rw [Bool.and_eq_true, beq_iff_eq] at hb
      obtain ⟨rfl, h1⟩ := hb
      injection hf with hf
      have hE := h1
      unfold okE at h1
      simp only [Bool.and_eq_true, Nat.ble_eq] at h1
      obtain ⟨_, _, h1, h2⟩ := h1
      refine ⟨(entsOf c, 0), ⟨⟨by rw [entsOf_len]; exact h1, h2⟩, Nat.zero_le _⟩, ?_, hf⟩
      have a1 := Weak.slots (n := 32) (ks := [4,5,8,9,10]) (vs := [.val (.slice none 0 0), .val (.slice none 0 0), .ro c cap, .val (.int .i64 c.len), .val (.int .i64 (.ofNat 0))]) (vs' := [.val (.slice none 0 0), .val (.slice none 0 0), .ro (entC (entsOf c)) none, .val (.int .i64 (entsOf c).length), .val (.int .i64 (0 : Nat))]) (h := ⟨0, []⟩) heap0_ok (by rw [entsOf_len]; exact .cons (AW.refl _) (.cons (AW.refl _) (.cons (fun _ _ _ => VR.conv (ent_conv hE) (.inr rfl)) (AWs.refl _))))
      have a2 := Weak.nil a1.1 4 (turnC []) rfl rfl
      have a3 := Weak.nil a2.1 5 (.ints .u8 []) rfl rfl
      exact (a1.trans a2).trans a3
    · cases hf
  · rintro ⟨L, k⟩ ⟨⟨hl, hi⟩, hk⟩
    simp only at hl hi hk
    by_cases h : k < L.length
    · exact .inl ⟨(L, k + 1), _, Try.s19 L k h hl hi, Weak.refl (twoH_ok _ _), ⟨⟨hl, hi⟩, h⟩, by show L.length - (k + 1) < L.length - k; omega, rfl⟩
    · have : k = L.length := by omega
      subst this
      refine .inr ⟨_, (Try.r19 L none L.length _ _).trans ?_, Weak.refl (twoH_ok _ _), by simp⟩
      rw [declt_nat, decide_eq_false h, List.take_length]
      rfl
theorem Try.sum19 : SumC Try.prog 19 (pureA (fun args => Try.S19 (nzs [.tab 5 0 (fun _ => [])] args))) := by
  refine pureSumR 19 ⟨Try.f19, _, Try.fnOk19.1, Try.fnOk19.2, rfl⟩ ?_
  intro args v h2 hs
  refine Alone.nz (cs := [.tab 5 0 (fun _ => [])]) (by simp [Con.len]) ?_
  replace hs : (Try.S19 (nzs [.tab 5 0 (fun _ => [])] args)).run = some (v, h2) := hs
  generalize nzs [.tab 5 0 (fun _ => [])] args = args' at hs ⊢
  unfold Try.S19 at hs
  split at hs
  · rename_i c cap
    rw [Ans.run_grd] at hs
    cases hb : okE c with
    | false => rw [hb] at hs; cases hs
    | true =>
      rw [hb, cond_true] at hs
      refine Alone.argsW (args' := [.ro (entC (entsOf c)) none]) (AWs.args (.cons (fun _ _ _ => VR.conv (ent_conv hb) (.inr rfl)) .nil)) ?_
      refine rootS_alone Try.e19 (d := 3) (ls := lsumsOf [(4, Try.L19)]) (AllL.of1 (a := Try.b19) (by kernel_rfl) (LsOk.of rfl rfl Try.l19)) ((Try.w19 (entsOf c)).trans ?_)
      rw [← hs, okE_entC hb, entsOf_entC]
      first | rfl | (rw [beq_self_eq_true]; rfl)
  · cases hs
theorem Try.l20 : ∀ s e s', s.h.ok → (Try.L20 s).run = some (e, s') → Triple Try.prog (.loop Try.b20) s e s' := by
  refine loop_lawW Try.e20 (d := 3) (g := 20) (ls := lsumsOf []) (c := Try.b20) trivial 42 [0,4,5,6] [4,5] (T := List EntD × Nat)
    (fun x => Try.V20 x.1 none x.2 (turnsOf (x.1.take x.2)) (inOf (x.1.take x.2))) (fun x => twoH (turnC (turnsOf (x.1.take x.2))) (.ints .u8 (inOf (x.1.take x.2)))) (fun x => (x.1.length ≤ 1000000 ∧ (inOf x.1).length ≤ 1000000000) ∧ x.2 ≤ x.1.length) (fun x => x.1.length - x.2)
    (fun x => (.exit 0, Try.tOut x.1, twoH (turnC (turnsOf x.1)) (.ints .u8 (inOf x.1)))) Try.f20L ?_ (fun x _ => twoH_ok _ _) ?_
  · intro vs h e vo h' hok hf
    unfold Try.f20L at hf
    split at hf
    · rename_i c cap
      rw [Ans.run_grd] at hf
      cases h1 : okE c with
      | false => rw [h1] at hf; cases hf
      | true =>
      rw [h1, cond_true] at hf
      injection hf with hf
      have hE := h1
      unfold okE at h1
      simp only [Bool.and_eq_true, Nat.ble_eq] at h1
      obtain ⟨_, _, h1, h2⟩ := h1
      refine ⟨(entsOf c, 0), ⟨⟨by rw [entsOf_len]; exact h1, h2⟩, Nat.zero_le _⟩, ?_, hf⟩
      have a1 := Weak.slots (n := 42) (ks := [0,4,5,6]) (vs := [.ro c cap, .val (.slice none 0 0), .val (.slice none 0 0), .val (.int .i64 (.ofNat 0))]) (vs' := [.ro (entC (entsOf c)) none, .val (.slice none 0 0), .val (.slice none 0 0), .val (.int .i64 (0 : Nat))]) (h := ⟨0, []⟩) heap0_ok (.cons (fun _ _ _ => VR.conv (ent_conv hE) (.inr rfl)) (AWs.refl _))
      have a2 := Weak.nil a1.1 4 (turnC []) rfl rfl
      have a3 := Weak.nil a2.1 5 (.ints .u8 []) rfl rfl
      exact (a1.trans a2).trans a3
    · cases hf
  · rintro ⟨L, k⟩ ⟨⟨hl, hi⟩, hk⟩
    simp only at hl hi hk
    by_cases h : k < L.length
    · exact .inl ⟨(L, k + 1), _, Try.s20 L k h hl hi, Weak.refl (twoH_ok _ _), ⟨⟨hl, hi⟩, h⟩, by show L.length - (k + 1) < L.length - k; omega, rfl⟩
    · have : k = L.length := by omega
      subst this
      refine .inr ⟨_, (Try.r20 L none L.length _ _).trans ?_, Weak.refl (twoH_ok _ _), by simp⟩
      rw [declt_nat, decide_eq_false h, List.take_length]
      rfl
theorem Try.sum20 : SumC Try.prog 20 (pureA (fun args => Try.S19 (nzs [.tab 5 0 (fun _ => [])] args))) := by
  refine pureSumR 20 ⟨Try.f20, _, Try.fnOk20.1, Try.fnOk20.2, rfl⟩ ?_
  intro args v h2 hs
  refine Alone.nz (cs := [.tab 5 0 (fun _ => [])]) (by simp [Con.len]) ?_
  replace hs : (Try.S19 (nzs [.tab 5 0 (fun _ => [])] args)).run = some (v, h2) := hs
  generalize nzs [.tab 5 0 (fun _ => [])] args = args' at hs ⊢
  unfold Try.S19 at hs
  split at hs
  · rename_i c cap
    rw [Ans.run_grd] at hs
    cases hb : okE c with
    | false => rw [hb] at hs; cases hs
    | true =>
      rw [hb, cond_true] at hs
      refine Alone.argsW (args' := [.ro (entC (entsOf c)) none]) (AWs.args (.cons (fun _ _ _ => VR.conv (ent_conv hb) (.inr rfl)) .nil)) ?_
      refine rootS_alone Try.e20 (d := 3) (ls := lsumsOf [(4, Try.L20)]) (AllL.of1 (a := Try.b20) (by kernel_rfl) (LsOk.of rfl rfl Try.l20)) ((Try.w20 (entsOf c)).trans ?_)
      rw [← hs, okE_entC hb, entsOf_entC]
      first | rfl | (rw [beq_self_eq_true]; rfl)
  · cases hs
end Go.Ev

/- slices.Equal of turns; sameTurns. -/
set_option linter.unusedVariables false
set_option maxRecDepth 100000
namespace Go.Ev
open Go.Proofs
noncomputable section
abbrev TurnD := Int × Int × Int
def turnZ : TurnD := (0, 0, 0)
def turnR (P : List TurnD) : Con := .tab 3 P.length (fun i => rowT (P.getD i turnZ))
def rowTurn : List AV → TurnD
  | [.val (.int .i64 a), .val (.int .i64 b), .val (.int .i64 c)] => (a, b, c)
  | _ => turnZ
def isT : List AV → Bool
  | [.val (.int .i64 a), .val (.int .i64 b), .val (.int .i64 c)] => true
  | _ => false
def allT (c : Con) : Bool := @decide (∀ i, i < c.len → isT (c.row i) = true) (Classical.propDecidable _)
def turnsAt (c : Con) : List TurnD := (List.range c.len).map fun i => rowTurn (c.row i)
def okT (c : Con) : Bool := Nat.beq c.wd 3 && (allT c && Nat.ble c.len 1000000)
def eqT (P Q : List TurnD) : Bool := decide (P = Q)
def Try.E62 : Env := Try.env0 false (sumsOf []) (keepF 62 [(4, [0,1,12,13])])
def Try.b62 : Code := nthD .skip (loopsOf (bodyOf Try.E62 62)) 0
def Try.B62 (s : St) : Option (AX × St) := codeS Try.E62 (callF Try.E62 3) (Try.E62.keep 62) (lsumsOf []) Try.b62 (outK [0,1,12,13] [4]) s
def Try.V62 (P Q : List TurnD) (k : Nat) : List AV := [.ro (turnR P) none, .ro (turnR Q) none, .val (.int .i64 P.length), .val (.int .i64 k)]
def Try.f62L (vs : List AV) (h : Heap) : Ans (AX × List AV × Heap) := match vs, h with
  | [.ro c cap, .ro c' cap', .val (.int .i64 n), .val (.int .i64 (.ofNat 0))], ⟨0, []⟩ => .grd (n == (c.len : Int) && (okT c && (okT c' && decide (c.len = c'.len)))) (.br (eqT (turnsAt c) (turnsAt c')) (.out (.exit 0, [.unk], ⟨0, []⟩)) (.out (.ret, [.val (.bool false)], ⟨0, []⟩)))
  | _, _ => .no
def Try.L62 : LSum := toLSum 26 [0,1,12,13] [4] Try.f62L
def Try.S62 (args : List AV) : Ans (AV × Heap) := match args with
  | [.ro c cap, .ro c' cap'] => .grd (okT c && okT c') (.out (.val (.bool (eqT (turnsAt c) (turnsAt c'))), ⟨0, []⟩))
  | _ => .no
end
theorem Try.r62 (P Q : List TurnD) (k : Nat) : Try.B62 (stOf 26 [0,1,12,13] (Try.V62 P Q k) ⟨0, []⟩) =
      bif decide ((↑k : Int) < (↑P.length : Int)) then
       bif inR (↑k : Int) P.length then
        bif inR (↑k : Int) Q.length then
         bif !((P.getD k turnZ).fst == (Q.getD k turnZ).fst && ((P.getD k turnZ).snd.fst == (Q.getD k turnZ).snd.fst && ((P.getD k turnZ).snd.snd == (Q.getD k turnZ).snd.snd && true))) then
          some (.ret, stOf 26 [4] [.val (.bool false)] ⟨0, []⟩ )
         else
          some (.normal, stOf 26 [0, 1, 12, 13] [.ro (.tab 3 (P.length) (fun i => rowT (P.getD i turnZ))) none, .ro (.tab 3 (Q.length) (fun i => rowT (Q.getD i turnZ))) none, .val (.int .i64 ((↑P.length : Int))), .val (.int .i64 (IntKind.i64.wrap ((↑k : Int) + 1)))] ⟨0, []⟩ )
        else
         none
       else
        none
      else
       some (.exit 0, stOf 26 [] [] ⟨0, []⟩ ) := by kernel_rfl
theorem Try.w62 (P Q : List TurnD) : rootS Try.E62 3 62 (lsumsOf [(4, Try.L62)]) [.ro (turnR P) none, .ro (turnR Q) none] =
      bif (↑P.length : Int) != (↑Q.length : Int) then
       some (.val (.bool false), ⟨0, []⟩)
      else
       bif (↑P.length : Int) == (↑P.length : Int) && (okT (turnR P) && (okT (turnR Q) && decide (P.length = Q.length))) then
        bif eqT (turnsAt (turnR P)) (turnsAt (turnR Q)) then
         some (.val (.bool true), ⟨0, []⟩)
        else
         some (.val (.bool false), ⟨0, []⟩)
       else
        none := by kernel_rfl
theorem Try.e62 : EnvOk2 Try.prog Try.E62 := Try.envOk false (sumsOf []) _ (fun g A h => by cases h)
theorem turnsAt_len (c : Con) : (turnsAt c).length = c.len := by simp [turnsAt]
theorem turnsAt_turnR (L : List TurnD) : turnsAt (turnR L) = L := by
  apply List.ext_getElem?
  intro i
  simp only [turnsAt, turnR, Con.len, Con.row, List.getElem?_map]
  rcases Nat.lt_or_ge i L.length with h | h
  · rw [List.getElem?_range h, List.getElem?_eq_getElem h]
    simp [rowT, rowTurn, List.getD_eq_getElem?_getD, List.getElem?_eq_getElem h]
  · rw [List.getElem?_eq_none (by simpa using h), List.getElem?_eq_none h]; rfl
theorem isT_row {r : List AV} (h : isT r = true) : rowT (rowTurn r) = r := by
  unfold isT at h
  split at h
  · rfl
  · cases h
theorem turn_conv {c : Con} (h : okT c = true) : ConW c (turnR (turnsAt c)) := by
  unfold okT at h
  simp only [Bool.and_eq_true] at h
  obtain ⟨h1, h2, _⟩ := h
  replace h2 := @of_decide_eq_true _ (Classical.propDecidable _) h2
  refine ⟨(Nat.eq_of_beq_eq_true h1).symm, turnsAt_len c, ?_⟩
  intro i hi j v' hv
  have e : (turnR (turnsAt c)).row i = c.row i := by
    show rowT ((turnsAt c).getD i turnZ) = _
    rw [List.getD_eq_getElem?_getD, turnsAt, List.getElem?_map, List.getElem?_range hi]
    exact isT_row (h2 i hi)
  rw [e] at hv
  exact ⟨v', hv, AW.refl _⟩
theorem okT_turnR {c : Con} (h : okT c = true) : okT (turnR (turnsAt c)) = true := by
  unfold okT at h ⊢
  simp only [Bool.and_eq_true] at h ⊢
  refine ⟨rfl, @decide_eq_true _ (Classical.propDecidable _) (fun i _ => rfl), ?_⟩
  show Nat.ble (turnsAt c).length 1000000 = true; rw [turnsAt_len]; exact h.2.2
theorem okT_len {c : Con} (h : okT c = true) : (turnsAt c).length ≤ 1000000 := by
  unfold okT at h
  simp only [Bool.and_eq_true, Nat.ble_eq] at h
  rw [turnsAt_len]; exact h.2.2
theorem cell3 (p q : TurnD) : (p.1 == q.1 && (p.2.1 == q.2.1 && (p.2.2 == q.2.2 && true))) = decide (p = q) := by
  rw [Bool.eq_iff_iff]
  simp [Prod.ext_iff]
theorem take_succ_eq {α : Type} {P Q : List α} {k : Nat} {d : α} (hp : k < P.length) (hq : k < Q.length) (h : P.take k = Q.take k) (he : P.getD k d = Q.getD k d) : P.take (k + 1) = Q.take (k + 1) := by
  rw [List.getD_eq_getElem?_getD, List.getD_eq_getElem?_getD] at he
  rw [List.take_add_one, List.take_add_one, h, List.getElem?_eq_getElem hp, List.getElem?_eq_getElem hq]
  rw [List.getElem?_eq_getElem hp, List.getElem?_eq_getElem hq] at he
  simp only [Option.getD_some] at he
  rw [he]
theorem Try.l62 : ∀ s e s', s.h.ok → (Try.L62 s).run = some (e, s') → Triple Try.prog (.loop Try.b62) s e s' := by
  refine loop_lawW Try.e62 (d := 3) (g := 62) (ls := lsumsOf []) (c := Try.b62) trivial 26 [0,1,12,13] [4] (T := List TurnD × List TurnD × Nat)
    (fun x => Try.V62 x.1 x.2.1 x.2.2) (fun x => ⟨0, []⟩) (fun x => (x.1.length ≤ 1000000 ∧ x.1.length = x.2.1.length) ∧ x.2.2 ≤ x.1.length ∧ x.1.take x.2.2 = x.2.1.take x.2.2) (fun x => x.1.length - x.2.2)
    (fun x => bif eqT x.1 x.2.1 then (.exit 0, [.unk], ⟨0, []⟩) else (.ret, [.val (.bool false)], ⟨0, []⟩)) Try.f62L ?_ (fun x _ => heap0_ok) ?_
  · intro vs h e vo h' hok hf
    unfold Try.f62L at hf
    split at hf
    · rename_i c cap c' cap' n
      rw [Ans.run_grd] at hf
      cases hb : (n == (c.len : Int) && (okT c && (okT c' && decide (c.len = c'.len)))) with
      | false => rw [hb] at hf; cases hf
      | true =>
      rw [hb, cond_true, Ans.run_br] at hf
      simp only [Bool.and_eq_true, beq_iff_eq, decide_eq_true_eq] at hb
      obtain ⟨rfl, h1, h2, h3⟩ := hb
      refine ⟨(turnsAt c, turnsAt c', 0), ⟨⟨okT_len h1, by rw [turnsAt_len, turnsAt_len]; exact h3⟩, Nat.zero_le _, rfl⟩, ?_, ?_⟩
      · refine Weak.slots heap0_ok ?_
        show AWs [.ro c cap, .ro c' cap', .val (.int .i64 c.len), .val (.int .i64 (.ofNat 0))] [.ro (turnR (turnsAt c)) none, .ro (turnR (turnsAt c')) none, .val (.int .i64 (turnsAt c).length), .val (.int .i64 (0 : Nat))]
        rw [turnsAt_len]
        exact .cons (fun _ _ _ => VR.conv (turn_conv h1) (.inr rfl)) (.cons (fun _ _ _ => VR.conv (turn_conv h2) (.inr rfl)) (AWs.refl _))
      · simp only
        cases hq : eqT (turnsAt c) (turnsAt c') with
        | true => rw [hq] at hf; injection hf with hf
        | false => rw [hq] at hf; injection hf with hf
    · cases hf
  · rintro ⟨P, Q, k⟩ ⟨⟨hl, hlq⟩, hk, hpre⟩
    simp only at hl hlq hk hpre
    by_cases h : k < P.length
    · have hq : k < Q.length := by omega
      have key := Try.r62 P Q k
      rw [cell3, declt_nat, decide_eq_true h, inR_nat, inR_nat, decide_eq_true h, decide_eq_true hq, wrapS k (by omega)] at key
      by_cases he : P.getD k turnZ = Q.getD k turnZ
      · rw [decide_eq_true he] at key
        exact .inl ⟨(P, Q, k + 1), _, key, Weak.refl heap0_ok, ⟨⟨hl, hlq⟩, h, take_succ_eq h hq hpre he⟩, by show P.length - (k + 1) < P.length - k; omega, rfl⟩
      · rw [decide_eq_false he] at key
        have hne : eqT P Q = false := decide_eq_false (fun q => he (by rw [q]))
        refine .inr ?_
        simp only [hne, cond_false']
        exact ⟨_, key, Weak.refl heap0_ok, by simp⟩
    · have : k = P.length := by omega
      subst this
      have heq : eqT P Q = true := decide_eq_true (by rw [List.take_length, hlq, List.take_length] at hpre; exact hpre)
      have key := Try.r62 P Q P.length
      rw [declt_nat, decide_eq_false h] at key
      refine .inr ?_
      simp only [heq, cond_true']
      exact ⟨_, key, Weak.refl heap0_ok, by simp⟩
theorem Try.sum62 : SumC Try.prog 62 (pureA (fun args => Try.S62 (nzs [.tab 3 0 (fun _ => []), .tab 3 0 (fun _ => [])] args))) := by
  refine pureSumR 62 ⟨Try.f62, _, Try.fnOk62.1, Try.fnOk62.2, rfl⟩ ?_
  intro args v h2 hs
  refine Alone.nz (cs := [.tab 3 0 (fun _ => []), .tab 3 0 (fun _ => [])]) (by simp [Con.len]) ?_
  replace hs : (Try.S62 (nzs [.tab 3 0 (fun _ => []), .tab 3 0 (fun _ => [])] args)).run = some (v, h2) := hs
  generalize nzs [.tab 3 0 (fun _ => []), .tab 3 0 (fun _ => [])] args = args' at hs ⊢
  unfold Try.S62 at hs
  split at hs
  · rename_i c cap c' cap'
    rw [Ans.run_grd] at hs
    cases hb : (okT c && okT c') with
    | false => rw [hb] at hs; cases hs
    | true =>
      rw [hb, cond_true] at hs
      rw [Bool.and_eq_true] at hb
      refine Alone.argsW (args' := [.ro (turnR (turnsAt c)) none, .ro (turnR (turnsAt c')) none]) (AWs.args (.cons (fun _ _ _ => VR.conv (turn_conv hb.1) (.inr rfl)) (.cons (fun _ _ _ => VR.conv (turn_conv hb.2) (.inr rfl)) .nil))) ?_
      refine rootS_alone Try.e62 (d := 3) (ls := lsumsOf [(4, Try.L62)]) (AllL.of1 (a := Try.b62) (by kernel_rfl) (LsOk.of rfl rfl Try.l62)) ((Try.w62 _ _).trans ?_)
      rw [← hs, okT_turnR hb.1, okT_turnR hb.2, turnsAt_turnR, turnsAt_turnR]
      cases hn : ((turnsAt c).length : Int) != ((turnsAt c').length : Int) with
      | true =>
        have : eqT (turnsAt c) (turnsAt c') = false := decide_eq_false (fun q => by rw [q] at hn; simp at hn)
        rw [this]; rfl
      | false =>
        have hlen : (turnsAt c).length = (turnsAt c').length := by simp at hn; omega
        rw [beq_self_eq_true, decide_eq_true hlen]
        exact (boolOut _ _).symm
  · cases hs
end Go.Ev

namespace Go.Ev
open Go.Proofs
set_option maxRecDepth 1000000
theorem Try.saneRun : callF (Try.env0 true (fun _ => none) (fun _ _ => none)) 50 AV (.clo (.func 12) [] []) [] heap0 (fun v _ => some v) = some (.val (.bool true)) := by kernel_rfl
theorem Try.saneSum : SumC Try.prog 12 (constA (.bool true)) := SumC.closed (Try.envOk _ _ _ (fun g A h => by cases h)) 49 12 rfl Try.saneRun
end Go.Ev

/- JournalCodes: the walk of the law. -/
set_option linter.unusedVariables false
set_option maxRecDepth 100000
namespace Go.Ev
open Go.Proofs
noncomputable section
def Try.A13 : AFun := pureA (fun args => Try.M13 (nzs Try.nzE args))
def Try.A15 : AFun := pureA (fun args => Try.M15 (nzs Try.nzE args))
def Try.A19 : AFun := pureA (fun args => Try.S19 (nzs [.tab 5 0 (fun _ => [])] args))
def Try.A62 : AFun := pureA (fun args => Try.S62 (nzs [.tab 3 0 (fun _ => []), .tab 3 0 (fun _ => [])] args))
def Try.t6 : List (Nat × AFun) := [(12, constA (.bool true)), (13, Try.A13), (14, Try.A13), (15, Try.A15), (16, Try.A15), (17, Try.A17), (18, Try.A18), (19, Try.A19), (20, Try.A19), (62, Try.A62)]
def Try.E6 : Env := Try.env0 false (sumsOf Try.t6) (keepF 0 [])
end
theorem Try.e6 : EnvOk2 Try.prog Try.E6 := Try.envOk false (sumsOf Try.t6) _ (sumsOf_ok (show AllS Try.prog Try.t6 from ⟨Try.saneSum, Try.sum13, Try.sum14, Try.sum15, Try.sum16, Try.sum17, Try.sum18, Try.sum19, Try.sum20, Try.sum62, trivial⟩))
theorem Try.r3 (k a b c : Int) (l m : List Int) (L : List EntD) : rootS Try.E6 3 3 (lsumsOf []) [Try.ent k a b c (.ro (.ints .u8 l) none), .ro (.ints .u8 m) none, .ro (entC L) none] =
      bif decide ((↑l.length : Int) > 25000) then
       some (.val (.bool true), ⟨0, []⟩)
      else
       bif decide ((↑m.length : Int) > 25000) then
        some (.val (.bool true), ⟨0, []⟩)
       else
        bif decide ((↑L.length : Int) > 100) then
         some (.val (.bool true), ⟨0, []⟩)
        else
         bif l.length.ble 1000000 then
          bif l.length.ble 1000000 then
           bif bytesOk m && m.length.ble 1000000 then
            bif bytesOk m && m.length.ble 1000000 then
             bif encE k a b c l.length != encE k a b c l.length then
              some (.val (.bool false), ⟨0, []⟩)
             else
              bif decE m != decE m then
               some (.val (.bool false), ⟨0, []⟩)
              else
               bif (0 + (encX k a b c l).length).ble (encX k a b c l).length && true then
                bif (0 + (encX k a b c l).length).ble (encX k a b c l).length && true then
                 bif eqS (List.take (encX k a b c l).length (List.drop 0 (encX k a b c l))) (List.take (encX k a b c l).length (List.drop 0 (encX k a b c l))) then
                  bif (0 + (decD m).snd.snd.snd.snd.length).ble (decD m).snd.snd.snd.snd.length && true then
                   bif (0 + (decD m).snd.snd.snd.snd.length).ble (decD m).snd.snd.snd.snd.length && true then
                    bif sameB (decD m).fst (decD m).snd.fst (decD m).snd.snd.fst (decD m).snd.snd.snd.fst (decD m).fst (decD m).snd.fst (decD m).snd.snd.fst (decD m).snd.snd.snd.fst (List.take (decD m).snd.snd.snd.snd.length (List.drop 0 (decD m).snd.snd.snd.snd)) (List.take (decD m).snd.snd.snd.snd.length (List.drop 0 (decD m).snd.snd.snd.snd)) then
                     bif encE k a b c l.length == 0 then
                      bif (0 + (encX k a b c l).length).ble (encX k a b c l).length && true then
                       bif bytesOk (List.take (encX k a b c l).length (List.drop 0 (encX k a b c l))) && (List.take (encX k a b c l).length (List.drop 0 (encX k a b c l))).length.ble 1000000 then
                        bif decE (List.take (encX k a b c l).length (List.drop 0 (encX k a b c l))) != 0 then
                         some (.val (.bool false), ⟨0, []⟩)
                        else
                         bif (0 + (decD (List.take (encX k a b c l).length (List.drop 0 (encX k a b c l)))).snd.snd.snd.snd.length).ble (decD (List.take (encX k a b c l).length (List.drop 0 (encX k a b c l)))).snd.snd.snd.snd.length && true then
                          bif sameB (decD (List.take (encX k a b c l).length (List.drop 0 (encX k a b c l)))).fst (decD (List.take (encX k a b c l).length (List.drop 0 (encX k a b c l)))).snd.fst (decD (List.take (encX k a b c l).length (List.drop 0 (encX k a b c l)))).snd.snd.fst (decD (List.take (encX k a b c l).length (List.drop 0 (encX k a b c l)))).snd.snd.snd.fst k a b c (List.take (decD (List.take (encX k a b c l).length (List.drop 0 (encX k a b c l)))).snd.snd.snd.snd.length (List.drop 0 (decD (List.take (encX k a b c l).length (List.drop 0 (encX k a b c l)))).snd.snd.snd.snd)) l then
                           bif decE m == 0 then
                            bif (0 + (decD m).snd.snd.snd.snd.length).ble (decD m).snd.snd.snd.snd.length && true then
                             bif (List.take (decD m).snd.snd.snd.snd.length (List.drop 0 (decD m).snd.snd.snd.snd)).length.ble 1000000 then
                              bif encE (decD m).fst (decD m).snd.fst (decD m).snd.snd.fst (decD m).snd.snd.snd.fst (List.take (decD m).snd.snd.snd.snd.length (List.drop 0 (decD m).snd.snd.snd.snd)).length != 0 then
                               some (.val (.bool false), ⟨0, []⟩)
                              else
                               bif (0 + (encX (decD m).fst (decD m).snd.fst (decD m).snd.snd.fst (decD m).snd.snd.snd.fst (List.take (decD m).snd.snd.snd.snd.length (List.drop 0 (decD m).snd.snd.snd.snd))).length).ble (encX (decD m).fst (decD m).snd.fst (decD m).snd.snd.fst (decD m).snd.snd.snd.fst (List.take (decD m).snd.snd.snd.snd.length (List.drop 0 (decD m).snd.snd.snd.snd))).length && true then
                                bif eqS (List.take (encX (decD m).fst (decD m).snd.fst (decD m).snd.snd.fst (decD m).snd.snd.snd.fst (List.take (decD m).snd.snd.snd.snd.length (List.drop 0 (decD m).snd.snd.snd.snd))).length (List.drop 0 (encX (decD m).fst (decD m).snd.fst (decD m).snd.snd.fst (decD m).snd.snd.snd.fst (List.take (decD m).snd.snd.snd.snd.length (List.drop 0 (decD m).snd.snd.snd.snd))))) m then
                                 bif okE (entC L) then
                                  bif anyL noRoE (twoH (turnC (turnsOf (entsOf (entC L)))) (Con.ints IntKind.u8 (inOf (entsOf (entC L))))).es then
                                   bif okE (entC L) then
                                    bif anyL noRoE (twoH (turnC (turnsOf (entsOf (entC L)))) (Con.ints IntKind.u8 (inOf (entsOf (entC L))))).es then
                                     bif (0 + (turnsOf (entsOf (entC L))).length).ble (List.map rowT (turnsOf (entsOf (entC L)))).length && true then
                                      bif (0 + (turnsOf (entsOf (entC L))).length).ble (List.map rowT (turnsOf (entsOf (entC L)))).length && true then
                                       bif okT (Con.rows true 3 (List.take (turnsOf (entsOf (entC L))).length (List.drop 0 (List.map rowT (turnsOf (entsOf (entC L))))))) && okT (Con.rows true 3 (List.take (turnsOf (entsOf (entC L))).length (List.drop 0 (List.map rowT (turnsOf (entsOf (entC L))))))) then
                                        bif eqT (turnsAt (Con.rows true 3 (List.take (turnsOf (entsOf (entC L))).length (List.drop 0 (List.map rowT (turnsOf (entsOf (entC L)))))))) (turnsAt (Con.rows true 3 (List.take (turnsOf (entsOf (entC L))).length (List.drop 0 (List.map rowT (turnsOf (entsOf (entC L)))))))) then
                                         bif (0 + (inOf (entsOf (entC L))).length).ble (inOf (entsOf (entC L))).length && true then
                                          bif (0 + (inOf (entsOf (entC L))).length).ble (inOf (entsOf (entC L))).length && true then
                                           bif eqS (List.take (inOf (entsOf (entC L))).length (List.drop 0 (inOf (entsOf (entC L))))) (List.take (inOf (entsOf (entC L))).length (List.drop 0 (inOf (entsOf (entC L))))) then
                                            some (.val (.bool true), ⟨0, []⟩)
                                           else
                                            some (.val (.bool false), ⟨0, []⟩)
                                          else
                                           none
                                         else
                                          none
                                        else
                                         some (.val (.bool false), ⟨0, []⟩)
                                       else
                                        none
                                      else
                                       none
                                     else
                                      none
                                    else
                                     none
                                   else
                                    none
                                  else
                                   none
                                 else
                                  none
                                else
                                 some (.val (.bool false), ⟨0, []⟩)
                               else
                                none
                             else
                              none
                            else
                             none
                           else
                            bif okE (entC L) then
                             bif anyL noRoE (twoH (turnC (turnsOf (entsOf (entC L)))) (Con.ints IntKind.u8 (inOf (entsOf (entC L))))).es then
                              bif okE (entC L) then
                               bif anyL noRoE (twoH (turnC (turnsOf (entsOf (entC L)))) (Con.ints IntKind.u8 (inOf (entsOf (entC L))))).es then
                                bif (0 + (turnsOf (entsOf (entC L))).length).ble (List.map rowT (turnsOf (entsOf (entC L)))).length && true then
                                 bif (0 + (turnsOf (entsOf (entC L))).length).ble (List.map rowT (turnsOf (entsOf (entC L)))).length && true then
                                  bif okT (Con.rows true 3 (List.take (turnsOf (entsOf (entC L))).length (List.drop 0 (List.map rowT (turnsOf (entsOf (entC L))))))) && okT (Con.rows true 3 (List.take (turnsOf (entsOf (entC L))).length (List.drop 0 (List.map rowT (turnsOf (entsOf (entC L))))))) then
                                   bif eqT (turnsAt (Con.rows true 3 (List.take (turnsOf (entsOf (entC L))).length (List.drop 0 (List.map rowT (turnsOf (entsOf (entC L)))))))) (turnsAt (Con.rows true 3 (List.take (turnsOf (entsOf (entC L))).length (List.drop 0 (List.map rowT (turnsOf (entsOf (entC L)))))))) then
                                    bif (0 + (inOf (entsOf (entC L))).length).ble (inOf (entsOf (entC L))).length && true then
                                     bif (0 + (inOf (entsOf (entC L))).length).ble (inOf (entsOf (entC L))).length && true then
                                      bif eqS (List.take (inOf (entsOf (entC L))).length (List.drop 0 (inOf (entsOf (entC L))))) (List.take (inOf (entsOf (entC L))).length (List.drop 0 (inOf (entsOf (entC L))))) then
                                       some (.val (.bool true), ⟨0, []⟩)
                                      else
                                       some (.val (.bool false), ⟨0, []⟩)
                                     else
                                      none
                                    else
                                     none
                                   else
                                    some (.val (.bool false), ⟨0, []⟩)
                                  else
                                   none
                                 else
                                  none
                                else
                                 none
                               else
                                none
                              else
                               none
                             else
                              none
                            else
                             none
                          else
                           some (.val (.bool false), ⟨0, []⟩)
                         else
                          none
                       else
                        none
                      else
                       none
                     else
                      bif decE m == 0 then
                       bif (0 + (decD m).snd.snd.snd.snd.length).ble (decD m).snd.snd.snd.snd.length && true then
                        bif (List.take (decD m).snd.snd.snd.snd.length (List.drop 0 (decD m).snd.snd.snd.snd)).length.ble 1000000 then
                         bif encE (decD m).fst (decD m).snd.fst (decD m).snd.snd.fst (decD m).snd.snd.snd.fst (List.take (decD m).snd.snd.snd.snd.length (List.drop 0 (decD m).snd.snd.snd.snd)).length != 0 then
                          some (.val (.bool false), ⟨0, []⟩)
                         else
                          bif (0 + (encX (decD m).fst (decD m).snd.fst (decD m).snd.snd.fst (decD m).snd.snd.snd.fst (List.take (decD m).snd.snd.snd.snd.length (List.drop 0 (decD m).snd.snd.snd.snd))).length).ble (encX (decD m).fst (decD m).snd.fst (decD m).snd.snd.fst (decD m).snd.snd.snd.fst (List.take (decD m).snd.snd.snd.snd.length (List.drop 0 (decD m).snd.snd.snd.snd))).length && true then
                           bif eqS (List.take (encX (decD m).fst (decD m).snd.fst (decD m).snd.snd.fst (decD m).snd.snd.snd.fst (List.take (decD m).snd.snd.snd.snd.length (List.drop 0 (decD m).snd.snd.snd.snd))).length (List.drop 0 (encX (decD m).fst (decD m).snd.fst (decD m).snd.snd.fst (decD m).snd.snd.snd.fst (List.take (decD m).snd.snd.snd.snd.length (List.drop 0 (decD m).snd.snd.snd.snd))))) m then
                            bif okE (entC L) then
                             bif anyL noRoE (twoH (turnC (turnsOf (entsOf (entC L)))) (Con.ints IntKind.u8 (inOf (entsOf (entC L))))).es then
                              bif okE (entC L) then
                               bif anyL noRoE (twoH (turnC (turnsOf (entsOf (entC L)))) (Con.ints IntKind.u8 (inOf (entsOf (entC L))))).es then
                                bif (0 + (turnsOf (entsOf (entC L))).length).ble (List.map rowT (turnsOf (entsOf (entC L)))).length && true then
                                 bif (0 + (turnsOf (entsOf (entC L))).length).ble (List.map rowT (turnsOf (entsOf (entC L)))).length && true then
                                  bif okT (Con.rows true 3 (List.take (turnsOf (entsOf (entC L))).length (List.drop 0 (List.map rowT (turnsOf (entsOf (entC L))))))) && okT (Con.rows true 3 (List.take (turnsOf (entsOf (entC L))).length (List.drop 0 (List.map rowT (turnsOf (entsOf (entC L))))))) then
                                   bif eqT (turnsAt (Con.rows true 3 (List.take (turnsOf (entsOf (entC L))).length (List.drop 0 (List.map rowT (turnsOf (entsOf (entC L)))))))) (turnsAt (Con.rows true 3 (List.take (turnsOf (entsOf (entC L))).length (List.drop 0 (List.map rowT (turnsOf (entsOf (entC L)))))))) then
                                    bif (0 + (inOf (entsOf (entC L))).length).ble (inOf (entsOf (entC L))).length && true then
                                     bif (0 + (inOf (entsOf (entC L))).length).ble (inOf (entsOf (entC L))).length && true then
                                      bif eqS (List.take (inOf (entsOf (entC L))).length (List.drop 0 (inOf (entsOf (entC L))))) (List.take (inOf (entsOf (entC L))).length (List.drop 0 (inOf (entsOf (entC L))))) then
                                       some (.val (.bool true), ⟨0, []⟩)
                                      else
                                       some (.val (.bool false), ⟨0, []⟩)
                                     else
                                      none
                                    else
                                     none
                                   else
                                    some (.val (.bool false), ⟨0, []⟩)
                                  else
                                   none
                                 else
                                  none
                                else
                                 none
                               else
                                none
                              else
                               none
                             else
                              none
                            else
                             none
                           else
                            some (.val (.bool false), ⟨0, []⟩)
                          else
                           none
                        else
                         none
                       else
                        none
                      else
                       bif okE (entC L) then
                        bif anyL noRoE (twoH (turnC (turnsOf (entsOf (entC L)))) (Con.ints IntKind.u8 (inOf (entsOf (entC L))))).es then
                         bif okE (entC L) then
                          bif anyL noRoE (twoH (turnC (turnsOf (entsOf (entC L)))) (Con.ints IntKind.u8 (inOf (entsOf (entC L))))).es then
                           bif (0 + (turnsOf (entsOf (entC L))).length).ble (List.map rowT (turnsOf (entsOf (entC L)))).length && true then
                            bif (0 + (turnsOf (entsOf (entC L))).length).ble (List.map rowT (turnsOf (entsOf (entC L)))).length && true then
                             bif okT (Con.rows true 3 (List.take (turnsOf (entsOf (entC L))).length (List.drop 0 (List.map rowT (turnsOf (entsOf (entC L))))))) && okT (Con.rows true 3 (List.take (turnsOf (entsOf (entC L))).length (List.drop 0 (List.map rowT (turnsOf (entsOf (entC L))))))) then
                              bif eqT (turnsAt (Con.rows true 3 (List.take (turnsOf (entsOf (entC L))).length (List.drop 0 (List.map rowT (turnsOf (entsOf (entC L)))))))) (turnsAt (Con.rows true 3 (List.take (turnsOf (entsOf (entC L))).length (List.drop 0 (List.map rowT (turnsOf (entsOf (entC L)))))))) then
                               bif (0 + (inOf (entsOf (entC L))).length).ble (inOf (entsOf (entC L))).length && true then
                                bif (0 + (inOf (entsOf (entC L))).length).ble (inOf (entsOf (entC L))).length && true then
                                 bif eqS (List.take (inOf (entsOf (entC L))).length (List.drop 0 (inOf (entsOf (entC L))))) (List.take (inOf (entsOf (entC L))).length (List.drop 0 (inOf (entsOf (entC L))))) then
                                  some (.val (.bool true), ⟨0, []⟩)
                                 else
                                  some (.val (.bool false), ⟨0, []⟩)
                                else
                                 none
                               else
                                none
                              else
                               some (.val (.bool false), ⟨0, []⟩)
                             else
                              none
                            else
                             none
                           else
                            none
                          else
                           none
                         else
                          none
                        else
                         none
                       else
                        none
                    else
                     some (.val (.bool false), ⟨0, []⟩)
                   else
                    none
                  else
                   none
                 else
                  some (.val (.bool false), ⟨0, []⟩)
                else
                 none
               else
                none
            else
             none
           else
            none
          else
           none
         else
          none := by kernel_rfl
end Go.Ev

/- JournalCodes: the plain law. -/
set_option linter.unusedVariables false
set_option linter.unusedSimpArgs false
set_option maxRecDepth 100000
namespace Go.Ev
open Go.Proofs
theorem eqS_refl (l : List Int) : eqS l l = true := beq_self_eq_true _
theorem eqT_refl (l : List TurnD) : eqT l l = true := decide_eq_true rfl
theorem sameB_refl (k a b c : Int) (l : List Int) : sameB k a b c k a b c l l = true := by simp [sameB, eqS_refl]
theorem entB_two {k a b c : Int} {n : Nat} (h : entB k a b c n = true) (hk : k = 2) : n = 0 ∧ 0 ≤ a ∧ a < 8 ∧ 0 ≤ b ∧ b ≤ 200000 ∧ 0 ≤ c ∧ c ≤ 8 := by
  subst hk
  simp [entB, turnB] at h
  omega
theorem entB_else {k a b c : Int} {n : Nat} (h : entB k a b c n = true) (hk : k ≠ 2) : (k = 1 ∨ k = 3 ∨ k = 4) ∧ a = 0 ∧ b = 0 ∧ c = 0 ∧ n < 20000 := by
  have hk' : (k == 2) = false := by simpa using hk
  simp [entB, zeroB, hk', hk] at h
  omega
theorem u8w (x : Int) : IntKind.u8.wrap x = x % 256 := IntKind.wrap_u8 x
theorem fdiv_pos (x y : Int) (h : 0 ≤ y) : x.fdiv y = x / y := Int.fdiv_eq_ediv_of_nonneg x h
theorem bytesOk_cons (x : Int) (l : List Int) : bytesOk (x :: l) = (decide (0 ≤ x) && decide (x < 256) && bytesOk l) := by simp [bytesOk]
theorem bytesOk_w4 (x : Int) (l : List Int) (h : bytesOk l = true) : bytesOk (w4 x ++ l) = true := by
  unfold bytesOk at *
  rw [List.all_append, h]
  simp only [w4, u8w, List.all_cons, List.all_nil, Bool.and_true, Bool.and_eq_true, decide_eq_true_eq]
  omega
theorem words3 (a b c : Int) : wordsB [a, b, c] = w4 a ++ (w4 b ++ (w4 c ++ [])) := rfl
theorem enc_ok {k a b c : Int} {l : List Int} (h : entB k a b c l.length = true) (hl : bytesOk l = true) : bytesOk (encB k a b c l) = true := by
  unfold encB
  rw [bytesOk_cons, u8w]
  have h0 : (decide (0 ≤ k % 256) && decide (k % 256 < 256)) = true := by
    simp only [Bool.and_eq_true, decide_eq_true_eq]; omega
  rw [h0, Bool.true_and]
  cases hk : k == 2 with
  | true => rw [cond_true', words3]; exact bytesOk_w4 _ _ (bytesOk_w4 _ _ (bytesOk_w4 _ _ rfl))
  | false => exact hl
theorem dec_enc {k a b c : Int} {l : List Int} (h : entB k a b c l.length = true) (hl : bytesOk l = true) : decOk (encB k a b c l) = true ∧ decD (encB k a b c l) = (k, a, b, c, l) := by
  by_cases hk : k = 2
  · obtain ⟨h0, h1, h2, h3, h4, h5, h6⟩ := entB_two h hk
    have hl0 : l = [] := List.length_eq_zero_iff.1 h0
    subst hl0
    subst hk
    have e : encB 2 a b c [] = [2 % 256, a % 256, a / 256 % 256, a / 65536 % 256, a / 16777216 % 256, b % 256, b / 256 % 256, b / 65536 % 256, b / 16777216 % 256, c % 256, c / 256 % 256, c / 65536 % 256, c / 16777216 % 256] := by
      simp [encB, words3, w4, u8w, fdiv_pos]
    have kd : kdB (encB 2 a b c []) = 2 := by rw [e]; show IntKind.i64.wrap (2 % 256) = 2; rfl
    have w1 : wdB (encB 2 a b c []) 1 = a := by rw [e]; show a % 256 + a / 256 % 256 * 256 + a / 65536 % 256 * 65536 + a / 16777216 % 256 * 16777216 = a; omega
    have w5 : wdB (encB 2 a b c []) 5 = b := by rw [e]; show b % 256 + b / 256 % 256 * 256 + b / 65536 % 256 * 65536 + b / 16777216 % 256 * 16777216 = b; omega
    have w9 : wdB (encB 2 a b c []) 9 = c := by rw [e]; show c % 256 + c / 256 % 256 * 256 + c / 65536 % 256 * 65536 + c / 16777216 % 256 * 16777216 = c; omega
    have hlen : ((encB 2 a b c []).length : Int) = 13 := by rw [e]; rfl
    have ok : decOk (encB 2 a b c []) = true := by
      unfold decOk
      rw [hlen, kd, w1, w5, w9]
      exact h
    refine ⟨ok, ?_⟩
    unfold decD
    rw [ok, kd, w1, w5, w9]; rfl
  · obtain ⟨h0, rfl, rfl, rfl, h4⟩ := entB_else h hk
    have hk' : (k == 2) = false := by simpa using hk
    have e : encB k 0 0 0 l = k :: l := by
      unfold encB
      rw [hk', u8w]
      have : k % 256 = k := by omega
      rw [this]; rfl
    have kd : kdB (k :: l) = k := wrap64 _ (by show _ ≤ k; omega) (by show k < _; omega)
    have ok : decOk (k :: l) = true := by
      unfold decOk
      rw [kd, hk']
      have : (((k :: l).length : Int) == 0) = false := by simp; omega
      rw [this]
      exact h
    rw [e]
    refine ⟨ok, ?_⟩
    unfold decD
    rw [ok, kd, hk']; rfl
theorem dec_ent {m : List Int} (h : decOk m = true) : entB (decD m).1 (decD m).2.1 (decD m).2.2.1 (decD m).2.2.2.1 (decD m).2.2.2.2.length = true := by
  unfold decD
  rw [h]
  unfold decOk at h
  cases hl : ((m.length : Int) == 0) with
  | true => rw [hl] at h; cases h
  | false =>
    rw [hl] at h
    cases hk : (kdB m == 2) with
    | true => rw [hk] at h; simp only [cond_true', cond_false', Bool.and_eq_true] at h; exact h.2
    | false => rw [hk] at h; exact h
theorem getD_of {m : List Int} {i : Nat} (h : i < m.length) : m.getD i 0 = m[i] := by
  rw [List.getD_eq_getElem?_getD, List.getElem?_eq_getElem h]; rfl
theorem enc_dec {m : List Int} (hm : bytesOk m = true) (h : decOk m = true) : encB (decD m).1 (decD m).2.1 (decD m).2.2.1 (decD m).2.2.2.1 (decD m).2.2.2.2 = m := by
  have b := bytesOk_get hm
  have hpos : 0 < m.length := by
    rcases Nat.eq_zero_or_pos m.length with q | q
    · unfold decOk at h; rw [q] at h; cases h
    · exact q
  have kd : kdB m = m.getD 0 0 := wrap64 _ (by have := b 0; omega) (by have := b 0; omega)
  unfold decD
  rw [h]
  unfold decOk at h
  have hl : ((m.length : Int) == 0) = false := by simp; intro q; rw [q] at hpos; exact absurd hpos (by decide)
  rw [hl] at h
  cases hk : (kdB m == 2) with
  | true =>
    rw [hk] at h
    simp only [cond_true', cond_false', Bool.and_eq_true, beq_iff_eq] at h ⊢
    have hn : m.length = 13 := by omega
    have hk2 : m.getD 0 0 = 2 := by rw [← kd]; simpa using hk
    unfold encB
    rw [kd, hk2]
    simp only [beq_self_eq_true, cond_true', words3]
    have ew : ∀ j, w4 (wdB m j) = [m.getD j 0, m.getD (j + 1) 0, m.getD (j + 2) 0, m.getD (j + 3) 0] := by
      intro j
      have b0 := b j
      have b1 := b (j + 1)
      have b2 := b (j + 2)
      have b3 := b (j + 3)
      simp only [w4, u8w, wdB, fdiv_pos _ 256 (by decide), fdiv_pos _ 65536 (by decide), fdiv_pos _ 16777216 (by decide), List.cons.injEq, and_true]
      omega
    rw [ew, ew, ew, u8w]
    have hm13 : m = [m.getD 0 0, m.getD 1 0, m.getD 2 0, m.getD 3 0, m.getD 4 0, m.getD 5 0, m.getD 6 0, m.getD 7 0, m.getD 8 0, m.getD 9 0, m.getD 10 0, m.getD 11 0, m.getD 12 0] := by
      match m, hn with
      | [a0, a1, a2, a3, a4, a5, a6, a7, a8, a9, a10, a11, a12], _ => rfl
    conv => rhs; rw [hm13, hk2]
    rfl
  | false =>
    simp only [cond_true', cond_false']
    unfold encB
    rw [hk, kd]
    cases m with
    | nil => exact absurd hpos (by decide)
    | cons x m =>
      have b0 := b 0
      have e0 : (x :: m).getD 0 0 = x := rfl
      rw [e0] at b0 ⊢
      show IntKind.u8.wrap x :: m = x :: m
      rw [u8w]
      have : x % 256 = x := by omega
      rw [this]
theorem rowsT_noRo (P : List TurnD) : anyL (anyL noRo0) (P.map rowT) = true := by
  induction P with
  | nil => rfl
  | cons p P ih => exact ih
theorem turn_okT {P : List TurnD} (h : P.length ≤ 1000000) : okT (.rows true 3 (P.map rowT)) = true := by
  unfold okT
  simp only [Bool.and_eq_true]
  refine ⟨rfl, @decide_eq_true _ (Classical.propDecidable _) ?_, by simpa [Con.len, Nat.ble_eq] using h⟩
  intro i hi
  have hi' : i < P.length := by simpa [Con.len] using hi
  show isT ((P.map rowT).getD i []) = true
  rw [List.getD_eq_getElem?_getD, List.getElem?_map, List.getElem?_eq_getElem hi']
  rfl
theorem Try.law3 (k a b c : Int) (l m : List Int) (L : List EntD) (hl : bytesOk l = true) (hm : bytesOk m = true) (hin : (inOf L).length ≤ 1000000000) :
    rootS Try.E6 3 3 (lsumsOf []) [Try.ent k a b c (.ro (.ints .u8 l) none), .ro (.ints .u8 m) none, .ro (entC L) none] = some (.val (.bool true), ⟨0, []⟩) := by
  refine (Try.r3 k a b c l m L).trans ?_
  by_cases h1 : (l.length : Int) > 25000
  · rw [decide_eq_true h1]; rfl
  by_cases h2 : (m.length : Int) > 25000
  · rw [decide_eq_false h1, decide_eq_true h2]; rfl
  by_cases h3 : (L.length : Int) > 100
  · rw [decide_eq_false h1, decide_eq_false h2, decide_eq_true h3]; rfl
  have g1 : Nat.ble l.length 1000000 = true := ble_t (by omega)
  have g2 : Nat.ble m.length 1000000 = true := ble_t (by omega)
  have okL : okE (entC L) = true := by
    unfold okE
    rw [allE_entC, entsOf_entC]
    have e1 : Nat.ble (entC L).len 1000000 = true := ble_t (by show L.length ≤ _; omega)
    rw [e1, ble_t hin]; rfl
  have noL : anyL noRoE (twoH (turnC (turnsOf L)) (Con.ints IntKind.u8 (inOf L))).es = true := by
    show (true && (anyL (anyL noRo0) ((turnsOf L).map rowT) && true)) = true
    rw [rowsT_noRo]; rfl
  have hT := turnsOf_len L
  have okt := turn_okT (P := turnsOf L) (by omega)
  have tk : List.take (turnsOf L).length (List.map rowT (turnsOf L)) = List.map rowT (turnsOf L) := List.take_of_length_le (by simp)
  simp only [decide_eq_false h1, decide_eq_false h2, decide_eq_false h3, g1, g2, hl, hm, cond_true', cond_false', Bool.and_true, Bool.true_and, bne_self_eq_false, Nat.zero_add, ble_t (Nat.le_refl _), List.drop_zero, List.take_length, eqS_refl, sameB_refl,
    entsOf_entC, okL, noL, List.length_map, tk, okt, eqT_refl]
  have encE0 : (encE k a b c l.length == 0) = entB k a b c l.length := by unfold encE; cases entB k a b c l.length <;> rfl
  have decE0 : (decE m == 0) = decOk m := by unfold decE; cases decOk m <;> rfl
  rw [encE0, decE0]
  have hlm : ∀ x : List Int, bytesOk x = true → decOk x = true → x.length ≤ 25000 → ((decD x).2.2.2.2.length ≤ 1000000) := by
    intro x _ hx hlen
    unfold decD; rw [hx, cond_true']
    cases kdB x == 2
    · show (x.drop 1).length ≤ _; rw [List.length_drop]; omega
    · exact Nat.zero_le _
  cases hd : decOk m with
  | false =>
    simp only [cond_false']
    cases he : entB k a b c l.length with
    | false => rfl
    | true =>
      have q1 := dec_enc he hl
      have q2 := enc_ok he hl
      have ex : encX k a b c l = encB k a b c l := by unfold encX; rw [he]; rfl
      have elen : (encB k a b c l).length ≤ 1000000 := by unfold encB; cases k == 2 <;> simp [words3, w4] <;> omega
      have edec : decE (encB k a b c l) = 0 := by unfold decE; rw [q1.1]; rfl
      simp only [cond_true', ex, q2, q1.2, ble_t elen, edec, bne_self_eq_false, cond_false', Bool.and_true, sameB_refl, Nat.zero_add, ble_t (Nat.le_refl _), List.drop_zero, List.take_length]
  | true =>
    have p1 := dec_ent hd
    have p2 := enc_dec hm hd
    have p3 := hlm m hm hd (by omega)
    have px : encX (decD m).1 (decD m).2.1 (decD m).2.2.1 (decD m).2.2.2.1 (decD m).2.2.2.2 = m := by unfold encX; rw [p1]; exact p2
    have pe : encE (decD m).1 (decD m).2.1 (decD m).2.2.1 (decD m).2.2.2.1 (decD m).2.2.2.2.length = 0 := by unfold encE; rw [p1]; rfl
    simp only [cond_true', px, pe, ble_t p3, bne_self_eq_false, cond_false', Bool.and_true, Nat.zero_add, ble_t (Nat.le_refl _), List.drop_zero, List.take_length, eqS_refl]
    cases he : entB k a b c l.length with
    | false => rfl
    | true =>
      have q1 := dec_enc he hl
      have q2 := enc_ok he hl
      have ex : encX k a b c l = encB k a b c l := by unfold encX; rw [he]; rfl
      have elen : (encB k a b c l).length ≤ 1000000 := by unfold encB; cases k == 2 <;> simp [words3, w4] <;> omega
      have edec : decE (encB k a b c l) = 0 := by unfold decE; rw [q1.1]; rfl
      simp only [cond_true', ex, q2, q1.2, ble_t elen, edec, bne_self_eq_false, cond_false', Bool.and_true, sameB_refl, Nat.zero_add, ble_t (Nat.le_refl _), List.drop_zero, List.take_length]
end Go.Ev

/- What is read of arguments, as abstract values. -/
set_option linter.unusedSimpArgs false
set_option linter.unusedVariables false
set_option linter.unusedSectionVars false
namespace Go.Ev

/-- The shape of a type. -/
inductive Sh where
  | int (k : IntKind)
  | bool
  | str
  | agg (l : List Sh)
  | sl (e : Sh)

noncomputable section
mutual
def Sh.wd : Sh → Nat
  | .int _ => 1
  | .bool => 1
  | .str => 1
  | .sl _ => 1
  | .agg l => wdL l
def wdL : List Sh → Nat
  | [] => 0
  | s :: l => s.wd + wdL l
end
mutual
def shOk (P : Program) : Sh → TypeId → Bool
  | .int k, t => (match P.underlying t with | some (.int k') => decide (k' = k) | _ => false)
  | .bool, t => (match P.underlying t with | some .bool => true | _ => false)
  | .str, t => (match P.underlying t with | some .string => true | _ => false)
  | .sl e, t => (match P.underlying t with | some (.slice u) => shOk P e u && (Nat.beq (P.cellsOf u) e.wd && Nat.blt 0 e.wd) | _ => false)
  | .agg l, t => (match P.underlying t with | some (.struct fs) => Nat.beq (P.cellsOf t) (wdL l) && shOkF P l fs.toList 0 | _ => false)
def shOkF (P : Program) : List Sh → List Field → Nat → Bool
  | [], [], _ => true
  | s :: l, f :: fs, off => shOk P s f.type && (Nat.beq f.offset off && (Nat.beq (P.cellsOf f.type) s.wd && shOkF P l fs (off + s.wd)))
  | _, _, _ => false
end

section
variable {H : Type}
def intD : DataW H → Int
  | .lit (.int _ n) => n
  | _ => 0
def boolD : DataW H → Bool
  | .lit (.bool b) => b
  | _ => false
def strD : DataW H → ByteArray
  | .lit (.string l) => ⟨l.toArray⟩
  | _ => .empty
def elemsD : DataW H → List (DataW H)
  | .slice l _ => l
  | _ => []
def partsD : DataW H → List (DataW H)
  | .agg l => l
  | _ => []
mutual
/-- The cells of a value, out of what is read of it. -/
def avs : Sh → DataW H → List AV
  | .int k, d => [.val (.int k (intD d))]
  | .bool, d => [.val (.bool (boolD d))]
  | .str, d => [.val (.string (strD d))]
  | .sl (.int k), d => [.ro (.ints k ((elemsD d).map intD)) none]
  | .sl e, d => [.ro (.tab e.wd (elemsD d).length (fun i => avs e ((elemsD d).getD i .nil))) none]
  | .agg l, d => avsL l (partsD d)
def avsL : List Sh → List (DataW H) → List AV
  | [], _ => []
  | s :: l, ds => avs s (ds.headD .nil) ++ avsL l ds.tail
end
def argA : Sh → DataW H → AV
  | .agg l, d => .agg (avsL l (partsD d))
  | s, d => (avs s d).headD .unk
def argsA : List Sh → List (DataW H) → List AV
  | [], _ => []
  | s :: l, ds => argA s (ds.headD .nil) :: argsA l ds.tail
end
end

section
variable {H : Type} {enc : TypeId × Value → H} {P : Program} {w : World} {c : Cx} {sp : Nat → Bool} {held : Bool}

theorem cells_get {a : Addr} {n : Nat} {cs : List Value} (h : w.cells? 0 a n = some cs) (hn : 0 < n) : a.spot = none ∧ ∃ arr e fz, w.heap[a.block]? = some (.cells arr e fz) ∧ ∀ i, i < n → arr[a.off + i]? = cs[i]? := by
  obtain ⟨_, hl, hc⟩ := World.cells?_some h
  have h0 := hc 0 hn
  have e0 : a.add 0 = a := rfl
  rw [e0] at h0
  have hsome : ∃ v, cs[0]? = some v := ⟨cs[0]'(by omega), List.getElem?_eq_getElem (by omega)⟩
  obtain ⟨v, hv⟩ := hsome
  rw [hv] at h0
  unfold World.cell? at h0
  split at h0
  · rename_i arr e fz hb
    split at h0
    · cases h0
    · rename_i hs
      have hsn : a.spot = none := by cases hq : a.spot with | none => rfl | some x => rw [hq] at hs; exact absurd rfl hs
      refine ⟨hsn, arr, e, fz, hb, fun i hi => ?_⟩
      have := hc i hi
      unfold World.cell? at this
      have eb : (a.add i).block = a.block := by unfold Addr.add; split <;> rfl
      have eo : (a.add i).off = a.off + i := by
        unfold Addr.add; split
        · rename_i q; rw [q]; rfl
        · rfl
      have es : (a.add i).spot = none := by unfold Addr.add; split <;> first | exact hsn | rfl
      rw [eb, hb, es, eo] at this
      simpa using this
  · cases h0

theorem VRs.get2 {w : World} {c : Cx} : ∀ {l : List AV} {l' : List Value} {i : Nat} {v : AV} {u : Value}, VRs w c l l' → l[i]? = some v → l'[i]? = some u → VR w c v u
  | _, _, _, _, _, .nil, h, _ => by simp at h
  | _, _, 0, _, _, .cons a a' l l' h1 h2, h, h' => by simp at h h'; subst h; subst h'; exact h1
  | _, _, i + 1, _, _, .cons a a' l l' h1 h2, h, h' => VRs.get2 (i := i) h2 (by simpa using h) (by simpa using h')

structure Read (w : World) (c : Cx) (l : List AV) (n : Nat) (cs : List Value) : Prop where
  rel : VRs w c l cs
  len : cs.length = n
  one : ∀ v ∈ cs, v.oneCell' = true

/-- A slice, out of its elements. -/
theorem slice_read (hM : ∀ b, b < w.heap.size → c.M b) {a : Addr} {cap m : Nat} {u : TypeId} {elems : List (DataW H × List MemPlace)} (con : Con) (wd : Nat) (hcw : P.cellsOf u = wd) (hw : 0 < wd) (hcon : con.wd = wd) (hlen : con.len = elems.length) (hcap : elems.length ≤ cap)
    (hel : ∀ i, i < elems.length → (w.cells? 0 (a.add (i * P.cellsOf u)) (P.cellsOf u)).bind (DataW.trod enc P w 0 sp held m u) = elems[i]?)
    (hread : ∀ i cs y, i < elems.length → elems[i]? = some y → DataW.trod enc P w 0 sp held m u cs = some y → Read w c.none (con.row i) wd cs) : VR w c (.ro con none) (.slice (some a) elems.length cap) := by
  rw [← hlen]
  rcases Nat.eq_zero_or_pos elems.length with hz | hpos
  · exact .ro con none (some a) cap (by omega) (fun _ q => by cases q) (.inl (by omega)) (fun b o e hp => by omega)
  · have each : ∀ i, i < elems.length → ∃ cs y, w.cells? 0 (a.add (i * wd)) wd = some cs ∧ elems[i]? = some y ∧ DataW.trod enc P w 0 sp held m u cs = some y := by
      intro i hi
      have := hel i hi
      rw [hcw, List.getElem?_eq_getElem hi] at this
      rw [Option.bind_eq_some_iff] at this
      obtain ⟨cs, h1, h2⟩ := this
      exact ⟨cs, _, h1, List.getElem?_eq_getElem hi, h2⟩
    obtain ⟨cs0, y0, k1, k2, k3⟩ := each 0 hpos
    rw [Nat.zero_mul, show a.add 0 = a from rfl] at k1
    obtain ⟨hs, arr, e, fz, hb, harr⟩ := cells_get k1 hw
    have ea : a = ⟨a.block, a.off, none⟩ := by cases a; simp only at hs; subst hs; rfl
    have hlt : a.block < w.heap.size := by
      rcases Nat.lt_or_ge a.block w.heap.size with q | q
      · exact q
      · rw [Array.getElem?_eq_none q] at hb; cases hb
    have cell : ∀ i, i < elems.length → ∃ cs, Read w c.none (con.row i) wd cs ∧ ∀ j, j < wd → arr[a.off + i * wd + j]? = cs[j]? := by
      intro i hi
      obtain ⟨cs, y, h1, h2, h3⟩ := each i hi
      obtain ⟨_, arr', e', fz', hb', harr'⟩ := cells_get h1 hw
      have eb : (a.add (i * wd)).block = a.block := by unfold Addr.add; split <;> rfl
      have eo : (a.add (i * wd)).off = a.off + i * wd := by
        unfold Addr.add; split
        · rename_i q; rw [q]; rfl
        · rfl
      rw [eb, hb] at hb'
      injection hb' with hb'
      injection hb' with q1 q2 q3
      subst q1
      refine ⟨cs, hread i cs y hi h2 h3, fun j hj => ?_⟩
      have := harr' j hj
      rwa [eo] at this
    rw [ea]
    refine .ro con none _ cap (by omega) (fun _ q => by cases q) (.inr ⟨a.block, a.off, rfl, by omega⟩) ?_
    intro b o hbo hp
    injection hbo with hbo
    injection hbo with q1 q2
    subst q1; subst q2
    refine .mk con a.block a.off arr e fz (fun i j => (arr[a.off + i * wd + j]?).getD undef) (hM _ hlt) hb ?_ ?_
    · intro i j hi hj
      rw [hcon] at hj ⊢
      obtain ⟨cs, r, h2⟩ := cell i (by omega)
      have hj' : j < cs.length := by rw [r.len]; exact hj
      have := h2 j hj
      rw [List.getElem?_eq_getElem hj'] at this
      rw [this]
      exact ⟨rfl, r.one _ (List.getElem_mem hj')⟩
    · intro i j v hi hj hv
      rw [hcon] at hj
      obtain ⟨cs, r, h2⟩ := cell i (by omega)
      have hj' : j < cs.length := by rw [r.len]; exact hj
      have := h2 j hj
      rw [List.getElem?_eq_getElem hj'] at this
      simp only [this, Option.getD_some]
      exact r.rel.get2 hv (List.getElem?_eq_getElem hj')

theorem Read.append {l l' : List AV} {n n' : Nat} {cs cs' : List Value} (h : Read w c l n cs) (h' : Read w c l' n' cs') : Read w c (l ++ l') (n + n') (cs ++ cs') :=
  ⟨h.rel.append h'.rel, by rw [List.length_append, h.len, h'.len], fun v hv => (List.mem_append.1 hv).elim (h.one v) (h'.one v)⟩
theorem Read.single {v : AV} {u : Value} (h : VR w c v u) (h1 : u.oneCell' = true) : Read w c [v] 1 [u] := ⟨.cons _ _ _ _ h .nil, rfl, fun x hx => by simp at hx; subst hx; exact h1⟩

mutual
theorem read_ok : ∀ (s : Sh) {c : Cx} (hM : ∀ b, b < w.heap.size → c.M b) (t : TypeId) (fuel : Nat) (cs : List Value) (x : DataW H × List MemPlace), shOk P s t = true → DataW.trod enc P w 0 sp held fuel t cs = some x → Read w c (avs s x.1) s.wd cs
  | .int k, c, hM, t, fuel, cs, x, hs, h => by
    simp only [shOk] at hs
    split at hs
    · rename_i k' hu
      have hk := of_decide_eq_true hs
      subst hk
      obtain ⟨n, rfl, rfl, _⟩ := DataW.trod_int hu h
      simp only [avs, intD, Sh.wd]
      exact Read.single (.val _) rfl
    · cases hs
  | .bool, c, hM, t, fuel, cs, x, hs, h => by
    simp only [shOk] at hs
    split at hs
    · rename_i hu
      obtain ⟨b, rfl, rfl⟩ := DataW.trod_bool hu h
      simp only [avs, boolD, Sh.wd]
      exact Read.single (.val _) rfl
    · cases hs
  | .str, c, hM, t, fuel, cs, x, hs, h => by
    simp only [shOk] at hs
    split at hs
    · rename_i hu
      obtain ⟨b, rfl, rfl, _⟩ := DataW.trod_string hu h
      simp only [avs, strD, Sh.wd]
      exact Read.single (.val _) rfl
    · cases hs
  | .sl e, c, hM, t, fuel, cs, x, hs, h => by
    simp only [shOk] at hs
    split at hs
    · rename_i u hu
      simp only [Bool.and_eq_true] at hs
      obtain ⟨h1, h2, h3⟩ := hs
      have h2 := Nat.eq_of_beq_eq_true h2
      rw [Nat.blt_eq] at h3
      simp only [Sh.wd]
      have key : ∀ (con : Con) (es : List (DataW H)), avs (.sl e) x.1 = [.ro con none] → con.wd = e.wd → con.len = (elemsD x.1).length →
          (∀ (i : Nat) (y : DataW H × List MemPlace) (cs : List Value), (elemsD x.1)[i]? = some y.1 → Read w c.none (avs e y.1) e.wd cs → Read w c.none (con.row i) e.wd cs) → Read w c (avs (.sl e) x.1) 1 cs := by
        intro con es ha hcw hcl hrow
        rw [ha]
        rcases DataW.trod_slice hu h with ⟨rfl, rfl⟩ | ⟨a, len, cap, elems, rest, n, rfl, rfl, rfl, hb, hl, hm, hlen, hel, _, _⟩
        · refine Read.single ?_ rfl
          have h0 : con.len = 0 := hcl
          exact nz0_rel (v := .val (.slice none 0 0)) h0 (.val _)
        · refine Read.single ?_ rfl
          have he : elemsD (DataW.slice (elems.map (·.1)) (rest.map (·.1))) = elems.map (·.1) := rfl
          simp only [he] at hcl hrow
          subst hlen
          refine slice_read hM con e.wd h2 h3 hcw (by rw [hcl, List.length_map]) hl hel ?_
          intro i cs y hi hy ht
          refine hrow i y cs (by rw [List.getElem?_map, hy]; rfl) ?_
          exact read_ok e (c := c.none) hM u n cs y h1 ht
      cases e with
      | int k =>
        refine key _ [] rfl rfl (by simp [Con.len]) ?_
        intro i y cs hy hr
        simp only [avs] at hr
        have er : (Con.ints k ((elemsD x.1).map intD)).row i = [.val (.int k (intD y.1))] := by
          simp only [Con.row, List.getD_eq_getElem?_getD, List.getElem?_map, hy]
          rfl
        rw [er]; exact hr
      | bool => exact key (.tab _ _ _) [] rfl rfl rfl (fun i y cs hy hr => by simp only [Con.row, List.getD_eq_getElem?_getD, hy]; exact hr)
      | str => exact key (.tab _ _ _) [] rfl rfl rfl (fun i y cs hy hr => by simp only [Con.row, List.getD_eq_getElem?_getD, hy]; exact hr)
      | agg l => exact key (.tab _ _ _) [] rfl rfl rfl (fun i y cs hy hr => by simp only [Con.row, List.getD_eq_getElem?_getD, hy]; exact hr)
      | sl e' => exact key (.tab _ _ _) [] rfl rfl rfl (fun i y cs hy hr => by simp only [Con.row, List.getD_eq_getElem?_getD, hy]; exact hr)
    · cases hs
  | .agg l, c, hM, t, fuel, cs, x, hs, h => by
    simp only [shOk] at hs
    split at hs
    · rename_i fs hu
      simp only [Bool.and_eq_true] at hs
      obtain ⟨h1, h2⟩ := hs
      obtain ⟨xs, n, rfl, rfl, hlen, hxl, hf⟩ := DataW.trod_struct hu h
      simp only [avs, partsD, Sh.wd]
      have hwd := Nat.eq_of_beq_eq_true h1
      have := readL_ok l (c := c) hM fs.toList 0 n cs xs h2 (by simpa using hxl) (by omega) (fun i f hi => hf i f (by simpa using hi))
      simpa using this
    · cases hs
theorem readL_ok : ∀ (l : List Sh) {c : Cx} (hM : ∀ b, b < w.heap.size → c.M b) (fs : List Field) (off n : Nat) (cs : List Value) (xs : List (DataW H × List MemPlace)), shOkF P l fs off = true → xs.length = fs.length → cs.length = off + wdL l →
    (∀ (i : Nat) (f : Field), fs[i]? = some f → DataW.trod enc P w 0 sp held n f.type ((cs.drop f.offset).take (P.cellsOf f.type)) = xs[i]?) → Read w c (avsL l (xs.map (·.1))) (wdL l) (cs.drop off)
  | [], c, hM, fs, off, n, cs, xs, hs, hx, hl, hf => by
    simp only [wdL, Nat.add_zero] at hl
    simp only [avsL, wdL]
    rw [List.drop_of_length_le (by omega)]
    exact ⟨.nil, rfl, fun _ q => by cases q⟩
  | s :: l, c, hM, [], off, n, cs, xs, hs, hx, hl, hf => by simp [shOkF] at hs
  | s :: l, c, hM, f :: fs, off, n, cs, xs, hs, hx, hl, hf => by
    simp only [shOkF, Bool.and_eq_true] at hs
    obtain ⟨h1, h2, h3, h4⟩ := hs
    have h2 := Nat.eq_of_beq_eq_true h2
    have h3 := Nat.eq_of_beq_eq_true h3
    cases xs with
    | nil => simp at hx
    | cons x xs =>
      have q0 := hf 0 f rfl
      rw [h2, h3, List.getElem?_cons_zero] at q0
      have r1 := read_ok s (c := c) hM f.type n _ x h1 q0
      have r2 := readL_ok l (c := c) hM fs (off + s.wd) n cs xs h4 (by simpa using hx) (by simp only [wdL] at hl; omega) (fun i g hg => hf (i + 1) g (by simpa using hg))
      simp only [avsL, wdL, List.map_cons, List.headD_cons, List.tail_cons]
      have e : cs.drop off = (cs.drop off).take s.wd ++ cs.drop (off + s.wd) := by rw [← List.drop_drop, List.take_append_drop]
      rw [e]
      exact r1.append r2
end

def shsOk (P : Program) : List Sh → List TypeId → Bool
  | [], [] => true
  | s :: l, t :: ts => shOk P s t && shsOk P l ts
  | _, _ => false

theorem arg_read (hM : ∀ b, b < w.heap.size → c.M b) {s : Sh} {t : TypeId} {v : Value} {d : DataW H} {ps : List MemPlace} {base : Nat} (hs : shOk P s t = true) (hv : Value.okWide P w .any base t v) (h : DataW.Trod enc P w 0 sp held t v d ps) : VR w c (argA s d) v := by
  obtain ⟨fuel, h⟩ := h
  have r := read_ok (held := held) s hM t fuel _ _ hs h
  have plain : (∀ fs, P.underlying t ≠ some (.struct fs)) → (∀ n e, P.underlying t ≠ some (.array n e)) → v.cells.toList = [v] := by
    intro h1 h2
    cases v with
    | agg cs =>
      unfold Value.okWide at hv
      split at hv
      · rename_i fs hu; exact absurd hu (h1 fs)
      · rename_i n e hu; exact absurd hu (h2 n e)
      · exfalso
        unfold Cell.okWide at hv
        split at hv <;> first
          | (rename_i hq; cases hq; done)
          | (unfold Cell.ok at hv; split at hv <;> simp_all)
    | _ => rfl
  cases s with
  | int k =>
    simp only [shOk] at hs
    split at hs
    · rename_i k' hu
      rw [plain (fun fs q => by rw [hu] at q; cases q) (fun n e q => by rw [hu] at q; cases q)] at r
      have := r.rel
      simp only [avs] at this
      cases this with | cons _ _ _ _ q1 q2 => exact q1
    · cases hs
  | bool =>
    simp only [shOk] at hs
    split at hs
    · rename_i hu
      rw [plain (fun fs q => by rw [hu] at q; cases q) (fun n e q => by rw [hu] at q; cases q)] at r
      have := r.rel
      simp only [avs] at this
      cases this with | cons _ _ _ _ q1 q2 => exact q1
    · cases hs
  | str =>
    simp only [shOk] at hs
    split at hs
    · rename_i hu
      rw [plain (fun fs q => by rw [hu] at q; cases q) (fun n e q => by rw [hu] at q; cases q)] at r
      have := r.rel
      simp only [avs] at this
      cases this with | cons _ _ _ _ q1 q2 => exact q1
    · cases hs
  | sl e =>
    simp only [shOk] at hs
    split at hs
    · rename_i u hu
      rw [plain (fun fs q => by rw [hu] at q; cases q) (fun n e q => by rw [hu] at q; cases q)] at r
      have := r.rel
      show VR w c ((avs (.sl e) d).headD .unk) v
      generalize avs (.sl e) d = l at this
      cases this with | cons _ _ _ _ q1 q2 => exact q1
    · cases hs
  | agg l =>
    simp only [shOk] at hs
    split at hs
    · rename_i fs hu
      unfold Value.okWide at hv
      rw [hu] at hv
      obtain ⟨cs, rfl, _, _⟩ := hv
      have := r.rel
      simp only [avs] at this
      exact .agg _ _ this
    · cases hs

theorem args_read (hM : ∀ b, b < w.heap.size → c.M b) {base : Nat} : ∀ {shs : List Sh} {ts : List TypeId} {vs : List Value} {ds : List (DataW H)} {ps : List MemPlace}, shsOk P shs ts = true →
    (∀ (j : Nat) (t : TypeId) (v : Value), ts[j]? = some t → vs[j]? = some v → Value.okWide P w .any base t v) → DataW.TrodAll enc P w 0 sp held ts vs ds ps → VRs w c (argsA shs ds) vs
  | [], [], vs, ds, ps, _, _, h => by
    cases vs <;> cases ds <;> simp [DataW.TrodAll] at h
    exact .nil
  | s :: l, t :: ts, vs, ds, ps, hs, hv, h => by
    simp only [shsOk, Bool.and_eq_true] at hs
    cases vs <;> cases ds <;> simp [DataW.TrodAll] at h
    rename_i v vs d ds
    obtain ⟨p, h1, q, h2, _⟩ := h
    exact .cons _ _ _ _ (arg_read hM hs.1 (hv 0 t v rfl rfl) h1) (args_read hM hs.2 (fun j t v a b => hv (j + 1) t v (by simpa using a) (by simpa using b)) h2)
  | [], _ :: _, _, _, _, h, _, _ => by simp [shsOk] at h
  | _ :: _, [], _, _, _, h, _, _ => by simp [shsOk] at h
end

/-! ### What is read fits its kinds -/
section
variable {H : Type}
mutual
def wfD : Sh → DataW H → Prop
  | .int k, d => (Lit.int k (intD d)).wf = true
  | .bool, _ => True
  | .str, _ => True
  | .sl e, d => (elemsD d).length ≤ maxLen ∧ ∀ x ∈ elemsD d, wfD e x
  | .agg l, d => wfDL l (partsD d)
def wfDL : List Sh → List (DataW H) → Prop
  | [], _ => True
  | s :: l, ds => wfD s (ds.headD .nil) ∧ wfDL l ds.tail
end
variable {enc : TypeId × Value → H} {P : Program} {w : World} {sp : Nat → Bool} {held : Bool}
mutual
theorem read_wf : ∀ (s : Sh) (t : TypeId) (fuel : Nat) (cs : List Value) (x : DataW H × List MemPlace), shOk P s t = true → DataW.trod enc P w 0 sp held fuel t cs = some x → wfD s x.1
  | .int k, t, fuel, cs, x, hs, h => by
    simp only [shOk] at hs
    split at hs
    · rename_i k' hu
      have hk := of_decide_eq_true hs
      subst hk
      obtain ⟨n, rfl, rfl, hw⟩ := DataW.trod_int hu h
      simp only [wfD, intD]; exact hw
    · cases hs
  | .bool, t, fuel, cs, x, hs, h => by simp only [wfD]
  | .str, t, fuel, cs, x, hs, h => by simp only [wfD]
  | .sl e, t, fuel, cs, x, hs, h => by
    simp only [shOk] at hs
    split at hs
    · rename_i u hu
      simp only [Bool.and_eq_true] at hs
      rcases DataW.trod_slice hu h with ⟨rfl, rfl⟩ | ⟨a, len, cap, elems, rest, n, rfl, rfl, rfl, hb, hl, hm, hlen, hel, _, _⟩
      · simp only [wfD, elemsD]; exact ⟨Nat.zero_le _, fun _ q => by cases q⟩
      · simp only [wfD, elemsD]
        refine ⟨by rw [List.length_map]; omega, ?_⟩
        intro y hy
        obtain ⟨z, hz, rfl⟩ := List.mem_map.1 hy
        obtain ⟨i, hi, he⟩ := List.getElem_of_mem hz
        have := hel i (by omega)
        rw [List.getElem?_eq_getElem hi, he, Option.bind_eq_some_iff] at this
        obtain ⟨cs, _, h2⟩ := this
        exact read_wf e u n cs z hs.1 h2
    · cases hs
  | .agg l, t, fuel, cs, x, hs, h => by
    simp only [shOk] at hs
    split at hs
    · rename_i fs hu
      simp only [Bool.and_eq_true] at hs
      obtain ⟨xs, n, rfl, rfl, hlen, hxl, hf⟩ := DataW.trod_struct hu h
      simp only [wfD, partsD]
      exact readL_wf l fs.toList 0 n cs xs hs.2 (by simpa using hxl) (fun i f hi => hf i f (by simpa using hi))
    · cases hs
theorem readL_wf : ∀ (l : List Sh) (fs : List Field) (off n : Nat) (cs : List Value) (xs : List (DataW H × List MemPlace)), shOkF P l fs off = true → xs.length = fs.length →
    (∀ (i : Nat) (f : Field), fs[i]? = some f → DataW.trod enc P w 0 sp held n f.type ((cs.drop f.offset).take (P.cellsOf f.type)) = xs[i]?) → wfDL l (xs.map (·.1))
  | [], fs, off, n, cs, xs, hs, hx, hf => by simp only [wfDL]
  | s :: l, [], off, n, cs, xs, hs, hx, hf => by simp [shOkF] at hs
  | s :: l, f :: fs, off, n, cs, xs, hs, hx, hf => by
    simp only [shOkF, Bool.and_eq_true] at hs
    cases xs with
    | nil => simp at hx
    | cons x xs =>
      have q0 := hf 0 f rfl
      rw [List.getElem?_cons_zero] at q0
      simp only [wfDL, List.map_cons, List.headD_cons, List.tail_cons]
      exact ⟨read_wf s f.type n _ x hs.1 q0, readL_wf l fs (off + s.wd) n cs xs hs.2.2.2 (by simpa using hx) (fun i g hg => hf (i + 1) g (by simpa using hg))⟩
end
theorem args_wf : ∀ {shs : List Sh} {ts : List TypeId} {vs : List Value} {ds : List (DataW H)} {ps : List MemPlace}, shsOk P shs ts = true → DataW.TrodAll enc P w 0 sp held ts vs ds ps → wfDL shs ds ∧ ds.length = shs.length
  | [], [], vs, ds, ps, _, h => by
    cases vs <;> cases ds <;> simp [DataW.TrodAll] at h
    exact ⟨by simp only [wfDL], rfl⟩
  | s :: l, t :: ts, vs, ds, ps, hs, h => by
    simp only [shsOk, Bool.and_eq_true] at hs
    cases vs <;> cases ds <;> simp [DataW.TrodAll] at h
    rename_i v vs d ds
    obtain ⟨p, ⟨n, h1⟩, q, h2, _⟩ := h
    obtain ⟨k1, k2⟩ := args_wf hs.2 h2
    refine ⟨?_, by simp [k2]⟩
    simp only [wfDL, List.headD_cons, List.tail_cons]
    exact ⟨read_wf s t n _ _ hs.1 h1, k1⟩
  | [], _ :: _, _, _, _, h, _ => by simp [shsOk] at h
  | _ :: _, [], _, _, _, h, _ => by simp [shsOk] at h
end

/-! ### The row -/
section
variable {H : Type} {enc : TypeId × Value → H} {P : Program}

theorem sameAt_of {w w' : World} (hsz : ∀ b, b < w.heap.size → w'.heap[b]? = w.heap[b]?) {p : MemPlace} (hp : p.block < w.heap.size) : w.sameAt w' p := by
  cases p with
  | cell b off => show w'.cell? _ = w.cell? _; unfold World.cell?; rw [hsz b hp]
  | map b => exact hsz b hp

theorem trodAll_carry {w w' : World} {base : Nat} {sp : Nat → Bool} {held : Bool} : ∀ {ts : List TypeId} {vs : List Value} {ds : List (DataW H)} {ps : List MemPlace}, DataW.TrodAll enc P w base sp held ts vs ds ps → (∀ p ∈ ps, w.sameAt w' p) → DataW.TrodAll enc P w' base sp held ts vs ds ps
  | [], [], [], _, h, _ => h
  | _ :: _, _ :: _, _ :: _, _, ⟨p, q, ⟨n, h1⟩, h2, e⟩, hs => ⟨p, q, ⟨n, DataW.trod_carry n _ _ _ h1 (fun x hx => hs x (by rw [e]; exact List.mem_append_left _ hx))⟩, trodAll_carry h2 (fun x hx => hs x (by rw [e]; exact List.mem_append_right _ hx)), e⟩

/-- What a law's call leaves: its answer is 'true', and what was read reads as it did. -/
theorem law_post {f : Func} {s : ChangeSpec} {apart fresh handsOn again : Bool} {W W' : World} {args : Array Value} {ds : List (DataW H)} {before : List MemPlace} {b : TypeId}
    (kids : Kids P (· < P.types.size)) (full : ∀ t e, t < P.types.size → P.underlying t = some (.slice e) → 0 < P.cellsOf e)
    (hts : ∀ t ∈ f.params.toList, t < P.types.size) (hvars : s.vars = []) (hb : P.underlying b = some .bool) (hrt : f.resultTypes = #[b])
    (hfn : s.fn H (ds ++ []) = { results := [.lit (.bool true)], args := ds })
    (hW : DataW.Whole enc P f.params.toList s.vars apart W args.toList ds [] before)
    (hkeep : ∀ i, i < W.heap.size → W'.heap[i]? = W.heap[i]?) (hos : W'.os = W.os) (hout : W'.output = W.output) :
    s.post enc P f apart fresh handsOn again W args (.bool true) W' := by
  have hW0 := hW
  obtain ⟨p, q, hA, hV, hpq, hfz, hnd⟩ := hW
  rw [hvars] at hV
  obtain rfl : q = [] := hV
  have hbp : before = p := by rw [hpq, List.append_nil]
  have hlt : ∀ x ∈ before, x.block < W.heap.size := fun x hx => hA.lt x (by rw [← hbp]; exact hx)
  have hA' : DataW.TrodAll enc P W' 0 (fun _ => true) true f.params.toList args.toList ds p := trodAll_carry hA (fun x hx => sameAt_of hkeep (hlt x (by rw [hbp]; exact hx)))
  have hsz : f.resultTypes.size = 1 := by rw [hrt]; rfl
  have hres : ∀ (b' : Nat) (sp : Nat → Bool) (hd : Bool), DataW.TrodAll enc P W' b' sp hd f.resultTypes.toList ((Value.bool true).resultList f.resultTypes.size) (s.fn H (ds ++ [])).results [] := by
    intro b' sp hd
    rw [hfn, hsz, hrt]
    exact ⟨[], [], ⟨1, by show DataW.trod enc P W' b' sp hd 1 b [.bool true] = _; unfold DataW.trod; rw [hb]⟩, rfl, rfl⟩
  have hold : ∀ x ∈ before, (fun b => decide (b < W.heap.size)) x.block = true := fun x hx => by simpa using hlt x hx
  have hargs : ∀ sp : Nat → Bool, (∀ x ∈ before, sp x.block = true) → DataW.TrodAll enc P W' 0 sp true f.params.toList args.toList (s.fn H (ds ++ [])).args p := by
    intro sp hs
    rw [hfn]
    exact DataW.TrodAll.respare kids full hts hA' (fun x hx => hs x (by rw [hbp]; exact hx))
  have hvs : ∀ sp : Nat → Bool, DataW.TrodVars enc P W' sp s.vars (s.fn H (ds ++ [])).vars [] := by
    intro sp; rw [hfn, hvars]; rfl
  have hok : ∀ (j : Nat) (t : TypeId) (r : Value), f.resultTypes[j]? = some t → ((Value.bool true).resultList f.resultTypes.size)[j]? = some r → Value.okWide P W' .any 0 t r := by
    intro j t r h1 h2
    rw [hsz] at h2
    rw [hrt] at h1
    have e1 : (Value.bool true).resultList 1 = [.bool true] := rfl
    rw [e1] at h2
    cases j with
    | succ j => simp at h2
    | zero =>
      simp at h1 h2
      subst h1; subst h2
      simp [Value.okWide, hb, Cell.okWide, Cell.ok]
  have hk : W.keptBut W' (· ∈ before) := by
    refine ⟨hos, hout, fun i hi => ?_⟩
    rw [hkeep i hi]
    cases hh : W.heap[i]? with
    | none => rfl
    | some o => cases o with
      | cells c t fr => exact ⟨rfl, rfl, rfl, fun _ _ => rfl⟩
      | map es clock => exact .inr ⟨rfl, rfl⟩
      | _ => rfl
  refine ⟨ds, [], before, [], p, [], hW0, hres _ _ _, hargs _ hold, hvs _, World.keptBut_mono (fun x hx => ⟨hx, ?_⟩) hk, fun _ => ?_⟩
  · rw [hbp] at hx
    exact Or.inr (Or.inl hx)
  · refine ⟨hok, _, _, ([] ++ p) ++ [], ⟨[] ++ p, [], Go.ChangeShapes.trodAll_append (hargs _ (fun _ _ => rfl)) (hres _ _ _), hvs _, rfl, ?_, ?_⟩, ?_⟩
    · intro b off hx
      have hx' : MemPlace.cell b off ∈ before := by rw [hbp]; simpa using hx
      have := hfz b off hx'
      have hbl := hlt _ hx'
      have e : W'.frozen? ⟨b, off, none⟩ = W.frozen? ⟨b, off, none⟩ := by unfold World.frozen?; rw [hkeep b hbl]
      rw [e]; exact this
    · intro ha
      have := hnd ha
      rw [hbp] at this
      simpa using this
    · intro x hx _
      rw [hbp]
      simpa using hx

/-- **A law's contract**, out of what it answers where it is alone. -/
theorem law_calls {f : FuncId} {fn : Func} {s : ChangeSpec} {apart fresh handsOn again : Bool} {W : World} {base : Nat} {args : Array Value} {ds : List (DataW H)} {before : List MemPlace} {b : TypeId} {shs : List Sh} {h2 : Heap}
    (kids : Kids P (· < P.types.size)) (full : ∀ t e, t < P.types.size → P.underlying t = some (.slice e) → 0 < P.cellsOf e)
    (hts : (fn.params.toList.all fun t => decide (t < P.types.size)) = true) (hvars : s.vars = []) (hb : P.underlying b = some .bool) (hrt : fn.resultTypes = #[b])
    (hfn : s.fn H (ds ++ []) = { results := [.lit (.bool true)], args := ds })
    (hsh : shsOk P shs fn.params.toList = true)
    (hval : ∀ (j : Nat) (t : TypeId) (v : Value), fn.params[j]? = some t → args[j]? = some v → Value.okWide P W .any base t v)
    (hW : DataW.Whole enc P fn.params.toList s.vars apart W args.toList ds [] before)
    (hal : Alone P f (argsA shs ds) (.val (.bool true)) h2) :
    Calls P f args W fun e W' => ∃ v, e = .returned v ∧ s.post enc P fn apart fresh handsOn again W args v W' := by
  obtain ⟨p, q, hA, _⟩ := id hW
  have hv : VRs W (Cx.lent W) (argsA shs ds) args.toList := args_read (c := Cx.lent W) (fun b hb => hb) hsh (fun j t v h1 h2 => hval j t v (by simpa using h1) (by simpa using h2)) hA
  have hr : HR W (Cx.lent W) heap0.G := ⟨fun id b hb => by simp [Heap.G, heap0] at hb, fun id b hb => by simp [Heap.G, heap0] at hb, fun i j b b' hb => by simp [Heap.G, heap0] at hb, fun b hb => ⟨fun q => q, hb⟩⟩
  have := callsIn_wide.1 (hal.2 W (Cx.lent W) args.toList hr hv (fun _ q => q))
  rw [show args.toList.toArray = args from by simp] at this
  refine this.mono ?_
  rintro e W' ⟨v', rfl, c', k1, k2, k3, k4⟩
  have := k1.val_inv
  subst this
  exact ⟨_, rfl, law_post kids full (fun t ht => by simpa using List.all_eq_true.1 hts t ht) hvars hb hrt hfn hW (fun i hi => k2.keep i hi (fun q => q)) k2.os k2.output⟩
end
end Go.Ev
