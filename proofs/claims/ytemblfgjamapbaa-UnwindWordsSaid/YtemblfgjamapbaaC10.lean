/- The evaluator, its soundness and the walks: part 10. -/
import Derived.Test.YtemblfgjamapbaaC9
set_option linter.unusedSectionVars false
set_option linter.unusedSimpArgs false
set_option linter.unusedVariables false
set_option maxRecDepth 100000
set_option maxRecDepth 1000000
noncomputable section
/- Walks: frame pointers. -/
namespace Go.Ev
open Go.Proofs
abbrev UlD := Int × Int × Int
def ulRow (p : UlD) : List AV := [.val (.int .u32 p.1), .val (.int .u32 p.2.1), .val (.int .u32 p.2.2)]
def ulParse : List AV → UlD
  | [.val (.int .u32 a), .val (.int .u32 b), .val (.int .u32 c)] => (a, b, c)
  | _ => (0, 0, 0)
def ulIs : List AV → Bool
  | [.val (.int .u32 a), .val (.int .u32 b), .val (.int .u32 c)] => true
  | _ => false
theorem ul_law (r : List AV) (h : ulIs r = true) (j : Nat) (v' : AV) (hv : (ulRow (ulParse r))[j]? = some v') : ∃ v, r[j]? = some v ∧ AW v v' := by
  unfold ulIs at h
  split at h
  · exact ⟨v', hv, AW.refl _⟩
  · cases h
def UL : RowTy UlD := ⟨3, ulRow, ulParse, ulIs, (0, 0, 0), ul_law, fun _ => rfl, fun _ => rfl⟩
def Try.E65 (l : List PgD) : Env := Try.env0 false (sumsOf [(70, Try.A70 l), (24, Try.A24 l)]) (keepF 65 [(1, [0, 1, 2])])
def Try.b65 : Code := nthD .skip (loopsOf (bodyOf (Try.E65 []) 65)) 0
def wkE (l : List PgD) (links : AV) (low : Int) : Ent := ⟨0, 0, .cells (.rows (noOwn0 links) 3 [[memV l, links, .val (.int .u64 low)]])⟩
def Try.B65 (l : List PgD) (p : Nat) (s : St) : Option (AX × St) := codeP (Try.E65 l) (callF (Try.E65 l) 5) ((Try.E65 l).keep 65) (lsumsOf []) p Try.b65 (outKP p [0, 1, 2] [6]) s
def nilL : AV := .val (.slice none 0 0)
def wkN (l : List PgD) (low : Int) : Heap := ⟨1, [wkE l nilL low]⟩
def wkO (p : Nat) (l : List PgD) (low : Int) (n : Nat) (con : Con) : Heap := ⟨p + 1, [⟨p, 0, .cells con⟩, wkE l (.own p 0 n none 3) low]⟩
def up4 (a : Int) : Int := IntKind.u32.wrap (a + 4)
def up8 (f : Int) : Int := IntKind.u64.wrap (IntKind.u64.wrap f + 8)
def wOk (l : List PgD) (a : Int) : Bool := !(pcE l 1 a 4).2.2
def wd (l : List PgD) (a : Int) : Int := wordB (rdE l a 4) 0
def fndB (l : List PgD) (a : Int) : Bool := wOk l a && siteB l (wd l a)
def fndL (l : List PgD) (a : Int) : UlD := (a, wd l a, siteA l (wd l a))
def in4 {α : Type} (O : List Int) (x : Option α) : Option α := bif inR 0 O.length then (bif inR 1 O.length then (bif inR 2 O.length then (bif inR 3 O.length then x else none) else none) else none) else none
def stop65 (H : Heap) (k : Int) : Option (AX × St) := some (.ret, stOf 75 [6] [.val (.int .i64 k)] H)
def Try.q65 (l : List PgD) (low f most n : Int) (H : Heap) (nx : Option (AX × St)) : Option (AX × St) :=
  bif n == most then stop65 H 1 else bif f == 0 then stop65 H 2 else bif f.tmod 4 != 0 then stop65 H 3 else bif decide (IntKind.u64.wrap f < low) then stop65 H 4 else
  gdM l f (bif (pcE l 1 f 4).2.2 then gdM l f (bif (pcE l 1 f 8).2.2 then stop65 H 5 else stop65 H 5)
   else in4 (rdE l f 4) (gdM l f (bif (pcE l 1 f 8).2.2 then stop65 H 5 else bif decide (up8 f > 4294967296) then stop65 H 5
    else gdM l (up4 f) (bif (pcE l 1 (up4 f) 4).2.2 then stop65 H 6 else in4 (rdE l (up4 f) 4) (bif isV (memV l) (memV l) then (bif siteB l (wd l (up4 f)) then nx else stop65 H 6) else none)))))
def Try.s65 (f most : Int) (H : Heap) : St := stOf 75 [0, 1, 2] [.ptr 0 0 0, .val (.int .u32 f), .val (.int .i64 most)] H
theorem Try.r65a (l : List PgD) (low f most : Int) : Try.B65 l 1 (Try.s65 f most (wkN l low)) =
 Try.q65 l low f most 0 (wkN l low) (some (.normal, Try.s65 (wd l f) most (wkO 1 l (up8 f) 1 (.rows true 3 [ulRow (fndL l (up4 f))])))) := by kernel_rfl
def ulCat (O : List UlD) (x : UlD) : Con := .tab 3 (O.length + 1) (fun i => bif i.blt O.length then UL.row (O.getD (0 + i) UL.z) else [ulRow x].getD (i - O.length) [])
def Try.n65 (l : List PgD) (p : Nat) (low f most : Int) (O : List UlD) : Option (AX × St) :=
  bif (0 + O.length).ble O.length then (bif ((O.length + 1) * 12).ble Ev.most && (O.length + 1).ble Ev.most then some (.normal, Try.s65 (wd l f) most (wkO p l (up8 f) (O.length + 1) (ulCat O (fndL l (up4 f))))) else none) else none
theorem Try.r65_11 (l : List PgD) (low f most : Int) (O : List UlD) : Try.B65 l 1 (Try.s65 f most (wkO 1 l low O.length (UL.con O))) =
 Try.q65 l low f most O.length (wkO 1 l low O.length (UL.con O)) (Try.n65 l 1 low f most O) := by kernel_rfl
theorem Try.r65_21 (l : List PgD) (low f most : Int) (O : List UlD) : Try.B65 l 2 (Try.s65 f most (wkO 1 l low O.length (UL.con O))) =
 Try.q65 l low f most O.length (wkO 1 l low O.length (UL.con O)) (Try.n65 l 2 low f most O) := by kernel_rfl
theorem Try.r65_22 (l : List PgD) (low f most : Int) (O : List UlD) : Try.B65 l 2 (Try.s65 f most (wkO 2 l low O.length (UL.con O))) =
 Try.q65 l low f most O.length (wkO 2 l low O.length (UL.con O)) (Try.n65 l 2 low f most O) := by kernel_rfl
end Go.Ev
/- Walks: the walk, as a summary. -/
namespace Go.Ev
open Go.Proofs
def wk5 (l : List PgD) (f : Int) : Bool := (pcE l 1 f 4).2.2 || ((pcE l 1 f 8).2.2 || decide (up8 f > 4294967296))
def wkStop (l : List PgD) (low f most n : Int) : Int :=
  bif n == most then 1 else bif f == 0 then 2 else bif f.tmod 4 != 0 then 3 else bif decide (IntKind.u64.wrap f < low) then 4 else bif wk5 l f then 5 else bif fndB l (up4 f) then 0 else 6
def wkGo (l : List PgD) (low f most n : Int) : Bool := wkStop l low f most n == 0
def walkM (l : List PgD) (most : Int) : Nat → Int → Int → List UlD → Int × Int × List UlD
  | 0, low, f, O => (wkStop l low f most O.length, low, O)
  | k + 1, low, f, O => bif wkGo l low f most O.length then walkM l most k (up8 f) (wd l f) (O ++ [fndL l (up4 f)]) else (wkStop l low f most O.length, low, O)
theorem in4_eq {α : Type} {O : List Int} (h : O.length = 4) (x : Option α) : in4 O x = x := by
  unfold in4
  rw [h]; rfl
theorem q65_eq (l : List PgD) (low f most n : Int) (hf : 0 ≤ f) (H : Heap) (nx : Option (AX × St)) : Try.q65 l low f most n H nx = bif wkGo l low f most n then nx else stop65 H (wkStop l low f most n) := by
  unfold Try.q65 wkGo wkStop
  rw [gdM_eq l hf, gdM_eq l hf, gdM_eq l hf, gdM_eq l (show 0 ≤ up4 f from u32_nn _), in4_eq (by rw [rdE_len l hf (by omega)]; rfl), in4_eq (by rw [rdE_len l (show 0 ≤ up4 f from u32_nn _) (by omega)]; rfl), isV_refl]
  unfold wk5 fndB wOk
  cases n == most
  · cases f == 0
    · cases f.tmod 4 != 0
      · cases decide (IntKind.u64.wrap f < low)
        · cases (pcE l 1 f 4).2.2
          · cases (pcE l 1 f 8).2.2
            · cases decide (up8 f > 4294967296)
              · cases (pcE l 1 (up4 f) 4).2.2
                · cases siteB l (wd l (up4 f)) <;> rfl
                · rfl
              · rfl
            · rfl
          · cases (pcE l 1 f 8).2.2 <;> rfl
        · rfl
      · rfl
    · rfl
  · rfl
theorem wd_nn (l : List PgD) (a : Int) : 0 ≤ wd l a := u32_nn _
theorem wkGo_most {l : List PgD} {low f most n : Int} (h : wkGo l low f most n = true) : n ≠ most := by
  rintro rfl
  unfold wkGo wkStop at h
  rw [beq_self_eq_true] at h
  cases h
theorem ul_one (x : UlD) : ConW (.rows true 3 [ulRow x]) (UL.con [x]) := ⟨rfl, rfl, fun i hi j v' hv => by
  have hi' : i < 1 := hi
  have : i = 0 := by omega
  subst this
  exact ⟨v', hv, AW.refl _⟩⟩
theorem ul_snoc (O : List UlD) (x : UlD) : ConW (ulCat O x) (UL.con (O ++ [x])) := by
  refine ⟨rfl, by show (O ++ [x]).length = O.length + 1; simp, fun i hi j v' hv => ⟨v', ?_, AW.refl _⟩⟩
  have hi' : i < O.length + 1 := hi
  have hv' : (UL.row ((O ++ [x]).getD i UL.z))[j]? = some v' := hv
  show (bif i.blt O.length then UL.row (O.getD (0 + i) UL.z) else [ulRow x].getD (i - O.length) [])[j]? = some v'
  rcases Nat.lt_or_ge i O.length with q | q
  · rw [blt_t q, cond_true, Nat.zero_add]
    rw [List.getD_eq_getElem?_getD, List.getElem?_append_left q, ← List.getD_eq_getElem?_getD] at hv'
    exact hv'
  · have e : i = O.length := by omega
    subst e
    rw [blt_f (Nat.le_refl _), cond_false, Nat.sub_self]
    rw [List.getD_eq_getElem?_getD, List.getElem?_append_right (Nat.le_refl _), Nat.sub_self] at hv'
    exact hv'
structure WkT where
  k : Nat
  low : Int
  f : Int
  O : List UlD
def wkS (l : List PgD) (low : Int) : List UlD → Heap
  | [] => wkN l low
  | x :: O => wkO 1 l low (x :: O).length (UL.con (x :: O))
def Try.X65 (l : List PgD) (most : Int) (t : Int × Int × List UlD) : AX × St := (.ret, stOf 75 [6] [.val (.int .i64 t.1)] (wkS l t.2.1 t.2.2))
theorem wkN_ok (l : List PgD) (low : Int) : (wkN l low).ok := heap_ok [0] rfl (by decide) (by decide)
theorem wkO1_ok (l : List PgD) (low : Int) (n : Nat) (con : Con) : (wkO 1 l low n con).ok := heap_ok [1, 0] rfl (by decide) (by decide)
theorem wkO2_ok (l : List PgD) (low : Int) (n : Nat) (con : Con) : (wkO 2 l low n con).ok := heap_ok [2, 0] rfl (by decide) (by decide)
theorem wkS_ok (l : List PgD) (low : Int) (O : List UlD) : (wkS l low O).ok := by
  cases O
  · exact wkN_ok _ _
  · exact wkO1_ok _ _ _ _
theorem wkS_snoc (l : List PgD) (low : Int) (O : List UlD) (x : UlD) : wkS l low (O ++ [x]) = wkO 1 l low (O.length + 1) (UL.con (O ++ [x])) := by
  have e : ∀ L : List UlD, L ≠ [] → wkS l low L = wkO 1 l low L.length (UL.con L) := fun L h => by
    cases L with
    | nil => exact absurd rfl h
    | cons => rfl
  rw [e _ (by simp), List.length_append]; rfl
theorem Try.r65n (l : List PgD) (low f most : Int) (hf : 0 ≤ f) (O : List UlD) (hO : O.length ≤ 1000) : ∃ s1, Try.B65 l 1 (Try.s65 f most (wkS l low O)) = (bif wkGo l low f most O.length then some (.normal, s1) else stop65 (wkS l low O) (wkStop l low f most O.length)) ∧ WeakQ 1 s1 (Try.s65 (wd l f) most (wkS l (up8 f) (O ++ [fndL l (up4 f)]))) := by
  rw [wkS_snoc]
  cases O with
  | nil =>
    refine ⟨_, (Try.r65a l low f most).trans (q65_eq l low f most 0 hf _ _), ?_⟩
    exact WeakQ.heap (wkO1_ok _ _ _ _) (.con 1 0 0 rfl (ul_one _) (EsW.refl _))
  | cons x O =>
    refine ⟨Try.s65 (wd l f) most (wkO 1 l (up8 f) ((x :: O).length + 1) (ulCat (x :: O) (fndL l (up4 f)))), (Try.r65_11 l low f most (x :: O)).trans ((q65_eq l low f most _ hf _ _).trans ?_), WeakQ.heap (wkO1_ok _ _ _ _) (.con 1 0 0 rfl (ul_snoc (x :: O) _) (EsW.refl _))⟩
    have hm := most_eq
    unfold Try.n65
    rw [Nat.zero_add, ble_t (Nat.le_refl _), ble_t (show ((x :: O).length + 1) * 12 ≤ Ev.most by omega), ble_t (show (x :: O).length + 1 ≤ Ev.most by omega)]
    rfl
theorem Try.e65 (l : List PgD) (hl : okB l) : EnvOk2 Try.prog (Try.E65 l) := Try.envOk false (sumsOf [(70, Try.A70 l), (24, Try.A24 l)]) _ (sumsOf_ok (show AllS Try.prog [(70, Try.A70 l), (24, Try.A24 l)] from ⟨Try.sum70 l, Try.sum24 l hl, trivial⟩))
theorem walkM_go {l : List PgD} {most : Int} {k : Nat} {low f : Int} {O : List UlD} (h : wkGo l low f most O.length = true) : walkM l most (k + 1) low f O = walkM l most k (up8 f) (wd l f) (O ++ [fndL l (up4 f)]) := by
  show (bif wkGo l low f most O.length then _ else _) = _
  rw [h]; rfl
theorem walkM_no {l : List PgD} {most : Int} {k : Nat} {low f : Int} {O : List UlD} (h : wkGo l low f most O.length = false) : walkM l most k low f O = (wkStop l low f most O.length, low, O) := by
  cases k with
  | zero => rfl
  | succ k => show (bif wkGo l low f most O.length then _ else _) = _; rw [h]; rfl
def wkR (l : List PgD) (most low f : Int) : Int × Int × List UlD := walkM l most most.toNat low f []
def Try.L65n (l : List PgD) (most low f : Int) : LSum := atL (Try.s65 f most (wkN l low)) (.grd (decide (0 ≤ f) && (decide (0 ≤ most) && decide (most ≤ 1000))) (.out (Try.X65 l most (wkR l most low f))))
theorem Try.l65n (l : List PgD) (hl : okB l) (most low f : Int) : ∀ s x s', s.h.ok → (Try.L65n l most low f s).run = some (x, s') → TripleQ Try.prog 1 (.loop Try.b65) s x s' := by
  intro s x s' hk hL
  obtain ⟨rfl, hA⟩ := atL_some hL
  rw [Ans.run_grd] at hA
  cases hd : (decide (0 ≤ f) && (decide (0 ≤ most) && decide (most ≤ 1000))) with
  | false => rw [hd] at hA; cases hA
  | true =>
  rw [hd, cond_true] at hA
  simp only [Bool.and_eq_true, decide_eq_true_eq] at hd
  obtain ⟨hf, h0, h1⟩ := hd
  have he := Try.e65 l hl
  have hX := codeQ_sound (ρ := AX × St) (p := 1) (callF_sound he 5) he.ok he.mix ((Try.E65 l).keep 65) (lsumsOf []) Try.b65 trivial
  have key := loop_tripleQ hX [0,1,2] [6] (T := WkT) (fun t => Try.s65 t.f most (wkS l t.low t.O)) (fun t => 0 ≤ t.f ∧ t.O.length + t.k = most.toNat) (fun t => t.k) (fun t => Try.X65 l most (walkM l most t.k t.low t.f t.O)) (fun t _ => wkS_ok _ _ _) (fun t ht => by
    obtain ⟨k, low, f, O⟩ := t
    obtain ⟨h2, h3⟩ := ht
    replace h2 : 0 ≤ f := h2
    replace h3 : O.length + k = most.toNat := h3
    obtain ⟨s1, r, hw⟩ := Try.r65n l low f most h2 O (by omega)
    cases hg : wkGo l low f most O.length with
    | true =>
      rw [hg] at r
      have := wkGo_most hg
      obtain ⟨k, rfl⟩ : ∃ j, k = j + 1 := ⟨k - 1, by omega⟩
      refine .inl ⟨⟨k, up8 f, wd l f, O ++ [fndL l (up4 f)]⟩, s1, r, hw, ⟨wd_nn l f, ?_⟩, by show k < k + 1; omega, ?_⟩
      · show (O ++ [fndL l (up4 f)]).length + k = most.toNat
        rw [List.length_append]
        show O.length + 1 + k = _
        omega
      · show Try.X65 l most (walkM l most k (up8 f) (wd l f) (O ++ [fndL l (up4 f)])) = Try.X65 l most (walkM l most (k + 1) low f O)
        rw [walkM_go hg]
    | false =>
      rw [hg] at r
      refine .inr ?_
      show ∃ _, _
      rw [walkM_no hg]
      exact ⟨_, r, WeakQ.refl (wkS_ok _ _ _), by show AX.ret ≠ .normal; simp⟩) ⟨most.toNat, low, f, []⟩ ⟨hf, by show ([] : List UlD).length + most.toNat = most.toNat; simp⟩
  have hz : Try.X65 l most (walkM l most most.toNat low f []) = (x, s') := Option.some.inj hA
  simp only [hz] at key
  exact key
end Go.Ev
/- Walks: the walk's loop, from one frame; summaries. -/
namespace Go.Ev
open Go.Proofs
def wkU (l : List PgD) (low : Int) (O : List UlD) : Heap := bif Nat.beq O.length 1 then wkO 1 l low O.length (UL.con O) else wkO 2 l low O.length (UL.con O)
def Try.Y65 (l : List PgD) (most : Int) (t : Int × Int × List UlD) : AX × St := (.ret, stOf 75 [6] [.val (.int .i64 t.1)] (wkU l t.2.1 t.2.2))
theorem wkU_ok (l : List PgD) (low : Int) (O : List UlD) : (wkU l low O).ok := by
  unfold wkU
  cases Nat.beq O.length 1
  · exact wkO2_ok _ _ _ _
  · exact wkO1_ok _ _ _ _
theorem Try.r65o (l : List PgD) (low f most : Int) (hf : 0 ≤ f) (O : List UlD) (h1 : 1 ≤ O.length) (hO : O.length ≤ 1000) : ∃ s1, Try.B65 l 2 (Try.s65 f most (wkU l low O)) = (bif wkGo l low f most O.length then some (.normal, s1) else stop65 (wkU l low O) (wkStop l low f most O.length)) ∧ WeakQ 2 s1 (Try.s65 (wd l f) most (wkU l (up8 f) (O ++ [fndL l (up4 f)]))) := by
  have e : wkU l (up8 f) (O ++ [fndL l (up4 f)]) = wkO 2 l (up8 f) (O.length + 1) (UL.con (O ++ [fndL l (up4 f)])) := by
    unfold wkU
    rw [List.length_append]
    show (bif Nat.beq (O.length + 1) 1 then _ else _) = _
    rw [beqF (show O.length + 1 ≠ 1 by omega)]; rfl
  rw [e]
  have hm := most_eq
  have hn : Try.n65 l 2 low f most O = some (.normal, Try.s65 (wd l f) most (wkO 2 l (up8 f) (O.length + 1) (ulCat O (fndL l (up4 f))))) := by
    unfold Try.n65
    rw [Nat.zero_add, ble_t (Nat.le_refl _), ble_t (show (O.length + 1) * 12 ≤ Ev.most by omega), ble_t (show O.length + 1 ≤ Ev.most by omega)]
    rfl
  refine ⟨Try.s65 (wd l f) most (wkO 2 l (up8 f) (O.length + 1) (ulCat O (fndL l (up4 f)))), ?_, WeakQ.heap (wkO2_ok _ _ _ _) (.con 2 0 0 rfl (ul_snoc O _) (EsW.refl _))⟩
  unfold wkU
  cases Nat.beq O.length 1
  · have := Try.r65_22 l low f most O
    rw [q65_eq l low f most _ hf, hn] at this
    exact this
  · have := Try.r65_21 l low f most O
    rw [q65_eq l low f most _ hf, hn] at this
    exact this
def wkR1 (l : List PgD) (most low f : Int) (x : UlD) : Int × Int × List UlD := walkM l most (most.toNat - 1) low f [x]
def Try.L65o (l : List PgD) (most low f : Int) (x : UlD) : LSum := atL (Try.s65 f most (wkO 1 l low 1 (UL.con [x]))) (.grd (decide (0 ≤ f) && (decide (1 ≤ most) && decide (most ≤ 1000))) (.out (Try.Y65 l most (wkR1 l most low f x))))
theorem Try.l65o (l : List PgD) (hl : okB l) (most low f : Int) (x0 : UlD) : ∀ s x s', s.h.ok → (Try.L65o l most low f x0 s).run = some (x, s') → TripleQ Try.prog 2 (.loop Try.b65) s x s' := by
  intro s x s' hk hL
  obtain ⟨rfl, hA⟩ := atL_some hL
  rw [Ans.run_grd] at hA
  cases hd : (decide (0 ≤ f) && (decide (1 ≤ most) && decide (most ≤ 1000))) with
  | false => rw [hd] at hA; cases hA
  | true =>
  rw [hd, cond_true] at hA
  simp only [Bool.and_eq_true, decide_eq_true_eq] at hd
  obtain ⟨hf, h0, h1⟩ := hd
  have he := Try.e65 l hl
  have hX := codeQ_sound (ρ := AX × St) (p := 2) (callF_sound he 5) he.ok he.mix ((Try.E65 l).keep 65) (lsumsOf []) Try.b65 trivial
  have key := loop_tripleQ hX [0,1,2] [6] (T := WkT) (fun t => Try.s65 t.f most (wkU l t.low t.O)) (fun t => 0 ≤ t.f ∧ t.O.length + t.k = most.toNat ∧ 1 ≤ t.O.length) (fun t => t.k) (fun t => Try.Y65 l most (walkM l most t.k t.low t.f t.O)) (fun t _ => wkU_ok _ _ _) (fun t ht => by
    obtain ⟨k, low, f, O⟩ := t
    obtain ⟨h2, h3, h4⟩ := ht
    replace h2 : 0 ≤ f := h2
    replace h3 : O.length + k = most.toNat := h3
    replace h4 : 1 ≤ O.length := h4
    obtain ⟨s1, r, hw⟩ := Try.r65o l low f most h2 O h4 (by omega)
    cases hg : wkGo l low f most O.length with
    | true =>
      rw [hg] at r
      have := wkGo_most hg
      obtain ⟨k, rfl⟩ : ∃ j, k = j + 1 := ⟨k - 1, by omega⟩
      refine .inl ⟨⟨k, up8 f, wd l f, O ++ [fndL l (up4 f)]⟩, s1, r, hw, ⟨wd_nn l f, ?_, ?_⟩, by show k < k + 1; omega, ?_⟩
      · show (O ++ [fndL l (up4 f)]).length + k = most.toNat
        rw [List.length_append]
        show O.length + 1 + k = _
        omega
      · show 1 ≤ (O ++ [fndL l (up4 f)]).length
        rw [List.length_append]; omega
      · show Try.Y65 l most (walkM l most k (up8 f) (wd l f) (O ++ [fndL l (up4 f)])) = Try.Y65 l most (walkM l most (k + 1) low f O)
        rw [walkM_go hg]
    | false =>
      rw [hg] at r
      refine .inr ?_
      show ∃ _, _
      rw [walkM_no hg]
      exact ⟨_, r, WeakQ.refl (wkU_ok _ _ _), by show AX.ret ≠ .normal; simp⟩) ⟨most.toNat - 1, low, f, [x0]⟩ ⟨hf, by show 1 + (most.toNat - 1) = most.toNat; omega, Nat.le_refl _⟩
  have hz : Try.Y65 l most (walkM l most (most.toNat - 1) low f [x0]) = (x, s') := Option.some.inj hA
  simp only [hz] at key
  exact key
end Go.Ev
/- Walks: the walk's summary. -/
namespace Go.Ev
open Go.Proofs
def ag65 (f most : Int) : List AV := [.ptr 0 0 0, .val (.int .u32 f), .val (.int .i64 most)]
def okW (most f lo : Int) : Bool := decide (0 ≤ f) && (decide (lo ≤ most) && decide (most ≤ 1000))
theorem out_wkS (l : List PgD) (k low : Int) (O : List UlD) : outVP 1 (.val (.int .i64 k)) (wkS l low O) = some (.val (.int .i64 k), wkS l low O) := by
  cases O with
  | nil => kernel_rfl
  | cons x O => kernel_rfl
theorem out_wkU (l : List PgD) (k low : Int) (O : List UlD) : outVP 2 (.val (.int .i64 k)) (wkU l low O) = some (.val (.int .i64 k), wkU l low O) := by
  unfold wkU
  cases Nat.beq O.length 1
  · kernel_rfl
  · kernel_rfl
theorem Try.w65n (l : List PgD) (most low f : Int) : rootR (Try.E65 l) 5 65 1 (lsumsOf [(1, Try.L65n l most low f)]) (lsumsOf []) (outVP 1) (ag65 f most) (wkN l low) =
 bif isSt (Try.s65 f most (wkN l low)) (Try.s65 f most (wkN l low)) then (bif okW most f 0 then (outVP 1 (.val (.int .i64 (wkR l most low f).1)) (wkS l (wkR l most low f).2.1 (wkR l most low f).2.2)) else none) else none := by kernel_rfl
theorem Try.w65o (l : List PgD) (most low f : Int) (x : UlD) : rootR (Try.E65 l) 5 65 2 (lsumsOf [(1, Try.L65o l most low f x)]) (lsumsOf []) (outVP 2) (ag65 f most) (wkO 1 l low 1 (UL.con [x])) =
 bif isSt (Try.s65 f most (wkO 1 l low 1 (UL.con [x]))) (Try.s65 f most (wkO 1 l low 1 (UL.con [x]))) then (bif okW most f 1 then (outVP 2 (.val (.int .i64 (wkR1 l most low f x).1)) (wkU l (wkR1 l most low f x).2.1 (wkR1 l most low f x).2.2)) else none) else none := by kernel_rfl
theorem Try.al65n (l : List PgD) (hl : okB l) (most low f : Int) (h : okW most f 0 = true) : EffQ Try.prog 65 1 (ag65 f most) (wkN l low) (.val (.int .i64 (wkR l most low f).1)) (wkS l (wkR l most low f).2.1 (wkR l most low f).2.2) := by
  refine rootQ_alone (Try.e65 l hl) (d := 5) (p := 1) (ls := lsumsOf [(1, Try.L65n l most low f)]) (rs := lsumsOf []) outVP_weakQ (AllL.of1 (a := Try.b65) (by kernel_rfl) (LsOkQ.of rfl rfl (Try.l65n l hl most low f))) (AllL.of0 (by kernel_rfl)) (wkN_ok _ _) ((Try.w65n l most low f).trans ?_)
  rw [isSt_refl, h, out_wkS]; rfl
theorem Try.al65o (l : List PgD) (hl : okB l) (most low f : Int) (x : UlD) (h : okW most f 1 = true) : EffQ Try.prog 65 2 (ag65 f most) (wkO 1 l low 1 (.rows true 3 [ulRow x])) (.val (.int .i64 (wkR1 l most low f x).1)) (wkU l (wkR1 l most low f x).2.1 (wkR1 l most low f x).2.2) := by
  have hw : WeakQ 2 ⟨ag65 f most, [], wkO 1 l low 1 (.rows true 3 [ulRow x])⟩ ⟨ag65 f most, [], wkO 1 l low 1 (UL.con [x])⟩ := WeakQ.heap (wkO1_ok _ _ _ _) (.con 1 0 0 rfl (ul_one x) (EsW.refl _))
  refine EffQ.weak hw ?_
  refine rootQ_alone (Try.e65 l hl) (d := 5) (p := 2) (ls := lsumsOf [(1, Try.L65o l most low f x)]) (rs := lsumsOf []) outVP_weakQ (AllL.of1 (a := Try.b65) (by kernel_rfl) (LsOkQ.of rfl rfl (Try.l65o l hl most low f x))) (AllL.of0 (by kernel_rfl)) (wkO1_ok _ _ _ _) ((Try.w65o l most low f x).trans ?_)
  rw [isSt_refl, h, out_wkU]; rfl
end Go.Ev
/- Walks: the walk's summary. -/
namespace Go.Ev
open Go.Proofs
def isHw (h h0 : Heap) : Bool := @decide (h = h0) (Classical.propDecidable _)
def isE {α : Type} : List α → Bool
  | [] => true
  | _ => false
def why (k : Int) : AV := .val (.int .i64 k)
def o65n (l : List PgD) (t : Int × Int × List UlD) : Ans (AV × Heap) := .br (isE t.2.2) (.out (why t.1, wkN l t.2.1)) (.out (why t.1, wkO 1 l t.2.1 t.2.2.length (UL.con t.2.2)))
def o65o (l : List PgD) (t : Int × Int × List UlD) : Ans (AV × Heap) := .br (Nat.beq t.2.2.length 1) (.out (why t.1, wkO 1 l t.2.1 t.2.2.length (UL.con t.2.2))) (.out (why t.1, wkO 2 l t.2.1 t.2.2.length (UL.con t.2.2)))
def F65n (l : List PgD) (f most : Int) (h : Heap) : Ans (AV × Heap) := match h with
  | ⟨1, [⟨0, _, .cells (.rows true _ [[_, _, .val (.int _ low)]])⟩]⟩ => .grd (isHw h (wkN l low) && okW most f 0) (o65n l (wkR l most low f))
  | ⟨2, [⟨1, _, .cells (.rows _ _ [r])⟩, ⟨0, _, .cells (.rows false _ [[_, _, .val (.int _ low)]])⟩]⟩ => .grd (isHw h (wkO 1 l low 1 (.rows true 3 [ulRow (ulParse r)])) && okW most f 1) (o65o l (wkR1 l most low f (ulParse r)))
  | _ => .no
def F65 (l : List PgD) (args : List AV) (h : Heap) : Ans (AV × Heap) := match args with
  | [.ptr 0 0 0, .val (.int .u32 f), .val (.int .i64 most)] => F65n l f most h
  | _ => .no
def Try.A65 (l : List PgD) : AFun := effQ (F65 l)
theorem isHw_eq {h h0 : Heap} (q : isHw h h0 = true) : h = h0 := @of_decide_eq_true _ (Classical.propDecidable _) q
theorem isHw_refl (h : Heap) : isHw h h = true := @decide_eq_true _ (Classical.propDecidable _) rfl
theorem o65n_run (l : List PgD) (t : Int × Int × List UlD) : (o65n l t).run = some (why t.1, wkS l t.2.1 t.2.2) := by
  obtain ⟨k, low, O⟩ := t
  cases O <;> rfl
theorem o65o_run (l : List PgD) (t : Int × Int × List UlD) : (o65o l t).run = some (why t.1, wkU l t.2.1 t.2.2) := by
  obtain ⟨k, low, O⟩ := t
  show (Ans.br (Nat.beq O.length 1) _ _).run = _
  rw [Ans.run_br]
  unfold wkU
  show _ = some (why k, bif Nat.beq O.length 1 then _ else _)
  cases Nat.beq O.length 1 <;> rfl
theorem grd_some {α : Type} {b : Bool} {x : Option α} {y : α} (h : (bif b then x else none) = some y) : b = true ∧ x = some y := by
  cases b
  · cases h
  · exact ⟨rfl, h⟩
theorem Try.sum65 (l : List PgD) (hl : okB l) : SumC Try.prog 65 (Try.A65 l) := by
  refine effSumQ 65 ⟨Try.f65, _, Try.fnOk65.1, Try.fnOk65.2, rfl⟩ ?_
  intro args h v h2 hok hs
  unfold F65 at hs
  split at hs
  · rename_i f most
    unfold F65n at hs
    split at hs
    · rename_i low
      rw [Ans.run_grd] at hs
      obtain ⟨hb, hs⟩ := grd_some hs
      rw [Bool.and_eq_true] at hb
      have e := isHw_eq hb.1
      rw [o65n_run] at hs
      have hs := Option.some.inj hs
      injection hs with q1 q2
      subst q1; subst q2
      rw [e]
      exact Try.al65n l hl most low f hb.2
    · rw [Ans.run_grd] at hs
      obtain ⟨hb, hs⟩ := grd_some hs
      rw [Bool.and_eq_true] at hb
      have e := isHw_eq hb.1
      rw [o65o_run] at hs
      have hs := Option.some.inj hs
      injection hs with q1 q2
      subst q1; subst q2
      rw [e]
      exact Try.al65o l hl most _ f _ hb.2
    · cases hs
  · cases hs
end Go.Ev
/- Walks: Walk. -/
namespace Go.Ev
open Go.Proofs
def Try.E28 (l : List PgD) (c : Cpu) : Env := Try.env0 false (sumsOf [(26, Try.A26 l c), (65, Try.A65 l), (70, Try.A70 l), (24, Try.A24 l)]) (keepF 28 [])
def low0 (c : Cpu) : Int := IntKind.u64.wrap (c.r 15)
def low1 (l : List PgD) (c : Cpu) : Int := IntKind.u64.wrap (IntKind.u64.wrap (topA l c) + 4)
def wkOut (t : Int × Int × List UlD) : AV × Heap := (.tup [.own 0 0 t.2.2.length none 3, .val (.int .i64 t.1), .val (.int .i64 0)], ⟨1, [⟨0, 0, .cells (UL.con t.2.2)⟩]⟩)
def wkNil (t : Int × Int × List UlD) : AV × Heap := (.tup [nilL, .val (.int .i64 t.1), .val (.int .i64 0)], ⟨0, []⟩)
def Try.N28 (l : List PgD) (c : Cpu) (most : Int) : Option (AV × Heap) := bif isHw (wkN l (low0 c)) (wkN l (low0 c)) && okW most (c.r 14) 0 then (bif isE (wkR l most (low0 c) (c.r 14)).2.2 then some (wkNil (wkR l most (low0 c) (c.r 14))) else some (wkOut (wkR l most (low0 c) (c.r 14)))) else none
def Try.Y28 (l : List PgD) (c : Cpu) (most : Int) : Option (AV × Heap) := bif isHw (wkO 1 l (low1 l c) 1 (.rows true 3 [ulRow (fndL l (topA l c))])) (wkO 1 l (low1 l c) 1 (.rows true 3 [ulRow (fndL l (topA l c))])) && okW most (c.r 14) 1 then (bif Nat.beq (wkR1 l most (low1 l c) (c.r 14) (fndL l (topA l c))).2.2.length 1 then some (wkOut (wkR1 l most (low1 l c) (c.r 14) (fndL l (topA l c)))) else some (wkOut (wkR1 l most (low1 l c) (c.r 14) (fndL l (topA l c))))) else none
def wkBad : AV × Heap := (.tup [nilL, .val (.int .i64 0), .val (.int .i64 1)], ⟨0, []⟩)
theorem Try.w28 (l : List PgD) (c : Cpu) (most : Int) : rootS (Try.E28 l c) 5 28 (lsumsOf []) [cpuV c, memV l, .val (.int .i64 most)] =
    bif decide (most < 0) then some wkBad else bif decide (most > 1000) then some wkBad
    else bif isV (cpuV c) (cpuV c) && isV (memV l) (memV l) then
      (bif topB l c then (bif decide (most > 0) then gdM l (topA l c) (bif (pcE l 1 (topA l c) 4).2.2 then Try.N28 l c most else in4 (rdE l (topA l c) 4) (bif isV (memV l) (memV l) then (bif siteB l (wd l (topA l c)) then Try.Y28 l c most else Try.N28 l c most) else none)) else Try.N28 l c most) else Try.N28 l c most)
    else none := by kernel_rfl
def walkR (l : List PgD) (c : Cpu) (most : Int) : Int × Int × List UlD := bif topB l c && (decide (most > 0) && fndB l (topA l c)) then wkR1 l most (low1 l c) (c.r 14) (fndL l (topA l c)) else wkR l most (low0 c) (c.r 14)
def wkV (t : Int × Int × List UlD) : AV := .tup [.ro (UL.con t.2.2) none, .val (.int .i64 t.1), .val (.int .i64 0)]
def wkBadV : AV := .tup [nilL, .val (.int .i64 0), .val (.int .i64 1)]
def walkV (l : List PgD) (c : Cpu) (most : Int) : AV := bif decide (most < 0) || decide (most > 1000) then wkBadV else wkV (walkR l c most)
theorem Try.e28 (l : List PgD) (hl : okB l) (c : Cpu) (hc : 0 ≤ c.pc) : EnvOk2 Try.prog (Try.E28 l c) := Try.envOk false (sumsOf [(26, Try.A26 l c), (65, Try.A65 l), (70, Try.A70 l), (24, Try.A24 l)]) _ (sumsOf_ok (show AllS Try.prog [(26, Try.A26 l c), (65, Try.A65 l), (70, Try.A70 l), (24, Try.A24 l)] from ⟨Try.sum26 l hl c hc, Try.sum65 l hl, Try.sum70 l, Try.sum24 l hl, trivial⟩))
theorem wkOut_al {args : List AV} (t : Int × Int × List UlD) (h : Alone Try.prog 28 args (wkOut t).1 (wkOut t).2) : Alone Try.prog 28 args (wkV t) ⟨0, []⟩ :=
  Alone.fz1 (con := UL.con t.2.2) rfl rfl (.tup (.cons (.inr (.inl ⟨none, rfl, rfl⟩)) (FzL.refl _ _ _))) h
theorem wkNil_al {args : List AV} (t : Int × Int × List UlD) (ht : isE t.2.2 = true) (h : Alone Try.prog 28 args (wkNil t).1 (wkNil t).2) : Alone Try.prog 28 args (wkV t) ⟨0, []⟩ := by
  obtain ⟨k, low, O⟩ := t
  cases O with
  | nil => exact Alone.resW (AW.tup (.cons (AW.nil rfl) (AWs.refl _))) h
  | cons x O => cases ht
theorem Try.al28 (l : List PgD) (hl : okB l) (c : Cpu) (hc : 0 ≤ c.pc) (hr : ∀ i, 0 ≤ c.r i) (most : Int) : Alone Try.prog 28 [cpuV c, memV l, .val (.int .i64 most)] (walkV l c most) ⟨0, []⟩ := by
  have run := fun v h2 => rootS_alone (Try.e28 l hl c hc) (d := 5) (g := 28) (ls := lsumsOf []) (args := [cpuV c, memV l, .val (.int .i64 most)]) (v := v) (h2 := h2) (AllL.of0 (by kernel_rfl))
  have key := Try.w28 l c most
  unfold walkV
  by_cases h1 : most < 0
  · rw [decide_eq_true h1] at key ⊢
    exact run _ _ key
  by_cases h2 : most > 1000
  · rw [decide_eq_false h1, decide_eq_true h2] at key ⊢
    exact run _ _ key
  rw [decide_eq_false h1, decide_eq_false h2] at key ⊢
  rw [isV_refl, isV_refl] at key
  have ht : 0 ≤ topA l c := by
    unfold topA
    cases isPush (insX l c.pc) || isRet (insX l c.pc)
    · exact u32_nn _
    · exact hr 15
  rw [gdM_eq l ht, in4_eq (by rw [rdE_len l ht (by omega)]; rfl)] at key
  have hN : Try.N28 l c most = bif isE (wkR l most (low0 c) (c.r 14)).2.2 then some (wkNil (wkR l most (low0 c) (c.r 14))) else some (wkOut (wkR l most (low0 c) (c.r 14))) := by
    unfold Try.N28 okW
    rw [isHw_refl, decide_eq_true (hr 14), decide_eq_true (show 0 ≤ most by omega), decide_eq_true (show most ≤ 1000 by omega)]; rfl
  have N : rootS (Try.E28 l c) 5 28 (lsumsOf []) [cpuV c, memV l, .val (.int .i64 most)] = Try.N28 l c most → Alone Try.prog 28 [cpuV c, memV l, .val (.int .i64 most)] (wkV (wkR l most (low0 c) (c.r 14))) ⟨0, []⟩ := fun k => by
    rw [hN] at k
    cases he : isE (wkR l most (low0 c) (c.r 14)).2.2 with
    | true => rw [he] at k; exact wkNil_al _ he (run _ _ k)
    | false => rw [he] at k; exact wkOut_al _ (run _ _ k)
  show Alone _ _ _ (wkV (walkR l c most)) _
  unfold walkR fndB wOk
  cases g1 : topB l c with
  | false => rw [g1] at key; exact N key
  | true =>
    rw [g1] at key
    cases g2 : decide (most > 0) with
    | false => rw [g2] at key; exact N key
    | true =>
      rw [g2] at key
      cases g3 : (pcE l 1 (topA l c) 4).2.2 with
      | true => rw [g3] at key; exact N key
      | false =>
        rw [g3] at key
        cases g4 : siteB l (wd l (topA l c)) with
        | false => rw [g4] at key; exact N key
        | true =>
          rw [g4] at key
          have hY : Try.Y28 l c most = some (wkOut (wkR1 l most (low1 l c) (c.r 14) (fndL l (topA l c)))) := by
            unfold Try.Y28 okW
            have := of_decide_eq_true g2
            rw [isHw_refl, decide_eq_true (hr 14), decide_eq_true (show 1 ≤ most by omega), decide_eq_true (show most ≤ 1000 by omega)]
            cases Nat.beq (wkR1 l most (low1 l c) (c.r 14) (fndL l (topA l c))).2.2.length 1 <;> rfl
          exact wkOut_al _ (run _ _ (key.trans hY))
end Go.Ev
/- Walks: Scan. -/
namespace Go.Ev
open Go.Proofs
def Try.E31 (l : List PgD) : Env := Try.env0 false (sumsOf [(70, Try.A70 l), (24, Try.A24 l)]) (keepF 31 [(5, [1, 8, 25, 26])])
def Try.b31 : Code := nthD .skip (loopsOf (bodyOf (Try.E31 []) 31)) 0
def Try.s31 (a n i : Int) (H : Heap) : St := stOf 46 [1, 8, 25, 26] [.val (.int .u32 a), .ptr 0 0 0, .val (.int .i64 n), .val (.int .i64 i)] H
def Try.B31 (l : List PgD) (s : St) : Option (AX × St) := codeS (Try.E31 l) (callF (Try.E31 l) 5) ((Try.E31 l).keep 31) (lsumsOf []) Try.b31 (outK [1, 8, 25, 26] [8]) s
def Try.x31 (H : Heap) : Option (AX × St) := some (.exit 0, stOf 46 [8] [.ptr 0 0 0] H)
def Try.g31 (a n i : Int) (H : Heap) : Option (AX × St) := some (.normal, Try.s31 (up4 a) n (IntKind.i64.wrap (i + 1)) H)
def Try.q31 (l : List PgD) (a n i : Int) (H : Heap) (nx : Option (AX × St)) : Option (AX × St) :=
  bif decide (i < n) then gdM l a (bif (pcE l 1 a 4).2.2 then Try.x31 H else in4 (rdE l a 4) (gdM l a (bif (pcE l 1 a 4).2.2 then Try.g31 a n i H else in4 (rdE l a 4) (bif isV (memV l) (memV l) then (bif siteB l (wd l a) then nx else Try.g31 a n i H) else none)))) else Try.x31 H
theorem Try.r31a (l : List PgD) (a n i : Int) : Try.B31 l (Try.s31 a n i (wkN l 0)) = Try.q31 l a n i (wkN l 0) (Try.g31 a n i (wkO 1 l 0 1 (.rows true 3 [ulRow (fndL l a)]))) := by kernel_rfl
theorem Try.r31b (l : List PgD) (a n i : Int) (O : List UlD) : Try.B31 l (Try.s31 a n i (wkO 1 l 0 O.length (UL.con O))) = Try.q31 l a n i (wkO 1 l 0 O.length (UL.con O)) (bif (0 + O.length).ble O.length then (bif ((O.length + 1) * 12).ble Ev.most && (O.length + 1).ble Ev.most then Try.g31 a n i (wkO 1 l 0 (O.length + 1) (ulCat O (fndL l a))) else none) else none) := by kernel_rfl
def scanM (l : List PgD) : Nat → Int → List UlD → List UlD
  | 0, _, O => O
  | k + 1, a, O => bif wOk l a then scanM l k (up4 a) (bif siteB l (wd l a) then O ++ [fndL l a] else O) else O
structure ScT where
  k : Nat
  a : Int
  O : List UlD
def Try.Z31 (l : List PgD) (O : List UlD) : AX × St := (.exit 0, stOf 46 [8] [.ptr 0 0 0] (wkS l 0 O))
def Try.L31 (l : List PgD) (a n : Int) : LSum := atL (Try.s31 a n 0 (wkN l 0)) (.grd (decide (0 ≤ a) && (decide (0 ≤ n) && decide (n ≤ 4096))) (.br (isE (scanM l n.toNat a [])) (.out (.exit 0, stOf 46 [8] [.ptr 0 0 0] (wkN l 0))) (.out (.exit 0, stOf 46 [8] [.ptr 0 0 0] (wkO 1 l 0 (scanM l n.toNat a []).length (UL.con (scanM l n.toNat a [])))))))
theorem Try.r31 (l : List PgD) (a n i : Int) (ha : 0 ≤ a) (hi : i < n) (O : List UlD) (hO : O.length ≤ 5000) : ∃ s1, Try.B31 l (Try.s31 a n i (wkS l 0 O)) = (bif wOk l a then some (.normal, s1) else Try.x31 (wkS l 0 O)) ∧ Weak s1 (Try.s31 (up4 a) n (IntKind.i64.wrap (i + 1)) (wkS l 0 (bif siteB l (wd l a) then O ++ [fndL l a] else O))) := by
  have hq : ∀ H nx, Try.q31 l a n i H nx = bif wOk l a then (bif siteB l (wd l a) then nx else Try.g31 a n i H) else Try.x31 H := fun H nx => by
    unfold Try.q31 wOk
    rw [gdM_eq l ha, gdM_eq l ha, in4_eq (by rw [rdE_len l ha (by omega)]; rfl), in4_eq (by rw [rdE_len l ha (by omega)]; rfl), isV_refl, decide_eq_true hi]
    cases (pcE l 1 a 4).2.2
    · rfl
    · rfl
  have hm := most_eq
  cases hs : siteB l (wd l a) with
  | false =>
    refine ⟨Try.s31 (up4 a) n (IntKind.i64.wrap (i + 1)) (wkS l 0 O), ?_, Weak.refl (wkS_ok _ _ _)⟩
    cases O with
    | nil => refine (Try.r31a l a n i).trans ((hq _ _).trans ?_); rw [hs]; rfl
    | cons x O => refine (Try.r31b l a n i (x :: O)).trans ((hq _ _).trans ?_); rw [hs]; rfl
  | true =>
    rw [cond_true, wkS_snoc]
    cases O with
    | nil =>
      refine ⟨Try.s31 (up4 a) n (IntKind.i64.wrap (i + 1)) (wkO 1 l 0 1 (.rows true 3 [ulRow (fndL l a)])), (Try.r31a l a n i).trans ((hq _ _).trans ?_), Weak.heap (wkO1_ok _ _ _ _) (.con 1 0 0 rfl (ul_one _) (EsW.refl _))⟩
      rw [hs]; rfl
    | cons x O =>
      refine ⟨Try.s31 (up4 a) n (IntKind.i64.wrap (i + 1)) (wkO 1 l 0 ((x :: O).length + 1) (ulCat (x :: O) (fndL l a))), (Try.r31b l a n i (x :: O)).trans ((hq _ _).trans ?_), Weak.heap (wkO1_ok _ _ _ _) (.con 1 0 0 rfl (ul_snoc (x :: O) _) (EsW.refl _))⟩
      rw [hs, Nat.zero_add, ble_t (Nat.le_refl _), ble_t (show ((x :: O).length + 1) * 12 ≤ Ev.most by omega), ble_t (show (x :: O).length + 1 ≤ Ev.most by omega)]
      rfl
theorem Try.e31 (l : List PgD) (hl : okB l) : EnvOk2 Try.prog (Try.E31 l) := Try.envOk false (sumsOf [(70, Try.A70 l), (24, Try.A24 l)]) _ (sumsOf_ok (show AllS Try.prog [(70, Try.A70 l), (24, Try.A24 l)] from ⟨Try.sum70 l, Try.sum24 l hl, trivial⟩))
theorem Try.r31e (l : List PgD) (a n i : Int) (hi : ¬ i < n) (O : List UlD) : Try.B31 l (Try.s31 a n i (wkS l 0 O)) = Try.x31 (wkS l 0 O) := by
  cases O with
  | nil => refine (Try.r31a l a n i).trans ?_; unfold Try.q31; rw [decide_eq_false hi]; rfl
  | cons x O => refine (Try.r31b l a n i (x :: O)).trans ?_; unfold Try.q31; rw [decide_eq_false hi]; rfl
theorem Try.l31 (l : List PgD) (hl : okB l) (a n : Int) : ∀ s e s', s.h.ok → (Try.L31 l a n s).run = some (e, s') → Triple Try.prog (.loop Try.b31) s e s' := by
  refine atL_grd (fun hp => ?_)
  simp only [Bool.and_eq_true, decide_eq_true_eq] at hp
  obtain ⟨ha, h0, h1⟩ := hp
  refine loop_at (Try.e31 l hl) (d := 5) (g := 31) (ls := lsumsOf []) (c := Try.b31) trivial [1, 8, 25, 26] [8] (T := ScT)
    (fun t => Try.s31 t.a n (n - t.k) (wkS l 0 t.O)) (fun t => 0 ≤ t.a ∧ (t.k : Int) ≤ n ∧ t.O.length + t.k ≤ n.toNat) (fun t => t.k) (fun t => Try.Z31 l (scanM l t.k t.a t.O)) _ _ ⟨n.toNat, a, []⟩ ⟨ha, by show (n.toNat : Int) ≤ n; omega, by show 0 + n.toNat ≤ n.toNat; omega⟩ ?_ (fun e s' h => by
    rw [Ans.run_br] at h
    show Try.Z31 l (scanM l n.toNat a []) = _
    revert h
    generalize scanM l n.toNat a [] = L
    intro h
    cases L <;> exact Option.some.inj h) (fun t _ => wkS_ok _ _ _) ?_
  · show Weak _ (Try.s31 a n (n - (n.toNat : Int)) (wkS l 0 []))
    rw [show n - (n.toNat : Int) = 0 by omega]
    exact Weak.refl (wkS_ok l 0 [])
  · rintro ⟨k, a, O⟩ ⟨h2, h3, h4⟩
    replace h2 : 0 ≤ a := h2
    replace h3 : (k : Int) ≤ n := h3
    replace h4 : O.length + k ≤ n.toNat := h4
    cases k with
    | zero => exact .inr ⟨_, Try.r31e l a n (n - (0 : Nat)) (by omega) O, Weak.refl (wkS_ok _ _ _), by show (AX.exit 0) ≠ .normal; simp⟩
    | succ k =>
      obtain ⟨s1, r, hw⟩ := Try.r31 l a n (n - ((k + 1 : Nat) : Int)) h2 (by omega) O (by omega)
      have e1 : IntKind.i64.wrap (n - ((k + 1 : Nat) : Int) + 1) = n - (k : Int) := by rw [wrap64 _ (by omega) (by omega)]; omega
      rw [e1] at hw
      have e2 : scanM l (k + 1) a O = bif wOk l a then scanM l k (up4 a) (bif siteB l (wd l a) then O ++ [fndL l a] else O) else O := rfl
      cases hg : wOk l a with
      | true =>
        rw [hg] at r e2
        refine .inl ⟨⟨k, up4 a, bif siteB l (wd l a) then O ++ [fndL l a] else O⟩, s1, r, hw, ⟨u32_nn _, by show (k : Int) ≤ n; omega, ?_⟩, by show k < k + 1; omega, ?_⟩
        · show (bif siteB l (wd l a) then O ++ [fndL l a] else O).length + k ≤ n.toNat
          cases siteB l (wd l a)
          · show O.length + k ≤ _; omega
          · show (O ++ [fndL l a]).length + k ≤ _
            rw [List.length_append]
            show O.length + 1 + k ≤ _
            omega
        · show Try.Z31 l _ = Try.Z31 l (scanM l (k + 1) a O)
          rw [e2]; rfl
      | false =>
        rw [hg] at r e2
        refine .inr ?_
        show ∃ _, _
        rw [e2]
        exact ⟨_, r, Weak.refl (wkS_ok _ _ _), by show (AX.exit 0) ≠ .normal; simp⟩
end Go.Ev
/- Walks: Scan and Walk, as summaries. -/
namespace Go.Ev
open Go.Proofs
def scBad : AV := .tup [nilL, .val (.int .i64 1)]
def scNil : AV := .tup [nilL, .val (.int .i64 0)]
def scOut (O : List UlD) : AV × Heap := (.tup [.own 0 0 O.length none 3, .val (.int .i64 0)], ⟨1, [⟨0, 0, .cells (UL.con O)⟩]⟩)
def scV (O : List UlD) : AV := .tup [.ro (UL.con O) none, .val (.int .i64 0)]
def scanB (a n : Int) : Bool := a.tmod 4 != 0 || (decide (n < 0) || decide (n > 4096))
def scanL (l : List PgD) (a n : Int) : List UlD := scanM l n.toNat a []
def scanV (l : List PgD) (a n : Int) : AV := bif scanB a n then scBad else scV (scanL l a n)
theorem Try.w31 (l : List PgD) (a n : Int) : rootS (Try.E31 l) 5 31 (lsumsOf [(5, Try.L31 l a n)]) [memV l, .val (.int .u32 a), .val (.int .i64 n)] =
    bif a.tmod 4 != 0 then some (scBad, ⟨0, []⟩) else bif decide (n < 0) then some (scBad, ⟨0, []⟩) else bif decide (n > 4096) then some (scBad, ⟨0, []⟩)
    else bif isSt (Try.s31 a n 0 (wkN l 0)) (Try.s31 a n 0 (wkN l 0)) then (bif decide (0 ≤ a) && (decide (0 ≤ n) && decide (n ≤ 4096)) then (bif isE (scanL l a n) then some (scNil, ⟨0, []⟩) else some (scOut (scanL l a n))) else none) else none := by kernel_rfl
theorem Try.al31 (l : List PgD) (hl : okB l) (a n : Int) (ha : 0 ≤ a) : Alone Try.prog 31 [memV l, .val (.int .u32 a), .val (.int .i64 n)] (scanV l a n) ⟨0, []⟩ := by
  have run := fun v h2 => rootS_alone (Try.e31 l hl) (d := 5) (g := 31) (ls := lsumsOf [(5, Try.L31 l a n)]) (args := [memV l, .val (.int .u32 a), .val (.int .i64 n)]) (v := v) (h2 := h2) (AllL.of1 (a := Try.b31) (by kernel_rfl) (LsOk.of rfl rfl (Try.l31 l hl a n)))
  have key := Try.w31 l a n
  rw [isSt_refl] at key
  unfold scanV scanB
  cases h1 : a.tmod 4 != 0 with
  | true => rw [h1] at key; exact run _ _ key
  | false =>
    rw [h1] at key
    by_cases h2 : n < 0
    · rw [decide_eq_true h2] at key ⊢; exact run _ _ key
    by_cases h3 : n > 4096
    · rw [decide_eq_false h2, decide_eq_true h3] at key ⊢; exact run _ _ key
    rw [decide_eq_false h2, decide_eq_false h3, decide_eq_true ha, decide_eq_true (show 0 ≤ n by omega), decide_eq_true (show n ≤ 4096 by omega)] at key
    rw [decide_eq_false h2, decide_eq_false h3]
    show Alone _ _ _ (scV (scanL l a n)) _
    generalize scanL l a n = O at key
    cases O with
    | nil => exact Alone.resW (AW.tup (.cons (AW.nil rfl) (AWs.refl _))) (run _ _ key)
    | cons x O => exact Alone.fz1 (con := UL.con (x :: O)) rfl rfl (.tup (.cons (.inr (.inl ⟨none, rfl, rfl⟩)) (FzL.refl _ _ _))) (run _ _ key)
def S31 (l : List PgD) (args : List AV) : Ans (AV × Heap) := match args with
  | [v, .val (.int .u32 a), .val (.int .i64 n)] => .grd (isV v (memV l) && decide (0 ≤ a)) (.br (scanB a n) (.out (scBad, ⟨0, []⟩)) (.out (scV (scanL l a n), ⟨0, []⟩)))
  | _ => .no
def Try.A31 (l : List PgD) : AFun := roA (S31 l)
def S28 (l : List PgD) (c : Cpu) (args : List AV) : Ans (AV × Heap) := match args with
  | [v, m, .val (.int .i64 n)] => .grd (isV v (cpuV c) && isV m (memV l)) (.br (decide (n < 0) || decide (n > 1000)) (.out (wkBadV, ⟨0, []⟩)) (.out (wkV (walkR l c n), ⟨0, []⟩)))
  | _ => .no
def Try.A28 (l : List PgD) (c : Cpu) : AFun := roA (S28 l c)
theorem Try.sum31 (l : List PgD) (hl : okB l) : SumC Try.prog 31 (Try.A31 l) := by
  refine roSumR 31 ⟨Try.f31, _, Try.fnOk31.1, Try.fnOk31.2, rfl⟩ ?_
  intro args v h2 hs
  unfold S31 at hs
  split at hs
  · rename_i v0 a n
    rw [gdB_run] at hs
    cases hb : (isV v0 (memV l) && decide (0 ≤ a)) with
    | false => rw [hb] at hs; cases hs
    | true =>
      rw [hb] at hs
      rw [Bool.and_eq_true, decide_eq_true_eq] at hb
      obtain ⟨h1, ha⟩ := hb
      have h1 := isV_eq h1
      subst h1
      have key := Try.al31 l hl a n ha
      unfold scanV at key
      cases h : scanB a n <;> (rw [h] at hs key; have hs := Option.some.inj hs; injection hs with q1 q2; subst q1; subst q2; exact ⟨fun e he => by (cases he), key⟩)
  · cases hs
theorem Try.sum28 (l : List PgD) (hl : okB l) (c : Cpu) (hc : 0 ≤ c.pc) (hr : ∀ i, 0 ≤ c.r i) : SumC Try.prog 28 (Try.A28 l c) := by
  refine roSumR 28 ⟨Try.f28, _, Try.fnOk28.1, Try.fnOk28.2, rfl⟩ ?_
  intro args v h2 hs
  unfold S28 at hs
  split at hs
  · rename_i v0 m n
    rw [gdB_run] at hs
    cases hb : (isV v0 (cpuV c) && isV m (memV l)) with
    | false => rw [hb] at hs; cases hs
    | true =>
      rw [hb] at hs
      rw [Bool.and_eq_true] at hb
      have h1 := isV_eq hb.1
      have h2 := isV_eq hb.2
      subst h1; subst h2
      have key := Try.al28 l hl c hc hr n
      unfold walkV at key
      cases h : (decide (n < 0) || decide (n > 1000)) <;> (rw [h] at hs key; have hs := Option.some.inj hs; injection hs with q1 q2; subst q1; subst q2; exact ⟨fun e he => by (cases he), key⟩)
  · cases hs
end Go.Ev
/- Walks: the plain law about the frames of a walk. -/
namespace Go.Ev
open Go.Proofs
theorem walkM_ext (l : List PgD) (m : Int) : ∀ (k : Nat) (low f : Int) (O : List UlD), ∃ X, (walkM l m k low f O).2.2 = O ++ X
  | 0, low, f, O => ⟨[], by rw [List.append_nil]; rfl⟩
  | k + 1, low, f, O => by
    cases h : wkGo l low f m O.length with
    | true =>
      obtain ⟨X, hX⟩ := walkM_ext l m k (up8 f) (wd l f) (O ++ [fndL l (up4 f)])
      exact ⟨fndL l (up4 f) :: X, by rw [walkM_go h, hX, List.append_assoc]; rfl⟩
    | false => exact ⟨[], by rw [walkM_no h, List.append_nil]⟩
theorem wkStop_same {l : List PgD} {low f m n k : Int} (h1 : k ≠ m) (h2 : k ≠ n) : wkStop l low f m k = wkStop l low f n k := by
  unfold wkStop
  rw [show (k == m) = false by rw [beq_eq_false_iff_ne]; exact h1, show (k == n) = false by rw [beq_eq_false_iff_ne]; exact h2]
theorem wkStop_full (l : List PgD) (low f m : Int) : wkStop l low f m m = 1 := by
  unfold wkStop
  rw [beq_self_eq_true]; rfl
theorem walkM_take (l : List PgD) (m n : Int) (hn : 0 ≤ n) (hmn : n ≤ m) : ∀ (k k' : Nat) (low f : Int) (O : List UlD), O.length + k = m.toNat → O.length + k' = n.toNat →
    (walkM l n k' low f O).2.2 = (walkM l m k low f O).2.2.take n.toNat ∧ ((walkM l n k' low f O).2.2.length = n.toNat → (walkM l n k' low f O).1 = 1)
  | k, 0, low, f, O, h1, h2 => by
    obtain ⟨X, hX⟩ := walkM_ext l m k low f O
    have e : ((O.length : Nat) : Int) = n := by omega
    refine ⟨?_, fun _ => ?_⟩
    · rw [hX, ← h2, Nat.add_zero, List.take_append_of_le_length (Nat.le_refl _), List.take_length]; rfl
    · show wkStop l low f n O.length = 1
      rw [e]; exact wkStop_full _ _ _ _
  | 0, k' + 1, low, f, O, h1, h2 => by omega
  | k + 1, k' + 1, low, f, O, h1, h2 => by
    have e : wkStop l low f m O.length = wkStop l low f n O.length := wkStop_same (by omega) (by omega)
    cases h : wkGo l low f n O.length with
    | true =>
      have h' : wkGo l low f m O.length = true := by unfold wkGo at h ⊢; rw [e]; exact h
      rw [walkM_go h, walkM_go h']
      refine walkM_take l m n hn hmn k k' _ _ _ ?_ ?_ <;> (rw [List.length_append]; show O.length + 1 + _ = _; omega)
    | false =>
      have h' : wkGo l low f m O.length = false := by unfold wkGo at h ⊢; rw [e]; exact h
      rw [walkM_no h, walkM_no h']
      refine ⟨?_, fun q => ?_⟩
      · show O = O.take _
        rw [List.take_of_length_le (by omega)]
      · replace q : O.length = n.toNat := q
        omega
theorem walkR_take (l : List PgD) (c : Cpu) (m n : Int) (hn : 0 ≤ n) (hmn : n ≤ m) :
    (walkR l c n).2.2 = (walkR l c m).2.2.take n.toNat ∧ ((walkR l c n).2.2.length = n.toNat → (walkR l c n).1 = 1) := by
  unfold walkR
  cases h : topB l c && fndB l (topA l c) with
  | false =>
    have e : ∀ x : Int, (topB l c && (decide (x > 0) && fndB l (topA l c))) = false := fun x => by
      cases h1 : topB l c <;> cases h2 : fndB l (topA l c) <;> simp_all
    rw [e, e]
    exact walkM_take l m n hn hmn _ _ _ _ [] (by show 0 + m.toNat = _; omega) (by show 0 + n.toNat = _; omega)
  | true =>
    rw [Bool.and_eq_true] at h
    by_cases h0 : n > 0
    · rw [h.1, h.2, decide_eq_true h0, decide_eq_true (show m > 0 by omega)]
      exact walkM_take l m n hn hmn _ _ _ _ [_] (by show 1 + (m.toNat - 1) = _; omega) (by show 1 + (n.toNat - 1) = _; omega)
    · have e : n = 0 := by omega
      subst e
      rw [h.1, decide_eq_false h0]
      refine ⟨rfl, fun _ => wkStop_full l (low0 c) (c.r 14) 0⟩
theorem walkR_len (l : List PgD) (c : Cpu) (m : Int) (hm : 0 ≤ m) : (walkR l c m).2.2.length ≤ m.toNat := by
  have := (walkR_take l c m m hm (Int.le_refl _)).1
  rw [this]
  exact List.length_take_le _ _
theorem wd_lt (l : List PgD) (a : Int) : wd l a < 4294967296 := by
  unfold wd wordB or32
  rw [IntKind.wrap_u32]
  omega
theorem topA_rg (l : List PgD) {c : Cpu} (h0 : 0 ≤ c.r 15) (h1 : c.r 15 < 4294967296) : 0 ≤ topA l c ∧ topA l c < 4294967296 := by
  unfold topA
  cases isPush (insX l c.pc) || isRet (insX l c.pc)
  · show 0 ≤ IntKind.u32.wrap _ ∧ IntKind.u32.wrap _ < _
    rw [IntKind.wrap_u32]; omega
  · exact ⟨h0, h1⟩
end Go.Ev
/- Walks: the plain law about scans. -/
namespace Go.Ev
open Go.Proofs
def adr (a : Int) (i : Nat) : Int := (a + i) % 4294967296
theorem adr_rg (a : Int) (i : Nat) : 0 ≤ adr a i ∧ adr a i < 4294967296 := by unfold adr; omega
theorem adr_0 {a : Int} (h0 : 0 ≤ a) (h1 : a < 4294967296) : adr a 0 = a := by unfold adr; omega
theorem adr_adr (a : Int) (i j : Nat) : adr (adr a i) j = adr a (i + j) := by unfold adr; omega
theorem up4_adr (a : Int) : up4 a = adr a 4 := by unfold up4 adr; rw [IntKind.wrap_u32]; omega
theorem pcF_eq {a : Int} (h0 : 0 ≤ a) : pcF a = a % 256 := by
  unfold pcF
  rw [Int.tmod_eq_emod_of_nonneg h0, wrap64 _ (by omega) (by omega)]
theorem pcQ_eq {a : Int} (h0 : 0 ≤ a) (h1 : a < 4294967296) : pcQ a = a / 256 := by
  unfold pcQ
  rw [Int.tdiv_eq_ediv_of_nonneg h0, IntKind.wrap_u32, wrap64 _ (by omega) (by omega)]
  omega
theorem pgBad_page {l : List PgD} {need a b : Int} (h : pcQ a = pcQ b) : pgBad l need a = pgBad l need b := by unfold pgBad; rw [h]
theorem pcK_def {a n : Int} (h0 : 0 ≤ a) (hn : 0 < n) : pcK a n = if 256 - a % 256 < n then 256 - a % 256 else n := by
  unfold pcK
  rw [pcF_eq h0, wrap64 _ (by omega) (by omega)]
theorem pcA_eq {a n : Int} (h0 : 0 ≤ a) (hn : 0 < n) (h2 : n ≤ 1000000) : pcA a n = adr a (pcK a n).toNat := by
  have h3 := pcK_pos (a := a) hn
  have h4 := pcK_le (a := a) (n := n)
  unfold pcA adr
  rw [IntKind.wrap_u32, IntKind.wrap_u32]; omega
theorem pcW_good (l : List PgD) (need : Int) : ∀ (k : Nat) (a n : Int), 0 ≤ a → a < 4294967296 → n ≤ k → n ≤ 1000000 →
    ((pcW l need k a n).2.2 = false ↔ ∀ i : Nat, (i : Int) < n → pgBad l need (adr a i) = false)
  | 0, a, n, h0, h1, hk, hn => ⟨fun _ i hi => by omega, fun _ => rfl⟩
  | k + 1, a, n, h0, h1, hk, hn => by
    by_cases hp : n > 0
    · have e : pcW l need (k + 1) a n = bif pgBad l need a then (a, n, true) else pcW l need k (pcA a n) (pcN a n) := by
        show (bif decide (n > 0) then _ else _) = _
        rw [decide_eq_true hp]; rfl
      have q1 := pcK_pos (a := a) hp
      have q2 := pcK_le (a := a) (n := n)
      have q3 := pcK_def (a := a) h0 hp
      have q4 := pcN_eq (a := a) hp hn
      have q5 := pcA_eq (a := a) h0 hp hn
      have q6 := adr_rg a (pcK a n).toNat
      have same : ∀ i : Nat, (i : Int) < pcK a n → pgBad l need (adr a i) = pgBad l need a := fun i hi => by
        refine pgBad_page ?_
        have r : adr a i = a + i := by
          unfold adr
          split at q3 <;> omega
        rw [r, pcQ_eq h0 h1, pcQ_eq (by omega) (by rw [← r]; exact (adr_rg a i).2)]
        split at q3 <;> omega
      rw [e]
      cases hb : pgBad l need a with
      | true =>
        refine ⟨fun h => (by cases h), fun h => ?_⟩
        have := h 0 (by omega)
        rw [same 0 (by omega), hb] at this
        cases this
      | false =>
        have ih := pcW_good l need k (pcA a n) (pcN a n) (by rw [q5]; exact q6.1) (by rw [q5]; exact q6.2) (by omega) (by omega)
        show (pcW l need k (pcA a n) (pcN a n)).2.2 = false ↔ _
        rw [ih]
        constructor
        · intro h i hi
          by_cases hs : (i : Int) < pcK a n
          · rw [same i hs, hb]
          · have := h (i - (pcK a n).toNat) (by omega)
            rw [q5, adr_adr, show (pcK a n).toNat + (i - (pcK a n).toNat) = i by omega] at this
            exact this
        · intro h i hi
          have := h ((pcK a n).toNat + i) (by omega)
          rw [q5, adr_adr]; exact this
    · rw [pcW_end hp]
      exact ⟨fun _ i hi => by omega, fun _ => rfl⟩
theorem pcE_good (l : List PgD) (need a n : Int) (h0 : 0 ≤ a) (h1 : a < 4294967296) (hn : n ≤ 1000000) : (pcE l need a n).2.2 = false ↔ ∀ i : Nat, (i : Int) < n → pgBad l need (adr a i) = false :=
  pcW_good l need n.toNat a n h0 h1 (by omega) hn
theorem scanM_acc (l : List PgD) : ∀ (k : Nat) (a : Int) (O : List UlD), scanM l k a O = O ++ scanM l k a []
  | 0, a, O => by show O = O ++ []; rw [List.append_nil]
  | k + 1, a, O => by
    show (bif wOk l a then scanM l k (up4 a) (bif siteB l (wd l a) then O ++ [fndL l a] else O) else O) = O ++ (bif wOk l a then scanM l k (up4 a) (bif siteB l (wd l a) then [] ++ [fndL l a] else []) else [])
    cases wOk l a
    · rw [cond_false, cond_false, List.append_nil]
    · rw [cond_true, cond_true]
      cases siteB l (wd l a)
      · rw [cond_false, cond_false]; exact scanM_acc l k _ O
      · rw [cond_true, cond_true, scanM_acc l k _ (O ++ _), scanM_acc l k _ ([] ++ _), List.nil_append, List.append_assoc]
theorem scanM_len (l : List PgD) : ∀ (n : Nat) (a : Int), (scanM l n a []).length ≤ n
  | 0, a => Nat.le_refl _
  | n + 1, a => by
    show (bif wOk l a then scanM l n (up4 a) (bif siteB l (wd l a) then [] ++ [fndL l a] else []) else []).length ≤ n + 1
    have := scanM_len l n (up4 a)
    cases wOk l a
    · rw [cond_false]; exact Nat.zero_le _
    · rw [cond_true, scanM_acc, List.length_append]
      cases siteB l (wd l a)
      · show 0 + _ ≤ _; omega
      · show 1 + _ ≤ _; omega
end Go.Ev
/- Stacks: returns and handlers' ends, as summaries. -/
namespace Go.Ev
open Go.Proofs
def setS (S : Nat → List UwE) (t : Nat) (l : List UwE) : Nat → List UwE := fun i => bif Nat.beq i t then l else S i
def thrd (n : Int) : Bool := decide (0 ≤ n) && decide (n < 8)
end Go.Ev
/- Step, by what it answers. -/
namespace Go.Ev
open Go.Proofs
def l8 {α : Type} (f : Nat → α) : List α := [f 0, f 1, f 2, f 3, f 4, f 5, f 6, f 7]
def rl (S : Nat → List UwE) (i : Nat) : List UwE := UE.list (UE.con (S i))
def skEn (b : Nat) (C : Nat → Con) : List Ent := [⟨b + 7, 0, .cells (C 7)⟩, ⟨b + 6, 0, .cells (C 6)⟩, ⟨b + 5, 0, .cells (C 5)⟩, ⟨b + 4, 0, .cells (C 4)⟩, ⟨b + 3, 0, .cells (C 3)⟩, ⟨b + 2, 0, .cells (C 2)⟩, ⟨b + 1, 0, .cells (C 1)⟩, ⟨b + 0, 0, .cells (C 0)⟩]
def skN (b : Nat) (N : Nat → Nat) (i : Nat) : AV := ow (b + i) (N i)
def rlC (S : Nat → List UwE) (i : Nat) : Con := UE.con (rl S i)
def lenS (S : Nat → List UwE) (i : Nat) : Nat := (S i).length
def h9 (S : Nat → List UwE) : Heap := ⟨9, skEn 1 (rlC S) ++ [skRb 0 (l8 (skN 1 (lenS S)))]⟩
end Go.Ev
/- Step, as a summary. -/
namespace Go.Ev
open Go.Proofs
def kx {α : Type} (k : Int) (x y : α) : α := bif k == 6 then x else bif k == 7 then x else bif k == 9 then x else bif k == 10 then x else bif k == 11 then x else bif k == 12 then x else bif k == 24 then x else y
def stepU (S : Nat → List UwE) (e : Evt) : Nat → List UwE :=
  bif thrd e.th then
    bif e.k == 6 then setS S e.th.toNat (S e.th.toNat ++ [(1, e.pc, e.a, e.b, 0)])
    else bif e.k == 7 then setS S e.th.toNat ((S e.th.toNat).take (retN (S e.th.toNat) e.a))
    else bif e.k == 9 then (bif e.a != 0 then setS S e.th.toNat (S e.th.toNat ++ [(2, e.pc, e.a, e.pc, e.n)]) else S)
    else bif e.k == 10 then setS S e.th.toNat ((S e.th.toNat).take (backN' (S e.th.toNat)))
    else bif e.k == 11 then (bif thrd e.n then setS S e.n.toNat [] else S)
    else bif e.k == 12 then setS S e.th.toNat []
    else bif e.k == 24 then fun _ => []
    else S
  else S
end Go.Ev
/- Rows compared: slices.Equal and its like. -/
namespace Go.Ev
theorem propB_f {p : Prop} (h : ¬ p) : propB p = false := @decide_eq_false _ (Classical.propDecidable _) h
theorem wrapT (k : Nat) (h : k < 9223372036854775807) : IntKind.i64.wrap ((k : Int) + 1) = ((k + 1 : Nat) : Int) := by rw [wrap64 _ (by omega) (by omega)]; omega
section
variable {D : Type} (R : RowTy D) (ceq : D → D → Bool)
def eqD (L M : List D) : Bool := propB (L.length = M.length ∧ ∀ i, i < L.length → ceq (L.getD i R.z) (M.getD i R.z) = true)
def eqL (N : Nat) (ks : List Nat) (V : Int → List AV) (L M : List D) : LSum := atL (stOf N ks (V 0) ⟨0, []⟩) (.grd (decide (L.length = M.length) && Nat.ble L.length 1000000) (.br (eqD R ceq L M) (.out (.exit 0, stOf N [] [] ⟨0, []⟩)) (.out (.ret, stOf N [4] [.val (.bool false)] ⟨0, []⟩))))
def eqS (args : List AV) : Ans (AV × Heap) := match args with
  | [.ro c1 k1, .ro c2 k2] => .grd (R.ok c1 && (R.ok c2 && Nat.ble (R.list c1).length 1000000)) (.out (.val (.bool (eqD R ceq (R.list c1) (R.list c2))), ⟨0, []⟩))
  | _ => .no
def eqqA : AFun := pureA (fun args => eqS R ceq (nzs [R.con [], R.con []] args))
def eqRound (N : Nat) (ks : List Nat) (V : Int → List AV) (L M : List D) (i : Int) : Option (AX × St) :=
  bif decide (i < (L.length : Int)) then
   bif inR i L.length then
    bif inR i M.length then
     bif !(ceq (L.getD i.toNat R.z) (M.getD i.toNat R.z)) then some (.ret, stOf N [4] [.val (.bool false)] ⟨0, []⟩)
     else some (.normal, stOf N ks (V (IntKind.i64.wrap (i + 1))) ⟨0, []⟩)
    else none
   else none
  else some (.exit 0, stOf N [] [] ⟨0, []⟩)
def eqRun (N : Nat) (ks : List Nat) (V : Int → List AV) (L M : List D) : Option (AV × Heap) :=
  bif (L.length : Int) != (M.length : Int) then some (.val (.bool false), ⟨0, []⟩)
  else bif isSt (stOf N ks (V 0) ⟨0, []⟩) (stOf N ks (V 0) ⟨0, []⟩) then
    (bif decide (L.length = M.length) && Nat.ble L.length 1000000 then (bif eqD R ceq L M then some (.val (.bool true), ⟨0, []⟩) else some (.val (.bool false), ⟨0, []⟩)) else none)
  else none
end
section
variable {D : Type} {R : RowTy D} {ceq : D → D → Bool}
theorem eqD_iff (hc : ∀ x y, ceq x y = true ↔ x = y) (L M : List D) : eqD R ceq L M = true ↔ L = M := by
  constructor
  · intro h
    obtain ⟨h1, h2⟩ := propB_eq h
    refine List.ext_getElem h1 (fun i hi hj => ?_)
    have := (hc _ _).1 (h2 i hi)
    rwa [List.getD_eq_getElem?_getD, List.getD_eq_getElem?_getD, List.getElem?_eq_getElem hi, List.getElem?_eq_getElem hj] at this
  · rintro rfl
    exact propB_t ⟨rfl, fun i _ => (hc _ _).2 rfl⟩
theorem eqloop {P : Program} {env : Env} (he : EnvOk2 P env) {d g : Nat} {c : Code} (hin : AllL (LsOk P (lsumsOf [])) (loopsOf c)) {N : Nat} {ks : List Nat} (V : Int → List AV) (L M : List D)
    (r : ∀ i : Int, codeS env (callF env d) (env.keep g) (lsumsOf []) c (outK ks [4]) (stOf N ks (V i) ⟨0, []⟩) = eqRound R ceq N ks V L M i) :
    ∀ s e s', s.h.ok → (eqL R ceq N ks V L M s).run = some (e, s') → Triple P (.loop c) s e s' := by
  refine atL_grd (fun hp => ?_)
  rw [Bool.and_eq_true, decide_eq_true_eq, Nat.ble_eq] at hp
  obtain ⟨hlm, hl⟩ := hp
  refine loop_at he (d := d) (g := g) (ls := lsumsOf []) (c := c) hin ks [4] (T := Nat)
    (fun k => stOf N ks (V k) ⟨0, []⟩) (fun k => k ≤ L.length ∧ ∀ i, i < k → ceq (L.getD i R.z) (M.getD i R.z) = true) (fun k => L.length - k) (fun _ => bif eqD R ceq L M then (.exit 0, stOf N [] [] ⟨0, []⟩) else (.ret, stOf N [4] [.val (.bool false)] ⟨0, []⟩)) _ _ 0 ⟨Nat.zero_le _, fun i hi => by omega⟩ (Weak.refl heap0_ok) ?_ (fun k _ => heap0_ok) ?_
  · intro e s' h
    rw [Ans.run_br] at h
    cases hq : eqD R ceq L M <;> rw [hq] at h <;> exact Option.some.inj h
  · rintro k ⟨h1, h2⟩
    have key := r k
    unfold eqRound at key
    by_cases hk : k < L.length
    · rw [declt_nat, inR_nat, inR_nat, decide_eq_true hk, decide_eq_true (show k < M.length by omega), Int.toNat_natCast] at key
      simp only [Bool.and_self, cond_true'] at key
      cases hq : ceq (L.getD k R.z) (M.getD k R.z) with
      | true =>
        rw [hq, wrapT k (by omega)] at key
        refine .inl ⟨k + 1, _, key, Weak.refl heap0_ok, ⟨hk, fun i hi => ?_⟩, by omega, rfl⟩
        rcases Nat.lt_or_ge i k with q | q
        · exact h2 i q
        · have : i = k := by omega
          subst this; exact hq
      | false =>
        rw [hq] at key
        have hne : eqD R ceq L M = false := propB_f (fun e => by have := e.2 k hk; rw [hq] at this; cases this)
        simp only [hne, cond_false']
        exact .inr ⟨_, key, Weak.refl heap0_ok, by show AX.ret ≠ .normal; intro h; cases h⟩
    · have e1 : k = L.length := by omega
      rw [declt_nat, decide_eq_false hk] at key
      have hq : eqD R ceq L M = true := propB_t ⟨hlm, fun i hi => h2 i (by omega)⟩
      simp only [hq, cond_true']
      exact .inr ⟨_, key, Weak.refl heap0_ok, by show (AX.exit 0) ≠ .normal; intro h; cases h⟩
theorem eq_sum {P : Program} {env : Env} (he : EnvOk2 P env) {d g lid : Nat} {c : Code} (hf : ∃ fn c, P.funcs[g]? = some fn ∧ fn.name ≠ "runtime.NumGoroutine" ∧ fn.body = some c)
    (hb : loopsOf (bodyOf env g) = [c]) (hfst : Code.fst c = some lid) (hin : loopsOf c = []) {N : Nat} {ks : List Nat} (V : List D → List D → Int → List AV)
    (r : ∀ L M (i : Int), codeS env (callF env d) (env.keep g) (lsumsOf []) c (outK ks [4]) (stOf N ks (V L M i) ⟨0, []⟩) = eqRound R ceq N ks (V L M) L M i)
    (w : ∀ L M, rootS env d g (lsumsOf [(lid, eqL R ceq N ks (V L M) L M)]) [.ro (R.con L) none, .ro (R.con M) none] = eqRun R ceq N ks (V L M) L M) : SumC P g (eqqA R ceq) := by
  refine pureSumR g hf ?_
  intro args v h2 hs
  refine Alone.nz (cs := [R.con [], R.con []]) (by simp [Con.len, RowTy.con]) ?_
  replace hs : (eqS R ceq (nzs [R.con [], R.con []] args)).run = some (v, h2) := hs
  generalize nzs [R.con [], R.con []] args = args' at hs ⊢
  unfold eqS at hs
  split at hs
  · rename_i c1 k1 c2 k2
    rw [Ans.run_grd] at hs
    cases hq : (R.ok c1 && (R.ok c2 && Nat.ble (R.list c1).length 1000000)) with
    | false => rw [hq] at hs; cases hs
    | true =>
      rw [hq, cond_true] at hs
      injection hs with hs
      injection hs with q1 q2
      subst q1; subst q2
      rw [Bool.and_eq_true, Bool.and_eq_true] at hq
      obtain ⟨o1, o2, hl⟩ := hq
      refine Alone.argsW (AWs.args (.cons (R.aw o1 _) (.cons (R.aw o2 _) .nil))) ?_
      generalize R.list c1 = L at hl ⊢
      generalize R.list c2 = M at ⊢
      have hls : lsumsOf [(lid, eqL R ceq N ks (V L M) L M)] lid = some (eqL R ceq N ks (V L M) L M) := by
        show (bif Nat.beq lid lid then _ else _) = _
        rw [Nat.beq_refl]; rfl
      refine rootS_alone he (d := d) (g := g) (ls := lsumsOf [(lid, eqL R ceq N ks (V L M) L M)]) (AllL.of1 (a := c) hb (LsOk.of hfst hls (eqloop he (d := d) (g := g) (AllL.of0 hin) (V L M) L M (r L M)))) ((w L M).trans ?_)
      unfold eqRun
      by_cases h : L.length = M.length
      · rw [show ((L.length : Int) != (M.length : Int)) = false by rw [h]; simp, isSt_refl, decide_eq_true h, hl]
        cases eqD R ceq L M <;> rfl
      · have h1 : ((L.length : Int) != (M.length : Int)) = true := by rw [bne, Bool.not_eq_true', beq_eq_false_iff_ne]; omega
        have h2 : eqD R ceq L M = false := propB_f (fun e => h e.1)
        rw [h1, h2]; rfl
  · cases hs
end
end Go.Ev
