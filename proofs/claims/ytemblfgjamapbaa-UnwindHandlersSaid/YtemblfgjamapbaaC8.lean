/- The evaluator, its soundness and the walks: part 8. -/
import Derived.Test.YtemblfgjamapbaaC7
set_option linter.unusedSectionVars false
set_option linter.unusedSimpArgs false
set_option linter.unusedVariables false
set_option maxRecDepth 100000
set_option maxRecDepth 1000000
noncomputable section
/- Stacks, as blocks of a caller's. -/
namespace Go.Ev
open Go.Proofs
def isAH (a : List AV) (h : Heap) (a0 : List AV) (h0 : Heap) : Bool := @decide (a = a0 ∧ h = h0) (Classical.propDecidable _)
def skA (S : Nat → List UwE) : AV := .agg [.ro (UE.con (S 0)) none, .ro (UE.con (S 1)) none, .ro (UE.con (S 2)) none, .ro (UE.con (S 3)) none, .ro (UE.con (S 4)) none, .ro (UE.con (S 5)) none, .ro (UE.con (S 6)) none, .ro (UE.con (S 7)) none]
structure Evt where
  k : Int
  th : Int
  pc : Int
  a : Int
  b : Int
  n : Int
def evL (e : Evt) : List AV := [.val (.int .i64 e.k), .val (.int .i64 e.th), .val (.int .u32 e.pc), .val (.int .u32 e.a), .val (.int .u32 e.b), .val (.int .i64 e.n)]
def evA (e : Evt) : AV := .agg (evL e)
def ow (i n : Nat) : AV := .own i 0 n none 5
def kindsM : MC := .ents [.mk (.int .i64 (6)) (.clo (Fn.func 76) [] []) (0), .mk (.int .i64 (7)) (.clo (Fn.func 77) [] []) (1), .mk (.int .i64 (9)) (.clo (Fn.func 78) [] []) (2), .mk (.int .i64 (10)) (.clo (Fn.func 79) [] []) (3), .mk (.int .i64 (11)) (.clo (Fn.func 80) [] []) (4), .mk (.int .i64 (12)) (.clo (Fn.func 81) [] []) (5), .mk (.int .i64 (24)) (.clo (Fn.func 82) [] []) (6)] 7
def ent1 (id : Nat) (l : List AV) : Ent := ⟨id, 0, .cells (.rows false 1 [l])⟩
def skCb (b : Nat) (S : Nat → List UwE) : List AV := [ow (b + 0) (S 0).length, ow (b + 1) (S 1).length, ow (b + 2) (S 2).length, ow (b + 3) (S 3).length, ow (b + 4) (S 4).length, ow (b + 5) (S 5).length, ow (b + 6) (S 6).length, ow (b + 7) (S 7).length]
def skEb (b : Nat) (S : Nat → List UwE) : List Ent := [⟨b + 7, 0, .cells (UE.con (S 7))⟩, ⟨b + 6, 0, .cells (UE.con (S 6))⟩, ⟨b + 5, 0, .cells (UE.con (S 5))⟩, ⟨b + 4, 0, .cells (UE.con (S 4))⟩, ⟨b + 3, 0, .cells (UE.con (S 3))⟩, ⟨b + 2, 0, .cells (UE.con (S 2))⟩, ⟨b + 1, 0, .cells (UE.con (S 1))⟩, ⟨b + 0, 0, .cells (UE.con (S 0))⟩]
def skRb (id : Nat) (R : List AV) : Ent := ⟨id, 0, .cells (.rows false 1 (flatRows R))⟩
def H9 (S : Nat → List UwE) : Heap := ⟨9, skEb 1 S ++ [skRb 0 (skCb 1 S)]⟩
def hB (S : Nat → List UwE) (R : List AV) (e : Evt) : List Ent := ⟨12, 0, .cells (.rows true 6 [evL e])⟩ :: skEb 4 S ++ [skRb 3 R, ⟨2, 0, .cells (.rows false 1 [[.ptr 3 0 0]])⟩, ⟨1, 0, .defd⟩]
def asg : Code → Code
  | .rangeFunc _ _ a _ => a
  | _ => .skip
def bdy : Code → Code
  | .rangeFunc _ _ _ b => b
  | _ => .skip
def opn : Code → Operand
  | .rangeFunc f _ _ _ => f
  | _ => .tmp 0
def prsA : Code → Array Tmp
  | .rangeFunc _ ps _ _ => ps
  | _ => #[]
def Try.E77 : Env := Try.env0 false (sumsOf []) (keepF 77 [(3, [2,3,4,15])])
def Try.E79 : Env := Try.env0 false (sumsOf []) (keepF 79 [(2, [2,3,13])])
def Try.rg77 : Code := nthD .skip (rangesOf (bodyOf Try.E77 77)) 0
def Try.rg79 : Code := nthD .skip (rangesOf (bodyOf Try.E79 79)) 0
def Try.T77 : List AV := placeL [2,3,4,15] [.ptr 2 0 0, .ptr 12 0 0, .ptr 13 0 0, .clo (.func 83) [] [.ptr 14 0 0]] 37 0
def Try.T79 : List AV := placeL [2,3,13] [.ptr 2 0 0, .ptr 12 0 0, .clo (.func 83) [] [.ptr 13 0 0]] 34 0
def Try.H77 (st : LoopState) (pend : Option Code) (S : Nat → List UwE) (R : List AV) (t : Nat) (e : Evt) : Heap := ⟨15, ent1 14 [ow (4 + t) (S t).length] :: ent1 13 [ow (4 + t) (S t).length] :: hB S R e ++ [⟨0, 0, .loop st pend Try.T77 [16, 17] (asg Try.rg77) (bdy Try.rg77) 1⟩]⟩
def Try.H79 (st : LoopState) (pend : Option Code) (S : Nat → List UwE) (R : List AV) (t : Nat) (e : Evt) : Heap := ⟨14, ent1 13 [ow (4 + t) (S t).length] :: hB S R e ++ [⟨0, 0, .loop st pend Try.T79 [14, 15] (asg Try.rg79) (bdy Try.rg79) 1⟩]⟩
def Try.E83 : Env := Try.env0 false (sumsOf []) (keepF 83 [(1, [0,1,3])])
def Try.b83 : Code := nthD .skip (loopsOf (bodyOf Try.E83 83)) 0
def Try.B83 (p : Nat) (s : St) : Option (AX × St) := codeP Try.E83 (callF Try.E83 5) (Try.E83.keep 83) (lsumsOf []) p Try.b83 (outKP p [0,1,3] []) s
def Try.V83 (q : Nat) (i : Int) : List AV := [.clo (.yield 0) [] [], .ptr q 0 0, .val (.int .i64 i)]
theorem each8 {p : Nat → Prop} (h0 : p 0) (h1 : p 1) (h2 : p 2) (h3 : p 3) (h4 : p 4) (h5 : p 5) (h6 : p 6) (h7 : p 7) : ∀ t, t < 8 → p t
  | 0, _ => h0
  | 1, _ => h1
  | 2, _ => h2
  | 3, _ => h3
  | 4, _ => h4
  | 5, _ => h5
  | 6, _ => h6
  | 7, _ => h7
  | t + 8, h => by omega
def skT (b : Nat) (S : Nat → List UwE) (t n : Nat) : List AV := setL (skCb b S) t (ow (b + t) n)
theorem Try.r77 (S : Nat → List UwE) (k a b pc n : Int) (i : Int) : ∀ t, t < 8 → Try.B83 15 (stOf 19 [0,1,3] (Try.V83 14 i) (Try.H77 .ready none S (skCb 4 S) t ⟨k, t, pc, a, b, n⟩)) =
    bif decide (i ≥ 0) then
     bif inR i (S t).length then
      bif (0 + i.toNat).blt (S t).length then
       bif ((S t).getD (0 + i.toNat) UE.z).fst == 2 then some (.ret, stOf 19 [] [] (Try.H77 .done (some (.exit 0)) S (skCb 4 S) t ⟨k, t, pc, a, b, n⟩))
       else bif ((S t).getD (0 + i.toNat) UE.z).snd.snd.snd.fst == a then
        bif decide (0 ≤ i) && decide (i ≤ ((S t).length : Int)) then some (.ret, stOf 19 [] [] (Try.H77 .done (some (.exit 0)) S (skT 4 S t (i.toNat - 0)) t ⟨k, t, pc, a, b, n⟩)) else none
       else some (.normal, stOf 19 [0,1,3] (Try.V83 14 (IntKind.i64.wrap (i - 1))) (Try.H77 .ready none S (skCb 4 S) t ⟨k, t, pc, a, b, n⟩))
      else none
     else none
    else some (.exit 0, stOf 19 [] [] (Try.H77 .ready none S (skCb 4 S) t ⟨k, t, pc, a, b, n⟩)) :=
  each8 (by kernel_rfl) (by kernel_rfl) (by kernel_rfl) (by kernel_rfl) (by kernel_rfl) (by kernel_rfl) (by kernel_rfl) (by kernel_rfl)
theorem Try.r79 (S : Nat → List UwE) (k a b pc n : Int) (i : Int) : ∀ t, t < 8 → Try.B83 14 (stOf 19 [0,1,3] (Try.V83 13 i) (Try.H79 .ready none S (skCb 4 S) t ⟨k, t, pc, a, b, n⟩)) =
    bif decide (i ≥ 0) then
     bif inR i (S t).length then
      bif (0 + i.toNat).blt (S t).length then
       bif ((S t).getD (0 + i.toNat) UE.z).fst == 2 then
        bif decide (0 ≤ i) && decide (i ≤ ((S t).length : Int)) then some (.ret, stOf 19 [] [] (Try.H79 .done (some .ret) S (skT 4 S t (i.toNat - 0)) t ⟨k, t, pc, a, b, n⟩)) else none
       else some (.normal, stOf 19 [0,1,3] (Try.V83 13 (IntKind.i64.wrap (i - 1))) (Try.H79 .ready none S (skCb 4 S) t ⟨k, t, pc, a, b, n⟩))
      else none
     else none
    else some (.exit 0, stOf 19 [] [] (Try.H79 .ready none S (skCb 4 S) t ⟨k, t, pc, a, b, n⟩)) :=
  each8 (by kernel_rfl) (by kernel_rfl) (by kernel_rfl) (by kernel_rfl) (by kernel_rfl) (by kernel_rfl) (by kernel_rfl) (by kernel_rfl)
theorem isAH_refl (a : List AV) (h : Heap) : isAH a h a h = true := @decide_eq_true _ (Classical.propDecidable _) ⟨rfl, rfl⟩
theorem isAH_eq {a a0 : List AV} {h h0 : Heap} (q : isAH a h a0 h0 = true) : a = a0 ∧ h = h0 := @of_decide_eq_true _ (Classical.propDecidable _) q
end Go.Ev
/- Stacks: what returns and handlers' ends remove; the walks from the top down. -/
namespace Go.Ev
open Go.Proofs
def seekR (l : List UwE) (a : Int) : Nat → Option (Option Nat)
  | 0 => none
  | k + 1 => bif (l.getD k UE.z).1 == 2 then some none else bif (l.getD k UE.z).2.2.2.1 == a then some (some k) else seekR l a k
def seekB (l : List UwE) : Nat → Option Nat
  | 0 => none
  | k + 1 => bif (l.getD k UE.z).1 == 2 then some k else seekB l k
def retN (l : List UwE) (a : Int) : Nat := match seekR l a l.length with
  | some (some k) => k
  | _ => l.length
def backN' (l : List UwE) : Nat := match seekB l l.length with
  | some k => k
  | none => l.length
def isN {α : Type} : Option α → Bool
  | none => true
  | some _ => false
def fin77 (S : Nat → List UwE) (t : Nat) (e : Evt) : Option (Option Nat) → AX × Heap
  | none => (.exit 0, Try.H77 .ready none S (skCb 4 S) t e)
  | some none => (.ret, Try.H77 .done (some (.exit 0)) S (skCb 4 S) t e)
  | some (some k) => (.ret, Try.H77 .done (some (.exit 0)) S (skT 4 S t k) t e)
def fin79 (S : Nat → List UwE) (t : Nat) (e : Evt) : Option Nat → AX × Heap
  | none => (.exit 0, Try.H79 .ready none S (skCb 4 S) t e)
  | some k => (.ret, Try.H79 .done (some .ret) S (skT 4 S t k) t e)
theorem ids_lt : ∀ {es : List Ent} {n : Nat}, (∀ x ∈ es.map (·.id), x < n) → ∀ {id : Nat} {e : Ent}, findE es id = some e → id < n
  | [], n, _, id, e, h => by cases h
  | x :: es, n, hx, id, e, h => by
    rw [findE_cons] at h
    split at h
    · rename_i q
      have := hx x.id (by simp)
      rw [← q]; exact this
    · exact ids_lt (fun y hy => hx y (by rw [List.map_cons]; exact List.mem_cons_of_mem _ hy)) h
theorem heap_ok {n : Nat} {es : List Ent} (ids : List Nat) (hi : es.map (·.id) = ids) (h1 : ids.Nodup) (h2 : ∀ x ∈ ids, x < n) : (⟨n, es⟩ : Heap).ok :=
  ⟨by show (es.map (·.id)).Nodup; rw [hi]; exact h1, fun id e h => ids_lt (by rw [hi]; exact h2) h⟩
theorem Try.H77_ok (st : LoopState) (pend : Option Code) (S : Nat → List UwE) (R : List AV) (t : Nat) (e : Evt) : (Try.H77 st pend S R t e).ok := heap_ok [14, 13, 12, 11, 10, 9, 8, 7, 6, 5, 4, 3, 2, 1, 0] rfl (by decide) (by decide)
theorem Try.H79_ok (st : LoopState) (pend : Option Code) (S : Nat → List UwE) (R : List AV) (t : Nat) (e : Evt) : (Try.H79 st pend S R t e).ok := heap_ok [13, 12, 11, 10, 9, 8, 7, 6, 5, 4, 3, 2, 1, 0] rfl (by decide) (by decide)
def evT (e : Evt) (t : Nat) : Evt := ⟨e.k, t, e.pc, e.a, e.b, e.n⟩
def Try.s83 (q : Nat) (n : Int) (h : Heap) : St := stOf 19 [0,1,3] (Try.V83 q n) h
def Try.L77 (S : Nat → List UwE) (t : Nat) (e : Evt) : LSum := atL (Try.s83 14 (IntKind.i64.wrap (((S t).length : Int) - 1)) (Try.H77 .ready none S (skCb 4 S) t (evT e t))) (.br (isN (seekR (S t) e.a (S t).length)) (.out (.exit 0, stOf 19 [] [] (Try.H77 .ready none S (skCb 4 S) t (evT e t)))) (.out (.ret, stOf 19 [] [] (Try.H77 .done (some (.exit 0)) S (skT 4 S t (retN (S t) e.a)) t (evT e t)))))
def Try.L79 (S : Nat → List UwE) (t : Nat) (e : Evt) : LSum := atL (Try.s83 13 (IntKind.i64.wrap (((S t).length : Int) - 1)) (Try.H79 .ready none S (skCb 4 S) t (evT e t))) (.br (isN (seekB (S t) (S t).length)) (.out (.exit 0, stOf 19 [] [] (Try.H79 .ready none S (skCb 4 S) t (evT e t)))) (.out (.ret, stOf 19 [] [] (Try.H79 .done (some .ret) S (skT 4 S t (backN' (S t))) t (evT e t)))))
theorem Try.e83 : EnvOk2 Try.prog Try.E83 := Try.envOk false (sumsOf []) _ (fun g A h => by cases h)
theorem skT_same (b : Nat) (S : Nat → List UwE) : ∀ t, t < 8 → skT b S t (S t).length = skCb b S := each8 rfl rfl rfl rfl rfl rfl rfl rfl
theorem Try.l77 (S : Nat → List UwE) (t : Nat) (ht : t < 8) (e : Evt) (hl : (S t).length ≤ 1000000) : ∀ s x s', s.h.ok → (Try.L77 S t e s).run = some (x, s') → TripleP Try.prog 15 (.loop Try.b83) s x s' := by
  intro s x s' hk hL
  obtain ⟨rfl, hA⟩ := atL_some hL
  have hX := codeP_sound (ρ := AX × St) (p := 15) (callF_sound Try.e83 5) Try.e83.ok Try.e83.mix (Try.E83.keep 83) (lsumsOf []) Try.b83 trivial
  have key := loop_tripleP hX [0,1,3] [] (T := Nat) (fun k => Try.s83 14 ((k : Int) - 1) (Try.H77 .ready none S (skCb 4 S) t (evT e t))) (fun k => k ≤ (S t).length) (fun k => k) (fun k => ((fin77 S t (evT e t) (seekR (S t) e.a k)).1, stOf 19 [] [] (fin77 S t (evT e t) (seekR (S t) e.a k)).2)) (fun k _ => Try.H77_ok _ _ _ _ _ _) (fun k hk => by
    cases k with
    | zero =>
      refine .inr ⟨_, (Try.r77 S e.k e.a e.b e.pc e.n (((0 : Nat) : Int) - 1) t ht).trans (by rfl), WeakP.refl (Try.H77_ok _ _ _ _ _ _), ?_⟩
      show (AX.exit 0) ≠ .normal
      simp
    | succ k =>
      have key := Try.r77 S e.k e.a e.b e.pc e.n (k : Int) t ht
      have e0 : (((k + 1 : Nat) : Int) - 1) = (k : Int) := by omega
      rw [inR_nat, decide_eq_true (show k < (S t).length from hk), decide_eq_true (show (k : Int) ≥ 0 by omega), Int.toNat_natCast, wrap64 _ (by omega) (by omega), Nat.zero_add, blt_t (show k < (S t).length from hk), decide_eq_true (show (k : Int) ≤ ((S t).length : Int) by have := hk; omega)] at key
      simp only [e0, seekR]
      cases hq : ((S t).getD k UE.z).1 == 2 with
      | true =>
        rw [hq] at key
        exact .inr ⟨_, key, WeakP.refl (Try.H77_ok _ _ _ _ _ _), by show AX.ret ≠ .normal; simp⟩
      | false =>
        rw [hq] at key
        cases hq2 : ((S t).getD k UE.z).2.2.2.1 == e.a with
        | true =>
          rw [hq2] at key
          exact .inr ⟨_, key, WeakP.refl (Try.H77_ok _ _ _ _ _ _), by show AX.ret ≠ .normal; simp⟩
        | false =>
          rw [hq2] at key
          exact .inl ⟨k, _, key, WeakP.refl (Try.H77_ok _ _ _ _ _ _), Nat.le_of_succ_le hk, Nat.lt_succ_self _, rfl⟩) (S t).length (Nat.le_refl _)
  rw [wrap64 _ (by omega) (by omega)]
  unfold retN at hA
  rcases hq : seekR (S t) e.a (S t).length with _ | _ | k
  · rw [hq] at key hA; injection hA with hA; injection hA with h1 h2; subst h1; subst h2; exact key
  · rw [hq] at key hA; injection hA with hA; injection hA with h1 h2; subst h1; subst h2
    simp only [skT_same 4 S t ht]
    exact key
  · rw [hq] at key hA; injection hA with hA; injection hA with h1 h2; subst h1; subst h2; exact key
theorem Try.l79 (S : Nat → List UwE) (t : Nat) (ht : t < 8) (e : Evt) (hl : (S t).length ≤ 1000000) : ∀ s x s', s.h.ok → (Try.L79 S t e s).run = some (x, s') → TripleP Try.prog 14 (.loop Try.b83) s x s' := by
  intro s x s' hk hL
  obtain ⟨rfl, hA⟩ := atL_some hL
  have hX := codeP_sound (ρ := AX × St) (p := 14) (callF_sound Try.e83 5) Try.e83.ok Try.e83.mix (Try.E83.keep 83) (lsumsOf []) Try.b83 trivial
  have key := loop_tripleP hX [0,1,3] [] (T := Nat) (fun k => Try.s83 13 ((k : Int) - 1) (Try.H79 .ready none S (skCb 4 S) t (evT e t))) (fun k => k ≤ (S t).length) (fun k => k) (fun k => ((fin79 S t (evT e t) (seekB (S t) k)).1, stOf 19 [] [] (fin79 S t (evT e t) (seekB (S t) k)).2)) (fun k _ => Try.H79_ok _ _ _ _ _ _) (fun k hk => by
    cases k with
    | zero =>
      refine .inr ⟨_, (Try.r79 S e.k e.a e.b e.pc e.n (((0 : Nat) : Int) - 1) t ht).trans (by rfl), WeakP.refl (Try.H79_ok _ _ _ _ _ _), ?_⟩
      show (AX.exit 0) ≠ .normal
      simp
    | succ k =>
      have key := Try.r79 S e.k e.a e.b e.pc e.n (k : Int) t ht
      have e0 : (((k + 1 : Nat) : Int) - 1) = (k : Int) := by omega
      rw [inR_nat, decide_eq_true (show k < (S t).length from hk), decide_eq_true (show (k : Int) ≥ 0 by omega), Int.toNat_natCast, wrap64 _ (by omega) (by omega), Nat.zero_add, blt_t (show k < (S t).length from hk), decide_eq_true (show (k : Int) ≤ ((S t).length : Int) by have := hk; omega)] at key
      simp only [e0, seekB]
      cases hq : ((S t).getD k UE.z).1 == 2 with
      | true =>
        rw [hq] at key
        exact .inr ⟨_, key, WeakP.refl (Try.H79_ok _ _ _ _ _ _), by show AX.ret ≠ .normal; simp⟩
      | false =>
        rw [hq] at key
        exact .inl ⟨k, _, key, WeakP.refl (Try.H79_ok _ _ _ _ _ _), Nat.le_of_succ_le hk, Nat.lt_succ_self _, rfl⟩) (S t).length (Nat.le_refl _)
  rw [wrap64 _ (by omega) (by omega)]
  unfold backN' at hA
  rcases hq : seekB (S t) (S t).length with _ | k
  · rw [hq] at key hA; injection hA with hA; injection hA with h1 h2; subst h1; subst h2; exact key
  · rw [hq] at key hA; injection hA with hA; injection hA with h1 h2; subst h1; subst h2; exact key
end Go.Ev
/- Stacks: returns and handlers' ends, by what they do to the stacks. -/
namespace Go.Ev
open Go.Proofs
def ag77 : List AV := [.clo (.yield 0) [] [], .ptr 14 0 0]
def ag79 : List AV := [.clo (.yield 0) [] [], .ptr 13 0 0]
def Try.h77 (S : Nat → List UwE) (t : Nat) (e : Evt) : Heap := Try.H77 .ready none S (skCb 4 S) t (evT e t)
def Try.h79 (S : Nat → List UwE) (t : Nat) (e : Evt) : Heap := Try.H79 .ready none S (skCb 4 S) t (evT e t)
def Try.F83r (S : Nat → List UwE) (t : Nat) (e : Evt) (args : List AV) (h : Heap) : Ans (AV × Heap) := .grd (isAH args h ag77 (Try.h77 S t e))
  (.br (isN (seekR (S t) e.a (S t).length)) (.out (.tup [], Try.h77 S t e)) (.out (.tup [], Try.H77 .done (some (.exit 0)) S (skT 4 S t (retN (S t) e.a)) t (evT e t))))
def Try.F83b (S : Nat → List UwE) (t : Nat) (e : Evt) (args : List AV) (h : Heap) : Ans (AV × Heap) := .grd (isAH args h ag79 (Try.h79 S t e))
  (.br (isN (seekB (S t) (S t).length)) (.out (.tup [], Try.h79 S t e)) (.out (.tup [], Try.H79 .done (some .ret) S (skT 4 S t (backN' (S t))) t (evT e t))))
def Try.A83r (S : Nat → List UwE) (t : Nat) (e : Evt) : AFun := effA (Try.F83r S t e)
def Try.A83b (S : Nat → List UwE) (t : Nat) (e : Evt) : AFun := effA (Try.F83b S t e)
theorem Try.w77 (S : Nat → List UwE) (e : Evt) : ∀ t, t < 8 → rootR Try.E83 5 83 15 (lsumsOf [(1, Try.L77 S t e)]) (lsumsOf []) (outVP 15) ag77 (Try.h77 S t e) =
    bif isSt (Try.s83 14 (IntKind.i64.wrap (((S t).length : Int) - 1)) (Try.h77 S t e)) (Try.s83 14 (IntKind.i64.wrap (((S t).length : Int) - 1)) (Try.h77 S t e)) then
      (bif isN (seekR (S t) e.a (S t).length) then some (.tup [], Try.h77 S t e) else some (.tup [], Try.H77 .done (some (.exit 0)) S (skT 4 S t (retN (S t) e.a)) t (evT e t))) else none :=
  each8 (by kernel_rfl) (by kernel_rfl) (by kernel_rfl) (by kernel_rfl) (by kernel_rfl) (by kernel_rfl) (by kernel_rfl) (by kernel_rfl)
theorem Try.w79 (S : Nat → List UwE) (e : Evt) : ∀ t, t < 8 → rootR Try.E83 5 83 14 (lsumsOf [(1, Try.L79 S t e)]) (lsumsOf []) (outVP 14) ag79 (Try.h79 S t e) =
    bif isSt (Try.s83 13 (IntKind.i64.wrap (((S t).length : Int) - 1)) (Try.h79 S t e)) (Try.s83 13 (IntKind.i64.wrap (((S t).length : Int) - 1)) (Try.h79 S t e)) then
      (bif isN (seekB (S t) (S t).length) then some (.tup [], Try.h79 S t e) else some (.tup [], Try.H79 .done (some .ret) S (skT 4 S t (backN' (S t))) t (evT e t))) else none :=
  each8 (by kernel_rfl) (by kernel_rfl) (by kernel_rfl) (by kernel_rfl) (by kernel_rfl) (by kernel_rfl) (by kernel_rfl) (by kernel_rfl)
theorem Try.sum83r (S : Nat → List UwE) (t : Nat) (ht : t < 8) (e : Evt) (hl : (S t).length ≤ 1000000) : SumC Try.prog 83 (Try.A83r S t e) := by
  refine effSumR 83 ⟨Try.f83, _, Try.fnOk83.1, Try.fnOk83.2, rfl⟩ ?_
  intro args h v h2 hok hs
  unfold Try.F83r at hs
  rw [Ans.run_grd, Ans.run_br] at hs
  cases hb : isAH args h ag77 (Try.h77 S t e) with
  | false => rw [hb] at hs; cases hs
  | true =>
  rw [hb, cond_true] at hs
  obtain ⟨rfl, rfl⟩ := isAH_eq hb
  refine rootR_alone Try.e83 (d := 5) (p := 15) (ls := lsumsOf [(1, Try.L77 S t e)]) (rs := lsumsOf []) outVP_weak (AllL.of1 (a := Try.b83) (by kernel_rfl) (LsOkP.of rfl rfl (Try.l77 S t ht e hl))) (AllL.of0 (by kernel_rfl)) (Try.H77_ok _ _ _ _ _ _) ((Try.w77 S e t ht).trans ?_)
  rw [isSt_refl, ← hs]
  cases isN (seekR (S t) e.a (S t).length) <;> rfl
theorem Try.sum83b (S : Nat → List UwE) (t : Nat) (ht : t < 8) (e : Evt) (hl : (S t).length ≤ 1000000) : SumC Try.prog 83 (Try.A83b S t e) := by
  refine effSumR 83 ⟨Try.f83, _, Try.fnOk83.1, Try.fnOk83.2, rfl⟩ ?_
  intro args h v h2 hok hs
  unfold Try.F83b at hs
  rw [Ans.run_grd, Ans.run_br] at hs
  cases hb : isAH args h ag79 (Try.h79 S t e) with
  | false => rw [hb] at hs; cases hs
  | true =>
  rw [hb, cond_true] at hs
  obtain ⟨rfl, rfl⟩ := isAH_eq hb
  refine rootR_alone Try.e83 (d := 5) (p := 14) (ls := lsumsOf [(1, Try.L79 S t e)]) (rs := lsumsOf []) outVP_weak (AllL.of1 (a := Try.b83) (by kernel_rfl) (LsOkP.of rfl rfl (Try.l79 S t ht e hl))) (AllL.of0 (by kernel_rfl)) (Try.H79_ok _ _ _ _ _ _) ((Try.w79 S e t ht).trans ?_)
  rw [isSt_refl, ← hs]
  cases isN (seekB (S t) (S t).length) <;> rfl
def Try.E77r (S : Nat → List UwE) (t : Nat) (e : Evt) : Env := Try.env0 false (sumsOf [(83, Try.A83r S t e)]) (keepF 77 [(3, [2,3,4,15])])
def Try.E79r (S : Nat → List UwE) (t : Nat) (e : Evt) : Env := Try.env0 false (sumsOf [(83, Try.A83b S t e)]) (keepF 79 [(2, [2,3,13])])
def H9R (S : Nat → List UwE) (R : List AV) : Heap := ⟨9, skEb 1 S ++ [skRb 0 R]⟩
def hD (S : Nat → List UwE) (e : Evt) : List Ent := ⟨10, 0, .cells (.rows true 6 [evL e])⟩ :: ⟨9, 0, .cells (.rows false 1 [[.ptr 0 0 0]])⟩ :: skEb 1 S ++ [skRb 0 (skCb 1 S)]
def Try.s77 (S : Nat → List UwE) (t : Nat) (e : Evt) : St := stOf 37 [2,3,4,15] [.ptr 9 0 0, .ptr 10 0 0, .ptr 11 0 0, .clo (.func 83) [] [.ptr 12 0 0]] ⟨13, ent1 12 [ow (1 + t) (S t).length] :: ent1 11 [ow (1 + t) (S t).length] :: hD S (evT e t)⟩
def Try.s79 (S : Nat → List UwE) (t : Nat) (e : Evt) : St := stOf 34 [2,3,13] [.ptr 9 0 0, .ptr 10 0 0, .clo (.func 83) [] [.ptr 11 0 0]] ⟨12, ent1 11 [ow (1 + t) (S t).length] :: hD S (evT e t)⟩
def Try.s77' (n : Nat) (S : Nat → List UwE) (R : List AV) : St := ⟨placeL [] [] n 0, [9], ⟨10, ⟨9, 0, .defd⟩ :: skEb 1 S ++ [skRb 0 R]⟩⟩
def Try.R77 (S : Nat → List UwE) (t : Nat) (e : Evt) : LSum := atL (Try.s77 S t e) (.br (isN (seekR (S t) e.a (S t).length)) (.out (.normal, Try.s77' 37 S (skCb 1 S))) (.out (.exit 0, Try.s77' 37 S (skT 1 S t (retN (S t) e.a)))))
def Try.R79 (S : Nat → List UwE) (t : Nat) (e : Evt) : LSum := atL (Try.s79 S t e) (.br (isN (seekB (S t) (S t).length)) (.out (.normal, Try.s77' 34 S (skCb 1 S))) (.out (.ret, Try.s77' 34 S (skT 1 S t (backN' (S t))))))
theorem Try.e77r (S : Nat → List UwE) (t : Nat) (ht : t < 8) (e : Evt) (hl : (S t).length ≤ 1000000) : EnvOk2 Try.prog (Try.E77r S t e) := Try.envOk false (sumsOf [(83, Try.A83r S t e)]) _ (sumsOf_ok (show AllS Try.prog [(83, Try.A83r S t e)] from ⟨Try.sum83r S t ht e hl, trivial⟩))
theorem Try.e79r (S : Nat → List UwE) (t : Nat) (ht : t < 8) (e : Evt) (hl : (S t).length ≤ 1000000) : EnvOk2 Try.prog (Try.E79r S t e) := Try.envOk false (sumsOf [(83, Try.A83b S t e)]) _ (sumsOf_ok (show AllS Try.prog [(83, Try.A83b S t e)] from ⟨Try.sum83b S t ht e hl, trivial⟩))
theorem Try.rg77_eq : Try.rg77 = .rangeFunc (opn Try.rg77) (prsA Try.rg77) (asg Try.rg77) (bdy Try.rg77) := by kernel_rfl
theorem Try.rg79_eq : Try.rg79 = .rangeFunc (opn Try.rg79) (prsA Try.rg79) (asg Try.rg79) (bdy Try.rg79) := by kernel_rfl
theorem Try.g77 (S : Nat → List UwE) (e : Evt) : ∀ t, t < 8 → rangeK (Try.E77r S t e).strict (callF (Try.E77r S t e) 5) (ev (Try.s77 S t e).t (opn Try.rg77)) (prsA Try.rg77) (asg Try.rg77) (bdy Try.rg77) (outKP 9 [] []) (Try.s77 S t e) =
    bif isAH ag77 (Try.h77 S t e) ag77 (Try.h77 S t e) then (bif isN (seekR (S t) e.a (S t).length) then some (.normal, Try.s77' 37 S (skCb 1 S)) else some (.exit 0, Try.s77' 37 S (skT 1 S t (retN (S t) e.a)))) else none :=
  each8 (by kernel_rfl) (by kernel_rfl) (by kernel_rfl) (by kernel_rfl) (by kernel_rfl) (by kernel_rfl) (by kernel_rfl) (by kernel_rfl)
theorem Try.g79 (S : Nat → List UwE) (e : Evt) : ∀ t, t < 8 → rangeK (Try.E79r S t e).strict (callF (Try.E79r S t e) 5) (ev (Try.s79 S t e).t (opn Try.rg79)) (prsA Try.rg79) (asg Try.rg79) (bdy Try.rg79) (outKP 9 [] []) (Try.s79 S t e) =
    bif isAH ag79 (Try.h79 S t e) ag79 (Try.h79 S t e) then (bif isN (seekB (S t) (S t).length) then some (.normal, Try.s77' 34 S (skCb 1 S)) else some (.ret, Try.s77' 34 S (skT 1 S t (backN' (S t))))) else none :=
  each8 (by kernel_rfl) (by kernel_rfl) (by kernel_rfl) (by kernel_rfl) (by kernel_rfl) (by kernel_rfl) (by kernel_rfl) (by kernel_rfl)
theorem Try.s77'_ok (n : Nat) (S : Nat → List UwE) (R : List AV) : (Try.s77' n S R).h.ok := heap_ok [9, 8, 7, 6, 5, 4, 3, 2, 1, 0] rfl (by decide) (by decide)
theorem Try.k77 (S : Nat → List UwE) (t : Nat) (ht : t < 8) (e : Evt) (hl : (S t).length ≤ 1000000) : RsOkP Try.prog 9 (lsumsOf [(3, Try.R77 S t e)]) Try.rg77 := by
  rw [Try.rg77_eq]
  show (match lsOf (lsumsOf [(3, Try.R77 S t e)]) (asg Try.rg77) with | some L => ∀ s e s', s.h.ok → (L s).run = some (e, s') → TripleP Try.prog 9 (.rangeFunc (opn Try.rg77) (prsA Try.rg77) (asg Try.rg77) (bdy Try.rg77)) s e s' | none => True)
  have e1 : lsOf (lsumsOf [(3, Try.R77 S t e)]) (asg Try.rg77) = some (Try.R77 S t e) := by kernel_rfl
  rw [e1]
  intro s x s' hk hL
  obtain ⟨rfl, hA⟩ := atL_some hL
  rw [Ans.run_br] at hA
  have key := Try.g77 S e t ht
  rw [isAH_refl] at key
  cases hq : isN (seekR (S t) e.a (S t).length) <;> (rw [hq] at key hA; injection hA with hA; injection hA with h1 h2; subst h1; subst h2; exact range_triple (Try.e77r S t ht e hl) hk key (WeakP.refl (Try.s77'_ok _ _ _)))
theorem Try.k79 (S : Nat → List UwE) (t : Nat) (ht : t < 8) (e : Evt) (hl : (S t).length ≤ 1000000) : RsOkP Try.prog 9 (lsumsOf [(2, Try.R79 S t e)]) Try.rg79 := by
  rw [Try.rg79_eq]
  show (match lsOf (lsumsOf [(2, Try.R79 S t e)]) (asg Try.rg79) with | some L => ∀ s e s', s.h.ok → (L s).run = some (e, s') → TripleP Try.prog 9 (.rangeFunc (opn Try.rg79) (prsA Try.rg79) (asg Try.rg79) (bdy Try.rg79)) s e s' | none => True)
  have e1 : lsOf (lsumsOf [(2, Try.R79 S t e)]) (asg Try.rg79) = some (Try.R79 S t e) := by kernel_rfl
  rw [e1]
  intro s x s' hk hL
  obtain ⟨rfl, hA⟩ := atL_some hL
  rw [Ans.run_br] at hA
  have key := Try.g79 S e t ht
  rw [isAH_refl] at key
  cases hq : isN (seekB (S t) (S t).length) <;> (rw [hq] at key hA; injection hA with hA; injection hA with h1 h2; subst h1; subst h2; exact range_triple (Try.e79r S t ht e hl) hk key (WeakP.refl (Try.s77'_ok _ _ _)))
theorem Try.e77 : EnvOk2 Try.prog Try.E77 := Try.envOk false (sumsOf []) _ (fun g A h => by cases h)
theorem Try.e79 : EnvOk2 Try.prog Try.E79 := Try.envOk false (sumsOf []) _ (fun g A h => by cases h)
theorem Try.v77 (S : Nat → List UwE) (e : Evt) : ∀ t, t < 8 → rootR Try.E77 5 77 9 (lsumsOf []) (lsumsOf [(3, Try.R77 S t e)]) (outVP 9) [.ptr 0 0 0, evA (evT e t)] (H9 S) =
    bif isSt (Try.s77 S t e) (Try.s77 S t e) then (bif isN (seekR (S t) e.a (S t).length) then some (.tup [], H9R S (skCb 1 S)) else some (.tup [], H9R S (skT 1 S t (retN (S t) e.a)))) else none :=
  each8 (by kernel_rfl) (by kernel_rfl) (by kernel_rfl) (by kernel_rfl) (by kernel_rfl) (by kernel_rfl) (by kernel_rfl) (by kernel_rfl)
theorem Try.v79 (S : Nat → List UwE) (e : Evt) : ∀ t, t < 8 → rootR Try.E79 5 79 9 (lsumsOf []) (lsumsOf [(2, Try.R79 S t e)]) (outVP 9) [.ptr 0 0 0, evA (evT e t)] (H9 S) =
    bif isSt (Try.s79 S t e) (Try.s79 S t e) then (bif isN (seekB (S t) (S t).length) then some (.tup [], H9R S (skCb 1 S)) else some (.tup [], H9R S (skT 1 S t (backN' (S t))))) else none :=
  each8 (by kernel_rfl) (by kernel_rfl) (by kernel_rfl) (by kernel_rfl) (by kernel_rfl) (by kernel_rfl) (by kernel_rfl) (by kernel_rfl)
end Go.Ev
/- Stacks: returns and handlers' ends, as summaries. -/
namespace Go.Ev
open Go.Proofs
def setS (S : Nat → List UwE) (t : Nat) (l : List UwE) : Nat → List UwE := fun i => bif Nat.beq i t then l else S i
theorem setS_same (S : Nat → List UwE) (t : Nat) (l : List UwE) : setS S t l t = l := by unfold setS; rw [Nat.beq_refl]; rfl
theorem setS_other (S : Nat → List UwE) {t i : Nat} (h : i ≠ t) (l : List UwE) : setS S t l i = S i := by unfold setS; rw [beqF h]; rfl
theorem seekR_lt {l : List UwE} {a : Int} : ∀ {n k : Nat}, seekR l a n = some (some k) → k < n
  | 0, k, h => by cases h
  | n + 1, k, h => by
    simp only [seekR] at h
    cases h1 : (l.getD n UE.z).1 == 2 <;> rw [h1] at h
    · cases h2 : (l.getD n UE.z).2.2.2.1 == a <;> rw [h2] at h
      · have := seekR_lt (show seekR l a n = some (some k) from h); omega
      · injection h with h; injection h with h; omega
    · injection h with h; cases h
theorem seekB_lt {l : List UwE} : ∀ {n k : Nat}, seekB l n = some k → k < n
  | 0, k, h => by cases h
  | n + 1, k, h => by
    simp only [seekB] at h
    cases h1 : (l.getD n UE.z).1 == 2 <;> rw [h1] at h
    · have := seekB_lt (show seekB l n = some k from h); omega
    · injection h with h; omega
theorem retN_le (l : List UwE) (a : Int) : retN l a ≤ l.length := by
  unfold retN
  split
  · rename_i k h; exact Nat.le_of_lt (seekR_lt h)
  · exact Nat.le_refl _
theorem backN_le (l : List UwE) : backN' l ≤ l.length := by
  unfold backN'
  split
  · rename_i k h; exact Nat.le_of_lt (seekB_lt h)
  · exact Nat.le_refl _
theorem cut_con (l : List UwE) (n : Nat) : ConC (UE.con l) (UE.con (l.take n)) := by
  refine ⟨rfl, by show (l.take n).length ≤ l.length; rw [List.length_take]; omega, fun i hi j v' hv => ?_⟩
  have hi' : i < (l.take n).length := hi
  refine ⟨v', ?_, AW.refl _⟩
  have e : l.getD i UE.z = (l.take n).getD i UE.z := by
    rw [List.length_take] at hi'
    simp only [List.getD_eq_getElem?_getD, List.getElem?_take, if_pos (show i < n by omega)]
  show (UE.row (l.getD i UE.z))[j]? = some v'
  rw [e]; exact hv
theorem cut_set (S : Nat → List UwE) (t n i : Nat) : ConC (UE.con (S i)) (UE.con (setS S t ((S t).take n) i)) := by
  by_cases h : i = t
  · subst h; rw [setS_same]; exact cut_con _ _
  · rw [setS_other S h]; exact ConC.refl _
theorem skT_set (b : Nat) (S : Nat → List UwE) (l : List UwE) : ∀ t, t < 8 → skT b S t l.length = skCb b (setS S t l) := each8 rfl rfl rfl rfl rfl rfl rfl rfl
theorem skE_cut {b : Nat} {S S' : Nat → List UwE} (h : ∀ i, ConC (UE.con (S i)) (UE.con (S' i))) {es es' : List Ent} (he : EsC es es') : EsC (skEb b S ++ es) (skEb b S' ++ es') :=
  .con _ 0 0 rfl (h 7) (.con _ 0 0 rfl (h 6) (.con _ 0 0 rfl (h 5) (.con _ 0 0 rfl (h 4) (.con _ 0 0 rfl (h 3) (.con _ 0 0 rfl (h 2) (.con _ 0 0 rfl (h 1) (.con _ 0 0 rfl (h 0) he)))))))
theorem H9_ok (S : Nat → List UwE) (R : List AV) : (H9R S R).ok := heap_ok [8, 7, 6, 5, 4, 3, 2, 1, 0] rfl (by decide) (by decide)
theorem H9_cut {p : Nat} {t : List AV} {d : List Nat} (S : Nat → List UwE) (i n : Nat) (hi : i < 8) (hn : n ≤ (S i).length) : WeakP p ⟨t, d, H9R S (skT 1 S i n)⟩ ⟨t, d, H9 (setS S i ((S i).take n))⟩ := by
  have e : H9 (setS S i ((S i).take n)) = ⟨9, skEb 1 (setS S i ((S i).take n)) ++ [skRb 0 (skT 1 S i n)]⟩ := by
    have := skT_set 1 S ((S i).take n) i hi
    rw [List.length_take, Nat.min_eq_left hn] at this
    unfold H9
    rw [this]
  rw [e]
  exact WeakP.cut (H9_ok _ _) (skE_cut (fun j => cut_set S i n j) (EsC.refl _))
theorem Try.al77 (S : Nat → List UwE) (e : Evt) (t : Nat) (ht : t < 8) (hl : (S t).length ≤ 1000000) : EffAlone Try.prog 77 9 [.ptr 0 0 0, evA (evT e t)] (H9 S) (.tup []) (H9 (setS S t ((S t).take (retN (S t) e.a)))) := by
  have run := fun v h2 => rootR_alone Try.e77 (d := 5) (g := 77) (p := 9) (ls := lsumsOf []) (rs := lsumsOf [(3, Try.R77 S t e)]) outVP_weak (AllL.of0 (by kernel_rfl)) (AllL.of1 (a := Try.rg77) (by kernel_rfl) (Try.k77 S t ht e hl)) (show (H9 S).ok from H9_ok S _) (args := [.ptr 0 0 0, evA (evT e t)]) (v := v) (h2 := h2)
  have key := Try.v77 S e t ht
  rw [isSt_refl] at key
  cases hq : isN (seekR (S t) e.a (S t).length) with
  | true =>
    rw [hq] at key
    have e1 : retN (S t) e.a = (S t).length := by
      unfold retN
      cases h : seekR (S t) e.a (S t).length with
      | none => rfl
      | some x => rw [h] at hq; cases hq
    rw [e1]
    refine EffAlone.outW (H9_cut S t _ ht (Nat.le_refl _)) ?_
    rw [skT_same 1 S t ht]
    exact run _ _ key
  | false =>
    rw [hq] at key
    exact EffAlone.outW (H9_cut S t _ ht (retN_le _ _)) (run _ _ key)
theorem Try.al79 (S : Nat → List UwE) (e : Evt) (t : Nat) (ht : t < 8) (hl : (S t).length ≤ 1000000) : EffAlone Try.prog 79 9 [.ptr 0 0 0, evA (evT e t)] (H9 S) (.tup []) (H9 (setS S t ((S t).take (backN' (S t))))) := by
  have run := fun v h2 => rootR_alone Try.e79 (d := 5) (g := 79) (p := 9) (ls := lsumsOf []) (rs := lsumsOf [(2, Try.R79 S t e)]) outVP_weak (AllL.of0 (by kernel_rfl)) (AllL.of1 (a := Try.rg79) (by kernel_rfl) (Try.k79 S t ht e hl)) (show (H9 S).ok from H9_ok S _) (args := [.ptr 0 0 0, evA (evT e t)]) (v := v) (h2 := h2)
  have key := Try.v79 S e t ht
  rw [isSt_refl] at key
  cases hq : isN (seekB (S t) (S t).length) with
  | true =>
    rw [hq] at key
    have e1 : backN' (S t) = (S t).length := by
      unfold backN'
      cases h : seekB (S t) (S t).length with
      | none => rfl
      | some x => rw [h] at hq; cases hq
    rw [e1]
    refine EffAlone.outW (H9_cut S t _ ht (Nat.le_refl _)) ?_
    rw [skT_same 1 S t ht]
    exact run _ _ key
  | false =>
    rw [hq] at key
    exact EffAlone.outW (H9_cut S t _ ht (backN_le _)) (run _ _ key)
def rowAt (h : Heap) (i : Nat) : List UwE := match h.con (1 + i) with
  | some c => UE.list c
  | none => []
def thrd (n : Int) : Bool := decide (0 ≤ n) && decide (n < 8)
def isH (h h0 : Heap) : Bool := @decide (h = h0) (Classical.propDecidable _)
def cutF (f : List UwE → Int → Nat) (args : List AV) (h : Heap) : Ans (AV × Heap) := match args with
  | [.ptr 0 0 0, .agg [.val (.int .i64 k), .val (.int .i64 th), .val (.int .u32 pc), .val (.int .u32 a), .val (.int .u32 b), .val (.int .i64 n)]] =>
    .grd (isH h (H9 (rowAt h))) (.grd (thrd th && Nat.ble (rowAt h th.toNat).length 1000000) (.out (.tup [], H9 (setS (rowAt h) th.toNat ((rowAt h th.toNat).take (f (rowAt h th.toNat) a))))))
  | _ => .no
def Try.A77 : AFun := effA (cutF retN)
def Try.A79 : AFun := effA (cutF (fun l _ => backN' l))
theorem isH_eq {h h0 : Heap} (q : isH h h0 = true) : h = h0 := @of_decide_eq_true _ (Classical.propDecidable _) q
theorem isH_refl (h : Heap) : isH h h = true := @decide_eq_true _ (Classical.propDecidable _) rfl
theorem cut_sum {g : Nat} {fn : Func} {code : Code} (hg : Try.prog.funcs[g]? = some fn ∧ fn.name ≠ "runtime.NumGoroutine") (hc : fn.body = some code) (f : List UwE → Int → Nat)
    (hal : ∀ (S : Nat → List UwE) (e : Evt) (t : Nat), t < 8 → (S t).length ≤ 1000000 → EffAlone Try.prog g 9 [.ptr 0 0 0, evA (evT e t)] (H9 S) (.tup []) (H9 (setS S t ((S t).take (f (S t) e.a))))) : SumC Try.prog g (effA (cutF f)) := by
  refine effSumR g ⟨fn, code, hg.1, hg.2, hc⟩ ?_
  intro args h v h2 hok hs
  unfold cutF at hs
  split at hs
  · rename_i k th pc a b n
    rw [Ans.run_grd, Ans.run_grd] at hs
    cases hb : isH h (H9 (rowAt h)) with
    | false => rw [hb] at hs; cases hs
    | true =>
    cases hb2 : (thrd th && Nat.ble (rowAt h th.toNat).length 1000000) with
    | false => rw [hb, hb2] at hs; cases hs
    | true =>
    rw [hb, hb2] at hs
    have hs := Option.some.inj hs
    injection hs with h1 h3
    subst h1; subst h3
    unfold thrd at hb2
    simp only [Bool.and_eq_true, decide_eq_true_eq, Nat.ble_eq] at hb2
    obtain ⟨⟨t0, t1⟩, t2⟩ := hb2
    have hh := isH_eq hb
    generalize rowAt h = S at hh t2 ⊢
    subst hh
    have := hal S ⟨k, th, pc, a, b, n⟩ th.toNat (by omega) t2
    have e1 : evT ⟨k, th, pc, a, b, n⟩ th.toNat = ⟨k, th, pc, a, b, n⟩ := by unfold evT; simp only [Evt.mk.injEq, true_and, and_true]; omega
    rw [e1] at this
    exact this
  · cases hs
theorem Try.sum77 : SumC Try.prog 77 Try.A77 := cut_sum Try.fnOk77 rfl retN (fun S e t ht hl => Try.al77 S e t ht hl)
theorem Try.sum79 : SumC Try.prog 79 Try.A79 := cut_sum Try.fnOk79 rfl (fun l _ => backN' l) (fun S e t ht hl => Try.al79 S e t ht hl)
end Go.Ev
/- Step, by what it answers. -/
namespace Go.Ev
open Go.Proofs
def Try.E13 : Env := Try.env0 false (sumsOf [(46, Try.A46), (77, Try.A77), (79, Try.A79)]) (keepF 13 [(3, [3, 4, 5, 10, 11])])
def g8 {α : Type} (f : Nat → Bool) (x : Option α) : Option α := bif f 0 then (bif f 1 then (bif f 2 then (bif f 3 then (bif f 4 then (bif f 5 then (bif f 6 then (bif f 7 then x else none) else none) else none) else none) else none) else none) else none) else none
def l8 {α : Type} (f : Nat → α) : List α := [f 0, f 1, f 2, f 3, f 4, f 5, f 6, f 7]
def okS (S : Nat → List UwE) (i : Nat) : Bool := UE.ok (UE.con (S i)) && Nat.ble (S i).length 1000000
def rl (S : Nat → List UwE) (i : Nat) : List UwE := UE.list (UE.con (S i))
def skEn (b : Nat) (C : Nat → Con) : List Ent := [⟨b + 7, 0, .cells (C 7)⟩, ⟨b + 6, 0, .cells (C 6)⟩, ⟨b + 5, 0, .cells (C 5)⟩, ⟨b + 4, 0, .cells (C 4)⟩, ⟨b + 3, 0, .cells (C 3)⟩, ⟨b + 2, 0, .cells (C 2)⟩, ⟨b + 1, 0, .cells (C 1)⟩, ⟨b + 0, 0, .cells (C 0)⟩]
def skN (b : Nat) (N : Nat → Nat) (i : Nat) : AV := ow (b + i) (N i)
def rlC (S : Nat → List UwE) (i : Nat) : Con := UE.con (rl S i)
def appC (S : Nat → List UwE) (x : UwE) (t i : Nat) : Con := bif Nat.beq i t then .tab 5 ((S t).length + 1) (fun i => bif i.blt (S t).length then UE.row ((rl S t).getD (0 + i) UE.z) else [UE.row x].getD (i - (S t).length) []) else rlC S i
def appN (S : Nat → List UwE) (t i : Nat) : Nat := bif Nat.beq i t then (S t).length + 1 else (S i).length
def appR {α : Type} (S : Nat → List UwE) (t : Nat) (x : Option α) : Option α := bif (0 + (S t).length).ble (rl S t).length then (bif (((S t).length + 1) * 32).ble most && ((S t).length + 1).ble most then x else none) else none
def lenS (S : Nat → List UwE) (i : Nat) : Nat := (S i).length
def h9 (S : Nat → List UwE) : Heap := ⟨9, skEn 1 (rlC S) ++ [skRb 0 (l8 (skN 1 (lenS S)))]⟩
def cutX (f : List UwE → Int → Nat) (S : Nat → List UwE) (a : Int) (t : Nat) : Nat → List UwE := setS (rowAt (h9 S)) (Int.toNat t) ((rowAt (h9 S) (Int.toNat t)).take (f (rowAt (h9 S) (Int.toNat t)) a))
def skEx (b : Nat) (t : Nat) (C : Nat → Con) : List Ent := [7, 6, 5, 4, 3, 2, 1, 0].filterMap fun i => bif Nat.beq i t then none else some ⟨b + (bif Nat.blt i t then i else i - 1), 0, .cells (C i)⟩
def skX (b t : Nat) (N : Nat → Nat) (i : Nat) : AV := bif Nat.beq i t then .val (.slice none 0 0) else ow (b + (bif Nat.blt i t then i else i - 1)) (N i)
def rawS (S : Nat → List UwE) : AV × Heap := (.agg (l8 (skN 0 (lenS S))), ⟨8, skEn 0 (rlC S)⟩)
theorem Try.x13c (S : Nat → List UwE) (pc a b n : Int) : ∀ t : Nat, t < 8 → rootS Try.E13 5 13 (lsumsOf []) [skA S, evA ⟨6, t, pc, a, b, n⟩] =
    g8 (okS S) (appR S t (some (.agg (l8 (skN 0 (appN S t))), ⟨8, skEn 0 (appC S (1, pc, a, b, 0) t)⟩))) :=
  each8 (by kernel_rfl) (by kernel_rfl) (by kernel_rfl) (by kernel_rfl) (by kernel_rfl) (by kernel_rfl) (by kernel_rfl) (by kernel_rfl)
theorem Try.x13s (S : Nat → List UwE) (pc a b n : Int) : ∀ t : Nat, t < 8 → rootS Try.E13 5 13 (lsumsOf []) [skA S, evA ⟨9, t, pc, a, b, n⟩] =
    g8 (okS S) (bif a != 0 then appR S t (some (.agg (l8 (skN 0 (appN S t))), ⟨8, skEn 0 (appC S (2, pc, a, pc, n) t)⟩)) else some (rawS S)) :=
  each8 (by kernel_rfl) (by kernel_rfl) (by kernel_rfl) (by kernel_rfl) (by kernel_rfl) (by kernel_rfl) (by kernel_rfl) (by kernel_rfl)
theorem Try.x13r (S : Nat → List UwE) (pc a b n : Int) : ∀ t : Nat, t < 8 → rootS Try.E13 5 13 (lsumsOf []) [skA S, evA ⟨7, t, pc, a, b, n⟩] =
    g8 (okS S) (bif isH (h9 S) (H9 (rowAt (h9 S))) then (bif thrd t && Nat.ble (rowAt (h9 S) (Int.toNat t)).length 1000000 then some (.agg (skCb 0 (cutX retN S a t)), ⟨8, skEb 0 (cutX retN S a t)⟩) else none) else none) :=
  each8 (by kernel_rfl) (by kernel_rfl) (by kernel_rfl) (by kernel_rfl) (by kernel_rfl) (by kernel_rfl) (by kernel_rfl) (by kernel_rfl)
theorem Try.x13b (S : Nat → List UwE) (pc a b n : Int) : ∀ t : Nat, t < 8 → rootS Try.E13 5 13 (lsumsOf []) [skA S, evA ⟨10, t, pc, a, b, n⟩] =
    g8 (okS S) (bif isH (h9 S) (H9 (rowAt (h9 S))) then (bif thrd t && Nat.ble (rowAt (h9 S) (Int.toNat t)).length 1000000 then some (.agg (skCb 0 (cutX (fun l _ => backN' l) S a t)), ⟨8, skEb 0 (cutX (fun l _ => backN' l) S a t)⟩) else none) else none) :=
  each8 (by kernel_rfl) (by kernel_rfl) (by kernel_rfl) (by kernel_rfl) (by kernel_rfl) (by kernel_rfl) (by kernel_rfl) (by kernel_rfl)
theorem Try.x13e (S : Nat → List UwE) (pc a b n : Int) : ∀ t : Nat, t < 8 → rootS Try.E13 5 13 (lsumsOf []) [skA S, evA ⟨12, t, pc, a, b, n⟩] =
    g8 (okS S) (some (.agg (l8 (skX 0 t (lenS S))), ⟨7, skEx 0 t (rlC S)⟩)) :=
  each8 (by kernel_rfl) (by kernel_rfl) (by kernel_rfl) (by kernel_rfl) (by kernel_rfl) (by kernel_rfl) (by kernel_rfl) (by kernel_rfl)
theorem Try.x13n (S : Nat → List UwE) (th pc a b : Int) : ∀ t : Nat, t < 8 → rootS Try.E13 5 13 (lsumsOf []) [skA S, evA ⟨11, th, pc, a, b, t⟩] =
    g8 (okS S) (bif decide (th ≥ 0) then (bif decide (th < 8) then some (.agg (l8 (skX 0 t (lenS S))), ⟨7, skEx 0 t (rlC S)⟩) else some (rawS S)) else some (rawS S)) :=
  each8 (by kernel_rfl) (by kernel_rfl) (by kernel_rfl) (by kernel_rfl) (by kernel_rfl) (by kernel_rfl) (by kernel_rfl) (by kernel_rfl)
theorem Try.x13z (S : Nat → List UwE) (th pc a b n : Int) : rootS Try.E13 5 13 (lsumsOf []) [skA S, evA ⟨24, th, pc, a, b, n⟩] =
 g8 (okS S) (bif decide (th ≥ 0) then (bif decide (th < 8) then some (.agg (l8 (fun _ => .val (.slice none 0 0))), ⟨0, []⟩) else some (rawS S)) else some (rawS S)) := by kernel_rfl
end Go.Ev
/- Step, as a summary. -/
namespace Go.Ev
open Go.Proofs
def noA : AFun := fun _ _ _ _ => none
def Try.t13o : List (Nat × AFun) := [(46, Try.A46), (76, noA), (77, noA), (78, noA), (79, noA), (80, noA), (81, noA), (82, noA)]
def Try.E13o : Env := Try.env0 false (sumsOf Try.t13o) (keepF 13 [(3, [3, 4, 5, 10, 11])])
def kx {α : Type} (k : Int) (x y : α) : α := bif k == 6 then x else bif k == 7 then x else bif k == 9 then x else bif k == 10 then x else bif k == 11 then x else bif k == 12 then x else bif k == 24 then x else y
def thx {α : Type} (th : Int) (x y : α) : α := bif decide (th ≥ 0) then (bif decide (th < 8) then x else y) else y
theorem noA_sum {g : Nat} {fn : Func} {code : Code} (hg : Try.prog.funcs[g]? = some fn ∧ fn.name ≠ "runtime.NumGoroutine") (hc : fn.body = some code) : SumC Try.prog g noA := ⟨⟨fn, code, hg.1, hg.2, hc⟩, fun ρ args h K r hk hA => by cases hA⟩
theorem Try.e13 : EnvOk2 Try.prog Try.E13 := Try.envOk false (sumsOf [(46, Try.A46), (77, Try.A77), (79, Try.A79)]) _ (sumsOf_ok (show AllS Try.prog [(46, Try.A46), (77, Try.A77), (79, Try.A79)] from ⟨Try.sum46, Try.sum77, Try.sum79, trivial⟩))
theorem Try.e13o : EnvOk2 Try.prog Try.E13o := Try.envOk false (sumsOf Try.t13o) _ (sumsOf_ok (show AllS Try.prog Try.t13o from ⟨Try.sum46, noA_sum Try.fnOk76 rfl, noA_sum Try.fnOk77 rfl, noA_sum Try.fnOk78 rfl, noA_sum Try.fnOk79 rfl, noA_sum Try.fnOk80 rfl, noA_sum Try.fnOk81 rfl, noA_sum Try.fnOk82 rfl, trivial⟩))
theorem Try.x13o (S : Nat → List UwE) (k th pc a b n : Int) : rootS Try.E13o 5 13 (lsumsOf []) [skA S, evA ⟨k, th, pc, a, b, n⟩] =
 g8 (okS S) (kx k (thx th none (some (rawS S))) (some (rawS S))) := by kernel_rfl
theorem Try.x13u (S : Nat → List UwE) (th pc a b : Int) (m : Nat) : rootS Try.E13 5 13 (lsumsOf []) [skA S, evA ⟨11, th, pc, a, b, .negSucc m⟩] = g8 (okS S) (thx th (some (rawS S)) (some (rawS S))) := by kernel_rfl
theorem Try.x13v (S : Nat → List UwE) (th pc a b : Int) (m : Nat) : rootS Try.E13 5 13 (lsumsOf []) [skA S, evA ⟨11, th, pc, a, b, .ofNat (m + 8)⟩] = g8 (okS S) (thx th (some (rawS S)) (some (rawS S))) := by kernel_rfl
theorem AllL.ls0 {P : Program} : ∀ l : List Code, AllL (LsOk P (lsumsOf [])) l
  | [] => trivial
  | c :: l => ⟨by
    unfold LsOk lsOf
    cases Code.fst c <;> exact trivial, AllL.ls0 l⟩
theorem thrd_out {n : Int} (h : thrd n = false) : (∃ m : Nat, n = .negSucc m) ∨ ∃ m : Nat, n = .ofNat (m + 8) := by
  cases n with
  | negSucc m => exact .inl ⟨m, rfl⟩
  | ofNat m =>
    refine .inr ⟨m - 8, ?_⟩
    unfold thrd at h
    rw [decide_eq_true (show (0 : Int) ≤ Int.ofNat m from Int.natCast_nonneg m), Bool.true_and, decide_eq_false_iff_not] at h
    have : ¬ (m : Int) < 8 := h
    have e : m - 8 + 8 = m := by omega
    rw [e]
def stepU (S : Nat → List UwE) (e : Evt) : Nat → List UwE :=
  bif thrd e.th then
    bif e.k == 6 then setS S e.th.toNat (S e.th.toNat ++ [(1, e.pc, e.a, e.b, 0)])
    else bif e.k == 7 then setS S e.th.toNat ((S e.th.toNat).take (retN (S e.th.toNat) e.a))
    else bif e.k == 9 then (bif e.a != 0 then setS S e.th.toNat (S e.th.toNat ++ [(2, e.pc, e.a, e.pc, e.n)]) else S)
    else bif e.k == 10 then setS S e.th.toNat ((S e.th.toNat).take (backN' (S e.th.toNat)))
    else bif e.k == 11 then (bif thrd e.n then setS S e.n.toNat [] else S)
    else bif e.k == 12 then setS S e.th.toNat []
    else bif e.k == 24 then fun _ => []
    else S
  else S
def opt8 (f : Nat → Option AV) : Option AV := match pmapL f [0, 1, 2, 3, 4, 5, 6, 7] with
  | some l => some (.agg l)
  | none => none
theorem opt8_some {f : Nat → Option AV} {g : Nat → AV} (h : ∀ i, f i = some (g i)) : opt8 f = some (.agg (l8 g)) := by
  have e : f = fun i => some (g i) := funext h
  subst e; rfl
theorem rl_eq (S : Nat → List UwE) : rl S = S := funext fun i => UE.list_con (S i)
theorem rlC_eq (S : Nat → List UwE) : rlC S = fun i => UE.con (S i) := funext fun i => by unfold rlC; rw [rl_eq]
theorem purX (S : Nat → List UwE) : ∀ t, t < 8 → purT ⟨7, skEx 0 t (fun i => UE.con (S i))⟩ (.agg (l8 (skX 0 t (lenS S)))) = opt8 (fun i => bif Nat.beq i t then some (.val (.slice none 0 0)) else (bif (0 + lenS S i).ble (S i).length && true then some (.ro (.tab 5 (lenS S i) (fun j => UE.row ((S i).getD (0 + j) UE.z))) none) else none)) :=
  each8 (by kernel_rfl) (by kernel_rfl) (by kernel_rfl) (by kernel_rfl) (by kernel_rfl) (by kernel_rfl) (by kernel_rfl) (by kernel_rfl)
theorem purS (S : Nat → List UwE) : purT ⟨8, skEb 0 S⟩ (.agg (skCb 0 S)) = opt8 (fun i => bif (0 + lenS S i).ble (S i).length && true then some (.ro (.tab 5 (lenS S i) (fun j => UE.row ((S i).getD (0 + j) UE.z))) none) else none) := by kernel_rfl
theorem AWs.l8 {f g : Nat → AV} (h : ∀ i, AW (f i) (g i)) : AWs (l8 f) (l8 g) := .cons (h 0) (.cons (h 1) (.cons (h 2) (.cons (h 3) (.cons (h 4) (.cons (h 5) (.cons (h 6) (.cons (h 7) .nil)))))))
theorem row_aw (l : List UwE) : AW (.ro (.tab 5 l.length (fun j => UE.row (l.getD (0 + j) UE.z))) none) (.ro (UE.con l) none) := by
  refine AW.ro (a := .tab 5 l.length (fun j => UE.row (l.getD (0 + j) UE.z))) (b := UE.con l) ⟨rfl, rfl, fun i hi j v' hv => ⟨v', ?_, AW.refl _⟩⟩ none
  show (UE.row (l.getD (0 + i) UE.z))[j]? = some v'
  rw [Nat.zero_add]; exact hv
section
variable {P : Program} {g : Nat} {args : List AV}
theorem lendS (S : Nat → List UwE) (h : Alone P g args (.agg (skCb 0 S)) ⟨8, skEb 0 S⟩) : Alone P g args (skA S) ⟨0, []⟩ := by
  have key := purS S
  have e : ∀ i, (bif (0 + lenS S i).ble (S i).length && true then some (AV.ro (.tab 5 (lenS S i) (fun j => UE.row ((S i).getD (0 + j) UE.z))) none) else none) = some (AV.ro (.tab 5 (lenS S i) (fun j => UE.row ((S i).getD (0 + j) UE.z))) none) := fun i => by
    rw [Nat.zero_add, show lenS S i = (S i).length from rfl, ble_t (Nat.le_refl _)]; rfl
  rw [opt8_some e] at key
  exact Alone.resW (AW.agg (AWs.l8 (fun i => row_aw (S i)))) (Alone.lend key h)
theorem lendX (S : Nat → List UwE) (t : Nat) (ht : t < 8) (h : Alone P g args (.agg (l8 (skX 0 t (lenS S)))) ⟨7, skEx 0 t (rlC S)⟩) : Alone P g args (skA (setS S t [])) ⟨0, []⟩ := by
  rw [rlC_eq] at h
  have key := purX S t ht
  have e : ∀ i, (bif Nat.beq i t then some (AV.val (.slice none 0 0)) else (bif (0 + lenS S i).ble (S i).length && true then some (AV.ro (.tab 5 (lenS S i) (fun j => UE.row ((S i).getD (0 + j) UE.z))) none) else none)) = some (bif Nat.beq i t then AV.val (.slice none 0 0) else (AV.ro (.tab 5 (lenS S i) (fun j => UE.row ((S i).getD (0 + j) UE.z))) none)) := fun i => by
    rw [Nat.zero_add, show lenS S i = (S i).length from rfl, ble_t (Nat.le_refl _)]; cases Nat.beq i t <;> rfl
  rw [opt8_some e] at key
  refine Alone.resW (AW.agg (AWs.l8 (g := fun i => .ro (UE.con (setS S t [] i)) none) (fun i => ?_))) (Alone.lend key h)
  unfold setS
  cases Nat.beq i t
  · exact row_aw (S i)
  · exact AW.nil rfl
theorem rawS_ok (S : Nat → List UwE) (h : Alone P g args (rawS S).1 (rawS S).2) : Alone P g args (skA S) ⟨0, []⟩ := by
  unfold rawS at h
  rw [rlC_eq] at h
  exact lendS S h
theorem appC_w (S : Nat → List UwE) (x : UwE) (t i : Nat) : ConW (appC S x t i) (UE.con (setS S t (S t ++ [x]) i)) := by
  unfold appC setS
  rw [rl_eq, rlC_eq]
  cases Nat.beq i t with
  | false => exact ⟨rfl, rfl, fun i hi j v' hv => ⟨v', hv, AW.refl _⟩⟩
  | true =>
    refine ⟨rfl, by show (S t ++ [x]).length = (S t).length + 1; simp, fun i hi j v' hv => ⟨v', ?_, AW.refl _⟩⟩
    have hi' : i < (S t).length + 1 := hi
    have hv' : (UE.row ((S t ++ [x]).getD i UE.z))[j]? = some v' := hv
    show (bif i.blt (S t).length then UE.row ((S t).getD (0 + i) UE.z) else [UE.row x].getD (i - (S t).length) [])[j]? = some v'
    rcases Nat.lt_or_ge i (S t).length with q | q
    · rw [blt_t q, cond_true, Nat.zero_add]
      rw [List.getD_eq_getElem?_getD, List.getElem?_append_left q, ← List.getD_eq_getElem?_getD] at hv'
      exact hv'
    · have e : i = (S t).length := by omega
      subst e
      rw [blt_f (Nat.le_refl _), cond_false, Nat.sub_self]
      rw [List.getD_eq_getElem?_getD, List.getElem?_append_right (Nat.le_refl _), Nat.sub_self] at hv'
      exact hv'
theorem appN_eq (S : Nat → List UwE) (x : UwE) (t : Nat) : .agg (l8 (skN 0 (appN S t))) = AV.agg (skCb 0 (setS S t (S t ++ [x]))) := by
  have e : appN S t = fun i => (setS S t (S t ++ [x]) i).length := funext fun i => by unfold appN setS; cases Nat.beq i t <;> simp
  rw [e]; rfl
theorem skEn_w {b : Nat} {C C' : Nat → Con} (hp : ∀ i, (C' i).pureF = (C i).pureF) (h : ∀ i, ConW (C i) (C' i)) {es es' : List Ent} (he : EsW es es') : EsW (skEn b C ++ es) (skEn b C' ++ es') :=
  .con _ 0 0 (hp 7) (h 7) (.con _ 0 0 (hp 6) (h 6) (.con _ 0 0 (hp 5) (h 5) (.con _ 0 0 (hp 4) (h 4) (.con _ 0 0 (hp 3) (h 3) (.con _ 0 0 (hp 2) (h 2) (.con _ 0 0 (hp 1) (h 1) (.con _ 0 0 (hp 0) (h 0) he)))))))
theorem appC_pure (S : Nat → List UwE) (x : UwE) (t i : Nat) : (UE.con (setS S t (S t ++ [x]) i)).pureF = (appC S x t i).pureF := by
  unfold appC; cases Nat.beq i t <;> rfl
theorem lendA (S : Nat → List UwE) (x : UwE) (t : Nat) (h : Alone P g args (.agg (l8 (skN 0 (appN S t)))) ⟨8, skEn 0 (appC S x t)⟩) : Alone P g args (skA (setS S t (S t ++ [x]))) ⟨0, []⟩ := by
  rw [appN_eq S x] at h
  refine lendS _ (Alone.outW (Weak.heap h.1 ?_) h)
  have := skEn_w (b := 0) (appC_pure S x t) (appC_w S x t) .nil
  rw [List.append_nil, List.append_nil] at this
  exact this
end
theorem okS_t {S : Nat → List UwE} (h : ∀ i, (S i).length ≤ 1000000) (i : Nat) : okS S i = true := by
  unfold okS; rw [UE.ok_con, ble_t (h i)]; rfl
theorem g8_t {α : Type} {S : Nat → List UwE} (h : ∀ i, (S i).length ≤ 1000000) (x : Option α) : g8 (okS S) x = x := by
  unfold g8; simp only [okS_t h, cond_true]
theorem appR_t {α : Type} {S : Nat → List UwE} (h : ∀ i, (S i).length ≤ 1000000) (t : Nat) (x : Option α) : appR S t x = x := by
  have := h t
  unfold appR
  rw [rl_eq, Nat.zero_add, ble_t (Nat.le_refl _), ble_t (show ((S t).length + 1) * 32 ≤ most by rw [most_eq]; omega), ble_t (show (S t).length + 1 ≤ most by rw [most_eq]; omega)]; rfl
theorem rowAt_h9 (S : Nat → List UwE) (t : Nat) : t < 8 → rowAt (h9 S) t = S t := by
  have key : ∀ t, t < 8 → rowAt (h9 S) t = UE.list (rlC S t) := each8 (by kernel_rfl) (by kernel_rfl) (by kernel_rfl) (by kernel_rfl) (by kernel_rfl) (by kernel_rfl) (by kernel_rfl) (by kernel_rfl)
  intro ht
  rw [key t ht, rlC_eq, UE.list_con]
theorem H9_congr {S S' : Nat → List UwE} (h : ∀ t, t < 8 → S t = S' t) : H9 S = H9 S' := by
  unfold H9 skEb skCb
  rw [h 0 (by omega), h 1 (by omega), h 2 (by omega), h 3 (by omega), h 4 (by omega), h 5 (by omega), h 6 (by omega), h 7 (by omega)]
theorem skEb_congr {S S' : Nat → List UwE} (h : ∀ t, t < 8 → S t = S' t) (b : Nat) : skEb b S = skEb b S' ∧ skCb b S = skCb b S' ∧ skA S = skA S' := by
  unfold skEb skCb skA
  rw [h 0 (by omega), h 1 (by omega), h 2 (by omega), h 3 (by omega), h 4 (by omega), h 5 (by omega), h 6 (by omega), h 7 (by omega)]
  exact ⟨rfl, rfl, rfl⟩
theorem h9_eq (S : Nat → List UwE) : h9 S = H9 (rowAt (h9 S)) := by
  rw [H9_congr (rowAt_h9 S)]
  unfold h9
  rw [rlC_eq]; rfl
theorem cutX_eq (f : List UwE → Int → Nat) (S : Nat → List UwE) (a : Int) (t : Nat) (ht : t < 8) : ∀ i, i < 8 → cutX f S a t i = setS S t ((S t).take (f (S t) a)) i := by
  intro i hi
  unfold cutX
  have e : Int.toNat (t : Int) = t := Int.toNat_natCast t
  rw [e, rowAt_h9 S t ht]
  unfold setS
  rw [rowAt_h9 S i hi]
theorem thrd_nat {t : Nat} (h : t < 8) : thrd t = true := by unfold thrd; rw [decide_eq_true (show (0 : Int) ≤ t by omega), decide_eq_true (show (t : Int) < 8 by omega)]; rfl
theorem thx_f {α : Type} {th : Int} (h : thrd th = false) (x y : α) : thx th x y = y := by
  unfold thx
  unfold thrd at h
  by_cases h1 : 0 ≤ th
  · rw [decide_eq_true h1, Bool.true_and] at h
    rw [h]; cases decide (th ≥ 0) <;> rfl
  · rw [decide_eq_false (show ¬ th ≥ 0 by omega)]; rfl
theorem thx_t {α : Type} {th : Int} (h : thrd th = true) (x y : α) : thx th x y = x := by
  unfold thx
  unfold thrd at h
  simp only [Bool.and_eq_true, decide_eq_true_eq] at h
  rw [decide_eq_true (show th ≥ 0 by omega), decide_eq_true h.2]; rfl
theorem thrd_cast {th : Int} (h : thrd th = true) : ∃ t : Nat, t < 8 ∧ th = t := by
  unfold thrd at h
  simp only [Bool.and_eq_true, decide_eq_true_eq] at h
  exact ⟨th.toNat, by omega, by omega⟩
theorem kx_cases (k : Int) : k = 6 ∨ k = 7 ∨ k = 9 ∨ k = 10 ∨ k = 11 ∨ k = 12 ∨ k = 24 ∨ (k ≠ 6 ∧ k ≠ 7 ∧ k ≠ 9 ∧ k ≠ 10 ∧ k ≠ 11 ∧ k ≠ 12 ∧ k ≠ 24) := by omega
theorem beqI_f {a b : Int} (h : a ≠ b) : (a == b) = false := by rw [beq_eq_false_iff_ne]; exact h
theorem Try.al13 (S : Nat → List UwE) (hS : ∀ i, (S i).length ≤ 1000000) (e : Evt) : Alone Try.prog 13 [skA S, evA e] (skA (stepU S e)) ⟨0, []⟩ := by
  obtain ⟨k, th, pc, a, b, n⟩ := e
  have run := fun args v h2 => rootS_alone Try.e13 (d := 5) (g := 13) (ls := lsumsOf []) (AllL.ls0 _) (args := args) (v := v) (h2 := h2)
  have runo := fun args v h2 => rootS_alone Try.e13o (d := 5) (g := 13) (ls := lsumsOf []) (AllL.ls0 _) (args := args) (v := v) (h2 := h2)
  cases hth : thrd th with
  | false =>
    have e1 : stepU S ⟨k, th, pc, a, b, n⟩ = S := by unfold stepU; simp only [hth]; rfl
    rw [e1]
    have key := Try.x13o S k th pc a b n
    rw [g8_t hS, thx_f hth] at key
    have e2 : kx k (some (rawS S)) (some (rawS S)) = some (rawS S) := by unfold kx; simp only [cond_sameB]
    rw [e2] at key
    exact rawS_ok S (runo _ _ _ key)
  | true =>
    obtain ⟨t, ht, rfl⟩ := thrd_cast hth
    have et : Int.toNat (t : Int) = t := Int.toNat_natCast t
    unfold stepU
    simp only [hth, cond_true, et]
    rcases kx_cases k with rfl | rfl | rfl | rfl | rfl | rfl | rfl | hk
    · have key := Try.x13c S pc a b n t ht
      rw [g8_t hS, appR_t hS] at key
      exact lendA S _ t (run _ _ _ key)
    · have key := Try.x13r S pc a b n t ht
      rw [g8_t hS, ← h9_eq, isH_refl, hth, et, rowAt_h9 S t ht, ble_t (hS t)] at key
      obtain ⟨c1, c2, _⟩ := skEb_congr (cutX_eq retN S a t ht) 0
      rw [c1, c2] at key
      exact lendS _ (run _ _ _ key)
    · have key := Try.x13s S pc a b n t ht
      rw [g8_t hS, appR_t hS] at key
      show Alone Try.prog 13 _ (skA (bif a != 0 then _ else S)) _
      cases ha : a != 0 with
      | true => rw [ha] at key; exact lendA S _ t (run _ _ _ key)
      | false => rw [ha] at key; exact rawS_ok S (run _ _ _ key)
    · have key := Try.x13b S pc a b n t ht
      rw [g8_t hS, ← h9_eq, isH_refl, hth, et, rowAt_h9 S t ht, ble_t (hS t)] at key
      obtain ⟨c1, c2, _⟩ := skEb_congr (cutX_eq (fun l _ => backN' l) S a t ht) 0
      rw [c1, c2] at key
      exact lendS _ (run _ _ _ key)
    · show Alone Try.prog 13 _ (skA (bif thrd n then setS S n.toNat [] else S)) _
      cases hn : thrd n with
      | true =>
        obtain ⟨m, hm, rfl⟩ := thrd_cast hn
        have key := Try.x13n S t pc a b m hm
        rw [g8_t hS, decide_eq_true (show (t : Int) ≥ 0 by omega), decide_eq_true (show (t : Int) < 8 by omega)] at key
        rw [Int.toNat_natCast]
        exact lendX S m hm (run _ _ _ key)
      | false =>
        have fin : Alone Try.prog 13 [skA S, evA ⟨11, t, pc, a, b, n⟩] (rawS S).1 (rawS S).2 := by
          rcases thrd_out hn with ⟨m, rfl⟩ | ⟨m, rfl⟩
          · have key := Try.x13u S t pc a b m
            rw [g8_t hS, thx_t hth] at key
            exact run _ _ _ key
          · have key := Try.x13v S t pc a b m
            rw [g8_t hS, thx_t hth] at key
            exact run _ _ _ key
        exact rawS_ok S fin
    · have key := Try.x13e S pc a b n t ht
      rw [g8_t hS] at key
      exact lendX S t ht (run _ _ _ key)
    · have key := Try.x13z S t pc a b n
      rw [g8_t hS, decide_eq_true (show (t : Int) ≥ 0 by omega), decide_eq_true (show (t : Int) < 8 by omega)] at key
      refine Alone.resW (AW.agg (AWs.l8 (g := fun i => .ro (UE.con []) none) (fun i => AW.nil rfl))) (run _ _ _ key)
    · obtain ⟨k1, k2, k3, k4, k5, k6, k7⟩ := hk
      rw [beqI_f k1, beqI_f k2, beqI_f k3, beqI_f k4, beqI_f k5, beqI_f k6, beqI_f k7]
      have key := Try.x13o S k t pc a b n
      unfold kx at key
      rw [g8_t hS, beqI_f k1, beqI_f k2, beqI_f k3, beqI_f k4, beqI_f k5, beqI_f k6, beqI_f k7] at key
      exact rawS_ok S (runo _ _ _ key)
end Go.Ev
/- Rows compared: slices.Equal and its like. -/
namespace Go.Ev
theorem propB_f {p : Prop} (h : ¬ p) : propB p = false := @decide_eq_false _ (Classical.propDecidable _) h
theorem wrapT (k : Nat) (h : k < 9223372036854775807) : IntKind.i64.wrap ((k : Int) + 1) = ((k + 1 : Nat) : Int) := by rw [wrap64 _ (by omega) (by omega)]; omega
section
variable {D : Type} (R : RowTy D) (ceq : D → D → Bool)
def eqD (L M : List D) : Bool := propB (L.length = M.length ∧ ∀ i, i < L.length → ceq (L.getD i R.z) (M.getD i R.z) = true)
def eqL (N : Nat) (ks : List Nat) (V : Int → List AV) (L M : List D) : LSum := atL (stOf N ks (V 0) ⟨0, []⟩) (.grd (decide (L.length = M.length) && Nat.ble L.length 1000000) (.br (eqD R ceq L M) (.out (.exit 0, stOf N [] [] ⟨0, []⟩)) (.out (.ret, stOf N [4] [.val (.bool false)] ⟨0, []⟩))))
def eqS (args : List AV) : Ans (AV × Heap) := match args with
  | [.ro c1 k1, .ro c2 k2] => .grd (R.ok c1 && (R.ok c2 && Nat.ble (R.list c1).length 1000000)) (.out (.val (.bool (eqD R ceq (R.list c1) (R.list c2))), ⟨0, []⟩))
  | _ => .no
def eqqA : AFun := pureA (fun args => eqS R ceq (nzs [R.con [], R.con []] args))
def eqRound (N : Nat) (ks : List Nat) (V : Int → List AV) (L M : List D) (i : Int) : Option (AX × St) :=
  bif decide (i < (L.length : Int)) then
   bif inR i L.length then
    bif inR i M.length then
     bif !(ceq (L.getD i.toNat R.z) (M.getD i.toNat R.z)) then some (.ret, stOf N [4] [.val (.bool false)] ⟨0, []⟩)
     else some (.normal, stOf N ks (V (IntKind.i64.wrap (i + 1))) ⟨0, []⟩)
    else none
   else none
  else some (.exit 0, stOf N [] [] ⟨0, []⟩)
def eqRun (N : Nat) (ks : List Nat) (V : Int → List AV) (L M : List D) : Option (AV × Heap) :=
  bif (L.length : Int) != (M.length : Int) then some (.val (.bool false), ⟨0, []⟩)
  else bif isSt (stOf N ks (V 0) ⟨0, []⟩) (stOf N ks (V 0) ⟨0, []⟩) then
    (bif decide (L.length = M.length) && Nat.ble L.length 1000000 then (bif eqD R ceq L M then some (.val (.bool true), ⟨0, []⟩) else some (.val (.bool false), ⟨0, []⟩)) else none)
  else none
end
section
variable {D : Type} {R : RowTy D} {ceq : D → D → Bool}
theorem eqD_iff (hc : ∀ x y, ceq x y = true ↔ x = y) (L M : List D) : eqD R ceq L M = true ↔ L = M := by
  constructor
  · intro h
    obtain ⟨h1, h2⟩ := propB_eq h
    refine List.ext_getElem h1 (fun i hi hj => ?_)
    have := (hc _ _).1 (h2 i hi)
    rwa [List.getD_eq_getElem?_getD, List.getD_eq_getElem?_getD, List.getElem?_eq_getElem hi, List.getElem?_eq_getElem hj] at this
  · rintro rfl
    exact propB_t ⟨rfl, fun i _ => (hc _ _).2 rfl⟩
theorem eqloop {P : Program} {env : Env} (he : EnvOk2 P env) {d g : Nat} {c : Code} (hin : AllL (LsOk P (lsumsOf [])) (loopsOf c)) {N : Nat} {ks : List Nat} (V : Int → List AV) (L M : List D)
    (r : ∀ i : Int, codeS env (callF env d) (env.keep g) (lsumsOf []) c (outK ks [4]) (stOf N ks (V i) ⟨0, []⟩) = eqRound R ceq N ks V L M i) :
    ∀ s e s', s.h.ok → (eqL R ceq N ks V L M s).run = some (e, s') → Triple P (.loop c) s e s' := by
  refine atL_grd (fun hp => ?_)
  rw [Bool.and_eq_true, decide_eq_true_eq, Nat.ble_eq] at hp
  obtain ⟨hlm, hl⟩ := hp
  refine loop_at he (d := d) (g := g) (ls := lsumsOf []) (c := c) hin ks [4] (T := Nat)
    (fun k => stOf N ks (V k) ⟨0, []⟩) (fun k => k ≤ L.length ∧ ∀ i, i < k → ceq (L.getD i R.z) (M.getD i R.z) = true) (fun k => L.length - k) (fun _ => bif eqD R ceq L M then (.exit 0, stOf N [] [] ⟨0, []⟩) else (.ret, stOf N [4] [.val (.bool false)] ⟨0, []⟩)) _ _ 0 ⟨Nat.zero_le _, fun i hi => by omega⟩ (Weak.refl heap0_ok) ?_ (fun k _ => heap0_ok) ?_
  · intro e s' h
    rw [Ans.run_br] at h
    cases hq : eqD R ceq L M <;> rw [hq] at h <;> exact Option.some.inj h
  · rintro k ⟨h1, h2⟩
    have key := r k
    unfold eqRound at key
    by_cases hk : k < L.length
    · rw [declt_nat, inR_nat, inR_nat, decide_eq_true hk, decide_eq_true (show k < M.length by omega), Int.toNat_natCast] at key
      simp only [Bool.and_self, cond_true'] at key
      cases hq : ceq (L.getD k R.z) (M.getD k R.z) with
      | true =>
        rw [hq, wrapT k (by omega)] at key
        refine .inl ⟨k + 1, _, key, Weak.refl heap0_ok, ⟨hk, fun i hi => ?_⟩, by omega, rfl⟩
        rcases Nat.lt_or_ge i k with q | q
        · exact h2 i q
        · have : i = k := by omega
          subst this; exact hq
      | false =>
        rw [hq] at key
        have hne : eqD R ceq L M = false := propB_f (fun e => by have := e.2 k hk; rw [hq] at this; cases this)
        simp only [hne, cond_false']
        exact .inr ⟨_, key, Weak.refl heap0_ok, by show AX.ret ≠ .normal; intro h; cases h⟩
    · have e1 : k = L.length := by omega
      rw [declt_nat, decide_eq_false hk] at key
      have hq : eqD R ceq L M = true := propB_t ⟨hlm, fun i hi => h2 i (by omega)⟩
      simp only [hq, cond_true']
      exact .inr ⟨_, key, Weak.refl heap0_ok, by show (AX.exit 0) ≠ .normal; intro h; cases h⟩
theorem eq_sum {P : Program} {env : Env} (he : EnvOk2 P env) {d g lid : Nat} {c : Code} (hf : ∃ fn c, P.funcs[g]? = some fn ∧ fn.name ≠ "runtime.NumGoroutine" ∧ fn.body = some c)
    (hb : loopsOf (bodyOf env g) = [c]) (hfst : Code.fst c = some lid) (hin : loopsOf c = []) {N : Nat} {ks : List Nat} (V : List D → List D → Int → List AV)
    (r : ∀ L M (i : Int), codeS env (callF env d) (env.keep g) (lsumsOf []) c (outK ks [4]) (stOf N ks (V L M i) ⟨0, []⟩) = eqRound R ceq N ks (V L M) L M i)
    (w : ∀ L M, rootS env d g (lsumsOf [(lid, eqL R ceq N ks (V L M) L M)]) [.ro (R.con L) none, .ro (R.con M) none] = eqRun R ceq N ks (V L M) L M) : SumC P g (eqqA R ceq) := by
  refine pureSumR g hf ?_
  intro args v h2 hs
  refine Alone.nz (cs := [R.con [], R.con []]) (by simp [Con.len, RowTy.con]) ?_
  replace hs : (eqS R ceq (nzs [R.con [], R.con []] args)).run = some (v, h2) := hs
  generalize nzs [R.con [], R.con []] args = args' at hs ⊢
  unfold eqS at hs
  split at hs
  · rename_i c1 k1 c2 k2
    rw [Ans.run_grd] at hs
    cases hq : (R.ok c1 && (R.ok c2 && Nat.ble (R.list c1).length 1000000)) with
    | false => rw [hq] at hs; cases hs
    | true =>
      rw [hq, cond_true] at hs
      injection hs with hs
      injection hs with q1 q2
      subst q1; subst q2
      rw [Bool.and_eq_true, Bool.and_eq_true] at hq
      obtain ⟨o1, o2, hl⟩ := hq
      refine Alone.argsW (AWs.args (.cons (R.aw o1 _) (.cons (R.aw o2 _) .nil))) ?_
      generalize R.list c1 = L at hl ⊢
      generalize R.list c2 = M at ⊢
      have hls : lsumsOf [(lid, eqL R ceq N ks (V L M) L M)] lid = some (eqL R ceq N ks (V L M) L M) := by
        show (bif Nat.beq lid lid then _ else _) = _
        rw [Nat.beq_refl]; rfl
      refine rootS_alone he (d := d) (g := g) (ls := lsumsOf [(lid, eqL R ceq N ks (V L M) L M)]) (AllL.of1 (a := c) hb (LsOk.of hfst hls (eqloop he (d := d) (g := g) (AllL.of0 hin) (V L M) L M (r L M)))) ((w L M).trans ?_)
      unfold eqRun
      by_cases h : L.length = M.length
      · rw [show ((L.length : Int) != (M.length : Int)) = false by rw [h]; simp, isSt_refl, decide_eq_true h, hl]
        cases eqD R ceq L M <;> rfl
      · have h1 : ((L.length : Int) != (M.length : Int)) = true := by rw [bne, Bool.not_eq_true', beq_eq_false_iff_ne]; omega
        have h2 : eqD R ceq L M = false := propB_f (fun e => h e.1)
        rw [h1, h2]; rfl
  · cases hs
end
end Go.Ev
