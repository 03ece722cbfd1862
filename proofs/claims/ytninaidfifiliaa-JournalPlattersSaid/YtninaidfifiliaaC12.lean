/- JournalPlatters, for every input: the law answers true, and its arguments read as they did. -/
import Derived.Handed
import Derived.JoinedOf
import Derived.Test.YtninaidfifiliaaC11
set_option linter.unusedSimpArgs false
set_option linter.unusedVariables false
set_option linter.unusedSectionVars false
/- Devices: what is read of a sector. -/
set_option linter.unusedVariables false
set_option maxRecDepth 100000
namespace Go.Ev
open Go.Proofs
noncomputable section
def Try.E71 : Env := Try.env0 false (sumsOf []) (keepF 71 [(2, [0,3,4,12])])
def showRange (env : Env) (d g p : Nat) (args : List AV) (h : Heap) : Option (AX × St) :=
  match env.fn.get g with
  | some fn => codeR env (callF env d) (env.keep g) (lsumsOf []) (fun _ => some (fun s => .out (.exit 7777, s))) p (bodyOf env g) (fun e s => some (e, s)) ⟨startT fn args, [], h⟩
  | none => none
end
theorem Try.s71b (at' : Int) (N : Int) (x : AV) (P : List SwD) : showRange Try.E71 5 71 1 [.ptr 0 0 0, .val (.int .i64 at')] (oneH (box1 N x (.ro (SW.con P) none))) =
      some (.exit 7777, stOf 30 [0, 3, 4, 12] [.ptr 0 (0) 0, .ptr 1 (0) 0, .ptr 2 (0) 0, .clo (Fn.func 109) [] [.ptr 3 (0) 0]] ⟨4, [⟨3, 0, .cells (.rows true 1 ([.ro (.tab 2 (P.length) (fun i => SW.row (P.getD i SW.z))) none] :: []))⟩, ⟨2, 0, .cells (.rows true 1 ([.val (.slice none 0 0)] :: []))⟩, ⟨1, 0, .cells (.rows true 1 ([.val (.int .i64 (at'))] :: []))⟩, ⟨0, 0, .cells (.rows true 3 ([.val (.int .i64 (N)), «x», .ro (.tab 2 (P.length) (fun i => SW.row (P.getD i SW.z))) none] :: []))⟩]⟩ ) := by kernel_rfl
noncomputable section
def Try.rg71 : Code := nthD .skip (rangesOf (bodyOf Try.E71 71)) 0
def asg : Code → Code
  | .rangeFunc _ _ a _ => a
  | _ => .skip
def bdy : Code → Code
  | .rangeFunc _ _ _ b => b
  | _ => .skip
def prs : Code → List Tmp
  | .rangeFunc _ ps _ _ => ps.toList
  | _ => []
def Try.a71 : Code := asg Try.rg71
def Try.c71 : Code := bdy Try.rg71
def Try.E109 : Env := Try.env0 false (sumsOf []) (keepF 109 [(1, [0,1,3])])
def Try.b109 : Code := nthD .skip (loopsOf (bodyOf Try.E109 109)) 0
def Try.B109 (s : St) : Option (AX × St) := codeP Try.E109 (callF Try.E109 5) (Try.E109.keep 109) (lsumsOf []) 6 Try.b109 (outKP 6 [0,1,3] []) s
def Try.V109 (i : Int) : List AV := [.clo (.yield 0) [] [], .ptr 5 0 0, .val (.int .i64 i)]
def Try.T71 (n : Nat) : List AV := placeL [0,3,4,12] [.ptr n 0 0, .ptr (n + 1) 0 0, .ptr (n + 2) 0 0, .clo (.func 109) [] [.ptr (n + 3) 0 0]] 30 0
def Try.H109 (st : LoopState) (pend : Option Code) (at' : Int) (N : Int) (x r : AV) (P : List SwD) : Heap := ⟨6, [⟨5, 0, .cells (.rows true 1 [[.ro (SW.con P) none]])⟩, ⟨4, 0, .cells (.rows true 1 [[r]])⟩, ⟨3, 0, .cells (.rows true 1 [[.val (.int .i64 at')]])⟩, ⟨2, 0, .cells (box1 N x (.ro (SW.con P) none))⟩, ⟨1, 0, .defd⟩, ⟨0, 0, .loop st pend (Try.T71 2) [13, 14] Try.a71 Try.c71 1⟩]⟩
end
theorem Try.r109 (at' : Int) (N : Int) (x r : AV) (P : List SwD) (i : Int) : Try.B109 (stOf 19 [0,1,3] (Try.V109 i) (Try.H109 .ready none at' N x r P)) =
      bif decide (i ≥ 0) then
       bif inR i P.length then
        bif (P.getD i.toNat SW.z).fst == at' then
         some (.ret, stOf 19 [] [] (Try.H109 .done (some .ret) at' N x (.ro (.ints .u8 ((P.getD i.toNat SW.z).snd)) none) P))
        else
         some (.normal, stOf 19 [0, 1, 3] (Try.V109 (IntKind.i64.wrap (i - 1))) (Try.H109 .ready none at' N x r P))
       else
        none
      else
       some (.exit 0, stOf 19 [] [] (Try.H109 .ready none at' N x r P)) := by kernel_rfl
noncomputable section
/-- The iterator's answer, and what it leaves of the range. -/
def fin109 (at' N : Int) (x : AV) (P : List SwD) (k : Nat) : AX × Heap := bif hasW P at' k then (.ret, Try.H109 .done (some .ret) at' N x (.ro (.ints .u8 (getW P at' k)) none) P) else (.exit 0, Try.H109 .ready none at' N x (.val (.slice none 0 0)) P)
end
theorem fin109_s (at' N : Int) (x : AV) (P : List SwD) (k : Nat) : fin109 at' N x P (k + 1) = bif (P.getD k SW.z).1 == at' then (.ret, Try.H109 .done (some .ret) at' N x (.ro (.ints .u8 (P.getD k SW.z).2) none) P) else fin109 at' N x P k := by
  unfold fin109 hasW getW
  simp only
  cases ((P.getD k SW.z).1 == at') <;> rfl
noncomputable section
def Try.s109 (at' N : Int) (x : AV) (P : List SwD) : St := stOf 19 [0,1,3] (Try.V109 (IntKind.i64.wrap ((P.length : Int) - 1))) (Try.H109 .ready none at' N x (.val (.slice none 0 0)) P)
def Try.L109 (at' N : Int) (x : AV) (P : List SwD) : LSum := fun s => .grd (isSt s (Try.s109 at' N x P)) (.br (hasW P at' P.length) (.out (.ret, stOf 19 [] [] (Try.H109 .done (some .ret) at' N x (.ro (.ints .u8 (getW P at' P.length)) none) P))) (.out (.exit 0, stOf 19 [] [] (Try.H109 .ready none at' N x (.val (.slice none 0 0)) P))))
end
theorem Try.e109 : EnvOk2 Try.prog Try.E109 := Try.envOk false (sumsOf []) _ (fun g A h => by cases h)
theorem Try.H109_ok (st : LoopState) (pend : Option Code) (at' : Int) (N : Int) (x r : AV) (P : List SwD) : (Try.H109 st pend at' N x r P).ok := by
  refine ⟨by show List.Nodup [5, 4, 3, 2, 1, 0]; decide, fun id e h => ?_⟩
  have h' : (bif Nat.beq 5 id then some _ else bif Nat.beq 4 id then some _ else bif Nat.beq 3 id then some _ else bif Nat.beq 2 id then some _ else bif Nat.beq 1 id then some _ else bif Nat.beq 0 id then some _ else none) = some e := h
  show id < 6
  rcases Nat.lt_or_ge id 6 with q | q
  · exact q
  · rw [show Nat.beq 5 id = false from beqF (by omega), show Nat.beq 4 id = false from beqF (by omega), show Nat.beq 3 id = false from beqF (by omega), show Nat.beq 2 id = false from beqF (by omega), show Nat.beq 1 id = false from beqF (by omega), show Nat.beq 0 id = false from beqF (by omega)] at h'
    cases h'
theorem Try.l109 (at' N : Int) (x : AV) (P : List SwD) (hP : P.length ≤ 1000000) : ∀ s e s', s.h.ok → (Try.L109 at' N x P s).run = some (e, s') → TripleP Try.prog 6 (.loop Try.b109) s e s' := by
  intro s e s' hk hL
  unfold Try.L109 at hL
  rw [Ans.run_grd, Ans.run_br] at hL
  cases hs : isSt s (Try.s109 at' N x P) with
  | false => rw [hs] at hL; cases hL
  | true =>
  rw [hs, cond_true] at hL
  have hs := isSt_eq hs
  subst hs
  have hX := codeP_sound (ρ := AX × St) (p := 6) (callF_sound Try.e109 5) Try.e109.ok Try.e109.mix (Try.E109.keep 109) (lsumsOf []) Try.b109 trivial
  have key := loop_tripleP hX [0,1,3] [] (T := Nat) (fun k => stOf 19 [0,1,3] (Try.V109 ((k : Int) - 1)) (Try.H109 .ready none at' N x (.val (.slice none 0 0)) P)) (fun k => k ≤ P.length) (fun k => k) (fun k => ((fin109 at' N x P k).1, stOf 19 [] [] (fin109 at' N x P k).2)) (fun k _ => Try.H109_ok _ _ _ _ _ _ _) (fun k hk => by
    cases k with
    | zero =>
      refine .inr ⟨_, (Try.r109 at' N x _ P (((0 : Nat) : Int) - 1)).trans (by rfl), WeakP.refl (Try.H109_ok _ _ _ _ _ _ _), ?_⟩
      show (AX.exit 0) ≠ .normal
      simp
    | succ k =>
      have key := Try.r109 at' N x (.val (.slice none 0 0)) P (k : Int)
      have e0 : (((k + 1 : Nat) : Int) - 1) = (k : Int) := by omega
      rw [inR_nat, decide_eq_true (show k < P.length from hk), decide_eq_true (show (k : Int) ≥ 0 by omega), Int.toNat_natCast, wrap64 _ (by omega) (by omega)] at key
      simp only [e0, fin109_s]
      cases hq : ((P.getD k SW.z).1 == at') with
      | true =>
        rw [hq] at key
        exact .inr ⟨_, key, WeakP.refl (Try.H109_ok _ _ _ _ _ _ _), by simp⟩
      | false =>
        rw [hq] at key
        exact .inl ⟨k, _, key, WeakP.refl (Try.H109_ok _ _ _ _ _ _ _), Nat.le_of_succ_le hk, Nat.lt_succ_self _, rfl⟩) P.length (Nat.le_refl _)
  unfold Try.s109
  rw [wrap64 _ (by omega) (by omega)]
  unfold fin109 at key
  cases hq : hasW P at' P.length with
  | true => rw [hq] at key hL; simp only [cond_true'] at key hL; injection hL with hL; injection hL with h1 h2; subst h1; subst h2; exact key
  | false => rw [hq] at key hL; simp only [cond_false'] at key hL; injection hL with hL; injection hL with h1 h2; subst h1; subst h2; exact key
theorem Try.w109 (at' N : Int) (x : AV) (P : List SwD) : rootR Try.E109 5 109 6 (lsumsOf [(1, Try.L109 at' N x P)]) (lsumsOf []) (outVP 6) [.clo (.yield 0) [] [], .ptr 5 0 0] (Try.H109 .ready none at' N x (.val (.slice none 0 0)) P) =
    bif isSt (Try.s109 at' N x P) (Try.s109 at' N x P) then (bif hasW P at' P.length then some (.tup [], Try.H109 .done (some .ret) at' N x (.ro (.ints .u8 (getW P at' P.length)) none) P) else some (.tup [], Try.H109 .ready none at' N x (.val (.slice none 0 0)) P)) else none := by kernel_rfl
noncomputable section
def isAH (a : List AV) (h : Heap) (a0 : List AV) (h0 : Heap) : Bool := @decide (a = a0 ∧ h = h0) (Classical.propDecidable _)
def Try.S109 (at' N : Int) (x : AV) (P : List SwD) (args : List AV) (h : Heap) : Ans (AV × Heap) := .grd (isAH args h [.clo (.yield 0) [] [], .ptr 5 0 0] (Try.H109 .ready none at' N x (.val (.slice none 0 0)) P))
  (.br (hasW P at' P.length) (.out (.tup [], Try.H109 .done (some .ret) at' N x (.ro (.ints .u8 (getW P at' P.length)) none) P)) (.out (.tup [], Try.H109 .ready none at' N x (.val (.slice none 0 0)) P)))
def Try.A109 (at' N : Int) (x : AV) (P : List SwD) : AFun := effA (Try.S109 at' N x P)
end
theorem isAH_refl (a : List AV) (h : Heap) : isAH a h a h = true := @decide_eq_true _ (Classical.propDecidable _) ⟨rfl, rfl⟩
theorem isAH_eq {a a0 : List AV} {h h0 : Heap} (q : isAH a h a0 h0 = true) : a = a0 ∧ h = h0 := @of_decide_eq_true _ (Classical.propDecidable _) q
theorem Try.sum109 (at' N : Int) (x : AV) (P : List SwD) (hP : P.length ≤ 1000000) : SumC Try.prog 109 (Try.A109 at' N x P) := by
  refine effSumR 109 ⟨Try.f109, _, Try.fnOk109.1, Try.fnOk109.2, rfl⟩ ?_
  intro args h v h2 hok hs
  unfold Try.S109 at hs
  rw [Ans.run_grd, Ans.run_br] at hs
  cases hb : isAH args h [.clo (.yield 0) [] [], .ptr 5 0 0] (Try.H109 .ready none at' N x (.val (.slice none 0 0)) P) with
  | false => rw [hb] at hs; cases hs
  | true =>
  rw [hb, cond_true] at hs
  obtain ⟨rfl, rfl⟩ := isAH_eq hb
  refine rootR_alone Try.e109 (d := 5) (p := 6) (ls := lsumsOf [(1, Try.L109 at' N x P)]) (rs := lsumsOf []) outVP_weak (AllL.of1 (a := Try.b109) (by kernel_rfl) (LsOkP.of rfl rfl (Try.l109 at' N x P hP))) (AllL.of0 (by kernel_rfl)) (Try.H109_ok _ _ _ _ _ _ _) ((Try.w109 at' N x P).trans ?_)
  rw [isSt_refl, ← hs]
  cases hasW P at' P.length <;> rfl
noncomputable section
def opn : Code → Operand
  | .rangeFunc f _ _ _ => f
  | _ => .tmp 0
def prsA : Code → Array Tmp
  | .rangeFunc _ ps _ _ => ps
  | _ => #[]
def Try.E71r (at' N : Int) (x : AV) (P : List SwD) : Env := Try.env0 false (sumsOf [(109, Try.A109 at' N x P)]) (keepF 71 [(2, [0,3,4,12])])
def Try.H71 (at' N : Int) (x : AV) (P : List SwD) : Heap := ⟨4, [⟨3, 0, .cells (.rows true 1 [[.ro (SW.con P) none]])⟩, ⟨2, 0, .cells (.rows true 1 [[.val (.slice none 0 0)]])⟩, ⟨1, 0, .cells (.rows true 1 [[.val (.int .i64 at')]])⟩, ⟨0, 0, .cells (box1 N x (.ro (SW.con P) none))⟩]⟩
def Try.s71 (at' N : Int) (x : AV) (P : List SwD) : St := stOf 30 [0,3,4,12] [.ptr 0 0 0, .ptr 1 0 0, .ptr 2 0 0, .clo (.func 109) [] [.ptr 3 0 0]] (Try.H71 at' N x P)
def Try.s71' (at' N : Int) (x r : AV) (P : List SwD) : St := ⟨placeL [0,3,4] [.ptr 0 0 0, .ptr 1 0 0, .ptr 2 0 0] 30 0, [3], ⟨4, [⟨3, 0, .defd⟩, ⟨2, 0, .cells (.rows true 1 [[r]])⟩, ⟨1, 0, .cells (.rows true 1 [[.val (.int .i64 at')]])⟩, ⟨0, 0, .cells (box1 N x (.ro (SW.con P) none))⟩]⟩⟩
end
theorem Try.e71r (at' N : Int) (x : AV) (P : List SwD) (hP : P.length ≤ 1000000) : EnvOk2 Try.prog (Try.E71r at' N x P) := Try.envOk false (sumsOf [(109, Try.A109 at' N x P)]) _ (sumsOf_ok (show AllS Try.prog [(109, Try.A109 at' N x P)] from ⟨Try.sum109 at' N x P hP, trivial⟩))
theorem Try.rg71_eq : Try.rg71 = .rangeFunc (opn Try.rg71) (prsA Try.rg71) Try.a71 Try.c71 := by kernel_rfl
theorem Try.g71 (at' N : Int) (x : AV) (P : List SwD) : rangeK (Try.E71r at' N x P).strict (callF (Try.E71r at' N x P) 5) (ev (Try.s71 at' N x P).t (opn Try.rg71)) (prsA Try.rg71) Try.a71 Try.c71 (outKP 1 [0,3,4] [0,3,4]) (Try.s71 at' N x P) =
    bif isAH [.clo (.yield 0) [] [], .ptr 5 0 0] (Try.H109 .ready none at' N x (.val (.slice none 0 0)) P) [.clo (.yield 0) [] [], .ptr 5 0 0] (Try.H109 .ready none at' N x (.val (.slice none 0 0)) P) then
      (bif hasW P at' P.length then some (.ret, Try.s71' at' N x (.ro (.ints .u8 (getW P at' P.length)) none) P) else some (.normal, Try.s71' at' N x (.val (.slice none 0 0)) P)) else none := by kernel_rfl
noncomputable section
def Try.R71 (at' N : Int) (x : AV) (P : List SwD) : LSum := fun s => .grd (isSt s (Try.s71 at' N x P)) (.br (hasW P at' P.length) (.out (.ret, Try.s71' at' N x (.ro (.ints .u8 (getW P at' P.length)) none) P)) (.out (.normal, Try.s71' at' N x (.val (.slice none 0 0)) P)))
end
theorem Try.s71'_ok (at' N : Int) (x r : AV) (P : List SwD) : (Try.s71' at' N x r P).h.ok := by
  refine ⟨by show List.Nodup [3, 2, 1, 0]; decide, fun id e h => ?_⟩
  have h' : (bif Nat.beq 3 id then some _ else bif Nat.beq 2 id then some _ else bif Nat.beq 1 id then some _ else bif Nat.beq 0 id then some _ else none) = some e := h
  show id < 4
  rcases Nat.lt_or_ge id 4 with q | q
  · exact q
  · rw [show Nat.beq 3 id = false from beqF (by omega), show Nat.beq 2 id = false from beqF (by omega), show Nat.beq 1 id = false from beqF (by omega), show Nat.beq 0 id = false from beqF (by omega)] at h'
    cases h'
theorem Try.k71 (at' N : Int) (x : AV) (P : List SwD) (hP : P.length ≤ 1000000) : RsOkP Try.prog 1 (lsumsOf [(2, Try.R71 at' N x P)]) Try.rg71 := by
  rw [Try.rg71_eq]
  show (match lsOf (lsumsOf [(2, Try.R71 at' N x P)]) Try.a71 with | some L => ∀ s e s', s.h.ok → (L s).run = some (e, s') → TripleP Try.prog 1 (.rangeFunc (opn Try.rg71) (prsA Try.rg71) Try.a71 Try.c71) s e s' | none => True)
  have e1 : lsOf (lsumsOf [(2, Try.R71 at' N x P)]) Try.a71 = some (Try.R71 at' N x P) := by kernel_rfl
  rw [e1]
  intro s e s' hk hL
  unfold Try.R71 at hL
  rw [Ans.run_grd, Ans.run_br] at hL
  cases hs : isSt s (Try.s71 at' N x P) with
  | false => rw [hs] at hL; cases hL
  | true =>
  rw [hs, cond_true] at hL
  have hs := isSt_eq hs
  subst hs
  have key := Try.g71 at' N x P
  rw [isAH_refl] at key
  cases hq : hasW P at' P.length with
  | true =>
    rw [hq] at key hL
    simp only [cond_true'] at key hL
    injection hL with hL
    injection hL with h1 h2
    subst h1; subst h2
    exact range_triple (Try.e71r at' N x P hP) hk key (WeakP.refl (Try.s71'_ok _ _ _ _ _))
  | false =>
    rw [hq] at key hL
    simp only [cond_true', cond_false'] at key hL
    injection hL with hL
    injection hL with h1 h2
    subst h1; subst h2
    exact range_triple (Try.e71r at' N x P hP) hk key (WeakP.refl (Try.s71'_ok _ _ _ _ _))
theorem Try.e71 : EnvOk2 Try.prog Try.E71 := Try.envOk false (sumsOf []) _ (fun g A h => by cases h)
theorem Try.w71 (at' N : Int) (B : List Int) (P : List SwD) : rootR Try.E71 5 71 1 (lsumsOf []) (lsumsOf [(2, Try.R71 at' N (.ro (.ints .u8 B) none) P)]) (outVP 1) [.ptr 0 0 0, .val (.int .i64 at')] (oneH (box1 N (.ro (.ints .u8 B) none) (.ro (SW.con P) none))) =
      bif isSt (Try.s71 at' N (.ro (.ints .u8 B) none) P) (Try.s71 at' N (.ro (.ints .u8 B) none) P) then
       bif hasW P at' P.length then
        some (.ro (.ints .u8 (getW P at' P.length)) none, oneH (box1 N (.ro (.ints .u8 B) none) (.ro (SW.con P) none)))
       else
        bif decide (0 ≤ IntKind.i64.wrap (at' * 64)) && decide (IntKind.i64.wrap (at' * 64) ≤ (↑B.length : Int)) then
         bif decide (64 ≤ (↑(List.take (B.length - (IntKind.i64.wrap (at' * 64)).toNat) (List.drop (IntKind.i64.wrap (at' * 64)).toNat B)).length : Int)) then
          some (.ro (.ints .u8 (List.take 64 (List.drop 0 (List.take (B.length - (IntKind.i64.wrap (at' * 64)).toNat) (List.drop (IntKind.i64.wrap (at' * 64)).toNat B))))) (some (64)), oneH (box1 N (.ro (.ints .u8 B) none) (.ro (SW.con P) none)))
         else
          none
        else
         none
      else
       none := by kernel_rfl
theorem EffAlone.resW {P : Program} {g p : Nat} {args : List AV} {h h2 : Heap} {v v' : AV} (hv : AW v v') (k : EffAlone P g p args h v h2) : EffAlone P g p args h v' h2 :=
  ⟨k.1, fun w c us hr hu hV => CallsIn.mono (k.2 w c us hr hu hV) (by rintro e w' ⟨u, rfl, c', a1, a2, a3, a4⟩; exact ⟨u, rfl, c', hv _ _ _ a1, a2, a3, a4⟩)⟩
theorem Try.al71 (at' N : Int) (B : List Int) (P : List SwD) (hd : isDevB N B P = true) (h0 : 0 ≤ at') (h1 : at' < N) : EffAlone Try.prog 71 1 [.ptr 0 0 0, .val (.int .i64 at')] (oneH (box1 N (.ro (.ints .u8 B) none) (.ro (SW.con P) none))) (.ro (.ints .u8 (readD (N, B, P) at')) none) (oneH (box1 N (.ro (.ints .u8 B) none) (.ro (SW.con P) none))) := by
  have h := dev_facts hd
  have h3 := h.len
  have h4 := h.hi
  have h5 := h.few
  have run := fun v h2 => rootR_alone Try.e71 (d := 5) (g := 71) (p := 1) (ls := lsumsOf []) (rs := lsumsOf [(2, Try.R71 at' N (.ro (.ints .u8 B) none) P)]) outVP_weak (AllL.of0 (by kernel_rfl)) (AllL.of1 (a := Try.rg71) (by kernel_rfl) (Try.k71 at' N _ P (by omega))) (oneH_ok (box1 N (.ro (.ints .u8 B) none) (.ro (SW.con P) none))) (args := [.ptr 0 0 0, .val (.int .i64 at')]) (v := v) (h2 := h2)
  have key := Try.w71 at' N B P
  rw [isSt_refl] at key
  unfold readD
  simp only
  cases hq : hasW P at' P.length with
  | true => rw [hq] at key; exact run _ _ key
  | false =>
    rw [hq] at key
    have e3 : IntKind.i64.wrap (at' * 64) = at' * 64 := wrap64 _ (by omega) (by omega)
    have e4 : List.take (B.length - (at' * 64).toNat) (List.drop (at' * 64).toNat B) = List.drop (at' * 64).toNat B := List.take_of_length_le (by simp)
    rw [e3, e4, decide_eq_true (show 0 ≤ at' * 64 by omega), decide_eq_true (show at' * 64 ≤ (B.length : Int) by omega), decide_eq_true (show (64 : Int) ≤ ((List.drop (at' * 64).toNat B).length : Int) by rw [List.length_drop]; omega), List.drop_zero] at key
    exact EffAlone.resW (AW.cap _ _) (run _ _ key)
noncomputable section
def Try.S71 (args : List AV) (h : Heap) : Ans (AV × Heap) := match args, h with
  | [.ptr 0 0 0, .val (.int .i64 at')], ⟨1, [⟨0, 0, .cells (.rows true 3 [[.val (.int .i64 N), .ro (.ints .u8 B) cap, .ro c cap']])⟩]⟩ =>
    .grd (okSW c && (isDevB N B (SW.list c) && (decide (0 ≤ at') && decide (at' < N)))) (.out (.ro (.ints .u8 (readD (N, B, SW.list c) at')) none, oneH (box1 N (.ro (.ints .u8 B) none) (.ro (SW.con (SW.list c)) none))))
  | _, _ => .no
def Try.A71 : AFun := effA Try.S71
def Try.t27 : List (Nat × AFun) := [(59, Try.A59x), (63, Try.A63), (71, Try.A71)]
def Try.E27 : Env := Try.env0 false (sumsOf Try.t27) (keepF 0 [])
end
theorem Try.sum71 : SumC Try.prog 71 Try.A71 := by
  refine effSumR 71 ⟨Try.f71, _, Try.fnOk71.1, Try.fnOk71.2, rfl⟩ ?_
  intro args h v h2 hok hs
  unfold Try.S71 at hs
  split at hs
  · rename_i at' N B cap c cap'
    rw [Ans.run_grd] at hs
    cases hb : (okSW c && (isDevB N B (SW.list c) && (decide (0 ≤ at') && decide (at' < N)))) with
    | false => rw [hb] at hs; cases hs
    | true =>
      rw [hb, cond_true] at hs
      simp only [Bool.and_eq_true, decide_eq_true_eq] at hb
      injection hs with hs
      injection hs with q1 q2
      subst q1; subst q2
      refine EffAlone.weak (args' := [.ptr 0 0 0, .val (.int .i64 at')]) (h' := oneH (box1 N (.ro (.ints .u8 B) none) (.ro (SW.con (SW.list c)) none))) ?_ (Try.al71 at' N B (SW.list c) hb.2.1 hb.2.2.1 hb.2.2.2)
      exact WeakP.heap hok (.con 0 0 0 rfl (ConW.one (.cons (AW.refl _) (.cons (AW.cap _ _) (.cons (SW.aw (okSW_some hb.1).1 _) .nil)))) (EsW.refl _))
  · cases hs
theorem Try.e27 : EnvOk2 Try.prog Try.E27 := Try.envOk false (sumsOf Try.t27) _ (sumsOf_ok (show AllS Try.prog Try.t27 from ⟨Try.sum59x, Try.sum63, Try.sum71, trivial⟩))
theorem Try.w27 (at' : Int) (N : Int) (B : List Int) (P : List SwD) : rootS Try.E27 5 27 (lsumsOf []) [devA N B P, .val (.int .i64 at')] =
      bif okSW (SW.con P) then
       bif isDevB N B (SW.list (SW.con P)) then
        bif decide (at' ≥ 0) then
         bif decide (at' < N) then
          bif okSW (SW.con P) && (isDevB N B (SW.list (SW.con P)) && (decide (0 ≤ at') && decide (at' < N))) then
           bif (readD (N, B, SW.list (SW.con P)) at').length.ble 1000000 then
            some (.tup [.ro (.ints .u8 (readD (N, B, SW.list (SW.con P)) at')) none, .val (.int .i64 (0))], ⟨0, []⟩)
           else
            none
          else
           none
         else
          some (.tup [.val (.slice none 0 0), .val (.int .i64 (1))], ⟨0, []⟩)
        else
         some (.tup [.val (.slice none 0 0), .val (.int .i64 (1))], ⟨0, []⟩)
       else
        some (.tup [.val (.slice none 0 0), .val (.int .i64 (400))], ⟨0, []⟩)
      else
       none := by kernel_rfl
theorem Try.sum27 : SumC Try.prog 27 Try.A34 := Try.sum_be Try.fnOk27 rfl (fun at' N B P ok => by
  have run := fun v h2 => rootS_alone Try.e27 (d := 5) (g := 27) (ls := lsumsOf []) (AllL.of0 (by kernel_rfl)) (args := [devA N B P, .val (.int .i64 at')]) (v := v) (h2 := h2)
  have key := Try.w27 at' N B P
  unfold sectD isDevD
  simp only
  rw [ok, SW_list_con] at key
  cases hd : isDevB N B P with
  | false =>
    rw [hd] at key
    exact Alone.resW (noB_aw 400) (run _ _ key)
  | true =>
    rw [hd] at key
    rw [cond_true, cond_andB]
    simp only [cond_true'] at key
    have e1 : decide (at' ≥ 0) = decide (0 ≤ at') := rfl
    rw [e1] at key
    cases h1 : decide (0 ≤ at') with
    | false => rw [h1] at key; exact Alone.resW (noB_aw 1) (run _ _ key)
    | true =>
      rw [h1] at key
      simp only [cond_true'] at key ⊢
      cases h2 : decide (at' < N) with
      | false => rw [h2] at key; exact Alone.resW (noB_aw 1) (run _ _ key)
      | true =>
        rw [h2] at key
        rw [decide_eq_true_eq] at h1 h2
        rw [ble_t (show (readD (N, B, P) at').length ≤ 1000000 by rw [readD_len (dev_facts hd) h1 h2]; omega)] at key
        exact run _ _ key)
end Go.Ev

/- JournalDevices: the walk of the law. -/
set_option linter.unusedVariables false
set_option maxRecDepth 100000
namespace Go.Ev
open Go.Proofs
noncomputable section
def Try.A22 : AFun := pureA (fun args => Try.Sdev smallB (nzDevs args))
def Try.t5 : List (Nat × AFun) := [(12, constA (.bool true)), (17, Try.A17), (22, Try.A22), (24, Try.A24), (25, Try.A25), (26, Try.A26), (27, Try.A34), (28, Try.A28), (29, Try.A29), (30, Try.A29), (31, Try.A31), (32, Try.A31), (33, Try.A33), (34, Try.A34), (35, Try.A35), (36, Try.A25)]
def Try.E5 : Env := Try.env0 false (sumsOf Try.t5) (keepF 0 [])
end
theorem Try.e5 : EnvOk2 Try.prog Try.E5 := Try.envOk false (sumsOf Try.t5) _ (sumsOf_ok (show AllS Try.prog Try.t5 from ⟨Try.saneSum, Try.sum17, Try.sum22, Try.sum24, Try.sum25, Try.sum26, Try.sum27, Try.sum28, Try.sum29, Try.sum30, Try.sum31, Try.sum32, Try.sum33, Try.sum34, Try.sum35, Try.sum36, trivial⟩))
theorem Try.r5 (n at' : Int) (b K : List Int) (N : Int) (B : List Int) (P : List SwD) : rootS Try.E5 3 5 (lsumsOf []) [devA N B P, .val (.int .i64 n), .val (.int .i64 at'), .ro (.ints .u8 b) none, .ro (.ints .i64 K) none] =
      bif okSW (SW.con P) then
       bif smallB N B (SW.list (SW.con P)) then
        bif decide ((↑b.length : Int) > 1000) then
         some (.val (.bool true), ⟨0, []⟩)
        else
         bif decide ((↑K.length : Int) > 1000) then
          some (.val (.bool true), ⟨0, []⟩)
         else
          bif (newD n).snd != (newD n).snd then
           some (.val (.bool false), ⟨0, []⟩)
          else
           bif okSW (SW.con (newD n).fst.snd.snd) && okSW (SW.con (newD n).fst.snd.snd) then
            bif sameD ((newD n).fst.fst, (newD n).fst.snd.fst, SW.list (SW.con (newD n).fst.snd.snd)) ((newD n).fst.fst, (newD n).fst.snd.fst, SW.list (SW.con (newD n).fst.snd.snd)) then
             bif okSW (SW.con P) then
              bif okSW (SW.con P) then
               bif chkD (N, B, SW.list (SW.con P)) != chkD (N, B, SW.list (SW.con P)) then
                some (.val (.bool false), ⟨0, []⟩)
               else
                bif okSW (SW.con P) && b.length.ble 1000000 then
                 bif okSW (SW.con P) && b.length.ble 1000000 then
                  bif okSW (SW.con P) then
                   bif okSW (SW.con P) then
                    bif (writeD (N, B, SW.list (SW.con P)) at' b).snd != (writeD (N, B, SW.list (SW.con P)) at' b).snd then
                     some (.val (.bool false), ⟨0, []⟩)
                    else
                     bif (sectD (N, B, SW.list (SW.con P)) at').snd != (sectD (N, B, SW.list (SW.con P)) at').snd then
                      some (.val (.bool false), ⟨0, []⟩)
                     else
                      bif okSW (SW.con (writeD (N, B, SW.list (SW.con P)) at' b).fst.snd.snd) && okSW (SW.con (writeD (N, B, SW.list (SW.con P)) at' b).fst.snd.snd) then
                       bif sameD ((writeD (N, B, SW.list (SW.con P)) at' b).fst.fst, (writeD (N, B, SW.list (SW.con P)) at' b).fst.snd.fst, SW.list (SW.con (writeD (N, B, SW.list (SW.con P)) at' b).fst.snd.snd)) ((writeD (N, B, SW.list (SW.con P)) at' b).fst.fst, (writeD (N, B, SW.list (SW.con P)) at' b).fst.snd.fst, SW.list (SW.con (writeD (N, B, SW.list (SW.con P)) at' b).fst.snd.snd)) then
                        bif eqS (sectD (N, B, SW.list (SW.con P)) at').fst (sectD (N, B, SW.list (SW.con P)) at').fst then
                         bif okSW (SW.con P) then
                          bif okSW (SW.con P) then
                           bif okSW (SW.con P) && K.length.ble 9223372036854775807 then
                            bif okSW (SW.con P) && K.length.ble 9223372036854775807 then
                             bif (flushD (N, B, SW.list (SW.con P))).snd == (flushD (N, B, SW.list (SW.con P))).snd then
                              bif (failD (N, B, SW.list (SW.con P)) K).snd == (failD (N, B, SW.list (SW.con P)) K).snd then
                               bif okSW (SW.con (flushD (N, B, SW.list (SW.con P))).fst.snd.snd) && okSW (SW.con (flushD (N, B, SW.list (SW.con P))).fst.snd.snd) then
                                bif sameD ((flushD (N, B, SW.list (SW.con P))).fst.fst, (flushD (N, B, SW.list (SW.con P))).fst.snd.fst, SW.list (SW.con (flushD (N, B, SW.list (SW.con P))).fst.snd.snd)) ((flushD (N, B, SW.list (SW.con P))).fst.fst, (flushD (N, B, SW.list (SW.con P))).fst.snd.fst, SW.list (SW.con (flushD (N, B, SW.list (SW.con P))).fst.snd.snd)) then
                                 bif okSW (SW.con (failD (N, B, SW.list (SW.con P)) K).fst.snd.snd) && okSW (SW.con (failD (N, B, SW.list (SW.con P)) K).fst.snd.snd) then
                                  bif sameD ((failD (N, B, SW.list (SW.con P)) K).fst.fst, (failD (N, B, SW.list (SW.con P)) K).fst.snd.fst, SW.list (SW.con (failD (N, B, SW.list (SW.con P)) K).fst.snd.snd)) ((failD (N, B, SW.list (SW.con P)) K).fst.fst, (failD (N, B, SW.list (SW.con P)) K).fst.snd.fst, SW.list (SW.con (failD (N, B, SW.list (SW.con P)) K).fst.snd.snd)) then
                                   some (.val (.bool true), ⟨0, []⟩)
                                  else
                                   some (.val (.bool false), ⟨0, []⟩)
                                 else
                                  none
                                else
                                 some (.val (.bool false), ⟨0, []⟩)
                               else
                                none
                              else
                               some (.val (.bool false), ⟨0, []⟩)
                             else
                              some (.val (.bool false), ⟨0, []⟩)
                            else
                             none
                           else
                            none
                          else
                           none
                         else
                          none
                        else
                         some (.val (.bool false), ⟨0, []⟩)
                       else
                        some (.val (.bool false), ⟨0, []⟩)
                      else
                       none
                   else
                    none
                  else
                   none
                 else
                  none
                else
                 none
              else
               none
             else
              none
            else
             some (.val (.bool false), ⟨0, []⟩)
           else
            none
       else
        some (.val (.bool true), ⟨0, []⟩)
      else
       none := by kernel_rfl
end Go.Ev

/- JournalDevices: the plain law. -/
set_option linter.unusedVariables false
set_option linter.unusedSimpArgs false
set_option maxRecDepth 100000
namespace Go.Ev
open Go.Proofs
theorem okSW_le {Q : List SwD} (h : Q.length ≤ 9223372036854775807) : okSW (SW.con Q) = true := by
  unfold okSW
  rw [SW.ok_con, Bool.true_and]
  exact ble_t (a := Q.length) h
theorem newD_P (n : Int) : (newD n).1.2.2 = [] := by
  unfold newD noDev
  cases decide (n < 8) || decide (n > 4096) <;> rfl
theorem flushD_P (d : DevD) : (flushD d).1.2.2 = [] := by
  unfold flushD noDev settled
  cases isDevD d <;> rfl
theorem failD_P (d : DevD) (K : List Int) : (failD d K).1.2.2 = [] := by
  unfold failD noDev settled
  cases isDevD d
  · rfl
  · cases decide ((K.length : Int) > (d.2.2.length : Int)) || K.any badK <;> rfl
theorem writeD_P (d : DevD) (at' : Int) (b : List Int) : (writeD d at' b).1.2.2.length ≤ 2001 := by
  unfold writeD noDev
  cases hd : isDevD d
  · simp
  · have h := (dev_facts (show isDevB d.1 d.2.1 d.2.2 = true from hd)).few
    cases !(decide (at' ≥ 0) && decide (at' < d.1)) || ((b.length : Int) != 64)
    · cases ((d.2.2.length : Int) == 2000)
      · simp; omega
      · simp
    · simp
theorem Try.law5 (n at' : Int) (b K : List Int) (N : Int) (B : List Int) (P : List SwD) (hP : P.length ≤ 9223372036854775807) : rootS Try.E5 3 5 (lsumsOf []) [devA N B P, .val (.int .i64 n), .val (.int .i64 at'), .ro (.ints .u8 b) none, .ro (.ints .i64 K) none] = some (.val (.bool true), ⟨0, []⟩) := by
  rw [Try.r5]
  have o1 := okSW_le hP
  have o2 : okSW (SW.con (newD n).1.2.2) = true := okSW_le (by rw [newD_P]; simp)
  have o3 : okSW (SW.con (writeD (N, B, P) at' b).1.2.2) = true := okSW_le (Nat.le_trans (writeD_P _ _ _) (by decide))
  have o4 : okSW (SW.con (flushD (N, B, P)).1.2.2) = true := okSW_le (by rw [flushD_P]; simp)
  have o5 : okSW (SW.con (failD (N, B, P) K).1.2.2) = true := okSW_le (by rw [failD_P]; simp)
  simp only [SW_list_con, o1, o2, o3, o4, o5, bne_self_eq_false, beq_self_eq_true, sameD_refl, eqS_refl, cond_true', cond_false', Bool.and_self, Bool.true_and]
  cases smallB N B P with
  | false => rfl
  | true =>
    cases h1 : decide ((b.length : Int) > 1000) with
    | true => rfl
    | false =>
      cases h2 : decide ((K.length : Int) > 1000) with
      | true => rfl
      | false =>
        rw [decide_eq_false_iff_not] at h1 h2
        rw [ble_t (show b.length ≤ 1000000 by omega), ble_t (show K.length ≤ 9223372036854775807 by omega)]
        rfl
end Go.Ev

/- JournalDevices, for every input: the law answers true, and its arguments read as they did. -/
set_option linter.unusedVariables false
set_option linter.unusedSimpArgs false
set_option maxRecDepth 100000
namespace Go.Ev
open Go.Proofs
abbrev swSh : Sh := .agg [.int .i64, bytesSh]
abbrev devSh : Sh := .agg [.int .i64, bytesSh, .sl swSh]
abbrev intsSh : Sh := .sl (.int .i64)
section
variable {H : Type}
noncomputable def swD (d : DataW H) : SwD := (intD ((partsD d).headD .nil), bytesD (tl1 (partsD d)))
noncomputable def devN (d : DataW H) : Int := intD ((partsD d).headD .nil)
noncomputable def devB (d : DataW H) : List Int := bytesD (tl1 (partsD d))
noncomputable def devP (d : DataW H) : List SwD := (elemsD (tl2 (partsD d))).map swD
theorem avs_sw (d : DataW H) : avs swSh d = swRow (swD d) := rfl
theorem sw_nil : swD (DataW.nil : DataW H) = (0, []) := rfl
theorem avs_sws (l : List (DataW H)) : Con.tab (Sh.wd swSh) l.length (fun i => avs swSh (l.getD i .nil)) = SW.con (l.map swD) := by
  unfold RowTy.con
  have e : (fun i => avs swSh (l.getD i .nil)) = fun i => SW.row ((l.map swD).getD i SW.z) := by
    funext i
    rw [avs_sw, List.getD_eq_getElem?_getD, List.getD_eq_getElem?_getD, List.getElem?_map]
    cases l[i]? <;> rfl
  rw [e, List.length_map]; rfl
theorem argA_dev (d : DataW H) : argA devSh d = devA (devN d) (devB d) (devP d) := by
  unfold devA devP
  rw [← avs_sws]
  rfl
theorem argsA_devs (d1 d2 d3 d4 d5 : DataW H) : argsA [devSh, .int .i64, .int .i64, bytesSh, intsSh] [d1, d2, d3, d4, d5] = [devA (devN d1) (devB d1) (devP d1), .val (.int .i64 (intD d2)), .val (.int .i64 (intD d3)), .ro (.ints .u8 (bytesD d4)) none, .ro (.ints .i64 (bytesD d5)) none] := by
  rw [← argA_dev]
  rfl
theorem dev_len {d : DataW H} (h : wfD devSh d) : (devP d).length ≤ 9223372036854775807 := by
  unfold devP
  rw [List.length_map]
  simp only [wfD, wfDL] at h
  have := h.2.2.1.1
  rw [show maxLen = 9223372036854775807 from rfl] at this
  exact this
end
end Go.Ev

namespace Go.Proofs.Ytninaidfifiliaa
open Go.Ev
theorem devices_contract (H : Type) (enc : TypeId × Value → H) (W : World) (base : Nat) (args : Array Value) (ds gs : List (DataW H)) (before : List MemPlace)
    (hval : ∀ (j : Nat) t v, Try.f5.params[j]? = some t → args[j]? = some v → Value.okWide Try.prog W .any base t v)
    (hW : DataW.Whole enc Try.prog Try.f5.params.toList Rows.journalDevicesSpec.vars false W args.toList ds gs before) :
    Calls Try.prog 5 args W fun e W' => ∃ v, e = .returned v ∧ Rows.journalDevicesSpec.post enc Try.prog Try.f5 false true false false W args v W' := by
  have hsh : shsOk Try.prog [devSh, .int .i64, .int .i64, bytesSh, intsSh] Try.f5.params.toList = true := by kernel_rfl
  obtain ⟨p, q, hA, hV, _⟩ := id hW
  obtain ⟨hwf, hlen⟩ := args_wf hsh hA
  obtain rfl : gs = [] := by cases gs with | nil => rfl | cons => cases hV
  match ds, hlen with
  | [d1, d2, d3, d4, d5], _ =>
    simp only [wfDL, List.headD_cons, List.tail_cons] at hwf
    have law := Try.law5 (intD d2) (intD d3) (bytesD d4) (bytesD d5) (devN d1) (devB d1) (devP d1) (dev_len hwf.1)
    rw [← argsA_devs] at law
    exact law_calls (b := 4) Try.kidsG Try.fullG (by kernel_rfl) rfl Try.underlying4 (by kernel_rfl) rfl hsh hval hW (rootS_alone Try.e5 (AllL.of0 (by kernel_rfl)) law)

theorem devices_lifted (os : Os) (started : os.Started) (H : Type) (enc : TypeId × Value → H) :
    ReturnsInHanded {} Try.checked os 5 .any (Rows.journalDevicesSpec.pre6 enc Try.prog Try.f5 Rows.journalDevicesRow.domain false) (Rows.journalDevicesSpec.post enc Try.prog Try.f5 false true false false) := by
  refine returnsInHanded_of_change (C := Try.checked) Try.ownG started (by kernel_rfl) Try.func5
    (ChangeSpec.witness6 (enc := enc) (C := Try.checked) false ⟨#[], #[.agg #[.int .i64 0, .slice none 0 0, .slice none 0 0], .int .i64 0, .int .i64 0, .slice none 0 0, .slice none 0 0], []⟩ 8 (by kernel_rfl) (by kernel_rfl) (by kernel_rfl) (by kernel_rfl)) ?_
  intro W base args ds gs before hval hW _ _
  exact devices_contract H enc W base args ds gs before hval hW

theorem journalDevices : Rows.JournalDevicesSaid :=
  OpenClaim.holds_of_wide 5 Try.f5 rfl rfl rfl rfl rfl rfl rfl ⟨rfl, rfl, rfl, rfl, rfl⟩ rfl rfl rfl rfl rfl (by kernel_rfl) Try.func5 (by kernel_rfl)
    (of_decide_eq_true (by kernel_rfl)) (by unfold Func.isWrapper; first | (rw [if_pos (by decide +kernel)]; kernel_rfl) | (rw [if_neg (by decide +kernel)]; exact ⟨rfl, rfl⟩))
    (fun os started H enc _ => devices_lifted os started H enc)
end Go.Proofs.Ytninaidfifiliaa

/- JournalPlatters: its loops. -/
set_option linter.unusedVariables false
set_option maxRecDepth 100000
namespace Go.Ev
open Go.Proofs
noncomputable section
def Try.t4 : List (Nat × AFun) := [(12, constA (.bool true)), (17, Try.A17), (22, Try.A22), (23, Try.A23), (24, Try.A24), (25, Try.A25), (26, Try.A26), (27, Try.A34), (28, Try.A28)]
def Try.E4 : Env := Try.env0 false (sumsOf Try.t4) (keepF 4 [(7, [1,2,3,7,38,39]), (16, [1,2,3,8,90,91])])
def Try.b4 : Code := nthD .skip (loopsOf (bodyOf Try.E4 4)) 0
def Try.b4i : Code := nthD .skip (loopsOf (bodyOf Try.E4 4)) 1
def Try.B4 (s : St) : Option (AX × St) := codeS Try.E4 (callF Try.E4 3) (Try.E4.keep 4) (lsumsOf []) Try.b4 (outK [1,2,3,7,38,39] [1,2,3,7]) s
def Try.B4i (s : St) : Option (AX × St) := codeS Try.E4 (callF Try.E4 3) (Try.E4.keep 4) (lsumsOf []) Try.b4i (outK [1,2,3,8,90,91] [1,2,3,6]) s
def Try.V4 (at' : Int) (b : List Int) (n : Int) (v : AV) (k : Nat) : List AV := [.val (.int .i64 at'), .ro (.ints .u8 b) none, .ptr 0 0 0, v, .val (.int .i64 n), .val (.int .i64 k)]
def Try.V4i (at' : Int) (b : List Int) (N : Int) (i : Nat) : List AV := [.val (.int .i64 at'), .ro (.ints .u8 b) none, .ptr 0 0 0, .ptr 1 0 0, .val (.int .i64 N), .val (.int .i64 i)]
def boxD (d : DevD) : Con := box1 d.1 (.ro (.ints .u8 d.2.1) none) (.ro (SW.con d.2.2) none)
def Try.H4 (d : DevD) (K : List Int) : Heap := ⟨2, [⟨1, 0, .cells (.ints .i64 K)⟩, ⟨0, 0, .cells (boxD d)⟩]⟩
def Try.H4i (d x : DevD) : Heap := ⟨2, [⟨1, 0, .cells (boxD x)⟩, ⟨0, 0, .cells (boxD d)⟩]⟩
end
theorem Try.e4 : EnvOk2 Try.prog Try.E4 := Try.envOk false (sumsOf Try.t4) _ (sumsOf_ok (show AllS Try.prog Try.t4 from ⟨Try.saneSum, Try.sum17, Try.sum22, Try.sum23, Try.sum24, Try.sum25, Try.sum26, Try.sum27, Try.sum28, trivial⟩))
theorem Try.r4a (at' : Int) (b : List Int) (n : Int) (d : DevD) (k : Nat) : Try.B4 (stOf 151 [1,2,3,7,38,39] (Try.V4 at' b n (.own 1 0 k none 1) k) (Try.H4 d (k64 k))) =
      bif decide ((↑k : Int) < n) then
       bif (0 + k).ble (k64 k).length then
        bif ((k + 1) * 8).ble most && (k + 1).ble most then
         some (.normal, stOf 151 [1, 2, 3, 7, 38, 39] [.val (.int .i64 (at')), .ro (.ints .u8 (b)) none, .ptr 0 (0) 0, .own 1 (0) (k + 1) none 1, .val (.int .i64 (n)), .val (.int .i64 (IntKind.i64.wrap ((↑k : Int) + 1)))] ⟨2, [⟨1, 0, .cells (.ints .i64 (List.take k (List.drop 0 (k64 k)) ++ [64]))⟩, ⟨0, 0, .cells (.rows true 3 ([.val (.int .i64 (d.fst)), .ro (.ints .u8 (d.snd.fst)) none, .ro (.tab 2 (d.snd.snd.length) (fun i => SW.row (d.snd.snd.getD i SW.z))) none] :: []))⟩]⟩ )
        else
         none
       else
        none
      else
       some (.exit 0, stOf 151 [1, 2, 3, 7] [.val (.int .i64 (at')), .ro (.ints .u8 (b)) none, .ptr 0 (0) 0, .own 1 (0) (k) none 1] ⟨2, [⟨1, 0, .cells (.ints .i64 (k64 k))⟩, ⟨0, 0, .cells (.rows true 3 ([.val (.int .i64 (d.fst)), .ro (.ints .u8 (d.snd.fst)) none, .ro (.tab 2 (d.snd.snd.length) (fun i => SW.row (d.snd.snd.getD i SW.z))) none] :: []))⟩]⟩ ) := by kernel_rfl
theorem Try.r4i (at' : Int) (b : List Int) (n : Int) (d x : DevD) (k : Nat) : Try.B4i (stOf 151 [1,2,3,8,90,91] (Try.V4i at' b n k) (Try.H4i d x)) =
      bif decide ((↑k : Int) < n) then
       bif okSW (SW.con d.snd.snd) then
        bif okSW (SW.con x.snd.snd) then
         bif (sectD (d.fst, d.snd.fst, SW.list (SW.con d.snd.snd)) (↑k : Int)).snd != 0 then
          some (.ret, stOf 151 [1, 2, 3, 6] [.val (.int .i64 (at')), .ro (.ints .u8 (b)) none, .ptr 0 (0) 0, .val (.bool false)] ⟨1, [⟨0, 0, .cells (.rows true 3 ([.val (.int .i64 (d.fst)), .ro (.ints .u8 (d.snd.fst)) none, .ro (.tab 2 (d.snd.snd.length) (fun i => SW.row (d.snd.snd.getD i SW.z))) none] :: []))⟩]⟩ )
         else
          bif (sectD (x.fst, x.snd.fst, SW.list (SW.con x.snd.snd)) (↑k : Int)).snd != 0 then
           some (.ret, stOf 151 [1, 2, 3, 6] [.val (.int .i64 (at')), .ro (.ints .u8 (b)) none, .ptr 0 (0) 0, .val (.bool false)] ⟨1, [⟨0, 0, .cells (.rows true 3 ([.val (.int .i64 (d.fst)), .ro (.ints .u8 (d.snd.fst)) none, .ro (.tab 2 (d.snd.snd.length) (fun i => SW.row (d.snd.snd.getD i SW.z))) none] :: []))⟩]⟩ )
          else
           bif eqS (sectD (d.fst, d.snd.fst, SW.list (SW.con d.snd.snd)) (↑k : Int)).fst (sectD (x.fst, x.snd.fst, SW.list (SW.con x.snd.snd)) (↑k : Int)).fst then
            some (.normal, stOf 151 [1, 2, 3, 8, 90, 91] [.val (.int .i64 (at')), .ro (.ints .u8 (b)) none, .ptr 0 (0) 0, .ptr 1 (0) 0, .val (.int .i64 (n)), .val (.int .i64 (IntKind.i64.wrap ((↑k : Int) + 1)))] ⟨2, [⟨1, 0, .cells (.rows true 3 ([.val (.int .i64 (x.fst)), .ro (.ints .u8 (x.snd.fst)) none, .ro (.tab 2 (x.snd.snd.length) (fun i => SW.row (x.snd.snd.getD i SW.z))) none] :: []))⟩, ⟨0, 0, .cells (.rows true 3 ([.val (.int .i64 (d.fst)), .ro (.ints .u8 (d.snd.fst)) none, .ro (.tab 2 (d.snd.snd.length) (fun i => SW.row (d.snd.snd.getD i SW.z))) none] :: []))⟩]⟩ )
           else
            some (.ret, stOf 151 [1, 2, 3, 6] [.val (.int .i64 (at')), .ro (.ints .u8 (b)) none, .ptr 0 (0) 0, .val (.bool false)] ⟨1, [⟨0, 0, .cells (.rows true 3 ([.val (.int .i64 (d.fst)), .ro (.ints .u8 (d.snd.fst)) none, .ro (.tab 2 (d.snd.snd.length) (fun i => SW.row (d.snd.snd.getD i SW.z))) none] :: []))⟩]⟩ )
        else
         none
       else
        none
      else
       some (.exit 2, stOf 151 [1, 2, 3] [.val (.int .i64 (at')), .ro (.ints .u8 (b)) none, .ptr 0 (0) 0] ⟨1, [⟨0, 0, .cells (.rows true 3 ([.val (.int .i64 (d.fst)), .ro (.ints .u8 (d.snd.fst)) none, .ro (.tab 2 (d.snd.snd.length) (fun i => SW.row (d.snd.snd.getD i SW.z))) none] :: []))⟩]⟩ ) := by kernel_rfl
noncomputable section
def Try.s4 (at' : Int) (b : List Int) (d : DevD) : St := stOf 151 [1,2,3,7,38,39] (Try.V4 at' b d.2.2.length (.val (.slice none 0 0)) 0) (oneH (boxD d))
def Try.o4 (at' : Int) (b : List Int) (d : DevD) : AX × St := (.exit 0, stOf 151 [1,2,3,7] [.val (.int .i64 at'), .ro (.ints .u8 b) none, .ptr 0 0 0, .ro (.ints .i64 (k64 d.2.2.length)) none] ⟨2, [⟨0, 0, .cells (boxD d)⟩]⟩)
def Try.L4 (at' : Int) (b : List Int) (d : DevD) : LSum := atL (Try.s4 at' b d) (.grd (Nat.ble d.2.2.length 1000000) (.out (Try.o4 at' b d)))
def Try.s4i (at' : Int) (b : List Int) (d x : DevD) : St := stOf 151 [1,2,3,8,90,91] (Try.V4i at' b d.1 0) (Try.H4i d x)
def Try.o4i (at' : Int) (b : List Int) (d : DevD) : AX × St := (.exit 2, stOf 151 [1,2,3] [.val (.int .i64 at'), .ro (.ints .u8 b) none, .ptr 0 0 0] (oneH (boxD d)))
def seqAll (d x : DevD) : Prop := okSW (SW.con d.2.2) = true ∧ okSW (SW.con x.2.2) = true ∧ 0 ≤ d.1 ∧ d.1 ≤ 1000000 ∧ ∀ k : Nat, (k : Int) < d.1 → (sectD d k).2 = 0 ∧ (sectD x k).2 = 0 ∧ eqS (sectD d k).1 (sectD x k).1 = true
def Try.L4i (at' : Int) (b : List Int) (d x : DevD) : LSum := atL (Try.s4i at' b d x) (.grd (propB (seqAll d x)) (.out (Try.o4i at' b d)))
end
theorem Try.l4 (at' : Int) (b : List Int) (d : DevD) : ∀ s e s', s.h.ok → (Try.L4 at' b d s).run = some (e, s') → Triple Try.prog (.loop Try.b4) s e s' := by
  refine atL_grd (fun hP => ?_)
  rw [Nat.ble_eq] at hP
  refine loop_at Try.e4 (d := 3) (g := 4) (ls := lsumsOf []) (c := Try.b4) trivial [1,2,3,7,38,39] [1,2,3,7] (T := Nat)
    (fun k => stOf 151 [1,2,3,7,38,39] (Try.V4 at' b d.2.2.length (.own 1 0 k none 1) k) (Try.H4 d (k64 k))) (fun k => k ≤ d.2.2.length) (fun k => d.2.2.length - k) (fun _ => Try.o4 at' b d) _ _ 0 (Nat.zero_le _) ?_ ?_ (fun k _ => two_ok _ _) ?_
  · exact Weak.nil (oneH_ok _) 7 (.ints .i64 []) rfl rfl
  · intro e s' h
    exact Option.some.inj h
  · intro k h2
    replace h2 : k ≤ d.2.2.length := h2
    have key := Try.r4a at' b d.2.2.length d k
    have ek : (k64 k).length = k := List.length_replicate
    by_cases hk : k < d.2.2.length
    · have e1 : List.take k (List.drop 0 (k64 k)) ++ [64] = k64 (k + 1) := by
        rw [List.drop_zero, List.take_of_length_le (by omega)]; exact List.replicate_succ'.symm
      rw [declt_nat, decide_eq_true hk, ek, Nat.zero_add, ble_t (Nat.le_refl _), ble_t (show (k + 1) * 8 ≤ most by rw [most_eq]; omega), ble_t (show k + 1 ≤ most by rw [most_eq]; omega), wrapT k (by omega), e1] at key
      exact .inl ⟨k + 1, _, key, Weak.refl (two_ok _ _), hk, by omega, rfl⟩
    · have : k = d.2.2.length := by omega
      subst this
      rw [declt_nat, decide_eq_false hk] at key
      have fz : FzL 1 (.ints .i64 (k64 d.2.2.length)) [.val (.int .i64 at'), .ro (.ints .u8 b) none, .ptr 0 0 0, .own 1 0 d.2.2.length none 1] [.val (.int .i64 at'), .ro (.ints .u8 b) none, .ptr 0 0 0, .ro (.ints .i64 (k64 d.2.2.length)) none] :=
        .cons (.inl rfl) (.cons (.inl rfl) (.cons (.inl rfl) (.cons (.inr (.inr ⟨none, by show AV.own 1 0 d.2.2.length none 1 = .own 1 0 (k64 d.2.2.length).length none 1; rw [ek], rfl⟩)) .nil)))
      exact .inr ⟨_, key, Weak.fzSt (two_ok _ _) rfl fz, by show (AX.exit 0) ≠ .normal; intro h; cases h⟩
theorem Try.l4i (at' : Int) (b : List Int) (d x : DevD) : ∀ s e s', s.h.ok → (Try.L4i at' b d x s).run = some (e, s') → Triple Try.prog (.loop Try.b4i) s e s' := by
  refine atL_grd (fun hp => ?_)
  obtain ⟨hd, hx, h0, hN, heq⟩ := propB_eq hp
  refine loop_at Try.e4 (d := 3) (g := 4) (ls := lsumsOf []) (c := Try.b4i) trivial [1,2,3,8,90,91] [1,2,3,6] (T := Nat)
    (fun k => stOf 151 [1,2,3,8,90,91] (Try.V4i at' b d.1 k) (Try.H4i d x)) (fun k => (k : Int) ≤ d.1) (fun k => d.1.toNat - k) (fun _ => Try.o4i at' b d) _ _ 0 h0 (Weak.refl (two_ok _ _)) ?_ (fun k _ => two_ok _ _) ?_
  · intro e s' h
    exact Option.some.inj h
  · intro k h2
    replace h2 : (k : Int) ≤ d.1 := h2
    have key := Try.r4i at' b d.1 d x k
    rw [SW_list_con, SW_list_con, hd, hx] at key
    by_cases hk : (k : Int) < d.1
    · obtain ⟨a1, a2, a3⟩ := heq k hk
      rw [decide_eq_true hk, show (d.1, d.2.1, d.2.2) = d from rfl, show (x.1, x.2.1, x.2.2) = x from rfl, a1, a2, a3, wrapT k (by omega)] at key
      exact .inl ⟨k + 1, _, key, Weak.refl (two_ok _ _), by omega, by omega, rfl⟩
    · rw [decide_eq_false hk] at key
      exact .inr ⟨_, key, Weak.refl (oneH_ok _), by show (AX.exit 2) ≠ .normal; intro h; cases h⟩
theorem Try.r4 (at' : Int) (b : List Int) (N : Int) (B : List Int) (P : List SwD) : rootS Try.E4 3 4 (lsumsOf [(7, Try.L4 at' b (N, B, P)), (16, Try.L4i at' b (N, B, P) (flushD (N, B, SW.list (SW.con P))).1)]) [devA N B P, .val (.int .i64 at'), .ro (.ints .u8 b) none] =
      bif okSW (SW.con P) then
       bif smallB N B (SW.list (SW.con P)) then
        bif okSW (SW.con P) then
         bif isDevB N B (SW.list (SW.con P)) then
          bif decide ((↑b.length : Int) > 1000) then
           some (.val (.bool true), ⟨0, []⟩)
          else
           bif isSt (Try.s4 at' b (N, B, P)) (Try.s4 at' b (N, B, P)) then
            bif (N, B, P).snd.snd.length.ble 1000000 then
             bif okSW (SW.con (N, B, P).snd.snd) then
              bif okSW (SW.con (N, B, P).snd.snd) && (k64 (N, B, P).snd.snd.length).length.ble 9223372036854775807 then
               bif okSW (SW.con (flushD ((N, B, P).fst, (N, B, P).snd.fst, SW.list (SW.con (N, B, P).snd.snd))).fst.snd.snd) && true then
                bif (flushD ((N, B, P).fst, (N, B, P).snd.fst, SW.list (SW.con (N, B, P).snd.snd))).snd != 0 then
                 some (.val (.bool false), ⟨0, []⟩)
                else
                 bif (failD ((N, B, P).fst, (N, B, P).snd.fst, SW.list (SW.con (N, B, P).snd.snd)) (k64 (N, B, P).snd.snd.length)).snd != 0 then
                  some (.val (.bool false), ⟨0, []⟩)
                 else
                  bif (failD ((flushD ((N, B, P).fst, (N, B, P).snd.fst, SW.list (SW.con (N, B, P).snd.snd))).fst.fst, (flushD ((N, B, P).fst, (N, B, P).snd.fst, SW.list (SW.con (N, B, P).snd.snd))).fst.snd.fst, SW.list (SW.con (flushD ((N, B, P).fst, (N, B, P).snd.fst, SW.list (SW.con (N, B, P).snd.snd))).fst.snd.snd)) []).snd != 0 then
                   some (.val (.bool false), ⟨0, []⟩)
                  else
                   bif okSW (SW.con (flushD ((N, B, P).fst, (N, B, P).snd.fst, SW.list (SW.con (N, B, P).snd.snd))).fst.snd.snd) && okSW (SW.con (failD ((N, B, P).fst, (N, B, P).snd.fst, SW.list (SW.con (N, B, P).snd.snd)) (k64 (N, B, P).snd.snd.length)).fst.snd.snd) then
                    bif sameD ((flushD ((N, B, P).fst, (N, B, P).snd.fst, SW.list (SW.con (N, B, P).snd.snd))).fst.fst, (flushD ((N, B, P).fst, (N, B, P).snd.fst, SW.list (SW.con (N, B, P).snd.snd))).fst.snd.fst, SW.list (SW.con (flushD ((N, B, P).fst, (N, B, P).snd.fst, SW.list (SW.con (N, B, P).snd.snd))).fst.snd.snd)) ((failD ((N, B, P).fst, (N, B, P).snd.fst, SW.list (SW.con (N, B, P).snd.snd)) (k64 (N, B, P).snd.snd.length)).fst.fst, (failD ((N, B, P).fst, (N, B, P).snd.fst, SW.list (SW.con (N, B, P).snd.snd)) (k64 (N, B, P).snd.snd.length)).fst.snd.fst, SW.list (SW.con (failD ((N, B, P).fst, (N, B, P).snd.fst, SW.list (SW.con (N, B, P).snd.snd)) (k64 (N, B, P).snd.snd.length)).fst.snd.snd)) then
                     bif okSW (SW.con (flushD ((N, B, P).fst, (N, B, P).snd.fst, SW.list (SW.con (N, B, P).snd.snd))).fst.snd.snd) && okSW (SW.con (failD ((flushD ((N, B, P).fst, (N, B, P).snd.fst, SW.list (SW.con (N, B, P).snd.snd))).fst.fst, (flushD ((N, B, P).fst, (N, B, P).snd.fst, SW.list (SW.con (N, B, P).snd.snd))).fst.snd.fst, SW.list (SW.con (flushD ((N, B, P).fst, (N, B, P).snd.fst, SW.list (SW.con (N, B, P).snd.snd))).fst.snd.snd)) []).fst.snd.snd) then
                      bif sameD ((flushD ((N, B, P).fst, (N, B, P).snd.fst, SW.list (SW.con (N, B, P).snd.snd))).fst.fst, (flushD ((N, B, P).fst, (N, B, P).snd.fst, SW.list (SW.con (N, B, P).snd.snd))).fst.snd.fst, SW.list (SW.con (flushD ((N, B, P).fst, (N, B, P).snd.fst, SW.list (SW.con (N, B, P).snd.snd))).fst.snd.snd)) ((failD ((flushD ((N, B, P).fst, (N, B, P).snd.fst, SW.list (SW.con (N, B, P).snd.snd))).fst.fst, (flushD ((N, B, P).fst, (N, B, P).snd.fst, SW.list (SW.con (N, B, P).snd.snd))).fst.snd.fst, SW.list (SW.con (flushD ((N, B, P).fst, (N, B, P).snd.fst, SW.list (SW.con (N, B, P).snd.snd))).fst.snd.snd)) []).fst.fst, (failD ((flushD ((N, B, P).fst, (N, B, P).snd.fst, SW.list (SW.con (N, B, P).snd.snd))).fst.fst, (flushD ((N, B, P).fst, (N, B, P).snd.fst, SW.list (SW.con (N, B, P).snd.snd))).fst.snd.fst, SW.list (SW.con (flushD ((N, B, P).fst, (N, B, P).snd.fst, SW.list (SW.con (N, B, P).snd.snd))).fst.snd.snd)) []).fst.snd.fst, SW.list (SW.con (failD ((flushD ((N, B, P).fst, (N, B, P).snd.fst, SW.list (SW.con (N, B, P).snd.snd))).fst.fst, (flushD ((N, B, P).fst, (N, B, P).snd.fst, SW.list (SW.con (N, B, P).snd.snd))).fst.snd.fst, SW.list (SW.con (flushD ((N, B, P).fst, (N, B, P).snd.fst, SW.list (SW.con (N, B, P).snd.snd))).fst.snd.snd)) []).fst.snd.snd)) then
                       bif decide ((↑(flushD ((N, B, P).fst, (N, B, P).snd.fst, SW.list (SW.con (N, B, P).snd.snd))).fst.snd.snd.length : Int) > 0) then
                        some (.val (.bool false), ⟨0, []⟩)
                       else
                        bif isSt (Try.s4i at' b (N, B, P) (flushD (N, B, SW.list (SW.con P))).fst) (Try.s4i at' b (N, B, P) (flushD (N, B, SW.list (SW.con P))).fst) then
                         bif propB (seqAll (N, B, P) (flushD (N, B, SW.list (SW.con P))).fst) then
                          bif okSW (SW.con (N, B, P).snd.snd) && b.length.ble 1000000 then
                           bif (writeD ((N, B, P).fst, (N, B, P).snd.fst, SW.list (SW.con (N, B, P).snd.snd)) at' b).snd != 0 then
                            some (.val (.bool true), ⟨0, []⟩)
                           else
                            bif okSW (SW.con (writeD ((N, B, P).fst, (N, B, P).snd.fst, SW.list (SW.con (N, B, P).snd.snd)) at' b).fst.snd.snd) then
                             bif (sectD ((writeD ((N, B, P).fst, (N, B, P).snd.fst, SW.list (SW.con (N, B, P).snd.snd)) at' b).fst.fst, (writeD ((N, B, P).fst, (N, B, P).snd.fst, SW.list (SW.con (N, B, P).snd.snd)) at' b).fst.snd.fst, SW.list (SW.con (writeD ((N, B, P).fst, (N, B, P).snd.fst, SW.list (SW.con (N, B, P).snd.snd)) at' b).fst.snd.snd)) at').snd == 0 then
                              bif eqS (sectD ((writeD ((N, B, P).fst, (N, B, P).snd.fst, SW.list (SW.con (N, B, P).snd.snd)) at' b).fst.fst, (writeD ((N, B, P).fst, (N, B, P).snd.fst, SW.list (SW.con (N, B, P).snd.snd)) at' b).fst.snd.fst, SW.list (SW.con (writeD ((N, B, P).fst, (N, B, P).snd.fst, SW.list (SW.con (N, B, P).snd.snd)) at' b).fst.snd.snd)) at').fst b then
                               bif (↑(writeD ((N, B, P).fst, (N, B, P).snd.fst, SW.list (SW.con (N, B, P).snd.snd)) at' b).fst.snd.snd.length : Int) == IntKind.i64.wrap ((↑(N, B, P).snd.snd.length : Int) + 1) then
                                some (.val (.bool true), ⟨0, []⟩)
                               else
                                some (.val (.bool false), ⟨0, []⟩)
                              else
                               some (.val (.bool false), ⟨0, []⟩)
                             else
                              some (.val (.bool false), ⟨0, []⟩)
                            else
                             none
                          else
                           none
                         else
                          none
                        else
                         none
                      else
                       some (.val (.bool false), ⟨0, []⟩)
                     else
                      none
                    else
                     some (.val (.bool false), ⟨0, []⟩)
                   else
                    none
               else
                none
              else
               none
             else
              none
            else
             none
           else
            none
         else
          some (.val (.bool true), ⟨0, []⟩)
        else
         none
       else
        some (.val (.bool true), ⟨0, []⟩)
      else
       none := by kernel_rfl
end Go.Ev

/- JournalPlatters: the plain law. -/
set_option linter.unusedVariables false
set_option linter.unusedSimpArgs false
set_option maxRecDepth 100000
namespace Go.Ev
open Go.Proofs
theorem putAt_get {B : List Int} {off : Nat} {src : List Int} (h : off + src.length ≤ B.length) (j : Nat) : (putAt B off src)[j]? = if j < off then B[j]? else if j < off + src.length then src[j - off]? else B[j]? := by
  unfold putAt
  rw [List.getElem?_append, List.getElem?_take, List.length_take, List.getElem?_append, List.getElem?_drop, Nat.min_eq_left (by omega)]
  by_cases h1 : j < off
  · rw [if_pos h1, if_pos h1, if_pos h1]
  · rw [if_neg h1, if_neg h1]
    by_cases h2 : j < off + src.length
    · rw [if_pos h2, if_pos (by omega)]
    · rw [if_neg h2, if_neg (by omega), show off + src.length + (j - off - src.length) = j by omega]
def sect (B : List Int) (t : Nat) : List Int := (B.drop (t * 64)).take 64
theorem sect_put {B : List Int} {a t : Nat} {src : List Int} (hs : src.length = 64) (h : a * 64 + 64 ≤ B.length) : sect (putAt B (a * 64) src) t = bif a == t then src else sect B t := by
  apply List.ext_getElem?
  intro j
  unfold sect
  rw [List.getElem?_take, List.getElem?_drop, putAt_get (by omega)]
  by_cases h1 : a = t
  · subst h1
    rw [beq_self_eq_true, cond_true]
    by_cases h2 : j < 64
    · rw [if_pos h2, if_neg (by omega), if_pos (by omega), show a * 64 + j - a * 64 = j by omega]
    · rw [if_neg h2, List.getElem?_eq_none (by omega)]
  · rw [show (a == t) = false by simpa using h1, cond_false, List.getElem?_take, List.getElem?_drop]
    by_cases h2 : j < 64
    · rw [if_pos h2, if_pos h2]
      by_cases h3 : t < a
      · rw [if_pos (by omega)]
      · rw [if_neg (by omega), if_neg (by omega)]
    · rw [if_neg h2, if_neg h2]
theorem settle_sect {N : Int} {B : List Int} {P : List SwD} (h : DevFacts N B P) (t : Nat) : ∀ m, m ≤ P.length → sect (settleN (fun _ => 64) P B m) t = bif hasW P t m then getW P t m else sect B t
  | 0, _ => rfl
  | m + 1, hm => by
    have ih := settle_sect h t m (by omega)
    have e0 := h.at0 m hm
    have e1 := h.at1 m hm
    have e2 := h.wl m hm
    have e3 := h.len
    have e4 := settleN_len (many := fun _ => 64) h m (by omega)
    show sect (putAt (settleN (fun _ => 64) P B m) ((P.getD m SW.z).1.toNat * 64) ((P.getD m SW.z).2.take 64)) t = bif (bif (P.getD m SW.z).1 == (t : Int) then true else hasW P t m) then (bif (P.getD m SW.z).1 == (t : Int) then (P.getD m SW.z).2 else getW P t m) else sect B t
    rw [List.take_of_length_le (by omega), sect_put e2 (by omega), ih]
    by_cases hq : (P.getD m SW.z).1 = (t : Int)
    · rw [hq, beq_self_eq_true, Int.toNat_natCast, beq_self_eq_true]; rfl
    · rw [show ((P.getD m SW.z).1 == (t : Int)) = false by simpa using hq, show ((P.getD m SW.z).1.toNat == t) = false by
        rw [beq_eq_false_iff_ne]; omega]
      rfl
theorem isDevB_settled {N : Int} {B : List Int} {P : List SwD} (h : isDevB N B P = true) (many : Nat → Nat) : isDevB N (settleN many P B P.length) [] = true := by
  have hf := settleN_len (many := many) (dev_facts h) P.length (Nat.le_refl _)
  unfold isDevB at h ⊢
  simp only [Bool.and_eq_true] at h ⊢
  rw [hf]
  exact ⟨h.1, h.2.1, h.2.2.1, rfl, rfl⟩
theorem isDevB_write {N : Int} {B : List Int} {P : List SwD} (h : isDevB N B P = true) {at' : Int} {b : List Int} (h0 : 0 ≤ at') (h1 : at' < N) (h2 : b.length = 64) (h3 : P.length < 2000) : isDevB N B (P ++ [(at', b)]) = true := by
  unfold isDevB at h ⊢
  simp only [Bool.and_eq_true, decide_eq_true_eq] at h ⊢
  obtain ⟨k1, k2, k3, k4, k5⟩ := h
  refine ⟨k1, k2, k3, ?_, ?_⟩
  · rw [List.length_append]; simp only [List.length_cons, List.length_nil]; omega
  · rw [List.any_append, Bool.not_eq_true', Bool.or_eq_false_iff]
    refine ⟨by simpa using k5, ?_⟩
    simp [badB, h0, h1, h2]
theorem readD_nil (N : Int) (D : List Int) (t : Nat) : readD (N, D, []) t = sect D t := by
  show (bif false then _ else _) = _
  rw [cond_false]
  unfold sect
  show ((D.drop ((t : Int) * 64).toNat).take 64) = _
  rw [show ((t : Int) * 64).toNat = t * 64 by omega]
theorem readD_settled {N : Int} {B : List Int} {P : List SwD} (h : isDevB N B P = true) (t : Nat) : readD (N, settleN (fun _ => 64) P B P.length, []) t = readD (N, B, P) t := by
  rw [readD_nil, settle_sect (dev_facts h) t P.length (Nat.le_refl _)]
  unfold readD
  simp only
  rw [show ((t : Int) * 64).toNat = t * 64 by omega]
  rfl
theorem eqS_self (l : List Int) : eqS l l = true := by unfold eqS; simp
theorem law4_facts {N : Int} {B : List Int} {P : List SwD} (h : isDevB N B P = true) : flushD (N, B, P) = ((N, settleN (fun _ => 64) P B P.length, []), 0) ∧ failD (N, B, P) (k64 P.length) = ((N, settleN (fun _ => 64) P B P.length, []), 0) ∧
    failD (N, settleN (fun _ => 64) P B P.length, []) [] = ((N, settleN (fun _ => 64) P B P.length, []), 0) ∧ seqAll (N, B, P) (N, settleN (fun _ => 64) P B P.length, []) := by
  have hf := dev_facts h
  have hx := isDevB_settled h (fun _ => 64)
  have f1 := hf.few
  have f2 := hf.lo
  have f3 := hf.hi
  refine ⟨?_, ?_, ?_, ?_⟩
  · unfold flushD isDevD settled
    simp only
    rw [h, cond_true]
  · unfold failD isDevD settled
    simp only
    rw [h, cond_true, any64, show (k64 P.length).length = P.length from List.length_replicate, decide_eq_false (by omega), settleN_congr (f := manyK (k64 P.length)) (g := fun _ => 64) P.length (fun k hk => many64 hk)]
    rfl
  · unfold failD isDevD settled
    simp only
    rw [hx, cond_true]
    rfl
  · refine ⟨okSW_le (by show P.length ≤ _; omega), okSW_le (by simp), by show 0 ≤ N; omega, by show N ≤ _; omega, fun k hk => ?_⟩
    replace hk : (k : Int) < N := hk
    unfold sectD isDevD
    simp only
    rw [h, hx, decide_eq_true hk, decide_eq_true (show (0 : Int) ≤ k by omega), readD_settled h]
    exact ⟨rfl, rfl, eqS_self _⟩
theorem write_facts {N : Int} {B : List Int} {P : List SwD} (h : isDevB N B P = true) (at' : Int) (b : List Int) : ((writeD (N, B, P) at' b).2 != 0) = true ∨
    writeD (N, B, P) at' b = ((N, B, P ++ [(at', b)]), 0) ∧ sectD (N, B, P ++ [(at', b)]) at' = (b, 0) := by
  have hf := dev_facts h
  have f1 := hf.few
  unfold writeD isDevD
  simp only
  rw [h, cond_true]
  cases h1 : !(decide (at' ≥ 0) && decide (at' < N)) || ((b.length : Int) != 64) with
  | true => exact .inl rfl
  | false =>
    rw [cond_false]
    rw [Bool.or_eq_false_iff, Bool.not_eq_false', Bool.and_eq_true, decide_eq_true_eq, decide_eq_true_eq] at h1
    obtain ⟨⟨k1, k2⟩, k3⟩ := h1
    have k3 : b.length = 64 := by rw [bne, Bool.not_eq_false', beq_iff_eq] at k3; omega
    cases h2 : ((P.length : Int) == 2000) with
    | true => exact .inl rfl
    | false =>
      rw [beq_eq_false_iff_ne] at h2
      refine .inr ⟨rfl, ?_⟩
      have hw := isDevB_write h (b := b) k1 k2 k3 (by omega)
      unfold sectD isDevD
      simp only
      rw [hw, decide_eq_true (show 0 ≤ at' from k1), decide_eq_true k2]
      show (readD _ _, _) = _
      unfold readD
      simp only
      have e1 : (P ++ [(at', b)]).length = P.length + 1 := by simp
      have e2 : (P ++ [(at', b)]).getD P.length SW.z = (at', b) := by
        rw [List.getD_eq_getElem?_getD, List.getElem?_append_right (Nat.le_refl _)]; simp
      rw [e1]
      show (bif (bif ((P ++ [(at', b)]).getD P.length SW.z).1 == at' then true else _) then (bif ((P ++ [(at', b)]).getD P.length SW.z).1 == at' then ((P ++ [(at', b)]).getD P.length SW.z).2 else _) else _, _) = _
      rw [e2]
      simp only [beq_self_eq_true, cond_true]
theorem Try.law4 (at' : Int) (b : List Int) (N : Int) (B : List Int) (P : List SwD) (hP : P.length ≤ 9223372036854775807) : rootS Try.E4 3 4 (lsumsOf [(7, Try.L4 at' b (N, B, P)), (16, Try.L4i at' b (N, B, P) (flushD (N, B, SW.list (SW.con P))).1)]) [devA N B P, .val (.int .i64 at'), .ro (.ints .u8 b) none] = some (.val (.bool true), ⟨0, []⟩) := by
  rw [Try.r4]
  have o1 := okSW_le hP
  have o4 : okSW (SW.con ([] : List SwD)) = true := okSW_le (by simp)
  simp only [SW_list_con, o1, cond_true']
  cases smallB N B P with
  | false => rfl
  | true =>
  cases hd : isDevB N B P with
  | false => rfl
  | true =>
  cases h1 : decide ((b.length : Int) > 1000) with
  | true => rfl
  | false =>
  rw [decide_eq_false_iff_not] at h1
  obtain ⟨a1, a2, a3, a4⟩ := law4_facts hd
  have hf := dev_facts hd
  have f1 := hf.few
  simp only [a1, a2, a3, SW_list_con, isSt_refl, o4, cond_true', cond_false', propB_t a4, ble_t (show P.length ≤ 1000000 by omega), show (k64 P.length).length = P.length from List.length_replicate, ble_t (show P.length ≤ 9223372036854775807 by omega), ble_t (show b.length ≤ 1000000 by omega), Bool.and_self, bne_self_eq_false, sameD_refl, List.length_nil, show decide (((0 : Nat) : Int) > 0) = false from rfl]
  rcases write_facts hd at' b with hw | ⟨hw, hs⟩
  · simp only [hw, cond_true']
  · have o5 : okSW (SW.con (P ++ [(at', b)])) = true := okSW_le (by simp; omega)
    simp only [hw, bne_self_eq_false, cond_false', o5, cond_true', hs, beq_self_eq_true, eqS_self]
    rw [List.length_append, wrapT P.length (by omega)]
    simp
end Go.Ev

/- JournalPlatters, for every input: the law answers true, and its arguments read as they did. -/
set_option linter.unusedVariables false
set_option linter.unusedSimpArgs false
set_option maxRecDepth 100000
namespace Go.Ev
open Go.Proofs
theorem argsA_plat {H : Type} (d1 d2 d3 : DataW H) : argsA [devSh, .int .i64, bytesSh] [d1, d2, d3] = [devA (devN d1) (devB d1) (devP d1), .val (.int .i64 (intD d2)), .ro (.ints .u8 (bytesD d3)) none] := by
  rw [← argA_dev]
  rfl
theorem Try.alone4 (at' : Int) (b : List Int) (N : Int) (B : List Int) (P : List SwD) (hP : P.length ≤ 9223372036854775807) : Alone Try.prog 4 [devA N B P, .val (.int .i64 at'), .ro (.ints .u8 b) none] (.val (.bool true)) ⟨0, []⟩ :=
  rootS_alone Try.e4 (AllL.of2 (a := Try.b4) (b := Try.b4i) (by kernel_rfl) (LsOk.of rfl rfl (Try.l4 _ _ _)) (LsOk.of rfl rfl (Try.l4i _ _ _ _))) (Try.law4 at' b N B P hP)
end Go.Ev

namespace Go.Proofs.Ytninaidfifiliaa
open Go.Ev
theorem platters_contract (H : Type) (enc : TypeId × Value → H) (W : World) (base : Nat) (args : Array Value) (ds gs : List (DataW H)) (before : List MemPlace)
    (hval : ∀ (j : Nat) t v, Try.f4.params[j]? = some t → args[j]? = some v → Value.okWide Try.prog W .any base t v)
    (hW : DataW.Whole enc Try.prog Try.f4.params.toList Rows.journalPlattersSpec.vars false W args.toList ds gs before) :
    Calls Try.prog 4 args W fun e W' => ∃ v, e = .returned v ∧ Rows.journalPlattersSpec.post enc Try.prog Try.f4 false true false false W args v W' := by
  have hsh : shsOk Try.prog [devSh, .int .i64, bytesSh] Try.f4.params.toList = true := by kernel_rfl
  obtain ⟨p, q, hA, hV, _⟩ := id hW
  obtain ⟨hwf, hlen⟩ := args_wf hsh hA
  obtain rfl : gs = [] := by cases gs with | nil => rfl | cons => cases hV
  match ds, hlen with
  | [d1, d2, d3], _ =>
    simp only [wfDL, List.headD_cons, List.tail_cons] at hwf
    have law := Try.alone4 (intD d2) (bytesD d3) (devN d1) (devB d1) (devP d1) (dev_len hwf.1)
    rw [← argsA_plat] at law
    exact law_calls (b := 4) Try.kidsG Try.fullG (by kernel_rfl) rfl Try.underlying4 (by kernel_rfl) rfl hsh hval hW law

theorem platters_lifted (os : Os) (started : os.Started) (H : Type) (enc : TypeId × Value → H) :
    ReturnsInHanded {} Try.checked os 4 .any (Rows.journalPlattersSpec.pre6 enc Try.prog Try.f4 Rows.journalPlattersRow.domain false) (Rows.journalPlattersSpec.post enc Try.prog Try.f4 false true false false) := by
  refine returnsInHanded_of_change (C := Try.checked) Try.ownG started (by kernel_rfl) Try.func4
    (ChangeSpec.witness6 (enc := enc) (C := Try.checked) false ⟨#[], #[.agg #[.int .i64 0, .slice none 0 0, .slice none 0 0], .int .i64 0, .slice none 0 0], []⟩ 8 (by kernel_rfl) (by kernel_rfl) (by kernel_rfl) (by kernel_rfl)) ?_
  intro W base args ds gs before hval hW _ _
  exact platters_contract H enc W base args ds gs before hval hW

theorem journalPlatters : Rows.JournalPlattersSaid :=
  OpenClaim.holds_of_wide 4 Try.f4 rfl rfl rfl rfl rfl rfl rfl ⟨rfl, rfl, rfl, rfl, rfl⟩ rfl rfl rfl rfl rfl (by kernel_rfl) Try.func4 (by kernel_rfl)
    (of_decide_eq_true (by kernel_rfl)) (by unfold Func.isWrapper; first | (rw [if_pos (by decide +kernel)]; kernel_rfl) | (rw [if_neg (by decide +kernel)]; exact ⟨rfl, rfl⟩))
    (fun os started H enc _ => platters_lifted os started H enc)
end Go.Proofs.Ytninaidfifiliaa
