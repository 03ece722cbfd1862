/- The evaluator, its soundness and the walks: part 9. -/
import Derived.Laws.RangeAny
import Derived.Test.YtdogimleeplpkaaGreatC8
set_option linter.unusedSectionVars false
set_option linter.unusedSimpArgs false
set_option linter.unusedVariables false
set_option maxRecDepth 100000
set_option maxRecDepth 1000000
noncomputable section
/- Names of files, as the program checks them. -/
namespace Go.Ev
open Go.Proofs
def Tryz.EIf : Env := Tryz.env0 false (sumsOf []) (keepF 217 [(2, [1, 2, 10])])
def Tryz.bIf : Code := nthD .skip (loopsOf (bodyOf Tryz.EIf 217)) 0
def Tryz.BIf (s : St) : Option (AX × St) := codeS Tryz.EIf (callF Tryz.EIf 6) (Tryz.EIf.keep 217) (lsumsOf []) Tryz.bIf (outK [1, 2, 10] [6]) s
def Tryz.cloF : AV := .clo (.func 190) [] []
def Tryz.sIf (x : Nat × List Int) : St := stOf 21 [1, 2, 10] [Tryz.cloF, .val (.bool true), .ptr 0 0 0] ⟨1, [⟨0, 0, .iter x.1 x.2⟩]⟩
def okF (b : Int) : Bool := decide (33 ≤ b) && decide (b ≤ 126)
def fbF : List Int → Nat → Option Nat
  | [], _ => none
  | b :: l, i => bif okF b then fbF l (i + 1) else some i
theorem Tryz.rIf0 (n : Nat) : Tryz.BIf (Tryz.sIf (n, [])) =
 some (.exit 0, stOf 21 [] [] ⟨0, []⟩) := by kernel_rfl
theorem Tryz.rIf1 (n : Nat) (b : Int) (l : List Int) : Tryz.BIf (Tryz.sIf (n, b :: l)) =
 bif decide (0 ≤ b) && decide (b < 128) then
 bif decide (b < 33) then
 some (.ret, stOf 21 [6] [.val (.int .i64 (↑n : Int))] ⟨0, []⟩)
 else
 bif decide (b > 126) then
 some (.ret, stOf 21 [6] [.val (.int .i64 (↑n : Int))] ⟨0, []⟩)
 else
 some (.normal, stOf 21 [1, 2, 10] [.clo (Fn.func 190) [] [], .val (.bool true), .ptr 0 0 0] ⟨1, [⟨0, 0, .iter (n + 1) (l)⟩]⟩ )
 else
 bif decide ((↑(decL (b :: l)).fst : Int) < 33) then
 some (.ret, stOf 21 [6] [.val (.int .i64 (↑n : Int))] ⟨0, []⟩)
 else
 bif decide ((↑(decL (b :: l)).fst : Int) > 126) then
 some (.ret, stOf 21 [6] [.val (.int .i64 (↑n : Int))] ⟨0, []⟩)
 else
 some (.normal, stOf 21 [1, 2, 10] [.clo (Fn.func 190) [] [], .val (.bool true), .ptr 0 0 0] ⟨1, [⟨0, 0, .iter (n + (decL (b :: l)).snd) (List.drop (decL (b :: l)).snd (b :: l))⟩]⟩ ) := by kernel_rfl
theorem Tryz.eIf : EnvOk2 Tryz.prog Tryz.EIf := Tryz.envOk false (sumsOf []) _ (fun g A h => by cases h)
theorem byte_bounds (s : ByteArray) : ∀ b ∈ numsOf s, 0 ≤ b ∧ b < 256 := by
  intro b hb
  unfold numsOf at hb
  obtain ⟨x, _, rfl⟩ := List.mem_map.1 hb
  have := x.toNat_lt
  omega
theorem decL_high {b : Int} {l : List Int} (h1 : 128 ≤ b) (h2 : b < 256) : 128 ≤ (decL (b :: l)).1 := by
  have hs : 0 < (strOf (b :: l)).size := by simp [strOf, ByteArray.size]
  have hb : ((strOf (b :: l))[0]'hs).toNat = b.toNat := by
    show (UInt8.ofNat b.toNat).toNat = b.toNat
    rw [UInt8.toNat_ofNat']
    omega
  exact (decode_high (strOf (b :: l)) 0 hs (by rw [hb]; omega)).1
def xIf (n : Nat) : St := stOf 21 [6] [.val (.int .i64 n)] ⟨0, []⟩
def yIf (r : Option Nat) : AX × St := match r with
  | none => (.exit 0, stOf 21 [] [] ⟨0, []⟩)
  | some n => (.ret, xIf n)
def Tryz.LIf (l : List Int) : LSum := atL (Tryz.sIf (0, l)) (.br (fbF l 0).isSome (.out (yIf (some ((fbF l 0).getD 0)))) (.out (yIf none)))
theorem sIf_ok (x : Nat × List Int) : (Tryz.sIf x).h.ok := heap_ok [0] rfl (by decide) (by decide)
theorem yIf_ok (r : Option Nat) : (yIf r).2.h.ok := by cases r <;> exact heap0_ok
theorem Tryz.rIfs (n : Nat) (b : Int) (l : List Int) (h0 : 0 ≤ b) (h1 : b < 256) : Tryz.BIf (Tryz.sIf (n, b :: l)) = bif okF b then some (.normal, Tryz.sIf (n + 1, l)) else some (.ret, xIf n) := by
  rw [Tryz.rIf1]
  unfold okF
  by_cases c1 : b < 128
  · rw [decide_eq_true h0, decide_eq_true c1, Bool.and_self, cond_true]
    by_cases c2 : b < 33
    · rw [decide_eq_true c2, decide_eq_false (show ¬ 33 ≤ b by omega)]; rfl
    · by_cases c3 : b > 126
      · rw [decide_eq_false c2, decide_eq_true c3, decide_eq_true (show 33 ≤ b by omega), decide_eq_false (show ¬ b ≤ 126 by omega)]; rfl
      · rw [decide_eq_false c2, decide_eq_false c3, decide_eq_true (show 33 ≤ b by omega), decide_eq_true (show b ≤ 126 by omega)]; rfl
  · have hd := decL_high (l := l) (show 128 ≤ b by omega) h1
    rw [decide_eq_false c1, Bool.and_false, cond_false, decide_eq_false (show ¬ ((decL (b :: l)).1 : Int) < 33 by omega), decide_eq_true (show ((decL (b :: l)).1 : Int) > 126 by omega), decide_eq_true (show 33 ≤ b by omega), decide_eq_false (show ¬ b ≤ 126 by omega)]; rfl
theorem Tryz.lIf (l : List Int) (hl : ∀ b ∈ l, 0 ≤ b ∧ b < 256) : ∀ s e s', s.h.ok → (Tryz.LIf l s).run = some (e, s') → Triple Tryz.prog (.loop Tryz.bIf) s e s' := by
  refine loop_at Tryz.eIf (d := 6) (g := 217) (ls := lsumsOf []) (c := Tryz.bIf) trivial [1, 2, 10] [6] (T := Nat × List Int) Tryz.sIf (fun x => ∀ b ∈ x.2, 0 ≤ b ∧ b < 256) (fun x => x.2.length) (fun x => yIf (fbF x.2 x.1)) _ _ (0, l) hl (Weak.refl (sIf_ok _)) ?_ (fun _ _ => sIf_ok _) ?_
  · intro e s' h
    rw [Ans.run_br] at h
    cases hq : fbF l 0 with
    | none => rw [hq] at h; injection h
    | some x => rw [hq] at h; injection h
  · rintro ⟨n, l⟩ hx
    cases l with
    | nil => exact .inr ⟨_, Tryz.rIf0 n, Weak.refl (yIf_ok none), by simp [yIf, fbF]⟩
    | cons b l =>
      obtain ⟨h0, h1⟩ := hx b (by simp)
      have key := Tryz.rIfs n b l h0 h1
      cases hb : okF b with
      | true =>
        rw [hb, cond_true] at key
        exact .inl ⟨(n + 1, l), _, key, Weak.refl (sIf_ok _), fun b hb => hx b (by simp [hb]), by simp, by simp only [fbF, hb, cond_true]⟩
      | false =>
        rw [hb, cond_false] at key
        refine .inr ?_
        simp only [fbF, hb, cond_false]
        exact ⟨_, key, Weak.refl (yIf_ok (some n)), by simp [yIf]⟩
theorem Tryz.wIf (s : ByteArray) : rootS Tryz.EIf 6 217 (lsumsOf [(2, Tryz.LIf (numsOf s))]) [.val (.string s), Tryz.cloF, .val (.bool true)] =
 bif isSt (Tryz.sIf (0, numsOf s)) (Tryz.sIf (0, numsOf s)) then
 bif (fbF (numsOf s) 0).isSome then
 some (.val (.int .i64 ((↑((fbF (numsOf s) 0).getD 0) : Int))), ⟨0, []⟩)
 else
 some (.val (.int .i64 (-1)), ⟨0, []⟩)
 else
 none := by kernel_rfl
def outIf (r : Option Nat) : Ans (AV × Heap) := .br r.isSome (.out (.val (.int .i64 (Int.ofNat (r.getD 0))), ⟨0, []⟩)) (.out (.val (.int .i64 (-1)), ⟨0, []⟩))
def ifS (args : List AV) : Ans (AV × Heap) := match args with
  | [.val (.string s), .clo (.func 190) [] [], .val (.bool true)] => outIf (fbF (numsOf s) 0)
  | _ => .no
theorem Tryz.sumIf : SumC Tryz.prog 217 (pureA ifS) := by
  refine pureSumR 217 ⟨Tryz.f217, _, Tryz.fnOk217.1, Tryz.fnOk217.2, rfl⟩ ?_
  intro args v h2 hs
  unfold ifS at hs
  split at hs
  · rename_i s
    refine rootS_alone Tryz.eIf (d := 6) (g := 217) (ls := lsumsOf [(2, Tryz.LIf (numsOf s))]) (AllL.of1 (a := Tryz.bIf) (by kernel_rfl) (LsOk.of rfl rfl (Tryz.lIf _ (byte_bounds s)))) ((Tryz.wIf s).trans ?_)
    rw [isSt_refl, cond_true]
    exact hs
  · cases hs
def Tryz.tFo2 : List (Nat × AFun) := [(217, pureA ifS)]
def Tryz.EFo2 : Env := Tryz.env0 false (sumsOf Tryz.tFo2) (keepF 0 [])
theorem Tryz.wFo2 (s : ByteArray) : rootS Tryz.EFo2 6 160 (lsumsOf []) [.val (.string s)] =
 bif decide ((↑s.size : Int) ≥ 1) then
 bif decide ((↑s.size : Int) ≤ 100) then
 bif (fbF (numsOf s) 0).isSome then
 some (.val (.bool false), ⟨0, []⟩)
 else
 some (.val (.bool true), ⟨0, []⟩)
 else
 some (.val (.bool false), ⟨0, []⟩)
 else
 some (.val (.bool false), ⟨0, []⟩) := by kernel_rfl
theorem allOk_all {α : Type} (l : List α) (p : α → Bool) (d : α) : allOk l.length (fun k => p (l.getD k d)) = l.all p := by
  rw [Bool.eq_iff_iff, allOk_iff, List.all_eq_true]
  constructor
  · intro h x hx
    obtain ⟨i, hi, rfl⟩ := List.getElem_of_mem hx
    have := h i hi
    rwa [List.getD_eq_getElem?_getD, List.getElem?_eq_getElem hi] at this
  · intro h i hi
    exact h _ (getD_mem hi)
theorem fbF_some : ∀ (l : List Int) (i : Nat), (fbF l i).isSome = !(l.all okF)
  | [], _ => rfl
  | b :: l, i => by
    unfold fbF
    rw [List.all_cons]
    cases okF b with
    | true => rw [cond_true, Bool.true_and]; exact fbF_some l (i + 1)
    | false => rfl
theorem fbF_file (s : ByteArray) : (fbF (numsOf s) 0).isSome = !(allOk s.size (flOk s)) := by
  rw [fbF_some, ← allOk_all (numsOf s) okF 0, numsOf_len]; rfl
theorem Tryz.eFo2 : EnvOk2 Tryz.prog Tryz.EFo2 := Tryz.envOk false (sumsOf Tryz.tFo2) _ (sumsOf_ok (show AllS Tryz.prog Tryz.tFo2 from ⟨Tryz.sumIf, trivial⟩))
theorem Tryz.sumFo2 : SumC Tryz.prog 160 (pureA fileS) := by
  refine pureSumR 160 ⟨Tryz.f160, _, Tryz.fnOk160.1, Tryz.fnOk160.2, rfl⟩ ?_
  intro args v h2 hs
  unfold fileS at hs
  split at hs
  · rename_i s
    rw [Ans.run_grd] at hs
    cases hb : Nat.ble s.size 140737488355328 with
    | false => rw [hb] at hs; cases hs
    | true =>
    rw [hb, cond_true] at hs
    injection hs with hs
    injection hs with q1 q2
    subst q1; subst q2
    refine rootS_alone Tryz.eFo2 (d := 6) (g := 160) (ls := lsumsOf []) (AllL.noL _) ((Tryz.wFo2 s).trans ?_)
    unfold fileB
    rw [fbF_file]
    by_cases h1 : 1 ≤ s.size
    · by_cases h2 : s.size ≤ 100
      · rw [decide_eq_true (show (s.size : Int) ≥ 1 by omega), decide_eq_true (show (s.size : Int) ≤ 100 by omega), decide_eq_true h1, decide_eq_true h2]
        cases allOk s.size (flOk s) <;> rfl
      · rw [decide_eq_true (show (s.size : Int) ≥ 1 by omega), decide_eq_false (show ¬ (s.size : Int) ≤ 100 by omega), decide_eq_true h1, decide_eq_false h2]; rfl
    · rw [decide_eq_false (show ¬ (s.size : Int) ≥ 1 by omega), decide_eq_false h1]; rfl
  · cases hs
end Go.Ev
/- Nil slices in a block's cells, told as own blocks without cells. -/
namespace Go.Ev
def NilV (n wd : Nat) (v v' : AV) : Prop := v' = v ∨ (v = .val (.slice none 0 0) ∧ v' = .own n 0 0 none wd)
inductive NilL (n wd : Nat) : List AV → List AV → Prop
  | nil : NilL n wd [] []
  | cons {v v' : AV} {l l' : List AV} : NilV n wd v v' → NilL n wd l l' → NilL n wd (v :: l) (v' :: l')
theorem NilL.get {n wd : Nat} : ∀ {l l' : List AV}, NilL n wd l l' → ∀ (j : Nat) (v' : AV), l'[j]? = some v' → ∃ v, l[j]? = some v ∧ NilV n wd v v'
  | _, _, .nil, j, v', h => by simp at h
  | _, _, .cons h1 h2, 0, v', h => by simp at h; subst h; exact ⟨_, rfl, h1⟩
  | _, _, .cons h1 h2, j + 1, v', h => by obtain ⟨v, e, q⟩ := NilL.get h2 j v' (by simpa using h); exact ⟨v, by simpa using e, q⟩
theorem WeakP.nilCell {p : Nat} {t : List AV} {d : List Nat} {n : Nat} (es1 es2 : List Ent) {i0 v0 w : Nat} {r r' : List AV} {con : Con} (hk : (⟨n, es1 ++ ⟨i0, v0, .cells (.rows false w [r])⟩ :: es2⟩ : Heap).ok) (h0 : con.len = 0) (hr' : NilL n con.wd r r') :
    WeakP p ⟨t, d, ⟨n, es1 ++ ⟨i0, v0, .cells (.rows false w [r])⟩ :: es2⟩⟩ ⟨t, d, ⟨n + 1, ⟨n, 0, .cells con⟩ :: (es1 ++ ⟨i0, v0, .cells (.rows false w [r'])⟩ :: es2)⟩⟩ := by
  have hfind : ∀ j, findE (es1 ++ ⟨i0, v0, .cells (.rows false w [r'])⟩ :: es2) j = (findE (es1 ++ ⟨i0, v0, .cells (.rows false w [r])⟩ :: es2) j) ∨
      (∃ e, findE (es1 ++ ⟨i0, v0, .cells (.rows false w [r])⟩ :: es2) j = some e ∧ e.blk = .cells (.rows false w [r]) ∧ findE (es1 ++ ⟨i0, v0, .cells (.rows false w [r'])⟩ :: es2) j = some ⟨i0, v0, .cells (.rows false w [r'])⟩) := by
    intro j
    simp only [findE_append, findE_cons]
    cases findE es1 j with
    | some e => exact .inl rfl
    | none =>
      by_cases q : i0 = j
      · rw [if_pos q, if_pos q]
        exact .inr ⟨_, rfl, rfl, rfl⟩
      · rw [if_neg q, if_neg q]
        exact .inl rfl
  have hsome : ∀ j e', findE (es1 ++ ⟨i0, v0, .cells (.rows false w [r'])⟩ :: es2) j = some e' → j < n := by
    intro j e' h
    rcases hfind j with q | ⟨e, q, _, _⟩
    · rw [q] at h; exact hk.lt j e' h
    · exact hk.lt j e q
  have hok : (⟨n + 1, ⟨n, 0, .cells con⟩ :: (es1 ++ ⟨i0, v0, .cells (.rows false w [r'])⟩ :: es2)⟩ : Heap).ok := by
    refine ⟨?_, fun j e h => ?_⟩
    · have hu := hk.uniq
      unfold Uniq at *
      rw [List.map_cons, List.nodup_cons]
      have e1 : (es1 ++ ⟨i0, v0, .cells (.rows false w [r'])⟩ :: es2).map (·.id) = (es1 ++ ⟨i0, v0, .cells (.rows false w [r])⟩ :: es2).map (·.id) := by simp
      rw [e1]
      refine ⟨fun hm => ?_, hu⟩
      obtain ⟨x, hx, hxn⟩ := List.mem_map.1 hm
      have := hk.lt x.id x (findE_mem hk.uniq hx)
      simp only at hxn this
      omega
    · rw [findE_cons] at h
      split at h
      · rename_i q
        have q' : n = j := q
        show j < n + 1; omega
      · have := hsome j e h
        show j < n + 1; omega
  refine ⟨hok, fun w0 c a hr hv => ?_⟩
  have hv : ∀ id, c.V id → id < n := hv
  have hnv : ¬ c.V n := fun q => Nat.lt_irrefl _ (hv _ q)
  have hne : ∀ i, c.V i → i ≠ n := fun i hi e => hnv (e ▸ hi)
  let c2 : Cx := ⟨c.M, c.O, fun j => if j = n then ⟨false, 0, 0, con.wd, 0⟩ else c.ι j, fun j => c.V j ∨ j = n⟩
  have hx : Ext w0 c w0 c2 := ⟨⟨fun _ q => q, fun _ _ _ => rfl, fun i hi => ⟨.inl hi, if_neg (hne i hi)⟩⟩, rfl, rfl, rfl, Nat.le_refl _, fun _ _ _ => rfl, fun _ _ q => q, fun _ _ q => q, fun _ q q' => absurd q q'⟩
  have hι : c2.ι n = ⟨false, 0, 0, con.wd, 0⟩ := if_pos rfl
  have hG : ∀ i b, (⟨n + 1, ⟨n, 0, .cells con⟩ :: (es1 ++ ⟨i0, v0, .cells (.rows false w [r'])⟩ :: es2)⟩ : Heap).G i = some b → (i = n ∧ b = .cells con) ∨ (i ≠ n ∧ ((⟨n, es1 ++ ⟨i0, v0, .cells (.rows false w [r])⟩ :: es2⟩ : Heap).G i = some b ∨
      ((⟨n, es1 ++ ⟨i0, v0, .cells (.rows false w [r])⟩ :: es2⟩ : Heap).G i = some (.cells (.rows false w [r])) ∧ b = .cells (.rows false w [r'])))) := by
    intro i b hb
    simp only [Heap.G] at hb ⊢
    rw [findE_cons] at hb
    split at hb
    · rename_i q
      simp only [Option.map_some, Option.some.injEq] at hb
      exact .inl ⟨q.symm, hb.symm⟩
    · rename_i q
      refine .inr ⟨fun e => q e.symm, ?_⟩
      rcases hfind i with z | ⟨e, z1, z2, z3⟩
      · rw [z] at hb; exact .inl hb
      · rw [z3] at hb
        simp only [Option.map_some, Option.some.injEq] at hb
        exact .inr ⟨by rw [z1]; simp [z2], hb.symm⟩
  have old : ∀ i b, i ≠ n → (⟨n + 1, ⟨n, 0, .cells con⟩ :: (es1 ++ ⟨i0, v0, .cells (.rows false w [r'])⟩ :: es2)⟩ : Heap).G i = some b → ∃ b0, (⟨n, es1 ++ ⟨i0, v0, .cells (.rows false w [r])⟩ :: es2⟩ : Heap).G i = some b0 := by
    intro i b hi hb
    rcases hG i b hb with ⟨q, _⟩ | ⟨_, q | ⟨q, _⟩⟩
    · exact absurd q hi
    · exact ⟨_, q⟩
    · exact ⟨_, q⟩
  refine ⟨c2, ⟨VRs.mono hx.toExt0 hr.t, ?_, ?_, fun id hid => .inl (hr.dv id hid)⟩, hx.w, ?_, fun i _ hi => ⟨.inl hi, if_neg (hne i hi)⟩⟩
  · refine ⟨?_, ?_, ?_, hr.h.dis⟩
    · intro i b hb
      by_cases q : i = n
      · exact .inr q
      · obtain ⟨b0, hb0⟩ := old i b q hb
        exact .inl (hr.h.valid i b0 hb0)
    · intro i b hb
      rcases hG i b hb with ⟨rfl, rfl⟩ | ⟨q, hb1 | ⟨hb1, rfl⟩⟩
      · rw [hι]
        exact ⟨rfl, fun _ => h0, fun q => (by cases q), fun q => (by cases q)⟩
      · rw [show c2.ι i = c.ι i from if_neg q]
        exact BlkRel.keep hx.toExt0 (hr.h.blk i b hb1) (fun _ => rfl) (fun hl => (hr.h.blk i b hb1).owned hl)
      · rw [show c2.ι i = c.ι i from if_neg q]
        have hb0 : CellsRel w0 c (c.ι i) (.rows false w [r]) := hr.h.blk i _ hb1
        refine ⟨hb0.wd, hb0.dead, hb0.own, fun l => ?_⟩
        obtain ⟨arr, te, fz, a1, a2, a3, a4, a5, a6⟩ := hb0.arr l
        refine ⟨arr, te, fz, a1, a2, a3, a4, a5, ?_⟩
        intro k j v' u hk2 hj hv' hu
        have hk0 : k = 0 := by have : k < 1 := hk2; omega
        subst hk0
        have hv2 : r'[j]? = some v' := hv'
        obtain ⟨v, e1, e2⟩ := hr'.get j v' hv2
        have hold := a6 0 j v u hk2 hj e1 hu
        rcases e2 with rfl | ⟨rfl, rfl⟩
        · exact VR.mono hx.toExt0 hold
        · have hu0 := hold.val_inv
          subst hu0
          exact .own _ _ _ _ _ none 0 (.inr rfl) (by show (c2.ι n).wd = con.wd; rw [hι]) (Nat.le_refl _) (fun _ q => by cases q) (.inl rfl)
    · intro i j b b' hi hj li lj hbk
      have qi : i ≠ n := fun q => by rw [q, hι] at li; cases li
      have qj : j ≠ n := fun q => by rw [q, hι] at lj; cases lj
      obtain ⟨b1, h1⟩ := old i b qi hi
      obtain ⟨b2, h2⟩ := old j b' qj hj
      rw [show c2.ι i = c.ι i from if_neg qi] at li hbk
      rw [show c2.ι j = c.ι j from if_neg qj] at lj hbk
      exact hr.h.inj i j b1 b2 h1 h2 li lj hbk
  · show a.defers = marks c2 d
    rw [hr.d, marks_ids hx.ids hr.dv]
  · rintro id (q | q)
    · exact Nat.lt_succ_of_lt (hv id q)
    · rw [q]; exact Nat.lt_succ_self _
end Go.Ev
/- Frozen blocks, and loops from one state, the caller's blocks being about. -/
namespace Go.Ev
end Go.Ev
/- Blocks of which less is said: fewer rows. Effects whose answers say less. -/
namespace Go.Ev
theorem Weak.ofP {p : Nat} {s s' : St} (h : WeakP p s s') : Weak s s' := ⟨h.1, fun w c a hr hv => by
  obtain ⟨c', r, x, v, _⟩ := h.2 w c a hr hv
  exact ⟨c', r, ⟨x.M, x.mkeep, x.os, x.tape, x.output, x.size, x.keep, x.own, x.Mo, x.nd⟩, v⟩⟩
end Go.Ev
/- Blocks to which pointers lead are frozen; maps told otherwise. -/
namespace Go.Ev
theorem Weak.mapW {t : List AV} {d : List Nat} {h h' : Heap} (hk : h.ok) (hok : h'.ok) (hnx : h.next ≤ h'.next)
    (hG : ∀ j b', h'.G j = some b' → ∃ b, h.G j = some b ∧ ∀ w c rb, BlkRel w c rb b → BlkRel w c rb b') : Weak ⟨t, d, h⟩ ⟨t, d, h'⟩ := by
  refine ⟨hok, fun w c a hr hv => ⟨c, ⟨hr.t, ?_, hr.d, hr.dv⟩, (Ext.refl w c).w, fun i hi => Nat.lt_of_lt_of_le (hv i hi) hnx⟩⟩
  refine ⟨fun j b' hj => ?_, ?_, ?_, hr.h.dis⟩
  · obtain ⟨b, hb, _⟩ := hG j b' hj; exact hr.h.valid j b hb
  · intro j b' hj
    obtain ⟨b, hb, hf⟩ := hG j b' hj
    exact hf w c _ (hr.h.blk j b hb)
  · intro i j b b' hi hj li lj hbk
    obtain ⟨bi, qi, _⟩ := hG i b hi
    obtain ⟨bj, qj, _⟩ := hG j b' hj
    exact hr.h.inj i j bi bj qi qj li lj hbk
theorem MapRel.w0 {w : World} {c : Cx} {rb : RB} {p : Bool} {m m' : MC} (h : BlkRel w c rb (.map p m)) (hl : m'.len = m.len) (hc : m'.clock = m.clock)
    (he : ∀ i, i < m.len → (m'.ent i).key = (m.ent i).key ∧ (m'.ent i).born = (m.ent i).born ∧ AW (m.ent i).val (m'.ent i).val) : BlkRel w c rb (.map p m') := by
  have h : MapRel w c rb p m := h
  obtain ⟨es, a1, a2, a3⟩ := h.obj
  refine ⟨h.live, h.own, es, by rw [hc]; exact a1, by rw [hl]; exact a2, fun i hi => ?_⟩
  rw [hl] at hi
  obtain ⟨e, b1, b2, b3, b4⟩ := a3 i hi
  obtain ⟨k1, k2, k3⟩ := he i hi
  exact ⟨e, b1, b2.trans k1.symm, b3.trans k2.symm, k3 _ _ _ b4⟩
theorem AW.rptr {a b : Con} (h : ConW a b) (r j : Nat) : AW (.rptr a r j) (.rptr b r j) := by
  intro w c u hu
  cases hu with | rptr _ _ _ bb o h1 h2 =>
  have e : a.wd = b.wd := h.wd.symm
  rw [e]
  exact .rptr b r j bb o (by rw [h.len]; exact h1) (RD.conv h h2)
end Go.Ev
/- A map of the texts that were seen: lists whose texts differ. -/
namespace Go.Ev
def fD (nm : Nat → ByteArray) (i : Nat) : ME := .mk (.string (nm i)) (.val (.bool true)) i
def newD (nm : Nat → ByteArray) (k i : Nat) : Bool := !((nm i).toList == (nm k).toList)
def mapH (M : MC) : Heap := ⟨1, [⟨0, 0, .map true M⟩]⟩
def allNew (nm : Nat → ByteArray) (N : Nat) : Bool := allOk N (fun k => allOk k (newD nm k))
theorem ba_data (a b : ByteArray) : (a == b) = (a.data == b.data) := by cases a; cases b; rfl
theorem ba_iff (a b : ByteArray) : (a == b) = true ↔ a = b := by
  rw [ba_data, beq_iff_eq]
  cases a; cases b; simp
theorem bytes_beq (a b : ByteArray) : (a == b) = (a.toList == b.toList) := by
  rw [Bool.eq_iff_iff, ba_iff, beq_iff_eq]
  constructor
  · rintro rfl; rfl
  · intro h
    rw [ByteArray.toList_eq, ByteArray.toList_eq] at h
    have := Array.toList_inj.1 h
    cases a; cases b; simp_all
theorem same_str (a b : ByteArray) : Instr.sameNow .string (.string a) (.string b) = some (a == b) := rfl
theorem okKeys_fD (nm : Nat → ByteArray) (a : ByteArray) (n : Nat) : okKeys .string (.string a) n (fD nm) = true :=
  @decide_eq_true _ (Classical.propDecidable _) (fun i _ => by show (Instr.sameNow .string (.string a) (.string (nm i))).isSome = true; rw [same_str]; rfl)
theorem hasKey_fD (nm : Nat → ByteArray) (k n : Nat) : hasKey .string (.string (nm k)) n (fD nm) = !(allOk n (newD nm k)) := by
  cases h : allOk n (newD nm k) with
  | true =>
    refine @decide_eq_false _ (Classical.propDecidable _) (fun ⟨i, hi, q⟩ => ?_)
    have q : Instr.sameNow .string (.string (nm k)) (.string (nm i)) = some true := q
    rw [same_str] at q
    injection q with q
    have := allOk_iff.1 h i hi
    unfold newD at this
    rw [ba_iff] at q
    rw [q] at this
    simp at this
  | false =>
    refine @decide_eq_true _ (Classical.propDecidable _) ?_
    refine Classical.byContradiction (fun hne => ?_)
    have : allOk n (newD nm k) = true := allOk_iff.2 (fun i hi => by
      unfold newD
      rw [← bytes_beq]
      cases hq : (nm i == nm k) with
      | false => rfl
      | true =>
        rw [ba_iff] at hq
        exact absurd ⟨i, hi, by show Instr.sameNow .string (.string (nm k)) (.string (nm i)) = some true; rw [same_str, hq]; exact congrArg some ((ba_iff _ _).2 rfl)⟩ hne)
    rw [h] at this; cases this
theorem push_fD (nm : Nat → ByteArray) (k : Nat) : (fun j => bif Nat.beq j k then ME.mk (.string (nm k)) (.val (.bool true)) k else fD nm j) = fD nm := by
  funext j
  cases h : Nat.beq j k with
  | true => have := Nat.eq_of_beq_eq_true h; subst this; rfl
  | false => rfl
theorem mapH_ok (M : MC) : (mapH M).ok := heap_ok [0] rfl (by decide) (by decide)
theorem seen0 (nm : Nat → ByteArray) (t : List AV) (d : List Nat) : Weak ⟨t, d, mapH (.ents [] 0)⟩ ⟨t, d, mapH (.mtab 0 (fD nm) 0)⟩ := by
  refine Weak.mapW (mapH_ok _) (mapH_ok _) (Nat.le_refl _) (fun j b' hj => ?_)
  have hj' : ((findE [⟨0, 0, .map true (.mtab 0 (fD nm) 0)⟩] j).map (·.blk)) = some b' := hj
  show ∃ b, (findE [⟨0, 0, .map true (.ents [] 0)⟩] j).map (·.blk) = some b ∧ _
  simp only [findE_cons] at hj' ⊢
  by_cases h0 : 0 = j
  · rw [if_pos h0] at hj' ⊢
    simp only [Option.map_some, Option.some.injEq] at hj' ⊢
    subst hj'
    exact ⟨_, rfl, fun w c rb hb => MapRel.w0 hb rfl rfl (fun i hi => by cases hi)⟩
  · rw [if_neg h0] at hj'
    cases hj'
theorem diff_law {P : Program} {env : Env} (he : EnvOk2 P env) {d g : Nat} {c : Code} (hin : loopsOf c = []) (n : Nat) (ks ko : List Nat) (V : Nat → List AV) (nm : Nat → ByteArray) (N b : Nat)
    (hr : ∀ k, k ≤ N → codeS env (callF env d) (env.keep g) (lsumsOf []) c (outK ks ko) (stOf n ks (V k) (mapH (.mtab k (fD nm) k))) =
      bif decide (k < N) then (bif allOk k (newD nm k) then some (.normal, stOf n ks (V (k + 1)) (mapH (.mtab (k + 1) (fD nm) (k + 1)))) else some (.ret, stOf n ko [.val (.bool false)] ⟨0, []⟩)) else some (.exit b, stOf n [] [] ⟨0, []⟩)) :
    ∀ s e s', s.h.ok → (atL (stOf n ks (V 0) (mapH (.ents [] 0))) (.br (allNew nm N) (.out (.exit b, stOf n [] [] ⟨0, []⟩)) (.out (.ret, stOf n ko [.val (.bool false)] ⟨0, []⟩))) s).run = some (e, s') → Triple P (.loop c) s e s' := by
  refine loop_at he (d := d) (g := g) (ls := lsumsOf []) (c := c) (by rw [hin]; trivial) ks ko (T := Nat) (fun k => stOf n ks (V k) (mapH (.mtab k (fD nm) k))) (fun k => k ≤ N ∧ ∀ i, i < k → allOk i (newD nm i) = true) (fun k => N - k)
    (fun _ => bif allNew nm N then (.exit b, stOf n [] [] ⟨0, []⟩) else (.ret, stOf n ko [.val (.bool false)] ⟨0, []⟩)) _ _ 0 ⟨Nat.zero_le _, fun i hi => by omega⟩ (seen0 nm _ _) ?_ (fun _ _ => mapH_ok _) ?_
  · intro e s' h
    rw [Ans.run_br] at h
    cases hq : allNew nm N with
    | true => rw [hq] at h; injection h
    | false => rw [hq] at h; injection h
  · rintro k ⟨h1, h2⟩
    have key := hr k h1
    by_cases h : k < N
    · rw [decide_eq_true h, cond_true] at key
      cases ha : allOk k (newD nm k) with
      | true =>
        rw [ha, cond_true] at key
        refine .inl ⟨k + 1, _, key, Weak.refl (mapH_ok _), ⟨h, fun i hi => ?_⟩, by omega, rfl⟩
        rcases Nat.lt_succ_iff_lt_or_eq.1 hi with q | q
        · exact h2 i q
        · rw [q]; exact ha
      | false =>
        rw [ha, cond_false] at key
        have hn : allNew nm N = false := by
          cases hq : allNew nm N with
          | false => rfl
          | true => have := allOk_iff.1 hq k h; rw [ha] at this; cases this
        refine .inr ?_
        simp only [hn, cond_false]
        exact ⟨_, key, Weak.refl heap0_ok, by simp⟩
    · rw [decide_eq_false h, cond_false] at key
      have hn : allNew nm N = true := allOk_iff.2 (fun i hi => h2 i (by omega))
      refine .inr ?_
      simp only [hn, cond_true]
      exact ⟨_, key, Weak.refl heap0_ok, by simp⟩
end Go.Ev
