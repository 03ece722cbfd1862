/- The evaluator, its soundness and the walks: part 11. -/
import Derived.Test.YtninaidfifiliaaC10
set_option linter.unusedSectionVars false
set_option linter.unusedSimpArgs false
set_option linter.unusedVariables false
set_option maxRecDepth 100000
set_option maxRecDepth 1000000
noncomputable section
/- Devices: small functions of both. -/
namespace Go.Ev
open Go.Proofs
def Try.E73 : Env := Try.env0 false (sumsOf []) (keepF 0 [])
theorem Try.w29 (n : Int) : rootS Try.E73 5 29 (lsumsOf []) [.val (.int .i64 n)] =
 bif decide (n < 8) then
 some (.tup [.agg [.val (.int .i64 0), .val (.slice none 0 0), .val (.slice none 0 0)], .val (.int .i64 1)], ⟨0, []⟩)
 else
 bif decide (n > 4096) then
 some (.tup [.agg [.val (.int .i64 0), .val (.slice none 0 0), .val (.slice none 0 0)], .val (.int .i64 1)], ⟨0, []⟩)
 else
 bif decide (0 ≤ IntKind.i64.wrap (n * 64)) && decide (IntKind.i64.wrap (n * 64) ≤ IntKind.i64.wrap (n * 64)) && decide (IntKind.i64.wrap (n * 64) * 1 ≤ 1099511627776) && decide (IntKind.i64.wrap (n * 64) ≤ 1099511627776) then
 some (.tup [.agg [.val (.int .i64 (n)), .own 0 0 ((IntKind.i64.wrap (n * 64)).toNat) (some ((IntKind.i64.wrap (n * 64)).toNat)) 1, .val (.slice none 0 0)], .val (.int .i64 0)], ⟨1, [⟨0, 0, .cells (.ints .u8 (List.replicate (IntKind.i64.wrap (n * 64)).toNat 0))⟩]⟩)
 else
 none := by kernel_rfl
theorem Try.e73 : EnvOk2 Try.prog Try.E73 := Try.envOk false (sumsOf []) _ (fun g A h => by cases h)
end Go.Ev
/- Devices: NewDevice, CheckDevice; the reference's Write. -/
namespace Go.Ev
open Go.Proofs
def newD (n : Int) : DevD × Int := bif decide (n < 8) || decide (n > 4096) then noDev 1 else ((n, List.replicate (n * 64).toNat 0, []), 0)
def Try.S29 (args : List AV) : Ans (AV × Heap) := match args with
  | [.val (.int .i64 n)] => .out (outDE (newD n), ⟨0, []⟩)
  | _ => .no
def Try.A29 : AFun := roA Try.S29
theorem newD_al {P : Program} {g : Nat} {n : Int} (h : ∀ v h2, (bif decide (n < 8) then
       some (.tup [.agg [.val (.int .i64 (0)), .val (.slice none 0 0), .val (.slice none 0 0)], .val (.int .i64 (1))], ⟨0, []⟩)
      else
       bif decide (n > 4096) then
        some (.tup [.agg [.val (.int .i64 (0)), .val (.slice none 0 0), .val (.slice none 0 0)], .val (.int .i64 (1))], ⟨0, []⟩)
       else
        bif decide (0 ≤ IntKind.i64.wrap (n * 64)) && decide (IntKind.i64.wrap (n * 64) ≤ IntKind.i64.wrap (n * 64)) && decide (IntKind.i64.wrap (n * 64) * 1 ≤ 1099511627776) && decide (IntKind.i64.wrap (n * 64) ≤ 1099511627776) then
         some (.tup [.agg [.val (.int .i64 (n)), .own 0 (0) ((IntKind.i64.wrap (n * 64)).toNat) (some ((IntKind.i64.wrap (n * 64)).toNat)) 1, .val (.slice none 0 0)], .val (.int .i64 (0))], ⟨1, [⟨0, 0, .cells (.ints .u8 (List.replicate (IntKind.i64.wrap (n * 64)).toNat 0))⟩]⟩)
        else
         none) = some (v, h2) → Alone P g [.val (.int .i64 n)] v h2) : Alone P g [.val (.int .i64 n)] (outDE (newD n)) ⟨0, []⟩ := by
  unfold newD
  rw [cond_orB]
  cases h1 : decide (n < 8) with
  | true => rw [h1] at h; exact Alone.resW (noDev_aw 1) (h _ _ rfl)
  | false =>
    rw [h1] at h
    simp only [cond_false'] at h ⊢
    cases h2 : decide (n > 4096) with
    | true => rw [h2] at h; exact Alone.resW (noDev_aw 1) (h _ _ rfl)
    | false =>
      rw [h2] at h
      simp only [cond_false'] at h ⊢
      rw [decide_eq_false_iff_not] at h1 h2
      rw [wrap64 (n * 64) (by omega) (by omega), decide_eq_true (show 0 ≤ n * 64 by omega), decide_eq_true (show n * 64 ≤ n * 64 by omega), decide_eq_true (show n * 64 * 1 ≤ 1099511627776 by omega), decide_eq_true (show n * 64 ≤ 1099511627776 by omega)] at h
      have h3 := h _ _ rfl
      have hl : (List.replicate (n * 64).toNat (0 : Int)).length = (n * 64).toNat := List.length_replicate
      refine Alone.resW (v := .tup [.agg [.val (.int .i64 n), .ro (.ints .u8 (List.replicate (n * 64).toNat 0)) none, .val (.slice none 0 0)], .val (.int .i64 0)]) ?_ (Alone.fz1 (con := .ints .u8 (List.replicate (n * 64).toNat 0)) rfl rfl ?_ h3)
      · exact AW.tup (.cons (AW.agg (.cons (AW.refl _) (.cons (AW.refl _) (.cons (AW.nil rfl) .nil)))) (.cons (AW.refl _) .nil))
      · refine .tup1 (.cons (.inl rfl) (.cons (.inr (.inr ⟨some (n * 64).toNat, ?_, rfl⟩)) (.cons (.inl rfl) .nil)))
        show AV.own 0 0 (n * 64).toNat (some (n * 64).toNat) 1 = .own 0 0 (List.replicate (n * 64).toNat (0 : Int)).length (some (n * 64).toNat) 1
        rw [hl]
theorem Try.sum_n {g : Nat} {fn : Func} {code : Code} (hg : Try.prog.funcs[g]? = some fn ∧ fn.name ≠ "runtime.NumGoroutine") (hc : fn.body = some code)
    (hal : ∀ n, Alone Try.prog g [.val (.int .i64 n)] (outDE (newD n)) ⟨0, []⟩) : SumC Try.prog g Try.A29 := by
  refine roSumR g ⟨fn, code, hg.1, hg.2, hc⟩ ?_
  intro args v h2 hs
  unfold Try.S29 at hs
  split at hs
  · rename_i n
    injection hs with hs
    injection hs with q1 q2
    subst q1; subst q2
    exact ⟨(fun e he => by cases he), hal n⟩
  · cases hs
theorem Try.sum29 : SumC Try.prog 29 Try.A29 := Try.sum_n Try.fnOk29 rfl (fun n => newD_al (fun v h2 h => rootS_alone Try.e73 (d := 5) (g := 29) (ls := lsumsOf []) (AllL.of0 (by kernel_rfl)) ((Try.w29 n).trans h)))
end Go.Ev
/- Devices: the reference's Flush and Fail. -/
namespace Go.Ev
open Go.Proofs
end Go.Ev
/- Devices: the reference's Flush and Fail, their contracts. -/
namespace Go.Ev
open Go.Proofs
end Go.Ev
/- Devices: the reference's Flush and Fail, joined. -/
namespace Go.Ev
open Go.Proofs
end Go.Ev
/- Loops, from one state alone. -/
namespace Go.Ev
def propB (p : Prop) : Bool := @decide p (Classical.propDecidable _)
def isSt (s s0 : St) : Bool := @decide (s = s0) (Classical.propDecidable _)
def atL (s0 : St) (A : Ans (AX × St)) : LSum := fun s => .grd (isSt s s0) A
theorem propB_eq {p : Prop} : propB p = true → p := fun h => @of_decide_eq_true _ (Classical.propDecidable _) h
theorem propB_t {p : Prop} (h : p) : propB p = true := @decide_eq_true _ (Classical.propDecidable _) h
theorem isSt_eq {s s0 : St} : isSt s s0 = true → s = s0 := fun h => @of_decide_eq_true _ (Classical.propDecidable _) h
theorem isSt_refl (s : St) : isSt s s = true := @decide_eq_true _ (Classical.propDecidable _) rfl
theorem atL_some {s0 s : St} {A : Ans (AX × St)} {r : AX × St} (h : (atL s0 A s).run = some r) : s = s0 ∧ A.run = some r := by
  unfold atL at h
  rw [Ans.run_grd] at h
  cases hs : isSt s s0 with
  | false => rw [hs] at h; cases h
  | true => rw [hs, cond_true] at h; exact ⟨isSt_eq hs, h⟩
theorem loop_at {P : Program} {env : Env} (he : EnvOk2 P env) {d g : Nat} {ls : Nat → Option LSum} {c : Code} (hin : AllL (LsOk P ls) (loopsOf c)) (ks ko : List Nat) {T : Type} (S : T → St) (Inv : T → Prop) (m : T → Nat) (fin : T → AX × St)
    (s0 : St) (A : Ans (AX × St)) (x0 : T) (hi : Inv x0) (hw : Weak s0 (S x0)) (hA : ∀ e s', A.run = some (e, s') → fin x0 = (e, s'))
    (hok : ∀ x, Inv x → (S x).h.ok)
    (hb : ∀ x, Inv x → (∃ x' s1, codeS env (callF env d) (env.keep g) ls c (outK ks ko) (S x) = some (.normal, s1) ∧ Weak s1 (S x') ∧ Inv x' ∧ m x' < m x ∧ fin x' = fin x) ∨
      (∃ s1, codeS env (callF env d) (env.keep g) ls c (outK ks ko) (S x) = some ((fin x).1, s1) ∧ Weak s1 (fin x).2 ∧ (fin x).1 ≠ .normal)) :
    ∀ s e s', s.h.ok → (atL s0 A s).run = some (e, s') → Triple P (.loop c) s e s' := by
  intro s e s' hk hL
  obtain ⟨rfl, hA2⟩ := atL_some hL
  have hX := codeS_sound (ρ := AX × St) (callF_sound he d) he.ok he.mix (env.keep g) ls c hin
  have key := loop_tripleW hX ks ko S Inv m fin hok hb x0 hi
  rw [hA _ _ hA2] at key
  exact Triple.weak hw key
theorem lookS_fz {id : Nat} {con : Con} (i : Nat) : ∀ {ks : List Nat} {vs vs' : List AV}, FzL id con vs vs' → FzV id con (lookS i ks vs) (lookS i ks vs')
  | [], _, _, h => by cases h <;> exact .inl rfl
  | k :: ks, _, _, .nil => .inl rfl
  | k :: ks, _, _, .cons h1 h2 => by
    show FzV id con (bif _ then _ else _) (bif _ then _ else _)
    cases Nat.beq k i
    · exact lookS_fz i h2
    · exact h1
theorem placeL_fz {id : Nat} {con : Con} {ks : List Nat} {vs vs' : List AV} (h : FzL id con vs vs') : ∀ n i, FzL id con (placeL ks vs n i) (placeL ks vs' n i)
  | 0, _ => .nil
  | n + 1, i => .cons (lookS_fz i h) (placeL_fz h n (i + 1))
theorem atL_grd {P : Program} {c : Code} {s0 : St} {b : Bool} {A : Ans (AX × St)} (h : b = true → ∀ s e s', s.h.ok → (atL s0 A s).run = some (e, s') → Triple P (.loop c) s e s') : ∀ s e s', s.h.ok → (atL s0 (.grd b A) s).run = some (e, s') → Triple P (.loop c) s e s' := by
  intro s e s' hk hL
  obtain ⟨rfl, h2⟩ := atL_some hL
  rw [Ans.run_grd] at h2
  cases b with
  | false => cases h2
  | true =>
    refine h rfl _ e s' hk ?_
    unfold atL
    rw [Ans.run_grd, isSt_refl]
    exact h2
theorem AW.unk (v : AV) : AW v .unk := fun _ _ _ _ => .unk _
inductive EsFz (id : Nat) (con : Con) : List Ent → List Ent → Prop
  | nil : EsFz id con [] []
  | skip {es es' : List Ent} : EsFz id con es es' → EsFz id con (⟨id, 0, .cells con⟩ :: es) es'
  | same {es es' : List Ent} (e : Ent) (hn : Nat.beq e.id id = false) : EsFz id con es es' → EsFz id con (e :: es) (e :: es')
  | row {es es' : List Ent} (i v : Nat) {k k' : Con} (hn : Nat.beq i id = false) (hp : k'.pureF = false → k.pureF = false) (hz : FzC id con k k') : EsFz id con es es' → EsFz id con (⟨i, v, .cells k⟩ :: es) (⟨i, v, .cells k'⟩ :: es')
theorem EsFz.find {id : Nat} {con : Con} {es es' : List Ent} (h : EsFz id con es es') : ∀ j e', findE es' j = some e' → j ≠ id ∧ ∃ e, findE es j = some e ∧ (e.blk = e'.blk ∨ ∃ k k', e.blk = .cells k ∧ e'.blk = .cells k' ∧ (k'.pureF = false → k.pureF = false) ∧ FzC id con k k') := by
  induction h with
  | nil => intro j e' h; cases h
  | skip h ih =>
    intro j e' hj
    obtain ⟨q1, e, q2, q3⟩ := ih j e' hj
    refine ⟨q1, e, ?_, q3⟩
    rw [findE_cons, if_neg (fun q => q1 q.symm)]
    exact q2
  | same e hn h ih =>
    intro j e' hj
    rw [findE_cons] at hj
    split at hj
    · rename_i hq
      injection hj with hj
      subst hj
      refine ⟨?_, e, by rw [findE_cons, if_pos hq], .inl rfl⟩
      rw [← hq]
      exact fun q => by rw [q, Nat.beq_refl] at hn; cases hn
    · rename_i hq
      obtain ⟨q1, e2, q2, q3⟩ := ih j e' hj
      exact ⟨q1, e2, by rw [findE_cons, if_neg hq]; exact q2, q3⟩
  | row i v hn hp hz h ih =>
    intro j e' hj
    rw [findE_cons] at hj
    split at hj
    · rename_i hq
      injection hj with hj
      subst hj
      refine ⟨?_, _, by rw [findE_cons, if_pos hq], .inr ⟨_, _, rfl, rfl, hp, hz⟩⟩
      have hq' : i = j := hq
      rw [← hq']
      exact fun q => by rw [q, Nat.beq_refl] at hn; cases hn
    · rename_i hq
      obtain ⟨q1, e2, q2, q3⟩ := ih j e' hj
      exact ⟨q1, e2, by rw [findE_cons, if_neg hq]; exact q2, q3⟩
theorem EsFz.sub {id : Nat} {con : Con} {es es' : List Ent} (h : EsFz id con es es') : (es'.map (·.id)).Sublist (es.map (·.id)) := by
  induction h with
  | nil => exact List.Sublist.slnil
  | skip h ih => exact List.Sublist.cons _ ih
  | same e hn h ih => exact List.Sublist.cons_cons _ ih
  | row i v hn hp hz h ih => exact List.Sublist.cons_cons _ ih
theorem Weak.fzH {t t' : List AV} {con : Con} {n id : Nat} {es es' : List Ent} (hk : (⟨n, es⟩ : Heap).ok) (hp : con.pureF = true) (hid : (⟨n, es⟩ : Heap).G id = some (.cells con))
    (ht : ∀ w c c2 us, (∀ v v' u, FzV id con v v' → VR w c v u → VR w c2 v' u) → VRs w c t us → VRs w c2 t' us) (he : EsFz id con es es') : Weak ⟨t, [], ⟨n, es⟩⟩ ⟨t', [], ⟨n, es'⟩⟩ := by
  have hG : ∀ j b', (⟨n, es'⟩ : Heap).G j = some b' → j ≠ id ∧ ((⟨n, es⟩ : Heap).G j = some b' ∨ ∃ k k', (⟨n, es⟩ : Heap).G j = some (.cells k) ∧ b' = .cells k' ∧ (k'.pureF = false → k.pureF = false) ∧ FzC id con k k') := by
    intro j b' hj
    simp only [Heap.G, Option.map_eq_some_iff] at hj
    obtain ⟨e', h1, rfl⟩ := hj
    obtain ⟨q1, e, q2, q3⟩ := he.find j e' h1
    refine ⟨q1, ?_⟩
    rcases q3 with q3 | ⟨k, k', q3, q4, q5, q6⟩
    · exact .inl (by simp [Heap.G, q2, q3])
    · exact .inr ⟨k, k', by simp [Heap.G, q2, q3], q4, q5, q6⟩
  refine Weak.freezeX (s := ⟨t, [], ⟨n, es⟩⟩) hk id con hid hp ⟨List.Nodup.sublist he.sub hk.uniq, fun j e' hj => ?_⟩ (Nat.le_refl _) ht hG
  obtain ⟨q1, e, q2, q3⟩ := he.find j e' hj
  exact hk.lt j e q2
theorem Alone.fzA {P : Program} {g : Nat} {args : List AV} {v v' v2 : AV} {con : Con} {n id : Nat} {es es' : List Ent} {h2 : Heap} (hp : con.pureF = true) (hid : (⟨n, es⟩ : Heap).G id = some (.cells con)) (hv : FzT id con v v') (he : EsFz id con es es')
    (hc : outV v' ⟨n, es'⟩ = some (v2, h2)) (q : Alone P g args v ⟨n, es⟩) : Alone P g args v2 h2 := by
  have w1 : Weak ⟨[v], [], ⟨n, es⟩⟩ ⟨[v'], [], ⟨n, es'⟩⟩ := Weak.fzH q.1 hp hid (fun w c c2 us hx h => by cases h with | cons _ u _ us k1 k2 => exact .cons _ _ _ _ (hv.rel hx k1) (by cases k2; exact .nil)) he
  have w2 := Weak.canon (s := ⟨[v'], [], ⟨n, es'⟩⟩) w1.1 [0]
  have := Alone.outW (v' := getT (canon (some [0]) ⟨[v'], [], ⟨n, es'⟩⟩).t 0) (h3 := (canon (some [0]) ⟨[v'], [], ⟨n, es'⟩⟩).h) (w1.trans w2) q
  unfold outV at hc
  injection hc with hc
  injection hc with h1 h3
  rw [h1, h3] at this
  exact this
theorem FzL.get {id : Nat} {con : Con} : ∀ {l l' : List AV}, FzL id con l l' → ∀ (j : Nat) (v' : AV), l'[j]? = some v' → ∃ v, l[j]? = some v ∧ FzV id con v v'
  | _, _, .nil, j, v', h => by simp at h
  | _, _, .cons h1 h2, 0, v', h => by simp at h; subst h; exact ⟨_, rfl, h1⟩
  | _, _, .cons h1 h2, j + 1, v', h => by obtain ⟨v, e, q⟩ := FzL.get h2 j v' (by simpa using h); exact ⟨v, by simpa using e, q⟩
theorem FzC.one {id : Nat} {con : Con} {p : Bool} {w : Nat} {r r' : List AV} (h : FzL id con r r') : FzC id con (.rows p w [r]) (.rows false w [r']) := by
  refine ⟨rfl, rfl, fun i hi j v' hv => ?_⟩
  have : i = 0 := by simpa [Con.len] using hi
  subst this
  exact ⟨h.get j v' hv, fun q => by cases q⟩
end Go.Ev
