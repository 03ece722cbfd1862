/- The evaluator, its soundness and the walks: part 13. -/
import Derived.Test.YtninaidfifiliaaC12
set_option linter.unusedSectionVars false
set_option linter.unusedSimpArgs false
set_option linter.unusedVariables false
set_option maxRecDepth 100000
set_option maxRecDepth 1000000
noncomputable section
/- Journals: bytes compared; a data sector's bytes as an own block. -/
namespace Go.Ev
open Go.Proofs
def Try.E111 : Env := Try.env0 false (sumsOf []) (keepF 111 [(4, [0,1,12,13])])
def Try.b111 : Code := nthD .skip (loopsOf (bodyOf Try.E111 111)) 0
def Try.B111 (s : St) : Option (AX × St) := codeS Try.E111 (callF Try.E111 3) (Try.E111.keep 111) (lsumsOf []) Try.b111 (outK [0,1,12,13] [4]) s
def Try.V111 (l m : List Int) (c1 c2 : Option Nat) (k : Nat) : List AV := [.ro (.ints .u8 l) c1, .ro (.ints .u8 m) c2, .val (.int .i64 l.length), .val (.int .i64 k)]
def Try.s111 (l m : List Int) (c1 c2 : Option Nat) : St := stOf 26 [0,1,12,13] (Try.V111 l m c1 c2 0) ⟨0, []⟩
def Try.L111 (l m : List Int) (c1 c2 : Option Nat) : LSum := atL (Try.s111 l m c1 c2) (.grd (decide (l.length = m.length) && Nat.ble l.length 1000000) (.br (decide (l = m)) (.out (.exit 0, stOf 26 [] [] ⟨0, []⟩)) (.out (.ret, stOf 26 [4] [.val (.bool false)] ⟨0, []⟩))))
theorem Try.e111 : EnvOk2 Try.prog Try.E111 := Try.envOk false (sumsOf []) _ (fun g A h => by cases h)
theorem Try.r111 (l m : List Int) (c1 c2 : Option Nat) (k : Nat) : Try.B111 (stOf 26 [0,1,12,13] (Try.V111 l m c1 c2 k) ⟨0, []⟩) =
 bif decide ((↑k : Int) < (↑l.length : Int)) then
 bif inR (↑k : Int) l.length then
 bif inR (↑k : Int) m.length then
 bif l.getD k 0 != m.getD k 0 then
 some (.ret, stOf 26 [4] [.val (.bool false)] ⟨0, []⟩)
 else
 some (.normal, stOf 26 [0, 1, 12, 13] [.ro (.ints .u8 (l)) (c1), .ro (.ints .u8 (m)) (c2), .val (.int .i64 ((↑l.length : Int))), .val (.int .i64 (IntKind.i64.wrap ((↑k : Int) + 1)))] ⟨0, []⟩)
 else
 none
 else
 none
 else
 some (.exit 0, stOf 26 [] [] ⟨0, []⟩) := by kernel_rfl
theorem Try.w111 (l m : List Int) (c1 c2 : Option Nat) : rootS Try.E111 3 111 (lsumsOf [(4, Try.L111 l m c1 c2)]) [.ro (.ints .u8 l) c1, .ro (.ints .u8 m) c2] =
 bif (↑l.length : Int) != (↑m.length : Int) then
 some (.val (.bool false), ⟨0, []⟩)
 else
 bif isSt (Try.s111 l m c1 c2) (Try.s111 l m c1 c2) then
 bif decide (l.length = m.length) && l.length.ble 1000000 then
 bif decide (l = m) then
 some (.val (.bool true), ⟨0, []⟩)
 else
 some (.val (.bool false), ⟨0, []⟩)
 else
 none
 else
 none := by kernel_rfl
theorem Try.l111 (l m : List Int) (c1 c2 : Option Nat) : ∀ s e s', s.h.ok → (Try.L111 l m c1 c2 s).run = some (e, s') → Triple Try.prog (.loop Try.b111) s e s' := by
  refine atL_grd (fun hp => ?_)
  rw [Bool.and_eq_true, decide_eq_true_eq, Nat.ble_eq] at hp
  obtain ⟨hlm, hl⟩ := hp
  refine loop_at Try.e111 (d := 3) (g := 111) (ls := lsumsOf []) (c := Try.b111) trivial [0,1,12,13] [4] (T := Nat)
    (fun k => stOf 26 [0,1,12,13] (Try.V111 l m c1 c2 k) ⟨0, []⟩) (fun k => k ≤ l.length ∧ ∀ i, i < k → l.getD i 0 = m.getD i 0) (fun k => l.length - k) (fun _ => bif decide (l = m) then (.exit 0, stOf 26 [] [] ⟨0, []⟩) else (.ret, stOf 26 [4] [.val (.bool false)] ⟨0, []⟩)) _ _ 0 ⟨Nat.zero_le _, fun i hi => by omega⟩ (Weak.refl heap0_ok) ?_ (fun k _ => heap0_ok) ?_
  · intro e s' h
    rw [Ans.run_br] at h
    cases hq : decide (l = m) <;> rw [hq] at h <;> exact Option.some.inj h
  · rintro k ⟨h1, h2⟩
    have key := Try.r111 l m c1 c2 k
    by_cases hk : k < l.length
    · rw [declt_nat, inR_nat, inR_nat, decide_eq_true hk, decide_eq_true (show k < m.length by omega)] at key
      cases hq : (l.getD k 0 != m.getD k 0) with
      | true =>
        rw [hq] at key
        have hne : ¬ l = m := fun e => by rw [e, bne_self_eq_false] at hq; cases hq
        simp only [decide_eq_false hne, cond_false']
        exact .inr ⟨_, key, Weak.refl heap0_ok, by show AX.ret ≠ .normal; intro h; cases h⟩
      | false =>
        rw [hq, wrapT k (by omega)] at key
        have he : l.getD k 0 = m.getD k 0 := by simpa using hq
        refine .inl ⟨k + 1, _, key, Weak.refl heap0_ok, ⟨hk, fun i hi => ?_⟩, by omega, rfl⟩
        rcases Nat.lt_or_ge i k with q | q
        · exact h2 i q
        · have : i = k := by omega
          subst this; exact he
    · have e1 : k = l.length := by omega
      rw [declt_nat, decide_eq_false hk] at key
      have he : l = m := by
        apply List.ext_getElem hlm
        intro i a b
        have := h2 i (by omega)
        rw [List.getD_eq_getElem?_getD, List.getD_eq_getElem?_getD, List.getElem?_eq_getElem a, List.getElem?_eq_getElem b] at this
        exact this
      simp only [decide_eq_true he, cond_true']
      exact .inr ⟨_, key, Weak.refl heap0_ok, by show (AX.exit 0) ≠ .normal; intro h; cases h⟩
def Try.S111 (args : List AV) : Ans (AV × Heap) := match args with
  | [.ro (.ints .u8 l) c1, .ro (.ints .u8 m) c2] => .grd (Nat.ble l.length 1000000) (.out (.val (.bool (decide (l = m))), ⟨0, []⟩))
  | _ => .no
def Try.A111 : AFun := pureA (fun args => Try.S111 (nzs Try.nzE args))
theorem Try.sum111 : SumC Try.prog 111 Try.A111 := by
  refine pureSumR 111 ⟨Try.f111, _, Try.fnOk111.1, Try.fnOk111.2, rfl⟩ ?_
  intro args v h2 hs
  refine Alone.nz (cs := Try.nzE) (by simp [Try.nzE, Con.len]) ?_
  replace hs : (Try.S111 (nzs Try.nzE args)).run = some (v, h2) := hs
  generalize nzs Try.nzE args = args' at hs ⊢
  unfold Try.S111 at hs
  split at hs
  · rename_i l c1 m c2
    rw [Ans.run_grd] at hs
    cases hb : Nat.ble l.length 1000000 with
    | false => rw [hb] at hs; cases hs
    | true =>
      rw [hb, cond_true] at hs
      injection hs with hs
      injection hs with q1 q2
      subst q1; subst q2
      refine rootS_alone Try.e111 (d := 3) (g := 111) (ls := lsumsOf [(4, Try.L111 l m c1 c2)]) (AllL.of1 (a := Try.b111) (by kernel_rfl) (LsOk.of rfl rfl (Try.l111 l m c1 c2))) ((Try.w111 l m c1 c2).trans ?_)
      by_cases h : l.length = m.length
      · rw [show ((l.length : Int) != (m.length : Int)) = false by rw [h]; simp, isSt_refl, decide_eq_true h, hb]
        cases decide (l = m) <;> rfl
      · have h1 : ((l.length : Int) != (m.length : Int)) = true := by rw [bne, Bool.not_eq_true', beq_eq_false_iff_ne]; omega
        have h2 : ¬ l = m := fun e => h (by rw [e])
        rw [h1, decide_eq_false h2]; rfl
  · cases hs
theorem Try.al85o (s e : Int) (f l : Bool) (p : List Int) (cap : Option Nat) (hp : p.length ≤ 46) : Alone Try.prog 85 [.agg [.val (.int .i64 s), .val (.int .i64 e), .val (.bool f), .val (.bool l), .ro (.ints .u8 p) cap]] (.own 0 0 64 none 1) (oneH (.ints .u8 (dataB s e f l p))) := by
  refine rootS_alone Try.e56 (d := 3) (g := 85) (ls := lsumsOf []) (AllL.of0 (by kernel_rfl)) ((Try.r85 s e f l p cap).trans ?_)
  rw [wrap64 (46 - (p.length : Int)) (by omega) (by omega), show (46 - (p.length : Int)).toNat = 46 - p.length by omega]
  have e1 : 10 + p.length + (46 - p.length) + 8 = 64 := by omega
  unfold dataB flagB
  cases f <;> cases l <;>
    simp (disch := (first | omega | (simp only [List.length_append, List.length_cons, List.length_nil, List.length_replicate]; omega))) only [List.length_append, List.length_cons, List.length_nil, List.length_replicate, List.drop_zero, most_eq, ble_t, decide_eq_true, cond_true', cond_false', Bool.and_self, List.take_of_length_le, e1] <;>
    simp [wordsB, w4, oneH]
def Try.S85p (args : List AV) : Ans (AV × Heap) := match args with
  | [.agg [.val (.int .i64 s), .val (.int .i64 e), .val (.bool f), .val (.bool l), .ro (.ints .u8 p) cap]] => .grd (Nat.ble p.length 46) (.out (.own 0 0 64 none 1, oneH (.ints .u8 (dataB s e f l p))))
  | _ => .no
def Try.A85p : AFun := pureA Try.S85p
theorem Try.sum85p : SumC Try.prog 85 Try.A85p := by
  refine pureSumR 85 ⟨Try.f85, _, Try.fnOk85.1, Try.fnOk85.2, rfl⟩ ?_
  intro args v h2 hs
  unfold Try.S85p at hs
  split at hs
  · rename_i s e f l p cap
    rw [Ans.run_grd] at hs
    cases hb : Nat.ble p.length 46 with
    | false => rw [hb] at hs; cases hs
    | true =>
      rw [hb, cond_true] at hs
      rw [Nat.ble_eq] at hb
      injection hs with hs
      injection hs with q1 q2
      subst q1; subst q2
      exact Try.al85o s e f l p cap hb
  · cases hs
end Go.Ev
/- Journals: what Append, Sync and Trim keep. -/
namespace Go.Ev
open Go.Proofs
structure JX (J : JD) : Prop where
  jr : JrFacts J
  ex : ∀ k, k < J.L.length → J.E.getD k 0 = atJ J.st J.E k + secs (encD (J.L.getD k EN.z)).length
theorem chain_of {J : JD} : ∀ {n : Nat}, (∀ k, k < n → stepB J k = true) → chainB J n = true
  | 0, _ => rfl
  | n + 1, h => by
    show (chainB J n && stepB J n) = true
    rw [chain_of (fun k hk => h k (by omega)), h n (by omega)]; rfl
theorem secs_pos (n : Nat) : 1 ≤ secs n := by unfold secs; omega
theorem secs_le {n : Nat} : secs n ≤ n + 1 := by unfold secs; omega
theorem at_mono {J : JD} (h : JX J) : ∀ {a b : Nat}, a ≤ b → b ≤ J.L.length → atJ J.st J.E a + (b - a : Nat) ≤ atJ J.st J.E b := by
  intro a b
  induction b with
  | zero => intro h1 h2; have : a = 0 := by omega
            subst this; simp
  | succ b ih =>
    intro h1 h2
    rcases Nat.lt_or_ge b a with q | q
    · have : a = b + 1 := by omega
      subst this; simp
    · have h3 := ih q (by omega)
      have h4 := h.ex b (by omega)
      have h5 := secs_pos (encD (J.L.getD b EN.z)).length
      show _ ≤ J.E.getD b 0
      omega
theorem at_le {J : JD} (h : JX J) {a : Nat} (ha : a ≤ J.L.length) : J.st + a ≤ atJ J.st J.E a ∧ atJ J.st J.E a + (J.L.length - a : Nat) ≤ J.nx := by
  have h1 := at_mono h (Nat.zero_le a) ha
  have h2 := at_mono h ha (Nat.le_refl _)
  rw [h.jr.fin] at h2
  have h3 : atJ J.st J.E 0 = J.st := rfl
  rw [h3] at h1
  omega
theorem jx_len {J : JD} (h : JX J) : J.L.length ≤ 1073741824 := by
  have := (at_le h (Nat.le_refl _)).1
  rw [h.jr.fin] at this
  have h1 := h.jr.nm
  have h2 := h.jr.b0
  have h3 := h.jr.bs
  omega
theorem jx_ok {J : JD} (h : JX J) : J.ok = true := by
  have hd := dev_facts h.jr.dev
  have h1 := hd.few
  have h2 := jx_len h
  unfold JD.ok
  rw [okSW_le (by omega), okEN_le (by omega)]
  rfl
theorem jx_of {J : JD} (dev : isDevB J.N J.B J.P = true) (g0 : 1 ≤ J.gen) (g1 : J.gen ≤ 1073741824) (e0 : 1 ≤ J.ep) (e1 : J.ep ≤ 1073741824) (b0 : 0 ≤ J.ba) (bs : J.ba ≤ J.st) (sn : J.st ≤ J.nx) (nm : J.nx ≤ 1073741824) (room : J.nx - J.ba ≤ J.N - 2)
    (l0 : 0 ≤ J.lim) (l1 : J.lim ≤ J.nx) (len : J.E.length = J.L.length) (ents : ∀ k, k < J.L.length → entD? (J.L.getD k EN.z) = true) (ex : ∀ k, k < J.L.length → J.E.getD k 0 = atJ J.st J.E k + secs (encD (J.L.getD k EN.z)).length)
    (fin : atJ J.st J.E J.L.length = J.nx) : JX J := by
  refine ⟨⟨dev, g0, g1, e0, e1, b0, bs, sn, nm, room, l0, l1, len, chain_of (fun k hk => ?_), fin⟩, ex⟩
  unfold stepB
  have h1 := ents k hk
  rw [h1, Bool.true_and, ex k hk]
  unfold entD? at h1
  have h2 := ent_len h1
  have h3 := encD_len (J.L.getD k EN.z)
  have h4 := secs_le (n := (encD (J.L.getD k EN.z)).length)
  have h5 := secs_pos (encD (J.L.getD k EN.z)).length
  rw [show atJ J.st J.E k + secs (encD (J.L.getD k EN.z)).length - atJ J.st J.E k = secs (encD (J.L.getD k EN.z)).length by omega, wrap64 _ (by omega) (by omega)]
  exact beq_self_eq_true _
theorem jx_ent {J : JD} (h : JX J) {k : Nat} (hk : k < J.L.length) : entD? (J.L.getD k EN.z) = true := by
  have := chain_ents h.jr.chain k hk
  unfold stepB at this
  rw [Bool.and_eq_true] at this
  exact this.1
theorem atJ_app (st : Int) (E : List Int) (y : Int) : ∀ k, k ≤ E.length → atJ st (E ++ [y]) k = atJ st E k
  | 0, _ => rfl
  | k + 1, h => by
    show (E ++ [y]).getD k 0 = E.getD k 0
    rw [List.getD_eq_getElem?_getD, List.getD_eq_getElem?_getD, List.getElem?_append_left (by omega)]
theorem placeI_ok {N s : Int} (hN : 8 ≤ N) (hs : 0 ≤ s) : 2 ≤ placeI N s ∧ placeI N s < N := by
  unfold placeI
  have t1 := Int.tmod_nonneg (b := N - 2) hs
  have t2 := Int.tmod_lt_of_pos s (show 0 < N - 2 by omega)
  omega
theorem isDevB_writes {N : Int} {B : List Int} {P W : List SwD} (h : isDevB N B P = true) (hW : ∀ w ∈ W, 0 ≤ w.1 ∧ w.1 < N ∧ w.2.length = 64) (hl : P.length + W.length ≤ 2000) : isDevB N B (P ++ W) = true := by
  unfold isDevB at h ⊢
  simp only [Bool.and_eq_true, decide_eq_true_eq] at h ⊢
  obtain ⟨k1, k2, k3, k4, k5⟩ := h
  refine ⟨k1, k2, k3, ?_, ?_⟩
  · rw [List.length_append]; omega
  · rw [List.any_append, Bool.not_eq_true', Bool.or_eq_false_iff]
    refine ⟨by simpa using k5, ?_⟩
    rw [List.any_eq_false]
    intro w hw
    obtain ⟨h1, h2, h3⟩ := hW w hw
    simp [badB, h1, h2, h3]
theorem wr_ok {J : JD} {e : EntD} (hN : 8 ≤ J.N) (hx : 0 ≤ J.nx) {w : SwD} {k : Nat} (hw : w ∈ writesN J e k) : 0 ≤ w.1 ∧ w.1 < J.N ∧ w.2.length = 64 := by
  unfold writesN at hw
  obtain ⟨i, _, rfl⟩ := List.mem_map.1 hw
  have := placeI_ok (s := J.nx + i) hN (by omega)
  exact ⟨by show 0 ≤ placeI J.N (J.nx + i); omega, this.2, dataB_len (pieceB_len _ _)⟩
theorem appX_jx {J : JD} {e : EntD} (h : JX J) (he : entD? e = true) (h1 : (nP (encD e) : Int) ≤ freeI J) (h2 : J.P.length + nP (encD e) ≤ 2000) : JX (appX J e) := by
  have hd := dev_facts h.jr.dev
  have d1 := hd.lo
  have n0 := h.jr.b0
  have n1 := h.jr.bs
  have n2 := h.jr.sn
  have n3 := h.jr.nm
  have n4 := h.jr.room
  have n5 := h.jr.l1
  have n6 := h.jr.len
  unfold freeI at h1
  have hs := secs_nP (encD_pos e)
  refine jx_of (J := appX J e) (isDevB_writes h.jr.dev (fun w hw => wr_ok d1 (by omega) hw) (by rw [writesN_len]; exact h2)) h.jr.g0 h.jr.g1 h.jr.e0 h.jr.e1 h.jr.b0 h.jr.bs (by show J.st ≤ J.nx + _; omega) (by show J.nx + (nP (encD e) : Int) ≤ _; omega) (by show J.nx + (nP (encD e) : Int) - J.ba ≤ J.N - 2; omega) h.jr.l0 (by show J.lim ≤ J.nx + _; omega) (by show (J.E ++ [_]).length = (J.L ++ [e]).length; simp [n6]) ?_ ?_ ?_
  · intro k hk
    have hk' : k < J.L.length + 1 := by have : k < (J.L ++ [e]).length := hk; simpa using this
    show entD? ((J.L ++ [e]).getD k EN.z) = true
    rcases Nat.lt_or_ge k J.L.length with q | q
    · rw [List.getD_eq_getElem?_getD, List.getElem?_append_left q, ← List.getD_eq_getElem?_getD]
      exact jx_ent h q
    · have : k = J.L.length := by omega
      subst this
      rw [List.getD_eq_getElem?_getD, List.getElem?_append_right (Nat.le_refl _), Nat.sub_self]
      exact he
  · intro k hk
    have hk' : k < J.L.length + 1 := by have : k < (J.L ++ [e]).length := hk; simpa using this
    show (J.E ++ [J.nx + (nP (encD e) : Int)]).getD k 0 = atJ J.st (J.E ++ [J.nx + (nP (encD e) : Int)]) k + secs (encD ((J.L ++ [e]).getD k EN.z)).length
    rw [atJ_app _ _ _ k (by omega)]
    rcases Nat.lt_or_ge k J.L.length with q | q
    · rw [List.getD_eq_getElem?_getD, List.getElem?_append_left (by omega), ← List.getD_eq_getElem?_getD, List.getD_eq_getElem?_getD (l := J.L ++ [e]), List.getElem?_append_left q, ← List.getD_eq_getElem?_getD]
      exact h.ex k q
    · have : k = J.L.length := by omega
      subst this
      rw [h.jr.fin, List.getD_eq_getElem?_getD, List.getElem?_append_right (by omega), List.getD_eq_getElem?_getD (l := J.L ++ [e]), List.getElem?_append_right (Nat.le_refl _), n6, Nat.sub_self]
      show J.nx + (nP (encD e) : Int) = J.nx + secs (encD e).length
      rw [hs]
  · show atJ J.st (J.E ++ [J.nx + (nP (encD e) : Int)]) (J.L ++ [e]).length = J.nx + (nP (encD e) : Int)
    rw [List.length_append]
    show (J.E ++ [J.nx + (nP (encD e) : Int)]).getD J.L.length 0 = _
    rw [List.getD_eq_getElem?_getD, List.getElem?_append_right (by omega), n6, Nat.sub_self]; rfl
def syncX (J : JD) : JD := ⟨J.N, setl J, [], J.gen, J.ep, false, J.lim, J.st, J.st, J.nx, J.L, J.E⟩
theorem syncJ_eq {J : JD} (h : isJr J = true) : syncJ J = (syncX J, 0) := by unfold syncJ; rw [h]; rfl
theorem syncX_jx {J : JD} (h : JX J) : JX (syncX J) := by
  have n0 := h.jr.b0
  have n1 := h.jr.bs
  have n4 := h.jr.room
  exact jx_of (J := syncX J) (isDevB_settled h.jr.dev _) h.jr.g0 h.jr.g1 h.jr.e0 h.jr.e1 (by show 0 ≤ J.st; omega) (Int.le_refl _) h.jr.sn h.jr.nm (by show J.nx - J.st ≤ J.N - 2; omega) h.jr.l0 h.jr.l1 h.jr.len (fun k hk => jx_ent h hk) h.ex h.jr.fin
theorem atJ_drop (st : Int) (E : List Int) (n : Nat) : ∀ k, atJ (atJ st E n) (E.drop n) k = atJ st E (n + k)
  | 0 => rfl
  | k + 1 => by
    show (E.drop n).getD k 0 = E.getD (n + k) 0
    rw [List.getD_eq_getElem?_getD, List.getD_eq_getElem?_getD, List.getElem?_drop]
theorem trimSt_eq (J : JD) (n : Nat) : trimSt J n = atJ J.st J.E n := by
  unfold trimSt
  cases n with
  | zero => rfl
  | succ n =>
    rw [decide_eq_true (show ((n + 1 : Nat) : Int) > 0 by omega), show (((n + 1 : Nat) : Int) - 1).toNat = n by omega]
    rfl
theorem trimX_jx {J : JD} (h : JX J) {n : Nat} (hn : n ≤ J.L.length) (hg : J.gen < 1073741824) (hp : J.P.length < 2000) : JX (trimX J n) := by
  have hd := dev_facts h.jr.dev
  have d1 := hd.lo
  have n0 := h.jr.b0
  have n1 := h.jr.bs
  have n2 := h.jr.sn
  have n3 := h.jr.nm
  have n4 := h.jr.room
  have n5 := h.jr.l1
  have n6 := h.jr.len
  have g0 := h.jr.g0
  have ha := at_le h hn
  have e1 : trimX J n = ⟨J.N, J.B, J.P ++ [((J.gen + 1).tmod 2, superB (J.gen + 1) J.ep (atJ J.st J.E n) J.lim)], J.gen + 1, J.ep, true, J.lim, atJ J.st J.E n, J.ba, J.nx, J.L.drop n, J.E.drop n⟩ := by
    unfold trimX
    rw [trimSt_eq, Int.toNat_natCast]
  rw [e1]
  have hm1 := Int.tmod_nonneg (b := 2) (show 0 ≤ J.gen + 1 by omega)
  have hm2 := Int.tmod_lt_of_pos (J.gen + 1) (show (0 : Int) < 2 by omega)
  refine jx_of (isDevB_write h.jr.dev hm1 (by omega) rfl (by omega)) (by show 1 ≤ J.gen + 1; omega) (by show J.gen + 1 ≤ _; omega) h.jr.e0 h.jr.e1 h.jr.b0 (by show J.ba ≤ atJ J.st J.E n; omega) (by show atJ J.st J.E n ≤ J.nx; omega) h.jr.nm h.jr.room h.jr.l0 h.jr.l1 (by show (J.E.drop n).length = (J.L.drop n).length; simp [n6]) ?_ ?_ ?_
  · intro k hk
    have hk' : k < (J.L.drop n).length := hk
    rw [List.length_drop] at hk'
    show entD? ((J.L.drop n).getD k EN.z) = true
    rw [List.getD_eq_getElem?_getD, List.getElem?_drop, ← List.getD_eq_getElem?_getD]
    exact jx_ent h (by omega)
  · intro k hk
    have hk' : k < (J.L.drop n).length := hk
    rw [List.length_drop] at hk'
    show (J.E.drop n).getD k 0 = atJ (atJ J.st J.E n) (J.E.drop n) k + secs (encD ((J.L.drop n).getD k EN.z)).length
    rw [atJ_drop, List.getD_eq_getElem?_getD, List.getElem?_drop, ← List.getD_eq_getElem?_getD, List.getD_eq_getElem?_getD (l := J.L.drop n), List.getElem?_drop, ← List.getD_eq_getElem?_getD]
    exact h.ex (n + k) (by omega)
  · show atJ (atJ J.st J.E n) (J.E.drop n) (J.L.drop n).length = J.nx
    rw [atJ_drop, List.length_drop, show n + (J.L.length - n) = J.L.length by omega, h.jr.fin]
theorem appJ_eq {J : JD} {e : EntD} (h : isJr J = true) (he : entD? e = true) (h1 : (nP (encD e) : Int) ≤ freeI J) (h2 : J.P.length + nP (encD e) ≤ 2000) : appJ J e = (appX J e, 0) := by
  unfold appJ
  rw [h, he, decide_eq_false (by omega), decide_eq_false (by omega)]; rfl
theorem trimJ_eq {J : JD} (h : isJr J = true) {n : Nat} (hn : n ≤ J.L.length) (hs : J.so = false) (hg : J.gen < 1073741824) (hp : J.P.length < 2000) : trimJ J n = (trimX J n, 0) := by
  unfold trimJ
  rw [h, decide_eq_false (show ¬ (n : Int) < 0 by omega), decide_eq_false (show ¬ (n : Int) > (J.L.length : Int) by omega), hs, show (J.gen == 1073741824) = false by rw [beq_eq_false_iff_ne]; omega, show ((J.P.length : Int) == 2000) = false by rw [beq_eq_false_iff_ne]; omega]
  rfl
theorem fmt_jx {n : Int} (h0 : 8 ≤ n) (h1 : n ≤ 4096) : fmtJ (newD n).1 = (⟨n, putAt (List.replicate (n * 64).toNat 0) 64 (superB 1 1 0 0), [], 1, 1, false, 0, 0, 0, 0, [], []⟩, 0) ∧ newD n = ((n, List.replicate (n * 64).toNat 0, []), 0) ∧ JX ⟨n, putAt (List.replicate (n * 64).toNat 0) 64 (superB 1 1 0 0), [], 1, 1, false, 0, 0, 0, 0, [], []⟩ := by
  have e1 : newD n = ((n, List.replicate (n * 64).toNat 0, []), 0) := by
    unfold newD
    rw [decide_eq_false (show ¬ n < 8 by omega), decide_eq_false (show ¬ n > 4096 by omega)]; rfl
  have hl : (List.replicate (n * 64).toNat (0 : Int)).length = (n * 64).toNat := List.length_replicate
  have dv : ∀ C : List Int, C.length = (n * 64).toNat → isDevB n C [] = true := fun C hC => by
    unfold isDevB
    rw [decide_eq_true (show n ≥ 8 from h0), decide_eq_true h1, wrap64 _ (by omega) (by omega), hC, show (((n * 64).toNat : Int) == n * 64) = true by rw [beq_iff_eq]; omega]
    rfl
  refine ⟨?_, e1, ?_⟩
  · rw [e1]
    unfold fmtJ isDevD
    simp only
    rw [dv _ hl, hl]
    rfl
  · refine jx_of (dv _ (by show (putAt _ 64 _).length = _; rw [putAt_len (by rw [superB_len, hl]; omega), hl])) (by simp) (by simp) (by simp) (by simp) (by simp) (by simp) (by simp) (by simp) (by show (0 : Int) - 0 ≤ n - 2; omega) (by simp) (by simp) rfl (fun k hk => by cases hk) (fun k hk => by cases hk) rfl
end Go.Ev
/- Nil slices in a block's cells, told as own blocks without cells. -/
namespace Go.Ev
def NilV (n wd : Nat) (v v' : AV) : Prop := v' = v ∨ (v = .val (.slice none 0 0) ∧ v' = .own n 0 0 none wd)
inductive NilL (n wd : Nat) : List AV → List AV → Prop
  | nil : NilL n wd [] []
  | cons {v v' : AV} {l l' : List AV} : NilV n wd v v' → NilL n wd l l' → NilL n wd (v :: l) (v' :: l')
theorem NilL.get {n wd : Nat} : ∀ {l l' : List AV}, NilL n wd l l' → ∀ (j : Nat) (v' : AV), l'[j]? = some v' → ∃ v, l[j]? = some v ∧ NilV n wd v v'
  | _, _, .nil, j, v', h => by simp at h
  | _, _, .cons h1 h2, 0, v', h => by simp at h; subst h; exact ⟨_, rfl, h1⟩
  | _, _, .cons h1 h2, j + 1, v', h => by obtain ⟨v, e, q⟩ := NilL.get h2 j v' (by simpa using h); exact ⟨v, by simpa using e, q⟩
theorem WeakP.nilCell {p : Nat} {t : List AV} {d : List Nat} {n : Nat} (es1 es2 : List Ent) {i0 v0 w : Nat} {r r' : List AV} {con : Con} (hk : (⟨n, es1 ++ ⟨i0, v0, .cells (.rows false w [r])⟩ :: es2⟩ : Heap).ok) (h0 : con.len = 0) (hr' : NilL n con.wd r r') :
    WeakP p ⟨t, d, ⟨n, es1 ++ ⟨i0, v0, .cells (.rows false w [r])⟩ :: es2⟩⟩ ⟨t, d, ⟨n + 1, ⟨n, 0, .cells con⟩ :: (es1 ++ ⟨i0, v0, .cells (.rows false w [r'])⟩ :: es2)⟩⟩ := by
  have hfind : ∀ j, findE (es1 ++ ⟨i0, v0, .cells (.rows false w [r'])⟩ :: es2) j = (findE (es1 ++ ⟨i0, v0, .cells (.rows false w [r])⟩ :: es2) j) ∨
      (∃ e, findE (es1 ++ ⟨i0, v0, .cells (.rows false w [r])⟩ :: es2) j = some e ∧ e.blk = .cells (.rows false w [r]) ∧ findE (es1 ++ ⟨i0, v0, .cells (.rows false w [r'])⟩ :: es2) j = some ⟨i0, v0, .cells (.rows false w [r'])⟩) := by
    intro j
    simp only [findE_append, findE_cons]
    cases findE es1 j with
    | some e => exact .inl rfl
    | none =>
      by_cases q : i0 = j
      · rw [if_pos q, if_pos q]
        exact .inr ⟨_, rfl, rfl, rfl⟩
      · rw [if_neg q, if_neg q]
        exact .inl rfl
  have hsome : ∀ j e', findE (es1 ++ ⟨i0, v0, .cells (.rows false w [r'])⟩ :: es2) j = some e' → j < n := by
    intro j e' h
    rcases hfind j with q | ⟨e, q, _, _⟩
    · rw [q] at h; exact hk.lt j e' h
    · exact hk.lt j e q
  have hok : (⟨n + 1, ⟨n, 0, .cells con⟩ :: (es1 ++ ⟨i0, v0, .cells (.rows false w [r'])⟩ :: es2)⟩ : Heap).ok := by
    refine ⟨?_, fun j e h => ?_⟩
    · have hu := hk.uniq
      unfold Uniq at *
      rw [List.map_cons, List.nodup_cons]
      have e1 : (es1 ++ ⟨i0, v0, .cells (.rows false w [r'])⟩ :: es2).map (·.id) = (es1 ++ ⟨i0, v0, .cells (.rows false w [r])⟩ :: es2).map (·.id) := by simp
      rw [e1]
      refine ⟨fun hm => ?_, hu⟩
      obtain ⟨x, hx, hxn⟩ := List.mem_map.1 hm
      have := hk.lt x.id x (findE_mem hk.uniq hx)
      simp only at hxn this
      omega
    · rw [findE_cons] at h
      split at h
      · rename_i q
        have q' : n = j := q
        show j < n + 1; omega
      · have := hsome j e h
        show j < n + 1; omega
  refine ⟨hok, fun w0 c a hr hv => ?_⟩
  have hv : ∀ id, c.V id → id < n := hv
  have hnv : ¬ c.V n := fun q => Nat.lt_irrefl _ (hv _ q)
  have hne : ∀ i, c.V i → i ≠ n := fun i hi e => hnv (e ▸ hi)
  let c2 : Cx := ⟨c.M, c.O, fun j => if j = n then ⟨false, 0, 0, con.wd, 0⟩ else c.ι j, fun j => c.V j ∨ j = n⟩
  have hx : Ext w0 c w0 c2 := ⟨⟨fun _ q => q, fun _ _ _ => rfl, fun i hi => ⟨.inl hi, if_neg (hne i hi)⟩⟩, rfl, rfl, rfl, Nat.le_refl _, fun _ _ _ => rfl, fun _ _ q => q, fun _ _ q => q, fun _ q q' => absurd q q'⟩
  have hι : c2.ι n = ⟨false, 0, 0, con.wd, 0⟩ := if_pos rfl
  have hG : ∀ i b, (⟨n + 1, ⟨n, 0, .cells con⟩ :: (es1 ++ ⟨i0, v0, .cells (.rows false w [r'])⟩ :: es2)⟩ : Heap).G i = some b → (i = n ∧ b = .cells con) ∨ (i ≠ n ∧ ((⟨n, es1 ++ ⟨i0, v0, .cells (.rows false w [r])⟩ :: es2⟩ : Heap).G i = some b ∨
      ((⟨n, es1 ++ ⟨i0, v0, .cells (.rows false w [r])⟩ :: es2⟩ : Heap).G i = some (.cells (.rows false w [r])) ∧ b = .cells (.rows false w [r'])))) := by
    intro i b hb
    simp only [Heap.G] at hb ⊢
    rw [findE_cons] at hb
    split at hb
    · rename_i q
      simp only [Option.map_some, Option.some.injEq] at hb
      exact .inl ⟨q.symm, hb.symm⟩
    · rename_i q
      refine .inr ⟨fun e => q e.symm, ?_⟩
      rcases hfind i with z | ⟨e, z1, z2, z3⟩
      · rw [z] at hb; exact .inl hb
      · rw [z3] at hb
        simp only [Option.map_some, Option.some.injEq] at hb
        exact .inr ⟨by rw [z1]; simp [z2], hb.symm⟩
  have old : ∀ i b, i ≠ n → (⟨n + 1, ⟨n, 0, .cells con⟩ :: (es1 ++ ⟨i0, v0, .cells (.rows false w [r'])⟩ :: es2)⟩ : Heap).G i = some b → ∃ b0, (⟨n, es1 ++ ⟨i0, v0, .cells (.rows false w [r])⟩ :: es2⟩ : Heap).G i = some b0 := by
    intro i b hi hb
    rcases hG i b hb with ⟨q, _⟩ | ⟨_, q | ⟨q, _⟩⟩
    · exact absurd q hi
    · exact ⟨_, q⟩
    · exact ⟨_, q⟩
  refine ⟨c2, ⟨VRs.mono hx.toExt0 hr.t, ?_, ?_, fun id hid => .inl (hr.dv id hid)⟩, hx.w, ?_, fun i _ hi => ⟨.inl hi, if_neg (hne i hi)⟩⟩
  · refine ⟨?_, ?_, ?_, hr.h.dis⟩
    · intro i b hb
      by_cases q : i = n
      · exact .inr q
      · obtain ⟨b0, hb0⟩ := old i b q hb
        exact .inl (hr.h.valid i b0 hb0)
    · intro i b hb
      rcases hG i b hb with ⟨rfl, rfl⟩ | ⟨q, hb1 | ⟨hb1, rfl⟩⟩
      · rw [hι]
        exact ⟨rfl, fun _ => h0, fun q => (by cases q), fun q => (by cases q)⟩
      · rw [show c2.ι i = c.ι i from if_neg q]
        exact BlkRel.keep hx.toExt0 (hr.h.blk i b hb1) (fun _ => rfl) (fun hl => (hr.h.blk i b hb1).owned hl)
      · rw [show c2.ι i = c.ι i from if_neg q]
        have hb0 : CellsRel w0 c (c.ι i) (.rows false w [r]) := hr.h.blk i _ hb1
        refine ⟨hb0.wd, hb0.dead, hb0.own, fun l => ?_⟩
        obtain ⟨arr, te, fz, a1, a2, a3, a4, a5, a6⟩ := hb0.arr l
        refine ⟨arr, te, fz, a1, a2, a3, a4, a5, ?_⟩
        intro k j v' u hk2 hj hv' hu
        have hk0 : k = 0 := by have : k < 1 := hk2; omega
        subst hk0
        have hv2 : r'[j]? = some v' := hv'
        obtain ⟨v, e1, e2⟩ := hr'.get j v' hv2
        have hold := a6 0 j v u hk2 hj e1 hu
        rcases e2 with rfl | ⟨rfl, rfl⟩
        · exact VR.mono hx.toExt0 hold
        · have hu0 := hold.val_inv
          subst hu0
          exact .own _ _ _ _ _ none 0 (.inr rfl) (by show (c2.ι n).wd = con.wd; rw [hι]) (Nat.le_refl _) (fun _ q => by cases q) (.inl rfl)
    · intro i j b b' hi hj li lj hbk
      have qi : i ≠ n := fun q => by rw [q, hι] at li; cases li
      have qj : j ≠ n := fun q => by rw [q, hι] at lj; cases lj
      obtain ⟨b1, h1⟩ := old i b qi hi
      obtain ⟨b2, h2⟩ := old j b' qj hj
      rw [show c2.ι i = c.ι i from if_neg qi] at li hbk
      rw [show c2.ι j = c.ι j from if_neg qj] at lj hbk
      exact hr.h.inj i j b1 b2 h1 h2 li lj hbk
  · show a.defers = marks c2 d
    rw [hr.d, marks_ids hx.ids hr.dv]
  · rintro id (q | q)
    · exact Nat.lt_succ_of_lt (hv id q)
    · rw [q]; exact Nat.lt_succ_self _
end Go.Ev
