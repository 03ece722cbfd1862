/- The evaluator, its soundness and the walks: part 9. -/
import Derived.Test.YtemblfgjamapbaaC8
set_option linter.unusedSectionVars false
set_option linter.unusedSimpArgs false
set_option linter.unusedVariables false
set_option maxRecDepth 100000
set_option maxRecDepth 1000000
noncomputable section
/- Memories: pages. -/
namespace Go.Ev
open Go.Proofs
abbrev PgD := Int × Int × List Int
def pgRow (p : PgD) : List AV := [.val (.int .i64 p.1), .val (.int .i64 p.2.1), .ro (.ints .u8 p.2.2) none]
def pgParse : List AV → PgD
  | [.val (.int .i64 n), .val (.int .i64 r), .ro (.ints .u8 b) _] => (n, r, b)
  | _ => (0, 0, [])
def pgIs : List AV → Bool
  | [.val (.int .i64 n), .val (.int .i64 r), .ro (.ints .u8 b) _] => true
  | _ => false
theorem pg_law (r : List AV) (h : pgIs r = true) (j : Nat) (v' : AV) (hv : (pgRow (pgParse r))[j]? = some v') : ∃ v, r[j]? = some v ∧ AW v v' := by
  unfold pgIs at h
  split at h
  · exact AWs.get (.cons (AW.refl _) (.cons (AW.refl _) (.cons (AW.cap _ _) .nil))) j v' hv
  · cases h
def PG : RowTy PgD := ⟨3, pgRow, pgParse, pgIs, (0, 0, []), pg_law, fun _ => rfl, fun _ => rfl⟩
def Try.E22 : Env := Try.env0 false (sumsOf []) (keepF 22 [(2, [0, 10, 11, 12]), (11, [6, 61, 62, 63])])
def Try.b22 : Code := nthD .skip (loopsOf (bodyOf Try.E22 22)) 0
def Try.c22 : Code := nthD .skip (loopsOf (bodyOf Try.E22 22)) 1
def Try.s22 (l : List PgD) (i : Int) : St := stOf 97 [0, 10, 11, 12] [.ro (PG.con l) none, .ro (PG.con l) none, .val (.int .i64 l.length), .val (.int .i64 i)] ⟨0, []⟩
def memE (id a b : Nat) : Ent := ⟨id, 0, .cells (.rows false 3 [[.val (.map none), .mp a, .mp b]])⟩
def Try.u22 (l : List PgD) (i : Int) (M O : MC) : St := stOf 97 [6, 61, 62, 63] [.ptr 0 0 0, .ro (PG.con l) none, .val (.int .i64 l.length), .val (.int .i64 i)] ⟨3, [⟨2, 0, .map true O⟩, ⟨1, 0, .map true M⟩, memE 0 1 2]⟩
def Try.no22 (l : List PgD) : Option (AX × St) := some (.ret, stOf 97 [0, 2, 3] [.ro (PG.con l) none, .val (.pointer none), .val (.int .i64 4)] ⟨0, []⟩)
def Try.ok22 (l : List PgD) (i : Int) : Option (AX × St) := some (.normal, Try.s22 l (IntKind.i64.wrap (i + 1)))
def Try.rb22 (l : List PgD) (p : PgD) (i : Int) : Option (AX × St) := bif decide (p.2.1 < 0) then Try.no22 l else bif decide (p.2.1 > 7) then Try.no22 l else bif (p.2.2.length : Int) != 256 then Try.no22 l else Try.ok22 l i
theorem Try.r22 (l : List PgD) (i : Int) : codeS Try.E22 (callF Try.E22 5) (Try.E22.keep 22) (lsumsOf []) Try.b22 (outK [0, 10, 11, 12] [0, 2, 3]) (Try.s22 l i) =
    bif decide (i < (l.length : Int)) then
     bif inR i l.length then
      bif decide ((l.getD i.toNat PG.z).1 < 0) then Try.no22 l
      else bif decide ((l.getD i.toNat PG.z).1 ≥ 16777216) then Try.no22 l
      else bif decide (i > 0) then
       bif inR (IntKind.i64.wrap (i - 1)) l.length then
        bif decide ((l.getD i.toNat PG.z).1 ≤ (l.getD (IntKind.i64.wrap (i - 1)).toNat PG.z).1) then Try.no22 l else Try.rb22 l (l.getD i.toNat PG.z) i
       else none
      else Try.rb22 l (l.getD i.toNat PG.z) i
     else none
    else some (.exit 0, stOf 97 [0] [.ro (PG.con l) none] ⟨0, []⟩) := by kernel_rfl
def kI (n : Int) : Value := .int .i64 n
def iD : TypeDesc := Try.ti3.desc
def me1 {ρ : Type} (z : AV) (M : MC) (k : Value) (F : MC → Nat → Option ρ) : Option ρ := searchK iD k M (fun i v => F (M.upd i (.mk k v (M.ent i).born)) (M.ent i).born) (F (M.push k z) M.clock)
def es1 {ρ : Type} (M : MC) (b : Nat) (v : AV) (F : MC → Option ρ) : Option ρ := searchS b M fun i => F (M.upd i (.mk (M.ent i).key v (M.ent i).born))
def rowsP (r : Int) : List (List AV) := flatRows (AV.agg (splice (ofVal Try.ti125.zero).cells 0 (AV.val (.int .i64 r)).cells)).cells
def pgQ (p : PgD) : Con := .rows true 1 (([[.val (.int .i64 p.2.1)]] ++ intRows .u8 (List.take (p.2.2.length.min 256) (List.drop 0 p.2.2))) ++ List.take ((rowsP p.2.1).length - (1 + p.2.2.length.min 256)) (List.drop (1 + p.2.2.length.min 256) (rowsP p.2.1)))
def Try.f22 (l : List PgD) (i : Int) (p : PgD) (M O : MC) : Option (AX × St) := some (.normal, stOf 97 [6, 61, 62, 63] [.ptr 0 0 0, .ro (PG.con l) none, .val (.int .i64 l.length), .val (.int .i64 (IntKind.i64.wrap (i + 1)))]
  ⟨5, [⟨4, 1, .cells (pgQ p)⟩, ⟨3, 1, .cells (.rows true 3 [pgRow p])⟩, ⟨2, 2, .map true O⟩, ⟨1, 2, .map false M⟩, memE 0 1 2]⟩)
theorem Try.q22 (l : List PgD) (i : Int) (n m : Nat) (f g : Nat → ME) (c d : Nat) : codeS Try.E22 (callF Try.E22 5) (Try.E22.keep 22) (lsumsOf []) Try.c22 (keepK [6, 61, 62, 63] [6]) (Try.u22 l i (.mtab n f c) (.mtab m g d)) =
    bif decide (i < (l.length : Int)) then
     bif inR i l.length then
      me1 (ofVal Try.ti122.zero) (.mtab n f c) (kI (l.getD i.toNat PG.z).1) (fun M b => es1 M b (.ptr 4 0 0) (fun M => me1 (ofVal Try.ti4.zero) (.mtab m g d) (kI (l.getD i.toNat PG.z).1) (fun O b => es1 O b (.val (.bool true)) (fun O => Try.f22 l i (l.getD i.toNat PG.z) M O))))
     else none
    else some (.exit 2, stOf 97 [6] [.ptr 0 0 0] ⟨3, [⟨2, 0, .map true (.mtab m g d)⟩, ⟨1, 0, .map true (.mtab n f c)⟩, memE 0 1 2]⟩) := by kernel_rfl
end Go.Ev
/- Memories: Load. -/
namespace Go.Ev
open Go.Proofs
theorem same_kI (a b : Int) : Instr.sameNow iD (kI a) (kI b) = some (a == b) := rfl
theorem rowsP_eq (r : Int) : rowsP r = [.val (.int .i64 r)] :: List.replicate 256 [.val (.int .u8 0)] := by kernel_rfl
def okPg (l : List PgD) (i : Nat) : Prop := 0 ≤ (l.getD i PG.z).1 ∧ (l.getD i PG.z).1 < 16777216 ∧ (0 < i → (l.getD (i - 1) PG.z).1 < (l.getD i PG.z).1) ∧ 0 ≤ (l.getD i PG.z).2.1 ∧ (l.getD i PG.z).2.1 ≤ 7 ∧ (l.getD i PG.z).2.2.length = 256
def okPs (l : List PgD) : Prop := ∀ i, i < l.length → okPg l i
def Try.L22 (l : List PgD) : LSum := atL (Try.s22 l 0) (.grd (Nat.ble l.length 1000) (.br (propB (okPs l)) (.out (.exit 0, stOf 97 [0] [.ro (PG.con l) none] ⟨0, []⟩)) (.out (.ret, stOf 97 [0, 2, 3] [.ro (PG.con l) none, .val (.pointer none), .val (.int .i64 4)] ⟨0, []⟩))))
def pgC (p : PgD) : Con := .tab 1 257 (fun i => [bif Nat.beq i 0 then .val (.int .i64 p.2.1) else .val (.int .u8 (p.2.2.getD (i - 1) 0))])
def fM (l : List PgD) (i : Nat) : ME := .mk (kI (l.getD i PG.z).1) (.rptr (pgC (l.getD i PG.z)) 0 0) i
def fO (l : List PgD) (i : Nat) : ME := .mk (kI (l.getD i PG.z).1) (.val (.bool true)) i
def pgM (l : List PgD) (k : Nat) : MC := .mtab k (fM l) k
def owM (l : List PgD) (k : Nat) : MC := .mtab k (fO l) k
def Try.t22 (l : List PgD) (k : Nat) : St := Try.u22 l k (pgM l k) (owM l k)
def Try.x22 (l : List PgD) : AX × St := (.exit 2, stOf 97 [6] [.ptr 0 0 0] ⟨3, [⟨2, 0, .map true (owM l l.length)⟩, ⟨1, 0, .map true (pgM l l.length)⟩, memE 0 1 2]⟩)
def Try.z22 (l : List PgD) : St := Try.u22 l 0 (.ents [] 0) (.ents [] 0)
def Try.K22 (l : List PgD) : LSum := atL (Try.z22 l) (.grd (Nat.ble l.length 1000 && propB (okPs l)) (.out (Try.x22 l)))
theorem Try.e22 : EnvOk2 Try.prog Try.E22 := Try.envOk false (sumsOf []) _ (fun g A h => by cases h)
theorem pB_f {p : Prop} (h : ¬ p) : propB p = false := @decide_eq_false _ (Classical.propDecidable _) h
theorem wrapU (k : Nat) (h : k < 9223372036854775807) : IntKind.i64.wrap ((k : Int) + 1) = ((k + 1 : Nat) : Int) := by rw [wrap64 _ (by omega) (by omega)]; omega
def Try.n22 (l : List PgD) : AX × St := bif propB (okPs l) then (AX.exit 0, stOf 97 [0] [.ro (PG.con l) none] ⟨0, []⟩) else (.ret, stOf 97 [0, 2, 3] [.ro (PG.con l) none, .val (.pointer none), .val (.int .i64 4)] ⟨0, []⟩)
def Try.B22 (s : St) : Option (AX × St) := codeS Try.E22 (callF Try.E22 5) (Try.E22.keep 22) (lsumsOf []) Try.b22 (outK [0, 10, 11, 12] [0, 2, 3]) s
def Try.good22 (l : List PgD) (k : Nat) : Prop := (∃ (x' : Nat) (s1 : St), Try.B22 (Try.s22 l k) = some (.normal, s1) ∧ Weak s1 (Try.s22 l x') ∧ (x' ≤ l.length ∧ ∀ i, i < x' → okPg l i) ∧ l.length - x' < l.length - k ∧ Try.n22 l = Try.n22 l) ∨ (∃ s1, Try.B22 (Try.s22 l k) = some ((Try.n22 l).1, s1) ∧ Weak s1 (Try.n22 l).2 ∧ (Try.n22 l).1 ≠ .normal)
theorem Try.l22 (l : List PgD) : ∀ s e s', s.h.ok → (Try.L22 l s).run = some (e, s') → Triple Try.prog (.loop Try.b22) s e s' := by
  refine atL_grd (fun hp => ?_)
  rw [Nat.ble_eq] at hp
  have hno : propB (okPs l) = false → Try.n22 l = (.ret, stOf 97 [0, 2, 3] [.ro (PG.con l) none, .val (.pointer none), .val (.int .i64 4)] ⟨0, []⟩) := fun h => by unfold Try.n22; rw [h]; rfl
  refine loop_at Try.e22 (d := 5) (g := 22) (ls := lsumsOf []) (c := Try.b22) trivial [0, 10, 11, 12] [0, 2, 3] (T := Nat)
    (fun k => Try.s22 l k) (fun k => k ≤ l.length ∧ ∀ i, i < k → okPg l i) (fun k => l.length - k) (fun _ => Try.n22 l) _ _ 0 ⟨Nat.zero_le _, fun i hi => by omega⟩ (Weak.refl heap0_ok) ?_ (fun k _ => heap0_ok) ?_
  · intro e s' h
    rw [Ans.run_br] at h
    unfold Try.n22
    cases hq : propB (okPs l) <;> rw [hq] at h <;> exact Option.some.inj h
  · rintro k ⟨h1, h2⟩
    show Try.good22 l k
    have key : Try.B22 (Try.s22 l k) = _ := Try.r22 l k
    by_cases h : k < l.length
    · rw [declt_nat, inR_nat, decide_eq_true h, Int.toNat_natCast] at key
      simp only [cond_true] at key
      have bad : ¬ okPg l k → Try.B22 (Try.s22 l k) = Try.no22 l → Try.good22 l k := by
        intro hb hk
        have hn := hno (pB_f (fun q => hb (q k h)))
        refine .inr ?_
        rw [hn]
        exact ⟨_, hk, Weak.refl heap0_ok, by show AX.ret ≠ .normal; simp⟩
      have rb : 0 ≤ (l.getD k PG.z).1 → (l.getD k PG.z).1 < 16777216 → (0 < k → (l.getD (k - 1) PG.z).1 < (l.getD k PG.z).1) → Try.B22 (Try.s22 l k) = Try.rb22 l (l.getD k PG.z) k → Try.good22 l k := by
        intro a1 a2 a3 hk
        unfold Try.rb22 at hk
        by_cases b1 : (l.getD k PG.z).2.1 < 0
        · rw [decide_eq_true b1] at hk; exact (bad (fun q => by have := q.2.2.2.1; omega) hk)
        by_cases b2 : (l.getD k PG.z).2.1 > 7
        · rw [decide_eq_false b1, decide_eq_true b2] at hk; exact (bad (fun q => by have := q.2.2.2.2.1; omega) hk)
        by_cases b3 : (l.getD k PG.z).2.2.length = 256
        · rw [decide_eq_false b1, decide_eq_false b2, show (((l.getD k PG.z).2.2.length : Int) != 256) = false by rw [b3]; rfl] at hk
          unfold Try.ok22 at hk
          rw [wrapU k (by omega)] at hk
          refine .inl ⟨k + 1, _, hk, Weak.refl heap0_ok, ⟨h, fun i hi => ?_⟩, by omega, rfl⟩
          rcases Nat.lt_or_ge i k with q | q
          · exact h2 i q
          · have : i = k := by omega
            subst this
            exact ⟨a1, a2, a3, by omega, by omega, b3⟩
        · rw [decide_eq_false b1, decide_eq_false b2, show (((l.getD k PG.z).2.2.length : Int) != 256) = true by rw [bne, Bool.not_eq_true', beq_eq_false_iff_ne]; omega] at hk
          exact (bad (fun q => b3 q.2.2.2.2.2) hk)
      by_cases a1 : (l.getD k PG.z).1 < 0
      · rw [decide_eq_true a1] at key; exact (bad (fun q => by have := q.1; omega) key)
      by_cases a2 : (l.getD k PG.z).1 ≥ 16777216
      · rw [decide_eq_false a1, decide_eq_true a2] at key; exact (bad (fun q => by have := q.2.1; omega) key)
      rw [decide_eq_false a1, decide_eq_false a2] at key
      by_cases a3 : 0 < k
      · rw [decide_eq_true (show (k : Int) > 0 by omega), wrap64 _ (by omega) (by omega), show (k : Int) - 1 = ((k - 1 : Nat) : Int) by omega, inR_nat, decide_eq_true (show k - 1 < l.length by omega), Int.toNat_natCast] at key
        by_cases a4 : (l.getD k PG.z).1 ≤ (l.getD (k - 1) PG.z).1
        · rw [decide_eq_true a4] at key; exact (bad (fun q => by have := q.2.2.1 a3; omega) key)
        · rw [decide_eq_false a4] at key
          exact rb (by omega) (by omega) (fun _ => by omega) key
      · rw [decide_eq_false (show ¬ (k : Int) > 0 by omega)] at key
        exact rb (by omega) (by omega) (fun q => absurd q a3) key
    · have e1 : k = l.length := by omega
      rw [declt_nat, decide_eq_false h] at key
      have hq : propB (okPs l) = true := propB_t (fun i hi => h2 i (by omega))
      have hn : Try.n22 l = (AX.exit 0, stOf 97 [0] [.ro (PG.con l) none] ⟨0, []⟩) := by unfold Try.n22; rw [hq]; rfl
      refine .inr ?_
      rw [hn]
      exact ⟨_, key, Weak.refl heap0_ok, by show (AX.exit 0) ≠ .normal; simp⟩
theorem ok_mono {l : List PgD} (h : okPs l) : ∀ j i, i < j → j < l.length → (l.getD i PG.z).1 < (l.getD j PG.z).1
  | 0, i, h1, _ => by omega
  | j + 1, i, h1, h2 => by
    have hj := (h (j + 1) h2).2.2.1 (by omega)
    rw [Nat.add_sub_cancel] at hj
    rcases Nat.lt_or_ge i j with q | q
    · have := ok_mono h j i q (by omega); omega
    · have : i = j := by omega
      subst this; exact hj
theorem me1_new {ρ : Type} {z : AV} {k : Nat} {f : Nat → ME} {a : Int} (hk : ∀ i, i < k → ∃ b, (f i).key = kI b ∧ b ≠ a) (F : MC → Nat → Option ρ) : me1 z (.mtab k f k) (kI a) F = F (.mtab (k + 1) (fun j => bif Nat.beq j k then .mk (kI a) z k else f j) (k + 1)) k := by
  have h1 : okKeys iD (kI a) k f = true := @decide_eq_true _ (Classical.propDecidable _) (fun i hi => by
    obtain ⟨b, hb, _⟩ := hk i hi
    rw [hb, same_kI]; rfl)
  have h2 : hasKey iD (kI a) k f = false := @decide_eq_false _ (Classical.propDecidable _) (fun ⟨i, hi, q⟩ => by
    obtain ⟨b, hb, hne⟩ := hk i hi
    rw [hb, same_kI] at q
    injection q with q
    rw [beq_iff_eq] at q
    exact hne q.symm)
  show guardB (okKeys iD (kI a) k f) (bif hasKey iD (kI a) k f then _ else _) = _
  rw [h1, h2]; rfl
theorem findIdx_upto {p : Nat → Bool} {k : Nat} (h1 : ∀ i, i < k → p i = false) (h2 : p k = true) : (List.range (k + 1)).findIdx p = k := by
  rw [List.range_succ, List.findIdx_append]
  have : (List.range k).findIdx p = (List.range k).length := List.findIdx_eq_length.2 (fun x hx => h1 x (List.mem_range.1 hx))
  rw [this, List.length_range]
  simp [h2]
theorem es1_new {ρ : Type} {k : Nat} {f : Nat → ME} {kv : Value} {z v : AV} (hb : ∀ i, i < k → (f i).born = i) (F : MC → Option ρ) : es1 (.mtab (k + 1) (fun j => bif Nat.beq j k then .mk kv z k else f j) (k + 1)) k v F = F (.mtab (k + 1) (fun j => bif Nat.beq j k then .mk kv v k else (bif Nat.beq j k then .mk kv z k else f j)) (k + 1)) := by
  have h1 : hasBorn k (k + 1) (fun j => bif Nat.beq j k then .mk kv z k else f j) = true := @decide_eq_true _ (Classical.propDecidable _) ⟨k, Nat.lt_succ_self k, by simp only [Nat.beq_refl]; rfl⟩
  have h2 : idxBorn k (k + 1) (fun j => bif Nat.beq j k then .mk kv z k else f j) = k := by
    refine findIdx_upto (fun i hi => ?_) (by simp only [Nat.beq_refl]; simp [ME.born])
    simp only [beqF (show i ≠ k by omega), cond_false, hb i hi]
    rw [beq_eq_false_iff_ne]; omega
  show guardB (hasBorn k (k + 1) _) (F (MC.upd _ (idxBorn k (k + 1) _) (.mk (MC.ent _ (idxBorn k (k + 1) _)).key v (MC.ent _ (idxBorn k (k + 1) _)).born))) = _
  rw [h1, h2]
  show F (.mtab (k + 1) (fun j => bif Nat.beq j k then .mk (bif Nat.beq k k then ME.mk kv z k else f k).key v (bif Nat.beq k k then ME.mk kv z k else f k).born else _) (k + 1)) = _
  simp only [Nat.beq_refl, cond_true]
  rfl
theorem pgQ_w {p : PgD} (h : p.2.2.length = 256) : ConW (pgQ p) (pgC p) := by
  have el : (intRows .u8 (List.take (p.2.2.length.min 256) (List.drop 0 p.2.2))).length = 256 := by
    have e : p.2.2.length.min 256 = 256 := by rw [h]; rfl
    rw [e, List.drop_zero, List.take_of_length_le (by omega)]
    simp [intRows, h]
  have er : (List.take ((rowsP p.2.1).length - (1 + p.2.2.length.min 256)) (List.drop (1 + p.2.2.length.min 256) (rowsP p.2.1))) = [] := by
    have e : p.2.2.length.min 256 = 256 := by rw [h]; rfl
    rw [e, rowsP_eq]
    simp
  refine ⟨rfl, ?_, fun i hi j v' hv => ⟨v', ?_, AW.refl _⟩⟩
  · show 257 = (([[AV.val (.int .i64 p.2.1)]] ++ intRows .u8 (List.take (p.2.2.length.min 256) (List.drop 0 p.2.2))) ++ _).length
    rw [er, List.append_nil, List.length_append, el]; rfl
  · have hi' : i < 257 := by
      have : i < (([[AV.val (.int .i64 p.2.1)]] ++ intRows .u8 (List.take (p.2.2.length.min 256) (List.drop 0 p.2.2))) ++ List.take ((rowsP p.2.1).length - (1 + p.2.2.length.min 256)) (List.drop (1 + p.2.2.length.min 256) (rowsP p.2.1))).length := hi
      rw [er, List.append_nil, List.length_append, el] at this
      simpa using this
    have hv' : [bif Nat.beq i 0 then AV.val (.int .i64 p.2.1) else .val (.int .u8 (p.2.2.getD (i - 1) 0))][j]? = some v' := hv
    show ((([[AV.val (.int .i64 p.2.1)]] ++ intRows .u8 (List.take (p.2.2.length.min 256) (List.drop 0 p.2.2))) ++ List.take ((rowsP p.2.1).length - (1 + p.2.2.length.min 256)) (List.drop (1 + p.2.2.length.min 256) (rowsP p.2.1))).getD i [])[j]? = some v'
    rw [er, List.append_nil]
    cases i with
    | zero => exact hv'
    | succ i =>
      have e : p.2.2.length.min 256 = 256 := by rw [h]; rfl
      rw [e, List.drop_zero, List.take_of_length_le (by omega), List.getD_eq_getElem?_getD, List.cons_append, List.nil_append, List.getElem?_cons_succ, ← List.getD_eq_getElem?_getD, intRows_get _ _ _ (by omega)]
      exact hv'
theorem t22_ok (l : List PgD) (k : Nat) : (Try.t22 l k).h.ok := heap_ok [2, 1, 0] rfl (by decide) (by decide)
theorem z22_weak (l : List PgD) : Weak (Try.z22 l) (Try.t22 l 0) := by
  have hk : (Try.z22 l).h.ok := heap_ok [2, 1, 0] rfl (by decide) (by decide)
  refine Weak.mapW (h := (Try.z22 l).h) (h' := (Try.t22 l 0).h) hk (t22_ok l 0) (Nat.le_refl _) (fun j b' hj => ?_)
  have hj' : (findE [⟨2, 0, .map true (owM l 0)⟩, ⟨1, 0, .map true (pgM l 0)⟩, memE 0 1 2] j).map (·.blk) = some b' := hj
  show ∃ b, (findE [⟨2, 0, .map true (.ents [] 0)⟩, ⟨1, 0, .map true (.ents [] 0)⟩, memE 0 1 2] j).map (·.blk) = some b ∧ _
  simp only [findE_cons, memE] at hj' ⊢
  by_cases h2 : 2 = j
  · rw [if_pos h2] at hj' ⊢
    simp only [Option.map_some, Option.some.injEq] at hj' ⊢
    subst hj'
    exact ⟨_, rfl, fun w c rb hb => MapRel.w0 hb rfl rfl (fun i hi => by cases hi)⟩
  · rw [if_neg h2] at hj' ⊢
    by_cases h1 : 1 = j
    · rw [if_pos h1] at hj' ⊢
      simp only [Option.map_some, Option.some.injEq] at hj' ⊢
      subst hj'
      exact ⟨_, rfl, fun w c rb hb => MapRel.w0 hb rfl rfl (fun i hi => by cases hi)⟩
    · rw [if_neg h1] at hj' ⊢
      exact ⟨b', hj', fun w c rb hb => hb⟩
def upM (f : Nat → ME) (kv : Value) (z v : AV) (k : Nat) : MC := .mtab (k + 1) (fun j => bif Nat.beq j k then .mk kv v k else (bif Nat.beq j k then .mk kv z k else f j)) (k + 1)
def Try.v22 (l : List PgD) (k : Nat) (es : List Ent) : St := stOf 97 [6, 61, 62, 63] [.ptr 0 0 0, .ro (PG.con l) none, .val (.int .i64 l.length), .val (.int .i64 ((k + 1 : Nat) : Int))] ⟨5, es⟩
def Try.m22 (l : List PgD) (k : Nat) : List Ent := [⟨4, 1, .cells (pgQ (l.getD k PG.z))⟩, ⟨3, 1, .cells (.rows true 3 [pgRow (l.getD k PG.z)])⟩, ⟨2, 2, .map true (upM (fO l) (kI (l.getD k PG.z).1) (ofVal Try.ti4.zero) (.val (.bool true)) k)⟩, ⟨1, 2, .map false (upM (fM l) (kI (l.getD k PG.z).1) (ofVal Try.ti122.zero) (.ptr 4 0 0) k)⟩, memE 0 1 2]
def Try.m22' (l : List PgD) (k : Nat) : List Ent := [⟨3, 0, .cells (.rows true 3 [pgRow (l.getD k PG.z)])⟩, ⟨2, 0, .map true (owM l (k + 1))⟩, ⟨1, 0, .map true (pgM l (k + 1))⟩, memE 0 1 2]
theorem v22_canon (l : List PgD) (k : Nat) : canon (some [6, 61, 62, 63]) (Try.v22 l k (Try.m22' l k)) = Try.t22 l (k + 1) := by kernel_rfl
theorem v22_weak (l : List PgD) (hl : okPs l) (k : Nat) (hk : k < l.length) : Weak (Try.v22 l k (Try.m22 l k)) (Try.t22 l (k + 1)) := by
  have h0 : (Try.v22 l k (Try.m22 l k)).h.ok := heap_ok [4, 3, 2, 1, 0] rfl (by decide) (by decide)
  have hlen : (l.getD k PG.z).2.2.length = 256 := (hl k hk).2.2.2.2.2
  have hcon := pgQ_w hlen
  have hpos : 0 < (pgQ (l.getD k PG.z)).len := by rw [← hcon.len]; show 0 < 257; omega
  have h1 : Weak (Try.v22 l k (Try.m22 l k)) (Try.v22 l k (Try.m22' l k)) := by
    refine Weak.freezeG (s := Try.v22 l k (Try.m22 l k)) (h' := ⟨5, Try.m22' l k⟩) h0 4 (pgQ (l.getD k PG.z)) rfl rfl (heap_ok [3, 2, 1, 0] rfl (by decide) (by decide)) (Nat.le_refl _) (fun w c c2 us t h => VRs.mono t.ext h) (fun j b' hj => ?_)
    have hj' : (findE (Try.m22' l k) j).map (·.blk) = some b' := hj
    show j ≠ 4 ∧ ∃ b, (findE (Try.m22 l k) j).map (·.blk) = some b ∧ _
    unfold Try.m22 Try.m22' at *
    simp only [findE_cons, memE] at hj' ⊢
    have n4 : (4 : Nat) ≠ j := by
      rintro rfl
      simp at hj'
    rw [if_neg n4]
    refine ⟨fun q => n4 q.symm, ?_⟩
    by_cases h3 : 3 = j
    · rw [if_pos h3] at hj' ⊢
      exact ⟨b', hj', fun w c c2 rb _ _ hb => hb⟩
    rw [if_neg h3] at hj' ⊢
    by_cases h2 : 2 = j
    · rw [if_pos h2] at hj' ⊢
      simp only [Option.map_some, Option.some.injEq] at hj' ⊢
      subst hj'
      refine ⟨_, rfl, fun w c c2 rb t _ hb => MapRel.w0 hb rfl rfl (fun i hi => ?_)⟩
      show (fO l i).key = (bif Nat.beq i k then ME.mk (kI (l.getD k PG.z).1) (.val (.bool true)) k else (bif Nat.beq i k then _ else fO l i)).key ∧ _ ∧ AW (bif Nat.beq i k then ME.mk (kI (l.getD k PG.z).1) (.val (.bool true)) k else (bif Nat.beq i k then _ else fO l i)).val (fO l i).val
      by_cases hik : i = k
      · subst hik
        simp only [Nat.beq_refl, cond_true]
        exact ⟨rfl, by show i = (bif Nat.beq i i then ME.mk (kI (l.getD i PG.z).1) (.val (.bool true)) i else _).born; rw [Nat.beq_refl]; rfl, AW.refl _⟩
      · have hb : Nat.beq i k = false := beqF hik
        simp only [hb, cond_false]
        exact ⟨trivial, by show (fO l i).born = (bif Nat.beq i k then _ else (bif Nat.beq i k then _ else fO l i)).born; rw [hb]; rfl, AW.refl _⟩
    rw [if_neg h2] at hj' ⊢
    by_cases h1 : 1 = j
    · rw [if_pos h1] at hj' ⊢
      simp only [Option.map_some, Option.some.injEq] at hj' ⊢
      subst hj'
      refine ⟨_, rfl, fun w c c2 rb t hb hb2 => MapRel.w (p' := true) t hb hb2 rfl rfl (fun i hi => ?_)⟩
      have hi' : i < k + 1 := hi
      show (fM l i).key = (bif Nat.beq i k then ME.mk (kI (l.getD k PG.z).1) (.ptr 4 0 0) k else (bif Nat.beq i k then _ else fM l i)).key ∧ (fM l i).born = (bif Nat.beq i k then ME.mk (kI (l.getD k PG.z).1) (.ptr 4 0 0) k else (bif Nat.beq i k then _ else fM l i)).born ∧ ∀ u, VR w c (bif Nat.beq i k then ME.mk (kI (l.getD k PG.z).1) (.ptr 4 0 0) k else (bif Nat.beq i k then _ else fM l i)).val u → VR w c2.none (fM l i).val u
      by_cases hik : i = k
      · subst hik
        simp only [Nat.beq_refl, cond_true]
        refine ⟨rfl, rfl, fun u hu => ?_⟩
        exact AW.rptr hcon 0 0 _ _ _ (t.ptr0 hpos hu)
      · have hb : Nat.beq i k = false := beqF hik
        simp only [hb, cond_false]
        refine ⟨trivial, trivial, fun u hu => ?_⟩
        exact noOwn0_rel rfl (t.keep hu)
    rw [if_neg h1] at hj' ⊢
    exact ⟨b', hj', fun w c c2 rb _ _ hb => hb⟩
  have h2 := Weak.canon h1.1 [6, 61, 62, 63]
  rw [v22_canon] at h2
  exact h1.trans h2
theorem x22_ok (l : List PgD) : (Try.x22 l).2.h.ok := heap_ok [2, 1, 0] rfl (by decide) (by decide)
theorem Try.k22 (l : List PgD) : ∀ s e s', s.h.ok → (Try.K22 l s).run = some (e, s') → Triple Try.prog (.loop Try.c22) s e s' := by
  intro s e s' hk hL
  obtain ⟨rfl, hA⟩ := atL_some hL
  rw [Ans.run_grd] at hA
  cases hd : (Nat.ble l.length 1000 && propB (okPs l)) with
  | false => rw [hd] at hA; cases hA
  | true =>
  rw [hd, cond_true] at hA
  have hA := Option.some.inj hA
  rw [Bool.and_eq_true, Nat.ble_eq] at hd
  obtain ⟨hlen, hp⟩ := hd
  have hl := propB_eq hp
  have hX := codeS_sound (ρ := AX × St) (callF_sound Try.e22 5) Try.e22.ok Try.e22.mix (Try.E22.keep 22) (lsumsOf []) Try.c22 trivial
  have key := loop_tripleK hX [6, 61, 62, 63] [6] (T := Nat) (fun k => Try.t22 l k) (fun k => k ≤ l.length) (fun k => l.length - k) (fun _ => Try.x22 l) (fun k _ => t22_ok l k) (fun k hk => by
    replace hk : k ≤ l.length := hk
    have r := Try.q22 l k k k (fM l) (fO l) k k
    by_cases h : k < l.length
    · have e1 : ∀ i, i < k → (l.getD i PG.z).1 ≠ (l.getD k PG.z).1 := fun i hi => by have := ok_mono hl k i hi h; omega
      rw [declt_nat, inR_nat, decide_eq_true h, Int.toNat_natCast, me1_new (f := fM l) (fun i hi => ⟨_, rfl, e1 i hi⟩), es1_new (f := fM l) (fun i hi => rfl), me1_new (f := fO l) (fun i hi => ⟨_, rfl, e1 i hi⟩), es1_new (f := fO l) (fun i hi => rfl)] at r
      unfold Try.f22 at r
      rw [wrapU k (by omega)] at r
      exact .inl ⟨k + 1, _, r, v22_weak l hl k h, h, by omega, rfl⟩
    · have e1 : k = l.length := by omega
      rw [declt_nat, decide_eq_false h] at r
      subst e1
      exact .inr ⟨_, r, Weak.refl (x22_ok l), by show (AX.exit 2) ≠ .normal; simp⟩) 0 (Nat.zero_le _)
  rw [show Try.x22 l = (e, s') from hA] at key
  exact Triple.weak (z22_weak l) key
def memV (l : List PgD) : AV := .rptr (.rows true 3 [[.val (.map none), .rmp (pgM l l.length), .rmp (owM l l.length)]]) 0 0
theorem Try.w22 (l : List PgD) : rootS Try.E22 5 22 (lsumsOf [(2, Try.L22 l), (11, Try.K22 l)]) [.ro (PG.con l) none] =
    bif isSt (Try.s22 l 0) (Try.s22 l 0) then
     bif Nat.ble l.length 1000 then
      bif propB (okPs l) then
       bif decide ((l.length : Int) > 2000) then some (.tup [.val (.pointer none), .val (.int .i64 2)], ⟨0, []⟩)
       else bif isSt (Try.z22 l) (Try.z22 l) then
        (bif Nat.ble l.length 1000 && propB (okPs l) then some (.tup [.ptr 0 0 0, .val (.int .i64 0)], ⟨3, [⟨2, 0, .map true (owM l l.length)⟩, ⟨1, 0, .map true (pgM l l.length)⟩, memE 0 1 2]⟩) else none) else none
      else some (.tup [.val (.pointer none), .val (.int .i64 4)], ⟨0, []⟩)
     else none
    else none := by kernel_rfl
theorem Try.al22 (l : List PgD) (hl : l.length ≤ 1000) : Alone Try.prog 22 [.ro (PG.con l) none] (bif propB (okPs l) then .tup [memV l, .val (.int .i64 0)] else .tup [.val (.pointer none), .val (.int .i64 4)]) ⟨0, []⟩ := by
  have run := fun v h2 => rootS_alone Try.e22 (d := 5) (g := 22) (ls := lsumsOf [(2, Try.L22 l), (11, Try.K22 l)]) (args := [.ro (PG.con l) none]) (v := v) (h2 := h2) (AllL.of2 (a := Try.b22) (b := Try.c22) (by kernel_rfl) (LsOk.of rfl rfl (Try.l22 l)) (LsOk.of rfl rfl (Try.k22 l)))
  have key := Try.w22 l
  rw [isSt_refl, isSt_refl, ble_t hl, decide_eq_false (show ¬ (l.length : Int) > 2000 by omega)] at key
  cases hp : propB (okPs l) with
  | false => rw [hp] at key; exact run _ _ key
  | true =>
    rw [hp] at key
    refine Alone.lend ?_ (run _ _ key)
    kernel_rfl
end Go.Ev
/- Stacks: returns and handlers' ends, by what they do to the stacks. -/
namespace Go.Ev
open Go.Proofs
end Go.Ev
/- Memories: ranges of addresses. -/
namespace Go.Ev
open Go.Proofs
def Try.E89 : Env := Try.env0 false (sumsOf []) (keepF 89 [(2, [4,7,8,9,14])])
def Try.rg89 : Code := nthD .skip (rangesOf (bodyOf Try.E89 89)) 0
def Try.E101 : Env := Try.env0 false (sumsOf []) (keepF 101 [(0, [0,1,2])])
def Try.b101 : Code := nthD .skip (loopsOf (bodyOf Try.E101 101)) 0
def bx1 (v : AV) : Blk := .cells (.rows true 1 [[v]])
def Try.s89 (l : List PgD) (at' n need : Int) : St := stOf 37 [4, 7, 8, 9, 14] [.ptr 0 0 0, .ptr 1 0 0, .ptr 2 0 0, .ptr 3 0 0, .clo (Fn.func 101) [] [.ptr 4 0 0, .ptr 5 0 0]] ⟨6, [⟨5, 0, bx1 (.val (.int .u32 at'))⟩, ⟨4, 0, bx1 (.val (.int .i64 n))⟩, ⟨3, 0, bx1 (.val (.bool false))⟩, ⟨2, 0, bx1 (.val (.int .u32 0))⟩, ⟨1, 0, bx1 (.val (.int .i64 need))⟩, ⟨0, 0, bx1 (memV l)⟩]⟩
def Try.T89 : List AV := placeL [4,7,8,9,14] [.ptr 2 0 0, .ptr 3 0 0, .ptr 4 0 0, .ptr 5 0 0, .clo (.func 101) [] [.ptr 6 0 0, .ptr 7 0 0]] 37 0
def Try.H89 (st : LoopState) (pend : Option Code) (l : List PgD) (at' n need r : Int) (b : Bool) : Heap := ⟨8, [⟨7, 0, bx1 (.val (.int .u32 at'))⟩, ⟨6, 0, bx1 (.val (.int .i64 n))⟩, ⟨5, 0, bx1 (.val (.bool b))⟩, ⟨4, 0, bx1 (.val (.int .u32 r))⟩, ⟨3, 0, bx1 (.val (.int .i64 need))⟩, ⟨2, 0, bx1 (memV l)⟩, ⟨1, 0, .defd⟩, ⟨0, 0, .loop st pend Try.T89 [15] (asg Try.rg89) (bdy Try.rg89) 1⟩]⟩
def Try.V101 (i j : Nat) : List AV := [.clo (.yield 0) [] [], .ptr i 0 0, .ptr j 0 0]
def Try.B101 (p : Nat) (s : St) : Option (AX × St) := codeP Try.E101 (callF Try.E101 5) (Try.E101.keep 101) (lsumsOf []) p Try.b101 (outKP p [0,1,2] []) s
def pcQ (at' : Int) : Int := IntKind.i64.wrap (IntKind.u32.wrap (at'.tdiv 256))
def pcF (at' : Int) : Int := IntKind.i64.wrap (at'.tmod 256)
def pcK (at' n : Int) : Int := if IntKind.i64.wrap (256 - pcF at') < n then IntKind.i64.wrap (256 - pcF at') else n
def pcA (at' n : Int) : Int := IntKind.u32.wrap (at' + IntKind.u32.wrap (pcK at' n))
def pcN (at' n : Int) : Int := IntKind.i64.wrap (n - pcK at' n)
def pgHas (l : List PgD) (q : Int) : Bool := hasKey iD (kI q) l.length (fM l)
def pgX (l : List PgD) (q : Int) : PgD := l.getD (idxKey iD (kI q) l.length (fM l)) PG.z
def pgLack (l : List PgD) (q need : Int) : Bool := IntKind.i64.wrap ((BitVec.ofInt 64 (pgX l q).2.1 &&& BitVec.ofInt 64 need).toNat : Int) != need
def pgBad (l : List PgD) (need at' : Int) : Bool := bif pgHas l (pcQ at') then pgLack l (pcQ at') need else true
def pcW (l : List PgD) (need : Int) : Nat → Int → Int → Int × Int × Bool
  | 0, a, n => (a, n, false)
  | k + 1, a, n => bif decide (n > 0) then (bif pgBad l need a then (a, n, true) else pcW l need k (pcA a n) (pcN a n)) else (a, n, false)
def pcE (l : List PgD) (need a n : Int) : Int × Int × Bool := pcW l need n.toNat a n
def Try.n89 (l : List PgD) (at' n need : Int) : Option (AX × St) := some (.normal, stOf 32 [0,1,2] (Try.V101 6 7) (Try.H89 .ready none l (pcA at' n) (pcN at' n) need 0 false))
def Try.y89 (l : List PgD) (at' n need : Int) : AX × St := (.ret, stOf 32 [] [] (Try.H89 .done (some .ret) l at' n need at' true))
def Try.x89 (l : List PgD) (at' n need : Int) : AX × St := (.exit 0, stOf 32 [] [] (Try.H89 .ready none l at' n need 0 false))
def Try.z89 (l : List PgD) (need : Int) (t : Int × Int × Bool) : AX × St := bif t.2.2 then Try.y89 l t.1 t.2.1 need else Try.x89 l t.1 t.2.1 need
theorem Try.r89 (l : List PgD) (at' n need : Int) : Try.B101 8 (stOf 32 [0,1,2] (Try.V101 6 7) (Try.H89 .ready none l at' n need 0 false)) =
    bif decide (n > 0) then
     bif okKeys iD (kI (pcQ at')) l.length (fM l) then
      bif pgHas l (pcQ at') then
       bif pgLack l (pcQ at') need then some (Try.y89 l at' n need) else Try.n89 l at' n need
      else some (Try.y89 l at' n need)
     else none
    else some (Try.x89 l at' n need) := by kernel_rfl
theorem okK (l : List PgD) (q : Int) (n : Nat) : okKeys iD (kI q) n (fM l) = true := @decide_eq_true _ (Classical.propDecidable _) fun i hi => by
  show (Instr.sameNow iD (kI q) (kI (l.getD i PG.z).1)).isSome = true
  rw [same_kI]; rfl
theorem Try.r89' (l : List PgD) (at' n need : Int) : Try.B101 8 (stOf 32 [0,1,2] (Try.V101 6 7) (Try.H89 .ready none l at' n need 0 false)) =
    bif decide (n > 0) then (bif pgBad l need at' then some (Try.y89 l at' n need) else Try.n89 l at' n need) else some (Try.x89 l at' n need) := by
  rw [Try.r89, okK]
  unfold pgBad
  cases pgHas l (pcQ at') <;> rfl
theorem pcF_lt (a : Int) : pcF a < 256 := by
  have h := Int.tmod_lt_of_pos a (show (0 : Int) < 256 by omega)
  have h2 := Int.lt_tmod_of_pos a (show (0 : Int) < 256 by omega)
  unfold pcF
  rw [wrap64 _ (by omega) (by omega)]; exact h
theorem pcF_gt (a : Int) : -256 < pcF a := by
  have h := Int.tmod_lt_of_pos a (show (0 : Int) < 256 by omega)
  have h2 := Int.lt_tmod_of_pos a (show (0 : Int) < 256 by omega)
  unfold pcF
  rw [wrap64 _ (by omega) (by omega)]; exact h2
theorem pcK_pos {a n : Int} (h : 0 < n) : 0 < pcK a n := by
  have h1 := pcF_lt a
  have h2 := pcF_gt a
  unfold pcK
  rw [wrap64 _ (by omega) (by omega)]
  split <;> omega
theorem pcK_le {a n : Int} : pcK a n ≤ n := by
  unfold pcK
  split <;> omega
theorem pcN_eq {a n : Int} (h : 0 < n) (h2 : n ≤ 1000000) : pcN a n = n - pcK a n := by
  have h1 := pcK_pos (a := a) h
  have h3 := pcK_le (a := a) (n := n)
  unfold pcN
  rw [wrap64 _ (by omega) (by omega)]
theorem Try.H89_ok (st : LoopState) (pend : Option Code) (l : List PgD) (at' n need r : Int) (b : Bool) : (Try.H89 st pend l at' n need r b).ok := heap_ok [7, 6, 5, 4, 3, 2, 1, 0] rfl (by decide) (by decide)
theorem Try.e101 : EnvOk2 Try.prog Try.E101 := Try.envOk false (sumsOf []) _ (fun g A h => by cases h)
def Try.L89 (l : List PgD) (at' n need : Int) : LSum := atL (stOf 32 [0,1,2] (Try.V101 6 7) (Try.H89 .ready none l at' n need 0 false)) (.grd (decide (n ≤ 65536)) (.br (pcE l need at' n).2.2 (.out (Try.y89 l (pcE l need at' n).1 (pcE l need at' n).2.1 need)) (.out (Try.x89 l (pcE l need at' n).1 (pcE l need at' n).2.1 need))))
theorem Try.l89 (l : List PgD) (at' n need : Int) : ∀ s x s', s.h.ok → (Try.L89 l at' n need s).run = some (x, s') → TripleP Try.prog 8 (.loop Try.b101) s x s' := by
  intro s x s' hk hL
  obtain ⟨rfl, hA⟩ := atL_some hL
  rw [Ans.run_grd, Ans.run_br] at hA
  cases hd : decide (n ≤ 65536) with
  | false => rw [hd] at hA; cases hA
  | true =>
  rw [hd, cond_true] at hA
  have hn := of_decide_eq_true hd
  have hz : Try.z89 l need (pcE l need at' n) = (x, s') := by
    unfold Try.z89
    cases hq : (pcE l need at' n).2.2 <;> rw [hq] at hA <;> exact Option.some.inj hA
  have hX := codeP_sound (ρ := AX × St) (p := 8) (callF_sound Try.e101 5) Try.e101.ok Try.e101.mix (Try.E101.keep 101) (lsumsOf []) Try.b101 trivial
  have key := loop_tripleP hX [0,1,2] [] (T := Nat × Int × Int) (fun t => stOf 32 [0,1,2] (Try.V101 6 7) (Try.H89 .ready none l t.2.1 t.2.2 need 0 false)) (fun t => t.2.2 ≤ t.1 ∧ t.1 ≤ 65536) (fun t => t.1) (fun t => Try.z89 l need (pcW l need t.1 t.2.1 t.2.2)) (fun t _ => Try.H89_ok _ _ _ _ _ _ _ _) (fun t ht => by
    obtain ⟨k, a, m⟩ := t
    obtain ⟨h1, h2⟩ := ht
    replace h1 : m ≤ k := h1
    replace h2 : k ≤ 65536 := h2
    have r := Try.r89' l a m need
    by_cases h0 : m > 0
    · obtain ⟨k, rfl⟩ : ∃ j, k = j + 1 := ⟨k - 1, by omega⟩
      rw [decide_eq_true h0] at r
      have e1 : pcW l need (k + 1) a m = bif pgBad l need a then (a, m, true) else pcW l need k (pcA a m) (pcN a m) := by
        show (bif decide (m > 0) then _ else _) = _
        rw [decide_eq_true h0]; rfl
      cases hb : pgBad l need a with
      | true =>
        rw [hb] at r e1
        refine .inr ?_
        show ∃ _, _
        rw [show (pcW l need (k + 1, a, m).1 (k + 1, a, m).2.1 (k + 1, a, m).2.2) = (a, m, true) from e1]
        exact ⟨_, r, WeakP.refl (Try.H89_ok _ _ _ _ _ _ _ _), by show AX.ret ≠ .normal; simp⟩
      | false =>
        rw [hb] at r e1
        have h3 := pcN_eq (a := a) h0 (by omega)
        have h4 := pcK_pos (a := a) h0
        refine .inl ⟨(k, pcA a m, pcN a m), _, r, WeakP.refl (Try.H89_ok _ _ _ _ _ _ _ _), ⟨by show pcN a m ≤ k; omega, by show k ≤ 65536; omega⟩, by show k < k + 1; omega, ?_⟩
        show Try.z89 l need (pcW l need k (pcA a m) (pcN a m)) = Try.z89 l need (pcW l need (k + 1) a m)
        rw [e1]; rfl
    · rw [decide_eq_false h0] at r
      have e1 : pcW l need k a m = (a, m, false) := by
        cases k with
        | zero => rfl
        | succ k => show (bif decide (m > 0) then _ else _) = _; rw [decide_eq_false h0]; rfl
      refine .inr ?_
      show ∃ _, _
      rw [show (pcW l need (k, a, m).1 (k, a, m).2.1 (k, a, m).2.2) = (a, m, false) from e1]
      exact ⟨_, r, WeakP.refl (Try.H89_ok _ _ _ _ _ _ _ _), by show (AX.exit 0) ≠ .normal; simp⟩) (n.toNat, at', n) ⟨by show n ≤ (n.toNat : Int); omega, by show n.toNat ≤ 65536; omega⟩
  have hz' : Try.z89 l need (pcW l need n.toNat at' n) = (x, s') := hz
  simp only [hz'] at key
  exact key
def Try.F101b (l : List PgD) (at' n need : Int) (args : List AV) (h : Heap) : Ans (AV × Heap) := .grd (isAH args h (Try.V101 6 7) (Try.H89 .ready none l at' n need 0 false)) (.grd (decide (n ≤ 65536))
  (.br (pcE l need at' n).2.2 (.out (.tup [], Try.H89 .done (some .ret) l (pcE l need at' n).1 (pcE l need at' n).2.1 need (pcE l need at' n).1 true)) (.out (.tup [], Try.H89 .ready none l (pcE l need at' n).1 (pcE l need at' n).2.1 need 0 false))))
def Try.A101b (l : List PgD) (at' n need : Int) : AFun := effA (Try.F101b l at' n need)
def Try.E89r (l : List PgD) (at' n need : Int) : Env := Try.env0 false (sumsOf [(101, Try.A101b l at' n need)]) (keepF 89 [(2, [4,7,8,9,14])])
def gdB {α : Type} (b c : Bool) (x y : Option α) : Option α := bif b then (bif c then x else y) else none
theorem Try.w101b (l : List PgD) (at' n need : Int) : rootR Try.E101 5 101 8 (lsumsOf [(0, Try.L89 l at' n need)]) (lsumsOf []) (outVP 8) (Try.V101 6 7) (Try.H89 .ready none l at' n need 0 false) =
 bif isSt (stOf 32 [0,1,2] (Try.V101 6 7) (Try.H89 .ready none l at' n need 0 false)) (stOf 32 [0,1,2] (Try.V101 6 7) (Try.H89 .ready none l at' n need 0 false)) then gdB (decide (n ≤ 65536)) (pcE l need at' n).2.2 (some (.tup [], Try.H89 .done (some .ret) l (pcE l need at' n).1 (pcE l need at' n).2.1 need (pcE l need at' n).1 true)) (some (.tup [], Try.H89 .ready none l (pcE l need at' n).1 (pcE l need at' n).2.1 need 0 false)) else none := by kernel_rfl
theorem Try.sum101b (l : List PgD) (at' n need : Int) : SumC Try.prog 101 (Try.A101b l at' n need) := by
  refine effSumR 101 ⟨Try.f101, _, Try.fnOk101.1, Try.fnOk101.2, rfl⟩ ?_
  intro args h v h2 hok hs
  unfold Try.F101b at hs
  rw [Ans.run_grd] at hs
  cases hb : isAH args h (Try.V101 6 7) (Try.H89 .ready none l at' n need 0 false) with
  | false => rw [hb] at hs; cases hs
  | true =>
  rw [hb, cond_true] at hs
  obtain ⟨rfl, rfl⟩ := isAH_eq hb
  refine rootR_alone Try.e101 (d := 5) (p := 8) (ls := lsumsOf [(0, Try.L89 l at' n need)]) (rs := lsumsOf []) outVP_weak (AllL.of1 (a := Try.b101) (by kernel_rfl) (LsOkP.of rfl rfl (Try.l89 l at' n need))) (AllL.of0 (by kernel_rfl)) (Try.H89_ok _ _ _ _ _ _ _ _) ((Try.w101b l at' n need).trans ?_)
  rw [isSt_refl, ← hs]
  rfl
def Try.s89r (r : Int) : St := ⟨placeL [8,9] [.ptr 0 0 0, .ptr 1 0 0] 37 0, [2], ⟨3, [⟨2, 0, .defd⟩, ⟨1, 0, bx1 (.val (.bool true))⟩, ⟨0, 0, bx1 (.val (.int .u32 r))⟩]⟩⟩
def Try.s89n (l : List PgD) (need : Int) : St := ⟨placeL [4,7,8,9] [.ptr 0 0 0, .ptr 1 0 0, .ptr 2 0 0, .ptr 3 0 0] 37 0, [4], ⟨5, [⟨4, 0, .defd⟩, ⟨3, 0, bx1 (.val (.bool false))⟩, ⟨2, 0, bx1 (.val (.int .u32 0))⟩, ⟨1, 0, bx1 (.val (.int .i64 need))⟩, ⟨0, 0, bx1 (memV l)⟩]⟩⟩
def Try.R89 (l : List PgD) (at' n need : Int) : LSum := atL (Try.s89 l at' n need) (.grd (decide (n ≤ 65536)) (.br (pcE l need at' n).2.2 (.out (.ret, Try.s89r (pcE l need at' n).1)) (.out (.normal, Try.s89n l need))))
theorem Try.g89 (l : List PgD) (at' n need : Int) : rangeK (Try.E89r l at' n need).strict (callF (Try.E89r l at' n need) 5) (ev (Try.s89 l at' n need).t (opn Try.rg89)) (prsA Try.rg89) (asg Try.rg89) (bdy Try.rg89) (outKP 0 [4,7,8,9] [8,9]) (Try.s89 l at' n need) =
 bif isAH (Try.V101 6 7) (Try.H89 .ready none l at' n need 0 false) (Try.V101 6 7) (Try.H89 .ready none l at' n need 0 false) then gdB (decide (n ≤ 65536)) (pcE l need at' n).2.2 (some (.ret, Try.s89r (pcE l need at' n).1)) (some (.normal, Try.s89n l need)) else none := by kernel_rfl
theorem Try.e89r (l : List PgD) (at' n need : Int) : EnvOk2 Try.prog (Try.E89r l at' n need) := Try.envOk false (sumsOf [(101, Try.A101b l at' n need)]) _ (sumsOf_ok (show AllS Try.prog [(101, Try.A101b l at' n need)] from ⟨Try.sum101b l at' n need, trivial⟩))
theorem Try.e89 : EnvOk2 Try.prog Try.E89 := Try.envOk false (sumsOf []) _ (fun g A h => by cases h)
theorem Try.rg89_eq : Try.rg89 = .rangeFunc (opn Try.rg89) (prsA Try.rg89) (asg Try.rg89) (bdy Try.rg89) := by kernel_rfl
theorem Try.s89r_ok (r : Int) : (Try.s89r r).h.ok := heap_ok [2, 1, 0] rfl (by decide) (by decide)
theorem Try.s89n_ok (l : List PgD) (need : Int) : (Try.s89n l need).h.ok := heap_ok [4, 3, 2, 1, 0] rfl (by decide) (by decide)
theorem gdB_or {α : Type} {b c : Bool} {x y r : α} (h : gdB b c (some x) (some y) = some r) : r = x ∨ r = y := by
  unfold gdB at h
  cases b
  · cases h
  · cases c
    · exact .inr (Option.some.inj h).symm
    · exact .inl (Option.some.inj h).symm
theorem gdB_run {α : Type} (b c : Bool) (x y : α) : (Ans.grd b (.br c (.out x) (.out y))).run = gdB b c (some x) (some y) := rfl
theorem Try.k89 (l : List PgD) (at' n need : Int) : RsOkP Try.prog 0 (lsumsOf [(2, Try.R89 l at' n need)]) Try.rg89 := by
  rw [Try.rg89_eq]
  show (match lsOf (lsumsOf [(2, Try.R89 l at' n need)]) (asg Try.rg89) with | some L => ∀ s e s', s.h.ok → (L s).run = some (e, s') → TripleP Try.prog 0 (.rangeFunc (opn Try.rg89) (prsA Try.rg89) (asg Try.rg89) (bdy Try.rg89)) s e s' | none => True)
  have e1 : lsOf (lsumsOf [(2, Try.R89 l at' n need)]) (asg Try.rg89) = some (Try.R89 l at' n need) := by kernel_rfl
  rw [e1]
  intro s x s' hk hL
  obtain ⟨rfl, hA⟩ := atL_some hL
  rw [gdB_run] at hA
  have key := Try.g89 l at' n need
  rw [isAH_refl] at key
  replace key := key.trans hA
  refine range_triple (Try.e89r l at' n need) hk key (WeakP.refl ?_)
  rcases gdB_or hA with h | h <;> (injection h with h1 h2; subst h2)
  · exact Try.s89r_ok _
  · exact Try.s89n_ok _ _
theorem Try.w89 (l : List PgD) (at' n need : Int) : rootR Try.E89 5 89 0 (lsumsOf []) (lsumsOf [(2, Try.R89 l at' n need)]) (outVP 0) [memV l, .val (.int .u32 at'), .val (.int .i64 n), .val (.int .i64 need)] ⟨0, []⟩ =
 bif isSt (Try.s89 l at' n need) (Try.s89 l at' n need) then gdB (decide (n ≤ 65536)) (pcE l need at' n).2.2 (some (.tup [.val (.int .u32 (pcE l need at' n).1), .val (.bool true)], ⟨0, []⟩)) (some (.tup [.val (.int .u32 0), .val (.bool false)], ⟨0, []⟩)) else none := by kernel_rfl
def badV (l : List PgD) (need at' n : Int) : AV := bif (pcE l need at' n).2.2 then .tup [.val (.int .u32 (pcE l need at' n).1), .val (.bool true)] else .tup [.val (.int .u32 0), .val (.bool false)]
theorem Try.al89 (l : List PgD) (at' n need : Int) (hn : n ≤ 65536) : Alone Try.prog 89 [memV l, .val (.int .u32 at'), .val (.int .i64 n), .val (.int .i64 need)] (badV l need at' n) ⟨0, []⟩ := by
  have run := fun v h2 => rootR_alone Try.e89 (d := 5) (g := 89) (p := 0) (ls := lsumsOf []) (rs := lsumsOf [(2, Try.R89 l at' n need)]) outVP_weak (AllL.of0 (by kernel_rfl)) (AllL.of1 (a := Try.rg89) (by kernel_rfl) (Try.k89 l at' n need)) heap0_ok (args := [memV l, .val (.int .u32 at'), .val (.int .i64 n), .val (.int .i64 need)]) (v := v) (h2 := h2)
  have key := Try.w89 l at' n need
  rw [isSt_refl] at key
  unfold gdB at key
  rw [decide_eq_true hn] at key
  unfold badV
  cases h : (pcE l need at' n).2.2 <;> (rw [h] at key; exact EffAlone.alone (run _ _ key))
def isV (v v0 : AV) : Bool := @decide (v = v0) (Classical.propDecidable _)
def S89 (l : List PgD) (args : List AV) : Ans (AV × Heap) := match args with
  | [v, .val (.int .u32 a), .val (.int .i64 n), .val (.int .i64 need)] => .grd (isV v (memV l) && decide (n ≤ 65536)) (.br (pcE l need a n).2.2 (.out (.tup [.val (.int .u32 (pcE l need a n).1), .val (.bool true)], ⟨0, []⟩)) (.out (.tup [.val (.int .u32 0), .val (.bool false)], ⟨0, []⟩)))
  | _ => .no
def Try.A89 (l : List PgD) : AFun := roA (S89 l)
theorem isV_refl (v : AV) : isV v v = true := @decide_eq_true _ (Classical.propDecidable _) rfl
theorem isV_eq {v v0 : AV} (q : isV v v0 = true) : v = v0 := @of_decide_eq_true _ (Classical.propDecidable _) q
theorem Try.sum89 (l : List PgD) : SumC Try.prog 89 (Try.A89 l) := by
  refine roSumR 89 ⟨Try.f89, _, Try.fnOk89.1, Try.fnOk89.2, rfl⟩ ?_
  intro args v h2 hs
  unfold S89 at hs
  split at hs
  · rename_i v0 a n need
    rw [gdB_run] at hs
    cases hb : (isV v0 (memV l) && decide (n ≤ 65536)) with
    | false => rw [hb] at hs; cases hs
    | true =>
      rw [hb] at hs
      rw [Bool.and_eq_true, decide_eq_true_eq] at hb
      obtain ⟨h1, hn⟩ := hb
      have h1 := isV_eq h1
      subst h1
      have key := Try.al89 l a n need hn
      unfold badV at key
      cases h : (pcE l need a n).2.2 <;> (rw [h] at hs key; have hs := Option.some.inj hs; injection hs with q1 q2; subst q1; subst q2; exact ⟨fun e he => by (cases he), key⟩)
  · cases hs
end Go.Ev
/- Memories: reading. -/
namespace Go.Ev
open Go.Proofs
def Try.E70 (l : List PgD) : Env := Try.env0 false (sumsOf [(89, Try.A89 l)]) (keepF 70 [(8, [4,13,40])])
def Try.rg70 : Code := nthD .skip (rangesOf (bodyOf (Try.E70 []) 70)) 0
def bC (O : List Int) : Con := .tab 1 O.length (fun i => [.val (.int .u8 (O.getD i 0))])
def Try.T70 : List AV := placeL [4,13,40] [.ptr 2 0 0, .ptr 3 0 0, .clo (.func 101) [] [.ptr 5 0 0, .ptr 6 0 0]] 62 0
def Try.Hl (st : LoopState) (pend : Option Code) : Ent := ⟨0, 0, .loop st pend Try.T70 [41] (asg Try.rg70) (bdy Try.rg70) 1⟩
def Try.H70 (l : List PgD) (at' n : Int) (C N : Nat) (con : Con) : Heap := ⟨7, [⟨6, 0, bx1 (.val (.int .u32 at'))⟩, ⟨5, 0, bx1 (.val (.int .i64 n))⟩, ⟨4, 0, .cells con⟩, ⟨3, 0, .cells (.rows false 1 [[.own 4 0 N (some C) 1]])⟩, ⟨2, 0, bx1 (memV l)⟩, ⟨1, 0, .defd⟩, Try.Hl .ready none]⟩
def pcT (a n : Int) : Int := IntKind.i64.wrap (pcF a + pcK a n)
def pcC (a n : Int) : Nat := (pcT a n).toNat - (pcF a).toNat
def pcCon (l : List PgD) (a n : Int) (O : List Int) : Con := .tab 1 (O.length + pcC a n) (fun i => bif i.blt O.length then [.val (.int .u8 (O.getD (0 + i) 0))] else [bif (1 + (pcF a).toNat + (i - O.length)).beq 0 then .val (.int .i64 (pgX l (pcQ a)).2.1) else .val (.int .u8 ((pgX l (pcQ a)).2.2.getD (1 + (pcF a).toNat + (i - O.length) - 1) 0))])
def g1 {α : Type} (a b c d e f : Bool) (x : Option α) : Option α := bif a then (bif b then (bif c then (bif d then (bif e then (bif f then x else none) else none) else none) else none) else none) else none
def Try.q70 (l : List PgD) (a n : Int) (C : Nat) (O : List Int) : Option (AX × St) :=
  g1 (okKeys iD (kI (pcQ a)) l.length (fM l)) (pgHas l (pcQ a)) (decide (0 ≤ pcT a n) && decide (pcT a n ≤ 256)) (decide (0 ≤ pcF a) && decide (pcF a ≤ ((pcT a n).toNat : Int))) ((0 + O.length).ble O.length) ((O.length + pcC a n).ble C)
    (some (.normal, stOf 32 [0, 1, 2] (Try.V101 5 6) (Try.H70 l (pcA a n) (pcN a n) C (O.length + pcC a n) (pcCon l a n O))))
def Try.s70 (l : List PgD) (a n : Int) (con : Con) : St := stOf 62 [4, 13, 40] [.ptr 0 0 0, .ptr 1 0 0, .clo (Fn.func 101) [] [.ptr 3 0 0, .ptr 4 0 0]] ⟨5, [⟨4, 0, bx1 (.val (.int .u32 a))⟩, ⟨3, 0, bx1 (.val (.int .i64 n))⟩, ⟨2, 0, .cells con⟩, ⟨1, 0, .cells (.rows false 1 [[.own 2 0 0 (some n.toNat) 1]])⟩, ⟨0, 0, bx1 (memV l)⟩]⟩
theorem Try.r70 (l : List PgD) (a n : Int) (C : Nat) (O : List Int) : Try.B101 7 (stOf 32 [0,1,2] (Try.V101 5 6) (Try.H70 l a n C O.length (bC O))) =
 bif decide (n > 0) then Try.q70 l a n C O else some (.exit 0, stOf 32 [] [] (Try.H70 l a n C O.length (bC O))) := by kernel_rfl
def gB (l : List PgD) (a n : Int) : List Int := (List.range (pcC a n)).map fun i => (pgX l (pcQ a)).2.2.getD ((pcF a).toNat + i) 0
def rdW (l : List PgD) : Nat → Int → Int → List Int
  | 0, _, _ => []
  | k + 1, a, n => bif decide (n > 0) then gB l a n ++ rdW l k (pcA a n) (pcN a n) else []
def rdE (l : List PgD) (a n : Int) : List Int := rdW l n.toNat a n
theorem gB_len (l : List PgD) (a n : Int) : (gB l a n).length = pcC a n := by simp [gB]
theorem pcF_nn {a : Int} (h : 0 ≤ a) : 0 ≤ pcF a := by
  have h1 := Int.tmod_lt_of_pos a (show (0 : Int) < 256 by omega)
  have h2 := Int.tmod_nonneg (256 : Int) h
  unfold pcF
  rw [wrap64 _ (by omega) (by omega)]; exact h2
theorem pcK_room {a n : Int} : pcK a n ≤ 256 - pcF a := by
  have h1 := pcF_lt a
  have h2 := pcF_gt a
  unfold pcK
  rw [wrap64 _ (by omega) (by omega)]
  split <;> omega
theorem pcT_eq {a n : Int} (h : 0 ≤ a) (hn : 0 < n) : pcT a n = pcF a + pcK a n := by
  have h1 := pcF_lt a
  have h2 := pcF_nn h
  have h3 := pcK_room (a := a) (n := n)
  have h4 := pcK_pos (a := a) hn
  unfold pcT
  rw [wrap64 _ (by omega) (by omega)]
theorem pcC_eq {a n : Int} (h : 0 ≤ a) (hn : 0 < n) : (pcC a n : Int) = pcK a n := by
  have h2 := pcF_nn h
  have h4 := pcK_pos (a := a) hn
  unfold pcC
  rw [pcT_eq h hn]
  omega
theorem Try.q70_ok {l : List PgD} {a n : Int} {C : Nat} {O : List Int} (h : 0 ≤ a) (hn : 0 < n) (hp : pgHas l (pcQ a) = true) (hO : O.length + n ≤ C) : Try.q70 l a n C O = some (.normal, stOf 32 [0, 1, 2] (Try.V101 5 6) (Try.H70 l (pcA a n) (pcN a n) C (O.length + pcC a n) (pcCon l a n O))) := by
  have h1 := pcF_lt a
  have h2 := pcF_nn h
  have h3 := pcK_room (a := a) (n := n)
  have h4 := pcK_pos (a := a) hn
  have h5 := pcT_eq h hn
  have h6 := pcC_eq h hn
  have h7 := pcK_le (a := a) (n := n)
  unfold Try.q70
  rw [okK, hp, decide_eq_true (show 0 ≤ pcT a n by omega), decide_eq_true (show pcT a n ≤ 256 by omega), decide_eq_true h2, decide_eq_true (show pcF a ≤ ((pcT a n).toNat : Int) by omega), Nat.zero_add, ble_t (Nat.le_refl _), ble_t (show O.length + pcC a n ≤ C by omega)]
  rfl
theorem pcCon_w (l : List PgD) (a n : Int) (O : List Int) : ConW (pcCon l a n O) (bC (O ++ gB l a n)) := by
  refine ⟨rfl, by show (O ++ gB l a n).length = O.length + pcC a n; simp [gB_len], fun i hi j v' hv => ⟨v', ?_, AW.refl _⟩⟩
  have hi' : i < O.length + pcC a n := hi
  have hv' : ([AV.val (.int .u8 ((O ++ gB l a n).getD i 0))] : List AV)[j]? = some v' := hv
  show (bif i.blt O.length then [AV.val (.int .u8 (O.getD (0 + i) 0))] else [bif (1 + (pcF a).toNat + (i - O.length)).beq 0 then AV.val (.int .i64 (pgX l (pcQ a)).2.1) else .val (.int .u8 ((pgX l (pcQ a)).2.2.getD (1 + (pcF a).toNat + (i - O.length) - 1) 0))])[j]? = some v'
  rcases Nat.lt_or_ge i O.length with q | q
  · rw [blt_t q, cond_true, Nat.zero_add]
    rw [List.getD_eq_getElem?_getD, List.getElem?_append_left q, ← List.getD_eq_getElem?_getD] at hv'
    exact hv'
  · rw [blt_f q, cond_false, beqF (show 1 + (pcF a).toNat + (i - O.length) ≠ 0 by omega), cond_false]
    have e : (O ++ gB l a n).getD i 0 = (pgX l (pcQ a)).2.2.getD (1 + (pcF a).toNat + (i - O.length) - 1) 0 := by
      rw [List.getD_eq_getElem?_getD, List.getElem?_append_right q]
      unfold gB
      rw [List.getElem?_map, List.getElem?_range (by omega)]
      show (pgX l (pcQ a)).2.2.getD ((pcF a).toNat + (i - O.length)) 0 = _
      rw [show 1 + (pcF a).toNat + (i - O.length) - 1 = (pcF a).toNat + (i - O.length) by omega]
    rw [e] at hv'
    exact hv'
theorem Try.H70_ok (l : List PgD) (a n : Int) (C N : Nat) (con : Con) : (Try.H70 l a n C N con).ok := heap_ok [6, 5, 4, 3, 2, 1, 0] rfl (by decide) (by decide)
theorem Try.H70_w {t : List AV} {d : List Nat} (l : List PgD) (a' n' a n : Int) (C : Nat) (O : List Int) : WeakP 7 ⟨t, d, Try.H70 l a' n' C (O.length + pcC a n) (pcCon l a n O)⟩ ⟨t, d, Try.H70 l a' n' C (O ++ gB l a n).length (bC (O ++ gB l a n))⟩ := by
  rw [List.length_append, gB_len]
  exact WeakP.heap (Try.H70_ok _ _ _ _ _ _) (.same _ (.same _ (.con 4 0 0 rfl (pcCon_w l a n O) (EsW.refl _))))
structure RdT where
  k : Nat
  a : Int
  n : Int
  O : List Int
def Try.X70 (l : List PgD) (need : Int) (C : Nat) (t : RdT) : AX × St := (.exit 0, stOf 32 [] [] (Try.H70 l (pcW l need t.k t.a t.n).1 (pcW l need t.k t.a t.n).2.1 C (t.O ++ rdW l t.k t.a t.n).length (bC (t.O ++ rdW l t.k t.a t.n))))
theorem pcA_nn (a n : Int) : 0 ≤ pcA a n := by
  unfold pcA IntKind.wrap
  simp only [IntKind.signed, Bool.false_eq_true, if_false]
  exact Int.emod_nonneg _ (by decide)
theorem pcW_step {l : List PgD} {need : Int} {k : Nat} {a n : Int} (h : n > 0) (hb : (pcW l need (k + 1) a n).2.2 = false) : pgBad l need a = false ∧ pcW l need (k + 1) a n = pcW l need k (pcA a n) (pcN a n) := by
  have e : pcW l need (k + 1) a n = bif pgBad l need a then (a, n, true) else pcW l need k (pcA a n) (pcN a n) := by
    show (bif decide (n > 0) then _ else _) = _
    rw [decide_eq_true h]; rfl
  rw [e] at hb ⊢
  cases hq : pgBad l need a with
  | true => rw [hq] at hb; cases hb
  | false => exact ⟨rfl, rfl⟩
theorem pcW_end {l : List PgD} {need : Int} {k : Nat} {a n : Int} (h : ¬ n > 0) : pcW l need k a n = (a, n, false) := by
  cases k with
  | zero => rfl
  | succ k => show (bif decide (n > 0) then _ else _) = _; rw [decide_eq_false h]; rfl
theorem rdW_end {l : List PgD} {k : Nat} {a n : Int} (h : ¬ n > 0) : rdW l k a n = [] := by
  cases k with
  | zero => rfl
  | succ k => show (bif decide (n > 0) then _ else _) = _; rw [decide_eq_false h]; rfl
theorem rdW_step {l : List PgD} {k : Nat} {a n : Int} (h : n > 0) : rdW l (k + 1) a n = gB l a n ++ rdW l k (pcA a n) (pcN a n) := by
  show (bif decide (n > 0) then _ else _) = _
  rw [decide_eq_true h]; rfl
theorem pgBad_has {l : List PgD} {need a : Int} (h : pgBad l need a = false) : pgHas l (pcQ a) = true := by
  unfold pgBad at h
  cases hq : pgHas l (pcQ a) with
  | true => rfl
  | false => rw [hq] at h; cases h
def okR (l : List PgD) (need a n : Int) : Bool := decide (0 ≤ a) && (decide (n ≤ 65536) && !(pcE l need a n).2.2)
def Try.O70 (l : List PgD) (need a n : Int) : Heap := Try.H70 l (pcE l need a n).1 (pcE l need a n).2.1 n.toNat (rdE l a n).length (bC (rdE l a n))
def Try.I70 (l : List PgD) (a n : Int) : Heap := Try.H70 l a n n.toNat 0 (bC [])
def Try.L70 (l : List PgD) (need a n : Int) : LSum := atL (stOf 32 [0,1,2] (Try.V101 5 6) (Try.I70 l a n)) (.grd (okR l need a n) (.out (.exit 0, stOf 32 [] [] (Try.O70 l need a n))))
theorem Try.l70 (l : List PgD) (need a n : Int) : ∀ s x s', s.h.ok → (Try.L70 l need a n s).run = some (x, s') → TripleP Try.prog 7 (.loop Try.b101) s x s' := by
  intro s x s' hk hL
  obtain ⟨rfl, hA⟩ := atL_some hL
  rw [Ans.run_grd] at hA
  cases hd : okR l need a n with
  | false => rw [hd] at hA; cases hA
  | true =>
  rw [hd, cond_true] at hA
  unfold okR at hd
  simp only [Bool.and_eq_true, decide_eq_true_eq, Bool.not_eq_true'] at hd
  obtain ⟨ha, hn, hbad⟩ := hd
  have hX := codeP_sound (ρ := AX × St) (p := 7) (callF_sound Try.e101 5) Try.e101.ok Try.e101.mix (Try.E101.keep 101) (lsumsOf []) Try.b101 trivial
  have key := loop_tripleP hX [0,1,2] [] (T := RdT) (fun t => stOf 32 [0,1,2] (Try.V101 5 6) (Try.H70 l t.a t.n n.toNat t.O.length (bC t.O))) (fun t => t.n ≤ t.k ∧ t.O.length + t.n ≤ n.toNat ∧ 0 ≤ t.a ∧ (pcW l need t.k t.a t.n).2.2 = false ∧ t.k ≤ 65536) (fun t => t.k) (fun t => Try.X70 l need n.toNat t) (fun t _ => Try.H70_ok _ _ _ _ _ _) (fun t ht => by
    obtain ⟨k, a, m, O⟩ := t
    obtain ⟨h1, h2, h3, h4, h5⟩ := ht
    replace h1 : m ≤ k := h1
    replace h2 : O.length + m ≤ n.toNat := h2
    replace h3 : 0 ≤ a := h3
    replace h4 : (pcW l need k a m).2.2 = false := h4
    replace h5 : k ≤ 65536 := h5
    have r := Try.r70 l a m n.toNat O
    by_cases h0 : m > 0
    · obtain ⟨k, rfl⟩ : ∃ j, k = j + 1 := ⟨k - 1, by omega⟩
      obtain ⟨h6, h7⟩ := pcW_step h0 h4
      rw [decide_eq_true h0, Try.q70_ok h3 h0 (pgBad_has h6) h2] at r
      have h8 := pcN_eq (a := a) h0 (by omega)
      have h9 := pcK_pos (a := a) h0
      have h10 := pcC_eq h3 h0
      have h11 := pcK_le (a := a) (n := m)
      refine .inl ⟨⟨k, pcA a m, pcN a m, O ++ gB l a m⟩, _, r, Try.H70_w l _ _ a m _ O, ⟨by show pcN a m ≤ k; omega, ?_, pcA_nn a m, ?_, by show k ≤ 65536; omega⟩, by show k < k + 1; omega, ?_⟩
      · show ((O ++ gB l a m).length : Int) + pcN a m ≤ n.toNat
        rw [List.length_append, gB_len]; omega
      · show (pcW l need k (pcA a m) (pcN a m)).2.2 = false
        rw [← h7]; exact h4
      · show Try.X70 l need n.toNat ⟨k, pcA a m, pcN a m, O ++ gB l a m⟩ = Try.X70 l need n.toNat ⟨k + 1, a, m, O⟩
        unfold Try.X70
        simp only [h7, rdW_step h0, List.append_assoc]
    · rw [decide_eq_false h0] at r
      refine .inr ?_
      show ∃ _, _
      have e : Try.X70 l need n.toNat ⟨k, a, m, O⟩ = (.exit 0, stOf 32 [] [] (Try.H70 l a m n.toNat O.length (bC O))) := by
        unfold Try.X70
        simp only [pcW_end h0, rdW_end h0, List.append_nil]
      rw [e]
      exact ⟨_, r, WeakP.refl (Try.H70_ok _ _ _ _ _ _), by show (AX.exit 0) ≠ .normal; simp⟩) ⟨n.toNat, a, n, []⟩ ⟨by show n ≤ (n.toNat : Int); omega, by show ((([] : List Int).length : Nat) : Int) + n ≤ n.toNat; simp; omega, ha, hbad, by show n.toNat ≤ 65536; omega⟩
  have hz : Try.X70 l need n.toNat ⟨n.toNat, a, n, []⟩ = (x, s') := by
    unfold Try.X70
    simp only [List.nil_append]; exact Option.some.inj hA
  simp only [hz] at key
  exact key
end Go.Ev
/- Memories: reading, as summaries. -/
namespace Go.Ev
open Go.Proofs
def Try.F101r (l : List PgD) (need a n : Int) (args : List AV) (h : Heap) : Ans (AV × Heap) := .grd (isAH args h (Try.V101 5 6) (Try.I70 l a n)) (.grd (okR l need a n) (.out (.tup [], Try.O70 l need a n)))
def Try.A101r (l : List PgD) (need a n : Int) : AFun := effA (Try.F101r l need a n)
def Try.E70r (l : List PgD) (need a n : Int) : Env := Try.env0 false (sumsOf [(101, Try.A101r l need a n), (89, Try.A89 l)]) (keepF 70 [(8, [4,13,40])])
theorem Try.w101r (l : List PgD) (need a n : Int) : rootR Try.E101 5 101 7 (lsumsOf [(0, Try.L70 l need a n)]) (lsumsOf []) (outVP 7) (Try.V101 5 6) (Try.I70 l a n) =
 bif isSt (stOf 32 [0,1,2] (Try.V101 5 6) (Try.I70 l a n)) (stOf 32 [0,1,2] (Try.V101 5 6) (Try.I70 l a n)) then (bif okR l need a n then some (.tup [], Try.O70 l need a n) else none) else none := by kernel_rfl
theorem Try.sum101r (l : List PgD) (need a n : Int) : SumC Try.prog 101 (Try.A101r l need a n) := by
  refine effSumR 101 ⟨Try.f101, _, Try.fnOk101.1, Try.fnOk101.2, rfl⟩ ?_
  intro args h v h2 hok hs
  unfold Try.F101r at hs
  rw [Ans.run_grd] at hs
  cases hb : isAH args h (Try.V101 5 6) (Try.I70 l a n) with
  | false => rw [hb] at hs; cases hs
  | true =>
  rw [hb, cond_true] at hs
  obtain ⟨rfl, rfl⟩ := isAH_eq hb
  refine rootR_alone Try.e101 (d := 5) (p := 7) (ls := lsumsOf [(0, Try.L70 l need a n)]) (rs := lsumsOf []) outVP_weak (AllL.of1 (a := Try.b101) (by kernel_rfl) (LsOkP.of rfl rfl (Try.l70 l need a n))) (AllL.of0 (by kernel_rfl)) (Try.H70_ok _ _ _ _ _ _) ((Try.w101r l need a n).trans ?_)
  rw [isSt_refl, ← hs]
  rfl
theorem Try.e70 (l : List PgD) : EnvOk2 Try.prog (Try.E70 l) := Try.envOk false (sumsOf [(89, Try.A89 l)]) _ (sumsOf_ok (show AllS Try.prog [(89, Try.A89 l)] from ⟨Try.sum89 l, trivial⟩))
theorem Try.e70r (l : List PgD) (need a n : Int) : EnvOk2 Try.prog (Try.E70r l need a n) := Try.envOk false (sumsOf [(101, Try.A101r l need a n), (89, Try.A89 l)]) _ (sumsOf_ok (show AllS Try.prog [(101, Try.A101r l need a n), (89, Try.A89 l)] from ⟨Try.sum101r l need a n, Try.sum89 l, trivial⟩))
theorem Try.rg70_eq : Try.rg70 = .rangeFunc (opn Try.rg70) (prsA Try.rg70) (asg Try.rg70) (bdy Try.rg70) := by kernel_rfl
def Try.s70n (l : List PgD) (n : Int) (O : List Int) : St := ⟨placeL [13] [.ptr 0 0 0] 62 0, [2], ⟨3, [⟨2, 0, .defd⟩, ⟨1, 0, .cells (bC O)⟩, ⟨0, 0, .cells (.rows false 1 [[.own 1 0 O.length (some n.toNat) 1]])⟩]⟩⟩
def zB (n : Int) : Con := .ints .u8 (List.replicate n.toNat (0 : Int))
def Try.R70 (l : List PgD) (need a n : Int) : LSum := atL (Try.s70 l a n (zB n)) (.grd (okR l need a n) (.out (.normal, Try.s70n l n (rdE l a n))))
theorem Try.g70 (l : List PgD) (need a n : Int) : rangeK (Try.E70r l need a n).strict (callF (Try.E70r l need a n) 5) (ev (Try.s70 l a n (bC [])).t (opn Try.rg70)) (prsA Try.rg70) (asg Try.rg70) (bdy Try.rg70) (outKP 0 [13] []) (Try.s70 l a n (bC [])) =
 bif isAH (Try.V101 5 6) (Try.I70 l a n) (Try.V101 5 6) (Try.I70 l a n) then (bif okR l need a n then some (.normal, Try.s70n l n (rdE l a n)) else none) else none := by kernel_rfl
theorem Try.s70_ok (l : List PgD) (a n : Int) (con : Con) : (Try.s70 l a n con).h.ok := heap_ok [4, 3, 2, 1, 0] rfl (by decide) (by decide)
theorem Try.s70n_ok (l : List PgD) (n : Int) (O : List Int) : (Try.s70n l n O).h.ok := heap_ok [2, 1, 0] rfl (by decide) (by decide)
theorem Try.s70_w (l : List PgD) (a n : Int) : WeakP 0 (Try.s70 l a n (zB n)) (Try.s70 l a n (bC [])) := by
  refine WeakP.cut (Try.s70_ok _ _ _ _) (.same _ (.same _ (.con 2 0 0 rfl ⟨rfl, by show 0 ≤ _; omega, fun i hi j v' hv => ?_⟩ (EsC.refl _))))
  exact absurd (show i < 0 from hi) (by omega)
theorem Try.k70 (l : List PgD) (need a n : Int) : RsOkP Try.prog 0 (lsumsOf [(8, Try.R70 l need a n)]) Try.rg70 := by
  rw [Try.rg70_eq]
  show (match lsOf (lsumsOf [(8, Try.R70 l need a n)]) (asg Try.rg70) with | some L => ∀ s e s', s.h.ok → (L s).run = some (e, s') → TripleP Try.prog 0 (.rangeFunc (opn Try.rg70) (prsA Try.rg70) (asg Try.rg70) (bdy Try.rg70)) s e s' | none => True)
  have e1 : lsOf (lsumsOf [(8, Try.R70 l need a n)]) (asg Try.rg70) = some (Try.R70 l need a n) := by kernel_rfl
  rw [e1]
  intro s x s' hk hL
  obtain ⟨rfl, hA⟩ := atL_some hL
  rw [Ans.run_grd] at hA
  have key := Try.g70 l need a n
  rw [isAH_refl] at key
  cases hd : okR l need a n with
  | false => rw [hd] at hA; cases hA
  | true =>
    rw [hd] at hA key
    have hA := Option.some.inj hA
    injection hA with h1 h2
    subst h1; subst h2
    exact TripleP.weak (Try.s70_w l a n) (range_triple (Try.e70r l need a n) (Try.s70_ok _ _ _ _) key (WeakP.refl (Try.s70n_ok _ _ _)))
def w70o {α : Type} (l : List PgD) (need a n : Int) (x y : Option α) (z : Bool → Option α) : Option α :=
  bif decide (n < 0) then x else bif decide (n > 65536) then x
  else bif isV (memV l) (memV l) && decide (n ≤ 65536) then (bif (pcE l need a n).2.2 then y else bif decide (0 ≤ n) && decide (n * 1 ≤ 1099511627776) && decide (n ≤ 1099511627776) then (bif isSt (Try.s70 l a n (zB n)) (Try.s70 l a n (zB n)) then z (okR l need a n) else none) else none) else none
def rdNo (a : Int) : AV := .tup [.val (.slice none 0 0), .val (.int .u32 a), .val (.bool false)]
def rdYes (O : List Int) : AV := .tup [.ro (bC O) none, .val (.int .u32 0), .val (.bool true)]
def rdV (l : List PgD) (need a n : Int) : AV := bif decide (n < 0) then rdNo a else bif decide (n > 65536) then rdNo a
  else bif (pcE l need a n).2.2 then rdNo (pcE l need a n).1 else rdYes (rdE l a n)
theorem Try.w70 (l : List PgD) (need a n : Int) : rootR (Try.E70 l) 5 70 0 (lsumsOf []) (lsumsOf [(8, Try.R70 l need a n)]) (outVP 0) [memV l, .val (.int .u32 a), .val (.int .i64 n), .val (.int .i64 need)] ⟨0, []⟩ =
 w70o l need a n (some (rdNo a, ⟨0, []⟩)) (some (rdNo (pcE l need a n).1, ⟨0, []⟩)) (fun b => bif b then some (.tup [.own 0 0 (rdE l a n).length (some n.toNat) 1, .val (.int .u32 0), .val (.bool true)], ⟨1, [⟨0, 0, .cells (bC (rdE l a n))⟩]⟩) else none) := by kernel_rfl
theorem Try.al70 (l : List PgD) (need a n : Int) (ha : 0 ≤ a) : Alone Try.prog 70 [memV l, .val (.int .u32 a), .val (.int .i64 n), .val (.int .i64 need)] (rdV l need a n) ⟨0, []⟩ := by
  have run := fun v h2 => rootR_alone (Try.e70 l) (d := 5) (g := 70) (p := 0) (ls := lsumsOf []) (rs := lsumsOf [(8, Try.R70 l need a n)]) outVP_weak (AllL.of0 (by kernel_rfl)) (AllL.of1 (a := Try.rg70) (by kernel_rfl) (Try.k70 l need a n)) heap0_ok (args := [memV l, .val (.int .u32 a), .val (.int .i64 n), .val (.int .i64 need)]) (v := v) (h2 := h2)
  have key := Try.w70 l need a n
  unfold w70o at key
  rw [isSt_refl, isV_refl] at key
  unfold rdV
  by_cases h1 : n < 0
  · rw [decide_eq_true h1] at key ⊢
    exact EffAlone.alone (run _ _ key)
  by_cases h2 : n > 65536
  · rw [decide_eq_false h1, decide_eq_true h2] at key
    rw [decide_eq_false h1, decide_eq_true h2]
    exact EffAlone.alone (run _ _ key)
  rw [decide_eq_false h1, decide_eq_false h2, decide_eq_true (show n ≤ 65536 by omega), decide_eq_true (show 0 ≤ n by omega), decide_eq_true (show n * 1 ≤ 1099511627776 by omega), decide_eq_true (show n ≤ 1099511627776 by omega)] at key
  rw [decide_eq_false h1, decide_eq_false h2]
  cases h3 : (pcE l need a n).2.2 with
  | true => rw [h3] at key; exact EffAlone.alone (run _ _ key)
  | false =>
    have h4 : okR l need a n = true := by
      unfold okR
      rw [h3, decide_eq_true ha, decide_eq_true (show n ≤ 65536 by omega)]; rfl
    rw [h3, h4] at key
    have k := EffAlone.alone (run _ _ key)
    refine Alone.resW (v := .tup [.ro (bC (rdE l a n)) (some n.toNat), .val (.int .u32 0), .val (.bool true)]) (AW.tup (.cons (AW.cap _ _) (AWs.refl _))) (Alone.fz1 (con := bC (rdE l a n)) rfl rfl (.tup (.cons (.inr (.inl ⟨some n.toNat, rfl, rfl⟩)) (FzL.refl _ _ _))) k)
def S70 (l : List PgD) (args : List AV) : Ans (AV × Heap) := match args with
  | [v, .val (.int .u32 a), .val (.int .i64 n), .val (.int .i64 need)] => .grd (isV v (memV l) && decide (0 ≤ a)) (.br (decide (n < 0)) (.out (rdNo a, ⟨0, []⟩)) (.br (decide (n > 65536)) (.out (rdNo a, ⟨0, []⟩)) (.br (pcE l need a n).2.2 (.out (rdNo (pcE l need a n).1, ⟨0, []⟩)) (.out (rdYes (rdE l a n), ⟨0, []⟩)))))
  | _ => .no
def Try.A70 (l : List PgD) : AFun := roA (S70 l)
theorem Try.sum70 (l : List PgD) : SumC Try.prog 70 (Try.A70 l) := by
  refine roSumR 70 ⟨Try.f70, _, Try.fnOk70.1, Try.fnOk70.2, rfl⟩ ?_
  intro args v h2 hs
  unfold S70 at hs
  split at hs
  · rename_i v0 a n need
    rw [Ans.run_grd] at hs
    cases hb : (isV v0 (memV l) && decide (0 ≤ a)) with
    | false => rw [hb] at hs; cases hs
    | true =>
      rw [hb, cond_true, Ans.run_br, Ans.run_br, Ans.run_br] at hs
      rw [Bool.and_eq_true, decide_eq_true_eq] at hb
      obtain ⟨h1, ha⟩ := hb
      have h1 := isV_eq h1
      subst h1
      have key := Try.al70 l need a n ha
      unfold rdV at key
      cases g1 : decide (n < 0) <;> cases g2 : decide (n > 65536) <;> cases g3 : (pcE l need a n).2.2 <;> (rw [g1, g2, g3] at hs; rw [g1, g2, g3] at key; have hs := Option.some.inj hs; injection hs with q1 q2; subst q1; subst q2; exact ⟨fun e he => by (cases he), key⟩)
  · cases hs
end Go.Ev
/- Instructions: what fields operations have. -/
namespace Go.Ev
open Go.Proofs
def Try.E97 : Env := Try.env0 false (sumsOf []) (keepF 97 [])
def Try.r97 (op : Int) : Option (AV × Heap) := rootS Try.E97 5 97 (lsumsOf []) [.val (.int .i64 op)]
structure Room where
  a : Int
  b : Int
  c : Int
  d : Int
  k : Bool
  i : Bool
def roomV (r : Room) (is : Bool) : AV := .tup [.agg [.val (.int .i64 r.a), .val (.int .i64 r.b), .val (.int .i64 r.c), .val (.int .i64 r.d), .val (.bool r.k), .val (.bool r.i)], .val (.bool is)]
def rooms : List (Room × Bool) := [(⟨0, 0, 0, 0, false, false⟩, false), (⟨0, 0, 0, 0, false, false⟩, true), (⟨15, 15, 0, 0, false, false⟩, true), (⟨15, 15, 15, 0, false, false⟩, true), (⟨15, 15, 0, 0, true, false⟩, true), (⟨15, 15, 0, 3, false, false⟩, true), (⟨0, 15, 15, 0, false, false⟩, true), (⟨0, 15, 0, 0, true, false⟩, true), (⟨15, 15, 15, 15, false, false⟩, true), (⟨15, 0, 0, 15, false, false⟩, true), (⟨15, 0, 0, 0, false, false⟩, true), (⟨15, 15, 15, 0, true, false⟩, true), (⟨0, 15, 0, 0, false, false⟩, true), (⟨7, 15, 0, 0, true, false⟩, true), (⟨7, 7, 0, 0, false, false⟩, true), (⟨7, 7, 7, 2, false, false⟩, true), (⟨7, 7, 7, 0, false, false⟩, true), (⟨7, 15, 0, 3, false, false⟩, true), (⟨15, 7, 0, 3, false, false⟩, true), (⟨7, 15, 0, 0, false, false⟩, true), (⟨15, 7, 0, 0, false, false⟩, true), (⟨15, 0, 0, 0, false, true⟩, true), (⟨15, 15, 0, 0, false, true⟩, true), (⟨0, 0, 0, 0, false, true⟩, true), (⟨0, 0, 0, 15, false, true⟩, true), (⟨15, 15, 15, 3, false, true⟩, true), (⟨0, 15, 0, 0, false, true⟩, true)]
def roomN : List Nat := [0, 1, 2, 3, 3, 3, 3, 3, 3, 3, 3, 3, 3, 3, 3, 3, 3, 3, 4, 2, 2, 5, 6, 6, 7, 8, 9, 4, 4, 4, 4, 4, 4, 4, 10, 10, 4, 11, 4, 1, 12, 12, 1, 1, 1, 1, 10, 12, 13, 13, 14, 15, 15, 15, 16, 16, 16, 16, 17, 18, 19, 20, 0, 0, 21, 22, 23, 24, 23, 22, 22, 25, 26, 0, 0, 0, 0, 0, 0, 0, 0, 0, 0, 0, 0, 0, 0, 0, 0, 0, 0, 0, 0, 0, 0, 0, 0, 0, 0, 0, 0, 0, 0, 0, 0, 0, 0, 0, 0, 0, 0, 0, 0, 0, 0, 0, 0, 0, 0, 0, 0, 0, 0, 0, 0, 0, 0, 0, 0, 0, 0, 0, 0, 0, 0, 0, 0, 0, 0, 0, 0, 0, 0, 0, 0, 0, 0, 0, 0, 0, 0, 0, 0, 0, 0, 0, 0, 0, 0, 0, 0, 0, 0, 0, 0, 0, 0, 0, 0, 0, 0, 0, 0, 0, 0, 0, 0, 0, 0, 0, 0, 0, 0, 0, 0, 0, 0, 0, 0, 0, 0, 0, 0, 0, 0, 0, 0, 0, 0, 0, 0, 0, 0, 0, 0, 0, 0, 0, 0, 0, 0, 0, 0, 0, 0, 0, 0, 0, 0, 0, 0, 0, 0, 0, 0, 0, 0, 0, 0, 0, 0, 0, 0, 0, 0, 0, 0, 0, 0, 0, 0, 0, 0, 0, 0, 0, 0, 0, 0, 0, 0, 0, 0, 0, 0, 0]
def roomZ : Room × Bool := (⟨0, 0, 0, 0, false, false⟩, false)
def roomOf (op : Nat) : Room × Bool := rooms.getD (roomN.getD op 0) roomZ
def room97 (op : Nat) : Prop := Try.r97 op = some (roomV (roomOf op).1 (roomOf op).2, ⟨0, []⟩)
theorem room_0 : room97 0 := by unfold room97; kernel_rfl
theorem room_1 : room97 1 := by unfold room97; kernel_rfl
theorem room_2 : room97 2 := by unfold room97; kernel_rfl
theorem room_3 : room97 3 := by unfold room97; kernel_rfl
theorem room_4 : room97 4 := by unfold room97; kernel_rfl
theorem room_5 : room97 5 := by unfold room97; kernel_rfl
theorem room_6 : room97 6 := by unfold room97; kernel_rfl
theorem room_7 : room97 7 := by unfold room97; kernel_rfl
theorem room_8 : room97 8 := by unfold room97; kernel_rfl
theorem room_9 : room97 9 := by unfold room97; kernel_rfl
theorem room_10 : room97 10 := by unfold room97; kernel_rfl
theorem room_11 : room97 11 := by unfold room97; kernel_rfl
theorem room_12 : room97 12 := by unfold room97; kernel_rfl
theorem room_13 : room97 13 := by unfold room97; kernel_rfl
theorem room_14 : room97 14 := by unfold room97; kernel_rfl
theorem room_15 : room97 15 := by unfold room97; kernel_rfl
theorem room_16 : room97 16 := by unfold room97; kernel_rfl
theorem room_17 : room97 17 := by unfold room97; kernel_rfl
theorem room_18 : room97 18 := by unfold room97; kernel_rfl
theorem room_19 : room97 19 := by unfold room97; kernel_rfl
theorem room_20 : room97 20 := by unfold room97; kernel_rfl
theorem room_21 : room97 21 := by unfold room97; kernel_rfl
theorem room_22 : room97 22 := by unfold room97; kernel_rfl
theorem room_23 : room97 23 := by unfold room97; kernel_rfl
theorem room_24 : room97 24 := by unfold room97; kernel_rfl
theorem room_25 : room97 25 := by unfold room97; kernel_rfl
theorem room_26 : room97 26 := by unfold room97; kernel_rfl
theorem room_27 : room97 27 := by unfold room97; kernel_rfl
theorem room_28 : room97 28 := by unfold room97; kernel_rfl
theorem room_29 : room97 29 := by unfold room97; kernel_rfl
theorem room_30 : room97 30 := by unfold room97; kernel_rfl
theorem room_31 : room97 31 := by unfold room97; kernel_rfl
theorem room_32 : room97 32 := by unfold room97; kernel_rfl
theorem room_33 : room97 33 := by unfold room97; kernel_rfl
theorem room_34 : room97 34 := by unfold room97; kernel_rfl
theorem room_35 : room97 35 := by unfold room97; kernel_rfl
theorem room_36 : room97 36 := by unfold room97; kernel_rfl
theorem room_37 : room97 37 := by unfold room97; kernel_rfl
theorem room_38 : room97 38 := by unfold room97; kernel_rfl
theorem room_39 : room97 39 := by unfold room97; kernel_rfl
theorem room_40 : room97 40 := by unfold room97; kernel_rfl
theorem room_41 : room97 41 := by unfold room97; kernel_rfl
theorem room_42 : room97 42 := by unfold room97; kernel_rfl
theorem room_43 : room97 43 := by unfold room97; kernel_rfl
theorem room_44 : room97 44 := by unfold room97; kernel_rfl
theorem room_45 : room97 45 := by unfold room97; kernel_rfl
theorem room_46 : room97 46 := by unfold room97; kernel_rfl
theorem room_47 : room97 47 := by unfold room97; kernel_rfl
theorem room_48 : room97 48 := by unfold room97; kernel_rfl
theorem room_49 : room97 49 := by unfold room97; kernel_rfl
theorem room_50 : room97 50 := by unfold room97; kernel_rfl
theorem room_51 : room97 51 := by unfold room97; kernel_rfl
theorem room_52 : room97 52 := by unfold room97; kernel_rfl
theorem room_53 : room97 53 := by unfold room97; kernel_rfl
theorem room_54 : room97 54 := by unfold room97; kernel_rfl
theorem room_55 : room97 55 := by unfold room97; kernel_rfl
theorem room_56 : room97 56 := by unfold room97; kernel_rfl
theorem room_57 : room97 57 := by unfold room97; kernel_rfl
theorem room_58 : room97 58 := by unfold room97; kernel_rfl
theorem room_59 : room97 59 := by unfold room97; kernel_rfl
theorem room_60 : room97 60 := by unfold room97; kernel_rfl
theorem room_61 : room97 61 := by unfold room97; kernel_rfl
theorem room_62 : room97 62 := by unfold room97; kernel_rfl
theorem room_63 : room97 63 := by unfold room97; kernel_rfl
theorem room_64 : room97 64 := by unfold room97; kernel_rfl
theorem room_65 : room97 65 := by unfold room97; kernel_rfl
theorem room_66 : room97 66 := by unfold room97; kernel_rfl
theorem room_67 : room97 67 := by unfold room97; kernel_rfl
theorem room_68 : room97 68 := by unfold room97; kernel_rfl
theorem room_69 : room97 69 := by unfold room97; kernel_rfl
theorem room_70 : room97 70 := by unfold room97; kernel_rfl
theorem room_71 : room97 71 := by unfold room97; kernel_rfl
theorem room_72 : room97 72 := by unfold room97; kernel_rfl
theorem room_73 : room97 73 := by unfold room97; kernel_rfl
theorem room_74 : room97 74 := by unfold room97; kernel_rfl
theorem room_75 : room97 75 := by unfold room97; kernel_rfl
theorem room_76 : room97 76 := by unfold room97; kernel_rfl
theorem room_77 : room97 77 := by unfold room97; kernel_rfl
theorem room_78 : room97 78 := by unfold room97; kernel_rfl
theorem room_79 : room97 79 := by unfold room97; kernel_rfl
theorem room_80 : room97 80 := by unfold room97; kernel_rfl
theorem room_81 : room97 81 := by unfold room97; kernel_rfl
theorem room_82 : room97 82 := by unfold room97; kernel_rfl
theorem room_83 : room97 83 := by unfold room97; kernel_rfl
theorem room_84 : room97 84 := by unfold room97; kernel_rfl
theorem room_85 : room97 85 := by unfold room97; kernel_rfl
theorem room_86 : room97 86 := by unfold room97; kernel_rfl
theorem room_87 : room97 87 := by unfold room97; kernel_rfl
theorem room_88 : room97 88 := by unfold room97; kernel_rfl
theorem room_89 : room97 89 := by unfold room97; kernel_rfl
theorem room_90 : room97 90 := by unfold room97; kernel_rfl
theorem room_91 : room97 91 := by unfold room97; kernel_rfl
theorem room_92 : room97 92 := by unfold room97; kernel_rfl
theorem room_93 : room97 93 := by unfold room97; kernel_rfl
theorem room_94 : room97 94 := by unfold room97; kernel_rfl
theorem room_95 : room97 95 := by unfold room97; kernel_rfl
theorem room_96 : room97 96 := by unfold room97; kernel_rfl
theorem room_97 : room97 97 := by unfold room97; kernel_rfl
theorem room_98 : room97 98 := by unfold room97; kernel_rfl
theorem room_99 : room97 99 := by unfold room97; kernel_rfl
theorem room_100 : room97 100 := by unfold room97; kernel_rfl
theorem room_101 : room97 101 := by unfold room97; kernel_rfl
theorem room_102 : room97 102 := by unfold room97; kernel_rfl
theorem room_103 : room97 103 := by unfold room97; kernel_rfl
theorem room_104 : room97 104 := by unfold room97; kernel_rfl
theorem room_105 : room97 105 := by unfold room97; kernel_rfl
theorem room_106 : room97 106 := by unfold room97; kernel_rfl
theorem room_107 : room97 107 := by unfold room97; kernel_rfl
theorem room_108 : room97 108 := by unfold room97; kernel_rfl
theorem room_109 : room97 109 := by unfold room97; kernel_rfl
theorem room_110 : room97 110 := by unfold room97; kernel_rfl
theorem room_111 : room97 111 := by unfold room97; kernel_rfl
theorem room_112 : room97 112 := by unfold room97; kernel_rfl
theorem room_113 : room97 113 := by unfold room97; kernel_rfl
theorem room_114 : room97 114 := by unfold room97; kernel_rfl
theorem room_115 : room97 115 := by unfold room97; kernel_rfl
theorem room_116 : room97 116 := by unfold room97; kernel_rfl
theorem room_117 : room97 117 := by unfold room97; kernel_rfl
theorem room_118 : room97 118 := by unfold room97; kernel_rfl
theorem room_119 : room97 119 := by unfold room97; kernel_rfl
theorem room_120 : room97 120 := by unfold room97; kernel_rfl
theorem room_121 : room97 121 := by unfold room97; kernel_rfl
theorem room_122 : room97 122 := by unfold room97; kernel_rfl
theorem room_123 : room97 123 := by unfold room97; kernel_rfl
theorem room_124 : room97 124 := by unfold room97; kernel_rfl
theorem room_125 : room97 125 := by unfold room97; kernel_rfl
theorem room_126 : room97 126 := by unfold room97; kernel_rfl
theorem room_127 : room97 127 := by unfold room97; kernel_rfl
theorem room_128 : room97 128 := by unfold room97; kernel_rfl
theorem room_129 : room97 129 := by unfold room97; kernel_rfl
theorem room_130 : room97 130 := by unfold room97; kernel_rfl
theorem room_131 : room97 131 := by unfold room97; kernel_rfl
theorem room_132 : room97 132 := by unfold room97; kernel_rfl
theorem room_133 : room97 133 := by unfold room97; kernel_rfl
theorem room_134 : room97 134 := by unfold room97; kernel_rfl
theorem room_135 : room97 135 := by unfold room97; kernel_rfl
theorem room_136 : room97 136 := by unfold room97; kernel_rfl
theorem room_137 : room97 137 := by unfold room97; kernel_rfl
theorem room_138 : room97 138 := by unfold room97; kernel_rfl
theorem room_139 : room97 139 := by unfold room97; kernel_rfl
theorem room_140 : room97 140 := by unfold room97; kernel_rfl
theorem room_141 : room97 141 := by unfold room97; kernel_rfl
theorem room_142 : room97 142 := by unfold room97; kernel_rfl
theorem room_143 : room97 143 := by unfold room97; kernel_rfl
theorem room_144 : room97 144 := by unfold room97; kernel_rfl
theorem room_145 : room97 145 := by unfold room97; kernel_rfl
theorem room_146 : room97 146 := by unfold room97; kernel_rfl
theorem room_147 : room97 147 := by unfold room97; kernel_rfl
theorem room_148 : room97 148 := by unfold room97; kernel_rfl
theorem room_149 : room97 149 := by unfold room97; kernel_rfl
theorem room_150 : room97 150 := by unfold room97; kernel_rfl
theorem room_151 : room97 151 := by unfold room97; kernel_rfl
theorem room_152 : room97 152 := by unfold room97; kernel_rfl
theorem room_153 : room97 153 := by unfold room97; kernel_rfl
theorem room_154 : room97 154 := by unfold room97; kernel_rfl
theorem room_155 : room97 155 := by unfold room97; kernel_rfl
theorem room_156 : room97 156 := by unfold room97; kernel_rfl
theorem room_157 : room97 157 := by unfold room97; kernel_rfl
theorem room_158 : room97 158 := by unfold room97; kernel_rfl
theorem room_159 : room97 159 := by unfold room97; kernel_rfl
theorem room_160 : room97 160 := by unfold room97; kernel_rfl
theorem room_161 : room97 161 := by unfold room97; kernel_rfl
theorem room_162 : room97 162 := by unfold room97; kernel_rfl
theorem room_163 : room97 163 := by unfold room97; kernel_rfl
theorem room_164 : room97 164 := by unfold room97; kernel_rfl
theorem room_165 : room97 165 := by unfold room97; kernel_rfl
theorem room_166 : room97 166 := by unfold room97; kernel_rfl
theorem room_167 : room97 167 := by unfold room97; kernel_rfl
theorem room_168 : room97 168 := by unfold room97; kernel_rfl
theorem room_169 : room97 169 := by unfold room97; kernel_rfl
theorem room_170 : room97 170 := by unfold room97; kernel_rfl
theorem room_171 : room97 171 := by unfold room97; kernel_rfl
theorem room_172 : room97 172 := by unfold room97; kernel_rfl
theorem room_173 : room97 173 := by unfold room97; kernel_rfl
theorem room_174 : room97 174 := by unfold room97; kernel_rfl
theorem room_175 : room97 175 := by unfold room97; kernel_rfl
theorem room_176 : room97 176 := by unfold room97; kernel_rfl
theorem room_177 : room97 177 := by unfold room97; kernel_rfl
theorem room_178 : room97 178 := by unfold room97; kernel_rfl
theorem room_179 : room97 179 := by unfold room97; kernel_rfl
theorem room_180 : room97 180 := by unfold room97; kernel_rfl
theorem room_181 : room97 181 := by unfold room97; kernel_rfl
theorem room_182 : room97 182 := by unfold room97; kernel_rfl
theorem room_183 : room97 183 := by unfold room97; kernel_rfl
theorem room_184 : room97 184 := by unfold room97; kernel_rfl
theorem room_185 : room97 185 := by unfold room97; kernel_rfl
theorem room_186 : room97 186 := by unfold room97; kernel_rfl
theorem room_187 : room97 187 := by unfold room97; kernel_rfl
theorem room_188 : room97 188 := by unfold room97; kernel_rfl
theorem room_189 : room97 189 := by unfold room97; kernel_rfl
theorem room_190 : room97 190 := by unfold room97; kernel_rfl
theorem room_191 : room97 191 := by unfold room97; kernel_rfl
theorem room_192 : room97 192 := by unfold room97; kernel_rfl
theorem room_193 : room97 193 := by unfold room97; kernel_rfl
theorem room_194 : room97 194 := by unfold room97; kernel_rfl
theorem room_195 : room97 195 := by unfold room97; kernel_rfl
theorem room_196 : room97 196 := by unfold room97; kernel_rfl
theorem room_197 : room97 197 := by unfold room97; kernel_rfl
theorem room_198 : room97 198 := by unfold room97; kernel_rfl
theorem room_199 : room97 199 := by unfold room97; kernel_rfl
theorem room_200 : room97 200 := by unfold room97; kernel_rfl
theorem room_201 : room97 201 := by unfold room97; kernel_rfl
theorem room_202 : room97 202 := by unfold room97; kernel_rfl
theorem room_203 : room97 203 := by unfold room97; kernel_rfl
theorem room_204 : room97 204 := by unfold room97; kernel_rfl
theorem room_205 : room97 205 := by unfold room97; kernel_rfl
theorem room_206 : room97 206 := by unfold room97; kernel_rfl
theorem room_207 : room97 207 := by unfold room97; kernel_rfl
theorem room_208 : room97 208 := by unfold room97; kernel_rfl
theorem room_209 : room97 209 := by unfold room97; kernel_rfl
theorem room_210 : room97 210 := by unfold room97; kernel_rfl
theorem room_211 : room97 211 := by unfold room97; kernel_rfl
theorem room_212 : room97 212 := by unfold room97; kernel_rfl
theorem room_213 : room97 213 := by unfold room97; kernel_rfl
theorem room_214 : room97 214 := by unfold room97; kernel_rfl
theorem room_215 : room97 215 := by unfold room97; kernel_rfl
theorem room_216 : room97 216 := by unfold room97; kernel_rfl
theorem room_217 : room97 217 := by unfold room97; kernel_rfl
theorem room_218 : room97 218 := by unfold room97; kernel_rfl
theorem room_219 : room97 219 := by unfold room97; kernel_rfl
theorem room_220 : room97 220 := by unfold room97; kernel_rfl
theorem room_221 : room97 221 := by unfold room97; kernel_rfl
theorem room_222 : room97 222 := by unfold room97; kernel_rfl
theorem room_223 : room97 223 := by unfold room97; kernel_rfl
theorem room_224 : room97 224 := by unfold room97; kernel_rfl
theorem room_225 : room97 225 := by unfold room97; kernel_rfl
theorem room_226 : room97 226 := by unfold room97; kernel_rfl
theorem room_227 : room97 227 := by unfold room97; kernel_rfl
theorem room_228 : room97 228 := by unfold room97; kernel_rfl
theorem room_229 : room97 229 := by unfold room97; kernel_rfl
theorem room_230 : room97 230 := by unfold room97; kernel_rfl
theorem room_231 : room97 231 := by unfold room97; kernel_rfl
theorem room_232 : room97 232 := by unfold room97; kernel_rfl
theorem room_233 : room97 233 := by unfold room97; kernel_rfl
theorem room_234 : room97 234 := by unfold room97; kernel_rfl
theorem room_235 : room97 235 := by unfold room97; kernel_rfl
theorem room_236 : room97 236 := by unfold room97; kernel_rfl
theorem room_237 : room97 237 := by unfold room97; kernel_rfl
theorem room_238 : room97 238 := by unfold room97; kernel_rfl
theorem room_239 : room97 239 := by unfold room97; kernel_rfl
theorem room_240 : room97 240 := by unfold room97; kernel_rfl
theorem room_241 : room97 241 := by unfold room97; kernel_rfl
theorem room_242 : room97 242 := by unfold room97; kernel_rfl
theorem room_243 : room97 243 := by unfold room97; kernel_rfl
theorem room_244 : room97 244 := by unfold room97; kernel_rfl
theorem room_245 : room97 245 := by unfold room97; kernel_rfl
theorem room_246 : room97 246 := by unfold room97; kernel_rfl
theorem room_247 : room97 247 := by unfold room97; kernel_rfl
theorem room_248 : room97 248 := by unfold room97; kernel_rfl
theorem room_249 : room97 249 := by unfold room97; kernel_rfl
theorem room_250 : room97 250 := by unfold room97; kernel_rfl
theorem room_251 : room97 251 := by unfold room97; kernel_rfl
theorem room_252 : room97 252 := by unfold room97; kernel_rfl
theorem room_253 : room97 253 := by unfold room97; kernel_rfl
theorem room_254 : room97 254 := by unfold room97; kernel_rfl
theorem room_255 : room97 255 := by unfold room97; kernel_rfl
def AllF (p : Nat → Prop) : Nat → Nat → Prop
  | _, 0 => True
  | k, n + 1 => p k ∧ AllF p (k + 1) n
theorem AllF.get {p : Nat → Prop} : ∀ {n k : Nat}, AllF p k n → ∀ i, k ≤ i → i < k + n → p i
  | 0, k, _, i, h1, h2 => by omega
  | n + 1, k, h, i, h1, h2 => by
    rcases Nat.eq_or_lt_of_le h1 with q | q
    · subst q; exact h.1
    · exact AllF.get h.2 i q (by omega)
theorem AllF.app {p : Nat → Prop} : ∀ {n k m : Nat}, AllF p k n → AllF p (k + n) m → AllF p k (n + m)
  | 0, k, m, _, h => by rw [Nat.zero_add]; exact h
  | n + 1, k, m, h, h2 => by
    rw [show n + 1 + m = (n + m) + 1 by omega]
    exact ⟨h.1, AllF.app h.2 (by rw [show k + 1 + n = k + (n + 1) by omega]; exact h2)⟩
theorem rooms_0 : AllF room97 0 16 := ⟨room_0, room_1, room_2, room_3, room_4, room_5, room_6, room_7, room_8, room_9, room_10, room_11, room_12, room_13, room_14, room_15, trivial⟩
theorem rooms_1 : AllF room97 16 16 := ⟨room_16, room_17, room_18, room_19, room_20, room_21, room_22, room_23, room_24, room_25, room_26, room_27, room_28, room_29, room_30, room_31, trivial⟩
theorem rooms_2 : AllF room97 32 16 := ⟨room_32, room_33, room_34, room_35, room_36, room_37, room_38, room_39, room_40, room_41, room_42, room_43, room_44, room_45, room_46, room_47, trivial⟩
theorem rooms_3 : AllF room97 48 16 := ⟨room_48, room_49, room_50, room_51, room_52, room_53, room_54, room_55, room_56, room_57, room_58, room_59, room_60, room_61, room_62, room_63, trivial⟩
theorem rooms_4 : AllF room97 64 16 := ⟨room_64, room_65, room_66, room_67, room_68, room_69, room_70, room_71, room_72, room_73, room_74, room_75, room_76, room_77, room_78, room_79, trivial⟩
theorem rooms_5 : AllF room97 80 16 := ⟨room_80, room_81, room_82, room_83, room_84, room_85, room_86, room_87, room_88, room_89, room_90, room_91, room_92, room_93, room_94, room_95, trivial⟩
theorem rooms_6 : AllF room97 96 16 := ⟨room_96, room_97, room_98, room_99, room_100, room_101, room_102, room_103, room_104, room_105, room_106, room_107, room_108, room_109, room_110, room_111, trivial⟩
theorem rooms_7 : AllF room97 112 16 := ⟨room_112, room_113, room_114, room_115, room_116, room_117, room_118, room_119, room_120, room_121, room_122, room_123, room_124, room_125, room_126, room_127, trivial⟩
theorem rooms_8 : AllF room97 128 16 := ⟨room_128, room_129, room_130, room_131, room_132, room_133, room_134, room_135, room_136, room_137, room_138, room_139, room_140, room_141, room_142, room_143, trivial⟩
theorem rooms_9 : AllF room97 144 16 := ⟨room_144, room_145, room_146, room_147, room_148, room_149, room_150, room_151, room_152, room_153, room_154, room_155, room_156, room_157, room_158, room_159, trivial⟩
theorem rooms_10 : AllF room97 160 16 := ⟨room_160, room_161, room_162, room_163, room_164, room_165, room_166, room_167, room_168, room_169, room_170, room_171, room_172, room_173, room_174, room_175, trivial⟩
theorem rooms_11 : AllF room97 176 16 := ⟨room_176, room_177, room_178, room_179, room_180, room_181, room_182, room_183, room_184, room_185, room_186, room_187, room_188, room_189, room_190, room_191, trivial⟩
theorem rooms_12 : AllF room97 192 16 := ⟨room_192, room_193, room_194, room_195, room_196, room_197, room_198, room_199, room_200, room_201, room_202, room_203, room_204, room_205, room_206, room_207, trivial⟩
theorem rooms_13 : AllF room97 208 16 := ⟨room_208, room_209, room_210, room_211, room_212, room_213, room_214, room_215, room_216, room_217, room_218, room_219, room_220, room_221, room_222, room_223, trivial⟩
theorem rooms_14 : AllF room97 224 16 := ⟨room_224, room_225, room_226, room_227, room_228, room_229, room_230, room_231, room_232, room_233, room_234, room_235, room_236, room_237, room_238, room_239, trivial⟩
theorem rooms_15 : AllF room97 240 16 := ⟨room_240, room_241, room_242, room_243, room_244, room_245, room_246, room_247, room_248, room_249, room_250, room_251, room_252, room_253, room_254, room_255, trivial⟩
theorem roomsTo_1 : AllF room97 0 32 := AllF.app (n := 16) (m := 16) rooms_0 rooms_1
theorem roomsTo_2 : AllF room97 0 48 := AllF.app (n := 32) (m := 16) roomsTo_1 rooms_2
theorem roomsTo_3 : AllF room97 0 64 := AllF.app (n := 48) (m := 16) roomsTo_2 rooms_3
theorem roomsTo_4 : AllF room97 0 80 := AllF.app (n := 64) (m := 16) roomsTo_3 rooms_4
theorem roomsTo_5 : AllF room97 0 96 := AllF.app (n := 80) (m := 16) roomsTo_4 rooms_5
theorem roomsTo_6 : AllF room97 0 112 := AllF.app (n := 96) (m := 16) roomsTo_5 rooms_6
theorem roomsTo_7 : AllF room97 0 128 := AllF.app (n := 112) (m := 16) roomsTo_6 rooms_7
theorem roomsTo_8 : AllF room97 0 144 := AllF.app (n := 128) (m := 16) roomsTo_7 rooms_8
theorem roomsTo_9 : AllF room97 0 160 := AllF.app (n := 144) (m := 16) roomsTo_8 rooms_9
theorem roomsTo_10 : AllF room97 0 176 := AllF.app (n := 160) (m := 16) roomsTo_9 rooms_10
theorem roomsTo_11 : AllF room97 0 192 := AllF.app (n := 176) (m := 16) roomsTo_10 rooms_11
theorem roomsTo_12 : AllF room97 0 208 := AllF.app (n := 192) (m := 16) roomsTo_11 rooms_12
theorem roomsTo_13 : AllF room97 0 224 := AllF.app (n := 208) (m := 16) roomsTo_12 rooms_13
theorem roomsTo_14 : AllF room97 0 240 := AllF.app (n := 224) (m := 16) roomsTo_13 rooms_14
theorem roomsTo_15 : AllF room97 0 256 := AllF.app (n := 240) (m := 16) roomsTo_14 rooms_15
theorem room_all (op : Nat) (h : op < 256) : room97 op := roomsTo_15.get op (Nat.zero_le _) (by omega)
end Go.Ev
/- Instructions: decoding. -/
namespace Go.Ev
open Go.Proofs
def Try.b97 : Code := nthD .skip (loopsOf (bodyOf Try.E97 97)) 0
def opOk (op : Int) : Bool := decide (0 ≤ op) && decide (op < 256)
def S97 (args : List AV) : Ans (AV × Heap) := match args with
  | [.val (.int .i64 op)] => .grd (opOk op) (.out (roomV (roomOf op.toNat).1 (roomOf op.toNat).2, ⟨0, []⟩))
  | _ => .no
def Try.A97 : AFun := roA S97
def Try.E59 : Env := Try.env0 false (sumsOf [(97, Try.A97)]) (keepF 59 [])
theorem Try.e97 : EnvOk2 Try.prog Try.E97 := Try.envOk false (sumsOf []) _ (fun g A h => by cases h)
theorem Try.al97 (op : Nat) (h : op < 256) : Alone Try.prog 97 [.val (.int .i64 op)] (roomV (roomOf op).1 (roomOf op).2) ⟨0, []⟩ :=
  rootS_alone Try.e97 (d := 5) (g := 97) (ls := lsumsOf []) (AllL.of1 (a := Try.b97) (by kernel_rfl) trivial) (room_all op h)
theorem Try.sum97 : SumC Try.prog 97 Try.A97 := by
  refine roSumR 97 ⟨Try.f97, _, Try.fnOk97.1, Try.fnOk97.2, rfl⟩ ?_
  intro args v h2 hs
  unfold S97 at hs
  split at hs
  · rename_i op
    rw [Ans.run_grd] at hs
    cases hb : opOk op with
    | false => rw [hb] at hs; cases hs
    | true =>
      rw [hb] at hs
      have hs := Option.some.inj hs
      injection hs with q1 q2
      subst q1; subst q2
      unfold opOk at hb
      rw [Bool.and_eq_true, decide_eq_true_eq, decide_eq_true_eq] at hb
      have key := Try.al97 op.toNat (by omega)
      rw [Int.toNat_of_nonneg hb.1] at key
      exact ⟨fun e he => by (cases he), key⟩
  · cases hs
structure Ins where
  o : Int
  a : Int
  b : Int
  c : Int
  d : Int
  k : Int
  i : Int
def insL (x : Ins) : List AV := [.val (.int .i64 x.o), .val (.int .i64 x.a), .val (.int .i64 x.b), .val (.int .i64 x.c), .val (.int .i64 x.d), .val (.int .i64 x.k), .val (.int .u32 x.i)]
def insV (x : Ins) : AV := .agg (insL x)
def ins0 : Ins := ⟨0, 0, 0, 0, 0, 0, 0⟩
def lo4 (x : Int) : Int := IntKind.i64.wrap (IntKind.u8.wrap ((BitVec.ofInt 8 x &&& BitVec.ofInt 8 15).toNat : Int))
def or32 (x y : Int) : Int := IntKind.u32.wrap ((BitVec.ofInt 32 x ||| BitVec.ofInt 32 y).toNat : Int)
def wordB (O : List Int) (k : Nat) : Int := or32 (or32 (or32 (IntKind.u32.wrap (O.getD k 0)) (IntKind.u32.wrap (IntKind.u32.wrap (O.getD (k + 1) 0) * 256))) (IntKind.u32.wrap (IntKind.u32.wrap (O.getD (k + 2) 0) * 65536))) (IntKind.u32.wrap (IntKind.u32.wrap (O.getD (k + 3) 0) * 16777216))
def insn (O : List Int) (i : Int) : Ins := ⟨IntKind.i64.wrap (O.getD 0 0), lo4 (O.getD 1 0), IntKind.i64.wrap ((O.getD 1 0).fdiv 16), lo4 (O.getD 2 0), IntKind.i64.wrap ((O.getD 2 0).fdiv 16), IntKind.i64.wrap (IntKind.i8.wrap (O.getD 3 0)), i⟩
def hasC {α : Type} (r : Room) (x : Ins) (yes no : α) : α :=
  bif decide (x.a ≥ 0) then bif decide (x.a ≤ r.a) then bif decide (x.b ≥ 0) then bif decide (x.b ≤ r.b) then bif decide (x.c ≥ 0) then bif decide (x.c ≤ r.c) then bif decide (x.d ≥ 0) then bif decide (x.d ≤ r.d) then
   bif x.k == 0 then (bif x.i == 0 then yes else bif r.i then yes else no)
   else bif r.k then bif decide (IntKind.i64.wrap (x.k + 128) ≥ 0) then bif decide (IntKind.i64.wrap (x.k + 128) ≤ 255) then (bif x.i == 0 then yes else bif r.i then yes else no) else no else no else no
  else no else no else no else no else no else no else no else no
def hasB (r : Room) (x : Ins) : Bool :=
  decide (x.a ≥ 0) && (decide (x.a ≤ r.a) && (decide (x.b ≥ 0) && (decide (x.b ≤ r.b) && (decide (x.c ≥ 0) && (decide (x.c ≤ r.c) && (decide (x.d ≥ 0) && (decide (x.d ≤ r.d) &&
   ((x.k == 0 || (r.k && (decide (IntKind.i64.wrap (x.k + 128) ≥ 0) && decide (IntKind.i64.wrap (x.k + 128) ≤ 255)))) && (x.i == 0 || r.i)))))))))
def decC (x : Ins) (yes no : Option (AV × Heap)) : Option (AV × Heap) := bif opOk x.o then (bif (roomOf x.o.toNat).2 then hasC (roomOf x.o.toNat).1 x yes no else no) else none
def decYes (x : Ins) (n : Int) : AV := .tup [insV x, .val (.int .i64 n), .val (.int .i64 0)]
def decNo : AV := .tup [insV ins0, .val (.int .i64 0), .val (.int .i64 6)]
theorem cond_and' {α : Type} (p q : Bool) (y n : α) : (bif p && q then y else n) = bif p then (bif q then y else n) else n := by cases p <;> rfl
theorem cond_or' {α : Type} (p q : Bool) (y n : α) : (bif p || q then y else n) = bif p then y else bif q then y else n := by cases p <;> rfl
theorem hasC_eq {α : Type} (r : Room) (x : Ins) (y n : α) : hasC r x y n = bif hasB r x then y else n := by
  unfold hasB hasC
  simp only [cond_and', cond_or']
theorem Try.w59 (O : List Int) : rootS Try.E59 5 59 (lsumsOf []) [.ro (bC O) none] =
    bif decide ((O.length : Int) < 4) then some (decNo, ⟨0, []⟩)
    else bif inR 0 O.length then bif inR 1 O.length then bif inR 1 O.length then bif inR 2 O.length then bif inR 2 O.length then bif inR 3 O.length then
     bif decide (IntKind.i64.wrap (O.getD 0 0) ≥ 64) then
      bif decide ((O.length : Int) < 8) then some (decNo, ⟨0, []⟩)
      else bif inR 4 O.length then bif inR 5 O.length then bif inR 6 O.length then bif inR 7 O.length then decC (insn O (wordB O 4)) (some (decYes (insn O (wordB O 4)) 8, ⟨0, []⟩)) (some (decNo, ⟨0, []⟩)) else none else none else none else none
     else decC (insn O 0) (some (decYes (insn O 0) 4, ⟨0, []⟩)) (some (decNo, ⟨0, []⟩))
    else none else none else none else none else none else none := by kernel_rfl
def dLong (O : List Int) : Bool := decide (IntKind.i64.wrap (O.getD 0 0) ≥ 64)
def dLen (O : List Int) : Int := bif dLong O then 8 else 4
def dIns (O : List Int) : Ins := insn O (bif dLong O then wordB O 4 else 0)
def dOk (O : List Int) : Bool := decide (dLen O ≤ O.length) && ((roomOf (dIns O).o.toNat).2 && hasB (roomOf (dIns O).o.toNat).1 (dIns O))
def decV (O : List Int) : AV := bif dOk O then decYes (dIns O) (dLen O) else decNo
def isBs (O : List Int) : Prop := ∀ i, 0 ≤ O.getD i 0 ∧ O.getD i 0 < 256
theorem Try.e59 : EnvOk2 Try.prog Try.E59 := Try.envOk false (sumsOf [(97, Try.A97)]) _ (sumsOf_ok (show AllS Try.prog [(97, Try.A97)] from ⟨Try.sum97, trivial⟩))
theorem opOk_b {O : List Int} (h : isBs O) (i : Int) : opOk (insn O i).o = true := by
  have := h 0
  unfold opOk insn
  simp only
  rw [wrap64 _ (by omega) (by omega), decide_eq_true this.1, decide_eq_true this.2]; rfl
theorem decC_b {O : List Int} (h : isBs O) (i : Int) (y n : Option (AV × Heap)) : decC (insn O i) y n = bif (roomOf (insn O i).o.toNat).2 && hasB (roomOf (insn O i).o.toNat).1 (insn O i) then y else n := by
  unfold decC
  rw [opOk_b h i, hasC_eq, cond_and']; rfl
theorem Try.al59 (O : List Int) (h : isBs O) : Alone Try.prog 59 [.ro (bC O) none] (decV O) ⟨0, []⟩ := by
  refine rootS_alone Try.e59 (d := 5) (g := 59) (ls := lsumsOf []) (AllL.of0 (by kernel_rfl)) ((Try.w59 O).trans ?_)
  have hr : ∀ k : Nat, (k : Int) < O.length → inR (k : Int) O.length = true := fun k hk => by rw [inR_nat]; exact decide_eq_true (by omega)
  unfold decV dOk dIns dLen
  by_cases h4 : (O.length : Int) < 4
  · rw [decide_eq_true h4]
    cases dLong O
    · rw [show decide ((bif false then (8 : Int) else 4) ≤ (O.length : Int)) = false from decide_eq_false (by show ¬ (4 : Int) ≤ _; omega)]; rfl
    · rw [show decide ((bif true then (8 : Int) else 4) ≤ (O.length : Int)) = false from decide_eq_false (by show ¬ (8 : Int) ≤ _; omega)]; rfl
  rw [decide_eq_false h4, show inR 0 O.length = true from hr 0 (by omega), show inR 1 O.length = true from hr 1 (by omega), show inR 2 O.length = true from hr 2 (by omega), show inR 3 O.length = true from hr 3 (by omega), decC_b h, decC_b h]
  show (bif dLong O then _ else _) = _
  cases hl : dLong O with
  | false =>
    rw [show decide ((bif false then (8 : Int) else 4) ≤ (O.length : Int)) = true from decide_eq_true (by show (4 : Int) ≤ _; omega)]
    simp only [cond_false, Bool.true_and]
    cases ((roomOf (insn O 0).o.toNat).2 && hasB (roomOf (insn O 0).o.toNat).1 (insn O 0)) <;> rfl
  | true =>
    by_cases h8 : (O.length : Int) < 8
    · rw [show decide ((bif true then (8 : Int) else 4) ≤ (O.length : Int)) = false from decide_eq_false (by show ¬ (8 : Int) ≤ _; omega), decide_eq_true h8]; rfl
    · rw [show decide ((bif true then (8 : Int) else 4) ≤ (O.length : Int)) = true from decide_eq_true (by show (8 : Int) ≤ _; omega), decide_eq_false h8, show inR 4 O.length = true from hr 4 (by omega), show inR 5 O.length = true from hr 5 (by omega), show inR 6 O.length = true from hr 6 (by omega), show inR 7 O.length = true from hr 7 (by omega)]
      simp only [cond_false, cond_true, Bool.true_and]
      cases ((roomOf (insn O (wordB O 4)).o.toNat).2 && hasB (roomOf (insn O (wordB O 4)).o.toNat).1 (insn O (wordB O 4))) <;> rfl
def cellN : List AV → Int
  | [.val (.int _ x)] => x
  | _ => 0
def bOf : AV → List Int
  | .ro (.tab _ n f) _ => (List.range n).map fun i => cellN (f i)
  | _ => []
def S59 (args : List AV) : Ans (AV × Heap) := match args with
  | [v] => .grd (isV v (.ro (bC (bOf v)) none) && propB (isBs (bOf v))) (.br (dOk (bOf v)) (.out (decYes (dIns (bOf v)) (dLen (bOf v)), ⟨0, []⟩)) (.out (decNo, ⟨0, []⟩)))
  | _ => .no
def Try.A59 : AFun := roA S59
theorem bOf_bC (O : List Int) : bOf (.ro (bC O) none) = O := by
  show (List.range O.length).map (fun i => O.getD i 0) = O
  refine List.ext_getElem (by simp) fun i h1 h2 => ?_
  simp [List.getD_eq_getElem?_getD, List.getElem?_eq_getElem h2]
theorem Try.sum59 : SumC Try.prog 59 Try.A59 := by
  refine roSumR 59 ⟨Try.f59, _, Try.fnOk59.1, Try.fnOk59.2, rfl⟩ ?_
  intro args v h2 hs
  unfold S59 at hs
  split at hs
  · rename_i v0
    rw [gdB_run] at hs
    cases hb : (isV v0 (.ro (bC (bOf v0)) none) && propB (isBs (bOf v0))) with
    | false => rw [hb] at hs; cases hs
    | true =>
      rw [hb] at hs
      rw [Bool.and_eq_true] at hb
      have h1 := isV_eq hb.1
      have key := Try.al59 (bOf v0) (propB_eq hb.2)
      rw [← h1] at key
      unfold decV at key
      cases h : dOk (bOf v0) <;> (rw [h] at hs key; have hs := Option.some.inj hs; injection hs with q1 q2; subst q1; subst q2; exact ⟨fun e he => by (cases he), key⟩)
  · cases hs
end Go.Ev
/- Walks: sites. -/
namespace Go.Ev
open Go.Proofs
def Try.E24 (l : List PgD) : Env := Try.env0 false (sumsOf [(70, Try.A70 l), (59, Try.A59)]) (keepF 24 [])
theorem rdW_len (l : List PgD) : ∀ (k : Nat) (a n : Int), 0 ≤ a → n ≤ k → n ≤ 65536 → (rdW l k a n).length = n.toNat
  | 0, a, n, _, h, _ => by show ([] : List Int).length = _; simp; omega
  | k + 1, a, n, ha, h, h2 => by
    by_cases h0 : n > 0
    · have h3 := pcN_eq (a := a) h0 (by omega)
      have h4 := pcK_pos (a := a) h0
      have h5 := pcC_eq ha h0
      have h6 := pcK_le (a := a) (n := n)
      rw [rdW_step h0, List.length_append, gB_len, rdW_len l k (pcA a n) (pcN a n) (pcA_nn a n) (by omega) (by omega)]
      omega
    · rw [rdW_end h0]; simp; omega
theorem rdE_len (l : List PgD) {a n : Int} (ha : 0 ≤ a) (hn : n ≤ 65536) : (rdE l a n).length = n.toNat := rdW_len l _ a n ha (by omega) hn
def okB (l : List PgD) : Prop := ∀ i, isBs (l.getD i PG.z).2.2
theorem isBs_of {O : List Int} (h : ∀ x ∈ O, 0 ≤ x ∧ x < 256) : isBs O := fun i => by
  rw [List.getD_eq_getElem?_getD]
  rcases Nat.lt_or_ge i O.length with q | q
  · rw [List.getElem?_eq_getElem q]; exact h _ (List.getElem_mem q)
  · rw [List.getElem?_eq_none q]; exact ⟨by decide, by decide⟩
theorem gB_bs {l : List PgD} (hl : okB l) (a n : Int) : ∀ x ∈ gB l a n, 0 ≤ x ∧ x < 256 := by
  intro x hx
  obtain ⟨i, _, rfl⟩ := List.mem_map.1 hx
  exact hl _ _
theorem rdW_bs {l : List PgD} (hl : okB l) : ∀ (k : Nat) (a n : Int), ∀ x ∈ rdW l k a n, 0 ≤ x ∧ x < 256
  | 0, a, n, x, hx => by cases hx
  | k + 1, a, n, x, hx => by
    by_cases h0 : n > 0
    · rw [rdW_step h0] at hx
      rcases List.mem_append.1 hx with q | q
      · exact gB_bs hl a n x q
      · exact rdW_bs hl k _ _ x q
    · rw [rdW_end h0] at hx; cases hx
theorem rdE_bs {l : List PgD} (hl : okB l) (a n : Int) : isBs (rdE l a n) := isBs_of (rdW_bs hl _ _ _)
def gdM {α : Type} (l : List PgD) (a : Int) (x : Option α) : Option α := bif isV (memV l) (memV l) && decide (0 ≤ a) then x else none
def gdO {α : Type} (O : List Int) (x : Option α) : Option α := bif isV (.ro (bC O) none) (.ro (bC (bOf (.ro (bC O) none))) none) && propB (isBs (bOf (.ro (bC O) none))) then x else none
def bO (O : List Int) : List Int := bOf (.ro (bC O) none)
def tryC {α : Type} (l : List PgD) (a n op : Int) (yes no : Option α) : Option α :=
  gdM l a (bif (pcE l 4 a n).2.2 then no else gdO (rdE l a n) (bif dOk (bO (rdE l a n)) then (bif dLen (bO (rdE l a n)) == n then (bif (dIns (bO (rdE l a n))).o == op then yes else no) else no) else no))
def callB (l : List PgD) (a n op : Int) : Bool := !(pcE l 4 a n).2.2 && (dOk (rdE l a n) && (dLen (rdE l a n) == n && (dIns (rdE l a n)).o == op))
def at8 (a : Int) : Int := IntKind.u32.wrap (a - 8)
def at4 (a : Int) : Int := IntKind.u32.wrap (a - 4)
def siteB (l : List PgD) (a : Int) : Bool := !(a.tmod 4 != 0) && (callB l (at8 a) 8 68 || callB l (at4 a) 4 41)
def siteA (l : List PgD) (a : Int) : Int := bif callB l (at8 a) 8 68 then at8 a else at4 a
def u32b (a : Int) (b : Bool) : AV := .tup [.val (.int .u32 a), .val (.bool b)]
def siteV (l : List PgD) (a : Int) : AV := bif siteB l a then u32b (siteA l a) true else u32b 0 false
theorem gdM_eq {α : Type} (l : List PgD) {a : Int} (h : 0 ≤ a) (x : Option α) : gdM l a x = x := by unfold gdM; rw [isV_refl, decide_eq_true h]; rfl
theorem gdO_eq {α : Type} {O : List Int} (h : isBs O) (x : Option α) : gdO O x = x := by
  unfold gdO
  rw [bOf_bC, isV_refl, show propB (isBs O) = true from @decide_eq_true _ (Classical.propDecidable _) h]; rfl
theorem tryC_eq {α : Type} {l : List PgD} (hl : okB l) {a n op : Int} (h : 0 ≤ a) (yes no : Option α) : tryC l a n op yes no = bif callB l a n op then yes else no := by
  unfold tryC callB
  rw [gdM_eq l h, gdO_eq (rdE_bs hl a n)]
  unfold bO
  rw [bOf_bC]
  cases (pcE l 4 a n).2.2
  · simp only [Bool.not_false, Bool.true_and, cond_false, cond_and']
  · rfl
theorem u32_nn (x : Int) : 0 ≤ IntKind.u32.wrap x := by
  unfold IntKind.wrap
  simp only [IntKind.signed, Bool.false_eq_true, if_false]
  exact Int.emod_nonneg _ (by decide)
theorem Try.w24 (l : List PgD) (a : Int) : rootS (Try.E24 l) 5 24 (lsumsOf []) [memV l, .val (.int .u32 a)] =
    bif a.tmod 4 != 0 then some (u32b 0 false, ⟨0, []⟩)
    else tryC l (at8 a) 8 68 (some (u32b (at8 a) true, ⟨0, []⟩)) (tryC l (at4 a) 4 41 (some (u32b (at4 a) true, ⟨0, []⟩)) (some (u32b 0 false, ⟨0, []⟩))) := by kernel_rfl
theorem Try.e24 (l : List PgD) : EnvOk2 Try.prog (Try.E24 l) := Try.envOk false (sumsOf [(70, Try.A70 l), (59, Try.A59)]) _ (sumsOf_ok (show AllS Try.prog [(70, Try.A70 l), (59, Try.A59)] from ⟨Try.sum70 l, Try.sum59, trivial⟩))
theorem Try.al24 (l : List PgD) (hl : okB l) (a : Int) : Alone Try.prog 24 [memV l, .val (.int .u32 a)] (siteV l a) ⟨0, []⟩ := by
  refine rootS_alone (Try.e24 l) (d := 5) (g := 24) (ls := lsumsOf []) (AllL.of1 (a := nthD .skip (loopsOf (bodyOf (Try.E24 l) 24)) 0) (by kernel_rfl) trivial) ((Try.w24 l a).trans ?_)
  rw [tryC_eq hl (show 0 ≤ at8 a from u32_nn _), tryC_eq hl (show 0 ≤ at4 a from u32_nn _)]
  unfold siteV siteB siteA
  cases a.tmod 4 != 0
  · cases callB l (at8 a) 8 68
    · cases callB l (at4 a) 4 41 <;> rfl
    · rfl
  · rfl
def S24 (l : List PgD) (args : List AV) : Ans (AV × Heap) := match args with
  | [v, .val (.int .u32 a)] => .grd (isV v (memV l)) (.br (siteB l a) (.out (u32b (siteA l a) true, ⟨0, []⟩)) (.out (u32b 0 false, ⟨0, []⟩)))
  | _ => .no
def Try.A24 (l : List PgD) : AFun := roA (S24 l)
theorem Try.sum24 (l : List PgD) (hl : okB l) : SumC Try.prog 24 (Try.A24 l) := by
  refine roSumR 24 ⟨Try.f24, _, Try.fnOk24.1, Try.fnOk24.2, rfl⟩ ?_
  intro args v h2 hs
  unfold S24 at hs
  split at hs
  · rename_i v0 a
    rw [gdB_run] at hs
    cases hb : isV v0 (memV l) with
    | false => rw [hb] at hs; cases hs
    | true =>
      rw [hb] at hs
      have h1 := isV_eq hb
      subst h1
      have key := Try.al24 l hl a
      unfold siteV at key
      cases h : siteB l a <;> (rw [h] at hs key; have hs := Option.some.inj hs; injection hs with q1 q2; subst q1; subst q2; exact ⟨fun e he => by (cases he), key⟩)
  · cases hs
def insL8 (l : List PgD) (a : Int) : Bool := decide ((rdE l a 4).getD 0 0 ≥ 64)
def insB (l : List PgD) (a : Int) : Bool := !(a.tmod 4 != 0) && (!(pcE l 4 a 4).2.2 && (bif insL8 l a then !(pcE l 4 a 8).2.2 && dOk (rdE l a 8) else dOk (rdE l a 4)))
def insX (l : List PgD) (a : Int) : Ins := bif insL8 l a then dIns (rdE l a 8) else dIns (rdE l a 4)
def insR (x : Ins) (b : Bool) : AV := .tup [insV x, .val (.bool b)]
def insQ (l : List PgD) (a : Int) : AV := bif insB l a then insR (insX l a) true else insR ins0 false
def insT (O : List Int) : Option (AV × Heap) := gdO O (bif dOk (bO O) then some (insR (dIns (bO O)) true, ⟨0, []⟩) else some (insR ins0 false, ⟨0, []⟩))
theorem Try.w61 (l : List PgD) (a : Int) : rootS (Try.E24 l) 5 61 (lsumsOf []) [memV l, .val (.int .u32 a)] =
    bif a.tmod 4 != 0 then some (insR ins0 false, ⟨0, []⟩)
    else gdM l a (bif (pcE l 4 a 4).2.2 then some (insR ins0 false, ⟨0, []⟩) else bif inR 0 (rdE l a 4).length then (bif insL8 l a then gdM l a (bif (pcE l 4 a 8).2.2 then some (insR ins0 false, ⟨0, []⟩) else insT (rdE l a 8)) else insT (rdE l a 4)) else none) := by kernel_rfl
theorem insT_eq {O : List Int} (h : isBs O) : insT O = bif dOk O then some (insR (dIns O) true, ⟨0, []⟩) else some (insR ins0 false, ⟨0, []⟩) := by
  unfold insT bO
  rw [gdO_eq h, bOf_bC]
theorem Try.al61 (l : List PgD) (hl : okB l) (a : Int) (ha : 0 ≤ a) : Alone Try.prog 61 [memV l, .val (.int .u32 a)] (insQ l a) ⟨0, []⟩ := by
  refine rootS_alone (Try.e24 l) (d := 5) (g := 61) (ls := lsumsOf []) (AllL.of0 (by kernel_rfl)) ((Try.w61 l a).trans ?_)
  rw [gdM_eq l ha, gdM_eq l ha, insT_eq (rdE_bs hl _ _), insT_eq (rdE_bs hl _ _)]
  have e : inR 0 (rdE l a 4).length = true := by
    rw [rdE_len l ha (by omega)]; rfl
  rw [e]
  unfold insQ insB insX
  cases a.tmod 4 != 0
  · cases (pcE l 4 a 4).2.2
    · cases insL8 l a
      · cases dOk (rdE l a 4) <;> rfl
      · cases (pcE l 4 a 8).2.2
        · cases dOk (rdE l a 8) <;> rfl
        · rfl
    · rfl
  · rfl
def S61 (l : List PgD) (args : List AV) : Ans (AV × Heap) := match args with
  | [v, .val (.int .u32 a)] => .grd (isV v (memV l) && decide (0 ≤ a)) (.br (insB l a) (.out (insR (insX l a) true, ⟨0, []⟩)) (.out (insR ins0 false, ⟨0, []⟩)))
  | _ => .no
def Try.A61 (l : List PgD) : AFun := roA (S61 l)
theorem Try.sum61 (l : List PgD) (hl : okB l) : SumC Try.prog 61 (Try.A61 l) := by
  refine roSumR 61 ⟨Try.f61, _, Try.fnOk61.1, Try.fnOk61.2, rfl⟩ ?_
  intro args v h2 hs
  unfold S61 at hs
  split at hs
  · rename_i v0 a
    rw [gdB_run] at hs
    cases hb : (isV v0 (memV l) && decide (0 ≤ a)) with
    | false => rw [hb] at hs; cases hs
    | true =>
      rw [hb] at hs
      rw [Bool.and_eq_true, decide_eq_true_eq] at hb
      obtain ⟨h1, ha⟩ := hb
      have h1 := isV_eq h1
      subst h1
      have key := Try.al61 l hl a ha
      unfold insQ at key
      cases h : insB l a <;> (rw [h] at hs key; have hs := Option.some.inj hs; injection hs with q1 q2; subst q1; subst q2; exact ⟨fun e he => by (cases he), key⟩)
  · cases hs
end Go.Ev
/- Walks: the innermost frame. -/
namespace Go.Ev
open Go.Proofs
structure Cpu where
  r : Nat → Int
  pc : Int
  f : Int
  v : Nat → Int
def cpuL (c : Cpu) : List AV := ((List.range 16).map fun i => .val (.int .u32 (c.r i))) ++ (.val (.int .u32 c.pc) :: .val (.int .i64 c.f) :: (List.range 32).map fun i => .val (.int .u32 (c.v i)))
def cpuV (c : Cpu) : AV := .agg (cpuL c)
def Try.E26 (l : List PgD) : Env := Try.env0 false (sumsOf [(61, Try.A61 l)]) (keepF 26 [])
def isIns (x : Ins) (o a b c d k i : Int) : Bool := x.o == o && (x.a == a && (x.b == b && (x.c == c && (x.d == d && (x.k == k && (x.i == i && true))))))
def isPush (x : Ins) : Bool := isIns x 34 14 0 0 0 0 0
def isRet (x : Ins) : Bool := isIns x 42 0 0 0 0 0 0
def isMov (x : Ins) : Bool := isIns x 2 14 15 0 0 0 0
def topB (l : List PgD) (c : Cpu) : Bool := insB l c.pc && (isPush (insX l c.pc) || isRet (insX l c.pc) || (isMov (insX l c.pc) && (insB l (at4 c.pc) && isPush (insX l (at4 c.pc)))))
def topA (l : List PgD) (c : Cpu) : Int := bif isPush (insX l c.pc) || isRet (insX l c.pc) then c.r 15 else IntKind.u32.wrap (c.r 15 + 4)
def topV (l : List PgD) (c : Cpu) : AV := bif topB l c then u32b (topA l c) true else u32b 0 false
theorem Try.w26 (l : List PgD) (c : Cpu) : rootS (Try.E26 l) 5 26 (lsumsOf []) [cpuV c, memV l] =
    gdM l c.pc (bif insB l c.pc then
      bif isPush (insX l c.pc) then some (u32b (c.r 15) true, ⟨0, []⟩) else bif isRet (insX l c.pc) then some (u32b (c.r 15) true, ⟨0, []⟩)
      else bif isMov (insX l c.pc) then gdM l (at4 c.pc) (bif insB l (at4 c.pc) then (bif isPush (insX l (at4 c.pc)) then some (u32b (IntKind.u32.wrap (c.r 15 + 4)) true, ⟨0, []⟩) else some (u32b 0 false, ⟨0, []⟩)) else some (u32b 0 false, ⟨0, []⟩)) else some (u32b 0 false, ⟨0, []⟩)
     else some (u32b 0 false, ⟨0, []⟩)) := by kernel_rfl
theorem Try.e26 (l : List PgD) (hl : okB l) : EnvOk2 Try.prog (Try.E26 l) := Try.envOk false (sumsOf [(61, Try.A61 l)]) _ (sumsOf_ok (show AllS Try.prog [(61, Try.A61 l)] from ⟨Try.sum61 l hl, trivial⟩))
theorem Try.al26 (l : List PgD) (hl : okB l) (c : Cpu) (hc : 0 ≤ c.pc) : Alone Try.prog 26 [cpuV c, memV l] (topV l c) ⟨0, []⟩ := by
  refine rootS_alone (Try.e26 l hl) (d := 5) (g := 26) (ls := lsumsOf []) (AllL.of0 (by kernel_rfl)) ((Try.w26 l c).trans ?_)
  rw [gdM_eq l hc, gdM_eq l (show 0 ≤ at4 c.pc from u32_nn _)]
  unfold topV topB topA
  cases insB l c.pc
  · rfl
  · cases isPush (insX l c.pc)
    · cases isRet (insX l c.pc)
      · cases isMov (insX l c.pc)
        · rfl
        · cases insB l (at4 c.pc)
          · rfl
          · cases isPush (insX l (at4 c.pc)) <;> rfl
      · rfl
    · rfl
def S26 (l : List PgD) (c : Cpu) (args : List AV) : Ans (AV × Heap) := match args with
  | [v, m] => .grd (isV v (cpuV c) && isV m (memV l)) (.br (topB l c) (.out (u32b (topA l c) true, ⟨0, []⟩)) (.out (u32b 0 false, ⟨0, []⟩)))
  | _ => .no
def Try.A26 (l : List PgD) (c : Cpu) : AFun := roA (S26 l c)
theorem Try.sum26 (l : List PgD) (hl : okB l) (c : Cpu) (hc : 0 ≤ c.pc) : SumC Try.prog 26 (Try.A26 l c) := by
  refine roSumR 26 ⟨Try.f26, _, Try.fnOk26.1, Try.fnOk26.2, rfl⟩ ?_
  intro args v h2 hs
  unfold S26 at hs
  split at hs
  · rename_i v0 m
    rw [gdB_run] at hs
    cases hb : (isV v0 (cpuV c) && isV m (memV l)) with
    | false => rw [hb] at hs; cases hs
    | true =>
      rw [hb] at hs
      rw [Bool.and_eq_true] at hb
      have h1 := isV_eq hb.1
      have h2 := isV_eq hb.2
      subst h1; subst h2
      have key := Try.al26 l hl c hc
      unfold topV at key
      cases h : topB l c <;> (rw [h] at hs key; have hs := Option.some.inj hs; injection hs with q1 q2; subst q1; subst q2; exact ⟨fun e he => by (cases he), key⟩)
  · cases hs
end Go.Ev
/- Functions that freeze nothing: their caller's blocks may be turned. -/
namespace Go.Ev
def EffQ (P : Program) (g p : Nat) (args : List AV) (h : Heap) (v : AV) (h2 : Heap) : Prop := h2.ok ∧ ∀ (w : World) (c : Cx) (args' : List Value), HR w c h.G → VRs w c args args' → (∀ id, c.V id → id < h.next) →
      CallsIn Fence.wide 0 P g args'.toArray w (fun e w' => ∃ v', e = .returned v' ∧ PostF ⟨true, p, false⟩ w c h h2 v v' w')
def TripleQ (P : Program) (p : Nat) (c : Code) (s : St) (e : AX) (s' : St) : Prop := s'.h.ok ∧ ∀ {F : Fence} (hF : FOk F) (hro : F.round = none) (w : World) (cx : Cx) (a : Act), StRel w cx s a → Fresh ⟨true, p, false⟩ cx s.h.next s'.h.next →
    c.wpIn F 0 P (fun e' a' w' => e' = exitOf e ∧ PostC ⟨true, p, false⟩ w cx s.h.next s' a' w') a w
def LsOkQ (P : Program) (p : Nat) (ls : Nat → Option LSum) (c : Code) : Prop := match lsOf ls c with | some L => ∀ s e s', s.h.ok → (L s).run = some (e, s') → TripleQ P p (.loop c) s e s' | none => True
def WeakQ (p : Nat) (s s' : St) : Prop := s'.h.ok ∧ ∀ w c a, StRel w c s a → (∀ id, c.V id → id < s.h.next) → ∃ c', StRel w c' s' a ∧ ExtW ⟨true, p, false⟩ w c w c' ∧ (∀ id, c'.V id → id < s'.h.next) ∧ (∀ i, i < p → c.V i → c'.V i ∧ c'.ι i = c.ι i)
theorem WeakQ.refl {p : Nat} {s : St} (h : s.h.ok) : WeakQ p s s := ⟨h, fun w c a hr hv => ⟨c, hr, (Ext.refl w c).w, hv, fun _ _ hi => ⟨hi, rfl⟩⟩⟩
theorem WeakQ.cells {p : Nat} {s : St} {h' : Heap} (hok : h'.ok) (hnx : s.h.next ≤ h'.next)
    (hG : ∀ j b', h'.G j = some b' → s.h.G j = some b' ∨ ∃ k k', s.h.G j = some (.cells k) ∧ b' = .cells k' ∧ k'.pureF = k.pureF ∧ ConW k k') : WeakQ p s ⟨s.t, s.d, h'⟩ := by
  refine ⟨hok, fun w c a hr hv => ⟨c, ⟨hr.t, ?_, hr.d, hr.dv⟩, (Ext.refl w c).w, fun i hi => Nat.lt_of_lt_of_le (hv i hi) hnx, fun _ _ hi => ⟨hi, rfl⟩⟩⟩
  have old : ∀ j b', h'.G j = some b' → ∃ b, s.h.G j = some b := fun j b' hj => by
    rcases hG j b' hj with q | ⟨k, k', q, _⟩
    · exact ⟨_, q⟩
    · exact ⟨_, q⟩
  refine ⟨fun j b' hj => ?_, ?_, ?_, hr.h.dis⟩
  · obtain ⟨b, hb⟩ := old j b' hj; exact hr.h.valid j b hb
  · intro j b' hj
    rcases hG j b' hj with q | ⟨k, k', q, rfl, hpf, hz⟩
    · exact hr.h.blk j b' q
    · have hb : CellsRel w c (c.ι j) k := hr.h.blk j _ q
      refine ⟨hz.wd.trans hb.wd, fun l => hz.len.trans (hb.dead l), hb.own, fun l => ?_⟩
      obtain ⟨arr, te, fz, a1, a2, a3, a4, a5, a6⟩ := hb.arr l
      refine ⟨arr, te, fz, a1, a2, a3, a4, by rw [hz.len]; exact a5, ?_⟩
      intro i j2 v' u hi hj2 hv' hu
      rw [hz.len] at hi
      obtain ⟨v, e1, e2⟩ := hz.row i hi j2 v' hv'
      rw [hpf]
      exact e2 _ _ _ (a6 i j2 v u hi hj2 e1 hu)
  · intro i j b b' hi hj li lj hbk
    obtain ⟨bi, qi⟩ := old i b hi
    obtain ⟨bj, qj⟩ := old j b' hj
    exact hr.h.inj i j bi bj qi qj li lj hbk
theorem WeakQ.heap {p : Nat} {t : List AV} {d : List Nat} {n : Nat} {es es' : List Ent} (hok : (⟨n, es⟩ : Heap).ok) (h : EsW es es') : WeakQ p ⟨t, d, ⟨n, es⟩⟩ ⟨t, d, ⟨n, es'⟩⟩ := by
  have hok' : (⟨n, es'⟩ : Heap).ok := by
    refine ⟨by have := hok.uniq; unfold Uniq at *; rw [h.ids]; exact this, fun j e hj => ?_⟩
    have : ((findE es j).map (·.blk)).isSome = true := by
      have q := h.find j e.blk (by rw [hj]; rfl)
      rcases q with q | ⟨k, k', q, _⟩ <;> rw [q] <;> rfl
    cases hf : findE es j with
    | none => rw [hf] at this; cases this
    | some e0 => exact hok.lt j e0 hf
  refine WeakQ.cells (s := ⟨t, d, ⟨n, es⟩⟩) hok' (Nat.le_refl _) (fun j b' hj => ?_)
  exact h.find j b' hj
section
variable {P : Program} {ρ : Type} {p : Nat}
theorem codeQ_sound {call : Calling} (hc : CallOk P call) {env : Env} (he : EnvOk P env) (hmix : P.follows .mixedOrders = true) (kp : Nat → Option (List Nat)) (ls : Nat → Option LSum) (c : Code) (hl : AllL (LsOkQ P p ls) (loopsOf c)) : COk P ⟨true, p, false⟩ false c (fun (K : KC ρ) s => codeP env call kp ls p c K s) := by
  induction c with
  | skip => exact COk.skip
  | region id ops draw => exact COk.region hc he hmix
  | seq a b iha ihb => exact COk.seq (iha (AllL.append hl).1) (ihb (AllL.append hl).2) _
  | cond c a b iha ihb => exact COk.cond (iha (AllL.append hl).1) (ihb (AllL.append hl).2)
  | block id c ih => exact COk.block (ih hl)
  | loop c ih =>
    have hl' : LsOkQ P p ls c ∧ AllL (LsOkQ P p ls) (loopsOf c) := hl
    obtain ⟨h1, h2⟩ := hl'
    intro K s r hk hK
    have hK' : (match lsOf ls c with
      | some L => sumK (L (trimR ⟨true, p, false⟩ (kpOf kp c) s)) K
      | none => loopK (trimR ⟨true, p, false⟩ (kpOf kp c)) (codeP env call kp ls p c) K env.rounds (trimR ⟨true, p, false⟩ (kpOf kp c) s)) = some r := hK
    unfold LsOkQ at h1
    cases hls : lsOf ls c with
    | none =>
      rw [hls] at hK'
      exact COk.loop (ih h2) (kpOf kp c) env.rounds K s r hk hK'
    | some L =>
      rw [hls] at hK' h1
      simp only at hK' h1
      unfold sumK at hK'
      rw [Ans.walk_eq] at hK'
      split at hK'
      · rename_i r0 hL
        obtain ⟨e, s'⟩ := r0
        simp only at hK'
        obtain ⟨t2, t5⟩ := trimR_ok (root := ⟨true, p, false⟩) (ks := kpOf kp c) hk
        obtain ⟨q1, q2⟩ := h1 _ _ _ t2.1 hL
        refine ⟨e, s', hK', ⟨q1, fun q => by cases q⟩, fun hF hro w cx a hr hfr => ?_⟩
        obtain ⟨c2, r2, x2, v2⟩ := t5 w cx a _ hr hfr
        refine wpIn_mono (q2 hF (hro rfl) w c2 a r2 (hfr.onward v2)) ?_
        rintro e2 a2 w2 ⟨rfl, hp⟩
        exact ⟨rfl, hp.trans x2 v2⟩
      · cases hK'
  | rangeFunc f ps assign body _ _ => exact COk.rangeFunc hc
  | exit id => exact COk.exit
  | scope c ih => exact COk.scope (ih hl)
  | label l => exact COk.label
  | goto l => intro K s r hk hK; cases hK
  | ret => exact COk.ret
  | refuse why => intro K s r hk hK; cases hK
theorem loop_tripleQ {c : Code} {X : KC (AX × St) → St → Option (AX × St)} (hX : COk P ⟨true, p, false⟩ false c X) (ks ko : List Nat) {T : Type} (st : T → St) (Inv : T → Prop) (m : T → Nat) (fin : T → AX × St)
    (hok : ∀ x, Inv x → (st x).h.ok)
    (hb : ∀ x, Inv x → (∃ x' s1, X (outKP p ks ko) (st x) = some (.normal, s1) ∧ WeakQ p s1 (st x') ∧ Inv x' ∧ m x' < m x ∧ fin x' = fin x) ∨ (∃ s1, X (outKP p ks ko) (st x) = some ((fin x).1, s1) ∧ WeakQ p s1 (fin x).2 ∧ (fin x).1 ≠ .normal)) :
    ∀ x, Inv x → TripleQ P p (.loop c) (st x) (fin x).1 (fin x).2 := by
  have key : ∀ n x, m x < n → Inv x → (fin x).2.h.ok ∧ ∀ {F : Fence} (hF : FOk F) (hro : F.round = none) (w : World) (cx : Cx) (a : Act), StRel w cx (st x) a → (∀ id, cx.V id → id < (st x).h.next) →
      LoopWp F P c (fun e' a' w' => e' = exitOf (fin x).1 ∧ PostC ⟨true, p, false⟩ w cx (st x).h.next (fin x).2 a' w') n a w := by
    intro n
    induction n with
    | zero => intro x h; omega
    | succ n ih =>
      intro x hm hi
      rcases hb x hi with ⟨x', sx, h1, hw, h2, h3, h4⟩ | ⟨sx, h1, hw, h2⟩
      · obtain ⟨e, s1, k1, k2, k3⟩ := hX _ _ _ (hok x hi) h1
        obtain ⟨i1, i2⟩ := ih x' (by omega) h2
        rw [h4] at i1 i2
        refine ⟨i1, fun hF hro w cx a hr hfr => ?_⟩
        cases e with
        | normal =>
          have hs : canonP p (some ks) s1 = sx := by injection k1 with k1; injection k1 with _ k1
          obtain ⟨t2, t5⟩ := trimR_ok (root := ⟨true, p, false⟩) (ks := some ks) k2.1
          refine wpIn_mono (k3 hF (fun _ => hro) w cx a hr ⟨fun q => (by cases q), fun _ => hfr⟩) ?_
          rintro e1 a1 w1 ⟨rfl, c1, r1, x1, v1⟩
          have f1 : Fresh ⟨true, p, false⟩ c1 s1.h.next s1.h.next := ⟨fun q => (by cases q), v1.R⟩
          obtain ⟨c2, r2, x2, v2⟩ := t5 w1 c1 a1 _ r1 f1
          have e2 : trimR ⟨true, p, false⟩ (some ks) s1 = sx := hs
          rw [e2] at r2 v2
          obtain ⟨c3, r3, x3, v3, u3⟩ := hw.2 w1 c2 a1 r2 (v2.R rfl)
          refine LoopWp.mono ?_ n a1 w1 (i2 hF hro w1 c3 a1 r3 v3)
          rintro e2 a2 w2 ⟨rfl, hp⟩
          have k12 := v1.trans v2
          have k3' : Keeps ⟨true, p, false⟩ c2 c3 sx.h.next (st x').h.next := ⟨fun q => (by cases q), fun q => (by cases q), fun q => (by cases q), fun _ => v3, fun _ => u3⟩
          exact ⟨rfl, hp.trans ((x1.trans x2).trans x3) (k12.trans k3')⟩
        | exit i => injection k1 with k1; injection k1 with k1; cases k1
        | ret => injection k1 with k1; injection k1 with k1; cases k1
      · obtain ⟨e, s1, k1, k2, k3⟩ := hX _ _ _ (hok x hi) h1
        have hs : ((fin x).1, sx) = (e, canonP p (some ko) s1) ∧ e ≠ .normal := by
          cases e with
          | normal => injection k1 with k1; injection k1 with k1 k1'; exact absurd k1.symm h2
          | exit i => injection k1 with k1; exact ⟨k1.symm, by simp⟩
          | ret => injection k1 with k1; exact ⟨k1.symm, by simp⟩
        obtain ⟨hs, hne⟩ := hs
        injection hs with hs1 hs2
        rw [hs1]
        obtain ⟨t2, t5⟩ := trimR_ok (root := ⟨true, p, false⟩) (ks := some ko) k2.1
        refine ⟨hw.1, fun hF hro w cx a hr hfr => wpIn_mono (k3 hF (fun _ => hro) w cx a hr ⟨fun q => (by cases q), fun _ => hfr⟩) ?_⟩
        rintro e1 a1 w1 ⟨rfl, c1, r1, x1, v1⟩
        have f1 : Fresh ⟨true, p, false⟩ c1 s1.h.next s1.h.next := ⟨fun q => (by cases q), v1.R⟩
        obtain ⟨c2, r2, x2, v2⟩ := t5 w1 c1 a1 _ r1 f1
        have e2 : trimR ⟨true, p, false⟩ (some ko) s1 = sx := hs2.symm
        rw [e2] at r2 v2
        obtain ⟨c3, r3, x3, v3, u3⟩ := hw.2 w1 c2 a1 r2 (v2.R rfl)
        have k12 := v1.trans v2
        have k3' : Keeps ⟨true, p, false⟩ c2 c3 sx.h.next (fin x).2.h.next := ⟨fun q => (by cases q), fun q => (by cases q), fun q => (by cases q), fun _ => v3, fun _ => u3⟩
        have fin' : exitOf e = exitOf e ∧ PostC ⟨true, p, false⟩ w cx (st x).h.next (fin x).2 a1 w1 := ⟨rfl, c3, r3, (x1.trans x2).trans x3, k12.trans k3'⟩
        cases e with
        | normal => exact absurd rfl hne
        | exit i => exact fin'
        | ret => exact fin'
  intro x hi
  obtain ⟨h1, h2⟩ := key (m x + 1) x (Nat.lt_succ_self _) hi
  exact ⟨h1, fun hF hro w cx a hr hfr => wpIn_loop_n ⟨m x + 1, h2 hF hro w cx a hr (hfr.R rfl)⟩⟩
theorem LsOkQ.of {ls : Nat → Option LSum} {c : Code} {i : Nat} {L : LSum} (h1 : Code.fst c = some i) (h2 : ls i = some L) (h : ∀ s e s', s.h.ok → (L s).run = some (e, s') → TripleQ P p (.loop c) s e s') : LsOkQ P p ls c := by
  have : lsOf ls c = some L := by unfold lsOf; rw [h1]; exact h2
  unfold LsOkQ
  rw [this]
  exact h
end
section
variable {P : Program} {env : Env} (he : EnvOk2 P env)
include he
end
theorem EffQ.weak {P : Program} {g p : Nat} {args args' : List AV} {h h' : Heap} (hw : WeakQ p ⟨args, [], h⟩ ⟨args', [], h'⟩) {v : AV} {h2 : Heap} (k : EffQ P g p args' h' v h2) : EffQ P g p args h v h2 := by
  refine ⟨k.1, fun w c us hr hv hV => ?_⟩
  obtain ⟨c1, r1, x1, v1, u1⟩ := hw.2 w c { tmps := us.toArray, defers := [] } ⟨by simpa using hv, hr, rfl, by simp⟩ hV
  have hv1 : VRs w c1 args' us := by simpa using r1.t
  refine CallsIn.mono (k.2 w c1 us r1.h hv1 v1) ?_
  rintro e w' ⟨v', rfl, c', a1, a2, a3, a4⟩
  have k1 : Keeps ⟨true, p, false⟩ c c1 h.next h'.next := ⟨fun q => (by cases q), fun q => (by cases q), fun q => (by cases q), fun _ => v1, fun _ => u1⟩
  exact ⟨v', rfl, c', a1, x1.trans a2, k1.trans a3, a4⟩
def RsOkQ (P : Program) (p : Nat) (rs : Nat → Option LSum) (c : Code) : Prop := match c with
  | .rangeFunc _ _ assign _ => (match lsOf rs assign with | some L => ∀ s e s', s.h.ok → (L s).run = some (e, s') → TripleQ P p c s e s' | none => True)
  | _ => True
section
variable {P : Program} {ρ : Type} {p : Nat}
theorem codeRQ_sound {call : Calling} (hc : CallOk P call) {env : Env} (he : EnvOk P env) (hmix : P.follows .mixedOrders = true) (kp : Nat → Option (List Nat)) (ls rs : Nat → Option LSum) (c : Code) (hl : AllL (LsOkQ P p ls) (loopsOf c)) (hr : AllL (RsOkQ P p rs) (rangesOf c)) : COk P ⟨true, p, false⟩ false c (fun (K : KC ρ) s => codeR env call kp ls rs p c K s) := by
  induction c with
  | skip => exact COk.skip
  | region id ops draw => exact COk.region hc he hmix
  | seq a b iha ihb => exact COk.seq (iha (AllL.append hl).1 (AllL.append hr).1) (ihb (AllL.append hl).2 (AllL.append hr).2) _
  | cond c a b iha ihb => exact COk.cond (iha (AllL.append hl).1 (AllL.append hr).1) (ihb (AllL.append hl).2 (AllL.append hr).2)
  | block id c ih => exact COk.block (ih hl hr)
  | loop c ih =>
    have hl' : LsOkQ P p ls c ∧ AllL (LsOkQ P p ls) (loopsOf c) := hl
    obtain ⟨h1, h2⟩ := hl'
    intro K s r hk hK
    have hK' : (match lsOf ls c with
      | some L => sumK (L (trimR ⟨true, p, false⟩ (kpOf kp c) s)) K
      | none => loopK (trimR ⟨true, p, false⟩ (kpOf kp c)) (codeR env call kp ls rs p c) K env.rounds (trimR ⟨true, p, false⟩ (kpOf kp c) s)) = some r := hK
    unfold LsOkQ at h1
    cases hls : lsOf ls c with
    | none =>
      rw [hls] at hK'
      exact COk.loop (ih h2 hr) (kpOf kp c) env.rounds K s r hk hK'
    | some L =>
      rw [hls] at hK' h1
      simp only at hK' h1
      unfold sumK at hK'
      rw [Ans.walk_eq] at hK'
      split at hK'
      · rename_i r0 hL
        obtain ⟨e, s'⟩ := r0
        simp only at hK'
        obtain ⟨t2, t5⟩ := trimR_ok (root := ⟨true, p, false⟩) (ks := kpOf kp c) hk
        obtain ⟨q1, q2⟩ := h1 _ _ _ t2.1 hL
        refine ⟨e, s', hK', ⟨q1, fun q => by cases q⟩, fun hF hro w cx a hr hfr => ?_⟩
        obtain ⟨c2, r2, x2, v2⟩ := t5 w cx a _ hr hfr
        refine wpIn_mono (q2 hF (hro rfl) w c2 a r2 (hfr.onward v2)) ?_
        rintro e2 a2 w2 ⟨rfl, hp⟩
        exact ⟨rfl, hp.trans x2 v2⟩
      · cases hK'
  | rangeFunc f ps assign body _ _ =>
    have hr' : RsOkQ P p rs (.rangeFunc f ps assign body) ∧ True := hr
    intro K s r hk hK
    have hK' : (match lsOf rs assign with
      | some L => sumK (L (trimR ⟨true, p, false⟩ (kpOf kp assign) s)) K
      | none => rangeK env.strict call (ev s.t f) ps assign body K s) = some r := hK
    have h1 := hr'.1
    unfold RsOkQ at h1
    simp only at h1
    cases hls : lsOf rs assign with
    | none =>
      rw [hls] at hK'
      exact COk.rangeFunc hc K s r hk hK'
    | some L =>
      rw [hls] at hK' h1
      simp only at hK' h1
      unfold sumK at hK'
      rw [Ans.walk_eq] at hK'
      split at hK'
      · rename_i r0 hL
        obtain ⟨e, s'⟩ := r0
        simp only at hK'
        obtain ⟨t2, t5⟩ := trimR_ok (root := ⟨true, p, false⟩) (ks := kpOf kp assign) hk
        obtain ⟨q1, q2⟩ := h1 _ _ _ t2.1 hL
        refine ⟨e, s', hK', ⟨q1, fun q => by cases q⟩, fun hF hro w cx a hr hfr => ?_⟩
        obtain ⟨c2, r2, x2, v2⟩ := t5 w cx a _ hr hfr
        refine wpIn_mono (q2 hF (hro rfl) w c2 a r2 (hfr.onward v2)) ?_
        rintro e2 a2 w2 ⟨rfl, hp⟩
        exact ⟨rfl, hp.trans x2 v2⟩
      · cases hK'
  | exit id => exact COk.exit
  | scope c ih => exact COk.scope (ih hl hr)
  | label l => exact COk.label
  | goto l => intro K s r hk hK; cases hK
  | ret => exact COk.ret
  | refuse why => intro K s r hk hK; cases hK
end
section
variable {P : Program} {env : Env} (he : EnvOk2 P env)
include he
theorem rootQ_alone {d g p : Nat} {ls rs : Nat → Option LSum} {KV : AV → Heap → Option (AV × Heap)} (hKV : ∀ v h v2 h2, h.ok → KV v h = some (v2, h2) → WeakQ p ⟨[v], [], h⟩ ⟨[v2], [], h2⟩) (hl : AllL (LsOkQ P p ls) (loopsOf (bodyOf env g))) (hrs : AllL (RsOkQ P p rs) (rangesOf (bodyOf env g))) {args : List AV} {h0 : Heap} (hk0 : h0.ok) {v : AV} {h2 : Heap} (hK : rootR env d g p ls rs KV args h0 = some (v, h2)) : EffQ P g p args h0 v h2 := by
  have hc := callF_sound he d
  unfold rootR at hK
  unfold bodyOf at hl hrs
  split at hK
  · rename_i fn hfn
    rw [hfn] at hl hrs
    simp only at hl hrs
    obtain ⟨f1, f2⟩ := he.fn g fn hfn
    split at hK
    · rename_i c hb
      rw [hb] at hl hrs
      simp only at hl hrs
      obtain ⟨e, s', h1, h2', h3⟩ := codeRQ_sound (p := p) hc he.ok he.mix (env.keep g) ls rs c hl hrs _ _ _ hk0 hK
      have hl : leaveK env fn KV s' = some (v, h2) ∧ ∀ id, e ≠ .exit id := by
        cases e with
        | normal => exact ⟨h1, by simp⟩
        | exit id => cases h1
        | ret => exact ⟨h1, by simp⟩
      obtain ⟨hl, hne⟩ := hl
      unfold leaveK at hl
      split at hl
      · rename_i h' hcm
        unfold leaveH at hl
        split at hl
        · rename_i l hla
          rw [sAV_eq] at hl
          obtain ⟨m1, m2, _⟩ := closeMarks_sound (P := P) (fn := fn) (tmps := #[]) (R := fun _ _ => True) s'.d s'.h h' h2'.1 hcm
          have hwk := hKV _ _ _ _ m1.ok hl
          refine ⟨hwk.1, ?_⟩
          intro w cx args' hr hv hV
          apply callsIn_of_wp_marks f1 hb trivial
          have hst : StRel w cx ⟨startT fn args, [], h0⟩ { tmps := args'.toArray ++ Array.replicate (fn.ntmps - args'.toArray.size) undef, defers := [] } := by
            refine ⟨?_, hr, rfl, by simp⟩
            show VRs w cx (args ++ List.replicate (fn.ntmps - args.length) undefA) _
            have : (args'.toArray ++ Array.replicate (fn.ntmps - args'.toArray.size) undef).toList = args' ++ List.replicate (fn.ntmps - args.length) undef := by
              simp [hv.length]
            rw [this]
            exact hv.append (VRs.replicate _ (.val _))
          have hx := h3 (.inl rfl) (fun _ => rfl) w cx _ hst ⟨fun q => (by cases q), fun _ => hV⟩
          refine wpIn_mono hx ?_
          rintro e1' a1 w1 ⟨rfl, c1, r1, x1, v1⟩
          have fin : LeavesInM Fence.wide 0 P fn a1.tmps (fun e w' => ∃ v', e = .returned v' ∧ PostF ⟨true, p, false⟩ w cx h0 h2 v v' w') a1.defers .returning w1 := by
            obtain ⟨_, _, m3⟩ := closeMarks_sound (P := P) (fn := fn) (tmps := a1.tmps) (R := fun e w' => ∃ v', e = .returned v' ∧ PostF ⟨true, p, false⟩ w cx h0 h2 v v' w') s'.d s'.h h' h2'.1 hcm
            obtain ⟨w', y1, y2, y3⟩ := m3 w1 c1 r1.h r1.dv
            rw [r1.d]
            apply y3
            obtain ⟨v', z1, z2⟩ := results_sound he.ok (fn := fn) (VRs.mono y1.toExt0 r1.t) y2 hla
            have v1' : Keeps ⟨true, p, false⟩ cx c1 h0.next h'.next := by rw [m2]; exact v1
            obtain ⟨c2, r2, x2, q2, u2⟩ := hwk.2 w' c1 { tmps := #[v'], defers := [] } ⟨.cons _ _ _ _ z2 .nil, y2, rfl, by simp⟩ (v1'.R rfl)
            have k2 : Keeps ⟨true, p, false⟩ c1 c2 h'.next h2.next := ⟨fun q => (by cases q), fun q => (by cases q), fun q => (by cases q), fun _ => q2, fun _ => u2⟩
            refine ⟨v', z1, v', rfl, c2, ?_, (x1.trans y1.w).trans x2, v1'.trans k2, r2.h⟩
            have r3 : VRs w' c2 [v] [v'] := r2.t
            cases r3 with | cons _ _ _ _ q1 q2 => exact q1
          cases e with
          | normal => exact fin
          | exit id => exact absurd rfl (hne id)
          | ret => exact fin
        · cases hl
      · cases hl
    · cases hK
  · cases hK
end
theorem outVP_weakQ {p : Nat} : ∀ v h v2 h2, h.ok → outVP p v h = some (v2, h2) → WeakQ p ⟨[v], [], h⟩ ⟨[v2], [], h2⟩ := by
  intro v h v2 h2 hk e
  unfold outVP at e
  injection e with e
  injection e with e1 e2
  obtain ⟨t2, t5⟩ := trimR_ok (root := ⟨true, p, false⟩) (ks := some [0]) (s := ⟨[v], [], h⟩) hk
  subst e1; subst e2
  refine ⟨t2.1, fun w c a hr hv => ?_⟩
  obtain ⟨c2, r2, x2, v2⟩ := t5 w c a h.next hr ⟨fun q => (by cases q), fun _ => hv⟩
  refine ⟨c2, ⟨?_, r2.h, ?_, ?_⟩, x2, v2.R rfl, v2.P rfl⟩
  · have r3 : VRs w c2 (canonP p (some [0]) ⟨[v], [], h⟩).t a.tmps.toList := r2.t
    have hl := hr.t.length
    generalize (canonP p (some [0]) ⟨[v], [], h⟩).t = tt at r3
    generalize a.tmps.toList = us at r3 hl
    cases r3 with
    | nil => simp at hl
    | cons v0 u l us q1 q2 =>
      cases q2 with
      | nil => exact .cons _ _ _ _ q1 .nil
      | cons => simp at hl
  · have hd : hr.d = hr.d := rfl
    have := r2.d
    have h0 : a.defers = marks c [] := hr.d
    rw [h0]; rfl
  · intro i hi; cases hi
def effQ (S : List AV → Heap → Ans (AV × Heap)) : AFun := fun _ args h K =>
  (fun m => bif nodupB m && (allIn m h.es && allHas m h.es) then
    (S (rens (fun id => posN id m) args) ⟨m.length, renEs (fun id => posN id m) h.es m⟩).walk fun r => match r with
      | (v, h2) => K (v.ren (backN m h.next)) ⟨h.next + h2.next, backEs m h.next h.es h2.es⟩
  else none) (reach fuelR h.es (refss args) [])
theorem effSumQ {P : Program} (g : Nat) {S : List AV → Heap → Ans (AV × Heap)} (hf : ∃ fn c, P.funcs[g]? = some fn ∧ fn.name ≠ "runtime.NumGoroutine" ∧ fn.body = some c)
    (hS : ∀ args h v h2, h.ok → (S args h).run = some (v, h2) → EffQ P g h.next args h v h2) : SumC P g (effQ S) := by
  refine ⟨hf, ?_⟩
  intro ρ args h K r hk hA
  unfold effQ at hA
  simp only at hA
  obtain ⟨m, hm⟩ : ∃ m, m = reach fuelR h.es (refss args) [] := ⟨_, rfl⟩
  rw [← hm] at hA
  cases hck : (nodupB m && (allIn m h.es && allHas m h.es)) with
  | false => rw [hck] at hA; cases hA
  | true =>
  rw [hck, cond_true, Ans.walk_eq] at hA
  simp only [Bool.and_eq_true] at hck
  obtain ⟨ck1, ck2, ck3⟩ := hck
  have hnd := nodupB_iff ck1
  split at hA
  · rename_i r0 hs
    obtain ⟨v0, h0⟩ := r0
    simp only at hA
    obtain ⟨hc0, hren⟩ := renTo_ok (p := 0) (m := m) (t := args) hk
    obtain ⟨k2, k3⟩ := hS _ _ v0 h0 hc0 hs
    obtain ⟨h', hh'⟩ : ∃ h' : Heap, h' = ⟨h.next + h0.next, backEs m h.next h.es h0.es⟩ := ⟨_, rfl⟩
    rw [← hh'] at hA
    have hmem : ∀ i, i < m.length → m.reverse.getD i 0 ∈ m := fun i hi => by
      rw [List.getD_eq_getElem?_getD, List.getElem?_eq_getElem (by simpa using hi)]
      exact List.mem_reverse.1 (List.getElem_mem _)
    have hold : ∀ i, i < m.length → ∃ e, findE h.es (m.reverse.getD i 0) = some e := fun i hi => allHas_get ck3 _ (hmem i hi)
    have hbk : ∀ i, i < m.length → backN m h.next i = some (m.reverse.getD i 0) ∧ m.reverse.getD i 0 < h.next := by
      intro i hi
      refine ⟨by unfold backN; rw [show Nat.blt i m.length = true from blt_t hi]; rfl, ?_⟩
      obtain ⟨e, he⟩ := hold i hi
      exact hk.lt _ e he
    have hbk2 : ∀ i, m.length ≤ i → backN m h.next i = some (h.next + i) := fun i hi => by
      unfold backN; rw [show Nat.blt i m.length = false from blt_f hi]; rfl
    have hinj : ∀ i j a, backN m h.next i = some a → backN m h.next j = some a → i = j := by
      intro i j a hi hj
      rcases Nat.lt_or_ge i m.length with qi | qi <;> rcases Nat.lt_or_ge j m.length with qj | qj
      · have e1 := (hbk i qi).1.symm.trans hi
        have e2 := (hbk j qj).1.symm.trans hj
        injection e1 with e1
        injection e2 with e2
        have := posN_rev hnd qi
        rw [e1, ← e2, posN_rev hnd qj] at this
        injection this with this
        exact this.symm
      · have e1 := (hbk i qi).1.symm.trans hi
        have e2 := (hbk2 j qj).symm.trans hj
        injection e1 with e1
        injection e2 with e2
        have := (hbk i qi).2
        omega
      · have e1 := (hbk2 i qi).symm.trans hi
        have e2 := (hbk j qj).1.symm.trans hj
        injection e1 with e1
        injection e2 with e2
        have := (hbk j qj).2
        omega
      · have e1 := (hbk2 i qi).symm.trans hi
        have e2 := (hbk2 j qj).symm.trans hj
        injection e1 with e1
        injection e2 with e2
        omega
    have hbs : ∀ i, ∃ a, backN m h.next i = some a := fun i => by
      rcases Nat.lt_or_ge i m.length with q | q
      · exact ⟨_, (hbk i q).1⟩
      · exact ⟨_, hbk2 i q⟩
    have hbid : ∀ e a, backN m h.next e.id = some a → (backE m h.next h.es e).id = a := fun e a ha => by
      unfold backE; simp only [ha]
    have hfind : ∀ j e', findE h'.es j = some e' → ∃ e, findE h0.es e.id = some e ∧ e' = backE m h.next h.es e ∧ backN m h.next e.id = some j := by
      intro j e' he'
      have h1 := findE_some_mem he'
      have h2 := findE_id he'
      rw [hh', backEs_eq] at h1
      obtain ⟨e, m1, rfl⟩ := List.mem_map.1 h1
      obtain ⟨a, ha⟩ := hbs e.id
      rw [hbid e a ha] at h2
      subst h2
      exact ⟨e, findE_mem k2.uniq m1, rfl, ha⟩
    have hok : h'.ok := by
      refine ⟨?_, ?_⟩
      · rw [hh', backEs_eq]
        unfold Uniq
        rw [List.map_map]
        have hu := k2.uniq
        unfold Uniq at hu
        have : ∀ l : List Ent, (l.map (·.id)).Nodup → (l.map ((fun e => e.id) ∘ backE m h.next h.es)).Nodup := by
          intro l
          induction l with
          | nil => exact fun _ => List.nodup_nil
          | cons e l ih =>
            intro hl
            rw [List.map_cons, List.nodup_cons] at hl ⊢
            refine ⟨fun q => hl.1 ?_, ih hl.2⟩
            obtain ⟨e2, m2, q2⟩ := List.mem_map.1 q
            obtain ⟨a, ha⟩ := hbs e.id
            obtain ⟨a2, ha2⟩ := hbs e2.id
            have q3 : (backE m h.next h.es e2).id = (backE m h.next h.es e).id := q2
            rw [hbid e a ha, hbid e2 a2 ha2] at q3
            subst q3
            exact List.mem_map.2 ⟨e2, m2, hinj _ _ _ ha2 ha⟩
        exact this _ hu
      · intro j e' he'
        obtain ⟨e, m1, _, ha⟩ := hfind j e' he'
        have hl := k2.lt _ e m1
        rw [hh']
        show j < h.next + h0.next
        rcases Nat.lt_or_ge e.id m.length with q | q
        · have e1 := (hbk _ q).1.symm.trans ha
          injection e1 with e1
          have := (hbk _ q).2
          omega
        · have e1 := (hbk2 _ q).symm.trans ha
          injection e1 with e1
          omega
    refine ⟨_, h', hA, ⟨by rw [hh']; exact Nat.le_add_right _ _, hok, ?_⟩, ?_⟩
    · intro id e' he' hi
      obtain ⟨e, m1, rfl, ha⟩ := hfind id e' he'
      have hlt : e.id < m.length := by
        rcases Nat.lt_or_ge e.id m.length with q | q
        · exact q
        · have e1 := (hbk2 _ q).symm.trans ha
          injection e1 with e1
          omega
      obtain ⟨e0, m2⟩ := hold e.id hlt
      have e1 := (hbk _ hlt).1.symm.trans ha
      injection e1 with e1
      rw [e1] at m2
      have hv : (backE m h.next h.es e).ver = e0.ver + 1 := by
        unfold backE verOf
        simp only [ha, m2]
      exact ⟨e0, m2, by rw [hv]; omega, fun q => by rw [hv] at q; omega⟩
    · intro w c args' hr hv hfr
      classical
      let c0 : Cx := ⟨c.M, fun b => ∃ id e, findE h.es id = some e ∧ (c.ι id).live = true ∧ (c.ι id).blk = b, c.ι, c.V⟩
      have hx0 : Ext0 w c w c0 := ⟨fun _ q => q, fun _ _ _ => rfl, fun i hi => ⟨hi, rfl⟩⟩
      have hG0 : ∀ id e, findE h.es id = some e → h.G id = some e.blk := fun id e he => by simp [Heap.G, he]
      have hO0 : ∀ b, c0.O b → c.O b := by
        rintro b ⟨id, e, he, hl, rfl⟩
        exact (hr.blk id _ (hG0 id e he)).owned hl
      have hr0 : HR w c0 h.G := by
        refine ⟨hr.valid, fun id b hb => ?_, hr.inj, fun b hb => ⟨fun o => (hr.dis b hb).1 (hO0 b o), (hr.dis b hb).2⟩⟩
        refine BlkRel.keep hx0 (hr.blk id b hb) (fun _ => rfl) (fun hl => ?_)
        simp only [Heap.G, Option.map_eq_some_iff] at hb
        obtain ⟨e, he, _⟩ := hb
        exact ⟨id, e, he, hl, rfl⟩
      obtain ⟨c1, q1, q2, q3, q4, q5, q6⟩ := hren w c0 args' (VRs.mono hx0 hv) hr0
      refine CallsIn.mono (k3 w c1 args' q2 q1 q5) ?_
      rintro e w' ⟨v', rfl, c', r1, r2, r3, r4⟩
      have horig : ∀ i, i < m.length → c.V (m.reverse.getD i 0) ∧ c1.V i ∧ c'.V i ∧ c'.ι i = c.ι (m.reverse.getD i 0) := by
        intro i hi
        obtain ⟨e, he⟩ := hold i hi
        have h1 := hr.valid _ _ (hG0 _ e he)
        obtain ⟨a1, a2⟩ := q6 _ i (posN_rev hnd hi) h1
        obtain ⟨b1, b2⟩ := r3.P rfl i hi a1
        exact ⟨h1, a1, b1, b2.trans a2⟩
      have hposm : ∀ id, id ∈ m → ∃ i, i < m.length ∧ m.reverse.getD i 0 = id := by
        intro id hid
        obtain ⟨i, hi, he⟩ := List.getElem_of_mem (List.mem_reverse.2 hid)
        exact ⟨i, by simpa using hi, by rw [List.getD_eq_getElem?_getD, List.getElem?_eq_getElem hi, he]; rfl⟩
      have h0G : ∀ i e, findE h0.es i = some e → h0.G i = some e.blk := fun i e q => by simp [Heap.G, q]
      have hMo : ∀ b, b < w.heap.size → c'.M b → c.M b := by
        intro b hb hm'
        rcases r2.Mo b hb hm' with z | ⟨z, _⟩
        · rw [q3] at z; exact z
        · cases z
      have hVc : ∀ id, c'.V id → id < h0.next := r3.R rfl
      have hn' : h'.next = h.next + h0.next := by rw [hh']
      let c2 : Cx := ⟨c'.M, fun b => c'.O b ∨ (c.O b ∧ b < w.heap.size), fun j => if h.next + m.length ≤ j ∧ c'.V (j - h.next) then c'.ι (j - h.next) else c.ι j, fun j => c.V j ∨ (h.next + m.length ≤ j ∧ c'.V (j - h.next))⟩
      have hX : RenTo (backN m h.next) c' c2 := by
        refine ⟨rfl, fun i j hij hi => ?_⟩
        rcases Nat.lt_or_ge i m.length with q | q
        · obtain ⟨e1, e2⟩ := hbk i q
          have e1 := e1.symm.trans hij
          injection e1 with e1
          subst e1
          obtain ⟨b1, _, _, b4⟩ := horig i q
          refine ⟨.inl b1, ?_⟩
          show (if _ then _ else _) = _
          rw [if_neg (fun z => by omega), b4]
        · have e1 := (hbk2 i q).symm.trans hij
          injection e1 with e1
          subst e1
          have e2 : h.next + i - h.next = i := by omega
          refine ⟨.inr ⟨by omega, by rw [e2]; exact hi⟩, ?_⟩
          show (if _ then _ else _) = _
          rw [e2, if_pos ⟨by omega, hi⟩]
      have hold2 : ∀ i, c.V i → c2.V i ∧ c2.ι i = c.ι i := by
        intro i hi
        refine ⟨.inl hi, ?_⟩
        show (if _ then _ else _) = _
        rw [if_neg]
        rintro ⟨z1, z2⟩
        have := hVc _ z2
        exact hfr i (by omega) (by rw [hn']; omega) hi
      have hx : Ext w c w' c2 := by
        refine ⟨⟨fun b q => r2.M b (by rw [q3]; exact q), fun b hb q => r2.mkeep b hb (by rw [q3]; exact q), hold2⟩, r2.os, r2.tape, r2.output, r2.size, fun b hb q => r2.keep b hb (fun o => q (hO0 b (by rw [q4] at o; exact o))), ?_, hMo, ?_⟩
        · rintro b hb (z | z)
          · have := r2.own b hb z
            rw [q4] at this
            exact hO0 b this
          · exact z.1
        · intro b hm' hn
          obtain ⟨z1, z2⟩ := r2.nd b hm' (by rw [q3]; exact hn)
          refine ⟨?_, z2⟩
          rintro (z | z)
          · exact z1 z
          · exact hn (hMo b z.2 hm')
      have hG : ∀ j b, h'.G j = some b → ∃ e, findE h0.es e.id = some e ∧ backN m h.next e.id = some j ∧ e.blk.ren (backN m h.next) = some b := by
        intro j b hb
        simp only [Heap.G, Option.map_eq_some_iff] at hb
        obtain ⟨e', he', rfl⟩ := hb
        obtain ⟨e, m1, rfl, ha⟩ := hfind j e' he'
        refine ⟨e, m1, ha, ?_⟩
        obtain ⟨i0, v0, b0⟩ := e
        cases b0 with
        | cells k => rfl
        | map p m => rfl
        | iter pos l => rfl
        | defd => rfl
        | loop st pend t ps a b df =>
          obtain ⟨d, hd⟩ := hbs df
          simp only [backE, Blk.ren, hd]
      refine ⟨v', rfl, c2, ren_rel hX r1, hx, ?_, ?_⟩
      · rintro id (z | ⟨z1, z2⟩)
        · exact .inl z
        · have := hVc _ z2
          exact .inr ⟨by omega, by rw [hn']; omega⟩
      · refine ⟨?_, ?_, ?_, ?_⟩
        · intro j b hb
          obtain ⟨e, m1, ha, _⟩ := hG j b hb
          exact (hX.ids _ _ ha (r4.valid _ _ (h0G _ e m1))).1
        · intro j b hb
          obtain ⟨e, m1, ha, hb2⟩ := hG j b hb
          rw [(hX.ids _ _ ha (r4.valid _ _ (h0G _ e m1))).2]
          exact blk_ren hX (fun b q => Or.inl q) (r4.blk _ _ (h0G _ e m1)) hb2
        · intro j1 j2 b1 b2 hb1 hb2 l1 l2 hbk'
          obtain ⟨e1, m1, ha1, _⟩ := hG j1 b1 hb1
          obtain ⟨e2, m2, ha2, _⟩ := hG j2 b2 hb2
          rw [(hX.ids _ _ ha1 (r4.valid _ _ (h0G _ e1 m1))).2] at l1 hbk'
          rw [(hX.ids _ _ ha2 (r4.valid _ _ (h0G _ e2 m2))).2] at l2 hbk'
          have := r4.inj _ _ _ _ (h0G _ e1 m1) (h0G _ e2 m2) l1 l2 hbk'
          rw [this] at ha1
          exact Option.some.inj (ha1.symm.trans ha2)
        · intro b hb
          obtain ⟨z1, z2⟩ := r4.dis b hb
          refine ⟨?_, z2⟩
          rintro (z | z)
          · exact z1 z
          · exact (hr.dis b (hMo b z.2 hb)).1 z.1
  · cases hA
end Go.Ev
