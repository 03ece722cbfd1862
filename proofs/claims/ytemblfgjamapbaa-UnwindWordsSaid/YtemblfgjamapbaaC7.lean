/- The evaluator, its soundness and the walks: part 7. -/
import Derived.Test.YtemblfgjamapbaaC6
set_option linter.unusedSectionVars false
set_option linter.unusedSimpArgs false
set_option linter.unusedVariables false
set_option maxRecDepth 100000
set_option maxRecDepth 1000000
noncomputable section
/- Entries of stacks; slices.Clone of them. -/
namespace Go.Ev
open Go.Proofs
abbrev UwE := Int × Int × Int × Int × Int
def ueRow (e : UwE) : List AV := [.val (.int .i64 e.1), .val (.int .u32 e.2.1), .val (.int .u32 e.2.2.1), .val (.int .u32 e.2.2.2.1), .val (.int .i64 e.2.2.2.2)]
def ueParse : List AV → UwE
  | [.val (.int .i64 k), .val (.int .u32 a), .val (.int .u32 t), .val (.int .u32 r), .val (.int .i64 n)] => (k, a, t, r, n)
  | _ => (0, 0, 0, 0, 0)
def ueIs : List AV → Bool
  | [.val (.int .i64 k), .val (.int .u32 a), .val (.int .u32 t), .val (.int .u32 r), .val (.int .i64 n)] => true
  | _ => false
theorem ue_law (r : List AV) (h : ueIs r = true) (j : Nat) (v' : AV) (hv : (ueRow (ueParse r))[j]? = some v') : ∃ v, r[j]? = some v ∧ AW v v' := by
  unfold ueIs at h
  split at h
  · exact ⟨v', hv, AW.refl _⟩
  · cases h
def UE : RowTy UwE := ⟨5, ueRow, ueParse, ueIs, (0, 0, 0, 0, 0), ue_law, fun _ => rfl, fun _ => rfl⟩
def Try.E1 : Env := Try.env0 false (sumsOf []) (keepF 0 [])
theorem Try.e1 : EnvOk2 Try.prog Try.E1 := Try.envOk false (sumsOf []) _ (fun g A h => by cases h)
end Go.Ev
/- Nil slices in a block's cells, told as own blocks without cells. -/
namespace Go.Ev
end Go.Ev
/- Frozen blocks, and loops from one state, the caller's blocks being about. -/
namespace Go.Ev
end Go.Ev
/- Blocks of which less is said: fewer rows. Effects whose answers say less. -/
namespace Go.Ev
structure ConC (a b : Con) : Prop where
  wd : b.wd = a.wd
  len : b.len ≤ a.len
  row : ∀ i, i < b.len → ∀ (j : Nat) (v' : AV), (b.row i)[j]? = some v' → ∃ v, (a.row i)[j]? = some v ∧ AW v v'
inductive EsC : List Ent → List Ent → Prop where
  | nil : EsC [] []
  | same (e : Ent) {l l' : List Ent} : EsC l l' → EsC (e :: l) (e :: l')
  | con (id v v' : Nat) {k k' : Con} {l l' : List Ent} : k'.pureF = k.pureF → ConC k k' → EsC l l' → EsC (⟨id, v, .cells k⟩ :: l) (⟨id, v', .cells k'⟩ :: l')
theorem EsC.refl : ∀ l, EsC l l
  | [] => .nil
  | e :: l => .same e (EsC.refl l)
theorem EsC.ids {l l' : List Ent} (h : EsC l l') : l'.map (·.id) = l.map (·.id) := by
  induction h with
  | nil => rfl
  | same e _ ih => simp [ih]
  | con id v v' _ _ _ ih => simp [ih]
theorem EsC.find {l l' : List Ent} (h : EsC l l') (j : Nat) (b' : Blk) (hj : (findE l' j).map (·.blk) = some b') : (findE l j).map (·.blk) = some b' ∨ ∃ k k', (findE l j).map (·.blk) = some (.cells k) ∧ b' = .cells k' ∧ k'.pureF = k.pureF ∧ ConC k k' := by
  induction h with
  | nil => simp [findE, foldL] at hj
  | same e _ ih =>
    rw [findE_cons] at hj ⊢
    split at hj
    · rename_i q; rw [if_pos q]; exact .inl hj
    · rename_i q; rw [if_neg q]; exact ih hj
  | con id v v' hp hc _ ih =>
    rw [findE_cons] at hj ⊢
    split at hj
    · rename_i q
      rw [if_pos q]
      simp only [Option.map_some, Option.some.injEq] at hj
      exact .inr ⟨_, _, rfl, hj.symm, hp, hc⟩
    · rename_i q; rw [if_neg q]; exact ih hj
theorem WeakP.cut {p : Nat} {t : List AV} {d : List Nat} {n : Nat} {es es' : List Ent} (hok : (⟨n, es⟩ : Heap).ok) (h : EsC es es') : WeakP p ⟨t, d, ⟨n, es⟩⟩ ⟨t, d, ⟨n, es'⟩⟩ := by
  have hok' : (⟨n, es'⟩ : Heap).ok := by
    refine ⟨by have := hok.uniq; unfold Uniq at *; rw [h.ids]; exact this, fun j e hj => ?_⟩
    have : ((findE es j).map (·.blk)).isSome = true := by
      have q := h.find j e.blk (by rw [hj]; rfl)
      rcases q with q | ⟨k, k', q, _⟩ <;> rw [q] <;> rfl
    cases hf : findE es j with
    | none => rw [hf] at this; cases this
    | some e0 => exact hok.lt j e0 hf
  have hG : ∀ j b', (⟨n, es'⟩ : Heap).G j = some b' → (⟨n, es⟩ : Heap).G j = some b' ∨ ∃ k k', (⟨n, es⟩ : Heap).G j = some (.cells k) ∧ b' = .cells k' ∧ k'.pureF = k.pureF ∧ ConC k k' := fun j b' hj => h.find j b' hj
  refine ⟨hok', fun w c a hr hv => ⟨c, ⟨hr.t, ?_, hr.d, hr.dv⟩, (Ext.refl w c).w, fun i hi => hv i hi, fun _ _ hi => ⟨hi, rfl⟩⟩⟩
  have old : ∀ j b', (⟨n, es'⟩ : Heap).G j = some b' → ∃ b, (⟨n, es⟩ : Heap).G j = some b := fun j b' hj => by
    rcases hG j b' hj with q | ⟨k, k', q, _⟩
    · exact ⟨_, q⟩
    · exact ⟨_, q⟩
  refine ⟨fun j b' hj => ?_, ?_, ?_, hr.h.dis⟩
  · obtain ⟨b, hb⟩ := old j b' hj; exact hr.h.valid j b hb
  · intro j b' hj
    rcases hG j b' hj with q | ⟨k, k', q, rfl, hpf, hz⟩
    · exact hr.h.blk j b' q
    · have hb : CellsRel w c (c.ι j) k := hr.h.blk j _ q
      refine ⟨hz.wd.trans hb.wd, fun l => ?_, hb.own, fun l => ?_⟩
      · have h1 := hb.dead l
        have h2 := hz.len
        omega
      obtain ⟨arr, te, fz, a1, a2, a3, a4, a5, a6⟩ := hb.arr l
      refine ⟨arr, te, fz, a1, a2, a3, a4, Nat.le_trans (Nat.add_le_add_left (Nat.mul_le_mul_right _ hz.len) _) a5, ?_⟩
      intro i j2 v' u hi hj2 hv' hu
      obtain ⟨v, e1, e2⟩ := hz.row i hi j2 v' hv'
      rw [hpf]
      exact e2 _ _ _ (a6 i j2 v u (Nat.lt_of_lt_of_le hi hz.len) hj2 e1 hu)
  · intro i j b b' hi hj li lj hbk
    obtain ⟨bi, qi⟩ := old i b hi
    obtain ⟨bj, qj⟩ := old j b' hj
    exact hr.h.inj i j bi bj qi qj li lj hbk
end Go.Ev
