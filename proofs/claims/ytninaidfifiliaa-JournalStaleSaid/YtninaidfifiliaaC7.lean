/- The evaluator, its soundness and the walks: part 7. -/
import Derived.Test.YtninaidfifiliaaRows
import Derived.JoinedCond
import Derived.ProofKit
import Derived.Test.YtninaidfifiliaaC6
set_option linter.unusedSectionVars false
set_option linter.unusedSimpArgs false
set_option linter.unusedVariables false
set_option maxRecDepth 100000
set_option maxRecDepth 1000000
noncomputable section
/- JournalCodes, for every input of bulk at most 1048576: the law answers true, and its arguments read as they did. -/
namespace Go.Ev
open Go.Proofs
abbrev turnSh : Sh := .agg [.int .i64, .int .i64, .int .i64]
abbrev bytesSh : Sh := .sl (.int .u8)
abbrev entSh : Sh := .agg [.int .i64, turnSh, bytesSh]
section
variable {H : Type}
def bytesD (d : DataW H) : List Int := (elemsD d).map intD
def tl1 (l : List (DataW H)) : DataW H := l.tail.headD .nil
def tl2 (l : List (DataW H)) : DataW H := l.tail.tail.headD .nil
def entD (d : DataW H) : EntD := (intD ((partsD d).headD .nil), intD ((partsD (tl1 (partsD d))).headD .nil), intD (tl1 (partsD (tl1 (partsD d)))), intD (tl2 (partsD (tl1 (partsD d)))), bytesD (tl2 (partsD d)))
end
section
variable {H : Type}
theorem avs_ent (d : DataW H) : avs entSh d = entRow (entD d) := rfl
theorem avs_ents (l : List (DataW H)) : Con.tab (Sh.wd entSh) l.length (fun i => avs entSh (l.getD i .nil)) = entC (l.map entD) := by
  unfold entC
  have e : (fun i => avs entSh (l.getD i .nil)) = fun i => entRow ((l.map entD).getD i entZ) := by
    funext i
    rw [avs_ent, List.getD_eq_getElem?_getD, List.getD_eq_getElem?_getD, List.getElem?_map]
    cases l[i]? <;> rfl
  rw [e, List.length_map]; rfl
theorem bytes_wf {d : DataW H} (h : wfD bytesSh d) : bytesOk (bytesD d) = true := by
  unfold bytesOk bytesD
  rw [List.all_eq_true]
  intro x hx
  obtain ⟨y, hy, rfl⟩ := List.mem_map.1 hx
  have := h.2 y hy
  simp only [wfD, Lit.wf, IntKind.min, IntKind.max, IntKind.signed, IntKind.bits] at this
  simp at this
  simp only [Bool.and_eq_true, decide_eq_true_eq]
  omega
end
end Go.Ev
namespace Go.Proofs.Ytninaidfifiliaa
open Go.Ev
theorem Try.ownG : ownKnob Try.prog.godebug = none := by kernel_rfl
theorem Try.kidsG : Kids Try.prog (· < Try.prog.types.size) := kids_rows (by kernel_rfl) (by kernel_rfl)
theorem Try.fullG : ∀ t e, t < Try.prog.types.size → Try.prog.underlying t = some (.slice e) → 0 < Try.prog.cellsOf e := slices_full_of Try.prog (by kernel_rfl)
end Go.Proofs.Ytninaidfifiliaa
/- Answers that hold what is only read; blocks that are frozen. -/
namespace Go.Ev
def noOwn0 : AV → Bool
  | .unk => true
  | .val _ => true
  | .ro _ _ => true
  | .rptr _ _ _ => true
  | _ => false
def noOwn0s (l : List AV) : Bool := foldL true (fun v _ ih => noOwn0 v && ih) l
def noOwn : AV → Bool
  | .agg l => noOwn0s l
  | .clo f a b => notYield f && (noOwn0s a && noOwn0s b)
  | v => noOwn0 v
def noOwns (l : List AV) : Bool := foldL true (fun v _ ih => noOwn v && ih) l
def roA (S : List AV → Ans (AV × Heap)) : AFun := fun _ args h K =>
  bif noOwns args then (S args).walk fun r => match r with
    | (v, h2) => K (v.ren (upN h.next)) ⟨h.next + h2.next, shiftEs h.next h2.es ++ h.es⟩
  else none
section
variable {w : World} {c : Cx}
theorem noOwn0_rel {v : AV} {u : Value} (hn : noOwn0 v = true) (h : VR w c v u) : VR w c.none v u := by
  cases h with
  | unk => exact .unk _
  | val => exact .val _
  | ro k cap a m h1 h2 h3 h4 => exact .ro k cap a m h1 h2 h3 (fun b o e hp => RD.reM (c := c) (c2 := c.none) rfl (h4 b o e hp))
  | rptr k r j b o h1 h2 => exact .rptr k r j b o h1 (RD.reM (c := c) (c2 := c.none) rfl h2)
  | _ => cases hn
theorem noOwn0s_rel : ∀ {l : List AV} {l' : List Value}, noOwn0s l = true → VRs w c l l' → VRs w c.none l l'
  | [], _, _, h => by cases h; exact .nil
  | v :: l, _, hn, h => by
    cases h with | cons _ v' _ l' h1 h2 =>
    have hn' : (noOwn0 v && noOwn0s l) = true := hn
    rw [Bool.and_eq_true] at hn'
    exact .cons _ _ _ _ (noOwn0_rel hn'.1 h1) (noOwn0s_rel hn'.2 h2)
theorem noOwn_rel {v : AV} {u : Value} (hn : noOwn v = true) (h : VR w c v u) : VR w c.none v u := by
  cases h with
  | agg l l' hl => exact .agg _ _ (noOwn0s_rel hn hl)
  | clo f a b a' b' hf ha hb =>
    have hn' : (notYield f && (noOwn0s a && noOwn0s b)) = true := hn
    rw [Bool.and_eq_true, Bool.and_eq_true] at hn'
    have e : renFn c f = renFn c.none f := by cases f <;> first | rfl | (cases hn'.1)
    have hf' : fnOk c.none f := by cases f <;> first | exact trivial | (cases hn'.1)
    rw [e]
    exact .clo f _ _ _ _ hf' (noOwn0s_rel hn'.2.1 ha) (noOwn0s_rel hn'.2.2 hb)
  | unk => exact .unk _
  | val => exact .val _
  | ro k cap a m h1 h2 h3 h4 => exact noOwn0_rel (v := .ro k cap) rfl (.ro k cap a m h1 h2 h3 h4)
  | rptr k r j b o h1 h2 => exact noOwn0_rel (v := .rptr k r j) rfl (.rptr k r j b o h1 h2)
  | _ => cases hn
theorem noOwns_rel : ∀ {l : List AV} {l' : List Value}, noOwns l = true → VRs w c l l' → VRs w c.none l l'
  | [], _, _, h => by cases h; exact .nil
  | v :: l, _, hn, h => by
    cases h with | cons _ v' _ l' h1 h2 =>
    have hn' : (noOwn v && noOwns l) = true := hn
    rw [Bool.and_eq_true] at hn'
    exact .cons _ _ _ _ (noOwn_rel hn'.1 h1) (noOwns_rel hn'.2 h2)
end
theorem roSumR {P : Program} (g : Nat) {S : List AV → Ans (AV × Heap)} (hf : ∃ fn c, P.funcs[g]? = some fn ∧ fn.name ≠ "runtime.NumGoroutine" ∧ fn.body = some c)
    (hS : ∀ args v h2, (S args).run = some (v, h2) → (∀ e ∈ h2.es, ∃ k, e.blk = .cells k) ∧ Alone P g args v h2) : SumC P g (roA S) := by
  refine ⟨hf, ?_⟩
  intro ρ args h K r hk hA
  unfold roA at hA
  cases hno : noOwns args with
  | false => rw [hno] at hA; cases hA
  | true =>
  rw [hno, cond_true, Ans.walk_eq] at hA
  split at hA
  · rename_i r0 hs
    obtain ⟨v0, h0⟩ := r0
    simp only at hA
    obtain ⟨hcells, k2, k3⟩ := hS args v0 h0 hs
    obtain ⟨h', hh'⟩ : ∃ h' : Heap, h' = ⟨h.next + h0.next, shiftEs h.next h0.es ++ h.es⟩ := ⟨_, rfl⟩
    rw [← hh'] at hA
    have hfind : ∀ j, findE h'.es j = if h.next ≤ j then (findE h0.es (j - h.next)).map (shiftE h.next) else findE h.es j := by
      intro j
      rw [hh']
      simp only [findE_append, shiftEs_find]
      by_cases q : h.next ≤ j
      · rw [if_pos q, if_pos q]
        have hnone : findE h.es j = none := by
          cases hf : findE h.es j with
          | none => rfl
          | some e => have := hk.lt j e hf; omega
        rw [hnone]
        cases findE h0.es (j - h.next) <;> rfl
      · rw [if_neg q, if_neg q]
    have hok : h'.ok := by
      refine ⟨?_, ?_⟩
      · rw [hh']
        unfold Uniq
        rw [List.map_append, List.nodup_append]
        refine ⟨shiftEs_uniq k2.uniq, hk.uniq, ?_⟩
        intro a ha b hb hab
        subst hab
        rw [shiftEs_ids] at ha
        obtain ⟨i, _, hi⟩ := List.mem_map.1 ha
        obtain ⟨e, m1, q1⟩ := List.mem_map.1 hb
        have := hk.lt e.id e (findE_mem hk.uniq m1)
        omega
      · intro j e hj
        rw [hfind] at hj
        have hn' : h'.next = h.next + h0.next := by rw [hh']
        rw [hn']
        split at hj
        · rename_i q
          obtain ⟨e0, m1, _⟩ := Option.map_eq_some_iff.1 hj
          have := k2.lt _ e0 m1
          omega
        · have := hk.lt j e hj; omega
    refine ⟨_, h', hA, ⟨by rw [hh']; exact Nat.le_add_right _ _, hok, ?_⟩, ?_⟩
    · intro id e' he' hi
      rw [hfind, if_neg (by omega)] at he'
      exact ⟨e', he', Nat.le_refl _, fun _ => rfl⟩
    · intro w c args' hr hv hfr
      have hv' := noOwns_rel hno hv
      refine CallsIn.mono (k3 w c.none args' hr.none hv' (fun _ q => q)) ?_
      rintro e w' ⟨v', rfl, c', q1, q2, q3, q4⟩
      have hVc : ∀ id, c'.V id → id < h0.next := q3.R rfl
      have hall : ∀ b, b < w.heap.size → w'.heap[b]? = w.heap[b]? := fun b hb => q2.keep b hb (fun q => q)
      have hnO : ∀ b, b < w.heap.size → ¬ c'.O b := fun b hb ho => q2.own b hb ho
      have hMo : ∀ b, b < w.heap.size → c'.M b → c.M b := fun b hb hm => (q2.Mo b hb hm).elim id (fun q => q.2.elim)
      have hn' : h'.next = h.next + h0.next := by rw [hh']
      classical
      let c2 : Cx := ⟨c'.M, fun b => c'.O b ∨ (c.O b ∧ b < w.heap.size), fun j => if h.next ≤ j ∧ c'.V (j - h.next) then c'.ι (j - h.next) else c.ι j, fun j => c.V j ∨ (h.next ≤ j ∧ c'.V (j - h.next))⟩
      have hX : RenTo (upN h.next) c' c2 := by
        refine ⟨rfl, fun i j hij hi => ?_⟩
        simp only [upN, Option.some.injEq] at hij
        subst hij
        have e1 : h.next + i - h.next = i := by omega
        refine ⟨.inr ⟨Nat.le_add_right _ _, by rw [e1]; exact hi⟩, ?_⟩
        show (if h.next ≤ h.next + i ∧ c'.V (h.next + i - h.next) then c'.ι (h.next + i - h.next) else c.ι (h.next + i)) = c'.ι i
        rw [e1, if_pos ⟨Nat.le_add_right _ _, hi⟩]
      have hold : ∀ i, c.V i → c2.V i ∧ c2.ι i = c.ι i := by
        intro i hi
        refine ⟨.inl hi, ?_⟩
        show (if h.next ≤ i ∧ c'.V (i - h.next) then c'.ι (i - h.next) else c.ι i) = c.ι i
        rw [if_neg]
        rintro ⟨z1, z2⟩
        have := hVc _ z2
        exact hfr i z1 (by rw [hn']; omega) hi
      have hx : Ext w c w' c2 := by
        refine ⟨⟨q2.M, fun b hb _ => hall b hb, hold⟩, q2.os, q2.tape, q2.output, q2.size, fun b hb _ => hall b hb, ?_, hMo, ?_⟩
        · rintro b hb (z | z)
          · exact absurd z (hnO b hb)
          · exact z.1
        · intro b hm hn
          obtain ⟨z1, z2⟩ := q2.nd b hm hn
          refine ⟨?_, z2⟩
          rintro (z | z)
          · exact z1 z
          · exact hn (hMo b z.2 hm)
      have hG : ∀ j b, h'.G j = some b → (∃ i e, j = h.next + i ∧ findE h0.es i = some e ∧ e.blk.ren (upN h.next) = some b) ∨ (j < h.next ∧ h.G j = some b) := by
        intro j b hb
        simp only [Heap.G, Option.map_eq_some_iff] at hb ⊢
        obtain ⟨e, m1, m2⟩ := hb
        rw [hfind] at m1
        split at m1
        · rename_i z
          left
          obtain ⟨e0, m3, m4⟩ := Option.map_eq_some_iff.1 m1
          refine ⟨j - h.next, e0, by omega, m3, ?_⟩
          subst m4
          obtain ⟨k, hkk⟩ := hcells e0 (findE_some_mem m3)
          obtain ⟨i0, v0', b0⟩ := e0
          simp only at hkk
          subst hkk
          rw [← m2]; rfl
        · exact .inr ⟨by omega, e, m1, m2⟩
      have h0G : ∀ i e, findE h0.es i = some e → h0.G i = some e.blk := fun i e q => by simp [Heap.G, q]
      have hnew : ∀ i, c'.V i → c2.ι (h.next + i) = c'.ι i := fun i hi => (hX.ids i _ rfl hi).2
      refine ⟨v', rfl, c2, ren_rel hX q1, hx, ?_, ?_⟩
      · rintro id (z | ⟨z1, z2⟩)
        · exact .inl z
        · have := hVc _ z2
          exact .inr ⟨z1, by rw [hn']; omega⟩
      · refine ⟨?_, ?_, ?_, ?_⟩
        · intro j b hb
          rcases hG j b hb with ⟨i, e, rfl, m1, m2⟩ | ⟨z, m1⟩
          · exact (hX.ids i _ rfl (q4.valid i _ (h0G i e m1))).1
          · exact .inl (hr.valid j b m1)
        · intro j b hb
          rcases hG j b hb with ⟨i, e, rfl, m1, m2⟩ | ⟨z, m1⟩
          · rw [hnew i (q4.valid i _ (h0G i e m1))]
            exact blk_ren hX (fun b q => Or.inl q) (q4.blk i _ (h0G i e m1)) m2
          · rw [(hold j (hr.valid j b m1)).2]
            have hbr := hr.blk j b m1
            exact BlkRel.keep hx.toExt0 hbr (fun hl => hall _ (hbr.lt hl)) (fun hl => .inr ⟨hbr.owned hl, hbr.lt hl⟩)
        · have mixed : ∀ i e j b', findE h0.es i = some e → h.G j = some b' → (c'.ι i).live = true → (c.ι j).live = true → (c'.ι i).blk = (c.ι j).blk → False := by
            intro i e j b' m1 m2 l1 l2 hbk
            have o1 := (q4.blk i _ (h0G i e m1)).owned l1
            rw [hbk] at o1
            exact hnO _ ((hr.blk j b' m2).lt l2) o1
          intro j1 j2 b1 b2 hb1 hb2 l1 l2 hbk
          rcases hG j1 b1 hb1 with ⟨i1, e1, rfl, m1, _⟩ | ⟨z1, m1⟩
          · have v1 := q4.valid i1 _ (h0G i1 e1 m1)
            rw [hnew i1 v1] at l1 hbk
            rcases hG j2 b2 hb2 with ⟨i2, e2, rfl, m2, _⟩ | ⟨z2, m2⟩
            · have v2 := q4.valid i2 _ (h0G i2 e2 m2)
              rw [hnew i2 v2] at l2 hbk
              rw [q4.inj i1 i2 _ _ (h0G i1 e1 m1) (h0G i2 e2 m2) l1 l2 hbk]
            · rw [(hold j2 (hr.valid j2 b2 m2)).2] at l2 hbk
              exact (mixed i1 e1 j2 b2 m1 m2 l1 l2 hbk).elim
          · rw [(hold j1 (hr.valid j1 b1 m1)).2] at l1 hbk
            rcases hG j2 b2 hb2 with ⟨i2, e2, rfl, m2, _⟩ | ⟨z2, m2⟩
            · have v2 := q4.valid i2 _ (h0G i2 e2 m2)
              rw [hnew i2 v2] at l2 hbk
              exact (mixed i2 e2 j1 b1 m2 m1 l2 l1 hbk.symm).elim
            · rw [(hold j2 (hr.valid j2 b2 m2)).2] at l2 hbk
              exact hr.inj j1 j2 b1 b2 m1 m2 l1 l2 hbk
        · intro b hb
          obtain ⟨z1, z2⟩ := q4.dis b hb
          refine ⟨?_, z2⟩
          rintro (z | z)
          · exact z1 z
          · exact (hr.dis b (hMo b z.2 hb)).1 z.1
  · cases hA
def FzV (id : Nat) (con : Con) (v v' : AV) : Prop := v' = v ∨ (∃ cap, v = .own id 0 con.len cap con.wd ∧ v' = .ro con cap) ∨ (∃ cap, v = .own id 0 con.len cap con.wd ∧ v' = .ro con none)
structure FzC (id : Nat) (con : Con) (k k' : Con) : Prop where
  wd : k'.wd = k.wd
  len : k'.len = k.len
  row : ∀ i, i < k.len → ∀ (j : Nat) (v' : AV), (k'.row i)[j]? = some v' → (∃ v, (k.row i)[j]? = some v ∧ FzV id con v v') ∧ (k'.pureF = true → k.pureF = true ∨ noOwn0 v' = true)
theorem Weak.freezeX {s : St} (hk : s.h.ok) (id : Nat) (con : Con) (hid : s.h.G id = some (.cells con)) (hp : con.pureF = true) {t' : List AV} {h' : Heap} (hok : h'.ok) (hnx : s.h.next ≤ h'.next)
    (ht : ∀ w c c2 us, (∀ v v' u, FzV id con v v' → VR w c v u → VR w c2 v' u) → VRs w c s.t us → VRs w c2 t' us)
    (hG : ∀ j b', h'.G j = some b' → j ≠ id ∧ (s.h.G j = some b' ∨ ∃ k k', s.h.G j = some (.cells k) ∧ b' = .cells k' ∧ (k'.pureF = false → k.pureF = false) ∧ FzC id con k k')) : Weak s ⟨t', s.d, h'⟩ := by
  refine ⟨hok, fun w c a hr hv => ?_⟩
  have hb0 := hr.h.blk id _ hid
  have hv0 := hr.h.valid id _ hid
  classical
  let c2 : Cx := ⟨fun b => c.M b ∨ ((c.ι id).live = true ∧ b = (c.ι id).blk), fun b => c.O b ∧ ¬ ((c.ι id).live = true ∧ b = (c.ι id).blk), c.ι, c.V⟩
  have hx0 : Ext0 w c w c2 := ⟨fun b q => .inl q, fun _ _ _ => rfl, fun i hi => ⟨hi, rfl⟩⟩
  have hxw : ExtW ⟨true, 0⟩ w c w c2 := by
    refine ⟨fun b q => .inl q, fun _ _ _ => rfl, rfl, rfl, rfl, Nat.le_refl _, fun _ _ _ => rfl, fun b _ q => q.1, ?_, ?_⟩
    · rintro b hb (q | ⟨q1, q2⟩)
      · exact .inl q
      · exact .inr ⟨rfl, by rw [q2]; exact hb0.owned q1⟩
    · rintro b (q | ⟨q1, q2⟩) hn
      · exact absurd q hn
      · exact ⟨fun o => o.2 ⟨q1, q2⟩, by rw [q2]; exact hb0.lt q1⟩
  have hb1 : CellsRel w c (c.ι id) con := hb0
  have fz : ∀ cap u, VR w c (.own id 0 con.len cap con.wd) u → VR w c2 (.ro con cap) u := by
    intro cap u hu
    cases hu with | own _ _ _ _ _ p m h1 h2 h3 h4 h5 =>
    refine .ro con cap p m h3 h4 ?_ ?_
    · rcases h5 with h5 | ⟨l1, l2, l3⟩
      · left; omega
      · rcases Nat.eq_zero_or_pos con.len with z | z
        · exact .inl z
        · exact .inr ⟨_, _, l2, z⟩
    · intro b o e hpos
      rcases h5 with h5 | ⟨l1, l2, l3⟩
      · omega
      · rw [l2] at e
        injection e with e
        injection e with e1 e2
        obtain ⟨arr, te, fz, a1, a2, a3, a4, a5, a6⟩ := hb1.arr l1
        have hwd : con.wd = (c.ι id).wd := hb1.wd
        subst e1
        have e2' : o = (c.ι id).st := by rw [← e2]; omega
        subst e2'
        have bound : ∀ i j, i < con.len → j < con.wd → (c.ι id).st + i * con.wd + j < arr.size := by
          intro i j hi hj
          have := rowlt hi hj
          rw [a2, hwd] at *
          omega
        refine .mk con _ _ arr te fz (fun i j => (arr[(c.ι id).st + i * con.wd + j]?).getD undef) (.inr ⟨l1, rfl⟩) a1 ?_ ?_
        · intro i j hi hj
          have hb := bound i j hi hj
          rw [Array.getElem?_eq_getElem hb]
          exact ⟨rfl, a4 _ _ (Array.getElem?_eq_getElem hb)⟩
        · intro i j v hi hj hv
          have hb := bound i j hi hj
          have hu : arr[(c.ι id).st + i * con.wd + j]? = some arr[(c.ι id).st + i * con.wd + j] := Array.getElem?_eq_getElem hb
          simp only [hu, Option.getD_some]
          have q := a6 i j v _ hi (by rw [← hwd]; exact hj) hv (by rw [← hwd]; exact hu)
          rw [hp] at q
          exact VR.mono hx0.bare q
  have fzv : ∀ v v' u, FzV id con v v' → VR w c v u → VR w c2 v' u := by
    intro v v' u hz hu
    rcases hz with rfl | ⟨cap, rfl, rfl⟩ | ⟨cap, rfl, rfl⟩
    · exact VR.mono hx0 hu
    · exact fz cap u hu
    · exact AW.cap con cap _ _ _ (fz cap u hu)
  refine ⟨c2, ⟨?_, ?_, ?_, fun i hi => hr.dv i hi⟩, hxw, fun i hi => Nat.lt_of_lt_of_le (hv i hi) hnx⟩
  · exact ht w c c2 _ fzv hr.t
  · have notid : ∀ j b, s.h.G j = some b → j ≠ id → (c.ι j).live = true → ¬ ((c.ι id).live = true ∧ (c.ι j).blk = (c.ι id).blk) := by
      rintro j b hj hne lj ⟨li, hbk⟩
      exact hne (hr.h.inj j id b _ hj hid lj li hbk)
    have old : ∀ j b', h'.G j = some b' → ∃ b, s.h.G j = some b := fun j b' hj => by
      rcases (hG j b' hj).2 with q | ⟨k, k', q, _⟩
      · exact ⟨_, q⟩
      · exact ⟨_, q⟩
    refine ⟨fun j b' hj => ?_, ?_, ?_, ?_⟩
    · obtain ⟨b, hb⟩ := old j b' hj; exact hr.h.valid j b hb
    · intro j b' hj
      obtain ⟨hne, q⟩ := hG j b' hj
      rcases q with q | ⟨k, k', q, rfl, hpf, hz⟩
      · exact BlkRel.keep hx0 (hr.h.blk j b' q) (fun _ => rfl) (fun l => ⟨(hr.h.blk j b' q).owned l, notid j b' q hne l⟩)
      · have hb : CellsRel w c (c.ι j) k := hr.h.blk j _ q
        refine ⟨hz.wd.trans hb.wd, fun l => hz.len.trans (hb.dead l), fun l => ⟨hb.own l, notid j _ q hne l⟩, fun l => ?_⟩
        obtain ⟨arr, te, fz, a1, a2, a3, a4, a5, a6⟩ := hb.arr l
        refine ⟨arr, te, fz, a1, a2, a3, a4, by rw [hz.len]; exact a5, ?_⟩
        intro i j2 v' u hi hj2 hv' hu
        rw [hz.len] at hi
        obtain ⟨⟨v, e1, e2⟩, e3⟩ := hz.row i hi j2 v' hv'
        have hold := a6 i j2 v u hi hj2 e1 hu
        cases hq : k'.pureF with
        | false =>
          rw [hpf hq] at hold
          exact fzv _ _ _ e2 hold
        | true =>
          cases hq2 : k.pureF with
          | true =>
            rw [hq2] at hold
            rcases e2 with rfl | ⟨cap, rfl, _⟩ | ⟨cap, rfl, _⟩
            · exact VR.mono hx0.bare hold
            · cases hold with | own _ _ _ _ _ _ _ z => exact z.elim
            · cases hold with | own _ _ _ _ _ _ _ z => exact z.elim
          | false =>
            rw [hq2] at hold
            rcases e3 hq with z | z
            · rw [hq2] at z; cases z
            · exact noOwn0_rel z (fzv _ _ _ e2 hold)
    · intro i j b b' hi hj li lj hbk
      obtain ⟨bi, qi⟩ := old i b hi
      obtain ⟨bj, qj⟩ := old j b' hj
      exact hr.h.inj i j bi bj qi qj li lj hbk
    · rintro b (q | ⟨q1, q2⟩)
      · exact ⟨fun o => (hr.h.dis b q).1 o.1, (hr.h.dis b q).2⟩
      · exact ⟨fun o => o.2 ⟨q1, q2⟩, by rw [q2]; exact hb0.lt q1⟩
  · show a.defers = marks c2 s.d
    exact hr.d
theorem Weak.freeze {s : St} (hk : s.h.ok) (id : Nat) (con : Con) (hid : s.h.G id = some (.cells con)) (hp : con.pureF = true) {t' : List AV} {h' : Heap} (hok : h'.ok) (hnx : s.h.next ≤ h'.next)
    (ht : t'.length = s.t.length ∧ ∀ (j : Nat) (v' : AV), t'[j]? = some v' → ∃ v, s.t[j]? = some v ∧ FzV id con v v')
    (hG : ∀ j b', h'.G j = some b' → j ≠ id ∧ (s.h.G j = some b' ∨ ∃ k k', s.h.G j = some (.cells k) ∧ b' = .cells k' ∧ (k'.pureF = false → k.pureF = false) ∧ FzC id con k k')) : Weak s ⟨t', s.d, h'⟩ := by
  refine Weak.freezeX hk id con hid hp hok hnx (fun w c c2 us fzv hu => ?_) hG
  have : ∀ (t t' : List AV) (us : List Value), t'.length = t.length → (∀ (j : Nat) (v' : AV), t'[j]? = some v' → ∃ v, t[j]? = some v ∧ FzV id con v v') → VRs w c t us → VRs w c2 t' us := by
    intro t
    induction t with
    | nil => intro t' us hl _ hu; cases hu; cases t' with | nil => exact .nil | cons => simp at hl
    | cons v t ih =>
      intro t' us hl hj hu
      cases hu with | cons _ u _ us h1 h2 =>
      cases t' with
      | nil => simp at hl
      | cons v' t' =>
        obtain ⟨v0, e0, z0⟩ := hj 0 v' rfl
        simp only [List.getElem?_cons_zero, Option.some.injEq] at e0
        subst e0
        exact .cons _ _ _ _ (fzv _ _ _ z0 h1) (ih t' us (by simpa using hl) (fun j w' hw => hj (j + 1) w' (by simpa using hw)) h2)
  exact this _ _ _ ht.1 ht.2 hu
theorem Weak.canon {s : St} (hk : s.h.ok) (ks : List Nat) : Weak s (canon (some ks) s) := by
  obtain ⟨t2, t5⟩ := trimR_ok (root := ⟨true, 0⟩) (ks := some ks) hk
  refine ⟨t2.1, fun w c a hr hv => ?_⟩
  obtain ⟨c1, r1, x1, v1⟩ := t5 w c a s.h.next hr ⟨fun q => (by cases q), fun _ => hv⟩
  exact ⟨c1, r1, x1, v1.R rfl⟩
end Go.Ev
/- Contents of rows of a kind. -/
namespace Go.Ev
structure RowTy (D : Type) where
  wd : Nat
  row : D → List AV
  parse : List AV → D
  is : List AV → Bool
  z : D
  law : ∀ r, is r = true → ∀ (j : Nat) (v' : AV), (row (parse r))[j]? = some v' → ∃ v, r[j]? = some v ∧ AW v v'
  back : ∀ d, parse (row d) = d
  isr : ∀ d, is (row d) = true
def RowTy.con {D : Type} (R : RowTy D) (L : List D) : Con := .tab R.wd L.length (fun i => R.row (L.getD i R.z))
def RowTy.all {D : Type} (R : RowTy D) (c : Con) : Bool := @decide (∀ i, i < c.len → R.is (c.row i) = true) (Classical.propDecidable _)
def RowTy.list {D : Type} (R : RowTy D) (c : Con) : List D := (List.range c.len).map fun i => R.parse (c.row i)
def RowTy.ok {D : Type} (R : RowTy D) (c : Con) : Bool := Nat.beq c.wd R.wd && R.all c
def RowTy.own {D : Type} (R : RowTy D) (L : List D) : Con := .rows true R.wd (L.map R.row)
section
variable {D : Type} (R : RowTy D)
theorem RowTy.list_len (c : Con) : (R.list c).length = c.len := by simp [RowTy.list]
theorem RowTy.list_con (L : List D) : R.list (R.con L) = L := by
  apply List.ext_getElem?
  intro i
  simp only [RowTy.list, RowTy.con, Con.len, Con.row, List.getElem?_map]
  rcases Nat.lt_or_ge i L.length with h | h
  · rw [List.getElem?_range h, List.getElem?_eq_getElem h]
    simp only [Option.map_some, List.getD_eq_getElem?_getD, List.getElem?_eq_getElem h, Option.getD_some, R.back]
  · rw [List.getElem?_eq_none (by simpa using h), List.getElem?_eq_none h]; rfl
theorem RowTy.ok_con (L : List D) : R.ok (R.con L) = true := by
  unfold RowTy.ok
  rw [Bool.and_eq_true]
  exact ⟨Nat.beq_refl _, @decide_eq_true _ (Classical.propDecidable _) (fun i _ => R.isr _)⟩
theorem RowTy.list_own (L : List D) : R.list (R.own L) = L := by
  apply List.ext_getElem?
  intro i
  simp only [RowTy.list, RowTy.own, Con.len, Con.row, List.getElem?_map, List.length_map]
  rcases Nat.lt_or_ge i L.length with h | h
  · rw [List.getElem?_range h, List.getElem?_eq_getElem h]
    simp only [Option.map_some, List.getD_eq_getElem?_getD, List.getElem?_map, List.getElem?_eq_getElem h, Option.getD_some, R.back]
  · rw [List.getElem?_eq_none (by simpa using h), List.getElem?_eq_none h]; rfl
theorem RowTy.ok_own (L : List D) : R.ok (R.own L) = true := by
  unfold RowTy.ok
  rw [Bool.and_eq_true]
  refine ⟨Nat.beq_refl _, @decide_eq_true _ (Classical.propDecidable _) (fun i hi => ?_)⟩
  have hi' : i < L.length := by simpa [RowTy.own, Con.len] using hi
  show R.is ((L.map R.row).getD i []) = true
  rw [List.getD_eq_getElem?_getD, List.getElem?_map, List.getElem?_eq_getElem hi']
  exact R.isr _
theorem RowTy.conv {c : Con} (h : R.ok c = true) : ConW c (R.con (R.list c)) := by
  unfold RowTy.ok at h
  rw [Bool.and_eq_true] at h
  have h2 := @of_decide_eq_true _ (Classical.propDecidable _) h.2
  refine ⟨(Nat.eq_of_beq_eq_true h.1).symm, R.list_len c, ?_⟩
  intro i hi j v' hv
  have e : (R.con (R.list c)).row i = R.row (R.parse (c.row i)) := by
    show R.row ((R.list c).getD i R.z) = _
    rw [List.getD_eq_getElem?_getD, RowTy.list, List.getElem?_map, List.getElem?_range hi]
    rfl
  rw [e] at hv
  exact R.law _ (h2 i hi) j v' hv
theorem RowTy.aw {c : Con} (h : R.ok c = true) (cap : Option Nat) : AW (.ro c cap) (.ro (R.con (R.list c)) none) := fun _ _ _ => VR.conv (R.conv h) (.inr rfl)
end
theorem Weak.cells {s : St} {h' : Heap} (hok : h'.ok) (hnx : s.h.next ≤ h'.next)
    (hG : ∀ j b', h'.G j = some b' → s.h.G j = some b' ∨ ∃ k k', s.h.G j = some (.cells k) ∧ b' = .cells k' ∧ k'.pureF = k.pureF ∧ ConW k k') : Weak s ⟨s.t, s.d, h'⟩ := by
  refine ⟨hok, fun w c a hr hv => ⟨c, ⟨hr.t, ?_, hr.d, hr.dv⟩, (Ext.refl w c).w, fun i hi => Nat.lt_of_lt_of_le (hv i hi) hnx⟩⟩
  have old : ∀ j b', h'.G j = some b' → ∃ b, s.h.G j = some b := fun j b' hj => by
    rcases hG j b' hj with q | ⟨k, k', q, _⟩
    · exact ⟨_, q⟩
    · exact ⟨_, q⟩
  refine ⟨fun j b' hj => ?_, ?_, ?_, hr.h.dis⟩
  · obtain ⟨b, hb⟩ := old j b' hj; exact hr.h.valid j b hb
  · intro j b' hj
    rcases hG j b' hj with q | ⟨k, k', q, rfl, hpf, hz⟩
    · exact hr.h.blk j b' q
    · have hb : CellsRel w c (c.ι j) k := hr.h.blk j _ q
      refine ⟨hz.wd.trans hb.wd, fun l => hz.len.trans (hb.dead l), hb.own, fun l => ?_⟩
      obtain ⟨arr, te, fz, a1, a2, a3, a4, a5, a6⟩ := hb.arr l
      refine ⟨arr, te, fz, a1, a2, a3, a4, by rw [hz.len]; exact a5, ?_⟩
      intro i j2 v' u hi hj2 hv' hu
      rw [hz.len] at hi
      obtain ⟨v, e1, e2⟩ := hz.row i hi j2 v' hv'
      rw [hpf]
      exact e2 _ _ _ (a6 i j2 v u hi hj2 e1 hu)
  · intro i j b b' hi hj li lj hbk
    obtain ⟨bi, qi⟩ := old i b hi
    obtain ⟨bj, qj⟩ := old j b' hj
    exact hr.h.inj i j bi bj qi qj li lj hbk
theorem oneH_G {c : Con} {j : Nat} {b : Blk} (h : (oneH c).G j = some b) : j = 0 ∧ b = .cells c := by
  have hb' : ((bif Nat.beq 0 j then some (⟨0, 0, .cells c⟩ : Ent) else none).map (·.blk)) = some b := h
  cases hq : Nat.beq 0 j with
  | true => rw [hq] at hb'; exact ⟨(Nat.eq_of_beq_eq_true hq).symm, by injection hb' with hb'; exact hb'.symm⟩
  | false => rw [hq] at hb'; cases hb'
theorem Weak.oneH {t : List AV} {d : List Nat} {c c' : Con} (hp : c'.pureF = c.pureF) (h : ConW c c') : Weak ⟨t, d, oneH c⟩ ⟨t, d, oneH c'⟩ := by
  refine Weak.cells (s := ⟨t, d, Go.Ev.oneH c⟩) (oneH_ok c') (Nat.le_refl _) ?_
  intro j b' hj
  obtain ⟨rfl, rfl⟩ := oneH_G hj
  exact .inr ⟨c, c', rfl, rfl, hp, h⟩
theorem AW.agg {l l' : List AV} (h : AWs l l') : AW (.agg l) (.agg l') := fun w c u hu => by
  cases hu with | agg _ u' hl => exact .agg _ _ (h.args w c u' hl)
theorem AWs.get : ∀ {l l' : List AV}, AWs l l' → ∀ (j : Nat) (v' : AV), l'[j]? = some v' → ∃ v, l[j]? = some v ∧ AW v v'
  | _, _, .nil, j, v', h => by simp at h
  | _, _, .cons h1 h2, 0, v', h => by simp at h; subst h; exact ⟨_, rfl, h1⟩
  | _, _, .cons h1 h2, j + 1, v', h => by obtain ⟨v, e, q⟩ := AWs.get h2 j v' (by simpa using h); exact ⟨v, by simpa using e, q⟩
theorem ConW.one {p : Bool} {w : Nat} {r r' : List AV} (h : AWs r r') : ConW (.rows p w [r]) (.rows p w [r']) := by
  refine ⟨rfl, rfl, fun i hi j v' hv => ?_⟩
  have : i = 0 := by simpa [Con.len] using hi
  subst this
  exact h.get j v' hv
theorem findIdx_at {α : Type} {p : α → Bool} : ∀ {l : List α} {k : Nat} {d : α}, k < l.length → (∀ x ∈ l.take k, p x = false) → p (l.getD k d) = true → l.any p = true ∧ l.findIdx p = k
  | [], k, d, h, _, _ => by simp at h
  | a :: l, 0, d, h, _, hp => by simp at hp; simp [hp, List.findIdx_cons]
  | a :: l, k + 1, d, h, hn, hp => by
    have ha : p a = false := hn a (by simp)
    obtain ⟨q1, q2⟩ := findIdx_at (l := l) (k := k) (d := d) (by simpa using h) (fun x hx => hn x (by simp [hx])) (by simpa using hp)
    simp [ha, q1, q2, List.findIdx_cons]
theorem none_any {α : Type} {p : α → Bool} {l : List α} (h : ∀ x ∈ l.take l.length, p x = false) : l.any p = false := by
  rw [List.take_length] at h
  rw [List.any_eq_false]
  intro x hx; rw [h x hx]; simp
theorem take_succ_all {α : Type} {p : α → Bool} {l : List α} {k : Nat} {d : α} (hk : k < l.length) (h : ∀ x ∈ l.take k, p x = false) (hp : p (l.getD k d) = false) : ∀ x ∈ l.take (k + 1), p x = false := by
  intro x hx
  rw [List.take_add_one, List.mem_append] at hx
  rcases hx with hx | hx
  · exact h x hx
  · rw [List.getElem?_eq_getElem hk] at hx
    simp at hx
    subst hx
    rwa [List.getD_eq_getElem?_getD, List.getElem?_eq_getElem hk] at hp
theorem RowTy.convOwn {D : Type} (R : RowTy D) {c : Con} (h : R.ok c = true) : ConW c (R.own (R.list c)) := by
  have h1 := R.conv h
  refine ⟨h1.wd, by simp [RowTy.own, Con.len, R.list_len], ?_⟩
  intro i hi j v' hv
  have e : (R.own (R.list c)).row i = (R.con (R.list c)).row i := by
    show ((R.list c).map R.row).getD i [] = R.row ((R.list c).getD i R.z)
    have hl : i < (R.list c).length := by rw [R.list_len]; exact hi
    rw [List.getD_eq_getElem?_getD, List.getD_eq_getElem?_getD, List.getElem?_map, List.getElem?_eq_getElem hl]
    rfl
  rw [e] at hv
  exact h1.row i hi j v' hv
theorem Alone.freeze {P : Program} {g : Nat} {args : List AV} {con : Con} (hp : con.pureF = true) (h : Alone P g args (.own 0 0 con.len none con.wd) (oneH con)) : Alone P g args (.ro con none) ⟨0, []⟩ := by
  have w1 : Weak ⟨[.own 0 0 con.len none con.wd], [], oneH con⟩ ⟨[.ro con none], [], ⟨1, []⟩⟩ := by
    refine Weak.freeze (s := ⟨[.own 0 0 con.len none con.wd], [], oneH con⟩) (oneH_ok con) 0 con rfl hp ⟨List.nodup_nil, fun id e h => by cases h⟩ (Nat.le_refl 1) ⟨rfl, ?_⟩ (fun j b' hj => by cases hj)
    intro j v' hv
    cases j with
    | zero => simp at hv; subst hv; exact ⟨_, rfl, .inr (.inr ⟨none, rfl, rfl⟩)⟩
    | succ j => simp at hv
  exact Alone.outW (w1.trans (Weak.canon w1.1 [0])) h
def byteRow (x : Int) : List AV := [.val (.int .u8 x)]
def cellI : List AV → Int
  | [.val (.int _ x)] => x
  | _ => 0
def isB : List AV → Bool
  | [.val (.int .u8 _)] => true
  | _ => false
theorem byte_law (r : List AV) (h : isB r = true) (j : Nat) (v' : AV) (hv : (byteRow (cellI r))[j]? = some v') : ∃ v, r[j]? = some v ∧ AW v v' := by
  unfold isB at h
  split at h
  · exact ⟨v', hv, AW.refl _⟩
  · cases h
def BT : RowTy Int := ⟨1, byteRow, cellI, isB, 0, byte_law, fun _ => rfl, fun _ => rfl⟩
theorem ints_tab (l : List Int) : ConW (.ints .u8 l) (BT.con l) := ⟨rfl, rfl, fun i hi j v' hv => ⟨v', hv, AW.refl _⟩⟩
theorem tab_ints {c : Con} (h : BT.ok c = true) : ConW c (.ints .u8 (BT.list c)) := by
  have h1 := BT.conv h
  exact ⟨h1.wd, BT.list_len c, fun i hi j v' hv => h1.row i hi j v' hv⟩
inductive EsW : List Ent → List Ent → Prop where
  | nil : EsW [] []
  | same (e : Ent) {l l' : List Ent} : EsW l l' → EsW (e :: l) (e :: l')
  | con (id v v' : Nat) {k k' : Con} {l l' : List Ent} : k'.pureF = k.pureF → ConW k k' → EsW l l' → EsW (⟨id, v, .cells k⟩ :: l) (⟨id, v', .cells k'⟩ :: l')
theorem EsW.refl : ∀ l, EsW l l
  | [] => .nil
  | e :: l => .same e (EsW.refl l)
theorem EsW.ids {l l' : List Ent} (h : EsW l l') : l'.map (·.id) = l.map (·.id) := by
  induction h with
  | nil => rfl
  | same e _ ih => simp [ih]
  | con id v v' _ _ _ ih => simp [ih]
theorem EsW.find {l l' : List Ent} (h : EsW l l') (j : Nat) (b' : Blk) (hj : (findE l' j).map (·.blk) = some b') : (findE l j).map (·.blk) = some b' ∨ ∃ k k', (findE l j).map (·.blk) = some (.cells k) ∧ b' = .cells k' ∧ k'.pureF = k.pureF ∧ ConW k k' := by
  induction h with
  | nil => simp [findE, foldL] at hj
  | same e _ ih =>
    rw [findE_cons] at hj ⊢
    split at hj
    · rename_i q; rw [if_pos q]; exact .inl hj
    · rename_i q; rw [if_neg q]; exact ih hj
  | con id v v' hp hc _ ih =>
    rw [findE_cons] at hj ⊢
    split at hj
    · rename_i q
      rw [if_pos q]
      simp only [Option.map_some, Option.some.injEq] at hj
      exact .inr ⟨_, _, rfl, hj.symm, hp, hc⟩
    · rename_i q; rw [if_neg q]; exact ih hj
theorem Weak.heap {t : List AV} {d : List Nat} {n : Nat} {es es' : List Ent} (hok : (⟨n, es⟩ : Heap).ok) (h : EsW es es') : Weak ⟨t, d, ⟨n, es⟩⟩ ⟨t, d, ⟨n, es'⟩⟩ := by
  have hok' : (⟨n, es'⟩ : Heap).ok := by
    refine ⟨by have := hok.uniq; unfold Uniq at *; rw [h.ids]; exact this, fun j e hj => ?_⟩
    have : ((findE es j).map (·.blk)).isSome = true := by
      have q := h.find j e.blk (by rw [hj]; rfl)
      rcases q with q | ⟨k, k', q, _⟩ <;> rw [q] <;> rfl
    cases hf : findE es j with
    | none => rw [hf] at this; cases this
    | some e0 => exact hok.lt j e0 hf
  refine Weak.cells (s := ⟨t, d, ⟨n, es⟩⟩) hok' (Nat.le_refl _) (fun j b' hj => ?_)
  exact h.find j b' hj
theorem tabSet_same {w n : Nat} {f : Nat → List AV} {r : Nat} {x : List AV} (hx : AWs x (f r)) : ConW (.rows true w (tabSet n f r x)) (.tab w n f) := by
  refine ⟨rfl, by simp [Con.len, tabSet], ?_⟩
  intro i hi j v' hv
  have hi' : i < n := by simpa [Con.len, tabSet] using hi
  have hv' : (f i)[j]? = some v' := hv
  by_cases hir : r = i
  · subst hir
    have e1 : (Con.rows true w (tabSet n f r x)).row r = x := by simp [Con.row, tabSet, hi']
    rw [e1]
    exact hx.get j v' hv'
  · have e1 : (Con.rows true w (tabSet n f r x)).row i = f i := by
      simp only [Con.row, tabSet, List.getD_eq_getElem?_getD, List.getElem?_set, hir, if_false, List.getElem?_map, List.getElem?_range hi']
      rfl
    rw [e1]
    exact ⟨v', hv', AW.refl _⟩
end Go.Ev
