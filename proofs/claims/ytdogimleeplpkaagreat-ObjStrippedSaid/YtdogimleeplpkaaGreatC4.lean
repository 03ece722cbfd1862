/- The evaluator, its soundness and the walks: part 4. -/
import Derived.RangeFuncLeaves
import Derived.RangeFuncRecord
import Derived.Laws.StructEq
import Derived.Test.YtdogimleeplpkaaGreatC3
set_option linter.unusedSectionVars false
set_option linter.unusedSimpArgs false
set_option linter.unusedVariables false
set_option maxRecDepth 100000
set_option maxRecDepth 1000000
noncomputable section
/- Regions: the law. -/
namespace Go.Ev
theorem filter_lt {α : Type} {p q : α → Bool} (hpq : ∀ x, q x = true → p x = true) : ∀ (l : List α) (y : α), y ∈ l → p y = true → q y = false → (l.filter q).length < (l.filter p).length
  | [], y, h, _, _ => by cases h
  | a :: l, y, h, h1, h2 => by
    have hle : ∀ l : List α, (l.filter q).length ≤ (l.filter p).length := by
      intro l
      induction l with
      | nil => simp
      | cons b l ih =>
        simp only [List.filter_cons]
        cases hq : q b with
        | true => rw [hpq b hq]; simpa using ih
        | false =>
          cases p b <;> simp <;> omega
    simp only [List.filter_cons]
    rcases List.mem_cons.1 h with z | z
    · subst z
      rw [h1, h2]
      have := hle l
      simp; omega
    · have ih := filter_lt hpq l y z h1 h2
      cases hq : q a with
      | true => rw [hpq a hq]; simpa using ih
      | false => cases p a <;> simp <;> omega
def unlisted (n : Nat) (listed : Array Bool) : Nat := ((List.range n).filter fun i => !listed.getD i true).length
section
variable {P : Program} {ops : Array Oper} {N : Nat} {I : Nat → Bool} {T : Nat → List AV} {H : Nat → Heap} {V : Nat → AV} {Ft : Nat → Foot} (R : Run P ops N I T H V Ft)
  (hap : ∀ i j, i < j → j < N → ((bef ops.toList).getD j 0).testBit i = true ∨ PairOk P ops T H V Ft i j) (hback : backs 0 ops.toList = true) {F : Fence} (hF : FOk F)
structure Mid (R : Run P ops N I T H V Ft) (w0 : World) (c0 : Cx) (ds : List Deferred) (S : Nat → Bool) (a : Act) (w : World) : Prop where
  ds : a.defers = ds
  cx : ∃ c, VRs w c (TS (T 0) V Ft S N) a.tmps.toList ∧ Ext w0 c0 w c ∧ (∀ id, c.V id → c0.V id ∨ ∃ i, i < N ∧ S i = true ∧ (Ft i).lo ≤ id ∧ id < (Ft i).hi) ∧ HR w c (GS H Ft S N)
include hap hback hF in
theorem drawn_go {w0 : World} {c0 : Cx} {ds : List Deferred} {nx : Nat} (hnx : (H N).next ≤ nx) (hfr : ∀ id, (H 0).next ≤ id → id < nx → ¬ c0.V id) {Q : Exit → Act → World → Prop} (hNs : N = ops.size)
    (hQ : ((∀ i, i < N → I i = false) ∧ ∀ a w, PostR w0 c0 (H 0) (H N) (T N) ds a w → Q .normal a w) ∨
      (∃ p, p < N ∧ I p = true ∧ (∀ i, i < N → I i = true → i = p ∨ ((bef ops.toList).getD i 0).testBit p = true) ∧
        ∀ (S : Nat → Bool) (rest : List Nat) (a : Act) (w : World), S p = false → (∀ i, ((bef ops.toList).getD p 0).testBit i = true → S i = true) → Mid R w0 c0 ds S a w → wpOpsIn F 0 P ops Q (p :: rest) a w)) :
    ∀ (fuel t : Nat) (listed : Array Bool) (a : Act) (w : World), listed.size = ops.size → unlisted ops.size listed ≤ fuel →
    (∀ j o, ops.toList[j]? = some o → listed.getD j false = true → ∀ e ∈ o.after, Region.binds .any e = true → listed.getD e.on false = true) → (∀ i, i < N → I i = true → listed.getD i false = false) →
    Mid R w0 c0 ds (fun i => listed.getD i false) a w →
    wpOpsIn F 0 P ops Q (Region.linearise.go .any ops fuel t listed []) a w := by
  have hN := R.le
  have fin : ∀ (listed : Array Bool) (a : Act) (w : World), (∀ i, i < N → listed.getD i false = true) → Mid R w0 c0 ds (fun i => listed.getD i false) a w → PostR w0 c0 (H 0) (H N) (T N) ds a w := by
    intro listed a w hall hm
    obtain ⟨c, k1, k2, k3, k4⟩ := hm.cx
    rw [TS_full R N (Nat.le_refl _) hall] at k1
    rw [GS_full R N (Nat.le_refl _) hall] at k4
    refine ⟨hm.ds, c, k1, k2, fun id hid => ?_, k4⟩
    rcases k3 id hid with q | ⟨i, h1, _, h3, h4⟩
    · exact .inl q
    · have st := R.at i h1
      have m1 := R.mono 0 i (by omega) (by omega)
      have m2 := R.mono (i + 1) N (by omega) (Nat.le_refl _)
      rw [st.lo] at h3
      rw [st.hi] at h4
      exact .inr ⟨by omega, by omega⟩
  have getD_lt : ∀ (listed : Array Bool) (i : Nat) (d : Bool), i < listed.size → listed.getD i d = listed.getD i false := by
    intro listed i d hi
    simp [Array.getD_eq_getD_getElem?, hi]
  -- all is listed, where nothing is ready
  have none_ready : ∀ listed : Array Bool, listed.size = ops.size → Region.ready .any ops listed = [] → ∀ i, i < ops.size → listed.getD i false = true := by
    intro listed hsz hr i
    induction i using Nat.strongRecOn with
    | _ i ih =>
      intro hi
      cases hl : listed.getD i false with
      | true => rfl
      | false =>
        exfalso
        have : i ∈ Region.ready .any ops listed := by
          rw [mem_ready]
          refine ⟨by rw [getD_lt _ _ _ (by omega)]; exact hl, ops[i], by simp [hi], ?_⟩
          intro e he hb
          have hlt := backs_spec ops.toList 0 hback i ops[i] (by simp [hi]) e he hb
          exact ih e.on (by omega) (by omega)
        rw [hr] at this
        cases this
  have allDone : ∀ (listed : Array Bool) (a : Act) (w : World), (∀ i, i < ops.size → listed.getD i false = true) → (∀ i, i < N → I i = true → listed.getD i false = false) → Mid R w0 c0 ds (fun i => listed.getD i false) a w → Q .normal a w := by
    intro listed a w hall hln hm
    rcases hQ with ⟨h1, h2⟩ | ⟨p, h1, h2, _⟩
    · exact h2 a w (fin listed a w (fun i hi => hall i (by omega)) hm)
    · have e1 := hln p h1 h2
      rw [hall p (by omega)] at e1
      cases e1
  intro fuel
  induction fuel with
  | zero =>
    intro t listed a w hsz hcnt hcl hln hm
    simp only [Region.linearise.go, List.reverse_nil, wpOpsIn]
    refine allDone listed a w (fun i hi => ?_) hln hm
    cases hl : listed.getD i false with
    | true => rfl
    | false =>
      exfalso
      have : 0 < unlisted ops.size listed := by
        unfold unlisted
        apply List.length_pos_of_mem (a := i)
        rw [List.mem_filter, List.mem_range]
        exact ⟨hi, by rw [getD_lt _ _ _ (by omega), hl]; rfl⟩
      omega
  | succ fuel ih =>
    intro t listed a w hsz hcnt hcl hln hm
    simp only [Region.linearise.go]
    change wpOpsIn F 0 P ops _ (match (Region.ready .any ops listed)[t % (Region.ready .any ops listed).length]? with
      | some i => Region.linearise.go .any ops fuel (t / (Region.ready .any ops listed).length) (listed.setIfInBounds i true) [i]
      | none => [].reverse) a w
    cases hi : (Region.ready .any ops listed)[t % (Region.ready .any ops listed).length]? with
    | none =>
      have hnil : Region.ready .any ops listed = [] := by
        cases hr : Region.ready .any ops listed with
        | nil => rfl
        | cons x xs =>
          rw [hr] at hi
          have hlt : t % (x :: xs).length < (x :: xs).length := Nat.mod_lt _ (by simp)
          rw [List.getElem?_eq_none_iff] at hi
          omega
      simp only [List.reverse_nil, wpOpsIn]
      exact allDone listed a w (none_ready listed hsz hnil) hln hm
    | some j =>
      simp only []
      rw [linearise_go_acc, List.reverse_singleton, List.singleton_append]
      obtain ⟨hun, o, ho, hpre⟩ := mem_ready.1 (List.mem_of_getElem? hi)
      have hj : j < ops.size := (Array.getElem?_eq_some_iff.1 ho).1
      have hun' : listed.getD j false = false := by rw [← getD_lt listed j true (by omega)]; exact hun
      have hol : ops.toList[j]? = some o := by simpa using ho
      have hoj : ops[j] = o := by rw [Array.getElem?_eq_getElem hj] at ho; injection ho
      have hjl : j < N := by omega
      -- the sets
      obtain ⟨S, hSd⟩ : ∃ S : Nat → Bool, S = fun i => listed.getD i false := ⟨_, rfl⟩
      obtain ⟨S', hSd'⟩ : ∃ S' : Nat → Bool, S' = fun i => (listed.setIfInBounds j true).getD i false := ⟨_, rfl⟩
      have hSj : S j = false := by rw [hSd]; exact hun'
      have hSj' : S' j = true := by rw [hSd']; simp [Array.getD_eq_getD_getElem?, hsz, hj]
      have hSS : ∀ i, i ≠ j → S' i = S i := by
        intro i hne
        rw [hSd, hSd']
        exact getD_set_ne false (Ne.symm hne)
      have hbits : ∀ k o, ops.toList[k]? = some o → (∀ e ∈ o.after, Region.binds .any e = true → S e.on = true) → ∀ i, ((bef ops.toList).getD k 0).testBit i = true → S i = true :=
        closed_bits hback (by rw [hSd]; exact hcl)
      have hclS : ∀ k, k < N → S k = true → ∀ i, ((bef ops.toList).getD k 0).testBit i = true → S i = true := by
        intro k hk hs i hb
        have hok : ops.toList[k]? = some (ops[k]'(by omega)) := by simp [show k < ops.size by omega]
        refine hbits k _ hok (fun e he hbi => ?_) i hb
        rw [hSd] at hs ⊢
        exact hcl k _ hok hs e he hbi
      have hpS : ∀ i, ((bef ops.toList).getD j 0).testBit i = true → S i = true := by
        refine hbits j o hol (fun e he hbi => ?_)
        rw [hSd]; exact hpre e he hbi
      rw [← hSd] at hm
      by_cases hI : I j = true
      · rcases hQ with ⟨h1, _⟩ | ⟨p, h1, h2, h3, h4⟩
        · rw [h1 j hjl] at hI; cases hI
        · rcases h3 j hjl hI with q | q
          · subst q
            exact h4 S _ a w hSj hpS hm
          · have e1 : listed.getD p false = true := by
              have := hpS p q
              rw [hSd] at this
              exact this
            rw [hln p h1 h2] at e1
            cases e1
      obtain ⟨c, k1, k2, k3, k4⟩ := hm.cx
      have st := R.at j hjl
      rw [hoj] at st
      have hmask : VRs w c (keepT 0 (T j) (Ft j).rt) a.tmps.toList := by
        refine k1.masked ?_ _ (fun k hk => TS_read R hap hclS hjl hSj hpS hk)
        rw [R.tlen j (by omega), TS_len R]
      have hcnt' : unlisted ops.size (listed.setIfInBounds j true) ≤ fuel := by
        have : unlisted ops.size (listed.setIfInBounds j true) < unlisted ops.size listed := by
          unfold unlisted
          refine filter_lt ?_ _ j (by simpa using hj) (by rw [hun]; rfl) (by simp [Array.getD_eq_getD_getElem?, hsz, hj])
          intro x hx
          by_cases hxj : x = j
          · subst hxj; rw [hun]; rfl
          · rw [getD_set_ne true (Ne.symm hxj)] at hx; exact hx
        omega
      have hcl' : ∀ k o, ops.toList[k]? = some o → (listed.setIfInBounds j true).getD k false = true → ∀ e ∈ o.after, Region.binds .any e = true → (listed.setIfInBounds j true).getD e.on false = true := by
        intro k o' hok hs e he hbi
        apply getD_set_true
        by_cases hkj : k = j
        · subst hkj
          rw [hol] at hok
          injection hok with hok
          subst hok
          exact hpre e he hbi
        · rw [getD_set_ne false (Ne.symm hkj)] at hs
          exact hcl k o' hok hs e he hbi
      have onward : ∀ (v' : Value) (w2 : World) (c' : Cx), VR w2 c' (V j) v' → Ext w c w2 c' → (∀ id, c'.V id → c.V id ∨ ((H j).next ≤ id ∧ id < (H (j + 1)).next)) → HR w2 c' (GS H Ft S' N) →
          wpOpsIn F 0 P ops Q (Region.linearise.go .any ops fuel (t / (Region.ready .any ops listed).length) (listed.setIfInBounds j true) []) (a.put o.dst v') w2 := by
        intro v' w2 c' q1 q2 q3 q4
        refine ih _ _ _ _ (by simp [hsz]) hcnt' hcl' (fun i hi hIi => by rw [getD_set_ne false (fun q => hI (by rw [q]; exact hIi))]; exact hln i hi hIi) ?_
        rw [← hSd']
        refine ⟨by rw [← hm.ds]; cases o.dst <;> rfl, c', ?_, k2.trans q2, ?_, q4⟩
        · rw [TS_add R hap hclS hjl hSj hSj' hSS, st.wt]
          exact put_rel (VRs.mono q2.toExt0 k1) q1
        · intro id hid
          rcases q3 id hid with z | z
          · rcases k3 id z with y | ⟨i, y1, y2, y3⟩
            · exact .inl y
            · refine .inr ⟨i, y1, ?_, y3⟩
              by_cases hij : i = j
              · subst hij; exact hSj'
              · rw [hSS i hij]; exact y2
          · exact .inr ⟨j, hjl, hSj', by rw [st.lo]; exact z.1, by rw [st.hi]; exact z.2⟩
      have hpatch := GS_add R hap hclS hjl hSj hSj' hSS
      simp only [wpOpsIn, ho]
      rcases st.does with (⟨hw, hnd, hreal⟩ | ⟨hw, hh, hvv, hww⟩) | ⟨hid, _⟩
      rotate_right
      · exact absurd hid hI
      · rw [if_pos (hw w c a hmask)]
        have hfresh : ∀ id, (H j).next ≤ id → id < (H (j + 1)).next → ¬ c.V id := fun id h1 h2 hid => by
          rcases k3 id hid with y | ⟨i, y1, y2, y3, y4⟩
          · have m1 := R.mono 0 j (by omega) (by omega)
            have m2 := R.mono (j + 1) N (by omega) (Nat.le_refl _)
            exact hfr id (by omega) (by omega) y
          · have sti := R.at i y1
            rw [sti.lo] at y3
            rw [sti.hi] at y4
            have hne : i ≠ j := fun z => by rw [z, hSj] at y2; cases y2
            rcases Nat.lt_or_gt_of_ne hne with z | z
            · have := R.mono (i + 1) j (by omega) (by omega); omega
            · have := R.mono (j + 1) i (by omega) (by omega); omega
        have hrc : RealC P (execOp a.eval o) w c (H j) (H (j + 1)) (Ft j).w (V j) (GS H Ft S N) := by
          by_cases hso : ∃ id k o, (id ∈ (Ft j).r ∨ id ∈ (Ft j).w) ∧ ops.toList[j]? = some o ∧ Soft P o (T j) (H j) (H (j + 1)) (V j) (Ft k) (Ft j) ∧ GS H Ft S N id = (Ft k).post.G id
          · obtain ⟨id, k, o', s1, s2, s3, s4⟩ := hso
            rw [hol] at s2
            injection s2 with s2
            subst s2
            obtain ⟨x, hx⟩ := s3.one
            have hid : id = x := by
              rcases s1 with q | q
              · rw [hx] at q; simpa using q
              · rw [s3.w0] at q; cases q
            rw [s3.w0]
            refine s3.real w c a _ hmask k4 (fun id' hid' => ?_)
            have : id' = x := by rw [hx] at hid'; simpa using hid'
            rw [this, ← hid]
            exact s4
          · refine hreal w c a (GS H Ft S N) hmask ⟨k4, fun id hid => ?_, hfresh⟩
            rcases GS_read R hap hclS hjl hSj hpS hid with q | ⟨k, o', q1, q2, q3⟩
            · exact q
            · exact absurd ⟨id, k, o', hid, q1, q2, q3⟩ hso
        obtain ⟨nx, w1, hrun, hg⟩ := hrc
        refine wpIn_of_goes hF hnd hrun hg ?_
        rintro v' w2 ⟨c', q1, q2, q3, q4⟩
        exact onward v' w2 c' q1 q2 q3 (q4 _ hpatch)
      · rw [if_neg (by rw [hw w c a hmask]; simp)]
        refine ⟨fun f _ => hF.fn f, ?_⟩
        refine onward undef w c (by rw [hvv]; exact .val _) (Ext.refl w c) (fun id h => .inl h) ?_
        have : GS H Ft S' N = GS H Ft S N := by
          funext id
          refine (hpatch id).2 ?_
          rw [hh, hww]
          rintro (q | q)
          · cases q
          · omega
        rw [this]
        exact k4
end
theorem wpOps_mono {F : Fence} {P : Program} {ops : Array Oper} : ∀ (l : List Nat) (Q Q' : Exit → Act → World → Prop) (a : Act) (w : World), (∀ e a w, Q e a w → Q' e a w) → wpOpsIn F 0 P ops Q l a w → wpOpsIn F 0 P ops Q' l a w := by
  intro l Q Q'
  induction l with
  | nil => intro a w hq h; exact hq _ _ _ h
  | cons j l ih =>
    intro a w hq h
    simp only [wpOpsIn] at h ⊢
    split
    · rename_i hj; simp only [hj] at h; exact ih a w hq h
    · rename_i o hj
      simp only [hj] at h
      split
      · rename_i hw
        simp only [hw, if_true, Oper.wpIn] at h ⊢
        refine ⟨h.1, ?_⟩
        have h2 := h.2
        generalize (o.semAt F.round a.eval).run P w = res at h2 ⊢
        cases res with
        | ok nx w' =>
          cases nx <;> simp only [Oper.uponIn] at h2 ⊢ <;> first
            | exact ih _ _ hq h2
            | (refine ⟨h2.1, CallsIn.mono h2.2 ?_⟩; intro e w'' he; cases e <;> first | exact ih _ _ hq he | exact hq _ _ _ he | exact he.imp fun _ ⟨w, h⟩ => ⟨w, hq _ _ _ h⟩)
            | exact ⟨h2.1, RowsIn.mono h2.2 fun _ _ he => ih _ _ hq he⟩
            | (refine ⟨h2.1, RoundIn.mono h2.2 ?_⟩; intro e w'' he; cases e <;> first | exact ih _ _ hq he | exact hq _ _ _ he | exact he.imp fun _ ⟨w, h⟩ => ⟨w, hq _ _ _ h⟩)
        | halt x w' => cases x <;> simp only [Oper.uponIn] at h2 ⊢; exact hq _ _ _ h2
      · rename_i hw
        simp only [hw] at h
        exact ⟨h.1, ih _ _ hq h.2⟩
theorem Mid.start {P : Program} {ops : Array Oper} {N : Nat} {I : Nat → Bool} {T : Nat → List AV} {H : Nat → Heap} {V : Nat → AV} {Ft : Nat → Foot} (R : Run P ops N I T H V Ft) {w : World} {c : Cx} {a : Act} (hv : VRs w c (T 0) a.tmps.toList) (hr : HR w c (H 0).G) :
    Mid R w c a.defers (fun i => (Array.replicate ops.size false).getD i false) a w := by
  have hS : ∀ i, (Array.replicate ops.size false).getD i false = false := by
    intro i
    simp only [Array.getD_eq_getD_getElem?, Array.getElem?_replicate]
    split <;> rfl
  have hT : ∀ n, TS (T 0) V Ft (fun i => (Array.replicate ops.size false).getD i false) n = T 0 := by
    intro n
    induction n with
    | zero => rfl
    | succ n ih => unfold TS; rw [hS n, if_neg (by simp)]; exact ih
  have hG : ∀ n, GS H Ft (fun i => (Array.replicate ops.size false).getD i false) n = (H 0).G := by
    intro n
    induction n with
    | zero => rfl
    | succ n ih =>
      funext id
      unfold GS
      rw [hS n, if_neg (by simp)]
      exact congrFun ih id
  refine ⟨rfl, c, ?_, Ext.refl _ c, fun id h => .inl h, ?_⟩
  · rw [hT]; exact hv
  · rw [hG]; exact hr
theorem draw_ext (w : World) (c : Cx) : Ext w c { w with drawn := w.drawn + 1 } c := ⟨⟨fun _ q => q, fun _ _ _ => rfl, fun i hi => ⟨hi, rfl⟩⟩, rfl, rfl, rfl, Nat.le_refl _, fun _ _ _ => rfl, fun _ _ h => h, fun _ _ q => q, fun _ q q' => absurd q q'⟩
theorem HR.drew {w : World} {c : Cx} {G : Nat → Option Blk} (h : HR w c G) : HR { w with drawn := w.drawn + 1 } c G := by
  refine ⟨h.valid, fun id b hb => ?_, h.inj, h.dis⟩
  have hbr := h.blk id b hb
  exact BlkRel.keep (draw_ext w c).toExt0 hbr (fun _ => rfl) hbr.owned
theorem unkT_eq (t : List AV) : unkT t = List.replicate t.length AV.unk := by
  induction t with
  | nil => rfl
  | cons v t ih => show AV.unk :: unkT t = _; rw [ih]; rfl
theorem unk_rel {w : World} {c : Cx} : ∀ (n : Nat) (l : List Value), l.length = n → VRs w c (List.replicate n AV.unk) l
  | 0, [], _ => .nil
  | 0, _ :: _, h => by cases h
  | n + 1, [], h => by cases h
  | n + 1, v :: l, h => .cons _ _ _ _ (.unk v) (unk_rel n l (by simpa using h))
theorem calmAll_spec {rtp : List Nat} {b p : Nat} : ∀ (L : List Foot), calmAll rtp b p L.length L.reverse = true → ∀ i g, L[i]? = some g → i = p ∨ (i < p ∧ b.testBit i = true) ∨ (g.w = [] ∧ g.lo = g.hi ∧ ∀ k, g.wt = some k → k ∉ rtp) := by
  refine snocInd (by intro _ i g h; simp at h) ?_
  intro L x ih h i g hg
  rw [List.reverse_append, List.reverse_singleton, List.singleton_append, List.length_append, List.length_singleton] at h
  simp only [calmAll, Bool.and_eq_true, Bool.or_eq_true] at h
  rcases Nat.lt_or_ge i L.length with q | q
  · rw [List.getElem?_append_left q] at hg
    exact ih h.2 i g hg
  · rw [List.getElem?_append_right q] at hg
    have : i = L.length := by
      rcases Nat.lt_or_ge (i - L.length) 1 with z | z
      · omega
      · rw [List.getElem?_eq_none (by simpa using z)] at hg; cases hg
    subst this
    simp at hg
    subst hg
    rcases h.1 with z | ⟨z1, z2⟩ | ⟨z1, z2, z3⟩
    · exact .inl (Nat.eq_of_beq_eq_true z)
    · exact .inr (.inl ⟨blt_iff.1 z1, z2⟩)
    · exact .inr (.inr ⟨noNats_spec z1, Nat.eq_of_beq_eq_true z2, fun k hk => disj_spec z3 k (by simp [hk])⟩)
section
variable {P : Program} {call : Calling} (hc : CallOk P call) {env : Env} (he : EnvOk P env) (hmix : P.follows .mixedOrders = true)
include hc he hmix
theorem region_sound {ρ : Type} {ops : Array Oper} {draw : Bool} {K : KC ρ} {s : St} (hk : s.h.ok) {r : ρ} (hK : regionK env call ops draw K s = some r) :
    (∃ t' h', K .normal ⟨t', s.d, h'⟩ = some r ∧ h'.ok ∧ s.h.next ≤ h'.next ∧ HEff s.h h' ∧ ∀ {F : Fence} (hF : FOk F) (id : Nat) (w : World) (c : Cx) (a : Act), VRs w c s.t a.tmps.toList → HR w c s.h.G → (∀ id, s.h.next ≤ id → id < h'.next → ¬ c.V id) →
      (Code.region id ops draw).wpIn F 0 P (fun e a' w' => e = .normal ∧ PostR w c s.h h' t' a.defers a' w') a w) ∨
    (∃ x t' h', K (.pan x) ⟨t', s.d, h'⟩ = some r ∧ h'.ok ∧ s.h.next ≤ h'.next ∧ HEff s.h h' ∧ ∀ {F : Fence} (hF : FOk F) (id : Nat) (w : World) (c : Cx) (a : Act), VRs w c s.t a.tmps.toList → HR w c s.h.G → (∀ id, s.h.next ≤ id → id < h'.next → ¬ c.V id) →
      (Code.region id ops draw).wpIn F 0 P (fun e a' w' => e = .panic (chainOf x) ∧ PostR w c s.h h' t' a.defers a' w') a w) := by
  unfold regionK at hK
  rcases trace_sound hc he ops.toList [] s.t s.h hk hK with ⟨T, H, V, Ft, e1, e2, e3, e4⟩ | ⟨T, H, V, Ft, n, o, x, h', R, Wr, e1, e2, e3, e4, e5, e6⟩
  rotate_left
  · have hk0 : (H 0).ok := by rw [e2]; exact hk
    have hnl : n < ops.size := by
      have := (List.getElem?_eq_some_iff.1 e4).1
      simpa using this
    have heff : ∀ m, m ≤ n → HEff s.h (H m) := by
      intro m
      induction m with
      | zero => intro _; rw [e2]; exact HEff.refl hk
      | succ m ih =>
        intro hm
        have st := e3 m ops[m] (by omega) (by simp [show m < ops.size by omega])
        exact (ih (by omega)).trans st.eff.heff
    cases draw with
    | true =>
      simp only [cond_true, if_true, List.append_nil] at e6
      unfold panRest at e6
      have hlen : ((List.range n).map Ft).reverse.length = n := by simp
      rw [hlen] at e6
      have hnth : nth ops.toList n = some o := by rw [nth_eq]; exact e4
      rw [hnth] at e6
      simp only at e6
      have hkn : (H n).ok := by
        cases n with
        | zero => exact hk0
        | succ m => exact (e3 m ops[m] (by omega) (by simp [show m < ops.size by omega])).eff.ok
      obtain ⟨T2, H2, V2, Ft2, I2, g1, g2, g3, g4⟩ := rest_sound hc he (ops.toList.drop (n + 1)) _ _ _ hkn e6
      obtain ⟨fs2, hfs2⟩ : ∃ fs2, fs2 = ((List.range (ops.toList.drop (n + 1)).length).map Ft2).reverse ++ (footIdle o (H n) :: ((List.range n).map Ft).reverse) := ⟨_, rfl⟩
      rw [← hfs2] at g4
      cases hg : (backs 0 ops.toList && (apartOps env (Region.before ops).toList.reverse fs2.length fs2 && calmAll (rtOf (ops.toList.map (·.dst)) o) (nthD 0 (Region.before ops).toList n) n fs2.length fs2)) with
      | false => rw [hg] at g4; cases g4
      | true =>
        rw [hg, cond_true] at g4
        simp only [Bool.and_eq_true] at hg
        obtain ⟨hback, hapart, hcalm⟩ := hg
        have hbn : nthD 0 (Region.before ops).toList n = (bef ops.toList).getD n 0 := by
          rw [nthD_eq, before_eq]
          simp [List.getD_eq_getElem?_getD, Array.getD_eq_getD_getElem?]
        have hbi : ∀ i, nthD 0 (Region.before ops).toList i = (bef ops.toList).getD i 0 := by
          intro i
          rw [nthD_eq, before_eq]
          simp [List.getD_eq_getElem?_getD, Array.getD_eq_getD_getElem?]
        -- all operations, those ahead of the panic and those behind it
        obtain ⟨T', hT'⟩ : ∃ T' : Nat → List AV, T' = fun i => if i ≤ n then T i else T2 (i - (n + 1)) := ⟨_, rfl⟩
        obtain ⟨H', hH'⟩ : ∃ H' : Nat → Heap, H' = fun i => if i ≤ n then H i else H2 (i - (n + 1)) := ⟨_, rfl⟩
        obtain ⟨V', hV'⟩ : ∃ V' : Nat → AV, V' = fun i => if i < n then V i else if i = n then undefA else V2 (i - (n + 1)) := ⟨_, rfl⟩
        obtain ⟨F', hF'⟩ : ∃ F' : Nat → Foot, F' = fun i => if i < n then Ft i else if i = n then footIdle o (H n) else Ft2 (i - (n + 1)) := ⟨_, rfl⟩
        obtain ⟨I', hI'⟩ : ∃ I' : Nat → Bool, I' = fun i => if i < n then false else if i = n then true else I2 (i - (n + 1)) := ⟨_, rfl⟩
        have hdrop : ∀ i o', n + 1 ≤ i → ops.toList[i]? = some o' → (ops.toList.drop (n + 1))[i - (n + 1)]? = some o' := by
          intro i o' hi ho
          rw [List.getElem?_drop, show n + 1 + (i - (n + 1)) = i by omega]
          exact ho
        have R0 : Run P ops ops.size I' T' H' V' F' := by
          refine ⟨by rw [hH']; simp only [Nat.zero_le, if_true]; exact hk0, Nat.le_refl _, ?_⟩
          intro i o' hi ho
          rcases Nat.lt_trichotomy i n with q | q | q
          · have := (e3 i o' q ho).d
            rw [hI', hT', hH', hV', hF']
            simp only [if_pos q, if_pos (Nat.le_of_lt q), if_pos (show i + 1 ≤ n by omega)]
            exact this
          · subst q
            rw [e4] at ho
            injection ho with ho
            subst ho
            rw [hI', hT', hH', hV', hF']
            simp only [if_neg (Nat.lt_irrefl i), if_pos (Nat.le_refl i), if_neg (show ¬ i + 1 ≤ i by omega), if_true, Nat.sub_self]
            rw [g1, g2]
            exact StepD.idle hkn
          · have := (g3 (i - (n + 1)) o' (hdrop i o' q ho)).1
            rw [hI', hT', hH', hV', hF']
            simp only [if_neg (show ¬ i < n by omega), if_neg (show ¬ i = n by omega), if_neg (show ¬ i ≤ n by omega), if_neg (show ¬ i + 1 ≤ n by omega)]
            rw [show i + 1 - (n + 1) = (i - (n + 1)) + 1 by omega]
            exact this
        have hl2 : (ops.toList.drop (n + 1)).length = ops.size - (n + 1) := by simp
        have hL : ((List.range ops.size).map F').length = ops.size := by simp
        have hfeet : fs2 = ((List.range ops.size).map F').reverse := by
          rw [hfs2, hl2]
          have e : ops.size = n + (1 + (ops.size - (n + 1))) := by omega
          have er : List.range ops.size = List.range n ++ (n :: (List.range (ops.size - (n + 1))).map (fun i => n + 1 + i)) := by
            rw [congrArg List.range e, List.range_add, List.range_add]
            simp [List.map_map, Function.comp_def, Nat.add_assoc]
          rw [er, List.map_append, List.reverse_append, List.map_cons, List.reverse_cons, List.append_assoc, List.map_map]
          congr 1
          · congr 1
            apply List.map_congr_left
            intro i hi
            show Ft2 i = F' (n + 1 + i)
            rw [hF']
            simp only [if_neg (show ¬ n + 1 + i < n by omega), if_neg (show ¬ n + 1 + i = n by omega)]
            rw [show n + 1 + i - (n + 1) = i by omega]
          · rw [List.singleton_append]
            congr 1
            · rw [hF']; simp
            · congr 1
              apply List.map_congr_left
              intro i hi
              rw [hF']
              simp only [if_pos (List.mem_range.1 hi)]
        have hlen2 : fs2.length = ops.size := by rw [hfeet]; simp
        rw [hlen2, hfeet] at hapart hcalm
        have hget : ∀ i, i < ops.size → ((List.range ops.size).map F')[i]? = some (F' i) := fun i hi => by simp [hi]
        have hap' : ∀ i j, i < j → j < ops.size → ((bef ops.toList).getD j 0).testBit i = true ∨ PairOk P ops T' H' V' F' i j := by
          intro i j hij hj
          have := apartOps_spec ((List.range ops.size).map F') (bef ops.toList).toList (by rw [hL]; simp [bef_size]) (by rw [hL, ← before_eq]; exact hapart) i j (F' i) (F' j) hij (hget i (by omega)) (hget j hj)
          rcases this with q | q | q
          · left
            simpa [List.getD_eq_getElem?_getD, Array.getD_eq_getD_getElem?] using q
          · exact .inr (.inl (apartF_spec q))
          · have sj := R0.at j hj
            have si := R0.at i (by omega)
            exact .inr (.inr ⟨sj.post, ops[i], by simp [show i < ops.size by omega], soft_spec he si (by rw [sj.post]; exact sj.eff.ok) q⟩)
        have hcs : ∀ i, i < ops.size → i = n ∨ (i < n ∧ ((bef ops.toList).getD n 0).testBit i = true) ∨ ((F' i).w = [] ∧ (F' i).lo = (F' i).hi ∧ ∀ k, (F' i).wt = some k → k ∉ rtOf (ops.toList.map (·.dst)) o) := by
          intro i hi
          have := calmAll_spec ((List.range ops.size).map F') (by rw [hL]; exact hcalm) i (F' i) (hget i hi)
          rw [hbn] at this
          exact this
        have hidle : ∀ i, i < ops.size → I' i = true → i = n ∨ ((bef ops.toList).getD i 0).testBit n = true := by
          intro i hi hIi
          rcases Nat.lt_trichotomy i n with q | q | q
          · rw [hI'] at hIi
            simp only [if_pos q] at hIi
            cases hIi
          · exact .inl q
          · right
            rw [hI'] at hIi
            simp only [if_neg (show ¬ i < n by omega), if_neg (show ¬ i = n by omega)] at hIi
            have := (g3 (i - (n + 1)) _ (hdrop i ops[i] q (by simp [hi]))).2 hIi
            rw [hbi, List.length_cons, hlen, show n + 1 + (i - (n + 1)) = i by omega] at this
            exact this
        have hTn : T' n = T n := by rw [hT']; simp
        have hHn : H' n = H n := by rw [hH']; simp
        have hT0 : T' 0 = T 0 := by rw [hT']; simp
        have hH0 : H' 0 = H 0 := by rw [hH']; simp
        have hFn : F' n = footIdle o (H n) := by rw [hF']; simp
        have hnext : (H' ops.size).next = (H n).next := by
          have key : ∀ k m, m = n + k → m ≤ ops.size → (H' m).next = (H n).next := by
            intro k
            induction k with
            | zero => intro m hm _; rw [show m = n by omega, hHn]
            | succ k ih =>
              intro m hm hms
              have st := R0.at (n + k) (by omega)
              have ih' := ih (n + k) rfl (by omega)
              have hlh : (F' (n + k)).lo = (F' (n + k)).hi := by
                rcases hcs (n + k) (by omega) with q | q | q
                · rw [q, hFn]; rfl
                · omega
                · exact q.2.1
              rw [st.lo, st.hi] at hlh
              rw [show m = n + k + 1 by omega, ← hlh, ih']
          exact key (ops.size - n) ops.size (by omega) (Nat.le_refl _)
        have hx0 := e5.eff.next
        have hmo : s.h.next ≤ h'.next := Nat.le_trans (heff n (Nat.le_refl _)).next hx0
        refine .inr ⟨x, unkT (T n), h', g4, e5.eff.ok, hmo, (heff n (Nat.le_refl _)).trans e5.eff.heff, ?_⟩
        intro F hF id w c a hv hr hfr
        apply wpIn_region_draw
        intro t
        simp only [Region.schedule, hmix, Bool.true_or, if_true]
        have hx := draw_ext w c
        have := drawn_go R0 hap' hback hF (w0 := { w with drawn := w.drawn + 1 }) (c0 := c) (ds := a.defers) (nx := h'.next) (by rw [hnext]; exact hx0) (by rw [hH0, e2]; exact hfr)
          (Q := fun e a' w' => e = .panic (chainOf x) ∧ PostR { w with drawn := w.drawn + 1 } c (H 0) h' (unkT (T n)) a.defers a' w') rfl
          (.inr ⟨n, hnl, by rw [hI']; simp, hidle, fun S rest a1 w1 hSn hSb hm => by
            obtain ⟨c1, k1, k2, k3, k4⟩ := hm.cx
            have hGc : GS H' F' S ops.size = (H' n).G := GS_calm R0 (p := n) (by omega) (fun i hi => by
              rcases hcs i hi with q | ⟨q1, q2⟩ | ⟨q1, q2, _⟩
              · right
                intro id' hid
                rw [q] at hid
                unfold Touch at hid
                rw [hFn] at hid
                rcases hid with z | z
                · cases z
                · have : (footIdle o (H n)).lo = (footIdle o (H n)).hi := rfl
                  omega
              · exact .inl ⟨hSb i q2, q1⟩
              · right
                intro id' hid
                rcases hid with z | z
                · rw [q1] at z; cases z
                · omega)
            rw [hGc, hHn] at k4
            have hmask : VRs w1 c1 (keepT 0 (T n) (rtOf (ops.toList.map (·.dst)) o)) a1.tmps.toList := by
              rw [← hTn]
              refine k1.masked (by rw [R0.tlen n (by omega), TS_len R0]) _ (fun k hk => TS_calm R0 (p := n) (by omega) hSn (fun i hi hne => ?_))
              rcases hcs i hi with q | ⟨q1, q2⟩ | ⟨_, _, q3⟩
              · exact absurd q hne
              · exact .inl ⟨hSb i q2, q1⟩
              · exact .inr (fun z => q3 k z hk)
            have ho' : ops[n]? = some o := by simpa using e4
            simp only [wpOpsIn, ho']
            rw [if_pos (e5.want w1 c1 a1 hmask)]
            refine ⟨fun f _ => hF.fn f, ?_⟩
            rw [Oper.semAt_eq _ _ _ e5.nd]
            have hfr1 : ∀ id, (H n).next ≤ id → id < h'.next → ¬ c1.V id := by
              intro id h1 h2 hid
              rcases k3 id hid with q | ⟨i, q1, _, q3, q4⟩
              · have m1 := (heff n (Nat.le_refl _)).next
                exact hfr id (by omega) h2 q
              · have st := R0.at i q1
                have m2 := R0.mono (i + 1) ops.size (by omega) (Nat.le_refl _)
                rw [st.hi] at q4
                omega
            have fin : ∀ (w' : World), (∃ c', Ext w1 c1 w' c' ∧ (∀ id, c'.V id → c1.V id ∨ ((H n).next ≤ id ∧ id < h'.next)) ∧ ∀ G', Patch (H n).G (H n) h' Wr G' → HR w' c' G') → PostR { w with drawn := w.drawn + 1 } c (H 0) h' (unkT (T n)) a.defers a1 w' := by
              rintro w' ⟨c', y2, y3, y4⟩
              refine ⟨hm.ds, c', ?_, k2.trans y2, fun id hid => ?_, y4 _ (Patch.full hkn e5.eff)⟩
              · rw [unkT_eq]
                refine unk_rel _ _ ?_
                have := k1.length
                rw [this, TS_len R0, ← hTn, R0.tlen n (by omega)]
              · rcases y3 id hid with q | q
                · rcases k3 id q with z | ⟨i, q1, _, q3, q4⟩
                  · exact .inl z
                  · have st := R0.at i q1
                    have m1 := R0.mono 0 i (by omega) (by omega)
                    have m2 := R0.mono (i + 1) ops.size (by omega) (Nat.le_refl _)
                    rw [st.lo] at q3
                    rw [st.hi] at q4
                    rw [hH0] at m1
                    exact .inr ⟨by omega, by omega⟩
                · have m1 := (heff n (Nat.le_refl _)).next
                  rw [e2]
                  exact .inr ⟨by omega, q.2⟩
            rcases e5.real w1 c1 a1 (H n).G hmask ⟨k4, fun _ _ => rfl, hfr1⟩ with ⟨nx, w2, hrun, hg⟩ | ⟨hrun, hh⟩
            · rw [hrun]
              cases nx <;> simp only [GoesE] at hg
              · cases hg.1
              · cases hg.1
              · refine ⟨fun q => absurd q hF.depth, CallsIn.mono (hF.calls hg) ?_⟩
                rintro e w' ⟨rfl, hp⟩
                exact ⟨rfl, fin w' hp⟩
              · refine ⟨fun q => absurd q hF.depth, RoundIn.mono (hF.round hg) ?_⟩
                rintro e w' ⟨rfl, hp⟩
                exact ⟨rfl, fin w' hp⟩
            · rw [hrun]
              subst hh
              exact ⟨rfl, fin w1 ⟨c1, Ext.refl w1 c1, fun id h => .inl h, fun G' hG' => by
                have : G' = (H n).G := by
                  funext id
                  by_cases hq : id ∈ Wr ∨ ((H n).next ≤ id ∧ id < (H n).next)
                  · exact (hG' id).1 hq
                  · exact (hG' id).2 hq
                rw [this]; exact k4⟩⟩⟩)
          ops.size t (Array.replicate ops.size false) a { w with drawn := w.drawn + 1 } (by simp)
          (by unfold unlisted; exact Nat.le_trans (List.length_filter_le _ _) (by simp)) (fun j o _ h => by
            simp only [Array.getD_eq_getD_getElem?, Array.getElem?_replicate] at h
            split at h <;> cases h) (fun i _ _ => by
            simp only [Array.getD_eq_getD_getElem?, Array.getElem?_replicate]
            split <;> rfl) (Mid.start R0 (by rw [hT0, e1]; exact VRs.mono hx.toExt0 hv) (by rw [hH0, e2]; exact hr.drew))
        refine wpOps_mono _ _ _ _ _ ?_ this
        rintro e a' w' ⟨rfl, hp⟩
        rw [e2] at hp
        exact ⟨rfl, hp.trans hx (fun id h => .inl h) (Nat.le_refl _) hmo⟩
    | false =>
      refine .inr ⟨x, T n, h', e6, e5.eff.ok, ?_⟩
      obtain ⟨m1, m2, m3⟩ := seqX_sound (F := Fence.wide) (.inl rfl) hk0 e3 e4 e5 n 0 (by omega) hk0
      refine ⟨by rw [e2] at m1; exact m1, (heff n (Nat.le_refl _)).trans e5.eff.heff, ?_⟩
      intro F hF id w c a hv hr hfr
      apply wpIn_region
      have := (seqX_sound hF hk0 e3 e4 e5 n 0 (by omega) hk0).2.2 w c a (by rw [e1]; exact hv) (by rw [e2]; exact hr) (by rw [e2]; exact hfr)
      rw [List.range_eq_range', e2] at *
      exact this
  refine .inl ?_
  have hn : ops.toList.length = ops.size := by simp
  rw [hn] at e4
  have R : Run P ops ops.size (fun _ => false) T H V Ft := ⟨by rw [e2]; exact hk, Nat.le_refl _, fun i o _ h => (e3 i o h).d⟩
  have heff : ∀ n, n ≤ ops.size → HEff s.h (H n) := by
    intro n
    induction n with
    | zero => intro _; rw [e2]; exact HEff.refl hk
    | succ n ih => intro hn; exact (ih (by omega)).trans (R.at n hn).eff.heff
  have hok := R.ok ops.size (Nat.le_refl _)
  have hmo := R.mono 0 ops.size (by omega) (Nat.le_refl _)
  rw [e2] at hmo
  cases draw with
  | false =>
    refine ⟨T ops.size, H ops.size, e4, hok, hmo, heff _ (Nat.le_refl _), ?_⟩
    intro F hF id w c a hv hr hfr
    apply wpIn_region
    have := (seq_sound hF R.ok0 e3 ops.size 0 (by omega) R.ok0).2.2 w c a (by rw [e1]; exact hv) (by rw [e2]; exact hr) (by rw [e2]; exact hfr)
    rw [List.range_eq_range', e2] at *
    exact this
  | true =>
    simp only [Bool.not_true, Bool.false_or, if_true, List.append_nil, List.length_reverse, List.length_map, List.length_range] at e4
    cases hg : (backs 0 ops.toList && apartOps env (Region.before ops).toList.reverse ops.size ((List.range ops.size).map Ft).reverse) with
    | false => rw [hg] at e4; cases e4
    | true =>
      rw [hg, cond_true] at e4
      rw [Bool.and_eq_true] at hg
      obtain ⟨hback, hap⟩ := hg
      refine ⟨T ops.size, H ops.size, e4, hok, hmo, heff _ (Nat.le_refl _), ?_⟩
      intro F hF id w c a hv hr hfr
      have hap' : ∀ i j, i < j → j < ops.size → ((bef ops.toList).getD j 0).testBit i = true ∨ PairOk P ops T H V Ft i j := by
        intro i j hij hj
        have hL : ((List.range ops.size).map Ft).length = ops.size := by simp
        have := apartOps_spec ((List.range ops.size).map Ft) (bef ops.toList).toList (by rw [hL]; simp [bef_size]) (by rw [hL, ← before_eq]; exact hap) i j (Ft i) (Ft j) hij (by simp [show i < ops.size by omega]) (by simp [hj])
        rcases this with q | q | q
        · left
          simpa [List.getD_eq_getElem?_getD, Array.getD_eq_getD_getElem?] using q
        · exact .inr (.inl (apartF_spec q))
        · have sj := e3 j ops[j] (by simp [show j < ops.size by omega])
          have si := e3 i ops[i] (by simp [show i < ops.size by omega])
          exact .inr (.inr ⟨sj.post, ops[i], by simp [show i < ops.size by omega], soft_spec he si.d (by rw [sj.post]; exact sj.eff.ok) q⟩)
      apply wpIn_region_draw
      intro t
      simp only [Region.schedule, hmix, Bool.true_or, if_true]
      have hx := draw_ext w c
      have := drawn_go R hap' hback hF (w0 := { w with drawn := w.drawn + 1 }) (c0 := c) (ds := a.defers) (nx := (H ops.size).next) (Nat.le_refl _) (by rw [e2]; exact hfr)
        (Q := fun e a' w' => e = .normal ∧ PostR { w with drawn := w.drawn + 1 } c (H 0) (H ops.size) (T ops.size) a.defers a' w')
        rfl (.inl ⟨fun _ _ => rfl, fun a1 w1 hp => ⟨rfl, hp⟩⟩)
        ops.size t (Array.replicate ops.size false) a { w with drawn := w.drawn + 1 } (by simp)
        (by unfold unlisted; exact Nat.le_trans (List.length_filter_le _ _) (by simp)) (fun j o _ h => by
          simp only [Array.getD_eq_getD_getElem?, Array.getElem?_replicate] at h
          split at h <;> cases h) (fun i _ h => by cases h) (Mid.start R (by rw [e1]; exact VRs.mono hx.toExt0 hv) (by rw [e2]; exact hr.drew))
      refine wpOps_mono _ _ _ _ _ ?_ this
      rintro e a' w' ⟨rfl, hp⟩
      rw [e2] at hp
      exact ⟨rfl, hp.trans hx (fun id h => .inl h) (Nat.le_refl _) hmo⟩
end
end Go.Ev
/- Blocks by other numbers. -/
namespace Go.Ev
theorem foldL_map {α β : Type} (f : α → β) : ∀ l : List α, foldL [] (fun v _ ih => f v :: ih) l = l.map f
  | [] => rfl
  | v :: l => by
    show f v :: foldL [] (fun v _ ih => f v :: ih) l = _
    rw [foldL_map f l]; rfl
structure RenTo (σ : Nat → Option Nat) (c c2 : Cx) : Prop where
  M : c2.M = c.M
  ids : ∀ i j, σ i = some j → c.V i → c2.V j ∧ c2.ι j = c.ι i
theorem RenTo.at {σ : Nat → Option Nat} {c c2 : Cx} (h : RenTo σ c c2) (p : Bool) : RenTo σ (c.at p) (c2.at p) := by
  cases p
  · exact h
  · exact ⟨h.M, fun _ _ _ q => q.elim⟩
theorem none_eq {c c2 : Cx} (h : c2.M = c.M) : c2.none = c.none := by unfold Cx.none; rw [h]
theorem RD.reM {w : World} {c c2 : Cx} (h : c2.M = c.M) {k : Con} {b o : Nat} (hr : RD w c k b o) : RD w c2 k b o := by
  cases hr with | mk _ _ _ arr e fz g h1 h2 h3 h4 =>
  exact .mk k b o arr e fz g (by rw [h]; exact h1) h2 h3 (fun i j v hi hj hv => by rw [none_eq h]; exact h4 i j v hi hj hv)
section
variable {σ : Nat → Option Nat} {w : World} {c c2 : Cx} (hs : RenTo σ c c2)
include hs
theorem ren0_rel {v : AV} {v' : Value} (h : VR w c v v') : VR w c2 (ren0 σ v) v' := by
  cases h with
  | unk => exact .unk _
  | val => exact .val _
  | agg l l' hl => exact .unk _
  | ro k cap a m h1 h2 h3 h4 => exact .ro k cap a m h1 h2 h3 (fun b o e hp => (h4 b o e hp).reM hs.M)
  | rptr k r j b o h1 h2 => exact .rptr k r j b o h1 (h2.reM hs.M)
  | own id off len cap wd a m h1 h2 h3 h4 h5 =>
    simp only [ren0]
    split
    · rename_i j hj
      obtain ⟨g1, g2⟩ := hs.ids id j hj h1
      exact .own j off len cap wd a m g1 (by rw [g2]; exact h2) h3 h4 (by rw [g2]; exact h5)
    · exact .unk _
  | ptr id r j h1 h2 =>
    simp only [ren0]
    split
    · rename_i k hk
      obtain ⟨g1, g2⟩ := hs.ids id k hk h1
      have := VR.ptr (W := w) (c := c2) k r j g1 (by rw [g2]; exact h2)
      rw [g2] at this
      exact this
    · exact .unk _
  | clo f x y x' y' h1 h2 h3 => exact .unk _
  | tup l l' hl => exact .unk _
  | ifc t v v' h1 => exact .unk _
  | mp id h1 h2 =>
    simp only [ren0]
    split
    · rename_i k hk
      obtain ⟨g1, g2⟩ := hs.ids id k hk h1
      have := VR.mp (W := w) (c := c2) k g1 (by rw [g2]; exact h2)
      rw [g2] at this
      exact this
    · exact .unk _
  | rmp m r es ck g h1 h2 h3 h4 h5 => exact .rmp m r es ck g (by rw [hs.M]; exact h1) h2 h3 h4 (fun i hi => by rw [none_eq hs.M]; exact h5 i hi)
theorem map_rel {f : AV → AV} (hf : ∀ v v', VR w c v v' → VR w c2 (f v) v') : ∀ {l : List AV} {l' : List Value}, VRs w c l l' → VRs w c2 (foldL [] (fun v _ ih => f v :: ih) l) l'
  | _, _, .nil => .nil
  | _, _, .cons v v' l l' h1 h2 => .cons _ _ _ _ (hf v v' h1) (map_rel hf h2)
theorem renF_rel {f g : Fn} (hg : renF σ f = some g) (hf : fnOk c f) : fnOk c2 g ∧ renFn c2 g = renFn c f := by
  cases f with
  | yield l =>
    simp only [renF] at hg
    split at hg
    · rename_i j hj
      injection hg with hg
      subst hg
      obtain ⟨g1, g2⟩ := hs.ids l j hj hf
      exact ⟨g1, by simp only [renFn, g2]⟩
    · cases hg
  | _ =>
    simp only [renF, Option.some.injEq] at hg
    subst hg
    exact ⟨trivial, rfl⟩
theorem ren1_rel {v : AV} {v' : Value} (h : VR w c v v') : VR w c2 (ren1 σ v) v' := by
  have h0 := ren0_rel hs h
  cases h with
  | agg l l' hl => exact .agg _ _ (map_rel hs (fun _ _ q => ren0_rel hs q) hl)
  | clo f x y x' y' h1 h2 h3 =>
    simp only [ren1]
    split
    · rename_i g hg
      obtain ⟨g1, g2⟩ := renF_rel hs hg h1
      rw [← g2]
      exact .clo _ _ _ _ _ g1 (map_rel hs (fun _ _ q => ren0_rel hs q) h2) (map_rel hs (fun _ _ q => ren0_rel hs q) h3)
    · exact .unk _
  | ifc t v v' h1 => exact .ifc _ _ _ (ren0_rel hs h1)
  | _ => exact h0
theorem ren_rel {v : AV} {v' : Value} (h : VR w c v v') : VR w c2 (v.ren σ) v' := by
  have h0 := ren1_rel hs h
  cases h with
  | tup l l' hl => exact .tup _ _ (map_rel hs (fun _ _ q => ren1_rel hs q) hl)
  | clo f x y x' y' h1 h2 h3 =>
    simp only [AV.ren]
    split
    · rename_i g hg
      obtain ⟨g1, g2⟩ := renF_rel hs hg h1
      rw [← g2]
      exact .clo _ _ _ _ _ g1 (map_rel hs (fun _ _ q => ren1_rel hs q) h2) (map_rel hs (fun _ _ q => ren1_rel hs q) h3)
    · exact .unk _
  | ifc t v v' h1 => exact .ifc _ _ _ (ren1_rel hs h1)
  | _ => exact h0
theorem rens_rel {l : List AV} {l' : List Value} (h : VRs w c l l') : VRs w c2 (rens σ l) l' := map_rel hs (fun _ _ q => ren_rel hs q) h
theorem Con.ren_len (k : Con) : (k.ren σ).len = k.len := by
  cases k with
  | ints => rfl
  | rows p wd l => simp only [Con.ren, Con.len, renRows, foldL_map]; simp
  | tab => rfl
theorem Con.ren_wd (k : Con) : (k.ren σ).wd = k.wd := by cases k <;> rfl
theorem Con.ren_row (k : Con) (i : Nat) (j : Nat) (v : AV) (h : ((k.ren σ).row i)[j]? = some v) : ∃ u, (k.row i)[j]? = some u ∧ v = ren1 σ u := by
  cases k with
  | ints kd l =>
    refine ⟨v, h, ?_⟩
    cases j with
    | zero => simp [Con.ren, Con.row] at h; subst h; rfl
    | succ j => simp [Con.ren, Con.row] at h
  | rows p wd l =>
    simp only [Con.ren, Con.row, renRows, foldL_map, List.getD_eq_getElem?_getD, List.getElem?_map] at h ⊢
    cases hr : l[i]? with
    | none => rw [hr] at h; simp at h
    | some r =>
      rw [hr] at h
      simp only [Option.map_some, Option.getD_some, ren1s, foldL_map, List.getElem?_map, Option.map_eq_some_iff] at h ⊢
      obtain ⟨u, h1, h2⟩ := h
      exact ⟨u, h1, h2.symm⟩
  | tab wd n f =>
    simp only [Con.ren, Con.row, ren1s, foldL_map, List.getElem?_map, Option.map_eq_some_iff] at h ⊢
    obtain ⟨u, h1, h2⟩ := h
    exact ⟨u, h1, h2.symm⟩
theorem blk_ren (hO : ∀ b, c.O b → c2.O b) {rb : RB} {b b2 : Blk} (h : BlkRel w c rb b) (hb : b.ren σ = some b2) : BlkRel w c2 rb b2 := by
  cases b with
  | cells k =>
    simp only [Blk.ren, Option.some.injEq] at hb
    subst hb
    unfold renC
    cases hpf : k.pureF with
    | true =>
      rw [cond_true]
      refine ⟨h.wd, h.dead, fun q => hO _ (h.own q), fun q => ?_⟩
      obtain ⟨a, e, fz, h1, h2, h3, h4, h5, h6⟩ := h.arr q
      refine ⟨a, e, fz, h1, h2, h3, h4, h5, fun i j v u hi hj hv hu => ?_⟩
      have := h6 i j v u hi hj hv hu
      rw [hpf] at this ⊢
      exact VR.mono (c := c.none) (c' := c2.none) ⟨fun b q => by show c2.M b; rw [hs.M]; exact q, fun _ _ _ => rfl, fun _ q => q.elim⟩ this
    | false =>
    rw [cond_false]
    refine ⟨by rw [Con.ren_wd hs]; exact h.wd, fun q => by rw [Con.ren_len hs]; exact h.dead q, fun q => hO _ (h.own q), fun q => ?_⟩
    obtain ⟨a, e, fz, h1, h2, h3, h4, h5, h6⟩ := h.arr q
    refine ⟨a, e, fz, h1, h2, h3, h4, by rw [Con.ren_len hs]; exact h5, ?_⟩
    intro i j v u hi hj hv hu
    rw [Con.ren_len hs] at hi
    obtain ⟨x, g1, rfl⟩ := Con.ren_row hs k i j v hv
    have e1 : (k.ren σ).pureF = k.pureF := by cases k <;> rfl
    rw [e1]
    exact ren1_rel (hs.at _) (h6 i j x u hi hj g1 hu)
  | loop st pend t ps a b df =>
    simp only [Blk.ren] at hb
    split at hb
    · rename_i d hd
      injection hb with hb
      subst hb
      obtain ⟨g1, g2, ⟨r, r1, r2, r3, r4, r5, r6, r7, r8⟩, g3⟩ := h
      obtain ⟨d1, d2⟩ := hs.ids df d hd g3
      exact ⟨g1, hO _ g2, ⟨r, r1, r2, r3, rens_rel hs r4, r5, r6, r7, by rw [d2]; exact r8⟩, d1⟩
    · cases hb
  | defd =>
    simp only [Blk.ren, Option.some.injEq] at hb
    subst hb
    exact ⟨h.1, hO _ h.2.1, h.2.2⟩
  | map p m =>
    simp only [Blk.ren, Option.some.injEq] at hb
    subst hb
    obtain ⟨g1, g2, es, e1, e2, e3⟩ := h
    cases p with
    | true =>
      refine ⟨g1, hO _ g2, es, e1, e2, fun i hi => ?_⟩
      obtain ⟨e, f1, f2, f3, f4⟩ := e3 i hi
      exact ⟨e, f1, f2, f3, VR.mono (c := c.none) (c' := c2.none) ⟨fun b q => by show c2.M b; rw [hs.M]; exact q, fun _ _ _ => rfl, fun _ q => q.elim⟩ f4⟩
    | false =>
      have len : (m.ren σ).len = m.len := by
        cases m with
        | ents l ck => show (foldL [] _ l).length = _; rw [foldL_map]; simp [MC.len]
        | mtab n f ck => rfl
      have clk : (m.ren σ).clock = m.clock := by cases m <;> rfl
      have ent : ∀ i, i < m.len → (m.ren σ).ent i = (m.ent i).ren σ := fun i hi => by
        cases m with
        | ents l ck =>
          have hi' : i < l.length := hi
          show nthD ME.z (foldL [] _ l) i = (nthD ME.z l i).ren σ
          rw [foldL_map, nthD_eq, nthD_eq, List.getD_eq_getElem?_getD, List.getD_eq_getElem?_getD, List.getElem?_map]
          simp [hi']
        | mtab n f ck => rfl
      refine ⟨g1, hO _ g2, es, by rw [show renM σ false m = m.ren σ from rfl, clk]; exact e1, by rw [show renM σ false m = m.ren σ from rfl, len]; exact e2, fun i hi => ?_⟩
      rw [show renM σ false m = m.ren σ from rfl] at hi ⊢
      rw [len] at hi
      rw [ent i hi]
      obtain ⟨e, f1, f2, f3, f4⟩ := e3 i hi
      exact ⟨e, f1, f2, f3, ren1_rel hs f4⟩
  | iter pos l =>
    simp only [Blk.ren, Option.some.injEq] at hb
    subst hb
    exact ⟨h.live, hO _ h.own, h.st, h.obj⟩
end
theorem posN_get : ∀ (m : List Nat) (id j : Nat), posN id m = some j → m.reverse[j]? = some id
  | [], id, j, h => by cases h
  | a :: l, id, j, h => by
    unfold posN at h
    cases hb : Nat.beq a id with
    | true =>
      rw [hb] at h
      simp only [cond_true, Option.some.injEq] at h
      subst h
      rw [List.reverse_cons, List.getElem?_append_right (by simp)]
      simp [beq_iff.1 hb]
    | false =>
      rw [hb] at h
      have ih := posN_get l id j h
      rw [List.reverse_cons, List.getElem?_append_left]
      · exact ih
      · rcases Nat.lt_or_ge j l.reverse.length with q | q
        · exact q
        · rw [List.getElem?_eq_none q] at ih; cases ih
theorem posN_lt {m : List Nat} {id j : Nat} (h : posN id m = some j) : j < m.length := by
  have := posN_get m id j h
  rcases Nat.lt_or_ge j m.reverse.length with q | q
  · simpa using q
  · rw [List.getElem?_eq_none q] at this; cases this
theorem renE_some {σ : Nat → Option Nat} {es : List Ent} {id k : Nat} {e : Ent} (h : renE σ es id k = some e) : e.id = k ∧ σ id = some k ∧ ∃ e0, findE es id = some e0 ∧ e0.blk.ren σ = some e.blk := by
  unfold renE at h
  split at h
  · rename_i e0 j h1 h2
    cases hb : Nat.beq j k with
    | false => rw [hb] at h; cases h
    | true =>
      rw [hb, cond_true] at h
      have := beq_iff.1 hb
      subst this
      split at h
      · rename_i b hb2
        injection h with h
        subst h
        exact ⟨rfl, h2, e0, h1, hb2⟩
      · cases h
  · cases h
theorem renEs_lt (σ : Nat → Option Nat) (es : List Ent) : ∀ (m : List Nat) (e : Ent), e ∈ renEs σ es m → e.id < m.length
  | [], e, h => by cases h
  | id :: m, e, h => by
    unfold renEs at h
    split at h
    · rename_i e0 he0
      rcases List.mem_cons.1 h with q | q
      · subst q
        rw [(renE_some he0).1]; simp
      · have := renEs_lt σ es m e q; simp; omega
    · have := renEs_lt σ es m e h; simp; omega
theorem renEs_uniq (σ : Nat → Option Nat) (es : List Ent) : ∀ m : List Nat, Uniq (renEs σ es m)
  | [] => List.nodup_nil
  | id :: m => by
    unfold renEs
    split
    · rename_i e0 he0
      rw [uniq_cons]
      refine ⟨fun x hx => ?_, renEs_uniq σ es m⟩
      have := renEs_lt σ es m x hx
      rw [(renE_some he0).1]; omega
    · exact renEs_uniq σ es m
theorem renEs_mem (σ : Nat → Option Nat) (es : List Ent) : ∀ (m : List Nat) (e : Ent), e ∈ renEs σ es m → ∃ id e0, σ id = some e.id ∧ findE es id = some e0 ∧ e0.blk.ren σ = some e.blk
  | [], e, h => by cases h
  | id :: m, e, h => by
    unfold renEs at h
    split at h
    · rename_i e0 he0
      rcases List.mem_cons.1 h with q | q
      · subst q
        obtain ⟨h1, h2, e1, h3, h4⟩ := renE_some he0
        exact ⟨id, e1, by rw [h1]; exact h2, h3, h4⟩
      · exact renEs_mem σ es m e q
    · exact renEs_mem σ es m e h
end Go.Ev
/- Code. -/
namespace Go.Ev
def exitOf : AX → Exit
  | .normal => .normal
  | .exit id => .exit id
  | .ret => .ret
  | .pan x => .panic (chainOf x)
def marks (c : Cx) (ds : List Nat) : List Deferred := ds.map fun id => { target := .collected (c.ι id).blk, args := #[] }
structure StRel (w : World) (c : Cx) (s : St) (a : Act) : Prop where
  t : VRs w c s.t a.tmps.toList
  h : HR w c s.h.G
  d : a.defers = marks c s.d
  dv : ∀ id ∈ s.d, c.V id
structure ExtW (root : Md) (W : World) (c : Cx) (W' : World) (c' : Cx) : Prop where
  M : ∀ b, c.M b → c'.M b
  mkeep : ∀ b, b < W.heap.size → c.M b → W'.heap[b]? = W.heap[b]?
  os : W'.os = W.os
  tape : W'.tape = W.tape
  output : W'.output = W.output
  size : W.heap.size ≤ W'.heap.size
  keep : ∀ b, b < W.heap.size → ¬ c.O b → W'.heap[b]? = W.heap[b]?
  own : ∀ b, b < W.heap.size → c'.O b → c.O b
  Mo : ∀ b, b < W.heap.size → c'.M b → c.M b ∨ (root.fz = true ∧ c.O b)
  nd : ∀ b, c'.M b → ¬ c.M b → ¬ c'.O b ∧ b < W'.heap.size
theorem Ext.w {root : Md} {W W' : World} {c c' : Cx} (h : Ext W c W' c') : ExtW root W c W' c' := ⟨h.M, h.mkeep, h.os, h.tape, h.output, h.size, h.keep, h.own, fun b hb q => .inl (h.Mo b hb q), h.nd⟩
theorem ExtW.trans {root : Md} {W W1 W2 : World} {c c1 c2 : Cx} (h : ExtW root W c W1 c1) (k : ExtW root W1 c1 W2 c2) : ExtW root W c W2 c2 :=
  ⟨fun b hm => k.M b (h.M b hm), fun b hb hm => (k.mkeep b (Nat.lt_of_lt_of_le hb h.size) (h.M b hm)).trans (h.mkeep b hb hm),
   k.os.trans h.os, k.tape.trans h.tape, k.output.trans h.output, Nat.le_trans h.size k.size,
   fun b hb ho => (k.keep b (Nat.lt_of_lt_of_le hb h.size) (fun o => ho (h.own b hb o))).trans (h.keep b hb ho),
   fun b hb ho => h.own b hb (k.own b (Nat.lt_of_lt_of_le hb h.size) ho),
   fun b hb hm => (k.Mo b (Nat.lt_of_lt_of_le hb h.size) hm).elim (h.Mo b hb) (fun q => .inr ⟨q.1, h.own b hb q.2⟩),
   fun b hm hn => by
     by_cases h1 : c1.M b
     · obtain ⟨q1, q2⟩ := h.nd b h1 hn
       exact ⟨fun o => q1 (k.own b q2 o), Nat.lt_of_lt_of_le q2 k.size⟩
     · exact k.nd b hm h1⟩
structure Keeps (root : Md) (c c' : Cx) (n n' : Nat) : Prop where
  le : root.rt = false → n ≤ n'
  ids : root.rt = false → ∀ i, c.V i → c'.V i ∧ c'.ι i = c.ι i
  V : root.rt = false → ∀ id, c'.V id → c.V id ∨ (n ≤ id ∧ id < n')
  R : root.rt = true → ∀ id, c'.V id → id < n'
  P : root.rt = true → ∀ i, i < root.pins → c.V i → c'.V i ∧ c'.ι i = c.ι i
structure Fresh (root : Md) (c : Cx) (n n' : Nat) : Prop where
  V : root.rt = false → ∀ id, n ≤ id → id < n' → ¬ c.V id
  R : root.rt = true → ∀ id, c.V id → id < n
theorem Keeps.trans {root : Md} {c c1 c2 : Cx} {n n1 n2 : Nat} (h : Keeps root c c1 n n1) (k : Keeps root c1 c2 n1 n2) : Keeps root c c2 n n2 := by
  refine ⟨fun q => Nat.le_trans (h.le q) (k.le q), fun q i hi => ?_, fun q id hid => ?_, k.R, fun q i hp hi => ?_⟩
  · obtain ⟨a1, a2⟩ := h.ids q i hi
    obtain ⟨b1, b2⟩ := k.ids q i a1
    exact ⟨b1, b2.trans a2⟩
  · have l1 := h.le q
    have l2 := k.le q
    rcases k.V q id hid with z | z
    · rcases h.V q id z with y | y
      · exact .inl y
      · exact .inr ⟨y.1, by omega⟩
    · exact .inr ⟨by omega, z.2⟩
  · obtain ⟨a1, a2⟩ := h.P q i hp hi
    obtain ⟨b1, b2⟩ := k.P q i hp a1
    exact ⟨b1, b2.trans a2⟩
theorem Fresh.onward {root : Md} {c c1 : Cx} {n n1 n2 : Nat} (h : Fresh root c n n2) (k : Keeps root c c1 n n1) : Fresh root c1 n1 n2 := by
  refine ⟨fun q id h1 h2 h3 => ?_, fun q id hid => k.R q id hid⟩
  have l1 := k.le q
  rcases k.V q id h3 with z | z
  · exact h.V q id (by omega) h2 z
  · omega
theorem Fresh.less {root : Md} {c : Cx} {n n1 n2 : Nat} (h : Fresh root c n n2) (hl : root.rt = false → n1 ≤ n2) : Fresh root c n n1 :=
  ⟨fun q id h1 h2 => h.V q id h1 (Nat.lt_of_lt_of_le h2 (hl q)), h.R⟩
theorem Fresh.region {root : Md} {c : Cx} {n n' : Nat} (h : Fresh root c n n') : ∀ id, n ≤ id → id < n' → ¬ c.V id := by
  intro id h1 h2 h3
  obtain ⟨rt, p⟩ := root
  cases rt with
  | false => exact h.V rfl id h1 h2 h3
  | true => have := h.R rfl id h3; omega
theorem Keeps.region {root : Md} {w w' : World} {c c' : Cx} {n n' : Nat} (hf : Fresh root c n n') (hle : n ≤ n') (hx : Ext w c w' c') (hV : ∀ id, c'.V id → c.V id ∨ (n ≤ id ∧ id < n')) : Keeps root c c' n n' := by
  refine ⟨fun _ => hle, fun _ => hx.ids, fun _ => hV, fun q id hid => ?_, fun q i _ hi => hx.ids i hi⟩
  rcases hV id hid with z | z
  · have := hf.R q id z; omega
  · exact z.2
def HEffR (root : Md) (h h' : Heap) : Prop := h'.ok ∧ (root.rt = false → HEff h h')
theorem HEffR.refl {root : Md} {h : Heap} (hk : h.ok) : HEffR root h h := ⟨hk, fun _ => HEff.refl hk⟩
theorem HEffR.trans {root : Md} {h h1 h2 : Heap} (a : HEffR root h h1) (b : HEffR root h1 h2) : HEffR root h h2 := ⟨b.1, fun q => (a.2 q).trans (b.2 q)⟩
theorem HEff.r {h h' : Heap} (root : Md) (a : HEff h h') : HEffR root h h' := ⟨a.ok, fun _ => a⟩
theorem HEffR.le {root : Md} {h h' : Heap} (a : HEffR root h h') : root.rt = false → h.next ≤ h'.next := fun q => (a.2 q).next
def PostC (root : Md) (w : World) (c : Cx) (n : Nat) (s' : St) : Act → World → Prop := fun a' w' =>
  ∃ c', StRel w' c' s' a' ∧ ExtW root w c w' c' ∧ Keeps root c c' n s'.h.next
theorem marks_ids {c c' : Cx} {ds : List Nat} (hi : ∀ i, c.V i → c'.V i ∧ c'.ι i = c.ι i) (hv : ∀ id ∈ ds, c.V id) : marks c' ds = marks c ds := by
  unfold marks
  refine List.map_congr_left fun id hid => ?_
  rw [(hi id (hv id hid)).2]
theorem PostC.trans {root : Md} {w w1 : World} {c c1 : Cx} {n n1 : Nat} {s' : St} {a' : Act} {w' : World} (hx : ExtW root w c w1 c1) (hk : Keeps root c c1 n n1)
    (hp : PostC root w1 c1 n1 s' a' w') : PostC root w c n s' a' w' := by
  obtain ⟨c', k1, k2, k3⟩ := hp
  exact ⟨c', k1, hx.trans k2, hk.trans k3⟩
def COk (P : Program) (root : Md) (round : Bool) (c : Code) {ρ : Type} (X : KC ρ → St → Option ρ) : Prop := ∀ (K : KC ρ) (s : St) (r : ρ), s.h.ok → X K s = some r →
  ∃ e s', K e s' = some r ∧ HEffR root s.h s'.h ∧ ∀ {F : Fence} (hF : FOk F) (hro : round = false → F.round = none) (w : World) (cx : Cx) (a : Act), StRel w cx s a → Fresh root cx s.h.next s'.h.next →
    c.wpIn F 0 P (fun e' a' w' => e' = exitOf e ∧ PostC root w cx s.h.next s' a' w') a w
def LoopWp (F : Fence) (P : Program) (c : Code) (Q : Exit → Act → World → Prop) : Nat → Act → World → Prop
  | 0, _, _ => False
  | n + 1, a, w => c.wpIn F 0 P (Exit.then (LoopWp F P c Q n) Q) a w
theorem then_mono {K K' : Act → World → Prop} {Q Q' : Exit → Act → World → Prop} (hk : ∀ a w, K a w → K' a w) (hq : ∀ e a w, Q e a w → Q' e a w) : ∀ e a w, Exit.then K Q e a w → Exit.then K' Q' e a w := by
  intro e a w h
  cases e <;> first | exact hk _ _ h | exact hq _ _ _ h
theorem LoopWp.mono {F : Fence} {P : Program} {c : Code} {Q Q' : Exit → Act → World → Prop} (hq : ∀ e a w, Q e a w → Q' e a w) : ∀ n a w, LoopWp F P c Q n a w → LoopWp F P c Q' n a w
  | 0, _, _, h => h
  | n + 1, a, w, h => wpIn_mono h (then_mono (LoopWp.mono hq n) hq)
open Classical in
theorem wpIn_loop_n {F : Fence} {P : Program} {c : Code} {Q : Exit → Act → World → Prop} {a : Act} {w : World} (h : ∃ n, LoopWp F P c Q n a w) : (Code.loop c).wpIn F 0 P Q a w := by
  have least : ∀ (p : Nat → Prop), (∃ n, p n) → ∃ n, p n ∧ ∀ m, p m → n ≤ m := by
    intro p ⟨n, hn⟩
    induction n using Nat.strongRecOn with
    | _ n ih =>
      by_cases hm : ∃ m, m < n ∧ p m
      · obtain ⟨m, h1, h2⟩ := hm
        exact ih m h1 h2
      · refine ⟨n, hn, fun m hp => ?_⟩
        rcases Nat.lt_or_ge m n with q | q
        · exact absurd ⟨m, q, hp⟩ hm
        · exact q
  let μ : Act → World → Nat := fun a w => if h : ∃ n, LoopWp F P c Q n a w then Classical.choose (least _ h) else 0
  refine wpIn_loop (fun a w => ∃ n, LoopWp F P c Q n a w) μ h ?_
  intro a w hI
  have hμ : μ a w = Classical.choose (least _ hI) := by simp only [μ]; rw [dif_pos hI]
  obtain ⟨h1, h2⟩ := Classical.choose_spec (least _ hI)
  rw [← hμ] at h1 h2
  cases hn : μ a w with
  | zero => rw [hn] at h1; exact h1.elim
  | succ n =>
    rw [hn] at h1
    refine wpIn_mono h1 (then_mono (fun a' w' h' => ⟨⟨n, h'⟩, ?_⟩) (fun _ _ _ h => h))
    have hI' : ∃ n, LoopWp F P c Q n a' w' := ⟨n, h'⟩
    have hμ' : μ a' w' = Classical.choose (least _ hI') := by simp only [μ]; rw [dif_pos hI']
    have := (Classical.choose_spec (least _ hI')).2 n h'
    rw [← hμ'] at this
    omega
theorem trim_ok {ks : Option (List Nat)} {s : St} (hk : s.h.ok) : (trim ks s).h.ok ∧ HEff s.h (trim ks s).h ∧ (trim ks s).h.next = s.h.next ∧ (trim ks s).d = s.d ∧ ∀ w c a, StRel w c s a → StRel w c (trim ks s) a := by
  cases ks with
  | none => exact ⟨hk, HEff.refl hk, rfl, rfl, fun _ _ _ h => h⟩
  | some ks =>
    obtain ⟨m, hm⟩ : ∃ m, m = reach fuelR s.h.es (refss (keepT 0 s.t ks) ++ s.d) [] := ⟨_, rfl⟩
    have he : trim (some ks) s = ⟨keepT 0 s.t ks, s.d, ⟨s.h.next, pickE s.h.es m⟩⟩ := by rw [hm]; rfl
    rw [he]
    have hf : ∀ id e, findE (pickE s.h.es m) id = some e → findE s.h.es id = some e := by
      intro id e h
      rw [findE_pickE] at h
      split at h
      · exact h
      · cases h
    have hok : (⟨s.h.next, pickE s.h.es m⟩ : Heap).ok := ⟨List.Nodup.sublist ((pickE_sub _ _).map _) hk.uniq, fun id e h => hk.lt id e (hf id e h)⟩
    refine ⟨hok, ⟨Nat.le_refl _, hok, fun id e' h _ => ⟨e', hf id e' h, Nat.le_refl _, fun _ => rfl⟩⟩, rfl, rfl, ?_⟩
    intro w c a hr
    refine ⟨hr.t.masked rfl _ (fun _ _ => rfl), hr.h.sub ?_, hr.d, hr.dv⟩
    intro id b hb
    simp only [Heap.G, Option.map_eq_some_iff] at hb ⊢
    obtain ⟨e, h1, h2⟩ := hb
    exact ⟨e, hf id e h1, h2⟩
theorem renIds_marks {σ : Nat → Option Nat} {c c2 : Cx} (hs : RenTo σ c c2) : ∀ {ds l : List Nat}, renIds σ ds = some l → (∀ id ∈ ds, c.V id) → marks c2 l = marks c ds ∧ ∀ id ∈ l, c2.V id
  | [], l, h, _ => by
    simp only [renIds, Option.some.injEq] at h
    subst h
    exact ⟨rfl, by simp⟩
  | d :: ds, l, h, hv => by
    unfold renIds at h
    split at h
    · rename_i j l' h1 h2
      injection h with h
      subst h
      obtain ⟨g1, g2⟩ := hs.ids d j h1 (hv d (by simp))
      obtain ⟨k1, k2⟩ := renIds_marks hs h2 (fun id hid => hv id (by simp [hid]))
      refine ⟨by simp only [marks, List.map_cons] at k1 ⊢; rw [k1, g2], ?_⟩
      intro id hid
      rcases List.mem_cons.1 hid with q | q
      · subst q; exact g1
      · exact k2 id q
    · cases h
theorem canonM_ok {p : Nat} {f : Bool} {m : List Nat} {t : List AV} {s : St} (hk : s.h.ok) (htl : ∀ w c l, VRs w c s.t l → VRs w c t l) : (canonM m t s).h.ok ∧ ∀ w c a, StRel w c s a → (∀ id, c.V id → id < s.h.next) →
    ∃ c1, StRel w c1 (canonM m t s) a ∧ ExtW ⟨true, p, f⟩ w c w c1 ∧ (∀ id, c1.V id → id < (canonM m t s).h.next) ∧ (c1 = c ∨ ∀ i j, posN i m = some j → c.V i → c1.V j ∧ c1.ι j = c.ι i) := by
  unfold canonM
  split
  · rename_i d hd
    obtain ⟨σ, hσ⟩ : ∃ σ : Nat → Option Nat, σ = fun id => posN id m := ⟨_, rfl⟩
    rw [← hσ] at hd ⊢
    have hlt : ∀ i j, σ i = some j → j < m.length := by rw [hσ]; exact fun i j h => posN_lt h
    have hget : ∀ i j, σ i = some j → m.reverse.getD j 0 = i := by
      rw [hσ]
      intro i j h
      simp [List.getD_eq_getElem?_getD, posN_get m i j h]
    have huq := renEs_uniq σ s.h.es m
    refine ⟨⟨huq, fun id e he => ?_⟩, ?_⟩
    · have := renEs_lt σ s.h.es m e (findE_some_mem he)
      rw [findE_id he] at this
      exact this
    · intro w c a hr hb
      let c2 : Cx := ⟨c.M, c.O, fun j => c.ι (m.reverse.getD j 0), fun j => ∃ i, σ i = some j ∧ c.V i⟩
      have hs : RenTo σ c c2 := ⟨rfl, fun i j h hv => ⟨⟨i, h, hv⟩, by show c.ι (m.reverse.getD j 0) = c.ι i; rw [hget i j h]⟩⟩
      obtain ⟨d1, d2⟩ := renIds_marks hs hd hr.dv
      refine ⟨c2, ⟨rens_rel hs (htl w c _ hr.t), ?_, by rw [hr.d]; exact d1.symm, d2⟩, ⟨fun _ q => q, fun _ _ _ => rfl, rfl, rfl, rfl, Nat.le_refl _, fun _ _ _ => rfl, fun _ _ h => h, fun _ _ q => .inl q, fun _ q q' => absurd q q'⟩, ?_, .inr (fun i j hij hi => hs.ids i j (by rw [hσ]; exact hij) hi)⟩
      · have hG : ∀ j b, (⟨m.length, renEs σ s.h.es m⟩ : Heap).G j = some b → ∃ i e0, σ i = some j ∧ findE s.h.es i = some e0 ∧ e0.blk.ren σ = some b := by
          intro j b hb
          simp only [Heap.G, Option.map_eq_some_iff] at hb
          obtain ⟨e, he, rfl⟩ := hb
          obtain ⟨i, e0, h1, h2, h3⟩ := renEs_mem σ s.h.es m e (findE_some_mem he)
          rw [findE_id he] at h1
          exact ⟨i, e0, h1, h2, h3⟩
        have hGo : ∀ i e0, findE s.h.es i = some e0 → s.h.G i = some e0.blk := fun i e0 h => by simp [Heap.G, h]
        refine ⟨?_, ?_, ?_, hr.h.dis⟩
        · intro j b hb
          obtain ⟨i, e0, h1, h2, h3⟩ := hG j b hb
          exact ⟨i, h1, hr.h.valid i _ (hGo i e0 h2)⟩
        · intro j b hb
          obtain ⟨i, e0, h1, h2, h3⟩ := hG j b hb
          have := blk_ren hs (fun _ q => q) (hr.h.blk i _ (hGo i e0 h2)) h3
          have e1 : c2.ι j = c.ι i := by show c.ι (m.reverse.getD j 0) = c.ι i; rw [hget i j h1]
          rw [e1]; exact this
        · intro j1 j2 b1 b2 hb1 hb2 l1 l2 hbk
          obtain ⟨i1, e1, h1, h2, h3⟩ := hG j1 b1 hb1
          obtain ⟨i2, e2, g1, g2, g3⟩ := hG j2 b2 hb2
          have q1 : c2.ι j1 = c.ι i1 := by show c.ι (m.reverse.getD j1 0) = c.ι i1; rw [hget i1 j1 h1]
          have q2 : c2.ι j2 = c.ι i2 := by show c.ι (m.reverse.getD j2 0) = c.ι i2; rw [hget i2 j2 g1]
          rw [q1] at l1 hbk
          rw [q2] at l2 hbk
          have := hr.h.inj i1 i2 _ _ (hGo i1 e1 h2) (hGo i2 e2 g2) l1 l2 hbk
          subst this
          rw [h1] at g1
          injection g1
      · rintro j ⟨i, h1, _⟩
        exact hlt i j h1
  · exact ⟨hk, fun w c a hr hb => ⟨c, ⟨hr.t, hr.h, hr.d, hr.dv⟩, (Ext.refl w c).w, hb, .inl rfl⟩⟩
theorem posN_downTo : ∀ {p i : Nat}, i < p → posN i (downTo p) = some i
  | 0, i, h => by omega
  | p + 1, i, h => by
    show (bif Nat.beq p i then some (downTo p).length else posN i (downTo p)) = some i
    have hl : ∀ k, (downTo k).length = k := by
      intro k
      induction k with
      | zero => rfl
      | succ k ih => show (downTo k).length + 1 = _; rw [ih]
    by_cases q : p = i
    · subst q; rw [Nat.beq_refl, cond_true, hl]
    · rw [beqF q, cond_false]; exact posN_downTo (by omega)
theorem posN_geL {p i : Nat} (h : i < p) : ∀ (l r : List Nat), posN i (geL p l ++ r) = posN i r
  | [], r => rfl
  | a :: l, r => by
    show posN i ((bif Nat.ble p a then a :: geL p l else geL p l) ++ r) = _
    cases hb : Nat.ble p a with
    | true =>
      have : ¬ a = i := by have := Nat.le_of_ble_eq_true hb; omega
      show (bif Nat.beq a i then some (geL p l ++ r).length else posN i (geL p l ++ r)) = _
      rw [beqF this, cond_false]; exact posN_geL h l r
    | false => exact posN_geL h l r
theorem trimR_ok {root : Md} {ks : Option (List Nat)} {s : St} (hk : s.h.ok) : HEffR root s.h (trimR root ks s).h ∧ ∀ w c a n', StRel w c s a → Fresh root c s.h.next n' →
    ∃ c1, StRel w c1 (trimR root ks s) a ∧ ExtW root w c w c1 ∧ Keeps root c c1 s.h.next (trimR root ks s).h.next := by
  obtain ⟨rt, p, f⟩ := root
  cases rt with
  | false =>
    obtain ⟨t1, t2, t3, t4, t5⟩ := trim_ok (ks := ks) hk
    refine ⟨t2.r _, fun w c a n' hr hf => ⟨c, t5 w c a hr, (Ext.refl w c).w, ?_⟩⟩
    show Keeps ⟨false, p, f⟩ c c s.h.next (trim ks s).h.next
    rw [t3]
    exact ⟨fun _ => Nat.le_refl _, fun _ i hi => ⟨hi, rfl⟩, fun _ id hid => .inl hid, fun q => (by cases q), fun q => (by cases q)⟩
  | true =>
    show HEffR ⟨true, p, f⟩ s.h (canonP p ks s).h ∧ ∀ w c a n', StRel w c s a → Fresh ⟨true, p, f⟩ c s.h.next n' → ∃ c1, StRel w c1 (canonP p ks s) a ∧ ExtW ⟨true, p, f⟩ w c w c1 ∧ Keeps ⟨true, p, f⟩ c c1 s.h.next (canonP p ks s).h.next
    cases ks with
    | none => exact ⟨HEffR.refl hk, fun w c a n' hr hf => ⟨c, hr, (Ext.refl w c).w, ⟨fun q => (by cases q), fun q => (by cases q), fun q => (by cases q), hf.R, fun _ i _ hi => ⟨hi, rfl⟩⟩⟩⟩
    | some ks =>
      obtain ⟨k1, k2⟩ := canonM_ok (p := p) (f := f) (m := geL p (reach fuelR s.h.es (refss (keepT 0 s.t ks) ++ (s.d ++ downTo p)) []) ++ downTo p) (t := keepT 0 s.t ks) hk (fun w c l h => h.masked rfl _ (fun _ _ => rfl))
      refine ⟨⟨k1, fun q => (by cases q)⟩, fun w c a n' hr hf => ?_⟩
      obtain ⟨c1, r1, x1, v1, u1⟩ := k2 w c a hr (hf.R rfl)
      refine ⟨c1, r1, x1, ⟨fun q => (by cases q), fun q => (by cases q), fun q => (by cases q), fun _ => v1, fun _ i hi hv => ?_⟩⟩
      rcases u1 with rfl | u1
      · exact ⟨hv, rfl⟩
      · exact u1 i i (by rw [posN_geL hi]; exact posN_downTo hi) hv
section
variable {F : Fence} {n : Nat} {P : Program} {Q : Exit → Act → World → Prop} {b : Frame} {a : Act} {k : List Item} {cs : List Frame} {w : World}
theorem stepR_scope {c : Code} : step P (lone (b.atR a (.code (.scope c) :: k)) cs w) = .next (lone (b.atR a (.code c :: .inScope c :: k)) cs w) :=
  step_lone_go (by simp [stepG, stepG.exec, Frame.atR])
theorem stepR_inScope {c : Code} : step P (lone (b.atR a (.inScope c :: k)) cs w) = .next (lone (b.atR a k) cs w) :=
  step_lone_go (by simp [stepG, stepG.exec, Frame.atR])
theorem wpIn_scope {c : Code} (h : c.wpIn F n P (fun e a w => (∀ l, e ≠ .goto l) ∧ Q e a w) a w) : (Code.scope c).wpIn F n P Q a w := by
  intro b k cs hro hb hr
  have h0 : (lone (b.atR a (.code (.scope c) :: k)) cs w).fenced P F := fenced_calm hb hr rfl
  obtain ⟨e, a₁, w₁, ⟨hg, hq⟩, harr⟩ := h b (.inScope c :: k) cs hro hb hr
  cases e with
  | normal => exact ⟨.normal, a₁, w₁, hq, .head h0 stepR_scope (StepsIn.trans harr (.one (fenced_calm hb hr rfl) stepR_inScope))⟩
  | exit id =>
    have hx : exitTo id (.inScope c :: k) = exitTo id k := by simp [exitTo]
    exact ⟨.exit id, a₁, w₁, hq, fun k' hk => .head h0 stepR_scope (harr.1 k' (by rw [hx]; exact hk)),
      fun hr' hk => let ⟨k₁, h1, h2⟩ := harr.2 hr' (by rw [hx]; exact hk); ⟨k₁, h1, .head h0 stepR_scope h2⟩⟩
  | goto l => exact absurd rfl (hg l)
  | ret => exact ⟨_, a₁, w₁, hq, .of_steps (.one h0 stepR_scope) harr⟩
  | panic ch => exact ⟨_, a₁, w₁, hq, .of_steps (.one h0 stepR_scope) harr⟩
  | outgrown => exact ⟨_, a₁, w₁, hq, .of_steps (.one h0 stepR_scope) harr⟩
end
section
variable {P : Program} {ρ : Type} {root : Md}
theorem Keeps.refl {c : Cx} {n : Nat} (hf : Fresh root c n n) : Keeps root c c n n := ⟨fun _ => Nat.le_refl _, fun _ i hi => ⟨hi, rfl⟩, fun _ id hid => .inl hid, hf.R, fun _ i _ hi => ⟨hi, rfl⟩⟩
theorem COk.skip {round : Bool} : COk P root round .skip (fun (K : KC ρ) s => K .normal s) := fun K s r hk hK =>
  ⟨.normal, s, hK, HEffR.refl hk, fun hF hro w cx a hr hfr => wpIn_skip ⟨rfl, cx, hr, (Ext.refl w cx).w, Keeps.refl hfr⟩⟩
theorem COk.label {round : Bool} {l : Nat} : COk P root round (.label l) (fun (K : KC ρ) s => K .normal s) := fun K s r hk hK =>
  ⟨.normal, s, hK, HEffR.refl hk, fun hF hro w cx a hr hfr => wpIn_label ⟨rfl, cx, hr, (Ext.refl w cx).w, Keeps.refl hfr⟩⟩
theorem COk.exit {round : Bool} {id : Nat} : COk P root round (.exit id) (fun (K : KC ρ) s => K (.exit id) s) := fun K s r hk hK =>
  ⟨.exit id, s, hK, HEffR.refl hk, fun hF hro w cx a hr hfr => wpIn_exit ⟨rfl, cx, hr, (Ext.refl w cx).w, Keeps.refl hfr⟩⟩
theorem COk.ret {round : Bool} : COk P root round .ret (fun (K : KC ρ) s => K .ret s) := fun K s r hk hK =>
  ⟨.ret, s, hK, HEffR.refl hk, fun hF hro w cx a hr hfr => wpIn_ret ⟨rfl, cx, hr, (Ext.refl w cx).w, Keeps.refl hfr⟩⟩
theorem COk.seq {round : Bool} {x y : Code} {X Y : KC ρ → St → Option ρ} (hx : COk P root round x X) (hy : COk P root round y Y) (ks : Option (List Nat)) : COk P root round (.seq x y) (fun K s => X (thenK (fun s' => Y K (trimR root ks s')) K) s) := by
  intro K s r hk hK
  obtain ⟨e, s1, h1, h2, h3⟩ := hx _ s r hk hK
  cases e with
  | normal =>
    obtain ⟨t2, t5⟩ := trimR_ok (root := root) (ks := ks) h2.1
    obtain ⟨e', s2, k1, k2, k3⟩ := hy K (trimR root ks s1) r t2.1 h1
    refine ⟨e', s2, k1, h2.trans (t2.trans k2), fun hF hro w cx a hr hfr => ?_⟩
    refine wpIn_seq (wpIn_mono (h3 hF hro w cx a hr (hfr.less (t2.trans k2).le)) ?_)
    rintro e1 a1 w1 ⟨rfl, c1, r1, x1, v1⟩
    have f1 := hfr.onward v1
    obtain ⟨c2, r2, x2, v2⟩ := t5 w1 c1 a1 _ r1 f1
    refine wpIn_mono (k3 hF hro w1 c2 a1 r2 (f1.onward v2)) ?_
    rintro e2 a2 w2 ⟨rfl, hp⟩
    exact ⟨rfl, hp.trans (x1.trans x2) (v1.trans v2)⟩
  | exit i =>
    refine ⟨.exit i, s1, h1, h2, fun hF hro w cx a hr hfr => wpIn_seq (wpIn_mono (h3 hF hro w cx a hr hfr) ?_)⟩
    rintro e1 a1 w1 ⟨rfl, hp⟩
    exact ⟨rfl, hp⟩
  | ret =>
    refine ⟨.ret, s1, h1, h2, fun hF hro w cx a hr hfr => wpIn_seq (wpIn_mono (h3 hF hro w cx a hr hfr) ?_)⟩
    rintro e1 a1 w1 ⟨rfl, hp⟩
    exact ⟨rfl, hp⟩
  | pan y =>
    refine ⟨.pan y, s1, h1, h2, fun hF hro w cx a hr hfr => wpIn_seq (wpIn_mono (h3 hF hro w cx a hr hfr) ?_)⟩
    rintro e1 a1 w1 ⟨rfl, hp⟩
    exact ⟨rfl, hp⟩
theorem COk.cond {round : Bool} {c : Operand} {x y : Code} {X Y : KC ρ → St → Option ρ} (hx : COk P root round x X) (hy : COk P root round y Y) : COk P root round (.cond c x y) (fun K s => condV (ev s.t c) (X K s) (Y K s)) := by
  intro K s r hk hK
  replace hK : condV (ev s.t c) (X K s) (Y K s) = some r := hK
  unfold condV at hK
  split at hK
  · rename_i b hb
    cases b with
    | true =>
      obtain ⟨e, s', h1, h2, h3⟩ := hx K s r hk hK
      refine ⟨e, s', h1, h2, fun hF hro w cx a hr hfr => ?_⟩
      have hc := ev_sound hr.t c
      rw [hb] at hc
      exact wpIn_cond_true hc.val_inv (h3 hF hro w cx a hr hfr)
    | false =>
      obtain ⟨e, s', h1, h2, h3⟩ := hy K s r hk hK
      refine ⟨e, s', h1, h2, fun hF hro w cx a hr hfr => ?_⟩
      have hc := ev_sound hr.t c
      rw [hb] at hc
      exact wpIn_cond_false hc.val_inv (h3 hF hro w cx a hr hfr)
  · cases hK
theorem COk.scope {round : Bool} {x : Code} {X : KC ρ → St → Option ρ} (hx : COk P root round x X) : COk P root round (.scope x) (fun K s => X K s) := by
  intro K s r hk hK
  obtain ⟨e, s', h1, h2, h3⟩ := hx _ s r hk hK
  refine ⟨e, s', h1, h2, fun hF hro w cx a hr hfr => wpIn_scope (wpIn_mono (h3 hF hro w cx a hr hfr) ?_)⟩
  rintro e1 a1 w1 ⟨rfl, hp⟩
  refine ⟨?_, rfl, hp⟩
  intro l
  cases e <;> simp [exitOf]
theorem COk.block {round : Bool} {id : Nat} {x : Code} {X : KC ρ → St → Option ρ} (hx : COk P root round x X) : COk P root round (.block id x) (fun K s => X (blockK id K) s) := by
  intro K s r hk hK
  obtain ⟨e, s', h1, h2, h3⟩ := hx _ s r hk hK
  cases e with
  | normal =>
    refine ⟨.normal, s', h1, h2, fun hF hro w cx a hr hfr => wpIn_block (wpIn_mono (h3 hF hro w cx a hr hfr) ?_)⟩
    rintro e1 a1 w1 ⟨rfl, hp⟩
    exact ⟨rfl, hp⟩
  | ret =>
    refine ⟨.ret, s', h1, h2, fun hF hro w cx a hr hfr => wpIn_block (wpIn_mono (h3 hF hro w cx a hr hfr) ?_)⟩
    rintro e1 a1 w1 ⟨rfl, hp⟩
    exact ⟨rfl, hp⟩
  | pan y =>
    refine ⟨.pan y, s', h1, h2, fun hF hro w cx a hr hfr => wpIn_block (wpIn_mono (h3 hF hro w cx a hr hfr) ?_)⟩
    rintro e1 a1 w1 ⟨rfl, hp⟩
    exact ⟨rfl, hp⟩
  | exit i =>
    have h1' : (bif Nat.beq i id then K .normal s' else K (.exit i) s') = some r := h1
    cases hb : Nat.beq i id with
    | true =>
      rw [hb] at h1'
      refine ⟨.normal, s', h1', h2, fun hF hro w cx a hr hfr => wpIn_block (wpIn_mono (h3 hF hro w cx a hr hfr) ?_)⟩
      rintro e1 a1 w1 ⟨rfl, hp⟩
      show (if i = id then _ else _)
      rw [if_pos (beq_iff.1 hb)]
      exact ⟨rfl, hp⟩
    | false =>
      rw [hb] at h1'
      refine ⟨.exit i, s', h1', h2, fun hF hro w cx a hr hfr => wpIn_block (wpIn_mono (h3 hF hro w cx a hr hfr) ?_)⟩
      rintro e1 a1 w1 ⟨rfl, hp⟩
      show (if i = id then _ else _)
      rw [if_neg (fun q => by rw [beqT q] at hb; cases hb)]
      exact ⟨rfl, hp⟩
theorem COk.loop {round : Bool} {x : Code} {X : KC ρ → St → Option ρ} (hx : COk P root round x X) (ks : Option (List Nat)) (n : Nat) : COk P root round (.loop x) (fun K s => loopK (trimR root ks) X K n (trimR root ks s)) := by
  have key : ∀ n (K : KC ρ) (s : St) (r : ρ), s.h.ok → loopK (trimR root ks) X K n s = some r → ∃ e s', K e s' = some r ∧ HEffR root s.h s'.h ∧ ∀ {F : Fence} (hF : FOk F) (hro : round = false → F.round = none) (w : World) (cx : Cx) (a : Act), StRel w cx s a → Fresh root cx s.h.next s'.h.next →
      LoopWp F P x (fun e' a' w' => e' = exitOf e ∧ PostC root w cx s.h.next s' a' w') n a w := by
    intro n
    induction n with
    | zero => intro K s r hk hK; cases hK
    | succ n ih =>
      intro K s r hk hK
      have hK' : X (fun e s' => match e with | .normal => loopK (trimR root ks) X K n (trimR root ks s') | e => K e s') s = some r := hK
      obtain ⟨e, s1, h1, h2, h3⟩ := hx _ s r hk hK'
      cases e with
      | normal =>
        obtain ⟨t2, t5⟩ := trimR_ok (root := root) (ks := ks) h2.1
        obtain ⟨e', s2, k1, k2, k3⟩ := ih K (trimR root ks s1) r t2.1 h1
        refine ⟨e', s2, k1, h2.trans (t2.trans k2), fun hF hro w cx a hr hfr => ?_⟩
        refine wpIn_mono (h3 hF hro w cx a hr (hfr.less (t2.trans k2).le)) ?_
        rintro e1 a1 w1 ⟨rfl, c1, r1, x1, v1⟩
        have f1 := hfr.onward v1
        obtain ⟨c2, r2, x2, v2⟩ := t5 w1 c1 a1 _ r1 f1
        refine LoopWp.mono ?_ n a1 w1 (k3 hF hro w1 c2 a1 r2 (f1.onward v2))
        rintro e2 a2 w2 ⟨rfl, hp⟩
        exact ⟨rfl, hp.trans (x1.trans x2) (v1.trans v2)⟩
      | exit i =>
        refine ⟨.exit i, s1, h1, h2, fun hF hro w cx a hr hfr => wpIn_mono (h3 hF hro w cx a hr hfr) ?_⟩
        rintro e1 a1 w1 ⟨rfl, hp⟩
        exact ⟨rfl, hp⟩
      | ret =>
        refine ⟨.ret, s1, h1, h2, fun hF hro w cx a hr hfr => wpIn_mono (h3 hF hro w cx a hr hfr) ?_⟩
        rintro e1 a1 w1 ⟨rfl, hp⟩
        exact ⟨rfl, hp⟩
      | pan y =>
        refine ⟨.pan y, s1, h1, h2, fun hF hro w cx a hr hfr => wpIn_mono (h3 hF hro w cx a hr hfr) ?_⟩
        rintro e1 a1 w1 ⟨rfl, hp⟩
        exact ⟨rfl, hp⟩
  intro K s r hk hK
  obtain ⟨t2, t5⟩ := trimR_ok (root := root) (ks := ks) hk
  obtain ⟨e, s', h1, h2, h3⟩ := key n K (trimR root ks s) r t2.1 hK
  refine ⟨e, s', h1, t2.trans h2, fun hF hro w cx a hr hfr => ?_⟩
  obtain ⟨c2, r2, x2, v2⟩ := t5 w cx a _ hr hfr
  refine wpIn_loop_n ⟨n, LoopWp.mono ?_ n a w (h3 hF hro w c2 a r2 (hfr.onward v2))⟩
  rintro e2 a2 w2 ⟨rfl, hp⟩
  exact ⟨rfl, hp.trans x2 v2⟩
theorem COk.region {call : Calling} (hc : CallOk P call) {env : Env} (he : EnvOk P env) (hmix : P.follows .mixedOrders = true) {round : Bool} {id : Nat} {ops : Array Oper} {draw : Bool} : COk P root round (.region id ops draw) (fun (K : KC ρ) s => regionK env call ops draw K s) := by
  intro K s r hk hK
  rcases region_sound hc he hmix hk hK with ⟨t', h', k1, k2, k3, k4, k5⟩ | ⟨x, t', h', k1, k2, k3, k4, k5⟩
  · refine ⟨.normal, ⟨t', s.d, h'⟩, k1, k4.r _, fun hF hro w cx a hr hfr => wpIn_mono (k5 hF id w cx a hr.t hr.h hfr.region) ?_⟩
    rintro e a' w' ⟨rfl, hd, c', q1, q2, q3, q4⟩
    exact ⟨rfl, c', ⟨q1, q4, by rw [hd, hr.d, marks_ids q2.ids hr.dv], fun i hi => (q2.ids i (hr.dv i hi)).1⟩, q2.w, Keeps.region hfr k3 q2 q3⟩
  · refine ⟨.pan x, ⟨t', s.d, h'⟩, k1, k4.r _, fun hF hro w cx a hr hfr => wpIn_mono (k5 hF id w cx a hr.t hr.h hfr.region) ?_⟩
    rintro e a' w' ⟨rfl, hd, c', q1, q2, q3, q4⟩
    exact ⟨rfl, c', ⟨q1, q4, by rw [hd, hr.d, marks_ids q2.ids hr.dv], fun i hi => (q2.ids i (hr.dv i hi)).1⟩, q2.w, Keeps.region hfr k3 q2 q3⟩
end
end Go.Ev
/- Ranges over functions; all code. -/
namespace Go.Ev
theorem Ext.putObj {w : World} {c : Cx} (hd : ∀ b, c.M b → ¬ c.O b) {r : Nat} (ho : c.O r) (o : Obj) : Ext w c (w.putObj r o) c := by
  refine ⟨⟨fun _ q => q, fun k _ hm => World.putObj_heap_other (fun h => hd k hm (h ▸ ho)), fun i hi => ⟨hi, rfl⟩⟩, rfl, rfl, rfl, by simp, ?_, fun _ _ h => h, fun _ _ q => q, fun _ q q' => absurd q q'⟩
  intro k hk hn
  exact World.putObj_heap_other (fun h => hn (h ▸ ho))
theorem HR.setObj {w : World} {c : Cx} {G G' : Nat → Option Blk} (hr : HR w c G) {id : Nat} {b0 : Blk} (hG : G id = some b0) (hl : (c.ι id).live = true) {o : Obj}
    (hG' : ∀ i b, i ≠ id → G' i = some b → G i = some b) (hb : ∀ b, G' id = some b → BlkRel (w.putObj (c.ι id).blk o) c (c.ι id) b) : HR (w.putObj (c.ι id).blk o) c G' := by
  have ho := (hr.blk id _ hG).owned hl
  refine HR.patch (fun i => i = id) hr (Ext.putObj (fun b hb => (hr.dis b hb).1) ho o) ?_ ?_ ?_
  · intro i b hi hne
    have hi' := hG' i b hne hi
    refine ⟨hi', fun hli => ?_⟩
    exact ⟨World.putObj_heap_other (fun q => hne (hr.inj i id _ _ hi' hG hli hl q)), (hr.blk i b hi').owned hli⟩
  · rintro i b hi rfl
    exact ⟨hr.valid i _ hG, hb b hi⟩
  · rintro i j b1 b2 hi hj rfl li lj hbk
    by_cases hij : j = i
    · exact hij.symm
    · exact hr.inj i j _ _ hG (hG' j b2 hij hj) li lj hbk
theorem G_of_find {h : Heap} {id : Nat} {e : Ent} (he : findE h.es id = some e) : h.G id = some e.blk := by simp [Heap.G, he]
theorem G_del {h : Heap} (hk : h.ok) (id i : Nat) : (h.del id).G i = if id = i then none else h.G i := by
  simp only [Heap.G, Heap.del, findE_delE _ hk.uniq]
  split <;> rfl
theorem codeAX_some {j : Option Code} {e : AX} (h : codeAX j = some e) : (j = none ∧ e = .normal) ∨ (∃ id, j = some (.exit id) ∧ e = .exit id) ∨ (j = some .ret ∧ e = .ret) := by
  unfold codeAX at h
  split at h
  · injection h with h; exact .inl ⟨rfl, h.symm⟩
  · injection h with h; exact .inr (.inl ⟨_, rfl, h.symm⟩)
  · injection h with h; exact .inr (.inr ⟨rfl, h.symm⟩)
  · cases h
theorem HEff.add {h : Heap} (hk : h.ok) (b : Blk) : HEff h (h.add b) := (Eff.add hk b []).heff
theorem HEff.del {h : Heap} (hk : h.ok) (id : Nat) : HEff h (h.del id) := by
  refine ⟨Nat.le_refl _, Heap.ok_del hk id, ?_⟩
  intro i e he _
  simp only [Heap.del, findE_delE _ hk.uniq] at he
  split at he
  · cases he
  · exact ⟨e, he, Nat.le_refl _, fun _ => rfl⟩
section
variable {P : Program} {ρ : Type} {root : Md}
theorem COk.rangeFunc {call : Calling} (hc : CallOk P call) {s0 round : Bool} {g : Operand} {ps : Array Tmp} {assign body : Code} :
    COk P root round (.rangeFunc g ps assign body) (fun (K : KC ρ) s => bif round then none else rangeK s0 call (ev s.t g) ps assign body K s) := by
  intro K s r hk hK
  cases round with
  | true => cases hK
  | false =>
  replace hK : rangeK s0 call (ev s.t g) ps assign body K s = some r := hK
  unfold rangeK at hK
  cases hfc : funcClo (ev s.t g) with
  | false => rw [hfc] at hK; cases hK
  | true =>
  rw [hfc] at hK
  simp only [Bool.not_true, cond_false] at hK
  obtain ⟨n, hn⟩ : ∃ n, n = s.h.next := ⟨_, rfl⟩
  have hk1 : (s.h.add .defd).ok := Heap.ok_add hk _
  have hk2 := Heap.ok_add hk1 (.loop .ready none s.t ps.toList assign body s.h.next)
  obtain ⟨v, h2, Rd, Wr, hK, heff, hreal0⟩ := callOp_sound hc hk2 hK
  have hnp : ∀ x, v ≠ .pan x := by rintro x rfl; cases hK
  replace hK : rangeEnd (s.h.next + 1) K ⟨s.t, s.h.next :: s.d, h2⟩ = some r := by
    unfold panK at hK
    split at hK
    · cases hK
    · exact hK
  have hreal : ∀ (w : World) (c : Cx) (f' : Value) (args' : List Value) (G : Nat → Option Blk), VR w c (ev s.t g) f' → VRs w c [.clo (.yield (s.h.next + 1)) [] []] args' → Pre w c ((s.h.add .defd).add (.loop .ready none s.t ps.toList assign body s.h.next)) h2 Rd Wr G →
      ∃ d nx, (Deferred.ofValue f' args'.toArray).run P w = .ok d w ∧ (invoke d.target d.args).run P w = .ok nx w ∧ (funcClo (ev s.t g) = true → ∃ g xs, nx = .enter g xs) ∧ Goes P nx w (fun v' w' => ∃ c', VR w' c' v v' ∧ Ext w c w' c' ∧
        (∀ id, c'.V id → c.V id ∨ (((s.h.add .defd).add (.loop .ready none s.t ps.toList assign body s.h.next)).next ≤ id ∧ id < h2.next)) ∧ ∀ G', Patch G ((s.h.add .defd).add (.loop .ready none s.t ps.toList assign body s.h.next)) h2 Wr G' → HR w' c' G') := by
    intro w c f' args' G a1 a2 a3
    obtain ⟨d, nx, g1, g2, g3, g4⟩ := hreal0 w c f' args' G a1 a2 a3
    refine ⟨d, nx, g1, g2, g3, GoesE.goes g4 (fun e w' ⟨c', z1, z2⟩ => ?_)⟩
    obtain ⟨v', z3, z4⟩ := z1.ret hnp
    exact ⟨v', z3, c', z4, z2⟩
  have he1 : HEff s.h h2 := ((HEff.add hk _).trans (HEff.add hk1 _)).trans heff.heff
  have hnx : s.h.next + 2 ≤ h2.next := heff.next
  -- the end
  unfold rangeEnd at hK
  cases hfe : findE h2.es (s.h.next + 1) with
  | none => rw [hfe] at hK; cases hK
  | some ent =>
  obtain ⟨eid, ever, eblk⟩ := ent
  rw [hfe] at hK
  cases eblk with
  | cells k => cases hK
  | map _ _ => cases hK
  | iter _ _ => cases hK
  | defd => cases hK
  | loop st pend t' ps' as' bd' df' =>
  have hst : st ≠ .busy ∧ ∃ e, codeAX pend = some e ∧ K e ⟨s.t, s.h.next :: s.d, h2.del (s.h.next + 1)⟩ = some r := by
    cases st <;> first
      | (cases hK; done)
      | (refine ⟨by simp, ?_⟩
         simp only at hK
         cases hcx : codeAX pend with
         | none => rw [hcx] at hK; cases hK
         | some e => rw [hcx] at hK; exact ⟨e, rfl, hK⟩)
  obtain ⟨hst, e, hcx, hKe⟩ := hst
  refine ⟨e, _, hKe, (he1.trans (HEff.del heff.ok _)).r _, ?_⟩
  intro F hF hro w cx a hr hfr
  have hround : F.round = none := hro rfl
  have hfr0 := hfr
  replace hfr : ∀ id, s.h.next ≤ id → id < h2.next → ¬ cx.V id := hfr0.region
  apply wpIn_rangeFunc
  intro fn hfn
  -- the two blocks
  have hnv : ¬ cx.V s.h.next := hfr _ (Nat.le_refl _) (by show s.h.next < h2.next; omega)
  have hnv1 : ¬ cx.V (s.h.next + 1) := hfr _ (by omega) (by show s.h.next + 1 < h2.next; omega)
  obtain ⟨w1, hw1⟩ : ∃ w1, w1 = w.alloc (.deferred (some [])) := ⟨_, rfl⟩
  obtain ⟨rec, hrec⟩ : ∃ rec : Loop, rec = { state := .ready, pending := none, fn, tmps := a.tmps, params := ps, assign, body, defers := w.heap.size } := ⟨_, rfl⟩
  obtain ⟨w2, hw2⟩ : ∃ w2, w2 = w1.alloc (.loop rec) := ⟨_, rfl⟩
  have hm1 : OneMore w w1 (.deferred (some [])) := by rw [hw1]; exact OneMore.alloc _ _
  have hm2 : OneMore w1 w2 (.loop rec) := by rw [hw2]; exact OneMore.alloc _ _
  have hsz1 : w1.heap.size = w.heap.size + 1 := by rw [hw1]; simp
  let rb1 : RB := ⟨true, w.heap.size, 0, 0, 0⟩
  let rb2 : RB := ⟨true, w1.heap.size, 0, 0, 0⟩
  let c1 := cx.add s.h.next rb1
  let c2 := c1.add (s.h.next + 1) rb2
  have hx1 : Ext w cx w1 c1 := Ext.oneMore hm1 hnv rfl
  have hnv2 : ¬ c1.V (s.h.next + 1) := by
    rintro (q | q)
    · exact hnv1 q
    · omega
  have hx2 : Ext w1 c1 w2 c2 := Ext.oneMore hm2 hnv2 rfl
  have hx12 := hx1.trans hx2
  have hr1 : HR w1 c1 (s.h.add .defd).G := by
    refine HR.oneMore hr.h hm1 hnv rfl (b := .defd) (fun i hi => ?_) (G_add _) ⟨rfl, .inr rfl, hm1.get⟩
    left
    simp [Heap.G, Heap.add, findE_cons, Ne.symm hi]
  have hr2 : HR w2 c2 ((s.h.add .defd).add (.loop .ready none s.t ps.toList assign body s.h.next)).G := by
    refine HR.oneMore hr1 hm2 hnv2 rfl (b := .loop .ready none s.t ps.toList assign body s.h.next) (fun i hi => ?_) ?_ ?_
    · left
      have : (s.h.add .defd).next = s.h.next + 1 := rfl
      simp [Heap.G, Heap.add, findE_cons, Ne.symm hi]
    · exact G_add (h := s.h.add .defd) _
    · refine ⟨rfl, .inr rfl, ⟨rec, hm2.get, by rw [hrec], by rw [hrec], ?_, by rw [hrec], by rw [hrec], by rw [hrec], ?_⟩, .inl (.inr rfl)⟩
      · rw [hrec]; exact VRs.mono hx12.toExt0 hr.t
      · rw [hrec]
        show w.heap.size = (c2.ι s.h.next).blk
        have e1 : c2.ι s.h.next = c1.ι s.h.next := by simp [c2, Cx.add]
        rw [e1]
        simp [c1, Cx.add, rb1]
  -- the call
  have hyield : VR w2 c2 (.clo (.yield (s.h.next + 1)) [] []) (.func (.yield w1.heap.size) #[] #[]) := by
    have := VR.clo (W := w2) (c := c2) (.yield (s.h.next + 1)) [] [] [] [] (.inr rfl) .nil .nil
    have e1 : renFn c2 (.yield (s.h.next + 1)) = .yield w1.heap.size := by simp [renFn, c2, Cx.add, rb2]
    rw [e1] at this
    exact this
  have hgv : VR w2 c2 (ev s.t g) (a.eval g) := VR.mono hx12.toExt0 (ev_sound hr.t g)
  obtain ⟨d, nx, g1, g2, g3, g4⟩ := hreal w2 c2 (a.eval g) [.func (.yield w1.heap.size) #[] #[]] _ hgv (.cons _ _ _ _ hyield .nil) ⟨hr2, fun _ _ => rfl, fun id q1 q2 q3 => by
    have q1' : s.h.next + 2 ≤ id := q1
    rcases q3 with (q | q) | q
    · exact hfr id (by omega) q2 q
    · omega
    · omega⟩
  obtain ⟨f, xs, rfl⟩ := g3 hfc
  refine ⟨w1.heap.size, [{ target := .collected w.heap.size, args := #[] }], w2, d, w2, f, xs, w2, ?_, ?_, fun f' _ => hF.fn f', g2, fun q => absurd q hF.depth, ?_⟩
  · rw [hround, run_enterLoop_outer, hsz1, hw2, hw1, hrec]
  · have e3 : resolve a.eval (rangeCall g w1.heap.size) 0 = Deferred.ofValue (a.eval g) (#[.const (.func (.yield w1.heap.size) #[] #[])].map a.eval) := rfl
    have e4 : (#[Operand.const (.func (.yield w1.heap.size) #[] #[])] : Array Operand).map a.eval = #[.func (.yield w1.heap.size) #[] #[]] := by simp [Act.eval]
    rw [e3, e4]
    exact g1
  · refine CallsIn.mono (hF.calls g4) ?_
    rintro en w3 ⟨v', rfl, c3, y1, y2, y3, y4⟩
    have hr3 := y4 _ (Patch.full hk2 heff)
    have hG3 : h2.G (s.h.next + 1) = some (.loop st pend t' ps' as' bd' df') := G_of_find hfe
    have hb3 : LoopRel w3 c3 (c3.ι (s.h.next + 1)) st pend t' ps' as' bd' df' := hr3.blk _ _ hG3
    have hi3 : c3.ι (s.h.next + 1) = rb2 := by
      rw [(y2.ids (s.h.next + 1) (.inr rfl)).2]
      simp [c2, Cx.add]
    have hi0 : c3.ι s.h.next = rb1 := by
      rw [(y2.ids s.h.next (.inl (.inr rfl))).2]
      have e1 : c2.ι s.h.next = c1.ι s.h.next := by simp [c2, Cx.add]
      rw [e1]
      simp [c1, Cx.add]
    obtain ⟨rec', r1, r2, r3, _⟩ := hb3.obj
    rw [hi3] at r1
    have hend := run_endLoop (P := P) r1 (by rw [r2]; exact hst)
    have hl3 : (c3.ι (s.h.next + 1)).live = true := by rw [hi3]
    have hown := hb3.own
    rw [hi3] at hown
    have hx4 : Ext w3 c3 (w3.putObj rb2.blk (.loop { rec' with state := .exhausted })) c3 := Ext.putObj (fun b hb => (hr3.dis b hb).1) hown _
    have hr4 : HR (w3.putObj rb2.blk (.loop { rec' with state := .exhausted })) c3 (h2.del (s.h.next + 1)).G := by
      have := HR.setObj hr3 hG3 hl3 (o := .loop { rec' with state := .exhausted }) (G' := (h2.del (s.h.next + 1)).G) (fun i b hi hb => by
          rw [G_del heff.ok] at hb
          rw [if_neg (Ne.symm hi)] at hb
          exact hb) (fun b hb => by
          rw [G_del heff.ok, if_pos rfl] at hb
          cases hb)
      rw [hi3] at this
      exact this
    have hxAll := (hx12.trans y2).trans hx4
    have hpost : PostC root w cx s.h.next ⟨s.t, s.h.next :: s.d, h2.del (s.h.next + 1)⟩ { a with defers := [{ target := .collected w.heap.size, args := #[] }] ++ a.defers } (w3.putObj rb2.blk (.loop { rec' with state := .exhausted })) := by
      refine ⟨c3, ⟨VRs.mono hxAll.toExt0 hr.t, hr4, ?_, ?_⟩, hxAll.w, Keeps.region hfr0 (Nat.le_trans (Nat.le_add_right _ 2) hnx) hxAll ?_⟩
      · show [_] ++ a.defers = marks c3 (s.h.next :: s.d)
        have : marks c3 s.d = marks cx s.d := marks_ids hxAll.ids hr.dv
        simp only [marks, List.map_cons] at this ⊢
        rw [this, hi0, hr.d]
        rfl
      · intro id hid
        rcases List.mem_cons.1 hid with q | q
        · subst q; exact (y2.ids _ (.inl (.inr rfl))).1
        · exact (hxAll.ids id (hr.dv id q)).1
      · intro id hid
        show cx.V id ∨ (s.h.next ≤ id ∧ id < h2.next)
        rcases y3 id hid with ((q | q) | q) | q
        · exact .inl q
        · exact .inr ⟨by omega, by omega⟩
        · exact .inr ⟨by omega, by omega⟩
        · have q1 : s.h.next + 2 ≤ id := q.1
          exact .inr ⟨by omega, q.2⟩
    generalize w3.putObj rb2.blk (.loop { rec' with state := .exhausted }) = w4 at hpost hend
    refine ⟨rec'.pending, w4, hend, ?_⟩
    rw [r3]
    rcases codeAX_some hcx with ⟨rfl, rfl⟩ | ⟨id, rfl, rfl⟩ | ⟨rfl, rfl⟩
    · exact ⟨rfl, hpost⟩
    · exact wpIn_exit ⟨rfl, hpost⟩
    · exact wpIn_ret ⟨rfl, hpost⟩
theorem code_sound {call : Calling} (hc : CallOk P call) {env : Env} (he : EnvOk P env) (hmix : P.follows .mixedOrders = true) (kp : Nat → Option (List Nat)) (root : Md) (round : Bool) (c : Code) : COk P root round c (fun (K : KC ρ) s => codeK env call kp root round c K s) := by
  induction c with
  | skip => exact COk.skip
  | region id ops draw => exact COk.region hc he hmix
  | seq a b iha ihb => exact COk.seq iha ihb _
  | cond c a b iha ihb => exact COk.cond iha ihb
  | block id c ih => exact COk.block ih
  | loop c ih => exact COk.loop ih _ _
  | rangeFunc f ps assign body _ _ => exact COk.rangeFunc hc
  | exit id => exact COk.exit
  | scope c ih => exact COk.scope ih
  | label l => exact COk.label
  | goto l => intro K s r hk hK; cases hK
  | ret => exact COk.ret
  | refuse why => intro K s r hk hK; cases hK
end
end Go.Ev
/- Functions, rounds, calls: the law. -/
namespace Go.Ev
def SumC (P : Program) (g : Nat) (A : AFun) : Prop := (∃ fn c, P.funcs[g]? = some fn ∧ fn.name ≠ "runtime.NumGoroutine" ∧ fn.body = some c) ∧
  ∀ (ρ : Type) (args : List AV) (h : Heap) (K : AV → Heap → Option ρ) (r : ρ), h.ok → A ρ args h K = some r → ∃ v h', K v h' = some r ∧ HEff h h' ∧ ∀ (w : World) (c : Cx) (args' : List Value), HR w c h.G → VRs w c args args' → (∀ id, h.next ≤ id → id < h'.next → ¬ c.V id) →
    CallsIn Fence.wide 0 P g args'.toArray w (PostE w c h h' v)
structure EnvOk2 (P : Program) (env : Env) : Prop where
  ok : EnvOk P env
  mix : P.follows .mixedOrders = true
  fn : ∀ g fn, env.fn.get g = some fn → P.funcs[g]? = some fn ∧ fn.name ≠ "runtime.NumGoroutine"
  sum : ∀ g A, env.sum g = some A → SumC P g A
theorem ExtW.ext {w w' : World} {c c' : Cx} {n n' : Nat} (h : ExtW ⟨false, 0, false⟩ w c w' c') (k : Keeps ⟨false, 0, false⟩ c c' n n') : Ext w c w' c' := ⟨⟨h.M, h.mkeep, k.ids rfl⟩, h.os, h.tape, h.output, h.size, h.keep, h.own, fun b hb q => (h.Mo b hb q).elim id (fun r => by cases r.1), h.nd⟩
theorem Fresh.of {c : Cx} {n n' : Nat} (h : ∀ id, n ≤ id → id < n' → ¬ c.V id) : Fresh ⟨false, 0, false⟩ c n n' := ⟨fun _ => h, fun q => by cases q⟩
def PostF (root : Md) (w : World) (c : Cx) (h h' : Heap) (v : AV) : Value → World → Prop := fun v' w' =>
  ∃ c', VR w' c' v v' ∧ ExtW root w c w' c' ∧ Keeps root c c' h.next h'.next ∧ HR w' c' h'.G
def PostFE (root : Md) (w : World) (c : Cx) (h h' : Heap) (v : AV) : Ending → World → Prop := fun e w' =>
  ∃ c', EndIs w' c' v e ∧ ExtW root w c w' c' ∧ Keeps root c c' h.next h'.next ∧ HR w' c' h'.G
theorem PostFE.post {w : World} {c : Cx} {h h' : Heap} {v : AV} {e : Ending} {w' : World} (p : PostFE ⟨false, 0, false⟩ w c h h' v e w') : PostE w c h h' v e w' := by
  obtain ⟨c', k1, k2, k3, k4⟩ := p
  exact ⟨c', k1, k2.ext k3, k3.V rfl, k4⟩
theorem HEff.put {h : Heap} (hk : h.ok) (id : Nat) (b : Blk) : HEff h (h.put id b) := by
  refine ⟨Nat.le_refl _, Heap.ok_put hk id b, ?_⟩
  intro i e he _
  simp only [Heap.put, findE_putE] at he
  split at he
  · rename_i hi
    subst hi
    cases hf : findE h.es id with
    | none => rw [hf] at he; cases he
    | some e0 =>
      rw [hf] at he
      simp only [Option.map_some, Option.some.injEq] at he
      refine ⟨e0, rfl, by rw [← he]; simp, fun q => ?_⟩
      rw [← he] at q
      simp at q
  · exact ⟨e, he, Nat.le_refl _, fun _ => rfl⟩
theorem G_put' {h : Heap} {id : Nat} {e : Ent} (he : findE h.es id = some e) (b : Blk) (i : Nat) : (h.put id b).G i = if id = i then some b else h.G i := by
  simp only [Heap.G, Heap.put, findE_putE]
  split
  · simp [he]
  · rfl
section
variable {P : Program} {env : Env}
theorem isDefd_some {h : Heap} {d : Nat} (hd : isDefd h d = true) : h.G d = some .defd := by
  unfold isDefd at hd
  split at hd
  · rename_i a b he; simp [Heap.G, he]
  · cases hd
theorem closeMarks_sound {fn : Func} {tmps : Array Value} {R : Ending → World → Prop} : ∀ (ds : List Nat) (h h' : Heap), h.ok → closeMarks h ds = some h' → HEff h h' ∧ h'.next = h.next ∧ ∀ (w : World) (c : Cx), HR w c h.G → (∀ id ∈ ds, c.V id) →
    ∃ w', Ext w c w' c ∧ HR w' c h'.G ∧ (LeavesIn Fence.wide 0 P fn tmps R [] .returning w' → LeavesInM Fence.wide 0 P fn tmps R (marks c ds) .returning w)
  | [], h, h', hk, hc => by
    simp only [closeMarks, Option.some.injEq] at hc
    subst hc
    exact ⟨HEff.refl hk, rfl, fun w c hr _ => ⟨w, Ext.refl w c, hr, fun q => q⟩⟩
  | d :: ds, h, h', hk, hc => by
    unfold closeMarks at hc
    cases hd : isDefd h d with
    | false => rw [hd] at hc; cases hc
    | true =>
      rw [hd, cond_true] at hc
      have hk' := Heap.ok_del hk d
      obtain ⟨k1, k2, k3⟩ := closeMarks_sound ds (h.del d) h' hk' hc
      refine ⟨(HEff.del hk d).trans k1, k2, ?_⟩
      intro w c hr hv
      have hG := isDefd_some hd
      obtain ⟨hl, ho, hobj⟩ : BlkRel w c (c.ι d) .defd := hr.blk d _ hG
      have hx := Ext.putObj (w := w) (fun b hb => (hr.dis b hb).1) ho (.deferred none)
      have hr1 : HR (w.putObj (c.ι d).blk (.deferred none)) c (h.del d).G := by
        refine HR.setObj hr hG hl (fun i b hi hb => ?_) (fun b hb => ?_)
        · rw [G_del hk, if_neg (Ne.symm hi)] at hb; exact hb
        · rw [G_del hk, if_pos rfl] at hb; cases hb
      obtain ⟨w', x1, x2, x3⟩ := k3 _ c hr1 (fun id hid => hv id (by simp [hid]))
      refine ⟨w', hx.trans x1, x2, fun q => ?_⟩
      refine ⟨by simp, .inl ⟨(c.ι d).blk, _, rfl, run_takeDeferred hobj, x3 q⟩⟩
noncomputable def resF (tmps : Array Value) : ResultVar → Sem Value
  | .tmp t => pure (tmps.getD t undef)
  | .cell a t => do loadVar t (← asAddr (tmps.getD a undef))
theorem results_eq (fn : Func) (tmps : Array Value) : results fn tmps = (do let vs ← fn.results.mapM (resF tmps); pure (if h : vs.size = 1 then vs[0] else .tuple vs)) := by
  unfold results
  congr 2
variable (he : EnvOk P env)
include he
theorem loadRes_sound {t : List AV} {h : Heap} {rv : ResultVar} {v : AV} (hl : loadRes env t h rv = some v) {w : World} {c : Cx} {tmps : Array Value} (ht : VRs w c t tmps.toList) (hr : HR w c h.G) :
    ∃ v', (resF tmps rv).run P w = .ok v' w ∧ VR w c v v' := by
  unfold loadRes at hl
  split at hl
  · rename_i i
    injection hl with hl
    subst hl
    exact ⟨_, rfl, getT_sound ht i⟩
  · rename_i a ty
    split at hl
    · rename_i i id row col hi hp
      split at hl
      · rename_i con hcon
        have hsz : i.agg = false → 0 < i.size := by
          intro hg
          have hz := (he.ty ty i hi)
          have h1 := hz.zsize
          have h2 := hz.znz hg
          omega
        cases hfl : isFlat con col i.size with
        | true =>
          rw [hfl, cond_true] at hl
          have hwd := isFlat_iff hfl
          cases hg : Nat.ble (row + col + i.size) con.len with
          | false => rw [hg] at hl; cases hl
          | true =>
          rw [hg, cond_true] at hl
          have g1 := Nat.le_of_ble_eq_true hg
          have hv := getT_sound ht a
          rw [hp] at hv
          generalize hx' : tmps.getD a undef = x' at hv
          cases hv with | ptr _ _ _ k1 k2 =>
          have hb : CellsRel w c (c.ι id) con := hr.blk id _ (con_some hcon)
          have hrb : (c.ι id).wd = 1 := by rw [← hb.wd]; exact hwd
          obtain ⟨v', h5, h6⟩ := loadVar_sound he hi (col := 0) (wd := i.size) (own_flat hb hwd g1) hl (by omega) hsz
          rw [hrb, Nat.mul_one] at hx'
          have e1 : (c.ι id).st + (row + col) + 0 = (c.ι id).st + row + col := by omega
          rw [e1] at h5
          exact ⟨v', by simp only [resF, Sem.run_bind, hx', asAddr, Sem.run_pure, Result.andThen_ok, h5], h6⟩
        | false =>
        rw [hfl, cond_false] at hl
        cases hg : (Nat.blt row con.len && Nat.ble (col + i.size) con.wd) with
        | false => rw [hg] at hl; cases hl
        | true =>
          rw [hg, cond_true] at hl
          rw [Bool.and_eq_true] at hg
          have g1 := blt_iff.1 hg.1
          have g2 := Nat.le_of_ble_eq_true hg.2
          have hv := getT_sound ht a
          rw [hp] at hv
          generalize hx' : tmps.getD a undef = x' at hv
          cases hv with | ptr _ _ _ k1 k2 =>
          have hb : CellsRel w c (c.ι id) con := hr.blk id _ (con_some hcon)
          obtain ⟨v', h5, h6⟩ := loadVar_sound he hi (col := col) (wd := con.wd) (own_row hb g1) hl g2 hsz
          exact ⟨v', by simp only [resF, Sem.run_bind, hx', asAddr, Sem.run_pure, Result.andThen_ok, h5], h6⟩
      · cases hl
    · cases hl
theorem loadAll_sound {t : List AV} {h : Heap} {w : World} {c : Cx} {tmps : Array Value} (ht : VRs w c t tmps.toList) (hr : HR w c h.G) : ∀ (rs : List ResultVar) (l : List AV), loadAll env t h rs = some l →
    ∃ vs, (rs.mapM (resF tmps)).run P w = .ok vs w ∧ VRs w c l vs
  | [], l, hl => by
    simp only [loadAll, Option.some.injEq] at hl
    subst hl
    exact ⟨[], rfl, .nil⟩
  | rv :: rs, l, hl => by
    unfold loadAll at hl
    split at hl
    · rename_i v l' h1 h2
      injection hl with hl
      subst hl
      obtain ⟨v', k1, k2⟩ := loadRes_sound he h1 ht hr
      obtain ⟨vs, k3, k4⟩ := loadAll_sound ht hr rs l' h2
      refine ⟨v' :: vs, ?_, .cons _ _ _ _ k2 k4⟩
      rw [List.mapM_cons]
      simp only [Sem.run_bind]
      rw [k1]
      simp only [Result.andThen_ok, k3, Sem.run_pure]
    · cases hl
theorem results_sound {fn : Func} {t : List AV} {h : Heap} {w : World} {c : Cx} {tmps : Array Value} (ht : VRs w c t tmps.toList) (hr : HR w c h.G) {l : List AV} (hl : loadAll env t h fn.results.toList = some l) :
    ∃ v', (results fn tmps).run P w = .ok v' w ∧ VR w c (oneOrTup l) v' := by
  obtain ⟨vs, h1, h2⟩ := loadAll_sound he ht hr _ _ hl
  refine ⟨if h : vs.toArray.size = 1 then vs.toArray[0] else .tuple vs.toArray, ?_, ?_⟩
  · rw [results_eq]
    obtain ⟨rs, hrs⟩ : ∃ rs, rs = fn.results.toList := ⟨_, rfl⟩
    have e : fn.results = rs.toArray := by rw [hrs]
    rw [← hrs] at h1
    rw [e, List.mapM_toArray]
    simp only [Sem.run_bind, Sem.run_map]
    rw [h1]
    rfl
  · cases h2 with
    | nil => exact .tup [] [] .nil
    | cons v v' l l' k1 k2 =>
      cases k2 with
      | nil => exact k1
      | cons u u' l l' k3 k4 =>
        have : ¬ ((v' :: u' :: l').toArray.size = 1) := by simp
        rw [dif_neg this]
        exact .tup _ _ (.cons _ _ _ _ k1 (.cons _ _ _ _ k3 k4))
end
section
variable {P : Program} {env : Env} (he : EnvOk2 P env) {call : Calling} (hc : CallOk P call)
include he hc
theorem enter_sound {ρ : Type} {g : Nat} {args : List AV} {h : Heap} {K : AV → Heap → Option ρ} {r : ρ} (hk : h.ok) {root : Md} (hK : enterK env call root g args h K = some r) :
    (∃ fn c, P.funcs[g]? = some fn ∧ fn.name ≠ "runtime.NumGoroutine" ∧ fn.body = some c) ∧ ∃ v h', K v h' = some r ∧ HEffR root h h' ∧ ∀ (w : World) (c : Cx) (args' : List Value), HR w c h.G → VRs w c args args' → Fresh root c h.next h'.next →
      CallsIn Fence.wide 0 P g args'.toArray w (PostFE root w c h h' v) := by
  unfold enterK at hK
  split at hK
  · rename_i fn hfn
    obtain ⟨f1, f2⟩ := he.fn g fn hfn
    split at hK
    · rename_i c hb
      refine ⟨⟨fn, c, f1, f2, hb⟩, ?_⟩
      rw [sSp_eq] at hK
      obtain ⟨e, s', h1, h2, h3⟩ := code_sound hc he.ok he.mix (env.keep g) root false c _ _ r hk hK
      have hst : ∀ (w : World) (cx : Cx) (args' : List Value), HR w cx h.G → VRs w cx args args' → StRel w cx ⟨startT fn args, [], h⟩ { tmps := args'.toArray ++ Array.replicate (fn.ntmps - args'.toArray.size) undef, defers := [] } := by
        intro w cx args' hr hv
        refine ⟨?_, hr, rfl, by simp⟩
        show VRs w cx (args ++ List.replicate (fn.ntmps - args.length) undefA) _
        have : (args'.toArray ++ Array.replicate (fn.ntmps - args'.toArray.size) undef).toList = args' ++ List.replicate (fn.ntmps - args.length) undef := by
          simp [hv.length]
        rw [this]
        exact hv.append (VRs.replicate _ (.val _))
      by_cases hpan : ∃ x, e = .pan x
      · obtain ⟨x, rfl⟩ := hpan
        replace h1 : panE K x s' = some r := h1
        unfold panE at h1
        split at h1
        · rename_i hd
          refine ⟨.pan x, s'.h, h1, h2, fun w cx args' hr hv hfr => ?_⟩
          apply callsIn_of_wp_marks f1 hb trivial
          refine wpIn_mono (h3 (.inl rfl) (fun _ => rfl) w cx _ (hst w cx args' hr hv) hfr) ?_
          rintro e1 a1 w1 ⟨rfl, c1, r1, x1, v1⟩
          have hd1 : a1.defers = [] := by rw [r1.d, hd]; rfl
          show LeavesInM Fence.wide 0 P fn a1.tmps _ a1.defers (.panicking (chainOf x)) w1
          rw [hd1]
          exact ⟨c1, .inl ⟨x, rfl, rfl⟩, x1, v1, r1.h⟩
        · cases h1
      have hl : leaveK env fn K s' = some r ∧ ∀ id, e ≠ .exit id := by
        cases e with
        | normal => exact ⟨h1, by simp⟩
        | exit id => cases h1
        | ret => exact ⟨h1, by simp⟩
        | pan x => exact absurd ⟨x, rfl⟩ hpan
      obtain ⟨hl, hne⟩ := hl
      unfold leaveK at hl
      split at hl
      · rename_i h' hcm
        unfold leaveH at hl
        split at hl
        · rename_i l hla
          rw [sAV_eq] at hl
          obtain ⟨m1, m2, _⟩ := closeMarks_sound (P := P) (fn := fn) (tmps := #[]) (R := fun _ _ => True) s'.d s'.h h' h2.1 hcm
          refine ⟨_, h', hl, h2.trans (m1.r _), ?_⟩
          intro w cx args' hr hv hfr
          apply callsIn_of_wp_marks f1 hb trivial
          have hx := h3 (.inl rfl) (fun _ => rfl) w cx _ (hst w cx args' hr hv) (by rw [m2] at hfr; exact hfr)
          refine wpIn_mono hx ?_
          rintro e1 a1 w1 ⟨rfl, c1, r1, x1, v1⟩
          have fin : LeavesInM Fence.wide 0 P fn a1.tmps (PostFE root w cx h h' (oneOrTup l)) a1.defers .returning w1 := by
            obtain ⟨_, _, m3⟩ := closeMarks_sound (P := P) (fn := fn) (tmps := a1.tmps) (R := PostFE root w cx h h' (oneOrTup l)) s'.d s'.h h' h2.1 hcm
            obtain ⟨w', y1, y2, y3⟩ := m3 w1 c1 r1.h r1.dv
            rw [r1.d]
            apply y3
            obtain ⟨v', z1, z2⟩ := results_sound he.ok (fn := fn) (VRs.mono y1.toExt0 r1.t) y2 hla
            refine ⟨v', z1, c1, .inr ⟨v', rfl, z2⟩, x1.trans y1.w, ?_, y2⟩
            rw [m2]; exact v1
          cases e with
          | normal => exact fin
          | exit id => exact absurd rfl (hne id)
          | ret => exact fin
          | pan x => exact absurd ⟨x, rfl⟩ hpan
        · cases hl
      · cases hl
    · cases hK
  · cases hK
theorem setArgs_rel {w : World} {c : Cx} : ∀ (ps : List Tmp) (args : List AV) (args' : List Value) (t : List AV) (t' : Array Value), VRs w c args args' → VRs w c t t'.toList →
    VRs w c (setArgs ps args t) (((ps.zip args').foldl (fun tmps (t, a) => tmps.setIfInBounds t a) t').toList)
  | [], args, args', t, t', _, ht => by simpa [setArgs] using ht
  | p :: ps, [], args', t, t', ha, ht => by cases ha; simpa [setArgs] using ht
  | p :: ps, v :: vs, args', t, t', ha, ht => by
    cases ha with | cons _ v' _ vs' h1 h2 =>
    simp only [setArgs, List.zip_cons_cons, List.foldl_cons]
    refine setArgs_rel ps vs vs' _ _ h2 ?_
    rw [setL_eq]
    simpa using ht.set p h1
theorem round_sound {ρ : Type} {l : Nat} {args : List AV} {h : Heap} {K : AV → Heap → Option ρ} {r : ρ} (hk : h.ok) (hK : roundK env call l args h K = some r) :
    ∃ v h', K v h' = some r ∧ HEff h h' ∧ ∀ (w : World) (c : Cx) (args' : List Value), HR w c h.G → VRs w c args args' → (∀ id, h.next ≤ id → id < h'.next → ¬ c.V id) →
      ∃ nx, (Instr.yield (c.ι l).blk args'.toArray).run P w = .ok nx w ∧ Goes P nx w (Post w c h h' v) := by
  unfold roundK at hK
  split at hK
  · rename_i eid ever st pend t ps assign body df hfe
    cases hb : Nat.beq ps.length args.length with
    | false => rw [hb] at hK; cases hK
    | true =>
      have hlen := beq_iff.1 hb
      rw [hb, cond_true] at hK
      obtain ⟨e, s1, h1, h2, h3⟩ := code_sound hc he.ok he.mix noKeep ⟨false, 0, false⟩ true assign _ _ r hk hK
      cases e with
      | exit id => cases h1
      | ret => cases h1
      | pan x => cases h1
      | normal =>
      replace h1 : roundBody env call l body K s1 = some r := h1
      unfold roundBody at h1
      split at h1
      · rename_i eid1 ever1 pend1 t1 ps1 as1 bd1 df1 hfe1
        have hkp := Heap.ok_put h2.1 l (.loop .busy pend1 t1 ps1 as1 bd1 df1)
        obtain ⟨e2, s2, k1, k2, k3⟩ := code_sound hc he.ok he.mix noKeep ⟨false, 0, false⟩ true body _ _ r hkp h1
        unfold roundEnd at k1
        cases hpx : isPanX e2 with
        | true => rw [hpx] at k1; cases k1
        | false =>
        rw [hpx, cond_false] at k1
        split at k1
        · rename_i eid2 ever2 pend2 t2 ps2 as2 bd2 df2 hfe2
          have heff : HEff h (s2.h.put l (.loop (if (axCode e2).isNone then .ready else .done) (axCode e2) t2 ps2 as2 bd2 df2)) :=
            (h2.2 rfl).trans ((HEff.put h2.1 l _).trans ((k2.2 rfl).trans (HEff.put k2.1 l _)))
          refine ⟨_, _, k1, heff, ?_⟩
          intro w c args' hr hv hfr
          have n1 : h.next ≤ s1.h.next := (h2.2 rfl).next
          have n2 : s1.h.next ≤ s2.h.next := (k2.2 rfl).next
          have hfr' : ∀ id, h.next ≤ id → id < s2.h.next → ¬ c.V id := hfr
          have hG := G_of_find hfe
          obtain ⟨hl, ho, ⟨rec, r1, r2, r3, r4, r5, r6, r7, r8⟩, hdv⟩ : LoopRel w c (c.ι l) st pend t ps assign body df := hr.blk l _ hG
          have hcl : c.V l := hr.valid l _ hG
          refine ⟨_, run_yield r1 (by rw [← r5] at hlen; simp at hlen ⊢; rw [hv.length]; exact hlen.symm), ?_⟩
          show RoundIn Fence.wide 0 P (c.ι l).blk rec.fn _ rec.assign rec.body w _
          apply roundIn_of_wpIn trivial
          rw [r6, r7]
          have hst : StRel w c ⟨setArgs ps args t, [], h⟩ { tmps := (rec.params.zip args'.toArray).foldl (fun tmps (t, a) => tmps.setIfInBounds t a) rec.tmps, defers := [] } := by
            refine ⟨?_, hr, rfl, by simp⟩
            have := setArgs_rel he hc ps args args' t rec.tmps hv r4
            rw [← r5] at this
            have e1 : (rec.params.zip args'.toArray).foldl (fun tmps (t, a) => tmps.setIfInBounds t a) rec.tmps = (rec.params.toList.zip args').foldl (fun tmps (t, a) => tmps.setIfInBounds t a) rec.tmps := by
              rw [← Array.foldl_toList]
              simp
            rw [e1, ← r5]
            exact this
          refine wpIn_mono (h3 (.inr ⟨_, rfl⟩) (by simp) w c _ hst (Fresh.of (fun id q1 q2 => hfr' id q1 (Nat.lt_of_lt_of_le q2 n2)))) ?_
          rintro e1 a1 w1 ⟨rfl, c1, g1, y1, u1⟩
          have x1 := y1.ext u1
          have v1 := u1.V rfl
          -- the round begins
          have hi1 : c1.ι l = c.ι l := (x1.ids l hcl).2
          have hG1 := G_of_find hfe1
          obtain ⟨hl1, ho1, ⟨rec1, p1, p2, p3, p4, p5, p6, p7, p8⟩, hdv1⟩ : LoopRel w1 c1 (c1.ι l) .ready pend1 t1 ps1 as1 bd1 df1 := g1.h.blk l _ hG1
          have hbeg := run_beginRound (P := P) p1 p2
          rw [hi1] at hbeg
          refine ⟨_, hbeg, ?_⟩
          have hsz1 : (c1.ι l).blk < w1.heap.size := (g1.h.blk l _ hG1).lt hl1
          have hx1' : Ext w1 c1 (w1.putObj (c1.ι l).blk (.loop { rec1 with state := .busy })) c1 := Ext.putObj (fun b hb => (g1.h.dis b hb).1) ho1 _
          have hr1 : HR (w1.putObj (c1.ι l).blk (.loop { rec1 with state := .busy })) c1 (s1.h.put l (.loop .busy pend1 t1 ps1 as1 bd1 df1)).G := by
            refine HR.setObj g1.h hG1 hl1 (fun i b hi hb => ?_) (fun b hb => ?_)
            · rw [G_put' hfe1, if_neg (Ne.symm hi)] at hb; exact hb
            · rw [G_put' hfe1, if_pos rfl] at hb
              injection hb with hb
              subst hb
              exact ⟨hl1, ho1, ⟨_, World.putObj_heap_same hsz1, rfl, p3, VRs.mono hx1'.toExt0 p4, p5, p6, p7, p8⟩, hdv1⟩
          rw [hi1] at hx1' hr1
          have hst2 : StRel (w1.putObj (c.ι l).blk (.loop { rec1 with state := .busy })) c1 ⟨s1.t, s1.d, s1.h.put l (.loop .busy pend1 t1 ps1 as1 bd1 df1)⟩ a1 := ⟨VRs.mono hx1'.toExt0 g1.t, hr1, g1.d, g1.dv⟩
          have hbody := k3 (F := Fence.wide.inRound (c.ι l).blk) (.inr ⟨_, rfl⟩) (by simp) _ c1 a1 hst2 (Fresh.of fun id q1 q2 q3 => by
            have q1' : s1.h.next ≤ id := q1
            rcases v1 id q3 with z | z
            · exact hfr' id (by omega) q2 z
            · have z2 : id < s1.h.next := z.2
              omega)
          refine wpIn_mono hbody ?_
          rintro e3 a3 w3 ⟨rfl, c3, g3, y3, u3⟩
          have x3 := y3.ext u3
          have v3 := u3.V rfl
          have hi3 : c3.ι l = c.ι l := by rw [(x3.ids l (x1.ids l hcl).1).2, hi1]
          have hG3 := G_of_find hfe2
          obtain ⟨hl3, ho3, ⟨rec3, u1, u2, u3, u4, u5, u6, u7, u8⟩, hdv3⟩ : LoopRel w3 c3 (c3.ι l) .busy pend2 t2 ps2 as2 bd2 df2 := g3.h.blk l _ hG3
          have hsz3 : (c3.ι l).blk < w3.heap.size := (g3.h.blk l _ hG3).lt hl3
          have fin : ∀ j : Option Code, j = axCode e2 → ∃ v w', (Instr.endRound (c.ι l).blk j).run P w3 = .ok v w' ∧ ∃ v', Ending.returned v = .returned v' ∧ Post w c h (s2.h.put l (.loop (if (axCode e2).isNone then .ready else .done) (axCode e2) t2 ps2 as2 bd2 df2)) (.val (.bool (axCode e2).isNone)) v' w' := by
            rintro j rfl
            have hend := run_endRound (P := P) (axCode e2) u1
            rw [hi3] at hend
            refine ⟨_, _, hend, _, rfl, c3, .val _, ?_, ?_, ?_⟩
            · refine ((x1.trans hx1').trans x3).trans ?_
              rw [hi3] at ho3
              exact Ext.putObj (fun b hb => (g3.h.dis b hb).1) ho3 _
            · intro id hid
              show c.V id ∨ (h.next ≤ id ∧ id < s2.h.next)
              rcases v3 id hid with q | q
              · rcases v1 id q with z | z
                · exact .inl z
                · have z1 : h.next ≤ id := z.1
                  have z2 : id < s1.h.next := z.2
                  exact .inr ⟨z1, by omega⟩
              · have q1 : s1.h.next ≤ id := q.1
                exact .inr ⟨by omega, q.2⟩
            · have hx4 : Ext w3 c3 (w3.putObj (c3.ι l).blk (.loop { rec3 with state := if (axCode e2).isNone then .ready else .done, pending := axCode e2 })) c3 := Ext.putObj (fun b hb => (g3.h.dis b hb).1) ho3 _
              have := HR.setObj g3.h hG3 hl3 (o := .loop { rec3 with state := if (axCode e2).isNone then .ready else .done, pending := axCode e2 }) (G' := (s2.h.put l (.loop (if (axCode e2).isNone then .ready else .done) (axCode e2) t2 ps2 as2 bd2 df2)).G) (fun i b hi hb => by
                  rw [G_put' hfe2, if_neg (Ne.symm hi)] at hb; exact hb) (fun b hb => by
                  rw [G_put' hfe2, if_pos rfl] at hb
                  injection hb with hb
                  subst hb
                  exact ⟨hl3, ho3, ⟨_, World.putObj_heap_same hsz3, rfl, rfl, VRs.mono hx4.toExt0 u4, u5, u6, u7, u8⟩, hdv3⟩)
              rw [hi3] at this
              exact this
          cases e2 with
          | normal => exact fin none rfl
          | exit id => exact fin (some (.exit id)) rfl
          | ret => exact fin (some .ret) rfl
          | pan x => cases hpx
        · cases k1
      · cases h1
  · cases hK
theorem callStep_sound : CallOk P (callStep env call) := by
  intro ρ f args h K r hk hK
  have hfun : ∀ (g : Nat) (first cap : List AV) {v : AV} {h' : Heap}, f = .clo (.func g) first cap → (∃ fn c, P.funcs[g]? = some fn ∧ fn.name ≠ "runtime.NumGoroutine" ∧ fn.body = some c) →
      (∀ (w : World) (c : Cx) (args' : List Value), HR w c h.G → VRs w c (first ++ args ++ cap) args' → (∀ id, h.next ≤ id → id < h'.next → ¬ c.V id) → CallsIn Fence.wide 0 P g args'.toArray w (PostE w c h h' v)) →
      ∀ (w : World) (c : Cx) (f' : Value) (args' : List Value), HR w c h.G → VR w c f f' → VRs w c args args' → (∀ id, h.next ≤ id → id < h'.next → ¬ c.V id) →
      ∃ d nx, (Deferred.ofValue f' args'.toArray).run P w = .ok d w ∧ (invoke d.target d.args).run P w = .ok nx w ∧ (funcClo f = true → ∃ g xs, nx = .enter g xs) ∧ GoesE P nx w (PostE w c h h' v) := by
    intro g first cap v h' hf ⟨fn, body, f1, f2, f3⟩ hcall w c f' args' hr hfv hav hfr
    subst hf
    cases hfv with | clo _ _ _ x' y' k1 k2 k3 =>
    refine ⟨_, .enter g (x'.toArray ++ args'.toArray ++ y'.toArray), rfl, ?_, fun _ => ⟨_, _, rfl⟩, ?_⟩
    · have hn : (fn.name == "runtime.NumGoroutine") = false := by simpa using f2
      simp [invoke, renFn, callFunc, f1, f2, f3, Sem.run]
    · have := hcall w c (x' ++ args' ++ y') hr ((k2.append hav).append k3) hfr
      show CallsIn Fence.wide 0 P g (x'.toArray ++ args'.toArray ++ y'.toArray) w _
      have e : (x' ++ args' ++ y').toArray = x'.toArray ++ args'.toArray ++ y'.toArray := by simp
      rw [← e]
      exact this
  unfold callStep at hK
  split at hK
  · rename_i g first cap
    split at hK
    · rename_i A hA
      obtain ⟨s1, s2⟩ := he.sum g A hA
      obtain ⟨v, h', k1, k2, k3⟩ := s2 ρ (first ++ args ++ cap) h K r hk hK
      exact ⟨v, h', k1, k2, hfun g first cap rfl s1 k3⟩
    · obtain ⟨s1, v, h', k1, k2, k3⟩ := enter_sound he hc hk hK
      exact ⟨v, h', k1, k2.2 rfl, hfun g first cap rfl s1 (fun w c args' hr hv hfr => CallsIn.mono (k3 w c args' hr hv (Fresh.of hfr)) (fun e w' q => q.post))⟩
  · rename_i l cap
    obtain ⟨v, h', k1, k2, k3⟩ := round_sound he hc hk hK
    refine ⟨v, h', k1, k2, ?_⟩
    intro w c f' args' hr hfv hav hfr
    cases hfv with | clo _ _ _ x' y' q1 q2 q3 =>
    cases q2
    obtain ⟨nx, g1, g2⟩ := k3 w c args' hr hav hfr
    refine ⟨_, nx, rfl, ?_, fun q => by simp [funcClo] at q, GoesE.mono g2.e (fun e w' q => Post.e q)⟩
    have e : (#[] : Array Value) ++ args'.toArray = args'.toArray := by simp
    show (Instr.yield (c.ι l).blk (#[] ++ args'.toArray)).run P w = .ok nx w
    rw [e]
    exact g1
  · cases hK
end
theorem callF_sound {P : Program} {env : Env} (he : EnvOk2 P env) : ∀ d, CallOk P (callF env d)
  | 0 => by intro ρ f args h K r hk hK; cases hK
  | d + 1 => callStep_sound he (callF_sound he d)
end Go.Ev
/- Facts of a program's tables, for the evaluator's tables. -/
namespace Go.Ev
inductive AllO {α : Type} (p : Nat → α → Prop) : Nat → List (Option α) → Prop where
  | nil (k : Nat) : AllO p k []
  | none {k : Nat} {l : List (Option α)} : AllO p (k + 1) l → AllO p k (none :: l)
  | some {k : Nat} {x : α} {l : List (Option α)} : p k x → AllO p (k + 1) l → AllO p k (some x :: l)
inductive AllR {α : Type} (p : Nat → α → Prop) : Nat → List (List (Option α)) → Prop where
  | nil (k : Nat) : AllR p k []
  | cons {k : Nat} {r : List (Option α)} {l : List (List (Option α))} : AllO p (16 * k) r → AllR p (k + 1) l → AllR p k (r :: l)
theorem AllO.get {α : Type} {p : Nat → α → Prop} {k : Nat} {l : List (Option α)} (h : AllO p k l) : ∀ (i : Nat) (x : α), joinO (nth l i) = Option.some x → p (k + i) x := by
  induction h with
  | nil k => intro i x hx; simp [nth_eq, joinO] at hx
  | none h ih =>
    rename_i k l
    intro i x hx
    cases i with
    | zero => simp [nth_eq, joinO] at hx
    | succ i =>
      have := ih i x (by simpa [nth_eq] using hx)
      rwa [show k + (i + 1) = k + 1 + i by omega]
  | some hp h ih =>
    rename_i k y l
    intro i x hx
    cases i with
    | zero =>
      simp [nth_eq, joinO] at hx
      subst hx
      exact hp
    | succ i =>
      have := ih i x (by simpa [nth_eq] using hx)
      rwa [show k + (i + 1) = k + 1 + i by omega]
theorem AllR.get {α : Type} {p : Nat → α → Prop} {k : Nat} {l : List (List (Option α))} (h : AllR p k l) : ∀ (r i : Nat) (x : α), joinO (nth (nthD [] l r) i) = some x → p (16 * (k + r) + i) x := by
  induction h with
  | nil k => intro r i x hx; simp [nthD_eq, nth_eq, joinO] at hx
  | cons ho h ih =>
    rename_i k row l
    intro r i x hx
    cases r with
    | zero =>
      simp [nthD_eq] at hx
      exact ho.get i x hx
    | succ r =>
      have := ih r i x (by simpa [nthD_eq] using hx)
      rwa [show k + (r + 1) = k + 1 + r by omega]
theorem Tri.get_all {α : Type} {p : Nat → α → Prop} {t : Tri α} (h : AllR p 0 t.rows) : ∀ k x, t.get k = some x → p k x := by
  intro k x hx
  have := h.get (Nat.div k 16) (Nat.mod k 16) x hx
  rw [Nat.zero_add, show 16 * Nat.div k 16 + Nat.mod k 16 = k from Nat.div_add_mod k 16] at this
  exact this
def isAggV : Value → Bool
  | .agg _ => true
  | _ => false
def tyCheck (n : Nat) (i : TI) : Bool :=
  Nat.beq i.zero.cells.size i.size && (i.zero.cells.toList.all (fun v => v.oneCell') && ((bif i.agg then isAggV i.zero else Nat.blt 0 i.zero.cells.size) &&
    (match i.desc with | .struct fs => fs.toList.all (fun f => Nat.blt f.type n) | _ => true)))
theorem TyOk.of_check {P : Program} {t n : Nat} {i : TI} {ti : TypeInfo} (h1 : P.types[t]? = some ti) (hz : ti.zero = some i.zero) (hs : ti.size = i.size) (hb : ti.bytes = i.bytes) (hu : P.underlying t = some i.desc) (hn : P.types.size = n) (hc : tyCheck n i = true) : TyOk P t i := by
  unfold tyCheck at hc
  simp only [Bool.and_eq_true] at hc
  obtain ⟨c1, c2, c3, c4⟩ := hc
  have hinfo : ∀ k, k < P.types.size → P.info? k = P.types[k]? := fun k hk => by unfold Tables.info?; rw [if_pos hk]
  have ht : t < P.types.size := (Array.getElem?_eq_some_iff.1 h1).1
  refine ⟨⟨ti, by rw [hinfo t ht]; exact h1, hz, hs, hb⟩, hu, beq_iff.1 c1, fun v hv => List.all_eq_true.1 c2 v hv, ?_, ?_, ?_⟩
  · intro ha
    rw [ha] at c3
    unfold isAggV at c3
    cases hzz : i.zero with
    | agg cs => exact ⟨cs, rfl⟩
    | _ => rw [hzz] at c3; cases c3
  · intro ha
    rw [ha] at c3
    exact blt_iff.1 c3
  · intro fs hd f hf
    rw [hd] at c4
    have := blt_iff.1 (List.all_eq_true.1 c4 f hf)
    rw [hinfo _ (by omega), Array.getElem?_eq_getElem (by omega)]
    rfl
def kindOk (P : Program) (t : TypeId) (z : Value) : Prop := (∃ k k' n, P.underlying t = some (.int k) ∧ z = .int k' n) ∨ (∃ b, P.underlying t = some .bool ∧ z = .bool b) ∨ (∃ s, P.underlying t = some .string ∧ z = .string s)
theorem part_flat {P : Program} {t : TypeId} {z : Value} (hk : kindOk P t z) (cs : Array Value) (off : Nat) (v : Value) (hv : cs[off]? = some v) (w : World) : (Go.part t cs off).run P w = .ok v w := by
  rcases hk with ⟨k, k', n, h, _⟩ | ⟨b, h, _⟩ | ⟨s, h, _⟩ <;> simp [Go.part, isAgg, run_underlying h, hv]
theorem eqFields_flat {P : Program} {w : World} {c : Cx} {xs ys : Array Value} {d : Nat} : ∀ (fs : List Field) (zs : List Value) (x y : List AV) (x' y' : List Value) (o : Nat) (b : Bool),
    (∀ (j : Nat) (f : Field), fs[j]? = some f → f.offset = o + j ∧ (f.name == "_") = false ∧ ∃ z, zs[j]? = some z ∧ kindOk P f.type z) → fs.length = zs.length → cellsEq zs x y = some b → VRs w c x x' → VRs w c y y' →
    (∀ j v, x'[j]? = some v → xs[o + j]? = some v) → (∀ j v, y'[j]? = some v → ys[o + j]? = some v) → (Op.eqFields (d + 1) xs ys fs).run P w = .ok b w
  | [], [], x, y, x', y', o, b, hf, hl, hc, hx, hy, h1, h2 => by
    cases x <;> cases y <;> simp [cellsEq] at hc
    subst hc
    simp [Op.eqFields]
  | [], _ :: _, _, _, _, _, _, _, _, hl, _, _, _, _, _ => by simp at hl
  | _ :: _, [], _, _, _, _, _, _, _, hl, _, _, _, _, _ => by simp at hl
  | f :: fs, z :: zs, x, y, x', y', o, b, hf, hl, hc, hx, hy, h1, h2 => by
    cases x with
    | nil => simp [cellsEq] at hc
    | cons a x =>
      cases y with
      | nil => simp [cellsEq] at hc
      | cons e y =>
        cases hx with | cons _ a' _ x' ha hx =>
        cases hy with | cons _ e' _ y' hE hy =>
        simp only [cellsEq] at hc
        split at hc
        · rename_i p q hp hq
          injection hc with hc
          subst hc
          obtain ⟨f1, f2, z', f3, f4⟩ := hf 0 f (by simp)
          simp at f3
          subst f3
          have e1 := part_flat f4 xs f.offset a' (by rw [f1]; exact h1 0 a' (by simp)) w
          have e2 := part_flat f4 ys f.offset e' (by rw [f1]; exact h2 0 e' (by simp)) w
          have e3 : (Op.equalIn (d + 1) f.type a' e').run P w = .ok p w := by
            unfold cellEq at hp
            split at hp
            · rename_i k n k1 u k2 v
              cases hd : (decide (k1 = k) && decide (k2 = k)) with
              | false => rw [hd] at hp; cases hp
              | true =>
                rw [hd] at hp
                simp only [cond_true, Option.some.injEq] at hp
                simp only [Bool.and_eq_true, decide_eq_true_eq] at hd
                obtain ⟨rfl, rfl⟩ := hd
                have := ha.val_inv
                have := hE.val_inv
                subst a'; subst e'
                rcases f4 with ⟨k, k', n, h, _⟩ | ⟨b, h, hz⟩ | ⟨s, h, hz⟩
                · simp [Op.equalIn, run_underlying h, hp]
                · cases hz
                · cases hz
            · injection hp with hp
              have := ha.val_inv
              have := hE.val_inv
              subst a'; subst e'
              rcases f4 with ⟨k, k', n, h, hz⟩ | ⟨b, h, hz⟩ | ⟨s, h, hz⟩
              · cases hz
              · simp [Op.equalIn, run_underlying h, hp]
              · cases hz
            · injection hp with hp
              have := ha.val_inv
              have := hE.val_inv
              subst a'; subst e'
              rcases f4 with ⟨k, k', n, h, hz⟩ | ⟨b, h, hz⟩ | ⟨s, h, hz⟩
              · cases hz
              · cases hz
              · simp [Op.equalIn, run_underlying h, hp]
            · cases hp
          have ih := eqFields_flat (P := P) (w := w) (c := c) (xs := xs) (ys := ys) (d := d) fs zs x y x' y' (o + 1) q (fun j g hg => by
              obtain ⟨g1, g2, g3⟩ := hf (j + 1) g (by simpa using hg)
              refine ⟨by rw [g1]; omega, g2, ?_⟩
              simpa using g3) (by simpa using hl) hq hx hy (fun j v hv => by
              have := h1 (j + 1) v (by simpa using hv)
              rwa [show o + (j + 1) = o + 1 + j by omega] at this) (fun j v hv => by
              have := h2 (j + 1) v (by simpa using hv)
              rwa [show o + (j + 1) = o + 1 + j by omega] at this)
          have hn' : f.name ≠ "_" := by simpa using f2
          rw [Op.eqFields]
          simp only [if_pos hn', Sem.run_bind, e1, e2, e3, Result.andThen_ok]
          cases p
          · simp
          · simpa using ih
        · cases hc
theorem eq_flat {P : Program} {t : TypeId} {i : TI} {fs : Array Field} (hu : P.underlying t = some (.struct fs)) (hp : P.stoodInHeld t = false) (hg : P.eqGuardType P.depth t = false)
    (hf : ∀ (j : Nat) (f : Field), fs.toList[j]? = some f → f.offset = j ∧ (f.name == "_") = false ∧ ∃ z, i.zero.cells.toList[j]? = some z ∧ kindOk P f.type z) (hl : fs.toList.length = i.zero.cells.toList.length) :
    ∀ (w : World) (c : Cx) (x y : List AV) (x' y' : List Value) (b : Bool), cellsEq i.zero.cells.toList x y = some b → VRs w c x x' → VRs w c y y' →
      (Op.equal t (.agg x'.toArray) (.agg y'.toArray)).run P w = .ok b w ∧ P.eqGuardType P.depth t = false := by
  intro w c x y x' y' b hc hx hy
  refine ⟨?_, hg⟩
  have hff : P.fieldsOf t = fs := by simp [Program.fieldsOf, hu]
  show (Op.equalIn 10000 t _ _).run P w = _
  rw [run_equalIn_struct (P := P) w 9999 t x'.toArray y'.toArray (by rw [hff]; exact hu) hp, hff]
  exact eqFields_flat (d := 9998) fs.toList i.zero.cells.toList x y x' y' 0 b (fun j f hj => by simpa using hf j f hj) hl hc hx hy (fun j v hv => by simpa using hv) (fun j v hv => by simpa using hv)
end Go.Ev
