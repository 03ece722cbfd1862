/- The evaluator, its soundness and the walks: part 8. -/
import Derived.Test.YtemblfgjamapbaaC7
set_option linter.unusedSectionVars false
set_option linter.unusedSimpArgs false
set_option linter.unusedVariables false
set_option maxRecDepth 100000
set_option maxRecDepth 1000000
noncomputable section
/- Stacks, as blocks of a caller's. -/
namespace Go.Ev
open Go.Proofs
def isAH (a : List AV) (h : Heap) (a0 : List AV) (h0 : Heap) : Bool := @decide (a = a0 ∧ h = h0) (Classical.propDecidable _)
def skA (S : Nat → List UwE) : AV := .agg [.ro (UE.con (S 0)) none, .ro (UE.con (S 1)) none, .ro (UE.con (S 2)) none, .ro (UE.con (S 3)) none, .ro (UE.con (S 4)) none, .ro (UE.con (S 5)) none, .ro (UE.con (S 6)) none, .ro (UE.con (S 7)) none]
structure Evt where
  k : Int
  th : Int
  pc : Int
  a : Int
  b : Int
  n : Int
def evL (e : Evt) : List AV := [.val (.int .i64 e.k), .val (.int .i64 e.th), .val (.int .u32 e.pc), .val (.int .u32 e.a), .val (.int .u32 e.b), .val (.int .i64 e.n)]
def ow (i n : Nat) : AV := .own i 0 n none 5
def skEb (b : Nat) (S : Nat → List UwE) : List Ent := [⟨b + 7, 0, .cells (UE.con (S 7))⟩, ⟨b + 6, 0, .cells (UE.con (S 6))⟩, ⟨b + 5, 0, .cells (UE.con (S 5))⟩, ⟨b + 4, 0, .cells (UE.con (S 4))⟩, ⟨b + 3, 0, .cells (UE.con (S 3))⟩, ⟨b + 2, 0, .cells (UE.con (S 2))⟩, ⟨b + 1, 0, .cells (UE.con (S 1))⟩, ⟨b + 0, 0, .cells (UE.con (S 0))⟩]
def skRb (id : Nat) (R : List AV) : Ent := ⟨id, 0, .cells (.rows false 1 (flatRows R))⟩
def hB (S : Nat → List UwE) (R : List AV) (e : Evt) : List Ent := ⟨12, 0, .cells (.rows true 6 [evL e])⟩ :: skEb 4 S ++ [skRb 3 R, ⟨2, 0, .cells (.rows false 1 [[.ptr 3 0 0]])⟩, ⟨1, 0, .defd⟩]
def asg : Code → Code
  | .rangeFunc _ _ a _ => a
  | _ => .skip
def bdy : Code → Code
  | .rangeFunc _ _ _ b => b
  | _ => .skip
def opn : Code → Operand
  | .rangeFunc f _ _ _ => f
  | _ => .tmp 0
def prsA : Code → Array Tmp
  | .rangeFunc _ ps _ _ => ps
  | _ => #[]
theorem isAH_refl (a : List AV) (h : Heap) : isAH a h a h = true := @decide_eq_true _ (Classical.propDecidable _) ⟨rfl, rfl⟩
theorem isAH_eq {a a0 : List AV} {h h0 : Heap} (q : isAH a h a0 h0 = true) : a = a0 ∧ h = h0 := @of_decide_eq_true _ (Classical.propDecidable _) q
end Go.Ev
/- Stacks: what returns and handlers' ends remove; the walks from the top down. -/
namespace Go.Ev
open Go.Proofs
def seekR (l : List UwE) (a : Int) : Nat → Option (Option Nat)
  | 0 => none
  | k + 1 => bif (l.getD k UE.z).1 == 2 then some none else bif (l.getD k UE.z).2.2.2.1 == a then some (some k) else seekR l a k
def seekB (l : List UwE) : Nat → Option Nat
  | 0 => none
  | k + 1 => bif (l.getD k UE.z).1 == 2 then some k else seekB l k
def retN (l : List UwE) (a : Int) : Nat := match seekR l a l.length with
  | some (some k) => k
  | _ => l.length
def backN' (l : List UwE) : Nat := match seekB l l.length with
  | some k => k
  | none => l.length
theorem ids_lt : ∀ {es : List Ent} {n : Nat}, (∀ x ∈ es.map (·.id), x < n) → ∀ {id : Nat} {e : Ent}, findE es id = some e → id < n
  | [], n, _, id, e, h => by cases h
  | x :: es, n, hx, id, e, h => by
    rw [findE_cons] at h
    split at h
    · rename_i q
      have := hx x.id (by simp)
      rw [← q]; exact this
    · exact ids_lt (fun y hy => hx y (by rw [List.map_cons]; exact List.mem_cons_of_mem _ hy)) h
theorem heap_ok {n : Nat} {es : List Ent} (ids : List Nat) (hi : es.map (·.id) = ids) (h1 : ids.Nodup) (h2 : ∀ x ∈ ids, x < n) : (⟨n, es⟩ : Heap).ok :=
  ⟨by show (es.map (·.id)).Nodup; rw [hi]; exact h1, fun id e h => ids_lt (by rw [hi]; exact h2) h⟩
end Go.Ev
/- Blocks to which pointers lead are frozen; maps told otherwise. -/
namespace Go.Ev
structure FzTr (id : Nat) (con : Con) (w : World) (c c2 : Cx) : Prop where
  ext : Ext0 w c w c2
  rd : (c.ι id).live = true → RD w c2 con (c.ι id).blk (c.ι id).st
  wd : (c.ι id).live = true → (c.ι id).wd = con.wd
theorem RD.bare {w : World} {c : Cx} {k : Con} {b o : Nat} (h : RD w c k b o) : RD w c.none k b o := by
  cases h with | mk _ _ _ arr e fz g h1 h2 h3 h4 => exact .mk k b o arr e fz g h1 h2 h3 h4
theorem FzTr.ptr0 {id : Nat} {con : Con} {w : World} {c c2 : Cx} (t : FzTr id con w c c2) {r col : Nat} (hr : r < con.len) {u : Value} (h : VR w c (.ptr id r col) u) : VR w c2.none (.rptr con r col) u := by
  cases h with | ptr _ _ _ h1 h2 =>
  rw [t.wd h2]
  exact .rptr con r col _ _ hr (t.rd h2).bare
theorem FzTr.keep {id : Nat} {con : Con} {w : World} {c c2 : Cx} (t : FzTr id con w c c2) {v : AV} {u : Value} (h : VR w c v u) : VR w c2 v u := VR.mono t.ext h
theorem Weak.freezeG {s : St} (hk : s.h.ok) (id : Nat) (con : Con) (hid : s.h.G id = some (.cells con)) (hp : con.pureF = true) {t' : List AV} {h' : Heap} (hok : h'.ok) (hnx : s.h.next ≤ h'.next)
    (ht : ∀ w c c2 us, FzTr id con w c c2 → VRs w c s.t us → VRs w c2 t' us)
    (hG : ∀ j b', h'.G j = some b' → j ≠ id ∧ ∃ b, s.h.G j = some b ∧ ∀ w c c2 rb, FzTr id con w c c2 → BlkRel w c rb b → BlkRel w c2 rb b → BlkRel w c2 rb b') : Weak s ⟨t', s.d, h'⟩ := by
  refine ⟨hok, fun w c a hr hv => ?_⟩
  have hb0 := hr.h.blk id _ hid
  classical
  let c2 : Cx := ⟨fun b => c.M b ∨ ((c.ι id).live = true ∧ b = (c.ι id).blk), fun b => c.O b ∧ ¬ ((c.ι id).live = true ∧ b = (c.ι id).blk), c.ι, c.V⟩
  have hx0 : Ext0 w c w c2 := ⟨fun b q => .inl q, fun _ _ _ => rfl, fun i hi => ⟨hi, rfl⟩⟩
  have hxw : ExtW ⟨true, 0, true⟩ w c w c2 := by
    refine ⟨fun b q => .inl q, fun _ _ _ => rfl, rfl, rfl, rfl, Nat.le_refl _, fun _ _ _ => rfl, fun b _ q => q.1, ?_, ?_⟩
    · rintro b hb (q | ⟨q1, q2⟩)
      · exact .inl q
      · exact .inr ⟨rfl, by rw [q2]; exact hb0.owned q1⟩
    · rintro b (q | ⟨q1, q2⟩) hn
      · exact absurd q hn
      · exact ⟨fun o => o.2 ⟨q1, q2⟩, by rw [q2]; exact hb0.lt q1⟩
  have hb1 : CellsRel w c (c.ι id) con := hb0
  have tr : FzTr id con w c c2 := by
    refine ⟨hx0, fun l1 => ?_, fun _ => hb1.wd.symm⟩
    obtain ⟨arr, te, fz, a1, a2, a3, a4, a5, a6⟩ := hb1.arr l1
    have hwd : con.wd = (c.ι id).wd := hb1.wd
    have bound : ∀ i j, i < con.len → j < con.wd → (c.ι id).st + i * con.wd + j < arr.size := by
      intro i j hi hj
      have := rowlt hi hj
      rw [a2, hwd] at *
      omega
    refine .mk con _ _ arr te fz (fun i j => (arr[(c.ι id).st + i * con.wd + j]?).getD undef) (.inr ⟨l1, rfl⟩) a1 ?_ ?_
    · intro i j hi hj
      have hb := bound i j hi hj
      rw [Array.getElem?_eq_getElem hb]
      exact ⟨rfl, a4 _ _ (Array.getElem?_eq_getElem hb)⟩
    · intro i j v hi hj hv
      have hb := bound i j hi hj
      have hu : arr[(c.ι id).st + i * con.wd + j]? = some arr[(c.ι id).st + i * con.wd + j] := Array.getElem?_eq_getElem hb
      simp only [hu, Option.getD_some]
      have q := a6 i j v _ hi (by rw [← hwd]; exact hj) hv (by rw [← hwd]; exact hu)
      rw [hp] at q
      exact VR.mono hx0.bare q
  refine ⟨c2, ⟨ht w c c2 _ tr hr.t, ?_, ?_, fun i hi => hr.dv i hi⟩, hxw, fun i hi => Nat.lt_of_lt_of_le (hv i hi) hnx⟩
  · have notid : ∀ j b, s.h.G j = some b → j ≠ id → (c.ι j).live = true → ¬ ((c.ι id).live = true ∧ (c.ι j).blk = (c.ι id).blk) := by
      rintro j b hj hne lj ⟨li, hbk⟩
      exact hne (hr.h.inj j id b _ hj hid lj li hbk)
    refine ⟨fun j b' hj => ?_, ?_, ?_, ?_⟩
    · obtain ⟨_, b, hb, _⟩ := hG j b' hj; exact hr.h.valid j b hb
    · intro j b' hj
      obtain ⟨hne, b, hb, hf⟩ := hG j b' hj
      exact hf w c c2 (c.ι j) tr (hr.h.blk j b hb) (BlkRel.keep hx0 (hr.h.blk j b hb) (fun _ => rfl) (fun l => ⟨(hr.h.blk j b hb).owned l, notid j b hb hne l⟩))
    · intro i j b b' hi hj li lj hbk
      obtain ⟨_, bi, qi, _⟩ := hG i b hi
      obtain ⟨_, bj, qj, _⟩ := hG j b' hj
      exact hr.h.inj i j bi bj qi qj li lj hbk
    · rintro b (q | ⟨q1, q2⟩)
      · exact ⟨fun o => (hr.h.dis b q).1 o.1, (hr.h.dis b q).2⟩
      · subst q2
        exact ⟨fun o => o.2 ⟨q1, rfl⟩, hb0.lt q1⟩
  · show a.defers = marks c2 s.d
    exact hr.d.trans (marks_ids (c := c) (c' := c2) (fun i hi => ⟨hi, rfl⟩) hr.dv).symm
theorem MapRel.w {id : Nat} {con : Con} {w : World} {c c2 : Cx} {rb : RB} {p p' : Bool} {m m' : MC} (t : FzTr id con w c c2) (h : BlkRel w c rb (.map p m)) (h2 : BlkRel w c2 rb (.map p m)) (hl : m'.len = m.len) (hc : m'.clock = m.clock)
    (he : ∀ i, i < m.len → (m'.ent i).key = (m.ent i).key ∧ (m'.ent i).born = (m.ent i).born ∧ ∀ u, VR w (c.at p) (m.ent i).val u → VR w (c2.at p') (m'.ent i).val u) : BlkRel w c2 rb (.map p' m') := by
  have h : MapRel w c rb p m := h
  have h2 : MapRel w c2 rb p m := h2
  obtain ⟨es, a1, a2, a3⟩ := h.obj
  refine ⟨h.live, h2.own, es, by rw [hc]; exact a1, by rw [hl]; exact a2, fun i hi => ?_⟩
  rw [hl] at hi
  obtain ⟨e, b1, b2, b3, b4⟩ := a3 i hi
  obtain ⟨k1, k2, k3⟩ := he i hi
  exact ⟨e, b1, b2.trans k1.symm, b3.trans k2.symm, k3 _ b4⟩
theorem Weak.mapW {t : List AV} {d : List Nat} {h h' : Heap} (hk : h.ok) (hok : h'.ok) (hnx : h.next ≤ h'.next)
    (hG : ∀ j b', h'.G j = some b' → ∃ b, h.G j = some b ∧ ∀ w c rb, BlkRel w c rb b → BlkRel w c rb b') : Weak ⟨t, d, h⟩ ⟨t, d, h'⟩ := by
  refine ⟨hok, fun w c a hr hv => ⟨c, ⟨hr.t, ?_, hr.d, hr.dv⟩, (Ext.refl w c).w, fun i hi => Nat.lt_of_lt_of_le (hv i hi) hnx⟩⟩
  refine ⟨fun j b' hj => ?_, ?_, ?_, hr.h.dis⟩
  · obtain ⟨b, hb, _⟩ := hG j b' hj; exact hr.h.valid j b hb
  · intro j b' hj
    obtain ⟨b, hb, hf⟩ := hG j b' hj
    exact hf w c _ (hr.h.blk j b hb)
  · intro i j b b' hi hj li lj hbk
    obtain ⟨bi, qi, _⟩ := hG i b hi
    obtain ⟨bj, qj, _⟩ := hG j b' hj
    exact hr.h.inj i j bi bj qi qj li lj hbk
theorem MapRel.w0 {w : World} {c : Cx} {rb : RB} {p : Bool} {m m' : MC} (h : BlkRel w c rb (.map p m)) (hl : m'.len = m.len) (hc : m'.clock = m.clock)
    (he : ∀ i, i < m.len → (m'.ent i).key = (m.ent i).key ∧ (m'.ent i).born = (m.ent i).born ∧ AW (m.ent i).val (m'.ent i).val) : BlkRel w c rb (.map p m') := by
  have h : MapRel w c rb p m := h
  obtain ⟨es, a1, a2, a3⟩ := h.obj
  refine ⟨h.live, h.own, es, by rw [hc]; exact a1, by rw [hl]; exact a2, fun i hi => ?_⟩
  rw [hl] at hi
  obtain ⟨e, b1, b2, b3, b4⟩ := a3 i hi
  obtain ⟨k1, k2, k3⟩ := he i hi
  exact ⟨e, b1, b2.trans k1.symm, b3.trans k2.symm, k3 _ _ _ b4⟩
noncomputable def keepK (ks ko : List Nat) : KC (AX × St) := fun e s => match e with
  | .normal => some (.normal, ⟨keepT 0 s.t ks, s.d, s.h⟩)
  | e => some (e, canon (some ko) s)
theorem keepT_w {w : World} {c : Cx} : ∀ (l : List AV) (l' : List Value) (i : Nat) (ks : List Nat), VRs w c l l' → VRs w c (keepT i l ks) l'
  | [], [], _, _, _ => .nil
  | v :: l, v' :: l', i, ks, .cons _ _ _ _ h1 h2 => by
    show VRs w c ((bif memN i ks then v else .unk) :: keepT (i + 1) l ks) (v' :: l')
    refine .cons _ _ _ _ ?_ (keepT_w l l' (i + 1) ks h2)
    cases memN i ks
    · exact .unk _
    · exact h1
  | [], _ :: _, _, _, h => by cases h
  | _ :: _, [], _, _, h => by cases h
theorem loop_tripleK {P : Program} {c : Code} {X : KC (AX × St) → St → Option (AX × St)} (hX : COk P ⟨true, 0, true⟩ false c X) (ks ko : List Nat) {T : Type} (st : T → St) (Inv : T → Prop) (m : T → Nat) (fin : T → AX × St)
    (hok : ∀ x, Inv x → (st x).h.ok)
    (hb : ∀ x, Inv x → (∃ x' s1, X (keepK ks ko) (st x) = some (.normal, s1) ∧ Weak s1 (st x') ∧ Inv x' ∧ m x' < m x ∧ fin x' = fin x) ∨ (∃ s1, X (keepK ks ko) (st x) = some ((fin x).1, s1) ∧ Weak s1 (fin x).2 ∧ (fin x).1 ≠ .normal)) :
    ∀ x, Inv x → Triple P (.loop c) (st x) (fin x).1 (fin x).2 := by
  have key : ∀ n x, m x < n → Inv x → (fin x).2.h.ok ∧ ∀ {F : Fence} (hF : FOk F) (hro : F.round = none) (w : World) (cx : Cx) (a : Act), StRel w cx (st x) a → (∀ id, cx.V id → id < (st x).h.next) →
      LoopWp F P c (fun e' a' w' => e' = exitOf (fin x).1 ∧ PostC ⟨true, 0, true⟩ w cx (st x).h.next (fin x).2 a' w') n a w := by
    intro n
    induction n with
    | zero => intro x h; omega
    | succ n ih =>
      intro x hm hi
      rcases hb x hi with ⟨x', sx, h1, hw, h2, h3, h4⟩ | ⟨sx, h1, hw, h2⟩
      · obtain ⟨e, s1, k1, k2, k3⟩ := hX _ _ _ (hok x hi) h1
        obtain ⟨i1, i2⟩ := ih x' (by omega) h2
        rw [h4] at i1 i2
        refine ⟨i1, fun hF hro w cx a hr hfr => ?_⟩
        cases e with
        | normal =>
          have hs : (⟨keepT 0 s1.t ks, s1.d, s1.h⟩ : St) = sx := by injection k1 with k1; injection k1 with _ k1
          refine wpIn_mono (k3 hF (fun _ => hro) w cx a hr ⟨fun q => (by cases q), fun _ => hfr⟩) ?_
          rintro e1 a1 w1 ⟨rfl, c1, r1, x1, v1⟩
          have r2 : StRel w1 c1 sx a1 := by rw [← hs]; exact ⟨keepT_w _ _ _ _ r1.t, r1.h, r1.d, r1.dv⟩
          have hn : sx.h.next = s1.h.next := by rw [← hs]
          obtain ⟨c3, r3, x3, v3⟩ := hw.2 w1 c1 a1 r2 (by rw [hn]; exact v1.R rfl)
          refine LoopWp.mono ?_ n a1 w1 (i2 hF hro w1 c3 a1 r3 v3)
          rintro e2 a2 w2 ⟨rfl, hp⟩
          exact ⟨rfl, hp.trans (x1.trans x3) ⟨fun q => (by cases q), fun q => (by cases q), fun q => (by cases q), fun _ => v3, fun _ i hi => (by cases hi)⟩⟩
        | exit i => injection k1 with k1; injection k1 with k1; cases k1
        | ret => injection k1 with k1; injection k1 with k1; cases k1
      · obtain ⟨e, s1, k1, k2, k3⟩ := hX _ _ _ (hok x hi) h1
        have hs : ((fin x).1, sx) = (e, canon (some ko) s1) ∧ e ≠ .normal := by
          cases e with
          | normal => injection k1 with k1; injection k1 with k1 k1'; exact absurd k1.symm h2
          | exit i => injection k1 with k1; exact ⟨k1.symm, by simp⟩
          | ret => injection k1 with k1; exact ⟨k1.symm, by simp⟩
        obtain ⟨hs, hne⟩ := hs
        injection hs with hs1 hs2
        rw [hs1]
        obtain ⟨t2, t5⟩ := trimR_ok (root := ⟨true, 0, true⟩) (ks := some ko) k2.1
        refine ⟨hw.1, fun hF hro w cx a hr hfr => wpIn_mono (k3 hF (fun _ => hro) w cx a hr ⟨fun q => (by cases q), fun _ => hfr⟩) ?_⟩
        rintro e1 a1 w1 ⟨rfl, c1, r1, x1, v1⟩
        have f1 : Fresh ⟨true, 0, true⟩ c1 s1.h.next s1.h.next := ⟨fun q => (by cases q), v1.R⟩
        obtain ⟨c2, r2, x2, v2⟩ := t5 w1 c1 a1 _ r1 f1
        have e2 : trimR ⟨true, 0, true⟩ (some ko) s1 = sx := hs2.symm
        rw [e2] at r2 v2
        obtain ⟨c3, r3, x3, v3⟩ := hw.2 w1 c2 a1 r2 (v2.R rfl)
        have fin' : exitOf e = exitOf e ∧ PostC ⟨true, 0, true⟩ w cx (st x).h.next (fin x).2 a1 w1 := ⟨rfl, c3, r3, (x1.trans x2).trans x3, ⟨fun q => (by cases q), fun q => (by cases q), fun q => (by cases q), fun _ => v3, fun _ i hi => (by cases hi)⟩⟩
        cases e with
        | normal => exact absurd rfl hne
        | exit i => exact fin'
        | ret => exact fin'
  intro x hi
  obtain ⟨h1, h2⟩ := key (m x + 1) x (Nat.lt_succ_self _) hi
  exact ⟨h1, fun hF hro w cx a hr hfr => wpIn_loop_n ⟨m x + 1, h2 hF hro w cx a hr (hfr.R rfl)⟩⟩
theorem AW.rptr {a b : Con} (h : ConW a b) (r j : Nat) : AW (.rptr a r j) (.rptr b r j) := by
  intro w c u hu
  cases hu with | rptr _ _ _ bb o h1 h2 =>
  have e : a.wd = b.wd := h.wd.symm
  rw [e]
  exact .rptr b r j bb o (by rw [h.len]; exact h1) (RD.conv h h2)
end Go.Ev
