/- The evaluator, its soundness and the walks: part 3. -/
import Derived.Laws.StructEq
import Derived.Laws.IdiomStrings
import Derived.CallsIn
import Derived.Orders
import Derived.Test.YtdogimleeplpkaaGreatC2
set_option linter.unusedSectionVars false
set_option linter.unusedSimpArgs false
set_option linter.unusedVariables false
set_option maxRecDepth 100000
set_option maxRecDepth 1000000
noncomputable section
/- append: what it makes of blocks. -/
namespace Go.Ev
theorem Patch.turn {G G' : Nat → Option Blk} {h : Heap} {id : Nat} {b : Blk} {e : Ent} (hk : h.ok) (he : findE h.es id = some e) (hp : Patch G h (h.turn id b) [id] G') :
    G' h.next = some b ∧ G' id = none ∧ ∀ i, i ≠ h.next → i ≠ id → G' i = G i := by
  have hlt := hk.lt id e he
  refine ⟨?_, ?_, ?_⟩
  · rw [(hp h.next).1 (.inr ⟨Nat.le_refl _, by show h.next < h.next + 1; omega⟩)]
    exact G_turn id b
  · rw [(hp id).1 (.inl (by simp))]
    exact G_turn_old hk he b
  · intro i h1 h2
    refine (hp i).2 ?_
    rintro (q | q)
    · simp at q; exact h2 q
    · have : (h.turn id b).next = h.next + 1 := rfl
      omega
def Cx.reb (c : Cx) (id : Nat) (rb : RB) : Cx := ⟨c.M, c.O, fun j => if j = id then rb else c.ι j, fun j => c.V j ∨ j = id⟩
theorem Cx.reb_self (c : Cx) (id : Nat) (rb : RB) : (c.reb id rb).ι id = rb := by simp [Cx.reb]
theorem Cx.reb_other (c : Cx) {id j : Nat} (rb : RB) (h : j ≠ id) : (c.reb id rb).ι j = c.ι j := by simp [Cx.reb, h]
theorem Ext.reb (w : World) {c : Cx} {id : Nat} (hv : ¬ c.V id) (rb : RB) : Ext w c w (c.reb id rb) := by
  refine ⟨⟨fun _ q => q, fun _ _ _ => rfl, ?_⟩, rfl, rfl, rfl, Nat.le_refl _, fun _ _ _ => rfl, fun _ _ h => h, fun _ _ q => q, fun _ q q' => absurd q q'⟩
  intro i hi
  exact ⟨.inl hi, Cx.reb_other c rb (fun e => hv (e ▸ hi))⟩
theorem HR.reb {w w1 : World} {c : Cx} {G G' : Nat → Option Blk} (hr : HR w c G) (hx : Ext w c w1 c) {id : Nat} (hv : ¬ c.V id) {rb : RB} {b : Blk}
    (hold : ∀ i, i ≠ id → ∀ b', G' i = some b' → G i = some b' ∧ ((c.ι i).live = true → (rb.live = true → (c.ι i).blk ≠ rb.blk) ∧ w1.heap[(c.ι i).blk]? = w.heap[(c.ι i).blk]?)) (hnew : G' id = some b) (hb : BlkRel w1 (c.reb id rb) rb b) : HR w1 (c.reb id rb) G' := by
  refine HR.patch (fun i => i = id) hr (hx.trans (Ext.reb w1 hv rb)) ?_ ?_ ?_
  · intro i b' hi hne
    obtain ⟨h1, h2⟩ := hold i hne b' hi
    exact ⟨h1, fun hl => ⟨(h2 hl).2, (hr.blk i b' h1).owned hl⟩⟩
  · rintro i b' hi rfl
    rw [hnew] at hi
    injection hi with hi; subst hi
    refine ⟨.inr rfl, ?_⟩
    rw [Cx.reb_self]; exact hb
  · rintro i j b1 b2 hi hj rfl li lj hbk
    by_cases hij : j = i
    · exact hij.symm
    · exfalso
      rw [Cx.reb_self] at hbk li
      rw [Cx.reb_other c rb hij] at hbk lj
      obtain ⟨h1, h2⟩ := hold j hij b2 hj
      exact (h2 lj).1 li hbk.symm
theorem rows_of_grown {w : World} {c : Cx} {old new con : Con} {size : Nat} {olds news : List Value} {rest : Array Value} (hc : CatOk old new con) (hw : old.wd = size) (ho : RowsRel w c old size olds) (hn : RowsRel w c new size news) (hol : olds.length = old.len * size) (hnl : news.length = new.len * size) :
    ∀ (i j : Nat) (v : AV) (u : Value), i < con.len → j < con.wd → (con.row i)[j]? = some v → ((olds ++ news).toArray ++ rest)[i * con.wd + j]? = some u → VR w (c.at con.pureF) v u := by
  intro i j v u hi hj hv hu
  have hcw : con.wd = size := hc.wa.trans hw
  rw [hcw] at hj hu
  rw [hc.len] at hi
  have hlt : i * size + j < (olds ++ news).length := by
    rw [List.length_append, hol, hnl, ← Nat.add_mul]
    exact rowlt hi hj
  rw [Array.getElem?_append_left (by simpa using hlt)] at hu
  simp only [List.getElem?_toArray] at hu
  rcases Nat.lt_or_ge i old.len with h1 | h1
  · rw [hc.l i h1] at hv
    obtain ⟨u', e1, e2⟩ := ho i j v h1 hj hv
    rw [List.getElem?_append_left (by rw [hol]; exact rowlt h1 hj), e1] at hu
    injection hu with hu; subst hu; exact e2.weak (hc.pl (by omega))
  · obtain ⟨k, rfl⟩ := Nat.exists_eq_add_of_le h1
    rw [hc.r k (by omega)] at hv
    obtain ⟨u', e1, e2⟩ := hn k j v (by omega) hj hv
    rw [List.getElem?_append_right (by rw [hol, Nat.add_mul]; omega), hol, Nat.add_mul, show old.len * size + k * size + j - old.len * size = k * size + j by omega, e1] at hu
    injection hu with hu; subst hu; exact e2.weak (hc.pr (by omega))
section
variable {ρ : Type} {P : Program} {env : Env} (he : EnvOk P env) {h : Heap} (hk : h.ok) {K : KP ρ} {r : ρ}
def AppAt (P : Program) (S : World → Cx → Sem Next → Prop) (t tx e : TypeId) (i : TI) (s : AV) (h : Heap) (new : Con) (rd : List Nat) : Prop :=
  ∀ (w : World) (c : Cx) (x : Sem Next) (G : Nat → Option Blk), S w c x → HR w c G → (∀ id ∈ rd, G id = h.G id) → ∃ (s' x' : Value) (ty : TypeId) (news : List Value), VR w c s s' ∧ AppRun P w t tx ty e i x' new.len news ∧ RowsRel w c new i.size news ∧
    ∀ v' w', (Builtin.append_ #[t, tx] ty #[s', x']).run P w = .ok v' w' → x.run P w = .ok (.value v') w'
theorem grown_fits {old new con : Con} {size : Nat} {olds news : List Value} {z : Value} {k : Nat} (hc : CatOk old new con) (hw : old.wd = size) (hol : olds.length = old.len * size) (hnl : news.length = new.len * size) :
    con.len * con.wd ≤ ((olds ++ news).toArray ++ Builtin.zeroCells z.cells k).size := by
  rw [hc.len, hc.wa.trans hw, Nat.add_mul]
  simp only [Array.size_append, List.size_toArray, List.length_append, hol, hnl]
  omega
include he in
theorem grown_one {e : TypeId} {i : TI} (hi : env.ty.get e = some i) {olds news : List Value} (h1 : ∀ u ∈ olds, u.oneCell' = true) (h2 : ∀ u ∈ news, u.oneCell' = true) (k : Nat) :
    ∀ u ∈ ((olds ++ news).toArray ++ Builtin.zeroCells i.zero.cells k).toList, u.oneCell' = true := by
  intro u hu
  have hT := he.ty e i hi
  simp only [Array.toList_append, List.mem_append] at hu
  rcases hu with (hu | hu) | hu
  · exact h1 u hu
  · exact h2 u hu
  · have hz : Builtin.zeroCells i.zero.cells k = madeCells i.zero.cells (k * i.size) := by unfold Builtin.zeroCells madeCells; rw [hT.zsize]
    rw [hz] at hu
    exact madeCells_one hT k u hu
theorem oneMore_grown (w : World) (o : Obj) : OneMore w (w.drew.alloc o) o := ⟨rfl, rfl, rfl, rfl⟩
theorem grown_val {w1 : World} {c : Cx} {id blk need cap size : Nat} {con old new : Con} {olds news : List Value} {z : Value} (hc : CatOk old new con) (hw : old.wd = size) (hol : olds.length = old.len * size) (hnl : news.length = new.len * size) (hneed : need = con.len) (hcap : need ≤ cap) (hz : z.cells.size = size) :
    VR w1 (c.add id ⟨true, blk, 0, con.wd, ((olds ++ news).toArray ++ Builtin.zeroCells z.cells (cap - need)).size⟩) (.own id 0 need none size) (.slice (some ⟨blk, 0, none⟩) need cap) := by
  have hcw : con.wd = size := hc.wa.trans hw
  rw [hcw]
  refine VR.newSlice hcap (fun k hk => by cases hk) ?_
  simp only [Array.size_append, List.size_toArray, List.length_append, hol, hnl, size_zeroCells, hz]
  rw [← Nat.add_mul, ← hc.len, ← hneed, ← Nat.add_mul]
  exact Nat.mul_le_mul_right _ (by omega)
include he hk in
theorem appNew_sound {S : World → Cx → Sem Next → Prop} {t tx e : TypeId} {i : TI} (hi : env.ty.get e = some i) {s : AV} {old new con : Con} {rd R : List Nat} {n : Nat} (hold : sliceCon h i s = some old) (hwo : old.wd = i.size) (hc : old.cat new = some con) (hn : n = con.len)
    (hS : AppAt P S t tx e i s h new rd) (hR : ∀ id, id ∈ rd ∨ id ∈ rdOf s → id ∈ R)
    (hgrow : ∀ w c s', VR w c s s' → ∃ a m, s' = .slice a old.len m ∧ (m < old.len + new.len ∨ (old.len + new.len = 0 ∧ m = 0)))
    (hK : appNew env i h n con R K = some r) : Does P h K r S := by
  obtain ⟨hg, hK⟩ := guardB_some hK
  rw [Bool.and_eq_true] at hg
  have g1 := Nat.le_of_ble_eq_true hg.1
  have g2 := Nat.le_of_ble_eq_true hg.2
  rw [addK_eq] at hK
  have hcat := cat_some hc
  have hT := he.ty e i hi
  refine ⟨_, _, _, _, hK, Eff.add hk _ _, ?_⟩
  intro w c x G hx hp
  have hnv : ¬ c.V h.next := hp.fresh h.next (Nat.le_refl _) (Nat.lt_succ_self _)
  obtain ⟨s', x', ty, news, q1, q2, q3, q4⟩ := hS w c x G hx hp.hr (fun id hid => hp.agree id (.inl (hR id (.inl hid))))
  obtain ⟨a, m, olds, rfl, e2, e3, e4, e5⟩ := slice_lies he hi hold hwo q1 hp.hr (fun id hid => hp.agree id (.inl (hR id (.inr hid))))
  obtain ⟨a', m', e6, e7⟩ := hgrow w c _ q1
  injection e6 with e6 e8 e9
  subst e6; subst e9
  have hneed : old.len + new.len = n := by rw [hn, hcat.len]
  rcases e7 with e7 | ⟨e7, rfl⟩
  · have hrun := q2.grow a old.len m olds (e4.firstCells P _ _ (by simp)) e7 (by omega) (by rw [hneed]; exact g1)
    rw [hneed] at hrun
    refine Real.new hk ⟨hp.hr, fun id hid => hp.agree id hid, hp.fresh⟩ (q4 _ _ hrun) (oneMore_grown w _) (grown_fits hcat hwo e4.len q2.len) (grown_one he hi e4.one q2.one _) (by simp) (rows_of_grown hcat hwo e5 q3 e4.len q2.len) ?_
    exact grown_val hcat hwo e4.len q2.len hn (grownCap_ge w n m e) hT.zsize
  · have h1 : old.len = 0 := by omega
    have h2 : new.len = 0 := by omega
    have hrun := q2.nothing h2 a old.len 0 (by omega)
    refine ⟨_, _, w, c.reb h.next ⟨false, 0, 0, con.wd, 0⟩, q4 _ _ hrun, .inl rfl, ?_, Ext.reb w hnv _, ?_, ?_⟩
    · rw [h1]
      have h0 : n = 0 := by omega
      rw [h0]
      refine VR.own h.next 0 0 none i.size a 0 (.inr rfl) ?_ (Nat.le_refl _) (fun k hk => by cases hk) (.inl rfl)
      rw [Cx.reb_self]; exact hcat.wa.trans hwo
    · rintro id (hid | rfl)
      · exact .inl hid
      · exact .inr ⟨Nat.le_refl _, Nat.lt_succ_self _⟩
    · intro G' hG'
      obtain ⟨p1, p2⟩ := hG'.new hk
      refine HR.reb hp.hr (Ext.refl w c) hnv (fun i hne b' hi => ⟨by rw [← p2 i hne]; exact hi, fun _ => ⟨fun q => by simp at q, rfl⟩⟩) p1 ?_
      exact ⟨rfl, fun _ => by rw [hcat.len]; exact e7, fun q => by simp at q, fun q => by simp at q⟩
include he hk in
theorem appTurn_sound {S : World → Cx → Sem Next → Prop} {t tx e : TypeId} {i : TI} (hi : env.ty.get e = some i) {id off len wd : Nat} {cap : Option Nat} {old new con : Con} {rd : List Nat} {n : Nat} (hold : sliceCon h i (.own id off len cap wd) = some old) (hwo : old.wd = i.size) (hc : old.cat new = some con) (hn : n = len + new.len)
    (hS : AppAt P S t tx e i (.own id off len cap wd) h new rd)
    (hK : appTurn env i h id n con (id :: rd) K = some r) : Does P h K r S := by
  obtain ⟨hg, hK⟩ := guardB_some hK
  rw [Bool.and_eq_true] at hg
  have g1 := Nat.le_of_ble_eq_true hg.1
  have g2 := Nat.le_of_ble_eq_true hg.2
  rw [turnK_eq] at hK
  have hcat := cat_some hc
  have hT := he.ty e i hi
  -- the old block
  obtain ⟨con0, hcon0, hle, hsub⟩ : ∃ con0, h.con id = some con0 ∧ off + len ≤ con0.len ∧ old = con0.sub off len := by
    simp only [sliceCon] at hold
    split at hold
    · rename_i k hk'
      cases hb : Nat.ble (off + len) k.len with
      | false => rw [hb] at hold; cases hold
      | true =>
        rw [hb] at hold
        simp only [cond_true, Option.some.injEq] at hold
        exact ⟨k, hk', Nat.le_of_ble_eq_true hb, hold.symm⟩
    · cases hold
  have hol : old.len = len := by rw [hsub, Con.sub_len _ _ _ hle]
  obtain ⟨ver, hent⟩ := Heap.con_ent hcon0
  refine ⟨_, _, _, _, hK, Eff.turn hk hent _ _, ?_⟩
  intro w c x G hx hp
  have hnv : ¬ c.V h.next := hp.fresh h.next (Nat.le_refl _) (by show h.next < h.next + 1; omega)
  obtain ⟨s', x', ty, news, q1, q2, q3, q4⟩ := hS w c x G hx hp.hr (fun id' hid => hp.agree id' (.inl (by simp [hid])))
  have hG := hp.agree id (.inl (by simp))
  rw [con_some hcon0] at hG
  have hb : CellsRel w c (c.ι id) con0 := hp.hr.blk id _ hG
  obtain ⟨a, m, olds, rfl, e2, e3, e4, e5⟩ := slice_lies he hi hold hwo q1 hp.hr (fun id' hid => by simp [rdOf] at hid; subst hid; rw [hG, con_some hcon0])
  have hlt := hk.lt id _ hent
  have hneed : old.len + new.len = n := by rw [hol]; exact hn.symm
  have hcl : n = con.len := by rw [hcat.len, hneed]
  rcases Nat.lt_or_ge m n with hgr | hroom
  · have hrun := q2.grow a old.len m olds (e4.firstCells P _ _ (by simp)) (by omega) (by omega) (by rw [hneed]; exact g1)
    rw [hneed] at hrun
    refine ⟨_, _, _, c.add h.next ⟨true, w.heap.size, 0, con.wd, ((olds ++ news).toArray ++ Builtin.zeroCells i.zero.cells (grownCap w n m e - n)).size⟩, q4 _ _ hrun, .inl rfl, grown_val hcat hwo e4.len q2.len hcl (grownCap_ge w n m e) hT.zsize, Ext.oneMore (oneMore_grown w _) hnv rfl, ?_, ?_⟩
    · rintro id' (hid | rfl)
      · exact .inl hid
      · exact .inr ⟨Nat.le_refl _, by show h.next < h.next + 1; omega⟩
    · intro G' hG'
      obtain ⟨p1, p2, p3⟩ := hG'.turn hk hent
      refine HR.oneMore hp.hr (oneMore_grown w _) hnv rfl (fun i' hi' => ?_) p1 (CellsRel.fresh (oneMore_grown w _) hnv (grown_fits hcat hwo e4.len q2.len) (grown_one he hi e4.one q2.one _) (by simp) (rows_of_grown hcat hwo e5 q3 e4.len q2.len))
      by_cases hii : i' = id
      · subst hii; exact .inr p2
      · exact .inl (p3 i' hi' hii)
  · generalize hs' : Value.slice a old.len m = s' at q1
    cases q1 with | own _ _ _ _ _ a0 m0 k1 k2 k3 k4 k5 =>
    injection hs' with z1 z2 z3
    subst z1; subst z3
    have hws : wd = i.size := by rw [← k2, ← hb.wd, ← hwo, hsub, Con.sub_wd]
    rcases k5 with k5 | ⟨k5, k6, k7⟩
    · have h0 : n = 0 := by omega
      have hrun := q2.nothing (by omega) a old.len m (by omega)
      refine ⟨_, _, w, c.reb h.next ⟨false, 0, 0, con.wd, 0⟩, q4 _ _ hrun, .inl rfl, ?_, Ext.reb w hnv _, ?_, ?_⟩
      · rw [show old.len = 0 by omega, k5, h0]
        refine VR.own h.next 0 0 none i.size a 0 (.inr rfl) ?_ (Nat.le_refl _) (fun k hk => by cases hk) (.inl rfl)
        rw [Cx.reb_self]; exact hcat.wa.trans hwo
      · rintro id' (hid | rfl)
        · exact .inl hid
        · exact .inr ⟨Nat.le_refl _, by show h.next < h.next + 1; omega⟩
      · intro G' hG'
        obtain ⟨p1, p2, p3⟩ := hG'.turn hk hent
        refine HR.reb hp.hr (Ext.refl w c) hnv (fun i' hne b' hi' => ?_) p1 ?_
        · by_cases hii : i' = id
          · subst hii; rw [p2] at hi'; cases hi'
          · rw [p3 i' hne hii] at hi'
            exact ⟨hi', fun _ => ⟨fun q => by simp at q, rfl⟩⟩
        · exact ⟨rfl, fun _ => by rw [← hcl]; exact h0, fun q => by simp at q, fun q => by simp at q⟩
    · subst k6
      obtain ⟨arr, e', fz, h1, h2, h3, h5, h6, h7⟩ := hb.arr k5
      obtain ⟨st, hst⟩ : ∃ st, st = (c.ι id).st + off * wd := ⟨_, rfl⟩
      have hfit : st + n * wd ≤ (c.ι id).size := by
        have : (off + n) * wd ≤ (off + m) * wd := Nat.mul_le_mul_right _ (by omega)
        rw [Nat.add_mul] at this
        omega
      have hnl := q2.len
      have hbase : st + old.len * i.size + news.length ≤ (c.ι id).size := by
        rw [hnl, ← hws, Nat.add_assoc, ← Nat.add_mul, hneed]; exact hfit
      have hrun := q2.room (c.ι id).blk st old.len m (by omega)
        (fun j hj => by rw [cell_of_arr h1 (u := arr[st + old.len * i.size + j]'(by omega)) (by simp)]; rfl)
        (fun j hj => frozen_of_arr h1 (h3 _ (by omega)))
      rw [← hst] at e4
      have hcw : con.wd = i.size := hcat.wa.trans hwo
      obtain ⟨hext, hoth, hcr⟩ := CellsRel.write (fun b hm => (hp.hr.dis b hm).1) (c' := c.reb h.next ⟨true, (c.ι id).blk, st, wd, (c.ι id).size⟩) (rb' := ⟨true, (c.ι id).blk, st, wd, (c.ι id).size⟩) (con' := con) (o := st + old.len * i.size) (vs := news) hb k5 q2.one hbase rfl rfl k2.symm rfl
        (by rw [hcw, ← hws, hb.wd, k2]) (by rw [← hcl, k2]; exact hfit) (fun w' hw => Ext.reb w' hnv _) (hb.own k5) (by
          intro r' j v hi' hj hv
          rw [k2] at hj ⊢
          rw [← hcl] at hi'
          show (∃ k u, st + r' * wd + j = _ ∧ _) ∨ (¬ (_ ≤ st + r' * wd + j ∧ st + r' * wd + j < _) ∧ _)
          rcases Nat.lt_or_ge r' old.len with hr' | hr'
          · refine .inr ⟨?_, fun q => by have := hcat.pl (by omega) q; rw [hsub] at this; cases con0 <;> exact this, off + r', by omega, ?_, ?_⟩
            · have := rowlt hr' hj
              rw [← hws]; omega
            · show (c.ι id).st + (off + r') * wd = st + r' * wd
              rw [hst, Nat.add_mul]; omega
            · rw [hcat.l r' hr', hsub, Con.sub_row _ _ _ _ (by omega) hle] at hv
              exact hv
          · obtain ⟨k, rfl⟩ := Nat.exists_eq_add_of_le hr'
            rw [hcat.r k (by omega)] at hv
            obtain ⟨u, u1, u2⟩ := q3 k j v (by omega) (by rw [← hws]; exact hj) hv
            refine .inl ⟨k * i.size + j, u, ?_, u1, u2.weak (hcat.pr (by omega))⟩
            rw [Nat.add_mul, hws]; omega)
      rw [hst] at hrun
      rw [← hst] at hrun
      refine ⟨_, _, _, c.reb h.next ⟨true, (c.ι id).blk, st, wd, (c.ι id).size⟩, q4 _ _ (by rw [← hst]; exact hrun), .inl rfl, ?_, hext.trans (Ext.reb _ hnv _), ?_, ?_⟩
      · rw [hneed]
        have := VR.own (W := w.setCells (c.ι id).blk (st + old.len * i.size) news) (c := c.reb h.next ⟨true, (c.ι id).blk, st, wd, (c.ι id).size⟩) h.next 0 n none i.size (some ⟨(c.ι id).blk, st, none⟩) m (.inr rfl)
          (by rw [Cx.reb_self]; exact hws) hroom (fun k hk => by cases hk) (.inr (by
            rw [Cx.reb_self]
            refine ⟨rfl, by simp, ?_⟩
            show st + (0 + m) * i.size ≤ (c.ι id).size
            rw [Nat.add_mul] at k7
            rw [Nat.zero_add, ← hws]; omega))
        exact this
      · rintro id' (hid | rfl)
        · exact .inl hid
        · exact .inr ⟨Nat.le_refl _, by show h.next < h.next + 1; omega⟩
      · intro G' hG'
        obtain ⟨p1, p2, p3⟩ := hG'.turn hk hent
        refine HR.reb hp.hr hext hnv (fun i' hne b' hi' => ?_) p1 hcr
        by_cases hii : i' = id
        · subst hii; rw [p2] at hi'; cases hi'
        · rw [p3 i' hne hii] at hi'
          refine ⟨hi', fun hl => ?_⟩
          have : (c.ι i').blk ≠ (c.ι id).blk := fun q => hii (hp.hr.inj i' id _ _ hi' hG hl k5 q)
          exact ⟨fun _ => this, hoth _ this⟩
theorem inTab_some {h : Heap} {id off : Nat} {cap : Option Nat} (g : inTab h id off cap = true) : ∃ m, cap = some m ∧ off = 0 := by
  unfold inTab at g
  split at g
  · cases g
  · rename_i m
    cases hb : Nat.beq off 0 with
    | true => exact ⟨m, rfl, beq_iff.1 hb⟩
    | false => rw [hb] at g; cases g
include he hk in
theorem appIn_sound {S : World → Cx → Sem Next → Prop} {t tx e : TypeId} {i : TI} (hi : env.ty.get e = some i) {id len wd mm : Nat} {old new con : Con} {rd : List Nat} {n : Nat} (hold : sliceCon h i (.own id 0 len (some mm) wd) = some old) (hwo : old.wd = i.size) (hc : old.cat new = some con) (hn : n = len + new.len)
    (hS : AppAt P S t tx e i (.own id 0 len (some mm) wd) h new rd)
    (hK : appIn env h id n mm wd con (id :: rd) K = some r) : Does P h K r S := by
  obtain ⟨hg, hK⟩ := guardB_some hK
  have g1 := Nat.le_of_ble_eq_true hg
  rw [putK_eq] at hK
  have hcat := cat_some hc
  have hT := he.ty e i hi
  obtain ⟨con0, hcon0, hle, hsub⟩ : ∃ con0, h.con id = some con0 ∧ 0 + len ≤ con0.len ∧ old = con0.sub 0 len := by
    simp only [sliceCon] at hold
    split at hold
    · rename_i k hk'
      cases hb : Nat.ble (0 + len) k.len with
      | false => rw [hb] at hold; cases hold
      | true =>
        rw [hb] at hold
        simp only [cond_true, Option.some.injEq] at hold
        exact ⟨k, hk', Nat.le_of_ble_eq_true hb, hold.symm⟩
    · cases hold
  have hol : old.len = len := by rw [hsub, Con.sub_len _ _ _ hle]
  obtain ⟨ver, hent⟩ := Heap.con_ent hcon0
  refine ⟨_, _, _, _, hK, Eff.put hk hent _ _, ?_⟩
  intro w c x G hx hp
  obtain ⟨s', x', ty, news, q1, q2, q3, q4⟩ := hS w c x G hx hp.hr (fun id' hid => hp.agree id' (.inl (by simp [hid])))
  have hG := hp.agree id (.inl (by simp))
  rw [con_some hcon0] at hG
  have hb : CellsRel w c (c.ι id) con0 := hp.hr.blk id _ hG
  obtain ⟨a, m, olds, rfl, e2, e3, e4, e5⟩ := slice_lies he hi hold hwo q1 hp.hr (fun id' hid => by simp [rdOf] at hid; subst hid; rw [hG, con_some hcon0])
  have hneed : old.len + new.len = n := by rw [hol]; exact hn.symm
  have hcl : n = con.len := by rw [hcat.len, hneed]
  generalize hs' : Value.slice a old.len m = s' at q1
  cases q1 with | own _ _ _ _ _ a0 m0 k1 k2 k3 k4 k5 =>
  injection hs' with z1 z2 z3
  subst z1; subst z3
  have hm : m = mm := k4 _ rfl
  have hws : wd = i.size := by rw [← k2, ← hb.wd, ← hwo, hsub, Con.sub_wd]
  have hcw : con.wd = con0.wd := by rw [hcat.wa, hsub, Con.sub_wd]
  rcases k5 with k5 | ⟨k5, k6, k7⟩
  · have h0 : n = 0 := by omega
    have hrun := q2.nothing (by omega) a old.len m (by omega)
    refine ⟨_, _, w, c, q4 _ _ hrun, .inl rfl, ?_, Ext.refl w c, fun q hq => .inl hq, ?_⟩
    · rw [show old.len = 0 by omega, h0]
      exact VR.own id 0 0 (some mm) wd a m k1 k2 (Nat.zero_le _) (fun k hk => by injection hk with hk; omega) (.inl k5)
    · intro G' hG'
      have hcell : CellsRel w c (c.ι id) con := by
        refine ⟨by rw [hcw]; exact hb.wd, fun q => by rw [← hcl]; exact h0, hb.own, fun q => ?_⟩
        obtain ⟨arr, e', fz, h1, h2, h3, h5, h6, h7⟩ := hb.arr q
        refine ⟨arr, e', fz, h1, h2, h3, h5, by rw [← hcl, h0]; omega, ?_⟩
        intro i' j v u hi' hj hv hu
        omega
      have g1' : G' id = some (.cells con) := by
        rw [(hG' id).1 (.inl (by simp))]
        exact G_put hent _
      have g2' : ∀ i', i' ≠ id → G' i' = G i' := by
        intro i' hi'
        refine (hG' i').2 ?_
        rintro (q | q)
        · simp at q; exact hi' q
        · simp only [Heap.put] at q; omega
      refine HR.patch (fun i' => i' = id) hp.hr (Ext.refl w c) ?_ ?_ ?_
      · intro i' b' hi' hne
        rw [g2' i' hne] at hi'
        exact ⟨hi', fun hl => ⟨rfl, (hp.hr.blk i' b' hi').owned hl⟩⟩
      · rintro i' b' hi' rfl
        rw [g1'] at hi'
        injection hi' with hi'
        subst hi'
        exact ⟨hp.hr.valid i' _ hG, hcell⟩
      · rintro i' j b1 b2 hi' hj rfl li lj hbk'
        by_cases hij : j = i'
        · exact hij.symm
        · rw [g2' j hij] at hj
          exact hp.hr.inj i' j _ _ hG hj li lj hbk'
  · subst k6
    obtain ⟨arr, e', fz, h1, h2, h3, h5, h6, h7⟩ := hb.arr k5
    obtain ⟨st, hst⟩ : ∃ st, st = (c.ι id).st := ⟨_, rfl⟩
    rw [Nat.zero_mul, Nat.add_zero, ← hst] at e4
    rw [Nat.zero_add, ← hst] at k7
    have hfit : st + n * wd ≤ (c.ι id).size := by
      have : n * wd ≤ m * wd := Nat.mul_le_mul_right _ (by omega)
      omega
    have hnl := q2.len
    have hbase : st + old.len * i.size + news.length ≤ (c.ι id).size := by
      rw [hnl, ← hws, Nat.add_assoc, ← Nat.add_mul, hneed]; exact hfit
    have hrun := q2.room (c.ι id).blk st old.len m (by omega)
      (fun j hj => by rw [cell_of_arr h1 (u := arr[st + old.len * i.size + j]'(by omega)) (by simp)]; rfl)
      (fun j hj => frozen_of_arr h1 (h3 _ (by omega)))
    obtain ⟨hext, hoth, hcr⟩ := CellsRel.write (fun b hm => (hp.hr.dis b hm).1) (c' := c) (rb' := c.ι id) (con' := con) (o := st + old.len * i.size) (vs := news) hb k5 q2.one hbase k5 rfl rfl rfl
      hcw (by rw [← hcl, k2, ← hst]; exact hfit) (fun w' hw => Ext.refl w' c) (hb.own k5) (by
        intro r' j v hi' hj hv
        rw [k2] at hj ⊢
        rw [← hcl] at hi'
        rw [← hst]
        rcases Nat.lt_or_ge r' old.len with hr' | hr'
        · refine .inr ⟨?_, fun q => by have := hcat.pl (by omega) q; rw [hsub] at this; cases con0 <;> exact this, r', by omega, rfl, ?_⟩
          · have := rowlt hr' hj
            rw [← hws]; omega
          · rw [hcat.l r' hr', hsub, Con.sub_row _ _ _ _ (by omega) hle, Nat.zero_add] at hv
            exact hv
        · obtain ⟨k, rfl⟩ := Nat.exists_eq_add_of_le hr'
          rw [hcat.r k (by omega)] at hv
          obtain ⟨u, u1, u2⟩ := q3 k j v (by omega) (by rw [← hws]; exact hj) hv
          refine .inl ⟨k * i.size + j, u, ?_, u1, u2.weak (hcat.pr (by omega))⟩
          rw [Nat.add_mul, hws]; omega)
    have hv : (some ⟨(c.ι id).blk, (c.ι id).st + 0 * wd, none⟩ : Option Addr) = some ⟨(c.ι id).blk, st, none⟩ := by rw [Nat.zero_mul, Nat.add_zero, hst]
    rw [hv] at q4
    refine ⟨_, _, _, c, q4 _ _ hrun, .inl rfl, ?_, hext, fun q hq => .inl hq, ?_⟩
    · rw [hneed]
      refine VR.own id 0 n (some mm) wd _ m k1 k2 (by omega) k4 (.inr ⟨k5, ?_, ?_⟩)
      · rw [Nat.zero_mul, Nat.add_zero, hst]
      · rw [Nat.zero_add, ← hst]; exact k7
    · intro G' hG'
      exact HR.put hp.hr hG hent hG' hext k5 hoth hcr
end
end Go.Ev
/- append, copy, len, cap, min, max: the operations. -/
namespace Go.Ev
theorem tyA_some {env : Env} {l : Array TypeId} {k : Nat} {i : TI} (h : tyA env l k = some i) : ∃ t, l[k]? = some t ∧ env.ty.get t = some i := by
  unfold tyA at h
  split at h
  · rename_i t ht; exact ⟨t, by simpa using ht, h⟩
  · cases h
theorem append_args {argTypes : Array TypeId} {t tx : TypeId} (h0 : argTypes[0]? = some t) (h1 : argTypes[1]? = some tx) (ty : TypeId) (s x : Value) :
    Builtin.append_ argTypes ty #[s, x] = Builtin.append_ #[t, tx] ty #[s, x] := by
  simp [Builtin.append_, h0, h1]
theorem VRs.one' {w : World} {c : Cx} {x : AV} {l : List Value} (h : VRs w c [x] l) : ∃ x', l = [x'] ∧ VR w c x x' := by
  cases h with | cons _ v' _ l' h1 h2 => cases h2; exact ⟨v', rfl, h1⟩
theorem VRs.two' {w : World} {c : Cx} {x y : AV} {l : List Value} (h : VRs w c [x, y] l) : ∃ x' y', l = [x', y'] ∧ VR w c x x' ∧ VR w c y y' := by
  cases h with | cons _ v' _ l' h1 h2 =>
  obtain ⟨y', rfl, h3⟩ := h2.one'
  exact ⟨v', y', rfl, h1, h3⟩
section
variable {ρ : Type} {P : Program} {env : Env} (he : EnvOk P env) {t : List AV} {h : Heap} (hk : h.ok) {K : KP ρ} {r : ρ}
theorem at_builtin {c : Call} {b : Builtin} (hb : c.callee = .builtin b) {w : World} {cx : Cx} {x : Sem Next} (h : At t (.call c) w cx x) :
    ∃ (args : List Value) (ty : TypeId) (consts : Array Bool), VRs w cx (evs t c.args.toList) args ∧ x.run P w = (builtin b c.argTypes ty consts args.toArray).run P w := by
  obtain ⟨a, o, ho, ht, rfl⟩ := h
  refine ⟨c.args.toList.map a.eval, o.type, c.args.map fun | .const _ => true | _ => false, evs_sound ht _, ?_⟩
  have e : (c.args.toList.map a.eval).toArray = c.args.map a.eval := by rw [← Array.toList_map, Array.toArray_toList]
  rw [e]
  have e2 : execOp a.eval o = (resolve a.eval c o.type >>= fun d => invoke d.target d.args) := by simp only [execOp, ho]
  have e3 : resolve a.eval c o.type = (pure { target := .builtin b c.argTypes o.type (c.args.map fun | .const _ => true | _ => false), args := c.args.map a.eval } : Sem Deferred) := by unfold resolve; rw [hb]; rfl
  rw [e2, e3]
  rfl
theorem sliceCon_val {h : Heap} {i : TI} {v : Value} {old : Con} (hs : sliceCon h i (.val v) = some old) : v = Value.slice none 0 0 ∧ old.len = 0 := by
  unfold sliceCon at hs
  split at hs
  · rename_i heq; cases heq
  · rename_i heq; cases heq
  · rename_i heq
    injection heq with heq
    injection hs with hs
    exact ⟨heq, by rw [← hs]; exact zeros_len i 0⟩
  · cases hs
include he hk in
theorem append_sound {S : World → Cx → Sem Next → Prop} {ty tx e : TypeId} {i : TI} (hi : env.ty.get e = some i) {s : AV} {new : Con} {rd : List Nat} (hK : appendA env i s h new rd K = some r) (hS : AppAt P S ty tx e i s h new rd) : Does P h K r S := by
  unfold appendA at hK
  rw [onSlice_eq] at hK
  split at hK
  · rename_i old hold
    have hw := beq_iff.1 (guardB_some hK).1
    replace hK := (guardB_some hK).2
    split at hK
    · rename_i con hc
      have hcat := cat_some hc
      unfold appTo at hK
      split at hK
      · rename_i v
        obtain ⟨hv, h0⟩ := sliceCon_val hold
        subst hv
        refine appNew_sound he hk hi hold hw hc (by rw [hcat.len, h0, Nat.zero_add]) hS (R := rd) (by rintro id (q | q); exact q; simp [rdOf] at q) ?_ hK
        intro w c s' hs'
        have := hs'.val_inv
        subst this
        exact ⟨none, 0, by rw [h0], by omega⟩
      · rename_i o cap
        obtain ⟨g, hK⟩ := guardB_some hK
        have : old = o := by simp [sliceCon] at hold; exact hold.symm
        subst this
        refine appNew_sound he hk hi hold hw hc hcat.len.symm hS (R := rd) (by rintro id (q | q); exact q; simp [rdOf] at q) ?_ hK
        intro w c s' hs'
        cases hs' with | ro _ _ a m k1 k2 k3 k4 =>
        refine ⟨a, m, rfl, ?_⟩
        unfold roNew at g
        split at g
        · cases g
        · have := beq_iff.1 g
          have := k2 0 rfl
          omega
        · rename_i m'
          rw [Bool.and_eq_true] at g
          have g1 := beq_iff.1 g.1
          have g2 := blt_iff.1 g.2
          have := k2 _ rfl
          omega
      · rename_i id off len cap wd
        have hol : old.len = len := by
          simp only [sliceCon] at hold
          split at hold
          · rename_i k hk'
            cases hb : Nat.ble (off + len) k.len with
            | false => rw [hb] at hold; cases hold
            | true =>
              rw [hb] at hold
              simp only [cond_true, Option.some.injEq] at hold
              rw [← hold, Con.sub_len _ _ _ (Nat.le_of_ble_eq_true hb)]
          · cases hold
        cases gt : inTab h id off cap with
        | true =>
          rw [gt, cond_true] at hK
          obtain ⟨m, rfl, rfl⟩ := inTab_some gt
          exact appIn_sound he hk hi hold hw hc rfl hS hK
        | false =>
          rw [gt, cond_false] at hK
          cases g : ownNew cap len new.len with
          | true =>
            rw [g, cond_true] at hK
            refine appNew_sound he hk hi hold hw hc (by rw [hcat.len, hol]) hS (R := id :: rd) (by rintro id' (q | q); simp [q]; simp [rdOf] at q; simp [q]) ?_ hK
            intro w c s' hs'
            cases hs' with | own _ _ _ _ _ a m k1 k2 k3 k4 k5 =>
            refine ⟨a, m, by rw [hol], ?_⟩
            unfold ownNew at g
            split at g
            · cases g
            · rw [Bool.and_eq_true] at g
              have g1 := beq_iff.1 g.1
              have g2 := blt_iff.1 g.2
              have := k4 _ rfl
              omega
          | false =>
            rw [g, cond_false] at hK
            exact appTurn_sound he hk hi hold hw hc rfl hS hK
      · cases hK
    · cases hK
  · cases hK
include he hk in
theorem appendB_sound {c : Call} (hb : c.callee = .builtin .append) {s x : AV} (hargs : evs t c.args.toList = [s, x]) (hK : appendB env c.argTypes s x h K = some r) : Does P h K r (At t (.call c)) := by
  unfold appendB at hK
  split at hK
  · rename_i st xt hst hxt
    obtain ⟨ty, t1, t2⟩ := tyA_some hst
    obtain ⟨tx, t3, t4⟩ := tyA_some hxt
    split at hK
    · rename_i e hd
      split at hK
      · rename_i i hi
        have goal : ∀ {new : Con} {rd : List Nat}, appendA env i s h new rd K = some r →
            (∀ (w : World) (cx : Cx) (x' : Value) (G : Nat → Option Blk), VR w cx x x' → HR w cx G → (∀ id ∈ rd, G id = h.G id) → ∃ news, (∀ oty, AppRun P w ty tx oty e i x' new.len news) ∧ RowsRel w cx new i.size news) → Does P h K r (At t (.call c)) := by
          intro new rd hK hh
          refine append_sound he hk hi hK (ty := ty) (tx := tx) (e := e) ?_
          intro w cx y G hy hr hag
          obtain ⟨args, oty, consts, q1, q2⟩ := at_builtin (P := P) hb hy
          rw [hargs] at q1
          obtain ⟨s', x', rfl, q3, q4⟩ := q1.two'
          obtain ⟨news, q5, q6⟩ := hh w cx x' G q4 hr hag
          refine ⟨s', x', oty, news, q3, q5 oty, q6, ?_⟩
          intro v' w' hrun
          rw [q2]
          rw [← append_args t1 t3] at hrun
          simp only [builtin, Sem.run_bind, hrun, Result.andThen_ok, Sem.run_pure]
        split at hK
        · rename_i kd hxd
          split at hK
          · rename_i n hn
            obtain ⟨hg, hK⟩ := guardB_some hK
            simp only [Bool.and_eq_true, decide_eq_true_eq] at hg
            obtain ⟨⟨g1, g2⟩, g3⟩ := hg
            refine goal hK ?_
            intro w cx x' G hx hr _
            obtain ⟨kx, rfl⟩ := int?_some hn
            have := hx.val_inv
            subst this
            refine ⟨(madeCells i.zero.cells (n.toNat * i.size)).toList, ?_, ?_⟩
            · intro oty
              rw [zeros_len]
              exact appRun_zeros he t2 hd hi t4 hxd g1 g2 g3
            · intro r' j v hr' hj hv
              have hT := he.ty e i hi
              rw [zeros_len] at hr'
              have hlt := rowlt hr' hj
              have hget : (madeCells i.zero.cells (n.toNat * i.size)).toList[r' * i.size + j]? = some (i.zero.cells[(r' * i.size + j) % i.zero.cells.size]!) := by
                have := madeCells_get i.zero.cells (n.toNat * i.size) _ hlt
                simpa using this
              refine ⟨_, hget, ?_⟩
              refine zeros_rel hT w (cx.at _) n.toNat (madeCells i.zero.cells (n.toNat * i.size)) (fun k hk => madeCells_get _ _ _ hk) r' j v _ (by rw [zeros_len]; exact hr') (by rw [zeros_wd hT]; exact hj) hv ?_
              rw [zeros_wd hT]
              exact madeCells_get _ _ _ hlt
          · cases hK
        · obtain ⟨con, rd, k1, k2, k3⟩ := src_sound he hi t4 hK
          refine goal k1 ?_
          intro w cx x' G hx hr hag
          obtain ⟨news, k4, k5, _⟩ := k3 hx hr hag
          exact ⟨news, fun oty => appRun_src he t2 hd hi k4, k5⟩
      · cases hK
    · cases hK
  · cases hK
theorem copyCon_some {c c' : Con} {off n : Nat} {src : Con} (h : copyCon c off n src = some c') (h1 : off + n ≤ c.len) (h2 : n ≤ src.len) (hw : c.wd = src.wd) :
    c'.wd = c.wd ∧ c'.len = c.len ∧ (∀ i, i < c.len → (off ≤ i ∧ i < off + n ∧ c'.row i = src.row (i - off) ∧ (c'.pureF = true → src.pureF = true)) ∨ (¬ (off ≤ i ∧ i < off + n) ∧ c'.row i = c.row i ∧ (c'.pureF = true → c.pureF = true))) := by
  unfold copyCon at h
  split at h
  · rename_i x hx
    have q1 := cat_some hx
    have q2 := cat_some h
    have l1 : (c.sub 0 off).len = off := Con.sub_len _ _ _ (by omega)
    have l2 : (src.sub 0 n).len = n := Con.sub_len _ _ _ (by omega)
    have l3 : (c.sub (off + n) (c.len - (off + n))).len = c.len - (off + n) := Con.sub_len _ _ _ (by omega)
    have lx : x.len = off + n := by rw [q1.len, l1, l2]
    have pf : ∀ (k : Con) a b, (k.sub a b).pureF = k.pureF := by intro k a b; cases k <;> rfl
    refine ⟨?_, ?_, ?_⟩
    · rw [q2.wa, q1.wa, Con.sub_wd]
    · rw [q2.len, lx, l3]; omega
    · intro i hi
      rcases Nat.lt_or_ge i (off + n) with h3 | h3
      · rcases Nat.lt_or_ge i off with h4 | h4
        · refine .inr ⟨by omega, ?_, fun q => by have := q1.pl (by omega) (q2.pl (by omega) q); rwa [pf] at this⟩
          rw [q2.l i (by omega), q1.l i (by omega), Con.sub_row _ _ _ _ h4 (by omega), Nat.zero_add]
        · refine .inl ⟨h4, h3, ?_, fun q => by have := q1.pr (by omega) (q2.pl (by omega) q); rwa [pf] at this⟩
          obtain ⟨k, rfl⟩ := Nat.exists_eq_add_of_le h4
          have := q1.r k (by omega)
          rw [l1] at this
          rw [q2.l _ (by omega), this, Con.sub_row _ _ _ _ (by omega) (by omega), Nat.zero_add, Nat.add_sub_cancel_left]
      · refine .inr ⟨by omega, ?_, fun q => by have := q2.pr (by omega) q; rwa [pf] at this⟩
        obtain ⟨k, rfl⟩ := Nat.exists_eq_add_of_le h3
        have := q2.r k (by omega)
        rw [lx] at this
        rw [this, Con.sub_row _ _ _ _ (by omega) (by omega)]
  · cases h
include he hk in
theorem copyB_sound {c : Call} (hb : c.callee = .builtin .copy) {s x : AV} (hargs : evs t c.args.toList = [s, x]) (hK : copyB env c.argTypes s x h K = some r) : Does P h K r (At t (.call c)) := by
  unfold copyB at hK
  split at hK
  · rename_i st xt hst hxt
    obtain ⟨ty, t1, t2⟩ := tyA_some hst
    obtain ⟨tx, t3, t4⟩ := tyA_some hxt
    split at hK
    · rename_i e hd
      split at hK
      · rename_i i hi
        obtain ⟨src, rd, hK, hsw, k3⟩ := src_sound he hi t4 hK
        unfold copyA at hK
        split at hK
        · rename_i id off len cap wd _
          split at hK
          · rename_i con hcon
            obtain ⟨hg, hK⟩ := guardB_some hK
            rw [Bool.and_eq_true] at hg
            have g1 := Nat.le_of_ble_eq_true hg.1
            have g2 := beq_iff.1 hg.2
            split at hK
            · rename_i con' hcc
              rw [putK_eq] at hK
              have hmin1 : Nat.min src.len len ≤ src.len := Nat.min_le_left _ _
              have hmin2 : Nat.min src.len len ≤ len := Nat.min_le_right _ _
              obtain ⟨p1, p2, p3⟩ := copyCon_some hcc (by omega) hmin1 g2
              obtain ⟨ver, hent⟩ := Heap.con_ent hcon
              refine ⟨_, _, _, _, hK, Eff.put hk hent _ _, ?_⟩
              intro w cx y G hy hp
              obtain ⟨args, oty, consts, q1, q2⟩ := at_builtin (P := P) hb hy
              rw [hargs] at q1
              obtain ⟨s', x', rfl, q3, q4⟩ := q1.two'
              obtain ⟨news, k4, k5, k6⟩ := k3 q4 hp.hr (fun id' hid => hp.agree id' (.inl (by simp [hid])))
              have hG := hp.agree id (.inl (by simp))
              rw [con_some hcon] at hG
              have hbk : CellsRel w cx (cx.ι id) con := hp.hr.blk id _ hG
              cases q3 with | own _ _ _ _ _ a m z1 z2 z3 z4 z5 =>
              have hws : wd = i.size := by rw [← z2, ← hbk.wd, g2, hsw]
              have hun := (he.ty ty st t2).under
              rw [hd] at hun
              obtain ⟨n, hn⟩ : ∃ n, n = Nat.min src.len len := ⟨_, rfl⟩
              have hfc := k6 n (by omega)
              have hrun1 : ∀ (b : Option Addr) (m : Nat) (w' : World), (∀ ad, b = some ad → (storeCells ad (news.take (n * i.size))).run P w = .ok () w') → (b = none → w' = w) →
                  (Builtin.copy_ c.argTypes oty #[.slice b len m, x']).run P w = .ok (.int .i64 n) w' := by
                intro b m w' hst' hnone
                cases b with
                | none =>
                  have := hnone rfl
                  subst this
                  simp [Builtin.copy_, t1, run_underlying hun, k4.len, run_size he hi, ← hn, hfc, goInt]
                | some ad =>
                  simp [Builtin.copy_, t1, run_underlying hun, k4.len, run_size he hi, ← hn, hfc, goInt, hst' ad rfl]
              have hfin : ∀ {v' : Value} {w' : World}, (Builtin.copy_ c.argTypes oty #[.slice a len m, x']).run P w = .ok v' w' → y.run P w = .ok (.value v') w' := by
                intro v' w' hrun
                rw [q2]
                simp only [builtin, Sem.run_bind, hrun, Result.andThen_ok, Sem.run_pure]
              rcases z5 with z5 | ⟨z5, z6, z7⟩
              · -- nothing
                have hn0 : n = 0 := by omega
                have hl0 : len = 0 := by omega
                have hrun := hrun1 a m w (fun ad _ => by rw [hn0, Nat.zero_mul]; rfl) (fun _ => rfl)
                refine ⟨_, _, w, cx, hfin hrun, .inl rfl, by rw [hn]; exact .val _, Ext.refl w cx, fun q hq => .inl hq, ?_⟩
                intro G' hG'
                have hcell : CellsRel w cx (cx.ι id) con' := by
                  refine ⟨by rw [p1]; exact hbk.wd, fun q => by rw [p2]; exact hbk.dead q, hbk.own, fun q => ?_⟩
                  obtain ⟨arr, e', fz, h1, h2, h3, h5, h6, h7⟩ := hbk.arr q
                  refine ⟨arr, e', fz, h1, h2, h3, h5, by rw [p2]; exact h6, ?_⟩
                  intro i' j v u hi' hj hv hu
                  rw [p2] at hi'
                  rcases p3 i' hi' with ⟨u1, u2, _⟩ | ⟨u1, u2, pf⟩
                  · rw [← hn] at u2; omega
                  · rw [u2] at hv
                    exact (h7 i' j v u hi' hj hv hu).weak pf
                have g1' : G' id = some (.cells con') := by
                  rw [(hG' id).1 (.inl (by simp))]
                  exact G_put hent _
                have g2' : ∀ i', i' ≠ id → G' i' = G i' := by
                  intro i' hi'
                  refine (hG' i').2 ?_
                  rintro (q | q)
                  · simp at q; exact hi' q
                  · simp only [Heap.put] at q; omega
                refine HR.patch (fun i' => i' = id) hp.hr (Ext.refl w cx) ?_ ?_ ?_
                · intro i' b' hi' hne
                  rw [g2' i' hne] at hi'
                  exact ⟨hi', fun hl => ⟨rfl, (hp.hr.blk i' b' hi').owned hl⟩⟩
                · rintro i' b' hi' rfl
                  rw [g1'] at hi'
                  injection hi' with hi'
                  subst hi'
                  exact ⟨hp.hr.valid i' _ hG, hcell⟩
                · rintro i' j b1 b2 hi' hj rfl li lj hbk'
                  by_cases hij : j = i'
                  · exact hij.symm
                  · rw [g2' j hij] at hj
                    exact hp.hr.inj i' j _ _ hG hj li lj hbk'
              · subst z6
                obtain ⟨arr, e', fz, h1, h2, h3, h5, h6, h7⟩ := hbk.arr z5
                have hnl := k4.newsLen
                have hnsz : n * i.size ≤ src.len * i.size := Nat.mul_le_mul_right _ (by omega)
                have htl : (news.take (n * i.size)).length = n * i.size := by rw [List.length_take, hnl]; omega
                have hbase : (cx.ι id).st + off * wd + (news.take (n * i.size)).length ≤ (cx.ι id).size := by
                  have : (off + n) * wd ≤ (off + m) * wd := Nat.mul_le_mul_right _ (by omega)
                  rw [Nat.add_mul] at this
                  rw [htl, ← hws]; omega
                have hone : ∀ u ∈ news.take (n * i.size), u.oneCell' = true := fun u hu => k4.one u (List.mem_of_mem_take hu)
                have hsc := run_storeCells_cells (P := P) (cx.ι id).blk ((cx.ι id).st + off * wd) (news.take (n * i.size)) 0 w
                  (fun j hj => by rw [cell_of_arr h1 (u := arr[(cx.ι id).st + off * wd + 0 + j]'(by omega)) (by simp)]; rfl)
                  (fun j hj => frozen_of_arr h1 (h3 _ (by omega))) hone
                rw [Nat.add_zero] at hsc
                have hrun := hrun1 (some ⟨(cx.ι id).blk, (cx.ι id).st + off * wd, none⟩) m _ (fun ad q => by injection q with q; subst q; exact hsc) (by intro q; cases q)
                obtain ⟨hext, hoth, hcr⟩ := CellsRel.write (fun b hm => (hp.hr.dis b hm).1) (c' := cx) (rb' := cx.ι id) (con' := con') (o := (cx.ι id).st + off * wd) (vs := news.take (n * i.size)) hbk z5 hone hbase z5 rfl rfl rfl p1 (by rw [p2]; exact h6) (fun w' hw => Ext.refl w' cx) (hbk.own z5) (by
                  intro i' j v hi' hj hv
                  rw [p2] at hi'
                  rw [z2] at hj ⊢
                  rcases p3 i' hi' with ⟨u1, u2, u3, pf⟩ | ⟨u1, u2, pf⟩
                  · rw [← hn] at u2
                    rw [u3] at hv
                    obtain ⟨u, v1, v2⟩ := k5 (i' - off) j v (by omega) (by rw [← hws]; exact hj) hv
                    refine .inl ⟨(i' - off) * i.size + j, u, ?_, ?_, v2.weak pf⟩
                    · have : i' * wd = off * wd + (i' - off) * i.size := by rw [← hws, ← Nat.add_mul]; congr 1; omega
                      omega
                    · have := rowlt (show i' - off < n by omega) (show j < i.size by rw [← hws]; exact hj)
                      rw [List.getElem?_take, if_pos this]; exact v1
                  · rw [u2] at hv
                    refine .inr ⟨?_, pf, i', hi', rfl, hv⟩
                    rw [← hn] at u1
                    rw [htl, ← hws]
                    rcases Nat.lt_or_ge i' off with y1 | y1
                    · have := rowlt y1 hj; omega
                    · have y2 : off + n ≤ i' := by omega
                      have := Nat.mul_le_mul_right wd y2
                      rw [Nat.add_mul] at this
                      omega)
                refine ⟨_, _, _, cx, hfin hrun, .inl rfl, by rw [hn]; exact .val _, hext, fun q hq => .inl hq, ?_⟩
                intro G' hG'
                exact HR.put hp.hr hG hent hG' hext z5 hoth hcr
            · cases hK
          · cases hK
        · cases hK
      · cases hK
    · cases hK
  · cases hK
end
end Go.Ev
/- Maps, the letters of strings, slices of arrays. -/
namespace Go.Ev
theorem searchL_some {ρ : Type} {d : TypeDesc} {k : Value} {F : Nat → AV → Option ρ} {G : Option ρ} {r : ρ} : ∀ (l : List ME) (i : Nat), searchL d k F G l i = some r →
    (∃ j e, l[j]? = some e ∧ Instr.sameNow d k e.key = some true ∧ (∀ (a : Nat) (e' : ME), a < j → l[a]? = some e' → Instr.sameNow d k e'.key = some false) ∧ F (i + j) e.val = some r) ∨
    (G = some r ∧ ∀ (a : Nat) (e' : ME), l[a]? = some e' → Instr.sameNow d k e'.key = some false)
  | [], i, h => .inr ⟨h, fun a e' q => by simp at q⟩
  | e :: l, i, h => by
    have h' : (match Instr.sameNow d k e.key with | some x => bif x then F i e.val else searchL d k F G l (i + 1) | none => none) = some r := h
    cases hs : Instr.sameNow d k e.key with
    | none => rw [hs] at h'; cases h'
    | some b =>
      rw [hs] at h'
      cases b with
      | true => exact .inl ⟨0, e, rfl, hs, fun a e' q => absurd q (Nat.not_lt_zero a), h'⟩
      | false =>
        have h2 : searchL d k F G l (i + 1) = some r := h'
        rcases searchL_some l (i + 1) h2 with ⟨j, e1, q1, q2, q3, q4⟩ | ⟨q1, q2⟩
        · refine .inl ⟨j + 1, e1, by simpa using q1, q2, ?_, by rw [show i + (j + 1) = i + 1 + j by omega]; exact q4⟩
          intro a e' ha he
          cases a with
          | zero => simp at he; subst he; exact hs
          | succ a => exact q3 a e' (by omega) (by simpa using he)
        · refine .inr ⟨q1, ?_⟩
          intro a e' he
          cases a with
          | zero => simp at he; subst he; exact hs
          | succ a => exact q2 a e' (by simpa using he)
theorem findIdx_range {p : Nat → Bool} {n : Nat} (h : ∃ i, i < n ∧ p i = true) : (List.range n).findIdx p < n ∧ p ((List.range n).findIdx p) = true ∧ ∀ a, a < (List.range n).findIdx p → p a = false := by
  obtain ⟨i, h1, h2⟩ := h
  have hlt : (List.range n).findIdx p < (List.range n).length := List.findIdx_lt_length_of_exists ⟨i, by simpa using h1, h2⟩
  have hlt' : (List.range n).findIdx p < n := by simpa using hlt
  refine ⟨hlt', ?_, fun a ha => ?_⟩
  · have := List.findIdx_getElem (w := hlt)
    simpa using this
  · have := List.not_of_lt_findIdx ha
    have ha' : a < n := by omega
    simpa using this
theorem searchK_some {ρ : Type} {d : TypeDesc} {k : Value} {m : MC} {F : Nat → AV → Option ρ} {G : Option ρ} {r : ρ} (h : searchK d k m F G = some r) :
    (∃ j, j < m.len ∧ Instr.sameNow d k (m.ent j).key = some true ∧ (∀ a, a < j → Instr.sameNow d k (m.ent a).key = some false) ∧ F j (m.ent j).val = some r) ∨
    (G = some r ∧ ∀ a, a < m.len → Instr.sameNow d k (m.ent a).key = some false) := by
  unfold searchK at h
  split at h
  · rename_i l c
    have ent : ∀ (a : Nat) (e : ME), l[a]? = some e → (MC.ents l c).ent a = e := fun a e he => by
      show nthD ME.z l a = e
      rw [nthD_eq, List.getD_eq_getElem?_getD, he]; rfl
    rcases searchL_some l 0 h with ⟨j, e, q1, q2, q3, q4⟩ | ⟨q1, q2⟩
    · have hj : j < l.length := by
        rcases Nat.lt_or_ge j l.length with x | x
        · exact x
        · rw [List.getElem?_eq_none x] at q1; cases q1
      refine .inl ⟨j, hj, by rw [ent j e q1]; exact q2, fun a ha => ?_, by rw [ent j e q1]; rw [Nat.zero_add] at q4; exact q4⟩
      have ha' : a < l.length := by omega
      have hx : l[a]? = some l[a] := by simp [ha']
      rw [ent a _ hx]
      exact q3 a _ ha hx
    · refine .inr ⟨q1, fun a ha => ?_⟩
      have ha' : a < l.length := ha
      have hx : l[a]? = some l[a] := by simp [ha']
      rw [ent a _ hx]
      exact q2 a _ hx
  · rename_i n f c
    obtain ⟨g1, h⟩ := guardB_some h
    have g1 := @of_decide_eq_true _ (Classical.propDecidable _) g1
    have isf : ∀ a, a < n → (Instr.sameNow d k (f a).key == some true) = false → Instr.sameNow d k (f a).key = some false := fun a ha hne => by
      have hs := g1 a ha
      cases hb : Instr.sameNow d k (f a).key with
      | none => rw [hb] at hs; cases hs
      | some b =>
        rw [hb] at hne
        cases b with
        | true => exact absurd hne (by decide)
        | false => rfl
    cases hh : hasKey d k n f with
    | true =>
      rw [hh, cond_true] at h
      have hh := @of_decide_eq_true _ (Classical.propDecidable _) hh
      obtain ⟨i, i1, i2⟩ := hh
      obtain ⟨k1, k2, k3⟩ := findIdx_range (p := fun i => Instr.sameNow d k (f i).key == some true) (n := n) ⟨i, i1, by simp [i2]⟩
      refine .inl ⟨idxKey d k n f, k1, ?_, fun a ha => isf a (Nat.lt_trans ha k1) (k3 a ha), h⟩
      show Instr.sameNow d k (f (idxKey d k n f)).key = some true
      exact eq_of_beq k2
    | false =>
      rw [hh, cond_false] at h
      have hh := @of_decide_eq_false _ (Classical.propDecidable _) hh
      refine .inr ⟨h, fun a ha => isf a ha ?_⟩
      rw [Bool.eq_false_iff]
      intro q
      exact hh ⟨a, ha, by simpa using q⟩
theorem findNow_hit {d : TypeDesc} {k : Value} : ∀ (es : List MapEntry) (i j : Nat) (e : MapEntry), es[j]? = some e → Instr.sameNow d k e.key = some true → (∀ (a : Nat) (e' : MapEntry), a < j → es[a]? = some e' → Instr.sameNow d k e'.key = some false) →
    Instr.findNow d k es i = some (some (i + j, e.val))
  | [], i, j, e, h, _, _ => by simp at h
  | e0 :: es, i, j, e, h, hs, hb => by
    cases j with
    | zero => simp at h; subst h; simp [Instr.findNow, hs]
    | succ j =>
      have h0 := hb 0 e0 (Nat.succ_pos j) rfl
      have ih := findNow_hit es (i + 1) j e (by simpa using h) hs (fun a e' ha he => hb (a + 1) e' (by omega) (by simpa using he))
      simp only [Instr.findNow, h0]
      rw [ih, show i + 1 + j = i + (j + 1) by omega]
theorem findNow_miss {d : TypeDesc} {k : Value} : ∀ (es : List MapEntry) (i : Nat), (∀ (a : Nat) (e' : MapEntry), es[a]? = some e' → Instr.sameNow d k e'.key = some false) → Instr.findNow d k es i = some none
  | [], i, _ => rfl
  | e0 :: es, i, hb => by
    have h0 := hb 0 e0 rfl
    simp only [Instr.findNow, h0]
    exact findNow_miss es (i + 1) (fun a e' he => hb (a + 1) e' (by simpa using he))
def KeysOk (m : MC) (es : Array MapEntry) : Prop := es.size = m.len ∧ ∀ i, i < m.len → ∃ e, es[i]? = some e ∧ e.key = (m.ent i).key
section
variable {P : Program} {env : Env}
theorem keyD_cases {d : TypeDesc} (h : keyD d = true) : (∃ k, d = .int k) ∨ d = .string ∨ d = .bool := by
  unfold keyD at h
  split at h
  · exact .inl ⟨_, rfl⟩
  · exact .inr (.inl rfl)
  · exact .inr (.inr rfl)
  · cases h
theorem run_checkKey {kt : TypeId} {d : TypeDesc} (hu : P.underlying kt = some d) (hd : keyD d = true) (b : Bool) (v : Value) (w : World) : (Instr.checkKey b 10000 kt v).run P w = .ok () w := by
  have hr := run_underlying hu w
  show (Instr.checkKey b (9999 + 1) kt v).run P w = _
  rcases keyD_cases hd with ⟨k, rfl⟩ | rfl | rfl <;> (unfold Instr.checkKey; simp [hr])
theorem run_findKey_hit {kt : TypeId} {d : TypeDesc} (hu : P.underlying kt = some d) {k : Value} {m : MC} {es : Array MapEntry} (hk : KeysOk m es) {j : Nat} (hj : j < m.len) (h1 : Instr.sameNow d k (m.ent j).key = some true)
    (h2 : ∀ a, a < j → Instr.sameNow d k (m.ent a).key = some false) (w : World) : ∃ e, es[j]? = some e ∧ e.key = (m.ent j).key ∧ (Instr.findKey kt k es.toList).run P w = .ok (some (j, e.val)) w := by
  obtain ⟨e, q1, q2⟩ := hk.2 j hj
  have hr := run_underlying hu w
  have := findNow_hit (d := d) (k := k) es.toList 0 j e (by simpa using q1) (by rw [q2]; exact h1) (fun a e' ha he => by
    obtain ⟨e2, g1, g2⟩ := hk.2 a (by omega)
    have he' : es[a]? = some e' := by simpa using he
    rw [g1] at he'
    injection he' with he'
    subst he'
    rw [g2]; exact h2 a ha)
  rw [Nat.zero_add] at this
  exact ⟨e, q1, q2, by simp [Instr.findKey, hr, this]⟩
theorem run_findKey_miss {kt : TypeId} {d : TypeDesc} (hu : P.underlying kt = some d) {k : Value} {m : MC} {es : Array MapEntry} (hk : KeysOk m es)
    (h2 : ∀ a, a < m.len → Instr.sameNow d k (m.ent a).key = some false) (w : World) : (Instr.findKey kt k es.toList).run P w = .ok none w := by
  have hr := run_underlying hu w
  have := findNow_miss (d := d) (k := k) es.toList 0 (fun a e' he => by
    have he' : es[a]? = some e' := by simpa using he
    have ha : a < m.len := by
      rw [← hk.1]
      rcases Nat.lt_or_ge a es.size with x | x
      · exact x
      · rw [Array.getElem?_eq_none x] at he'; cases he'
    obtain ⟨e2, g1, g2⟩ := hk.2 a ha
    rw [g1] at he'
    injection he' with he'
    subst he'
    rw [g2]; exact h2 a ha)
  simp [Instr.findKey, hr, this]
end
theorem mapTy_some {ρ : Type} {env : Env} {t : TypeId} {F : TypeDesc → TI → Option ρ} {r : ρ} (h : mapTy env t F = some r) :
    ∃ i kt et ki ei, env.ty.get t = some i ∧ i.desc = .map kt et ∧ env.ty.get kt = some ki ∧ env.ty.get et = some ei ∧ keyD ki.desc = true ∧ F ki.desc ei = some r := by
  unfold mapTy at h
  split at h
  · rename_i i hi
    split at h
    · rename_i kt et hd
      split at h
      · rename_i ki ei hk he
        obtain ⟨g, h⟩ := guardB_some h
        exact ⟨i, kt, et, ki, ei, hi, hd, hk, he, g, h⟩
      · cases h
    · cases h
  · cases h
theorem onMap_some {ρ : Type} {h : Heap} {id : Nat} {F : Bool → MC → Option ρ} {r : ρ} (hs : onMap h id F = some r) : ∃ ver p m, findE h.es id = some ⟨id, ver, .map p m⟩ ∧ F p m = some r := by
  unfold onMap at hs
  split at hs
  · rename_i i v p m he
    have := findE_id he
    simp only at this
    subst this
    exact ⟨v, p, m, he, hs⟩
  · cases hs
theorem G_map {h : Heap} {id ver : Nat} {b : Blk} (he : findE h.es id = some ⟨id, ver, b⟩) : h.G id = some b := by simp [Heap.G, he]
theorem sameNow_eq {d : TypeDesc} {a b : Value} (h : Instr.sameNow d a b = some true) : a = b := by
  unfold Instr.sameNow at h
  split at h
  · rename_i k x k' y
    split at h
    · rename_i hk
      subst hk
      injection h with h
      have hxy : x = y := eq_of_beq h
      rw [hxy]
    · cases h
  · rename_i x y
    injection h with h
    have hxy : x = y := by
      rw [beq_toListBytes] at h
      have h1 := eq_of_beq h
      rw [ByteArray.toList_eq, ByteArray.toList_eq] at h1
      cases x; cases y
      have h2 := Array.toList_inj.1 h1
      simp only at h2
      rw [h2]
    rw [hxy]
  · rename_i x y
    injection h with h
    have hxy : x = y := eq_of_beq h
    rw [hxy]
  · cases h
theorem sameNow_bits {d : TypeDesc} {a b : Value} (h : Instr.sameNow d a b = some true) : Instr.sameBits 10000 b a = true := by
  have hab := sameNow_eq h
  subst hab
  unfold Instr.sameNow at h
  split at h
  · simp [Instr.sameBits]
  · show (_ == _) = true
    injection h
  · show (_ == _) = true
    injection h
  · cases h
section
variable {ρ : Type} {P : Program} {env : Env} (he : EnvOk P env) {t : List AV} {h : Heap} (hk : h.ok) {K : KP ρ} {r : ρ}
theorem found_sound {w : World} {c : Cx} {ok : Bool} {v : AV} {v' : Value} {b : Bool} (hv : VR w c v v') : VR w c (foundA ok v b) (if ok = true then .tuple #[v', .bool b] else v') := by
  unfold foundA
  cases ok with
  | true => exact .tup [v, .val (.bool b)] [v', .bool b] (.cons _ _ _ _ hv (.cons _ _ _ _ (.val _) .nil))
  | false => exact hv
include he hk in
theorem lookup_sound {ty : TypeId} {x ix : Operand} {ok : Bool} (hK : lookupA env ty (ev t x) (ev t ix) ok h K = some r) : Does P h K r (At t (.lookup ty x ix ok)) := by
  unfold lookupA at hK
  split at hK
  · rename_i kv hix
    obtain ⟨i, kt, et, ki, ei, hi, hd, hki, hei, hkd, hK⟩ := mapTy_some hK
    have hu := (he.ty ty i hi).under
    rw [hd] at hu
    have huk := (he.ty kt ki hki).under
    -- what the machine answers
    have hit : ∀ (w : World) (r' : Nat) (es : Array MapEntry) (ck : Nat) (m : MC) (j : Nat), w.heap[r']? = some (.map es ck) → KeysOk m es → j < m.len → Instr.sameNow ki.desc kv (m.ent j).key = some true → (∀ a, a < j → Instr.sameNow ki.desc kv (m.ent a).key = some false) →
        ∃ e, es[j]? = some e ∧ (Instr.lookup ty (.map (some r')) kv ok).run P w = .ok (if ok = true then .tuple #[e.val, .bool true] else e.val) w := by
      intro w r' es ck m j hw hko hj h1 h2
      obtain ⟨e, q1, q2, q3⟩ := run_findKey_hit huk hko hj h1 h2 w
      have hr := run_underlying hu w
      have hg : (getObj r').run P w = .ok (.map es ck) w := by simp [getObj, Sem.run, hw]
      have hc := fun b => run_checkKey huk hkd b kv w
      refine ⟨e, q1, ?_⟩
      simp [Instr.lookup, hr, hg, hc, q3]
    have miss : ∀ (w : World) (r' : Nat) (es : Array MapEntry) (ck : Nat) (m : MC), w.heap[r']? = some (.map es ck) → KeysOk m es → (∀ a, a < m.len → Instr.sameNow ki.desc kv (m.ent a).key = some false) →
        (Instr.lookup ty (.map (some r')) kv ok).run P w = .ok (if ok = true then .tuple #[ei.zero, .bool false] else ei.zero) w := by
      intro w r' es ck m hw hko h2
      have q3 := run_findKey_miss huk hko h2 w
      have hr := run_underlying hu w
      have hg : (getObj r').run P w = .ok (.map es ck) w := by simp [getObj, Sem.run, hw]
      have hc := fun b => run_checkKey huk hkd b kv w
      have hz := run_zero he hei w
      simp [Instr.lookup, hr, hg, hc, q3, hz]
    have hixv : ∀ (w : World) (c : Cx) (a : Act), VRs w c t a.tmps.toList → a.eval ix = kv := fun w c a ht => by
      have := ev_sound ht ix
      rw [hix] at this
      exact this.val_inv
    split at hK
    · rename_i hx
      refine Does.same hk _ [] hK ?_
      rintro w c s G ⟨a, o, ho, ht, rfl⟩ hp
      have h4 := ev_sound ht x
      rw [hx] at h4
      have hx' := h4.val_inv
      have hr := run_underlying hu w
      have hc := fun b => run_checkKey huk hkd b kv w
      have hz := run_zero he hei w
      have q3 := run_findKey_miss (m := .ents [] 0) (es := #[]) huk ⟨rfl, fun i hi => absurd hi (Nat.not_lt_zero i)⟩ (k := kv) (fun a ha => absurd ha (Nat.not_lt_zero a)) w
      refine ⟨_, ?_, found_sound (ok := ok) (b := false) (ofVal_sound w c ei.zero)⟩
      have q3' : (Instr.findKey kt kv []).run P w = .ok none w := q3
      simp only [execOp, ho, hx', hixv w c a ht]
      simp [Instr.lookup, hr, hc, q3', hz]
    · rename_i m hx
      rcases searchK_some hK with ⟨j, hj, h1, h2, hK⟩ | ⟨hK, h2⟩
      · refine Does.same hk _ [] hK ?_
        rintro w c s G ⟨a, o, ho, ht, rfl⟩ hp
        have h4 := ev_sound ht x
        rw [hx] at h4
        generalize hx' : a.eval x = x' at h4
        cases h4 with | rmp _ r' es ck g k1 k2 k3 k4 k5 =>
        have hko : KeysOk m es := ⟨k3, fun i hi => ⟨g i, (k4 i hi).1, (k4 i hi).2⟩⟩
        obtain ⟨e, e1, e2⟩ := hit w r' es ck m j k2 hko hj h1 h2
        rw [(k4 j hj).1] at e1
        injection e1 with e1
        subst e1
        refine ⟨_, ?_, found_sound (ok := ok) (b := true) (VR.mono (Ext0.ofNone w c) (k5 j hj))⟩
        simp only [execOp, ho, hx', hixv w c a ht, Sem.run_bind, e2, Result.andThen_ok, Sem.run_pure]
      · refine Does.same hk _ [] hK ?_
        rintro w c s G ⟨a, o, ho, ht, rfl⟩ hp
        have h4 := ev_sound ht x
        rw [hx] at h4
        generalize hx' : a.eval x = x' at h4
        cases h4 with | rmp _ r' es ck g k1 k2 k3 k4 k5 =>
        have hko : KeysOk m es := ⟨k3, fun i hi => ⟨g i, (k4 i hi).1, (k4 i hi).2⟩⟩
        have e2 := miss w r' es ck m k2 hko h2
        refine ⟨_, ?_, found_sound (ok := ok) (b := false) (ofVal_sound w c ei.zero)⟩
        simp only [execOp, ho, hx', hixv w c a ht, Sem.run_bind, e2, Result.andThen_ok, Sem.run_pure]
    · rename_i id hx
      obtain ⟨ver, p, m, hent, hK⟩ := onMap_some hK
      have ko : ∀ {w : World} {c : Cx} {es : Array MapEntry}, es.size = m.len → (∀ i, i < m.len → ∃ e, es[i]? = some e ∧ e.key = (m.ent i).key ∧ e.born = (m.ent i).born ∧ VR w (c.at p) (m.ent i).val e.val) → KeysOk m es :=
        fun h1 h2 => ⟨h1, fun i hi => by obtain ⟨e, q1, q2, _⟩ := h2 i hi; exact ⟨e, q1, q2⟩⟩
      rcases searchK_some hK with ⟨j, hj, h1, h2, hK⟩ | ⟨hK, h2⟩
      · refine Does.same hk _ [id] hK ?_
        rintro w c s G ⟨a, o, ho, ht, rfl⟩ hp
        have h4 := ev_sound ht x
        rw [hx] at h4
        generalize hx' : a.eval x = x' at h4
        cases h4 with | mp _ k1 k2 =>
        have hG := hp.agree id (.inl (by simp))
        rw [G_map hent] at hG
        have hb : MapRel w c (c.ι id) p m := hp.hr.blk id _ hG
        obtain ⟨es, b1, b2, b3⟩ := hb.obj
        obtain ⟨e, e1, e2⟩ := hit w _ es _ m j b1 (ko b2 b3) hj h1 h2
        obtain ⟨e', f1, f2, f3, f4⟩ := b3 j hj
        rw [f1] at e1
        injection e1 with e1
        subst e1
        refine ⟨_, ?_, found_sound (ok := ok) (b := true) f4.lower⟩
        simp only [execOp, ho, hx', hixv w c a ht, Sem.run_bind, e2, Result.andThen_ok, Sem.run_pure]
      · refine Does.same hk _ [id] hK ?_
        rintro w c s G ⟨a, o, ho, ht, rfl⟩ hp
        have h4 := ev_sound ht x
        rw [hx] at h4
        generalize hx' : a.eval x = x' at h4
        cases h4 with | mp _ k1 k2 =>
        have hG := hp.agree id (.inl (by simp))
        rw [G_map hent] at hG
        have hb : MapRel w c (c.ι id) p m := hp.hr.blk id _ hG
        obtain ⟨es, b1, b2, b3⟩ := hb.obj
        have e2 := miss w _ es _ m b1 (ko b2 b3) h2
        refine ⟨_, ?_, found_sound (ok := ok) (b := false) (ofVal_sound w c ei.zero)⟩
        simp only [execOp, ho, hx', hixv w c a ht, Sem.run_bind, e2, Result.andThen_ok, Sem.run_pure]
    · cases hK
  · cases hK
end
end Go.Ev
/- Maps: what writes to them; new ones; the letters of strings. -/
namespace Go.Ev
def World.lay (w : World) (b : Nat) (o : Obj) : World := { w with heap := w.heap.setIfInBounds b o }
theorem lay_facts {w : World} {b : Nat} {o o' : Obj} (h : w.heap[b]? = some o) : (World.lay w b o').heap[b]? = some o' ∧ (∀ k, k ≠ b → (World.lay w b o').heap[k]? = w.heap[k]?) ∧ (World.lay w b o').heap.size = w.heap.size := by
  have hb : b < w.heap.size := by
    rcases Nat.lt_or_ge b w.heap.size with x | x
    · exact x
    · rw [Array.getElem?_eq_none x] at h; cases h
  refine ⟨?_, fun k hk => ?_, ?_⟩
  · simp [World.lay, hb]
  · simp [World.lay, Array.getElem?_setIfInBounds, Ne.symm hk]
  · simp [World.lay]
theorem Ext.lay {w : World} {c : Cx} (hd : ∀ b, c.M b → ¬ c.O b) {b : Nat} {o o' : Obj} (h : w.heap[b]? = some o) (hO : c.O b) : Ext w c (World.lay w b o') c := by
  obtain ⟨q1, q2, q3⟩ := lay_facts (o' := o') h
  refine ⟨⟨fun _ q => q, fun k _ hm => q2 k (fun e => hd k hm (e ▸ hO)), fun i hi => ⟨hi, rfl⟩⟩, rfl, rfl, rfl, by omega, ?_, fun _ _ h => h, fun _ _ q => q, fun _ q q' => absurd q q'⟩
  intro k _ hn
  exact q2 k (fun e => hn (e ▸ hO))
def notRow : Obj → Bool
  | .cells _ _ _ => false
  | _ => true
theorem run_lay {P : Program} {w : World} {b : Nat} {o o' : Obj} (h : w.heap[b]? = some o) (hn : notRow o = true := by rfl) : (setObj b o').run P w = .ok () (World.lay w b o') := by
  cases o <;> first | (cases hn; done) | simp [setObj, Sem.run, h, World.lay]
theorem run_get {P : Program} {w : World} {b : Nat} {o : Obj} (h : w.heap[b]? = some o) (hn : notRow o = true := by rfl) : (getObj b).run P w = .ok o w := by
  cases o <;> first | (cases hn; done) | simp [getObj, Sem.run, h]
def EntsOk (w : World) (c : Cx) (p : Bool) (m : MC) (es : Array MapEntry) : Prop := es.size = m.len ∧ ∀ i, i < m.len → ∃ e, es[i]? = some e ∧ e.key = (m.ent i).key ∧ e.born = (m.ent i).born ∧ VR w (c.at p) (m.ent i).val e.val
theorem EntsOk.keys {w : World} {c : Cx} {p : Bool} {m : MC} {es : Array MapEntry} (h : EntsOk w c p m es) : KeysOk m es := ⟨h.1, fun i hi => by obtain ⟨e, q1, q2, _⟩ := h.2 i hi; exact ⟨e, q1, q2⟩⟩
theorem Does.lay {ρ : Type} {P : Program} {h : Heap} (hk : h.ok) {K : KP ρ} {r : ρ} {s : World → Cx → Sem Next → Prop} {id ver : Nat} {b0 b1 : Blk} (he : findE h.es id = some ⟨id, ver, b0⟩) {v : AV} (hK : K v (h.put id b1) [id] [id] = some r)
    (hlive : ∀ w c rb, BlkRel w c rb b0 → rb.live = true)
    (hs : ∀ w c x G, s w c x → Pre w c h (h.put id b1) [id] [id] G → BlkRel w c (c.ι id) b0 → ∃ nx v' o o', w.heap[(c.ι id).blk]? = some o ∧ x.run P w = .ok nx (World.lay w (c.ι id).blk o') ∧ (nx = .value v' ∨ (nx = .skip ∧ v' = undef)) ∧
      VR w c v v' ∧ BlkRel (World.lay w (c.ι id).blk o') c (c.ι id) b1) : Does P h K r s := by
  refine ⟨v, h.put id b1, [id], [id], hK, Eff.put hk he _ _, ?_⟩
  intro w c x G hx hp
  have hG := hp.agree id (.inl (by simp))
  rw [G_map he] at hG
  have hb := hp.hr.blk id _ hG
  have hl := hlive w c _ hb
  obtain ⟨nx, v', o, o', h1, h2, h3, h4, h5⟩ := hs w c x G hx hp hb
  have hO := hb.owned hl
  have hext : Ext w c (World.lay w (c.ι id).blk o') c := Ext.lay (fun b hm => (hp.hr.dis b hm).1) h1 hO
  obtain ⟨q1, q2, q3⟩ := lay_facts (o' := o') h1
  refine ⟨nx, v', _, c, h2, h3, VR.mono hext.toExt0 h4, hext, fun q hq => .inl hq, fun G' hG' => ?_⟩
  exact HR.put hp.hr hG he hG' hext hl q2 h5
theorem Does.putM {ρ : Type} {P : Program} {h : Heap} (hk : h.ok) {K : KP ρ} {r : ρ} {s : World → Cx → Sem Next → Prop} {id ver : Nat} {p p' : Bool} {m m' : MC} (he : findE h.es id = some ⟨id, ver, .map p m⟩) {v : AV} (hK : K v (h.put id (.map p' m')) [id] [id] = some r)
    (hs : ∀ w c x G, s w c x → Pre w c h (h.put id (.map p' m')) [id] [id] G → ∀ es, (c.ι id).live = true → w.heap[(c.ι id).blk]? = some (.map es m.clock) → EntsOk w c p m es →
      ∃ nx v' es', x.run P w = .ok nx (World.lay w (c.ι id).blk (.map es' m'.clock)) ∧ (nx = .value v' ∨ (nx = .skip ∧ v' = undef)) ∧ VR w c v v' ∧ EntsOk w c p' m' es') : Does P h K r s := by
  refine Does.lay hk he hK (fun w c rb hb => hb.live) ?_
  intro w c x G hx hp hb
  obtain ⟨es, b1, b2, b3⟩ := hb.obj
  obtain ⟨nx, v', es', h1, h2, h3, h4⟩ := hs w c x G hx hp es hb.live b1 ⟨b2, b3⟩
  have hext : Ext w c (World.lay w (c.ι id).blk (.map es' m'.clock)) c := Ext.lay (fun b hm => (hp.hr.dis b hm).1) b1 hb.own
  obtain ⟨q1, q2, q3⟩ := lay_facts (o' := .map es' m'.clock) b1
  refine ⟨nx, v', _, _, b1, h1, h2, h3, hb.live, hb.own, es', q1, h4.1, fun i hi => ?_⟩
  obtain ⟨e, f1, f2, f3, f4⟩ := h4.2 i hi
  exact ⟨e, f1, f2, f3, VR.mono (hext.toExt0.at _) f4⟩
theorem MC.upd_len (m : MC) (i : Nat) (e : ME) : (m.upd i e).len = m.len := by
  cases m with
  | ents l c => show (setL l i e).length = _; rw [setL_eq]; simp [MC.len]
  | mtab n f c => rfl
theorem MC.upd_clock (m : MC) (i : Nat) (e : ME) : (m.upd i e).clock = m.clock := by cases m <;> rfl
theorem MC.upd_ent (m : MC) (i j : Nat) (e : ME) (hi : i < m.len) : (m.upd i e).ent j = if j = i then e else m.ent j := by
  cases m with
  | ents l c =>
    have hi' : i < l.length := hi
    show nthD ME.z (setL l i e) j = if j = i then e else nthD ME.z l j
    rw [setL_eq, nthD_eq, nthD_eq, List.getD_eq_getElem?_getD, List.getD_eq_getElem?_getD, List.getElem?_set]
    by_cases h : i = j
    · subst h; simp [hi']
    · rw [if_neg h, if_neg (fun q => h q.symm)]
  | mtab n f c =>
    show (bif Nat.beq j i then e else f j) = if j = i then e else f j
    by_cases h : j = i
    · rw [beqT h, if_pos h]; rfl
    · rw [beqF h, if_neg h]; rfl
theorem MC.push_len (m : MC) (k : Value) (v : AV) : (m.push k v).len = m.len + 1 := by
  cases m with
  | ents l c => show (l ++ [_]).length = l.length + 1; simp
  | mtab n f c => rfl
theorem MC.push_clock (m : MC) (k : Value) (v : AV) : (m.push k v).clock = m.clock + 1 := by cases m <;> rfl
theorem MC.push_ent (m : MC) (k : Value) (v : AV) (j : Nat) (hj : j < m.len + 1) : (m.push k v).ent j = if j = m.len then .mk k v m.clock else m.ent j := by
  cases m with
  | ents l c =>
    show nthD ME.z (l ++ [.mk k v c]) j = if j = l.length then .mk k v c else nthD ME.z l j
    rw [nthD_eq, nthD_eq, List.getD_eq_getElem?_getD, List.getD_eq_getElem?_getD]
    have hj' : j < l.length + 1 := hj
    by_cases h : j = l.length
    · subst h; simp
    · rw [if_neg h, List.getElem?_append_left (by omega)]
  | mtab n f c =>
    show (bif Nat.beq j n then _ else f j) = if j = n then _ else f j
    by_cases h : j = n
    · rw [beqT h, if_pos h]; rfl
    · rw [beqF h, if_neg h]; rfl
theorem EntsOk.upd {w : World} {c : Cx} {p p' : Bool} {m : MC} {es : Array MapEntry} (h : EntsOk w c p m es) {i : Nat} (hi : i < m.len) {e : ME} {e' : MapEntry} (hp : p' = true → p = true)
    (h1 : e'.key = e.key) (h2 : e'.born = e.born) (h3 : VR w (c.at p') e.val e'.val) : EntsOk w c p' (m.upd i e) (es.setIfInBounds i e') := by
  refine ⟨by rw [MC.upd_len, Array.size_setIfInBounds]; exact h.1, fun j hj => ?_⟩
  rw [MC.upd_len] at hj
  rw [MC.upd_ent m i j e hi]
  obtain ⟨e0, q1, q2, q3, q4⟩ := h.2 j hj
  by_cases hji : j = i
  · subst hji
    rw [if_pos rfl]
    refine ⟨e', ?_, h1, h2, h3⟩
    have : j < es.size := by rw [h.1]; exact hj
    simp [this]
  · rw [if_neg hji]
    refine ⟨e0, ?_, q2, q3, q4.weak hp⟩
    rw [Array.getElem?_setIfInBounds, if_neg (fun q => hji q.symm)]
    exact q1
theorem EntsOk.push {w : World} {c : Cx} {p p' : Bool} {m : MC} {es : Array MapEntry} (h : EntsOk w c p m es) (hp : p' = true → p = true) {k : Value} {v : AV} {v' : Value} (h3 : VR w (c.at p') v v') :
    EntsOk w c p' (m.push k v) (es.push ⟨k, v', m.clock⟩) := by
  refine ⟨by rw [MC.push_len, Array.size_push, h.1], fun j hj => ?_⟩
  rw [MC.push_len] at hj
  rw [MC.push_ent m k v j hj]
  by_cases hjn : j = m.len
  · subst hjn
    rw [if_pos rfl]
    refine ⟨⟨k, v', m.clock⟩, ?_, rfl, rfl, h3⟩
    rw [← h.1]; simp
  · rw [if_neg hjn]
    obtain ⟨e0, q1, q2, q3, q4⟩ := h.2 j (by omega)
    refine ⟨e0, ?_, q2, q3, q4.weak hp⟩
    have hlt : j < es.size := by rw [h.1]; omega
    rw [Array.getElem?_push, if_neg (by omega)]
    exact q1
theorem pureV_at {w : World} {c : Cx} {p : Bool} {v : AV} {v' : Value} (h : VR w c v v') (q : (p && v.pure) = true ∨ (p && v.pure) = false) : VR w (c.at (p && v.pure)) v v' := by
  cases hb : (p && v.pure) with
  | false => exact h
  | true =>
    rw [Bool.and_eq_true] at hb
    exact pure_none hb.2 h
theorem modify_set {es : Array MapEntry} {i : Nat} {e : MapEntry} (h : es[i]? = some e) (f : MapEntry → MapEntry) : es.modify i f = es.setIfInBounds i (f e) := by
  have hi : i < es.size := by
    rcases Nat.lt_or_ge i es.size with x | x
    · exact x
    · rw [Array.getElem?_eq_none x] at h; cases h
  apply Array.ext_getElem?
  intro j
  rw [Array.getElem?_modify, Array.getElem?_setIfInBounds]
  by_cases hj : i = j
  · subst hj
    have : es[i] = e := by simpa [hi] using h
    simp [hi, this]
  · simp [hj]
section
variable {ρ : Type} {P : Program} {env : Env} (he : EnvOk P env) {t : List AV} {h : Heap} (hk : h.ok) {K : KP ρ} {r : ρ}
theorem putM_eq {ρ : Type} (env : Env) (h : Heap) (id : Nat) (p : Bool) (m : MC) (K : Heap → Option ρ) : putM env h id p m K = K (h.put id (.map p m)) := by simp [putM, sHeap_eq]
theorem run_stays {P : Program} {d : TypeDesc} {k k' : Value} (h : Instr.sameNow d k k' = some true) (w : World) : (Instr.keyThatStays k' k).run P w = .ok k w := by
  simp [Instr.keyThatStays, sameNow_bits h]
include he hk in
theorem mapUpd_core {ty : TypeId} {x k y : Operand} (hK : mapUpdA env ty (ev t x) (ev t k) (ev t y) h K = some r) {s : World → Cx → Sem Next → Prop}
    (hs : ∀ w c q, s w c q → ∃ a : Act, VRs w c t a.tmps.toList ∧ q = (do Instr.mapUpdate ty (a.eval x) (a.eval k) (a.eval y); pure .skip : Sem Next)) : Does P h K r s := by
  unfold mapUpdA at hK
  split at hK
  · rename_i id hx
    split at hK
    · rename_i kv hkv
      obtain ⟨i, kt, et, ki, ei, hi, hd, hki, hei, hkd, hK⟩ := mapTy_some hK
      obtain ⟨ver, p, m, hent, hK⟩ := onMap_some hK
      have hu := (he.ty ty i hi).under
      rw [hd] at hu
      have huk := (he.ty kt ki hki).under
      have base : ∀ {w : World} {c : Cx} {a : Act}, VRs w c t a.tmps.toList → a.eval x = .map (some (c.ι id).blk) ∧ a.eval k = kv ∧ VR w c (ev t y) (a.eval y) := by
        intro w c a ht
        have h4 := ev_sound ht x
        rw [hx] at h4
        have h5 := ev_sound ht k
        rw [hkv] at h5
        refine ⟨?_, h5.val_inv, ev_sound ht y⟩
        generalize a.eval x = x' at h4
        cases h4 with | mp _ k1 k2 => rfl
      have hpp : (p && (ev t y).pure) = true → p = true := fun q => by rw [Bool.and_eq_true] at q; exact q.1
      rcases searchK_some hK with ⟨j, hj, h1, h2, hK⟩ | ⟨hK, h2⟩
      · rw [putM_eq] at hK
        refine Does.putM hk hent hK ?_
        intro w c q G hq hp es hl hw hes
        obtain ⟨a, ht, rfl⟩ := hs w c q hq
        obtain ⟨e1, e2, e3⟩ := base ht
        obtain ⟨e0, f1, f2, f3⟩ := run_findKey_hit huk hes.keys hj h1 h2 w
        obtain ⟨e', g1, g2, g3, g4⟩ := hes.2 j hj
        rw [g1] at f1
        injection f1 with f1
        subst f1
        have hr := run_underlying hu w
        have hg : (getObj (c.ι id).blk).run P w = .ok (.map es m.clock) w := run_get hw
        have hc := fun b => run_checkKey huk hkd b kv w
        have hst : (Instr.keyThatStays e'.key kv).run P w = .ok kv w := by rw [g2]; exact run_stays h1 w
        refine ⟨.skip, undef, es.setIfInBounds j { e' with key := kv, val := a.eval y }, ?_, .inr ⟨rfl, rfl⟩, .val _, ?_⟩
        · have hset := run_lay (P := P) (o' := .map (es.setIfInBounds j { e' with key := kv, val := a.eval y }) m.clock) hw
          rw [MC.upd_clock]
          rw [e1, e2]
          simp [Instr.mapUpdate, hr, hg, hc, f3, g1, hst, modify_set g1, hset]
        · exact hes.upd hj hpp rfl g3 (pureV_at e3 (by cases (p && (ev t y).pure) <;> simp))
      · rw [putM_eq] at hK
        refine Does.putM hk hent hK ?_
        intro w c q G hq hp es hl hw hes
        obtain ⟨a, ht, rfl⟩ := hs w c q hq
        obtain ⟨e1, e2, e3⟩ := base ht
        have f3 := run_findKey_miss huk hes.keys h2 w
        have hr := run_underlying hu w
        have hg : (getObj (c.ι id).blk).run P w = .ok (.map es m.clock) w := run_get hw
        have hc := fun b => run_checkKey huk hkd b kv w
        refine ⟨.skip, undef, es.push ⟨kv, a.eval y, m.clock⟩, ?_, .inr ⟨rfl, rfl⟩, .val _, ?_⟩
        · have hset := run_lay (P := P) (o' := .map (es.push ⟨kv, a.eval y, m.clock⟩) (m.clock + 1)) hw
          rw [MC.push_clock]
          rw [e1, e2]
          simp [Instr.mapUpdate, hr, hg, hc, f3, hset]
        · exact hes.push hpp (pureV_at e3 (by cases (p && (ev t y).pure) <;> simp))
    · cases hK
  · cases hK
include he hk in
theorem mapUpdate_sound {ty : TypeId} {x k y : Operand} (hK : mapUpdA env ty (ev t x) (ev t k) (ev t y) h K = some r) : Does P h K r (At t (.mapUpdate ty x k y)) := by
  refine mapUpd_core he hk hK ?_
  rintro w c q ⟨a, o, ho, ht, rfl⟩
  exact ⟨a, ht, by simp only [execOp, ho]⟩
include he hk in
theorem insert_sound {ty : TypeId} {x k y : Operand} (hK : mapUpdA env ty (ev t x) (ev t k) (ev t y) h K = some r) : Does P h K r (At t (.insert ty x k y)) := by
  refine mapUpd_core he hk hK ?_
  rintro w c q ⟨a, o, ho, ht, rfl⟩
  exact ⟨a, ht, by simp only [execOp, ho]⟩
include he hk in
theorem mapEntry_sound {ty : TypeId} {x k : Operand} (hK : mapEntryA env ty (ev t x) (ev t k) h K = some r) : Does P h K r (At t (.mapEntry ty x k)) := by
  unfold mapEntryA at hK
  split at hK
  · rename_i id hx
    split at hK
    · rename_i kv hkv
      obtain ⟨i, kt, et, ki, ei, hi, hd, hki, hei, hkd, hK⟩ := mapTy_some hK
      obtain ⟨ver, p, m, hent, hK⟩ := onMap_some hK
      have hu := (he.ty ty i hi).under
      rw [hd] at hu
      have huk := (he.ty kt ki hki).under
      have base : ∀ {w : World} {c : Cx} {a : Act}, VRs w c t a.tmps.toList → a.eval x = .map (some (c.ι id).blk) ∧ a.eval k = kv := by
        intro w c a ht
        have h4 := ev_sound ht x
        rw [hx] at h4
        have h5 := ev_sound ht k
        rw [hkv] at h5
        refine ⟨?_, h5.val_inv⟩
        generalize a.eval x = x' at h4
        cases h4 with | mp _ k1 k2 => rfl
      rcases searchK_some hK with ⟨j, hj, h1, h2, hK⟩ | ⟨hK, h2⟩
      · rw [putM_eq] at hK
        refine Does.putM hk hent hK ?_
        rintro w c q G ⟨a, o, ho, ht, rfl⟩ hp es hl hw hes
        obtain ⟨e1, e2⟩ := base ht
        obtain ⟨e0, f1, f2, f3⟩ := run_findKey_hit huk hes.keys hj h1 h2 w
        obtain ⟨e', g1, g2, g3, g4⟩ := hes.2 j hj
        rw [g1] at f1
        injection f1 with f1
        subst f1
        have hr := run_underlying hu w
        have hg : (getObj (c.ι id).blk).run P w = .ok (.map es m.clock) w := run_get hw
        have hc := fun b => run_checkKey huk hkd b kv w
        have hst : (Instr.keyThatStays e'.key kv).run P w = .ok kv w := by rw [g2]; exact run_stays h1 w
        refine ⟨.value (.tuple #[e'.val, goInt e'.born]), .tuple #[e'.val, goInt e'.born], es.setIfInBounds j { e' with key := kv }, ?_, .inl rfl, ?_, ?_⟩
        · have hset := run_lay (P := P) (o' := .map (es.setIfInBounds j { e' with key := kv }) m.clock) hw
          rw [MC.upd_clock]
          simp only [execOp, ho, e1, e2]
          simp [Instr.mapEntry, hr, hg, hc, f3, g1, hst, modify_set g1, hset]
        · refine .tup [_, _] [e'.val, goInt e'.born] (.cons _ _ _ _ g4.lower (.cons _ _ _ _ ?_ .nil))
          rw [g3]; exact .val _
        · exact hes.upd hj (fun q => q) rfl g3 g4
      · rw [putM_eq] at hK
        refine Does.putM hk hent hK ?_
        rintro w c q G ⟨a, o, ho, ht, rfl⟩ hp es hl hw hes
        obtain ⟨e1, e2⟩ := base ht
        have f3 := run_findKey_miss huk hes.keys h2 w
        have hr := run_underlying hu w
        have hg : (getObj (c.ι id).blk).run P w = .ok (.map es m.clock) w := run_get hw
        have hc := fun b => run_checkKey huk hkd b kv w
        have hz := run_zero he hei w
        refine ⟨.value (.tuple #[ei.zero, goInt m.clock]), .tuple #[ei.zero, goInt m.clock], es.push ⟨kv, ei.zero, m.clock⟩, ?_, .inl rfl, ?_, ?_⟩
        · have hset := run_lay (P := P) (o' := .map (es.push ⟨kv, ei.zero, m.clock⟩) (m.clock + 1)) hw
          rw [MC.push_clock]
          simp only [execOp, ho, e1, e2]
          simp [Instr.mapEntry, hr, hg, hc, f3, hz, hset]
        · exact .tup [_, _] [ei.zero, goInt m.clock] (.cons _ _ _ _ (ofVal_sound w c ei.zero) (.cons _ _ _ _ (.val _) .nil))
        · exact hes.push (fun q => q) (ofVal_sound w _ ei.zero)
    · cases hK
  · cases hK
end
end Go.Ev
/- Maps: entries laid by their stamps, new ones; the letters of strings; slices of arrays; how many entries. -/
namespace Go.Ev
theorem searchB_some {ρ : Type} {b : Int} {F : Nat → Option ρ} {r : ρ} : ∀ (l : List ME) (i : Nat), searchB b F l i = some r →
    ∃ j e, l[j]? = some e ∧ (e.born : Int) = b ∧ (∀ (a : Nat) (e' : ME), a < j → l[a]? = some e' → (e'.born : Int) ≠ b) ∧ F (i + j) = some r
  | [], i, h => by cases h
  | e :: l, i, h => by
    have h' : (bif (e.born : Int) == b then F i else searchB b F l (i + 1)) = some r := h
    cases hb : ((e.born : Int) == b) with
    | true =>
      rw [hb, cond_true] at h'
      exact ⟨0, e, rfl, by simpa using hb, fun a e' q => absurd q (Nat.not_lt_zero a), h'⟩
    | false =>
      rw [hb, cond_false] at h'
      obtain ⟨j, e1, q1, q2, q3, q4⟩ := searchB_some l (i + 1) h'
      refine ⟨j + 1, e1, by simpa using q1, q2, ?_, by rw [show i + (j + 1) = i + 1 + j by omega]; exact q4⟩
      intro a e' ha he
      cases a with
      | zero => simp at he; subst he; simpa using hb
      | succ a => exact q3 a e' (by omega) (by simpa using he)
theorem searchS_some {ρ : Type} {b : Int} {m : MC} {F : Nat → Option ρ} {r : ρ} (h : searchS b m F = some r) :
    ∃ j, j < m.len ∧ ((m.ent j).born : Int) = b ∧ (∀ a, a < j → ((m.ent a).born : Int) ≠ b) ∧ F j = some r := by
  unfold searchS at h
  split at h
  · rename_i l c
    have ent : ∀ (a : Nat) (e : ME), l[a]? = some e → (MC.ents l c).ent a = e := fun a e he => by
      show nthD ME.z l a = e
      rw [nthD_eq, List.getD_eq_getElem?_getD, he]; rfl
    obtain ⟨j, e, q1, q2, q3, q4⟩ := searchB_some l 0 h
    have hj : j < l.length := by
      rcases Nat.lt_or_ge j l.length with x | x
      · exact x
      · rw [List.getElem?_eq_none x] at q1; cases q1
    refine ⟨j, hj, by rw [ent j e q1]; exact q2, fun a ha => ?_, by rw [Nat.zero_add] at q4; exact q4⟩
    have ha' : a < l.length := by omega
    have hx : l[a]? = some l[a] := by simp [ha']
    rw [ent a _ hx]
    exact q3 a _ ha hx
  · rename_i n f c
    obtain ⟨g1, h⟩ := guardB_some h
    obtain ⟨i, i1, i2⟩ := @of_decide_eq_true _ (Classical.propDecidable _) g1
    obtain ⟨k1, k2, k3⟩ := findIdx_range (p := fun i => ((f i).born : Int) == b) (n := n) ⟨i, i1, by simp [i2]⟩
    exact ⟨idxBorn b n f, k1, eq_of_beq k2, fun a ha q => by have := k3 a ha; simp [q] at this; exact absurd q this, h⟩
section
variable {ρ : Type} {P : Program} {env : Env} (he : EnvOk P env) {t : List AV} {h : Heap} (hk : h.ok) {K : KP ρ} {r : ρ}
include he hk in
theorem entryStore_sound {ty : TypeId} {x s y : Operand} (hK : entryStoreA env (ev t x) (ev t s) (ev t y) h K = some r) : Does P h K r (At t (.entryStore ty x s y)) := by
  unfold entryStoreA at hK
  split at hK
  · rename_i id hx
    split at hK
    · rename_i kk b hs
      obtain ⟨ver, p, m, hent, hK⟩ := onMap_some hK
      obtain ⟨j, hj, h1, h2, hK⟩ := searchS_some hK
      rw [putM_eq] at hK
      refine Does.putM hk hent hK ?_
      rintro w c q G ⟨a, o, ho, ht, rfl⟩ hp es hl hw hes
      have h4 := ev_sound ht x
      rw [hx] at h4
      have h5 := ev_sound ht s
      rw [hs] at h5
      have e2 := h5.val_inv
      have e3 := ev_sound ht y
      have e1 : a.eval x = .map (some (c.ι id).blk) := by
        generalize a.eval x = x' at h4
        cases h4 with | mp _ k1 k2 => rfl
      obtain ⟨e', g1, g2, g3, g4⟩ := hes.2 j hj
      have hg : (getObj (c.ι id).blk).run P w = .ok (.map es m.clock) w := run_get hw
      have hidx : es.findIdx? (fun e => (e.born : Int) == b) = some j := by
        have hjs : j < es.size := by rw [hes.1]; exact hj
        have ej : es[j] = e' := by simpa [hjs] using g1
        rw [Array.findIdx?_eq_some_iff_getElem]
        refine ⟨hjs, by rw [ej, g3]; simpa using h1, fun a ha => ?_⟩
        obtain ⟨e0, q1, q2, q3, q4⟩ := hes.2 a (by omega)
        have has : a < es.size := by omega
        have ea : es[a] = e0 := by simpa [has] using q1
        have := h2 a ha
        rw [ea, q3]
        simpa using this
      have hpp : (p && (ev t y).pure) = true → p = true := fun q => by rw [Bool.and_eq_true] at q; exact q.1
      refine ⟨.skip, undef, es.setIfInBounds j { e' with val := a.eval y }, ?_, .inr ⟨rfl, rfl⟩, .val _, ?_⟩
      · have hset := run_lay (P := P) (o' := .map (es.setIfInBounds j { e' with val := a.eval y }) m.clock) hw
        rw [MC.upd_clock]
        simp only [execOp, ho, e1, e2]
        simp [Instr.entryStore, hg, asInt, asIntOf, hidx, modify_set g1, hset]
      · exact hes.upd hj hpp g2 g3 (pureV_at e3 (by cases (p && (ev t y).pure) <;> simp))
    · cases hK
  · cases hK
theorem Does.newB {ρ : Type} {P : Program} {h : Heap} (hk : h.ok) {K : KP ρ} {r : ρ} {s : World → Cx → Sem Next → Prop} {b : Blk} {v : AV} (hK : K v (h.add b) [] [] = some r)
    (hs : ∀ w c x G, s w c x → Pre w c h (h.add b) [] [] G → ∃ v' o, x.run P w = .ok (.value v') (w.alloc o) ∧ BlkRel (w.alloc o) (c.add h.next ⟨true, w.heap.size, 0, 1, 0⟩) ⟨true, w.heap.size, 0, 1, 0⟩ b ∧
      VR (w.alloc o) (c.add h.next ⟨true, w.heap.size, 0, 1, 0⟩) v v') : Does P h K r s := by
  refine ⟨v, h.add b, [], [], hK, Eff.add hk _ [], ?_⟩
  intro w c x G hx hp
  obtain ⟨v', o, q1, q2, q3⟩ := hs w c x G hx hp
  have hnv : ¬ c.V h.next := hp.fresh h.next (Nat.le_refl _) (Nat.lt_succ_self _)
  refine ⟨_, v', w.alloc o, c.add h.next ⟨true, w.heap.size, 0, 1, 0⟩, q1, .inl rfl, q3, Ext.oneMore (OneMore.alloc w o) hnv rfl, ?_, ?_⟩
  · rintro id (hi | rfl)
    · exact .inl hi
    · exact .inr ⟨Nat.le_refl _, Nat.lt_succ_self _⟩
  · intro G' hG
    obtain ⟨g1, g2⟩ := hG.new hk
    exact HR.oneMore hp.hr (OneMore.alloc w o) hnv rfl (fun i hi => .inl (g2 i hi)) g1 q2
include he hk in
theorem makeMap_sound {ty : TypeId} {x : Option Operand} (hK : makeMapA env ty (x.map (ev t)) h K = some r) : Does P h K r (At t (.makeMap ty x)) := by
  unfold makeMapA at hK
  obtain ⟨i, kt, et, ki, ei, hi, hd, hki, hei, hkd, hK⟩ := mapTy_some hK
  obtain ⟨hg, hK⟩ := guardB_some hK
  rw [sHeap_eq] at hK
  have hu := (he.ty ty i hi).under
  rw [hd] at hu
  refine Does.newB hk hK ?_
  rintro w c q G ⟨a, o, ho, ht, rfl⟩ hp
  have hr := run_underlying hu w
  have hrun : (Instr.makeMap ty (x.map a.eval)).run P w = .ok (.map (some w.heap.size)) (w.alloc (.map #[] 0)) := by
    cases x with
    | none => simp [Instr.makeMap]
    | some z =>
      simp only [Option.map_some] at hg ⊢
      have h4 := ev_sound ht z
      generalize ev t z = vz at hg h4
      unfold isIntA at hg
      split at hg
      · rename_i k n
        have := h4.val_inv
        rw [this]
        simp [Instr.makeMap, hr, asInt, asIntOf]
      · cases hg
  refine ⟨.map (some w.heap.size), .map #[] 0, ?_, ⟨rfl, .inr rfl, #[], (OneMore.alloc w _).get, rfl, fun i hi => absurd hi (Nat.not_lt_zero i)⟩, ?_⟩
  · simp only [execOp, ho, Sem.run_bind, hrun, Result.andThen_ok, Sem.run_pure]
  · have := VR.mp (W := w.alloc (.map #[] 0)) (c := c.add h.next ⟨true, w.heap.size, 0, 1, 0⟩) h.next (.inr rfl) (by simp [Cx.add])
    simpa [Cx.add] using this
include he hk in
theorem range_sound {ty : TypeId} {x : Operand} (hK : rangeA env ty (ev t x) h K = some r) : Does P h K r (At t (.range ty x)) := by
  unfold rangeA at hK
  split at hK
  · rename_i i hi
    split at hK
    · rename_i hd
      have hu := (he.ty ty i hi).under
      rw [hd] at hu
      split at hK
      · rename_i s hx
        rw [sHeap_eq] at hK
        refine Does.newB hk hK ?_
        rintro w c q G ⟨a, o, ho, ht, rfl⟩ hp
        have hr := run_underlying hu w
        have h4 := ev_sound ht x
        rw [hx] at h4
        have hx' := h4.val_inv
        refine ⟨.pointer (some ⟨w.heap.size, 0, none⟩), .stringIter s 0, ?_, ⟨rfl, .inr rfl, rfl, s, (OneMore.alloc w _).get, rfl⟩, ?_⟩
        · simp only [execOp, ho, hx']
          simp [Instr.range, hr]
        · exact VR.newPtr
      · cases hK
    · cases hK
  · cases hK
theorem numsOf_len (s : ByteArray) : (numsOf s).length = s.size := by
  unfold numsOf
  rw [List.length_map, Array.length_toList]
  rfl
theorem numsOf_get {s : ByteArray} {pos : Nat} {b : Int} {l : List Int} (h : (numsOf s).drop pos = b :: l) : ∃ hp : pos < s.size, b = ((s.get pos hp).toNat : Int) ∧ (numsOf s).drop (pos + 1) = l := by
  have hlen : pos < (numsOf s).length := by
    rcases Nat.lt_or_ge pos (numsOf s).length with x | x
    · exact x
    · rw [List.drop_eq_nil_of_le x] at h; cases h
  have hsz : (numsOf s).length = s.size := numsOf_len s
  have hp : pos < s.size := by omega
  have e1 := List.drop_eq_getElem_cons hlen
  rw [h] at e1
  injection e1 with e1 e2
  refine ⟨hp, ?_, e2.symm⟩
  rw [e1]
  simp [numsOf, ByteArray.get]
theorem strOf_numsOf_get (s : ByteArray) (pos k : Nat) : (strOf ((numsOf s).drop pos)).get! k = s.get! (pos + k) := by
  obtain ⟨d⟩ := s
  have e : (strOf ((numsOf ⟨d⟩).drop pos)).data[k]? = d[pos + k]? := by
    simp only [strOf, numsOf, List.getElem?_toArray, List.getElem?_map, List.getElem?_drop, Array.getElem?_toList]
    cases d[pos + k]? with
    | none => rfl
    | some x => simp
  show (strOf ((numsOf ⟨d⟩).drop pos)).data[k]! = d[pos + k]!
  rw [getElem!_def, getElem!_def, e]
theorem strOf_size (l : List Int) : (strOf l).size = l.length := by
  show (l.map fun n => UInt8.ofNat n.toNat).toArray.size = l.length
  simp
theorem decode_drop {s : ByteArray} {pos : Nat} {l : List Int} (h : (numsOf s).drop pos = l) : Utf8.decode s pos = decL l := by
  subst h
  have e1 : ∀ k, (strOf ((numsOf s).drop pos)).get! (0 + k) = s.get! (pos + k) := fun k => by rw [Nat.zero_add]; exact strOf_numsOf_get s pos k
  have e2 : ∀ k, decide (0 + k < (strOf ((numsOf s).drop pos)).size) = decide (pos + k < s.size) := fun k => by
    rw [strOf_size, List.length_drop, numsOf_len]
    exact decide_eq_decide.2 (by omega)
  unfold decL Utf8.decode
  simp only [e1, e2]
include hk in
theorem next_sound {it : Operand} {isS : Bool} (hK : nextA env (ev t it) isS h K = some r) : Does P h K r (At t (.next it isS)) := by
  unfold nextA at hK
  split at hK
  · rename_i id hx
    cases isS with
    | false => cases hK
    | true =>
    rw [cond_true] at hK
    split at hK
    · rename_i i0 ver pos l hent
      have := findE_id hent
      simp only at this
      subst this
      have base : ∀ {w : World} {c : Cx} {a : Act}, VRs w c t a.tmps.toList → IterRel w c (c.ι i0) pos l → a.eval it = .pointer (some ⟨(c.ι i0).blk, 0, none⟩) := by
        intro w c a ht hb
        have h4 := ev_sound ht it
        rw [hx] at h4
        generalize a.eval it = x' at h4
        cases h4 with | ptr _ _ _ k1 k2 => simp [hb.st]
      split at hK
      · refine Does.same hk _ [i0] hK ?_
        rintro w c q G ⟨a, o, ho, ht, rfl⟩ hp
        have hG := hp.agree i0 (.inl (by simp))
        rw [G_map hent] at hG
        have hb : IterRel w c (c.ι i0) pos [] := hp.hr.blk i0 _ hG
        have e1 := base ht hb
        obtain ⟨s, s1, s2⟩ := hb.obj
        have hg : (getObj (c.ι i0).blk).run P w = .ok (.stringIter s pos) w := run_get s1
        have hle : ¬ pos < s.size := by
          intro q
          have hsz : (numsOf s).length = s.size := numsOf_len s
          have := congrArg List.length s2
          rw [List.length_drop] at this
          simp at this
          omega
        refine ⟨.tuple #[.bool false], ?_, .tup [.val (.bool false)] [.bool false] (.cons _ _ _ _ (.val _) .nil)⟩
        simp only [execOp, ho, e1]
        simp [Instr.next, hg, hle]
      · rename_i b l
        cases gb : (decide (0 ≤ b) && decide (b < 128)) with
        | false =>
          rw [gb, cond_false] at hK
          refine Does.lay hk hent hK (fun w c rb hb => hb.live) ?_
          rintro w c q G ⟨a, o, ho, ht, rfl⟩ hp hb
          have e1 := base ht hb
          obtain ⟨s, s1, s2⟩ := hb.obj
          obtain ⟨hlt, b1, b2⟩ := numsOf_get s2
          have hg : (getObj (c.ι i0).blk).run P w = .ok (.stringIter s pos) w := run_get s1
          have hdec : Utf8.decode s pos = decL (b :: l) := decode_drop s2
          have hset := run_lay (P := P) (o' := .stringIter s (pos + (decL (b :: l)).2)) s1
          refine ⟨.value (.tuple #[.bool true, goInt pos, .int .i32 (decL (b :: l)).1]), .tuple #[.bool true, goInt pos, .int .i32 (decL (b :: l)).1], _, .stringIter s (pos + (decL (b :: l)).2), s1, ?_, .inl rfl, ?_, hb.live, hb.own, hb.st, s, (lay_facts s1).1, ?_⟩
          · simp only [execOp, ho, e1]
            simp [Instr.next, hg, hlt, hdec, hset]
          · exact .tup [_, _, _] [.bool true, goInt pos, .int .i32 (decL (b :: l)).1] (.cons _ _ _ _ (.val _) (.cons _ _ _ _ (.val _) (.cons _ _ _ _ (.val _) .nil)))
          · rw [← s2, List.drop_drop]
        | true =>
        rw [gb, cond_true] at hK
        rw [sHeap_eq] at hK
        rw [Bool.and_eq_true, decide_eq_true_eq, decide_eq_true_eq] at gb
        refine Does.lay hk hent hK (fun w c rb hb => hb.live) ?_
        rintro w c q G ⟨a, o, ho, ht, rfl⟩ hp hb
        have e1 := base ht hb
        obtain ⟨s, s1, s2⟩ := hb.obj
        obtain ⟨hlt, b1, b2⟩ := numsOf_get s2
        have hg : (getObj (c.ι i0).blk).run P w = .ok (.stringIter s pos) w := run_get s1
        have hget : (s.get! (pos + 0)).toNat = (s.get pos hlt).toNat := by
          have : s.get! pos = s.get pos hlt := by
            obtain ⟨d⟩ := s
            have hlt' : pos < d.size := hlt
            simp [ByteArray.get!, ByteArray.get, hlt', getElem!_def]
          rw [Nat.add_zero, this]
        have hdec : Utf8.decode s pos = ((s.get pos hlt).toNat, 1) := by
          unfold Utf8.decode
          simp only [hget]
          rw [if_pos (by omega)]
        have hset := run_lay (P := P) (o' := .stringIter s (pos + 1)) s1
        refine ⟨.value (.tuple #[.bool true, goInt pos, .int .i32 b]), .tuple #[.bool true, goInt pos, .int .i32 b], _, .stringIter s (pos + 1), s1, ?_, .inl rfl, ?_, hb.live, hb.own, hb.st, s, (lay_facts s1).1, b2⟩
        · simp only [execOp, ho, e1]
          simp [Instr.next, hg, hlt, hdec, hset, ← b1]
        · exact .tup [_, _, _] [.bool true, goInt pos, .int .i32 b] (.cons _ _ _ _ (.val _) (.cons _ _ _ _ (.val _) (.cons _ _ _ _ (.val _) .nil)))
    · cases hK
  · cases hK
end
end Go.Ev
/- Slices of arrays. -/
namespace Go.Ev
theorem ptrArr_some {ρ : Type} {env : Env} {t : TypeId} {F : Nat → Option ρ} {r : ρ} (h : ptrArr env t F = some r) : ∃ i n e ei, env.ty.get t = some i ∧ i.desc = .array n e ∧ env.ty.get e = some ei ∧ ei.size = 1 ∧ F n = some r := by
  unfold ptrArr at h
  split at h
  · rename_i i hi
    split at h
    · rename_i n e hd
      split at h
      · rename_i ei he
        obtain ⟨g, h⟩ := guardB_some h
        exact ⟨i, n, e, ei, hi, hd, he, beq_iff.1 g, h⟩
      · cases h
    · cases h
  · cases h
section
variable {ρ : Type} {P : Program} {env : Env} (he : EnvOk P env) {t : List AV} {h : Heap} (hk : h.ok) {K : KP ρ} {r : ρ}
include he hk in
theorem slicePtr_sound {ty : TypeId} {x : Operand} {lo hi mx : Option Operand} (hK : slicePtr env ty (ev t x) (lo.map (ev t)) (hi.map (ev t)) (mx.map (ev t)) h K = some r) :
    Does P h K r (At t (.slice ty x lo hi mx)) := by
  -- the machine's side
  have hfin : ∀ {i : TI} {n : Nat} {e : TypeId} {ei : TI}, env.ty.get ty = some i → i.desc = .array n e → env.ty.get e = some ei → ei.size = 1 → ∀ (w : World) (c : Cx) (a : Act) (o : Oper) (b ad : Nat) (l hh : Nat) (m : Option Nat), o.op = .slice ty x lo hi mx → VRs w c t a.tmps.toList → a.eval x = .pointer (some ⟨b, ad, none⟩) → l ≤ hh → hh ≤ n →
      ((lo.map (ev t) = none ∧ l = 0) ∨ ∃ v, lo.map (ev t) = some v ∧ v.int? = some (l : Int)) → ((hi.map (ev t) = none ∧ hh = n) ∨ ∃ v, hi.map (ev t) = some v ∧ v.int? = some (hh : Int)) →
      ((mx.map (ev t) = none ∧ m = none) ∨ ∃ (v : AV) (k : Nat), mx.map (ev t) = some v ∧ v.int? = some (k : Int) ∧ m = some k ∧ k ≤ n ∧ hh ≤ k ∧ hi.map (ev t) ≠ none) →
      (execOp a.eval o).run P w = .ok (.value (.slice (some (if m.getD n = l then ⟨b, ad, none⟩ else ⟨b, ad + l, none⟩)) (hh - l) (m.getD n - l))) w := by
    intro i n e ei hi' hd hei hsz w c a o b ad l hh m ho ht hx hl1 hl2 q1 q2 q3
    obtain ⟨kl, q1⟩ := opt_int ht q1
    obtain ⟨kh, q2⟩ := opt_int ht q2
    have q3' : ∃ km, (mx.map a.eval = none ∧ m = none) ∨ ∃ (k : Nat), mx.map a.eval = some (.int km (k : Int)) ∧ m = some k ∧ k ≤ n ∧ hh ≤ k ∧ hi.map a.eval ≠ none := by
      rcases q3 with ⟨h1, h2⟩ | ⟨v, k, h1, h2, h3, h4, h5, h6⟩
      · exact ⟨.i64, .inl ⟨by cases mx <;> simp at h1 ⊢, h2⟩⟩
      · cases mx with
        | none => simp at h1
        | some z =>
          simp at h1; subst h1
          obtain ⟨km, hk⟩ := int?_sound ht h2
          exact ⟨km, .inr ⟨k, by simp [hk], h3, h4, h5, by cases hi <;> simp at h6 ⊢⟩⟩
    obtain ⟨km, q3⟩ := q3'
    have hb := bounds_run (P := P) (w := w) (sl := false) hl1 hl2 (Nat.le_refl n) q1 q2 q3
    have hu := run_under he hi' w
    rw [hd] at hu
    have hs := run_size he hei w
    have hadd : (⟨b, ad, none⟩ : Addr).add l = ⟨b, ad + l, none⟩ := by unfold Addr.add; split <;> simp_all
    have hrun : (Instr.sliceAt ty (.pointer (some ⟨b, ad, none⟩)) (lo.map a.eval) (hi.map a.eval) (mx.map a.eval)).run P w = .ok (.slice (some (if m.getD n = l then ⟨b, ad, none⟩ else ⟨b, ad + l, none⟩)) (hh - l) (m.getD n - l)) w := by
      simp [Instr.sliceAt, hu, Instr.sureAddr, hb, hs, hsz, hadd]
    simp only [execOp, ho, hx, Sem.run_bind, hrun, Result.andThen_ok, Sem.run_pure]
  have hm : ∀ {n hh : Nat} {m : Option Nat}, hh ≤ n → ((mx.map (ev t) = none ∧ m = none) ∨ ∃ (v : AV) (k : Nat), mx.map (ev t) = some v ∧ v.int? = some (k : Int) ∧ m = some k ∧ k ≤ n ∧ hh ≤ k ∧ hi.map (ev t) ≠ none) → hh ≤ m.getD n ∧ m.getD n ≤ n := by
    rintro n hh m h0 (⟨_, rfl⟩ | ⟨v, k, _, _, rfl, h4, h5, _⟩)
    · exact ⟨h0, Nat.le_refl _⟩
    · exact ⟨h5, h4⟩
  unfold slicePtr at hK
  split at hK
  · rename_i id r0 c0 hx
    obtain ⟨i, n, e, ei, hi', hd, hei, hsz, hK⟩ := ptrArr_some hK
    split at hK
    · rename_i con hcon
      obtain ⟨hg, hK⟩ := guardB_some hK
      rw [Bool.and_eq_true] at hg
      have hwd := beq_iff.1 hg.1
      have hle := Nat.le_of_ble_eq_true hg.2
      obtain ⟨l, hh, m, h1, h2, h3, h4, h5, h6⟩ := boundsA_some hK
      obtain ⟨m1, m2⟩ := hm h2 h6
      refine Does.same hk _ [id] h3 ?_
      rintro w c s G ⟨a, o, ho, ht, rfl⟩ hp
      have h7 := ev_sound ht x
      rw [hx] at h7
      generalize hx' : a.eval x = x' at h7
      cases h7 with | ptr _ _ _ k1 k2 =>
      have hG := hp.agree id (.inl (by simp))
      rw [con_some hcon] at hG
      have hb : CellsRel w c (c.ι id) con := hp.hr.blk id _ hG
      have hrb : (c.ι id).wd = 1 := by rw [← hb.wd]; exact hwd
      obtain ⟨arr, te, fz, a1, a2, a3, a4, a5, a6⟩ := hb.arr k2
      rw [hrb, Nat.mul_one] at a5
      have hx2 := hx'
      rw [hrb, Nat.mul_one] at hx2
      refine ⟨_, hfin hi' hd hei hsz w c a o _ _ l hh m ho ht hx2 h1 h2 h4 h5 h6, ?_⟩
      refine .own id (r0 + c0 + l) (hh - l) _ 1 _ _ k1 hrb (by omega) (fun k hk => Option.some.inj hk) ?_
      by_cases hz : m.getD n = l
      · left; omega
      · right
        rw [if_neg hz]
        refine ⟨k2, ?_, by omega⟩
        simp only [Option.some.injEq, Addr.mk.injEq, and_true, true_and]
        omega
    · cases hK
  · rename_i con r0 c0 hx
    obtain ⟨i, n, e, ei, hi', hd, hei, hsz, hK⟩ := ptrArr_some hK
    obtain ⟨hg, hK⟩ := guardB_some hK
    rw [Bool.and_eq_true] at hg
    have hwd := beq_iff.1 hg.1
    have hle := Nat.le_of_ble_eq_true hg.2
    obtain ⟨l, hh, m, h1, h2, h3, h4, h5, h6⟩ := boundsA_some hK
    obtain ⟨m1, m2⟩ := hm h2 h6
    refine Does.same hk _ [] h3 ?_
    rintro w c s G ⟨a, o, ho, ht, rfl⟩ hp
    have h7 := ev_sound ht x
    rw [hx] at h7
    generalize hx' : a.eval x = x' at h7
    cases h7 with | rptr _ _ _ b o' k1 k2 =>
    have hx2 := hx'
    rw [hwd, Nat.mul_one] at hx2
    refine ⟨_, hfin hi' hd hei hsz w c a o _ _ l hh m ho ht hx2 h1 h2 h4 h5 h6, ?_⟩
    have hsub : (con.sub (r0 + c0 + l) (hh - l)).len = hh - l := Con.sub_len _ _ _ (by omega)
    have key : VR w c (.ro (con.sub (r0 + c0 + l) (hh - l)) (some (m.getD n - l))) (.slice (some (if m.getD n = l then ⟨b, o' + r0 + c0, none⟩ else ⟨b, o' + r0 + c0 + l, none⟩)) (con.sub (r0 + c0 + l) (hh - l)).len (m.getD n - l)) := by
      refine .ro _ _ _ _ (by rw [hsub]; omega) (fun k hk => Option.some.inj hk) ?_ ?_
      · by_cases hz : hh - l = 0
        · left; rw [hsub, hz]
        · right
          rw [if_neg (by omega), hsub]
          exact ⟨b, _, rfl, by omega⟩
      · intro b2 o2 hbo hpos
        rw [hsub] at hpos
        rw [if_neg (by omega)] at hbo
        injection hbo with hbo
        injection hbo with e1 e2
        subst e1; subst e2
        have := k2.sub (r0 + c0 + l) (hh - l) (by omega)
        rw [hwd, Nat.mul_one, show o' + (r0 + c0 + l) = o' + r0 + c0 + l by omega] at this
        exact this
    rw [hsub] at key
    exact key
  · exact slice_sound he hk hK
end
end Go.Ev
/- Conversions, len, cap, min, max; all operations that call no function. -/
namespace Go.Ev
theorem strOf_eq (l : List Int) : l.foldl (fun r n => r.push (UInt8.ofNat n.toNat)) ByteArray.empty = strOf l := by
  have key : ∀ (l : List Int) (r : ByteArray), l.foldl (fun r n => r.push (UInt8.ofNat n.toNat)) r = ⟨r.data ++ (l.map fun n => UInt8.ofNat n.toNat).toArray⟩ := by
    intro l
    induction l with
    | nil => intro r; simp
    | cons n l ih =>
      intro r
      simp only [List.foldl_cons, ih, List.map_cons]
      simp [ByteArray.push]
  rw [key]
  simp [strOf, ByteArray.empty, ByteArray.emptyWithCapacity]
  try rfl
theorem u8s_some {c : Con} {l : List Int} (h : u8s c = some l) : c = .ints .u8 l := by
  unfold u8s at h
  split at h
  · injection h with h; subst h; rfl
  · cases h
theorem isByte_some {i : TI} (h : isByte i = true) : i.desc = .int .u8 ∧ i.size = 1 := by
  unfold isByte at h
  split at h
  · rename_i hd; exact ⟨hd, beq_iff.1 h⟩
  · cases h
section
variable {ρ : Type} {P : Program} {env : Env} (he : EnvOk P env) {t : List AV} {h : Heap} (hk : h.ok) {K : KP ρ} {r : ρ}
def coldOf (fz : Nat × Nat) (n : Nat) : Nat × Nat := if fz.1 == fz.2 then (n, n + 1) else (min fz.1 n, max fz.2 (n + 1))
theorem coldOf_cold {fz : Nat × Nat} {n : Nat} (h : ∀ o, o < n → ¬ (fz.1 ≤ o ∧ (o < fz.2 ∨ fz.1 ≠ fz.2))) : ∀ o, o < n → ¬ ((coldOf fz n).1 ≤ o ∧ (o < (coldOf fz n).2 ∨ (coldOf fz n).1 ≠ (coldOf fz n).2)) := by
  intro o ho
  unfold coldOf
  by_cases e : fz.1 = fz.2
  · have : (fz.1 == fz.2) = true := by simpa using e
    rw [if_pos this]
    simp only
    omega
  · have : ¬ (fz.1 == fz.2) = true := by simpa using e
    rw [if_neg this]
    simp only
    have hn : n ≤ fz.1 := by
      rcases Nat.lt_or_ge fz.1 n with q | q
      · exact absurd ⟨Nat.le_refl _, .inr e⟩ (h _ q)
      · exact q
    omega
theorem run_same_bytes {P : Program} {w : World} {src e : TypeId} {b off len cap : Nat} {arr : Array Value} {te : TypeId} {fz : Nat × Nat} (hs : P.underlying src = some (.slice e)) (he : P.underlying e = some (.int .u8)) (hb : w.heap[b]? = some (.cells arr te fz)) :
    (convert src src (.slice (some ⟨b, off, none⟩) len cap)).run P w = .ok (.slice (some ⟨b, off, none⟩) len cap) (World.lay w b (.cells arr te (coldOf fz arr.size))) := by
  have hsh : w.shape? b = some (te, arr.size) := by unfold World.shape?; rw [hb]
  have hlt : b < w.heap.size := by
    rcases Nat.lt_or_ge b w.heap.size with x | x
    · exact x
    · rw [Array.getElem?_eq_none x] at hb; cases hb
  have hfr : w.freeze ⟨b, arr.size, none⟩ 1 = World.lay w b (.cells arr te (coldOf fz arr.size)) := by
    unfold World.freeze World.lay
    rw [if_neg (by decide)]
    congr 1
    apply Array.ext
    · simp
    · intro i h1 h2
      simp only [Array.getElem_modify, Array.getElem_setIfInBounds]
      by_cases q : b = i
      · subst q
        have e1 : w.heap[b] = .cells arr te fz := by
          rw [Array.getElem?_eq_getElem hlt] at hb
          injection hb
        obtain ⟨lo, hi⟩ := fz
        simp [e1, coldOf]
      · rw [if_neg q, Array.getElem_setIfInBounds_ne _ q]
  simp [convert, run_underlying hs, run_underlying he, markStringish, hsh, hfr]
include he hk in
theorem conv_sound {src dst : TypeId} {x : Operand} (hK : convA env src dst (ev t x) h K = some r) : Does P h K r (At t (.convert src dst x)) := by
  unfold convA at hK
  split at hK
  · rename_i s d hs hd
    have us := (he.ty src s hs).under
    have ud := (he.ty dst d hd).under
    split at hK
    · rename_i k hdd
      rw [hdd] at ud
      split at hK
      · rename_i k' n hx
        refine Does.same hk _ [] hK ?_
        rintro w c y G ⟨a, o, ho, ht, rfl⟩ hp
        have h4 := ev_sound ht x
        rw [hx] at h4
        have hx' := h4.val_inv
        refine ⟨_, ?_, .val _⟩
        simp [execOp, ho, hx', convert, run_underlying us, run_underlying ud, Conv.intToInt]
      · cases hK
    · rename_i hdd
      rw [hdd] at ud
      split at hK
      · rename_i hsd
        rw [hsd] at us
        split at hK
        · rename_i v hx
          refine Does.same hk _ [] hK ?_
          rintro w c y G ⟨a, o, ho, ht, rfl⟩ hp
          have h4 := ev_sound ht x
          rw [hx] at h4
          have hx' := h4.val_inv
          refine ⟨_, ?_, .val _⟩
          simp [execOp, ho, hx', convert, run_underlying us, run_underlying ud]
        · cases hK
      · rename_i e hsd
        rw [hsd] at us
        split at hK
        · rename_i i hi
          obtain ⟨hby, hK⟩ := guardB_some hK
          obtain ⟨b1, b2⟩ := isByte_some hby
          have ue := (he.ty e i hi).under
          rw [b1] at ue
          unfold bytesStr at hK
          rw [onSlice_eq] at hK
          split at hK
          · rename_i con hcon
            split at hK
            · rename_i l hl
              have := u8s_some hl
              subst this
              refine Does.same hk _ (rdOf (ev t x)) hK ?_
              rintro w c y G ⟨a, o, ho, ht, rfl⟩ hp
              have h4 := ev_sound ht x
              obtain ⟨b, m, news, hx', k1, k2, k3, k4⟩ := slice_lies he hi hcon (by rw [b2]; rfl) h4 hp.hr (fun id hid => hp.agree id (.inl hid))
              refine ⟨_, ?_, .val _⟩
              have hc := run_convert_bytes_string (P := P) w src dst e b l.length m us ue ud
              have hlen : news.length = l.length := by
                have := k3.len
                rw [b2, Nat.mul_one] at this
                exact this
              have hnews : news = l.map (Value.int .u8) := by
                apply List.ext_getElem?
                intro j
                rcases Nat.lt_or_ge j l.length with hj | hj
                · obtain ⟨u, e1, e2⟩ := k4 j 0 (.val (.int .u8 (l.getD j 0))) hj (by rw [b2]; exact Nat.one_pos) rfl
                  have := e2.val_inv
                  subst this
                  rw [b2, Nat.mul_one, Nat.add_zero] at e1
                  rw [e1]
                  simp [hj]
                · rw [List.getElem?_eq_none (by omega), List.getElem?_eq_none (by simpa using hj)]
              have hb : (Conv.bytesToString (.slice b l.length m)).run P w = .ok (.string (strOf l)) w := by
                cases b with
                | none =>
                  have h0 : l.length = 0 := k2 rfl
                  have : l = [] := List.eq_nil_of_length_eq_zero h0
                  subst this
                  simp [Conv.bytesToString, strOf, ByteArray.empty, ByteArray.emptyWithCapacity]
                  try rfl
                | some ad =>
                  have hld : (loadCells ad l.length).run P w = .ok (l.map (Value.int .u8)).toArray w := by
                    have := run_loadCells_list (P := P) w ad news (k3.get ad rfl)
                    rw [hlen, hnews] at this
                    exact this
                  rw [run_bytesToString w ad l.length m l hld, strOf_eq]
              have hx'' : a.eval x = .slice b l.length m := hx'
              simp only [execOp, ho, hx'', Sem.run_bind, hc, hb, Result.andThen_ok]
              rfl
            · cases hK
          · cases hK
        · cases hK
      · cases hK
    · rename_i e hdd
      rw [hdd] at ud
      split at hK
      · rename_i hsd
        rw [hsd] at us
        split at hK
        · rename_i i hi
          obtain ⟨hby, hK⟩ := guardB_some hK
          obtain ⟨b1, b2⟩ := isByte_some hby
          have hT := he.ty e i hi
          have ue := hT.under
          rw [b1] at ue
          unfold toBytes at hK
          split at hK
          · rename_i s' hx
            obtain ⟨g1, hK⟩ := guardB_some hK
            have g1 := Nat.le_of_ble_eq_true g1
            rw [addK_eq] at hK
            refine Does.new hk hK ?_
            rintro w c y G ⟨a, o, ho, ht, rfl⟩ hp
            have h4 := ev_sound ht x
            rw [hx] at h4
            have hx' := h4.val_inv
            have hrun := run_bytes_of_string (P := P) w src dst e s' us ud ue
            have hge := grownCap_ge w s'.size 0 e
            have hsz : (bytesRow s' (grownCap w s'.size 0 e)).size = grownCap w s'.size 0 e := by
              have : s'.data.size = s'.size := rfl
              simp only [bytesRow, Array.size_append, Array.size_map, Array.size_replicate, this]; omega
            refine ⟨.slice (some ⟨w.heap.size, 0, none⟩) s'.size (grownCap w s'.size 0 e), w.drew.alloc (.cells (bytesRow s' (grownCap w s'.size 0 e)) e ((bytesRow s' (grownCap w s'.size 0 e)).size, (bytesRow s' (grownCap w s'.size 0 e)).size + 1)), bytesRow s' (grownCap w s'.size 0 e), e, ((bytesRow s' (grownCap w s'.size 0 e)).size, (bytesRow s' (grownCap w s'.size 0 e)).size + 1), ?_, oneMore_grown w _, ?_, ?_, ?_, ?_, ?_⟩
            · simp only [execOp, ho, hx', Sem.run_bind, hrun, Result.andThen_ok]; rfl
            · rw [hsz]; simp [Con.len, Con.wd, numsOf]; exact hge
            · intro u hu
              simp only [bytesRow, Array.toList_append, List.mem_append, Array.toList_map, List.mem_map, Array.toList_replicate, List.mem_replicate] at hu
              rcases hu with ⟨b, _, rfl⟩ | ⟨_, rfl⟩ <;> rfl
            · intro o' ho' q
              simp only at q
              omega
            · intro i' j v u hi' hj hv hu
              simp [Con.wd] at hj
              subst hj
              have hlt : i' < s'.data.toList.length := by simpa [Con.len, numsOf] using hi'
              simp only [Con.row, List.getElem?_cons_zero, Option.some.injEq, numsOf] at hv
              subst hv
              simp only [Con.wd, Nat.mul_one, Nat.add_zero, bytesRow] at hu
              have hlt2 : i' < (s'.data.map fun b => Value.int .u8 b.toNat).size := by rw [Array.size_map]; simpa using hlt
              rw [Array.getElem?_append_left hlt2, Array.getElem?_map] at hu
              have e1 : s'.data[i']? = some s'.data[i'] := by simp at hlt; simp [hlt]
              rw [e1] at hu
              simp only [Option.map_some, Option.some.injEq] at hu
              subst hu
              rw [List.getD_eq_getElem?_getD, List.getElem?_map]
              have e2 : s'.data.toList[i']? = some s'.data[i'] := by rw [Array.getElem?_toList]; exact e1
              rw [e2]
              exact .val _
            · refine VR.newSlice hge (fun k hk => by cases hk) ?_
              rw [hsz]; exact Nat.le_of_eq (Nat.mul_one _)
          · cases hK
        · cases hK
      · rename_i e2 hsd
        rw [hsd] at us
        split at hK
        · rename_i i hi
          obtain ⟨hby, hK2⟩ := guardB_some hK
          clear hK
          rw [Bool.and_eq_true] at hby
          have hsrc := Nat.eq_of_beq_eq_true hby.2
          subst hsrc
          rw [us] at ud
          injection ud with ud
          injection ud with ud
          subst ud
          obtain ⟨b1, b2⟩ := isByte_some hby.1
          have ue := (he.ty _ i hi).under
          rw [b1] at ue
          unfold sameBytes at hK2
          split at hK2
          · rename_i id off len cap wd hx
            obtain ⟨g1, hK3⟩ := guardB_some hK2
            have g1 : 0 < len := Nat.le_of_ble_eq_true g1
            split at hK3
            · rename_i con hcon
              rw [putK_eq] at hK3
              obtain ⟨ver, hent⟩ := Heap.con_ent hcon
              refine ⟨_, _, _, _, hK3, Eff.put hk hent _ _, ?_⟩
              rintro w c s G ⟨a, o, ho, ht, rfl⟩ hp
              have h4 := ev_sound ht x
              rw [hx] at h4
              generalize hx' : a.eval x = x' at h4
              have hG := hp.agree id (.inl (by simp))
              rw [con_some hcon] at hG
              have hb : CellsRel w c (c.ι id) con := hp.hr.blk id _ hG
              cases h4 with | own _ _ _ _ _ aa m k1 k2 k3 k4 k5 =>
              have hm : ¬ m = 0 := by omega
              obtain ⟨l1, l2, l3⟩ := k5.resolve_left hm
              obtain ⟨arr, te, fz, a1, a2, a3, a4, a5, a6⟩ := hb.arr l1
              have hrun := run_same_bytes (P := P) (off := (c.ι id).st + off * wd) (len := len) (cap := m) us ue a1
              obtain ⟨f1, f2, f3⟩ := lay_facts (o' := .cells arr te (coldOf fz arr.size)) a1
              have hext : Ext w c (World.lay w (c.ι id).blk (.cells arr te (coldOf fz arr.size))) c := Ext.lay (fun b hm => (hp.hr.dis b hm).1) a1 (hb.own l1)
              have hcr : CellsRel (World.lay w (c.ι id).blk (.cells arr te (coldOf fz arr.size))) c (c.ι id) con :=
                ⟨hb.wd, hb.dead, hb.own, fun _ => ⟨arr, te, coldOf fz arr.size, f1, a2, a2 ▸ coldOf_cold (a2.symm ▸ a3), a4, a5, fun i' j v u hi' hj hv hu => VR.mono (hext.toExt0.at _) (a6 i' j v u hi' hj hv hu)⟩⟩
              refine ⟨_, .slice (some ⟨(c.ι id).blk, (c.ι id).st + off * wd, none⟩) len m, _, c, ?_, .inl rfl, .own id off len cap wd _ m k1 k2 k3 k4 (.inr ⟨l1, rfl, l3⟩), hext, fun q hq => .inl hq, fun G' hG' => HR.put hp.hr hG hent hG' hext l1 f2 hcr⟩
              rw [l2] at hx'
              simp only [execOp, ho, hx', Sem.run_bind, hrun, Result.andThen_ok]; rfl
            · cases hK3
          · cases hK2
        · cases hK
      · cases hK
    · cases hK
  · cases hK
include hk in
theorem builtin_same {c : Call} {b : Builtin} (hb : c.callee = .builtin b) {v : AV} (hK : K v h [] [] = some r)
    (hs : ∀ (w : World) (cx : Cx) (args : List Value) (ty : TypeId) (consts : Array Bool), VRs w cx (evs t c.args.toList) args → ∃ v', (builtin b c.argTypes ty consts args.toArray).run P w = .ok (.value v') w ∧ VR w cx v v') : Does P h K r (At t (.call c)) := by
  refine Does.same hk v [] hK ?_
  intro w cx x G hx hp
  obtain ⟨args, ty, consts, q1, q2⟩ := at_builtin (P := P) hb hx
  obtain ⟨v', h1, h2⟩ := hs w cx args ty consts q1
  exact ⟨v', q2.trans h1, h2⟩
include he hk in
theorem len_sound {c : Call} (hb : c.callee = .builtin .len) {x : AV} (hargs : evs t c.args.toList = [x]) (hK : lenA env c.argTypes x h K = some r) : Does P h K r (At t (.call c)) := by
  unfold lenA at hK
  split at hK
  · rename_i i hi
    obtain ⟨ty, t1, t2⟩ := tyA_some hi
    have u := (he.ty ty i t2).under
    split at hK
    · rename_i n e hd
      rw [hd] at u
      refine builtin_same hk hb hK ?_
      intro w cx args oty consts q
      rw [hargs] at q
      obtain ⟨x', rfl, q1⟩ := q.one'
      exact ⟨_, by simp [builtin, Builtin.len_, t1, run_underlying u, goInt], .val _⟩
    · rename_i e hd
      rw [hd] at u
      split at hK
      · rename_i n hn
        refine builtin_same hk hb hK ?_
        intro w cx args oty consts q
        rw [hargs] at q
        obtain ⟨x', rfl, q1⟩ := q.one'
        have : ∃ a m, x' = .slice a n m := by
          unfold lenOfA at hn
          split at hn
          · injection hn with hn; subst hn
            cases q1 with | ro _ _ a m _ _ _ _ => exact ⟨a, m, rfl⟩
          · injection hn with hn; subst hn
            cases q1 with | own _ _ _ _ _ a m _ _ _ _ _ => exact ⟨a, m, rfl⟩
          · injection hn with hn; subst hn
            have := q1.val_inv
            exact ⟨none, 0, this⟩
          · cases hn
        obtain ⟨a, m, rfl⟩ := this
        exact ⟨_, by simp [builtin, Builtin.len_, t1, run_underlying u, goInt], .val _⟩
      · cases hK
    · rename_i hd
      rw [hd] at u
      split at hK
      · rename_i s
        refine builtin_same hk hb hK ?_
        intro w cx args oty consts q
        rw [hargs] at q
        obtain ⟨x', rfl, q1⟩ := q.one'
        have := q1.val_inv
        subst this
        exact ⟨_, by simp [builtin, Builtin.len_, t1, run_underlying u, goInt], .val _⟩
      · cases hK
    · rename_i kt et hd
      rw [hd] at u
      split at hK
      · refine builtin_same hk hb hK ?_
        intro w cx args oty consts q
        rw [hargs] at q
        obtain ⟨x', rfl, q1⟩ := q.one'
        have := q1.val_inv
        subst this
        exact ⟨_, by simp [builtin, Builtin.len_, t1, run_underlying u, goInt], .val _⟩
      · rename_i m
        refine builtin_same hk hb hK ?_
        intro w cx args oty consts q
        rw [hargs] at q
        obtain ⟨x', rfl, q1⟩ := q.one'
        cases q1 with | rmp _ r' es ck g k1 k2 k3 k4 k5 =>
        have hg : (getObj r').run P w = .ok (.map es ck) w := run_get k2
        exact ⟨_, by simp [builtin, Builtin.len_, t1, run_underlying u, hg, k3, goInt], .val _⟩
      · rename_i id
        split at hK
        · rename_i i0 ver p m hent
          have := findE_id hent
          simp only at this
          subst this
          refine Does.same hk _ [i0] hK ?_
          intro w cx y G hy hp
          obtain ⟨args, oty, consts, q, q2⟩ := at_builtin (P := P) hb hy
          rw [hargs] at q
          obtain ⟨x', rfl, q1⟩ := q.one'
          have hG := hp.agree i0 (.inl (by simp))
          rw [G_map hent] at hG
          have hbr : MapRel w cx (cx.ι i0) p m := hp.hr.blk i0 _ hG
          obtain ⟨es, b1, b2, b3⟩ := hbr.obj
          cases q1 with | mp _ k1 k2 =>
          have hg : (getObj (cx.ι i0).blk).run P w = .ok (.map es m.clock) w := run_get b1
          exact ⟨_, q2.trans (by simp [builtin, Builtin.len_, t1, run_underlying u, hg, b2, goInt]), .val _⟩
        · cases hK
      · cases hK
    · cases hK
  · cases hK
include he hk in
theorem cap_sound {c : Call} (hb : c.callee = .builtin .cap) {x : AV} (hargs : evs t c.args.toList = [x]) (hK : capA env c.argTypes x h K = some r) : Does P h K r (At t (.call c)) := by
  unfold capA at hK
  split at hK
  · rename_i i hi
    obtain ⟨ty, t1, t2⟩ := tyA_some hi
    have u := (he.ty ty i t2).under
    split at hK
    · rename_i e hd
      rw [hd] at u
      have goal : ∀ m, K (.val (.int .i64 (m : Nat))) h [] [] = some r → (∀ w cx x', VR w cx x x' → ∃ a n, x' = .slice a n m) → Does P h K r (At t (.call c)) := by
        intro m hK hh
        refine builtin_same hk hb hK ?_
        intro w cx args oty consts q
        rw [hargs] at q
        obtain ⟨x', rfl, q1⟩ := q.one'
        obtain ⟨a, n, rfl⟩ := hh w cx x' q1
        exact ⟨_, by simp [builtin, Builtin.cap_, t1, run_underlying u, goInt], .val _⟩
      split at hK
      · exact goal 0 hK (fun w cx x' hx => ⟨none, 0, hx.val_inv⟩)
      · rename_i id off len k wd
        refine goal _ hK (fun w cx x' hx => ?_)
        cases hx with | own _ _ _ _ _ a m k1 k2 k3 k4 k5 =>
        exact ⟨a, len, by rw [k4 _ rfl]⟩
      · rename_i con k
        refine goal _ hK (fun w cx x' hx => ?_)
        cases hx with | ro _ _ a m k1 k2 k3 k4 =>
        exact ⟨a, con.len, by rw [k2 _ rfl]⟩
      · cases hK
    · cases hK
  · cases hK
theorem foldI_sound {f : Int → Int → Int} {f2 : Value → Value → Sem Value} (hf : ∀ k x k' y, f2 (.int k x) (.int k' y) = pure (.int k (f x y))) {w : World} {cx : Cx} {k : IntKind} : ∀ (l : List AV) (x n : Int) (l' : List Value), foldI f x l = some n → VRs w cx l l' →
    (l'.foldlM f2 (.int k x)).run P w = .ok (.int k n) w
  | [], x, n, l', h, hl => by
    cases hl
    simp [foldI] at h
    subst h
    simp
  | v :: l, x, n, l', h, hl => by
    cases hl with | cons _ v' _ l' h1 h2 =>
    unfold foldI at h
    split at h
    · rename_i heq; cases heq
    · rename_i heq
      injection heq with e1 e2
      subst e1; subst e2
      have := h1.val_inv
      subst this
      have ih := foldI_sound hf (k := k) _ _ n l' h h2
      simp only [List.foldlM_cons, hf]
      exact ih
    · cases h
include hk in
theorem minmax_sound {c : Call} {b : Builtin} (hb : c.callee = .builtin b) {f : Int → Int → Int} {f2 : Value → Value → Sem Value} (hf : ∀ k x k' y, f2 (.int k x) (.int k' y) = pure (.int k (f x y)))
    (hrun : ∀ ty consts (x : Value) (l : List Value), builtin b c.argTypes ty consts (x :: l).toArray = (do pure (.value (← l.foldlM f2 x)) : Sem Next)) (hK : minmaxA f (evs t c.args.toList) h K = some r) : Does P h K r (At t (.call c)) := by
  unfold minmaxA at hK
  split at hK
  · rename_i k x l hl
    split at hK
    · rename_i n hn
      refine builtin_same hk hb hK ?_
      intro w cx args oty consts q
      rw [hl] at q
      cases q with | cons _ v' _ l' h1 h2 =>
      have := h1.val_inv
      subst this
      have := foldI_sound (P := P) hf l x n l' (k := k) hn h2
      exact ⟨_, by rw [hrun]; simp only [Sem.run_bind, this, Result.andThen_ok, Sem.run_pure], .val _⟩
    · cases hK
  · cases hK
include he hk in
theorem builtin_sound {c : Call} {b : Builtin} (hb : c.callee = .builtin b) (hK : builtinA env b c.argTypes (evs t c.args.toList) h K = some r) : Does P h K r (At t (.call c)) := by
  unfold builtinA at hK
  split at hK
  · split at hK
    · rename_i x hx; exact len_sound he hk hb hx hK
    · cases hK
  · split at hK
    · rename_i x hx; exact cap_sound he hk hb hx hK
    · cases hK
  · exact minmax_sound hk hb (f2 := Builtin.max2) (fun _ _ _ _ => rfl) (fun _ _ _ _ => rfl) hK
  · exact minmax_sound hk hb (f2 := Builtin.min2) (fun _ _ _ _ => rfl) (fun _ _ _ _ => rfl) hK
  · split at hK
    · rename_i s x hx; exact appendB_sound he hk hb hx hK
    · cases hK
  · split at hK
    · rename_i d x hx; exact copyB_sound he hk hb hx hK
    · cases hK
  · cases hK
include he hk in
theorem prim_sound {o : Op} (hK : prim env o t h K = some r) : Does P h K r (At t o) := by
  unfold prim at hK
  split at hK
  · exact move_sound hk hK
  · exact assign_sound hk hK
  · exact pick_sound hk hK
  · exact alloc_sound he hk hK
  · exact box_sound he hk hK
  · exact build_sound he hk hK
  · exact buildSlice_sound he hk hK
  · exact load_sound he hk hK
  · exact store_sound he hk hK
  · exact nilCheck_sound hk hK
  · exact bin_sound he hk hK
  · exact un_sound hk hK
  · exact conv_sound he hk hK
  · exact iface_sound he hk hK
  · exact makeFunc_sound hk hK
  · exact makeSlice_sound he hk hK
  · exact slicePtr_sound he hk hK
  · exact fieldAddr_sound he hk hK
  · exact field_sound he hk hK
  · exact indexAddr_sound he hk hK
  · exact index_sound he hk hK
  · exact assert_sound he hk hK
  · exact extract_sound hk hK
  · exact makeMap_sound he hk hK
  · exact lookup_sound he hk hK
  · exact mapUpdate_sound he hk hK
  · exact insert_sound he hk hK
  · exact mapEntry_sound he hk hK
  · exact entryStore_sound he hk hK
  · exact range_sound he hk hK
  · exact next_sound hk hK
  · cases hK
end
end Go.Ev
/- Calls: what is asked of them, and what a caller makes of them. -/
namespace Go.Ev
def Goes (P : Program) (nx : Next) (w : World) (R : Value → World → Prop) : Prop :=
  match nx with
  | .value v => R v w
  | .skip => R undef w
  | .enter f args => CallsIn Fence.wide 0 P f args w fun e w' => ∃ v, e = .returned v ∧ R v w'
  | .round l f tmps assign body => RoundIn Fence.wide 0 P l f tmps assign body w fun e w' => ∃ v, e = .returned v ∧ R v w'
  | _ => False
def GoesE (P : Program) (nx : Next) (w : World) (R : Ending → World → Prop) : Prop :=
  match nx with
  | .value v => R (.returned v) w
  | .skip => R (.returned undef) w
  | .enter f args => CallsIn Fence.wide 0 P f args w R
  | .round l f tmps assign body => RoundIn Fence.wide 0 P l f tmps assign body w R
  | _ => False
theorem GoesE.mono {P : Program} {nx : Next} {w : World} {R R' : Ending → World → Prop} (h : GoesE P nx w R) (hr : ∀ e w', R e w' → R' e w') : GoesE P nx w R' := by
  cases nx <;> simp only [GoesE] at h ⊢
  · exact hr _ _ h
  · exact hr _ _ h
  · exact CallsIn.mono h hr
  · exact RoundIn.mono h hr
theorem Goes.e {P : Program} {nx : Next} {w : World} {R : Value → World → Prop} (h : Goes P nx w R) : GoesE P nx w (fun e w' => ∃ v, e = .returned v ∧ R v w') := by
  cases nx <;> simp only [Goes] at h <;> simp only [GoesE]
  · exact ⟨_, rfl, h⟩
  · exact ⟨_, rfl, h⟩
  · exact h
  · exact h
theorem GoesE.goes {P : Program} {nx : Next} {w : World} {R : Ending → World → Prop} {R' : Value → World → Prop} (h : GoesE P nx w R) (hr : ∀ e w', R e w' → ∃ v, e = .returned v ∧ R' v w') : Goes P nx w R' := by
  cases nx <;> simp only [GoesE] at h <;> simp only [Goes]
  · obtain ⟨v, e, k⟩ := hr _ _ h; injection e with e; subst e; exact k
  · obtain ⟨v, e, k⟩ := hr _ _ h; injection e with e; subst e; exact k
  · exact CallsIn.mono h hr
  · exact RoundIn.mono h hr
def chainOf (x : Value) : List PanicEntry := [{ v := x, recovered := false }]
theorem VR.noPan {w : World} {c : Cx} {x u : Value} (h : VR w c (.pan x) u) : False := by cases h
def EndIs (w : World) (c : Cx) (v : AV) (e : Ending) : Prop := (∃ x, v = .pan x ∧ e = .panicked (chainOf x)) ∨ ∃ v', e = .returned v' ∧ VR w c v v'
theorem EndIs.mono {w w' : World} {c c' : Cx} {v : AV} {e : Ending} (hx : Ext0 w c w' c') (h : EndIs w c v e) : EndIs w' c' v e := h.imp id (fun ⟨v', q, k⟩ => ⟨v', q, VR.mono hx k⟩)
theorem EndIs.pan {w : World} {c : Cx} {x : Value} {e : Ending} (h : EndIs w c (.pan x) e) : e = .panicked (chainOf x) := by
  rcases h with ⟨y, q, k⟩ | ⟨v', _, k⟩
  · injection q with q; subst q; exact k
  · exact k.noPan.elim
theorem EndIs.ret {w : World} {c : Cx} {v : AV} {e : Ending} (hn : ∀ x, v ≠ .pan x) (h : EndIs w c v e) : ∃ v', e = .returned v' ∧ VR w c v v' := by
  rcases h with ⟨y, q, k⟩ | h
  · exact absurd q (hn y)
  · exact h
structure HEff (h h' : Heap) : Prop where
  next : h.next ≤ h'.next
  ok : h'.ok
  ver : ∀ id e', findE h'.es id = some e' → id < h.next → ∃ e, findE h.es id = some e ∧ e.ver ≤ e'.ver ∧ (e'.ver = e.ver → e' = e)
theorem HEff.refl {h : Heap} (hk : h.ok) : HEff h h := ⟨Nat.le_refl _, hk, fun id e' he _ => ⟨e', he, Nat.le_refl _, fun _ => rfl⟩⟩
theorem HEff.trans {h h1 h2 : Heap} (a : HEff h h1) (b : HEff h1 h2) : HEff h h2 := by
  refine ⟨Nat.le_trans a.next b.next, b.ok, ?_⟩
  intro id e' he hi
  obtain ⟨e1, k1, k2, k3⟩ := b.ver id e' he (Nat.lt_of_lt_of_le hi a.next)
  obtain ⟨e, j1, j2, j3⟩ := a.ver id e1 k1 hi
  refine ⟨e, j1, Nat.le_trans j2 k2, fun q => ?_⟩
  have : e'.ver = e1.ver := by omega
  rw [k3 this]
  exact j3 (by omega)
theorem Eff.heff {h h' : Heap} {R Wr : List Nat} (e : Eff h h' R Wr) : HEff h h' := ⟨e.next, e.ok, e.ver⟩
def Post (w : World) (c : Cx) (h h' : Heap) (v : AV) : Value → World → Prop := fun v' w' =>
  ∃ c', VR w' c' v v' ∧ Ext w c w' c' ∧ (∀ id, c'.V id → c.V id ∨ (h.next ≤ id ∧ id < h'.next)) ∧ HR w' c' h'.G
def PostE (w : World) (c : Cx) (h h' : Heap) (v : AV) : Ending → World → Prop := fun e w' =>
  ∃ c', EndIs w' c' v e ∧ Ext w c w' c' ∧ (∀ id, c'.V id → c.V id ∨ (h.next ≤ id ∧ id < h'.next)) ∧ HR w' c' h'.G
theorem Post.e {w : World} {c : Cx} {h h' : Heap} {v : AV} {e : Ending} {w' : World} (p : ∃ v', e = .returned v' ∧ Post w c h h' v v' w') : PostE w c h h' v e w' := by
  obtain ⟨v', q, c', k1, k2⟩ := p
  exact ⟨c', .inr ⟨v', q, k1⟩, k2⟩
theorem callsRet {P : Program} {g : Nat} {a : Array Value} {w : World} {c : Cx} {h h' : Heap} {v : AV} (hc : CallsIn Fence.wide 0 P g a w (fun e w' => ∃ v', e = .returned v' ∧ Post w c h h' v v' w')) : CallsIn Fence.wide 0 P g a w (PostE w c h h' v) :=
  CallsIn.mono hc (fun _ _ q => Post.e q)
def CallOk (P : Program) (call : Calling) : Prop := ∀ (ρ : Type) (f : AV) (args : List AV) (h : Heap) (K : AV → Heap → Option ρ) (r : ρ), h.ok → call ρ f args h K = some r →
  ∃ v h', K v h' = some r ∧ HEff h h' ∧ ∀ (w : World) (c : Cx) (f' : Value) (args' : List Value), HR w c h.G → VR w c f f' → VRs w c args args' → (∀ id, h.next ≤ id → id < h'.next → ¬ c.V id) →
    ∃ d nx, (Deferred.ofValue f' args'.toArray).run P w = .ok d w ∧ (invoke d.target d.args).run P w = .ok nx w ∧ (funcClo f = true → ∃ g xs, nx = .enter g xs) ∧ GoesE P nx w (PostE w c h h' v)
def RealC (P : Program) (s : Sem Next) (w : World) (c : Cx) (h h' : Heap) (Wr : List Nat) (v : AV) (G : Nat → Option Blk) : Prop :=
  ∃ nx w1, s.run P w = .ok nx w1 ∧ Goes P nx w1 (fun v' w' => ∃ c', VR w' c' v v' ∧ Ext w c w' c' ∧
    (∀ id, c'.V id → c.V id ∨ (h.next ≤ id ∧ id < h'.next)) ∧ ∀ G', Patch G h h' Wr G' → HR w' c' G')
def RealX (P : Program) (s : Sem Next) (w : World) (c : Cx) (h h' : Heap) (Wr : List Nat) (x : Value) (G : Nat → Option Blk) : Prop :=
  (∃ nx w1, s.run P w = .ok nx w1 ∧ GoesE P nx w1 (fun e w' => e = .panicked (chainOf x) ∧ ∃ c', Ext w c w' c' ∧
    (∀ id, c'.V id → c.V id ∨ (h.next ≤ id ∧ id < h'.next)) ∧ ∀ G', Patch G h h' Wr G' → HR w' c' G')) ∨ (s.run P w = .halt (.panic x) w ∧ h' = h)
def DoesC {ρ : Type} (P : Program) (h : Heap) (X : Value → Heap → Option ρ) (K : KP ρ) (r : ρ) (s : World → Cx → Sem Next → Prop) : Prop :=
  (∃ v h' R Wr, K v h' R Wr = some r ∧ Eff h h' R Wr ∧ ∀ w c x G, s w c x → Pre w c h h' R Wr G → RealC P x w c h h' Wr v G) ∨
  (∃ x h' R Wr, X x h' = some r ∧ Eff h h' R Wr ∧ ∀ w c y G, s w c y → Pre w c h h' R Wr G → RealX P y w c h h' Wr x G)
theorem Does.c {ρ : Type} {P : Program} {h : Heap} {K : KP ρ} {r : ρ} {s : World → Cx → Sem Next → Prop} {X : Value → Heap → Option ρ} (hd : Does P h K r s) : DoesC P h X K r s := by
  obtain ⟨v, h', R, Wr, h1, h2, h3⟩ := hd
  refine .inl ⟨v, h', R, Wr, h1, h2, fun w c x G hx hp => ?_⟩
  obtain ⟨nx, v', w', c', k1, k2, k3, k4, k5, k6⟩ := h3 w c x G hx hp
  refine ⟨nx, w', k1, ?_⟩
  rcases k2 with rfl | ⟨rfl, rfl⟩
  · exact ⟨c', k3, k4, k5, k6⟩
  · exact ⟨c', k3, k4, k5, k6⟩
theorem mem_turned (l es' : List Ent) (id : Nat) : id ∈ turned l es' → id ∈ ids l := by
  induction l with
  | nil => intro h; simp [turned, foldL] at h
  | cons e l ih =>
    intro h
    have h' : id ∈ (match findE es' e.id with
      | some e' => bif Nat.beq e.ver e'.ver then turned l es' else e.id :: turned l es'
      | none => e.id :: turned l es') := h
    show id ∈ e.id :: ids l
    split at h'
    · rename_i e' he
      cases hb : Nat.beq e.ver e'.ver with
      | true => rw [hb] at h'; exact List.mem_cons_of_mem _ (ih h')
      | false =>
        rw [hb] at h'
        rcases List.mem_cons.1 h' with q | q
        · rw [q]; exact List.mem_cons_self ..
        · exact List.mem_cons_of_mem _ (ih q)
    · rcases List.mem_cons.1 h' with q | q
      · rw [q]; exact List.mem_cons_self ..
      · exact List.mem_cons_of_mem _ (ih q)
theorem not_turned {l es' : List Ent} (hu : Uniq l) {id : Nat} {e : Ent} (he : findE l id = some e) (h : id ∉ turned l es') : ∃ e', findE es' id = some e' ∧ e.ver = e'.ver := by
  induction l with
  | nil => simp at he
  | cons a l ih =>
    have hu' := uniq_cons.1 hu
    have h' : id ∉ (match findE es' a.id with
      | some e' => bif Nat.beq a.ver e'.ver then turned l es' else a.id :: turned l es'
      | none => a.id :: turned l es') := h
    rw [findE_cons] at he
    by_cases hai : a.id = id
    · rw [if_pos hai] at he
      injection he with he
      subst he
      split at h'
      · rename_i e' hf
        rw [hai] at hf
        cases hb : Nat.beq a.ver e'.ver with
        | true => exact ⟨e', hf, beq_iff.1 hb⟩
        | false => rw [hb] at h'; exact absurd (by rw [hai]; exact List.mem_cons_self ..) h'
      · exact absurd (by rw [hai]; exact List.mem_cons_self ..) h'
    · rw [if_neg hai] at he
      refine ih hu'.2 he ?_
      intro q
      apply h'
      split
      · cases Nat.beq a.ver _
        · exact List.mem_cons_of_mem _ q
        · exact q
      · exact List.mem_cons_of_mem _ q
theorem findE_some_mem {l : List Ent} {id : Nat} {e : Ent} (h : findE l id = some e) : e ∈ l := by
  induction l with
  | nil => simp at h
  | cons a l ih =>
    rw [findE_cons] at h
    split at h
    · injection h with h; subst h; exact List.mem_cons_self ..
    · exact List.mem_cons_of_mem _ (ih h)
section
variable {P : Program} {call : Calling} (hc : CallOk P call)
include hc in
theorem callOp_sound {ρ : Type} {b : Bool} {f : AV} {args : List AV} {h : Heap} (hk : h.ok) {K : KP ρ} {r : ρ} (hK : callOp b call f args h K = some r) :
    ∃ v h' R Wr, K v h' R Wr = some r ∧ Eff h h' R Wr ∧ ∀ (w : World) (c : Cx) (f' : Value) (args' : List Value) (G : Nat → Option Blk), VR w c f f' → VRs w c args args' → Pre w c h h' R Wr G →
      ∃ d nx, (Deferred.ofValue f' args'.toArray).run P w = .ok d w ∧ (invoke d.target d.args).run P w = .ok nx w ∧ (funcClo f = true → ∃ g xs, nx = .enter g xs) ∧ GoesE P nx w (fun e w' => ∃ c', EndIs w' c' v e ∧ Ext w c w' c' ∧
        (∀ id, c'.V id → c.V id ∨ (h.next ≤ id ∧ id < h'.next)) ∧ ∀ G', Patch G h h' Wr G' → HR w' c' G') := by
  unfold callOp at hK
  rw [sSp_eq] at hK
  obtain ⟨m, hm⟩ : ∃ m, m = reach fuelR h.es (f.refs ++ refss args) [] := ⟨_, rfl⟩
  rw [← hm] at hK
  obtain ⟨sub, hsub⟩ : ∃ sub, sub = pickE h.es m := ⟨_, rfl⟩
  rw [← hsub] at hK
  have hsl : sub.Sublist h.es := by rw [hsub]; exact pickE_sub _ _
  have hsu : Uniq sub := List.Nodup.sublist (hsl.map _) hk.uniq
  have hsf : ∀ id e, findE sub id = some e → findE h.es id = some e := by
    intro id e he
    rw [hsub, findE_pickE] at he
    split at he
    · exact he
    · cases he
  have hsk : (⟨h.next, sub⟩ : Heap).ok := ⟨hsu, fun id e he => hk.lt id e (hsf id e he)⟩
  obtain ⟨v, h2, hK, he2, hreal⟩ := hc ρ f args ⟨h.next, sub⟩ _ r hsk hK
  simp only [sAV_eq, sSp_eq, sHeap_eq] at hK
  obtain ⟨es2, hes2⟩ : ∃ es2, es2 = pickE h2.es (reach fuelR h2.es (v.refs ++ ids sub) []) := ⟨_, rfl⟩
  rw [← hes2] at hK
  have h2f : ∀ id e, findE es2 id = some e → findE h2.es id = some e := by
    intro id e he
    rw [hes2, findE_pickE] at he
    split at he
    · exact he
    · cases he
  have h2l : es2.Sublist h2.es := by rw [hes2]; exact pickE_sub _ _
  have h2u : Uniq es2 := List.Nodup.sublist (h2l.map _) he2.ok.uniq
  have hold : ∀ id e, findE es2 id = some e → id < h.next → id ∈ ids sub := by
    intro id e he hi
    obtain ⟨e0, k1, _⟩ := he2.ver id e (h2f id e he) hi
    exact (mem_ids _ _).2 ⟨e0, k1⟩
  have hR : ∀ id, findE (restHeap h2.next es2 h.es (ids sub)).es id = match findE es2 id with | some e => some e | none => if id ∈ ids sub then none else findE h.es id := by
    intro id
    simp only [restHeap, findE_append, findE_dropE]
    cases findE es2 id <;> rfl
  have hsame : ∀ id, id < h.next → id ∉ turned sub es2 → findE (restHeap h2.next es2 h.es (ids sub)).es id = findE h.es id := by
    intro id hi ht
    rw [hR]
    by_cases hs : id ∈ ids sub
    · obtain ⟨e, he⟩ := (mem_ids _ _).1 hs
      obtain ⟨e', k1, k2⟩ := not_turned hsu he ht
      obtain ⟨e0, j1, j2, j3⟩ := he2.ver id e' (h2f id e' k1) hi
      rw [show findE (⟨h.next, sub⟩ : Heap).es id = findE sub id from rfl, he] at j1
      injection j1 with j1
      subst j1
      rw [k1, hsf id e he, j3 k2.symm]
    · cases hf : findE es2 id with
      | some e => exact absurd (hold id e hf hi) hs
      | none => simp [hs]
  refine ⟨v, restHeap h2.next es2 h.es (ids sub), ids sub, turned sub es2, hK, ?_, ?_⟩
  · refine ⟨he2.next, ⟨?_, ?_⟩, ?_, hsame, ?_⟩
    · show Uniq (es2 ++ dropE h.es (ids sub))
      unfold Uniq
      rw [List.map_append, List.nodup_append]
      refine ⟨h2u, List.Nodup.sublist ((dropE_sub _ _).map _) hk.uniq, ?_⟩
      intro i hi j hj hij
      subst hij
      obtain ⟨e1, m1, q1⟩ := List.mem_map.1 hi
      obtain ⟨e2, m2, q2⟩ := List.mem_map.1 hj
      have f1 := findE_mem h2u m1
      have f2 := findE_mem (List.Nodup.sublist ((dropE_sub h.es (ids sub)).map _) hk.uniq) m2
      rw [q1] at f1
      rw [q2, findE_dropE] at f2
      split at f2
      · cases f2
      · rename_i hn
        exact hn (hold i e1 f1 (hk.lt i e2 f2))
    · intro id e he
      rw [hR] at he
      split at he
      · rename_i e' hf; exact he2.ok.lt id e' (h2f id e' hf)
      · split at he
        · cases he
        · exact Nat.lt_of_lt_of_le (hk.lt id e he) he2.next
    · intro id hid
      obtain ⟨e, he⟩ := (mem_ids _ _).1 (mem_turned _ _ _ hid)
      exact hk.lt id e (hsf id e he)
    · intro id e' he hi
      rw [hR] at he
      split at he
      · rename_i e'' hf
        injection he with he
        subst he
        obtain ⟨e, k1, k2, k3⟩ := he2.ver id e'' (h2f id e'' hf) hi
        exact ⟨e, hsf id e k1, k2, k3⟩
      · split at he
        · cases he
        · exact ⟨e', he, Nat.le_refl _, fun _ => rfl⟩
  · intro w c f' args' G hf hargs hp
    have hGs : ∀ id e, findE sub id = some e → G id = some e.blk := by
      intro id e he
      rw [hp.agree id (.inl ((mem_ids _ _).2 ⟨e, he⟩))]
      simp [Heap.G, hsf id e he]
    let c1 : Cx := ⟨c.M, fun b => ∃ id e, findE sub id = some e ∧ (c.ι id).live = true ∧ (c.ι id).blk = b, c.ι, c.V⟩
    have hO : ∀ b, c1.O b → c.O b := by
      rintro b ⟨id, e, he, hl, rfl⟩
      exact (hp.hr.blk id _ (hGs id e he)).owned hl
    have hx1 : Ext0 w c w c1 := ⟨fun _ q => q, fun _ _ _ => rfl, fun i hi => ⟨hi, rfl⟩⟩
    have hr1 : HR w c1 (⟨h.next, sub⟩ : Heap).G := by
      have hG1 : ∀ id b, (⟨h.next, sub⟩ : Heap).G id = some b → ∃ e, findE sub id = some e ∧ e.blk = b := by
        intro id b hb
        simp only [Heap.G, Option.map_eq_some_iff] at hb
        exact hb
      refine ⟨?_, ?_, ?_, ?_⟩
      · intro id b hb
        obtain ⟨e, he, rfl⟩ := hG1 id b hb
        exact hp.hr.valid id _ (hGs id e he)
      · intro id b hb
        obtain ⟨e, he, rfl⟩ := hG1 id b hb
        exact BlkRel.keep hx1 (hp.hr.blk id _ (hGs id e he)) (fun _ => rfl) (fun hl => ⟨id, e, he, hl, rfl⟩)
      · intro i j b b' hi hj li lj hbk
        obtain ⟨e, he, rfl⟩ := hG1 i b hi
        obtain ⟨e', he', rfl⟩ := hG1 j b' hj
        exact hp.hr.inj i j _ _ (hGs i e he) (hGs j e' he') li lj hbk
      · intro b hb
        exact ⟨fun ho => (hp.hr.dis b hb).1 (hO b ho), (hp.hr.dis b hb).2⟩
    obtain ⟨d, nx, g1, g2, g3, g4⟩ := hreal w c1 f' args' hr1 (VR.mono hx1 hf) (VRs.mono hx1 hargs) (fun id h3 h4 => hp.fresh id h3 h4)
    refine ⟨d, nx, g1, g2, g3, GoesE.mono g4 ?_⟩
    rintro v' w' ⟨c', hv, hx, hV, hr⟩
    let c2 : Cx := ⟨c'.M, fun b => c'.O b ∨ (c.O b ∧ b < w.heap.size), c'.ι, c'.V⟩
    have hx2 : Ext0 w' c' w' c2 := ⟨fun _ q => q, fun _ _ _ => rfl, fun i hi => ⟨hi, rfl⟩⟩
    have hx3 : Ext0 w c w' c2 := ⟨hx.M, hx.mkeep, hx.ids⟩
    refine ⟨c2, ?_, ?_, hV, ?_⟩
    · exact EndIs.mono hx2 hv
    · refine ⟨⟨hx.M, hx.mkeep, hx.ids⟩, hx.os, hx.tape, hx.output, hx.size, fun b hb ho => hx.keep b hb (fun q => ho (hO b q)), ?_, hx.Mo, fun b hm hn => ⟨fun o => o.elim (hx.nd b hm hn).1 (fun q => hn (hx.Mo b q.2 hm)), (hx.nd b hm hn).2⟩⟩
      rintro b hb (q | q)
      · exact hO b (hx.own b hb q)
      · exact q.1
    · intro G' hG'
      -- which blocks there are
      have hcls : ∀ id b, G' id = some b → (h2.G id = some b) ∨ (id ∉ ids sub ∧ G id = some b) := by
        intro id b hb
        by_cases hW : id ∈ turned sub es2 ∨ (h.next ≤ id ∧ id < (restHeap h2.next es2 h.es (ids sub)).next)
        · rw [(hG' id).1 hW] at hb
          simp only [Heap.G, Option.map_eq_some_iff] at hb ⊢
          obtain ⟨e, he, rfl⟩ := hb
          rw [hR] at he
          split at he
          · rename_i e' hf
            injection he with he
            subst he
            exact .inl ⟨e', h2f id e' hf, rfl⟩
          · split at he
            · cases he
            · rename_i hn
              rcases hW with q | q
              · exact absurd (mem_turned _ _ _ q) hn
              · have := hk.lt id e he; omega
        · rw [(hG' id).2 hW] at hb
          by_cases hs : id ∈ ids sub
          · obtain ⟨e, he⟩ := (mem_ids _ _).1 hs
            rw [hGs id e he] at hb
            injection hb with hb
            subst hb
            obtain ⟨e', k1, k2⟩ := not_turned hsu he (fun q => hW (.inl q))
            obtain ⟨e0, j1, j2, j3⟩ := he2.ver id e' (h2f id e' k1) (hk.lt id e (hsf id e he))
            rw [show findE (⟨h.next, sub⟩ : Heap).es id = findE sub id from rfl, he] at j1
            injection j1 with j1
            subst j1
            left
            simp only [Heap.G, h2f id e' k1, Option.map_some]
            rw [j3 k2.symm]
          · exact .inr ⟨hs, hb⟩
      have hrest : ∀ id b, id ∉ ids sub → G id = some b → (c.ι id).live = true → ¬ c1.O (c.ι id).blk := by
        rintro id b hs hb hl ⟨i0, e0, k1, k2, k3⟩
        have := hp.hr.inj i0 id _ _ (hGs i0 e0 k1) hb k2 hl k3
        subst this
        exact hs ((mem_ids _ _).2 ⟨e0, k1⟩)
      have hid : ∀ id b, G id = some b → c'.V id ∧ c'.ι id = c.ι id := fun id b hb => hx.ids id (hp.hr.valid id b hb)
      refine ⟨?_, ?_, ?_, ?_⟩
      · intro id b hb
        rcases hcls id b hb with q | ⟨_, q⟩
        · exact hr.valid id b q
        · exact (hid id b q).1
      · intro id b hb
        rcases hcls id b hb with q | ⟨hs, q⟩
        · have hbr := hr.blk id b q
          exact BlkRel.keep hx2 hbr (fun _ => rfl) (fun hl => .inl (hbr.owned hl))
        · have hbr := hp.hr.blk id b q
          show BlkRel w' _ (c'.ι id) b
          rw [(hid id b q).2]
          refine BlkRel.keep hx3 hbr (fun hl => ?_) (fun hl => .inr ⟨hbr.owned hl, hbr.lt hl⟩)
          exact hx.keep _ (hbr.lt hl) (hrest id b hs q hl)
      · intro i j b b' hi hj li lj hbk
        have li' : (c'.ι i).live = true := li
        have lj' : (c'.ι j).live = true := lj
        have hbk' : (c'.ι i).blk = (c'.ι j).blk := hbk
        have mixed : ∀ i j b b', h2.G i = some b → j ∉ ids sub → G j = some b' → (c'.ι i).live = true → (c'.ι j).live = true → (c'.ι i).blk = (c'.ι j).blk → False := by
          intro i j b b' qi sj qj li lj hbk
          have h1 := (hr.blk i b qi).owned li
          rw [hbk] at h1
          rw [(hid j b' qj).2] at h1 lj
          have h3 := (hp.hr.blk j b' qj).lt lj
          exact hrest j b' sj qj lj (hx.own _ h3 h1)
        rcases hcls i b hi with qi | ⟨si, qi⟩
        · rcases hcls j b' hj with qj | ⟨sj, qj⟩
          · exact hr.inj i j b b' qi qj li' lj' hbk'
          · exact (mixed i j b b' qi sj qj li' lj' hbk').elim
        · rcases hcls j b' hj with qj | ⟨sj, qj⟩
          · exact (mixed j i b' b qj si qi lj' li' hbk'.symm).elim
          · rw [(hid i b qi).2] at li' hbk'
            rw [(hid j b' qj).2] at lj' hbk'
            exact hp.hr.inj i j b b' qi qj li' lj' hbk'
      · intro b hb
        obtain ⟨h3, h4⟩ := hr.dis b hb
        refine ⟨?_, h4⟩
        rintro (q | q)
        · exact h3 q
        · exact (hp.hr.dis b (hx.Mo b q.2 hb)).1 q.1
theorem valsOf0_sound {w : World} : ∀ {l : List AV} {c : Cx} {m : List Value} {us : List Value}, valsOf0 l = some m → VRs w c l us → us = m
  | [], c, m, us, h, hv => by
    cases hv
    replace h : some ([] : List Value) = some m := h
    injection h
  | v :: l, c, m, us, h, hv => by
    cases hv with | cons _ u _ us k1 k2 =>
    replace h : (match valOf0 v, valsOf0 l with | some v, some l => some (v :: l) | _, _ => none) = some m := h
    split at h
    · rename_i x xs h1 h2
      injection h with h
      subst h
      have e2 := valsOf0_sound h2 k2
      subst e2
      unfold valOf0 at h1
      split at h1
      · injection h1 with h1
        subst h1
        cases k1
        rfl
      · cases h1
    · cases h
theorem panArg_sound {w : World} {c : Cx} {l : List AV} {x : Value} {us : List Value} (h : panArg l = some x) (hv : VRs w c l us) : us = [x] ∧ ∃ t v, x = .iface t v := by
  unfold panArg at h
  split at h
  · rename_i t v
    cases hv with | cons _ u _ us k1 k2 =>
    cases k2
    cases k1 with | ifc _ _ v' q =>
    split at h
    · rename_i y hy
      injection h with h
      subst h
      have e : v' = y := by
        unfold valOf1 at hy
        split at hy
        · injection hy with hy
          subst hy
          cases q
          rfl
        · split at hy
          · rename_i m hm
            injection hy with hy
            subst hy
            cases q with | agg _ _ q =>
            rw [valsOf0_sound hm q]
          · cases hy
        · cases hy
      subst e
      exact ⟨rfl, _, _, rfl⟩
    · cases h
  · cases h
variable {env : Env} (he : EnvOk P env)
include hc he in
theorem opK_sound {ρ : Type} {o : Op} {t : List AV} {h : Heap} (hk : h.ok) {X : Value → Heap → Option ρ} {K : KP ρ} {r : ρ} (hK : opK env call o t h X K = some r) : DoesC P h X K r (At t o) := by
  unfold opK at hK
  split at hK
  · rename_i c
    unfold opCall at hK
    split at hK
    · rename_i f hf
      obtain ⟨v, h', R, Wr, k1, k2, k3⟩ := callOp_sound hc hk hK
      have run : ∀ (w : World) (cx : Cx) (y : Sem Next) (G : Nat → Option Blk), At t (.call c) w cx y → Pre w cx h h' R Wr G → ∃ nx, y.run P w = .ok nx w ∧ GoesE P nx w (fun e w' => ∃ c', EndIs w' c' v e ∧ Ext w cx w' c' ∧
          (∀ id, c'.V id → cx.V id ∨ (h.next ≤ id ∧ id < h'.next)) ∧ ∀ G', Patch G h h' Wr G' → HR w' c' G') := by
        rintro w cx x G ⟨a, o, ho, ht, rfl⟩ hp
        obtain ⟨d, nx, g1, g2, g3, g4⟩ := k3 w cx (a.eval f) (c.args.toList.map a.eval) G (ev_sound ht f) (evs_sound ht _) hp
        refine ⟨nx, ?_, g4⟩
        have e : (c.args.toList.map a.eval).toArray = c.args.map a.eval := by rw [← Array.toList_map, Array.toArray_toList]
        rw [e] at g1
        have e2 : execOp a.eval o = (resolve a.eval c o.type >>= fun d => invoke d.target d.args) := by simp only [execOp, ho]
        have e3 : resolve a.eval c o.type = Deferred.ofValue (a.eval f) (c.args.map a.eval) := by unfold resolve; rw [hf]
        rw [e2, e3, Sem.run_bind, g1, Result.andThen_ok]
        exact g2
      unfold panK at k1
      split at k1
      · rename_i x
        refine .inr ⟨x, h', R, Wr, k1, k2, fun w cx y G hy hp => ?_⟩
        obtain ⟨nx, q1, q2⟩ := run w cx y G hy hp
        exact .inl ⟨nx, w, q1, GoesE.mono q2 (fun e w' ⟨c', z1, z2⟩ => ⟨z1.pan, c', z2⟩)⟩
      · rename_i hn
        refine .inl ⟨v, h', R, Wr, k1, k2, fun w cx y G hy hp => ?_⟩
        obtain ⟨nx, q1, q2⟩ := run w cx y G hy hp
        refine ⟨nx, w, q1, GoesE.goes q2 (fun e w' ⟨c', z1, z2⟩ => ?_)⟩
        obtain ⟨v', z3, z4⟩ := z1.ret (fun x q => hn x q)
        exact ⟨v', z3, c', z4, z2⟩
    · rename_i b hb
      cases hp : isPanB b with
      | false => rw [hp] at hK; exact (builtin_sound he hk hb hK).c
      | true =>
        rw [hp, cond_true] at hK
        split at hK
        · rename_i x hx
          refine .inr ⟨x, h, [], [], hK, Eff.refl hk _, ?_⟩
          rintro w cx y G ⟨a, o, ho, ht, rfl⟩ _
          refine .inr ⟨?_, rfl⟩
          obtain ⟨q1, t', v', q2⟩ := panArg_sound hx (evs_sound ht c.args.toList)
          have hbp : b = .panic := by
            cases b <;> first | rfl | cases hp
          subst hbp
          have e0 : c.args.map a.eval = #[x] := by
            have : (c.args.map a.eval).toList = [x] := by rw [Array.toList_map]; exact q1
            rw [← Array.toArray_toList (xs := c.args.map a.eval), this]
          have e2 : execOp a.eval o = (resolve a.eval c o.type >>= fun d => invoke d.target d.args) := by simp only [execOp, ho]
          rw [e2]
          unfold resolve
          rw [hb]
          subst q2
          simp [e0, Sem.run_bind, invoke, builtin, Instr.panic, goPanic, Sem.run]
        · cases hK
    · cases hK
  · exact (prim_sound he hk hK).c
end
end Go.Ev
/- Regions. -/
namespace Go.Ev
theorem keepT_get : ∀ (l : List AV) (n : Nat) (ks : List Nat) (k : Nat), getT (keepT n l ks) k = if n + k ∈ ks then getT l k else .unk
  | [], n, ks, k => by simp [keepT, getT, nthD_eq]
  | v :: l, n, ks, 0 => by
    show (bif memN n ks then v else .unk) = _
    by_cases h : n ∈ ks
    · rw [(memN_iff _ _).2 h]; simp [h]; rfl
    · have : memN n ks = false := by rw [Bool.eq_false_iff]; exact fun q => h ((memN_iff _ _).1 q)
      rw [this]; simp [h]
  | v :: l, n, ks, k + 1 => by
    have := keepT_get l (n + 1) ks k
    rw [show n + 1 + k = n + (k + 1) by omega] at this
    exact this
theorem keepT_len : ∀ (l : List AV) (n : Nat) (ks : List Nat), (keepT n l ks).length = l.length
  | [], _, _ => rfl
  | v :: l, n, ks => by simp [keepT, keepT_len l]
theorem getT_eq {l : List AV} {k : Nat} (h : k < l.length) : l[k]? = some (getT l k) := by
  rw [getT, nthD_eq]; simp [h]
theorem VRs.of_slots {w : World} {c : Cx} {t : List AV} {l : List Value} (hl : l.length = t.length) (h : ∀ k v', l[k]? = some v' → VR w c (getT t k) v') : VRs w c t l := by
  refine VRs.of_get _ _ hl ?_
  intro k v v' h1 h2
  have hk : k < t.length := by
    rcases Nat.lt_or_ge k t.length with q | q
    · exact q
    · rw [List.getElem?_eq_none q] at h1; cases h1
  have := getT_eq hk
  rw [h1] at this
  injection this with this
  rw [this]
  exact h k v' h2
theorem VRs.slot {w : World} {c : Cx} {t : List AV} {l : List Value} (h : VRs w c t l) {k : Nat} {v' : Value} (hk : l[k]? = some v') : VR w c (getT t k) v' := by
  have hl := h.length
  have hlt : k < t.length := by
    rcases Nat.lt_or_ge k l.length with q | q
    · omega
    · rw [List.getElem?_eq_none q] at hk; cases hk
  obtain ⟨u, h1, h2⟩ := h.get k _ (getT_eq hlt)
  rw [hk] at h1
  injection h1 with h1
  subst h1; exact h2
theorem VRs.masked {w : World} {c : Cx} {t t' : List AV} {l : List Value} (h : VRs w c t' l) (hl : t.length = t'.length) (ks : List Nat) (ha : ∀ k ∈ ks, getT t' k = getT t k) : VRs w c (keepT 0 t ks) l := by
  refine VRs.of_slots (by rw [keepT_len, hl]; exact h.length) ?_
  intro k v' hk
  rw [keepT_get, Nat.zero_add]
  split
  · rename_i hm
    rw [← ha k hm]
    exact h.slot hk
  · exact .unk _
theorem setT_len (t : List AV) (d : Option Tmp) (v : AV) : (setT t d v).length = t.length := by
  cases d <;> simp [setT, setL_eq]
theorem setT_get (t : List AV) (d : Option Tmp) (v : AV) (k : Nat) : getT (setT t d v) k = if d = some k ∧ k < t.length then v else getT t k := by
  cases d with
  | none => simp [setT]
  | some i =>
    simp only [setT, setL_eq, getT, nthD_eq, List.getD_eq_getElem?_getD, List.getElem?_set, Option.some.injEq]
    by_cases h : i = k
    · subst h
      by_cases hk : i < t.length
      · simp [hk]
      · simp [hk, List.getElem?_eq_none (Nat.le_of_not_lt hk)]
    · simp [h]
theorem put_rel {w : World} {c : Cx} {t : List AV} {a : Act} {d : Option Tmp} {v : AV} {v' : Value} (h : VRs w c t a.tmps.toList) (hv : VR w c v v') : VRs w c (setT t d v) (a.put d v').tmps.toList := by
  cases d with
  | none => exact h
  | some i =>
    simp only [setT, setL_eq, Act.put]
    have := h.set i hv
    simpa using this
theorem evs_congr {t t' : List AV} : ∀ {l : List Operand}, (∀ x ∈ l, ev t x = ev t' x) → evs t l = evs t' l
  | [], _ => rfl
  | x :: l, h => by
    show ev t x :: evs t l = ev t' x :: evs t' l
    rw [h x (by simp), evs_congr (fun y hy => h y (by simp [hy]))]
theorem parts_congr {t t' : List AV} {l : List (Nat × Operand)} (h : ∀ p ∈ l, ev t p.2 = ev t' p.2) : partsA t l = partsA t' l := by
  unfold partsA
  exact List.map_congr_left fun p hp => by rw [h p hp]
theorem opK_congr {ρ : Type} {env : Env} {call : Calling} {t t' : List AV} {h : Heap} {X : Value → Heap → Option ρ} {K : KP ρ} {o : Op} (hh : ∀ x ∈ o.operands.toList, ev t x = ev t' x) : opK env call o t h X K = opK env call o t' h X K := by
  cases o <;> simp only [Op.operands] at hh <;> simp only [opK, prim]
  case build ty ps => rw [parts_congr fun p hp => hh p.2 (by simpa using ⟨p.1, by simpa using hp⟩)]
  case buildSlice ty n ps => rw [parts_congr fun p hp => hh p.2 (by simpa using ⟨p.1, by simpa using hp⟩)]
  case makeFunc f x y => rw [evs_congr (l := x.toList) fun z hz => hh z (by simp at hz ⊢; exact .inl hz), evs_congr (l := y.toList) fun z hz => hh z (by simp at hz ⊢; exact .inr hz)]
  case slice ty x lo hi mx => cases lo <;> cases hi <;> cases mx <;> simp_all
  case makeMap ty r => cases r <;> simp_all
  case call c =>
    unfold opCall
    cases hc : c.callee <;> simp only [Call.operands, hc] at hh ⊢
    case value f => rw [hh f (by simp), evs_congr (l := c.args.toList) fun z hz => hh z (by simp at hz ⊢; exact .inr hz)]
    case builtin b => rw [evs_congr (l := c.args.toList) fun z hz => hh z (by simpa using hz)]
  all_goals (first | rfl | (simp_all; done))
end Go.Ev
/- Regions: the text's order. -/
namespace Go.Ev
structure StepOk (P : Program) (ops : Array Oper) (o : Oper) (t : List AV) (h : Heap) (v : AV) (t' : List AV) (h' : Heap) (ft : Foot) : Prop where
  tmps : t' = setT t o.dst v
  wt : ft.wt = o.dst
  lo : ft.lo = h.next
  hi : ft.hi = h'.next
  post : ft.post = h'
  ld : ∀ ty p u, ft.ld = some (ty, p, u) → u = v ∧ ∃ x, o.op = .load ty x ∧ p = ev (keepT 0 t ft.rt) x
  eff : Eff h h' ft.r ft.w
  does : ((∀ (w : World) (c : Cx) (a : Act), VRs w c (keepT 0 t ft.rt) a.tmps.toList → Region.wanted o (yielded ops a.tmps) = true) ∧ (∀ c, o.op ≠ .defer c) ∧
      ∀ (w : World) (c : Cx) (a : Act) (G : Nat → Option Blk), VRs w c (keepT 0 t ft.rt) a.tmps.toList → Pre w c h h' ft.r ft.w G → RealC P (execOp a.eval o) w c h h' ft.w v G)
    ∨ ((∀ (w : World) (c : Cx) (a : Act), VRs w c (keepT 0 t ft.rt) a.tmps.toList → Region.wanted o (yielded ops a.tmps) = false) ∧ h' = h ∧ v = undefA ∧ ft.w = [])
structure StepX (P : Program) (ops : Array Oper) (o : Oper) (t : List AV) (h : Heap) (x : Value) (h' : Heap) (R Wr : List Nat) : Prop where
  eff : Eff h h' R Wr
  want : ∀ (w : World) (c : Cx) (a : Act), VRs w c (keepT 0 t (rtOf (ops.toList.map (·.dst)) o)) a.tmps.toList → Region.wanted o (yielded ops a.tmps) = true
  nd : ∀ c, o.op ≠ .defer c
  real : ∀ (w : World) (c : Cx) (a : Act) (G : Nat → Option Blk), VRs w c (keepT 0 t (rtOf (ops.toList.map (·.dst)) o)) a.tmps.toList → Pre w c h h' R Wr G → RealX P (execOp a.eval o) w c h h' Wr x G
structure StepD (P : Program) (ops : Array Oper) (idle : Bool) (o : Oper) (t : List AV) (h : Heap) (v : AV) (t' : List AV) (h' : Heap) (ft : Foot) : Prop where
  tmps : t' = setT t o.dst v
  wt : ft.wt = o.dst
  lo : ft.lo = h.next
  hi : ft.hi = h'.next
  post : ft.post = h'
  ld : ∀ ty p u, ft.ld = some (ty, p, u) → u = v ∧ ∃ x, o.op = .load ty x ∧ p = ev (keepT 0 t ft.rt) x
  eff : Eff h h' ft.r ft.w
  does : (((∀ (w : World) (c : Cx) (a : Act), VRs w c (keepT 0 t ft.rt) a.tmps.toList → Region.wanted o (yielded ops a.tmps) = true) ∧ (∀ c, o.op ≠ .defer c) ∧
      ∀ (w : World) (c : Cx) (a : Act) (G : Nat → Option Blk), VRs w c (keepT 0 t ft.rt) a.tmps.toList → Pre w c h h' ft.r ft.w G → RealC P (execOp a.eval o) w c h h' ft.w v G)
    ∨ ((∀ (w : World) (c : Cx) (a : Act), VRs w c (keepT 0 t ft.rt) a.tmps.toList → Region.wanted o (yielded ops a.tmps) = false) ∧ h' = h ∧ v = undefA ∧ ft.w = []))
    ∨ (idle = true ∧ ft.w = [] ∧ ft.rt = [])
theorem StepOk.d {P : Program} {ops : Array Oper} {o : Oper} {t : List AV} {h : Heap} {v : AV} {t' : List AV} {h' : Heap} {ft : Foot} (k : StepOk P ops o t h v t' h' ft) : StepD P ops false o t h v t' h' ft :=
  ⟨k.tmps, k.wt, k.lo, k.hi, k.post, k.ld, k.eff, .inl k.does⟩
theorem StepD.idle {P : Program} {ops : Array Oper} {o : Oper} {t : List AV} {h : Heap} (hk : h.ok) : StepD P ops true o t h undefA (setT t o.dst undefA) h (footIdle o h) :=
  ⟨rfl, rfl, rfl, rfl, rfl, (fun ty p u hl => by cases hl), Eff.refl hk _, .inr ⟨rfl, rfl, rfl⟩⟩
theorem mem_tmpsOf {l : List Operand} {i : Tmp} (h : Operand.tmp i ∈ l) : i ∈ tmpsOf l := by
  induction l with
  | nil => cases h
  | cons x l ih =>
    rcases List.mem_cons.1 h with q | q
    · subst q; simp [tmpsOf]
    · cases x <;> simp only [tmpsOf] <;> first | exact List.mem_cons_of_mem _ (ih q) | exact ih q
theorem yielded_eq (ops : Array Oper) (tmps : Array Value) (j : Nat) : yielded ops tmps j = match (nthD none (ops.toList.map (·.dst)) j).bind (tmps[·]?) with | some (.bool b) => some b | _ => none := by
  unfold yielded
  rw [nthD_eq]
  have : (ops[j]?).bind (·.dst) = (ops.toList.map (·.dst)).getD j none := by
    simp only [List.getD_eq_getElem?_getD, List.getElem?_map, Array.getElem?_toList]
    cases ops[j]? <;> rfl
  rw [this]
  rfl
theorem wantK_some {ρ : Type} {ops : Array Oper} {o : Oper} {t : List AV} {yes no : Option ρ} {r : ρ} (h : wantK (ops.toList.map (·.dst)) o.guard t yes no = some r) :
    (yes = some r ∧ ∀ (ks : List Nat), (∀ k ∈ guardT (ops.toList.map (·.dst)) o.guard, k ∈ ks) → ∀ (w : World) (c : Cx) (a : Act), VRs w c (keepT 0 t ks) a.tmps.toList → Region.wanted o (yielded ops a.tmps) = true) ∨
    (no = some r ∧ ∀ (ks : List Nat), (∀ k ∈ guardT (ops.toList.map (·.dst)) o.guard, k ∈ ks) → ∀ (w : World) (c : Cx) (a : Act), VRs w c (keepT 0 t ks) a.tmps.toList → Region.wanted o (yielded ops a.tmps) = false) := by
  unfold wantK at h
  unfold Region.wanted
  cases hg : o.guard with
  | none => rw [hg] at h; exact .inl ⟨h, fun _ _ _ _ _ _ => rfl⟩
  | some jw =>
    obtain ⟨j, want⟩ := jw
    rw [hg] at h
    simp only at h
    cases hd : nthD none (ops.toList.map (·.dst)) j with
    | none => rw [hd] at h; cases h
    | some d =>
      rw [hd] at h
      simp only at h
      have key : ∀ (ks : List Nat), (∀ k ∈ guardT (ops.toList.map (·.dst)) (some (j, want)), k ∈ ks) → ∀ (w : World) (c : Cx) (a : Act), VRs w c (keepT 0 t ks) a.tmps.toList → ∀ u, getT t d = .val u → a.tmps[d]? = some u := by
        intro ks hks w c a hv u hu
        have hm : d ∈ ks := hks d (by simp [guardT, hd])
        have hget : getT (keepT 0 t ks) d = .val u := by rw [keepT_get]; simp [hm, hu]
        have hlt : d < (keepT 0 t ks).length := by
          rcases Nat.lt_or_ge d (keepT 0 t ks).length with q | q
          · exact q
          · have : getT (keepT 0 t ks) d = .unk := by rw [getT, nthD_eq]; simp [List.getElem?_eq_none q]
            rw [this] at hget; cases hget
        obtain ⟨u', h1, h2⟩ := hv.get d _ (getT_eq hlt)
        rw [hget] at h2
        have := h2.val_inv
        subst this
        simpa using h1
      unfold wantV at h
      split at h
      · rename_i b hb
        have hy : ∀ (ks : List Nat), (∀ k ∈ guardT (ops.toList.map (·.dst)) (some (j, want)), k ∈ ks) → ∀ (w : World) (c : Cx) (a : Act), VRs w c (keepT 0 t ks) a.tmps.toList → yielded ops a.tmps j = some b := by
          intro ks hks w c a hv
          rw [yielded_eq, hd]
          simp [key ks hks w c a hv _ hb]
        cases hbw : b == want with
        | true =>
          rw [hbw] at h
          refine .inl ⟨h, fun ks hks w c a hv => ?_⟩
          have hbe : b = want := by simpa using hbw
          simp [hy ks hks w c a hv, hbe]
        | false =>
          rw [hbw] at h
          refine .inr ⟨h, fun ks hks w c a hv => ?_⟩
          have hbe : ¬ b = want := by simpa using hbw
          simp [hy ks hks w c a hv, hbe]
      · rename_i l hb
        refine .inr ⟨h, fun ks hks w c a hv => ?_⟩
        have : yielded ops a.tmps j = none := by
          rw [yielded_eq, hd]
          simp [key ks hks w c a hv _ hb]
        simp [this]
      · cases h
section
variable {P : Program} {call : Calling} (hc : CallOk P call) {env : Env} (he : EnvOk P env)
include hc he
theorem step_sound {ρ : Type} {draw : Bool} {ops : Array Oper} {o : Oper} {X : List Foot → List AV → Heap → Value → Heap → Option ρ} {go : List Foot → List AV → Heap → Option ρ} {fs : List Foot} {t : List AV} {h : Heap} (hk : h.ok) {r : ρ}
    (hK : runStep env call draw (ops.toList.map (·.dst)) o X go fs t h = some r) :
    (∃ v t' h' ft, StepOk P ops o t h v t' h' ft ∧ go (if draw then ft :: fs else fs) t' h' = some r) ∨ (∃ x h' R Wr, StepX P ops o t h x h' R Wr ∧ X fs t h x h' = some r) := by
  unfold runStep at hK
  rcases wantK_some hK with ⟨hK, hw⟩ | ⟨hK, hw⟩
  · obtain ⟨ks, hks⟩ : ∃ ks, ks = guardT (ops.toList.map (·.dst)) o.guard ++ tmpsOf o.op.operands.toList := ⟨_, rfl⟩
    have hev : ∀ x, x ∈ o.op.operands.toList → ev t x = ev (keepT 0 t ks) x := fun x hx => by
      cases x with
      | tmp i =>
        have : i ∈ ks := by rw [hks]; exact List.mem_append_right _ (mem_tmpsOf hx)
        show getT t i = getT (keepT 0 t ks) i
        rw [keepT_get]; simp [this]
      | const v => rfl
      | global g => rfl
      | func f => rfl
    rw [opK_congr (t := t) (t' := keepT 0 t ks) hev] at hK
    have hnd : ∀ c, o.op ≠ .defer c := by
      intro c hc'
      rw [hc'] at hK
      simp [opK, prim] at hK
    rcases opK_sound hc he hk hK with ⟨v, h', R, Wr, k1, k2, k3⟩ | ⟨x, h', R, Wr, k1, k2, k3⟩
    · simp only [sAV_eq, sSp_eq] at k1
      refine .inl ⟨v, setT t o.dst v, h', ⟨ks, o.dst, R, Wr, h.next, h'.next, h', ldOf o.op t v⟩, ⟨rfl, rfl, rfl, rfl, rfl, ?_, k2, .inl ⟨hw ks (fun k hk => by rw [hks]; exact List.mem_append_left _ hk), hnd, ?_⟩⟩, ?_⟩
      · intro ty p u hl
        have hl : ldOf o.op t v = some (ty, p, u) := hl
        unfold ldOf at hl
        split at hl
        · rename_i ty' x ho
          injection hl with hl
          injection hl with l1 l2
          injection l2 with l2 l3
          subst l1
          refine ⟨l3.symm, x, ho, ?_⟩
          rw [← l2]
          exact hev x (by rw [ho]; simp [Op.operands])
        · cases hl
      · intro w c a G hv hp
        exact k3 w c _ G ⟨a, o, rfl, hv, rfl⟩ hp
      · rw [← k1]
        unfold footOf
        cases draw
        · rfl
        · simp only [if_true, cond_true, hks]
    · refine .inr ⟨x, h', R, Wr, ⟨k2, fun w c a hv => ?_, hnd, fun w c a G hv hp => ?_⟩, k1⟩
      · rw [show rtOf (ops.toList.map (·.dst)) o = ks from hks.symm] at hv
        exact hw ks (fun k hk => by rw [hks]; exact List.mem_append_left _ hk) w c a hv
      · rw [show rtOf (ops.toList.map (·.dst)) o = ks from hks.symm] at hv
        exact k3 w c _ G ⟨a, o, rfl, hv, rfl⟩ hp
  · simp only [sSp_eq] at hK
    refine .inl ⟨undefA, setT t o.dst undefA, h, ⟨guardT (ops.toList.map (·.dst)) o.guard, o.dst, [], [], h.next, h.next, h, none⟩, ⟨rfl, rfl, rfl, rfl, rfl, (fun ty p u hl => by cases hl), Eff.refl hk _, .inr ⟨hw _ (fun k hk => hk), rfl, rfl, rfl⟩⟩, ?_⟩
    rw [← hK]
    unfold footNo
    cases draw <;> rfl
theorem trace_sound {ρ : Type} {draw : Bool} {ops : Array Oper} {X : List Foot → List AV → Heap → Value → Heap → Option ρ} {K : List Foot → List AV → Heap → Option ρ} {r : ρ} : ∀ (l : List Oper) (fs : List Foot) (t : List AV) (h : Heap), h.ok →
    runOps env call draw (ops.toList.map (·.dst)) X K l fs t h = some r →
    (∃ (T : Nat → List AV) (H : Nat → Heap) (V : Nat → AV) (Ft : Nat → Foot), T 0 = t ∧ H 0 = h ∧ (∀ i o, l[i]? = some o → StepOk P ops o (T i) (H i) (V i) (T (i + 1)) (H (i + 1)) (Ft i)) ∧
      K (if draw then ((List.range l.length).map Ft).reverse ++ fs else fs) (T l.length) (H l.length) = some r) ∨
    (∃ (T : Nat → List AV) (H : Nat → Heap) (V : Nat → AV) (Ft : Nat → Foot) (n : Nat) (o : Oper) (x : Value) (h' : Heap) (R Wr : List Nat), T 0 = t ∧ H 0 = h ∧ (∀ i o, i < n → l[i]? = some o → StepOk P ops o (T i) (H i) (V i) (T (i + 1)) (H (i + 1)) (Ft i)) ∧
      l[n]? = some o ∧ StepX P ops o (T n) (H n) x h' R Wr ∧ X (if draw then ((List.range n).map Ft).reverse ++ fs else fs) (T n) (H n) x h' = some r)
  | [], fs, t, h, hk, hK => .inl ⟨fun _ => t, fun _ => h, fun _ => .unk, fun _ => ⟨[], none, [], [], 0, 0, ⟨0, []⟩, none⟩, rfl, rfl, fun i o hi => by simp at hi, by cases draw <;> simpa [runOps] using hK⟩
  | o :: l, fs, t, h, hk, hK => by
    have hK' : runStep env call draw (ops.toList.map (·.dst)) o X (runOps env call draw (ops.toList.map (·.dst)) X K l) fs t h = some r := hK
    rcases step_sound hc he hk hK' with ⟨v, t', h', ft, h1, h2⟩ | ⟨x, h', R, Wr, h1, h2⟩
    · rcases trace_sound l _ t' h' h1.eff.ok h2 with ⟨T, H, V, Ft, e1, e2, e3, e4⟩ | ⟨T, H, V, Ft, n, o', x, h2', R, Wr, e1, e2, e3, e4, e5, e6⟩
      · refine .inl ⟨fun i => Nat.casesOn i t T, fun i => Nat.casesOn i h H, fun i => Nat.casesOn i v V, fun i => Nat.casesOn i ft Ft, rfl, rfl, ?_, ?_⟩
        · intro i o' hi
          cases i with
          | zero =>
            simp at hi
            subst hi
            show StepOk P ops o t h v (T 0) (H 0) ft
            rw [e1, e2]
            exact h1
          | succ i =>
            simp at hi
            exact e3 i o' hi
        · show K _ (T l.length) (H l.length) = some r
          rw [← e4]
          congr 1
          cases draw
          · rfl
          · simp only [if_true, List.length_cons, List.range_succ_eq_map, List.map_cons, List.map_map, List.reverse_cons, List.append_assoc, List.singleton_append]
            rfl
      · refine .inr ⟨fun i => Nat.casesOn i t T, fun i => Nat.casesOn i h H, fun i => Nat.casesOn i v V, fun i => Nat.casesOn i ft Ft, n + 1, o', x, h2', R, Wr, rfl, rfl, ?_, by simpa using e4, e5, ?_⟩
        rotate_left
        · show X _ (T n) (H n) x h2' = some r
          rw [← e6]
          congr 1
          cases draw
          · rfl
          · simp only [if_true, List.range_succ_eq_map, List.map_cons, List.map_map, List.reverse_cons, List.append_assoc, List.singleton_append]
            rfl
        intro i o'' hin hi
        cases i with
        | zero =>
          simp at hi
          subst hi
          show StepOk P ops o t h v (T 0) (H 0) ft
          rw [e1, e2]
          exact h1
        | succ i =>
          simp at hi
          exact e3 i o'' (by omega) hi
    · exact .inr ⟨fun _ => t, fun _ => h, fun _ => .unk, fun _ => ⟨[], none, [], [], 0, 0, ⟨0, []⟩, none⟩, 0, o, x, h', R, Wr, rfl, rfl, fun i o' hi => by omega, rfl, h1, by cases draw <;> simpa using h2⟩
theorem rest_sound {ρ : Type} {ops : Array Oper} {bs : List Nat} {p : Nat} {K : List Foot → List AV → Heap → Option ρ} {r : ρ} : ∀ (l : List Oper) (fs : List Foot) (t : List AV) (h : Heap), h.ok →
    runRest env call (ops.toList.map (·.dst)) bs p K l fs t h = some r →
    ∃ (T : Nat → List AV) (H : Nat → Heap) (V : Nat → AV) (Ft : Nat → Foot) (I : Nat → Bool), T 0 = t ∧ H 0 = h ∧ (∀ i o, l[i]? = some o → StepD P ops (I i) o (T i) (H i) (V i) (T (i + 1)) (H (i + 1)) (Ft i) ∧ (I i = true → (nthD 0 bs (fs.length + i)).testBit p = true)) ∧
      K (((List.range l.length).map Ft).reverse ++ fs) (T l.length) (H l.length) = some r
  | [], fs, t, h, hk, hK => ⟨fun _ => t, fun _ => h, fun _ => .unk, fun _ => ⟨[], none, [], [], 0, 0, ⟨0, []⟩, none⟩, fun _ => false, rfl, rfl, fun i o hi => by simp at hi, by simpa [runRest] using hK⟩
  | o :: l, fs, t, h, hk, hK => by
    have hK' : restStep env call (ops.toList.map (·.dst)) bs p o (runRest env call (ops.toList.map (·.dst)) bs p K l) fs t h = some r := hK
    unfold restStep at hK'
    obtain ⟨b, v, t', h', ft, h1, hb, h2⟩ : ∃ b v t' h' ft, StepD P ops b o t h v t' h' ft ∧ (b = true → (nthD 0 bs fs.length).testBit p = true) ∧ runRest env call (ops.toList.map (·.dst)) bs p K l (ft :: fs) t' h' = some r := by
      cases hb : Nat.testBit (nthD 0 bs fs.length) p with
      | true =>
        rw [hb, cond_true, sSp_eq] at hK'
        exact ⟨true, undefA, _, h, _, StepD.idle hk, fun _ => rfl, hK'⟩
      | false =>
        rw [hb, cond_false] at hK'
        rcases step_sound hc he hk hK' with ⟨v, t', h', ft, h1, h2⟩ | ⟨x, h', R, Wr, h1, h2⟩
        · exact ⟨false, v, t', h', ft, h1.d, fun q => (by cases q), h2⟩
        · cases h2
    obtain ⟨T, H, V, Ft, I, e1, e2, e3, e4⟩ := rest_sound l _ t' h' h1.eff.ok h2
    refine ⟨fun i => Nat.casesOn i t T, fun i => Nat.casesOn i h H, fun i => Nat.casesOn i v V, fun i => Nat.casesOn i ft Ft, fun i => Nat.casesOn i b I, rfl, rfl, ?_, ?_⟩
    · intro i o' hi
      cases i with
      | zero =>
        simp at hi
        subst hi
        show StepD P ops b o t h v (T 0) (H 0) ft ∧ _
        rw [e1, e2]
        exact ⟨h1, hb⟩
      | succ i =>
        simp at hi
        obtain ⟨k1, k2⟩ := e3 i o' hi
        refine ⟨k1, fun q => ?_⟩
        have := k2 q
        rw [List.length_cons] at this
        rw [show fs.length + (i + 1) = fs.length + 1 + i by omega]
        exact this
    · show K _ (T l.length) (H l.length) = some r
      rw [← e4]
      congr 1
      simp only [List.length_cons, List.range_succ_eq_map, List.map_cons, List.map_map, List.reverse_cons, List.append_assoc, List.singleton_append]
      rfl
end
def FOk (F : Fence) : Prop := F = Fence.wide ∨ ∃ l, F = Fence.wide.inRound l
theorem FOk.fn {F : Fence} (h : FOk F) (f : FuncId) : F.fn f := by rcases h with rfl | ⟨l, rfl⟩ <;> trivial
theorem FOk.depth {F : Fence} (h : FOk F) : ¬ F.depth.isSome = true := by rcases h with rfl | ⟨l, rfl⟩ <;> simp [Fence.wide]
theorem FOk.calls {F : Fence} (h : FOk F) {P : Program} {f : FuncId} {args : Array Value} {w : World} {R : Ending → World → Prop} (hc : CallsIn Fence.wide 0 P f args w R) : CallsIn F 0 P f args w R := by
  rcases h with rfl | ⟨l, rfl⟩
  · exact hc
  · exact hc
theorem FOk.round {F : Fence} (h : FOk F) {P : Program} {l : Nat} {f : FuncId} {tmps : Array Value} {assign body : Code} {w : World} {R : Ending → World → Prop} (hc : RoundIn Fence.wide 0 P l f tmps assign body w R) : RoundIn F 0 P l f tmps assign body w R := by
  rcases h with rfl | ⟨l, rfl⟩
  · exact hc
  · exact hc
theorem wpIn_of_goes {F : Fence} (hF : FOk F) {P : Program} {o : Oper} (hnd : ∀ c, o.op ≠ .defer c) {a : Act} {w : World} {next : Act → World → Prop} {Q : Exit → Act → World → Prop} {nx : Next} {w1 : World} {R : Value → World → Prop}
    (hrun : (execOp a.eval o).run P w = .ok nx w1) (hg : Goes P nx w1 R) (hn : ∀ v w2, R v w2 → next (a.put o.dst v) w2) : o.wpIn F 0 P a w next Q := by
  refine ⟨fun f _ => hF.fn f, ?_⟩
  rw [Oper.semAt_eq _ _ _ hnd, hrun]
  cases nx <;> simp only [Goes] at hg
  · exact hn _ _ hg
  · exact hn _ _ hg
  · refine ⟨fun q => absurd q hF.depth, CallsIn.mono (hF.calls hg) ?_⟩
    rintro e w' ⟨v, rfl, hv⟩
    exact hn _ _ hv
  · refine ⟨fun q => absurd q hF.depth, RoundIn.mono (hF.round hg) ?_⟩
    rintro e w' ⟨v, rfl, hv⟩
    exact hn _ _ hv
def PostR (w : World) (c : Cx) (h h' : Heap) (t' : List AV) (ds : List Deferred) : Act → World → Prop := fun a' w' =>
  a'.defers = ds ∧ ∃ c', VRs w' c' t' a'.tmps.toList ∧ Ext w c w' c' ∧ (∀ id, c'.V id → c.V id ∨ (h.next ≤ id ∧ id < h'.next)) ∧ HR w' c' h'.G
theorem PostR.trans {w w1 : World} {c c1 : Cx} {h h1 h2 : Heap} {t2 : List AV} {ds : List Deferred} (hx : Ext w c w1 c1) (hV : ∀ id, c1.V id → c.V id ∨ (h.next ≤ id ∧ id < h1.next)) (h01 : h.next ≤ h1.next) (h12 : h1.next ≤ h2.next) {a' : Act} {w' : World}
    (hp : PostR w1 c1 h1 h2 t2 ds a' w') : PostR w c h h2 t2 ds a' w' := by
  obtain ⟨hd, c', k1, k2, k3, k4⟩ := hp
  refine ⟨hd, c', k1, hx.trans k2, fun id hid => ?_, k4⟩
  rcases k3 id hid with q | q
  · rcases hV id q with z | z
    · exact .inl z
    · exact .inr ⟨z.1, by omega⟩
  · exact .inr ⟨by omega, q.2⟩
theorem Patch.full {h h' : Heap} {R Wr : List Nat} (hk : h.ok) (he : Eff h h' R Wr) : Patch h.G h h' Wr h'.G := by
  intro id
  refine ⟨fun _ => rfl, fun hn => ?_⟩
  rcases Nat.lt_or_ge id h.next with q | q
  · have : id ∉ Wr := fun z => hn (.inl z)
    simp [Heap.G, he.same id q this]
  · have h1 : findE h.es id = none := by
      cases hf : findE h.es id with
      | none => rfl
      | some e => have := hk.lt id e hf; omega
    have h2 : findE h'.es id = none := by
      cases hf : findE h'.es id with
      | none => rfl
      | some e => have := he.ok.lt id e hf; exact absurd (.inr ⟨q, this⟩) hn
    simp [Heap.G, h1, h2]
theorem seq_sound {F : Fence} (hF : FOk F) {P : Program} {ops : Array Oper} {T : Nat → List AV} {H : Nat → Heap} {V : Nat → AV} {Ft : Nat → Foot} (hk : (H 0).ok) (hs : ∀ i o, ops.toList[i]? = some o → StepOk P ops o (T i) (H i) (V i) (T (i + 1)) (H (i + 1)) (Ft i)) :
    ∀ (m i : Nat), i + m = ops.size → (H i).ok → (H i).next ≤ (H ops.size).next ∧ (H ops.size).ok ∧ ∀ (w : World) (c : Cx) (a : Act), VRs w c (T i) a.tmps.toList → HR w c (H i).G → (∀ id, (H i).next ≤ id → id < (H ops.size).next → ¬ c.V id) →
      wpOpsIn F 0 P ops (fun e a' w' => e = .normal ∧ PostR w c (H i) (H ops.size) (T ops.size) a.defers a' w') (List.range' i m) a w
  | 0, i, hi, hki => by
    have : i = ops.size := by omega
    subst this
    exact ⟨Nat.le_refl _, hki, fun w c a hv hr _ => ⟨rfl, rfl, c, hv, Ext.refl w c, fun id h => .inl h, hr⟩⟩
  | m + 1, i, hi, hki => by
    have hlt : i < ops.size := by omega
    have ho : ops.toList[i]? = some ops[i] := by simp [hlt]
    have ho' : ops[i]? = some ops[i] := by simp [hlt]
    have st := hs i _ ho
    obtain ⟨n1, n2, n3⟩ := seq_sound hF hk hs m (i + 1) (by omega) st.eff.ok
    refine ⟨Nat.le_trans st.eff.next n1, n2, ?_⟩
    intro w c a hv hr hfr
    have hm : VRs w c (keepT 0 (T i) (Ft i).rt) a.tmps.toList := hv.masked rfl _ (fun _ _ => rfl)
    rw [List.range'_succ]
    simp only [wpOpsIn, ho']
    have mono : ∀ (w1 : World) (c1 : Cx) (a1 : Act), a1.defers = a.defers → VRs w1 c1 (T (i + 1)) a1.tmps.toList → Ext w c w1 c1 → (∀ id, c1.V id → c.V id ∨ ((H i).next ≤ id ∧ id < (H (i + 1)).next)) → HR w1 c1 (H (i + 1)).G →
        wpOpsIn F 0 P ops (fun e a' w' => e = .normal ∧ PostR w c (H i) (H ops.size) (T ops.size) a.defers a' w') (List.range' (i + 1) m) a1 w1 := by
      intro w1 c1 a1 hd hv1 hx1 hV1 hr1
      have := n3 w1 c1 a1 hv1 hr1 (fun id h1 h2 hid => by
        rcases hV1 id hid with q | q
        · exact hfr id (Nat.le_trans st.eff.next h1) h2 q
        · omega)
      have hmono : ∀ (l : List Nat) (Q Q' : Exit → Act → World → Prop) (a : Act) (w : World), (∀ e a w, Q e a w → Q' e a w) → wpOpsIn F 0 P ops Q l a w → wpOpsIn F 0 P ops Q' l a w := by
        intro l Q Q'
        induction l with
        | nil => intro a w hq h; exact hq _ _ _ h
        | cons j l ih =>
          intro a w hq h
          simp only [wpOpsIn] at h ⊢
          split
          · rename_i hj; simp only [hj] at h; exact ih a w hq h
          · rename_i o hj
            simp only [hj] at h
            split
            · rename_i hw
              simp only [hw, if_true, Oper.wpIn] at h ⊢
              refine ⟨h.1, ?_⟩
              have h2 := h.2
              generalize (o.semAt F.round a.eval).run P w = res at h2 ⊢
              cases res with
              | ok nx w' =>
                cases nx <;> simp only [Oper.uponIn] at h2 ⊢ <;> first
                  | exact ih _ _ hq h2
                  | (refine ⟨h2.1, CallsIn.mono h2.2 ?_⟩; intro e w'' he; cases e <;> first | exact ih _ _ hq he | exact hq _ _ _ he | exact he.imp fun _ ⟨w, h⟩ => ⟨w, hq _ _ _ h⟩)
                  | exact ⟨h2.1, RowsIn.mono h2.2 fun _ _ he => ih _ _ hq he⟩
                  | (refine ⟨h2.1, RoundIn.mono h2.2 ?_⟩; intro e w'' he; cases e <;> first | exact ih _ _ hq he | exact hq _ _ _ he | exact he.imp fun _ ⟨w, h⟩ => ⟨w, hq _ _ _ h⟩)
              | halt x w' => cases x <;> simp only [Oper.uponIn] at h2 ⊢; exact hq _ _ _ h2
            · rename_i hw
              simp only [hw] at h
              exact ⟨h.1, ih _ _ hq h.2⟩
      refine hmono _ _ _ _ _ ?_ this
      rintro e a' w' ⟨rfl, hp⟩
      rw [hd] at hp
      exact ⟨rfl, hp.trans hx1 hV1 st.eff.next n1⟩
    rcases st.does with ⟨hw, hnd, hreal⟩ | ⟨hw, hh, hvv, _⟩
    · rw [if_pos (hw w c a hm)]
      obtain ⟨nx, w1, hrun, hg⟩ := hreal w c a (H i).G hm ⟨hr, fun _ _ => rfl, fun id h1 h2 => hfr id h1 (Nat.lt_of_lt_of_le h2 n1)⟩
      refine wpIn_of_goes hF hnd hrun hg ?_
      rintro v' w2 ⟨c', k1, k2, k3, k4⟩
      refine mono w2 c' _ (by cases ops[i].dst <;> rfl) ?_ k2 k3 (k4 _ (Patch.full hki st.eff))
      rw [st.tmps]
      exact put_rel (VRs.mono k2.toExt0 hv) k1
    · rw [if_neg (by rw [hw w c a hm]; simp)]
      refine ⟨fun f _ => hF.fn f, ?_⟩
      refine mono w c _ (by cases ops[i].dst <;> rfl) ?_ (Ext.refl w c) (fun id h => .inl h) (by rw [hh]; exact hr)
      rw [st.tmps, hvv]
      exact put_rel hv (.val _)
theorem seqX_sound {F : Fence} (hF : FOk F) {P : Program} {ops : Array Oper} {T : Nat → List AV} {H : Nat → Heap} {V : Nat → AV} {Ft : Nat → Foot} {n : Nat} {o : Oper} {x : Value} {h' : Heap} {R Wr : List Nat} (hk : (H 0).ok)
    (hs : ∀ i o, i < n → ops.toList[i]? = some o → StepOk P ops o (T i) (H i) (V i) (T (i + 1)) (H (i + 1)) (Ft i)) (hn : ops.toList[n]? = some o) (hx : StepX P ops o (T n) (H n) x h' R Wr) :
    ∀ (m i : Nat), i + m = n → (H i).ok → (H i).next ≤ h'.next ∧ h'.ok ∧ ∀ (w : World) (c : Cx) (a : Act), VRs w c (T i) a.tmps.toList → HR w c (H i).G → (∀ id, (H i).next ≤ id → id < h'.next → ¬ c.V id) →
      wpOpsIn F 0 P ops (fun e a' w' => e = .panic (chainOf x) ∧ PostR w c (H i) h' (T n) a.defers a' w') (List.range' i (ops.size - i)) a w
  | 0, i, hi, hki => by
    have : i = n := by omega
    subst this
    refine ⟨hx.eff.next, hx.eff.ok, fun w c a hv hr hfr => ?_⟩
    have hlt : i < ops.size := by
      have := (List.getElem?_eq_some_iff.1 hn).1
      simpa using this
    have ho' : ops[i]? = some o := by simpa using hn
    rw [show ops.size - i = (ops.size - i - 1) + 1 by omega, List.range'_succ]
    simp only [wpOpsIn, ho']
    have hvm : VRs w c (keepT 0 (T i) (rtOf (ops.toList.map (·.dst)) o)) a.tmps.toList := hv.masked rfl _ (fun _ _ => rfl)
    rw [if_pos (hx.want w c a hvm)]
    refine ⟨fun f _ => hF.fn f, ?_⟩
    rw [Oper.semAt_eq _ _ _ hx.nd]
    have fin : ∀ (w' : World), (∃ c', Ext w c w' c' ∧ (∀ id, c'.V id → c.V id ∨ ((H i).next ≤ id ∧ id < h'.next)) ∧ ∀ G', Patch (H i).G (H i) h' Wr G' → HR w' c' G') → PostR w c (H i) h' (T i) a.defers a w' := by
      rintro w' ⟨c', k2, k3, k4⟩
      exact ⟨rfl, c', VRs.mono k2.toExt0 hv, k2, k3, k4 _ (Patch.full hki hx.eff)⟩
    rcases hx.real w c a (H i).G hvm ⟨hr, fun _ _ => rfl, fun id h1 h2 => hfr id h1 h2⟩ with ⟨nx, w1, hrun, hg⟩ | ⟨hrun, hh⟩
    · rw [hrun]
      cases nx <;> simp only [GoesE] at hg
      · cases hg.1
      · cases hg.1
      · refine ⟨fun q => absurd q hF.depth, CallsIn.mono (hF.calls hg) ?_⟩
        rintro e w' ⟨rfl, hp⟩
        exact ⟨rfl, fin w' hp⟩
      · refine ⟨fun q => absurd q hF.depth, RoundIn.mono (hF.round hg) ?_⟩
        rintro e w' ⟨rfl, hp⟩
        exact ⟨rfl, fin w' hp⟩
    · rw [hrun]
      subst hh
      exact ⟨rfl, fin w ⟨c, Ext.refl w c, fun id h => .inl h, fun G' hG' => by
        have : G' = (H i).G := by
          funext id
          by_cases hq : id ∈ Wr ∨ ((H i).next ≤ id ∧ id < (H i).next)
          · exact (hG' id).1 hq
          · exact (hG' id).2 hq
        rw [this]; exact hr⟩⟩
  | m + 1, i, hi, hki => by
    have hlt2 : n < ops.size := by
      have := (List.getElem?_eq_some_iff.1 hn).1
      simpa using this
    have hlt : i < ops.size := by omega
    have ho : ops.toList[i]? = some ops[i] := by simp [hlt]
    have ho' : ops[i]? = some ops[i] := by simp [hlt]
    have st := hs i _ (by omega) ho
    obtain ⟨n1, n2, n3⟩ := seqX_sound hF hk hs hn hx m (i + 1) (by omega) st.eff.ok
    refine ⟨Nat.le_trans st.eff.next n1, n2, ?_⟩
    intro w c a hv hr hfr
    have hm : VRs w c (keepT 0 (T i) (Ft i).rt) a.tmps.toList := hv.masked rfl _ (fun _ _ => rfl)
    rw [show ops.size - i = (ops.size - i - 1) + 1 by omega, List.range'_succ]
    simp only [wpOpsIn, ho']
    have mono : ∀ (w1 : World) (c1 : Cx) (a1 : Act), a1.defers = a.defers → VRs w1 c1 (T (i + 1)) a1.tmps.toList → Ext w c w1 c1 → (∀ id, c1.V id → c.V id ∨ ((H i).next ≤ id ∧ id < (H (i + 1)).next)) → HR w1 c1 (H (i + 1)).G →
        wpOpsIn F 0 P ops (fun e a' w' => e = .panic (chainOf x) ∧ PostR w c (H i) h' (T n) a.defers a' w') (List.range' (i + 1) (ops.size - i - 1)) a1 w1 := by
      intro w1 c1 a1 hd hv1 hx1 hV1 hr1
      have := n3 w1 c1 a1 hv1 hr1 (fun id h1 h2 hid => by
        rcases hV1 id hid with q | q
        · exact hfr id (Nat.le_trans st.eff.next h1) h2 q
        · omega)
      have hmono : ∀ (l : List Nat) (Q Q' : Exit → Act → World → Prop) (a : Act) (w : World), (∀ e a w, Q e a w → Q' e a w) → wpOpsIn F 0 P ops Q l a w → wpOpsIn F 0 P ops Q' l a w := by
        intro l Q Q'
        induction l with
        | nil => intro a w hq h; exact hq _ _ _ h
        | cons j l ih =>
          intro a w hq h
          simp only [wpOpsIn] at h ⊢
          split
          · rename_i hj; simp only [hj] at h; exact ih a w hq h
          · rename_i o hj
            simp only [hj] at h
            split
            · rename_i hw
              simp only [hw, if_true, Oper.wpIn] at h ⊢
              refine ⟨h.1, ?_⟩
              have h2 := h.2
              generalize (o.semAt F.round a.eval).run P w = res at h2 ⊢
              cases res with
              | ok nx w' =>
                cases nx <;> simp only [Oper.uponIn] at h2 ⊢ <;> first
                  | exact ih _ _ hq h2
                  | (refine ⟨h2.1, CallsIn.mono h2.2 ?_⟩; intro e w'' he; cases e <;> first | exact ih _ _ hq he | exact hq _ _ _ he | exact he.imp fun _ ⟨w, h⟩ => ⟨w, hq _ _ _ h⟩)
                  | exact ⟨h2.1, RowsIn.mono h2.2 fun _ _ he => ih _ _ hq he⟩
                  | (refine ⟨h2.1, RoundIn.mono h2.2 ?_⟩; intro e w'' he; cases e <;> first | exact ih _ _ hq he | exact hq _ _ _ he | exact he.imp fun _ ⟨w, h⟩ => ⟨w, hq _ _ _ h⟩)
              | halt x w' => cases x <;> simp only [Oper.uponIn] at h2 ⊢; exact hq _ _ _ h2
            · rename_i hw
              simp only [hw] at h
              exact ⟨h.1, ih _ _ hq h.2⟩
      rw [show ops.size - (i + 1) = ops.size - i - 1 by omega] at this
      refine hmono _ _ _ _ _ ?_ this
      rintro e a' w' ⟨rfl, hp⟩
      rw [hd] at hp
      exact ⟨rfl, hp.trans hx1 hV1 st.eff.next n1⟩
    rcases st.does with ⟨hw, hnd, hreal⟩ | ⟨hw, hh, hvv, _⟩
    · rw [if_pos (hw w c a hm)]
      obtain ⟨nx, w1, hrun, hg⟩ := hreal w c a (H i).G hm ⟨hr, fun _ _ => rfl, fun id h1 h2 => hfr id h1 (Nat.lt_of_lt_of_le h2 n1)⟩
      refine wpIn_of_goes hF hnd hrun hg ?_
      rintro v' w2 ⟨c', k1, k2, k3, k4⟩
      refine mono w2 c' _ (by cases ops[i].dst <;> rfl) ?_ k2 k3 (k4 _ (Patch.full hki st.eff))
      rw [st.tmps]
      exact put_rel (VRs.mono k2.toExt0 hv) k1
    · rw [if_neg (by rw [hw w c a hm]; simp)]
      refine ⟨fun f _ => hF.fn f, ?_⟩
      refine mono w c _ (by cases ops[i].dst <;> rfl) ?_ (Ext.refl w c) (fun id h => .inl h) (by rw [hh]; exact hr)
      rw [st.tmps, hvv]
      exact put_rel hv (.val _)
end Go.Ev
/- Regions whose order is drawn. -/
namespace Go.Ev
def befStep (acc : Array Nat) (o : Oper) : Array Nat := acc.push (o.after.foldl (fun s e => if Region.binds .any e then s ||| 2 ^ e.on ||| acc.getD e.on 0 else s) 0)
def bef (l : List Oper) : Array Nat := l.foldl befStep #[]
theorem before_eq (ops : Array Oper) : Region.before ops = bef ops.toList := by
  unfold Region.before bef
  rw [← Array.foldl_toList]
  rfl
theorem bef_snoc (l : List Oper) (o : Oper) : bef (l ++ [o]) = befStep (bef l) o := by simp [bef]
theorem bef_size (l : List Oper) : (bef l).size = l.length := by
  have : ∀ (l : List Oper) (acc : Array Nat), (l.foldl befStep acc).size = acc.size + l.length := by
    intro l
    induction l with
    | nil => intro acc; simp
    | cons o l ih => intro acc; rw [List.foldl_cons, ih]; simp [befStep]; omega
  simp [bef, this]
theorem bef_prefix (l m : List Oper) (j : Nat) (h : j < l.length) : (bef (l ++ m))[j]? = (bef l)[j]? := by
  have : ∀ (m : List Oper) (acc : Array Nat), j < acc.size → (m.foldl befStep acc)[j]? = acc[j]? := by
    intro m
    induction m with
    | nil => intro acc _; rfl
    | cons o m ih =>
      intro acc hj
      rw [List.foldl_cons, ih _ (by simp [befStep]; omega)]
      simp [befStep, Array.getElem?_push, Nat.ne_of_lt hj]
  unfold bef
  rw [List.foldl_append]
  exact this m _ (by have := bef_size l; unfold bef at this; omega)
theorem bef_get (l : List Oper) (j : Nat) (o : Oper) (h : l[j]? = some o) : (bef l).getD j 0 = o.after.foldl (fun s e => if Region.binds .any e then s ||| 2 ^ e.on ||| (bef (l.take j)).getD e.on 0 else s) 0 := by
  have hj : j < l.length := by
    rcases Nat.lt_or_ge j l.length with q | q
    · exact q
    · rw [List.getElem?_eq_none q] at h; cases h
  have e : l = (l.take j ++ [o]) ++ l.drop (j + 1) := by
    have : l[j] = o := by rw [List.getElem?_eq_getElem hj] at h; injection h
    rw [List.append_assoc, List.singleton_append, ← this, List.getElem_cons_drop, List.take_append_drop]
  have hl : (l.take j).length = j := by simp; omega
  have h1 : (bef l)[j]? = (bef (l.take j ++ [o]))[j]? := by
    rw [congrArg (fun l => (bef l)[j]?) e]
    exact bef_prefix _ _ _ (by simp; omega)
  have hs : (bef (l.take j)).size = j := by rw [bef_size, hl]
  rw [bef_snoc, befStep, Array.getElem?_push, hs, if_pos rfl] at h1
  simp [Array.getD_eq_getD_getElem?, h1]
theorem bef_take (l : List Oper) (j k : Nat) (h : k < j) : (bef (l.take j)).getD k 0 = (bef l).getD k 0 := by
  rcases Nat.lt_or_ge k l.length with q | q
  · have := bef_prefix (l.take j) (l.drop j) k (by simp; omega)
    rw [List.take_append_drop] at this
    simp [Array.getD_eq_getD_getElem?, this]
  · have e1 : (bef (l.take j))[k]? = none := Array.getElem?_eq_none (by rw [bef_size]; simp; omega)
    have e2 : (bef l)[k]? = none := Array.getElem?_eq_none (by rw [bef_size]; omega)
    simp [Array.getD_eq_getD_getElem?, e1, e2]
theorem fold_bit (g : Nat → Nat) (i : Nat) : ∀ (l : List Edge) (s : Nat), (l.foldl (fun s e => if Region.binds .any e then s ||| 2 ^ e.on ||| g e.on else s) s).testBit i = true →
    s.testBit i = true ∨ ∃ e ∈ l, Region.binds .any e = true ∧ (i = e.on ∨ (g e.on).testBit i = true)
  | [], s, h => .inl h
  | e :: l, s, h => by
    rw [List.foldl_cons] at h
    rcases fold_bit g i l _ h with q | ⟨e', h1, h2, h3⟩
    · split at q
      · rename_i hb
        rw [Nat.testBit_or, Nat.testBit_or, Bool.or_eq_true, Bool.or_eq_true] at q
        rcases q with (q | q) | q
        · exact .inl q
        · rw [Nat.testBit_two_pow] at q
          exact .inr ⟨e, by simp, hb, .inl (by simp at q; exact q.symm)⟩
        · exact .inr ⟨e, by simp, hb, .inr q⟩
      · exact .inl q
    · exact .inr ⟨e', by simp [h1], h2, h3⟩
theorem backs_spec : ∀ (l : List Oper) (n : Nat), backs n l = true → ∀ j o, l[j]? = some o → ∀ e ∈ o.after, Region.binds .any e = true → e.on < n + j
  | [], _, _, j, o, h => by simp at h
  | a :: l, n, hb, j, o, h => by
    simp only [backs, Bool.and_eq_true] at hb
    cases j with
    | zero =>
      simp at h
      subst h
      intro e he hbi
      have := List.all_eq_true.1 hb.1 e (by simpa using he)
      rw [hbi] at this
      simp at this
      simpa using this
    | succ j =>
      intro e he hbi
      have := backs_spec l (n + 1) hb.2 j o (by simpa using h) e he hbi
      omega
theorem closed_bits {ops : List Oper} (hb : backs 0 ops = true) {S : Nat → Bool} (hS : ∀ j o, ops[j]? = some o → S j = true → ∀ e ∈ o.after, Region.binds .any e = true → S e.on = true) :
    ∀ (j : Nat) (o : Oper), ops[j]? = some o → (∀ e ∈ o.after, Region.binds .any e = true → S e.on = true) → ∀ i, ((bef ops).getD j 0).testBit i = true → S i = true := by
  intro j
  induction j using Nat.strongRecOn with
  | _ j ih =>
    intro o ho he i hi
    rw [bef_get ops j o ho, ← Array.foldl_toList] at hi
    rcases fold_bit (fun k => (bef (ops.take j)).getD k 0) i _ _ hi with q | ⟨e, h1, h2, h3⟩
    · simp at q
    · have hlt := backs_spec ops 0 hb j o ho e (by simpa using h1) h2
      rw [Nat.zero_add] at hlt
      have hSe := he e (by simpa using h1) h2
      rcases h3 with rfl | h3
      · exact hSe
      · rw [bef_take _ _ _ hlt] at h3
        have hjl : j < ops.length := by
          rcases Nat.lt_or_ge j ops.length with q | q
          · exact q
          · rw [List.getElem?_eq_none q] at ho; cases ho
        have hel : ops[e.on]? = some (ops[e.on]'(by omega)) := List.getElem?_eq_getElem (by omega)
        exact ih e.on hlt _ hel (hS e.on _ hel hSe) i h3
theorem snocInd {α : Type} {p : List α → Prop} (h0 : p []) (h1 : ∀ l x, p l → p (l ++ [x])) : ∀ l, p l := by
  have key : ∀ l : List α, p l.reverse := by
    intro l
    induction l with
    | nil => exact h0
    | cons x l ih => rw [List.reverse_cons]; exact h1 _ _ ih
  intro l
  have := key l.reverse
  rwa [List.reverse_reverse] at this
theorem apartAll_spec {env : Env} {f : Foot} {b : Nat} : ∀ (L : List Foot), apartAll env f b L.length L.reverse = true → ∀ i g, L[i]? = some g → b.testBit i = true ∨ (apartF f g = true ∨ softF env f g = true) := by
  refine snocInd (by intro _ i g h; simp at h) ?_
  · intro L x ih h i g hg
    rw [List.reverse_append, List.reverse_singleton, List.singleton_append, List.length_append, List.length_singleton] at h
    simp only [apartAll, Bool.and_eq_true, Bool.or_eq_true] at h
    rcases Nat.lt_or_ge i L.length with q | q
    · rw [List.getElem?_append_left q] at hg
      exact ih h.2 i g hg
    · rw [List.getElem?_append_right q] at hg
      have : i = L.length := by
        rcases Nat.lt_or_ge (i - L.length) 1 with z | z
        · omega
        · rw [List.getElem?_eq_none (by simpa using z)] at hg; cases hg
      subst this
      simp at hg
      subst hg
      exact h.1
theorem apartOps_spec {env : Env} : ∀ (L : List Foot) (B : List Nat), B.length = L.length → apartOps env B.reverse L.length L.reverse = true → ∀ i j g f, i < j → L[i]? = some g → L[j]? = some f → (B.getD j 0).testBit i = true ∨ (apartF f g = true ∨ softF env f g = true) := by
  refine snocInd (by intro B _ _ i j g f _ h; simp at h) ?_
  · intro L x ih B hB h i j g f hij hg hf
    obtain ⟨B', b, rfl⟩ : ∃ B' b, B = B' ++ [b] := by
      exact ⟨B.dropLast, B.getLast (by intro q; subst q; simp at hB), (List.dropLast_concat_getLast _).symm⟩
    have hB' : B'.length = L.length := by simpa using hB
    rw [List.reverse_append, List.reverse_singleton, List.singleton_append, List.reverse_append, List.reverse_singleton, List.singleton_append, List.length_append, List.length_singleton] at h
    simp only [apartOps, Bool.and_eq_true, Nat.add_sub_cancel] at h
    have hjl : j < (L ++ [x]).length := by
      rcases Nat.lt_or_ge j (L ++ [x]).length with q | q
      · exact q
      · rw [List.getElem?_eq_none q] at hf; cases hf
    rw [List.length_append, List.length_singleton] at hjl
    rcases Nat.lt_or_ge j L.length with q | q
    · rw [List.getElem?_append_left q] at hf
      rw [List.getElem?_append_left (by omega)] at hg
      have := ih B' hB' h.2 i j g f hij hg hf
      rw [List.getD_eq_getElem?_getD, List.getElem?_append_left (by omega), ← List.getD_eq_getElem?_getD]
      exact this
    · have : j = L.length := by omega
      subst this
      rw [List.getElem?_append_left (by omega)] at hg
      rw [List.getElem?_append_right (Nat.le_refl _)] at hf
      simp at hf
      subst hf
      have hb : (B' ++ [b]).getD L.length 0 = b := by rw [← hB']; simp
      rw [hb]
      exact apartAll_spec L h.1 i g hg
theorem disj_spec {l m : List Nat} (h : disj l m = true) : ∀ x ∈ l, x ∉ m := by
  induction l with
  | nil => intro x hx; cases hx
  | cons a l ih =>
    simp only [disj] at h
    cases hm : memN a m with
    | true => rw [hm] at h; cases h
    | false =>
      rw [hm] at h
      intro x hx
      rcases List.mem_cons.1 hx with q | q
      · subst q
        intro z
        rw [(memN_iff _ _).2 z] at hm; cases hm
      · exact ih h x q
theorem outside_spec {lo hi : Nat} {l : List Nat} (h : outside lo hi l = true) : ∀ x ∈ l, ¬ (lo ≤ x ∧ x < hi) := by
  induction l with
  | nil => intro x hx; cases hx
  | cons a l ih =>
    have h' : (bif Nat.blt a lo then outside lo hi l else bif Nat.ble hi a then outside lo hi l else false) = true := h
    intro x hx
    cases h1 : Nat.blt a lo with
    | true =>
      rw [h1] at h'
      rcases List.mem_cons.1 hx with q | q
      · subst q; have := blt_iff.1 h1; omega
      · exact ih h' x q
    | false =>
      rw [h1] at h'
      cases h2 : Nat.ble hi a with
      | false => rw [h2] at h'; cases h'
      | true =>
        rw [h2] at h'
        rcases List.mem_cons.1 hx with q | q
        · subst q; have := Nat.le_of_ble_eq_true h2; omega
        · exact ih h' x q
structure Apart (a b : Foot) : Prop where
  wtrt : ∀ x, a.wt = some x → x ∉ b.rt
  wtwt : ∀ x, a.wt = some x → b.wt ≠ some x
  rtwt : ∀ x, b.wt = some x → x ∉ a.rt
  wr : ∀ x ∈ a.w, x ∉ b.r
  ww : ∀ x ∈ a.w, x ∉ b.w
  rw : ∀ x ∈ b.w, x ∉ a.r
  or' : ∀ x ∈ a.r, ¬ (b.lo ≤ x ∧ x < b.hi)
  ow : ∀ x ∈ a.w, ¬ (b.lo ≤ x ∧ x < b.hi)
  ob : ∀ x ∈ b.r, ¬ (a.lo ≤ x ∧ x < a.hi)
theorem apartF_spec {a b : Foot} (h : apartF a b = true) : Apart a b := by
  simp only [apartF, Bool.and_eq_true] at h
  obtain ⟨h1, h2, h3, h4, h5, h6, h7, h8, h9⟩ := h
  refine ⟨?_, ?_, ?_, disj_spec h4, disj_spec h5, disj_spec h6, outside_spec h7, outside_spec h8, outside_spec h9⟩
  · intro x hx; exact disj_spec h1 x (by simp [hx])
  · intro x hx hy; exact disj_spec h2 x (by simp [hx]) (by simp [hy])
  · intro x hx; exact disj_spec h3 x (by simp [hx])
structure Soft (P : Program) (o : Oper) (t : List AV) (h h1 : Heap) (v : AV) (a b : Foot) : Prop where
  w0 : b.w = []
  lh : b.lo = b.hi
  one : ∃ x, b.r = [x]
  wtrt : ∀ x, a.wt = some x → x ∉ b.rt
  wtwt : ∀ x, a.wt = some x → b.wt ≠ some x
  rtwt : ∀ x, b.wt = some x → x ∉ a.rt
  ob : ∀ x ∈ b.r, ¬ (a.lo ≤ x ∧ x < a.hi)
  real : ∀ (w : World) (c : Cx) (u : Act) (G : Nat → Option Blk), VRs w c (keepT 0 t b.rt) u.tmps.toList → HR w c G → (∀ id ∈ b.r, G id = a.post.G id) → RealC P (execOp u.eval o) w c h h1 [] v G
theorem subL_spec {l m : List Nat} (h : subL l m = true) : ∀ x ∈ l, x ∈ m := by
  induction l with
  | nil => intro x hx; cases hx
  | cons a l ih =>
    have h' : (memN a m && subL l m) = true := h
    rw [Bool.and_eq_true] at h'
    intro x hx
    rcases List.mem_cons.1 hx with q | q
    · subst q; exact (memN_iff _ _).1 h'.1
    · exact ih h'.2 x q
theorem sameI_spec {a b : AV} (h : sameI a b = true) : a = b := by
  unfold sameI at h
  split at h
  · rw [Bool.and_eq_true, decide_eq_true_eq, decide_eq_true_eq] at h
    rw [h.1, h.2]
  · cases h
theorem noNats_spec {l : List Nat} (h : noNats l = true) : l = [] := by
  cases l with
  | nil => rfl
  | cons => cases h
theorem oneL_spec {l : List Nat} (h : oneL l = true) : ∃ x, l = [x] := by
  unfold oneL at h
  split at h
  · exact ⟨_, rfl⟩
  · cases h
theorem soft_spec {P : Program} {env : Env} (he : EnvOk P env) {ops : Array Oper} {o : Oper} {t t' : List AV} {h h1 : Heap} {v : AV} {a b : Foot} {idle : Bool} (st : StepD P ops idle o t h v t' h1 b) (hk : a.post.ok) (hs : softF env a b = true) : Soft P o t h h1 v a b := by
  unfold softF at hs
  split at hs
  · cases hs
  · rename_i ty p u hld
    simp only [Bool.and_eq_true] at hs
    obtain ⟨s1, s2, s3, s4, s5, s6, s7, s8⟩ := hs
    obtain ⟨hu, x, ho, hp⟩ := st.ld ty p u hld
    subst hu
    have hlh : b.lo = b.hi := Nat.eq_of_beq_eq_true s2
    refine ⟨noNats_spec s1, hlh, oneL_spec s3, fun y hy => disj_spec s4 y (by simp [hy]), fun y hy q => disj_spec s5 y (by simp [hy]) (by simp [q]), fun y hy => disj_spec s6 y (by simp [hy]), outside_spec s7, ?_⟩
    intro w c act G hv hr hG
    unfold reload at s8
    split at s8
    · rename_i r hr'
      rw [hp] at hr'
      obtain ⟨v', h', R, Wr, e1, e2, e3⟩ := load_sound he hk hr'
      simp only at e1
      cases hc : (Nat.beq h'.next a.post.next && (noNats Wr && subL R b.r) && sameI u v') with
      | false => rw [hc] at e1; cases e1
      | true =>
        simp only [Bool.and_eq_true] at hc
        obtain ⟨⟨c1, c2, c3⟩, c4⟩ := hc
        have c1 := Nat.eq_of_beq_eq_true c1
        have c2 := noNats_spec c2
        have c4 := sameI_spec c4
        subst c2 c4
        obtain ⟨nx, v2, w', c', k1, k2, k3, k4, k5, k6⟩ := e3 w c (execOp act.eval o) G ⟨act, o, ho, hv, rfl⟩ ⟨hr, fun id hid => hid.elim (fun q => hG id (subL_spec c3 id q)) (fun q => by cases q), fun id q1 q2 => by omega⟩
        have hn : h.next = h1.next := by rw [← st.lo, ← st.hi]; exact hlh
        have fin : ∃ c', VR w' c' u v2 ∧ Ext w c w' c' ∧ (∀ id, c'.V id → c.V id ∨ (h.next ≤ id ∧ id < h1.next)) ∧ ∀ G', Patch G h h1 [] G' → HR w' c' G' := by
          refine ⟨c', k3, k4, fun id hid => ?_, fun G' hG' => k6 G' (fun id => ?_)⟩
          · rcases k5 id hid with q | q
            · exact .inl q
            · omega
          · refine ⟨fun q => ?_, fun _ => ?_⟩
            · rcases q with q | q
              · cases q
              · omega
            · refine (hG' id).2 ?_
              rintro (q | q)
              · cases q
              · omega
        refine ⟨nx, w', k1, ?_⟩
        rcases k2 with rfl | ⟨rfl, rfl⟩
        · exact fin
        · exact fin
    · cases s8
end Go.Ev
/- Regions whose order is drawn: any set of operations that holds what stands ahead of each of them. -/
namespace Go.Ev
noncomputable def TS (T0 : List AV) (V : Nat → AV) (Ft : Nat → Foot) (S : Nat → Bool) : Nat → List AV
  | 0 => T0
  | i + 1 => if S i = true then setT (TS T0 V Ft S i) (Ft i).wt (V i) else TS T0 V Ft S i
def Touch (Ft : Nat → Foot) (i id : Nat) : Prop := id ∈ (Ft i).w ∨ ((Ft i).lo ≤ id ∧ id < (Ft i).hi)
open Classical in
noncomputable def GS (H : Nat → Heap) (Ft : Nat → Foot) (S : Nat → Bool) : Nat → Nat → Option Blk
  | 0, id => (H 0).G id
  | i + 1, id => if S i = true ∧ Touch Ft i id then (H (i + 1)).G id else GS H Ft S i id
structure Run (P : Program) (ops : Array Oper) (N : Nat) (I : Nat → Bool) (T : Nat → List AV) (H : Nat → Heap) (V : Nat → AV) (Ft : Nat → Foot) : Prop where
  ok0 : (H 0).ok
  le : N ≤ ops.size
  step : ∀ i o, i < N → ops.toList[i]? = some o → StepD P ops (I i) o (T i) (H i) (V i) (T (i + 1)) (H (i + 1)) (Ft i)
section
variable {P : Program} {ops : Array Oper} {N : Nat} {I : Nat → Bool} {T : Nat → List AV} {H : Nat → Heap} {V : Nat → AV} {Ft : Nat → Foot} (R : Run P ops N I T H V Ft)
include R
theorem Run.at (i : Nat) (hi : i < N) : StepD P ops (I i) (ops[i]'(Nat.lt_of_lt_of_le hi R.le)) (T i) (H i) (V i) (T (i + 1)) (H (i + 1)) (Ft i) := R.step i _ hi (by have := R.le; simp [show i < ops.size by omega])
theorem Run.ok (i : Nat) (hi : i ≤ N) : (H i).ok := by
  cases i with
  | zero => exact R.ok0
  | succ i => exact (R.at i hi).eff.ok
theorem Run.mono (i k : Nat) (hik : i ≤ k) (hk : k ≤ N) : (H i).next ≤ (H k).next := by
  induction k with
  | zero => rw [Nat.le_zero.1 hik]; exact Nat.le_refl _
  | succ k ih =>
    rcases Nat.lt_or_ge i (k + 1) with q | q
    · exact Nat.le_trans (ih (by omega) (by omega)) (R.at k hk).eff.next
    · rw [show i = k + 1 by omega]; exact Nat.le_refl _
theorem Run.tlen (i : Nat) (hi : i ≤ N) : (T i).length = (T 0).length := by
  induction i with
  | zero => rfl
  | succ i ih => rw [(R.at i hi).tmps, setT_len, ih (by omega)]
theorem TS_len (S : Nat → Bool) (i : Nat) : (TS (T 0) V Ft S i).length = (T 0).length := by
  induction i with
  | zero => rfl
  | succ i ih => unfold TS; split <;> simp [setT_len, ih]
theorem Run.untouched (i : Nat) (hi : i < N) (id : Nat) (h : ¬ Touch Ft i id) : (H (i + 1)).G id = (H i).G id := by
  have st := R.at i hi
  refine (Patch.full (R.ok i (by omega)) st.eff id).2 ?_
  intro q
  apply h
  unfold Touch
  rw [st.lo, st.hi]
  exact q
theorem TS_full {S : Nat → Bool} : ∀ (n : Nat), n ≤ N → (∀ i, i < n → S i = true) → TS (T 0) V Ft S n = T n
  | 0, _, _ => rfl
  | n + 1, hn, h => by
    have st := R.at n hn
    unfold TS
    rw [if_pos (h n (by omega)), TS_full n (by omega) (fun i hi => h i (by omega)), st.wt, st.tmps]
theorem GS_full {S : Nat → Bool} : ∀ (n : Nat), n ≤ N → (∀ i, i < n → S i = true) → GS H Ft S n = (H n).G
  | 0, _, _ => rfl
  | n + 1, hn, h => by
    funext id
    unfold GS
    split
    · rfl
    · rename_i hq
      rw [GS_full n (by omega) (fun i hi => h i (by omega))]
      exact (R.untouched n hn id (fun q => hq ⟨h n (by omega), q⟩)).symm
theorem GS_calm {p : Nat} (hp : p ≤ N) {S : Nat → Bool} (hcalm : ∀ i, i < N → S i = true ∧ i < p ∨ ∀ id, ¬ Touch Ft i id) : GS H Ft S N = (H p).G := by
  have part1 : ∀ n, n ≤ N → ∀ id, GS H Ft S n id = (H n).G id := by
    intro n
    induction n with
    | zero => intro _ id; rfl
    | succ n ih =>
      intro hn id
      unfold GS
      split
      · rfl
      · rename_i hq
        rw [ih (by omega) id]
        rcases hcalm n (by omega) with ⟨q1, q2⟩ | q
        · exact (R.untouched n (by omega) id (fun z => hq ⟨q1, z⟩)).symm
        · exact (R.untouched n (by omega) id (q id)).symm
  have part2 : ∀ k n, n = p + k → n ≤ N → ∀ id, (H n).G id = (H p).G id := by
    intro k
    induction k with
    | zero => intro n hn _ id; rw [hn]; rfl
    | succ k ih =>
      intro n hn hnN id
      rw [show n = (p + k) + 1 by omega]
      rcases hcalm (p + k) (by omega) with ⟨q1, q2⟩ | q
      · omega
      · rw [R.untouched (p + k) (by omega) id (q id)]
        exact ih (p + k) rfl (by omega) id
  funext id
  rw [part1 N (Nat.le_refl _) id]
  exact part2 (N - p) N (by omega) (Nat.le_refl _) id
theorem TS_calm {p : Nat} (hp : p ≤ N) {S : Nat → Bool} {k : Nat} (hSp : S p = false) (hcalm : ∀ i, i < N → i ≠ p → S i = true ∧ i < p ∨ (Ft i).wt ≠ some k) : getT (TS (T 0) V Ft S N) k = getT (T p) k := by
  have part1 : ∀ i, i ≤ p → getT (TS (T 0) V Ft S i) k = getT (T i) k := by
    intro i
    induction i with
    | zero => intro _; rfl
    | succ i ih =>
      intro hi
      have st := R.at i (by omega)
      have h1 := TS_len R S i
      have h2 := R.tlen i (by omega)
      rw [st.tmps]
      unfold TS
      split
      · rw [st.wt, setT_get, setT_get, h1, h2, ih (by omega)]
      · rename_i hs
        rcases hcalm i (by omega) (by omega) with ⟨q, _⟩ | q
        · exact absurd q hs
        · rw [← st.wt, setT_get, if_neg (fun z => q z.1)]
          exact ih (by omega)
  have part2 : ∀ i, p ≤ i → i ≤ N → getT (TS (T 0) V Ft S i) k = getT (T p) k := by
    intro i
    induction i with
    | zero => intro h1 _; rw [show p = 0 by omega]; rfl
    | succ i ih =>
      intro h1 h2
      rcases Nat.lt_or_ge i p with q | q
      · rw [show i + 1 = p by omega]; exact part1 p (Nat.le_refl _)
      · unfold TS
        split
        · rename_i hs
          have hne : i ≠ p := fun z => by rw [z, hSp] at hs; cases hs
          rcases hcalm i (by omega) hne with z | z
          · omega
          · rw [setT_get, if_neg (fun y => z y.1)]
            exact ih q (by omega)
        · exact ih q (by omega)
  exact part2 _ hp (Nat.le_refl _)
def PairOk (P : Program) (ops : Array Oper) (T : Nat → List AV) (H : Nat → Heap) (V : Nat → AV) (Ft : Nat → Foot) (i j : Nat) : Prop :=
  Apart (Ft j) (Ft i) ∨ ((Ft j).post = H (j + 1) ∧ ∃ o, ops.toList[i]? = some o ∧ Soft P o (T i) (H i) (H (i + 1)) (V i) (Ft j) (Ft i))
omit R in
theorem PairOk.wtrt {i j : Nat} (h : PairOk P ops T H V Ft i j) : ∀ x, (Ft j).wt = some x → x ∉ (Ft i).rt := h.elim (·.wtrt) (fun ⟨_, _, _, k⟩ => k.wtrt)
omit R in
theorem PairOk.wtwt {i j : Nat} (h : PairOk P ops T H V Ft i j) : ∀ x, (Ft j).wt = some x → (Ft i).wt ≠ some x := h.elim (·.wtwt) (fun ⟨_, _, _, k⟩ => k.wtwt)
omit R in
theorem PairOk.rtwt {i j : Nat} (h : PairOk P ops T H V Ft i j) : ∀ x, (Ft i).wt = some x → x ∉ (Ft j).rt := h.elim (·.rtwt) (fun ⟨_, _, _, k⟩ => k.rtwt)
omit R in
theorem soft_untouch {i j id : Nat} {o : Oper} (h : Soft P o (T i) (H i) (H (i + 1)) (V i) (Ft j) (Ft i)) : ¬ Touch Ft i id := by
  rintro (q | q)
  · rw [h.w0] at q; cases q
  · have := h.lh; omega
variable (hap : ∀ i j, i < j → j < N → ((bef ops.toList).getD j 0).testBit i = true ∨ PairOk P ops T H V Ft i j)
include hap
theorem TS_read {S : Nat → Bool} (hcl : ∀ j, j < N → S j = true → ∀ i, ((bef ops.toList).getD j 0).testBit i = true → S i = true) {j : Nat} (hj : j < N) (hn : S j = false) (hp : ∀ i, ((bef ops.toList).getD j 0).testBit i = true → S i = true) {k : Nat} (hk : k ∈ (Ft j).rt) :
    getT (TS (T 0) V Ft S N) k = getT (T j) k := by
  have part1 : ∀ i, i ≤ j → getT (TS (T 0) V Ft S i) k = getT (T i) k := by
    intro i
    induction i with
    | zero => intro _; rfl
    | succ i ih =>
      intro hi
      have st := R.at i (by omega)
      have h1 := TS_len R S i
      have h2 := R.tlen i (by omega)
      rw [st.tmps]
      unfold TS
      split
      · rw [st.wt, setT_get, setT_get, h1, h2, ih (by omega)]
      · rename_i hs
        rcases hap i j (by omega) hj with q | q
        · exact absurd (hp i q) hs
        · have : (Ft i).wt ≠ some k := fun z => q.rtwt k z hk
          rw [← st.wt, setT_get, if_neg (fun z => this z.1)]
          exact ih (by omega)
  have part2 : ∀ i, j ≤ i → i ≤ N → getT (TS (T 0) V Ft S i) k = getT (T j) k := by
    intro i
    induction i with
    | zero => intro h1 _; rw [show j = 0 by omega]; rfl
    | succ i ih =>
      intro h1 h2
      rcases Nat.lt_or_ge i j with q | q
      · rw [show i + 1 = j by omega]; exact part1 j (Nat.le_refl _)
      · unfold TS
        split
        · rename_i hs
          have hne : i ≠ j := fun z => by rw [z, hn] at hs; cases hs
          rcases hap j i (by omega) (by omega) with z | z
          · have := hcl i (by omega) hs j z
            rw [hn] at this; cases this
          · rw [setT_get, if_neg (fun y => z.wtrt k y.1 hk)]
            exact ih q (by omega)
        · exact ih q (by omega)
  exact part2 _ (by omega) (Nat.le_refl _)
theorem GS_read {S : Nat → Bool} (hcl : ∀ j, j < N → S j = true → ∀ i, ((bef ops.toList).getD j 0).testBit i = true → S i = true) {j : Nat} (hj : j < N) (hn : S j = false) (hp : ∀ i, ((bef ops.toList).getD j 0).testBit i = true → S i = true) {id : Nat} (hk : id ∈ (Ft j).r ∨ id ∈ (Ft j).w) :
    GS H Ft S N id = (H j).G id ∨ (∃ k o, ops.toList[j]? = some o ∧ Soft P o (T j) (H j) (H (j + 1)) (V j) (Ft k) (Ft j) ∧ GS H Ft S N id = (Ft k).post.G id) := by
  have part1 : ∀ i, i ≤ j → GS H Ft S i id = (H i).G id := by
    intro i
    induction i with
    | zero => intro _; rfl
    | succ i ih =>
      intro hi
      unfold GS
      split
      · rfl
      · rename_i hs
        rw [ih (by omega)]
        refine (R.untouched i (by omega) id ?_).symm
        intro ht
        have hS : ¬ S i = true := fun q => hs ⟨q, ht⟩
        rcases hap i j (by omega) hj with q | q | ⟨_, _, _, q⟩
        · exact hS (hp i q)
        rotate_left
        · exact soft_untouch q ht
        · rcases ht with z | z
          · rcases hk with y | y
            · exact q.rw id z y
            · exact q.ww id y z
          · rcases hk with y | y
            · exact q.or' id y z
            · exact q.ow id y z
  have part2 : ∀ i, j ≤ i → i ≤ N → GS H Ft S i id = (H j).G id ∨ (∃ k o, ops.toList[j]? = some o ∧ Soft P o (T j) (H j) (H (j + 1)) (V j) (Ft k) (Ft j) ∧ GS H Ft S i id = (Ft k).post.G id) := by
    intro i
    induction i with
    | zero => intro h1 _; rw [show j = 0 by omega]; exact .inl rfl
    | succ i ih =>
      intro h1 h2
      rcases Nat.lt_or_ge i j with q | q
      · rw [show i + 1 = j by omega]; exact .inl (part1 j (Nat.le_refl _))
      · unfold GS
        split
        · rename_i hs
          have hne : i ≠ j := fun z => by rw [z, hn] at hs; cases hs.1
          rcases hap j i (by omega) (by omega) with z | z | ⟨z1, o, z2, z3⟩
          · have := hcl i (by omega) hs.1 j z
            rw [hn] at this; cases this
          rotate_left
          · exact .inr ⟨i, o, z2, z3, by rw [z1]⟩
          · exfalso
            have sti := R.at i (by omega)
            have stj := R.at j hj
            rcases hs.2 with y | y
            · rcases hk with x | x
              · exact z.wr id y x
              · exact z.ww id y x
            · rcases hk with x | x
              · exact z.ob id x y
              · have h3 := stj.eff.wlt id x
                have h4 := R.mono j i (by omega) (by omega)
                rw [sti.lo] at y
                omega
        · exact ih q (by omega)
  exact part2 _ (by omega) (Nat.le_refl _)
theorem setT_comm {t : List AV} {d d' : Option Tmp} {v u : AV} (h : ∀ x, d = some x → d' ≠ some x) : setT (setT t d v) d' u = setT (setT t d' u) d v := by
  cases d with
  | none => rfl
  | some i =>
    cases d' with
    | none => rfl
    | some k =>
      have : i ≠ k := fun e => h i rfl (by rw [e])
      simp only [setT, setL_eq]
      exact List.set_comm _ _ this
theorem TS_add {S S' : Nat → Bool} (hcl : ∀ j, j < N → S j = true → ∀ i, ((bef ops.toList).getD j 0).testBit i = true → S i = true) {j : Nat} (hj : j < N) (hn : S j = false) (hj' : S' j = true) (hS : ∀ i, i ≠ j → S' i = S i) :
    TS (T 0) V Ft S' N = setT (TS (T 0) V Ft S N) (Ft j).wt (V j) := by
  have part1 : ∀ i, i ≤ j → TS (T 0) V Ft S' i = TS (T 0) V Ft S i := by
    intro i
    induction i with
    | zero => intro _; rfl
    | succ i ih =>
      intro hi
      unfold TS
      rw [hS i (by omega), ih (by omega)]
  have part2 : ∀ i, j < i → i ≤ N → TS (T 0) V Ft S' i = setT (TS (T 0) V Ft S i) (Ft j).wt (V j) := by
    intro i
    induction i with
    | zero => intro h1 _; omega
    | succ i ih =>
      intro h1 h2
      rcases Nat.lt_or_ge j i with q | q
      · show (if S' i = true then setT (TS (T 0) V Ft S' i) (Ft i).wt (V i) else TS (T 0) V Ft S' i) = setT (if S i = true then setT (TS (T 0) V Ft S i) (Ft i).wt (V i) else TS (T 0) V Ft S i) (Ft j).wt (V j)
        rw [hS i (by omega), ih q (by omega)]
        split
        · rename_i hs
          rcases hap j i q (by omega) with z | z
          · have := hcl i (by omega) hs j z
            rw [hn] at this; cases this
          · exact setT_comm R hap (fun x hx hy => z.wtwt x hy hx)
        · rfl
      · have : i = j := by omega
        subst this
        show (if S' i = true then setT (TS (T 0) V Ft S' i) (Ft i).wt (V i) else TS (T 0) V Ft S' i) = setT (if S i = true then setT (TS (T 0) V Ft S i) (Ft i).wt (V i) else TS (T 0) V Ft S i) (Ft i).wt (V i)
        rw [if_pos hj', hn, part1 i (Nat.le_refl _)]
        rfl
  exact part2 _ hj (Nat.le_refl _)
theorem GS_add {S S' : Nat → Bool} (hcl : ∀ j, j < N → S j = true → ∀ i, ((bef ops.toList).getD j 0).testBit i = true → S i = true) {j : Nat} (hj : j < N) (hn : S j = false) (hj' : S' j = true) (hS : ∀ i, i ≠ j → S' i = S i) :
    Patch (GS H Ft S N) (H j) (H (j + 1)) (Ft j).w (GS H Ft S' N) := by
  have stj := R.at j hj
  have part1 : ∀ i id, i ≤ j → GS H Ft S' i id = GS H Ft S i id := by
    intro i
    induction i with
    | zero => intro id _; rfl
    | succ i ih =>
      intro id hi
      unfold GS
      rw [hS i (by omega), ih id (by omega)]
  have part2 : ∀ i id, j < i → i ≤ N → (Touch Ft j id → GS H Ft S' i id = (H (j + 1)).G id) ∧ (¬ Touch Ft j id → GS H Ft S' i id = GS H Ft S i id) := by
    intro i
    induction i with
    | zero => intro id h1 _; omega
    | succ i ih =>
      intro id h1 h2
      rcases Nat.lt_or_ge j i with q | q
      · obtain ⟨ih1, ih2⟩ := ih id q (by omega)
        have sti := R.at i (by omega)
        refine ⟨fun ht => ?_, fun ht => ?_⟩
        · unfold GS
          split
          · rename_i hs
            exfalso
            rw [hS i (by omega)] at hs
            rcases hap j i q (by omega) with z | z | ⟨_, _, _, z⟩
            · have := hcl i (by omega) hs.1 j z
              rw [hn] at this; cases this
            rotate_left
            · exact soft_untouch z ht
            · rcases hs.2 with y | y
              · rcases ht with x | x
                · exact z.ww id y x
                · exact z.ow id y x
              · rcases ht with x | x
                · have h3 := stj.eff.wlt id x
                  have h4 := R.mono j i (by omega) (by omega)
                  rw [sti.lo] at y
                  omega
                · have h4 := R.mono (j + 1) i (by omega) (by omega)
                  rw [sti.lo] at y
                  rw [stj.hi] at x
                  omega
          · exact ih1 ht
        · unfold GS
          rw [hS i (by omega), ih2 ht]
      · have : i = j := by omega
        subst this
        refine ⟨fun ht => ?_, fun ht => ?_⟩
        · unfold GS
          rw [if_pos ⟨hj', ht⟩]
        · unfold GS
          rw [if_neg (fun z => ht z.2), if_neg (fun z => ht z.2)]
          exact part1 i id (Nat.le_refl _)
  intro id
  obtain ⟨h1, h2⟩ := part2 _ id hj (Nat.le_refl _)
  unfold Touch at h1 h2
  rw [stj.lo, stj.hi] at h1 h2
  exact ⟨h1, h2⟩
end
end Go.Ev
