/- The evaluator, its soundness and the walks: part 3. -/
import Derived.Laws.IdiomStrings
import Derived.CallsIn
import Derived.Orders
import Derived.RangeFuncLeaves
import Derived.RangeFuncRecord
import Derived.Laws.StructEq
import Derived.Test.YtninaidfifiliaaC2
set_option linter.unusedSectionVars false
set_option linter.unusedSimpArgs false
set_option linter.unusedVariables false
set_option maxRecDepth 100000
set_option maxRecDepth 1000000
noncomputable section
/- append, copy, len, cap, min, max: the operations. -/
namespace Go.Ev
theorem tyA_some {env : Env} {l : Array TypeId} {k : Nat} {i : TI} (h : tyA env l k = some i) : ∃ t, l[k]? = some t ∧ env.ty.get t = some i := by
  unfold tyA at h
  split at h
  · rename_i t ht; exact ⟨t, by simpa using ht, h⟩
  · cases h
theorem append_args {argTypes : Array TypeId} {t tx : TypeId} (h0 : argTypes[0]? = some t) (h1 : argTypes[1]? = some tx) (ty : TypeId) (s x : Value) :
    Builtin.append_ argTypes ty #[s, x] = Builtin.append_ #[t, tx] ty #[s, x] := by
  simp [Builtin.append_, h0, h1]
theorem VRs.one' {w : World} {c : Cx} {x : AV} {l : List Value} (h : VRs w c [x] l) : ∃ x', l = [x'] ∧ VR w c x x' := by
  cases h with | cons _ v' _ l' h1 h2 => cases h2; exact ⟨v', rfl, h1⟩
theorem VRs.two' {w : World} {c : Cx} {x y : AV} {l : List Value} (h : VRs w c [x, y] l) : ∃ x' y', l = [x', y'] ∧ VR w c x x' ∧ VR w c y y' := by
  cases h with | cons _ v' _ l' h1 h2 =>
  obtain ⟨y', rfl, h3⟩ := h2.one'
  exact ⟨v', y', rfl, h1, h3⟩
section
variable {ρ : Type} {P : Program} {env : Env} (he : EnvOk P env) {t : List AV} {h : Heap} (hk : h.ok) {K : KP ρ} {r : ρ}
theorem at_builtin {c : Call} {b : Builtin} (hb : c.callee = .builtin b) {w : World} {cx : Cx} {x : Sem Next} (h : At t (.call c) w cx x) :
    ∃ (args : List Value) (ty : TypeId) (consts : Array Bool), VRs w cx (evs t c.args.toList) args ∧ x.run P w = (builtin b c.argTypes ty consts args.toArray).run P w := by
  obtain ⟨a, o, ho, ht, rfl⟩ := h
  refine ⟨c.args.toList.map a.eval, o.type, c.args.map fun | .const _ => true | _ => false, evs_sound ht _, ?_⟩
  have e : (c.args.toList.map a.eval).toArray = c.args.map a.eval := by rw [← Array.toList_map, Array.toArray_toList]
  rw [e]
  have e2 : execOp a.eval o = (resolve a.eval c o.type >>= fun d => invoke d.target d.args) := by simp only [execOp, ho]
  have e3 : resolve a.eval c o.type = (pure { target := .builtin b c.argTypes o.type (c.args.map fun | .const _ => true | _ => false), args := c.args.map a.eval } : Sem Deferred) := by unfold resolve; rw [hb]; rfl
  rw [e2, e3]
  rfl
theorem sliceCon_val {h : Heap} {i : TI} {v : Value} {old : Con} (hs : sliceCon h i (.val v) = some old) : v = Value.slice none 0 0 ∧ old.len = 0 := by
  unfold sliceCon at hs
  split at hs
  · rename_i heq; cases heq
  · rename_i heq; cases heq
  · rename_i heq
    injection heq with heq
    injection hs with hs
    exact ⟨heq, by rw [← hs]; exact zeros_len i 0⟩
  · cases hs
include he hk in
theorem append_sound {S : World → Cx → Sem Next → Prop} {ty tx e : TypeId} {i : TI} (hi : env.ty.get e = some i) {s : AV} {new : Con} {rd : List Nat} (hK : appendA env i s h new rd K = some r) (hS : AppAt P S ty tx e i s h new rd) : Does P h K r S := by
  unfold appendA at hK
  rw [onSlice_eq] at hK
  split at hK
  · rename_i old hold
    have hw := beq_iff.1 (guardB_some hK).1
    replace hK := (guardB_some hK).2
    split at hK
    · rename_i con hc
      have hcat := cat_some hc
      unfold appTo at hK
      split at hK
      · rename_i v
        obtain ⟨hv, h0⟩ := sliceCon_val hold
        subst hv
        refine appNew_sound he hk hi hold hw hc (by rw [hcat.len, h0, Nat.zero_add]) hS (R := rd) (by rintro id (q | q); exact q; simp [rdOf] at q) ?_ hK
        intro w c s' hs'
        have := hs'.val_inv
        subst this
        exact ⟨none, 0, by rw [h0], by omega⟩
      · rename_i o cap
        obtain ⟨g, hK⟩ := guardB_some hK
        have : old = o := by simp [sliceCon] at hold; exact hold.symm
        subst this
        refine appNew_sound he hk hi hold hw hc hcat.len.symm hS (R := rd) (by rintro id (q | q); exact q; simp [rdOf] at q) ?_ hK
        intro w c s' hs'
        cases hs' with | ro _ _ a m k1 k2 k3 k4 =>
        refine ⟨a, m, rfl, ?_⟩
        unfold roNew at g
        split at g
        · cases g
        · have := beq_iff.1 g
          have := k2 0 rfl
          omega
        · rename_i m'
          rw [Bool.and_eq_true] at g
          have g1 := beq_iff.1 g.1
          have g2 := blt_iff.1 g.2
          have := k2 _ rfl
          omega
      · rename_i id off len cap wd
        have hol : old.len = len := by
          simp only [sliceCon] at hold
          split at hold
          · rename_i k hk'
            cases hb : Nat.ble (off + len) k.len with
            | false => rw [hb] at hold; cases hold
            | true =>
              rw [hb] at hold
              simp only [cond_true, Option.some.injEq] at hold
              rw [← hold, Con.sub_len _ _ _ (Nat.le_of_ble_eq_true hb)]
          · cases hold
        cases g : ownNew cap len new.len with
        | true =>
          rw [g, cond_true] at hK
          refine appNew_sound he hk hi hold hw hc (by rw [hcat.len, hol]) hS (R := id :: rd) (by rintro id' (q | q); simp [q]; simp [rdOf] at q; simp [q]) ?_ hK
          intro w c s' hs'
          cases hs' with | own _ _ _ _ _ a m k1 k2 k3 k4 k5 =>
          refine ⟨a, m, by rw [hol], ?_⟩
          unfold ownNew at g
          split at g
          · cases g
          · rw [Bool.and_eq_true] at g
            have g1 := beq_iff.1 g.1
            have g2 := blt_iff.1 g.2
            have := k4 _ rfl
            omega
        | false =>
          rw [g, cond_false] at hK
          exact appTurn_sound he hk hi hold hw hc rfl hS hK
      · cases hK
    · cases hK
  · cases hK
include he hk in
theorem appendB_sound {c : Call} (hb : c.callee = .builtin .append) {s x : AV} (hargs : evs t c.args.toList = [s, x]) (hK : appendB env c.argTypes s x h K = some r) : Does P h K r (At t (.call c)) := by
  unfold appendB at hK
  split at hK
  · rename_i st xt hst hxt
    obtain ⟨ty, t1, t2⟩ := tyA_some hst
    obtain ⟨tx, t3, t4⟩ := tyA_some hxt
    split at hK
    · rename_i e hd
      split at hK
      · rename_i i hi
        have goal : ∀ {new : Con} {rd : List Nat}, appendA env i s h new rd K = some r →
            (∀ (w : World) (cx : Cx) (x' : Value) (G : Nat → Option Blk), VR w cx x x' → HR w cx G → (∀ id ∈ rd, G id = h.G id) → ∃ news, (∀ oty, AppRun P w ty tx oty e i x' new.len news) ∧ RowsRel w cx new i.size news) → Does P h K r (At t (.call c)) := by
          intro new rd hK hh
          refine append_sound he hk hi hK (ty := ty) (tx := tx) (e := e) ?_
          intro w cx y G hy hr hag
          obtain ⟨args, oty, consts, q1, q2⟩ := at_builtin (P := P) hb hy
          rw [hargs] at q1
          obtain ⟨s', x', rfl, q3, q4⟩ := q1.two'
          obtain ⟨news, q5, q6⟩ := hh w cx x' G q4 hr hag
          refine ⟨s', x', oty, news, q3, q5 oty, q6, ?_⟩
          intro v' w' hrun
          rw [q2]
          rw [← append_args t1 t3] at hrun
          simp only [builtin, Sem.run_bind, hrun, Result.andThen_ok, Sem.run_pure]
        split at hK
        · rename_i kd hxd
          split at hK
          · rename_i n hn
            obtain ⟨hg, hK⟩ := guardB_some hK
            simp only [Bool.and_eq_true, decide_eq_true_eq] at hg
            obtain ⟨⟨g1, g2⟩, g3⟩ := hg
            refine goal hK ?_
            intro w cx x' G hx hr _
            obtain ⟨kx, rfl⟩ := int?_some hn
            have := hx.val_inv
            subst this
            refine ⟨(madeCells i.zero.cells (n.toNat * i.size)).toList, ?_, ?_⟩
            · intro oty
              rw [zeros_len]
              exact appRun_zeros he t2 hd hi t4 hxd g1 g2 g3
            · intro r' j v hr' hj hv
              have hT := he.ty e i hi
              rw [zeros_len] at hr'
              have hlt := rowlt hr' hj
              have hget : (madeCells i.zero.cells (n.toNat * i.size)).toList[r' * i.size + j]? = some (i.zero.cells[(r' * i.size + j) % i.zero.cells.size]!) := by
                have := madeCells_get i.zero.cells (n.toNat * i.size) _ hlt
                simpa using this
              refine ⟨_, hget, ?_⟩
              refine zeros_rel hT w (cx.at _) n.toNat (madeCells i.zero.cells (n.toNat * i.size)) (fun k hk => madeCells_get _ _ _ hk) r' j v _ (by rw [zeros_len]; exact hr') (by rw [zeros_wd hT]; exact hj) hv ?_
              rw [zeros_wd hT]
              exact madeCells_get _ _ _ hlt
          · cases hK
        · obtain ⟨con, rd, k1, k2, k3⟩ := src_sound he hi t4 hK
          refine goal k1 ?_
          intro w cx x' G hx hr hag
          obtain ⟨news, k4, k5, _⟩ := k3 hx hr hag
          exact ⟨news, fun oty => appRun_src he t2 hd hi k4, k5⟩
      · cases hK
    · cases hK
  · cases hK
theorem copyCon_some {c c' : Con} {off n : Nat} {src : Con} (h : copyCon c off n src = some c') (h1 : off + n ≤ c.len) (h2 : n ≤ src.len) (hw : c.wd = src.wd) :
    c'.wd = c.wd ∧ c'.len = c.len ∧ (∀ i, i < c.len → (off ≤ i ∧ i < off + n ∧ c'.row i = src.row (i - off) ∧ (c'.pureF = true → src.pureF = true)) ∨ (¬ (off ≤ i ∧ i < off + n) ∧ c'.row i = c.row i ∧ (c'.pureF = true → c.pureF = true))) := by
  unfold copyCon at h
  split at h
  · rename_i x hx
    have q1 := cat_some hx
    have q2 := cat_some h
    have l1 : (c.sub 0 off).len = off := Con.sub_len _ _ _ (by omega)
    have l2 : (src.sub 0 n).len = n := Con.sub_len _ _ _ (by omega)
    have l3 : (c.sub (off + n) (c.len - (off + n))).len = c.len - (off + n) := Con.sub_len _ _ _ (by omega)
    have lx : x.len = off + n := by rw [q1.len, l1, l2]
    have pf : ∀ (k : Con) a b, (k.sub a b).pureF = k.pureF := by intro k a b; cases k <;> rfl
    refine ⟨?_, ?_, ?_⟩
    · rw [q2.wa, q1.wa, Con.sub_wd]
    · rw [q2.len, lx, l3]; omega
    · intro i hi
      rcases Nat.lt_or_ge i (off + n) with h3 | h3
      · rcases Nat.lt_or_ge i off with h4 | h4
        · refine .inr ⟨by omega, ?_, fun q => by have := q1.pl (by omega) (q2.pl (by omega) q); rwa [pf] at this⟩
          rw [q2.l i (by omega), q1.l i (by omega), Con.sub_row _ _ _ _ h4 (by omega), Nat.zero_add]
        · refine .inl ⟨h4, h3, ?_, fun q => by have := q1.pr (by omega) (q2.pl (by omega) q); rwa [pf] at this⟩
          obtain ⟨k, rfl⟩ := Nat.exists_eq_add_of_le h4
          have := q1.r k (by omega)
          rw [l1] at this
          rw [q2.l _ (by omega), this, Con.sub_row _ _ _ _ (by omega) (by omega), Nat.zero_add, Nat.add_sub_cancel_left]
      · refine .inr ⟨by omega, ?_, fun q => by have := q2.pr (by omega) q; rwa [pf] at this⟩
        obtain ⟨k, rfl⟩ := Nat.exists_eq_add_of_le h3
        have := q2.r k (by omega)
        rw [lx] at this
        rw [this, Con.sub_row _ _ _ _ (by omega) (by omega)]
  · cases h
include he hk in
theorem copyB_sound {c : Call} (hb : c.callee = .builtin .copy) {s x : AV} (hargs : evs t c.args.toList = [s, x]) (hK : copyB env c.argTypes s x h K = some r) : Does P h K r (At t (.call c)) := by
  unfold copyB at hK
  split at hK
  · rename_i st xt hst hxt
    obtain ⟨ty, t1, t2⟩ := tyA_some hst
    obtain ⟨tx, t3, t4⟩ := tyA_some hxt
    split at hK
    · rename_i e hd
      split at hK
      · rename_i i hi
        obtain ⟨src, rd, hK, hsw, k3⟩ := src_sound he hi t4 hK
        unfold copyA at hK
        split at hK
        · rename_i id off len cap wd _
          split at hK
          · rename_i con hcon
            obtain ⟨hg, hK⟩ := guardB_some hK
            rw [Bool.and_eq_true] at hg
            have g1 := Nat.le_of_ble_eq_true hg.1
            have g2 := beq_iff.1 hg.2
            split at hK
            · rename_i con' hcc
              rw [putK_eq] at hK
              have hmin1 : Nat.min src.len len ≤ src.len := Nat.min_le_left _ _
              have hmin2 : Nat.min src.len len ≤ len := Nat.min_le_right _ _
              obtain ⟨p1, p2, p3⟩ := copyCon_some hcc (by omega) hmin1 g2
              obtain ⟨ver, hent⟩ := Heap.con_ent hcon
              refine ⟨_, _, _, _, hK, Eff.put hk hent _ _, ?_⟩
              intro w cx y G hy hp
              obtain ⟨args, oty, consts, q1, q2⟩ := at_builtin (P := P) hb hy
              rw [hargs] at q1
              obtain ⟨s', x', rfl, q3, q4⟩ := q1.two'
              obtain ⟨news, k4, k5, k6⟩ := k3 q4 hp.hr (fun id' hid => hp.agree id' (.inl (by simp [hid])))
              have hG := hp.agree id (.inl (by simp))
              rw [con_some hcon] at hG
              have hbk : CellsRel w cx (cx.ι id) con := hp.hr.blk id _ hG
              cases q3 with | own _ _ _ _ _ a m z1 z2 z3 z4 z5 =>
              have hws : wd = i.size := by rw [← z2, ← hbk.wd, g2, hsw]
              have hun := (he.ty ty st t2).under
              rw [hd] at hun
              obtain ⟨n, hn⟩ : ∃ n, n = Nat.min src.len len := ⟨_, rfl⟩
              have hfc := k6 n (by omega)
              have hrun1 : ∀ (b : Option Addr) (m : Nat) (w' : World), (∀ ad, b = some ad → (storeCells ad (news.take (n * i.size))).run P w = .ok () w') → (b = none → w' = w) →
                  (Builtin.copy_ c.argTypes oty #[.slice b len m, x']).run P w = .ok (.int .i64 n) w' := by
                intro b m w' hst' hnone
                cases b with
                | none =>
                  have := hnone rfl
                  subst this
                  simp [Builtin.copy_, t1, run_underlying hun, k4.len, run_size he hi, ← hn, hfc, goInt]
                | some ad =>
                  simp [Builtin.copy_, t1, run_underlying hun, k4.len, run_size he hi, ← hn, hfc, goInt, hst' ad rfl]
              have hfin : ∀ {v' : Value} {w' : World}, (Builtin.copy_ c.argTypes oty #[.slice a len m, x']).run P w = .ok v' w' → y.run P w = .ok (.value v') w' := by
                intro v' w' hrun
                rw [q2]
                simp only [builtin, Sem.run_bind, hrun, Result.andThen_ok, Sem.run_pure]
              rcases z5 with z5 | ⟨z5, z6, z7⟩
              · -- nothing
                have hn0 : n = 0 := by omega
                have hl0 : len = 0 := by omega
                have hrun := hrun1 a m w (fun ad _ => by rw [hn0, Nat.zero_mul]; rfl) (fun _ => rfl)
                refine ⟨_, _, w, cx, hfin hrun, .inl rfl, by rw [hn]; exact .val _, Ext.refl w cx, fun q hq => .inl hq, ?_⟩
                intro G' hG'
                have hcell : CellsRel w cx (cx.ι id) con' := by
                  refine ⟨by rw [p1]; exact hbk.wd, fun q => by rw [p2]; exact hbk.dead q, hbk.own, fun q => ?_⟩
                  obtain ⟨arr, e', fz, h1, h2, h3, h5, h6, h7⟩ := hbk.arr q
                  refine ⟨arr, e', fz, h1, h2, h3, h5, by rw [p2]; exact h6, ?_⟩
                  intro i' j v u hi' hj hv hu
                  rw [p2] at hi'
                  rcases p3 i' hi' with ⟨u1, u2, _⟩ | ⟨u1, u2, pf⟩
                  · rw [← hn] at u2; omega
                  · rw [u2] at hv
                    exact (h7 i' j v u hi' hj hv hu).weak pf
                have g1' : G' id = some (.cells con') := by
                  rw [(hG' id).1 (.inl (by simp))]
                  exact G_put hent _
                have g2' : ∀ i', i' ≠ id → G' i' = G i' := by
                  intro i' hi'
                  refine (hG' i').2 ?_
                  rintro (q | q)
                  · simp at q; exact hi' q
                  · simp only [Heap.put] at q; omega
                refine HR.patch (fun i' => i' = id) hp.hr (Ext.refl w cx) ?_ ?_ ?_
                · intro i' b' hi' hne
                  rw [g2' i' hne] at hi'
                  exact ⟨hi', fun hl => ⟨rfl, (hp.hr.blk i' b' hi').owned hl⟩⟩
                · rintro i' b' hi' rfl
                  rw [g1'] at hi'
                  injection hi' with hi'
                  subst hi'
                  exact ⟨hp.hr.valid i' _ hG, hcell⟩
                · rintro i' j b1 b2 hi' hj rfl li lj hbk'
                  by_cases hij : j = i'
                  · exact hij.symm
                  · rw [g2' j hij] at hj
                    exact hp.hr.inj i' j _ _ hG hj li lj hbk'
              · subst z6
                obtain ⟨arr, e', fz, h1, h2, h3, h5, h6, h7⟩ := hbk.arr z5
                have hnl := k4.newsLen
                have hnsz : n * i.size ≤ src.len * i.size := Nat.mul_le_mul_right _ (by omega)
                have htl : (news.take (n * i.size)).length = n * i.size := by rw [List.length_take, hnl]; omega
                have hbase : (cx.ι id).st + off * wd + (news.take (n * i.size)).length ≤ (cx.ι id).size := by
                  have : (off + n) * wd ≤ (off + m) * wd := Nat.mul_le_mul_right _ (by omega)
                  rw [Nat.add_mul] at this
                  rw [htl, ← hws]; omega
                have hone : ∀ u ∈ news.take (n * i.size), u.oneCell' = true := fun u hu => k4.one u (List.mem_of_mem_take hu)
                have hsc := run_storeCells_cells (P := P) (cx.ι id).blk ((cx.ι id).st + off * wd) (news.take (n * i.size)) 0 w
                  (fun j hj => by rw [cell_of_arr h1 (u := arr[(cx.ι id).st + off * wd + 0 + j]'(by omega)) (by simp)]; rfl)
                  (fun j hj => frozen_of_arr h1 (h3 _ (by omega))) hone
                rw [Nat.add_zero] at hsc
                have hrun := hrun1 (some ⟨(cx.ι id).blk, (cx.ι id).st + off * wd, none⟩) m _ (fun ad q => by injection q with q; subst q; exact hsc) (by intro q; cases q)
                obtain ⟨hext, hoth, hcr⟩ := CellsRel.write (fun b hm => (hp.hr.dis b hm).1) (c' := cx) (rb' := cx.ι id) (con' := con') (o := (cx.ι id).st + off * wd) (vs := news.take (n * i.size)) hbk z5 hone hbase z5 rfl rfl rfl p1 (by rw [p2]; exact h6) (fun w' hw => Ext.refl w' cx) (hbk.own z5) (by
                  intro i' j v hi' hj hv
                  rw [p2] at hi'
                  rw [z2] at hj ⊢
                  rcases p3 i' hi' with ⟨u1, u2, u3, pf⟩ | ⟨u1, u2, pf⟩
                  · rw [← hn] at u2
                    rw [u3] at hv
                    obtain ⟨u, v1, v2⟩ := k5 (i' - off) j v (by omega) (by rw [← hws]; exact hj) hv
                    refine .inl ⟨(i' - off) * i.size + j, u, ?_, ?_, v2.weak pf⟩
                    · have : i' * wd = off * wd + (i' - off) * i.size := by rw [← hws, ← Nat.add_mul]; congr 1; omega
                      omega
                    · have := rowlt (show i' - off < n by omega) (show j < i.size by rw [← hws]; exact hj)
                      rw [List.getElem?_take, if_pos this]; exact v1
                  · rw [u2] at hv
                    refine .inr ⟨?_, pf, i', hi', rfl, hv⟩
                    rw [← hn] at u1
                    rw [htl, ← hws]
                    rcases Nat.lt_or_ge i' off with y1 | y1
                    · have := rowlt y1 hj; omega
                    · have y2 : off + n ≤ i' := by omega
                      have := Nat.mul_le_mul_right wd y2
                      rw [Nat.add_mul] at this
                      omega)
                refine ⟨_, _, _, cx, hfin hrun, .inl rfl, by rw [hn]; exact .val _, hext, fun q hq => .inl hq, ?_⟩
                intro G' hG'
                exact HR.put hp.hr hG hent hG' hext z5 hoth hcr
            · cases hK
          · cases hK
        · cases hK
      · cases hK
    · cases hK
  · cases hK
end
end Go.Ev
/- Conversions, len, cap, min, max; all operations that call no function. -/
namespace Go.Ev
theorem strOf_eq (l : List Int) : l.foldl (fun r n => r.push (UInt8.ofNat n.toNat)) ByteArray.empty = strOf l := by
  have key : ∀ (l : List Int) (r : ByteArray), l.foldl (fun r n => r.push (UInt8.ofNat n.toNat)) r = ⟨r.data ++ (l.map fun n => UInt8.ofNat n.toNat).toArray⟩ := by
    intro l
    induction l with
    | nil => intro r; simp
    | cons n l ih =>
      intro r
      simp only [List.foldl_cons, ih, List.map_cons]
      simp [ByteArray.push]
  rw [key]
  simp [strOf, ByteArray.empty, ByteArray.emptyWithCapacity]
  try rfl
theorem u8s_some {c : Con} {l : List Int} (h : u8s c = some l) : c = .ints .u8 l := by
  unfold u8s at h
  split at h
  · injection h with h; subst h; rfl
  · cases h
theorem isByte_some {i : TI} (h : isByte i = true) : i.desc = .int .u8 ∧ i.size = 1 := by
  unfold isByte at h
  split at h
  · rename_i hd; exact ⟨hd, beq_iff.1 h⟩
  · cases h
section
variable {ρ : Type} {P : Program} {env : Env} (he : EnvOk P env) {t : List AV} {h : Heap} (hk : h.ok) {K : KP ρ} {r : ρ}
include he hk in
theorem conv_sound {src dst : TypeId} {x : Operand} (hK : convA env src dst (ev t x) h K = some r) : Does P h K r (At t (.convert src dst x)) := by
  unfold convA at hK
  split at hK
  · rename_i s d hs hd
    have us := (he.ty src s hs).under
    have ud := (he.ty dst d hd).under
    split at hK
    · rename_i k hdd
      rw [hdd] at ud
      split at hK
      · rename_i k' n hx
        refine Does.same hk _ [] hK ?_
        rintro w c y G ⟨a, o, ho, ht, rfl⟩ hp
        have h4 := ev_sound ht x
        rw [hx] at h4
        have hx' := h4.val_inv
        refine ⟨_, ?_, .val _⟩
        simp [execOp, ho, hx', convert, run_underlying us, run_underlying ud, Conv.intToInt]
      · cases hK
    · rename_i hdd
      rw [hdd] at ud
      split at hK
      · rename_i hsd
        rw [hsd] at us
        split at hK
        · rename_i v hx
          refine Does.same hk _ [] hK ?_
          rintro w c y G ⟨a, o, ho, ht, rfl⟩ hp
          have h4 := ev_sound ht x
          rw [hx] at h4
          have hx' := h4.val_inv
          refine ⟨_, ?_, .val _⟩
          simp [execOp, ho, hx', convert, run_underlying us, run_underlying ud]
        · cases hK
      · rename_i e hsd
        rw [hsd] at us
        split at hK
        · rename_i i hi
          obtain ⟨hby, hK⟩ := guardB_some hK
          obtain ⟨b1, b2⟩ := isByte_some hby
          have ue := (he.ty e i hi).under
          rw [b1] at ue
          unfold bytesStr at hK
          rw [onSlice_eq] at hK
          split at hK
          · rename_i con hcon
            split at hK
            · rename_i l hl
              have := u8s_some hl
              subst this
              refine Does.same hk _ (rdOf (ev t x)) hK ?_
              rintro w c y G ⟨a, o, ho, ht, rfl⟩ hp
              have h4 := ev_sound ht x
              obtain ⟨b, m, news, hx', k1, k2, k3, k4⟩ := slice_lies he hi hcon (by rw [b2]; rfl) h4 hp.hr (fun id hid => hp.agree id (.inl hid))
              refine ⟨_, ?_, .val _⟩
              have hc := run_convert_bytes_string (P := P) w src dst e b l.length m us ue ud
              have hlen : news.length = l.length := by
                have := k3.len
                rw [b2, Nat.mul_one] at this
                exact this
              have hnews : news = l.map (Value.int .u8) := by
                apply List.ext_getElem?
                intro j
                rcases Nat.lt_or_ge j l.length with hj | hj
                · obtain ⟨u, e1, e2⟩ := k4 j 0 (.val (.int .u8 (l.getD j 0))) hj (by rw [b2]; exact Nat.one_pos) rfl
                  have := e2.val_inv
                  subst this
                  rw [b2, Nat.mul_one, Nat.add_zero] at e1
                  rw [e1]
                  simp [hj]
                · rw [List.getElem?_eq_none (by omega), List.getElem?_eq_none (by simpa using hj)]
              have hb : (Conv.bytesToString (.slice b l.length m)).run P w = .ok (.string (strOf l)) w := by
                cases b with
                | none =>
                  have h0 : l.length = 0 := k2 rfl
                  have : l = [] := List.eq_nil_of_length_eq_zero h0
                  subst this
                  simp [Conv.bytesToString, strOf, ByteArray.empty, ByteArray.emptyWithCapacity]
                  try rfl
                | some ad =>
                  have hld : (loadCells ad l.length).run P w = .ok (l.map (Value.int .u8)).toArray w := by
                    have := run_loadCells_list (P := P) w ad news (k3.get ad rfl)
                    rw [hlen, hnews] at this
                    exact this
                  rw [run_bytesToString w ad l.length m l hld, strOf_eq]
              have hx'' : a.eval x = .slice b l.length m := hx'
              simp only [execOp, ho, hx'', Sem.run_bind, hc, hb, Result.andThen_ok]
              rfl
            · cases hK
          · cases hK
        · cases hK
      · cases hK
    · rename_i e hdd
      rw [hdd] at ud
      split at hK
      · rename_i hsd
        rw [hsd] at us
        split at hK
        · rename_i i hi
          obtain ⟨hby, hK⟩ := guardB_some hK
          obtain ⟨b1, b2⟩ := isByte_some hby
          have hT := he.ty e i hi
          have ue := hT.under
          rw [b1] at ue
          unfold toBytes at hK
          split at hK
          · rename_i s' hx
            obtain ⟨g1, hK⟩ := guardB_some hK
            have g1 := Nat.le_of_ble_eq_true g1
            rw [addK_eq] at hK
            refine Does.new hk hK ?_
            rintro w c y G ⟨a, o, ho, ht, rfl⟩ hp
            have h4 := ev_sound ht x
            rw [hx] at h4
            have hx' := h4.val_inv
            have hrun := run_bytes_of_string (P := P) w src dst e s' us ud ue
            have hge := grownCap_ge w s'.size 0 e
            have hsz : (bytesRow s' (grownCap w s'.size 0 e)).size = grownCap w s'.size 0 e := by
              have : s'.data.size = s'.size := rfl
              simp only [bytesRow, Array.size_append, Array.size_map, Array.size_replicate, this]; omega
            refine ⟨.slice (some ⟨w.heap.size, 0, none⟩) s'.size (grownCap w s'.size 0 e), w.drew.alloc (.cells (bytesRow s' (grownCap w s'.size 0 e)) e ((bytesRow s' (grownCap w s'.size 0 e)).size, (bytesRow s' (grownCap w s'.size 0 e)).size + 1)), bytesRow s' (grownCap w s'.size 0 e), e, ((bytesRow s' (grownCap w s'.size 0 e)).size, (bytesRow s' (grownCap w s'.size 0 e)).size + 1), ?_, oneMore_grown w _, ?_, ?_, ?_, ?_, ?_⟩
            · simp only [execOp, ho, hx', Sem.run_bind, hrun, Result.andThen_ok]; rfl
            · rw [hsz]; simp [Con.len, Con.wd, numsOf]; exact hge
            · intro u hu
              simp only [bytesRow, Array.toList_append, List.mem_append, Array.toList_map, List.mem_map, Array.toList_replicate, List.mem_replicate] at hu
              rcases hu with ⟨b, _, rfl⟩ | ⟨_, rfl⟩ <;> rfl
            · intro o' ho' q
              simp only at q
              omega
            · intro i' j v u hi' hj hv hu
              simp [Con.wd] at hj
              subst hj
              have hlt : i' < s'.data.toList.length := by simpa [Con.len, numsOf] using hi'
              simp only [Con.row, List.getElem?_cons_zero, Option.some.injEq, numsOf] at hv
              subst hv
              simp only [Con.wd, Nat.mul_one, Nat.add_zero, bytesRow] at hu
              have hlt2 : i' < (s'.data.map fun b => Value.int .u8 b.toNat).size := by rw [Array.size_map]; simpa using hlt
              rw [Array.getElem?_append_left hlt2, Array.getElem?_map] at hu
              have e1 : s'.data[i']? = some s'.data[i'] := by simp at hlt; simp [hlt]
              rw [e1] at hu
              simp only [Option.map_some, Option.some.injEq] at hu
              subst hu
              rw [List.getD_eq_getElem?_getD, List.getElem?_map]
              have e2 : s'.data.toList[i']? = some s'.data[i'] := by rw [Array.getElem?_toList]; exact e1
              rw [e2]
              exact .val _
            · refine VR.newSlice hge (fun k hk => by cases hk) ?_
              rw [hsz]; exact Nat.le_of_eq (Nat.mul_one _)
          · cases hK
        · cases hK
      · cases hK
    · cases hK
  · cases hK
include hk in
theorem builtin_same {c : Call} {b : Builtin} (hb : c.callee = .builtin b) {v : AV} (hK : K v h [] [] = some r)
    (hs : ∀ (w : World) (cx : Cx) (args : List Value) (ty : TypeId) (consts : Array Bool), VRs w cx (evs t c.args.toList) args → ∃ v', (builtin b c.argTypes ty consts args.toArray).run P w = .ok (.value v') w ∧ VR w cx v v') : Does P h K r (At t (.call c)) := by
  refine Does.same hk v [] hK ?_
  intro w cx x G hx hp
  obtain ⟨args, ty, consts, q1, q2⟩ := at_builtin (P := P) hb hx
  obtain ⟨v', h1, h2⟩ := hs w cx args ty consts q1
  exact ⟨v', q2.trans h1, h2⟩
include he hk in
theorem len_sound {c : Call} (hb : c.callee = .builtin .len) {x : AV} (hargs : evs t c.args.toList = [x]) (hK : lenA env c.argTypes x h K = some r) : Does P h K r (At t (.call c)) := by
  unfold lenA at hK
  split at hK
  · rename_i i hi
    obtain ⟨ty, t1, t2⟩ := tyA_some hi
    have u := (he.ty ty i t2).under
    split at hK
    · rename_i n e hd
      rw [hd] at u
      refine builtin_same hk hb hK ?_
      intro w cx args oty consts q
      rw [hargs] at q
      obtain ⟨x', rfl, q1⟩ := q.one'
      exact ⟨_, by simp [builtin, Builtin.len_, t1, run_underlying u, goInt], .val _⟩
    · rename_i e hd
      rw [hd] at u
      split at hK
      · rename_i n hn
        refine builtin_same hk hb hK ?_
        intro w cx args oty consts q
        rw [hargs] at q
        obtain ⟨x', rfl, q1⟩ := q.one'
        have : ∃ a m, x' = .slice a n m := by
          unfold lenOfA at hn
          split at hn
          · injection hn with hn; subst hn
            cases q1 with | ro _ _ a m _ _ _ _ => exact ⟨a, m, rfl⟩
          · injection hn with hn; subst hn
            cases q1 with | own _ _ _ _ _ a m _ _ _ _ _ => exact ⟨a, m, rfl⟩
          · injection hn with hn; subst hn
            have := q1.val_inv
            exact ⟨none, 0, this⟩
          · cases hn
        obtain ⟨a, m, rfl⟩ := this
        exact ⟨_, by simp [builtin, Builtin.len_, t1, run_underlying u, goInt], .val _⟩
      · cases hK
    · rename_i hd
      rw [hd] at u
      split at hK
      · rename_i s
        refine builtin_same hk hb hK ?_
        intro w cx args oty consts q
        rw [hargs] at q
        obtain ⟨x', rfl, q1⟩ := q.one'
        have := q1.val_inv
        subst this
        exact ⟨_, by simp [builtin, Builtin.len_, t1, run_underlying u, goInt], .val _⟩
      · cases hK
    · cases hK
  · cases hK
include he hk in
theorem cap_sound {c : Call} (hb : c.callee = .builtin .cap) {x : AV} (hargs : evs t c.args.toList = [x]) (hK : capA env c.argTypes x h K = some r) : Does P h K r (At t (.call c)) := by
  unfold capA at hK
  split at hK
  · rename_i i hi
    obtain ⟨ty, t1, t2⟩ := tyA_some hi
    have u := (he.ty ty i t2).under
    split at hK
    · rename_i e hd
      rw [hd] at u
      have goal : ∀ m, K (.val (.int .i64 (m : Nat))) h [] [] = some r → (∀ w cx x', VR w cx x x' → ∃ a n, x' = .slice a n m) → Does P h K r (At t (.call c)) := by
        intro m hK hh
        refine builtin_same hk hb hK ?_
        intro w cx args oty consts q
        rw [hargs] at q
        obtain ⟨x', rfl, q1⟩ := q.one'
        obtain ⟨a, n, rfl⟩ := hh w cx x' q1
        exact ⟨_, by simp [builtin, Builtin.cap_, t1, run_underlying u, goInt], .val _⟩
      split at hK
      · exact goal 0 hK (fun w cx x' hx => ⟨none, 0, hx.val_inv⟩)
      · rename_i id off len k wd
        refine goal _ hK (fun w cx x' hx => ?_)
        cases hx with | own _ _ _ _ _ a m k1 k2 k3 k4 k5 =>
        exact ⟨a, len, by rw [k4 _ rfl]⟩
      · rename_i con k
        refine goal _ hK (fun w cx x' hx => ?_)
        cases hx with | ro _ _ a m k1 k2 k3 k4 =>
        exact ⟨a, con.len, by rw [k2 _ rfl]⟩
      · cases hK
    · cases hK
  · cases hK
theorem foldI_sound {f : Int → Int → Int} {f2 : Value → Value → Sem Value} (hf : ∀ k x k' y, f2 (.int k x) (.int k' y) = pure (.int k (f x y))) {w : World} {cx : Cx} {k : IntKind} : ∀ (l : List AV) (x n : Int) (l' : List Value), foldI f x l = some n → VRs w cx l l' →
    (l'.foldlM f2 (.int k x)).run P w = .ok (.int k n) w
  | [], x, n, l', h, hl => by
    cases hl
    simp [foldI] at h
    subst h
    simp
  | v :: l, x, n, l', h, hl => by
    cases hl with | cons _ v' _ l' h1 h2 =>
    unfold foldI at h
    split at h
    · rename_i heq; cases heq
    · rename_i heq
      injection heq with e1 e2
      subst e1; subst e2
      have := h1.val_inv
      subst this
      have ih := foldI_sound hf (k := k) _ _ n l' h h2
      simp only [List.foldlM_cons, hf]
      exact ih
    · cases h
include hk in
theorem minmax_sound {c : Call} {b : Builtin} (hb : c.callee = .builtin b) {f : Int → Int → Int} {f2 : Value → Value → Sem Value} (hf : ∀ k x k' y, f2 (.int k x) (.int k' y) = pure (.int k (f x y)))
    (hrun : ∀ ty consts (x : Value) (l : List Value), builtin b c.argTypes ty consts (x :: l).toArray = (do pure (.value (← l.foldlM f2 x)) : Sem Next)) (hK : minmaxA f (evs t c.args.toList) h K = some r) : Does P h K r (At t (.call c)) := by
  unfold minmaxA at hK
  split at hK
  · rename_i k x l hl
    split at hK
    · rename_i n hn
      refine builtin_same hk hb hK ?_
      intro w cx args oty consts q
      rw [hl] at q
      cases q with | cons _ v' _ l' h1 h2 =>
      have := h1.val_inv
      subst this
      have := foldI_sound (P := P) hf l x n l' (k := k) hn h2
      exact ⟨_, by rw [hrun]; simp only [Sem.run_bind, this, Result.andThen_ok, Sem.run_pure], .val _⟩
    · cases hK
  · cases hK
include he hk in
theorem builtin_sound {c : Call} {b : Builtin} (hb : c.callee = .builtin b) (hK : builtinA env b c.argTypes (evs t c.args.toList) h K = some r) : Does P h K r (At t (.call c)) := by
  unfold builtinA at hK
  split at hK
  · split at hK
    · rename_i x hx; exact len_sound he hk hb hx hK
    · cases hK
  · split at hK
    · rename_i x hx; exact cap_sound he hk hb hx hK
    · cases hK
  · exact minmax_sound hk hb (f2 := Builtin.max2) (fun _ _ _ _ => rfl) (fun _ _ _ _ => rfl) hK
  · exact minmax_sound hk hb (f2 := Builtin.min2) (fun _ _ _ _ => rfl) (fun _ _ _ _ => rfl) hK
  · split at hK
    · rename_i s x hx; exact appendB_sound he hk hb hx hK
    · cases hK
  · split at hK
    · rename_i d x hx; exact copyB_sound he hk hb hx hK
    · cases hK
  · cases hK
include he hk in
theorem prim_sound {o : Op} (hK : prim env o t h K = some r) : Does P h K r (At t o) := by
  unfold prim at hK
  split at hK
  · exact move_sound hk hK
  · exact assign_sound hk hK
  · exact pick_sound hk hK
  · exact alloc_sound he hk hK
  · exact box_sound he hk hK
  · exact build_sound he hk hK
  · exact buildSlice_sound he hk hK
  · exact load_sound he hk hK
  · exact store_sound he hk hK
  · exact nilCheck_sound hk hK
  · exact bin_sound he hk hK
  · exact un_sound hk hK
  · exact conv_sound he hk hK
  · exact iface_sound he hk hK
  · exact makeFunc_sound hk hK
  · exact makeSlice_sound he hk hK
  · exact slice_sound he hk hK
  · exact fieldAddr_sound he hk hK
  · exact field_sound he hk hK
  · exact indexAddr_sound he hk hK
  · exact index_sound he hk hK
  · exact assert_sound he hk hK
  · exact extract_sound hk hK
  · cases hK
end
end Go.Ev
/- Calls: what is asked of them, and what a caller makes of them. -/
namespace Go.Ev
def Goes (P : Program) (nx : Next) (w : World) (R : Value → World → Prop) : Prop :=
  match nx with
  | .value v => R v w
  | .skip => R undef w
  | .enter f args => CallsIn Fence.wide 0 P f args w fun e w' => ∃ v, e = .returned v ∧ R v w'
  | .round l f tmps assign body => RoundIn Fence.wide 0 P l f tmps assign body w fun e w' => ∃ v, e = .returned v ∧ R v w'
  | _ => False
theorem Goes.mono {P : Program} {nx : Next} {w : World} {R R' : Value → World → Prop} (h : Goes P nx w R) (hr : ∀ v w', R v w' → R' v w') : Goes P nx w R' := by
  cases nx <;> simp only [Goes] at h ⊢
  · exact hr _ _ h
  · exact hr _ _ h
  · exact CallsIn.mono h (fun e w' ⟨v, h1, h2⟩ => ⟨v, h1, hr _ _ h2⟩)
  · exact RoundIn.mono h (fun e w' ⟨v, h1, h2⟩ => ⟨v, h1, hr _ _ h2⟩)
structure HEff (h h' : Heap) : Prop where
  next : h.next ≤ h'.next
  ok : h'.ok
  ver : ∀ id e', findE h'.es id = some e' → id < h.next → ∃ e, findE h.es id = some e ∧ e.ver ≤ e'.ver ∧ (e'.ver = e.ver → e' = e)
theorem HEff.refl {h : Heap} (hk : h.ok) : HEff h h := ⟨Nat.le_refl _, hk, fun id e' he _ => ⟨e', he, Nat.le_refl _, fun _ => rfl⟩⟩
theorem HEff.trans {h h1 h2 : Heap} (a : HEff h h1) (b : HEff h1 h2) : HEff h h2 := by
  refine ⟨Nat.le_trans a.next b.next, b.ok, ?_⟩
  intro id e' he hi
  obtain ⟨e1, k1, k2, k3⟩ := b.ver id e' he (Nat.lt_of_lt_of_le hi a.next)
  obtain ⟨e, j1, j2, j3⟩ := a.ver id e1 k1 hi
  refine ⟨e, j1, Nat.le_trans j2 k2, fun q => ?_⟩
  have : e'.ver = e1.ver := by omega
  rw [k3 this]
  exact j3 (by omega)
theorem Eff.heff {h h' : Heap} {R Wr : List Nat} (e : Eff h h' R Wr) : HEff h h' := ⟨e.next, e.ok, e.ver⟩
def Post (w : World) (c : Cx) (h h' : Heap) (v : AV) : Value → World → Prop := fun v' w' =>
  ∃ c', VR w' c' v v' ∧ Ext w c w' c' ∧ (∀ id, c'.V id → c.V id ∨ (h.next ≤ id ∧ id < h'.next)) ∧ HR w' c' h'.G
def CallOk (P : Program) (call : Calling) : Prop := ∀ (ρ : Type) (f : AV) (args : List AV) (h : Heap) (K : AV → Heap → Option ρ) (r : ρ), h.ok → call ρ f args h K = some r →
  ∃ v h', K v h' = some r ∧ HEff h h' ∧ ∀ (w : World) (c : Cx) (f' : Value) (args' : List Value), HR w c h.G → VR w c f f' → VRs w c args args' → (∀ id, h.next ≤ id → id < h'.next → ¬ c.V id) →
    ∃ d nx, (Deferred.ofValue f' args'.toArray).run P w = .ok d w ∧ (invoke d.target d.args).run P w = .ok nx w ∧ (funcClo f = true → ∃ g xs, nx = .enter g xs) ∧ Goes P nx w (Post w c h h' v)
def RealC (P : Program) (s : Sem Next) (w : World) (c : Cx) (h h' : Heap) (Wr : List Nat) (v : AV) (G : Nat → Option Blk) : Prop :=
  ∃ nx w1, s.run P w = .ok nx w1 ∧ Goes P nx w1 (fun v' w' => ∃ c', VR w' c' v v' ∧ Ext w c w' c' ∧
    (∀ id, c'.V id → c.V id ∨ (h.next ≤ id ∧ id < h'.next)) ∧ ∀ G', Patch G h h' Wr G' → HR w' c' G')
def DoesC {ρ : Type} (P : Program) (h : Heap) (K : KP ρ) (r : ρ) (s : World → Cx → Sem Next → Prop) : Prop :=
  ∃ v h' R Wr, K v h' R Wr = some r ∧ Eff h h' R Wr ∧ ∀ w c x G, s w c x → Pre w c h h' R Wr G → RealC P x w c h h' Wr v G
theorem Does.c {ρ : Type} {P : Program} {h : Heap} {K : KP ρ} {r : ρ} {s : World → Cx → Sem Next → Prop} (hd : Does P h K r s) : DoesC P h K r s := by
  obtain ⟨v, h', R, Wr, h1, h2, h3⟩ := hd
  refine ⟨v, h', R, Wr, h1, h2, fun w c x G hx hp => ?_⟩
  obtain ⟨nx, v', w', c', k1, k2, k3, k4, k5, k6⟩ := h3 w c x G hx hp
  refine ⟨nx, w', k1, ?_⟩
  rcases k2 with rfl | ⟨rfl, rfl⟩
  · exact ⟨c', k3, k4, k5, k6⟩
  · exact ⟨c', k3, k4, k5, k6⟩
theorem mem_turned (l es' : List Ent) (id : Nat) : id ∈ turned l es' → id ∈ ids l := by
  induction l with
  | nil => intro h; simp [turned, foldL] at h
  | cons e l ih =>
    intro h
    have h' : id ∈ (match findE es' e.id with
      | some e' => bif Nat.beq e.ver e'.ver then turned l es' else e.id :: turned l es'
      | none => e.id :: turned l es') := h
    show id ∈ e.id :: ids l
    split at h'
    · rename_i e' he
      cases hb : Nat.beq e.ver e'.ver with
      | true => rw [hb] at h'; exact List.mem_cons_of_mem _ (ih h')
      | false =>
        rw [hb] at h'
        rcases List.mem_cons.1 h' with q | q
        · rw [q]; exact List.mem_cons_self ..
        · exact List.mem_cons_of_mem _ (ih q)
    · rcases List.mem_cons.1 h' with q | q
      · rw [q]; exact List.mem_cons_self ..
      · exact List.mem_cons_of_mem _ (ih q)
theorem not_turned {l es' : List Ent} (hu : Uniq l) {id : Nat} {e : Ent} (he : findE l id = some e) (h : id ∉ turned l es') : ∃ e', findE es' id = some e' ∧ e.ver = e'.ver := by
  induction l with
  | nil => simp at he
  | cons a l ih =>
    have hu' := uniq_cons.1 hu
    have h' : id ∉ (match findE es' a.id with
      | some e' => bif Nat.beq a.ver e'.ver then turned l es' else a.id :: turned l es'
      | none => a.id :: turned l es') := h
    rw [findE_cons] at he
    by_cases hai : a.id = id
    · rw [if_pos hai] at he
      injection he with he
      subst he
      split at h'
      · rename_i e' hf
        rw [hai] at hf
        cases hb : Nat.beq a.ver e'.ver with
        | true => exact ⟨e', hf, beq_iff.1 hb⟩
        | false => rw [hb] at h'; exact absurd (by rw [hai]; exact List.mem_cons_self ..) h'
      · exact absurd (by rw [hai]; exact List.mem_cons_self ..) h'
    · rw [if_neg hai] at he
      refine ih hu'.2 he ?_
      intro q
      apply h'
      split
      · cases Nat.beq a.ver _
        · exact List.mem_cons_of_mem _ q
        · exact q
      · exact List.mem_cons_of_mem _ q
theorem findE_some_mem {l : List Ent} {id : Nat} {e : Ent} (h : findE l id = some e) : e ∈ l := by
  induction l with
  | nil => simp at h
  | cons a l ih =>
    rw [findE_cons] at h
    split at h
    · injection h with h; subst h; exact List.mem_cons_self ..
    · exact List.mem_cons_of_mem _ (ih h)
section
variable {P : Program} {call : Calling} (hc : CallOk P call)
include hc in
theorem callOp_sound {ρ : Type} {b : Bool} {f : AV} {args : List AV} {h : Heap} (hk : h.ok) {K : KP ρ} {r : ρ} (hK : callOp b call f args h K = some r) :
    ∃ v h' R Wr, K v h' R Wr = some r ∧ Eff h h' R Wr ∧ ∀ (w : World) (c : Cx) (f' : Value) (args' : List Value) (G : Nat → Option Blk), VR w c f f' → VRs w c args args' → Pre w c h h' R Wr G →
      ∃ d nx, (Deferred.ofValue f' args'.toArray).run P w = .ok d w ∧ (invoke d.target d.args).run P w = .ok nx w ∧ (funcClo f = true → ∃ g xs, nx = .enter g xs) ∧ Goes P nx w (fun v' w' => ∃ c', VR w' c' v v' ∧ Ext w c w' c' ∧
        (∀ id, c'.V id → c.V id ∨ (h.next ≤ id ∧ id < h'.next)) ∧ ∀ G', Patch G h h' Wr G' → HR w' c' G') := by
  unfold callOp at hK
  rw [sSp_eq] at hK
  obtain ⟨m, hm⟩ : ∃ m, m = reach fuelR h.es (f.refs ++ refss args) [] := ⟨_, rfl⟩
  rw [← hm] at hK
  obtain ⟨sub, hsub⟩ : ∃ sub, sub = pickE h.es m := ⟨_, rfl⟩
  rw [← hsub] at hK
  have hsl : sub.Sublist h.es := by rw [hsub]; exact pickE_sub _ _
  have hsu : Uniq sub := List.Nodup.sublist (hsl.map _) hk.uniq
  have hsf : ∀ id e, findE sub id = some e → findE h.es id = some e := by
    intro id e he
    rw [hsub, findE_pickE] at he
    split at he
    · exact he
    · cases he
  have hsk : (⟨h.next, sub⟩ : Heap).ok := ⟨hsu, fun id e he => hk.lt id e (hsf id e he)⟩
  obtain ⟨v, h2, hK, he2, hreal⟩ := hc ρ f args ⟨h.next, sub⟩ _ r hsk hK
  simp only [sAV_eq, sSp_eq, sHeap_eq] at hK
  obtain ⟨es2, hes2⟩ : ∃ es2, es2 = pickE h2.es (reach fuelR h2.es (v.refs ++ ids sub) []) := ⟨_, rfl⟩
  rw [← hes2] at hK
  have h2f : ∀ id e, findE es2 id = some e → findE h2.es id = some e := by
    intro id e he
    rw [hes2, findE_pickE] at he
    split at he
    · exact he
    · cases he
  have h2l : es2.Sublist h2.es := by rw [hes2]; exact pickE_sub _ _
  have h2u : Uniq es2 := List.Nodup.sublist (h2l.map _) he2.ok.uniq
  have hold : ∀ id e, findE es2 id = some e → id < h.next → id ∈ ids sub := by
    intro id e he hi
    obtain ⟨e0, k1, _⟩ := he2.ver id e (h2f id e he) hi
    exact (mem_ids _ _).2 ⟨e0, k1⟩
  have hR : ∀ id, findE (restHeap h2.next es2 h.es (ids sub)).es id = match findE es2 id with | some e => some e | none => if id ∈ ids sub then none else findE h.es id := by
    intro id
    simp only [restHeap, findE_append, findE_dropE]
    cases findE es2 id <;> rfl
  have hsame : ∀ id, id < h.next → id ∉ turned sub es2 → findE (restHeap h2.next es2 h.es (ids sub)).es id = findE h.es id := by
    intro id hi ht
    rw [hR]
    by_cases hs : id ∈ ids sub
    · obtain ⟨e, he⟩ := (mem_ids _ _).1 hs
      obtain ⟨e', k1, k2⟩ := not_turned hsu he ht
      obtain ⟨e0, j1, j2, j3⟩ := he2.ver id e' (h2f id e' k1) hi
      rw [show findE (⟨h.next, sub⟩ : Heap).es id = findE sub id from rfl, he] at j1
      injection j1 with j1
      subst j1
      rw [k1, hsf id e he, j3 k2.symm]
    · cases hf : findE es2 id with
      | some e => exact absurd (hold id e hf hi) hs
      | none => simp [hs]
  refine ⟨v, restHeap h2.next es2 h.es (ids sub), ids sub, turned sub es2, hK, ?_, ?_⟩
  · refine ⟨he2.next, ⟨?_, ?_⟩, ?_, hsame, ?_⟩
    · show Uniq (es2 ++ dropE h.es (ids sub))
      unfold Uniq
      rw [List.map_append, List.nodup_append]
      refine ⟨h2u, List.Nodup.sublist ((dropE_sub _ _).map _) hk.uniq, ?_⟩
      intro i hi j hj hij
      subst hij
      obtain ⟨e1, m1, q1⟩ := List.mem_map.1 hi
      obtain ⟨e2, m2, q2⟩ := List.mem_map.1 hj
      have f1 := findE_mem h2u m1
      have f2 := findE_mem (List.Nodup.sublist ((dropE_sub h.es (ids sub)).map _) hk.uniq) m2
      rw [q1] at f1
      rw [q2, findE_dropE] at f2
      split at f2
      · cases f2
      · rename_i hn
        exact hn (hold i e1 f1 (hk.lt i e2 f2))
    · intro id e he
      rw [hR] at he
      split at he
      · rename_i e' hf; exact he2.ok.lt id e' (h2f id e' hf)
      · split at he
        · cases he
        · exact Nat.lt_of_lt_of_le (hk.lt id e he) he2.next
    · intro id hid
      obtain ⟨e, he⟩ := (mem_ids _ _).1 (mem_turned _ _ _ hid)
      exact hk.lt id e (hsf id e he)
    · intro id e' he hi
      rw [hR] at he
      split at he
      · rename_i e'' hf
        injection he with he
        subst he
        obtain ⟨e, k1, k2, k3⟩ := he2.ver id e'' (h2f id e'' hf) hi
        exact ⟨e, hsf id e k1, k2, k3⟩
      · split at he
        · cases he
        · exact ⟨e', he, Nat.le_refl _, fun _ => rfl⟩
  · intro w c f' args' G hf hargs hp
    have hGs : ∀ id e, findE sub id = some e → G id = some e.blk := by
      intro id e he
      rw [hp.agree id (.inl ((mem_ids _ _).2 ⟨e, he⟩))]
      simp [Heap.G, hsf id e he]
    let c1 : Cx := ⟨c.M, fun b => ∃ id e, findE sub id = some e ∧ (c.ι id).live = true ∧ (c.ι id).blk = b, c.ι, c.V⟩
    have hO : ∀ b, c1.O b → c.O b := by
      rintro b ⟨id, e, he, hl, rfl⟩
      exact (hp.hr.blk id _ (hGs id e he)).owned hl
    have hx1 : Ext0 w c w c1 := ⟨fun _ q => q, fun _ _ _ => rfl, fun i hi => ⟨hi, rfl⟩⟩
    have hr1 : HR w c1 (⟨h.next, sub⟩ : Heap).G := by
      have hG1 : ∀ id b, (⟨h.next, sub⟩ : Heap).G id = some b → ∃ e, findE sub id = some e ∧ e.blk = b := by
        intro id b hb
        simp only [Heap.G, Option.map_eq_some_iff] at hb
        exact hb
      refine ⟨?_, ?_, ?_, ?_⟩
      · intro id b hb
        obtain ⟨e, he, rfl⟩ := hG1 id b hb
        exact hp.hr.valid id _ (hGs id e he)
      · intro id b hb
        obtain ⟨e, he, rfl⟩ := hG1 id b hb
        exact BlkRel.keep hx1 (hp.hr.blk id _ (hGs id e he)) (fun _ => rfl) (fun hl => ⟨id, e, he, hl, rfl⟩)
      · intro i j b b' hi hj li lj hbk
        obtain ⟨e, he, rfl⟩ := hG1 i b hi
        obtain ⟨e', he', rfl⟩ := hG1 j b' hj
        exact hp.hr.inj i j _ _ (hGs i e he) (hGs j e' he') li lj hbk
      · intro b hb
        exact ⟨fun ho => (hp.hr.dis b hb).1 (hO b ho), (hp.hr.dis b hb).2⟩
    obtain ⟨d, nx, g1, g2, g3, g4⟩ := hreal w c1 f' args' hr1 (VR.mono hx1 hf) (VRs.mono hx1 hargs) (fun id h3 h4 => hp.fresh id h3 h4)
    refine ⟨d, nx, g1, g2, g3, Goes.mono g4 ?_⟩
    rintro v' w' ⟨c', hv, hx, hV, hr⟩
    let c2 : Cx := ⟨c'.M, fun b => c'.O b ∨ (c.O b ∧ b < w.heap.size), c'.ι, c'.V⟩
    have hx2 : Ext0 w' c' w' c2 := ⟨fun _ q => q, fun _ _ _ => rfl, fun i hi => ⟨hi, rfl⟩⟩
    have hx3 : Ext0 w c w' c2 := ⟨hx.M, hx.mkeep, hx.ids⟩
    refine ⟨c2, ?_, ?_, hV, ?_⟩
    · exact VR.mono hx2 hv
    · refine ⟨⟨hx.M, hx.mkeep, hx.ids⟩, hx.os, hx.tape, hx.output, hx.size, fun b hb ho => hx.keep b hb (fun q => ho (hO b q)), ?_, hx.Mo, fun b hm hn => ⟨fun o => o.elim (hx.nd b hm hn).1 (fun q => hn (hx.Mo b q.2 hm)), (hx.nd b hm hn).2⟩⟩
      rintro b hb (q | q)
      · exact hO b (hx.own b hb q)
      · exact q.1
    · intro G' hG'
      -- which blocks there are
      have hcls : ∀ id b, G' id = some b → (h2.G id = some b) ∨ (id ∉ ids sub ∧ G id = some b) := by
        intro id b hb
        by_cases hW : id ∈ turned sub es2 ∨ (h.next ≤ id ∧ id < (restHeap h2.next es2 h.es (ids sub)).next)
        · rw [(hG' id).1 hW] at hb
          simp only [Heap.G, Option.map_eq_some_iff] at hb ⊢
          obtain ⟨e, he, rfl⟩ := hb
          rw [hR] at he
          split at he
          · rename_i e' hf
            injection he with he
            subst he
            exact .inl ⟨e', h2f id e' hf, rfl⟩
          · split at he
            · cases he
            · rename_i hn
              rcases hW with q | q
              · exact absurd (mem_turned _ _ _ q) hn
              · have := hk.lt id e he; omega
        · rw [(hG' id).2 hW] at hb
          by_cases hs : id ∈ ids sub
          · obtain ⟨e, he⟩ := (mem_ids _ _).1 hs
            rw [hGs id e he] at hb
            injection hb with hb
            subst hb
            obtain ⟨e', k1, k2⟩ := not_turned hsu he (fun q => hW (.inl q))
            obtain ⟨e0, j1, j2, j3⟩ := he2.ver id e' (h2f id e' k1) (hk.lt id e (hsf id e he))
            rw [show findE (⟨h.next, sub⟩ : Heap).es id = findE sub id from rfl, he] at j1
            injection j1 with j1
            subst j1
            left
            simp only [Heap.G, h2f id e' k1, Option.map_some]
            rw [j3 k2.symm]
          · exact .inr ⟨hs, hb⟩
      have hrest : ∀ id b, id ∉ ids sub → G id = some b → (c.ι id).live = true → ¬ c1.O (c.ι id).blk := by
        rintro id b hs hb hl ⟨i0, e0, k1, k2, k3⟩
        have := hp.hr.inj i0 id _ _ (hGs i0 e0 k1) hb k2 hl k3
        subst this
        exact hs ((mem_ids _ _).2 ⟨e0, k1⟩)
      have hid : ∀ id b, G id = some b → c'.V id ∧ c'.ι id = c.ι id := fun id b hb => hx.ids id (hp.hr.valid id b hb)
      refine ⟨?_, ?_, ?_, ?_⟩
      · intro id b hb
        rcases hcls id b hb with q | ⟨_, q⟩
        · exact hr.valid id b q
        · exact (hid id b q).1
      · intro id b hb
        rcases hcls id b hb with q | ⟨hs, q⟩
        · have hbr := hr.blk id b q
          exact BlkRel.keep hx2 hbr (fun _ => rfl) (fun hl => .inl (hbr.owned hl))
        · have hbr := hp.hr.blk id b q
          show BlkRel w' _ (c'.ι id) b
          rw [(hid id b q).2]
          refine BlkRel.keep hx3 hbr (fun hl => ?_) (fun hl => .inr ⟨hbr.owned hl, hbr.lt hl⟩)
          exact hx.keep _ (hbr.lt hl) (hrest id b hs q hl)
      · intro i j b b' hi hj li lj hbk
        have li' : (c'.ι i).live = true := li
        have lj' : (c'.ι j).live = true := lj
        have hbk' : (c'.ι i).blk = (c'.ι j).blk := hbk
        have mixed : ∀ i j b b', h2.G i = some b → j ∉ ids sub → G j = some b' → (c'.ι i).live = true → (c'.ι j).live = true → (c'.ι i).blk = (c'.ι j).blk → False := by
          intro i j b b' qi sj qj li lj hbk
          have h1 := (hr.blk i b qi).owned li
          rw [hbk] at h1
          rw [(hid j b' qj).2] at h1 lj
          have h3 := (hp.hr.blk j b' qj).lt lj
          exact hrest j b' sj qj lj (hx.own _ h3 h1)
        rcases hcls i b hi with qi | ⟨si, qi⟩
        · rcases hcls j b' hj with qj | ⟨sj, qj⟩
          · exact hr.inj i j b b' qi qj li' lj' hbk'
          · exact (mixed i j b b' qi sj qj li' lj' hbk').elim
        · rcases hcls j b' hj with qj | ⟨sj, qj⟩
          · exact (mixed j i b' b qj si qi lj' li' hbk'.symm).elim
          · rw [(hid i b qi).2] at li' hbk'
            rw [(hid j b' qj).2] at lj' hbk'
            exact hp.hr.inj i j b b' qi qj li' lj' hbk'
      · intro b hb
        obtain ⟨h3, h4⟩ := hr.dis b hb
        refine ⟨?_, h4⟩
        rintro (q | q)
        · exact h3 q
        · exact (hp.hr.dis b (hx.Mo b q.2 hb)).1 q.1
variable {env : Env} (he : EnvOk P env)
include hc he in
theorem opK_sound {ρ : Type} {o : Op} {t : List AV} {h : Heap} (hk : h.ok) {K : KP ρ} {r : ρ} (hK : opK env call o t h K = some r) : DoesC P h K r (At t o) := by
  unfold opK at hK
  split at hK
  · rename_i c
    unfold opCall at hK
    split at hK
    · rename_i f hf
      obtain ⟨v, h', R, Wr, k1, k2, k3⟩ := callOp_sound hc hk hK
      refine ⟨v, h', R, Wr, k1, k2, ?_⟩
      rintro w cx x G ⟨a, o, ho, ht, rfl⟩ hp
      obtain ⟨d, nx, g1, g2, g3, g4⟩ := k3 w cx (a.eval f) (c.args.toList.map a.eval) G (ev_sound ht f) (evs_sound ht _) hp
      refine ⟨nx, w, ?_, g4⟩
      have e : (c.args.toList.map a.eval).toArray = c.args.map a.eval := by rw [← Array.toList_map, Array.toArray_toList]
      rw [e] at g1
      have e2 : execOp a.eval o = (resolve a.eval c o.type >>= fun d => invoke d.target d.args) := by simp only [execOp, ho]
      have e3 : resolve a.eval c o.type = Deferred.ofValue (a.eval f) (c.args.map a.eval) := by unfold resolve; rw [hf]
      rw [e2, e3, Sem.run_bind, g1, Result.andThen_ok]
      exact g2
    · rename_i b hb
      exact (builtin_sound he hk hb hK).c
    · cases hK
  · exact (prim_sound he hk hK).c
end
end Go.Ev
/- Regions. -/
namespace Go.Ev
theorem keepT_get : ∀ (l : List AV) (n : Nat) (ks : List Nat) (k : Nat), getT (keepT n l ks) k = if n + k ∈ ks then getT l k else .unk
  | [], n, ks, k => by simp [keepT, getT, nthD_eq]
  | v :: l, n, ks, 0 => by
    show (bif memN n ks then v else .unk) = _
    by_cases h : n ∈ ks
    · rw [(memN_iff _ _).2 h]; simp [h]; rfl
    · have : memN n ks = false := by rw [Bool.eq_false_iff]; exact fun q => h ((memN_iff _ _).1 q)
      rw [this]; simp [h]
  | v :: l, n, ks, k + 1 => by
    have := keepT_get l (n + 1) ks k
    rw [show n + 1 + k = n + (k + 1) by omega] at this
    exact this
theorem keepT_len : ∀ (l : List AV) (n : Nat) (ks : List Nat), (keepT n l ks).length = l.length
  | [], _, _ => rfl
  | v :: l, n, ks => by simp [keepT, keepT_len l]
theorem getT_eq {l : List AV} {k : Nat} (h : k < l.length) : l[k]? = some (getT l k) := by
  rw [getT, nthD_eq]; simp [h]
theorem VRs.of_slots {w : World} {c : Cx} {t : List AV} {l : List Value} (hl : l.length = t.length) (h : ∀ k v', l[k]? = some v' → VR w c (getT t k) v') : VRs w c t l := by
  refine VRs.of_get _ _ hl ?_
  intro k v v' h1 h2
  have hk : k < t.length := by
    rcases Nat.lt_or_ge k t.length with q | q
    · exact q
    · rw [List.getElem?_eq_none q] at h1; cases h1
  have := getT_eq hk
  rw [h1] at this
  injection this with this
  rw [this]
  exact h k v' h2
theorem VRs.slot {w : World} {c : Cx} {t : List AV} {l : List Value} (h : VRs w c t l) {k : Nat} {v' : Value} (hk : l[k]? = some v') : VR w c (getT t k) v' := by
  have hl := h.length
  have hlt : k < t.length := by
    rcases Nat.lt_or_ge k l.length with q | q
    · omega
    · rw [List.getElem?_eq_none q] at hk; cases hk
  obtain ⟨u, h1, h2⟩ := h.get k _ (getT_eq hlt)
  rw [hk] at h1
  injection h1 with h1
  subst h1; exact h2
theorem VRs.masked {w : World} {c : Cx} {t t' : List AV} {l : List Value} (h : VRs w c t' l) (hl : t.length = t'.length) (ks : List Nat) (ha : ∀ k ∈ ks, getT t' k = getT t k) : VRs w c (keepT 0 t ks) l := by
  refine VRs.of_slots (by rw [keepT_len, hl]; exact h.length) ?_
  intro k v' hk
  rw [keepT_get, Nat.zero_add]
  split
  · rename_i hm
    rw [← ha k hm]
    exact h.slot hk
  · exact .unk _
theorem setT_len (t : List AV) (d : Option Tmp) (v : AV) : (setT t d v).length = t.length := by
  cases d <;> simp [setT, setL_eq]
theorem setT_get (t : List AV) (d : Option Tmp) (v : AV) (k : Nat) : getT (setT t d v) k = if d = some k ∧ k < t.length then v else getT t k := by
  cases d with
  | none => simp [setT]
  | some i =>
    simp only [setT, setL_eq, getT, nthD_eq, List.getD_eq_getElem?_getD, List.getElem?_set, Option.some.injEq]
    by_cases h : i = k
    · subst h
      by_cases hk : i < t.length
      · simp [hk]
      · simp [hk, List.getElem?_eq_none (Nat.le_of_not_lt hk)]
    · simp [h]
theorem put_rel {w : World} {c : Cx} {t : List AV} {a : Act} {d : Option Tmp} {v : AV} {v' : Value} (h : VRs w c t a.tmps.toList) (hv : VR w c v v') : VRs w c (setT t d v) (a.put d v').tmps.toList := by
  cases d with
  | none => exact h
  | some i =>
    simp only [setT, setL_eq, Act.put]
    have := h.set i hv
    simpa using this
theorem evs_congr {t t' : List AV} : ∀ {l : List Operand}, (∀ x ∈ l, ev t x = ev t' x) → evs t l = evs t' l
  | [], _ => rfl
  | x :: l, h => by
    show ev t x :: evs t l = ev t' x :: evs t' l
    rw [h x (by simp), evs_congr (fun y hy => h y (by simp [hy]))]
theorem parts_congr {t t' : List AV} {l : List (Nat × Operand)} (h : ∀ p ∈ l, ev t p.2 = ev t' p.2) : partsA t l = partsA t' l := by
  unfold partsA
  exact List.map_congr_left fun p hp => by rw [h p hp]
theorem opK_congr {ρ : Type} {env : Env} {call : Calling} {t t' : List AV} {h : Heap} {K : KP ρ} {o : Op} (hh : ∀ x ∈ o.operands.toList, ev t x = ev t' x) : opK env call o t h K = opK env call o t' h K := by
  cases o <;> simp only [Op.operands] at hh <;> simp only [opK, prim]
  case build ty ps => rw [parts_congr fun p hp => hh p.2 (by simpa using ⟨p.1, by simpa using hp⟩)]
  case buildSlice ty n ps => rw [parts_congr fun p hp => hh p.2 (by simpa using ⟨p.1, by simpa using hp⟩)]
  case makeFunc f x y => rw [evs_congr (l := x.toList) fun z hz => hh z (by simp at hz ⊢; exact .inl hz), evs_congr (l := y.toList) fun z hz => hh z (by simp at hz ⊢; exact .inr hz)]
  case slice ty x lo hi mx => cases lo <;> cases hi <;> cases mx <;> simp_all
  case call c =>
    unfold opCall
    cases hc : c.callee <;> simp only [Call.operands, hc] at hh ⊢
    case value f => rw [hh f (by simp), evs_congr (l := c.args.toList) fun z hz => hh z (by simp at hz ⊢; exact .inr hz)]
    case builtin b => rw [evs_congr (l := c.args.toList) fun z hz => hh z (by simpa using hz)]
  all_goals (first | rfl | (simp_all; done))
end Go.Ev
/- Regions: the text's order. -/
namespace Go.Ev
structure StepOk (P : Program) (ops : Array Oper) (o : Oper) (t : List AV) (h : Heap) (v : AV) (t' : List AV) (h' : Heap) (ft : Foot) : Prop where
  tmps : t' = setT t o.dst v
  wt : ft.wt = o.dst
  lo : ft.lo = h.next
  hi : ft.hi = h'.next
  eff : Eff h h' ft.r ft.w
  does : ((∀ (w : World) (c : Cx) (a : Act), VRs w c (keepT 0 t ft.rt) a.tmps.toList → Region.wanted o (yielded ops a.tmps) = true) ∧ (∀ c, o.op ≠ .defer c) ∧
      ∀ (w : World) (c : Cx) (a : Act) (G : Nat → Option Blk), VRs w c (keepT 0 t ft.rt) a.tmps.toList → Pre w c h h' ft.r ft.w G → RealC P (execOp a.eval o) w c h h' ft.w v G)
    ∨ ((∀ (w : World) (c : Cx) (a : Act), VRs w c (keepT 0 t ft.rt) a.tmps.toList → Region.wanted o (yielded ops a.tmps) = false) ∧ h' = h ∧ v = undefA ∧ ft.w = [])
theorem mem_tmpsOf {l : List Operand} {i : Tmp} (h : Operand.tmp i ∈ l) : i ∈ tmpsOf l := by
  induction l with
  | nil => cases h
  | cons x l ih =>
    rcases List.mem_cons.1 h with q | q
    · subst q; simp [tmpsOf]
    · cases x <;> simp only [tmpsOf] <;> first | exact List.mem_cons_of_mem _ (ih q) | exact ih q
theorem yielded_eq (ops : Array Oper) (tmps : Array Value) (j : Nat) : yielded ops tmps j = match (nthD none (ops.toList.map (·.dst)) j).bind (tmps[·]?) with | some (.bool b) => some b | _ => none := by
  unfold yielded
  rw [nthD_eq]
  have : (ops[j]?).bind (·.dst) = (ops.toList.map (·.dst)).getD j none := by
    simp only [List.getD_eq_getElem?_getD, List.getElem?_map, Array.getElem?_toList]
    cases ops[j]? <;> rfl
  rw [this]
  rfl
theorem wantK_some {ρ : Type} {ops : Array Oper} {o : Oper} {t : List AV} {yes no : Option ρ} {r : ρ} (h : wantK (ops.toList.map (·.dst)) o.guard t yes no = some r) :
    (yes = some r ∧ ∀ (ks : List Nat), (∀ k ∈ guardT (ops.toList.map (·.dst)) o.guard, k ∈ ks) → ∀ (w : World) (c : Cx) (a : Act), VRs w c (keepT 0 t ks) a.tmps.toList → Region.wanted o (yielded ops a.tmps) = true) ∨
    (no = some r ∧ ∀ (ks : List Nat), (∀ k ∈ guardT (ops.toList.map (·.dst)) o.guard, k ∈ ks) → ∀ (w : World) (c : Cx) (a : Act), VRs w c (keepT 0 t ks) a.tmps.toList → Region.wanted o (yielded ops a.tmps) = false) := by
  unfold wantK at h
  unfold Region.wanted
  cases hg : o.guard with
  | none => rw [hg] at h; exact .inl ⟨h, fun _ _ _ _ _ _ => rfl⟩
  | some jw =>
    obtain ⟨j, want⟩ := jw
    rw [hg] at h
    simp only at h
    cases hd : nthD none (ops.toList.map (·.dst)) j with
    | none => rw [hd] at h; cases h
    | some d =>
      rw [hd] at h
      simp only at h
      have key : ∀ (ks : List Nat), (∀ k ∈ guardT (ops.toList.map (·.dst)) (some (j, want)), k ∈ ks) → ∀ (w : World) (c : Cx) (a : Act), VRs w c (keepT 0 t ks) a.tmps.toList → ∀ u, getT t d = .val u → a.tmps[d]? = some u := by
        intro ks hks w c a hv u hu
        have hm : d ∈ ks := hks d (by simp [guardT, hd])
        have hget : getT (keepT 0 t ks) d = .val u := by rw [keepT_get]; simp [hm, hu]
        have hlt : d < (keepT 0 t ks).length := by
          rcases Nat.lt_or_ge d (keepT 0 t ks).length with q | q
          · exact q
          · have : getT (keepT 0 t ks) d = .unk := by rw [getT, nthD_eq]; simp [List.getElem?_eq_none q]
            rw [this] at hget; cases hget
        obtain ⟨u', h1, h2⟩ := hv.get d _ (getT_eq hlt)
        rw [hget] at h2
        have := h2.val_inv
        subst this
        simpa using h1
      unfold wantV at h
      split at h
      · rename_i b hb
        have hy : ∀ (ks : List Nat), (∀ k ∈ guardT (ops.toList.map (·.dst)) (some (j, want)), k ∈ ks) → ∀ (w : World) (c : Cx) (a : Act), VRs w c (keepT 0 t ks) a.tmps.toList → yielded ops a.tmps j = some b := by
          intro ks hks w c a hv
          rw [yielded_eq, hd]
          simp [key ks hks w c a hv _ hb]
        cases hbw : b == want with
        | true =>
          rw [hbw] at h
          refine .inl ⟨h, fun ks hks w c a hv => ?_⟩
          have hbe : b = want := by simpa using hbw
          simp [hy ks hks w c a hv, hbe]
        | false =>
          rw [hbw] at h
          refine .inr ⟨h, fun ks hks w c a hv => ?_⟩
          have hbe : ¬ b = want := by simpa using hbw
          simp [hy ks hks w c a hv, hbe]
      · rename_i l hb
        refine .inr ⟨h, fun ks hks w c a hv => ?_⟩
        have : yielded ops a.tmps j = none := by
          rw [yielded_eq, hd]
          simp [key ks hks w c a hv _ hb]
        simp [this]
      · cases h
section
variable {P : Program} {call : Calling} (hc : CallOk P call) {env : Env} (he : EnvOk P env)
include hc he
theorem step_sound {ρ : Type} {draw : Bool} {ops : Array Oper} {o : Oper} {go : List Foot → List AV → Heap → Option ρ} {fs : List Foot} {t : List AV} {h : Heap} (hk : h.ok) {r : ρ}
    (hK : runStep env call draw (ops.toList.map (·.dst)) o go fs t h = some r) :
    ∃ v t' h' ft, StepOk P ops o t h v t' h' ft ∧ go (if draw then ft :: fs else fs) t' h' = some r := by
  unfold runStep at hK
  rcases wantK_some hK with ⟨hK, hw⟩ | ⟨hK, hw⟩
  · obtain ⟨ks, hks⟩ : ∃ ks, ks = guardT (ops.toList.map (·.dst)) o.guard ++ tmpsOf o.op.operands.toList := ⟨_, rfl⟩
    rw [opK_congr (t := t) (t' := keepT 0 t ks) (fun x hx => by
      cases x with
      | tmp i =>
        have : i ∈ ks := by rw [hks]; exact List.mem_append_right _ (mem_tmpsOf hx)
        show getT t i = getT (keepT 0 t ks) i
        rw [keepT_get]; simp [this]
      | const v => rfl
      | global g => rfl
      | func f => rfl)] at hK
    have hnd : ∀ c, o.op ≠ .defer c := by
      intro c hc'
      rw [hc'] at hK
      simp [opK, prim] at hK
    obtain ⟨v, h', R, Wr, k1, k2, k3⟩ := opK_sound hc he hk hK
    simp only [sAV_eq, sSp_eq] at k1
    refine ⟨v, setT t o.dst v, h', ⟨ks, o.dst, R, Wr, h.next, h'.next⟩, ⟨rfl, rfl, rfl, rfl, k2, .inl ⟨hw ks (fun k hk => by rw [hks]; exact List.mem_append_left _ hk), hnd, ?_⟩⟩, ?_⟩
    · intro w c a G hv hp
      exact k3 w c _ G ⟨a, o, rfl, hv, rfl⟩ hp
    · rw [← k1]
      unfold footOf
      cases draw
      · rfl
      · simp only [if_true, cond_true, hks]
  · simp only [sSp_eq] at hK
    refine ⟨undefA, setT t o.dst undefA, h, ⟨guardT (ops.toList.map (·.dst)) o.guard, o.dst, [], [], h.next, h.next⟩, ⟨rfl, rfl, rfl, rfl, Eff.refl hk _, .inr ⟨hw _ (fun k hk => hk), rfl, rfl, rfl⟩⟩, ?_⟩
    rw [← hK]
    unfold footNo
    cases draw <;> rfl
theorem trace_sound {ρ : Type} {draw : Bool} {ops : Array Oper} {K : List Foot → List AV → Heap → Option ρ} {r : ρ} : ∀ (l : List Oper) (fs : List Foot) (t : List AV) (h : Heap), h.ok →
    runOps env call draw (ops.toList.map (·.dst)) K l fs t h = some r →
    ∃ (T : Nat → List AV) (H : Nat → Heap) (V : Nat → AV) (Ft : Nat → Foot), T 0 = t ∧ H 0 = h ∧ (∀ i o, l[i]? = some o → StepOk P ops o (T i) (H i) (V i) (T (i + 1)) (H (i + 1)) (Ft i)) ∧
      K (if draw then ((List.range l.length).map Ft).reverse ++ fs else fs) (T l.length) (H l.length) = some r
  | [], fs, t, h, hk, hK => ⟨fun _ => t, fun _ => h, fun _ => .unk, fun _ => ⟨[], none, [], [], 0, 0⟩, rfl, rfl, fun i o hi => by simp at hi, by cases draw <;> simpa [runOps] using hK⟩
  | o :: l, fs, t, h, hk, hK => by
    have hK' : runStep env call draw (ops.toList.map (·.dst)) o (runOps env call draw (ops.toList.map (·.dst)) K l) fs t h = some r := hK
    obtain ⟨v, t', h', ft, h1, h2⟩ := step_sound hc he hk hK'
    obtain ⟨T, H, V, Ft, e1, e2, e3, e4⟩ := trace_sound l _ t' h' h1.eff.ok h2
    refine ⟨fun i => Nat.casesOn i t T, fun i => Nat.casesOn i h H, fun i => Nat.casesOn i v V, fun i => Nat.casesOn i ft Ft, rfl, rfl, ?_, ?_⟩
    · intro i o' hi
      cases i with
      | zero =>
        simp at hi
        subst hi
        show StepOk P ops o t h v (T 0) (H 0) ft
        rw [e1, e2]
        exact h1
      | succ i =>
        simp at hi
        exact e3 i o' hi
    · show K _ (T l.length) (H l.length) = some r
      rw [← e4]
      congr 1
      cases draw
      · rfl
      · simp only [if_true, List.length_cons, List.range_succ_eq_map, List.map_cons, List.map_map, List.reverse_cons, List.append_assoc, List.singleton_append]
        rfl
end
def FOk (F : Fence) : Prop := F = Fence.wide ∨ ∃ l, F = Fence.wide.inRound l
theorem FOk.fn {F : Fence} (h : FOk F) (f : FuncId) : F.fn f := by rcases h with rfl | ⟨l, rfl⟩ <;> trivial
theorem FOk.depth {F : Fence} (h : FOk F) : ¬ F.depth.isSome = true := by rcases h with rfl | ⟨l, rfl⟩ <;> simp [Fence.wide]
theorem FOk.calls {F : Fence} (h : FOk F) {P : Program} {f : FuncId} {args : Array Value} {w : World} {R : Ending → World → Prop} (hc : CallsIn Fence.wide 0 P f args w R) : CallsIn F 0 P f args w R := by
  rcases h with rfl | ⟨l, rfl⟩
  · exact hc
  · exact hc
theorem FOk.round {F : Fence} (h : FOk F) {P : Program} {l : Nat} {f : FuncId} {tmps : Array Value} {assign body : Code} {w : World} {R : Ending → World → Prop} (hc : RoundIn Fence.wide 0 P l f tmps assign body w R) : RoundIn F 0 P l f tmps assign body w R := by
  rcases h with rfl | ⟨l, rfl⟩
  · exact hc
  · exact hc
theorem wpIn_of_goes {F : Fence} (hF : FOk F) {P : Program} {o : Oper} (hnd : ∀ c, o.op ≠ .defer c) {a : Act} {w : World} {next : Act → World → Prop} {Q : Exit → Act → World → Prop} {nx : Next} {w1 : World} {R : Value → World → Prop}
    (hrun : (execOp a.eval o).run P w = .ok nx w1) (hg : Goes P nx w1 R) (hn : ∀ v w2, R v w2 → next (a.put o.dst v) w2) : o.wpIn F 0 P a w next Q := by
  refine ⟨fun f _ => hF.fn f, ?_⟩
  rw [Oper.semAt_eq _ _ _ hnd, hrun]
  cases nx <;> simp only [Goes] at hg
  · exact hn _ _ hg
  · exact hn _ _ hg
  · refine ⟨fun q => absurd q hF.depth, CallsIn.mono (hF.calls hg) ?_⟩
    rintro e w' ⟨v, rfl, hv⟩
    exact hn _ _ hv
  · refine ⟨fun q => absurd q hF.depth, RoundIn.mono (hF.round hg) ?_⟩
    rintro e w' ⟨v, rfl, hv⟩
    exact hn _ _ hv
def PostR (w : World) (c : Cx) (h h' : Heap) (t' : List AV) (ds : List Deferred) : Act → World → Prop := fun a' w' =>
  a'.defers = ds ∧ ∃ c', VRs w' c' t' a'.tmps.toList ∧ Ext w c w' c' ∧ (∀ id, c'.V id → c.V id ∨ (h.next ≤ id ∧ id < h'.next)) ∧ HR w' c' h'.G
theorem PostR.trans {w w1 : World} {c c1 : Cx} {h h1 h2 : Heap} {t2 : List AV} {ds : List Deferred} (hx : Ext w c w1 c1) (hV : ∀ id, c1.V id → c.V id ∨ (h.next ≤ id ∧ id < h1.next)) (h01 : h.next ≤ h1.next) (h12 : h1.next ≤ h2.next) {a' : Act} {w' : World}
    (hp : PostR w1 c1 h1 h2 t2 ds a' w') : PostR w c h h2 t2 ds a' w' := by
  obtain ⟨hd, c', k1, k2, k3, k4⟩ := hp
  refine ⟨hd, c', k1, hx.trans k2, fun id hid => ?_, k4⟩
  rcases k3 id hid with q | q
  · rcases hV id q with z | z
    · exact .inl z
    · exact .inr ⟨z.1, by omega⟩
  · exact .inr ⟨by omega, q.2⟩
theorem Patch.full {h h' : Heap} {R Wr : List Nat} (hk : h.ok) (he : Eff h h' R Wr) : Patch h.G h h' Wr h'.G := by
  intro id
  refine ⟨fun _ => rfl, fun hn => ?_⟩
  rcases Nat.lt_or_ge id h.next with q | q
  · have : id ∉ Wr := fun z => hn (.inl z)
    simp [Heap.G, he.same id q this]
  · have h1 : findE h.es id = none := by
      cases hf : findE h.es id with
      | none => rfl
      | some e => have := hk.lt id e hf; omega
    have h2 : findE h'.es id = none := by
      cases hf : findE h'.es id with
      | none => rfl
      | some e => have := he.ok.lt id e hf; exact absurd (.inr ⟨q, this⟩) hn
    simp [Heap.G, h1, h2]
theorem seq_sound {F : Fence} (hF : FOk F) {P : Program} {ops : Array Oper} {T : Nat → List AV} {H : Nat → Heap} {V : Nat → AV} {Ft : Nat → Foot} (hk : (H 0).ok) (hs : ∀ i o, ops.toList[i]? = some o → StepOk P ops o (T i) (H i) (V i) (T (i + 1)) (H (i + 1)) (Ft i)) :
    ∀ (m i : Nat), i + m = ops.size → (H i).ok → (H i).next ≤ (H ops.size).next ∧ (H ops.size).ok ∧ ∀ (w : World) (c : Cx) (a : Act), VRs w c (T i) a.tmps.toList → HR w c (H i).G → (∀ id, (H i).next ≤ id → id < (H ops.size).next → ¬ c.V id) →
      wpOpsIn F 0 P ops (fun e a' w' => e = .normal ∧ PostR w c (H i) (H ops.size) (T ops.size) a.defers a' w') (List.range' i m) a w
  | 0, i, hi, hki => by
    have : i = ops.size := by omega
    subst this
    exact ⟨Nat.le_refl _, hki, fun w c a hv hr _ => ⟨rfl, rfl, c, hv, Ext.refl w c, fun id h => .inl h, hr⟩⟩
  | m + 1, i, hi, hki => by
    have hlt : i < ops.size := by omega
    have ho : ops.toList[i]? = some ops[i] := by simp [hlt]
    have ho' : ops[i]? = some ops[i] := by simp [hlt]
    have st := hs i _ ho
    obtain ⟨n1, n2, n3⟩ := seq_sound hF hk hs m (i + 1) (by omega) st.eff.ok
    refine ⟨Nat.le_trans st.eff.next n1, n2, ?_⟩
    intro w c a hv hr hfr
    have hm : VRs w c (keepT 0 (T i) (Ft i).rt) a.tmps.toList := hv.masked rfl _ (fun _ _ => rfl)
    rw [List.range'_succ]
    simp only [wpOpsIn, ho']
    have mono : ∀ (w1 : World) (c1 : Cx) (a1 : Act), a1.defers = a.defers → VRs w1 c1 (T (i + 1)) a1.tmps.toList → Ext w c w1 c1 → (∀ id, c1.V id → c.V id ∨ ((H i).next ≤ id ∧ id < (H (i + 1)).next)) → HR w1 c1 (H (i + 1)).G →
        wpOpsIn F 0 P ops (fun e a' w' => e = .normal ∧ PostR w c (H i) (H ops.size) (T ops.size) a.defers a' w') (List.range' (i + 1) m) a1 w1 := by
      intro w1 c1 a1 hd hv1 hx1 hV1 hr1
      have := n3 w1 c1 a1 hv1 hr1 (fun id h1 h2 hid => by
        rcases hV1 id hid with q | q
        · exact hfr id (Nat.le_trans st.eff.next h1) h2 q
        · omega)
      have hmono : ∀ (l : List Nat) (Q Q' : Exit → Act → World → Prop) (a : Act) (w : World), (∀ e a w, Q e a w → Q' e a w) → wpOpsIn F 0 P ops Q l a w → wpOpsIn F 0 P ops Q' l a w := by
        intro l Q Q'
        induction l with
        | nil => intro a w hq h; exact hq _ _ _ h
        | cons j l ih =>
          intro a w hq h
          simp only [wpOpsIn] at h ⊢
          split
          · rename_i hj; simp only [hj] at h; exact ih a w hq h
          · rename_i o hj
            simp only [hj] at h
            split
            · rename_i hw
              simp only [hw, if_true, Oper.wpIn] at h ⊢
              refine ⟨h.1, ?_⟩
              have h2 := h.2
              generalize (o.semAt F.round a.eval).run P w = res at h2 ⊢
              cases res with
              | ok nx w' =>
                cases nx <;> simp only [Oper.uponIn] at h2 ⊢ <;> first
                  | exact ih _ _ hq h2
                  | (refine ⟨h2.1, CallsIn.mono h2.2 ?_⟩; intro e w'' he; cases e <;> first | exact ih _ _ hq he | exact hq _ _ _ he | exact he.imp fun _ ⟨w, h⟩ => ⟨w, hq _ _ _ h⟩)
                  | exact ⟨h2.1, RowsIn.mono h2.2 fun _ _ he => ih _ _ hq he⟩
                  | (refine ⟨h2.1, RoundIn.mono h2.2 ?_⟩; intro e w'' he; cases e <;> first | exact ih _ _ hq he | exact hq _ _ _ he | exact he.imp fun _ ⟨w, h⟩ => ⟨w, hq _ _ _ h⟩)
              | halt x w' => cases x <;> simp only [Oper.uponIn] at h2 ⊢; exact hq _ _ _ h2
            · rename_i hw
              simp only [hw] at h
              exact ⟨h.1, ih _ _ hq h.2⟩
      refine hmono _ _ _ _ _ ?_ this
      rintro e a' w' ⟨rfl, hp⟩
      rw [hd] at hp
      exact ⟨rfl, hp.trans hx1 hV1 st.eff.next n1⟩
    rcases st.does with ⟨hw, hnd, hreal⟩ | ⟨hw, hh, hvv, _⟩
    · rw [if_pos (hw w c a hm)]
      obtain ⟨nx, w1, hrun, hg⟩ := hreal w c a (H i).G hm ⟨hr, fun _ _ => rfl, fun id h1 h2 => hfr id h1 (Nat.lt_of_lt_of_le h2 n1)⟩
      refine wpIn_of_goes hF hnd hrun hg ?_
      rintro v' w2 ⟨c', k1, k2, k3, k4⟩
      refine mono w2 c' _ (by cases ops[i].dst <;> rfl) ?_ k2 k3 (k4 _ (Patch.full hki st.eff))
      rw [st.tmps]
      exact put_rel (VRs.mono k2.toExt0 hv) k1
    · rw [if_neg (by rw [hw w c a hm]; simp)]
      refine ⟨fun f _ => hF.fn f, ?_⟩
      refine mono w c _ (by cases ops[i].dst <;> rfl) ?_ (Ext.refl w c) (fun id h => .inl h) (by rw [hh]; exact hr)
      rw [st.tmps, hvv]
      exact put_rel hv (.val _)
end Go.Ev
/- Regions whose order is drawn. -/
namespace Go.Ev
def befStep (acc : Array Nat) (o : Oper) : Array Nat := acc.push (o.after.foldl (fun s e => if Region.binds .any e then s ||| 2 ^ e.on ||| acc.getD e.on 0 else s) 0)
def bef (l : List Oper) : Array Nat := l.foldl befStep #[]
theorem before_eq (ops : Array Oper) : Region.before ops = bef ops.toList := by
  unfold Region.before bef
  rw [← Array.foldl_toList]
  rfl
theorem bef_snoc (l : List Oper) (o : Oper) : bef (l ++ [o]) = befStep (bef l) o := by simp [bef]
theorem bef_size (l : List Oper) : (bef l).size = l.length := by
  have : ∀ (l : List Oper) (acc : Array Nat), (l.foldl befStep acc).size = acc.size + l.length := by
    intro l
    induction l with
    | nil => intro acc; simp
    | cons o l ih => intro acc; rw [List.foldl_cons, ih]; simp [befStep]; omega
  simp [bef, this]
theorem bef_prefix (l m : List Oper) (j : Nat) (h : j < l.length) : (bef (l ++ m))[j]? = (bef l)[j]? := by
  have : ∀ (m : List Oper) (acc : Array Nat), j < acc.size → (m.foldl befStep acc)[j]? = acc[j]? := by
    intro m
    induction m with
    | nil => intro acc _; rfl
    | cons o m ih =>
      intro acc hj
      rw [List.foldl_cons, ih _ (by simp [befStep]; omega)]
      simp [befStep, Array.getElem?_push, Nat.ne_of_lt hj]
  unfold bef
  rw [List.foldl_append]
  exact this m _ (by have := bef_size l; unfold bef at this; omega)
theorem bef_get (l : List Oper) (j : Nat) (o : Oper) (h : l[j]? = some o) : (bef l).getD j 0 = o.after.foldl (fun s e => if Region.binds .any e then s ||| 2 ^ e.on ||| (bef (l.take j)).getD e.on 0 else s) 0 := by
  have hj : j < l.length := by
    rcases Nat.lt_or_ge j l.length with q | q
    · exact q
    · rw [List.getElem?_eq_none q] at h; cases h
  have e : l = (l.take j ++ [o]) ++ l.drop (j + 1) := by
    have : l[j] = o := by rw [List.getElem?_eq_getElem hj] at h; injection h
    rw [List.append_assoc, List.singleton_append, ← this, List.getElem_cons_drop, List.take_append_drop]
  have hl : (l.take j).length = j := by simp; omega
  have h1 : (bef l)[j]? = (bef (l.take j ++ [o]))[j]? := by
    rw [congrArg (fun l => (bef l)[j]?) e]
    exact bef_prefix _ _ _ (by simp; omega)
  have hs : (bef (l.take j)).size = j := by rw [bef_size, hl]
  rw [bef_snoc, befStep, Array.getElem?_push, hs, if_pos rfl] at h1
  simp [Array.getD_eq_getD_getElem?, h1]
theorem bef_take (l : List Oper) (j k : Nat) (h : k < j) : (bef (l.take j)).getD k 0 = (bef l).getD k 0 := by
  rcases Nat.lt_or_ge k l.length with q | q
  · have := bef_prefix (l.take j) (l.drop j) k (by simp; omega)
    rw [List.take_append_drop] at this
    simp [Array.getD_eq_getD_getElem?, this]
  · have e1 : (bef (l.take j))[k]? = none := Array.getElem?_eq_none (by rw [bef_size]; simp; omega)
    have e2 : (bef l)[k]? = none := Array.getElem?_eq_none (by rw [bef_size]; omega)
    simp [Array.getD_eq_getD_getElem?, e1, e2]
theorem fold_bit (g : Nat → Nat) (i : Nat) : ∀ (l : List Edge) (s : Nat), (l.foldl (fun s e => if Region.binds .any e then s ||| 2 ^ e.on ||| g e.on else s) s).testBit i = true →
    s.testBit i = true ∨ ∃ e ∈ l, Region.binds .any e = true ∧ (i = e.on ∨ (g e.on).testBit i = true)
  | [], s, h => .inl h
  | e :: l, s, h => by
    rw [List.foldl_cons] at h
    rcases fold_bit g i l _ h with q | ⟨e', h1, h2, h3⟩
    · split at q
      · rename_i hb
        rw [Nat.testBit_or, Nat.testBit_or, Bool.or_eq_true, Bool.or_eq_true] at q
        rcases q with (q | q) | q
        · exact .inl q
        · rw [Nat.testBit_two_pow] at q
          exact .inr ⟨e, by simp, hb, .inl (by simp at q; exact q.symm)⟩
        · exact .inr ⟨e, by simp, hb, .inr q⟩
      · exact .inl q
    · exact .inr ⟨e', by simp [h1], h2, h3⟩
theorem backs_spec : ∀ (l : List Oper) (n : Nat), backs n l = true → ∀ j o, l[j]? = some o → ∀ e ∈ o.after, Region.binds .any e = true → e.on < n + j
  | [], _, _, j, o, h => by simp at h
  | a :: l, n, hb, j, o, h => by
    simp only [backs, Bool.and_eq_true] at hb
    cases j with
    | zero =>
      simp at h
      subst h
      intro e he hbi
      have := List.all_eq_true.1 hb.1 e (by simpa using he)
      rw [hbi] at this
      simp at this
      simpa using this
    | succ j =>
      intro e he hbi
      have := backs_spec l (n + 1) hb.2 j o (by simpa using h) e he hbi
      omega
theorem closed_bits {ops : List Oper} (hb : backs 0 ops = true) {S : Nat → Bool} (hS : ∀ j o, ops[j]? = some o → S j = true → ∀ e ∈ o.after, Region.binds .any e = true → S e.on = true) :
    ∀ (j : Nat) (o : Oper), ops[j]? = some o → (∀ e ∈ o.after, Region.binds .any e = true → S e.on = true) → ∀ i, ((bef ops).getD j 0).testBit i = true → S i = true := by
  intro j
  induction j using Nat.strongRecOn with
  | _ j ih =>
    intro o ho he i hi
    rw [bef_get ops j o ho, ← Array.foldl_toList] at hi
    rcases fold_bit (fun k => (bef (ops.take j)).getD k 0) i _ _ hi with q | ⟨e, h1, h2, h3⟩
    · simp at q
    · have hlt := backs_spec ops 0 hb j o ho e (by simpa using h1) h2
      rw [Nat.zero_add] at hlt
      have hSe := he e (by simpa using h1) h2
      rcases h3 with rfl | h3
      · exact hSe
      · rw [bef_take _ _ _ hlt] at h3
        have hjl : j < ops.length := by
          rcases Nat.lt_or_ge j ops.length with q | q
          · exact q
          · rw [List.getElem?_eq_none q] at ho; cases ho
        have hel : ops[e.on]? = some (ops[e.on]'(by omega)) := List.getElem?_eq_getElem (by omega)
        exact ih e.on hlt _ hel (hS e.on _ hel hSe) i h3
theorem snocInd {α : Type} {p : List α → Prop} (h0 : p []) (h1 : ∀ l x, p l → p (l ++ [x])) : ∀ l, p l := by
  have key : ∀ l : List α, p l.reverse := by
    intro l
    induction l with
    | nil => exact h0
    | cons x l ih => rw [List.reverse_cons]; exact h1 _ _ ih
  intro l
  have := key l.reverse
  rwa [List.reverse_reverse] at this
theorem apartAll_spec {f : Foot} {b : Nat} : ∀ (L : List Foot), apartAll f b L.length L.reverse = true → ∀ i g, L[i]? = some g → b.testBit i = true ∨ apartF f g = true := by
  refine snocInd (by intro _ i g h; simp at h) ?_
  · intro L x ih h i g hg
    rw [List.reverse_append, List.reverse_singleton, List.singleton_append, List.length_append, List.length_singleton] at h
    simp only [apartAll, Bool.and_eq_true, Bool.or_eq_true] at h
    rcases Nat.lt_or_ge i L.length with q | q
    · rw [List.getElem?_append_left q] at hg
      exact ih h.2 i g hg
    · rw [List.getElem?_append_right q] at hg
      have : i = L.length := by
        rcases Nat.lt_or_ge (i - L.length) 1 with z | z
        · omega
        · rw [List.getElem?_eq_none (by simpa using z)] at hg; cases hg
      subst this
      simp at hg
      subst hg
      exact h.1
theorem apartOps_spec : ∀ (L : List Foot) (B : List Nat), B.length = L.length → apartOps B.reverse L.length L.reverse = true → ∀ i j g f, i < j → L[i]? = some g → L[j]? = some f → (B.getD j 0).testBit i = true ∨ apartF f g = true := by
  refine snocInd (by intro B _ _ i j g f _ h; simp at h) ?_
  · intro L x ih B hB h i j g f hij hg hf
    obtain ⟨B', b, rfl⟩ : ∃ B' b, B = B' ++ [b] := by
      exact ⟨B.dropLast, B.getLast (by intro q; subst q; simp at hB), (List.dropLast_concat_getLast _).symm⟩
    have hB' : B'.length = L.length := by simpa using hB
    rw [List.reverse_append, List.reverse_singleton, List.singleton_append, List.reverse_append, List.reverse_singleton, List.singleton_append, List.length_append, List.length_singleton] at h
    simp only [apartOps, Bool.and_eq_true, Nat.add_sub_cancel] at h
    have hjl : j < (L ++ [x]).length := by
      rcases Nat.lt_or_ge j (L ++ [x]).length with q | q
      · exact q
      · rw [List.getElem?_eq_none q] at hf; cases hf
    rw [List.length_append, List.length_singleton] at hjl
    rcases Nat.lt_or_ge j L.length with q | q
    · rw [List.getElem?_append_left q] at hf
      rw [List.getElem?_append_left (by omega)] at hg
      have := ih B' hB' h.2 i j g f hij hg hf
      rw [List.getD_eq_getElem?_getD, List.getElem?_append_left (by omega), ← List.getD_eq_getElem?_getD]
      exact this
    · have : j = L.length := by omega
      subst this
      rw [List.getElem?_append_left (by omega)] at hg
      rw [List.getElem?_append_right (Nat.le_refl _)] at hf
      simp at hf
      subst hf
      have hb : (B' ++ [b]).getD L.length 0 = b := by rw [← hB']; simp
      rw [hb]
      exact apartAll_spec L h.1 i g hg
theorem disj_spec {l m : List Nat} (h : disj l m = true) : ∀ x ∈ l, x ∉ m := by
  induction l with
  | nil => intro x hx; cases hx
  | cons a l ih =>
    simp only [disj] at h
    cases hm : memN a m with
    | true => rw [hm] at h; cases h
    | false =>
      rw [hm] at h
      intro x hx
      rcases List.mem_cons.1 hx with q | q
      · subst q
        intro z
        rw [(memN_iff _ _).2 z] at hm; cases hm
      · exact ih h x q
theorem outside_spec {lo hi : Nat} {l : List Nat} (h : outside lo hi l = true) : ∀ x ∈ l, ¬ (lo ≤ x ∧ x < hi) := by
  induction l with
  | nil => intro x hx; cases hx
  | cons a l ih =>
    have h' : (bif Nat.blt a lo then outside lo hi l else bif Nat.ble hi a then outside lo hi l else false) = true := h
    intro x hx
    cases h1 : Nat.blt a lo with
    | true =>
      rw [h1] at h'
      rcases List.mem_cons.1 hx with q | q
      · subst q; have := blt_iff.1 h1; omega
      · exact ih h' x q
    | false =>
      rw [h1] at h'
      cases h2 : Nat.ble hi a with
      | false => rw [h2] at h'; cases h'
      | true =>
        rw [h2] at h'
        rcases List.mem_cons.1 hx with q | q
        · subst q; have := Nat.le_of_ble_eq_true h2; omega
        · exact ih h' x q
structure Apart (a b : Foot) : Prop where
  wtrt : ∀ x, a.wt = some x → x ∉ b.rt
  wtwt : ∀ x, a.wt = some x → b.wt ≠ some x
  rtwt : ∀ x, b.wt = some x → x ∉ a.rt
  wr : ∀ x ∈ a.w, x ∉ b.r
  ww : ∀ x ∈ a.w, x ∉ b.w
  rw : ∀ x ∈ b.w, x ∉ a.r
  or' : ∀ x ∈ a.r, ¬ (b.lo ≤ x ∧ x < b.hi)
  ow : ∀ x ∈ a.w, ¬ (b.lo ≤ x ∧ x < b.hi)
  ob : ∀ x ∈ b.r, ¬ (a.lo ≤ x ∧ x < a.hi)
theorem apartF_spec {a b : Foot} (h : apartF a b = true) : Apart a b := by
  simp only [apartF, Bool.and_eq_true] at h
  obtain ⟨h1, h2, h3, h4, h5, h6, h7, h8, h9⟩ := h
  refine ⟨?_, ?_, ?_, disj_spec h4, disj_spec h5, disj_spec h6, outside_spec h7, outside_spec h8, outside_spec h9⟩
  · intro x hx; exact disj_spec h1 x (by simp [hx])
  · intro x hx hy; exact disj_spec h2 x (by simp [hx]) (by simp [hy])
  · intro x hx; exact disj_spec h3 x (by simp [hx])
end Go.Ev
/- Regions whose order is drawn: any set of operations that holds what stands ahead of each of them. -/
namespace Go.Ev
noncomputable def TS (T0 : List AV) (V : Nat → AV) (Ft : Nat → Foot) (S : Nat → Bool) : Nat → List AV
  | 0 => T0
  | i + 1 => if S i = true then setT (TS T0 V Ft S i) (Ft i).wt (V i) else TS T0 V Ft S i
def Touch (Ft : Nat → Foot) (i id : Nat) : Prop := id ∈ (Ft i).w ∨ ((Ft i).lo ≤ id ∧ id < (Ft i).hi)
open Classical in
noncomputable def GS (H : Nat → Heap) (Ft : Nat → Foot) (S : Nat → Bool) : Nat → Nat → Option Blk
  | 0, id => (H 0).G id
  | i + 1, id => if S i = true ∧ Touch Ft i id then (H (i + 1)).G id else GS H Ft S i id
structure Run (P : Program) (ops : Array Oper) (T : Nat → List AV) (H : Nat → Heap) (V : Nat → AV) (Ft : Nat → Foot) : Prop where
  ok0 : (H 0).ok
  step : ∀ i o, ops.toList[i]? = some o → StepOk P ops o (T i) (H i) (V i) (T (i + 1)) (H (i + 1)) (Ft i)
section
variable {P : Program} {ops : Array Oper} {T : Nat → List AV} {H : Nat → Heap} {V : Nat → AV} {Ft : Nat → Foot} (R : Run P ops T H V Ft)
include R
theorem Run.at (i : Nat) (hi : i < ops.size) : StepOk P ops ops[i] (T i) (H i) (V i) (T (i + 1)) (H (i + 1)) (Ft i) := R.step i _ (by simp [hi])
theorem Run.ok (i : Nat) (hi : i ≤ ops.size) : (H i).ok := by
  cases i with
  | zero => exact R.ok0
  | succ i => exact (R.at i hi).eff.ok
theorem Run.mono (i k : Nat) (hik : i ≤ k) (hk : k ≤ ops.size) : (H i).next ≤ (H k).next := by
  induction k with
  | zero => rw [Nat.le_zero.1 hik]; exact Nat.le_refl _
  | succ k ih =>
    rcases Nat.lt_or_ge i (k + 1) with q | q
    · exact Nat.le_trans (ih (by omega) (by omega)) (R.at k hk).eff.next
    · rw [show i = k + 1 by omega]; exact Nat.le_refl _
theorem Run.tlen (i : Nat) (hi : i ≤ ops.size) : (T i).length = (T 0).length := by
  induction i with
  | zero => rfl
  | succ i ih => rw [(R.at i hi).tmps, setT_len, ih (by omega)]
theorem TS_len (S : Nat → Bool) (i : Nat) : (TS (T 0) V Ft S i).length = (T 0).length := by
  induction i with
  | zero => rfl
  | succ i ih => unfold TS; split <;> simp [setT_len, ih]
theorem Run.untouched (i : Nat) (hi : i < ops.size) (id : Nat) (h : ¬ Touch Ft i id) : (H (i + 1)).G id = (H i).G id := by
  have st := R.at i hi
  refine (Patch.full (R.ok i (by omega)) st.eff id).2 ?_
  intro q
  apply h
  unfold Touch
  rw [st.lo, st.hi]
  exact q
theorem TS_full {S : Nat → Bool} : ∀ (n : Nat), n ≤ ops.size → (∀ i, i < n → S i = true) → TS (T 0) V Ft S n = T n
  | 0, _, _ => rfl
  | n + 1, hn, h => by
    have st := R.at n hn
    unfold TS
    rw [if_pos (h n (by omega)), TS_full n (by omega) (fun i hi => h i (by omega)), st.wt, st.tmps]
theorem GS_full {S : Nat → Bool} : ∀ (n : Nat), n ≤ ops.size → (∀ i, i < n → S i = true) → GS H Ft S n = (H n).G
  | 0, _, _ => rfl
  | n + 1, hn, h => by
    funext id
    unfold GS
    split
    · rfl
    · rename_i hq
      rw [GS_full n (by omega) (fun i hi => h i (by omega))]
      exact (R.untouched n hn id (fun q => hq ⟨h n (by omega), q⟩)).symm
variable (hap : ∀ i j, i < j → j < ops.size → ((bef ops.toList).getD j 0).testBit i = true ∨ Apart (Ft j) (Ft i))
include hap
theorem TS_read {S : Nat → Bool} (hcl : ∀ j, j < ops.size → S j = true → ∀ i, ((bef ops.toList).getD j 0).testBit i = true → S i = true) {j : Nat} (hj : j < ops.size) (hn : S j = false) (hp : ∀ i, ((bef ops.toList).getD j 0).testBit i = true → S i = true) {k : Nat} (hk : k ∈ (Ft j).rt) :
    getT (TS (T 0) V Ft S ops.size) k = getT (T j) k := by
  have part1 : ∀ i, i ≤ j → getT (TS (T 0) V Ft S i) k = getT (T i) k := by
    intro i
    induction i with
    | zero => intro _; rfl
    | succ i ih =>
      intro hi
      have st := R.at i (by omega)
      have h1 := TS_len R S i
      have h2 := R.tlen i (by omega)
      rw [st.tmps]
      unfold TS
      split
      · rw [st.wt, setT_get, setT_get, h1, h2, ih (by omega)]
      · rename_i hs
        rcases hap i j (by omega) hj with q | q
        · exact absurd (hp i q) hs
        · have : (Ft i).wt ≠ some k := fun z => q.rtwt k z hk
          rw [← st.wt, setT_get, if_neg (fun z => this z.1)]
          exact ih (by omega)
  have part2 : ∀ i, j ≤ i → i ≤ ops.size → getT (TS (T 0) V Ft S i) k = getT (T j) k := by
    intro i
    induction i with
    | zero => intro h1 _; rw [show j = 0 by omega]; rfl
    | succ i ih =>
      intro h1 h2
      rcases Nat.lt_or_ge i j with q | q
      · rw [show i + 1 = j by omega]; exact part1 j (Nat.le_refl _)
      · unfold TS
        split
        · rename_i hs
          have hne : i ≠ j := fun z => by rw [z, hn] at hs; cases hs
          rcases hap j i (by omega) (by omega) with z | z
          · have := hcl i (by omega) hs j z
            rw [hn] at this; cases this
          · rw [setT_get, if_neg (fun y => z.wtrt k y.1 hk)]
            exact ih q (by omega)
        · exact ih q (by omega)
  exact part2 _ (by omega) (Nat.le_refl _)
theorem GS_read {S : Nat → Bool} (hcl : ∀ j, j < ops.size → S j = true → ∀ i, ((bef ops.toList).getD j 0).testBit i = true → S i = true) {j : Nat} (hj : j < ops.size) (hn : S j = false) (hp : ∀ i, ((bef ops.toList).getD j 0).testBit i = true → S i = true) {id : Nat} (hk : id ∈ (Ft j).r ∨ id ∈ (Ft j).w) :
    GS H Ft S ops.size id = (H j).G id := by
  have part1 : ∀ i, i ≤ j → GS H Ft S i id = (H i).G id := by
    intro i
    induction i with
    | zero => intro _; rfl
    | succ i ih =>
      intro hi
      unfold GS
      split
      · rfl
      · rename_i hs
        rw [ih (by omega)]
        refine (R.untouched i (by omega) id ?_).symm
        intro ht
        have hS : ¬ S i = true := fun q => hs ⟨q, ht⟩
        rcases hap i j (by omega) hj with q | q
        · exact hS (hp i q)
        · rcases ht with z | z
          · rcases hk with y | y
            · exact q.rw id z y
            · exact q.ww id y z
          · rcases hk with y | y
            · exact q.or' id y z
            · exact q.ow id y z
  have part2 : ∀ i, j ≤ i → i ≤ ops.size → GS H Ft S i id = (H j).G id := by
    intro i
    induction i with
    | zero => intro h1 _; rw [show j = 0 by omega]; rfl
    | succ i ih =>
      intro h1 h2
      rcases Nat.lt_or_ge i j with q | q
      · rw [show i + 1 = j by omega]; exact part1 j (Nat.le_refl _)
      · unfold GS
        split
        · rename_i hs
          exfalso
          have hne : i ≠ j := fun z => by rw [z, hn] at hs; cases hs.1
          rcases hap j i (by omega) (by omega) with z | z
          · have := hcl i (by omega) hs.1 j z
            rw [hn] at this; cases this
          · have sti := R.at i (by omega)
            have stj := R.at j hj
            rcases hs.2 with y | y
            · rcases hk with x | x
              · exact z.wr id y x
              · exact z.ww id y x
            · rcases hk with x | x
              · exact z.ob id x y
              · have h3 := stj.eff.wlt id x
                have h4 := R.mono j i (by omega) (by omega)
                rw [sti.lo] at y
                omega
        · exact ih q (by omega)
  exact part2 _ (by omega) (Nat.le_refl _)
theorem setT_comm {t : List AV} {d d' : Option Tmp} {v u : AV} (h : ∀ x, d = some x → d' ≠ some x) : setT (setT t d v) d' u = setT (setT t d' u) d v := by
  cases d with
  | none => rfl
  | some i =>
    cases d' with
    | none => rfl
    | some k =>
      have : i ≠ k := fun e => h i rfl (by rw [e])
      simp only [setT, setL_eq]
      exact List.set_comm _ _ this
theorem TS_add {S S' : Nat → Bool} (hcl : ∀ j, j < ops.size → S j = true → ∀ i, ((bef ops.toList).getD j 0).testBit i = true → S i = true) {j : Nat} (hj : j < ops.size) (hn : S j = false) (hj' : S' j = true) (hS : ∀ i, i ≠ j → S' i = S i) :
    TS (T 0) V Ft S' ops.size = setT (TS (T 0) V Ft S ops.size) (Ft j).wt (V j) := by
  have part1 : ∀ i, i ≤ j → TS (T 0) V Ft S' i = TS (T 0) V Ft S i := by
    intro i
    induction i with
    | zero => intro _; rfl
    | succ i ih =>
      intro hi
      unfold TS
      rw [hS i (by omega), ih (by omega)]
  have part2 : ∀ i, j < i → i ≤ ops.size → TS (T 0) V Ft S' i = setT (TS (T 0) V Ft S i) (Ft j).wt (V j) := by
    intro i
    induction i with
    | zero => intro h1 _; omega
    | succ i ih =>
      intro h1 h2
      rcases Nat.lt_or_ge j i with q | q
      · show (if S' i = true then setT (TS (T 0) V Ft S' i) (Ft i).wt (V i) else TS (T 0) V Ft S' i) = setT (if S i = true then setT (TS (T 0) V Ft S i) (Ft i).wt (V i) else TS (T 0) V Ft S i) (Ft j).wt (V j)
        rw [hS i (by omega), ih q (by omega)]
        split
        · rename_i hs
          rcases hap j i q (by omega) with z | z
          · have := hcl i (by omega) hs j z
            rw [hn] at this; cases this
          · exact setT_comm R hap (fun x hx hy => z.wtwt x hy hx)
        · rfl
      · have : i = j := by omega
        subst this
        show (if S' i = true then setT (TS (T 0) V Ft S' i) (Ft i).wt (V i) else TS (T 0) V Ft S' i) = setT (if S i = true then setT (TS (T 0) V Ft S i) (Ft i).wt (V i) else TS (T 0) V Ft S i) (Ft i).wt (V i)
        rw [if_pos hj', hn, part1 i (Nat.le_refl _)]
        rfl
  exact part2 _ hj (Nat.le_refl _)
theorem GS_add {S S' : Nat → Bool} (hcl : ∀ j, j < ops.size → S j = true → ∀ i, ((bef ops.toList).getD j 0).testBit i = true → S i = true) {j : Nat} (hj : j < ops.size) (hn : S j = false) (hj' : S' j = true) (hS : ∀ i, i ≠ j → S' i = S i) :
    Patch (GS H Ft S ops.size) (H j) (H (j + 1)) (Ft j).w (GS H Ft S' ops.size) := by
  have stj := R.at j hj
  have part1 : ∀ i id, i ≤ j → GS H Ft S' i id = GS H Ft S i id := by
    intro i
    induction i with
    | zero => intro id _; rfl
    | succ i ih =>
      intro id hi
      unfold GS
      rw [hS i (by omega), ih id (by omega)]
  have part2 : ∀ i id, j < i → i ≤ ops.size → (Touch Ft j id → GS H Ft S' i id = (H (j + 1)).G id) ∧ (¬ Touch Ft j id → GS H Ft S' i id = GS H Ft S i id) := by
    intro i
    induction i with
    | zero => intro id h1 _; omega
    | succ i ih =>
      intro id h1 h2
      rcases Nat.lt_or_ge j i with q | q
      · obtain ⟨ih1, ih2⟩ := ih id q (by omega)
        have sti := R.at i (by omega)
        refine ⟨fun ht => ?_, fun ht => ?_⟩
        · unfold GS
          split
          · rename_i hs
            exfalso
            rw [hS i (by omega)] at hs
            rcases hap j i q (by omega) with z | z
            · have := hcl i (by omega) hs.1 j z
              rw [hn] at this; cases this
            · rcases hs.2 with y | y
              · rcases ht with x | x
                · exact z.ww id y x
                · exact z.ow id y x
              · rcases ht with x | x
                · have h3 := stj.eff.wlt id x
                  have h4 := R.mono j i (by omega) (by omega)
                  rw [sti.lo] at y
                  omega
                · have h4 := R.mono (j + 1) i (by omega) (by omega)
                  rw [sti.lo] at y
                  rw [stj.hi] at x
                  omega
          · exact ih1 ht
        · unfold GS
          rw [hS i (by omega), ih2 ht]
      · have : i = j := by omega
        subst this
        refine ⟨fun ht => ?_, fun ht => ?_⟩
        · unfold GS
          rw [if_pos ⟨hj', ht⟩]
        · unfold GS
          rw [if_neg (fun z => ht z.2), if_neg (fun z => ht z.2)]
          exact part1 i id (Nat.le_refl _)
  intro id
  obtain ⟨h1, h2⟩ := part2 _ id hj (Nat.le_refl _)
  unfold Touch at h1 h2
  rw [stj.lo, stj.hi] at h1 h2
  exact ⟨h1, h2⟩
end
end Go.Ev
/- Regions: the law. -/
namespace Go.Ev
theorem filter_lt {α : Type} {p q : α → Bool} (hpq : ∀ x, q x = true → p x = true) : ∀ (l : List α) (y : α), y ∈ l → p y = true → q y = false → (l.filter q).length < (l.filter p).length
  | [], y, h, _, _ => by cases h
  | a :: l, y, h, h1, h2 => by
    have hle : ∀ l : List α, (l.filter q).length ≤ (l.filter p).length := by
      intro l
      induction l with
      | nil => simp
      | cons b l ih =>
        simp only [List.filter_cons]
        cases hq : q b with
        | true => rw [hpq b hq]; simpa using ih
        | false =>
          cases p b <;> simp <;> omega
    simp only [List.filter_cons]
    rcases List.mem_cons.1 h with z | z
    · subst z
      rw [h1, h2]
      have := hle l
      simp; omega
    · have ih := filter_lt hpq l y z h1 h2
      cases hq : q a with
      | true => rw [hpq a hq]; simpa using ih
      | false => cases p a <;> simp <;> omega
def unlisted (n : Nat) (listed : Array Bool) : Nat := ((List.range n).filter fun i => !listed.getD i true).length
section
variable {P : Program} {ops : Array Oper} {T : Nat → List AV} {H : Nat → Heap} {V : Nat → AV} {Ft : Nat → Foot} (R : Run P ops T H V Ft)
  (hap : ∀ i j, i < j → j < ops.size → ((bef ops.toList).getD j 0).testBit i = true ∨ Apart (Ft j) (Ft i)) (hback : backs 0 ops.toList = true) {F : Fence} (hF : FOk F)
structure Mid (R : Run P ops T H V Ft) (w0 : World) (c0 : Cx) (ds : List Deferred) (S : Nat → Bool) (a : Act) (w : World) : Prop where
  ds : a.defers = ds
  cx : ∃ c, VRs w c (TS (T 0) V Ft S ops.size) a.tmps.toList ∧ Ext w0 c0 w c ∧ (∀ id, c.V id → c0.V id ∨ ∃ i, i < ops.size ∧ S i = true ∧ (Ft i).lo ≤ id ∧ id < (Ft i).hi) ∧ HR w c (GS H Ft S ops.size)
include hap hback hF in
theorem drawn_go {w0 : World} {c0 : Cx} {ds : List Deferred} (hfr : ∀ id, (H 0).next ≤ id → id < (H ops.size).next → ¬ c0.V id) : ∀ (fuel t : Nat) (listed : Array Bool) (a : Act) (w : World), listed.size = ops.size → unlisted ops.size listed ≤ fuel →
    (∀ j o, ops.toList[j]? = some o → listed.getD j false = true → ∀ e ∈ o.after, Region.binds .any e = true → listed.getD e.on false = true) →
    Mid R w0 c0 ds (fun i => listed.getD i false) a w →
    wpOpsIn F 0 P ops (fun e a' w' => e = .normal ∧ PostR w0 c0 (H 0) (H ops.size) (T ops.size) ds a' w') (Region.linearise.go .any ops fuel t listed []) a w := by
  have fin : ∀ (listed : Array Bool) (a : Act) (w : World), (∀ i, i < ops.size → listed.getD i false = true) → Mid R w0 c0 ds (fun i => listed.getD i false) a w → PostR w0 c0 (H 0) (H ops.size) (T ops.size) ds a w := by
    intro listed a w hall hm
    obtain ⟨c, k1, k2, k3, k4⟩ := hm.cx
    rw [TS_full R ops.size (Nat.le_refl _) hall] at k1
    rw [GS_full R ops.size (Nat.le_refl _) hall] at k4
    refine ⟨hm.ds, c, k1, k2, fun id hid => ?_, k4⟩
    rcases k3 id hid with q | ⟨i, h1, _, h3, h4⟩
    · exact .inl q
    · have st := R.at i h1
      have m1 := R.mono 0 i (by omega) (by omega)
      have m2 := R.mono (i + 1) ops.size (by omega) (Nat.le_refl _)
      rw [st.lo] at h3
      rw [st.hi] at h4
      exact .inr ⟨by omega, by omega⟩
  have getD_lt : ∀ (listed : Array Bool) (i : Nat) (d : Bool), i < listed.size → listed.getD i d = listed.getD i false := by
    intro listed i d hi
    simp [Array.getD_eq_getD_getElem?, hi]
  -- all is listed, where nothing is ready
  have none_ready : ∀ listed : Array Bool, listed.size = ops.size → Region.ready .any ops listed = [] → ∀ i, i < ops.size → listed.getD i false = true := by
    intro listed hsz hr i
    induction i using Nat.strongRecOn with
    | _ i ih =>
      intro hi
      cases hl : listed.getD i false with
      | true => rfl
      | false =>
        exfalso
        have : i ∈ Region.ready .any ops listed := by
          rw [mem_ready]
          refine ⟨by rw [getD_lt _ _ _ (by omega)]; exact hl, ops[i], by simp [hi], ?_⟩
          intro e he hb
          have hlt := backs_spec ops.toList 0 hback i ops[i] (by simp [hi]) e he hb
          exact ih e.on (by omega) (by omega)
        rw [hr] at this
        cases this
  intro fuel
  induction fuel with
  | zero =>
    intro t listed a w hsz hcnt hcl hm
    simp only [Region.linearise.go, List.reverse_nil, wpOpsIn]
    refine ⟨trivial, fin listed a w (fun i hi => ?_) hm⟩
    cases hl : listed.getD i false with
    | true => rfl
    | false =>
      exfalso
      have : 0 < unlisted ops.size listed := by
        unfold unlisted
        apply List.length_pos_of_mem (a := i)
        rw [List.mem_filter, List.mem_range]
        exact ⟨hi, by rw [getD_lt _ _ _ (by omega), hl]; rfl⟩
      omega
  | succ fuel ih =>
    intro t listed a w hsz hcnt hcl hm
    simp only [Region.linearise.go]
    change wpOpsIn F 0 P ops _ (match (Region.ready .any ops listed)[t % (Region.ready .any ops listed).length]? with
      | some i => Region.linearise.go .any ops fuel (t / (Region.ready .any ops listed).length) (listed.setIfInBounds i true) [i]
      | none => [].reverse) a w
    cases hi : (Region.ready .any ops listed)[t % (Region.ready .any ops listed).length]? with
    | none =>
      have hnil : Region.ready .any ops listed = [] := by
        cases hr : Region.ready .any ops listed with
        | nil => rfl
        | cons x xs =>
          rw [hr] at hi
          have hlt : t % (x :: xs).length < (x :: xs).length := Nat.mod_lt _ (by simp)
          rw [List.getElem?_eq_none_iff] at hi
          omega
      simp only [List.reverse_nil, wpOpsIn]
      exact ⟨trivial, fin listed a w (none_ready listed hsz hnil) hm⟩
    | some j =>
      simp only []
      rw [linearise_go_acc, List.reverse_singleton, List.singleton_append]
      obtain ⟨hun, o, ho, hpre⟩ := mem_ready.1 (List.mem_of_getElem? hi)
      have hj : j < ops.size := (Array.getElem?_eq_some_iff.1 ho).1
      have hun' : listed.getD j false = false := by rw [← getD_lt listed j true (by omega)]; exact hun
      have hol : ops.toList[j]? = some o := by simpa using ho
      have hoj : ops[j] = o := by rw [Array.getElem?_eq_getElem hj] at ho; injection ho
      -- the sets
      obtain ⟨S, hSd⟩ : ∃ S : Nat → Bool, S = fun i => listed.getD i false := ⟨_, rfl⟩
      obtain ⟨S', hSd'⟩ : ∃ S' : Nat → Bool, S' = fun i => (listed.setIfInBounds j true).getD i false := ⟨_, rfl⟩
      have hSj : S j = false := by rw [hSd]; exact hun'
      have hSj' : S' j = true := by rw [hSd']; simp [Array.getD_eq_getD_getElem?, hsz, hj]
      have hSS : ∀ i, i ≠ j → S' i = S i := by
        intro i hne
        rw [hSd, hSd']
        exact getD_set_ne false (Ne.symm hne)
      have hbits : ∀ k o, ops.toList[k]? = some o → (∀ e ∈ o.after, Region.binds .any e = true → S e.on = true) → ∀ i, ((bef ops.toList).getD k 0).testBit i = true → S i = true :=
        closed_bits hback (by rw [hSd]; exact hcl)
      have hclS : ∀ k, k < ops.size → S k = true → ∀ i, ((bef ops.toList).getD k 0).testBit i = true → S i = true := by
        intro k hk hs i hb
        have hok : ops.toList[k]? = some ops[k] := by simp [hk]
        refine hbits k _ hok (fun e he hbi => ?_) i hb
        rw [hSd] at hs ⊢
        exact hcl k _ hok hs e he hbi
      have hpS : ∀ i, ((bef ops.toList).getD j 0).testBit i = true → S i = true := by
        refine hbits j o hol (fun e he hbi => ?_)
        rw [hSd]; exact hpre e he hbi
      rw [← hSd] at hm
      obtain ⟨c, k1, k2, k3, k4⟩ := hm.cx
      have st := R.at j hj
      rw [hoj] at st
      have hmask : VRs w c (keepT 0 (T j) (Ft j).rt) a.tmps.toList := by
        refine k1.masked ?_ _ (fun k hk => TS_read R hap hclS hj hSj hpS hk)
        rw [R.tlen j (by omega), TS_len R]
      have hcnt' : unlisted ops.size (listed.setIfInBounds j true) ≤ fuel := by
        have : unlisted ops.size (listed.setIfInBounds j true) < unlisted ops.size listed := by
          unfold unlisted
          refine filter_lt ?_ _ j (by simpa using hj) (by rw [hun]; rfl) (by simp [Array.getD_eq_getD_getElem?, hsz, hj])
          intro x hx
          by_cases hxj : x = j
          · subst hxj; rw [hun]; rfl
          · rw [getD_set_ne true (Ne.symm hxj)] at hx; exact hx
        omega
      have hcl' : ∀ k o, ops.toList[k]? = some o → (listed.setIfInBounds j true).getD k false = true → ∀ e ∈ o.after, Region.binds .any e = true → (listed.setIfInBounds j true).getD e.on false = true := by
        intro k o' hok hs e he hbi
        apply getD_set_true
        by_cases hkj : k = j
        · subst hkj
          rw [hol] at hok
          injection hok with hok
          subst hok
          exact hpre e he hbi
        · rw [getD_set_ne false (Ne.symm hkj)] at hs
          exact hcl k o' hok hs e he hbi
      have onward : ∀ (v' : Value) (w2 : World) (c' : Cx), VR w2 c' (V j) v' → Ext w c w2 c' → (∀ id, c'.V id → c.V id ∨ ((H j).next ≤ id ∧ id < (H (j + 1)).next)) → HR w2 c' (GS H Ft S' ops.size) →
          wpOpsIn F 0 P ops (fun e a' w' => e = .normal ∧ PostR w0 c0 (H 0) (H ops.size) (T ops.size) ds a' w') (Region.linearise.go .any ops fuel (t / (Region.ready .any ops listed).length) (listed.setIfInBounds j true) []) (a.put o.dst v') w2 := by
        intro v' w2 c' q1 q2 q3 q4
        refine ih _ _ _ _ (by simp [hsz]) hcnt' hcl' ?_
        rw [← hSd']
        refine ⟨by rw [← hm.ds]; cases o.dst <;> rfl, c', ?_, k2.trans q2, ?_, q4⟩
        · rw [TS_add R hap hclS hj hSj hSj' hSS, st.wt]
          exact put_rel (VRs.mono q2.toExt0 k1) q1
        · intro id hid
          rcases q3 id hid with z | z
          · rcases k3 id z with y | ⟨i, y1, y2, y3⟩
            · exact .inl y
            · refine .inr ⟨i, y1, ?_, y3⟩
              by_cases hij : i = j
              · subst hij; exact hSj'
              · rw [hSS i hij]; exact y2
          · exact .inr ⟨j, hj, hSj', by rw [st.lo]; exact z.1, by rw [st.hi]; exact z.2⟩
      have hpatch := GS_add R hap hclS hj hSj hSj' hSS
      simp only [wpOpsIn, ho]
      rcases st.does with ⟨hw, hnd, hreal⟩ | ⟨hw, hh, hvv, hww⟩
      · rw [if_pos (hw w c a hmask)]
        obtain ⟨nx, w1, hrun, hg⟩ := hreal w c a (GS H Ft S ops.size) hmask ⟨k4, fun id hid => GS_read R hap hclS hj hSj hpS hid, fun id h1 h2 hid => by
          rcases k3 id hid with y | ⟨i, y1, y2, y3, y4⟩
          · have m1 := R.mono 0 j (by omega) (by omega)
            have m2 := R.mono (j + 1) ops.size (by omega) (Nat.le_refl _)
            exact hfr id (by omega) (by omega) y
          · have sti := R.at i y1
            rw [sti.lo] at y3
            rw [sti.hi] at y4
            have hne : i ≠ j := fun z => by rw [z, hSj] at y2; cases y2
            rcases Nat.lt_or_gt_of_ne hne with z | z
            · have := R.mono (i + 1) j (by omega) (by omega); omega
            · have := R.mono (j + 1) i (by omega) (by omega); omega⟩
        refine wpIn_of_goes hF hnd hrun hg ?_
        rintro v' w2 ⟨c', q1, q2, q3, q4⟩
        exact onward v' w2 c' q1 q2 q3 (q4 _ hpatch)
      · rw [if_neg (by rw [hw w c a hmask]; simp)]
        refine ⟨fun f _ => hF.fn f, ?_⟩
        refine onward undef w c (by rw [hvv]; exact .val _) (Ext.refl w c) (fun id h => .inl h) ?_
        have : GS H Ft S' ops.size = GS H Ft S ops.size := by
          funext id
          refine (hpatch id).2 ?_
          rw [hh, hww]
          rintro (q | q)
          · cases q
          · omega
        rw [this]
        exact k4
end
theorem draw_ext (w : World) (c : Cx) : Ext w c { w with drawn := w.drawn + 1 } c := ⟨⟨fun _ q => q, fun _ _ _ => rfl, fun i hi => ⟨hi, rfl⟩⟩, rfl, rfl, rfl, Nat.le_refl _, fun _ _ _ => rfl, fun _ _ h => h, fun _ _ q => q, fun _ q q' => absurd q q'⟩
theorem HR.drew {w : World} {c : Cx} {G : Nat → Option Blk} (h : HR w c G) : HR { w with drawn := w.drawn + 1 } c G := by
  refine ⟨h.valid, fun id b hb => ?_, h.inj, h.dis⟩
  have hbr := h.blk id b hb
  exact BlkRel.keep (draw_ext w c).toExt0 hbr (fun _ => rfl) hbr.owned
section
variable {P : Program} {call : Calling} (hc : CallOk P call) {env : Env} (he : EnvOk P env) (hmix : P.follows .mixedOrders = true)
include hc he hmix
theorem region_sound {ρ : Type} {ops : Array Oper} {draw : Bool} {K : KC ρ} {s : St} (hk : s.h.ok) {r : ρ} (hK : regionK env call ops draw K s = some r) :
    ∃ t' h', K .normal ⟨t', s.d, h'⟩ = some r ∧ h'.ok ∧ s.h.next ≤ h'.next ∧ HEff s.h h' ∧ ∀ {F : Fence} (hF : FOk F) (id : Nat) (w : World) (c : Cx) (a : Act), VRs w c s.t a.tmps.toList → HR w c s.h.G → (∀ id, s.h.next ≤ id → id < h'.next → ¬ c.V id) →
      (Code.region id ops draw).wpIn F 0 P (fun e a' w' => e = .normal ∧ PostR w c s.h h' t' a.defers a' w') a w := by
  unfold regionK at hK
  obtain ⟨T, H, V, Ft, e1, e2, e3, e4⟩ := trace_sound hc he ops.toList [] s.t s.h hk hK
  have hn : ops.toList.length = ops.size := by simp
  rw [hn] at e4
  have R : Run P ops T H V Ft := ⟨by rw [e2]; exact hk, e3⟩
  have heff : ∀ n, n ≤ ops.size → HEff s.h (H n) := by
    intro n
    induction n with
    | zero => intro _; rw [e2]; exact HEff.refl hk
    | succ n ih => intro hn; exact (ih (by omega)).trans (R.at n hn).eff.heff
  have hok := R.ok ops.size (Nat.le_refl _)
  have hmo := R.mono 0 ops.size (by omega) (Nat.le_refl _)
  rw [e2] at hmo
  cases draw with
  | false =>
    refine ⟨T ops.size, H ops.size, e4, hok, hmo, heff _ (Nat.le_refl _), ?_⟩
    intro F hF id w c a hv hr hfr
    apply wpIn_region
    have := (seq_sound hF R.ok0 e3 ops.size 0 (by omega) R.ok0).2.2 w c a (by rw [e1]; exact hv) (by rw [e2]; exact hr) (by rw [e2]; exact hfr)
    rw [List.range_eq_range', e2] at *
    exact this
  | true =>
    simp only [Bool.not_true, Bool.false_or, if_true, List.append_nil, List.length_reverse, List.length_map, List.length_range] at e4
    cases hg : (backs 0 ops.toList && apartOps (Region.before ops).toList.reverse ops.size ((List.range ops.size).map Ft).reverse) with
    | false => rw [hg] at e4; cases e4
    | true =>
      rw [hg, cond_true] at e4
      rw [Bool.and_eq_true] at hg
      obtain ⟨hback, hap⟩ := hg
      refine ⟨T ops.size, H ops.size, e4, hok, hmo, heff _ (Nat.le_refl _), ?_⟩
      intro F hF id w c a hv hr hfr
      have hap' : ∀ i j, i < j → j < ops.size → ((bef ops.toList).getD j 0).testBit i = true ∨ Apart (Ft j) (Ft i) := by
        intro i j hij hj
        have hL : ((List.range ops.size).map Ft).length = ops.size := by simp
        have := apartOps_spec ((List.range ops.size).map Ft) (bef ops.toList).toList (by rw [hL]; simp [bef_size]) (by rw [hL, ← before_eq]; exact hap) i j (Ft i) (Ft j) hij (by simp [show i < ops.size by omega]) (by simp [hj])
        rcases this with q | q
        · left
          simpa [List.getD_eq_getElem?_getD, Array.getD_eq_getD_getElem?] using q
        · exact .inr (apartF_spec q)
      apply wpIn_region_draw
      intro t
      simp only [Region.schedule, hmix, Bool.true_or, if_true]
      have hx := draw_ext w c
      have hmid : Mid R { w with drawn := w.drawn + 1 } c a.defers (fun i => (Array.replicate ops.size false).getD i false) a { w with drawn := w.drawn + 1 } := by
        have hS : ∀ i, (Array.replicate ops.size false).getD i false = false := by
          intro i
          simp only [Array.getD_eq_getD_getElem?, Array.getElem?_replicate]
          split <;> rfl
        have hT : ∀ n, TS (T 0) V Ft (fun i => (Array.replicate ops.size false).getD i false) n = T 0 := by
          intro n
          induction n with
          | zero => rfl
          | succ n ih => unfold TS; rw [hS n, if_neg (by simp)]; exact ih
        have hG : ∀ n, GS H Ft (fun i => (Array.replicate ops.size false).getD i false) n = (H 0).G := by
          intro n
          induction n with
          | zero => rfl
          | succ n ih =>
            funext id
            unfold GS
            rw [hS n, if_neg (by simp)]
            exact congrFun ih id
        refine ⟨rfl, c, ?_, Ext.refl _ c, fun id h => .inl h, ?_⟩
        · rw [hT, e1]; exact VRs.mono hx.toExt0 hv
        · rw [hG, e2]; exact hr.drew
      have := drawn_go R hap' hback hF (w0 := { w with drawn := w.drawn + 1 }) (c0 := c) (ds := a.defers) (by rw [e2]; exact hfr) ops.size t (Array.replicate ops.size false) a { w with drawn := w.drawn + 1 } (by simp)
        (by unfold unlisted; exact Nat.le_trans (List.length_filter_le _ _) (by simp)) (fun j o _ h => by
          simp only [Array.getD_eq_getD_getElem?, Array.getElem?_replicate] at h
          split at h <;> cases h) hmid
      have hmono : ∀ (l : List Nat) (Q Q' : Exit → Act → World → Prop) (a : Act) (w : World), (∀ e a w, Q e a w → Q' e a w) → wpOpsIn F 0 P ops Q l a w → wpOpsIn F 0 P ops Q' l a w := by
        intro l Q Q'
        induction l with
        | nil => intro a w hq h; exact hq _ _ _ h
        | cons j l ih =>
          intro a w hq h
          simp only [wpOpsIn] at h ⊢
          split
          · rename_i hj; simp only [hj] at h; exact ih a w hq h
          · rename_i o hj
            simp only [hj] at h
            split
            · rename_i hw
              simp only [hw, if_true, Oper.wpIn] at h ⊢
              refine ⟨h.1, ?_⟩
              have h2 := h.2
              generalize (o.semAt F.round a.eval).run P w = res at h2 ⊢
              cases res with
              | ok nx w' =>
                cases nx <;> simp only [Oper.uponIn] at h2 ⊢ <;> first
                  | exact ih _ _ hq h2
                  | (refine ⟨h2.1, CallsIn.mono h2.2 ?_⟩; intro e w'' he; cases e <;> first | exact ih _ _ hq he | exact hq _ _ _ he | exact he.imp fun _ ⟨w, h⟩ => ⟨w, hq _ _ _ h⟩)
                  | exact ⟨h2.1, RowsIn.mono h2.2 fun _ _ he => ih _ _ hq he⟩
                  | (refine ⟨h2.1, RoundIn.mono h2.2 ?_⟩; intro e w'' he; cases e <;> first | exact ih _ _ hq he | exact hq _ _ _ he | exact he.imp fun _ ⟨w, h⟩ => ⟨w, hq _ _ _ h⟩)
              | halt x w' => cases x <;> simp only [Oper.uponIn] at h2 ⊢; exact hq _ _ _ h2
            · rename_i hw
              simp only [hw] at h
              exact ⟨h.1, ih _ _ hq h.2⟩
      refine hmono _ _ _ _ _ ?_ this
      rintro e a' w' ⟨rfl, hp⟩
      rw [e2] at hp
      exact ⟨rfl, hp.trans hx (fun id h => .inl h) (Nat.le_refl _) hmo⟩
end
end Go.Ev
/- Blocks by other numbers. -/
namespace Go.Ev
theorem foldL_map {α β : Type} (f : α → β) : ∀ l : List α, foldL [] (fun v _ ih => f v :: ih) l = l.map f
  | [] => rfl
  | v :: l => by
    show f v :: foldL [] (fun v _ ih => f v :: ih) l = _
    rw [foldL_map f l]; rfl
structure RenTo (σ : Nat → Option Nat) (c c2 : Cx) : Prop where
  M : c2.M = c.M
  ids : ∀ i j, σ i = some j → c.V i → c2.V j ∧ c2.ι j = c.ι i
theorem RenTo.at {σ : Nat → Option Nat} {c c2 : Cx} (h : RenTo σ c c2) (p : Bool) : RenTo σ (c.at p) (c2.at p) := by
  cases p
  · exact h
  · exact ⟨h.M, fun _ _ _ q => q.elim⟩
theorem none_eq {c c2 : Cx} (h : c2.M = c.M) : c2.none = c.none := by unfold Cx.none; rw [h]
theorem RD.reM {w : World} {c c2 : Cx} (h : c2.M = c.M) {k : Con} {b o : Nat} (hr : RD w c k b o) : RD w c2 k b o := by
  cases hr with | mk _ _ _ arr e fz g h1 h2 h3 h4 =>
  exact .mk k b o arr e fz g (by rw [h]; exact h1) h2 h3 (fun i j v hi hj hv => by rw [none_eq h]; exact h4 i j v hi hj hv)
section
variable {σ : Nat → Option Nat} {w : World} {c c2 : Cx} (hs : RenTo σ c c2)
include hs
theorem ren0_rel {v : AV} {v' : Value} (h : VR w c v v') : VR w c2 (ren0 σ v) v' := by
  cases h with
  | unk => exact .unk _
  | val => exact .val _
  | agg l l' hl => exact .unk _
  | ro k cap a m h1 h2 h3 h4 => exact .ro k cap a m h1 h2 h3 (fun b o e hp => (h4 b o e hp).reM hs.M)
  | rptr k r j b o h1 h2 => exact .rptr k r j b o h1 (h2.reM hs.M)
  | own id off len cap wd a m h1 h2 h3 h4 h5 =>
    simp only [ren0]
    split
    · rename_i j hj
      obtain ⟨g1, g2⟩ := hs.ids id j hj h1
      exact .own j off len cap wd a m g1 (by rw [g2]; exact h2) h3 h4 (by rw [g2]; exact h5)
    · exact .unk _
  | ptr id r j h1 h2 =>
    simp only [ren0]
    split
    · rename_i k hk
      obtain ⟨g1, g2⟩ := hs.ids id k hk h1
      have := VR.ptr (W := w) (c := c2) k r j g1 (by rw [g2]; exact h2)
      rw [g2] at this
      exact this
    · exact .unk _
  | clo f x y x' y' h1 h2 h3 => exact .unk _
  | tup l l' hl => exact .unk _
  | ifc t v v' h1 => exact .unk _
theorem map_rel {f : AV → AV} (hf : ∀ v v', VR w c v v' → VR w c2 (f v) v') : ∀ {l : List AV} {l' : List Value}, VRs w c l l' → VRs w c2 (foldL [] (fun v _ ih => f v :: ih) l) l'
  | _, _, .nil => .nil
  | _, _, .cons v v' l l' h1 h2 => .cons _ _ _ _ (hf v v' h1) (map_rel hf h2)
theorem renF_rel {f g : Fn} (hg : renF σ f = some g) (hf : fnOk c f) : fnOk c2 g ∧ renFn c2 g = renFn c f := by
  cases f with
  | yield l =>
    simp only [renF] at hg
    split at hg
    · rename_i j hj
      injection hg with hg
      subst hg
      obtain ⟨g1, g2⟩ := hs.ids l j hj hf
      exact ⟨g1, by simp only [renFn, g2]⟩
    · cases hg
  | _ =>
    simp only [renF, Option.some.injEq] at hg
    subst hg
    exact ⟨trivial, rfl⟩
theorem ren1_rel {v : AV} {v' : Value} (h : VR w c v v') : VR w c2 (ren1 σ v) v' := by
  have h0 := ren0_rel hs h
  cases h with
  | agg l l' hl => exact .agg _ _ (map_rel hs (fun _ _ q => ren0_rel hs q) hl)
  | clo f x y x' y' h1 h2 h3 =>
    simp only [ren1]
    split
    · rename_i g hg
      obtain ⟨g1, g2⟩ := renF_rel hs hg h1
      rw [← g2]
      exact .clo _ _ _ _ _ g1 (map_rel hs (fun _ _ q => ren0_rel hs q) h2) (map_rel hs (fun _ _ q => ren0_rel hs q) h3)
    · exact .unk _
  | ifc t v v' h1 => exact .ifc _ _ _ (ren0_rel hs h1)
  | _ => exact h0
theorem ren_rel {v : AV} {v' : Value} (h : VR w c v v') : VR w c2 (v.ren σ) v' := by
  have h0 := ren1_rel hs h
  cases h with
  | tup l l' hl => exact .tup _ _ (map_rel hs (fun _ _ q => ren1_rel hs q) hl)
  | clo f x y x' y' h1 h2 h3 =>
    simp only [AV.ren]
    split
    · rename_i g hg
      obtain ⟨g1, g2⟩ := renF_rel hs hg h1
      rw [← g2]
      exact .clo _ _ _ _ _ g1 (map_rel hs (fun _ _ q => ren1_rel hs q) h2) (map_rel hs (fun _ _ q => ren1_rel hs q) h3)
    · exact .unk _
  | ifc t v v' h1 => exact .ifc _ _ _ (ren1_rel hs h1)
  | _ => exact h0
theorem rens_rel {l : List AV} {l' : List Value} (h : VRs w c l l') : VRs w c2 (rens σ l) l' := map_rel hs (fun _ _ q => ren_rel hs q) h
theorem Con.ren_len (k : Con) : (k.ren σ).len = k.len := by
  cases k with
  | ints => rfl
  | rows p wd l => simp only [Con.ren, Con.len, renRows, foldL_map]; simp
  | tab => rfl
theorem Con.ren_wd (k : Con) : (k.ren σ).wd = k.wd := by cases k <;> rfl
theorem Con.ren_row (k : Con) (i : Nat) (j : Nat) (v : AV) (h : ((k.ren σ).row i)[j]? = some v) : ∃ u, (k.row i)[j]? = some u ∧ v = ren1 σ u := by
  cases k with
  | ints kd l =>
    refine ⟨v, h, ?_⟩
    cases j with
    | zero => simp [Con.ren, Con.row] at h; subst h; rfl
    | succ j => simp [Con.ren, Con.row] at h
  | rows p wd l =>
    simp only [Con.ren, Con.row, renRows, foldL_map, List.getD_eq_getElem?_getD, List.getElem?_map] at h ⊢
    cases hr : l[i]? with
    | none => rw [hr] at h; simp at h
    | some r =>
      rw [hr] at h
      simp only [Option.map_some, Option.getD_some, ren1s, foldL_map, List.getElem?_map, Option.map_eq_some_iff] at h ⊢
      obtain ⟨u, h1, h2⟩ := h
      exact ⟨u, h1, h2.symm⟩
  | tab wd n f =>
    simp only [Con.ren, Con.row, ren1s, foldL_map, List.getElem?_map, Option.map_eq_some_iff] at h ⊢
    obtain ⟨u, h1, h2⟩ := h
    exact ⟨u, h1, h2.symm⟩
theorem blk_ren (hO : ∀ b, c.O b → c2.O b) {rb : RB} {b b2 : Blk} (h : BlkRel w c rb b) (hb : b.ren σ = some b2) : BlkRel w c2 rb b2 := by
  cases b with
  | cells k =>
    simp only [Blk.ren, Option.some.injEq] at hb
    subst hb
    unfold renC
    cases hpf : k.pureF with
    | true =>
      rw [cond_true]
      refine ⟨h.wd, h.dead, fun q => hO _ (h.own q), fun q => ?_⟩
      obtain ⟨a, e, fz, h1, h2, h3, h4, h5, h6⟩ := h.arr q
      refine ⟨a, e, fz, h1, h2, h3, h4, h5, fun i j v u hi hj hv hu => ?_⟩
      have := h6 i j v u hi hj hv hu
      rw [hpf] at this ⊢
      exact VR.mono (c := c.none) (c' := c2.none) ⟨fun b q => by show c2.M b; rw [hs.M]; exact q, fun _ _ _ => rfl, fun _ q => q.elim⟩ this
    | false =>
    rw [cond_false]
    refine ⟨by rw [Con.ren_wd hs]; exact h.wd, fun q => by rw [Con.ren_len hs]; exact h.dead q, fun q => hO _ (h.own q), fun q => ?_⟩
    obtain ⟨a, e, fz, h1, h2, h3, h4, h5, h6⟩ := h.arr q
    refine ⟨a, e, fz, h1, h2, h3, h4, by rw [Con.ren_len hs]; exact h5, ?_⟩
    intro i j v u hi hj hv hu
    rw [Con.ren_len hs] at hi
    obtain ⟨x, g1, rfl⟩ := Con.ren_row hs k i j v hv
    have e1 : (k.ren σ).pureF = k.pureF := by cases k <;> rfl
    rw [e1]
    exact ren1_rel (hs.at _) (h6 i j x u hi hj g1 hu)
  | loop st pend t ps a b df =>
    simp only [Blk.ren] at hb
    split at hb
    · rename_i d hd
      injection hb with hb
      subst hb
      obtain ⟨g1, g2, ⟨r, r1, r2, r3, r4, r5, r6, r7, r8⟩, g3⟩ := h
      obtain ⟨d1, d2⟩ := hs.ids df d hd g3
      exact ⟨g1, hO _ g2, ⟨r, r1, r2, r3, rens_rel hs r4, r5, r6, r7, by rw [d2]; exact r8⟩, d1⟩
    · cases hb
  | defd =>
    simp only [Blk.ren, Option.some.injEq] at hb
    subst hb
    exact ⟨h.1, hO _ h.2.1, h.2.2⟩
end
theorem posN_get : ∀ (m : List Nat) (id j : Nat), posN id m = some j → m.reverse[j]? = some id
  | [], id, j, h => by cases h
  | a :: l, id, j, h => by
    unfold posN at h
    cases hb : Nat.beq a id with
    | true =>
      rw [hb] at h
      simp only [cond_true, Option.some.injEq] at h
      subst h
      rw [List.reverse_cons, List.getElem?_append_right (by simp)]
      simp [beq_iff.1 hb]
    | false =>
      rw [hb] at h
      have ih := posN_get l id j h
      rw [List.reverse_cons, List.getElem?_append_left]
      · exact ih
      · rcases Nat.lt_or_ge j l.reverse.length with q | q
        · exact q
        · rw [List.getElem?_eq_none q] at ih; cases ih
theorem posN_lt {m : List Nat} {id j : Nat} (h : posN id m = some j) : j < m.length := by
  have := posN_get m id j h
  rcases Nat.lt_or_ge j m.reverse.length with q | q
  · simpa using q
  · rw [List.getElem?_eq_none q] at this; cases this
theorem renE_some {σ : Nat → Option Nat} {es : List Ent} {id k : Nat} {e : Ent} (h : renE σ es id k = some e) : e.id = k ∧ σ id = some k ∧ ∃ e0, findE es id = some e0 ∧ e0.blk.ren σ = some e.blk := by
  unfold renE at h
  split at h
  · rename_i e0 j h1 h2
    cases hb : Nat.beq j k with
    | false => rw [hb] at h; cases h
    | true =>
      rw [hb, cond_true] at h
      have := beq_iff.1 hb
      subst this
      split at h
      · rename_i b hb2
        injection h with h
        subst h
        exact ⟨rfl, h2, e0, h1, hb2⟩
      · cases h
  · cases h
theorem renEs_lt (σ : Nat → Option Nat) (es : List Ent) : ∀ (m : List Nat) (e : Ent), e ∈ renEs σ es m → e.id < m.length
  | [], e, h => by cases h
  | id :: m, e, h => by
    unfold renEs at h
    split at h
    · rename_i e0 he0
      rcases List.mem_cons.1 h with q | q
      · subst q
        rw [(renE_some he0).1]; simp
      · have := renEs_lt σ es m e q; simp; omega
    · have := renEs_lt σ es m e h; simp; omega
theorem renEs_uniq (σ : Nat → Option Nat) (es : List Ent) : ∀ m : List Nat, Uniq (renEs σ es m)
  | [] => List.nodup_nil
  | id :: m => by
    unfold renEs
    split
    · rename_i e0 he0
      rw [uniq_cons]
      refine ⟨fun x hx => ?_, renEs_uniq σ es m⟩
      have := renEs_lt σ es m x hx
      rw [(renE_some he0).1]; omega
    · exact renEs_uniq σ es m
theorem renEs_mem (σ : Nat → Option Nat) (es : List Ent) : ∀ (m : List Nat) (e : Ent), e ∈ renEs σ es m → ∃ id e0, σ id = some e.id ∧ findE es id = some e0 ∧ e0.blk.ren σ = some e.blk
  | [], e, h => by cases h
  | id :: m, e, h => by
    unfold renEs at h
    split at h
    · rename_i e0 he0
      rcases List.mem_cons.1 h with q | q
      · subst q
        obtain ⟨h1, h2, e1, h3, h4⟩ := renE_some he0
        exact ⟨id, e1, by rw [h1]; exact h2, h3, h4⟩
      · exact renEs_mem σ es m e q
    · exact renEs_mem σ es m e h
end Go.Ev
/- Code. -/
namespace Go.Ev
def exitOf : AX → Exit
  | .normal => .normal
  | .exit id => .exit id
  | .ret => .ret
def marks (c : Cx) (ds : List Nat) : List Deferred := ds.map fun id => { target := .collected (c.ι id).blk, args := #[] }
structure StRel (w : World) (c : Cx) (s : St) (a : Act) : Prop where
  t : VRs w c s.t a.tmps.toList
  h : HR w c s.h.G
  d : a.defers = marks c s.d
  dv : ∀ id ∈ s.d, c.V id
structure ExtW (root : Md) (W : World) (c : Cx) (W' : World) (c' : Cx) : Prop where
  M : ∀ b, c.M b → c'.M b
  mkeep : ∀ b, b < W.heap.size → c.M b → W'.heap[b]? = W.heap[b]?
  os : W'.os = W.os
  tape : W'.tape = W.tape
  output : W'.output = W.output
  size : W.heap.size ≤ W'.heap.size
  keep : ∀ b, b < W.heap.size → ¬ c.O b → W'.heap[b]? = W.heap[b]?
  own : ∀ b, b < W.heap.size → c'.O b → c.O b
  Mo : ∀ b, b < W.heap.size → c'.M b → c.M b ∨ (root.rt = true ∧ c.O b)
  nd : ∀ b, c'.M b → ¬ c.M b → ¬ c'.O b ∧ b < W'.heap.size
theorem Ext.w {root : Md} {W W' : World} {c c' : Cx} (h : Ext W c W' c') : ExtW root W c W' c' := ⟨h.M, h.mkeep, h.os, h.tape, h.output, h.size, h.keep, h.own, fun b hb q => .inl (h.Mo b hb q), h.nd⟩
theorem ExtW.trans {root : Md} {W W1 W2 : World} {c c1 c2 : Cx} (h : ExtW root W c W1 c1) (k : ExtW root W1 c1 W2 c2) : ExtW root W c W2 c2 :=
  ⟨fun b hm => k.M b (h.M b hm), fun b hb hm => (k.mkeep b (Nat.lt_of_lt_of_le hb h.size) (h.M b hm)).trans (h.mkeep b hb hm),
   k.os.trans h.os, k.tape.trans h.tape, k.output.trans h.output, Nat.le_trans h.size k.size,
   fun b hb ho => (k.keep b (Nat.lt_of_lt_of_le hb h.size) (fun o => ho (h.own b hb o))).trans (h.keep b hb ho),
   fun b hb ho => h.own b hb (k.own b (Nat.lt_of_lt_of_le hb h.size) ho),
   fun b hb hm => (k.Mo b (Nat.lt_of_lt_of_le hb h.size) hm).elim (h.Mo b hb) (fun q => .inr ⟨q.1, h.own b hb q.2⟩),
   fun b hm hn => by
     by_cases h1 : c1.M b
     · obtain ⟨q1, q2⟩ := h.nd b h1 hn
       exact ⟨fun o => q1 (k.own b q2 o), Nat.lt_of_lt_of_le q2 k.size⟩
     · exact k.nd b hm h1⟩
structure Keeps (root : Md) (c c' : Cx) (n n' : Nat) : Prop where
  le : root.rt = false → n ≤ n'
  ids : root.rt = false → ∀ i, c.V i → c'.V i ∧ c'.ι i = c.ι i
  V : root.rt = false → ∀ id, c'.V id → c.V id ∨ (n ≤ id ∧ id < n')
  R : root.rt = true → ∀ id, c'.V id → id < n'
  P : root.rt = true → ∀ i, i < root.pins → c.V i → c'.V i ∧ c'.ι i = c.ι i
structure Fresh (root : Md) (c : Cx) (n n' : Nat) : Prop where
  V : root.rt = false → ∀ id, n ≤ id → id < n' → ¬ c.V id
  R : root.rt = true → ∀ id, c.V id → id < n
theorem Keeps.trans {root : Md} {c c1 c2 : Cx} {n n1 n2 : Nat} (h : Keeps root c c1 n n1) (k : Keeps root c1 c2 n1 n2) : Keeps root c c2 n n2 := by
  refine ⟨fun q => Nat.le_trans (h.le q) (k.le q), fun q i hi => ?_, fun q id hid => ?_, k.R, fun q i hp hi => ?_⟩
  · obtain ⟨a1, a2⟩ := h.ids q i hi
    obtain ⟨b1, b2⟩ := k.ids q i a1
    exact ⟨b1, b2.trans a2⟩
  · have l1 := h.le q
    have l2 := k.le q
    rcases k.V q id hid with z | z
    · rcases h.V q id z with y | y
      · exact .inl y
      · exact .inr ⟨y.1, by omega⟩
    · exact .inr ⟨by omega, z.2⟩
  · obtain ⟨a1, a2⟩ := h.P q i hp hi
    obtain ⟨b1, b2⟩ := k.P q i hp a1
    exact ⟨b1, b2.trans a2⟩
theorem Fresh.onward {root : Md} {c c1 : Cx} {n n1 n2 : Nat} (h : Fresh root c n n2) (k : Keeps root c c1 n n1) : Fresh root c1 n1 n2 := by
  refine ⟨fun q id h1 h2 h3 => ?_, fun q id hid => k.R q id hid⟩
  have l1 := k.le q
  rcases k.V q id h3 with z | z
  · exact h.V q id (by omega) h2 z
  · omega
theorem Fresh.less {root : Md} {c : Cx} {n n1 n2 : Nat} (h : Fresh root c n n2) (hl : root.rt = false → n1 ≤ n2) : Fresh root c n n1 :=
  ⟨fun q id h1 h2 => h.V q id h1 (Nat.lt_of_lt_of_le h2 (hl q)), h.R⟩
theorem Fresh.region {root : Md} {c : Cx} {n n' : Nat} (h : Fresh root c n n') : ∀ id, n ≤ id → id < n' → ¬ c.V id := by
  intro id h1 h2 h3
  obtain ⟨rt, p⟩ := root
  cases rt with
  | false => exact h.V rfl id h1 h2 h3
  | true => have := h.R rfl id h3; omega
theorem Keeps.region {root : Md} {w w' : World} {c c' : Cx} {n n' : Nat} (hf : Fresh root c n n') (hle : n ≤ n') (hx : Ext w c w' c') (hV : ∀ id, c'.V id → c.V id ∨ (n ≤ id ∧ id < n')) : Keeps root c c' n n' := by
  refine ⟨fun _ => hle, fun _ => hx.ids, fun _ => hV, fun q id hid => ?_, fun q i _ hi => hx.ids i hi⟩
  rcases hV id hid with z | z
  · have := hf.R q id z; omega
  · exact z.2
def HEffR (root : Md) (h h' : Heap) : Prop := h'.ok ∧ (root.rt = false → HEff h h')
theorem HEffR.refl {root : Md} {h : Heap} (hk : h.ok) : HEffR root h h := ⟨hk, fun _ => HEff.refl hk⟩
theorem HEffR.trans {root : Md} {h h1 h2 : Heap} (a : HEffR root h h1) (b : HEffR root h1 h2) : HEffR root h h2 := ⟨b.1, fun q => (a.2 q).trans (b.2 q)⟩
theorem HEff.r {h h' : Heap} (root : Md) (a : HEff h h') : HEffR root h h' := ⟨a.ok, fun _ => a⟩
theorem HEffR.le {root : Md} {h h' : Heap} (a : HEffR root h h') : root.rt = false → h.next ≤ h'.next := fun q => (a.2 q).next
def PostC (root : Md) (w : World) (c : Cx) (n : Nat) (s' : St) : Act → World → Prop := fun a' w' =>
  ∃ c', StRel w' c' s' a' ∧ ExtW root w c w' c' ∧ Keeps root c c' n s'.h.next
theorem marks_ids {c c' : Cx} {ds : List Nat} (hi : ∀ i, c.V i → c'.V i ∧ c'.ι i = c.ι i) (hv : ∀ id ∈ ds, c.V id) : marks c' ds = marks c ds := by
  unfold marks
  refine List.map_congr_left fun id hid => ?_
  rw [(hi id (hv id hid)).2]
theorem PostC.trans {root : Md} {w w1 : World} {c c1 : Cx} {n n1 : Nat} {s' : St} {a' : Act} {w' : World} (hx : ExtW root w c w1 c1) (hk : Keeps root c c1 n n1)
    (hp : PostC root w1 c1 n1 s' a' w') : PostC root w c n s' a' w' := by
  obtain ⟨c', k1, k2, k3⟩ := hp
  exact ⟨c', k1, hx.trans k2, hk.trans k3⟩
def COk (P : Program) (root : Md) (round : Bool) (c : Code) {ρ : Type} (X : KC ρ → St → Option ρ) : Prop := ∀ (K : KC ρ) (s : St) (r : ρ), s.h.ok → X K s = some r →
  ∃ e s', K e s' = some r ∧ HEffR root s.h s'.h ∧ ∀ {F : Fence} (hF : FOk F) (hro : round = false → F.round = none) (w : World) (cx : Cx) (a : Act), StRel w cx s a → Fresh root cx s.h.next s'.h.next →
    c.wpIn F 0 P (fun e' a' w' => e' = exitOf e ∧ PostC root w cx s.h.next s' a' w') a w
def LoopWp (F : Fence) (P : Program) (c : Code) (Q : Exit → Act → World → Prop) : Nat → Act → World → Prop
  | 0, _, _ => False
  | n + 1, a, w => c.wpIn F 0 P (Exit.then (LoopWp F P c Q n) Q) a w
theorem then_mono {K K' : Act → World → Prop} {Q Q' : Exit → Act → World → Prop} (hk : ∀ a w, K a w → K' a w) (hq : ∀ e a w, Q e a w → Q' e a w) : ∀ e a w, Exit.then K Q e a w → Exit.then K' Q' e a w := by
  intro e a w h
  cases e <;> first | exact hk _ _ h | exact hq _ _ _ h
theorem LoopWp.mono {F : Fence} {P : Program} {c : Code} {Q Q' : Exit → Act → World → Prop} (hq : ∀ e a w, Q e a w → Q' e a w) : ∀ n a w, LoopWp F P c Q n a w → LoopWp F P c Q' n a w
  | 0, _, _, h => h
  | n + 1, a, w, h => wpIn_mono h (then_mono (LoopWp.mono hq n) hq)
open Classical in
theorem wpIn_loop_n {F : Fence} {P : Program} {c : Code} {Q : Exit → Act → World → Prop} {a : Act} {w : World} (h : ∃ n, LoopWp F P c Q n a w) : (Code.loop c).wpIn F 0 P Q a w := by
  have least : ∀ (p : Nat → Prop), (∃ n, p n) → ∃ n, p n ∧ ∀ m, p m → n ≤ m := by
    intro p ⟨n, hn⟩
    induction n using Nat.strongRecOn with
    | _ n ih =>
      by_cases hm : ∃ m, m < n ∧ p m
      · obtain ⟨m, h1, h2⟩ := hm
        exact ih m h1 h2
      · refine ⟨n, hn, fun m hp => ?_⟩
        rcases Nat.lt_or_ge m n with q | q
        · exact absurd ⟨m, q, hp⟩ hm
        · exact q
  let μ : Act → World → Nat := fun a w => if h : ∃ n, LoopWp F P c Q n a w then Classical.choose (least _ h) else 0
  refine wpIn_loop (fun a w => ∃ n, LoopWp F P c Q n a w) μ h ?_
  intro a w hI
  have hμ : μ a w = Classical.choose (least _ hI) := by simp only [μ]; rw [dif_pos hI]
  obtain ⟨h1, h2⟩ := Classical.choose_spec (least _ hI)
  rw [← hμ] at h1 h2
  cases hn : μ a w with
  | zero => rw [hn] at h1; exact h1.elim
  | succ n =>
    rw [hn] at h1
    refine wpIn_mono h1 (then_mono (fun a' w' h' => ⟨⟨n, h'⟩, ?_⟩) (fun _ _ _ h => h))
    have hI' : ∃ n, LoopWp F P c Q n a' w' := ⟨n, h'⟩
    have hμ' : μ a' w' = Classical.choose (least _ hI') := by simp only [μ]; rw [dif_pos hI']
    have := (Classical.choose_spec (least _ hI')).2 n h'
    rw [← hμ'] at this
    omega
theorem trim_ok {ks : Option (List Nat)} {s : St} (hk : s.h.ok) : (trim ks s).h.ok ∧ HEff s.h (trim ks s).h ∧ (trim ks s).h.next = s.h.next ∧ (trim ks s).d = s.d ∧ ∀ w c a, StRel w c s a → StRel w c (trim ks s) a := by
  cases ks with
  | none => exact ⟨hk, HEff.refl hk, rfl, rfl, fun _ _ _ h => h⟩
  | some ks =>
    obtain ⟨m, hm⟩ : ∃ m, m = reach fuelR s.h.es (refss (keepT 0 s.t ks) ++ s.d) [] := ⟨_, rfl⟩
    have he : trim (some ks) s = ⟨keepT 0 s.t ks, s.d, ⟨s.h.next, pickE s.h.es m⟩⟩ := by rw [hm]; rfl
    rw [he]
    have hf : ∀ id e, findE (pickE s.h.es m) id = some e → findE s.h.es id = some e := by
      intro id e h
      rw [findE_pickE] at h
      split at h
      · exact h
      · cases h
    have hok : (⟨s.h.next, pickE s.h.es m⟩ : Heap).ok := ⟨List.Nodup.sublist ((pickE_sub _ _).map _) hk.uniq, fun id e h => hk.lt id e (hf id e h)⟩
    refine ⟨hok, ⟨Nat.le_refl _, hok, fun id e' h _ => ⟨e', hf id e' h, Nat.le_refl _, fun _ => rfl⟩⟩, rfl, rfl, ?_⟩
    intro w c a hr
    refine ⟨hr.t.masked rfl _ (fun _ _ => rfl), hr.h.sub ?_, hr.d, hr.dv⟩
    intro id b hb
    simp only [Heap.G, Option.map_eq_some_iff] at hb ⊢
    obtain ⟨e, h1, h2⟩ := hb
    exact ⟨e, hf id e h1, h2⟩
theorem renIds_marks {σ : Nat → Option Nat} {c c2 : Cx} (hs : RenTo σ c c2) : ∀ {ds l : List Nat}, renIds σ ds = some l → (∀ id ∈ ds, c.V id) → marks c2 l = marks c ds ∧ ∀ id ∈ l, c2.V id
  | [], l, h, _ => by
    simp only [renIds, Option.some.injEq] at h
    subst h
    exact ⟨rfl, by simp⟩
  | d :: ds, l, h, hv => by
    unfold renIds at h
    split at h
    · rename_i j l' h1 h2
      injection h with h
      subst h
      obtain ⟨g1, g2⟩ := hs.ids d j h1 (hv d (by simp))
      obtain ⟨k1, k2⟩ := renIds_marks hs h2 (fun id hid => hv id (by simp [hid]))
      refine ⟨by simp only [marks, List.map_cons] at k1 ⊢; rw [k1, g2], ?_⟩
      intro id hid
      rcases List.mem_cons.1 hid with q | q
      · subst q; exact g1
      · exact k2 id q
    · cases h
theorem canonM_ok {p : Nat} {m : List Nat} {t : List AV} {s : St} (hk : s.h.ok) (htl : ∀ w c l, VRs w c s.t l → VRs w c t l) : (canonM m t s).h.ok ∧ ∀ w c a, StRel w c s a → (∀ id, c.V id → id < s.h.next) →
    ∃ c1, StRel w c1 (canonM m t s) a ∧ ExtW ⟨true, p⟩ w c w c1 ∧ (∀ id, c1.V id → id < (canonM m t s).h.next) ∧ (c1 = c ∨ ∀ i j, posN i m = some j → c.V i → c1.V j ∧ c1.ι j = c.ι i) := by
  unfold canonM
  split
  · rename_i d hd
    obtain ⟨σ, hσ⟩ : ∃ σ : Nat → Option Nat, σ = fun id => posN id m := ⟨_, rfl⟩
    rw [← hσ] at hd ⊢
    have hlt : ∀ i j, σ i = some j → j < m.length := by rw [hσ]; exact fun i j h => posN_lt h
    have hget : ∀ i j, σ i = some j → m.reverse.getD j 0 = i := by
      rw [hσ]
      intro i j h
      simp [List.getD_eq_getElem?_getD, posN_get m i j h]
    have huq := renEs_uniq σ s.h.es m
    refine ⟨⟨huq, fun id e he => ?_⟩, ?_⟩
    · have := renEs_lt σ s.h.es m e (findE_some_mem he)
      rw [findE_id he] at this
      exact this
    · intro w c a hr hb
      let c2 : Cx := ⟨c.M, c.O, fun j => c.ι (m.reverse.getD j 0), fun j => ∃ i, σ i = some j ∧ c.V i⟩
      have hs : RenTo σ c c2 := ⟨rfl, fun i j h hv => ⟨⟨i, h, hv⟩, by show c.ι (m.reverse.getD j 0) = c.ι i; rw [hget i j h]⟩⟩
      obtain ⟨d1, d2⟩ := renIds_marks hs hd hr.dv
      refine ⟨c2, ⟨rens_rel hs (htl w c _ hr.t), ?_, by rw [hr.d]; exact d1.symm, d2⟩, ⟨fun _ q => q, fun _ _ _ => rfl, rfl, rfl, rfl, Nat.le_refl _, fun _ _ _ => rfl, fun _ _ h => h, fun _ _ q => .inl q, fun _ q q' => absurd q q'⟩, ?_, .inr (fun i j hij hi => hs.ids i j (by rw [hσ]; exact hij) hi)⟩
      · have hG : ∀ j b, (⟨m.length, renEs σ s.h.es m⟩ : Heap).G j = some b → ∃ i e0, σ i = some j ∧ findE s.h.es i = some e0 ∧ e0.blk.ren σ = some b := by
          intro j b hb
          simp only [Heap.G, Option.map_eq_some_iff] at hb
          obtain ⟨e, he, rfl⟩ := hb
          obtain ⟨i, e0, h1, h2, h3⟩ := renEs_mem σ s.h.es m e (findE_some_mem he)
          rw [findE_id he] at h1
          exact ⟨i, e0, h1, h2, h3⟩
        have hGo : ∀ i e0, findE s.h.es i = some e0 → s.h.G i = some e0.blk := fun i e0 h => by simp [Heap.G, h]
        refine ⟨?_, ?_, ?_, hr.h.dis⟩
        · intro j b hb
          obtain ⟨i, e0, h1, h2, h3⟩ := hG j b hb
          exact ⟨i, h1, hr.h.valid i _ (hGo i e0 h2)⟩
        · intro j b hb
          obtain ⟨i, e0, h1, h2, h3⟩ := hG j b hb
          have := blk_ren hs (fun _ q => q) (hr.h.blk i _ (hGo i e0 h2)) h3
          have e1 : c2.ι j = c.ι i := by show c.ι (m.reverse.getD j 0) = c.ι i; rw [hget i j h1]
          rw [e1]; exact this
        · intro j1 j2 b1 b2 hb1 hb2 l1 l2 hbk
          obtain ⟨i1, e1, h1, h2, h3⟩ := hG j1 b1 hb1
          obtain ⟨i2, e2, g1, g2, g3⟩ := hG j2 b2 hb2
          have q1 : c2.ι j1 = c.ι i1 := by show c.ι (m.reverse.getD j1 0) = c.ι i1; rw [hget i1 j1 h1]
          have q2 : c2.ι j2 = c.ι i2 := by show c.ι (m.reverse.getD j2 0) = c.ι i2; rw [hget i2 j2 g1]
          rw [q1] at l1 hbk
          rw [q2] at l2 hbk
          have := hr.h.inj i1 i2 _ _ (hGo i1 e1 h2) (hGo i2 e2 g2) l1 l2 hbk
          subst this
          rw [h1] at g1
          injection g1
      · rintro j ⟨i, h1, _⟩
        exact hlt i j h1
  · exact ⟨hk, fun w c a hr hb => ⟨c, ⟨hr.t, hr.h, hr.d, hr.dv⟩, (Ext.refl w c).w, hb, .inl rfl⟩⟩
theorem posN_downTo : ∀ {p i : Nat}, i < p → posN i (downTo p) = some i
  | 0, i, h => by omega
  | p + 1, i, h => by
    show (bif Nat.beq p i then some (downTo p).length else posN i (downTo p)) = some i
    have hl : ∀ k, (downTo k).length = k := by
      intro k
      induction k with
      | zero => rfl
      | succ k ih => show (downTo k).length + 1 = _; rw [ih]
    by_cases q : p = i
    · subst q; rw [Nat.beq_refl, cond_true, hl]
    · rw [beqF q, cond_false]; exact posN_downTo (by omega)
theorem posN_geL {p i : Nat} (h : i < p) : ∀ (l r : List Nat), posN i (geL p l ++ r) = posN i r
  | [], r => rfl
  | a :: l, r => by
    show posN i ((bif Nat.ble p a then a :: geL p l else geL p l) ++ r) = _
    cases hb : Nat.ble p a with
    | true =>
      have : ¬ a = i := by have := Nat.le_of_ble_eq_true hb; omega
      show (bif Nat.beq a i then some (geL p l ++ r).length else posN i (geL p l ++ r)) = _
      rw [beqF this, cond_false]; exact posN_geL h l r
    | false => exact posN_geL h l r
theorem trimR_ok {root : Md} {ks : Option (List Nat)} {s : St} (hk : s.h.ok) : HEffR root s.h (trimR root ks s).h ∧ ∀ w c a n', StRel w c s a → Fresh root c s.h.next n' →
    ∃ c1, StRel w c1 (trimR root ks s) a ∧ ExtW root w c w c1 ∧ Keeps root c c1 s.h.next (trimR root ks s).h.next := by
  obtain ⟨rt, p⟩ := root
  cases rt with
  | false =>
    obtain ⟨t1, t2, t3, t4, t5⟩ := trim_ok (ks := ks) hk
    refine ⟨t2.r _, fun w c a n' hr hf => ⟨c, t5 w c a hr, (Ext.refl w c).w, ?_⟩⟩
    show Keeps ⟨false, p⟩ c c s.h.next (trim ks s).h.next
    rw [t3]
    exact ⟨fun _ => Nat.le_refl _, fun _ i hi => ⟨hi, rfl⟩, fun _ id hid => .inl hid, fun q => (by cases q), fun q => (by cases q)⟩
  | true =>
    show HEffR ⟨true, p⟩ s.h (canonP p ks s).h ∧ ∀ w c a n', StRel w c s a → Fresh ⟨true, p⟩ c s.h.next n' → ∃ c1, StRel w c1 (canonP p ks s) a ∧ ExtW ⟨true, p⟩ w c w c1 ∧ Keeps ⟨true, p⟩ c c1 s.h.next (canonP p ks s).h.next
    cases ks with
    | none => exact ⟨HEffR.refl hk, fun w c a n' hr hf => ⟨c, hr, (Ext.refl w c).w, ⟨fun q => (by cases q), fun q => (by cases q), fun q => (by cases q), hf.R, fun _ i _ hi => ⟨hi, rfl⟩⟩⟩⟩
    | some ks =>
      obtain ⟨k1, k2⟩ := canonM_ok (p := p) (m := geL p (reach fuelR s.h.es (refss (keepT 0 s.t ks) ++ (s.d ++ downTo p)) []) ++ downTo p) (t := keepT 0 s.t ks) hk (fun w c l h => h.masked rfl _ (fun _ _ => rfl))
      refine ⟨⟨k1, fun q => (by cases q)⟩, fun w c a n' hr hf => ?_⟩
      obtain ⟨c1, r1, x1, v1, u1⟩ := k2 w c a hr (hf.R rfl)
      refine ⟨c1, r1, x1, ⟨fun q => (by cases q), fun q => (by cases q), fun q => (by cases q), fun _ => v1, fun _ i hi hv => ?_⟩⟩
      rcases u1 with rfl | u1
      · exact ⟨hv, rfl⟩
      · exact u1 i i (by rw [posN_geL hi]; exact posN_downTo hi) hv
section
variable {P : Program} {ρ : Type} {root : Md}
theorem Keeps.refl {c : Cx} {n : Nat} (hf : Fresh root c n n) : Keeps root c c n n := ⟨fun _ => Nat.le_refl _, fun _ i hi => ⟨hi, rfl⟩, fun _ id hid => .inl hid, hf.R, fun _ i _ hi => ⟨hi, rfl⟩⟩
theorem COk.skip {round : Bool} : COk P root round .skip (fun (K : KC ρ) s => K .normal s) := fun K s r hk hK =>
  ⟨.normal, s, hK, HEffR.refl hk, fun hF hro w cx a hr hfr => wpIn_skip ⟨rfl, cx, hr, (Ext.refl w cx).w, Keeps.refl hfr⟩⟩
theorem COk.label {round : Bool} {l : Nat} : COk P root round (.label l) (fun (K : KC ρ) s => K .normal s) := fun K s r hk hK =>
  ⟨.normal, s, hK, HEffR.refl hk, fun hF hro w cx a hr hfr => wpIn_label ⟨rfl, cx, hr, (Ext.refl w cx).w, Keeps.refl hfr⟩⟩
theorem COk.exit {round : Bool} {id : Nat} : COk P root round (.exit id) (fun (K : KC ρ) s => K (.exit id) s) := fun K s r hk hK =>
  ⟨.exit id, s, hK, HEffR.refl hk, fun hF hro w cx a hr hfr => wpIn_exit ⟨rfl, cx, hr, (Ext.refl w cx).w, Keeps.refl hfr⟩⟩
theorem COk.ret {round : Bool} : COk P root round .ret (fun (K : KC ρ) s => K .ret s) := fun K s r hk hK =>
  ⟨.ret, s, hK, HEffR.refl hk, fun hF hro w cx a hr hfr => wpIn_ret ⟨rfl, cx, hr, (Ext.refl w cx).w, Keeps.refl hfr⟩⟩
theorem COk.seq {round : Bool} {x y : Code} {X Y : KC ρ → St → Option ρ} (hx : COk P root round x X) (hy : COk P root round y Y) (ks : Option (List Nat)) : COk P root round (.seq x y) (fun K s => X (thenK (fun s' => Y K (trimR root ks s')) K) s) := by
  intro K s r hk hK
  obtain ⟨e, s1, h1, h2, h3⟩ := hx _ s r hk hK
  cases e with
  | normal =>
    obtain ⟨t2, t5⟩ := trimR_ok (root := root) (ks := ks) h2.1
    obtain ⟨e', s2, k1, k2, k3⟩ := hy K (trimR root ks s1) r t2.1 h1
    refine ⟨e', s2, k1, h2.trans (t2.trans k2), fun hF hro w cx a hr hfr => ?_⟩
    refine wpIn_seq (wpIn_mono (h3 hF hro w cx a hr (hfr.less (t2.trans k2).le)) ?_)
    rintro e1 a1 w1 ⟨rfl, c1, r1, x1, v1⟩
    have f1 := hfr.onward v1
    obtain ⟨c2, r2, x2, v2⟩ := t5 w1 c1 a1 _ r1 f1
    refine wpIn_mono (k3 hF hro w1 c2 a1 r2 (f1.onward v2)) ?_
    rintro e2 a2 w2 ⟨rfl, hp⟩
    exact ⟨rfl, hp.trans (x1.trans x2) (v1.trans v2)⟩
  | exit i =>
    refine ⟨.exit i, s1, h1, h2, fun hF hro w cx a hr hfr => wpIn_seq (wpIn_mono (h3 hF hro w cx a hr hfr) ?_)⟩
    rintro e1 a1 w1 ⟨rfl, hp⟩
    exact ⟨rfl, hp⟩
  | ret =>
    refine ⟨.ret, s1, h1, h2, fun hF hro w cx a hr hfr => wpIn_seq (wpIn_mono (h3 hF hro w cx a hr hfr) ?_)⟩
    rintro e1 a1 w1 ⟨rfl, hp⟩
    exact ⟨rfl, hp⟩
theorem COk.cond {round : Bool} {c : Operand} {x y : Code} {X Y : KC ρ → St → Option ρ} (hx : COk P root round x X) (hy : COk P root round y Y) : COk P root round (.cond c x y) (fun K s => condV (ev s.t c) (X K s) (Y K s)) := by
  intro K s r hk hK
  replace hK : condV (ev s.t c) (X K s) (Y K s) = some r := hK
  unfold condV at hK
  split at hK
  · rename_i b hb
    cases b with
    | true =>
      obtain ⟨e, s', h1, h2, h3⟩ := hx K s r hk hK
      refine ⟨e, s', h1, h2, fun hF hro w cx a hr hfr => ?_⟩
      have hc := ev_sound hr.t c
      rw [hb] at hc
      exact wpIn_cond_true hc.val_inv (h3 hF hro w cx a hr hfr)
    | false =>
      obtain ⟨e, s', h1, h2, h3⟩ := hy K s r hk hK
      refine ⟨e, s', h1, h2, fun hF hro w cx a hr hfr => ?_⟩
      have hc := ev_sound hr.t c
      rw [hb] at hc
      exact wpIn_cond_false hc.val_inv (h3 hF hro w cx a hr hfr)
  · cases hK
theorem COk.block {round : Bool} {id : Nat} {x : Code} {X : KC ρ → St → Option ρ} (hx : COk P root round x X) : COk P root round (.block id x) (fun K s => X (blockK id K) s) := by
  intro K s r hk hK
  obtain ⟨e, s', h1, h2, h3⟩ := hx _ s r hk hK
  cases e with
  | normal =>
    refine ⟨.normal, s', h1, h2, fun hF hro w cx a hr hfr => wpIn_block (wpIn_mono (h3 hF hro w cx a hr hfr) ?_)⟩
    rintro e1 a1 w1 ⟨rfl, hp⟩
    exact ⟨rfl, hp⟩
  | ret =>
    refine ⟨.ret, s', h1, h2, fun hF hro w cx a hr hfr => wpIn_block (wpIn_mono (h3 hF hro w cx a hr hfr) ?_)⟩
    rintro e1 a1 w1 ⟨rfl, hp⟩
    exact ⟨rfl, hp⟩
  | exit i =>
    have h1' : (bif Nat.beq i id then K .normal s' else K (.exit i) s') = some r := h1
    cases hb : Nat.beq i id with
    | true =>
      rw [hb] at h1'
      refine ⟨.normal, s', h1', h2, fun hF hro w cx a hr hfr => wpIn_block (wpIn_mono (h3 hF hro w cx a hr hfr) ?_)⟩
      rintro e1 a1 w1 ⟨rfl, hp⟩
      show (if i = id then _ else _)
      rw [if_pos (beq_iff.1 hb)]
      exact ⟨rfl, hp⟩
    | false =>
      rw [hb] at h1'
      refine ⟨.exit i, s', h1', h2, fun hF hro w cx a hr hfr => wpIn_block (wpIn_mono (h3 hF hro w cx a hr hfr) ?_)⟩
      rintro e1 a1 w1 ⟨rfl, hp⟩
      show (if i = id then _ else _)
      rw [if_neg (fun q => by rw [beqT q] at hb; cases hb)]
      exact ⟨rfl, hp⟩
theorem COk.loop {round : Bool} {x : Code} {X : KC ρ → St → Option ρ} (hx : COk P root round x X) (ks : Option (List Nat)) (n : Nat) : COk P root round (.loop x) (fun K s => loopK (trimR root ks) X K n (trimR root ks s)) := by
  have key : ∀ n (K : KC ρ) (s : St) (r : ρ), s.h.ok → loopK (trimR root ks) X K n s = some r → ∃ e s', K e s' = some r ∧ HEffR root s.h s'.h ∧ ∀ {F : Fence} (hF : FOk F) (hro : round = false → F.round = none) (w : World) (cx : Cx) (a : Act), StRel w cx s a → Fresh root cx s.h.next s'.h.next →
      LoopWp F P x (fun e' a' w' => e' = exitOf e ∧ PostC root w cx s.h.next s' a' w') n a w := by
    intro n
    induction n with
    | zero => intro K s r hk hK; cases hK
    | succ n ih =>
      intro K s r hk hK
      have hK' : X (fun e s' => match e with | .normal => loopK (trimR root ks) X K n (trimR root ks s') | e => K e s') s = some r := hK
      obtain ⟨e, s1, h1, h2, h3⟩ := hx _ s r hk hK'
      cases e with
      | normal =>
        obtain ⟨t2, t5⟩ := trimR_ok (root := root) (ks := ks) h2.1
        obtain ⟨e', s2, k1, k2, k3⟩ := ih K (trimR root ks s1) r t2.1 h1
        refine ⟨e', s2, k1, h2.trans (t2.trans k2), fun hF hro w cx a hr hfr => ?_⟩
        refine wpIn_mono (h3 hF hro w cx a hr (hfr.less (t2.trans k2).le)) ?_
        rintro e1 a1 w1 ⟨rfl, c1, r1, x1, v1⟩
        have f1 := hfr.onward v1
        obtain ⟨c2, r2, x2, v2⟩ := t5 w1 c1 a1 _ r1 f1
        refine LoopWp.mono ?_ n a1 w1 (k3 hF hro w1 c2 a1 r2 (f1.onward v2))
        rintro e2 a2 w2 ⟨rfl, hp⟩
        exact ⟨rfl, hp.trans (x1.trans x2) (v1.trans v2)⟩
      | exit i =>
        refine ⟨.exit i, s1, h1, h2, fun hF hro w cx a hr hfr => wpIn_mono (h3 hF hro w cx a hr hfr) ?_⟩
        rintro e1 a1 w1 ⟨rfl, hp⟩
        exact ⟨rfl, hp⟩
      | ret =>
        refine ⟨.ret, s1, h1, h2, fun hF hro w cx a hr hfr => wpIn_mono (h3 hF hro w cx a hr hfr) ?_⟩
        rintro e1 a1 w1 ⟨rfl, hp⟩
        exact ⟨rfl, hp⟩
  intro K s r hk hK
  obtain ⟨t2, t5⟩ := trimR_ok (root := root) (ks := ks) hk
  obtain ⟨e, s', h1, h2, h3⟩ := key n K (trimR root ks s) r t2.1 hK
  refine ⟨e, s', h1, t2.trans h2, fun hF hro w cx a hr hfr => ?_⟩
  obtain ⟨c2, r2, x2, v2⟩ := t5 w cx a _ hr hfr
  refine wpIn_loop_n ⟨n, LoopWp.mono ?_ n a w (h3 hF hro w c2 a r2 (hfr.onward v2))⟩
  rintro e2 a2 w2 ⟨rfl, hp⟩
  exact ⟨rfl, hp.trans x2 v2⟩
theorem COk.region {call : Calling} (hc : CallOk P call) {env : Env} (he : EnvOk P env) (hmix : P.follows .mixedOrders = true) {round : Bool} {id : Nat} {ops : Array Oper} {draw : Bool} : COk P root round (.region id ops draw) (fun (K : KC ρ) s => regionK env call ops draw K s) := by
  intro K s r hk hK
  obtain ⟨t', h', k1, k2, k3, k4, k5⟩ := region_sound hc he hmix hk hK
  refine ⟨.normal, ⟨t', s.d, h'⟩, k1, k4.r _, fun hF hro w cx a hr hfr => wpIn_mono (k5 hF id w cx a hr.t hr.h hfr.region) ?_⟩
  rintro e a' w' ⟨rfl, hd, c', q1, q2, q3, q4⟩
  exact ⟨rfl, c', ⟨q1, q4, by rw [hd, hr.d, marks_ids q2.ids hr.dv], fun i hi => (q2.ids i (hr.dv i hi)).1⟩, q2.w, Keeps.region hfr k3 q2 q3⟩
end
end Go.Ev
/- Ranges over functions; all code. -/
namespace Go.Ev
theorem Ext.putObj {w : World} {c : Cx} (hd : ∀ b, c.M b → ¬ c.O b) {r : Nat} (ho : c.O r) (o : Obj) : Ext w c (w.putObj r o) c := by
  refine ⟨⟨fun _ q => q, fun k _ hm => World.putObj_heap_other (fun h => hd k hm (h ▸ ho)), fun i hi => ⟨hi, rfl⟩⟩, rfl, rfl, rfl, by simp, ?_, fun _ _ h => h, fun _ _ q => q, fun _ q q' => absurd q q'⟩
  intro k hk hn
  exact World.putObj_heap_other (fun h => hn (h ▸ ho))
theorem HR.setObj {w : World} {c : Cx} {G G' : Nat → Option Blk} (hr : HR w c G) {id : Nat} {b0 : Blk} (hG : G id = some b0) (hl : (c.ι id).live = true) {o : Obj}
    (hG' : ∀ i b, i ≠ id → G' i = some b → G i = some b) (hb : ∀ b, G' id = some b → BlkRel (w.putObj (c.ι id).blk o) c (c.ι id) b) : HR (w.putObj (c.ι id).blk o) c G' := by
  have ho := (hr.blk id _ hG).owned hl
  refine HR.patch (fun i => i = id) hr (Ext.putObj (fun b hb => (hr.dis b hb).1) ho o) ?_ ?_ ?_
  · intro i b hi hne
    have hi' := hG' i b hne hi
    refine ⟨hi', fun hli => ?_⟩
    exact ⟨World.putObj_heap_other (fun q => hne (hr.inj i id _ _ hi' hG hli hl q)), (hr.blk i b hi').owned hli⟩
  · rintro i b hi rfl
    exact ⟨hr.valid i _ hG, hb b hi⟩
  · rintro i j b1 b2 hi hj rfl li lj hbk
    by_cases hij : j = i
    · exact hij.symm
    · exact hr.inj i j _ _ hG (hG' j b2 hij hj) li lj hbk
theorem G_of_find {h : Heap} {id : Nat} {e : Ent} (he : findE h.es id = some e) : h.G id = some e.blk := by simp [Heap.G, he]
theorem G_del {h : Heap} (hk : h.ok) (id i : Nat) : (h.del id).G i = if id = i then none else h.G i := by
  simp only [Heap.G, Heap.del, findE_delE _ hk.uniq]
  split <;> rfl
theorem codeAX_some {j : Option Code} {e : AX} (h : codeAX j = some e) : (j = none ∧ e = .normal) ∨ (∃ id, j = some (.exit id) ∧ e = .exit id) ∨ (j = some .ret ∧ e = .ret) := by
  unfold codeAX at h
  split at h
  · injection h with h; exact .inl ⟨rfl, h.symm⟩
  · injection h with h; exact .inr (.inl ⟨_, rfl, h.symm⟩)
  · injection h with h; exact .inr (.inr ⟨rfl, h.symm⟩)
  · cases h
theorem HEff.add {h : Heap} (hk : h.ok) (b : Blk) : HEff h (h.add b) := (Eff.add hk b []).heff
theorem HEff.del {h : Heap} (hk : h.ok) (id : Nat) : HEff h (h.del id) := by
  refine ⟨Nat.le_refl _, Heap.ok_del hk id, ?_⟩
  intro i e he _
  simp only [Heap.del, findE_delE _ hk.uniq] at he
  split at he
  · cases he
  · exact ⟨e, he, Nat.le_refl _, fun _ => rfl⟩
section
variable {P : Program} {ρ : Type} {root : Md}
theorem COk.rangeFunc {call : Calling} (hc : CallOk P call) {s0 round : Bool} {g : Operand} {ps : Array Tmp} {assign body : Code} :
    COk P root round (.rangeFunc g ps assign body) (fun (K : KC ρ) s => bif round then none else rangeK s0 call (ev s.t g) ps assign body K s) := by
  intro K s r hk hK
  cases round with
  | true => cases hK
  | false =>
  replace hK : rangeK s0 call (ev s.t g) ps assign body K s = some r := hK
  unfold rangeK at hK
  cases hfc : funcClo (ev s.t g) with
  | false => rw [hfc] at hK; cases hK
  | true =>
  rw [hfc] at hK
  simp only [Bool.not_true, cond_false] at hK
  obtain ⟨n, hn⟩ : ∃ n, n = s.h.next := ⟨_, rfl⟩
  have hk1 : (s.h.add .defd).ok := Heap.ok_add hk _
  have hk2 := Heap.ok_add hk1 (.loop .ready none s.t ps.toList assign body s.h.next)
  obtain ⟨v, h2, Rd, Wr, hK, heff, hreal⟩ := callOp_sound hc hk2 hK
  have he1 : HEff s.h h2 := ((HEff.add hk _).trans (HEff.add hk1 _)).trans heff.heff
  have hnx : s.h.next + 2 ≤ h2.next := heff.next
  -- the end
  unfold rangeEnd at hK
  cases hfe : findE h2.es (s.h.next + 1) with
  | none => rw [hfe] at hK; cases hK
  | some ent =>
  obtain ⟨eid, ever, eblk⟩ := ent
  rw [hfe] at hK
  cases eblk with
  | cells k => cases hK
  | defd => cases hK
  | loop st pend t' ps' as' bd' df' =>
  have hst : st ≠ .busy ∧ ∃ e, codeAX pend = some e ∧ K e ⟨s.t, s.h.next :: s.d, h2.del (s.h.next + 1)⟩ = some r := by
    cases st <;> first
      | (cases hK; done)
      | (refine ⟨by simp, ?_⟩
         simp only at hK
         cases hcx : codeAX pend with
         | none => rw [hcx] at hK; cases hK
         | some e => rw [hcx] at hK; exact ⟨e, rfl, hK⟩)
  obtain ⟨hst, e, hcx, hKe⟩ := hst
  refine ⟨e, _, hKe, (he1.trans (HEff.del heff.ok _)).r _, ?_⟩
  intro F hF hro w cx a hr hfr
  have hround : F.round = none := hro rfl
  have hfr0 := hfr
  replace hfr : ∀ id, s.h.next ≤ id → id < h2.next → ¬ cx.V id := hfr0.region
  apply wpIn_rangeFunc
  intro fn hfn
  -- the two blocks
  have hnv : ¬ cx.V s.h.next := hfr _ (Nat.le_refl _) (by show s.h.next < h2.next; omega)
  have hnv1 : ¬ cx.V (s.h.next + 1) := hfr _ (by omega) (by show s.h.next + 1 < h2.next; omega)
  obtain ⟨w1, hw1⟩ : ∃ w1, w1 = w.alloc (.deferred (some [])) := ⟨_, rfl⟩
  obtain ⟨rec, hrec⟩ : ∃ rec : Loop, rec = { state := .ready, pending := none, fn, tmps := a.tmps, params := ps, assign, body, defers := w.heap.size } := ⟨_, rfl⟩
  obtain ⟨w2, hw2⟩ : ∃ w2, w2 = w1.alloc (.loop rec) := ⟨_, rfl⟩
  have hm1 : OneMore w w1 (.deferred (some [])) := by rw [hw1]; exact OneMore.alloc _ _
  have hm2 : OneMore w1 w2 (.loop rec) := by rw [hw2]; exact OneMore.alloc _ _
  have hsz1 : w1.heap.size = w.heap.size + 1 := by rw [hw1]; simp
  let rb1 : RB := ⟨true, w.heap.size, 0, 0, 0⟩
  let rb2 : RB := ⟨true, w1.heap.size, 0, 0, 0⟩
  let c1 := cx.add s.h.next rb1
  let c2 := c1.add (s.h.next + 1) rb2
  have hx1 : Ext w cx w1 c1 := Ext.oneMore hm1 hnv rfl
  have hnv2 : ¬ c1.V (s.h.next + 1) := by
    rintro (q | q)
    · exact hnv1 q
    · omega
  have hx2 : Ext w1 c1 w2 c2 := Ext.oneMore hm2 hnv2 rfl
  have hx12 := hx1.trans hx2
  have hr1 : HR w1 c1 (s.h.add .defd).G := by
    refine HR.oneMore hr.h hm1 hnv rfl (b := .defd) (fun i hi => ?_) (G_add _) ⟨rfl, .inr rfl, hm1.get⟩
    left
    simp [Heap.G, Heap.add, findE_cons, Ne.symm hi]
  have hr2 : HR w2 c2 ((s.h.add .defd).add (.loop .ready none s.t ps.toList assign body s.h.next)).G := by
    refine HR.oneMore hr1 hm2 hnv2 rfl (b := .loop .ready none s.t ps.toList assign body s.h.next) (fun i hi => ?_) ?_ ?_
    · left
      have : (s.h.add .defd).next = s.h.next + 1 := rfl
      simp [Heap.G, Heap.add, findE_cons, Ne.symm hi]
    · exact G_add (h := s.h.add .defd) _
    · refine ⟨rfl, .inr rfl, ⟨rec, hm2.get, by rw [hrec], by rw [hrec], ?_, by rw [hrec], by rw [hrec], by rw [hrec], ?_⟩, .inl (.inr rfl)⟩
      · rw [hrec]; exact VRs.mono hx12.toExt0 hr.t
      · rw [hrec]
        show w.heap.size = (c2.ι s.h.next).blk
        have e1 : c2.ι s.h.next = c1.ι s.h.next := by simp [c2, Cx.add]
        rw [e1]
        simp [c1, Cx.add, rb1]
  -- the call
  have hyield : VR w2 c2 (.clo (.yield (s.h.next + 1)) [] []) (.func (.yield w1.heap.size) #[] #[]) := by
    have := VR.clo (W := w2) (c := c2) (.yield (s.h.next + 1)) [] [] [] [] (.inr rfl) .nil .nil
    have e1 : renFn c2 (.yield (s.h.next + 1)) = .yield w1.heap.size := by simp [renFn, c2, Cx.add, rb2]
    rw [e1] at this
    exact this
  have hgv : VR w2 c2 (ev s.t g) (a.eval g) := VR.mono hx12.toExt0 (ev_sound hr.t g)
  obtain ⟨d, nx, g1, g2, g3, g4⟩ := hreal w2 c2 (a.eval g) [.func (.yield w1.heap.size) #[] #[]] _ hgv (.cons _ _ _ _ hyield .nil) ⟨hr2, fun _ _ => rfl, fun id q1 q2 q3 => by
    have q1' : s.h.next + 2 ≤ id := q1
    rcases q3 with (q | q) | q
    · exact hfr id (by omega) q2 q
    · omega
    · omega⟩
  obtain ⟨f, xs, rfl⟩ := g3 hfc
  refine ⟨w1.heap.size, [{ target := .collected w.heap.size, args := #[] }], w2, d, w2, f, xs, w2, ?_, ?_, fun f' _ => hF.fn f', g2, fun q => absurd q hF.depth, ?_⟩
  · rw [hround, run_enterLoop_outer, hsz1, hw2, hw1, hrec]
  · have e3 : resolve a.eval (rangeCall g w1.heap.size) 0 = Deferred.ofValue (a.eval g) (#[.const (.func (.yield w1.heap.size) #[] #[])].map a.eval) := rfl
    have e4 : (#[Operand.const (.func (.yield w1.heap.size) #[] #[])] : Array Operand).map a.eval = #[.func (.yield w1.heap.size) #[] #[]] := by simp [Act.eval]
    rw [e3, e4]
    exact g1
  · refine CallsIn.mono (hF.calls g4) ?_
    rintro en w3 ⟨v', rfl, c3, y1, y2, y3, y4⟩
    have hr3 := y4 _ (Patch.full hk2 heff)
    have hG3 : h2.G (s.h.next + 1) = some (.loop st pend t' ps' as' bd' df') := G_of_find hfe
    have hb3 : LoopRel w3 c3 (c3.ι (s.h.next + 1)) st pend t' ps' as' bd' df' := hr3.blk _ _ hG3
    have hi3 : c3.ι (s.h.next + 1) = rb2 := by
      rw [(y2.ids (s.h.next + 1) (.inr rfl)).2]
      simp [c2, Cx.add]
    have hi0 : c3.ι s.h.next = rb1 := by
      rw [(y2.ids s.h.next (.inl (.inr rfl))).2]
      have e1 : c2.ι s.h.next = c1.ι s.h.next := by simp [c2, Cx.add]
      rw [e1]
      simp [c1, Cx.add]
    obtain ⟨rec', r1, r2, r3, _⟩ := hb3.obj
    rw [hi3] at r1
    have hend := run_endLoop (P := P) r1 (by rw [r2]; exact hst)
    have hl3 : (c3.ι (s.h.next + 1)).live = true := by rw [hi3]
    have hown := hb3.own
    rw [hi3] at hown
    have hx4 : Ext w3 c3 (w3.putObj rb2.blk (.loop { rec' with state := .exhausted })) c3 := Ext.putObj (fun b hb => (hr3.dis b hb).1) hown _
    have hr4 : HR (w3.putObj rb2.blk (.loop { rec' with state := .exhausted })) c3 (h2.del (s.h.next + 1)).G := by
      have := HR.setObj hr3 hG3 hl3 (o := .loop { rec' with state := .exhausted }) (G' := (h2.del (s.h.next + 1)).G) (fun i b hi hb => by
          rw [G_del heff.ok] at hb
          rw [if_neg (Ne.symm hi)] at hb
          exact hb) (fun b hb => by
          rw [G_del heff.ok, if_pos rfl] at hb
          cases hb)
      rw [hi3] at this
      exact this
    have hxAll := (hx12.trans y2).trans hx4
    have hpost : PostC root w cx s.h.next ⟨s.t, s.h.next :: s.d, h2.del (s.h.next + 1)⟩ { a with defers := [{ target := .collected w.heap.size, args := #[] }] ++ a.defers } (w3.putObj rb2.blk (.loop { rec' with state := .exhausted })) := by
      refine ⟨c3, ⟨VRs.mono hxAll.toExt0 hr.t, hr4, ?_, ?_⟩, hxAll.w, Keeps.region hfr0 (Nat.le_trans (Nat.le_add_right _ 2) hnx) hxAll ?_⟩
      · show [_] ++ a.defers = marks c3 (s.h.next :: s.d)
        have : marks c3 s.d = marks cx s.d := marks_ids hxAll.ids hr.dv
        simp only [marks, List.map_cons] at this ⊢
        rw [this, hi0, hr.d]
        rfl
      · intro id hid
        rcases List.mem_cons.1 hid with q | q
        · subst q; exact (y2.ids _ (.inl (.inr rfl))).1
        · exact (hxAll.ids id (hr.dv id q)).1
      · intro id hid
        show cx.V id ∨ (s.h.next ≤ id ∧ id < h2.next)
        rcases y3 id hid with ((q | q) | q) | q
        · exact .inl q
        · exact .inr ⟨by omega, by omega⟩
        · exact .inr ⟨by omega, by omega⟩
        · have q1 : s.h.next + 2 ≤ id := q.1
          exact .inr ⟨by omega, q.2⟩
    generalize w3.putObj rb2.blk (.loop { rec' with state := .exhausted }) = w4 at hpost hend
    refine ⟨rec'.pending, w4, hend, ?_⟩
    rw [r3]
    rcases codeAX_some hcx with ⟨rfl, rfl⟩ | ⟨id, rfl, rfl⟩ | ⟨rfl, rfl⟩
    · exact ⟨rfl, hpost⟩
    · exact wpIn_exit ⟨rfl, hpost⟩
    · exact wpIn_ret ⟨rfl, hpost⟩
theorem code_sound {call : Calling} (hc : CallOk P call) {env : Env} (he : EnvOk P env) (hmix : P.follows .mixedOrders = true) (kp : Nat → Option (List Nat)) (root : Md) (round : Bool) (c : Code) : COk P root round c (fun (K : KC ρ) s => codeK env call kp root round c K s) := by
  induction c with
  | skip => exact COk.skip
  | region id ops draw => exact COk.region hc he hmix
  | seq a b iha ihb => exact COk.seq iha ihb _
  | cond c a b iha ihb => exact COk.cond iha ihb
  | block id c ih => exact COk.block ih
  | loop c ih => exact COk.loop ih _ _
  | rangeFunc f ps assign body _ _ => exact COk.rangeFunc hc
  | exit id => exact COk.exit
  | scope c _ => intro K s r hk hK; cases hK
  | label l => exact COk.label
  | goto l => intro K s r hk hK; cases hK
  | ret => exact COk.ret
  | refuse why => intro K s r hk hK; cases hK
end
end Go.Ev
/- Functions, rounds, calls: the law. -/
namespace Go.Ev
def SumC (P : Program) (g : Nat) (A : AFun) : Prop := (∃ fn c, P.funcs[g]? = some fn ∧ fn.name ≠ "runtime.NumGoroutine" ∧ fn.body = some c) ∧
  ∀ (ρ : Type) (args : List AV) (h : Heap) (K : AV → Heap → Option ρ) (r : ρ), h.ok → A ρ args h K = some r → ∃ v h', K v h' = some r ∧ HEff h h' ∧ ∀ (w : World) (c : Cx) (args' : List Value), HR w c h.G → VRs w c args args' → (∀ id, h.next ≤ id → id < h'.next → ¬ c.V id) →
    CallsIn Fence.wide 0 P g args'.toArray w (fun e w' => ∃ v', e = .returned v' ∧ Post w c h h' v v' w')
structure EnvOk2 (P : Program) (env : Env) : Prop where
  ok : EnvOk P env
  mix : P.follows .mixedOrders = true
  fn : ∀ g fn, env.fn.get g = some fn → P.funcs[g]? = some fn ∧ fn.name ≠ "runtime.NumGoroutine"
  sum : ∀ g A, env.sum g = some A → SumC P g A
theorem ExtW.ext {w w' : World} {c c' : Cx} {n n' : Nat} (h : ExtW ⟨false, 0⟩ w c w' c') (k : Keeps ⟨false, 0⟩ c c' n n') : Ext w c w' c' := ⟨⟨h.M, h.mkeep, k.ids rfl⟩, h.os, h.tape, h.output, h.size, h.keep, h.own, fun b hb q => (h.Mo b hb q).elim id (fun r => by cases r.1), h.nd⟩
theorem Fresh.of {c : Cx} {n n' : Nat} (h : ∀ id, n ≤ id → id < n' → ¬ c.V id) : Fresh ⟨false, 0⟩ c n n' := ⟨fun _ => h, fun q => by cases q⟩
def PostF (root : Md) (w : World) (c : Cx) (h h' : Heap) (v : AV) : Value → World → Prop := fun v' w' =>
  ∃ c', VR w' c' v v' ∧ ExtW root w c w' c' ∧ Keeps root c c' h.next h'.next ∧ HR w' c' h'.G
theorem PostF.post {w : World} {c : Cx} {h h' : Heap} {v : AV} {v' : Value} {w' : World} (p : PostF ⟨false, 0⟩ w c h h' v v' w') : Post w c h h' v v' w' := by
  obtain ⟨c', k1, k2, k3, k4⟩ := p
  exact ⟨c', k1, k2.ext k3, k3.V rfl, k4⟩
theorem HEff.put {h : Heap} (hk : h.ok) (id : Nat) (b : Blk) : HEff h (h.put id b) := by
  refine ⟨Nat.le_refl _, Heap.ok_put hk id b, ?_⟩
  intro i e he _
  simp only [Heap.put, findE_putE] at he
  split at he
  · rename_i hi
    subst hi
    cases hf : findE h.es id with
    | none => rw [hf] at he; cases he
    | some e0 =>
      rw [hf] at he
      simp only [Option.map_some, Option.some.injEq] at he
      refine ⟨e0, rfl, by rw [← he]; simp, fun q => ?_⟩
      rw [← he] at q
      simp at q
  · exact ⟨e, he, Nat.le_refl _, fun _ => rfl⟩
theorem G_put' {h : Heap} {id : Nat} {e : Ent} (he : findE h.es id = some e) (b : Blk) (i : Nat) : (h.put id b).G i = if id = i then some b else h.G i := by
  simp only [Heap.G, Heap.put, findE_putE]
  split
  · simp [he]
  · rfl
section
variable {P : Program} {env : Env}
theorem isDefd_some {h : Heap} {d : Nat} (hd : isDefd h d = true) : h.G d = some .defd := by
  unfold isDefd at hd
  split at hd
  · rename_i a b he; simp [Heap.G, he]
  · cases hd
theorem closeMarks_sound {fn : Func} {tmps : Array Value} {R : Ending → World → Prop} : ∀ (ds : List Nat) (h h' : Heap), h.ok → closeMarks h ds = some h' → HEff h h' ∧ h'.next = h.next ∧ ∀ (w : World) (c : Cx), HR w c h.G → (∀ id ∈ ds, c.V id) →
    ∃ w', Ext w c w' c ∧ HR w' c h'.G ∧ (LeavesIn Fence.wide 0 P fn tmps R [] .returning w' → LeavesInM Fence.wide 0 P fn tmps R (marks c ds) .returning w)
  | [], h, h', hk, hc => by
    simp only [closeMarks, Option.some.injEq] at hc
    subst hc
    exact ⟨HEff.refl hk, rfl, fun w c hr _ => ⟨w, Ext.refl w c, hr, fun q => q⟩⟩
  | d :: ds, h, h', hk, hc => by
    unfold closeMarks at hc
    cases hd : isDefd h d with
    | false => rw [hd] at hc; cases hc
    | true =>
      rw [hd, cond_true] at hc
      have hk' := Heap.ok_del hk d
      obtain ⟨k1, k2, k3⟩ := closeMarks_sound ds (h.del d) h' hk' hc
      refine ⟨(HEff.del hk d).trans k1, k2, ?_⟩
      intro w c hr hv
      have hG := isDefd_some hd
      obtain ⟨hl, ho, hobj⟩ : BlkRel w c (c.ι d) .defd := hr.blk d _ hG
      have hx := Ext.putObj (w := w) (fun b hb => (hr.dis b hb).1) ho (.deferred none)
      have hr1 : HR (w.putObj (c.ι d).blk (.deferred none)) c (h.del d).G := by
        refine HR.setObj hr hG hl (fun i b hi hb => ?_) (fun b hb => ?_)
        · rw [G_del hk, if_neg (Ne.symm hi)] at hb; exact hb
        · rw [G_del hk, if_pos rfl] at hb; cases hb
      obtain ⟨w', x1, x2, x3⟩ := k3 _ c hr1 (fun id hid => hv id (by simp [hid]))
      refine ⟨w', hx.trans x1, x2, fun q => ?_⟩
      refine ⟨by simp, .inl ⟨(c.ι d).blk, _, rfl, run_takeDeferred hobj, x3 q⟩⟩
noncomputable def resF (tmps : Array Value) : ResultVar → Sem Value
  | .tmp t => pure (tmps.getD t undef)
  | .cell a t => do loadVar t (← asAddr (tmps.getD a undef))
theorem results_eq (fn : Func) (tmps : Array Value) : results fn tmps = (do let vs ← fn.results.mapM (resF tmps); pure (if h : vs.size = 1 then vs[0] else .tuple vs)) := by
  unfold results
  congr 2
variable (he : EnvOk P env)
include he
theorem loadRes_sound {t : List AV} {h : Heap} {rv : ResultVar} {v : AV} (hl : loadRes env t h rv = some v) {w : World} {c : Cx} {tmps : Array Value} (ht : VRs w c t tmps.toList) (hr : HR w c h.G) :
    ∃ v', (resF tmps rv).run P w = .ok v' w ∧ VR w c v v' := by
  unfold loadRes at hl
  split at hl
  · rename_i i
    injection hl with hl
    subst hl
    exact ⟨_, rfl, getT_sound ht i⟩
  · rename_i a ty
    split at hl
    · rename_i i id row col hi hp
      split at hl
      · rename_i con hcon
        cases hg : (Nat.blt row con.len && Nat.ble (col + i.size) con.wd) with
        | false => rw [hg] at hl; cases hl
        | true =>
          rw [hg, cond_true] at hl
          rw [Bool.and_eq_true] at hg
          have g1 := blt_iff.1 hg.1
          have g2 := Nat.le_of_ble_eq_true hg.2
          have hv := getT_sound ht a
          rw [hp] at hv
          generalize hx' : tmps.getD a undef = x' at hv
          cases hv with | ptr _ _ _ k1 k2 =>
          have hb : CellsRel w c (c.ι id) con := hr.blk id _ (con_some hcon)
          have hsz : i.agg = false → 0 < i.size := by
            intro hg
            have hz := (he.ty ty i hi)
            have h1 := hz.zsize
            have h2 := hz.znz hg
            omega
          obtain ⟨v', h5, h6⟩ := loadVar_sound he hi (col := col) (wd := con.wd) (own_row hb g1) hl g2 hsz
          exact ⟨v', by simp only [resF, Sem.run_bind, hx', asAddr, Sem.run_pure, Result.andThen_ok, h5], h6⟩
      · cases hl
    · cases hl
theorem loadAll_sound {t : List AV} {h : Heap} {w : World} {c : Cx} {tmps : Array Value} (ht : VRs w c t tmps.toList) (hr : HR w c h.G) : ∀ (rs : List ResultVar) (l : List AV), loadAll env t h rs = some l →
    ∃ vs, (rs.mapM (resF tmps)).run P w = .ok vs w ∧ VRs w c l vs
  | [], l, hl => by
    simp only [loadAll, Option.some.injEq] at hl
    subst hl
    exact ⟨[], rfl, .nil⟩
  | rv :: rs, l, hl => by
    unfold loadAll at hl
    split at hl
    · rename_i v l' h1 h2
      injection hl with hl
      subst hl
      obtain ⟨v', k1, k2⟩ := loadRes_sound he h1 ht hr
      obtain ⟨vs, k3, k4⟩ := loadAll_sound ht hr rs l' h2
      refine ⟨v' :: vs, ?_, .cons _ _ _ _ k2 k4⟩
      rw [List.mapM_cons]
      simp only [Sem.run_bind]
      rw [k1]
      simp only [Result.andThen_ok, k3, Sem.run_pure]
    · cases hl
theorem results_sound {fn : Func} {t : List AV} {h : Heap} {w : World} {c : Cx} {tmps : Array Value} (ht : VRs w c t tmps.toList) (hr : HR w c h.G) {l : List AV} (hl : loadAll env t h fn.results.toList = some l) :
    ∃ v', (results fn tmps).run P w = .ok v' w ∧ VR w c (oneOrTup l) v' := by
  obtain ⟨vs, h1, h2⟩ := loadAll_sound he ht hr _ _ hl
  refine ⟨if h : vs.toArray.size = 1 then vs.toArray[0] else .tuple vs.toArray, ?_, ?_⟩
  · rw [results_eq]
    obtain ⟨rs, hrs⟩ : ∃ rs, rs = fn.results.toList := ⟨_, rfl⟩
    have e : fn.results = rs.toArray := by rw [hrs]
    rw [← hrs] at h1
    rw [e, List.mapM_toArray]
    simp only [Sem.run_bind, Sem.run_map]
    rw [h1]
    rfl
  · cases h2 with
    | nil => exact .tup [] [] .nil
    | cons v v' l l' k1 k2 =>
      cases k2 with
      | nil => exact k1
      | cons u u' l l' k3 k4 =>
        have : ¬ ((v' :: u' :: l').toArray.size = 1) := by simp
        rw [dif_neg this]
        exact .tup _ _ (.cons _ _ _ _ k1 (.cons _ _ _ _ k3 k4))
end
section
variable {P : Program} {env : Env} (he : EnvOk2 P env) {call : Calling} (hc : CallOk P call)
include he hc
theorem enter_sound {ρ : Type} {g : Nat} {args : List AV} {h : Heap} {K : AV → Heap → Option ρ} {r : ρ} (hk : h.ok) {root : Md} (hK : enterK env call root g args h K = some r) :
    (∃ fn c, P.funcs[g]? = some fn ∧ fn.name ≠ "runtime.NumGoroutine" ∧ fn.body = some c) ∧ ∃ v h', K v h' = some r ∧ HEffR root h h' ∧ ∀ (w : World) (c : Cx) (args' : List Value), HR w c h.G → VRs w c args args' → Fresh root c h.next h'.next →
      CallsIn Fence.wide 0 P g args'.toArray w (fun e w' => ∃ v', e = .returned v' ∧ PostF root w c h h' v v' w') := by
  unfold enterK at hK
  split at hK
  · rename_i fn hfn
    obtain ⟨f1, f2⟩ := he.fn g fn hfn
    split at hK
    · rename_i c hb
      refine ⟨⟨fn, c, f1, f2, hb⟩, ?_⟩
      rw [sSp_eq] at hK
      obtain ⟨e, s', h1, h2, h3⟩ := code_sound hc he.ok he.mix (env.keep g) root false c _ _ r hk hK
      have hl : leaveK env fn K s' = some r ∧ ∀ id, e ≠ .exit id := by
        cases e with
        | normal => exact ⟨h1, by simp⟩
        | exit id => cases h1
        | ret => exact ⟨h1, by simp⟩
      obtain ⟨hl, hne⟩ := hl
      unfold leaveK at hl
      split at hl
      · rename_i h' hcm
        unfold leaveH at hl
        split at hl
        · rename_i l hla
          rw [sAV_eq] at hl
          obtain ⟨m1, m2, _⟩ := closeMarks_sound (P := P) (fn := fn) (tmps := #[]) (R := fun _ _ => True) s'.d s'.h h' h2.1 hcm
          refine ⟨_, h', hl, h2.trans (m1.r _), ?_⟩
          intro w cx args' hr hv hfr
          apply callsIn_of_wp_marks f1 hb trivial
          have hst : StRel w cx ⟨startT fn args, [], h⟩ { tmps := args'.toArray ++ Array.replicate (fn.ntmps - args'.toArray.size) undef, defers := [] } := by
            refine ⟨?_, hr, rfl, by simp⟩
            show VRs w cx (args ++ List.replicate (fn.ntmps - args.length) undefA) _
            have : (args'.toArray ++ Array.replicate (fn.ntmps - args'.toArray.size) undef).toList = args' ++ List.replicate (fn.ntmps - args.length) undef := by
              simp [hv.length]
            rw [this]
            exact hv.append (VRs.replicate _ (.val _))
          have hx := h3 (.inl rfl) (fun _ => rfl) w cx _ hst (by rw [m2] at hfr; exact hfr)
          refine wpIn_mono hx ?_
          rintro e1 a1 w1 ⟨rfl, c1, r1, x1, v1⟩
          have fin : LeavesInM Fence.wide 0 P fn a1.tmps (fun e w' => ∃ v', e = .returned v' ∧ PostF root w cx h h' (oneOrTup l) v' w') a1.defers .returning w1 := by
            obtain ⟨_, _, m3⟩ := closeMarks_sound (P := P) (fn := fn) (tmps := a1.tmps) (R := fun e w' => ∃ v', e = .returned v' ∧ PostF root w cx h h' (oneOrTup l) v' w') s'.d s'.h h' h2.1 hcm
            obtain ⟨w', y1, y2, y3⟩ := m3 w1 c1 r1.h r1.dv
            rw [r1.d]
            apply y3
            obtain ⟨v', z1, z2⟩ := results_sound he.ok (fn := fn) (VRs.mono y1.toExt0 r1.t) y2 hla
            refine ⟨v', z1, v', rfl, c1, z2, x1.trans y1.w, ?_, y2⟩
            rw [m2]; exact v1
          cases e with
          | normal => exact fin
          | exit id => exact absurd rfl (hne id)
          | ret => exact fin
        · cases hl
      · cases hl
    · cases hK
  · cases hK
theorem setArgs_rel {w : World} {c : Cx} : ∀ (ps : List Tmp) (args : List AV) (args' : List Value) (t : List AV) (t' : Array Value), VRs w c args args' → VRs w c t t'.toList →
    VRs w c (setArgs ps args t) (((ps.zip args').foldl (fun tmps (t, a) => tmps.setIfInBounds t a) t').toList)
  | [], args, args', t, t', _, ht => by simpa [setArgs] using ht
  | p :: ps, [], args', t, t', ha, ht => by cases ha; simpa [setArgs] using ht
  | p :: ps, v :: vs, args', t, t', ha, ht => by
    cases ha with | cons _ v' _ vs' h1 h2 =>
    simp only [setArgs, List.zip_cons_cons, List.foldl_cons]
    refine setArgs_rel ps vs vs' _ _ h2 ?_
    rw [setL_eq]
    simpa using ht.set p h1
theorem round_sound {ρ : Type} {l : Nat} {args : List AV} {h : Heap} {K : AV → Heap → Option ρ} {r : ρ} (hk : h.ok) (hK : roundK env call l args h K = some r) :
    ∃ v h', K v h' = some r ∧ HEff h h' ∧ ∀ (w : World) (c : Cx) (args' : List Value), HR w c h.G → VRs w c args args' → (∀ id, h.next ≤ id → id < h'.next → ¬ c.V id) →
      ∃ nx, (Instr.yield (c.ι l).blk args'.toArray).run P w = .ok nx w ∧ Goes P nx w (Post w c h h' v) := by
  unfold roundK at hK
  split at hK
  · rename_i eid ever st pend t ps assign body df hfe
    cases hb : Nat.beq ps.length args.length with
    | false => rw [hb] at hK; cases hK
    | true =>
      have hlen := beq_iff.1 hb
      rw [hb, cond_true] at hK
      obtain ⟨e, s1, h1, h2, h3⟩ := code_sound hc he.ok he.mix noKeep ⟨false, 0⟩ true assign _ _ r hk hK
      cases e with
      | exit id => cases h1
      | ret => cases h1
      | normal =>
      replace h1 : roundBody env call l body K s1 = some r := h1
      unfold roundBody at h1
      split at h1
      · rename_i eid1 ever1 pend1 t1 ps1 as1 bd1 df1 hfe1
        have hkp := Heap.ok_put h2.1 l (.loop .busy pend1 t1 ps1 as1 bd1 df1)
        obtain ⟨e2, s2, k1, k2, k3⟩ := code_sound hc he.ok he.mix noKeep ⟨false, 0⟩ true body _ _ r hkp h1
        unfold roundEnd at k1
        split at k1
        · rename_i eid2 ever2 pend2 t2 ps2 as2 bd2 df2 hfe2
          have heff : HEff h (s2.h.put l (.loop (if (axCode e2).isNone then .ready else .done) (axCode e2) t2 ps2 as2 bd2 df2)) :=
            (h2.2 rfl).trans ((HEff.put h2.1 l _).trans ((k2.2 rfl).trans (HEff.put k2.1 l _)))
          refine ⟨_, _, k1, heff, ?_⟩
          intro w c args' hr hv hfr
          have n1 : h.next ≤ s1.h.next := (h2.2 rfl).next
          have n2 : s1.h.next ≤ s2.h.next := (k2.2 rfl).next
          have hfr' : ∀ id, h.next ≤ id → id < s2.h.next → ¬ c.V id := hfr
          have hG := G_of_find hfe
          obtain ⟨hl, ho, ⟨rec, r1, r2, r3, r4, r5, r6, r7, r8⟩, hdv⟩ : LoopRel w c (c.ι l) st pend t ps assign body df := hr.blk l _ hG
          have hcl : c.V l := hr.valid l _ hG
          refine ⟨_, run_yield r1 (by rw [← r5] at hlen; simp at hlen ⊢; rw [hv.length]; exact hlen.symm), ?_⟩
          show RoundIn Fence.wide 0 P (c.ι l).blk rec.fn _ rec.assign rec.body w _
          apply roundIn_of_wpIn trivial
          rw [r6, r7]
          have hst : StRel w c ⟨setArgs ps args t, [], h⟩ { tmps := (rec.params.zip args'.toArray).foldl (fun tmps (t, a) => tmps.setIfInBounds t a) rec.tmps, defers := [] } := by
            refine ⟨?_, hr, rfl, by simp⟩
            have := setArgs_rel he hc ps args args' t rec.tmps hv r4
            rw [← r5] at this
            have e1 : (rec.params.zip args'.toArray).foldl (fun tmps (t, a) => tmps.setIfInBounds t a) rec.tmps = (rec.params.toList.zip args').foldl (fun tmps (t, a) => tmps.setIfInBounds t a) rec.tmps := by
              rw [← Array.foldl_toList]
              simp
            rw [e1, ← r5]
            exact this
          refine wpIn_mono (h3 (.inr ⟨_, rfl⟩) (by simp) w c _ hst (Fresh.of (fun id q1 q2 => hfr' id q1 (Nat.lt_of_lt_of_le q2 n2)))) ?_
          rintro e1 a1 w1 ⟨rfl, c1, g1, y1, u1⟩
          have x1 := y1.ext u1
          have v1 := u1.V rfl
          -- the round begins
          have hi1 : c1.ι l = c.ι l := (x1.ids l hcl).2
          have hG1 := G_of_find hfe1
          obtain ⟨hl1, ho1, ⟨rec1, p1, p2, p3, p4, p5, p6, p7, p8⟩, hdv1⟩ : LoopRel w1 c1 (c1.ι l) .ready pend1 t1 ps1 as1 bd1 df1 := g1.h.blk l _ hG1
          have hbeg := run_beginRound (P := P) p1 p2
          rw [hi1] at hbeg
          refine ⟨_, hbeg, ?_⟩
          have hsz1 : (c1.ι l).blk < w1.heap.size := (g1.h.blk l _ hG1).lt hl1
          have hx1' : Ext w1 c1 (w1.putObj (c1.ι l).blk (.loop { rec1 with state := .busy })) c1 := Ext.putObj (fun b hb => (g1.h.dis b hb).1) ho1 _
          have hr1 : HR (w1.putObj (c1.ι l).blk (.loop { rec1 with state := .busy })) c1 (s1.h.put l (.loop .busy pend1 t1 ps1 as1 bd1 df1)).G := by
            refine HR.setObj g1.h hG1 hl1 (fun i b hi hb => ?_) (fun b hb => ?_)
            · rw [G_put' hfe1, if_neg (Ne.symm hi)] at hb; exact hb
            · rw [G_put' hfe1, if_pos rfl] at hb
              injection hb with hb
              subst hb
              exact ⟨hl1, ho1, ⟨_, World.putObj_heap_same hsz1, rfl, p3, VRs.mono hx1'.toExt0 p4, p5, p6, p7, p8⟩, hdv1⟩
          rw [hi1] at hx1' hr1
          have hst2 : StRel (w1.putObj (c.ι l).blk (.loop { rec1 with state := .busy })) c1 ⟨s1.t, s1.d, s1.h.put l (.loop .busy pend1 t1 ps1 as1 bd1 df1)⟩ a1 := ⟨VRs.mono hx1'.toExt0 g1.t, hr1, g1.d, g1.dv⟩
          have hbody := k3 (F := Fence.wide.inRound (c.ι l).blk) (.inr ⟨_, rfl⟩) (by simp) _ c1 a1 hst2 (Fresh.of fun id q1 q2 q3 => by
            have q1' : s1.h.next ≤ id := q1
            rcases v1 id q3 with z | z
            · exact hfr' id (by omega) q2 z
            · have z2 : id < s1.h.next := z.2
              omega)
          refine wpIn_mono hbody ?_
          rintro e3 a3 w3 ⟨rfl, c3, g3, y3, u3⟩
          have x3 := y3.ext u3
          have v3 := u3.V rfl
          have hi3 : c3.ι l = c.ι l := by rw [(x3.ids l (x1.ids l hcl).1).2, hi1]
          have hG3 := G_of_find hfe2
          obtain ⟨hl3, ho3, ⟨rec3, u1, u2, u3, u4, u5, u6, u7, u8⟩, hdv3⟩ : LoopRel w3 c3 (c3.ι l) .busy pend2 t2 ps2 as2 bd2 df2 := g3.h.blk l _ hG3
          have hsz3 : (c3.ι l).blk < w3.heap.size := (g3.h.blk l _ hG3).lt hl3
          have fin : ∀ j : Option Code, j = axCode e2 → ∃ v w', (Instr.endRound (c.ι l).blk j).run P w3 = .ok v w' ∧ ∃ v', Ending.returned v = .returned v' ∧ Post w c h (s2.h.put l (.loop (if (axCode e2).isNone then .ready else .done) (axCode e2) t2 ps2 as2 bd2 df2)) (.val (.bool (axCode e2).isNone)) v' w' := by
            rintro j rfl
            have hend := run_endRound (P := P) (axCode e2) u1
            rw [hi3] at hend
            refine ⟨_, _, hend, _, rfl, c3, .val _, ?_, ?_, ?_⟩
            · refine ((x1.trans hx1').trans x3).trans ?_
              rw [hi3] at ho3
              exact Ext.putObj (fun b hb => (g3.h.dis b hb).1) ho3 _
            · intro id hid
              show c.V id ∨ (h.next ≤ id ∧ id < s2.h.next)
              rcases v3 id hid with q | q
              · rcases v1 id q with z | z
                · exact .inl z
                · have z1 : h.next ≤ id := z.1
                  have z2 : id < s1.h.next := z.2
                  exact .inr ⟨z1, by omega⟩
              · have q1 : s1.h.next ≤ id := q.1
                exact .inr ⟨by omega, q.2⟩
            · have hx4 : Ext w3 c3 (w3.putObj (c3.ι l).blk (.loop { rec3 with state := if (axCode e2).isNone then .ready else .done, pending := axCode e2 })) c3 := Ext.putObj (fun b hb => (g3.h.dis b hb).1) ho3 _
              have := HR.setObj g3.h hG3 hl3 (o := .loop { rec3 with state := if (axCode e2).isNone then .ready else .done, pending := axCode e2 }) (G' := (s2.h.put l (.loop (if (axCode e2).isNone then .ready else .done) (axCode e2) t2 ps2 as2 bd2 df2)).G) (fun i b hi hb => by
                  rw [G_put' hfe2, if_neg (Ne.symm hi)] at hb; exact hb) (fun b hb => by
                  rw [G_put' hfe2, if_pos rfl] at hb
                  injection hb with hb
                  subst hb
                  exact ⟨hl3, ho3, ⟨_, World.putObj_heap_same hsz3, rfl, rfl, VRs.mono hx4.toExt0 u4, u5, u6, u7, u8⟩, hdv3⟩)
              rw [hi3] at this
              exact this
          cases e2 with
          | normal => exact fin none rfl
          | exit id => exact fin (some (.exit id)) rfl
          | ret => exact fin (some .ret) rfl
        · cases k1
      · cases h1
  · cases hK
theorem callStep_sound : CallOk P (callStep env call) := by
  intro ρ f args h K r hk hK
  have hfun : ∀ (g : Nat) (first cap : List AV) {v : AV} {h' : Heap}, f = .clo (.func g) first cap → (∃ fn c, P.funcs[g]? = some fn ∧ fn.name ≠ "runtime.NumGoroutine" ∧ fn.body = some c) →
      (∀ (w : World) (c : Cx) (args' : List Value), HR w c h.G → VRs w c (first ++ args ++ cap) args' → (∀ id, h.next ≤ id → id < h'.next → ¬ c.V id) → CallsIn Fence.wide 0 P g args'.toArray w (fun e w' => ∃ v', e = .returned v' ∧ Post w c h h' v v' w')) →
      ∀ (w : World) (c : Cx) (f' : Value) (args' : List Value), HR w c h.G → VR w c f f' → VRs w c args args' → (∀ id, h.next ≤ id → id < h'.next → ¬ c.V id) →
      ∃ d nx, (Deferred.ofValue f' args'.toArray).run P w = .ok d w ∧ (invoke d.target d.args).run P w = .ok nx w ∧ (funcClo f = true → ∃ g xs, nx = .enter g xs) ∧ Goes P nx w (Post w c h h' v) := by
    intro g first cap v h' hf ⟨fn, body, f1, f2, f3⟩ hcall w c f' args' hr hfv hav hfr
    subst hf
    cases hfv with | clo _ _ _ x' y' k1 k2 k3 =>
    refine ⟨_, .enter g (x'.toArray ++ args'.toArray ++ y'.toArray), rfl, ?_, fun _ => ⟨_, _, rfl⟩, ?_⟩
    · have hn : (fn.name == "runtime.NumGoroutine") = false := by simpa using f2
      simp [invoke, renFn, callFunc, f1, f2, f3, Sem.run]
    · have := hcall w c (x' ++ args' ++ y') hr ((k2.append hav).append k3) hfr
      show CallsIn Fence.wide 0 P g (x'.toArray ++ args'.toArray ++ y'.toArray) w _
      have e : (x' ++ args' ++ y').toArray = x'.toArray ++ args'.toArray ++ y'.toArray := by simp
      rw [← e]
      exact this
  unfold callStep at hK
  split at hK
  · rename_i g first cap
    split at hK
    · rename_i A hA
      obtain ⟨s1, s2⟩ := he.sum g A hA
      obtain ⟨v, h', k1, k2, k3⟩ := s2 ρ (first ++ args ++ cap) h K r hk hK
      exact ⟨v, h', k1, k2, hfun g first cap rfl s1 k3⟩
    · obtain ⟨s1, v, h', k1, k2, k3⟩ := enter_sound he hc hk hK
      exact ⟨v, h', k1, k2.2 rfl, hfun g first cap rfl s1 (fun w c args' hr hv hfr => CallsIn.mono (k3 w c args' hr hv (Fresh.of hfr)) (fun e w' ⟨v', q1, q2⟩ => ⟨v', q1, q2.post⟩))⟩
  · rename_i l cap
    obtain ⟨v, h', k1, k2, k3⟩ := round_sound he hc hk hK
    refine ⟨v, h', k1, k2, ?_⟩
    intro w c f' args' hr hfv hav hfr
    cases hfv with | clo _ _ _ x' y' q1 q2 q3 =>
    cases q2
    obtain ⟨nx, g1, g2⟩ := k3 w c args' hr hav hfr
    refine ⟨_, nx, rfl, ?_, fun q => by simp [funcClo] at q, g2⟩
    have e : (#[] : Array Value) ++ args'.toArray = args'.toArray := by simp
    show (Instr.yield (c.ι l).blk (#[] ++ args'.toArray)).run P w = .ok nx w
    rw [e]
    exact g1
  · cases hK
end
theorem callF_sound {P : Program} {env : Env} (he : EnvOk2 P env) : ∀ d, CallOk P (callF env d)
  | 0 => by intro ρ f args h K r hk hK; cases hK
  | d + 1 => callStep_sound he (callF_sound he d)
end Go.Ev
/- Facts of a program's tables, for the evaluator's tables. -/
namespace Go.Ev
inductive AllO {α : Type} (p : Nat → α → Prop) : Nat → List (Option α) → Prop where
  | nil (k : Nat) : AllO p k []
  | none {k : Nat} {l : List (Option α)} : AllO p (k + 1) l → AllO p k (none :: l)
  | some {k : Nat} {x : α} {l : List (Option α)} : p k x → AllO p (k + 1) l → AllO p k (some x :: l)
inductive AllR {α : Type} (p : Nat → α → Prop) : Nat → List (List (Option α)) → Prop where
  | nil (k : Nat) : AllR p k []
  | cons {k : Nat} {r : List (Option α)} {l : List (List (Option α))} : AllO p (16 * k) r → AllR p (k + 1) l → AllR p k (r :: l)
theorem AllO.get {α : Type} {p : Nat → α → Prop} {k : Nat} {l : List (Option α)} (h : AllO p k l) : ∀ (i : Nat) (x : α), joinO (nth l i) = Option.some x → p (k + i) x := by
  induction h with
  | nil k => intro i x hx; simp [nth_eq, joinO] at hx
  | none h ih =>
    rename_i k l
    intro i x hx
    cases i with
    | zero => simp [nth_eq, joinO] at hx
    | succ i =>
      have := ih i x (by simpa [nth_eq] using hx)
      rwa [show k + (i + 1) = k + 1 + i by omega]
  | some hp h ih =>
    rename_i k y l
    intro i x hx
    cases i with
    | zero =>
      simp [nth_eq, joinO] at hx
      subst hx
      exact hp
    | succ i =>
      have := ih i x (by simpa [nth_eq] using hx)
      rwa [show k + (i + 1) = k + 1 + i by omega]
theorem AllR.get {α : Type} {p : Nat → α → Prop} {k : Nat} {l : List (List (Option α))} (h : AllR p k l) : ∀ (r i : Nat) (x : α), joinO (nth (nthD [] l r) i) = some x → p (16 * (k + r) + i) x := by
  induction h with
  | nil k => intro r i x hx; simp [nthD_eq, nth_eq, joinO] at hx
  | cons ho h ih =>
    rename_i k row l
    intro r i x hx
    cases r with
    | zero =>
      simp [nthD_eq] at hx
      exact ho.get i x hx
    | succ r =>
      have := ih r i x (by simpa [nthD_eq] using hx)
      rwa [show k + (r + 1) = k + 1 + r by omega]
theorem Tri.get_all {α : Type} {p : Nat → α → Prop} {t : Tri α} (h : AllR p 0 t.rows) : ∀ k x, t.get k = some x → p k x := by
  intro k x hx
  have := h.get (Nat.div k 16) (Nat.mod k 16) x hx
  rw [Nat.zero_add, show 16 * Nat.div k 16 + Nat.mod k 16 = k from Nat.div_add_mod k 16] at this
  exact this
def isAggV : Value → Bool
  | .agg _ => true
  | _ => false
def tyCheck (n : Nat) (i : TI) : Bool :=
  Nat.beq i.zero.cells.size i.size && (i.zero.cells.toList.all (fun v => v.oneCell') && ((bif i.agg then isAggV i.zero else Nat.blt 0 i.zero.cells.size) &&
    (match i.desc with | .struct fs => fs.toList.all (fun f => Nat.blt f.type n) | _ => true)))
theorem TyOk.of_check {P : Program} {t n : Nat} {i : TI} {ti : TypeInfo} (h1 : P.types[t]? = some ti) (hz : ti.zero = some i.zero) (hs : ti.size = i.size) (hb : ti.bytes = i.bytes) (hu : P.underlying t = some i.desc) (hn : P.types.size = n) (hc : tyCheck n i = true) : TyOk P t i := by
  unfold tyCheck at hc
  simp only [Bool.and_eq_true] at hc
  obtain ⟨c1, c2, c3, c4⟩ := hc
  have hinfo : ∀ k, k < P.types.size → P.info? k = P.types[k]? := fun k hk => by unfold Tables.info?; rw [if_pos hk]
  have ht : t < P.types.size := (Array.getElem?_eq_some_iff.1 h1).1
  refine ⟨⟨ti, by rw [hinfo t ht]; exact h1, hz, hs, hb⟩, hu, beq_iff.1 c1, fun v hv => List.all_eq_true.1 c2 v hv, ?_, ?_, ?_⟩
  · intro ha
    rw [ha] at c3
    unfold isAggV at c3
    cases hzz : i.zero with
    | agg cs => exact ⟨cs, rfl⟩
    | _ => rw [hzz] at c3; cases c3
  · intro ha
    rw [ha] at c3
    exact blt_iff.1 c3
  · intro fs hd f hf
    rw [hd] at c4
    have := blt_iff.1 (List.all_eq_true.1 c4 f hf)
    rw [hinfo _ (by omega), Array.getElem?_eq_getElem (by omega)]
    rfl
def kindOk (P : Program) (t : TypeId) (z : Value) : Prop := (∃ k k' n, P.underlying t = some (.int k) ∧ z = .int k' n) ∨ (∃ b, P.underlying t = some .bool ∧ z = .bool b) ∨ (∃ s, P.underlying t = some .string ∧ z = .string s)
theorem part_flat {P : Program} {t : TypeId} {z : Value} (hk : kindOk P t z) (cs : Array Value) (off : Nat) (v : Value) (hv : cs[off]? = some v) (w : World) : (Go.part t cs off).run P w = .ok v w := by
  rcases hk with ⟨k, k', n, h, _⟩ | ⟨b, h, _⟩ | ⟨s, h, _⟩ <;> simp [Go.part, isAgg, run_underlying h, hv]
theorem eqFields_flat {P : Program} {w : World} {c : Cx} {xs ys : Array Value} {d : Nat} : ∀ (fs : List Field) (zs : List Value) (x y : List AV) (x' y' : List Value) (o : Nat) (b : Bool),
    (∀ (j : Nat) (f : Field), fs[j]? = some f → f.offset = o + j ∧ (f.name == "_") = false ∧ ∃ z, zs[j]? = some z ∧ kindOk P f.type z) → fs.length = zs.length → cellsEq zs x y = some b → VRs w c x x' → VRs w c y y' →
    (∀ j v, x'[j]? = some v → xs[o + j]? = some v) → (∀ j v, y'[j]? = some v → ys[o + j]? = some v) → (Op.eqFields (d + 1) xs ys fs).run P w = .ok b w
  | [], [], x, y, x', y', o, b, hf, hl, hc, hx, hy, h1, h2 => by
    cases x <;> cases y <;> simp [cellsEq] at hc
    subst hc
    simp [Op.eqFields]
  | [], _ :: _, _, _, _, _, _, _, _, hl, _, _, _, _, _ => by simp at hl
  | _ :: _, [], _, _, _, _, _, _, _, hl, _, _, _, _, _ => by simp at hl
  | f :: fs, z :: zs, x, y, x', y', o, b, hf, hl, hc, hx, hy, h1, h2 => by
    cases x with
    | nil => simp [cellsEq] at hc
    | cons a x =>
      cases y with
      | nil => simp [cellsEq] at hc
      | cons e y =>
        cases hx with | cons _ a' _ x' ha hx =>
        cases hy with | cons _ e' _ y' hE hy =>
        simp only [cellsEq] at hc
        split at hc
        · rename_i p q hp hq
          injection hc with hc
          subst hc
          obtain ⟨f1, f2, z', f3, f4⟩ := hf 0 f (by simp)
          simp at f3
          subst f3
          have e1 := part_flat f4 xs f.offset a' (by rw [f1]; exact h1 0 a' (by simp)) w
          have e2 := part_flat f4 ys f.offset e' (by rw [f1]; exact h2 0 e' (by simp)) w
          have e3 : (Op.equalIn (d + 1) f.type a' e').run P w = .ok p w := by
            unfold cellEq at hp
            split at hp
            · rename_i k n k1 u k2 v
              cases hd : (decide (k1 = k) && decide (k2 = k)) with
              | false => rw [hd] at hp; cases hp
              | true =>
                rw [hd] at hp
                simp only [cond_true, Option.some.injEq] at hp
                simp only [Bool.and_eq_true, decide_eq_true_eq] at hd
                obtain ⟨rfl, rfl⟩ := hd
                have := ha.val_inv
                have := hE.val_inv
                subst a'; subst e'
                rcases f4 with ⟨k, k', n, h, _⟩ | ⟨b, h, hz⟩ | ⟨s, h, hz⟩
                · simp [Op.equalIn, run_underlying h, hp]
                · cases hz
                · cases hz
            · injection hp with hp
              have := ha.val_inv
              have := hE.val_inv
              subst a'; subst e'
              rcases f4 with ⟨k, k', n, h, hz⟩ | ⟨b, h, hz⟩ | ⟨s, h, hz⟩
              · cases hz
              · simp [Op.equalIn, run_underlying h, hp]
              · cases hz
            · injection hp with hp
              have := ha.val_inv
              have := hE.val_inv
              subst a'; subst e'
              rcases f4 with ⟨k, k', n, h, hz⟩ | ⟨b, h, hz⟩ | ⟨s, h, hz⟩
              · cases hz
              · cases hz
              · simp [Op.equalIn, run_underlying h, hp]
            · cases hp
          have ih := eqFields_flat (P := P) (w := w) (c := c) (xs := xs) (ys := ys) (d := d) fs zs x y x' y' (o + 1) q (fun j g hg => by
              obtain ⟨g1, g2, g3⟩ := hf (j + 1) g (by simpa using hg)
              refine ⟨by rw [g1]; omega, g2, ?_⟩
              simpa using g3) (by simpa using hl) hq hx hy (fun j v hv => by
              have := h1 (j + 1) v (by simpa using hv)
              rwa [show o + (j + 1) = o + 1 + j by omega] at this) (fun j v hv => by
              have := h2 (j + 1) v (by simpa using hv)
              rwa [show o + (j + 1) = o + 1 + j by omega] at this)
          have hn' : f.name ≠ "_" := by simpa using f2
          rw [Op.eqFields]
          simp only [if_pos hn', Sem.run_bind, e1, e2, e3, Result.andThen_ok]
          cases p
          · simp
          · simpa using ih
        · cases hc
theorem eq_flat {P : Program} {t : TypeId} {i : TI} {fs : Array Field} (hu : P.underlying t = some (.struct fs)) (hp : P.stoodInHeld t = false) (hg : P.eqGuardType P.depth t = false)
    (hf : ∀ (j : Nat) (f : Field), fs.toList[j]? = some f → f.offset = j ∧ (f.name == "_") = false ∧ ∃ z, i.zero.cells.toList[j]? = some z ∧ kindOk P f.type z) (hl : fs.toList.length = i.zero.cells.toList.length) :
    ∀ (w : World) (c : Cx) (x y : List AV) (x' y' : List Value) (b : Bool), cellsEq i.zero.cells.toList x y = some b → VRs w c x x' → VRs w c y y' →
      (Op.equal t (.agg x'.toArray) (.agg y'.toArray)).run P w = .ok b w ∧ P.eqGuardType P.depth t = false := by
  intro w c x y x' y' b hc hx hy
  refine ⟨?_, hg⟩
  have hff : P.fieldsOf t = fs := by simp [Program.fieldsOf, hu]
  show (Op.equalIn 10000 t _ _).run P w = _
  rw [run_equalIn_struct (P := P) w 9999 t x'.toArray y'.toArray (by rw [hff]; exact hu) hp, hff]
  exact eqFields_flat (d := 9998) fs.toList i.zero.cells.toList x y x' y' 0 b (fun j f hj => by simpa using hf j f hj) hl hc hx hy (fun j v hv => by simpa using hv) (fun j v hv => by simpa using hv)
end Go.Ev
