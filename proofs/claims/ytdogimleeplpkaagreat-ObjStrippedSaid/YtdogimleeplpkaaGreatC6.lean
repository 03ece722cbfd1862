/- The evaluator, its soundness and the walks: part 6. -/
import Derived.Laws.Rows
import Derived.Test.YtdogimleeplpkaaGreatC5
set_option linter.unusedSectionVars false
set_option linter.unusedSimpArgs false
set_option linter.unusedVariables false
set_option maxRecDepth 100000
set_option maxRecDepth 1000000
noncomputable section
namespace Go.Ev
open Go.Proofs
theorem Tryz.eq52 : ∀ (w : World) (c : Cx) (x y : List AV) (x' y' : List Value) (b : Bool), cellsEq Tryz.ti52.zero.cells.toList x y = some b → VRs w c x x' → VRs w c y y' →
      (Op.equal 52 (.agg x'.toArray) (.agg y'.toArray)).run Tryz.prog w = .ok b w ∧ Tryz.prog.eqGuardType Tryz.prog.depth 52 = false := by
  refine eq_flat Tryz.underlying52 (by kernel_rfl) (by kernel_rfl) ?_ (by kernel_rfl)
  intro j f hj
  have hlt : j < 4 := by
    rcases Nat.lt_or_ge j 4 with q | q
    · exact q
    · rw [List.getElem?_eq_none (by simpa using q)] at hj; cases hj
  rcases j with _ | _ | _ | _ | j
  all_goals first
    | omega
    | (simp at hj; subst hj; refine ⟨rfl, rfl, _, rfl, ?_⟩; first | exact .inl ⟨_, _, _, Tryz.underlying3, rfl⟩)
theorem Tryz.eq44 : ∀ (w : World) (c : Cx) (x y : List AV) (x' y' : List Value) (b : Bool), cellsEq Tryz.ti44.zero.cells.toList x y = some b → VRs w c x x' → VRs w c y y' →
      (Op.equal 44 (.agg x'.toArray) (.agg y'.toArray)).run Tryz.prog w = .ok b w ∧ Tryz.prog.eqGuardType Tryz.prog.depth 44 = false := by
  refine eq_flat Tryz.underlying44 (by kernel_rfl) (by kernel_rfl) ?_ (by kernel_rfl)
  intro j f hj
  have hlt : j < 6 := by
    rcases Nat.lt_or_ge j 6 with q | q
    · exact q
    · rw [List.getElem?_eq_none (by simpa using q)] at hj; cases hj
  rcases j with _ | _ | _ | _ | _ | _ | j
  all_goals first
    | omega
    | (simp at hj; subst hj; refine ⟨rfl, rfl, _, rfl, ?_⟩; first | exact .inl ⟨_, _, _, Tryz.underlying3, rfl⟩ | exact .inl ⟨_, _, _, Tryz.underlying36, rfl⟩ | exact .inr (.inr ⟨_, Tryz.underlying9, rfl⟩))
theorem Tryz.eq87 : ∀ (w : World) (c : Cx) (x y : List AV) (x' y' : List Value) (b : Bool), cellsEq Tryz.ti87.zero.cells.toList x y = some b → VRs w c x x' → VRs w c y y' →
      (Op.equal 87 (.agg x'.toArray) (.agg y'.toArray)).run Tryz.prog w = .ok b w ∧ Tryz.prog.eqGuardType Tryz.prog.depth 87 = false := by
  refine eq_flat Tryz.underlying87 (by kernel_rfl) (by kernel_rfl) ?_ (by kernel_rfl)
  intro j f hj
  have hlt : j < 5 := by
    rcases Nat.lt_or_ge j 5 with q | q
    · exact q
    · rw [List.getElem?_eq_none (by simpa using q)] at hj; cases hj
  rcases j with _ | _ | _ | _ | _ | j
  all_goals first
    | omega
    | (simp at hj; subst hj; refine ⟨rfl, rfl, _, rfl, ?_⟩; first | exact .inl ⟨_, _, _, Tryz.underlying3, rfl⟩)
noncomputable def Tryz.env0 (strict : Bool) (sum : Nat → Option AFun) (keep : Nat → Nat → Option (List Nat)) : Env := { strict := strict, ty := Tryz.tys, fn := Tryz.fns, eq := [52, 44, 87], flat := [], sum := sum, keep := keep, rounds := 100000 }
theorem Tryz.envOk (strict : Bool) (sum : Nat → Option AFun) (keep : Nat → Nat → Option (List Nat)) (hs : ∀ g A, sum g = some A → SumC Tryz.prog g A) : EnvOk2 Tryz.prog (Tryz.env0 strict sum keep) := by
  refine ⟨⟨Tryz.tysOk, ?_⟩, Tryz.mixed, Tryz.fnsOk, hs⟩
  intro t i ht hi
  have hm : t ∈ [52, 44, 87] := (memN_iff t [52, 44, 87]).1 ht
  have hi2 : Tryz.tys.get t = some i := hi
  simp only [List.mem_cons, List.not_mem_nil, or_false] at hm
  rcases hm with rfl | rfl | rfl
  · have h : Tryz.tys.get 52 = some Tryz.ti52 := rfl
    rw [h] at hi2
    injection hi2 with hi2
    subst hi2
    exact Tryz.eq52
  · have h : Tryz.tys.get 44 = some Tryz.ti44 := rfl
    rw [h] at hi2
    injection hi2 with hi2
    subst hi2
    exact Tryz.eq44
  · have h : Tryz.tys.get 87 = some Tryz.ti87 := rfl
    rw [h] at hi2
    injection hi2 with hi2
    subst hi2
    exact Tryz.eq87
end Go.Ev
/- What a function that calls another one and recovers from its panic says: the general part. -/
namespace Go.Ev
def caughtAt (T : Nat) (x : Value) : Option Int :=
  match x with
  | .iface t (.agg a) => (match a.toList with
    | [.int .i64 n] => bif Nat.beq t T then some n else none
    | _ => none)
  | _ => none
theorem caughtAt_eq {T : Nat} {x : Value} {n : Int} (h : caughtAt T x = some n) : x = .iface T (.agg #[.int .i64 n]) := by
  unfold caughtAt at h
  split at h
  · rename_i t a
    split at h
    · rename_i m hm
      cases hb : Nat.beq t T with
      | false => rw [hb] at h; cases h
      | true =>
        rw [hb] at h
        injection h with h
        have e := Nat.eq_of_beq_eq_true hb
        subst e; subst h
        have : a = #[.int .i64 m] := by rw [← Array.toArray_toList (xs := a), hm]
        rw [this]
    · cases h
  · cases h
def caughtEnd {ρ : Type} (T : Nat) (K : AV → Heap → Option ρ) (v : AV) (h : Heap) : Option ρ :=
  match v with
  | .pan x => (match caughtAt T x with
    | some n => K (.tup [.val (.int .i64 n), .val (.bool true)]) h
    | none => none)
  | _ => K (.tup [.val (.int .i64 0), .val (.bool false)]) h
noncomputable def caughtA (env : Env) (d : Nat) (T : Nat) : AFun := fun ρ args h K =>
  match args with
  | [f] => callF env d ρ f [] h (caughtEnd T K)
  | _ => none
def Cx.cut (c : Cx) (n : Nat) : Cx := ⟨c.M, fun b => c.O b ∧ b < n, c.ι, c.V⟩
theorem aside {w w1 : World} {c : Cx} {G : Nat → Option Blk} (hr : HR w c G) (hs : w.heap.size ≤ w1.heap.size) (hk : ∀ b, b < w.heap.size → w1.heap[b]? = w.heap[b]?) :
    HR w1 (c.cut w.heap.size) G ∧ Ext0 w c w1 (c.cut w.heap.size) := by
  have x : Ext0 w c w1 (c.cut w.heap.size) := ⟨fun _ q => q, fun b hb _ => hk b hb, fun i hi => ⟨hi, rfl⟩⟩
  refine ⟨⟨hr.valid, fun id b hb => ?_, hr.inj, fun b hb => ⟨fun q => (hr.dis b hb).1 q.1, Nat.lt_of_lt_of_le (hr.dis b hb).2 hs⟩⟩, x⟩
  have hb' := hr.blk id b hb
  exact BlkRel.keep x hb' (fun hl => hk _ (BlkRel.lt hb' hl)) (fun hl => ⟨BlkRel.owned hb' hl, BlkRel.lt hb' hl⟩)
theorem besides {w w1 : World} {c : Cx} {G : Nat → Option Blk} (hr : HR w c G) (hs : w.heap.size ≤ w1.heap.size) (hk : ∀ b, b < w.heap.size → c.O b ∨ c.M b → w1.heap[b]? = w.heap[b]?) : HR w1 c G := by
  have x : Ext0 w c w1 c := ⟨fun _ q => q, fun b hb q => hk b hb (.inr q), fun i hi => ⟨hi, rfl⟩⟩
  refine ⟨hr.valid, fun id b hb => ?_, hr.inj, fun b hb => ⟨(hr.dis b hb).1, Nat.lt_of_lt_of_le (hr.dis b hb).2 hs⟩⟩
  have hb' := hr.blk id b hb
  exact BlkRel.keep x hb' (fun hl => hk _ (BlkRel.lt hb' hl) (.inl (BlkRel.owned hb' hl))) (fun hl => BlkRel.owned hb' hl)
theorem Ext.around {w w1 w2 w3 : World} {c c' : Cx} (x : Ext w1 (c.cut w.heap.size) w2 c') (s1 : w.heap.size ≤ w1.heap.size) (s3 : w2.heap.size ≤ w3.heap.size)
    (h1 : ∀ b, b < w.heap.size → w1.heap[b]? = w.heap[b]?) (h3 : ∀ b, b < w.heap.size → w3.heap[b]? = w2.heap[b]?)
    (o1 : w1.os = w.os) (t1 : w1.tape = w.tape) (u1 : w1.output = w.output) (o3 : w3.os = w2.os) (t3 : w3.tape = w2.tape) (u3 : w3.output = w2.output) : Ext w c w3 c' := by
  refine ⟨⟨x.M, fun b hb hm => ?_, x.ids⟩, o3.trans (x.os.trans o1), t3.trans (x.tape.trans t1), u3.trans (x.output.trans u1), Nat.le_trans s1 (Nat.le_trans x.size s3), fun b hb ho => ?_, fun b hb ho => ?_, fun b hb hm => ?_, fun b hm hn => ?_⟩
  · exact (h3 b hb).trans ((x.mkeep b (Nat.lt_of_lt_of_le hb s1) hm).trans (h1 b hb))
  · exact (h3 b hb).trans ((x.keep b (Nat.lt_of_lt_of_le hb s1) (fun q => ho q.1)).trans (h1 b hb))
  · exact (x.own b (Nat.lt_of_lt_of_le hb s1) ho).1
  · exact x.Mo b (Nat.lt_of_lt_of_le hb s1) hm
  · obtain ⟨q1, q2⟩ := x.nd b hm hn
    exact ⟨q1, Nat.lt_of_lt_of_le q2 s3⟩
theorem wpOps_call {P : Program} {ops : Array Oper} {Q : Exit → Act → World → Prop} {i : Nat} {rest : List Nat} {a : Act} {w : World} {o : Oper} {nx : Next} {R : Ending → World → Prop}
    (ho : ops[i]? = some o) (hg : o.guard = none) (h : (o.semAt none a.eval).run P w = .ok nx w) (hG : GoesE P nx w R)
    (hret : ∀ v w', R (.returned v) w' → wpOpsIn Fence.wide 0 P ops Q rest (a.put o.dst v) w') (hpan : ∀ ch w', R (.panicked ch) w' → Q (.panic ch) a w') (hout : ∀ w', ¬ R .outgrown w') :
    wpOpsIn Fence.wide 0 P ops Q (i :: rest) a w := by
  have hw : Region.wanted o (yielded ops a.tmps) = true := by simp [Region.wanted, hg]
  simp only [wpOpsIn, ho, hw, if_true, Oper.wpIn]
  refine ⟨fun _ _ => trivial, ?_⟩
  show o.uponIn Fence.wide 0 P a _ Q ((o.semAt none a.eval).run P w)
  rw [h]
  cases nx <;> simp only [GoesE] at hG
  · exact hret _ _ hG
  · exact hret _ _ hG
  · refine ⟨by simp [Fence.wide], CallsIn.mono hG fun e w' q => ?_⟩
    cases e with
    | returned v => exact hret _ _ q
    | panicked ch => exact hpan _ _ q
    | outgrown => exact absurd q (hout _)
  · refine ⟨by simp [Fence.wide], RoundIn.mono hG fun e w' q => ?_⟩
    cases e with
    | returned v => exact hret _ _ q
    | panicked ch => exact hpan _ _ q
    | outgrown => exact absurd q (hout _)
theorem PostE.noOut {w : World} {c : Cx} {h h' : Heap} {v : AV} {w' : World} (q : PostE w c h h' v .outgrown w') : False := by
  obtain ⟨c', e, _⟩ := q
  rcases e with ⟨x, _, e⟩ | ⟨v', e, _⟩ <;> cases e
theorem run_call0 {P : Program} {a : Act} {o : Oper} {x : Operand} {tys : Array TypeId} {v : Value} {w : World} {d : Deferred} {nx : Next} (ho : o.op = .call ⟨.value x, #[], tys⟩) (hx : a.eval x = v)
    (h1 : (Deferred.ofValue v #[]).run P w = .ok d w) (h2 : (invoke d.target d.args).run P w = .ok nx w) : (o.semAt none a.eval).run P w = .ok nx w := by
  rw [Oper.semAt_none]
  simp only [execOp, ho]
  have e : resolve a.eval ⟨.value x, #[], tys⟩ o.type = Deferred.ofValue v #[] := by unfold resolve; simp [hx]
  rw [e]
  simp [h1, h2]
structure Same2 (w w3 : World) (b1 b2 : Nat) : Prop where
  size : w.heap.size ≤ w3.heap.size
  heap : ∀ b, b < w.heap.size → b ≠ b1 → b ≠ b2 → w3.heap[b]? = w.heap[b]?
  os : w3.os = w.os
  tape : w3.tape = w.tape
  output : w3.output = w.output
theorem Same2.trans {w w2 w3 : World} {b1 b2 : Nat} (x : Same2 w w2 b1 b2) (y : Same2 w2 w3 b1 b2) : Same2 w w3 b1 b2 :=
  ⟨Nat.le_trans x.size y.size, fun b hb h1 h2 => (y.heap b (Nat.lt_of_lt_of_le hb x.size) h1 h2).trans (x.heap b hb h1 h2), y.os.trans x.os, y.tape.trans x.tape, y.output.trans x.output⟩
theorem Same2.set {w : World} {b1 b2 : Nat} (a : Addr) (v : Value) (h : a.block = b1 ∨ a.block = b2) : Same2 w (w.setCell a v) b1 b2 := by
  refine ⟨by simp [World.setCell], fun b _ h1 h2 => ?_, rfl, rfl, rfl⟩
  have hne : b ≠ a.block := by rcases h with h | h <;> rw [h] <;> assumption
  simp only [World.setCell, Array.getElem?_modify]
  rw [if_neg (Ne.symm hne)]
theorem Same2.alloc {w : World} {b1 b2 : Nat} (o : Obj) : Same2 w (w.alloc o) b1 b2 := by
  exact ⟨by simp, fun b hb _ _ => heap_alloc_old w o b hb, rfl, rfl, rfl⟩
theorem heap_two (w : World) (o1 o2 : Obj) : ((w.alloc o1).alloc o2).heap[w.heap.size]? = some o1 ∧ ((w.alloc o1).alloc o2).heap[w.heap.size + 1]? = some o2 ∧ ((w.alloc o1).alloc o2).heap.size = w.heap.size + 2 ∧
    ∀ b, b < w.heap.size → ((w.alloc o1).alloc o2).heap[b]? = w.heap[b]? := by
  refine ⟨heap_alloc2_old w o1 o2, heap_alloc2_new w o1 o2, by simp, fun b hb => ?_⟩
  exact (heap_alloc_old _ o2 b (by simp; omega)).trans (heap_alloc_old w o1 b hb)
theorem caught_cells {w w2 : World} {c : Cx} {h h' : Heap} {v : AV} {e : Ending} {o1 o2 : Obj} (q : PostE ((w.alloc o1).alloc o2) (c.cut w.heap.size) h h' v e w2) :
    w2.heap[w.heap.size]? = some o1 ∧ w2.heap[w.heap.size + 1]? = some o2 := by
  obtain ⟨c', _, x, _, _⟩ := q
  obtain ⟨p1, p2, p3, _⟩ := heap_two w o1 o2
  refine ⟨(x.keep _ (by omega) (fun q => absurd q.2 (Nat.lt_irrefl _))).trans p1, (x.keep _ (by omega) (fun q => ?_)).trans p2⟩
  have := q.2
  omega
theorem caught_end {w w2 w3 : World} {c : Cx} {h h' : Heap} {v vf : AV} {e : Ending} {fv : Value} {o1 o2 : Obj} (hr : HR w c h.G) (q : PostE ((w.alloc o1).alloc o2) (c.cut w.heap.size) h h' v e w2)
    (s : Same2 w2 w3 w.heap.size (w.heap.size + 1)) (hv : ∀ W c, VR W c vf fv) : PostE w c h h' vf (.returned fv) w3 := by
  obtain ⟨c', _, x, xv, xr⟩ := q
  obtain ⟨p1, p2, p3, p4⟩ := heap_two w o1 o2
  have hne : ∀ b, c'.O b ∨ c'.M b → b ≠ w.heap.size ∧ b ≠ w.heap.size + 1 := by
    intro b hb
    refine ⟨fun e => ?_, fun e => ?_⟩ <;> subst e
    · rcases hb with hb | hb
      · exact absurd (x.own _ (by omega) hb).2 (Nat.lt_irrefl _)
      · exact absurd (hr.dis _ (x.Mo _ (by omega) hb)).2 (Nat.lt_irrefl _)
    · rcases hb with hb | hb
      · have := (x.own _ (by omega) hb).2
        omega
      · have := (hr.dis _ (x.Mo _ (by omega) hb)).2
        omega
  refine ⟨c', .inr ⟨fv, rfl, hv _ _⟩, Ext.around x (by omega) s.size p4 (fun b hb => ?_) rfl rfl rfl s.os s.tape s.output, xv, ?_⟩
  · exact s.heap b (Nat.lt_of_lt_of_le (by omega) x.size) (by omega) (by omega)
  · exact besides xr s.size (fun b hb ho => s.heap b hb (hne b ho).1 (hne b ho).2)
end Go.Ev
