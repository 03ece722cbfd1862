/- The evaluator, its soundness and the walks: part 7. -/
import Derived.Test.YtdogimleeplpkaaGreatProg
import Derived.Tactics
import Derived.Tactics2
import Derived.Defers
import Derived.Recover
import Derived.Laws.Pointers
import Derived.Laws.Rows
import Derived.Laws.NewBlocks
import Derived.Laws.Entries
import Derived.TacticsInMore
import Derived.RegionIn
import Derived.LoopNIn
import Derived.RecoverIn
import Derived.Laws.BitsLemmas
import Derived.ReadAgain
import Derived.JoinedCond
import Derived.ChangeArms
import Derived.ChangeSame
import Derived.OpenShut
import Derived.Test.YtdogimleeplpkaaGreatC6
set_option linter.unusedSectionVars false
set_option linter.unusedSimpArgs false
set_option linter.unusedVariables false
set_option maxRecDepth 100000
set_option maxRecDepth 1000000
noncomputable section
/- The deferred function of 'caught'. -/
namespace Go.Ev
open Go.Proofs
theorem Tryz.caught_idle (p q : Addr) (w : World) :
    CallsDIn Fence.wide 0 Tryz.prog 115 #[.pointer (some p), .pointer (some q)] .returning w fun e u' w' => e = .returned (.tuple #[]) ∧ u' = .returning ∧ w' = w := by
  refine callsDIn_of_wpSIn Tryz.func115 rfl trivial fun c₀ cs hu => ?_
  apply wpSIn_seq
  apply wpSIn_region
  simp [wpOpsSIn, go_sem, recoverD, hu, Tryz.f115, Exit.thenS]
  apply wpSIn_seq
  apply wpSIn_region
  simp [wpOpsSIn, go_sem, recoverD, hu, Exit.thenS]
  refine wpSIn_cond (t := false) (by simp [Act.eval, Array.replicate]) ?_
  simp only [Bool.false_eq_true, if_false]
  refine wpSIn_of_wpIn rfl (wpIn_skip ?_)
  cases c₀
  simp_all [bodyPostS, results, go_sem]
theorem Tryz.caught_panicking (b1 b2 : Nat) (n : Int) (older : List PanicEntry) (w : World) (hp : w.heap[b1]? = some (.cells #[.int .i64 0] 3)) (hq : w.heap[b2]? = some (.cells #[.bool false] 4)) (hpq : b1 ≠ b2) :
    CallsDIn Fence.wide 0 Tryz.prog 115 #[.pointer (some ⟨b1, 0, none⟩), .pointer (some ⟨b2, 0, none⟩)] (.panicking ({ v := .iface 146 (.agg #[.int .i64 n]), recovered := false } :: older)) w fun e u' w' =>
      e = .returned (.tuple #[]) ∧ u' = .panicking ({ v := .iface 146 (.agg #[.int .i64 n]), recovered := true } :: older) ∧ w' = ((w.alloc (.cells #[.int .i64 n] 146)).setCell ⟨b1, 0, none⟩ (.int .i64 n)).setCell ⟨b2, 0, none⟩ (.bool true) := by
  have lt1 : b1 < w.heap.size := by
    rcases Nat.lt_or_ge b1 w.heap.size with x | x
    · exact x
    · rw [Array.getElem?_eq_none x] at hp; cases hp
  have lt2 : b2 < w.heap.size := by
    rcases Nat.lt_or_ge b2 w.heap.size with x | x
    · exact x
    · rw [Array.getElem?_eq_none x] at hq; cases hq
  have k1 := (heap_alloc_old w (.cells #[.int .i64 n] 146) b1 lt1).trans hp
  have k2 := (heap_alloc_old w (.cells #[.int .i64 n] 146) b2 lt2).trans hq
  have h1 : (w.alloc (.cells #[.int .i64 n] 146)).cell? ⟨b1, 0, none⟩ = some (.int .i64 0) := by rw [cell_of_row _ _ _ _ _ _ k1]; rfl
  have h2 : (w.alloc (.cells #[.int .i64 n] 146)).frozen? ⟨b1, 0, none⟩ = false := frozen_of_row _ _ _ _ _ k1
  have k3 := (heap_setCell_other (w.alloc (.cells #[.int .i64 n] 146)) ⟨b1, 0, none⟩ b2 (.int .i64 n) (Ne.symm hpq)).trans k2
  have h3 : ((w.alloc (.cells #[.int .i64 n] 146)).setCell ⟨b1, 0, none⟩ (.int .i64 n)).cell? ⟨b2, 0, none⟩ = some (.bool false) := by rw [cell_of_row _ _ _ _ _ _ k3]; rfl
  have h4 : ((w.alloc (.cells #[.int .i64 n] 146)).setCell ⟨b1, 0, none⟩ (.int .i64 n)).frozen? ⟨b2, 0, none⟩ = false := frozen_of_row _ _ _ _ _ k3
  refine callsDIn_of_wpSIn Tryz.func115 rfl trivial fun c₀ cs hu => ?_
  apply wpSIn_seq
  apply wpSIn_region
  simp [wpOpsSIn, go_sem, recoverD, hu, Tryz.f115, Exit.thenS]
  apply wpSIn_seq
  apply wpSIn_region
  simp [wpOpsSIn, go_sem, recoverD, hu, Exit.thenS]
  refine wpSIn_cond (t := true) (by simp [Act.eval, Array.replicate]) ?_
  simp only [if_true]
  apply wpSIn_seq
  apply wpSIn_region
  simp [wpOpsSIn, go_sem, Exit.thenS, Instr.typeAssert, Tryz.underlying146, Tryz.type146]
  apply wpSIn_seq
  apply wpSIn_seq
  apply wpSIn_region
  simp [wpOpsSIn, go_sem, Exit.thenS]
  refine wpSIn_cond (t := false) (by simp [Act.eval, Array.replicate]) ?_
  simp only [Bool.false_eq_true, if_false]
  refine wpSIn_of_wpIn rfl (wpIn_skip ?_)
  simp only [Exit.thenS]
  apply wpSIn_region
  simp [wpOpsSIn, go_sem, Exit.thenS, Tryz.underlying146, h1, h2, h3, h4, bodyPostS, results]
set_option maxHeartbeats 1000000 in
theorem Tryz.caught_calls (f' : Value) (w w1 : World) (R R2 : Ending → World → Prop) (hw1 : w1 = (w.alloc (Obj.cells #[Value.int IntKind.i64 0] 3)).alloc (Obj.cells #[Value.bool false] 4))
    (h : ∃ d nx, (Deferred.ofValue f' #[]).run Tryz.prog w1 = .ok d w1 ∧ (invoke d.target d.args).run Tryz.prog w1 = .ok nx w1 ∧ GoesE Tryz.prog nx w1 R2) (hout : ∀ w', ¬ R2 .outgrown w')
    (hcells : ∀ e w2, R2 e w2 → w2.heap[w.heap.size]? = some (.cells #[.int .i64 0] 3) ∧ w2.heap[w.heap.size + 1]? = some (.cells #[.bool false] 4))
    (hret : ∀ v w2, R2 (.returned v) w2 → R (.returned (.tuple #[.int .i64 0, .bool false])) ((w2.setCell ⟨w.heap.size, 0, none⟩ (.int .i64 0)).setCell ⟨w.heap.size + 1, 0, none⟩ (.bool false)))
    (hpan : ∀ ch w2, R2 (.panicked ch) w2 → ∃ n, ch = chainOf (.iface 146 (.agg #[.int .i64 n])) ∧
      R (.returned (.tuple #[.int .i64 n, .bool true])) (((w2.alloc (.cells #[.int .i64 n] 146)).setCell ⟨w.heap.size, 0, none⟩ (.int .i64 n)).setCell ⟨w.heap.size + 1, 0, none⟩ (.bool true))) :
    CallsIn Fence.wide 0 Tryz.prog 57 #[f'] w R := by
  have hne : w.heap.size ≠ w.heap.size + 1 := by omega
  refine callsIn_of_wp_defers Tryz.func57 rfl trivial ?_
  obtain ⟨Q, hQ⟩ : ∃ Q, Q = bodyPostDIn Fence.wide 0 Tryz.prog Tryz.f57 R := ⟨_, rfl⟩
  rw [← hQ]
  apply wpIn_seq
  apply wpIn_region
  simp [wpOpsIn, Oper.wpIn, Oper.uponIn, go_sem, Exit.then, Tryz.f57]
  apply wpIn_seq
  apply wpIn_region
  simp [wpOpsIn, Oper.wpIn, Oper.uponIn, go_sem, Exit.then]
  apply wpIn_seq
  apply wpIn_region
  rw [← hw1]
  obtain ⟨d, nx, h1, h2, h3⟩ := h
  rw [show List.range (Array.size _) = [0, 1] from rfl]
  refine wpOps_call (nx := .value f') (R := fun e w' => e = .returned f' ∧ w' = w1) rfl rfl (by simp [Oper.semAt, go_sem]) ⟨rfl, rfl⟩ ?_ (by rintro _ _ ⟨q, _⟩; cases q) (by rintro _ ⟨q, _⟩; cases q)
  rintro v0 w' ⟨q, rfl⟩
  injection q with q
  subst q
  refine wpOps_call (nx := nx) (R := R2) rfl rfl ?_ h3 ?_ ?_ hout
  · refine run_call0 rfl ?_ h1 h2
    simp [Act.eval, Act.put, Array.replicate]
  · intro v w2 hR
    obtain ⟨c1, c2⟩ := hcells _ _ hR
    have g1 : w2.cell? ⟨w.heap.size, 0, none⟩ = some (.int .i64 0) := by rw [cell_of_row _ _ _ _ _ _ c1]; rfl
    have g2 : w2.frozen? ⟨w.heap.size, 0, none⟩ = false := frozen_of_row _ _ _ _ _ c1
    have c3 := (heap_setCell_other w2 ⟨w.heap.size, 0, none⟩ (w.heap.size + 1) (.int .i64 0) (Ne.symm hne)).trans c2
    have g3 : (w2.setCell ⟨w.heap.size, 0, none⟩ (.int .i64 0)).cell? ⟨w.heap.size + 1, 0, none⟩ = some (.bool false) := by rw [cell_of_row _ _ _ _ _ _ c3]; rfl
    have g4 : (w2.setCell ⟨w.heap.size, 0, none⟩ (.int .i64 0)).frozen? ⟨w.heap.size + 1, 0, none⟩ = false := frozen_of_row _ _ _ _ _ c3
    simp only [wpOpsIn, Exit.then]
    apply wpIn_seq
    apply wpIn_region
    simp [wpOpsIn, Oper.wpIn, Oper.uponIn, go_sem, Exit.then, g1, g2, g3, g4]
    refine wpIn_ret ?_
    rw [hQ]
    simp only [bodyPostDIn]
    refine leavesIn_cons (f := 115) (args := #[.pointer (some ⟨w.heap.size, 0, none⟩), .pointer (some ⟨w.heap.size + 1, 0, none⟩)]) (by simp) (by simp [Fence.wide]) (by simp [go_sem]) (fun _ _ => trivial) ?_
    refine (Tryz.caught_idle _ _ _).mono ?_
    rintro e u' w'' ⟨rfl, rfl, rfl⟩
    have e1 : (w2.setCell ⟨w.heap.size, 0, none⟩ (.int .i64 0)).cell? ⟨w.heap.size, 0, none⟩ = some (.int .i64 0) := World.cell?_setCell_same' _ _ _ (by rw [g1]; rfl)
    have e2 : ((w2.setCell ⟨w.heap.size, 0, none⟩ (.int .i64 0)).setCell ⟨w.heap.size + 1, 0, none⟩ (.bool false)).cell? ⟨w.heap.size + 1, 0, none⟩ = some (.bool false) := World.cell?_setCell_same' _ _ _ (by rw [g3]; rfl)
    simp [LeavesIn, settle, results, go_sem, Tryz.f57, e1, e2]
    exact hret v w2 hR
  · intro ch w2 hR
    obtain ⟨c1, c2⟩ := hcells _ _ hR
    obtain ⟨n, rfl, hq⟩ := hpan _ _ hR
    simp only [Exit.then]
    rw [hQ]
    simp only [bodyPostDIn]
    refine leavesIn_cons (f := 115) (args := #[.pointer (some ⟨w.heap.size, 0, none⟩), .pointer (some ⟨w.heap.size + 1, 0, none⟩)]) (by simp) (by simp [Fence.wide]) (by simp [go_sem]) (fun _ _ => trivial) ?_
    refine (Tryz.caught_panicking _ _ n [] _ c1 c2 hne).mono ?_
    rintro e u' w'' ⟨rfl, rfl, rfl⟩
    have lt1 : w.heap.size < w2.heap.size := by
      rcases Nat.lt_or_ge w.heap.size w2.heap.size with x | x
      · exact x
      · rw [Array.getElem?_eq_none x] at c1; cases c1
    have lt2 : w.heap.size + 1 < w2.heap.size := by
      rcases Nat.lt_or_ge (w.heap.size + 1) w2.heap.size with x | x
      · exact x
      · rw [Array.getElem?_eq_none x] at c2; cases c2
    have k1 := (heap_alloc_old w2 (.cells #[.int .i64 n] 146) w.heap.size lt1).trans c1
    have k2 := (heap_alloc_old w2 (.cells #[.int .i64 n] 146) (w.heap.size + 1) lt2).trans c2
    have h1 : (w2.alloc (.cells #[.int .i64 n] 146)).cell? ⟨w.heap.size, 0, none⟩ = some (.int .i64 0) := by rw [cell_of_row _ _ _ _ _ _ k1]; rfl
    have k3 := (heap_setCell_other (w2.alloc (.cells #[.int .i64 n] 146)) ⟨w.heap.size, 0, none⟩ (w.heap.size + 1) (.int .i64 n) (Ne.symm hne)).trans k2
    have h3 : ((w2.alloc (.cells #[.int .i64 n] 146)).setCell ⟨w.heap.size, 0, none⟩ (.int .i64 n)).cell? ⟨w.heap.size + 1, 0, none⟩ = some (.bool false) := by rw [cell_of_row _ _ _ _ _ _ k3]; rfl
    have e1 : ((w2.alloc (.cells #[.int .i64 n] 146)).setCell ⟨w.heap.size, 0, none⟩ (.int .i64 n)).cell? ⟨w.heap.size, 0, none⟩ = some (.int .i64 n) := World.cell?_setCell_same' _ _ _ (by rw [h1]; rfl)
    have e2 : (((w2.alloc (.cells #[.int .i64 n] 146)).setCell ⟨w.heap.size, 0, none⟩ (.int .i64 n)).setCell ⟨w.heap.size + 1, 0, none⟩ (.bool true)).cell? ⟨w.heap.size + 1, 0, none⟩ = some (.bool true) := World.cell?_setCell_same' _ _ _ (by rw [h3]; rfl)
    simp [LeavesIn, settle, results, go_sem, Tryz.f57, e1, e2]
    exact hq
theorem Tryz.caughtSum {env : Env} (he : EnvOk2 Tryz.prog env) (d : Nat) : SumC Tryz.prog 57 (caughtA env d 146) := by
  refine ⟨⟨_, _, Tryz.func57, by simp [Tryz.f57], rfl⟩, ?_⟩
  intro ρ args h K r hk hA
  unfold caughtA at hA
  split at hA
  · rename_i f
    obtain ⟨v, h', k1, k2, k3⟩ := callF_sound he d ρ f [] h _ r hk hA
    have base : ∀ (w : World) (c : Cx) (f' : Value) (R : Ending → World → Prop), HR w c h.G → VR w c f f' → (∀ id, h.next ≤ id → id < h'.next → ¬ c.V id) →
        (∀ u w2, PostE ((w.alloc (Obj.cells #[Value.int IntKind.i64 0] 3)).alloc (Obj.cells #[Value.bool false] 4)) (c.cut w.heap.size) h h' v (.returned u) w2 →
          R (.returned (.tuple #[.int .i64 0, .bool false])) ((w2.setCell ⟨w.heap.size, 0, none⟩ (.int .i64 0)).setCell ⟨w.heap.size + 1, 0, none⟩ (.bool false))) →
        (∀ ch w2, PostE ((w.alloc (Obj.cells #[Value.int IntKind.i64 0] 3)).alloc (Obj.cells #[Value.bool false] 4)) (c.cut w.heap.size) h h' v (.panicked ch) w2 → ∃ n, ch = chainOf (.iface 146 (.agg #[.int .i64 n])) ∧
          R (.returned (.tuple #[.int .i64 n, .bool true])) (((w2.alloc (.cells #[.int .i64 n] 146)).setCell ⟨w.heap.size, 0, none⟩ (.int .i64 n)).setCell ⟨w.heap.size + 1, 0, none⟩ (.bool true))) →
        CallsIn Fence.wide 0 Tryz.prog 57 #[f'] w R := by
      intro w c f' R hr hf hfr hret hpan
      obtain ⟨p1, p2, p3, p4⟩ := heap_two w (Obj.cells #[Value.int IntKind.i64 0] 3) (Obj.cells #[Value.bool false] 4)
      obtain ⟨hr1, x1⟩ := aside (w1 := (w.alloc (Obj.cells #[Value.int IntKind.i64 0] 3)).alloc (Obj.cells #[Value.bool false] 4)) hr (by omega) p4
      obtain ⟨dd, nx, y1, y2, _, y3⟩ := k3 _ _ f' [] hr1 (VR.mono x1 hf) .nil hfr
      exact Tryz.caught_calls f' w _ R _ rfl ⟨dd, nx, y1, y2, y3⟩ (fun w' q => q.noOut) (fun e w2 q => caught_cells q) hret hpan
    by_cases hp : ∃ x, v = .pan x
    · obtain ⟨x, rfl⟩ := hp
      unfold caughtEnd at k1
      simp only at k1
      split at k1
      · rename_i n hn
        have hx := caughtAt_eq hn
        subst hx
        refine ⟨_, h', k1, k2, fun w c args' hr hv hfr => ?_⟩
        cases hv with | cons _ f' _ _ hf hnil =>
        cases hnil
        refine base w c f' _ hr hf hfr (fun u w2 q => ?_) (fun ch w2 q => ⟨n, ?_, caught_end hr q ((Same2.alloc _).trans ((Same2.set _ _ (.inl rfl)).trans (Same2.set _ _ (.inr rfl)))) (fun W c => .tup [_, _] [_, _] (.cons _ _ _ _ (.val _) (.cons _ _ _ _ (.val _) .nil)))⟩)
        · obtain ⟨c', e, _⟩ := q
          cases e.pan
        · obtain ⟨c', e, _⟩ := q
          have := e.pan
          injection this
      · cases k1
    · have hv : caughtEnd 146 K v h' = K (.tup [.val (.int .i64 0), .val (.bool false)]) h' := by
        unfold caughtEnd
        split
        · exact absurd ⟨_, rfl⟩ hp
        · rfl
      rw [hv] at k1
      refine ⟨_, h', k1, k2, fun w c args' hr hv hfr => ?_⟩
      cases hv with | cons _ f' _ _ hf hnil =>
      cases hnil
      refine base w c f' _ hr hf hfr (fun u w2 q => caught_end hr q ((Same2.set _ _ (.inl rfl)).trans (Same2.set _ _ (.inr rfl))) (fun W c => .tup [_, _] [_, _] (.cons _ _ _ _ (.val _) (.cons _ _ _ _ (.val _) .nil)))) (fun ch w2 q => ?_)
      obtain ⟨c', e, _⟩ := q
      obtain ⟨_, e, _⟩ := e.ret (fun x q => hp ⟨x, q⟩)
      cases e
  · cases hA
end Go.Ev
namespace Go.Ev
open Go.Proofs
noncomputable def Tryz.env1 : Env := Tryz.env0 true (fun _ => none) (fun _ _ => none)
theorem Tryz.env1Ok : EnvOk2 Tryz.prog Tryz.env1 := Tryz.envOk _ _ _ (fun g A h => by cases h)
noncomputable def Tryz.sum1 : Nat → Option AFun := fun g => bif Nat.beq g 57 then some (caughtA Tryz.env1 50 146) else none
theorem Tryz.sum1Ok : ∀ g A, Tryz.sum1 g = some A → SumC Tryz.prog g A := by
  intro g A h
  unfold Tryz.sum1 at h
  cases hb : Nat.beq g 57 with
  | false => rw [hb] at h; cases h
  | true =>
    rw [hb] at h
    injection h with h
    have e := Nat.eq_of_beq_eq_true hb
    subst e; subst h
    exact Tryz.caughtSum Tryz.env1Ok 50
theorem Tryz.saneRun : callF (Tryz.env0 true Tryz.sum1 (fun _ _ => none)) 50 AV (.clo (.func 9) [] []) [] heap0 (fun v _ => some v) = some (.val (.bool true)) := by kernel_rfl
theorem Tryz.saneSum : SumC Tryz.prog 9 (constA (.bool true)) := SumC.closed (Tryz.envOk _ _ _ Tryz.sum1Ok) 49 9 rfl Tryz.saneRun
end Go.Ev
/- A caller's blocks, lent to be read. -/
namespace Go.Ev
def consO {β : Type} : Option β → Option (List β) → Option (List β)
  | some v, some l => some (v :: l)
  | _, _ => none
def pmapL {α β : Type} (f : α → Option β) (l : List α) : Option (List β) := foldL (some []) (fun v _ ih => consO (f v) ih) l
def pur0 (h : Heap) : AV → Option AV
  | .unk => some .unk
  | .val v => some (.val v)
  | .ro c cap => some (.ro c cap)
  | .rptr c i j => some (.rptr c i j)
  | .rmp m => some (.rmp m)
  | .own id off len cap wd => (match h.con id with
    | some c => bif c.pureF && (Nat.ble (off + len) c.len && Nat.beq c.wd wd) then some (.ro (c.sub off len) cap) else none
    | none => none)
  | .ptr id r col => (match h.con id with
    | some c => bif c.pureF && Nat.blt r c.len then some (.rptr c r col) else none
    | none => none)
  | .mp id => (match findE h.es id with
    | some ⟨_, _, .map true m⟩ => some (.rmp m)
    | _ => none)
  | _ => none
def pur0s (h : Heap) (l : List AV) : Option (List AV) := pmapL (pur0 h) l
def purC (h : Heap) : AV → Option AV
  | .clo f a b => bif notYield f then (match pur0s h a, pur0s h b with | some a, some b => some (.clo f a b) | _, _ => none) else none
  | v => pur0 h v
def purCs (h : Heap) (l : List AV) : Option (List AV) := pmapL (purC h) l
def purRows (h : Heap) (l : List (List AV)) : Option (List (List AV)) := pmapL (purCs h) l
def purCon (h : Heap) : Con → Option Con
  | .rows false w l => (match purRows h l with | some l => some (.rows true w l) | none => none)
  | c => some c
def pur1 (h : Heap) : AV → Option AV
  | .own id off len cap wd => (match h.con id with
    | some c => bif Nat.ble (off + len) c.len && Nat.beq c.wd wd then (match purCon h (c.sub off len) with | some k => some (.ro k cap) | none => none) else none
    | none => none)
  | .ptr id r col => (match h.con id with
    | some c => bif Nat.blt r c.len then (match purCon h c with | some k => some (.rptr k r col) | none => none) else none
    | none => none)
  | v => pur0 h v
def pur1s (h : Heap) (l : List AV) : Option (List AV) := pmapL (pur1 h) l
def purA (h : Heap) : AV → Option AV
  | .agg l => (match pur1s h l with | some l => some (.agg l) | none => none)
  | .clo f a b => bif notYield f then (match pur1s h a, pur1s h b with | some a, some b => some (.clo f a b) | _, _ => none) else none
  | v => pur1 h v
def purAs (h : Heap) (l : List AV) : Option (List AV) := pmapL (purA h) l
def Cx.lent (w : World) : Cx := ⟨fun b => b < w.heap.size, fun _ => False, fun _ => ⟨false, 0, 0, 0, 0⟩, fun _ => False⟩
structure More (c c2 : Cx) : Prop where
  M : ∀ b, c.M b → c2.M b
  ids : ∀ i, c.V i → c2.V i ∧ c2.ι i = c.ι i
theorem More.bare {c c2 : Cx} (h : More c c2) : More c.none c2.none := ⟨h.M, fun _ q => q.elim⟩
mutual
theorem VR.more {w : World} {c c2 : Cx} (h : More c c2) : ∀ {v : AV} {u : Value}, VR w c v u → VR w c2 v u
  | _, _, .unk v => .unk v
  | _, _, .val v => .val v
  | _, _, .agg l l' hl => .agg l l' (VRs.more h hl)
  | _, _, .ro k cap a m h1 h2 h3 h4 => .ro k cap a m h1 h2 h3 (fun b o e hp => RD.more h (h4 b o e hp))
  | _, _, .rptr k r j b o h1 h2 => .rptr k r j b o h1 (RD.more h h2)
  | _, _, .own id off len cap wd a m h1 h2 h3 h4 h5 => by
    obtain ⟨g1, g2⟩ := h.ids id h1
    exact .own id off len cap wd a m g1 (by rw [g2]; exact h2) h3 h4 (by rw [g2]; exact h5)
  | _, _, .ptr id r j h1 h2 => by
    obtain ⟨g1, g2⟩ := h.ids id h1
    have := VR.ptr (W := w) (c := c2) id r j g1 (by rw [g2]; exact h2)
    rw [g2] at this
    exact this
  | _, _, .clo f x y x' y' hf hx hy => by
    have e : renFn c2 f = renFn c f := by
      cases f <;> simp only [renFn]
      rw [(h.ids _ hf).2]
    have hf' : fnOk c2 f := by
      cases f <;> simp only [fnOk]
      exact (h.ids _ hf).1
    rw [← e]
    exact .clo f x y x' y' hf' (VRs.more h hx) (VRs.more h hy)
  | _, _, .tup l l' hl => .tup l l' (VRs.more h hl)
  | _, _, .ifc t v v' hv => .ifc t v v' (VR.more h hv)
  | _, _, .mp id h1 h2 => by
    obtain ⟨g1, g2⟩ := h.ids id h1
    have := VR.mp (W := w) (c := c2) id g1 (by rw [g2]; exact h2)
    rw [g2] at this
    exact this
  | _, _, .rmp m r es ck g h1 h2 h3 h4 h5 => .rmp m r es ck g (h.M r h1) h2 h3 h4 (fun i hi => VR.more h.bare (h5 i hi))
theorem VRs.more {w : World} {c c2 : Cx} (h : More c c2) : ∀ {l : List AV} {l' : List Value}, VRs w c l l' → VRs w c2 l l'
  | _, _, .nil => .nil
  | _, _, .cons v v' l l' hv hl => .cons v v' l l' (VR.more h hv) (VRs.more h hl)
theorem RD.more {w : World} {c c2 : Cx} (h : More c c2) : ∀ {k : Con} {b o : Nat}, RD w c k b o → RD w c2 k b o
  | _, _, _, .mk k b o arr e fz g h1 h2 h3 h4 => .mk k b o arr e fz g (h.M b h1) h2 h3 (fun i j v hi hj hv => VR.more h.bare (h4 i j v hi hj hv))
end
theorem HR.lent {w : World} {c : Cx} {G : Nat → Option Blk} (h : HR w c G) : More c.none (Cx.lent w) := ⟨fun b hb => (h.dis b hb).2, fun _ q => q.elim⟩
structure Lends (w : World) (c T : Cx) : Prop where
  more : More c.none T
  own : ∀ b, c.O b → b < w.heap.size → T.M b
  none : T.none = T
theorem HR.lends {w : World} {c : Cx} {G : Nat → Option Blk} (h : HR w c G) : Lends w c (Cx.lent w) := ⟨h.lent, fun _ _ q => q, rfl⟩
theorem own_rdT {T : Cx} {w : World} {c : Cx} (hT : Lends w c T) {rb : RB} {k k' : Con} {off len : Nat} (hb : CellsRel w c rb k) (hl : rb.live = true) (hle : off + len ≤ k.len) (hlen : k'.len = len) (hwd : k'.wd = k.wd)
    (hrow : ∀ (i j : Nat) (p : AV) (u : Value), i < len → j < k.wd → (k'.row i)[j]? = some p → (∀ v, (k.row (off + i))[j]? = some v → VR w (c.at k.pureF) v u) → VR w T p u) :
    RD w T k' rb.blk (rb.st + off * rb.wd) := by
  obtain ⟨arr, e, fz, h1, h2, h3, h4, h5, h6⟩ := hb.arr hl
  have hlt : ∀ i j, i < len → j < k.wd → rb.st + off * rb.wd + i * k'.wd + j < arr.size ∧ rb.st + off * rb.wd + i * k'.wd + j = rb.st + (off + i) * rb.wd + j := by
    intro i j hi hj
    have e1 : rb.st + off * rb.wd + i * k'.wd + j = rb.st + (off + i) * rb.wd + j := by rw [hwd, hb.wd, Nat.add_mul]; omega
    refine ⟨?_, e1⟩
    rw [e1, h2]
    rw [hb.wd] at hj
    have : (off + i + 1) * rb.wd ≤ k.len * rb.wd := Nat.mul_le_mul_right _ (by omega)
    rw [Nat.add_mul (off + i)] at this
    omega
  refine .mk k' rb.blk _ arr e fz (fun i j => arr[rb.st + off * rb.wd + i * k'.wd + j]!) ?_ h1 ?_ ?_
  · refine hT.own _ (hb.own hl) ?_
    rcases Nat.lt_or_ge rb.blk w.heap.size with q | q
    · exact q
    · rw [Array.getElem?_eq_none q] at h1; cases h1
  · intro i j hi hj
    rw [hlen] at hi
    rw [hwd] at hj
    obtain ⟨g1, g2⟩ := hlt i j hi hj
    have e1 : arr[rb.st + off * rb.wd + i * k'.wd + j]? = some (arr[rb.st + off * rb.wd + i * k'.wd + j]!) := by simp [g1]
    exact ⟨e1, h4 _ _ e1⟩
  · intro i j p hi hj hp
    rw [hlen] at hi
    rw [hwd] at hj
    rw [hT.none]
    obtain ⟨g1, g2⟩ := hlt i j hi hj
    refine hrow i j p _ hi hj hp (fun v hv => ?_)
    refine h6 (off + i) j v _ (by omega) (by rw [← hb.wd]; exact hj) hv ?_
    rw [← g2]
    simp [g1]
section
variable {w : World} {c T : Cx} {h : Heap} (hr : HR w c h.G) (hT : Lends w c T)
include hr hT
theorem own_lendT {id off len wd : Nat} {cap : Option Nat} {k k' : Con} (hk : h.con id = some k) (hle : off + len ≤ k.len) (hw : k.wd = wd) (hlen : k'.len = len) (hwd : k'.wd = k.wd)
    (hrow : ∀ (i j : Nat) (p : AV) (u : Value), i < len → j < k.wd → (k'.row i)[j]? = some p → (∀ v, (k.row (off + i))[j]? = some v → VR w (c.at k.pureF) v u) → VR w T p u)
    {u : Value} (hv : VR w c (.own id off len cap wd) u) : VR w T (.ro k' cap) u := by
  have hb : CellsRel w c (c.ι id) k := hr.blk id _ (con_some hk)
  cases hv with | own _ _ _ _ _ a m k1 k2 k3 k4 k5 =>
  have e1 : len = k'.len := hlen.symm
  rw [e1]
  rcases k5 with k5 | ⟨k5, k6, k7⟩
  · exact .ro k' cap a m (by omega) k4 (.inl (by omega)) (fun b o _ hp => by omega)
  · subst k6
    have hrd := own_rdT hT (off := off) hb k5 hle hlen hwd hrow
    rw [k2] at hrd
    rcases Nat.eq_zero_or_pos k'.len with z | z
    · exact .ro k' cap _ m (by omega) k4 (.inl z) (fun b o _ hp => by omega)
    · refine .ro k' cap _ m (by omega) k4 (.inr ⟨_, _, rfl, z⟩) (fun b o q _ => ?_)
      injection q with q
      injection q with q1 q2
      subst q1; subst q2
      exact hrd
theorem ptr_lendT {id r col : Nat} {k k' : Con} (hk : h.con id = some k) (hlt : r < k.len) (hlen : k'.len = k.len) (hwd : k'.wd = k.wd)
    (hrow : ∀ (i j : Nat) (p : AV) (u : Value), i < k.len → j < k.wd → (k'.row i)[j]? = some p → (∀ v, (k.row i)[j]? = some v → VR w (c.at k.pureF) v u) → VR w T p u)
    {u : Value} (hv : VR w c (.ptr id r col) u) : VR w T (.rptr k' r col) u := by
  have hb : CellsRel w c (c.ι id) k := hr.blk id _ (con_some hk)
  cases hv with | ptr _ _ _ k1 k2 =>
  have hrd := own_rdT hT (off := 0) (len := k.len) hb k2 (by omega) hlen hwd (fun i j p u hi hj hp hh => hrow i j p u hi hj hp (by simpa using hh))
  rw [Nat.zero_mul, Nat.add_zero] at hrd
  have := VR.rptr (W := w) (c := T) k' r col _ _ (by omega) hrd
  rw [hwd, hb.wd] at this
  exact this
theorem pur0_relT {v p : AV} {u : Value} (hp : pur0 h v = some p) (hv : VR w c v u) : VR w T p u := by
  have base : pure0 v = true → VR w T v u := fun q => VR.more hT.more (pure0_none q hv)
  cases v with
  | unk => simp only [pur0, Option.some.injEq] at hp; subst hp; exact base rfl
  | val x => simp only [pur0, Option.some.injEq] at hp; subst hp; exact base rfl
  | ro k cap => simp only [pur0, Option.some.injEq] at hp; subst hp; exact base rfl
  | rptr k i j => simp only [pur0, Option.some.injEq] at hp; subst hp; exact base rfl
  | rmp m => simp only [pur0, Option.some.injEq] at hp; subst hp; exact base rfl
  | own id off len cap wd =>
    simp only [pur0] at hp
    split at hp
    · rename_i k hk
      cases hg : (k.pureF && (Nat.ble (off + len) k.len && Nat.beq k.wd wd)) with
      | false => rw [hg] at hp; cases hp
      | true =>
        rw [hg] at hp
        simp only [cond_true, Option.some.injEq] at hp
        subst hp
        simp only [Bool.and_eq_true] at hg
        obtain ⟨g1, g2, g3⟩ := hg
        have g2 := Nat.le_of_ble_eq_true g2
        refine own_lendT hr hT hk g2 (beq_iff.1 g3) (Con.sub_len _ _ _ g2) (Con.sub_wd _ _ _) (fun i j p u hi hj hp hh => ?_) hv
        rw [Con.sub_row _ _ _ _ hi g2] at hp
        have := hh p hp
        rw [g1] at this
        exact VR.more hT.more this
    · cases hp
  | ptr id r col =>
    simp only [pur0] at hp
    split at hp
    · rename_i k hk
      cases hg : (k.pureF && Nat.blt r k.len) with
      | false => rw [hg] at hp; cases hp
      | true =>
        rw [hg] at hp
        simp only [cond_true, Option.some.injEq] at hp
        subst hp
        simp only [Bool.and_eq_true] at hg
        refine ptr_lendT hr hT hk (blt_iff.1 hg.2) rfl rfl (fun i j p u hi hj hp hh => ?_) hv
        have := hh p hp
        rw [hg.1] at this
        exact VR.more hT.more this
    · cases hp
  | mp id =>
    simp only [pur0] at hp
    split at hp
    · rename_i i0 v0 m hf
      simp only [Option.some.injEq] at hp
      subst hp
      cases hv with | mp _ h1 h2 =>
      have hG : h.G id = some (.map true m) := by simp [Heap.G, hf]
      have hb : MapRel w c (c.ι id) true m := hr.blk id _ hG
      have hlt : (c.ι id).blk < w.heap.size := BlkRel.lt (b := .map true m) hb h2
      obtain ⟨es, a1, a2, a3⟩ := hb.obj
      refine .rmp m (c.ι id).blk es m.clock (fun i => es.getD i ⟨.tuple #[], .tuple #[], 0⟩) (hT.own _ hb.own hlt) a1 a2 ?_ ?_
      · intro i hi
        obtain ⟨e, b1, b2, b3, b4⟩ := a3 i hi
        have hi' : i < es.size := by omega
        rw [Array.getElem?_eq_getElem hi'] at b1 ⊢
        injection b1 with b1
        have e1 : es.getD i ⟨.tuple #[], .tuple #[], 0⟩ = es[i] := by simp [Array.getD, hi']
        rw [e1]
        exact ⟨rfl, by rw [b1]; exact b2⟩
      · intro i hi
        obtain ⟨e, b1, b2, b3, b4⟩ := a3 i hi
        have hi' : i < es.size := by omega
        rw [Array.getElem?_eq_getElem hi'] at b1
        injection b1 with b1
        have e1 : es.getD i ⟨.tuple #[], .tuple #[], 0⟩ = es[i] := by simp [Array.getD, hi']
        simp only [e1, b1]
        rw [hT.none]
        exact VR.more hT.more b4
    · cases hp
  | _ => cases hp
theorem pmap_relT {f : AV → Option AV} (hf : ∀ v p u, f v = some p → VR w c v u → VR w T p u) : ∀ {l p : List AV} {l' : List Value}, pmapL f l = some p → VRs w c l l' → VRs w T p l'
  | [], p, _, hp, h => by
    cases h
    have hp' : some [] = some p := hp
    injection hp' with hp'
    subst hp'
    exact .nil
  | v :: l, p, _, hp, h => by
    cases h with | cons _ v' _ l' h1 h2 =>
    have hp' : consO (f v) (pmapL f l) = some p := hp
    unfold consO at hp'
    split at hp'
    · rename_i x y hx hy
      injection hp' with hp'
      subst hp'
      exact .cons _ _ _ _ (hf v x v' hx h1) (pmap_relT hf hy h2)
    · cases hp'
end
theorem pmap_get {α β : Type} {f : α → Option β} : ∀ {l : List α} {p : List β}, pmapL f l = some p → p.length = l.length ∧ ∀ (i : Nat) (y : β), p[i]? = some y → ∃ x, l[i]? = some x ∧ f x = some y
  | [], p, hp => by
    have hp' : some [] = some p := hp
    injection hp' with hp'
    subst hp'
    exact ⟨rfl, by simp⟩
  | v :: l, p, hp => by
    have hp' : consO (f v) (pmapL f l) = some p := hp
    unfold consO at hp'
    split at hp'
    · rename_i x y hx hy
      injection hp' with hp'
      subst hp'
      obtain ⟨g1, g2⟩ := pmap_get hy
      refine ⟨by simp [g1], fun i z hz => ?_⟩
      cases i with
      | zero => simp at hz; subst hz; exact ⟨v, rfl, hx⟩
      | succ i => exact g2 i z (by simpa using hz)
    · cases hp'
theorem purCon_some {h : Heap} {k k' : Con} (hk : purCon h k = some k') : k'.len = k.len ∧ k'.wd = k.wd ∧ ((k.pureF = true ∧ k' = k) ∨ (k.pureF = false ∧ ∀ (i j : Nat) (p : AV), (k'.row i)[j]? = some p → ∃ v, (k.row i)[j]? = some v ∧ purC h v = some p)) := by
  unfold purCon at hk
  split at hk
  · rename_i wd l
    split at hk
    · rename_i l' hl
      injection hk with hk
      subst hk
      obtain ⟨g1, g2⟩ := pmap_get (f := purCs h) hl
      refine ⟨g1, rfl, .inr ⟨rfl, fun i j p hp => ?_⟩⟩
      simp only [Con.row, List.getD_eq_getElem?_getD] at hp ⊢
      cases hr : l'[i]? with
      | none => rw [hr] at hp; simp at hp
      | some row =>
        rw [hr] at hp
        simp only [Option.getD_some] at hp
        obtain ⟨x, e1, e2⟩ := g2 i row hr
        obtain ⟨_, e3⟩ := pmap_get (f := purC h) e2
        obtain ⟨y, e4, e5⟩ := e3 j p hp
        exact ⟨y, by rw [e1]; exact e4, e5⟩
    · cases hk
  · rename_i hne
    injection hk with hk
    subst hk
    refine ⟨rfl, rfl, .inl ⟨?_, rfl⟩⟩
    cases k with
    | ints => rfl
    | tab => rfl
    | rows p wd l =>
      cases p with
      | true => rfl
      | false => exact absurd rfl (hne wd l)
section
variable {w : World} {c T : Cx} {h : Heap} (hr : HR w c h.G) (hT : Lends w c T)
include hr hT
theorem purC_relT {v p : AV} {u : Value} (hp : purC h v = some p) (hv : VR w c v u) : VR w T p u := by
  unfold purC at hp
  split at hp
  · rename_i f a b
    cases hf : notYield f with
    | false => rw [hf] at hp; cases hp
    | true =>
      rw [hf] at hp
      simp only [cond_true] at hp
      split at hp
      · rename_i a' b' ha hb
        injection hp with hp
        subst hp
        cases hv with | clo _ _ _ x' y' h1 h2 h3 =>
        have e1 : renFn c f = renFn T f := by cases f <;> first | rfl | (cases hf)
        have e2 : fnOk T f := by cases f <;> first | trivial | (cases hf)
        rw [e1]
        exact .clo f _ _ _ _ e2 (pmap_relT hr hT (fun v p u a b => pur0_relT hr hT a b) ha h2) (pmap_relT hr hT (fun v p u a b => pur0_relT hr hT a b) hb h3)
      · cases hp
  · exact pur0_relT hr hT hp hv
theorem pur1_relT {v p : AV} {u : Value} (hp : pur1 h v = some p) (hv : VR w c v u) : VR w T p u := by
  unfold pur1 at hp
  split at hp
  · rename_i id off len cap wd
    split at hp
    · rename_i k hk
      cases hg : (Nat.ble (off + len) k.len && Nat.beq k.wd wd) with
      | false => rw [hg] at hp; cases hp
      | true =>
        rw [hg] at hp
        simp only [cond_true] at hp
        rw [Bool.and_eq_true] at hg
        have g2 := Nat.le_of_ble_eq_true hg.1
        split at hp
        · rename_i k' hk'
          injection hp with hp
          subst hp
          obtain ⟨e1, e2, e3⟩ := purCon_some hk'
          have epf : (k.sub off len).pureF = k.pureF := by cases k <;> rfl
          refine own_lendT hr hT hk g2 (beq_iff.1 hg.2) (by rw [e1, Con.sub_len _ _ _ g2]) (by rw [e2, Con.sub_wd]) (fun i j p u hi hj hp hh => ?_) hv
          rcases e3 with ⟨pf, rfl⟩ | ⟨pf, e3⟩
          · rw [Con.sub_row _ _ _ _ hi g2] at hp
            have := hh p hp
            rw [epf] at pf
            rw [pf] at this
            exact VR.more hT.more this
          · obtain ⟨x, q1, q2⟩ := e3 i j p hp
            rw [Con.sub_row _ _ _ _ hi g2] at q1
            exact purC_relT hr hT q2 (hh x q1).lower
        · cases hp
    · cases hp
  · rename_i id r col
    split at hp
    · rename_i k hk
      cases hg : Nat.blt r k.len with
      | false => rw [hg] at hp; cases hp
      | true =>
        rw [hg] at hp
        simp only [cond_true] at hp
        split at hp
        · rename_i k' hk'
          injection hp with hp
          subst hp
          obtain ⟨e1, e2, e3⟩ := purCon_some hk'
          refine ptr_lendT hr hT hk (blt_iff.1 hg) e1 e2 (fun i j p u hi hj hp hh => ?_) hv
          rcases e3 with ⟨pf, rfl⟩ | ⟨pf, e3⟩
          · have := hh p hp
            rw [pf] at this
            exact VR.more hT.more this
          · obtain ⟨x, q1, q2⟩ := e3 i j p hp
            exact purC_relT hr hT q2 (hh x q1).lower
        · cases hp
    · cases hp
  · exact pur0_relT hr hT hp hv
theorem purA_relT {v p : AV} {u : Value} (hp : purA h v = some p) (hv : VR w c v u) : VR w T p u := by
  unfold purA at hp
  split at hp
  · rename_i l
    split at hp
    · rename_i l' hl
      injection hp with hp
      subst hp
      cases hv with | agg _ x hx =>
      exact .agg _ _ (pmap_relT hr hT (fun v p u a b => pur1_relT hr hT a b) hl hx)
    · cases hp
  · rename_i f a b
    cases hf : notYield f with
    | false => rw [hf] at hp; cases hp
    | true =>
      rw [hf] at hp
      simp only [cond_true] at hp
      split at hp
      · rename_i a' b' ha hb
        injection hp with hp
        subst hp
        cases hv with | clo _ _ _ x' y' h1 h2 h3 =>
        have e1 : renFn c f = renFn T f := by cases f <;> first | rfl | (cases hf)
        have e2 : fnOk T f := by cases f <;> first | trivial | (cases hf)
        rw [e1]
        exact .clo f _ _ _ _ e2 (pmap_relT hr hT (fun v p u a b => pur1_relT hr hT a b) ha h2) (pmap_relT hr hT (fun v p u a b => pur1_relT hr hT a b) hb h3)
      · cases hp
  · exact pur1_relT hr hT hp hv
theorem purAs_relT {l p : List AV} {l' : List Value} (hp : purAs h l = some p) (hv : VRs w c l l') : VRs w T p l' := pmap_relT hr hT (fun v p u a b => purA_relT hr hT a b) hp hv
end
section
variable {w : World} {c : Cx} {h : Heap} (hr : HR w c h.G)
include hr
theorem purAs_rel {l p : List AV} {l' : List Value} (hp : purAs h l = some p) (hv : VRs w c l l') : VRs w (Cx.lent w) p l' := purAs_relT hr hr.lends hp hv
end
end Go.Ev
/- Functions by what they answer, wherever they are called. -/
namespace Go.Ev
def anyL {α : Type} (f : α → Bool) (l : List α) : Bool := foldL true (fun v _ ih => f v && ih) l
def noRo0 : AV → Bool
  | .unk => true
  | .val _ => true
  | .own .. => true
  | .ptr .. => true
  | .mp .. => true
  | _ => false
def noRo1 : AV → Bool
  | .agg l => anyL noRo0 l
  | .ifc _ v => noRo0 v
  | v => noRo0 v
def noRo : AV → Bool
  | .tup l => anyL noRo1 l
  | .ifc _ v => noRo1 v
  | v => noRo1 v
def noRoC : Con → Bool
  | .ints _ _ => true
  | .rows _ _ l => anyL (anyL noRo0) l
  | .tab _ _ _ => false
def noRoB : Blk → Bool
  | .cells c => noRoC c
  | .map true (.ents l _) => anyL (fun e => noRo0 e.val) l
  | _ => false
def noRoE (e : Ent) : Bool := noRoB e.blk
theorem anyL_get {α : Type} {f : α → Bool} : ∀ {l : List α}, anyL f l = true → ∀ v ∈ l, f v = true
  | [], _, v, h => by cases h
  | a :: l, hp, v, h => by
    have hp' : (f a && anyL f l) = true := hp
    rw [Bool.and_eq_true] at hp'
    rcases List.mem_cons.1 h with q | q
    · subst q; exact hp'.1
    · exact anyL_get hp'.2 v q
structure RenX (σ : Nat → Option Nat) (c c2 : Cx) : Prop where
  ids : ∀ i j, σ i = some j → c.V i → c2.V j ∧ c2.ι j = c.ι i
theorem RenX.at {σ : Nat → Option Nat} {c c2 : Cx} (h : RenX σ c c2) (p : Bool) : RenX σ (c.at p) (c2.at p) := by
  cases p
  · exact h
  · exact ⟨fun _ _ _ q => q.elim⟩
section
variable {σ : Nat → Option Nat} {w : World} {c c2 : Cx} (hs : RenX σ c c2)
include hs
theorem renX0 {v : AV} {v' : Value} (hn : noRo0 v = true) (h : VR w c v v') : VR w c2 (ren0 σ v) v' := by
  cases h with
  | unk => exact .unk _
  | val => exact .val _
  | own id off len cap wd a m h1 h2 h3 h4 h5 =>
    simp only [ren0]
    split
    · rename_i j hj
      obtain ⟨g1, g2⟩ := hs.ids id j hj h1
      exact .own j off len cap wd a m g1 (by rw [g2]; exact h2) h3 h4 (by rw [g2]; exact h5)
    · exact .unk _
  | ptr id r j h1 h2 =>
    simp only [ren0]
    split
    · rename_i k hk
      obtain ⟨g1, g2⟩ := hs.ids id k hk h1
      have := VR.ptr (W := w) (c := c2) k r j g1 (by rw [g2]; exact h2)
      rw [g2] at this
      exact this
    · exact .unk _
  | mp id h1 h2 =>
    simp only [ren0]
    split
    · rename_i k hk
      obtain ⟨g1, g2⟩ := hs.ids id k hk h1
      have := VR.mp (W := w) (c := c2) k g1 (by rw [g2]; exact h2)
      rw [g2] at this
      exact this
    · exact .unk _
  | _ => cases hn
theorem mapX {f : AV → AV} {g : AV → Bool} (hf : ∀ v v', g v = true → VR w c v v' → VR w c2 (f v) v') : ∀ {l : List AV} {l' : List Value}, anyL g l = true → VRs w c l l' → VRs w c2 (foldL [] (fun v _ ih => f v :: ih) l) l'
  | [], _, _, h => by cases h; exact .nil
  | v :: l, _, hp, h => by
    cases h with | cons _ v' _ l' h1 h2 =>
    have hp' : (g v && anyL g l) = true := hp
    rw [Bool.and_eq_true] at hp'
    exact .cons _ _ _ _ (hf v v' hp'.1 h1) (mapX hf hp'.2 h2)
theorem renX1 {v : AV} {v' : Value} (hn : noRo1 v = true) (h : VR w c v v') : VR w c2 (ren1 σ v) v' := by
  cases h with
  | agg l l' hl => exact .agg _ _ (mapX hs (fun _ _ p q => renX0 hs p q) hn hl)
  | ifc t v v' h1 => exact .ifc _ _ _ (renX0 hs hn h1)
  | unk => exact .unk _
  | val => exact .val _
  | own id off len cap wd a m h1 h2 h3 h4 h5 => exact renX0 hs (v := .own id off len cap wd) rfl (.own id off len cap wd a m h1 h2 h3 h4 h5)
  | ptr id r j h1 h2 => exact renX0 hs (v := .ptr id r j) rfl (.ptr id r j h1 h2)
  | mp id h1 h2 => exact renX0 hs (v := .mp id) rfl (.mp id h1 h2)
  | _ => cases hn
theorem renX {v : AV} {v' : Value} (hn : noRo v = true) (h : VR w c v v') : VR w c2 (v.ren σ) v' := by
  cases h with
  | tup l l' hl => exact .tup _ _ (mapX hs (fun _ _ p q => renX1 hs p q) hn hl)
  | agg l l' hl => exact renX1 hs (v := .agg l) hn (.agg l l' hl)
  | ifc t v v' h1 => exact .ifc _ _ _ (renX1 hs hn h1)
  | unk => exact .unk _
  | val => exact .val _
  | own id off len cap wd a m h1 h2 h3 h4 h5 => exact renX0 hs (v := .own id off len cap wd) rfl (.own id off len cap wd a m h1 h2 h3 h4 h5)
  | ptr id r j h1 h2 => exact renX0 hs (v := .ptr id r j) rfl (.ptr id r j h1 h2)
  | mp id h1 h2 => exact renX0 hs (v := .mp id) rfl (.mp id h1 h2)
  | _ => cases hn
theorem ren1_ren0 {v : AV} (hn : noRo0 v = true) : ren1 σ v = ren0 σ v := by cases v <;> first | rfl | (cases hn)
theorem noneX {w : World} {c c2 : Cx} {v : AV} {u : Value} (hn : noRo0 v = true) (h : VR w c.none v u) : VR w c2.none v u := by
  cases h with
  | unk => exact .unk _
  | val => exact .val _
  | own id off len cap wd a m h1 => exact h1.elim
  | ptr id r j h1 => exact h1.elim
  | mp id h1 => exact h1.elim
  | _ => cases hn
theorem blkX (hO : ∀ b, c.O b → c2.O b) {rb : RB} {b b2 : Blk} (h : BlkRel w c rb b) (hn : noRoB b = true) (hb : b.ren σ = some b2) : BlkRel w c2 rb b2 := by
  cases b with
  | cells k =>
    simp only [Blk.ren, Option.some.injEq] at hb
    subst hb
    unfold renC
    cases hpf : k.pureF with
    | true =>
      rw [cond_true]
      refine ⟨h.wd, h.dead, fun q => hO _ (h.own q), fun q => ?_⟩
      obtain ⟨a, e, fz, h1, h2, h3, h4, h5, h6⟩ := h.arr q
      refine ⟨a, e, fz, h1, h2, h3, h4, h5, fun i j v u hi hj hv hu => ?_⟩
      have hx := h6 i j v u hi hj hv hu
      rw [hpf] at hx ⊢
      cases k with
      | ints kd l =>
        cases j with
        | zero => simp [Con.row] at hv; subst hv; cases hx; exact .val _
        | succ j => simp [Con.row] at hv
      | tab => cases hn
      | rows p wd l =>
        simp only [Con.row, List.getD_eq_getElem?_getD] at hv
        cases hr : l[i]? with
        | none => rw [hr] at hv; simp at hv
        | some r =>
          rw [hr] at hv
          simp only [Option.getD_some] at hv
          have hno : noRo0 v = true := anyL_get (anyL_get (f := anyL noRo0) hn r (List.mem_of_getElem? hr)) v (List.mem_of_getElem? hv)
          exact noneX hs hno hx
    | false =>
    rw [cond_false]
    have el : (k.ren σ).len = k.len := by cases k <;> simp [Con.ren, Con.len, renRows, foldL_map]
    have ew : (k.ren σ).wd = k.wd := by cases k <;> rfl
    refine ⟨by rw [ew]; exact h.wd, fun q => by rw [el]; exact h.dead q, fun q => hO _ (h.own q), fun q => ?_⟩
    obtain ⟨a, e, fz, h1, h2, h3, h4, h5, h6⟩ := h.arr q
    refine ⟨a, e, fz, h1, h2, h3, h4, by rw [el]; exact h5, ?_⟩
    intro i j v u hi hj hv hu
    rw [el] at hi
    have e1 : (k.ren σ).pureF = k.pureF := by cases k <;> rfl
    rw [e1]
    cases k with
    | ints kd l =>
      have := h6 i j v u hi hj hv hu
      cases j with
      | zero => simp [Con.ren, Con.row] at hv; subst hv; cases this; exact .val _
      | succ j => simp [Con.ren, Con.row] at hv
    | tab => cases hn
    | rows p wd l =>
      simp only [Con.ren, Con.row, renRows, foldL_map, List.getD_eq_getElem?_getD, List.getElem?_map] at hv
      cases hr : l[i]? with
      | none => rw [hr] at hv; simp at hv
      | some r =>
        rw [hr] at hv
        simp only [Option.map_some, Option.getD_some, ren1s, foldL_map, List.getElem?_map, Option.map_eq_some_iff] at hv
        obtain ⟨x, g1, g2⟩ := hv
        have hx : ((Con.rows p wd l).row i)[j]? = some x := by simp only [Con.row, List.getD_eq_getElem?_getD, hr]; exact g1
        have hno : noRo0 x = true := anyL_get (anyL_get (f := anyL noRo0) hn r (List.mem_of_getElem? hr)) x (List.mem_of_getElem? g1)
        rw [← g2, ren1_ren0 hs hno]
        exact renX0 (hs.at _) hno (h6 i j x u hi hj hx hu)
  | loop => cases hn
  | defd => cases hn
  | iter => cases hn
  | map p m =>
    cases p with
    | false => cases hn
    | true =>
    cases m with
    | mtab => cases hn
    | ents l ck =>
    simp only [Blk.ren, renM, cond_true, Option.some.injEq] at hb
    subst hb
    obtain ⟨hl, ho, es, h1, h2, h3⟩ := h
    refine ⟨hl, hO _ ho, es, h1, h2, fun i hi => ?_⟩
    obtain ⟨e, g1, g2, g3, g4⟩ := h3 i hi
    refine ⟨e, g1, g2, g3, ?_⟩
    have hno : noRo0 ((MC.ents l ck).ent i).val = true := by
      refine anyL_get (f := fun e : ME => noRo0 e.val) hn _ ?_
      have hi' : i < l.length := hi
      show nthD ME.z l i ∈ l
      rw [nthD_eq, List.getD_eq_getElem?_getD, List.getElem?_eq_getElem hi']
      exact List.getElem_mem hi'
    exact noneX hs hno g4
end
end Go.Ev
/- Functions by what they answer, wherever they are called: the law. -/
namespace Go.Ev
inductive Ans (α : Type) where
  | no
  | out (a : α)
  | br (b : Bool) (x y : Ans α)
def Ans.run {α : Type} (a : Ans α) : Option α := Ans.rec none (fun a => some a) (fun b _ _ x y => bif b then x else y) a
def Ans.walk {α ρ : Type} (a : Ans α) (K : α → Option ρ) : Option ρ := Ans.rec none (fun a => K a) (fun b _ _ x y => bif b then x else y) a
def Ans.bind {α β : Type} (a : Ans α) (f : α → Ans β) : Ans β := Ans.rec .no (fun a => f a) (fun b _ _ x y => .br b x y) a
def Ans.grd {α : Type} (b : Bool) (x : Ans α) : Ans α := .br b x .no
def consT {β : Type} (a : Ans β) (l : Ans (List β)) : Ans (List β) := a.bind fun v => l.bind fun l => .out (v :: l)
def pmapT {α β : Type} (f : α → Ans β) (l : List α) : Ans (List β) := foldL (.out []) (fun v _ ih => consT (f v) ih) l
def pur0T (h : Heap) : AV → Ans AV
  | .unk => .out .unk
  | .val v => .out (.val v)
  | .ro c cap => .out (.ro c cap)
  | .rptr c i j => .out (.rptr c i j)
  | .rmp m => .out (.rmp m)
  | .own id off len cap wd => (match h.con id with
    | some c => .grd (c.pureF && (Nat.ble (off + len) c.len && Nat.beq c.wd wd)) (.out (.ro (c.sub off len) cap))
    | none => .no)
  | .ptr id r col => (match h.con id with
    | some c => .grd (c.pureF && Nat.blt r c.len) (.out (.rptr c r col))
    | none => .no)
  | .mp id => (match findE h.es id with
    | some ⟨_, _, .map true m⟩ => .out (.rmp m)
    | _ => .no)
  | _ => .no
def pur0sT (h : Heap) (l : List AV) : Ans (List AV) := pmapT (pur0T h) l
def purCT (h : Heap) : AV → Ans AV
  | .clo f a b => bif notYield f then (pur0sT h a).bind fun a => (pur0sT h b).bind fun b => .out (.clo f a b) else .no
  | v => pur0T h v
def purCsT (h : Heap) (l : List AV) : Ans (List AV) := pmapT (purCT h) l
def purRowsT (h : Heap) (l : List (List AV)) : Ans (List (List AV)) := pmapT (purCsT h) l
def purConT (h : Heap) : Con → Ans Con
  | .rows false w l => (purRowsT h l).bind fun l => .out (.rows true w l)
  | c => .out c
def pur1T (h : Heap) : AV → Ans AV
  | .own id off len cap wd => (match h.con id with
    | some c => .grd (Nat.ble (off + len) c.len && Nat.beq c.wd wd) ((purConT h (c.sub off len)).bind fun k => .out (.ro k cap))
    | none => .no)
  | .ptr id r col => (match h.con id with
    | some c => .grd (Nat.blt r c.len) ((purConT h c).bind fun k => .out (.rptr k r col))
    | none => .no)
  | v => pur0T h v
def pur1sT (h : Heap) (l : List AV) : Ans (List AV) := pmapT (pur1T h) l
def purAT (h : Heap) : AV → Ans AV
  | .agg l => (pur1sT h l).bind fun l => .out (.agg l)
  | .clo f a b => bif notYield f then (pur1sT h a).bind fun a => (pur1sT h b).bind fun b => .out (.clo f a b) else .no
  | v => pur1T h v
def purAsT (h : Heap) (l : List AV) : Ans (List AV) := pmapT (purAT h) l
theorem Ans.run_bind {α β : Type} (a : Ans α) (f : α → Ans β) : (a.bind f).run = match a.run with | some x => (f x).run | none => none := by
  induction a with
  | no => rfl
  | out a => rfl
  | br b x y ihx ihy =>
    show (bif b then (x.bind f).run else (y.bind f).run) = match (bif b then x.run else y.run) with | some x => (f x).run | none => none
    cases b <;> first | exact ihx | exact ihy
theorem Ans.run_grd {α : Type} (b : Bool) (x : Ans α) : (Ans.grd b x).run = bif b then x.run else none := rfl
theorem consT_run {β : Type} (a : Ans β) (l : Ans (List β)) : (consT a l).run = consO a.run l.run := by
  unfold consT
  rw [Ans.run_bind]
  cases a.run with
  | none => rfl
  | some v =>
    simp only
    rw [Ans.run_bind]
    cases l.run <;> rfl
theorem pmapT_run {α β : Type} (f : α → Ans β) (g : α → Option β) (hfg : ∀ v, (f v).run = g v) : ∀ l, (pmapT f l).run = pmapL g l
  | [] => rfl
  | v :: l => by
    show (consT (f v) (pmapT f l)).run = consO (g v) (pmapL g l)
    rw [consT_run, hfg, pmapT_run f g hfg l]
theorem pur0T_run (h : Heap) (v : AV) : (pur0T h v).run = pur0 h v := by
  cases v with
  | own id off len cap wd => simp only [pur0T, pur0]; cases h.con id <;> rfl
  | ptr id r col => simp only [pur0T, pur0]; cases h.con id <;> rfl
  | mp id =>
    simp only [pur0T, pur0]
    generalize findE h.es id = o
    cases o with
    | none => rfl
    | some e =>
      cases e with | mk i v b =>
      cases b with
      | map p m => cases p <;> rfl
      | _ => rfl
  | _ => rfl
theorem pur0sT_run (h : Heap) (l : List AV) : (pur0sT h l).run = pur0s h l := pmapT_run _ _ (pur0T_run h) l
theorem purCT_run (h : Heap) (v : AV) : (purCT h v).run = purC h v := by
  cases v with
  | clo f a b =>
    simp only [purCT, purC]
    cases notYield f with
    | false => rfl
    | true =>
      simp only [cond_true]
      rw [Ans.run_bind, pur0sT_run]
      cases pur0s h a with
      | none => rfl
      | some a' =>
        simp only
        rw [Ans.run_bind, pur0sT_run]
        cases pur0s h b <;> rfl
  | _ => simp only [purCT, purC]; exact pur0T_run h _
theorem purCsT_run (h : Heap) (l : List AV) : (purCsT h l).run = purCs h l := pmapT_run _ _ (purCT_run h) l
theorem purRowsT_run (h : Heap) (l : List (List AV)) : (purRowsT h l).run = purRows h l := pmapT_run _ _ (purCsT_run h) l
theorem purConT_run (h : Heap) (c : Con) : (purConT h c).run = purCon h c := by
  cases c with
  | rows p w l =>
    cases p with
    | true => rfl
    | false => simp only [purConT, purCon]; rw [Ans.run_bind, purRowsT_run]; cases purRows h _ <;> rfl
  | _ => rfl
theorem pur1T_run (h : Heap) (v : AV) : (pur1T h v).run = pur1 h v := by
  cases v with
  | own id off len cap wd =>
    simp only [pur1T, pur1]
    cases h.con id with
    | none => rfl
    | some c => simp only; rw [Ans.run_grd, Ans.run_bind, purConT_run]; cases purCon h _ <;> rfl
  | ptr id r col =>
    simp only [pur1T, pur1]
    cases h.con id with
    | none => rfl
    | some c => simp only; rw [Ans.run_grd, Ans.run_bind, purConT_run]; cases purCon h _ <;> rfl
  | _ => simp only [pur1T, pur1]; exact pur0T_run h _
theorem pur1sT_run (h : Heap) (l : List AV) : (pur1sT h l).run = pur1s h l := pmapT_run _ _ (pur1T_run h) l
theorem purAT_run (h : Heap) (v : AV) : (purAT h v).run = purA h v := by
  cases v with
  | agg l => simp only [purAT, purA]; rw [Ans.run_bind, pur1sT_run]; cases pur1s h _ <;> rfl
  | clo f a b =>
    simp only [purAT, purA]
    cases notYield f with
    | false => rfl
    | true =>
      simp only [cond_true]
      rw [Ans.run_bind, pur1sT_run]
      cases pur1s h a with
      | none => rfl
      | some a' =>
        simp only
        rw [Ans.run_bind, pur1sT_run]
        cases pur1s h b <;> rfl
  | _ => simp only [purAT, purA]; exact pur1T_run h _
theorem purAsT_run (h : Heap) (l : List AV) : (purAsT h l).run = purAs h l := pmapT_run _ _ (purAT_run h) l
def upN (n : Nat) : Nat → Option Nat := fun i => some (n + i)
def shiftE (n : Nat) (e : Ent) : Ent := ⟨n + e.id, 0, match e.blk.ren (upN n) with | some b => b | none => .defd⟩
def shiftEs (n : Nat) (l : List Ent) : List Ent := foldL [] (fun e _ ih => shiftE n e :: ih) l
def pureA (S : List AV → Ans (AV × Heap)) : AFun := fun _ args h K =>
  (purAsT h args).walk fun p => (S p).walk fun r => match r with
    | (v, h2) => bif noRo v && anyL noRoE h2.es then K (v.ren (upN h.next)) ⟨h.next + h2.next, shiftEs h.next h2.es ++ h.es⟩ else none
theorem Ans.walk_eq {α ρ : Type} (a : Ans α) (K : α → Option ρ) : a.walk K = match a.run with | some x => K x | none => none := by
  induction a with
  | no => rfl
  | out a => rfl
  | br b x y ihx ihy =>
    show (bif b then x.walk K else y.walk K) = match (bif b then x.run else y.run) with | some x => K x | none => none
    cases b <;> first | exact ihx | exact ihy
theorem Ans.run_br {α : Type} (b : Bool) (x y : Ans α) : (Ans.br b x y).run = bif b then x.run else y.run := rfl
theorem shiftEs_find (n : Nat) : ∀ (l : List Ent) (j : Nat), findE (shiftEs n l) j = if n ≤ j then (findE l (j - n)).map (shiftE n) else none
  | [], j => by simp [shiftEs, foldL]
  | e :: l, j => by
    show findE (shiftE n e :: shiftEs n l) j = _
    rw [findE_cons, shiftEs_find n l j, findE_cons]
    by_cases h : n ≤ j
    · rw [if_pos h, if_pos h]
      by_cases h2 : e.id = j - n
      · have : (shiftE n e).id = j := by show n + e.id = j; omega
        rw [if_pos this, if_pos h2]; rfl
      · have : ¬ (shiftE n e).id = j := by show ¬ n + e.id = j; omega
        rw [if_neg this, if_neg h2]
    · have : ¬ (shiftE n e).id = j := by show ¬ n + e.id = j; omega
      rw [if_neg this, if_neg h, if_neg h]
theorem shiftEs_ids (n : Nat) : ∀ l : List Ent, (shiftEs n l).map (·.id) = (l.map (·.id)).map (n + ·)
  | [] => rfl
  | e :: l => by
    show (n + e.id) :: (shiftEs n l).map (·.id) = _
    rw [shiftEs_ids n l]; rfl
theorem shiftEs_uniq {n : Nat} {l : List Ent} (h : Uniq l) : Uniq (shiftEs n l) := by
  unfold Uniq at *
  rw [shiftEs_ids]
  exact List.Pairwise.map _ (fun a b hab hne => hab (by have q : n + a = n + b := hne; omega)) h
theorem HR.lentH {w : World} {c : Cx} {G : Nat → Option Blk} (h : HR w c G) : HR w (Cx.lent w) heap0.G :=
  ⟨fun id b hb => by simp [Heap.G, heap0] at hb, fun id b hb => by simp [Heap.G, heap0] at hb, fun i j b b' hb => by simp [Heap.G, heap0] at hb, fun b hb => ⟨fun q => q, hb⟩⟩
def Alone (P : Program) (g : Nat) (args : List AV) (v : AV) (h2 : Heap) : Prop := h2.ok ∧ ∀ (w : World) (c : Cx) (args' : List Value), HR w c heap0.G → VRs w c args args' → (∀ id, ¬ c.V id) →
      CallsIn Fence.wide 0 P g args'.toArray w (fun e w' => ∃ v', e = .returned v' ∧ PostF ⟨true, 0, true⟩ w c heap0 h2 v v' w')
theorem pureSumR {P : Program} (g : Nat) {S : List AV → Ans (AV × Heap)} (hf : ∃ fn c, P.funcs[g]? = some fn ∧ fn.name ≠ "runtime.NumGoroutine" ∧ fn.body = some c)
    (hS : ∀ args v h2, (S args).run = some (v, h2) → Alone P g args v h2) : SumC P g (pureA S) := by
  refine ⟨hf, ?_⟩
  intro ρ args h K r hk hA
  unfold pureA at hA
  rw [Ans.walk_eq, purAsT_run] at hA
  split at hA
  · rename_i p hp
    rw [Ans.walk_eq] at hA
    split at hA
    · rename_i r0 hs
      obtain ⟨v0, h0⟩ := r0
      simp only at hA
      cases hn : (noRo v0 && anyL noRoE h0.es) with
      | false => rw [hn] at hA; cases hA
      | true =>
        rw [hn, cond_true] at hA
        rw [Bool.and_eq_true] at hn
        obtain ⟨k2, k3⟩ := hS p v0 h0 hs
        obtain ⟨h', hh'⟩ : ∃ h' : Heap, h' = ⟨h.next + h0.next, shiftEs h.next h0.es ++ h.es⟩ := ⟨_, rfl⟩
        rw [← hh'] at hA
        have hfind : ∀ j, findE h'.es j = if h.next ≤ j then (findE h0.es (j - h.next)).map (shiftE h.next) else findE h.es j := by
          intro j
          rw [hh']
          simp only [findE_append, shiftEs_find]
          by_cases q : h.next ≤ j
          · rw [if_pos q, if_pos q]
            have hnone : findE h.es j = none := by
              cases hf : findE h.es j with
              | none => rfl
              | some e => have := hk.lt j e hf; omega
            rw [hnone]
            cases findE h0.es (j - h.next) <;> rfl
          · rw [if_neg q, if_neg q]
        have hok : h'.ok := by
          refine ⟨?_, ?_⟩
          · rw [hh']
            unfold Uniq
            rw [List.map_append, List.nodup_append]
            refine ⟨shiftEs_uniq k2.uniq, hk.uniq, ?_⟩
            intro a ha b hb hab
            subst hab
            rw [shiftEs_ids] at ha
            obtain ⟨i, _, hi⟩ := List.mem_map.1 ha
            obtain ⟨e, m1, q1⟩ := List.mem_map.1 hb
            have := hk.lt e.id e (findE_mem hk.uniq m1)
            omega
          · intro j e hj
            rw [hfind] at hj
            have hn' : h'.next = h.next + h0.next := by rw [hh']
            rw [hn']
            split at hj
            · rename_i q
              obtain ⟨e0, m1, _⟩ := Option.map_eq_some_iff.1 hj
              have := k2.lt _ e0 m1
              omega
            · have := hk.lt j e hj; omega
        refine ⟨_, h', hA, ⟨by rw [hh']; exact Nat.le_add_right _ _, hok, ?_⟩, ?_⟩
        · intro id e' he' hi
          rw [hfind, if_neg (by omega)] at he'
          exact ⟨e', he', Nat.le_refl _, fun _ => rfl⟩
        · intro w c args' hr hv hfr
          apply callsRet
          have hv' := purAs_rel hr hp hv
          refine CallsIn.mono (k3 w (Cx.lent w) args' hr.lentH hv' (fun _ q => q)) ?_
          rintro e w' ⟨v', rfl, c', q1, q2, q3, q4⟩
          have hVc : ∀ id, c'.V id → id < h0.next := q3.R rfl
          have hall : ∀ b, b < w.heap.size → w'.heap[b]? = w.heap[b]? := fun b hb => q2.keep b hb (fun q => q)
          have hnO : ∀ b, b < w.heap.size → ¬ c'.O b := fun b hb ho => q2.own b hb ho
          have hn' : h'.next = h.next + h0.next := by rw [hh']
          classical
          let c2 : Cx := ⟨c.M, fun b => c'.O b ∨ c.O b, fun j => if h.next ≤ j ∧ c'.V (j - h.next) then c'.ι (j - h.next) else c.ι j, fun j => c.V j ∨ (h.next ≤ j ∧ c'.V (j - h.next))⟩
          have hX : RenX (upN h.next) c' c2 := by
            refine ⟨fun i j hij hi => ?_⟩
            simp only [upN, Option.some.injEq] at hij
            subst hij
            have e1 : h.next + i - h.next = i := by omega
            refine ⟨.inr ⟨Nat.le_add_right _ _, by rw [e1]; exact hi⟩, ?_⟩
            show (if h.next ≤ h.next + i ∧ c'.V (h.next + i - h.next) then c'.ι (h.next + i - h.next) else c.ι (h.next + i)) = c'.ι i
            rw [e1, if_pos ⟨Nat.le_add_right _ _, hi⟩]
          have hold : ∀ i, c.V i → c2.V i ∧ c2.ι i = c.ι i := by
            intro i hi
            refine ⟨.inl hi, ?_⟩
            show (if h.next ≤ i ∧ c'.V (i - h.next) then c'.ι (i - h.next) else c.ι i) = c.ι i
            rw [if_neg]
            rintro ⟨z1, z2⟩
            have := hVc _ z2
            exact hfr i z1 (by rw [hn']; omega) hi
          have hx : Ext w c w' c2 := by
            refine ⟨⟨fun _ q => q, fun b hb _ => hall b hb, hold⟩, q2.os, q2.tape, q2.output, q2.size, fun b hb _ => hall b hb, ?_, fun _ _ q => q, fun _ q q' => absurd q q'⟩
            rintro b hb (z | z)
            · exact absurd z (hnO b hb)
            · exact z
          have hG : ∀ j b, h'.G j = some b → (∃ i e, j = h.next + i ∧ findE h0.es i = some e ∧ e.blk.ren (upN h.next) = some b) ∨ (j < h.next ∧ h.G j = some b) := by
            intro j b hb
            simp only [Heap.G, Option.map_eq_some_iff] at hb ⊢
            obtain ⟨e, m1, m2⟩ := hb
            rw [hfind] at m1
            split at m1
            · rename_i z
              left
              obtain ⟨e0, m3, m4⟩ := Option.map_eq_some_iff.1 m1
              refine ⟨j - h.next, e0, by omega, m3, ?_⟩
              subst m4
              have hno : noRoB e0.blk = true := anyL_get hn.2 e0 (findE_some_mem m3)
              obtain ⟨i0, v0', b0⟩ := e0
              cases b0 with
              | cells k => rw [← m2]; rfl
              | loop => cases hno
              | defd => cases hno
              | iter => cases hno
              | map p m => rw [← m2]; rfl
            · exact .inr ⟨by omega, e, m1, m2⟩
          have h0G : ∀ i e, findE h0.es i = some e → h0.G i = some e.blk := fun i e q => by simp [Heap.G, q]
          have hnew : ∀ i, c'.V i → c2.ι (h.next + i) = c'.ι i := fun i hi => (hX.ids i _ rfl hi).2
          refine ⟨v', rfl, c2, renX hX hn.1 q1, hx, ?_, ?_⟩
          · rintro id (z | ⟨z1, z2⟩)
            · exact .inl z
            · have := hVc _ z2
              exact .inr ⟨z1, by rw [hn']; omega⟩
          · refine ⟨?_, ?_, ?_, ?_⟩
            · intro j b hb
              rcases hG j b hb with ⟨i, e, rfl, m1, m2⟩ | ⟨z, m1⟩
              · exact (hX.ids i _ rfl (q4.valid i _ (h0G i e m1))).1
              · exact .inl (hr.valid j b m1)
            · intro j b hb
              rcases hG j b hb with ⟨i, e, rfl, m1, m2⟩ | ⟨z, m1⟩
              · rw [hnew i (q4.valid i _ (h0G i e m1))]
                exact blkX hX (fun _ q => .inl q) (q4.blk i _ (h0G i e m1)) (anyL_get hn.2 e (findE_some_mem m1)) m2
              · rw [(hold j (hr.valid j b m1)).2]
                have hbr := hr.blk j b m1
                exact BlkRel.keep hx.toExt0 hbr (fun hl => hall _ (hbr.lt hl)) (fun hl => .inr (hbr.owned hl))
            · have mixed : ∀ i e j b', findE h0.es i = some e → h.G j = some b' → (c'.ι i).live = true → (c.ι j).live = true → (c'.ι i).blk = (c.ι j).blk → False := by
                intro i e j b' m1 m2 l1 l2 hbk
                have o1 := (q4.blk i _ (h0G i e m1)).owned l1
                rw [hbk] at o1
                exact hnO _ ((hr.blk j b' m2).lt l2) o1
              intro j1 j2 b1 b2 hb1 hb2 l1 l2 hbk
              rcases hG j1 b1 hb1 with ⟨i1, e1, rfl, m1, _⟩ | ⟨z1, m1⟩
              · have v1 := q4.valid i1 _ (h0G i1 e1 m1)
                rw [hnew i1 v1] at l1 hbk
                rcases hG j2 b2 hb2 with ⟨i2, e2, rfl, m2, _⟩ | ⟨z2, m2⟩
                · have v2 := q4.valid i2 _ (h0G i2 e2 m2)
                  rw [hnew i2 v2] at l2 hbk
                  rw [q4.inj i1 i2 _ _ (h0G i1 e1 m1) (h0G i2 e2 m2) l1 l2 hbk]
                · rw [(hold j2 (hr.valid j2 b2 m2)).2] at l2 hbk
                  exact (mixed i1 e1 j2 b2 m1 m2 l1 l2 hbk).elim
              · rw [(hold j1 (hr.valid j1 b1 m1)).2] at l1 hbk
                rcases hG j2 b2 hb2 with ⟨i2, e2, rfl, m2, _⟩ | ⟨z2, m2⟩
                · have v2 := q4.valid i2 _ (h0G i2 e2 m2)
                  rw [hnew i2 v2] at l2 hbk
                  exact (mixed i2 e2 j1 b1 m2 m1 l2 l1 hbk.symm).elim
                · rw [(hold j2 (hr.valid j2 b2 m2)).2] at l2 hbk
                  exact hr.inj j1 j2 b1 b2 m1 m2 l1 l2 hbk
            · intro b hb
              obtain ⟨z1, z2⟩ := hr.dis b hb
              refine ⟨?_, Nat.lt_of_lt_of_le z2 q2.size⟩
              rintro (z | z)
              · exact hnO b z2 z
              · exact z1 z
    · cases hA
  · cases hA
end Go.Ev
/- Loops by what they do; functions out of that. -/
namespace Go.Ev
def Triple (P : Program) (c : Code) (s : St) (e : AX) (s' : St) : Prop := s'.h.ok ∧ ∀ {F : Fence} (hF : FOk F) (hro : F.round = none) (w : World) (cx : Cx) (a : Act), StRel w cx s a → Fresh ⟨true, 0, true⟩ cx s.h.next s'.h.next →
    c.wpIn F 0 P (fun e' a' w' => e' = exitOf e ∧ PostC ⟨true, 0, true⟩ w cx s.h.next s' a' w') a w
abbrev LSum := St → Ans (AX × St)
def lsOf (ls : Nat → Option LSum) (c : Code) : Option LSum := match Code.fst c with | some i => ls i | none => none
def sumK {ρ : Type} (o : Ans (AX × St)) (K : KC ρ) : Option ρ := o.walk fun r => match r with | (e, s) => K e s
def codeS {ρ : Type} (env : Env) (call : Calling) (kp : Nat → Option (List Nat)) (ls : Nat → Option LSum) (c : Code) : KC ρ → St → Option ρ :=
  Code.rec (motive := fun _ => KC ρ → St → Option ρ)
    (fun K s => K .normal s)
    (fun _ ops draw K s => regionK env call ops draw K s)
    (fun _ b iha ihb K s => iha (thenK (fun s' => ihb K (trimR ⟨true, 0, true⟩ (kpOf kp b) s')) K) s)
    (fun c _ _ iha ihb K s => condV (ev s.t c) (iha K s) (ihb K s))
    (fun id _ ih K s => ih (blockK id K) s)
    (fun c ih K s => match lsOf ls c with
      | some L => sumK (L (trimR ⟨true, 0, true⟩ (kpOf kp c) s)) K
      | none => loopK (trimR ⟨true, 0, true⟩ (kpOf kp c)) ih K env.rounds (trimR ⟨true, 0, true⟩ (kpOf kp c) s))
    (fun f ps assign body _ _ K s => rangeK env.strict call (ev s.t f) ps assign body K s)
    (fun id K s => K (.exit id) s)
    (fun _ ih K s => ih K s)
    (fun _ K s => K .normal s)
    (fun _ _ _ => none)
    (fun K s => K .ret s)
    (fun _ _ _ => none) c
def loopsOf (c : Code) : List Code :=
  Code.rec (motive := fun _ => List Code) [] (fun _ _ _ => []) (fun _ _ a b => a ++ b) (fun _ _ _ a b => a ++ b) (fun _ _ a => a) (fun c a => c :: a) (fun _ _ _ _ _ _ => []) (fun _ => []) (fun _ a => a) (fun _ => []) (fun _ => []) [] (fun _ => []) c
def AllL {α : Type} (Q : α → Prop) (l : List α) : Prop := foldL True (fun c _ ih => Q c ∧ ih) l
theorem AllL.append {α : Type} {Q : α → Prop} {m : List α} : ∀ {l : List α}, AllL Q (l ++ m) → AllL Q l ∧ AllL Q m
  | [], h => ⟨trivial, h⟩
  | a :: l, h => by
    have h' : Q a ∧ AllL Q (l ++ m) := h
    obtain ⟨h1, h2⟩ := AllL.append h'.2
    exact ⟨⟨h'.1, h1⟩, h2⟩
def LsOk (P : Program) (ls : Nat → Option LSum) (c : Code) : Prop := match lsOf ls c with | some L => ∀ s e s', s.h.ok → (L s).run = some (e, s') → Triple P (.loop c) s e s' | none => True
section
variable {P : Program} {ρ : Type}
theorem codeS_sound {call : Calling} (hc : CallOk P call) {env : Env} (he : EnvOk P env) (hmix : P.follows .mixedOrders = true) (kp : Nat → Option (List Nat)) (ls : Nat → Option LSum) (c : Code) (hl : AllL (LsOk P ls) (loopsOf c)) : COk P ⟨true, 0, true⟩ false c (fun (K : KC ρ) s => codeS env call kp ls c K s) := by
  induction c with
  | skip => exact COk.skip
  | region id ops draw => exact COk.region hc he hmix
  | seq a b iha ihb => exact COk.seq (iha (AllL.append hl).1) (ihb (AllL.append hl).2) _
  | cond c a b iha ihb => exact COk.cond (iha (AllL.append hl).1) (ihb (AllL.append hl).2)
  | block id c ih => exact COk.block (ih hl)
  | loop c ih =>
    have hl' : LsOk P ls c ∧ AllL (LsOk P ls) (loopsOf c) := hl
    obtain ⟨h1, h2⟩ := hl'
    intro K s r hk hK
    have hK' : (match lsOf ls c with
      | some L => sumK (L (trimR ⟨true, 0, true⟩ (kpOf kp c) s)) K
      | none => loopK (trimR ⟨true, 0, true⟩ (kpOf kp c)) (codeS env call kp ls c) K env.rounds (trimR ⟨true, 0, true⟩ (kpOf kp c) s)) = some r := hK
    unfold LsOk at h1
    cases hls : lsOf ls c with
    | none =>
      rw [hls] at hK'
      exact COk.loop (ih h2) (kpOf kp c) env.rounds K s r hk hK'
    | some L =>
      rw [hls] at hK' h1
      simp only at hK' h1
      unfold sumK at hK'
      rw [Ans.walk_eq] at hK'
      split at hK'
      · rename_i r0 hL
        obtain ⟨e, s'⟩ := r0
        simp only at hK'
        obtain ⟨t2, t5⟩ := trimR_ok (root := ⟨true, 0, true⟩) (ks := kpOf kp c) hk
        obtain ⟨q1, q2⟩ := h1 _ _ _ t2.1 hL
        refine ⟨e, s', hK', ⟨q1, fun q => by cases q⟩, fun hF hro w cx a hr hfr => ?_⟩
        obtain ⟨c2, r2, x2, v2⟩ := t5 w cx a _ hr hfr
        refine wpIn_mono (q2 hF (hro rfl) w c2 a r2 (hfr.onward v2)) ?_
        rintro e2 a2 w2 ⟨rfl, hp⟩
        exact ⟨rfl, hp.trans x2 v2⟩
      · cases hK'
  | rangeFunc f ps assign body _ _ => exact COk.rangeFunc hc
  | exit id => exact COk.exit
  | scope c ih => exact COk.scope (ih hl)
  | label l => exact COk.label
  | goto l => intro K s r hk hK; cases hK
  | ret => exact COk.ret
  | refuse why => intro K s r hk hK; cases hK
noncomputable def outK (ks ko : List Nat) : KC (AX × St) := fun e s => match e with
  | .normal => some (.normal, canon (some ks) s)
  | e => some (e, canon (some ko) s)
end
def outV (v : AV) (h : Heap) : Option (AV × Heap) := some (getT (canon (some [0]) ⟨[v], [], h⟩).t 0, (canon (some [0]) ⟨[v], [], h⟩).h)
def rootS (env : Env) (d g : Nat) (ls : Nat → Option LSum) (args : List AV) : Option (AV × Heap) :=
  match env.fn.get g with
  | some fn => (match fn.body with
    | some c => codeS env (callF env d) (env.keep g) ls c (endN env fn outV) ⟨startT fn args, [], heap0⟩
    | none => none)
  | none => none
def bodyOf (env : Env) (g : Nat) : Code := match env.fn.get g with
  | some fn => (match fn.body with | some c => c | none => .skip)
  | none => .skip
section
variable {P : Program} {env : Env} (he : EnvOk2 P env)
include he
theorem rootS_alone {d g : Nat} {ls : Nat → Option LSum} (hl : AllL (LsOk P ls) (loopsOf (bodyOf env g))) {args : List AV} {v : AV} {h2 : Heap} (hK : rootS env d g ls args = some (v, h2)) : Alone P g args v h2 := by
  have hc := callF_sound he d
  unfold rootS at hK
  unfold bodyOf at hl
  split at hK
  · rename_i fn hfn
    rw [hfn] at hl
    simp only at hl
    obtain ⟨f1, f2⟩ := he.fn g fn hfn
    split at hK
    · rename_i c hb
      rw [hb] at hl
      simp only at hl
      obtain ⟨e, s', h1, h2', h3⟩ := codeS_sound hc he.ok he.mix (env.keep g) ls c hl _ _ _ heap0_ok hK
      have hl : leaveK env fn outV s' = some (v, h2) ∧ (∀ id, e ≠ .exit id) ∧ ∀ y, e ≠ .pan y := by
        cases e with
        | normal => exact ⟨h1, by simp, by simp⟩
        | exit id => cases h1
        | ret => exact ⟨h1, by simp, by simp⟩
        | pan x => cases h1
      obtain ⟨hl, hne, hnp⟩ := hl
      unfold leaveK at hl
      split at hl
      · rename_i h' hcm
        unfold leaveH at hl
        split at hl
        · rename_i l hla
          rw [sAV_eq] at hl
          obtain ⟨m1, m2, _⟩ := closeMarks_sound (P := P) (fn := fn) (tmps := #[]) (R := fun _ _ => True) s'.d s'.h h' h2'.1 hcm
          obtain ⟨t2, t5⟩ := trimR_ok (root := ⟨true, 0, true⟩) (ks := some [0]) (s := ⟨[oneOrTup l], [], h'⟩) m1.ok
          have hl' : (getT (canon (some [0]) ⟨[oneOrTup l], [], h'⟩).t 0, (canon (some [0]) ⟨[oneOrTup l], [], h'⟩).h) = (v, h2) := by
            unfold outV at hl; injection hl
          injection hl' with e1 e2
          refine ⟨by rw [← e2]; exact t2.1, ?_⟩
          intro w cx args' hr hv hV
          apply callsIn_of_wp_marks f1 hb trivial
          have hst : StRel w cx ⟨startT fn args, [], heap0⟩ { tmps := args'.toArray ++ Array.replicate (fn.ntmps - args'.toArray.size) undef, defers := [] } := by
            refine ⟨?_, hr, rfl, by simp⟩
            show VRs w cx (args ++ List.replicate (fn.ntmps - args.length) undefA) _
            have : (args'.toArray ++ Array.replicate (fn.ntmps - args'.toArray.size) undef).toList = args' ++ List.replicate (fn.ntmps - args.length) undef := by
              simp [hv.length]
            rw [this]
            exact hv.append (VRs.replicate _ (.val _))
          have hx := h3 (.inl rfl) (fun _ => rfl) w cx _ hst ⟨fun q => (by cases q), fun _ id hid => absurd hid (hV id)⟩
          refine wpIn_mono hx ?_
          rintro e1' a1 w1 ⟨rfl, c1, r1, x1, v1⟩
          have fin : LeavesInM Fence.wide 0 P fn a1.tmps (fun e w' => ∃ v', e = .returned v' ∧ PostF ⟨true, 0, true⟩ w cx heap0 h2 v v' w') a1.defers .returning w1 := by
            obtain ⟨_, _, m3⟩ := closeMarks_sound (P := P) (fn := fn) (tmps := a1.tmps) (R := fun e w' => ∃ v', e = .returned v' ∧ PostF ⟨true, 0, true⟩ w cx heap0 h2 v v' w') s'.d s'.h h' h2'.1 hcm
            obtain ⟨w', y1, y2, y3⟩ := m3 w1 c1 r1.h r1.dv
            rw [r1.d]
            apply y3
            obtain ⟨v', z1, z2⟩ := results_sound he.ok (fn := fn) (VRs.mono y1.toExt0 r1.t) y2 hla
            have v1' : Keeps ⟨true, 0, true⟩ cx c1 heap0.next h'.next := by rw [m2]; exact v1
            obtain ⟨c2, r2, x2, v2⟩ := t5 w' c1 { tmps := #[v'], defers := [] } h'.next ⟨.cons _ _ _ _ z2 .nil, y2, rfl, by simp⟩ ⟨fun q => (by cases q), v1'.R⟩
            refine ⟨v', z1, v', rfl, c2, ?_, (x1.trans y1.w).trans x2, ?_, ?_⟩
            · rw [← e1]
              have r3 : VRs w' c2 (canon (some [0]) ⟨[oneOrTup l], [], h'⟩).t [v'] := r2.t
              generalize (canon (some [0]) ⟨[oneOrTup l], [], h'⟩).t = tt at r3
              cases r3 with | cons _ _ _ _ q1 q2 => exact q1
            · rw [← e2]; exact v1'.trans v2
            · rw [← e2]; exact r2.h
          cases e with
          | normal => exact fin
          | exit id => exact absurd rfl (hne id)
          | ret => exact fin
          | pan y => exact absurd rfl (hnp y)
        · cases hl
      · cases hl
    · cases hK
  · cases hK
end
end Go.Ev
/- Tables of summaries; slices.Clone. -/
namespace Go.Ev
def sumsOf (l : List (Nat × AFun)) : Nat → Option AFun := fun g => List.rec (motive := fun _ => Option AFun) none (fun p _ ih => bif Nat.beq p.1 g then some p.2 else ih) l
def keepsOf (l : List (Nat × List Nat)) : Nat → Option (List Nat) := fun g => foldL (none : Option (List Nat)) (fun (p : Nat × List Nat) _ ih => bif Nat.beq p.1 g then some p.2 else ih) l
def lsumsOf (l : List (Nat × LSum)) : Nat → Option LSum := fun g => foldL (none : Option LSum) (fun (p : Nat × LSum) _ ih => bif Nat.beq p.1 g then some p.2 else ih) l
def keepF (g : Nat) (l : List (Nat × List Nat)) : Nat → Nat → Option (List Nat) := fun f => bif Nat.beq f g then keepsOf l else fun _ => none
def AllS (P : Program) (l : List (Nat × AFun)) : Prop := List.rec (motive := fun _ => Prop) True (fun p _ ih => SumC P p.1 p.2 ∧ ih) l
theorem sumsOf_ok {P : Program} : ∀ {l : List (Nat × AFun)}, AllS P l → ∀ g A, sumsOf l g = some A → SumC P g A
  | [], _, g, A, h => by cases h
  | p :: l, hl, g, A, h => by
    have hl' : SumC P p.1 p.2 ∧ AllS P l := hl
    have h' : (bif Nat.beq p.1 g then some p.2 else sumsOf l g) = some A := h
    cases hb : Nat.beq p.1 g with
    | true =>
      rw [hb] at h'
      injection h' with h'
      rw [← h', ← Nat.eq_of_beq_eq_true hb]
      exact hl'.1
    | false => rw [hb] at h'; exact sumsOf_ok hl'.2 g A h'
def oneH (c : Con) : Heap := ⟨1, [⟨0, 0, .cells c⟩]⟩
theorem oneH_ok (c : Con) : (oneH c).ok := by
  refine ⟨?_, ?_⟩
  · show List.Nodup [0]; simp
  · intro id e h
    have h' : (bif Nat.beq 0 id then some _ else none) = some e := h
    cases hb : Nat.beq 0 id with
    | true => have := Nat.eq_of_beq_eq_true hb; subst this; exact Nat.zero_lt_one
    | false => rw [hb] at h'; cases h'
theorem PostF.ofNil {w : World} {cx : Cx} {h2 : Heap} {v' : Value} {w' : World} (con : Con) (h0 : con.len = 0) (h : PostF ⟨true, 0, true⟩ w cx heap0 h2 (.val (.slice none 0 0)) v' w') : PostF ⟨true, 0, true⟩ w cx heap0 (oneH con) (.own 0 0 0 none con.wd) v' w' := by
  obtain ⟨c', k1, k2, k3, k4⟩ := h
  have := k1.val_inv
  subst this
  refine ⟨⟨c'.M, c'.O, fun _ => ⟨false, 0, 0, con.wd, 0⟩, fun id => id = 0⟩, .own _ _ _ _ _ none 0 rfl rfl (Nat.le_refl _) (fun _ q => by cases q) (.inl rfl), ⟨k2.M, k2.mkeep, k2.os, k2.tape, k2.output, k2.size, k2.keep, k2.own, k2.Mo, k2.nd⟩,
    ⟨fun q => (by cases q), fun q => (by cases q), fun q => (by cases q), fun _ id hid => (by rw [show id = 0 from hid]; exact Nat.zero_lt_one), fun _ i hi => (by cases hi)⟩, ?_⟩
  have hG : ∀ id b, (oneH con).G id = some b → id = 0 ∧ b = .cells con := by
    intro id b hb
    have hb' : ((bif Nat.beq 0 id then some (⟨0, 0, .cells con⟩ : Ent) else none).map (·.blk)) = some b := hb
    cases hq : Nat.beq 0 id with
    | true => rw [hq] at hb'; exact ⟨(Nat.eq_of_beq_eq_true hq).symm, by injection hb' with hb'; exact hb'.symm⟩
    | false => rw [hq] at hb'; cases hb'
  refine ⟨fun id b hb => (hG id b hb).1, ?_, ?_, k4.dis⟩
  · intro id b hb
    obtain ⟨rfl, rfl⟩ := hG id b hb
    exact ⟨rfl, fun _ => h0, fun q => (by cases q), fun q => (by cases q)⟩
  · intro i j b b' hi hj _ _ _
    rw [(hG i b hi).1, (hG j b' hj).1]
theorem clone_alone {P : Program} {g : Nat} (c : Con) (cap : Option Nat)
    (h1 : Nat.blt 0 c.len = true → Alone P g [.ro c cap] (.own 0 0 c.len none c.wd) (oneH c))
    (h2 : c.len = 0 → ∀ m, ∃ h2, Alone P g [.val (.slice none 0 m)] (.val (.slice none 0 0)) h2)
    (h3 : c.len = 0 → ∀ p m, Alone P g [.val (.slice (some p) 0 m)] (.own 0 0 0 none c.wd) (oneH c)) : Alone P g [.ro c cap] (.own 0 0 c.len none c.wd) (oneH c) := by
  rcases Nat.eq_zero_or_pos c.len with hz | hz
  · rw [hz]
    refine ⟨oneH_ok c, ?_⟩
    intro w cx args' hr hv hV
    cases hv with | cons _ v' _ l' q1 q2 =>
    cases q2
    cases q1 with | ro _ _ a m m1 m2 m3 m4 =>
    rw [hz]
    cases a with
    | none =>
      obtain ⟨h, _, q⟩ := h2 hz m
      exact CallsIn.mono (q w cx _ hr (.cons _ _ _ _ (.val _) .nil) hV) (fun e w' ⟨v', p1, p2⟩ => ⟨v', p1, p2.ofNil c hz⟩)
    | some p => exact (h3 hz p m).2 w cx _ hr (.cons _ _ _ _ (.val _) .nil) hV
  · exact h1 (by rw [Nat.blt_eq]; exact hz)
end Go.Ev
/- States by their slots; loops by what they do to these; nil as a slice without cells. -/
namespace Go.Ev
def lookS (i : Nat) : List Nat → List AV → AV
  | k :: ks, v :: vs => bif Nat.beq k i then v else lookS i ks vs
  | _, _ => .unk
def placeL (ks : List Nat) (vs : List AV) : Nat → Nat → List AV
  | 0, _ => []
  | n + 1, i => lookS i ks vs :: placeL ks vs n (i + 1)
def stOf (n : Nat) (ks : List Nat) (vs : List AV) (h : Heap) : St := ⟨placeL ks vs n 0, [], h⟩
def isUnk : AV → Bool
  | .unk => true
  | _ => false
def masked (ks : List Nat) : Nat → List AV → Bool
  | _, [] => true
  | i, v :: l => (memN i ks || isUnk v) && masked ks (i + 1) l
def isNilL {α : Type} : List α → Bool
  | [] => true
  | _ => false
def chkS (n : Nat) (ks : List Nat) (s : St) : Bool := Nat.beq s.t.length n && (isNilL s.d && masked ks 0 s.t)
def outS (n : Nat) (ko : List Nat) (a : Ans (AX × List AV × Heap)) : Ans (AX × St) :=
  Ans.rec .no (fun r => match r with | (e, vo, h) => .out (e, stOf n ko vo h)) (fun b _ _ x y => .br b x y) a
def toLSum (n : Nat) (ks ko : List Nat) (f : List AV → Heap → Ans (AX × List AV × Heap)) : LSum := fun s =>
  bif chkS n ks s then outS n ko (f (ks.map (getT s.t)) s.h) else .no
theorem lookS_map (t : List AV) (i : Nat) : ∀ ks : List Nat, lookS i ks (ks.map (getT t)) = if memN i ks = true then getT t i else .unk
  | [] => rfl
  | k :: ks => by
    show (bif Nat.beq k i then getT t k else lookS i ks (ks.map (getT t))) = _
    have e : memN i (k :: ks) = (bif Nat.beq i k then true else memN i ks) := rfl
    rw [e]
    cases hb : Nat.beq k i with
    | true => rw [Nat.eq_of_beq_eq_true hb]; rw [Nat.beq_refl]; rfl
    | false =>
      have : Nat.beq i k = false := by
        rw [Bool.eq_false_iff]; intro q; rw [Nat.eq_of_beq_eq_true q, Nat.beq_refl] at hb; cases hb
      rw [this]
      exact lookS_map t i ks
theorem place_eq (t : List AV) (ks : List Nat) : ∀ (n i : Nat) (l : List AV), l.length = n → (∀ j v, l[j]? = some v → getT t (i + j) = v) → masked ks i l = true → placeL ks (ks.map (getT t)) n i = l
  | 0, i, l, hl, _, _ => by rw [List.length_eq_zero_iff.1 hl]; rfl
  | n + 1, i, [], hl, _, _ => by simp at hl
  | n + 1, i, v :: l, hl, hg, hm => by
    show lookS i ks (ks.map (getT t)) :: placeL ks (ks.map (getT t)) n (i + 1) = _
    have hm' : ((memN i ks || isUnk v) && masked ks (i + 1) l) = true := hm
    rw [Bool.and_eq_true] at hm'
    have hv : getT t i = v := hg 0 v rfl
    rw [place_eq t ks n (i + 1) l (by simpa using hl) (fun j u hu => by have := hg (j + 1) u hu; rwa [show i + (j + 1) = i + 1 + j by omega] at this) hm'.2]
    congr 1
    rw [lookS_map, hv]
    by_cases q : memN i ks = true
    · rw [if_pos q]
    · rw [if_neg q]
      have h1 := hm'.1
      rw [Bool.not_eq_true] at q
      rw [q, Bool.false_or] at h1
      cases v <;> first | rfl | cases h1
theorem nthD_get {α : Type} (d : α) : ∀ (l : List α) (i : Nat) (v : α), l[i]? = some v → nthD d l i = v
  | [], i, v, h => by simp at h
  | a :: l, 0, v, h => by simp at h; exact h
  | a :: l, i + 1, v, h => nthD_get d l i v (by simpa using h)
theorem chkS_eq {n : Nat} {ks : List Nat} {s : St} (h : chkS n ks s = true) : s = stOf n ks (ks.map (getT s.t)) s.h := by
  unfold chkS at h
  rw [Bool.and_eq_true, Bool.and_eq_true] at h
  obtain ⟨h1, h2, h3⟩ := h
  obtain ⟨t, d, hp⟩ := s
  have hd : d = [] := by
    cases d with
    | nil => rfl
    | cons => cases h2
  subst hd
  unfold stOf
  rw [place_eq t ks n 0 t (Nat.eq_of_beq_eq_true h1) (fun j v hv => by rw [Nat.zero_add]; exact nthD_get _ _ _ _ hv) h3]
theorem outS_run {n : Nat} {ko : List Nat} (a : Ans (AX × List AV × Heap)) : (outS n ko a).run = match a.run with | some (e, vo, h) => some (e, stOf n ko vo h) | none => none := by
  induction a with
  | no => rfl
  | out r => rfl
  | br b x y ihx ihy =>
    show (bif b then (outS n ko x).run else (outS n ko y).run) = match (bif b then x.run else y.run) with | some (e, vo, h) => some (e, stOf n ko vo h) | none => none
    cases b <;> first | exact ihx | exact ihy
theorem toLSum_some {n : Nat} {ks ko : List Nat} {f : List AV → Heap → Ans (AX × List AV × Heap)} {s : St} {e : AX} {s' : St} (h : (toLSum n ks ko f s).run = some (e, s')) :
    ∃ vs vo h', s = stOf n ks vs s.h ∧ (f vs s.h).run = some (e, vo, h') ∧ s' = stOf n ko vo h' := by
  unfold toLSum at h
  cases hc : chkS n ks s with
  | false => rw [hc] at h; cases h
  | true =>
    rw [hc, cond_true, outS_run] at h
    split at h
    · rename_i e1 vo h1 hf
      injection h with h
      injection h with q1 q2
      subst q1
      exact ⟨_, vo, h1, chkS_eq hc, hf, q2.symm⟩
    · cases h
section
variable {P : Program}
theorem LsOk.of {ls : Nat → Option LSum} {c : Code} {i : Nat} {L : LSum} (h1 : Code.fst c = some i) (h2 : ls i = some L) (h : ∀ s e s', s.h.ok → (L s).run = some (e, s') → Triple P (.loop c) s e s') : LsOk P ls c := by
  have : lsOf ls c = some L := by unfold lsOf; rw [h1]; exact h2
  unfold LsOk
  rw [this]
  exact h
end
def nz0 (c : Con) : AV → AV
  | .val (.slice none 0 0) => .ro c none
  | v => v
def nz0s (c : Con) (l : List AV) : List AV := foldL [] (fun v _ ih => nz0 c v :: ih) l
def nz (c : Con) : AV → AV
  | .agg l => .agg (nz0s c l)
  | v => nz0 c v
def nzs : List Con → List AV → List AV
  | c :: cs, v :: vs => nz c v :: nzs cs vs
  | _, vs => vs
theorem nz0_rel {w : World} {cx : Cx} {c : Con} (h0 : c.len = 0) {v : AV} {v' : Value} (h : VR w cx v v') : VR w cx (nz0 c v) v' := by
  unfold nz0
  split
  · have := h.val_inv
    subst this
    have := VR.ro (W := w) (c := cx) c none none 0 (by omega) (fun _ q => by cases q) (.inl h0) (fun b o q => by cases q)
    rw [h0] at this
    exact this
  · exact h
theorem nz0s_rel {w : World} {cx : Cx} {c : Con} (h0 : c.len = 0) : ∀ {l : List AV} {l' : List Value}, VRs w cx l l' → VRs w cx (nz0s c l) l'
  | _, _, .nil => .nil
  | _, _, .cons v v' l l' h1 h2 => .cons _ _ _ _ (nz0_rel h0 h1) (nz0s_rel h0 h2)
theorem nz_rel {w : World} {cx : Cx} {c : Con} (h0 : c.len = 0) {v : AV} {v' : Value} (h : VR w cx v v') : VR w cx (nz c v) v' := by
  unfold nz
  split
  · cases h with | agg _ l' hl => exact .agg _ _ (nz0s_rel h0 hl)
  · exact nz0_rel h0 h
theorem nzs_rel {w : World} {cx : Cx} : ∀ {cs : List Con} {l : List AV} {l' : List Value}, (∀ c ∈ cs, c.len = 0) → VRs w cx l l' → VRs w cx (nzs cs l) l'
  | [], _, _, _, h => by unfold nzs; exact h
  | c :: cs, _, _, hc, .nil => by unfold nzs; exact .nil
  | c :: cs, _, _, hc, .cons v v' l l' h1 h2 => .cons _ _ _ _ (nz_rel (hc c (by simp)) h1) (nzs_rel (fun c' q => hc c' (by simp [q])) h2)
theorem Alone.nz {P : Program} {g : Nat} {cs : List Con} (h0 : ∀ c ∈ cs, c.len = 0) {args : List AV} {v : AV} {h2 : Heap} (h : Alone P g (nzs cs args) v h2) : Alone P g args v h2 :=
  ⟨h.1, fun w c args' hr hv hV => h.2 w c args' hr (nzs_rel h0 hv) hV⟩
end Go.Ev
/- Small laws for closing walks. -/
namespace Go.Ev
theorem AllL.of0 {α : Type} {Q : α → Prop} {l : List α} (h : l = []) : AllL Q l := by rw [h]; trivial
theorem AllL.of1 {α : Type} {Q : α → Prop} {l : List α} {a : α} (h : l = [a]) (h1 : Q a) : AllL Q l := by rw [h]; exact ⟨h1, trivial⟩
theorem AllL.of2 {α : Type} {Q : α → Prop} {l : List α} {a b : α} (h : l = [a, b]) (h1 : Q a) (h2 : Q b) : AllL Q l := by rw [h]; exact ⟨h1, h2, trivial⟩
theorem wrap64 (k : Int) (h0 : -9223372036854775808 ≤ k) (h1 : k < 9223372036854775808) : IntKind.i64.wrap k = k := by rw [IntKind.wrap_i64]; omega
theorem wrapS (k : Nat) (h : k < 4611686018427387904) : IntKind.i64.wrap ((k : Int) + 1) = ((k + 1 : Nat) : Int) := by rw [wrap64 _ (by omega) (by omega)]; omega
theorem inR_nat (k n : Nat) : inR (k : Int) n = decide (k < n) := by
  unfold inR
  rw [Bool.eq_iff_iff]
  simp
theorem ble_t {a b : Nat} (h : a ≤ b) : Nat.ble a b = true := by rw [Nat.ble_eq]; exact h
theorem blt_t {a b : Nat} (h : a < b) : Nat.blt a b = true := by rw [Nat.blt_eq]; exact h
theorem declt_nat (a b : Nat) : decide ((a : Int) < (b : Int)) = decide (a < b) := by
  rw [Bool.eq_iff_iff]; simp
theorem most_eq : most = 1099511627776 := rfl
section
variable {α : Type}
theorem cond_true' (x y : α) : (bif true then x else y) = x := rfl
theorem cond_false' (x y : α) : (bif false then x else y) = y := rfl
end
end Go.Ev
/- States that say less; loops with these; contents told otherwise. -/
namespace Go.Ev
def Weak (s s' : St) : Prop := s'.h.ok ∧ ∀ w c a, StRel w c s a → (∀ id, c.V id → id < s.h.next) → ∃ c', StRel w c' s' a ∧ ExtW ⟨true, 0, true⟩ w c w c' ∧ (∀ id, c'.V id → id < s'.h.next)
theorem Weak.refl {s : St} (h : s.h.ok) : Weak s s := ⟨h, fun w c a hr hv => ⟨c, hr, (Ext.refl w c).w, hv⟩⟩
theorem Weak.trans {s s' s'' : St} (h : Weak s s') (k : Weak s' s'') : Weak s s'' := ⟨k.1, fun w c a hr hv => by
  obtain ⟨c1, r1, x1, v1⟩ := h.2 w c a hr hv
  obtain ⟨c2, r2, x2, v2⟩ := k.2 w c1 a r1 v1
  exact ⟨c2, r2, x1.trans x2, v2⟩⟩
noncomputable def nil1 (slot : Nat) (con : Con) (s : St) : St := ⟨setL s.t slot (.own s.h.next 0 0 none con.wd), s.d, s.h.add (.cells con)⟩
theorem VRs.setAt {w : World} {c : Cx} {v : AV} : ∀ {l : List AV} {l' : List Value} {i : Nat}, VRs w c l l' → (∀ u, l'[i]? = some u → VR w c v u) → VRs w c (setL l i v) l'
  | _, _, i, .nil, _ => .nil
  | _, _, 0, .cons a a' l l' h1 h2, hv => .cons _ _ _ _ (hv a' rfl) h2
  | _, _, i + 1, .cons a a' l l' h1 h2, hv => .cons _ _ _ _ h1 (VRs.setAt h2 (fun u hu => hv u (by simpa using hu)))
theorem VRs.get? {w : World} {c : Cx} : ∀ {l : List AV} {l' : List Value} (i : Nat) (u : Value), VRs w c l l' → l'[i]? = some u → VR w c (getT l i) u
  | [], _, i, u, .nil, h => by simp at h
  | _ :: _, _ :: _, 0, u, .cons a a' l l' h1 h2, h => by simp at h; subst h; exact h1
  | _ :: _, _ :: _, i + 1, u, .cons a a' l l' h1 h2, h => VRs.get? (l := l) (l' := l') i u h2 (by simpa using h)
theorem Weak.nil {s : St} (hk : s.h.ok) (slot : Nat) (con : Con) (h0 : con.len = 0) (hs : getT s.t slot = .val (.slice none 0 0)) : Weak s (nil1 slot con s) := by
  refine ⟨Heap.ok_add hk _, fun w c a hr hv => ?_⟩
  have hnv : ¬ c.V s.h.next := fun q => Nat.lt_irrefl _ (hv _ q)
  have hne : ∀ i, c.V i → i ≠ s.h.next := fun i hi e => hnv (e ▸ hi)
  let c2 : Cx := ⟨c.M, c.O, fun j => if j = s.h.next then ⟨false, 0, 0, con.wd, 0⟩ else c.ι j, fun j => c.V j ∨ j = s.h.next⟩
  have hx : Ext w c w c2 := ⟨⟨fun _ q => q, fun _ _ _ => rfl, fun i hi => ⟨.inl hi, if_neg (hne i hi)⟩⟩, rfl, rfl, rfl, Nat.le_refl _, fun _ _ _ => rfl, fun _ _ q => q, fun _ _ q => q, fun _ q q' => absurd q q'⟩
  have hι : c2.ι s.h.next = ⟨false, 0, 0, con.wd, 0⟩ := if_pos rfl
  have hG : ∀ i b, (s.h.add (.cells con)).G i = some b → (i = s.h.next ∧ b = .cells con) ∨ (i ≠ s.h.next ∧ s.h.G i = some b) := by
    intro i b hb
    simp only [Heap.G, Heap.add, findE_cons] at hb
    split at hb
    · rename_i q
      simp only [Option.map_some, Option.some.injEq] at hb
      exact .inl ⟨q.symm, hb.symm⟩
    · rename_i q
      exact .inr ⟨fun e => q e.symm, hb⟩
  refine ⟨c2, ⟨?_, ?_, ?_, ?_⟩, hx.w, ?_⟩
  · refine VRs.setAt (VRs.mono hx.toExt0 hr.t) ?_
    intro u hu
    have := VRs.get? slot u hr.t hu
    rw [hs] at this
    have := this.val_inv
    subst this
    exact .own _ _ _ _ _ none 0 (.inr rfl) (by rw [hι]) (Nat.le_refl _) (fun _ q => by cases q) (.inl rfl)
  · refine ⟨?_, ?_, ?_, hr.h.dis⟩
    · intro i b hb
      rcases hG i b hb with ⟨q, _⟩ | ⟨q, hb⟩
      · exact .inr q
      · exact .inl (hr.h.valid i b hb)
    · intro i b hb
      rcases hG i b hb with ⟨rfl, rfl⟩ | ⟨q, hb⟩
      · rw [hι]
        exact ⟨rfl, fun _ => h0, fun q => (by cases q), fun q => (by cases q)⟩
      · rw [show c2.ι i = c.ι i from if_neg q]
        exact BlkRel.keep hx.toExt0 (hr.h.blk i b hb) (fun _ => rfl) (fun hl => (hr.h.blk i b hb).owned hl)
    · intro i j b b' hi hj li lj hbk
      rcases hG i b hi with ⟨rfl, rfl⟩ | ⟨qi, hi⟩
      · rw [hι] at li; cases li
      · rcases hG j b' hj with ⟨rfl, rfl⟩ | ⟨qj, hj⟩
        · rw [hι] at lj; cases lj
        · rw [show c2.ι i = c.ι i from if_neg qi] at li hbk
          rw [show c2.ι j = c.ι j from if_neg qj] at lj hbk
          exact hr.h.inj i j b b' hi hj li lj hbk
  · show a.defers = marks c2 s.d
    rw [hr.d, marks_ids hx.ids hr.dv]
  · intro id hid; exact .inl (hr.dv id hid)
  · rintro id (q | q)
    · exact Nat.lt_succ_of_lt (hv id q)
    · rw [q]; exact Nat.lt_succ_self _
section
variable {P : Program}
theorem loop_tripleW {c : Code} {X : KC (AX × St) → St → Option (AX × St)} (hX : COk P ⟨true, 0, true⟩ false c X) (ks ko : List Nat) {T : Type} (st : T → St) (Inv : T → Prop) (m : T → Nat) (fin : T → AX × St)
    (hok : ∀ x, Inv x → (st x).h.ok)
    (hb : ∀ x, Inv x → (∃ x' s1, X (outK ks ko) (st x) = some (.normal, s1) ∧ Weak s1 (st x') ∧ Inv x' ∧ m x' < m x ∧ fin x' = fin x) ∨ (∃ s1, X (outK ks ko) (st x) = some ((fin x).1, s1) ∧ Weak s1 (fin x).2 ∧ (fin x).1 ≠ .normal)) :
    ∀ x, Inv x → Triple P (.loop c) (st x) (fin x).1 (fin x).2 := by
  have key : ∀ n x, m x < n → Inv x → (fin x).2.h.ok ∧ ∀ {F : Fence} (hF : FOk F) (hro : F.round = none) (w : World) (cx : Cx) (a : Act), StRel w cx (st x) a → (∀ id, cx.V id → id < (st x).h.next) →
      LoopWp F P c (fun e' a' w' => e' = exitOf (fin x).1 ∧ PostC ⟨true, 0, true⟩ w cx (st x).h.next (fin x).2 a' w') n a w := by
    intro n
    induction n with
    | zero => intro x h; omega
    | succ n ih =>
      intro x hm hi
      rcases hb x hi with ⟨x', sx, h1, hw, h2, h3, h4⟩ | ⟨sx, h1, hw, h2⟩
      · obtain ⟨e, s1, k1, k2, k3⟩ := hX _ _ _ (hok x hi) h1
        obtain ⟨i1, i2⟩ := ih x' (by omega) h2
        rw [h4] at i1 i2
        refine ⟨i1, fun hF hro w cx a hr hfr => ?_⟩
        cases e with
        | normal =>
          have hs : canon (some ks) s1 = sx := by injection k1 with k1; injection k1 with _ k1
          obtain ⟨t2, t5⟩ := trimR_ok (root := ⟨true, 0, true⟩) (ks := some ks) k2.1
          refine wpIn_mono (k3 hF (fun _ => hro) w cx a hr ⟨fun q => (by cases q), fun _ => hfr⟩) ?_
          rintro e1 a1 w1 ⟨rfl, c1, r1, x1, v1⟩
          have f1 : Fresh ⟨true, 0, true⟩ c1 s1.h.next s1.h.next := ⟨fun q => (by cases q), v1.R⟩
          obtain ⟨c2, r2, x2, v2⟩ := t5 w1 c1 a1 _ r1 f1
          have e2 : trimR ⟨true, 0, true⟩ (some ks) s1 = sx := hs
          rw [e2] at r2 v2
          obtain ⟨c3, r3, x3, v3⟩ := hw.2 w1 c2 a1 r2 (v2.R rfl)
          refine LoopWp.mono ?_ n a1 w1 (i2 hF hro w1 c3 a1 r3 v3)
          rintro e2 a2 w2 ⟨rfl, hp⟩
          refine ⟨rfl, hp.trans ((x1.trans x2).trans x3) ⟨fun q => (by cases q), fun q => (by cases q), fun q => (by cases q), fun _ => v3, fun _ i hi => (by cases hi)⟩⟩
        | exit i => injection k1 with k1; injection k1 with k1; cases k1
        | ret => injection k1 with k1; injection k1 with k1; cases k1
        | pan y => injection k1 with k1; injection k1 with k1; cases k1
      · obtain ⟨e, s1, k1, k2, k3⟩ := hX _ _ _ (hok x hi) h1
        have hs : ((fin x).1, sx) = (e, canon (some ko) s1) ∧ e ≠ .normal := by
          cases e with
          | normal => injection k1 with k1; injection k1 with k1 k1'; exact absurd k1.symm h2
          | exit i => injection k1 with k1; exact ⟨k1.symm, by simp⟩
          | ret => injection k1 with k1; exact ⟨k1.symm, by simp⟩
          | pan y => injection k1 with k1; exact ⟨k1.symm, by simp⟩
        obtain ⟨hs, hne⟩ := hs
        injection hs with hs1 hs2
        rw [hs1]
        obtain ⟨t2, t5⟩ := trimR_ok (root := ⟨true, 0, true⟩) (ks := some ko) k2.1
        refine ⟨hw.1, fun hF hro w cx a hr hfr => wpIn_mono (k3 hF (fun _ => hro) w cx a hr ⟨fun q => (by cases q), fun _ => hfr⟩) ?_⟩
        rintro e1 a1 w1 ⟨rfl, c1, r1, x1, v1⟩
        have f1 : Fresh ⟨true, 0, true⟩ c1 s1.h.next s1.h.next := ⟨fun q => (by cases q), v1.R⟩
        obtain ⟨c2, r2, x2, v2⟩ := t5 w1 c1 a1 _ r1 f1
        have e2 : trimR ⟨true, 0, true⟩ (some ko) s1 = sx := hs2.symm
        rw [e2] at r2 v2
        obtain ⟨c3, r3, x3, v3⟩ := hw.2 w1 c2 a1 r2 (v2.R rfl)
        have fin' : exitOf e = exitOf e ∧ PostC ⟨true, 0, true⟩ w cx (st x).h.next (fin x).2 a1 w1 := ⟨rfl, c3, r3, (x1.trans x2).trans x3, ⟨fun q => (by cases q), fun q => (by cases q), fun q => (by cases q), fun _ => v3, fun _ i hi => (by cases hi)⟩⟩
        cases e with
        | normal => exact absurd rfl hne
        | exit i => exact fin'
        | ret => exact fin'
        | pan y => exact fin'
  intro x hi
  obtain ⟨h1, h2⟩ := key (m x + 1) x (Nat.lt_succ_self _) hi
  exact ⟨h1, fun hF hro w cx a hr hfr => wpIn_loop_n ⟨m x + 1, h2 hF hro w cx a hr (hfr.R rfl)⟩⟩
theorem Triple.weak {c : Code} {s s1 s' : St} {e : AX} (hw : Weak s s1) (h : Triple P c s1 e s') : Triple P c s e s' := by
  refine ⟨h.1, fun hF hro w cx a hr hfr => ?_⟩
  obtain ⟨c1, r1, x1, v1⟩ := hw.2 w cx a hr (hfr.R rfl)
  refine wpIn_mono (h.2 hF hro w c1 a r1 ⟨fun q => (by cases q), fun _ => v1⟩) ?_
  rintro e1 a1 w1 ⟨rfl, c2, r2, x2, v2⟩
  exact ⟨rfl, c2, r2, x1.trans x2, ⟨fun q => (by cases q), fun q => (by cases q), fun q => (by cases q), v2.R, fun _ i hi => (by cases hi)⟩⟩
theorem loop_lawW {env : Env} (he : EnvOk2 P env) {d g : Nat} {ls : Nat → Option LSum} {c : Code} (hin : AllL (LsOk P ls) (loopsOf c)) (n : Nat) (ks ko : List Nat) {T : Type} (V : T → List AV) (H : T → Heap) (Inv : T → Prop) (m : T → Nat) (fin : T → AX × List AV × Heap)
    (f : List AV → Heap → Ans (AX × List AV × Heap))
    (hf : ∀ vs h e vo h', h.ok → (f vs h).run = some (e, vo, h') → ∃ x, Inv x ∧ Weak (stOf n ks vs h) (stOf n ks (V x) (H x)) ∧ fin x = (e, vo, h'))
    (hok : ∀ x, Inv x → (H x).ok)
    (hb : ∀ x, Inv x → (∃ x' s1, codeS env (callF env d) (env.keep g) ls c (outK ks ko) (stOf n ks (V x) (H x)) = some (.normal, s1) ∧ Weak s1 (stOf n ks (V x') (H x')) ∧ Inv x' ∧ m x' < m x ∧ fin x' = fin x) ∨
      (∃ s1, codeS env (callF env d) (env.keep g) ls c (outK ks ko) (stOf n ks (V x) (H x)) = some ((fin x).1, s1) ∧ Weak s1 (stOf n ko (fin x).2.1 (fin x).2.2) ∧ (fin x).1 ≠ .normal)) :
    ∀ s e s', s.h.ok → (toLSum n ks ko f s).run = some (e, s') → Triple P (.loop c) s e s' := by
  intro s e s' hk hL
  obtain ⟨vs, vo, h', h1, h2, h3⟩ := toLSum_some hL
  obtain ⟨x, hi, hw, hfin⟩ := hf _ _ _ _ _ hk h2
  have hX := codeS_sound (ρ := AX × St) (callF_sound he d) he.ok he.mix (env.keep g) ls c hin
  have key := loop_tripleW hX ks ko (fun x => stOf n ks (V x) (H x)) Inv m (fun x => ((fin x).1, stOf n ko (fin x).2.1 (fin x).2.2)) hok (fun x hi => by
    rcases hb x hi with ⟨x', s1, q1, q2, q3, q4, q5⟩ | ⟨s1, q⟩
    · exact .inl ⟨x', s1, q1, q2, q3, q4, by rw [q5]⟩
    · exact .inr ⟨s1, q⟩) x hi
  rw [hfin] at key
  rw [h1, h3]
  exact Triple.weak hw key
end
def AW (v v' : AV) : Prop := ∀ w c u, VR w c v u → VR w c v' u
theorem AW.refl (v : AV) : AW v v := fun _ _ _ h => h
structure ConW (a b : Con) : Prop where
  wd : b.wd = a.wd
  len : b.len = a.len
  row : ∀ i, i < a.len → ∀ (j : Nat) (v' : AV), (b.row i)[j]? = some v' → ∃ v, (a.row i)[j]? = some v ∧ AW v v'
theorem RD.conv {w : World} {c : Cx} {a b : Con} (h : ConW a b) {k o : Nat} (hr : RD w c a k o) : RD w c b k o := by
  cases hr with | mk _ _ _ arr e fz g g1 g2 g3 g4 =>
  refine .mk b k o arr e fz g g1 g2 ?_ ?_
  · intro i j hi hj; rw [h.wd] at hj ⊢; rw [h.len] at hi; exact g3 i j hi hj
  · intro i j v hi hj hv
    rw [h.len] at hi; rw [h.wd] at hj
    obtain ⟨v0, e1, e2⟩ := h.row i hi j v hv
    exact e2 _ _ _ (g4 i j v0 hi hj e1)
theorem VR.conv {w : World} {c : Cx} {a b : Con} (h : ConW a b) {cap cap' : Option Nat} (hc : cap' = cap ∨ cap' = none) {v : Value} (hr : VR w c (.ro a cap) v) : VR w c (.ro b cap') v := by
  cases hr with | ro _ _ p m h1 h2 h3 h4 =>
  rw [← h.len] at h1 h3 h4 ⊢
  refine .ro b cap' p m h1 ?_ h3 (fun k o e hp => (h4 k o e hp).conv h)
  rcases hc with rfl | rfl
  · exact h2
  · intro _ q; cases q
theorem AW.cap (a : Con) (cap : Option Nat) : AW (.ro a cap) (.ro a none) := fun _ _ _ => VR.conv ⟨rfl, rfl, fun i hi j v' hv => ⟨v', hv, AW.refl _⟩⟩ (.inr rfl)
theorem AW.nil {c : Con} (h : c.len = 0) : AW (.val (.slice none 0 0)) (.ro c none) := fun _ _ u hu => nz0_rel (v := .val (.slice none 0 0)) h hu
inductive AWs : List AV → List AV → Prop where
  | nil : AWs [] []
  | cons {v v' : AV} {l l' : List AV} : AW v v' → AWs l l' → AWs (v :: l) (v' :: l')
theorem AWs.refl : ∀ l, AWs l l
  | [] => .nil
  | v :: l => .cons (AW.refl v) (AWs.refl l)
theorem AWs.look {i : Nat} : ∀ {ks : List Nat} {vs vs' : List AV}, AWs vs vs' → AW (lookS i ks vs) (lookS i ks vs')
  | [], _, _, _ => by simp only [lookS]; exact AW.refl _
  | k :: ks, _, _, .nil => AW.refl _
  | k :: ks, _, _, .cons (v := v) (v' := v') (l := l) (l' := l') h1 h2 => by
    show AW (bif Nat.beq k i then v else lookS i ks l) (bif Nat.beq k i then v' else lookS i ks l')
    cases Nat.beq k i
    · exact AWs.look h2
    · exact h1
theorem AWs.place {ks : List Nat} {vs vs' : List AV} (h : AWs vs vs') {w : World} {c : Cx} : ∀ (n i : Nat) (l : List Value), VRs w c (placeL ks vs n i) l → VRs w c (placeL ks vs' n i) l
  | 0, _, l, hl => hl
  | n + 1, i, l, hl => by
    cases hl with | cons _ u _ us h1 h2 => exact .cons _ _ _ _ (h.look _ _ _ h1) (AWs.place h n (i + 1) us h2)
theorem Weak.slots {n : Nat} {ks : List Nat} {vs vs' : List AV} {h : Heap} (hk : h.ok) (hw : AWs vs vs') : Weak (stOf n ks vs h) (stOf n ks vs' h) :=
  ⟨hk, fun w c a hr hv => ⟨c, ⟨hw.place _ _ _ hr.t, hr.h, hr.d, hr.dv⟩, (Ext.refl w c).w, hv⟩⟩
def ArgsW (l l' : List AV) : Prop := ∀ w c u, VRs w c l u → VRs w c l' u
theorem AWs.args {l l' : List AV} (h : AWs l l') : ArgsW l l' := by
  induction h with
  | nil => exact fun _ _ _ h => h
  | cons h1 _ ih =>
    intro w c u hu
    cases hu with | cons _ u0 _ us g1 g2 => exact .cons _ _ _ _ (h1 w c u0 g1) (ih w c us g2)
theorem Alone.argsW {P : Program} {g : Nat} {args args' : List AV} (hw : ArgsW args args') {v : AV} {h2 : Heap} (h : Alone P g args' v h2) : Alone P g args v h2 :=
  ⟨h.1, fun w c us hr hv hV => h.2 w c us hr (hw w c us hv) hV⟩
theorem Alone.outW {P : Program} {g : Nat} {args : List AV} {v v' : AV} {h2 h3 : Heap} (hw : Weak ⟨[v], [], h2⟩ ⟨[v'], [], h3⟩) (h : Alone P g args v h2) : Alone P g args v' h3 := by
  refine ⟨hw.1, fun w c us hr hv hV => CallsIn.mono (h.2 w c us hr hv hV) ?_⟩
  rintro e w' ⟨u, rfl, c', k1, k2, k3, k4⟩
  obtain ⟨c1, r1, x1, v1⟩ := hw.2 w' c' { tmps := #[u], defers := [] } ⟨.cons _ _ _ _ k1 .nil, k4, rfl, by simp⟩ (k3.R rfl)
  refine ⟨u, rfl, c1, ?_, k2.trans x1, ⟨fun q => (by cases q), fun q => (by cases q), fun q => (by cases q), fun _ => v1, fun _ i hi => (by cases hi)⟩, r1.h⟩
  have r3 : VRs w' c1 [v'] [u] := r1.t
  cases r3 with | cons _ _ _ _ q1 q2 => exact q1
end Go.Ev
/- Answers that hold what is only read; blocks that are frozen. -/
namespace Go.Ev
def noOwn0 : AV → Bool
  | .unk => true
  | .val _ => true
  | .ro _ _ => true
  | .rptr _ _ _ => true
  | .rmp _ => true
  | _ => false
def noOwn0s (l : List AV) : Bool := foldL true (fun v _ ih => noOwn0 v && ih) l
def noOwn : AV → Bool
  | .agg l => noOwn0s l
  | .clo f a b => notYield f && (noOwn0s a && noOwn0s b)
  | v => noOwn0 v
def noOwns (l : List AV) : Bool := foldL true (fun v _ ih => noOwn v && ih) l
def roA (S : List AV → Ans (AV × Heap)) : AFun := fun _ args h K =>
  bif noOwns args then (S args).walk fun r => match r with
    | (v, h2) => K (v.ren (upN h.next)) ⟨h.next + h2.next, shiftEs h.next h2.es ++ h.es⟩
  else none
section
variable {w : World} {c : Cx}
theorem noOwn0_rel {v : AV} {u : Value} (hn : noOwn0 v = true) (h : VR w c v u) : VR w c.none v u := by
  cases h with
  | unk => exact .unk _
  | val => exact .val _
  | ro k cap a m h1 h2 h3 h4 => exact .ro k cap a m h1 h2 h3 (fun b o e hp => RD.reM (c := c) (c2 := c.none) rfl (h4 b o e hp))
  | rptr k r j b o h1 h2 => exact .rptr k r j b o h1 (RD.reM (c := c) (c2 := c.none) rfl h2)
  | rmp m r es ck g h1 h2 h3 h4 h5 => exact .rmp m r es ck g h1 h2 h3 h4 h5
  | _ => cases hn
theorem noOwn0s_rel : ∀ {l : List AV} {l' : List Value}, noOwn0s l = true → VRs w c l l' → VRs w c.none l l'
  | [], _, _, h => by cases h; exact .nil
  | v :: l, _, hn, h => by
    cases h with | cons _ v' _ l' h1 h2 =>
    have hn' : (noOwn0 v && noOwn0s l) = true := hn
    rw [Bool.and_eq_true] at hn'
    exact .cons _ _ _ _ (noOwn0_rel hn'.1 h1) (noOwn0s_rel hn'.2 h2)
theorem noOwn_rel {v : AV} {u : Value} (hn : noOwn v = true) (h : VR w c v u) : VR w c.none v u := by
  cases h with
  | agg l l' hl => exact .agg _ _ (noOwn0s_rel hn hl)
  | clo f a b a' b' hf ha hb =>
    have hn' : (notYield f && (noOwn0s a && noOwn0s b)) = true := hn
    rw [Bool.and_eq_true, Bool.and_eq_true] at hn'
    have e : renFn c f = renFn c.none f := by cases f <;> first | rfl | (cases hn'.1)
    have hf' : fnOk c.none f := by cases f <;> first | exact trivial | (cases hn'.1)
    rw [e]
    exact .clo f _ _ _ _ hf' (noOwn0s_rel hn'.2.1 ha) (noOwn0s_rel hn'.2.2 hb)
  | unk => exact .unk _
  | val => exact .val _
  | ro k cap a m h1 h2 h3 h4 => exact noOwn0_rel (v := .ro k cap) rfl (.ro k cap a m h1 h2 h3 h4)
  | rptr k r j b o h1 h2 => exact noOwn0_rel (v := .rptr k r j) rfl (.rptr k r j b o h1 h2)
  | rmp m r es ck g h1 h2 h3 h4 h5 => exact noOwn0_rel (v := .rmp m) rfl (.rmp m r es ck g h1 h2 h3 h4 h5)
  | _ => cases hn
theorem noOwns_rel : ∀ {l : List AV} {l' : List Value}, noOwns l = true → VRs w c l l' → VRs w c.none l l'
  | [], _, _, h => by cases h; exact .nil
  | v :: l, _, hn, h => by
    cases h with | cons _ v' _ l' h1 h2 =>
    have hn' : (noOwn v && noOwns l) = true := hn
    rw [Bool.and_eq_true] at hn'
    exact .cons _ _ _ _ (noOwn_rel hn'.1 h1) (noOwns_rel hn'.2 h2)
end
theorem roSumR {P : Program} (g : Nat) {S : List AV → Ans (AV × Heap)} (hf : ∃ fn c, P.funcs[g]? = some fn ∧ fn.name ≠ "runtime.NumGoroutine" ∧ fn.body = some c)
    (hS : ∀ args v h2, (S args).run = some (v, h2) → (∀ e ∈ h2.es, ∃ k, e.blk = .cells k) ∧ Alone P g args v h2) : SumC P g (roA S) := by
  refine ⟨hf, ?_⟩
  intro ρ args h K r hk hA
  unfold roA at hA
  cases hno : noOwns args with
  | false => rw [hno] at hA; cases hA
  | true =>
  rw [hno, cond_true, Ans.walk_eq] at hA
  split at hA
  · rename_i r0 hs
    obtain ⟨v0, h0⟩ := r0
    simp only at hA
    obtain ⟨hcells, k2, k3⟩ := hS args v0 h0 hs
    obtain ⟨h', hh'⟩ : ∃ h' : Heap, h' = ⟨h.next + h0.next, shiftEs h.next h0.es ++ h.es⟩ := ⟨_, rfl⟩
    rw [← hh'] at hA
    have hfind : ∀ j, findE h'.es j = if h.next ≤ j then (findE h0.es (j - h.next)).map (shiftE h.next) else findE h.es j := by
      intro j
      rw [hh']
      simp only [findE_append, shiftEs_find]
      by_cases q : h.next ≤ j
      · rw [if_pos q, if_pos q]
        have hnone : findE h.es j = none := by
          cases hf : findE h.es j with
          | none => rfl
          | some e => have := hk.lt j e hf; omega
        rw [hnone]
        cases findE h0.es (j - h.next) <;> rfl
      · rw [if_neg q, if_neg q]
    have hok : h'.ok := by
      refine ⟨?_, ?_⟩
      · rw [hh']
        unfold Uniq
        rw [List.map_append, List.nodup_append]
        refine ⟨shiftEs_uniq k2.uniq, hk.uniq, ?_⟩
        intro a ha b hb hab
        subst hab
        rw [shiftEs_ids] at ha
        obtain ⟨i, _, hi⟩ := List.mem_map.1 ha
        obtain ⟨e, m1, q1⟩ := List.mem_map.1 hb
        have := hk.lt e.id e (findE_mem hk.uniq m1)
        omega
      · intro j e hj
        rw [hfind] at hj
        have hn' : h'.next = h.next + h0.next := by rw [hh']
        rw [hn']
        split at hj
        · rename_i q
          obtain ⟨e0, m1, _⟩ := Option.map_eq_some_iff.1 hj
          have := k2.lt _ e0 m1
          omega
        · have := hk.lt j e hj; omega
    refine ⟨_, h', hA, ⟨by rw [hh']; exact Nat.le_add_right _ _, hok, ?_⟩, ?_⟩
    · intro id e' he' hi
      rw [hfind, if_neg (by omega)] at he'
      exact ⟨e', he', Nat.le_refl _, fun _ => rfl⟩
    · intro w c args' hr hv hfr
      apply callsRet
      have hv' := noOwns_rel hno hv
      refine CallsIn.mono (k3 w c.none args' hr.none hv' (fun _ q => q)) ?_
      rintro e w' ⟨v', rfl, c', q1, q2, q3, q4⟩
      have hVc : ∀ id, c'.V id → id < h0.next := q3.R rfl
      have hall : ∀ b, b < w.heap.size → w'.heap[b]? = w.heap[b]? := fun b hb => q2.keep b hb (fun q => q)
      have hnO : ∀ b, b < w.heap.size → ¬ c'.O b := fun b hb ho => q2.own b hb ho
      have hMo : ∀ b, b < w.heap.size → c'.M b → c.M b := fun b hb hm => (q2.Mo b hb hm).elim id (fun q => q.2.elim)
      have hn' : h'.next = h.next + h0.next := by rw [hh']
      classical
      let c2 : Cx := ⟨c'.M, fun b => c'.O b ∨ (c.O b ∧ b < w.heap.size), fun j => if h.next ≤ j ∧ c'.V (j - h.next) then c'.ι (j - h.next) else c.ι j, fun j => c.V j ∨ (h.next ≤ j ∧ c'.V (j - h.next))⟩
      have hX : RenTo (upN h.next) c' c2 := by
        refine ⟨rfl, fun i j hij hi => ?_⟩
        simp only [upN, Option.some.injEq] at hij
        subst hij
        have e1 : h.next + i - h.next = i := by omega
        refine ⟨.inr ⟨Nat.le_add_right _ _, by rw [e1]; exact hi⟩, ?_⟩
        show (if h.next ≤ h.next + i ∧ c'.V (h.next + i - h.next) then c'.ι (h.next + i - h.next) else c.ι (h.next + i)) = c'.ι i
        rw [e1, if_pos ⟨Nat.le_add_right _ _, hi⟩]
      have hold : ∀ i, c.V i → c2.V i ∧ c2.ι i = c.ι i := by
        intro i hi
        refine ⟨.inl hi, ?_⟩
        show (if h.next ≤ i ∧ c'.V (i - h.next) then c'.ι (i - h.next) else c.ι i) = c.ι i
        rw [if_neg]
        rintro ⟨z1, z2⟩
        have := hVc _ z2
        exact hfr i z1 (by rw [hn']; omega) hi
      have hx : Ext w c w' c2 := by
        refine ⟨⟨q2.M, fun b hb _ => hall b hb, hold⟩, q2.os, q2.tape, q2.output, q2.size, fun b hb _ => hall b hb, ?_, hMo, ?_⟩
        · rintro b hb (z | z)
          · exact absurd z (hnO b hb)
          · exact z.1
        · intro b hm hn
          obtain ⟨z1, z2⟩ := q2.nd b hm hn
          refine ⟨?_, z2⟩
          rintro (z | z)
          · exact z1 z
          · exact hn (hMo b z.2 hm)
      have hG : ∀ j b, h'.G j = some b → (∃ i e, j = h.next + i ∧ findE h0.es i = some e ∧ e.blk.ren (upN h.next) = some b) ∨ (j < h.next ∧ h.G j = some b) := by
        intro j b hb
        simp only [Heap.G, Option.map_eq_some_iff] at hb ⊢
        obtain ⟨e, m1, m2⟩ := hb
        rw [hfind] at m1
        split at m1
        · rename_i z
          left
          obtain ⟨e0, m3, m4⟩ := Option.map_eq_some_iff.1 m1
          refine ⟨j - h.next, e0, by omega, m3, ?_⟩
          subst m4
          obtain ⟨k, hkk⟩ := hcells e0 (findE_some_mem m3)
          obtain ⟨i0, v0', b0⟩ := e0
          simp only at hkk
          subst hkk
          rw [← m2]; rfl
        · exact .inr ⟨by omega, e, m1, m2⟩
      have h0G : ∀ i e, findE h0.es i = some e → h0.G i = some e.blk := fun i e q => by simp [Heap.G, q]
      have hnew : ∀ i, c'.V i → c2.ι (h.next + i) = c'.ι i := fun i hi => (hX.ids i _ rfl hi).2
      refine ⟨v', rfl, c2, ren_rel hX q1, hx, ?_, ?_⟩
      · rintro id (z | ⟨z1, z2⟩)
        · exact .inl z
        · have := hVc _ z2
          exact .inr ⟨z1, by rw [hn']; omega⟩
      · refine ⟨?_, ?_, ?_, ?_⟩
        · intro j b hb
          rcases hG j b hb with ⟨i, e, rfl, m1, m2⟩ | ⟨z, m1⟩
          · exact (hX.ids i _ rfl (q4.valid i _ (h0G i e m1))).1
          · exact .inl (hr.valid j b m1)
        · intro j b hb
          rcases hG j b hb with ⟨i, e, rfl, m1, m2⟩ | ⟨z, m1⟩
          · rw [hnew i (q4.valid i _ (h0G i e m1))]
            exact blk_ren hX (fun b q => Or.inl q) (q4.blk i _ (h0G i e m1)) m2
          · rw [(hold j (hr.valid j b m1)).2]
            have hbr := hr.blk j b m1
            exact BlkRel.keep hx.toExt0 hbr (fun hl => hall _ (hbr.lt hl)) (fun hl => .inr ⟨hbr.owned hl, hbr.lt hl⟩)
        · have mixed : ∀ i e j b', findE h0.es i = some e → h.G j = some b' → (c'.ι i).live = true → (c.ι j).live = true → (c'.ι i).blk = (c.ι j).blk → False := by
            intro i e j b' m1 m2 l1 l2 hbk
            have o1 := (q4.blk i _ (h0G i e m1)).owned l1
            rw [hbk] at o1
            exact hnO _ ((hr.blk j b' m2).lt l2) o1
          intro j1 j2 b1 b2 hb1 hb2 l1 l2 hbk
          rcases hG j1 b1 hb1 with ⟨i1, e1, rfl, m1, _⟩ | ⟨z1, m1⟩
          · have v1 := q4.valid i1 _ (h0G i1 e1 m1)
            rw [hnew i1 v1] at l1 hbk
            rcases hG j2 b2 hb2 with ⟨i2, e2, rfl, m2, _⟩ | ⟨z2, m2⟩
            · have v2 := q4.valid i2 _ (h0G i2 e2 m2)
              rw [hnew i2 v2] at l2 hbk
              rw [q4.inj i1 i2 _ _ (h0G i1 e1 m1) (h0G i2 e2 m2) l1 l2 hbk]
            · rw [(hold j2 (hr.valid j2 b2 m2)).2] at l2 hbk
              exact (mixed i1 e1 j2 b2 m1 m2 l1 l2 hbk).elim
          · rw [(hold j1 (hr.valid j1 b1 m1)).2] at l1 hbk
            rcases hG j2 b2 hb2 with ⟨i2, e2, rfl, m2, _⟩ | ⟨z2, m2⟩
            · have v2 := q4.valid i2 _ (h0G i2 e2 m2)
              rw [hnew i2 v2] at l2 hbk
              exact (mixed i2 e2 j1 b1 m2 m1 l2 l1 hbk.symm).elim
            · rw [(hold j2 (hr.valid j2 b2 m2)).2] at l2 hbk
              exact hr.inj j1 j2 b1 b2 m1 m2 l1 l2 hbk
        · intro b hb
          obtain ⟨z1, z2⟩ := q4.dis b hb
          refine ⟨?_, z2⟩
          rintro (z | z)
          · exact z1 z
          · exact (hr.dis b (hMo b z.2 hb)).1 z.1
  · cases hA
def FzV (id : Nat) (con : Con) (v v' : AV) : Prop := v' = v ∨ (∃ cap, v = .own id 0 con.len cap con.wd ∧ v' = .ro con cap) ∨ (∃ cap, v = .own id 0 con.len cap con.wd ∧ v' = .ro con none)
structure FzC (id : Nat) (con : Con) (k k' : Con) : Prop where
  wd : k'.wd = k.wd
  len : k'.len = k.len
  row : ∀ i, i < k.len → ∀ (j : Nat) (v' : AV), (k'.row i)[j]? = some v' → (∃ v, (k.row i)[j]? = some v ∧ FzV id con v v') ∧ (k'.pureF = true → k.pureF = true ∨ noOwn0 v' = true)
theorem Weak.freezeX {s : St} (hk : s.h.ok) (id : Nat) (con : Con) (hid : s.h.G id = some (.cells con)) (hp : con.pureF = true) {t' : List AV} {h' : Heap} (hok : h'.ok) (hnx : s.h.next ≤ h'.next)
    (ht : ∀ w c c2 us, (∀ v v' u, FzV id con v v' → VR w c v u → VR w c2 v' u) → VRs w c s.t us → VRs w c2 t' us)
    (hG : ∀ j b', h'.G j = some b' → j ≠ id ∧ (s.h.G j = some b' ∨ ∃ k k', s.h.G j = some (.cells k) ∧ b' = .cells k' ∧ (k'.pureF = false → k.pureF = false) ∧ FzC id con k k')) : Weak s ⟨t', s.d, h'⟩ := by
  refine ⟨hok, fun w c a hr hv => ?_⟩
  have hb0 := hr.h.blk id _ hid
  have hv0 := hr.h.valid id _ hid
  classical
  let c2 : Cx := ⟨fun b => c.M b ∨ ((c.ι id).live = true ∧ b = (c.ι id).blk), fun b => c.O b ∧ ¬ ((c.ι id).live = true ∧ b = (c.ι id).blk), c.ι, c.V⟩
  have hx0 : Ext0 w c w c2 := ⟨fun b q => .inl q, fun _ _ _ => rfl, fun i hi => ⟨hi, rfl⟩⟩
  have hxw : ExtW ⟨true, 0, true⟩ w c w c2 := by
    refine ⟨fun b q => .inl q, fun _ _ _ => rfl, rfl, rfl, rfl, Nat.le_refl _, fun _ _ _ => rfl, fun b _ q => q.1, ?_, ?_⟩
    · rintro b hb (q | ⟨q1, q2⟩)
      · exact .inl q
      · exact .inr ⟨rfl, by rw [q2]; exact hb0.owned q1⟩
    · rintro b (q | ⟨q1, q2⟩) hn
      · exact absurd q hn
      · exact ⟨fun o => o.2 ⟨q1, q2⟩, by rw [q2]; exact hb0.lt q1⟩
  have hb1 : CellsRel w c (c.ι id) con := hb0
  have fz : ∀ cap u, VR w c (.own id 0 con.len cap con.wd) u → VR w c2 (.ro con cap) u := by
    intro cap u hu
    cases hu with | own _ _ _ _ _ p m h1 h2 h3 h4 h5 =>
    refine .ro con cap p m h3 h4 ?_ ?_
    · rcases h5 with h5 | ⟨l1, l2, l3⟩
      · left; omega
      · rcases Nat.eq_zero_or_pos con.len with z | z
        · exact .inl z
        · exact .inr ⟨_, _, l2, z⟩
    · intro b o e hpos
      rcases h5 with h5 | ⟨l1, l2, l3⟩
      · omega
      · rw [l2] at e
        injection e with e
        injection e with e1 e2
        obtain ⟨arr, te, fz, a1, a2, a3, a4, a5, a6⟩ := hb1.arr l1
        have hwd : con.wd = (c.ι id).wd := hb1.wd
        subst e1
        have e2' : o = (c.ι id).st := by rw [← e2]; omega
        subst e2'
        have bound : ∀ i j, i < con.len → j < con.wd → (c.ι id).st + i * con.wd + j < arr.size := by
          intro i j hi hj
          have := rowlt hi hj
          rw [a2, hwd] at *
          omega
        refine .mk con _ _ arr te fz (fun i j => (arr[(c.ι id).st + i * con.wd + j]?).getD undef) (.inr ⟨l1, rfl⟩) a1 ?_ ?_
        · intro i j hi hj
          have hb := bound i j hi hj
          rw [Array.getElem?_eq_getElem hb]
          exact ⟨rfl, a4 _ _ (Array.getElem?_eq_getElem hb)⟩
        · intro i j v hi hj hv
          have hb := bound i j hi hj
          have hu : arr[(c.ι id).st + i * con.wd + j]? = some arr[(c.ι id).st + i * con.wd + j] := Array.getElem?_eq_getElem hb
          simp only [hu, Option.getD_some]
          have q := a6 i j v _ hi (by rw [← hwd]; exact hj) hv (by rw [← hwd]; exact hu)
          rw [hp] at q
          exact VR.mono hx0.bare q
  have fzv : ∀ v v' u, FzV id con v v' → VR w c v u → VR w c2 v' u := by
    intro v v' u hz hu
    rcases hz with rfl | ⟨cap, rfl, rfl⟩ | ⟨cap, rfl, rfl⟩
    · exact VR.mono hx0 hu
    · exact fz cap u hu
    · exact AW.cap con cap _ _ _ (fz cap u hu)
  refine ⟨c2, ⟨?_, ?_, ?_, fun i hi => hr.dv i hi⟩, hxw, fun i hi => Nat.lt_of_lt_of_le (hv i hi) hnx⟩
  · exact ht w c c2 _ fzv hr.t
  · have notid : ∀ j b, s.h.G j = some b → j ≠ id → (c.ι j).live = true → ¬ ((c.ι id).live = true ∧ (c.ι j).blk = (c.ι id).blk) := by
      rintro j b hj hne lj ⟨li, hbk⟩
      exact hne (hr.h.inj j id b _ hj hid lj li hbk)
    have old : ∀ j b', h'.G j = some b' → ∃ b, s.h.G j = some b := fun j b' hj => by
      rcases (hG j b' hj).2 with q | ⟨k, k', q, _⟩
      · exact ⟨_, q⟩
      · exact ⟨_, q⟩
    refine ⟨fun j b' hj => ?_, ?_, ?_, ?_⟩
    · obtain ⟨b, hb⟩ := old j b' hj; exact hr.h.valid j b hb
    · intro j b' hj
      obtain ⟨hne, q⟩ := hG j b' hj
      rcases q with q | ⟨k, k', q, rfl, hpf, hz⟩
      · exact BlkRel.keep hx0 (hr.h.blk j b' q) (fun _ => rfl) (fun l => ⟨(hr.h.blk j b' q).owned l, notid j b' q hne l⟩)
      · have hb : CellsRel w c (c.ι j) k := hr.h.blk j _ q
        refine ⟨hz.wd.trans hb.wd, fun l => hz.len.trans (hb.dead l), fun l => ⟨hb.own l, notid j _ q hne l⟩, fun l => ?_⟩
        obtain ⟨arr, te, fz, a1, a2, a3, a4, a5, a6⟩ := hb.arr l
        refine ⟨arr, te, fz, a1, a2, a3, a4, by rw [hz.len]; exact a5, ?_⟩
        intro i j2 v' u hi hj2 hv' hu
        rw [hz.len] at hi
        obtain ⟨⟨v, e1, e2⟩, e3⟩ := hz.row i hi j2 v' hv'
        have hold := a6 i j2 v u hi hj2 e1 hu
        cases hq : k'.pureF with
        | false =>
          rw [hpf hq] at hold
          exact fzv _ _ _ e2 hold
        | true =>
          cases hq2 : k.pureF with
          | true =>
            rw [hq2] at hold
            rcases e2 with rfl | ⟨cap, rfl, _⟩ | ⟨cap, rfl, _⟩
            · exact VR.mono hx0.bare hold
            · cases hold with | own _ _ _ _ _ _ _ z => exact z.elim
            · cases hold with | own _ _ _ _ _ _ _ z => exact z.elim
          | false =>
            rw [hq2] at hold
            rcases e3 hq with z | z
            · rw [hq2] at z; cases z
            · exact noOwn0_rel z (fzv _ _ _ e2 hold)
    · intro i j b b' hi hj li lj hbk
      obtain ⟨bi, qi⟩ := old i b hi
      obtain ⟨bj, qj⟩ := old j b' hj
      exact hr.h.inj i j bi bj qi qj li lj hbk
    · rintro b (q | ⟨q1, q2⟩)
      · exact ⟨fun o => (hr.h.dis b q).1 o.1, (hr.h.dis b q).2⟩
      · exact ⟨fun o => o.2 ⟨q1, q2⟩, by rw [q2]; exact hb0.lt q1⟩
  · show a.defers = marks c2 s.d
    exact hr.d
theorem Weak.freeze {s : St} (hk : s.h.ok) (id : Nat) (con : Con) (hid : s.h.G id = some (.cells con)) (hp : con.pureF = true) {t' : List AV} {h' : Heap} (hok : h'.ok) (hnx : s.h.next ≤ h'.next)
    (ht : t'.length = s.t.length ∧ ∀ (j : Nat) (v' : AV), t'[j]? = some v' → ∃ v, s.t[j]? = some v ∧ FzV id con v v')
    (hG : ∀ j b', h'.G j = some b' → j ≠ id ∧ (s.h.G j = some b' ∨ ∃ k k', s.h.G j = some (.cells k) ∧ b' = .cells k' ∧ (k'.pureF = false → k.pureF = false) ∧ FzC id con k k')) : Weak s ⟨t', s.d, h'⟩ := by
  refine Weak.freezeX hk id con hid hp hok hnx (fun w c c2 us fzv hu => ?_) hG
  have : ∀ (t t' : List AV) (us : List Value), t'.length = t.length → (∀ (j : Nat) (v' : AV), t'[j]? = some v' → ∃ v, t[j]? = some v ∧ FzV id con v v') → VRs w c t us → VRs w c2 t' us := by
    intro t
    induction t with
    | nil => intro t' us hl _ hu; cases hu; cases t' with | nil => exact .nil | cons => simp at hl
    | cons v t ih =>
      intro t' us hl hj hu
      cases hu with | cons _ u _ us h1 h2 =>
      cases t' with
      | nil => simp at hl
      | cons v' t' =>
        obtain ⟨v0, e0, z0⟩ := hj 0 v' rfl
        simp only [List.getElem?_cons_zero, Option.some.injEq] at e0
        subst e0
        exact .cons _ _ _ _ (fzv _ _ _ z0 h1) (ih t' us (by simpa using hl) (fun j w' hw => hj (j + 1) w' (by simpa using hw)) h2)
  exact this _ _ _ ht.1 ht.2 hu
theorem Weak.canon {s : St} (hk : s.h.ok) (ks : List Nat) : Weak s (canon (some ks) s) := by
  obtain ⟨t2, t5⟩ := trimR_ok (root := ⟨true, 0, true⟩) (ks := some ks) hk
  refine ⟨t2.1, fun w c a hr hv => ?_⟩
  obtain ⟨c1, r1, x1, v1⟩ := t5 w c a s.h.next hr ⟨fun q => (by cases q), fun _ => hv⟩
  exact ⟨c1, r1, x1, v1.R rfl⟩
end Go.Ev
/- Contents of rows of a kind. -/
namespace Go.Ev
structure RowTy (D : Type) where
  wd : Nat
  row : D → List AV
  parse : List AV → D
  is : List AV → Bool
  z : D
  law : ∀ r, is r = true → ∀ (j : Nat) (v' : AV), (row (parse r))[j]? = some v' → ∃ v, r[j]? = some v ∧ AW v v'
  back : ∀ d, parse (row d) = d
  isr : ∀ d, is (row d) = true
def RowTy.con {D : Type} (R : RowTy D) (L : List D) : Con := .tab R.wd L.length (fun i => R.row (L.getD i R.z))
def RowTy.all {D : Type} (R : RowTy D) (c : Con) : Bool := @decide (∀ i, i < c.len → R.is (c.row i) = true) (Classical.propDecidable _)
def RowTy.list {D : Type} (R : RowTy D) (c : Con) : List D := (List.range c.len).map fun i => R.parse (c.row i)
def RowTy.ok {D : Type} (R : RowTy D) (c : Con) : Bool := Nat.beq c.wd R.wd && R.all c
section
variable {D : Type} (R : RowTy D)
theorem RowTy.list_len (c : Con) : (R.list c).length = c.len := by simp [RowTy.list]
theorem RowTy.list_con (L : List D) : R.list (R.con L) = L := by
  apply List.ext_getElem?
  intro i
  simp only [RowTy.list, RowTy.con, Con.len, Con.row, List.getElem?_map]
  rcases Nat.lt_or_ge i L.length with h | h
  · rw [List.getElem?_range h, List.getElem?_eq_getElem h]
    simp only [Option.map_some, List.getD_eq_getElem?_getD, List.getElem?_eq_getElem h, Option.getD_some, R.back]
  · rw [List.getElem?_eq_none (by simpa using h), List.getElem?_eq_none h]; rfl
theorem RowTy.ok_con (L : List D) : R.ok (R.con L) = true := by
  unfold RowTy.ok
  rw [Bool.and_eq_true]
  exact ⟨Nat.beq_refl _, @decide_eq_true _ (Classical.propDecidable _) (fun i _ => R.isr _)⟩
theorem RowTy.conv {c : Con} (h : R.ok c = true) : ConW c (R.con (R.list c)) := by
  unfold RowTy.ok at h
  rw [Bool.and_eq_true] at h
  have h2 := @of_decide_eq_true _ (Classical.propDecidable _) h.2
  refine ⟨(Nat.eq_of_beq_eq_true h.1).symm, R.list_len c, ?_⟩
  intro i hi j v' hv
  have e : (R.con (R.list c)).row i = R.row (R.parse (c.row i)) := by
    show R.row ((R.list c).getD i R.z) = _
    rw [List.getD_eq_getElem?_getD, RowTy.list, List.getElem?_map, List.getElem?_range hi]
    rfl
  rw [e] at hv
  exact R.law _ (h2 i hi) j v' hv
theorem RowTy.aw {c : Con} (h : R.ok c = true) (cap : Option Nat) : AW (.ro c cap) (.ro (R.con (R.list c)) none) := fun _ _ _ => VR.conv (R.conv h) (.inr rfl)
end
theorem Weak.cells {s : St} {h' : Heap} (hok : h'.ok) (hnx : s.h.next ≤ h'.next)
    (hG : ∀ j b', h'.G j = some b' → s.h.G j = some b' ∨ ∃ k k', s.h.G j = some (.cells k) ∧ b' = .cells k' ∧ k'.pureF = k.pureF ∧ ConW k k') : Weak s ⟨s.t, s.d, h'⟩ := by
  refine ⟨hok, fun w c a hr hv => ⟨c, ⟨hr.t, ?_, hr.d, hr.dv⟩, (Ext.refl w c).w, fun i hi => Nat.lt_of_lt_of_le (hv i hi) hnx⟩⟩
  have old : ∀ j b', h'.G j = some b' → ∃ b, s.h.G j = some b := fun j b' hj => by
    rcases hG j b' hj with q | ⟨k, k', q, _⟩
    · exact ⟨_, q⟩
    · exact ⟨_, q⟩
  refine ⟨fun j b' hj => ?_, ?_, ?_, hr.h.dis⟩
  · obtain ⟨b, hb⟩ := old j b' hj; exact hr.h.valid j b hb
  · intro j b' hj
    rcases hG j b' hj with q | ⟨k, k', q, rfl, hpf, hz⟩
    · exact hr.h.blk j b' q
    · have hb : CellsRel w c (c.ι j) k := hr.h.blk j _ q
      refine ⟨hz.wd.trans hb.wd, fun l => hz.len.trans (hb.dead l), hb.own, fun l => ?_⟩
      obtain ⟨arr, te, fz, a1, a2, a3, a4, a5, a6⟩ := hb.arr l
      refine ⟨arr, te, fz, a1, a2, a3, a4, by rw [hz.len]; exact a5, ?_⟩
      intro i j2 v' u hi hj2 hv' hu
      rw [hz.len] at hi
      obtain ⟨v, e1, e2⟩ := hz.row i hi j2 v' hv'
      rw [hpf]
      exact e2 _ _ _ (a6 i j2 v u hi hj2 e1 hu)
  · intro i j b b' hi hj li lj hbk
    obtain ⟨bi, qi⟩ := old i b hi
    obtain ⟨bj, qj⟩ := old j b' hj
    exact hr.h.inj i j bi bj qi qj li lj hbk
theorem oneH_G {c : Con} {j : Nat} {b : Blk} (h : (oneH c).G j = some b) : j = 0 ∧ b = .cells c := by
  have hb' : ((bif Nat.beq 0 j then some (⟨0, 0, .cells c⟩ : Ent) else none).map (·.blk)) = some b := h
  cases hq : Nat.beq 0 j with
  | true => rw [hq] at hb'; exact ⟨(Nat.eq_of_beq_eq_true hq).symm, by injection hb' with hb'; exact hb'.symm⟩
  | false => rw [hq] at hb'; cases hb'
theorem Weak.oneH {t : List AV} {d : List Nat} {c c' : Con} (hp : c'.pureF = c.pureF) (h : ConW c c') : Weak ⟨t, d, oneH c⟩ ⟨t, d, oneH c'⟩ := by
  refine Weak.cells (s := ⟨t, d, Go.Ev.oneH c⟩) (oneH_ok c') (Nat.le_refl _) ?_
  intro j b' hj
  obtain ⟨rfl, rfl⟩ := oneH_G hj
  exact .inr ⟨c, c', rfl, rfl, hp, h⟩
theorem AW.agg {l l' : List AV} (h : AWs l l') : AW (.agg l) (.agg l') := fun w c u hu => by
  cases hu with | agg _ u' hl => exact .agg _ _ (h.args w c u' hl)
theorem AWs.get : ∀ {l l' : List AV}, AWs l l' → ∀ (j : Nat) (v' : AV), l'[j]? = some v' → ∃ v, l[j]? = some v ∧ AW v v'
  | _, _, .nil, j, v', h => by simp at h
  | _, _, .cons h1 h2, 0, v', h => by simp at h; subst h; exact ⟨_, rfl, h1⟩
  | _, _, .cons h1 h2, j + 1, v', h => by obtain ⟨v, e, q⟩ := AWs.get h2 j v' (by simpa using h); exact ⟨v, by simpa using e, q⟩
theorem Alone.freeze {P : Program} {g : Nat} {args : List AV} {con : Con} (hp : con.pureF = true) (h : Alone P g args (.own 0 0 con.len none con.wd) (oneH con)) : Alone P g args (.ro con none) ⟨0, []⟩ := by
  have w1 : Weak ⟨[.own 0 0 con.len none con.wd], [], oneH con⟩ ⟨[.ro con none], [], ⟨1, []⟩⟩ := by
    refine Weak.freeze (s := ⟨[.own 0 0 con.len none con.wd], [], oneH con⟩) (oneH_ok con) 0 con rfl hp ⟨List.nodup_nil, fun id e h => by cases h⟩ (Nat.le_refl 1) ⟨rfl, ?_⟩ (fun j b' hj => by cases hj)
    intro j v' hv
    cases j with
    | zero => simp at hv; subst hv; exact ⟨_, rfl, .inr (.inr ⟨none, rfl, rfl⟩)⟩
    | succ j => simp at hv
  exact Alone.outW (w1.trans (Weak.canon w1.1 [0])) h
inductive EsW : List Ent → List Ent → Prop where
  | nil : EsW [] []
  | same (e : Ent) {l l' : List Ent} : EsW l l' → EsW (e :: l) (e :: l')
  | con (id v v' : Nat) {k k' : Con} {l l' : List Ent} : k'.pureF = k.pureF → ConW k k' → EsW l l' → EsW (⟨id, v, .cells k⟩ :: l) (⟨id, v', .cells k'⟩ :: l')
theorem EsW.ids {l l' : List Ent} (h : EsW l l') : l'.map (·.id) = l.map (·.id) := by
  induction h with
  | nil => rfl
  | same e _ ih => simp [ih]
  | con id v v' _ _ _ ih => simp [ih]
theorem EsW.find {l l' : List Ent} (h : EsW l l') (j : Nat) (b' : Blk) (hj : (findE l' j).map (·.blk) = some b') : (findE l j).map (·.blk) = some b' ∨ ∃ k k', (findE l j).map (·.blk) = some (.cells k) ∧ b' = .cells k' ∧ k'.pureF = k.pureF ∧ ConW k k' := by
  induction h with
  | nil => simp [findE, foldL] at hj
  | same e _ ih =>
    rw [findE_cons] at hj ⊢
    split at hj
    · rename_i q; rw [if_pos q]; exact .inl hj
    · rename_i q; rw [if_neg q]; exact ih hj
  | con id v v' hp hc _ ih =>
    rw [findE_cons] at hj ⊢
    split at hj
    · rename_i q
      rw [if_pos q]
      simp only [Option.map_some, Option.some.injEq] at hj
      exact .inr ⟨_, _, rfl, hj.symm, hp, hc⟩
    · rename_i q; rw [if_neg q]; exact ih hj
theorem Weak.heap {t : List AV} {d : List Nat} {n : Nat} {es es' : List Ent} (hok : (⟨n, es⟩ : Heap).ok) (h : EsW es es') : Weak ⟨t, d, ⟨n, es⟩⟩ ⟨t, d, ⟨n, es'⟩⟩ := by
  have hok' : (⟨n, es'⟩ : Heap).ok := by
    refine ⟨by have := hok.uniq; unfold Uniq at *; rw [h.ids]; exact this, fun j e hj => ?_⟩
    have : ((findE es j).map (·.blk)).isSome = true := by
      have q := h.find j e.blk (by rw [hj]; rfl)
      rcases q with q | ⟨k, k', q, _⟩ <;> rw [q] <;> rfl
    cases hf : findE es j with
    | none => rw [hf] at this; cases this
    | some e0 => exact hok.lt j e0 hf
  refine Weak.cells (s := ⟨t, d, ⟨n, es⟩⟩) hok' (Nat.le_refl _) (fun j b' hj => ?_)
  exact h.find j b' hj
theorem tabSet_same {w n : Nat} {f : Nat → List AV} {r : Nat} {x : List AV} (hx : AWs x (f r)) : ConW (.rows true w (tabSet n f r x)) (.tab w n f) := by
  refine ⟨rfl, by simp [Con.len, tabSet], ?_⟩
  intro i hi j v' hv
  have hi' : i < n := by simpa [Con.len, tabSet] using hi
  have hv' : (f i)[j]? = some v' := hv
  by_cases hir : r = i
  · subst hir
    have e1 : (Con.rows true w (tabSet n f r x)).row r = x := by simp [Con.row, tabSet, hi']
    rw [e1]
    exact hx.get j v' hv'
  · have e1 : (Con.rows true w (tabSet n f r x)).row i = f i := by
      simp only [Con.row, tabSet, List.getD_eq_getElem?_getD, List.getElem?_set, hir, if_false, List.getElem?_map, List.getElem?_range hi']
      rfl
    rw [e1]
    exact ⟨v', hv', AW.refl _⟩
end Go.Ev
/- Functions that write to their caller's blocks, by what they do. -/
namespace Go.Ev
end Go.Ev
/- Code of functions that write to their caller's blocks; loops there. -/
namespace Go.Ev
def WeakP (p : Nat) (s s' : St) : Prop := s'.h.ok ∧ ∀ w c a, StRel w c s a → (∀ id, c.V id → id < s.h.next) → ∃ c', StRel w c' s' a ∧ ExtW ⟨true, p, true⟩ w c w c' ∧ (∀ id, c'.V id → id < s'.h.next) ∧ (∀ i, i < p → c.V i → c'.V i ∧ c'.ι i = c.ι i)
section
variable {P : Program} {env : Env} (he : EnvOk2 P env)
include he
end
end Go.Ev
/- Answers whose blocks are frozen. -/
namespace Go.Ev
inductive FzL (id : Nat) (con : Con) : List AV → List AV → Prop
  | nil : FzL id con [] []
  | cons {v v' : AV} {l l' : List AV} : FzV id con v v' → FzL id con l l' → FzL id con (v :: l) (v' :: l')
theorem FzL.refl (id : Nat) (con : Con) : ∀ l, FzL id con l l
  | [] => .nil
  | _ :: l => .cons (.inl rfl) (FzL.refl id con l)
inductive FzT (id : Nat) (con : Con) : AV → AV → Prop
  | one {v v' : AV} : FzV id con v v' → FzT id con v v'
  | agg {l l' : List AV} : FzL id con l l' → FzT id con (.agg l) (.agg l')
  | tup1 {l l' m : List AV} : FzL id con l l' → FzT id con (.tup (.agg l :: m)) (.tup (.agg l' :: m))
  | tup {l l' : List AV} : FzL id con l l' → FzT id con (.tup l) (.tup l')
theorem FzL.rel {id : Nat} {con : Con} {w : World} {c c2 : Cx} (hx : ∀ v v' u, FzV id con v v' → VR w c v u → VR w c2 v' u) : ∀ {l l' : List AV} {us : List Value}, FzL id con l l' → VRs w c l us → VRs w c2 l' us
  | _, _, _, .nil, h => by cases h; exact .nil
  | _, _, _, .cons h1 h2, h => by
    cases h with | cons _ u _ us k1 k2 => exact .cons _ _ _ _ (hx _ _ _ h1 k1) (h2.rel hx k2)
theorem FzT.rel {id : Nat} {con : Con} {w : World} {c c2 : Cx} (hx : ∀ v v' u, FzV id con v v' → VR w c v u → VR w c2 v' u) {v v' : AV} {u : Value} (h : FzT id con v v') (hu : VR w c v u) : VR w c2 v' u := by
  cases h with
  | one h => exact hx _ _ _ h hu
  | agg h => cases hu with | agg _ _ k => exact .agg _ _ (h.rel hx k)
  | tup h => cases hu with | tup _ _ k => exact .tup _ _ (h.rel hx k)
  | tup1 h =>
    cases hu with | tup _ _ k =>
    cases k with | cons _ u _ us k1 k2 =>
    cases k1 with | agg _ _ k =>
    exact .tup _ _ (.cons _ _ _ _ (.agg _ _ (h.rel hx k)) ((FzL.refl id con _).rel hx k2))
theorem Weak.fz {v v' : AV} {con : Con} {n id : Nat} {es : List Ent} (hk : (⟨n, ⟨id, 0, .cells con⟩ :: es⟩ : Heap).ok) (hp : con.pureF = true) (hv : FzT id con v v') : Weak ⟨[v], [], ⟨n, ⟨id, 0, .cells con⟩ :: es⟩⟩ ⟨[v'], [], ⟨n, es⟩⟩ := by
  have hu := hk.uniq
  unfold Uniq at hu
  rw [List.map_cons, List.nodup_cons] at hu
  have hne : ∀ j b, (⟨n, es⟩ : Heap).G j = some b → j ≠ id := by
    intro j b hj e
    subst e
    simp only [Heap.G, Option.map_eq_some_iff] at hj
    obtain ⟨e0, he, _⟩ := hj
    refine hu.1 (List.mem_map.2 ⟨e0, findE_some_mem he, findE_id he⟩)
  have hsame : ∀ j, j ≠ id → findE (⟨id, 0, .cells con⟩ :: es) j = findE es j := by
    intro j hj
    rw [findE_cons, if_neg (fun e => hj e.symm)]
  refine Weak.freezeX (s := ⟨[v], [], ⟨n, ⟨id, 0, .cells con⟩ :: es⟩⟩) hk id con ?_ hp ⟨hu.2, fun j e hj => ?_⟩ (Nat.le_refl _) (fun w c c2 us hx h => ?_) (fun j b' hj => ?_)
  · show (findE (⟨id, 0, .cells con⟩ :: es) id).map (·.blk) = _
    rw [findE_cons, if_pos rfl]; rfl
  · have h1 : (⟨n, es⟩ : Heap).G j = some e.blk := by simp [Heap.G, hj]
    exact hk.lt j e (by rw [hsame j (hne j _ h1)]; exact hj)
  · cases h with | cons _ u _ us k1 k2 => exact .cons _ _ _ _ (hv.rel hx k1) (by cases k2; exact .nil)
  · refine ⟨hne j b' hj, .inl ?_⟩
    show (findE _ j).map _ = _
    rw [hsame j (hne j _ hj)]; exact hj
theorem two_ok (c1 c0 : Con) : (⟨2, [⟨1, 0, .cells c1⟩, ⟨0, 0, .cells c0⟩]⟩ : Heap).ok := by
  refine ⟨by show List.Nodup [1, 0]; decide, fun id e h => ?_⟩
  have h' : (bif Nat.beq 1 id then some _ else bif Nat.beq 0 id then some _ else none) = some e := h
  show id < 2
  rcases Nat.lt_or_ge id 2 with q | q
  · exact q
  · rw [show Nat.beq 1 id = false from beqF (by omega), show Nat.beq 0 id = false from beqF (by omega)] at h'
    cases h'
theorem Alone.fz2 {P : Program} {g : Nat} {args : List AV} {c1 c0 : Con} (hp1 : c1.pureF = true) (hp0 : c0.pureF = true) {v v1 v' : AV} (hc : outV v' ⟨2, []⟩ = some (v', ⟨0, []⟩)) (hv : FzT 1 c1 v v1) (hv' : FzT 0 c0 v1 v') (h : Alone P g args v ⟨2, [⟨1, 0, .cells c1⟩, ⟨0, 0, .cells c0⟩]⟩) : Alone P g args v' ⟨0, []⟩ := by
  have w1 := Weak.fz (v := v) (v' := v1) (n := 2) (id := 1) (es := [⟨0, 0, .cells c0⟩]) (two_ok c1 c0) hp1 hv
  have w2 := Weak.fz (v := v1) (v' := v') (n := 2) (id := 0) (es := []) w1.1 hp0 hv'
  have w3 := Weak.canon (s := ⟨[v'], [], ⟨2, []⟩⟩) w2.1 [0]
  have := Alone.outW (v' := getT (canon (some [0]) ⟨[v'], [], ⟨2, []⟩⟩).t 0) (h3 := (canon (some [0]) ⟨[v'], [], ⟨2, []⟩⟩).h) ((w1.trans w2).trans w3) h
  unfold outV at hc
  injection hc with hc
  injection hc with h1 h2
  rw [h1, h2] at this
  exact this
theorem Alone.resW {P : Program} {g : Nat} {args : List AV} {v v' : AV} {h2 : Heap} (hv : AW v v') (h : Alone P g args v h2) : Alone P g args v' h2 :=
  Alone.outW (v := v) (v' := v') (h2 := h2) (h3 := h2) ⟨h.1, fun w c a hr hq => ⟨c, ⟨by
    have := hr.t
    generalize a.tmps.toList = us at this
    cases this with | cons _ u _ us k1 k2 => exact .cons _ _ _ _ (hv _ _ _ k1) k2, hr.h, hr.d, hr.dv⟩, (Ext.refl w c).w, hq⟩⟩ h
theorem AW.tup {l l' : List AV} (h : AWs l l') : AW (.tup l) (.tup l') := fun w c u hu => by
  cases hu with | tup _ _ k => exact .tup _ _ (AWs.args h w c _ k)
end Go.Ev
/- Answers all of whose blocks are frozen. -/
namespace Go.Ev
end Go.Ev
/- What is read of arguments, as abstract values. -/
namespace Go.Ev
def arrFs (P : Program) (e : TypeId) (n : Nat) : List Field := (List.range n).map fun i => { name := "", type := e, offset := i * P.cellsOf e, embedded := false, tag := "", pkgPath := "", byteOffset := 0 }
theorem arrFs_len (P : Program) (e : TypeId) (n : Nat) : (arrFs P e n).length = n := by simp [arrFs]
theorem arrFs_get {P : Program} {e : TypeId} {n i : Nat} {f : Field} (h : (arrFs P e n)[i]? = some f) : i < n ∧ f.type = e ∧ f.offset = i * P.cellsOf e := by
  have hi : i < n := by
    have := (List.getElem?_eq_some_iff.1 h).1
    rwa [arrFs_len] at this
  simp only [arrFs, List.getElem?_map, List.getElem?_range hi, Option.map_some, Option.some.injEq] at h
  subst h
  exact ⟨hi, rfl, rfl⟩
inductive Sh where
  | int (k : IntKind)
  | bool
  | str
  | agg (l : List Sh)
  | sl (e : Sh)
mutual
def Sh.wd : Sh → Nat
  | .int _ => 1
  | .bool => 1
  | .str => 1
  | .sl _ => 1
  | .agg l => wdL l
def wdL : List Sh → Nat
  | [] => 0
  | s :: l => s.wd + wdL l
end
mutual
def shOk (P : Program) : Sh → TypeId → Bool
  | .int k, t => (match P.underlying t with | some (.int k') => decide (k' = k) | _ => false)
  | .bool, t => (match P.underlying t with | some .bool => true | _ => false)
  | .str, t => (match P.underlying t with | some .string => true | _ => false)
  | .sl e, t => (match P.underlying t with | some (.slice u) => shOk P e u && (Nat.beq (P.cellsOf u) e.wd && Nat.blt 0 e.wd) | _ => false)
  | .agg l, t => (match P.underlying t with | some (.struct fs) => Nat.beq (P.cellsOf t) (wdL l) && shOkF P l fs.toList 0 | some (.array n e) => Nat.beq (P.cellsOf t) (wdL l) && shOkF P l (arrFs P e n) 0 | _ => false)
def shOkF (P : Program) : List Sh → List Field → Nat → Bool
  | [], [], _ => true
  | s :: l, f :: fs, off => shOk P s f.type && (Nat.beq f.offset off && (Nat.beq (P.cellsOf f.type) s.wd && shOkF P l fs (off + s.wd)))
  | _, _, _ => false
end
section
variable {H : Type}
def intD : DataW H → Int
  | .lit (.int _ n) => n
  | _ => 0
def boolD : DataW H → Bool
  | .lit (.bool b) => b
  | _ => false
def strD : DataW H → ByteArray
  | .lit (.string l) => ⟨l.toArray⟩
  | _ => .empty
def elemsD : DataW H → List (DataW H)
  | .slice l _ => l
  | _ => []
def partsD : DataW H → List (DataW H)
  | .agg l => l
  | _ => []
mutual
def avs : Sh → DataW H → List AV
  | .int k, d => [.val (.int k (intD d))]
  | .bool, d => [.val (.bool (boolD d))]
  | .str, d => [.val (.string (strD d))]
  | .sl (.int k), d => [.ro (.ints k ((elemsD d).map intD)) none]
  | .sl e, d => [.ro (.tab e.wd (elemsD d).length (fun i => avs e ((elemsD d).getD i .nil))) none]
  | .agg l, d => avsL l (partsD d)
def avsL : List Sh → List (DataW H) → List AV
  | [], _ => []
  | s :: l, ds => avs s (ds.headD .nil) ++ avsL l ds.tail
end
def argA : Sh → DataW H → AV
  | .agg l, d => .agg (avsL l (partsD d))
  | s, d => (avs s d).headD .unk
def argsA : List Sh → List (DataW H) → List AV
  | [], _ => []
  | s :: l, ds => argA s (ds.headD .nil) :: argsA l ds.tail
end
section
variable {H : Type} {enc : TypeId × Value → H} {P : Program} {w : World} {c : Cx} {sp : Nat → Bool} {held : Bool}
theorem cells_get {a : Addr} {n : Nat} {cs : List Value} (h : w.cells? 0 a n = some cs) (hn : 0 < n) : a.spot = none ∧ ∃ arr e fz, w.heap[a.block]? = some (.cells arr e fz) ∧ ∀ i, i < n → arr[a.off + i]? = cs[i]? := by
  obtain ⟨_, hl, hc⟩ := World.cells?_some h
  have h0 := hc 0 hn
  have e0 : a.add 0 = a := rfl
  rw [e0] at h0
  have hsome : ∃ v, cs[0]? = some v := ⟨cs[0]'(by omega), List.getElem?_eq_getElem (by omega)⟩
  obtain ⟨v, hv⟩ := hsome
  rw [hv] at h0
  unfold World.cell? at h0
  split at h0
  · rename_i arr e fz hb
    split at h0
    · cases h0
    · rename_i hs
      have hsn : a.spot = none := by cases hq : a.spot with | none => rfl | some x => rw [hq] at hs; exact absurd rfl hs
      refine ⟨hsn, arr, e, fz, hb, fun i hi => ?_⟩
      have := hc i hi
      unfold World.cell? at this
      have eb : (a.add i).block = a.block := by unfold Addr.add; split <;> rfl
      have eo : (a.add i).off = a.off + i := by
        unfold Addr.add; split
        · rename_i q; rw [q]; rfl
        · rfl
      have es : (a.add i).spot = none := by unfold Addr.add; split <;> first | exact hsn | rfl
      rw [eb, hb, es, eo] at this
      simpa using this
  · cases h0
theorem VRs.get2 {w : World} {c : Cx} : ∀ {l : List AV} {l' : List Value} {i : Nat} {v : AV} {u : Value}, VRs w c l l' → l[i]? = some v → l'[i]? = some u → VR w c v u
  | _, _, _, _, _, .nil, h, _ => by simp at h
  | _, _, 0, _, _, .cons a a' l l' h1 h2, h, h' => by simp at h h'; subst h; subst h'; exact h1
  | _, _, i + 1, _, _, .cons a a' l l' h1 h2, h, h' => VRs.get2 (i := i) h2 (by simpa using h) (by simpa using h')
structure Read (w : World) (c : Cx) (l : List AV) (n : Nat) (cs : List Value) : Prop where
  rel : VRs w c l cs
  len : cs.length = n
  one : ∀ v ∈ cs, v.oneCell' = true
theorem slice_read (hM : ∀ b, b < w.heap.size → c.M b) {a : Addr} {cap m : Nat} {u : TypeId} {elems : List (DataW H × List MemPlace)} (con : Con) (wd : Nat) (hcw : P.cellsOf u = wd) (hw : 0 < wd) (hcon : con.wd = wd) (hlen : con.len = elems.length) (hcap : elems.length ≤ cap)
    (hel : ∀ i, i < elems.length → (w.cells? 0 (a.add (i * P.cellsOf u)) (P.cellsOf u)).bind (DataW.trod enc P w 0 sp held m u) = elems[i]?)
    (hread : ∀ i cs y, i < elems.length → elems[i]? = some y → DataW.trod enc P w 0 sp held m u cs = some y → Read w c.none (con.row i) wd cs) : VR w c (.ro con none) (.slice (some a) elems.length cap) := by
  rw [← hlen]
  rcases Nat.eq_zero_or_pos elems.length with hz | hpos
  · exact .ro con none (some a) cap (by omega) (fun _ q => by cases q) (.inl (by omega)) (fun b o e hp => by omega)
  · have each : ∀ i, i < elems.length → ∃ cs y, w.cells? 0 (a.add (i * wd)) wd = some cs ∧ elems[i]? = some y ∧ DataW.trod enc P w 0 sp held m u cs = some y := by
      intro i hi
      have := hel i hi
      rw [hcw, List.getElem?_eq_getElem hi] at this
      rw [Option.bind_eq_some_iff] at this
      obtain ⟨cs, h1, h2⟩ := this
      exact ⟨cs, _, h1, List.getElem?_eq_getElem hi, h2⟩
    obtain ⟨cs0, y0, k1, k2, k3⟩ := each 0 hpos
    rw [Nat.zero_mul, show a.add 0 = a from rfl] at k1
    obtain ⟨hs, arr, e, fz, hb, harr⟩ := cells_get k1 hw
    have ea : a = ⟨a.block, a.off, none⟩ := by cases a; simp only at hs; subst hs; rfl
    have hlt : a.block < w.heap.size := by
      rcases Nat.lt_or_ge a.block w.heap.size with q | q
      · exact q
      · rw [Array.getElem?_eq_none q] at hb; cases hb
    have cell : ∀ i, i < elems.length → ∃ cs, Read w c.none (con.row i) wd cs ∧ ∀ j, j < wd → arr[a.off + i * wd + j]? = cs[j]? := by
      intro i hi
      obtain ⟨cs, y, h1, h2, h3⟩ := each i hi
      obtain ⟨_, arr', e', fz', hb', harr'⟩ := cells_get h1 hw
      have eb : (a.add (i * wd)).block = a.block := by unfold Addr.add; split <;> rfl
      have eo : (a.add (i * wd)).off = a.off + i * wd := by
        unfold Addr.add; split
        · rename_i q; rw [q]; rfl
        · rfl
      rw [eb, hb] at hb'
      injection hb' with hb'
      injection hb' with q1 q2 q3
      subst q1
      refine ⟨cs, hread i cs y hi h2 h3, fun j hj => ?_⟩
      have := harr' j hj
      rwa [eo] at this
    rw [ea]
    refine .ro con none _ cap (by omega) (fun _ q => by cases q) (.inr ⟨a.block, a.off, rfl, by omega⟩) ?_
    intro b o hbo hp
    injection hbo with hbo
    injection hbo with q1 q2
    subst q1; subst q2
    refine .mk con a.block a.off arr e fz (fun i j => (arr[a.off + i * wd + j]?).getD undef) (hM _ hlt) hb ?_ ?_
    · intro i j hi hj
      rw [hcon] at hj ⊢
      obtain ⟨cs, r, h2⟩ := cell i (by omega)
      have hj' : j < cs.length := by rw [r.len]; exact hj
      have := h2 j hj
      rw [List.getElem?_eq_getElem hj'] at this
      rw [this]
      exact ⟨rfl, r.one _ (List.getElem_mem hj')⟩
    · intro i j v hi hj hv
      rw [hcon] at hj
      obtain ⟨cs, r, h2⟩ := cell i (by omega)
      have hj' : j < cs.length := by rw [r.len]; exact hj
      have := h2 j hj
      rw [List.getElem?_eq_getElem hj'] at this
      simp only [this, Option.getD_some]
      exact r.rel.get2 hv (List.getElem?_eq_getElem hj')
theorem Read.append {l l' : List AV} {n n' : Nat} {cs cs' : List Value} (h : Read w c l n cs) (h' : Read w c l' n' cs') : Read w c (l ++ l') (n + n') (cs ++ cs') :=
  ⟨h.rel.append h'.rel, by rw [List.length_append, h.len, h'.len], fun v hv => (List.mem_append.1 hv).elim (h.one v) (h'.one v)⟩
theorem Read.single {v : AV} {u : Value} (h : VR w c v u) (h1 : u.oneCell' = true) : Read w c [v] 1 [u] := ⟨.cons _ _ _ _ h .nil, rfl, fun x hx => by simp at hx; subst hx; exact h1⟩
mutual
theorem read_ok : ∀ (s : Sh) {c : Cx} (hM : ∀ b, b < w.heap.size → c.M b) (t : TypeId) (fuel : Nat) (cs : List Value) (x : DataW H × List MemPlace), shOk P s t = true → DataW.trod enc P w 0 sp held fuel t cs = some x → Read w c (avs s x.1) s.wd cs
  | .int k, c, hM, t, fuel, cs, x, hs, h => by
    simp only [shOk] at hs
    split at hs
    · rename_i k' hu
      have hk := of_decide_eq_true hs
      subst hk
      obtain ⟨n, rfl, rfl, _⟩ := DataW.trod_int hu h
      simp only [avs, intD, Sh.wd]
      exact Read.single (.val _) rfl
    · cases hs
  | .bool, c, hM, t, fuel, cs, x, hs, h => by
    simp only [shOk] at hs
    split at hs
    · rename_i hu
      obtain ⟨b, rfl, rfl⟩ := DataW.trod_bool hu h
      simp only [avs, boolD, Sh.wd]
      exact Read.single (.val _) rfl
    · cases hs
  | .str, c, hM, t, fuel, cs, x, hs, h => by
    simp only [shOk] at hs
    split at hs
    · rename_i hu
      obtain ⟨b, rfl, rfl, _⟩ := DataW.trod_string hu h
      simp only [avs, strD, Sh.wd]
      exact Read.single (.val _) rfl
    · cases hs
  | .sl e, c, hM, t, fuel, cs, x, hs, h => by
    simp only [shOk] at hs
    split at hs
    · rename_i u hu
      simp only [Bool.and_eq_true] at hs
      obtain ⟨h1, h2, h3⟩ := hs
      have h2 := Nat.eq_of_beq_eq_true h2
      rw [Nat.blt_eq] at h3
      simp only [Sh.wd]
      have key : ∀ (con : Con) (es : List (DataW H)), avs (.sl e) x.1 = [.ro con none] → con.wd = e.wd → con.len = (elemsD x.1).length →
          (∀ (i : Nat) (y : DataW H × List MemPlace) (cs : List Value), (elemsD x.1)[i]? = some y.1 → Read w c.none (avs e y.1) e.wd cs → Read w c.none (con.row i) e.wd cs) → Read w c (avs (.sl e) x.1) 1 cs := by
        intro con es ha hcw hcl hrow
        rw [ha]
        rcases DataW.trod_slice hu h with ⟨rfl, rfl⟩ | ⟨a, len, cap, elems, rest, n, rfl, rfl, rfl, hb, hl, hm, hlen, hel, _, _⟩
        · refine Read.single ?_ rfl
          have h0 : con.len = 0 := hcl
          exact nz0_rel (v := .val (.slice none 0 0)) h0 (.val _)
        · refine Read.single ?_ rfl
          have he : elemsD (DataW.slice (elems.map (·.1)) (rest.map (·.1))) = elems.map (·.1) := rfl
          simp only [he] at hcl hrow
          subst hlen
          refine slice_read hM con e.wd h2 h3 hcw (by rw [hcl, List.length_map]) hl hel ?_
          intro i cs y hi hy ht
          refine hrow i y cs (by rw [List.getElem?_map, hy]; rfl) ?_
          exact read_ok e (c := c.none) hM u n cs y h1 ht
      cases e with
      | int k =>
        refine key _ [] rfl rfl (by simp [Con.len]) ?_
        intro i y cs hy hr
        simp only [avs] at hr
        have er : (Con.ints k ((elemsD x.1).map intD)).row i = [.val (.int k (intD y.1))] := by
          simp only [Con.row, List.getD_eq_getElem?_getD, List.getElem?_map, hy]
          rfl
        rw [er]; exact hr
      | bool => exact key (.tab _ _ _) [] rfl rfl rfl (fun i y cs hy hr => by simp only [Con.row, List.getD_eq_getElem?_getD, hy]; exact hr)
      | str => exact key (.tab _ _ _) [] rfl rfl rfl (fun i y cs hy hr => by simp only [Con.row, List.getD_eq_getElem?_getD, hy]; exact hr)
      | agg l => exact key (.tab _ _ _) [] rfl rfl rfl (fun i y cs hy hr => by simp only [Con.row, List.getD_eq_getElem?_getD, hy]; exact hr)
      | sl e' => exact key (.tab _ _ _) [] rfl rfl rfl (fun i y cs hy hr => by simp only [Con.row, List.getD_eq_getElem?_getD, hy]; exact hr)
    · cases hs
  | .agg l, c, hM, t, fuel, cs, x, hs, h => by
    simp only [shOk] at hs
    split at hs
    · rename_i fs hu
      simp only [Bool.and_eq_true] at hs
      obtain ⟨h1, h2⟩ := hs
      obtain ⟨xs, n, rfl, rfl, hlen, hxl, hf⟩ := DataW.trod_struct hu h
      simp only [avs, partsD, Sh.wd]
      have hwd := Nat.eq_of_beq_eq_true h1
      have := readL_ok l (c := c) hM fs.toList 0 n cs xs h2 (by simpa using hxl) (by omega) (fun i f hi => hf i f (by simpa using hi))
      simpa using this
    · rename_i k e hu
      simp only [Bool.and_eq_true] at hs
      obtain ⟨h1, h2⟩ := hs
      obtain ⟨xs, n, rfl, rfl, hlen, hxl, hf⟩ := DataW.trod_array hu h
      simp only [avs, partsD, Sh.wd]
      have hwd := Nat.eq_of_beq_eq_true h1
      have := readL_ok l (c := c) hM (arrFs P e k) 0 n cs xs h2 (by rw [arrFs_len]; exact hxl) (by omega) (fun i f hi => by
        obtain ⟨q1, q2, q3⟩ := arrFs_get hi
        rw [q2, q3]; exact hf i q1)
      simpa using this
    · cases hs
theorem readL_ok : ∀ (l : List Sh) {c : Cx} (hM : ∀ b, b < w.heap.size → c.M b) (fs : List Field) (off n : Nat) (cs : List Value) (xs : List (DataW H × List MemPlace)), shOkF P l fs off = true → xs.length = fs.length → cs.length = off + wdL l →
    (∀ (i : Nat) (f : Field), fs[i]? = some f → DataW.trod enc P w 0 sp held n f.type ((cs.drop f.offset).take (P.cellsOf f.type)) = xs[i]?) → Read w c (avsL l (xs.map (·.1))) (wdL l) (cs.drop off)
  | [], c, hM, fs, off, n, cs, xs, hs, hx, hl, hf => by
    simp only [wdL, Nat.add_zero] at hl
    simp only [avsL, wdL]
    rw [List.drop_of_length_le (by omega)]
    exact ⟨.nil, rfl, fun _ q => by cases q⟩
  | s :: l, c, hM, [], off, n, cs, xs, hs, hx, hl, hf => by simp [shOkF] at hs
  | s :: l, c, hM, f :: fs, off, n, cs, xs, hs, hx, hl, hf => by
    simp only [shOkF, Bool.and_eq_true] at hs
    obtain ⟨h1, h2, h3, h4⟩ := hs
    have h2 := Nat.eq_of_beq_eq_true h2
    have h3 := Nat.eq_of_beq_eq_true h3
    cases xs with
    | nil => simp at hx
    | cons x xs =>
      have q0 := hf 0 f rfl
      rw [h2, h3, List.getElem?_cons_zero] at q0
      have r1 := read_ok s (c := c) hM f.type n _ x h1 q0
      have r2 := readL_ok l (c := c) hM fs (off + s.wd) n cs xs h4 (by simpa using hx) (by simp only [wdL] at hl; omega) (fun i g hg => hf (i + 1) g (by simpa using hg))
      simp only [avsL, wdL, List.map_cons, List.headD_cons, List.tail_cons]
      have e : cs.drop off = (cs.drop off).take s.wd ++ cs.drop (off + s.wd) := by rw [← List.drop_drop, List.take_append_drop]
      rw [e]
      exact r1.append r2
end
def shsOk (P : Program) : List Sh → List TypeId → Bool
  | [], [] => true
  | s :: l, t :: ts => shOk P s t && shsOk P l ts
  | _, _ => false
theorem arg_read (hM : ∀ b, b < w.heap.size → c.M b) {s : Sh} {t : TypeId} {v : Value} {d : DataW H} {ps : List MemPlace} {base : Nat} (hs : shOk P s t = true) (hv : Value.okWide P w .any base t v) (h : DataW.Trod enc P w 0 sp held t v d ps) : VR w c (argA s d) v := by
  obtain ⟨fuel, h⟩ := h
  have r := read_ok (held := held) s hM t fuel _ _ hs h
  have plain : (∀ fs, P.underlying t ≠ some (.struct fs)) → (∀ n e, P.underlying t ≠ some (.array n e)) → v.cells.toList = [v] := by
    intro h1 h2
    cases v with
    | agg cs =>
      unfold Value.okWide at hv
      split at hv
      · rename_i fs hu; exact absurd hu (h1 fs)
      · rename_i n e hu; exact absurd hu (h2 n e)
      · exfalso
        unfold Cell.okWide at hv
        split at hv <;> first
          | (rename_i hq; cases hq; done)
          | (unfold Cell.ok at hv; split at hv <;> simp_all)
    | _ => rfl
  cases s with
  | int k =>
    simp only [shOk] at hs
    split at hs
    · rename_i k' hu
      rw [plain (fun fs q => by rw [hu] at q; cases q) (fun n e q => by rw [hu] at q; cases q)] at r
      have := r.rel
      simp only [avs] at this
      cases this with | cons _ _ _ _ q1 q2 => exact q1
    · cases hs
  | bool =>
    simp only [shOk] at hs
    split at hs
    · rename_i hu
      rw [plain (fun fs q => by rw [hu] at q; cases q) (fun n e q => by rw [hu] at q; cases q)] at r
      have := r.rel
      simp only [avs] at this
      cases this with | cons _ _ _ _ q1 q2 => exact q1
    · cases hs
  | str =>
    simp only [shOk] at hs
    split at hs
    · rename_i hu
      rw [plain (fun fs q => by rw [hu] at q; cases q) (fun n e q => by rw [hu] at q; cases q)] at r
      have := r.rel
      simp only [avs] at this
      cases this with | cons _ _ _ _ q1 q2 => exact q1
    · cases hs
  | sl e =>
    simp only [shOk] at hs
    split at hs
    · rename_i u hu
      rw [plain (fun fs q => by rw [hu] at q; cases q) (fun n e q => by rw [hu] at q; cases q)] at r
      have := r.rel
      show VR w c ((avs (.sl e) d).headD .unk) v
      generalize avs (.sl e) d = l at this
      cases this with | cons _ _ _ _ q1 q2 => exact q1
    · cases hs
  | agg l =>
    simp only [shOk] at hs
    split at hs
    · rename_i fs hu
      unfold Value.okWide at hv
      rw [hu] at hv
      obtain ⟨cs, rfl, _, _⟩ := hv
      have := r.rel
      simp only [avs] at this
      exact .agg _ _ this
    · rename_i n e hu
      unfold Value.okWide at hv
      rw [hu] at hv
      obtain ⟨cs, rfl, _, _⟩ := hv
      have := r.rel
      simp only [avs] at this
      exact .agg _ _ this
    · cases hs
theorem args_read (hM : ∀ b, b < w.heap.size → c.M b) {base : Nat} : ∀ {shs : List Sh} {ts : List TypeId} {vs : List Value} {ds : List (DataW H)} {ps : List MemPlace}, shsOk P shs ts = true →
    (∀ (j : Nat) (t : TypeId) (v : Value), ts[j]? = some t → vs[j]? = some v → Value.okWide P w .any base t v) → DataW.TrodAll enc P w 0 sp held ts vs ds ps → VRs w c (argsA shs ds) vs
  | [], [], vs, ds, ps, _, _, h => by
    cases vs <;> cases ds <;> simp [DataW.TrodAll] at h
    exact .nil
  | s :: l, t :: ts, vs, ds, ps, hs, hv, h => by
    simp only [shsOk, Bool.and_eq_true] at hs
    cases vs <;> cases ds <;> simp [DataW.TrodAll] at h
    rename_i v vs d ds
    obtain ⟨p, h1, q, h2, _⟩ := h
    exact .cons _ _ _ _ (arg_read hM hs.1 (hv 0 t v rfl rfl) h1) (args_read hM hs.2 (fun j t v a b => hv (j + 1) t v (by simpa using a) (by simpa using b)) h2)
  | [], _ :: _, _, _, _, h, _, _ => by simp [shsOk] at h
  | _ :: _, [], _, _, _, h, _, _ => by simp [shsOk] at h
end
section
variable {H : Type}
mutual
def wfD : Sh → DataW H → Prop
  | .int k, d => (Lit.int k (intD d)).wf = true
  | .bool, _ => True
  | .str, _ => True
  | .sl e, d => (elemsD d).length ≤ maxLen ∧ ∀ x ∈ elemsD d, wfD e x
  | .agg l, d => wfDL l (partsD d)
def wfDL : List Sh → List (DataW H) → Prop
  | [], _ => True
  | s :: l, ds => wfD s (ds.headD .nil) ∧ wfDL l ds.tail
end
variable {enc : TypeId × Value → H} {P : Program} {w : World} {sp : Nat → Bool} {held : Bool}
mutual
theorem read_wf : ∀ (s : Sh) (t : TypeId) (fuel : Nat) (cs : List Value) (x : DataW H × List MemPlace), shOk P s t = true → DataW.trod enc P w 0 sp held fuel t cs = some x → wfD s x.1
  | .int k, t, fuel, cs, x, hs, h => by
    simp only [shOk] at hs
    split at hs
    · rename_i k' hu
      have hk := of_decide_eq_true hs
      subst hk
      obtain ⟨n, rfl, rfl, hw⟩ := DataW.trod_int hu h
      simp only [wfD, intD]; exact hw
    · cases hs
  | .bool, t, fuel, cs, x, hs, h => by simp only [wfD]
  | .str, t, fuel, cs, x, hs, h => by simp only [wfD]
  | .sl e, t, fuel, cs, x, hs, h => by
    simp only [shOk] at hs
    split at hs
    · rename_i u hu
      simp only [Bool.and_eq_true] at hs
      rcases DataW.trod_slice hu h with ⟨rfl, rfl⟩ | ⟨a, len, cap, elems, rest, n, rfl, rfl, rfl, hb, hl, hm, hlen, hel, _, _⟩
      · simp only [wfD, elemsD]; exact ⟨Nat.zero_le _, fun _ q => by cases q⟩
      · simp only [wfD, elemsD]
        refine ⟨by rw [List.length_map]; omega, ?_⟩
        intro y hy
        obtain ⟨z, hz, rfl⟩ := List.mem_map.1 hy
        obtain ⟨i, hi, he⟩ := List.getElem_of_mem hz
        have := hel i (by omega)
        rw [List.getElem?_eq_getElem hi, he, Option.bind_eq_some_iff] at this
        obtain ⟨cs, _, h2⟩ := this
        exact read_wf e u n cs z hs.1 h2
    · cases hs
  | .agg l, t, fuel, cs, x, hs, h => by
    simp only [shOk] at hs
    split at hs
    · rename_i fs hu
      simp only [Bool.and_eq_true] at hs
      obtain ⟨xs, n, rfl, rfl, hlen, hxl, hf⟩ := DataW.trod_struct hu h
      simp only [wfD, partsD]
      exact readL_wf l fs.toList 0 n cs xs hs.2 (by simpa using hxl) (fun i f hi => hf i f (by simpa using hi))
    · rename_i k e hu
      simp only [Bool.and_eq_true] at hs
      obtain ⟨xs, n, rfl, rfl, hlen, hxl, hf⟩ := DataW.trod_array hu h
      simp only [wfD, partsD]
      exact readL_wf l (arrFs P e k) 0 n cs xs hs.2 (by rw [arrFs_len]; exact hxl) (fun i f hi => by
        obtain ⟨q1, q2, q3⟩ := arrFs_get hi
        rw [q2, q3]; exact hf i q1)
    · cases hs
theorem readL_wf : ∀ (l : List Sh) (fs : List Field) (off n : Nat) (cs : List Value) (xs : List (DataW H × List MemPlace)), shOkF P l fs off = true → xs.length = fs.length →
    (∀ (i : Nat) (f : Field), fs[i]? = some f → DataW.trod enc P w 0 sp held n f.type ((cs.drop f.offset).take (P.cellsOf f.type)) = xs[i]?) → wfDL l (xs.map (·.1))
  | [], fs, off, n, cs, xs, hs, hx, hf => by simp only [wfDL]
  | s :: l, [], off, n, cs, xs, hs, hx, hf => by simp [shOkF] at hs
  | s :: l, f :: fs, off, n, cs, xs, hs, hx, hf => by
    simp only [shOkF, Bool.and_eq_true] at hs
    cases xs with
    | nil => simp at hx
    | cons x xs =>
      have q0 := hf 0 f rfl
      rw [List.getElem?_cons_zero] at q0
      simp only [wfDL, List.map_cons, List.headD_cons, List.tail_cons]
      exact ⟨read_wf s f.type n _ x hs.1 q0, readL_wf l fs (off + s.wd) n cs xs hs.2.2.2 (by simpa using hx) (fun i g hg => hf (i + 1) g (by simpa using hg))⟩
end
theorem args_wf : ∀ {shs : List Sh} {ts : List TypeId} {vs : List Value} {ds : List (DataW H)} {ps : List MemPlace}, shsOk P shs ts = true → DataW.TrodAll enc P w 0 sp held ts vs ds ps → wfDL shs ds ∧ ds.length = shs.length
  | [], [], vs, ds, ps, _, h => by
    cases vs <;> cases ds <;> simp [DataW.TrodAll] at h
    exact ⟨by simp only [wfDL], rfl⟩
  | s :: l, t :: ts, vs, ds, ps, hs, h => by
    simp only [shsOk, Bool.and_eq_true] at hs
    cases vs <;> cases ds <;> simp [DataW.TrodAll] at h
    rename_i v vs d ds
    obtain ⟨p, ⟨n, h1⟩, q, h2, _⟩ := h
    obtain ⟨k1, k2⟩ := args_wf hs.2 h2
    refine ⟨?_, by simp [k2]⟩
    simp only [wfDL, List.headD_cons, List.tail_cons]
    exact ⟨read_wf s t n _ _ hs.1 h1, k1⟩
  | [], _ :: _, _, _, _, h, _ => by simp [shsOk] at h
  | _ :: _, [], _, _, _, h, _ => by simp [shsOk] at h
end
section
variable {H : Type} {enc : TypeId × Value → H} {P : Program}
theorem sameAt_of {w w' : World} (hsz : ∀ b, b < w.heap.size → w'.heap[b]? = w.heap[b]?) {p : MemPlace} (hp : p.block < w.heap.size) : w.sameAt w' p := by
  cases p with
  | cell b off => show w'.cell? _ = w.cell? _; unfold World.cell?; rw [hsz b hp]
  | map b => exact hsz b hp
theorem trodAll_carry {w w' : World} {base : Nat} {sp : Nat → Bool} {held : Bool} : ∀ {ts : List TypeId} {vs : List Value} {ds : List (DataW H)} {ps : List MemPlace}, DataW.TrodAll enc P w base sp held ts vs ds ps → (∀ p ∈ ps, w.sameAt w' p) → DataW.TrodAll enc P w' base sp held ts vs ds ps
  | [], [], [], _, h, _ => h
  | _ :: _, _ :: _, _ :: _, _, ⟨p, q, ⟨n, h1⟩, h2, e⟩, hs => ⟨p, q, ⟨n, DataW.trod_carry n _ _ _ h1 (fun x hx => hs x (by rw [e]; exact List.mem_append_left _ hx))⟩, trodAll_carry h2 (fun x hx => hs x (by rw [e]; exact List.mem_append_right _ hx)), e⟩
theorem law_post {f : Func} {s : ChangeSpec} {apart fresh handsOn again : Bool} {W W' : World} {args : Array Value} {ds : List (DataW H)} {before : List MemPlace} {b : TypeId}
    (kids : Kids P (· < P.types.size)) (full : ∀ t e, t < P.types.size → P.underlying t = some (.slice e) → 0 < P.cellsOf e)
    (hts : ∀ t ∈ f.params.toList, t < P.types.size) (hvars : s.vars = []) (hb : P.underlying b = some .bool) (hrt : f.resultTypes = #[b])
    (hfn : s.fn H (ds ++ []) = { results := [.lit (.bool true)], args := ds })
    (hW : DataW.Whole enc P f.params.toList s.vars apart W args.toList ds [] before)
    (hkeep : ∀ i, i < W.heap.size → W'.heap[i]? = W.heap[i]?) (hos : W'.os = W.os) (hout : W'.output = W.output) :
    s.post enc P f apart fresh handsOn again W args (.bool true) W' := by
  have hW0 := hW
  obtain ⟨p, q, hA, hV, hpq, hfz, hnd⟩ := hW
  rw [hvars] at hV
  obtain rfl : q = [] := hV
  have hbp : before = p := by rw [hpq, List.append_nil]
  have hlt : ∀ x ∈ before, x.block < W.heap.size := fun x hx => hA.lt x (by rw [← hbp]; exact hx)
  have hA' : DataW.TrodAll enc P W' 0 (fun _ => true) true f.params.toList args.toList ds p := trodAll_carry hA (fun x hx => sameAt_of hkeep (hlt x (by rw [hbp]; exact hx)))
  have hsz : f.resultTypes.size = 1 := by rw [hrt]; rfl
  have hres : ∀ (b' : Nat) (sp : Nat → Bool) (hd : Bool), DataW.TrodAll enc P W' b' sp hd f.resultTypes.toList ((Value.bool true).resultList f.resultTypes.size) (s.fn H (ds ++ [])).results [] := by
    intro b' sp hd
    rw [hfn, hsz, hrt]
    exact ⟨[], [], ⟨1, by show DataW.trod enc P W' b' sp hd 1 b [.bool true] = _; unfold DataW.trod; rw [hb]⟩, rfl, rfl⟩
  have hold : ∀ x ∈ before, (fun b => decide (b < W.heap.size)) x.block = true := fun x hx => by simpa using hlt x hx
  have hargs : ∀ sp : Nat → Bool, (∀ x ∈ before, sp x.block = true) → DataW.TrodAll enc P W' 0 sp true f.params.toList args.toList (s.fn H (ds ++ [])).args p := by
    intro sp hs
    rw [hfn]
    exact DataW.TrodAll.respare kids full hts hA' (fun x hx => hs x (by rw [hbp]; exact hx))
  have hvs : ∀ sp : Nat → Bool, DataW.TrodVars enc P W' sp s.vars (s.fn H (ds ++ [])).vars [] := by
    intro sp; rw [hfn, hvars]; rfl
  have hok : ∀ (j : Nat) (t : TypeId) (r : Value), f.resultTypes[j]? = some t → ((Value.bool true).resultList f.resultTypes.size)[j]? = some r → Value.okWide P W' .any 0 t r := by
    intro j t r h1 h2
    rw [hsz] at h2
    rw [hrt] at h1
    have e1 : (Value.bool true).resultList 1 = [.bool true] := rfl
    rw [e1] at h2
    cases j with
    | succ j => simp at h2
    | zero =>
      simp at h1 h2
      subst h1; subst h2
      simp [Value.okWide, hb, Cell.okWide, Cell.ok]
  have hk : W.keptBut W' (· ∈ before) := by
    refine ⟨hos, hout, fun i hi => ?_⟩
    rw [hkeep i hi]
    cases hh : W.heap[i]? with
    | none => rfl
    | some o => cases o with
      | cells c t fr => exact ⟨rfl, rfl, rfl, fun _ _ => rfl⟩
      | map es clock => exact .inr ⟨rfl, rfl⟩
      | _ => rfl
  refine ⟨ds, [], before, [], p, [], hW0, hres _ _ _, hargs _ hold, hvs _, World.keptBut_mono (fun x hx => ⟨hx, ?_⟩) hk, fun _ => ?_⟩
  · rw [hbp] at hx
    exact Or.inr (Or.inl hx)
  · refine ⟨hok, _, _, ([] ++ p) ++ [], ⟨[] ++ p, [], Go.ChangeShapes.trodAll_append (hargs _ (fun _ _ => rfl)) (hres _ _ _), hvs _, rfl, ?_, ?_⟩, ?_⟩
    · intro b off hx
      have hx' : MemPlace.cell b off ∈ before := by rw [hbp]; simpa using hx
      have := hfz b off hx'
      have hbl := hlt _ hx'
      have e : W'.frozen? ⟨b, off, none⟩ = W.frozen? ⟨b, off, none⟩ := by unfold World.frozen?; rw [hkeep b hbl]
      rw [e]; exact this
    · intro ha
      have := hnd ha
      rw [hbp] at this
      simpa using this
    · intro x hx _
      rw [hbp]
      simpa using hx
theorem law_calls {f : FuncId} {fn : Func} {s : ChangeSpec} {apart fresh handsOn again : Bool} {W : World} {base : Nat} {args : Array Value} {ds : List (DataW H)} {before : List MemPlace} {b : TypeId} {shs : List Sh} {h2 : Heap}
    (kids : Kids P (· < P.types.size)) (full : ∀ t e, t < P.types.size → P.underlying t = some (.slice e) → 0 < P.cellsOf e)
    (hts : (fn.params.toList.all fun t => decide (t < P.types.size)) = true) (hvars : s.vars = []) (hb : P.underlying b = some .bool) (hrt : fn.resultTypes = #[b])
    (hfn : s.fn H (ds ++ []) = { results := [.lit (.bool true)], args := ds })
    (hsh : shsOk P shs fn.params.toList = true)
    (hval : ∀ (j : Nat) (t : TypeId) (v : Value), fn.params[j]? = some t → args[j]? = some v → Value.okWide P W .any base t v)
    (hW : DataW.Whole enc P fn.params.toList s.vars apart W args.toList ds [] before)
    (hal : Alone P f (argsA shs ds) (.val (.bool true)) h2) :
    Calls P f args W fun e W' => ∃ v, e = .returned v ∧ s.post enc P fn apart fresh handsOn again W args v W' := by
  obtain ⟨p, q, hA, _⟩ := id hW
  have hv : VRs W (Cx.lent W) (argsA shs ds) args.toList := args_read (c := Cx.lent W) (fun b hb => hb) hsh (fun j t v h1 h2 => hval j t v (by simpa using h1) (by simpa using h2)) hA
  have hr : HR W (Cx.lent W) heap0.G := ⟨fun id b hb => by simp [Heap.G, heap0] at hb, fun id b hb => by simp [Heap.G, heap0] at hb, fun i j b b' hb => by simp [Heap.G, heap0] at hb, fun b hb => ⟨fun q => q, hb⟩⟩
  have := callsIn_wide.1 (hal.2 W (Cx.lent W) args.toList hr hv (fun _ q => q))
  rw [show args.toList.toArray = args from by simp] at this
  refine this.mono ?_
  rintro e W' ⟨v', rfl, c', k1, k2, k3, k4⟩
  have := k1.val_inv
  subst this
  exact ⟨_, rfl, law_post kids full (fun t ht => by simpa using List.all_eq_true.1 hts t ht) hvars hb hrt hfn hW (fun i hi => k2.keep i hi (fun q => q)) k2.os k2.output⟩
end
end Go.Ev
/- Ranges over functions by what they do; answers as they come. -/
namespace Go.Ev
section
variable {P : Program} {env : Env} (he : EnvOk2 P env)
include he
end
end Go.Ev
/- Loops, from one state alone. -/
namespace Go.Ev
def propB (p : Prop) : Bool := @decide p (Classical.propDecidable _)
def isSt (s s0 : St) : Bool := @decide (s = s0) (Classical.propDecidable _)
def atL (s0 : St) (A : Ans (AX × St)) : LSum := fun s => .grd (isSt s s0) A
theorem propB_eq {p : Prop} : propB p = true → p := fun h => @of_decide_eq_true _ (Classical.propDecidable _) h
theorem propB_t {p : Prop} (h : p) : propB p = true := @decide_eq_true _ (Classical.propDecidable _) h
theorem isSt_eq {s s0 : St} : isSt s s0 = true → s = s0 := fun h => @of_decide_eq_true _ (Classical.propDecidable _) h
theorem isSt_refl (s : St) : isSt s s = true := @decide_eq_true _ (Classical.propDecidable _) rfl
theorem atL_some {s0 s : St} {A : Ans (AX × St)} {r : AX × St} (h : (atL s0 A s).run = some r) : s = s0 ∧ A.run = some r := by
  unfold atL at h
  rw [Ans.run_grd] at h
  cases hs : isSt s s0 with
  | false => rw [hs] at h; cases h
  | true => rw [hs, cond_true] at h; exact ⟨isSt_eq hs, h⟩
theorem loop_at {P : Program} {env : Env} (he : EnvOk2 P env) {d g : Nat} {ls : Nat → Option LSum} {c : Code} (hin : AllL (LsOk P ls) (loopsOf c)) (ks ko : List Nat) {T : Type} (S : T → St) (Inv : T → Prop) (m : T → Nat) (fin : T → AX × St)
    (s0 : St) (A : Ans (AX × St)) (x0 : T) (hi : Inv x0) (hw : Weak s0 (S x0)) (hA : ∀ e s', A.run = some (e, s') → fin x0 = (e, s'))
    (hok : ∀ x, Inv x → (S x).h.ok)
    (hb : ∀ x, Inv x → (∃ x' s1, codeS env (callF env d) (env.keep g) ls c (outK ks ko) (S x) = some (.normal, s1) ∧ Weak s1 (S x') ∧ Inv x' ∧ m x' < m x ∧ fin x' = fin x) ∨
      (∃ s1, codeS env (callF env d) (env.keep g) ls c (outK ks ko) (S x) = some ((fin x).1, s1) ∧ Weak s1 (fin x).2 ∧ (fin x).1 ≠ .normal)) :
    ∀ s e s', s.h.ok → (atL s0 A s).run = some (e, s') → Triple P (.loop c) s e s' := by
  intro s e s' hk hL
  obtain ⟨rfl, hA2⟩ := atL_some hL
  have hX := codeS_sound (ρ := AX × St) (callF_sound he d) he.ok he.mix (env.keep g) ls c hin
  have key := loop_tripleW hX ks ko S Inv m fin hok hb x0 hi
  rw [hA _ _ hA2] at key
  exact Triple.weak hw key
theorem atL_grd {P : Program} {c : Code} {s0 : St} {b : Bool} {A : Ans (AX × St)} (h : b = true → ∀ s e s', s.h.ok → (atL s0 A s).run = some (e, s') → Triple P (.loop c) s e s') : ∀ s e s', s.h.ok → (atL s0 (.grd b A) s).run = some (e, s') → Triple P (.loop c) s e s' := by
  intro s e s' hk hL
  obtain ⟨rfl, h2⟩ := atL_some hL
  rw [Ans.run_grd] at h2
  cases b with
  | false => cases h2
  | true =>
    refine h rfl _ e s' hk ?_
    unfold atL
    rw [Ans.run_grd, isSt_refl]
    exact h2
theorem AW.unk (v : AV) : AW v .unk := fun _ _ _ _ => .unk _
inductive EsFz (id : Nat) (con : Con) : List Ent → List Ent → Prop
  | nil : EsFz id con [] []
  | skip {es es' : List Ent} : EsFz id con es es' → EsFz id con (⟨id, 0, .cells con⟩ :: es) es'
  | same {es es' : List Ent} (e : Ent) (hn : Nat.beq e.id id = false) : EsFz id con es es' → EsFz id con (e :: es) (e :: es')
  | row {es es' : List Ent} (i v : Nat) {k k' : Con} (hn : Nat.beq i id = false) (hp : k'.pureF = false → k.pureF = false) (hz : FzC id con k k') : EsFz id con es es' → EsFz id con (⟨i, v, .cells k⟩ :: es) (⟨i, v, .cells k'⟩ :: es')
theorem EsFz.find {id : Nat} {con : Con} {es es' : List Ent} (h : EsFz id con es es') : ∀ j e', findE es' j = some e' → j ≠ id ∧ ∃ e, findE es j = some e ∧ (e.blk = e'.blk ∨ ∃ k k', e.blk = .cells k ∧ e'.blk = .cells k' ∧ (k'.pureF = false → k.pureF = false) ∧ FzC id con k k') := by
  induction h with
  | nil => intro j e' h; cases h
  | skip h ih =>
    intro j e' hj
    obtain ⟨q1, e, q2, q3⟩ := ih j e' hj
    refine ⟨q1, e, ?_, q3⟩
    rw [findE_cons, if_neg (fun q => q1 q.symm)]
    exact q2
  | same e hn h ih =>
    intro j e' hj
    rw [findE_cons] at hj
    split at hj
    · rename_i hq
      injection hj with hj
      subst hj
      refine ⟨?_, e, by rw [findE_cons, if_pos hq], .inl rfl⟩
      rw [← hq]
      exact fun q => by rw [q, Nat.beq_refl] at hn; cases hn
    · rename_i hq
      obtain ⟨q1, e2, q2, q3⟩ := ih j e' hj
      exact ⟨q1, e2, by rw [findE_cons, if_neg hq]; exact q2, q3⟩
  | row i v hn hp hz h ih =>
    intro j e' hj
    rw [findE_cons] at hj
    split at hj
    · rename_i hq
      injection hj with hj
      subst hj
      refine ⟨?_, _, by rw [findE_cons, if_pos hq], .inr ⟨_, _, rfl, rfl, hp, hz⟩⟩
      have hq' : i = j := hq
      rw [← hq']
      exact fun q => by rw [q, Nat.beq_refl] at hn; cases hn
    · rename_i hq
      obtain ⟨q1, e2, q2, q3⟩ := ih j e' hj
      exact ⟨q1, e2, by rw [findE_cons, if_neg hq]; exact q2, q3⟩
theorem EsFz.sub {id : Nat} {con : Con} {es es' : List Ent} (h : EsFz id con es es') : (es'.map (·.id)).Sublist (es.map (·.id)) := by
  induction h with
  | nil => exact List.Sublist.slnil
  | skip h ih => exact List.Sublist.cons _ ih
  | same e hn h ih => exact List.Sublist.cons_cons _ ih
  | row i v hn hp hz h ih => exact List.Sublist.cons_cons _ ih
theorem Weak.fzH {t t' : List AV} {con : Con} {n id : Nat} {es es' : List Ent} (hk : (⟨n, es⟩ : Heap).ok) (hp : con.pureF = true) (hid : (⟨n, es⟩ : Heap).G id = some (.cells con))
    (ht : ∀ w c c2 us, (∀ v v' u, FzV id con v v' → VR w c v u → VR w c2 v' u) → VRs w c t us → VRs w c2 t' us) (he : EsFz id con es es') : Weak ⟨t, [], ⟨n, es⟩⟩ ⟨t', [], ⟨n, es'⟩⟩ := by
  have hG : ∀ j b', (⟨n, es'⟩ : Heap).G j = some b' → j ≠ id ∧ ((⟨n, es⟩ : Heap).G j = some b' ∨ ∃ k k', (⟨n, es⟩ : Heap).G j = some (.cells k) ∧ b' = .cells k' ∧ (k'.pureF = false → k.pureF = false) ∧ FzC id con k k') := by
    intro j b' hj
    simp only [Heap.G, Option.map_eq_some_iff] at hj
    obtain ⟨e', h1, rfl⟩ := hj
    obtain ⟨q1, e, q2, q3⟩ := he.find j e' h1
    refine ⟨q1, ?_⟩
    rcases q3 with q3 | ⟨k, k', q3, q4, q5, q6⟩
    · exact .inl (by simp [Heap.G, q2, q3])
    · exact .inr ⟨k, k', by simp [Heap.G, q2, q3], q4, q5, q6⟩
  refine Weak.freezeX (s := ⟨t, [], ⟨n, es⟩⟩) hk id con hid hp ⟨List.Nodup.sublist he.sub hk.uniq, fun j e' hj => ?_⟩ (Nat.le_refl _) ht hG
  obtain ⟨q1, e, q2, q3⟩ := he.find j e' hj
  exact hk.lt j e q2
theorem Alone.fzA {P : Program} {g : Nat} {args : List AV} {v v' v2 : AV} {con : Con} {n id : Nat} {es es' : List Ent} {h2 : Heap} (hp : con.pureF = true) (hid : (⟨n, es⟩ : Heap).G id = some (.cells con)) (hv : FzT id con v v') (he : EsFz id con es es')
    (hc : outV v' ⟨n, es'⟩ = some (v2, h2)) (q : Alone P g args v ⟨n, es⟩) : Alone P g args v2 h2 := by
  have w1 : Weak ⟨[v], [], ⟨n, es⟩⟩ ⟨[v'], [], ⟨n, es'⟩⟩ := Weak.fzH q.1 hp hid (fun w c c2 us hx h => by cases h with | cons _ u _ us k1 k2 => exact .cons _ _ _ _ (hv.rel hx k1) (by cases k2; exact .nil)) he
  have w2 := Weak.canon (s := ⟨[v'], [], ⟨n, es'⟩⟩) w1.1 [0]
  have := Alone.outW (v' := getT (canon (some [0]) ⟨[v'], [], ⟨n, es'⟩⟩).t 0) (h3 := (canon (some [0]) ⟨[v'], [], ⟨n, es'⟩⟩).h) (w1.trans w2) q
  unfold outV at hc
  injection hc with hc
  injection hc with h1 h3
  rw [h1, h3] at this
  exact this
end Go.Ev
/- Loops whose rounds look at one thing each and go on, or leave. -/
namespace Go.Ev
def allOk (n : Nat) (ok : Nat → Bool) : Bool := (List.range n).all ok
theorem allOk_iff {n : Nat} {ok : Nat → Bool} : allOk n ok = true ↔ ∀ i, i < n → ok i = true := by
  unfold allOk
  rw [List.all_eq_true]
  exact ⟨fun h i hi => h i (List.mem_range.2 hi), fun h i hi => h i (List.mem_range.1 hi)⟩
theorem allOk_congr {n : Nat} {f g : Nat → Bool} (h : ∀ i, i < n → f i = g i) : allOk n f = allOk n g := by
  rw [Bool.eq_iff_iff, allOk_iff, allOk_iff]
  exact ⟨fun q i hi => by rw [← h i hi]; exact q i hi, fun q i hi => by rw [h i hi]; exact q i hi⟩
theorem scan_lawW {P : Program} {env : Env} (he : EnvOk2 P env) {d g : Nat} {ls : Nat → Option LSum} {c : Code} (hin : AllL (LsOk P ls) (loopsOf c)) (n : Nat) (ks ko : List Nat) {T : Type} (V : T → Nat → List AV) (H : T → Heap) (N : T → Nat) (ok : T → Nat → Bool) (Inv : T → Prop)
    (xe xr : T → AX × List AV × Heap) (f : List AV → Heap → Ans (AX × List AV × Heap))
    (hf : ∀ vs h e vo h', h.ok → (f vs h).run = some (e, vo, h') → ∃ x, Inv x ∧ Weak (stOf n ks vs h) (stOf n ks (V x 0) (H x)) ∧ (bif allOk (N x) (ok x) then xe x else xr x) = (e, vo, h'))
    (hok : ∀ x, Inv x → (H x).ok) (hne : ∀ x, Inv x → (xe x).1 ≠ .normal ∧ (xr x).1 ≠ .normal) (hk2 : ∀ x, Inv x → (stOf n ko (xe x).2.1 (xe x).2.2).h.ok ∧ (stOf n ko (xr x).2.1 (xr x).2.2).h.ok)
    (r1 : T → Nat → St) (hr1 : ∀ x k, Inv x → Weak (r1 x k) (stOf n ko (xr x).2.1 (xr x).2.2))
    (hb : ∀ x k, Inv x → k ≤ N x → (∀ i, i < k → ok x i = true) → codeS env (callF env d) (env.keep g) ls c (outK ks ko) (stOf n ks (V x k) (H x)) =
      bif decide (k < N x) then (bif ok x k then some (.normal, stOf n ks (V x (k + 1)) (H x)) else some ((xr x).1, r1 x k)) else some ((xe x).1, stOf n ko (xe x).2.1 (xe x).2.2)) :
    ∀ s e s', s.h.ok → (toLSum n ks ko f s).run = some (e, s') → Triple P (.loop c) s e s' := by
  refine loop_lawW he (d := d) (g := g) hin n ks ko (T := T × Nat) (fun x => V x.1 x.2) (fun x => H x.1) (fun x => Inv x.1 ∧ x.2 ≤ N x.1 ∧ ∀ i, i < x.2 → ok x.1 i = true) (fun x => N x.1 - x.2)
    (fun x => bif allOk (N x.1) (ok x.1) then xe x.1 else xr x.1) f ?_ (fun x hi => hok x.1 hi.1) ?_
  · intro vs h e vo h' hk hr
    obtain ⟨x, h1, h2, h3⟩ := hf vs h e vo h' hk hr
    exact ⟨(x, 0), ⟨h1, Nat.zero_le _, fun i hi => by omega⟩, h2, h3⟩
  · rintro ⟨x, k⟩ ⟨h1, h2, h3⟩
    simp only at h1 h2 h3
    have key := hb x k h1 h2 h3
    obtain ⟨n1, n2⟩ := hne x h1
    obtain ⟨o1, o2⟩ := hk2 x h1
    by_cases hk : k < N x
    · rw [decide_eq_true hk, cond_true] at key
      cases ho : ok x k with
      | true =>
        rw [ho, cond_true] at key
        refine .inl ⟨(x, k + 1), _, key, Weak.refl (hok x h1), ⟨h1, hk, fun i hi => ?_⟩, by show N x - (k + 1) < N x - k; omega, rfl⟩
        rcases Nat.lt_succ_iff_lt_or_eq.1 hi with q | q
        · exact h3 i q
        · rw [q]; exact ho
      | false =>
        rw [ho, cond_false] at key
        have ha : allOk (N x) (ok x) = false := by
          cases hq : allOk (N x) (ok x) with
          | false => rfl
          | true => have := allOk_iff.1 hq k hk; rw [ho] at this; cases this
        refine .inr ?_
        simp only [ha, cond_false]
        exact ⟨_, key, hr1 x k h1, n2⟩
    · rw [decide_eq_false hk, cond_false] at key
      have ha : allOk (N x) (ok x) = true := allOk_iff.2 (fun i hi => h3 i (by omega))
      refine .inr ?_
      simp only [ha, cond_true]
      exact ⟨_, key, Weak.refl o1, n1⟩
theorem scan_law {P : Program} {env : Env} (he : EnvOk2 P env) {d g : Nat} {ls : Nat → Option LSum} {c : Code} (hin : AllL (LsOk P ls) (loopsOf c)) (n : Nat) (ks ko : List Nat) {T : Type} (V : T → Nat → List AV) (H : T → Heap) (N : T → Nat) (ok : T → Nat → Bool) (Inv : T → Prop)
    (xe xr : T → AX × List AV × Heap) (f : List AV → Heap → Ans (AX × List AV × Heap))
    (hf : ∀ vs h e vo h', h.ok → (f vs h).run = some (e, vo, h') → ∃ x, Inv x ∧ Weak (stOf n ks vs h) (stOf n ks (V x 0) (H x)) ∧ (bif allOk (N x) (ok x) then xe x else xr x) = (e, vo, h'))
    (hok : ∀ x, Inv x → (H x).ok) (hne : ∀ x, Inv x → (xe x).1 ≠ .normal ∧ (xr x).1 ≠ .normal) (hk2 : ∀ x, Inv x → (stOf n ko (xe x).2.1 (xe x).2.2).h.ok ∧ (stOf n ko (xr x).2.1 (xr x).2.2).h.ok)
    (hb : ∀ x k, Inv x → k ≤ N x → (∀ i, i < k → ok x i = true) → codeS env (callF env d) (env.keep g) ls c (outK ks ko) (stOf n ks (V x k) (H x)) =
      bif decide (k < N x) then (bif ok x k then some (.normal, stOf n ks (V x (k + 1)) (H x)) else some ((xr x).1, stOf n ko (xr x).2.1 (xr x).2.2)) else some ((xe x).1, stOf n ko (xe x).2.1 (xe x).2.2)) :
    ∀ s e s', s.h.ok → (toLSum n ks ko f s).run = some (e, s') → Triple P (.loop c) s e s' :=
  scan_lawW he hin n ks ko V H N ok Inv xe xr f hf hok hne hk2 (fun x _ => stOf n ko (xr x).2.1 (xr x).2.2) (fun x _ h => Weak.refl (hk2 x h).2) hb
end Go.Ev
/- Rows compared: slices.Equal and its like. -/
namespace Go.Ev
theorem propB_f {p : Prop} (h : ¬ p) : propB p = false := @decide_eq_false _ (Classical.propDecidable _) h
theorem wrapT (k : Nat) (h : k < 9223372036854775807) : IntKind.i64.wrap ((k : Int) + 1) = ((k + 1 : Nat) : Int) := by rw [wrap64 _ (by omega) (by omega)]; omega
section
variable {D : Type} (R : RowTy D) (ceq : D → D → Bool)
def eqD (L M : List D) : Bool := propB (L.length = M.length ∧ ∀ i, i < L.length → ceq (L.getD i R.z) (M.getD i R.z) = true)
def eqL (N : Nat) (ks : List Nat) (V : Int → List AV) (L M : List D) : LSum := atL (stOf N ks (V 0) ⟨0, []⟩) (.grd (decide (L.length = M.length) && Nat.ble L.length 1000000) (.br (eqD R ceq L M) (.out (.exit 0, stOf N [] [] ⟨0, []⟩)) (.out (.ret, stOf N [4] [.val (.bool false)] ⟨0, []⟩))))
def eqS (args : List AV) : Ans (AV × Heap) := match args with
  | [.ro c1 k1, .ro c2 k2] => .grd (R.ok c1 && (R.ok c2 && Nat.ble (R.list c1).length 1000000)) (.out (.val (.bool (eqD R ceq (R.list c1) (R.list c2))), ⟨0, []⟩))
  | _ => .no
def eqqA : AFun := pureA (fun args => eqS R ceq (nzs [R.con [], R.con []] args))
def eqRound (N : Nat) (ks : List Nat) (V : Int → List AV) (L M : List D) (i : Int) : Option (AX × St) :=
  bif decide (i < (L.length : Int)) then
   bif inR i L.length then
    bif inR i M.length then
     bif !(ceq (L.getD i.toNat R.z) (M.getD i.toNat R.z)) then some (.ret, stOf N [4] [.val (.bool false)] ⟨0, []⟩)
     else some (.normal, stOf N ks (V (IntKind.i64.wrap (i + 1))) ⟨0, []⟩)
    else none
   else none
  else some (.exit 0, stOf N [] [] ⟨0, []⟩)
def eqRun (N : Nat) (ks : List Nat) (V : Int → List AV) (L M : List D) : Option (AV × Heap) :=
  bif (L.length : Int) != (M.length : Int) then some (.val (.bool false), ⟨0, []⟩)
  else bif isSt (stOf N ks (V 0) ⟨0, []⟩) (stOf N ks (V 0) ⟨0, []⟩) then
    (bif decide (L.length = M.length) && Nat.ble L.length 1000000 then (bif eqD R ceq L M then some (.val (.bool true), ⟨0, []⟩) else some (.val (.bool false), ⟨0, []⟩)) else none)
  else none
end
section
variable {D : Type} {R : RowTy D} {ceq : D → D → Bool}
theorem eqD_iff (hc : ∀ x y, ceq x y = true ↔ x = y) (L M : List D) : eqD R ceq L M = true ↔ L = M := by
  constructor
  · intro h
    obtain ⟨h1, h2⟩ := propB_eq h
    refine List.ext_getElem h1 (fun i hi hj => ?_)
    have := (hc _ _).1 (h2 i hi)
    rwa [List.getD_eq_getElem?_getD, List.getD_eq_getElem?_getD, List.getElem?_eq_getElem hi, List.getElem?_eq_getElem hj] at this
  · rintro rfl
    exact propB_t ⟨rfl, fun i _ => (hc _ _).2 rfl⟩
theorem eqloop {P : Program} {env : Env} (he : EnvOk2 P env) {d g : Nat} {c : Code} (hin : AllL (LsOk P (lsumsOf [])) (loopsOf c)) {N : Nat} {ks : List Nat} (V : Int → List AV) (L M : List D)
    (r : ∀ i : Int, codeS env (callF env d) (env.keep g) (lsumsOf []) c (outK ks [4]) (stOf N ks (V i) ⟨0, []⟩) = eqRound R ceq N ks V L M i) :
    ∀ s e s', s.h.ok → (eqL R ceq N ks V L M s).run = some (e, s') → Triple P (.loop c) s e s' := by
  refine atL_grd (fun hp => ?_)
  rw [Bool.and_eq_true, decide_eq_true_eq, Nat.ble_eq] at hp
  obtain ⟨hlm, hl⟩ := hp
  refine loop_at he (d := d) (g := g) (ls := lsumsOf []) (c := c) hin ks [4] (T := Nat)
    (fun k => stOf N ks (V k) ⟨0, []⟩) (fun k => k ≤ L.length ∧ ∀ i, i < k → ceq (L.getD i R.z) (M.getD i R.z) = true) (fun k => L.length - k) (fun _ => bif eqD R ceq L M then (.exit 0, stOf N [] [] ⟨0, []⟩) else (.ret, stOf N [4] [.val (.bool false)] ⟨0, []⟩)) _ _ 0 ⟨Nat.zero_le _, fun i hi => by omega⟩ (Weak.refl heap0_ok) ?_ (fun k _ => heap0_ok) ?_
  · intro e s' h
    rw [Ans.run_br] at h
    cases hq : eqD R ceq L M <;> rw [hq] at h <;> exact Option.some.inj h
  · rintro k ⟨h1, h2⟩
    have key := r k
    unfold eqRound at key
    by_cases hk : k < L.length
    · rw [declt_nat, inR_nat, inR_nat, decide_eq_true hk, decide_eq_true (show k < M.length by omega), Int.toNat_natCast] at key
      simp only [Bool.and_self, cond_true'] at key
      cases hq : ceq (L.getD k R.z) (M.getD k R.z) with
      | true =>
        rw [hq, wrapT k (by omega)] at key
        refine .inl ⟨k + 1, _, key, Weak.refl heap0_ok, ⟨hk, fun i hi => ?_⟩, by omega, rfl⟩
        rcases Nat.lt_or_ge i k with q | q
        · exact h2 i q
        · have : i = k := by omega
          subst this; exact hq
      | false =>
        rw [hq] at key
        have hne : eqD R ceq L M = false := propB_f (fun e => by have := e.2 k hk; rw [hq] at this; cases this)
        simp only [hne, cond_false']
        exact .inr ⟨_, key, Weak.refl heap0_ok, by show AX.ret ≠ .normal; intro h; cases h⟩
    · have e1 : k = L.length := by omega
      rw [declt_nat, decide_eq_false hk] at key
      have hq : eqD R ceq L M = true := propB_t ⟨hlm, fun i hi => h2 i (by omega)⟩
      simp only [hq, cond_true']
      exact .inr ⟨_, key, Weak.refl heap0_ok, by show (AX.exit 0) ≠ .normal; intro h; cases h⟩
theorem eq_sum {P : Program} {env : Env} (he : EnvOk2 P env) {d g lid : Nat} {c : Code} (hf : ∃ fn c, P.funcs[g]? = some fn ∧ fn.name ≠ "runtime.NumGoroutine" ∧ fn.body = some c)
    (hb : loopsOf (bodyOf env g) = [c]) (hfst : Code.fst c = some lid) (hin : loopsOf c = []) {N : Nat} {ks : List Nat} (V : List D → List D → Int → List AV)
    (r : ∀ L M (i : Int), codeS env (callF env d) (env.keep g) (lsumsOf []) c (outK ks [4]) (stOf N ks (V L M i) ⟨0, []⟩) = eqRound R ceq N ks (V L M) L M i)
    (w : ∀ L M, rootS env d g (lsumsOf [(lid, eqL R ceq N ks (V L M) L M)]) [.ro (R.con L) none, .ro (R.con M) none] = eqRun R ceq N ks (V L M) L M) : SumC P g (eqqA R ceq) := by
  refine pureSumR g hf ?_
  intro args v h2 hs
  refine Alone.nz (cs := [R.con [], R.con []]) (by simp [Con.len, RowTy.con]) ?_
  replace hs : (eqS R ceq (nzs [R.con [], R.con []] args)).run = some (v, h2) := hs
  generalize nzs [R.con [], R.con []] args = args' at hs ⊢
  unfold eqS at hs
  split at hs
  · rename_i c1 k1 c2 k2
    rw [Ans.run_grd] at hs
    cases hq : (R.ok c1 && (R.ok c2 && Nat.ble (R.list c1).length 1000000)) with
    | false => rw [hq] at hs; cases hs
    | true =>
      rw [hq, cond_true] at hs
      injection hs with hs
      injection hs with q1 q2
      subst q1; subst q2
      rw [Bool.and_eq_true, Bool.and_eq_true] at hq
      obtain ⟨o1, o2, hl⟩ := hq
      refine Alone.argsW (AWs.args (.cons (R.aw o1 _) (.cons (R.aw o2 _) .nil))) ?_
      generalize R.list c1 = L at hl ⊢
      generalize R.list c2 = M at ⊢
      have hls : lsumsOf [(lid, eqL R ceq N ks (V L M) L M)] lid = some (eqL R ceq N ks (V L M) L M) := by
        show (bif Nat.beq lid lid then _ else _) = _
        rw [Nat.beq_refl]; rfl
      refine rootS_alone he (d := d) (g := g) (ls := lsumsOf [(lid, eqL R ceq N ks (V L M) L M)]) (AllL.of1 (a := c) hb (LsOk.of hfst hls (eqloop he (d := d) (g := g) (AllL.of0 hin) (V L M) L M (r L M)))) ((w L M).trans ?_)
      unfold eqRun
      by_cases h : L.length = M.length
      · rw [show ((L.length : Int) != (M.length : Int)) = false by rw [h]; simp, isSt_refl, decide_eq_true h, hl]
        cases eqD R ceq L M <;> rfl
      · have h1 : ((L.length : Int) != (M.length : Int)) = true := by rw [bne, Bool.not_eq_true', beq_eq_false_iff_ne]; omega
        have h2 : eqD R ceq L M = false := propB_f (fun e => h e.1)
        rw [h1, h2]; rfl
  · cases hs
end
end Go.Ev
