/- The evaluator, its soundness and the walks: part 9. -/
import Derived.Test.YtninaidfifiliaaC8
set_option linter.unusedSectionVars false
set_option linter.unusedSimpArgs false
set_option linter.unusedVariables false
set_option maxRecDepth 100000
set_option maxRecDepth 1000000
noncomputable section
/- Devices: settle. -/
namespace Go.Ev
open Go.Proofs
def Try.E68 : Env := Try.env0 false (sumsOf []) (keepF 68 [(1, [0,1,10,11,12])])
def Try.b68 : Code := nthD .skip (loopsOf (bodyOf Try.E68 68)) 0
def Try.B68 (s : St) : Option (AX × St) := codeP Try.E68 (callF Try.E68 3) (Try.E68.keep 68) (lsumsOf []) 3 Try.b68 (outKP 3 [0,1,10,11,12] [0]) s
def Try.V68 (P : List SwD) (k : Nat) : List AV := [.ptr 0 0 0, .clo (.func 97) [] [], .own 2 0 P.length none 2, .val (.int .i64 P.length), .val (.int .i64 k)]
def putAt (B : List Int) (off : Nat) (src : List Int) : List Int := B.take off ++ (src ++ B.drop (off + src.length))
def settleN (many : Nat → Nat) (P : List SwD) (B : List Int) (k : Nat) : List Int := Nat.rec B (fun k ih => putAt ih ((P.getD k SW.z).1.toNat * 64) ((P.getD k SW.z).2.take (many k))) k
theorem Try.e68 : EnvOk2 Try.prog Try.E68 := Try.envOk false (sumsOf []) _ (fun g A h => by cases h)
theorem putAt_len {B : List Int} {off : Nat} {src : List Int} (h : off + src.length ≤ B.length) : (putAt B off src).length = B.length := by
  simp [putAt]; omega
structure DevFacts (N : Int) (B : List Int) (P : List SwD) : Prop where
  lo : 8 ≤ N
  hi : N ≤ 4096
  len : (B.length : Int) = N * 64
  few : P.length ≤ 2000
  at0 : ∀ k, k < P.length → 0 ≤ (P.getD k SW.z).1
  at1 : ∀ k, k < P.length → (P.getD k SW.z).1 < N
  wl : ∀ k, k < P.length → (P.getD k SW.z).2.length = 64
theorem dev_facts {N : Int} {B : List Int} {P : List SwD} (h : isDevB N B P = true) : DevFacts N B P := by
  unfold isDevB at h
  simp only [Bool.and_eq_true, decide_eq_true_eq, beq_iff_eq, Bool.not_eq_true'] at h
  obtain ⟨h1, h2, h3, h4, h5⟩ := h
  rw [wrap64 _ (by omega) (by omega)] at h3
  have hall : ∀ k, k < P.length → badB N (P.getD k SW.z) = false := by
    intro k hk
    rw [List.any_eq_false] at h5
    have := h5 (P[k]) (List.getElem_mem hk)
    rw [List.getD_eq_getElem?_getD, List.getElem?_eq_getElem hk]
    simpa using this
  have hb : ∀ k, k < P.length → (0 ≤ (P.getD k SW.z).1 ∧ (P.getD k SW.z).1 < N) ∧ (P.getD k SW.z).2.length = 64 := by
    intro k hk
    have := hall k hk
    simp only [badB, Bool.or_eq_false_iff, Bool.not_eq_false', Bool.and_eq_true, decide_eq_true_eq] at this
    refine ⟨⟨this.1.1, this.1.2⟩, ?_⟩
    have h6 := this.2
    rw [bne, Bool.not_eq_false', beq_iff_eq] at h6
    omega
  exact ⟨h1, h2, h3, by omega, fun k hk => (hb k hk).1.1, fun k hk => (hb k hk).1.2, fun k hk => (hb k hk).2⟩
theorem settleN_len {many : Nat → Nat} {N : Int} {B : List Int} {P : List SwD} (h : DevFacts N B P) : ∀ k, k ≤ P.length → (settleN many P B k).length = B.length
  | 0, _ => rfl
  | k + 1, hk => by
    have ih := settleN_len (many := many) h k (by omega)
    show (putAt (settleN many P B k) ((P.getD k SW.z).1.toNat * 64) ((P.getD k SW.z).2.take (many k))).length = _
    rw [putAt_len, ih]
    have h0 := h.at0 k (by omega)
    have h1 := h.at1 k (by omega)
    have h2 := h.wl k (by omega)
    have h3 := h.len
    rw [ih, List.length_take, h2]
    omega
theorem copy_put {B src : List Int} {off n : Nat} (hn : n ≤ src.length) (h : off + n ≤ B.length) :
    List.take (0 + off) (List.drop 0 B) ++ List.take ((List.take n (List.drop 0 src)).length.min (B.length - off)) (List.drop 0 (List.take n (List.drop 0 src))) ++ List.take (B.length - (0 + off + (List.take n (List.drop 0 src)).length.min (B.length - off))) (List.drop (0 + off + (List.take n (List.drop 0 src)).length.min (B.length - off)) B) = putAt B off (src.take n) := by
  have e1 : (List.take n (List.drop 0 src)).length = n := by simp; omega
  have e2 : n.min (B.length - off) = n := Nat.min_eq_left (by omega)
  rw [e1, e2]
  simp only [Nat.zero_add, List.drop_zero]
  unfold putAt
  rw [List.append_assoc]
  congr 1
  rw [List.length_take, Nat.min_eq_left hn, List.take_of_length_le (l := List.take n src) (by simp; omega), List.take_of_length_le (l := List.drop (off + n) B) (by simp)]
end Go.Ev
/- Devices: settle's contract; Flush. -/
namespace Go.Ev
open Go.Proofs
def Try.A63 : AFun := pureA (fun args => Try.Sdev isDevB (nzDevs args))
end Go.Ev
/- Answers whose blocks are frozen. -/
namespace Go.Ev
inductive FzL (id : Nat) (con : Con) : List AV → List AV → Prop
  | nil : FzL id con [] []
  | cons {v v' : AV} {l l' : List AV} : FzV id con v v' → FzL id con l l' → FzL id con (v :: l) (v' :: l')
theorem FzL.refl (id : Nat) (con : Con) : ∀ l, FzL id con l l
  | [] => .nil
  | _ :: l => .cons (.inl rfl) (FzL.refl id con l)
inductive FzT (id : Nat) (con : Con) : AV → AV → Prop
  | one {v v' : AV} : FzV id con v v' → FzT id con v v'
  | agg {l l' : List AV} : FzL id con l l' → FzT id con (.agg l) (.agg l')
  | tup1 {l l' m : List AV} : FzL id con l l' → FzT id con (.tup (.agg l :: m)) (.tup (.agg l' :: m))
  | tup {l l' : List AV} : FzL id con l l' → FzT id con (.tup l) (.tup l')
theorem FzL.rel {id : Nat} {con : Con} {w : World} {c c2 : Cx} (hx : ∀ v v' u, FzV id con v v' → VR w c v u → VR w c2 v' u) : ∀ {l l' : List AV} {us : List Value}, FzL id con l l' → VRs w c l us → VRs w c2 l' us
  | _, _, _, .nil, h => by cases h; exact .nil
  | _, _, _, .cons h1 h2, h => by
    cases h with | cons _ u _ us k1 k2 => exact .cons _ _ _ _ (hx _ _ _ h1 k1) (h2.rel hx k2)
theorem FzT.rel {id : Nat} {con : Con} {w : World} {c c2 : Cx} (hx : ∀ v v' u, FzV id con v v' → VR w c v u → VR w c2 v' u) {v v' : AV} {u : Value} (h : FzT id con v v') (hu : VR w c v u) : VR w c2 v' u := by
  cases h with
  | one h => exact hx _ _ _ h hu
  | agg h => cases hu with | agg _ _ k => exact .agg _ _ (h.rel hx k)
  | tup h => cases hu with | tup _ _ k => exact .tup _ _ (h.rel hx k)
  | tup1 h =>
    cases hu with | tup _ _ k =>
    cases k with | cons _ u _ us k1 k2 =>
    cases k1 with | agg _ _ k =>
    exact .tup _ _ (.cons _ _ _ _ (.agg _ _ (h.rel hx k)) ((FzL.refl id con _).rel hx k2))
theorem Weak.fz {v v' : AV} {con : Con} {n id : Nat} {es : List Ent} (hk : (⟨n, ⟨id, 0, .cells con⟩ :: es⟩ : Heap).ok) (hp : con.pureF = true) (hv : FzT id con v v') : Weak ⟨[v], [], ⟨n, ⟨id, 0, .cells con⟩ :: es⟩⟩ ⟨[v'], [], ⟨n, es⟩⟩ := by
  have hu := hk.uniq
  unfold Uniq at hu
  rw [List.map_cons, List.nodup_cons] at hu
  have hne : ∀ j b, (⟨n, es⟩ : Heap).G j = some b → j ≠ id := by
    intro j b hj e
    subst e
    simp only [Heap.G, Option.map_eq_some_iff] at hj
    obtain ⟨e0, he, _⟩ := hj
    refine hu.1 (List.mem_map.2 ⟨e0, findE_some_mem he, findE_id he⟩)
  have hsame : ∀ j, j ≠ id → findE (⟨id, 0, .cells con⟩ :: es) j = findE es j := by
    intro j hj
    rw [findE_cons, if_neg (fun e => hj e.symm)]
  refine Weak.freezeX (s := ⟨[v], [], ⟨n, ⟨id, 0, .cells con⟩ :: es⟩⟩) hk id con ?_ hp ⟨hu.2, fun j e hj => ?_⟩ (Nat.le_refl _) (fun w c c2 us hx h => ?_) (fun j b' hj => ?_)
  · show (findE (⟨id, 0, .cells con⟩ :: es) id).map (·.blk) = _
    rw [findE_cons, if_pos rfl]; rfl
  · have h1 : (⟨n, es⟩ : Heap).G j = some e.blk := by simp [Heap.G, hj]
    exact hk.lt j e (by rw [hsame j (hne j _ h1)]; exact hj)
  · cases h with | cons _ u _ us k1 k2 => exact .cons _ _ _ _ (hv.rel hx k1) (by cases k2; exact .nil)
  · refine ⟨hne j b' hj, .inl ?_⟩
    show (findE _ j).map _ = _
    rw [hsame j (hne j _ hj)]; exact hj
theorem Alone.fz1 {P : Program} {g : Nat} {args : List AV} {con : Con} (hp : con.pureF = true) {v v' : AV} (hc : outV v' ⟨1, []⟩ = some (v', ⟨0, []⟩)) (hv : FzT 0 con v v') (h : Alone P g args v (oneH con)) : Alone P g args v' ⟨0, []⟩ := by
  have w1 := Weak.fz (v := v) (v' := v') (n := 1) (id := 0) (es := []) (oneH_ok con) hp hv
  have w2 := Weak.canon (s := ⟨[v'], [], ⟨1, []⟩⟩) w1.1 [0]
  have := Alone.outW (v' := getT (canon (some [0]) ⟨[v'], [], ⟨1, []⟩⟩).t 0) (h3 := (canon (some [0]) ⟨[v'], [], ⟨1, []⟩⟩).h) (w1.trans w2) h
  unfold outV at hc
  injection hc with hc
  injection hc with h1 h2
  rw [h1, h2] at this
  exact this
theorem two_ok (c1 c0 : Con) : (⟨2, [⟨1, 0, .cells c1⟩, ⟨0, 0, .cells c0⟩]⟩ : Heap).ok := by
  refine ⟨by show List.Nodup [1, 0]; decide, fun id e h => ?_⟩
  have h' : (bif Nat.beq 1 id then some _ else bif Nat.beq 0 id then some _ else none) = some e := h
  show id < 2
  rcases Nat.lt_or_ge id 2 with q | q
  · exact q
  · rw [show Nat.beq 1 id = false from beqF (by omega), show Nat.beq 0 id = false from beqF (by omega)] at h'
    cases h'
theorem Alone.fz2 {P : Program} {g : Nat} {args : List AV} {c1 c0 : Con} (hp1 : c1.pureF = true) (hp0 : c0.pureF = true) {v v1 v' : AV} (hc : outV v' ⟨2, []⟩ = some (v', ⟨0, []⟩)) (hv : FzT 1 c1 v v1) (hv' : FzT 0 c0 v1 v') (h : Alone P g args v ⟨2, [⟨1, 0, .cells c1⟩, ⟨0, 0, .cells c0⟩]⟩) : Alone P g args v' ⟨0, []⟩ := by
  have w1 := Weak.fz (v := v) (v' := v1) (n := 2) (id := 1) (es := [⟨0, 0, .cells c0⟩]) (two_ok c1 c0) hp1 hv
  have w2 := Weak.fz (v := v1) (v' := v') (n := 2) (id := 0) (es := []) w1.1 hp0 hv'
  have w3 := Weak.canon (s := ⟨[v'], [], ⟨2, []⟩⟩) w2.1 [0]
  have := Alone.outW (v' := getT (canon (some [0]) ⟨[v'], [], ⟨2, []⟩⟩).t 0) (h3 := (canon (some [0]) ⟨[v'], [], ⟨2, []⟩⟩).h) ((w1.trans w2).trans w3) h
  unfold outV at hc
  injection hc with hc
  injection hc with h1 h2
  rw [h1, h2] at this
  exact this
theorem Alone.resW {P : Program} {g : Nat} {args : List AV} {v v' : AV} {h2 : Heap} (hv : AW v v') (h : Alone P g args v h2) : Alone P g args v' h2 :=
  Alone.outW (v := v) (v' := v') (h2 := h2) (h3 := h2) ⟨h.1, fun w c a hr hq => ⟨c, ⟨by
    have := hr.t
    generalize a.tmps.toList = us at this
    cases this with | cons _ u _ us k1 k2 => exact .cons _ _ _ _ (hv _ _ _ k1) k2, hr.h, hr.d, hr.dv⟩, (Ext.refl w c).w, hq⟩⟩ h
theorem AW.tup {l l' : List AV} (h : AWs l l') : AW (.tup l) (.tup l') := fun w c u hu => by
  cases hu with | tup _ _ k => exact .tup _ _ (AWs.args h w c _ k)
end Go.Ev
