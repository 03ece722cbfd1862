/- The evaluator, its soundness and the walks: part 9. -/
import Derived.Test.YtninaidfifiliaaC8
set_option linter.unusedSimpArgs false
set_option linter.unusedVariables false
set_option linter.unusedSectionVars false
/- Devices: settle. -/
set_option linter.unusedVariables false
set_option maxRecDepth 100000
namespace Go.Ev
open Go.Proofs
noncomputable section
def Try.E68 : Env := Try.env0 false (sumsOf []) (keepF 68 [(1, [0,1,10,11,12])])
def Try.b68 : Code := nthD .skip (loopsOf (bodyOf Try.E68 68)) 0
def Try.B68 (s : St) : Option (AX × St) := codeP Try.E68 (callF Try.E68 3) (Try.E68.keep 68) (lsumsOf []) 3 Try.b68 (outKP 3 [0,1,10,11,12] [0]) s
def Try.V68 (P : List SwD) (k : Nat) : List AV := [.ptr 0 0 0, .clo (.func 97) [] [], .own 2 0 P.length none 2, .val (.int .i64 P.length), .val (.int .i64 k)]
def Try.H68 (N : Int) (B : List Int) (P : List SwD) : Heap := ⟨3, [⟨2, 0, .cells (SW.con P)⟩, ⟨1, 0, .cells (.ints .u8 B)⟩, ⟨0, 0, .cells (.rows false 3 [[.val (.int .i64 N), .own 1 0 B.length none 1, .own 2 0 P.length none 2]])⟩]⟩
/-- Bytes written over others. -/
def putAt (B : List Int) (off : Nat) (src : List Int) : List Int := B.take off ++ (src ++ B.drop (off + src.length))
/-- The bytes behind the first 'k' writes, of each of which so many bytes are kept. -/
def settleN (many : Nat → Nat) (P : List SwD) (B : List Int) (k : Nat) : List Int := Nat.rec B (fun k ih => putAt ih ((P.getD k SW.z).1.toNat * 64) ((P.getD k SW.z).2.take (many k))) k
def Try.f68L (vs : List AV) (h : Heap) : Ans (AX × List AV × Heap) := match vs, h with
  | [.ptr 0 0 0, .clo (.func 97) [] [], .own 2 0 n none 2, .val (.int .i64 m), .val (.int .i64 (.ofNat 0))], ⟨3, [⟨2, 0, .cells c⟩, ⟨1, 0, .cells (.ints .u8 B)⟩, ⟨0, 0, .cells (.rows false 3 [[.val (.int .i64 N), .own 1 0 bl none 1, .own 2 0 n' none 2]])⟩]⟩ =>
    .grd (m == (c.len : Int) && (decide (n = c.len) && (decide (n' = c.len) && (decide (bl = B.length) && (c.pureF && (SW.ok c && isDevB N B (SW.list c))))))) (.out (.exit 0, [.ptr 0 0 0], Try.H68 N (settleN (fun _ => 64) (SW.list c) B c.len) (SW.list c)))
  | _, _ => .no
def Try.L68 : LSum := toLSum 38 [0,1,10,11,12] [0] Try.f68L
end
theorem Try.r68 (N : Int) (B : List Int) (P : List SwD) (k : Nat) : Try.B68 (stOf 38 [0,1,10,11,12] (Try.V68 P k) (Try.H68 N B P)) =
      bif decide ((↑k : Int) < (↑P.length : Int)) then
       bif inR (↑k : Int) P.length then
        bif (0 + k).blt P.length then
         bif decide (0 ≤ IntKind.i64.wrap ((P.getD (0 + k) SW.z).fst * 64)) && decide (IntKind.i64.wrap ((P.getD (0 + k) SW.z).fst * 64) ≤ (↑B.length : Int)) then
          bif decide (64 ≤ (↑(P.getD (0 + k) SW.z).snd.length : Int)) then
           bif (0 + (IntKind.i64.wrap ((P.getD (0 + k) SW.z).fst * 64)).toNat + (B.length - (IntKind.i64.wrap ((P.getD (0 + k) SW.z).fst * 64)).toNat)).ble B.length && true then
            some (.normal, stOf 38 [0, 1, 10, 11, 12] [.ptr 0 (0) 0, .clo (Fn.func 97) [] [], .own 2 (0) (P.length) none 2, .val (.int .i64 ((↑P.length : Int))), .val (.int .i64 (IntKind.i64.wrap ((↑k : Int) + 1)))] ⟨3, [⟨2, 0, .cells (.tab 2 (P.length) (fun i => SW.row (P.getD i SW.z)))⟩, ⟨1, 0, .cells (.ints .u8 (List.take (0 + (IntKind.i64.wrap ((P.getD (0 + k) SW.z).fst * 64)).toNat) (List.drop 0 B) ++ List.take ((List.take 64 (List.drop 0 (P.getD (0 + k) SW.z).snd)).length.min (B.length - (IntKind.i64.wrap ((P.getD (0 + k) SW.z).fst * 64)).toNat)) (List.drop 0 (List.take 64 (List.drop 0 (P.getD (0 + k) SW.z).snd))) ++ List.take (B.length - (0 + (IntKind.i64.wrap ((P.getD (0 + k) SW.z).fst * 64)).toNat + (List.take 64 (List.drop 0 (P.getD (0 + k) SW.z).snd)).length.min (B.length - (IntKind.i64.wrap ((P.getD (0 + k) SW.z).fst * 64)).toNat))) (List.drop (0 + (IntKind.i64.wrap ((P.getD (0 + k) SW.z).fst * 64)).toNat + (List.take 64 (List.drop 0 (P.getD (0 + k) SW.z).snd)).length.min (B.length - (IntKind.i64.wrap ((P.getD (0 + k) SW.z).fst * 64)).toNat)) B)))⟩, ⟨0, 0, .cells (.rows false 3 ([.val (.int .i64 (N)), .own 1 (0) (B.length) none 1, .own 2 (0) (P.length) none 2] :: []))⟩]⟩ )
           else
            none
          else
           none
         else
          none
        else
         none
       else
        none
      else
       some (.exit 0, stOf 38 [0] [.ptr 0 (0) 0] ⟨3, [⟨2, 0, .cells (.tab 2 (P.length) (fun i => SW.row (P.getD i SW.z)))⟩, ⟨1, 0, .cells (.ints .u8 (B))⟩, ⟨0, 0, .cells (.rows false 3 ([.val (.int .i64 (N)), .own 1 (0) (B.length) none 1, .own 2 (0) (P.length) none 2] :: []))⟩]⟩ ) := by kernel_rfl
theorem Try.e68 : EnvOk2 Try.prog Try.E68 := Try.envOk false (sumsOf []) _ (fun g A h => by cases h)
theorem putAt_len {B : List Int} {off : Nat} {src : List Int} (h : off + src.length ≤ B.length) : (putAt B off src).length = B.length := by
  simp [putAt]; omega
structure DevFacts (N : Int) (B : List Int) (P : List SwD) : Prop where
  lo : 8 ≤ N
  hi : N ≤ 4096
  len : (B.length : Int) = N * 64
  few : P.length ≤ 2000
  at0 : ∀ k, k < P.length → 0 ≤ (P.getD k SW.z).1
  at1 : ∀ k, k < P.length → (P.getD k SW.z).1 < N
  wl : ∀ k, k < P.length → (P.getD k SW.z).2.length = 64
theorem dev_facts {N : Int} {B : List Int} {P : List SwD} (h : isDevB N B P = true) : DevFacts N B P := by
  unfold isDevB at h
  simp only [Bool.and_eq_true, decide_eq_true_eq, beq_iff_eq, Bool.not_eq_true'] at h
  obtain ⟨h1, h2, h3, h4, h5⟩ := h
  rw [wrap64 _ (by omega) (by omega)] at h3
  have hall : ∀ k, k < P.length → badB N (P.getD k SW.z) = false := by
    intro k hk
    rw [List.any_eq_false] at h5
    have := h5 (P[k]) (List.getElem_mem hk)
    rw [List.getD_eq_getElem?_getD, List.getElem?_eq_getElem hk]
    simpa using this
  have hb : ∀ k, k < P.length → (0 ≤ (P.getD k SW.z).1 ∧ (P.getD k SW.z).1 < N) ∧ (P.getD k SW.z).2.length = 64 := by
    intro k hk
    have := hall k hk
    simp only [badB, Bool.or_eq_false_iff, Bool.not_eq_false', Bool.and_eq_true, decide_eq_true_eq] at this
    refine ⟨⟨this.1.1, this.1.2⟩, ?_⟩
    have h6 := this.2
    rw [bne, Bool.not_eq_false', beq_iff_eq] at h6
    omega
  exact ⟨h1, h2, h3, by omega, fun k hk => (hb k hk).1.1, fun k hk => (hb k hk).1.2, fun k hk => (hb k hk).2⟩
theorem settleN_len {many : Nat → Nat} {N : Int} {B : List Int} {P : List SwD} (h : DevFacts N B P) : ∀ k, k ≤ P.length → (settleN many P B k).length = B.length
  | 0, _ => rfl
  | k + 1, hk => by
    have ih := settleN_len (many := many) h k (by omega)
    show (putAt (settleN many P B k) ((P.getD k SW.z).1.toNat * 64) ((P.getD k SW.z).2.take (many k))).length = _
    rw [putAt_len, ih]
    have h0 := h.at0 k (by omega)
    have h1 := h.at1 k (by omega)
    have h2 := h.wl k (by omega)
    have h3 := h.len
    rw [ih, List.length_take, h2]
    omega
theorem Try.H68_ok (N : Int) (B : List Int) (P : List SwD) : (Try.H68 N B P).ok := by
  refine ⟨by show List.Nodup [2, 1, 0]; decide, fun id e h => ?_⟩
  have h' : (bif Nat.beq 2 id then some _ else bif Nat.beq 1 id then some _ else bif Nat.beq 0 id then some _ else none) = some e := h
  have : id < 3 := by
    rcases Nat.lt_or_ge id 3 with q | q
    · exact q
    · rw [show Nat.beq 2 id = false from beqF (by omega), show Nat.beq 1 id = false from beqF (by omega), show Nat.beq 0 id = false from beqF (by omega)] at h'
      cases h'
  exact this
/-- One write is settled. -/
theorem copy_put {B src : List Int} {off n : Nat} (hn : n ≤ src.length) (h : off + n ≤ B.length) :
    List.take (0 + off) (List.drop 0 B) ++ List.take ((List.take n (List.drop 0 src)).length.min (B.length - off)) (List.drop 0 (List.take n (List.drop 0 src))) ++ List.take (B.length - (0 + off + (List.take n (List.drop 0 src)).length.min (B.length - off))) (List.drop (0 + off + (List.take n (List.drop 0 src)).length.min (B.length - off)) B) = putAt B off (src.take n) := by
  have e1 : (List.take n (List.drop 0 src)).length = n := by simp; omega
  have e2 : n.min (B.length - off) = n := Nat.min_eq_left (by omega)
  rw [e1, e2]
  simp only [Nat.zero_add, List.drop_zero]
  unfold putAt
  rw [List.append_assoc]
  congr 1
  rw [List.length_take, Nat.min_eq_left hn, List.take_of_length_le (l := List.take n src) (by simp; omega), List.take_of_length_le (l := List.drop (off + n) B) (by simp)]
theorem Try.s68 {N : Int} {B : List Int} {P : List SwD} (h : DevFacts N B P) {C : List Int} (hC : C.length = B.length) {k : Nat} (hk : k < P.length) :
    Try.B68 (stOf 38 [0,1,10,11,12] (Try.V68 P k) (Try.H68 N C P)) = some (.normal, stOf 38 [0,1,10,11,12] (Try.V68 P (k + 1)) (Try.H68 N (putAt C ((P.getD k SW.z).1.toNat * 64) ((P.getD k SW.z).2.take 64)) P)) := by
  refine (Try.r68 N C P k).trans ?_
  have h0 := h.at0 k hk
  have h1 := h.at1 k hk
  have h2 := h.wl k hk
  have h3 := h.len
  have h4 := h.hi
  have h5 := h.few
  rw [Nat.zero_add]
  generalize P.getD k SW.z = e at *
  have ew : IntKind.i64.wrap (e.1 * 64) = e.1 * 64 := wrap64 _ (by omega) (by omega)
  have et : (e.1 * 64).toNat = e.1.toNat * 64 := by omega
  rw [ew, et]
  rw [copy_put (by omega) (by omega), declt_nat, decide_eq_true hk, inR_nat, decide_eq_true hk, blt_t hk, decide_eq_true (show 0 ≤ e.1 * 64 by omega), decide_eq_true (show e.1 * 64 ≤ (C.length : Int) by omega), decide_eq_true (show 64 ≤ (e.2.length : Int) by omega), ble_t (show 0 + e.1.toNat * 64 + (C.length - e.1.toNat * 64) ≤ C.length by omega), wrapT k (by omega)]
  have hl : (putAt C (e.1.toNat * 64) (e.2.take 64)).length = C.length := putAt_len (by simp; omega)
  unfold Try.H68
  rw [hl]
  rfl
theorem Try.l68 : ∀ s e s', s.h.ok → (Try.L68 s).run = some (e, s') → TripleP Try.prog 3 (.loop Try.b68) s e s' := by
  refine loop_lawP Try.e68 (p := 3) (d := 3) (g := 68) (ls := lsumsOf []) (c := Try.b68) trivial 38 [0,1,10,11,12] [0] (T := Int × List Int × List SwD × Nat)
    (fun x => Try.V68 x.2.2.1 x.2.2.2) (fun x => Try.H68 x.1 (settleN (fun _ => 64) x.2.2.1 x.2.1 x.2.2.2) x.2.2.1) (fun x => DevFacts x.1 x.2.1 x.2.2.1 ∧ x.2.2.2 ≤ x.2.2.1.length) (fun x => x.2.2.1.length - x.2.2.2)
    (fun x => (.exit 0, [.ptr 0 0 0], Try.H68 x.1 (settleN (fun _ => 64) x.2.2.1 x.2.1 x.2.2.1.length) x.2.2.1)) Try.f68L ?_ (fun x _ => Try.H68_ok _ _ _) ?_
  · intro vs h e vo h' hok hf
    unfold Try.f68L at hf
    split at hf
    · rename_i n m c B N bl n'
      rw [Ans.run_grd] at hf
      cases hb : (m == (c.len : Int) && (decide (n = c.len) && (decide (n' = c.len) && (decide (bl = B.length) && (c.pureF && (SW.ok c && isDevB N B (SW.list c))))))) with
      | false => rw [hb] at hf; cases hf
      | true =>
      rw [hb, cond_true] at hf
      simp only [Bool.and_eq_true, beq_iff_eq, decide_eq_true_eq] at hb
      obtain ⟨rfl, rfl, rfl, rfl, h1, h2, h3⟩ := hb
      injection hf with hf
      have e1 : (SW.list c).length = c.len := SW.list_len c
      refine ⟨(N, B, SW.list c, 0), ⟨dev_facts h3, Nat.zero_le _⟩, ?_, by rw [← e1] at hf; exact hf⟩
      show WeakP 3 _ (stOf 38 [0,1,10,11,12] [.ptr 0 0 0, .clo (.func 97) [] [], .own 2 0 (SW.list c).length none 2, .val (.int .i64 (SW.list c).length), .val (.int .i64 (0 : Nat))] (Try.H68 N B (SW.list c)))
      unfold Try.H68
      rw [e1]
      exact WeakP.heap hok (.con 2 0 0 (by rw [h1]; rfl) (SW.conv h2) (EsW.refl _))
    · cases hf
  · rintro ⟨N, B, P, k⟩ ⟨hd, hk⟩
    simp only at hd hk
    by_cases h : k < P.length
    · exact .inl ⟨(N, B, P, k + 1), _, Try.s68 hd (settleN_len hd k hk) h, WeakP.refl (Try.H68_ok _ _ _), ⟨hd, h⟩, by show P.length - (k + 1) < P.length - k; omega, rfl⟩
    · have : k = P.length := by omega
      subst this
      have key := Try.r68 N (settleN (fun _ => 64) P B P.length) P P.length
      rw [declt_nat, decide_eq_false h] at key
      exact .inr ⟨_, key, WeakP.refl (Try.H68_ok _ _ _), by simp⟩
theorem Try.w68 (N : Int) (B : List Int) (P : List SwD) : rootE Try.E68 3 68 3 (lsumsOf [(1, Try.L68)]) [.ptr 0 0 0, .clo (.func 97) [] []] (Try.H68 N B P) =
      bif (↑P.length : Int) == (↑P.length : Int) && (decide (P.length = P.length) && (decide (P.length = P.length) && (decide (B.length = B.length) && (SW.ok (SW.con P) && isDevB N B (SW.list (SW.con P)))))) then
       some (.tup [], ⟨3, [⟨2, 0, .cells (.tab 2 ((SW.list (SW.con P)).length) (fun i => SW.row ((SW.list (SW.con P)).getD i SW.z)))⟩, ⟨1, 0, .cells (.ints .u8 (settleN (fun x => 64) (SW.list (SW.con P)) B P.length))⟩, ⟨0, 0, .cells (.rows false 3 ([.val (.int .i64 (N)), .own 1 (0) ((settleN (fun x => 64) (SW.list (SW.con P)) B P.length).length) none 1, .val (.slice none 0 0)] :: []))⟩]⟩)
      else
       none := by kernel_rfl
end Go.Ev

/- Devices: settle's contract; Flush. -/
set_option linter.unusedVariables false
set_option maxRecDepth 100000
namespace Go.Ev
open Go.Proofs
noncomputable section
def Try.H68' (N : Int) (B : List Int) (P : List SwD) : Heap := ⟨3, [⟨2, 0, .cells (SW.con P)⟩, ⟨1, 0, .cells (.ints .u8 B)⟩, ⟨0, 0, .cells (.rows false 3 [[.val (.int .i64 N), .own 1 0 B.length none 1, .val (.slice none 0 0)]])⟩]⟩
def Try.S68 (args : List AV) (h : Heap) : Ans (AV × Heap) := match args, h with
  | [.ptr 0 0 0, .clo (.func 97) [] []], ⟨3, [⟨2, 0, .cells c⟩, ⟨1, 0, .cells (.ints .u8 B)⟩, ⟨0, 0, .cells (.rows false 3 [[.val (.int .i64 N), .own 1 0 bl none 1, .own 2 0 n none 2]])⟩]⟩ =>
    .grd (decide (n = c.len) && (decide (bl = B.length) && (c.pureF && (SW.ok c && isDevB N B (SW.list c))))) (.out (.tup [], Try.H68' N (settleN (fun _ => 64) (SW.list c) B (SW.list c).length) (SW.list c)))
  | _, _ => .no
def Try.A68 : AFun := effA Try.S68
end
theorem Try.sum68 : SumC Try.prog 68 Try.A68 := by
  refine effSumR 68 ⟨Try.f68, _, Try.fnOk68.1, Try.fnOk68.2, rfl⟩ ?_
  intro args h v h2 hok hs
  unfold Try.S68 at hs
  split at hs
  · rename_i c B N bl n
    rw [Ans.run_grd] at hs
    cases hb : (decide (n = c.len) && (decide (bl = B.length) && (c.pureF && (SW.ok c && isDevB N B (SW.list c))))) with
    | false => rw [hb] at hs; cases hs
    | true =>
      rw [hb, cond_true] at hs
      simp only [Bool.and_eq_true, decide_eq_true_eq] at hb
      obtain ⟨rfl, rfl, h1, h2', h3⟩ := hb
      have e1 : (SW.list c).length = c.len := SW.list_len c
      refine EffAlone.weak (args' := [.ptr 0 0 0, .clo (.func 97) [] []]) (h' := Try.H68 N B (SW.list c)) ?_ (rootE_alone Try.e68 (d := 3) (p := 3) (ls := lsumsOf [(1, Try.L68)]) (AllL.of1 (a := Try.b68) (by kernel_rfl) (LsOkP.of rfl rfl Try.l68)) (Try.H68_ok _ _ _) ((Try.w68 N B (SW.list c)).trans ?_))
      · unfold Try.H68
        rw [e1]
        exact WeakP.heap hok (.con 2 0 0 (by rw [h1]; rfl) (SW.conv h2') (EsW.refl _))
      · rw [← hs, SW_list_con, SW.ok_con, h3, beq_self_eq_true, decide_eq_true (rfl : (SW.list c).length = (SW.list c).length), decide_eq_true (rfl : B.length = B.length)]
        rfl
  · cases hs
noncomputable section
def Try.A63 : AFun := pureA (fun args => Try.Sdev isDevB (nzDevs args))
def Try.t24 : List (Nat × AFun) := [(63, Try.A63), (64, Try.A64), (68, Try.A68)]
def Try.E24 : Env := Try.env0 false (sumsOf Try.t24) (keepF 0 [])
end
theorem Try.e24 : EnvOk2 Try.prog Try.E24 := Try.envOk false (sumsOf Try.t24) _ (sumsOf_ok (show AllS Try.prog Try.t24 from ⟨Try.sum63, Try.sum64, Try.sum68, trivial⟩))
theorem Try.w24 (N : Int) (B : List Int) (P : List SwD) : rootS Try.E24 5 24 (lsumsOf []) [devA N B P] =
      bif okSW (SW.con P) then
       bif isDevB N B (SW.list (SW.con P)) then
        bif okSW (SW.con P) && (B.length.ble 1000000 && (P.length.ble 1000000 && lensOk (SW.list (SW.con P)))) then
         bif decide ((SW.list (SW.con P)).length = (SW.list (SW.con P)).length) && (decide (B.length = B.length) && (SW.ok (SW.con (SW.list (SW.con P))) && isDevB N B (SW.list (SW.con (SW.list (SW.con P)))))) then
          some (.tup [.agg [.val (.int .i64 (N)), .own 0 (0) ((settleN (fun x => 64) (SW.list (SW.con (SW.list (SW.con P)))) B (SW.list (SW.con (SW.list (SW.con P)))).length).length) none 1, .val (.slice none 0 0)], .val (.int .i64 (0))], ⟨1, [⟨0, 0, .cells (.ints .u8 (settleN (fun x => 64) (SW.list (SW.con (SW.list (SW.con P)))) B (SW.list (SW.con (SW.list (SW.con P)))).length))⟩]⟩)
         else
          none
        else
         none
       else
        some (.tup [.agg [.val (.int .i64 (0)), .val (.slice none 0 0), .val (.slice none 0 0)], .val (.int .i64 (400))], ⟨0, []⟩)
      else
       none := by kernel_rfl
end Go.Ev

/- Answers whose blocks are frozen. -/
set_option linter.unusedSimpArgs false
set_option linter.unusedVariables false
namespace Go.Ev
inductive FzL (id : Nat) (con : Con) : List AV → List AV → Prop
  | nil : FzL id con [] []
  | cons {v v' : AV} {l l' : List AV} : FzV id con v v' → FzL id con l l' → FzL id con (v :: l) (v' :: l')
theorem FzL.refl (id : Nat) (con : Con) : ∀ l, FzL id con l l
  | [] => .nil
  | _ :: l => .cons (.inl rfl) (FzL.refl id con l)
/-- Within a struct, or a struct of several results. -/
inductive FzT (id : Nat) (con : Con) : AV → AV → Prop
  | one {v v' : AV} : FzV id con v v' → FzT id con v v'
  | agg {l l' : List AV} : FzL id con l l' → FzT id con (.agg l) (.agg l')
  | tup1 {l l' m : List AV} : FzL id con l l' → FzT id con (.tup (.agg l :: m)) (.tup (.agg l' :: m))
  | tup {l l' : List AV} : FzL id con l l' → FzT id con (.tup l) (.tup l')
theorem FzL.rel {id : Nat} {con : Con} {w : World} {c c2 : Cx} (hx : ∀ v v' u, FzV id con v v' → VR w c v u → VR w c2 v' u) : ∀ {l l' : List AV} {us : List Value}, FzL id con l l' → VRs w c l us → VRs w c2 l' us
  | _, _, _, .nil, h => by cases h; exact .nil
  | _, _, _, .cons h1 h2, h => by
    cases h with | cons _ u _ us k1 k2 => exact .cons _ _ _ _ (hx _ _ _ h1 k1) (h2.rel hx k2)
theorem FzT.rel {id : Nat} {con : Con} {w : World} {c c2 : Cx} (hx : ∀ v v' u, FzV id con v v' → VR w c v u → VR w c2 v' u) {v v' : AV} {u : Value} (h : FzT id con v v') (hu : VR w c v u) : VR w c2 v' u := by
  cases h with
  | one h => exact hx _ _ _ h hu
  | agg h => cases hu with | agg _ _ k => exact .agg _ _ (h.rel hx k)
  | tup h => cases hu with | tup _ _ k => exact .tup _ _ (h.rel hx k)
  | tup1 h =>
    cases hu with | tup _ _ k =>
    cases k with | cons _ u _ us k1 k2 =>
    cases k1 with | agg _ _ k =>
    exact .tup _ _ (.cons _ _ _ _ (.agg _ _ (h.rel hx k)) ((FzL.refl id con _).rel hx k2))
/-- The topmost block of an answer is frozen. -/
theorem Weak.fz {v v' : AV} {con : Con} {n id : Nat} {es : List Ent} (hk : (⟨n, ⟨id, 0, .cells con⟩ :: es⟩ : Heap).ok) (hp : con.pureF = true) (hv : FzT id con v v') : Weak ⟨[v], [], ⟨n, ⟨id, 0, .cells con⟩ :: es⟩⟩ ⟨[v'], [], ⟨n, es⟩⟩ := by
  have hu := hk.uniq
  unfold Uniq at hu
  rw [List.map_cons, List.nodup_cons] at hu
  have hne : ∀ j b, (⟨n, es⟩ : Heap).G j = some b → j ≠ id := by
    intro j b hj e
    subst e
    simp only [Heap.G, Option.map_eq_some_iff] at hj
    obtain ⟨e0, he, _⟩ := hj
    refine hu.1 (List.mem_map.2 ⟨e0, findE_some_mem he, findE_id he⟩)
  have hsame : ∀ j, j ≠ id → findE (⟨id, 0, .cells con⟩ :: es) j = findE es j := by
    intro j hj
    rw [findE_cons, if_neg (fun e => hj e.symm)]
  refine Weak.freezeX (s := ⟨[v], [], ⟨n, ⟨id, 0, .cells con⟩ :: es⟩⟩) hk id con ?_ hp ⟨hu.2, fun j e hj => ?_⟩ (Nat.le_refl _) (fun w c c2 us hx h => ?_) (fun j b' hj => ?_)
  · show (findE (⟨id, 0, .cells con⟩ :: es) id).map (·.blk) = _
    rw [findE_cons, if_pos rfl]; rfl
  · have h1 : (⟨n, es⟩ : Heap).G j = some e.blk := by simp [Heap.G, hj]
    exact hk.lt j e (by rw [hsame j (hne j _ h1)]; exact hj)
  · cases h with | cons _ u _ us k1 k2 => exact .cons _ _ _ _ (hv.rel hx k1) (by cases k2; exact .nil)
  · refine ⟨hne j b' hj, .inl ?_⟩
    show (findE _ j).map _ = _
    rw [hsame j (hne j _ hj)]; exact hj
theorem Alone.fz1 {P : Program} {g : Nat} {args : List AV} {con : Con} (hp : con.pureF = true) {v v' : AV} (hc : outV v' ⟨1, []⟩ = some (v', ⟨0, []⟩)) (hv : FzT 0 con v v') (h : Alone P g args v (oneH con)) : Alone P g args v' ⟨0, []⟩ := by
  have w1 := Weak.fz (v := v) (v' := v') (n := 1) (id := 0) (es := []) (oneH_ok con) hp hv
  have w2 := Weak.canon (s := ⟨[v'], [], ⟨1, []⟩⟩) w1.1 [0]
  have := Alone.outW (v' := getT (canon (some [0]) ⟨[v'], [], ⟨1, []⟩⟩).t 0) (h3 := (canon (some [0]) ⟨[v'], [], ⟨1, []⟩⟩).h) (w1.trans w2) h
  unfold outV at hc
  injection hc with hc
  injection hc with h1 h2
  rw [h1, h2] at this
  exact this
theorem two_ok (c1 c0 : Con) : (⟨2, [⟨1, 0, .cells c1⟩, ⟨0, 0, .cells c0⟩]⟩ : Heap).ok := by
  refine ⟨by show List.Nodup [1, 0]; decide, fun id e h => ?_⟩
  have h' : (bif Nat.beq 1 id then some _ else bif Nat.beq 0 id then some _ else none) = some e := h
  show id < 2
  rcases Nat.lt_or_ge id 2 with q | q
  · exact q
  · rw [show Nat.beq 1 id = false from beqF (by omega), show Nat.beq 0 id = false from beqF (by omega)] at h'
    cases h'
theorem Alone.fz2 {P : Program} {g : Nat} {args : List AV} {c1 c0 : Con} (hp1 : c1.pureF = true) (hp0 : c0.pureF = true) {v v1 v' : AV} (hc : outV v' ⟨2, []⟩ = some (v', ⟨0, []⟩)) (hv : FzT 1 c1 v v1) (hv' : FzT 0 c0 v1 v') (h : Alone P g args v ⟨2, [⟨1, 0, .cells c1⟩, ⟨0, 0, .cells c0⟩]⟩) : Alone P g args v' ⟨0, []⟩ := by
  have w1 := Weak.fz (v := v) (v' := v1) (n := 2) (id := 1) (es := [⟨0, 0, .cells c0⟩]) (two_ok c1 c0) hp1 hv
  have w2 := Weak.fz (v := v1) (v' := v') (n := 2) (id := 0) (es := []) w1.1 hp0 hv'
  have w3 := Weak.canon (s := ⟨[v'], [], ⟨2, []⟩⟩) w2.1 [0]
  have := Alone.outW (v' := getT (canon (some [0]) ⟨[v'], [], ⟨2, []⟩⟩).t 0) (h3 := (canon (some [0]) ⟨[v'], [], ⟨2, []⟩⟩).h) ((w1.trans w2).trans w3) h
  unfold outV at hc
  injection hc with hc
  injection hc with h1 h2
  rw [h1, h2] at this
  exact this
/-- A result told otherwise. -/
theorem Alone.resW {P : Program} {g : Nat} {args : List AV} {v v' : AV} {h2 : Heap} (hv : AW v v') (h : Alone P g args v h2) : Alone P g args v' h2 :=
  Alone.outW (v := v) (v' := v') (h2 := h2) (h3 := h2) ⟨h.1, fun w c a hr hq => ⟨c, ⟨by
    have := hr.t
    generalize a.tmps.toList = us at this
    cases this with | cons _ u _ us k1 k2 => exact .cons _ _ _ _ (hv _ _ _ k1) k2, hr.h, hr.d, hr.dv⟩, (Ext.refl w c).w, hq⟩⟩ h
theorem AW.tup {l l' : List AV} (h : AWs l l') : AW (.tup l) (.tup l') := fun w c u hu => by
  cases hu with | tup _ _ k => exact .tup _ _ (AWs.args h w c _ k)
end Go.Ev
