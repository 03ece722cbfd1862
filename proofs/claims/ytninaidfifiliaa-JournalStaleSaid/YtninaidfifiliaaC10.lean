/- The evaluator, its soundness and the walks: part 10. -/
import Derived.Test.YtninaidfifiliaaC9
set_option linter.unusedSectionVars false
set_option linter.unusedSimpArgs false
set_option linter.unusedVariables false
set_option maxRecDepth 100000
set_option maxRecDepth 1000000
noncomputable section
/- Devices: Flush. -/
namespace Go.Ev
open Go.Proofs
abbrev DevD := Int × List Int × List SwD
def devX (d : DevD) : AV := devA d.1 d.2.1 d.2.2
def isDevD (d : DevD) : Bool := isDevB d.1 d.2.1 d.2.2
def outDE (r : DevD × Int) : AV := .tup [devX r.1, .val (.int .i64 r.2)]
def noDev (e : Int) : DevD × Int := ((0, [], []), e)
def settled (many : Nat → Nat) (d : DevD) : DevD := (d.1, settleN many d.2.2 d.2.1 d.2.2.length, [])
theorem noDev_aw (e : Int) : AW (.tup [.agg [.val (.int .i64 0), .val (.slice none 0 0), .val (.slice none 0 0)], .val (.int .i64 e)]) (outDE (noDev e)) :=
  AW.tup (.cons (AW.agg (.cons (AW.refl _) (.cons (AW.nil rfl) (.cons (AW.nil rfl) .nil)))) (.cons (AW.refl _) .nil))
theorem devOwn (P : Program) {g : Nat} {args : List AV} {N e : Int} {B : List Int} (h : Alone P g args (.tup [.agg [.val (.int .i64 N), .own 0 0 B.length none 1, .val (.slice none 0 0)], .val (.int .i64 e)]) (oneH (.ints .u8 B))) : Alone P g args (outDE ((N, B, []), e)) ⟨0, []⟩ := by
  refine Alone.resW (v := .tup [.agg [.val (.int .i64 N), .ro (.ints .u8 B) none, .val (.slice none 0 0)], .val (.int .i64 e)]) ?_ (Alone.fz1 (con := .ints .u8 B) rfl rfl ?_ h)
  · exact AW.tup (.cons (AW.agg (.cons (AW.refl _) (.cons (AW.refl _) (.cons (AW.nil rfl) .nil)))) (.cons (AW.refl _) .nil))
  · exact .tup1 (.cons (.inl rfl) (.cons (.inr (.inr ⟨none, rfl, rfl⟩)) (.cons (.inl rfl) .nil)))
theorem lens_of {N : Int} {B : List Int} {P : List SwD} (h : DevFacts N B P) : lensOk P = true := by
  unfold lensOk
  rw [List.all_eq_true]
  intro e he
  obtain ⟨i, hi, rfl⟩ := List.getElem_of_mem he
  have := h.wl i hi
  rw [List.getD_eq_getElem?_getD, List.getElem?_eq_getElem hi] at this
  exact ble_t (by simp at this; omega)
end Go.Ev
/- Devices: Fail. -/
namespace Go.Ev
open Go.Proofs
def badK (k : Int) : Bool := decide (k < 0) || decide (k > 64)
def Try.E98 : Env := Try.env0 false (sumsOf []) (keepF 98 [(2, [0,1,7,8])])
def Try.b98 : Code := nthD .skip (loopsOf (bodyOf Try.E98 98)) 0
def Try.B98 (s : St) : Option (AX × St) := codeS Try.E98 (callF Try.E98 5) (Try.E98.keep 98) (lsumsOf []) Try.b98 (outK [0,1,7,8] [4]) s
def Try.V98 (cap : Option Nat) (P : List Int) (k : Nat) : List AV := [.ro (.ints .i64 P) cap, .clo (.func 67) [] [], .val (.int .i64 P.length), .val (.int .i64 k)]
def Try.f98L (vs : List AV) (h : Heap) : Ans (AX × List AV × Heap) := match vs, h with
  | [.ro (.ints .i64 P) cap, .clo (.func 67) [] [], .val (.int .i64 m), .val (.int .i64 (.ofNat 0))], ⟨0, []⟩ => .grd (m == (P.length : Int) && Nat.ble P.length 9223372036854775807) (.br (P.any badK) (.out (.ret, [.val (.int .i64 (P.findIdx badK))], ⟨0, []⟩)) (.out (.exit 0, [.unk], ⟨0, []⟩)))
  | _, _ => .no
def Try.L98 : LSum := toLSum 19 [0,1,7,8] [4] Try.f98L
theorem Try.r98 (cap : Option Nat) (P : List Int) (k : Nat) : Try.B98 (stOf 19 [0,1,7,8] (Try.V98 cap P k) ⟨0, []⟩) =
 bif decide ((↑k : Int) < (↑P.length : Int)) then
 bif inR (↑k : Int) P.length then
 bif decide (P.getD k 0 < 0) then
 some (.ret, stOf 19 [4] [.val (.int .i64 (↑k : Int))] ⟨0, []⟩)
 else
 bif decide (P.getD k 0 > 64) then
 some (.ret, stOf 19 [4] [.val (.int .i64 (↑k : Int))] ⟨0, []⟩)
 else
 some (.normal, stOf 19 [0, 1, 7, 8] [.ro (.ints .i64 (P)) (cap), .clo (Fn.func 67) [] [], .val (.int .i64 ((↑P.length : Int))), .val (.int .i64 (IntKind.i64.wrap ((↑k : Int) + 1)))] ⟨0, []⟩)
 else
 none
 else
 some (.exit 0, stOf 19 [] [] ⟨0, []⟩) := by kernel_rfl
theorem Try.w98 (cap : Option Nat) (P : List Int) : rootS Try.E98 5 98 (lsumsOf [(2, Try.L98)]) [.ro (.ints .i64 P) cap, .clo (.func 67) [] []] =
 bif (↑P.length : Int) == (↑P.length : Int) && P.length.ble 9223372036854775807 then
 bif P.any badK then
 some (.val (.int .i64 ((↑(List.findIdx badK P) : Int))), ⟨0, []⟩)
 else
 some (.val (.int .i64 (-1)), ⟨0, []⟩)
 else
 none := by kernel_rfl
theorem Try.e98 : EnvOk2 Try.prog Try.E98 := Try.envOk false (sumsOf []) _ (fun g A h => by cases h)
theorem Try.l98 : ∀ s e s', s.h.ok → (Try.L98 s).run = some (e, s') → Triple Try.prog (.loop Try.b98) s e s' := by
  refine loop_lawW Try.e98 (d := 5) (g := 98) (ls := lsumsOf []) (c := Try.b98) trivial 19 [0,1,7,8] [4] (T := Option Nat × List Int × Nat)
    (fun x => Try.V98 x.1 x.2.1 x.2.2) (fun x => ⟨0, []⟩) (fun x => x.2.1.length ≤ 9223372036854775807 ∧ x.2.2 ≤ x.2.1.length ∧ ∀ e ∈ x.2.1.take x.2.2, badK e = false) (fun x => x.2.1.length - x.2.2)
    (fun x => bif x.2.1.any badK then (.ret, [.val (.int .i64 (x.2.1.findIdx badK))], ⟨0, []⟩) else (.exit 0, [.unk], ⟨0, []⟩)) Try.f98L ?_ (fun x _ => heap0_ok) ?_
  · intro vs h e vo h' hok hf
    unfold Try.f98L at hf
    split at hf
    · rename_i P cap m
      rw [Ans.run_grd] at hf
      cases hb : (m == (P.length : Int) && Nat.ble P.length 9223372036854775807) with
      | false => rw [hb] at hf; cases hf
      | true =>
      rw [hb, cond_true, Ans.run_br] at hf
      rw [Bool.and_eq_true, beq_iff_eq, Nat.ble_eq] at hb
      obtain ⟨rfl, h1⟩ := hb
      refine ⟨(cap, P, 0), ⟨h1, Nat.zero_le _, fun e he => by simp at he⟩, Weak.refl heap0_ok, ?_⟩
      simp only
      cases hq : P.any badK with
      | true => rw [hq] at hf; injection hf with hf
      | false => rw [hq] at hf; injection hf with hf
    · cases hf
  · rintro ⟨cap, P, k⟩ ⟨hl, hk, hpre⟩
    simp only at hl hk hpre
    have key := Try.r98 cap P k
    by_cases h : k < P.length
    · rw [declt_nat, inR_nat, decide_eq_true h, wrapT k (by omega)] at key
      cases hbad : badK (P.getD k 0) with
      | true =>
        obtain ⟨q1, q2⟩ := findIdx_at (d := 0) h hpre hbad
        refine .inr ?_
        simp only [q1, q2, cond_true']
        refine ⟨_, key.trans ?_, Weak.refl heap0_ok, by simp⟩
        simp only [badK] at hbad
        by_cases a1 : P.getD k 0 < 0
        · rw [decide_eq_true a1]; rfl
        · rw [decide_eq_false a1] at hbad ⊢
          rw [Bool.false_or] at hbad
          rw [hbad]; rfl
      | false =>
        have hb' := hbad
        simp only [badK, Bool.or_eq_false_iff] at hbad
        obtain ⟨a1, a2⟩ := hbad
        rw [a1, a2] at key
        exact .inl ⟨(cap, P, k + 1), _, key, Weak.refl heap0_ok, ⟨hl, h, take_succ_all (d := 0) h hpre hb'⟩, by show P.length - (k + 1) < P.length - k; omega, rfl⟩
    · have : k = P.length := by omega
      subst this
      have q := none_any hpre
      rw [declt_nat, decide_eq_false h] at key
      refine .inr ?_
      simp only [q, cond_false']
      exact ⟨_, key, Weak.refl heap0_ok, by simp⟩
def nzK : List Con := [.ints .i64 [], .ints .i64 []]
def Try.S98 (args : List AV) : Ans (AV × Heap) := match args with
  | [.ro (.ints .i64 P) cap, .clo (.func 67) [] []] => .grd (Nat.ble P.length 9223372036854775807) (.out (.val (.int .i64 (bif P.any badK then (P.findIdx badK : Int) else -1)), ⟨0, []⟩))
  | _ => .no
def Try.A98 : AFun := pureA (fun args => Try.S98 (nzs nzK args))
theorem Try.sum98 : SumC Try.prog 98 Try.A98 := by
  refine pureSumR 98 ⟨Try.f98, _, Try.fnOk98.1, Try.fnOk98.2, rfl⟩ ?_
  intro args v h2 hs
  refine Alone.nz (cs := nzK) (by simp [nzK, Con.len]) ?_
  replace hs : (Try.S98 (nzs nzK args)).run = some (v, h2) := hs
  generalize nzs nzK args = args' at hs ⊢
  unfold Try.S98 at hs
  split at hs
  · rename_i P cap
    rw [Ans.run_grd] at hs
    cases hb : Nat.ble P.length 9223372036854775807 with
    | false => rw [hb] at hs; cases hs
    | true =>
      rw [hb, cond_true] at hs
      refine rootS_alone Try.e98 (d := 5) (ls := lsumsOf [(2, Try.L98)]) (AllL.of1 (a := Try.b98) (by kernel_rfl) (LsOk.of rfl rfl Try.l98)) ((Try.w98 cap P).trans ?_)
      rw [← hs, hb, beq_self_eq_true]
      cases P.any badK <;> rfl
  · cases hs
def manyK (K : List Int) (k : Nat) : Nat := (K.getD k 0).toNat
def Try.V68k (P : List SwD) (k : Nat) : List AV := [.ptr 0 0 0, .clo (.func 69) [] [.ptr 3 0 0], .own 2 0 P.length none 2, .val (.int .i64 P.length), .val (.int .i64 k)]
def Try.H68k (z : AV) (N : Int) (B : List Int) (P : List SwD) : Heap := ⟨4, [⟨3, 0, .cells (.rows true 1 [[z]])⟩, ⟨2, 0, .cells (SW.con P)⟩, ⟨1, 0, .cells (.ints .u8 B)⟩, ⟨0, 0, .cells (.rows false 3 [[.val (.int .i64 N), .own 1 0 B.length none 1, .own 2 0 P.length none 2]])⟩]⟩
def Try.B68k (s : St) : Option (AX × St) := codeP Try.E68 (callF Try.E68 3) (Try.E68.keep 68) (lsumsOf []) 4 Try.b68 (outKP 4 [0,1,10,11,12] [0]) s
theorem Try.r68k (cap : Option Nat) (K : List Int) (N : Int) (B : List Int) (P : List SwD) (k : Nat) : Try.B68k (stOf 38 [0,1,10,11,12] (Try.V68k P k) (Try.H68k (.ro (.ints .i64 K) cap) N B P)) =
 bif decide ((↑k : Int) < (↑P.length : Int)) then
 bif inR (↑k : Int) P.length then
 bif (0 + k).blt P.length then
 bif decide (0 ≤ IntKind.i64.wrap ((P.getD (0 + k) SW.z).fst * 64)) && decide (IntKind.i64.wrap ((P.getD (0 + k) SW.z).fst * 64) ≤ (↑B.length : Int)) then
 bif decide ((↑k : Int) < (↑K.length : Int)) then
 bif inR (↑k : Int) K.length then
 bif decide (0 ≤ K.getD k 0) && decide (K.getD k 0 ≤ (↑(P.getD (0 + k) SW.z).snd.length : Int)) then
 bif (0 + (IntKind.i64.wrap ((P.getD (0 + k) SW.z).fst * 64)).toNat + (B.length - (IntKind.i64.wrap ((P.getD (0 + k) SW.z).fst * 64)).toNat)).ble B.length && true then
 some (.normal, stOf 38 [0, 1, 10, 11, 12] [.ptr 0 0 0, .clo (Fn.func 69) [] [.ptr 3 0 0], .own 2 0 (P.length) none 2, .val (.int .i64 ((↑P.length : Int))), .val (.int .i64 (IntKind.i64.wrap ((↑k : Int) + 1)))] ⟨4, [⟨3, 0, .cells (.rows true 1 ([.ro (.ints .i64 (K)) (cap)] :: []))⟩, ⟨2, 0, .cells (SW.con P)⟩, ⟨1, 0, .cells (.ints .u8 (List.take (0 + (IntKind.i64.wrap ((P.getD (0 + k) SW.z).fst * 64)).toNat) (List.drop 0 B) ++ List.take ((List.take ((K.getD k 0).toNat - 0) (List.drop 0 (P.getD (0 + k) SW.z).snd)).length.min (B.length - (IntKind.i64.wrap ((P.getD (0 + k) SW.z).fst * 64)).toNat)) (List.drop 0 (List.take ((K.getD k 0).toNat - 0) (List.drop 0 (P.getD (0 + k) SW.z).snd))) ++ List.take (B.length - (0 + (IntKind.i64.wrap ((P.getD (0 + k) SW.z).fst * 64)).toNat + (List.take ((K.getD k 0).toNat - 0) (List.drop 0 (P.getD (0 + k) SW.z).snd)).length.min (B.length - (IntKind.i64.wrap ((P.getD (0 + k) SW.z).fst * 64)).toNat))) (List.drop (0 + (IntKind.i64.wrap ((P.getD (0 + k) SW.z).fst * 64)).toNat + (List.take ((K.getD k 0).toNat - 0) (List.drop 0 (P.getD (0 + k) SW.z).snd)).length.min (B.length - (IntKind.i64.wrap ((P.getD (0 + k) SW.z).fst * 64)).toNat)) B)))⟩, ⟨0, 0, .cells (.rows false 3 ([.val (.int .i64 (N)), .own 1 0 (B.length) none 1, .own 2 0 (P.length) none 2] :: []))⟩]⟩ )
 else
 none
 else
 none
 else
 none
 else
 bif (0 + (IntKind.i64.wrap ((P.getD (0 + k) SW.z).fst * 64)).toNat + (B.length - (IntKind.i64.wrap ((P.getD (0 + k) SW.z).fst * 64)).toNat)).ble B.length && true then
 some (.normal, stOf 38 [0, 1, 10, 11, 12] [.ptr 0 0 0, .clo (Fn.func 69) [] [.ptr 3 0 0], .own 2 0 (P.length) none 2, .val (.int .i64 ((↑P.length : Int))), .val (.int .i64 (IntKind.i64.wrap ((↑k : Int) + 1)))] ⟨4, [⟨3, 0, .cells (.rows true 1 ([.ro (.ints .i64 (K)) (cap)] :: []))⟩, ⟨2, 0, .cells (SW.con P)⟩, ⟨1, 0, .cells (.ints .u8 (List.take (0 + (IntKind.i64.wrap ((P.getD (0 + k) SW.z).fst * 64)).toNat) (List.drop 0 B) ++ [] ++ List.take (B.length - (0 + (IntKind.i64.wrap ((P.getD (0 + k) SW.z).fst * 64)).toNat + Nat.min 0 (B.length - (IntKind.i64.wrap ((P.getD (0 + k) SW.z).fst * 64)).toNat))) (List.drop (0 + (IntKind.i64.wrap ((P.getD (0 + k) SW.z).fst * 64)).toNat + Nat.min 0 (B.length - (IntKind.i64.wrap ((P.getD (0 + k) SW.z).fst * 64)).toNat)) B)))⟩, ⟨0, 0, .cells (.rows false 3 ([.val (.int .i64 (N)), .own 1 0 (B.length) none 1, .own 2 0 (P.length) none 2] :: []))⟩]⟩ )
 else
 none
 else
 none
 else
 none
 else
 none
 else
 some (.exit 0, stOf 38 [0] [.ptr 0 0 0] ⟨4, [⟨3, 0, .cells (.rows true 1 ([.ro (.ints .i64 (K)) (cap)] :: []))⟩, ⟨2, 0, .cells (SW.con P)⟩, ⟨1, 0, .cells (.ints .u8 (B))⟩, ⟨0, 0, .cells (.rows false 3 ([.val (.int .i64 (N)), .own 1 0 (B.length) none 1, .own 2 0 (P.length) none 2] :: []))⟩]⟩ ) := by kernel_rfl
def Try.f68kL (vs : List AV) (h : Heap) : Ans (AX × List AV × Heap) := match vs, h with
  | [.ptr 0 0 0, .clo (.func 69) [] [.ptr 3 0 0], .own 2 0 n none 2, .val (.int .i64 m), .val (.int .i64 (.ofNat 0))], ⟨4, [⟨3, 0, .cells (.rows true 1 [[.ro (.ints .i64 K) cap]])⟩, ⟨2, 0, .cells c⟩, ⟨1, 0, .cells (.ints .u8 B)⟩, ⟨0, 0, .cells (.rows false 3 [[.val (.int .i64 N), .own 1 0 bl none 1, .own 2 0 n' none 2]])⟩]⟩ =>
    .grd (m == (c.len : Int) && (decide (n = c.len) && (decide (n' = c.len) && (decide (bl = B.length) && (c.pureF && (SW.ok c && (isDevB N B (SW.list c) && !K.any badK))))))) (.out (.exit 0, [.ptr 0 0 0], Try.H68k (.ro (.ints .i64 K) cap) N (settleN (manyK K) (SW.list c) B (SW.list c).length) (SW.list c)))
  | _, _ => .no
def Try.L68k : LSum := toLSum 38 [0,1,10,11,12] [0] Try.f68kL
theorem Try.H68k_ok (z : AV) (N : Int) (B : List Int) (P : List SwD) : (Try.H68k z N B P).ok := by
  refine ⟨by show List.Nodup [3, 2, 1, 0]; decide, fun id e h => ?_⟩
  have h' : (bif Nat.beq 3 id then some _ else bif Nat.beq 2 id then some _ else bif Nat.beq 1 id then some _ else bif Nat.beq 0 id then some _ else none) = some e := h
  have : id < 4 := by
    rcases Nat.lt_or_ge id 4 with q | q
    · exact q
    · rw [show Nat.beq 3 id = false from beqF (by omega), show Nat.beq 2 id = false from beqF (by omega), show Nat.beq 1 id = false from beqF (by omega), show Nat.beq 0 id = false from beqF (by omega)] at h'
      cases h'
  exact this
theorem copy_none {B : List Int} {off : Nat} (h : off ≤ B.length) : List.take (0 + off) (List.drop 0 B) ++ [] ++ List.take (B.length - (0 + off + Nat.min 0 (B.length - off))) (List.drop (0 + off + Nat.min 0 (B.length - off)) B) = putAt B off [] := by
  rw [show Nat.min 0 (B.length - off) = 0 from Nat.zero_min _]
  simp only [putAt, Nat.zero_add, Nat.add_zero, List.drop_zero, List.append_nil, List.nil_append, List.length_nil]
  rw [List.take_of_length_le (l := List.drop off B) (by simp)]
theorem badK_get {K : List Int} (h : K.any badK = false) {k : Nat} (hk : k < K.length) : 0 ≤ K.getD k 0 ∧ K.getD k 0 ≤ 64 := by
  rw [List.any_eq_false] at h
  have := h (K[k]) (List.getElem_mem hk)
  rw [List.getD_eq_getElem?_getD, List.getElem?_eq_getElem hk]
  simp only [badK, Bool.or_eq_true, decide_eq_true_eq] at this
  simp only [Option.getD_some]
  omega
theorem Try.s68k {cap : Option Nat} {K : List Int} (hK : K.any badK = false) {N : Int} {B : List Int} {P : List SwD} (h : DevFacts N B P) {C : List Int} (hC : C.length = B.length) {k : Nat} (hk : k < P.length) :
    Try.B68k (stOf 38 [0,1,10,11,12] (Try.V68k P k) (Try.H68k (.ro (.ints .i64 K) cap) N C P)) = some (.normal, stOf 38 [0,1,10,11,12] (Try.V68k P (k + 1)) (Try.H68k (.ro (.ints .i64 K) cap) N (putAt C ((P.getD k SW.z).1.toNat * 64) ((P.getD k SW.z).2.take (manyK K k))) P)) := by
  refine (Try.r68k cap K N C P k).trans ?_
  have h0 := h.at0 k hk
  have h1 := h.at1 k hk
  have h2 := h.wl k hk
  have h3 := h.len
  have h4 := h.hi
  have h5 := h.few
  rw [Nat.zero_add]
  generalize P.getD k SW.z = e at *
  have ew : IntKind.i64.wrap (e.1 * 64) = e.1 * 64 := wrap64 _ (by omega) (by omega)
  have et : (e.1 * 64).toNat = e.1.toNat * 64 := by omega
  rw [ew, et]
  have hl : (putAt C (e.1.toNat * 64) (e.2.take (manyK K k))).length = C.length := putAt_len (by simp; omega)
  rw [declt_nat, decide_eq_true hk, inR_nat, decide_eq_true hk, blt_t hk, decide_eq_true (show 0 ≤ e.1 * 64 by omega), decide_eq_true (show e.1 * 64 ≤ (C.length : Int) by omega), ble_t (show 0 + e.1.toNat * 64 + (C.length - e.1.toNat * 64) ≤ C.length by omega), wrapT k (by omega), declt_nat]
  by_cases hkk : k < K.length
  · obtain ⟨b0, b1⟩ := badK_get hK hkk
    have hm : (K.getD k 0).toNat - 0 = manyK K k := rfl
    rw [hm, copy_put (by unfold manyK; omega) (by unfold manyK; omega), decide_eq_true hkk, inR_nat, decide_eq_true hkk, decide_eq_true b0, decide_eq_true (show K.getD k 0 ≤ (e.2.length : Int) by omega)]
    unfold Try.H68k
    rw [hl]
    rfl
  · have hm : manyK K k = 0 := by unfold manyK; rw [List.getD_eq_getElem?_getD, List.getElem?_eq_none (by omega)]; rfl
    rw [hm, List.take_zero] at hl ⊢
    rw [copy_none (by omega), decide_eq_false hkk]
    unfold Try.H68k
    rw [hl]
    rfl
theorem Try.l68k : ∀ s e s', s.h.ok → (Try.L68k s).run = some (e, s') → TripleP Try.prog 4 (.loop Try.b68) s e s' := by
  refine loop_lawP Try.e68 (p := 4) (d := 3) (g := 68) (ls := lsumsOf []) (c := Try.b68) trivial 38 [0,1,10,11,12] [0] (T := (Option Nat × List Int) × Int × List Int × List SwD × Nat)
    (fun x => Try.V68k x.2.2.2.1 x.2.2.2.2) (fun x => Try.H68k (.ro (.ints .i64 x.1.2) x.1.1) x.2.1 (settleN (manyK x.1.2) x.2.2.2.1 x.2.2.1 x.2.2.2.2) x.2.2.2.1) (fun x => x.1.2.any badK = false ∧ DevFacts x.2.1 x.2.2.1 x.2.2.2.1 ∧ x.2.2.2.2 ≤ x.2.2.2.1.length) (fun x => x.2.2.2.1.length - x.2.2.2.2)
    (fun x => (.exit 0, [.ptr 0 0 0], Try.H68k (.ro (.ints .i64 x.1.2) x.1.1) x.2.1 (settleN (manyK x.1.2) x.2.2.2.1 x.2.2.1 x.2.2.2.1.length) x.2.2.2.1)) Try.f68kL ?_ (fun x _ => Try.H68k_ok _ _ _ _) ?_
  · intro vs h e vo h' hok hf
    unfold Try.f68kL at hf
    split at hf
    · rename_i n m K cap c B N bl n'
      rw [Ans.run_grd] at hf
      cases hb : (m == (c.len : Int) && (decide (n = c.len) && (decide (n' = c.len) && (decide (bl = B.length) && (c.pureF && (SW.ok c && (isDevB N B (SW.list c) && !K.any badK))))))) with
      | false => rw [hb] at hf; cases hf
      | true =>
      rw [hb, cond_true] at hf
      simp only [Bool.and_eq_true, beq_iff_eq, decide_eq_true_eq, Bool.not_eq_true'] at hb
      obtain ⟨rfl, rfl, rfl, rfl, h1, h2, h3, h4⟩ := hb
      injection hf with hf
      have e1 : (SW.list c).length = c.len := SW.list_len c
      refine ⟨((cap, K), N, B, SW.list c, 0), ⟨h4, dev_facts h3, Nat.zero_le _⟩, ?_, hf⟩
      show WeakP 4 _ (stOf 38 [0,1,10,11,12] [.ptr 0 0 0, .clo (.func 69) [] [.ptr 3 0 0], .own 2 0 (SW.list c).length none 2, .val (.int .i64 (SW.list c).length), .val (.int .i64 (0 : Nat))] (Try.H68k (.ro (.ints .i64 K) cap) N B (SW.list c)))
      unfold Try.H68k
      rw [e1]
      exact WeakP.heap hok (.same _ (.con 2 0 0 (by rw [h1]; rfl) (SW.conv h2) (EsW.refl _)))
    · cases hf
  · rintro ⟨⟨cap, K⟩, N, B, P, k⟩ ⟨hK, hd, hk⟩
    simp only at hK hd hk
    by_cases h : k < P.length
    · exact .inl ⟨((cap, K), N, B, P, k + 1), _, Try.s68k hK hd (settleN_len hd k hk) h, WeakP.refl (Try.H68k_ok _ _ _ _), ⟨hK, hd, h⟩, by show P.length - (k + 1) < P.length - k; omega, rfl⟩
    · have : k = P.length := by omega
      subst this
      have key := Try.r68k cap K N (settleN (manyK K) P B P.length) P P.length
      rw [declt_nat, decide_eq_false h] at key
      exact .inr ⟨_, key, WeakP.refl (Try.H68k_ok _ _ _ _), by simp⟩
theorem Try.w68k (cap : Option Nat) (K : List Int) (N : Int) (B : List Int) (P : List SwD) : rootE Try.E68 3 68 4 (lsumsOf [(1, Try.L68k)]) [.ptr 0 0 0, .clo (.func 69) [] [.ptr 3 0 0]] (Try.H68k (.ro (.ints .i64 K) cap) N B P) =
 bif (↑P.length : Int) == (↑P.length : Int) && (decide (P.length = P.length) && (decide (P.length = P.length) && (decide (B.length = B.length) && (SW.ok (SW.con P) && (isDevB N B (SW.list (SW.con P)) && !K.any badK))))) then
 some (.tup [], ⟨4, [⟨3, 0, .cells (.rows true 1 ([.ro (.ints .i64 (K)) (cap)] :: []))⟩, ⟨2, 0, .cells (SW.con (SW.list (SW.con P)))⟩, ⟨1, 0, .cells (.ints .u8 (settleN (manyK K) (SW.list (SW.con P)) B (SW.list (SW.con P)).length))⟩, ⟨0, 0, .cells (.rows false 3 ([.val (.int .i64 (N)), .own 1 0 ((settleN (manyK K) (SW.list (SW.con P)) B (SW.list (SW.con P)).length).length) none 1, .val (.slice none 0 0)] :: []))⟩]⟩)
 else
 none := by kernel_rfl
def Try.H68k' (z : AV) (N : Int) (B : List Int) (P : List SwD) : Heap := ⟨4, [⟨3, 0, .cells (.rows true 1 [[z]])⟩, ⟨2, 0, .cells (SW.con P)⟩, ⟨1, 0, .cells (.ints .u8 B)⟩, ⟨0, 0, .cells (.rows false 3 [[.val (.int .i64 N), .own 1 0 B.length none 1, .val (.slice none 0 0)]])⟩]⟩
def Try.S68k (args : List AV) (h : Heap) : Ans (AV × Heap) := match args, h with
  | [.ptr 0 0 0, .clo (.func 69) [] [.ptr 3 0 0]], ⟨4, [⟨3, 0, .cells (.rows true 1 [[.ro (.ints .i64 K) cap]])⟩, ⟨2, 0, .cells c⟩, ⟨1, 0, .cells (.ints .u8 B)⟩, ⟨0, 0, .cells (.rows false 3 [[.val (.int .i64 N), .own 1 0 bl none 1, .own 2 0 n none 2]])⟩]⟩ =>
    .grd (decide (n = c.len) && (decide (bl = B.length) && (c.pureF && (SW.ok c && (isDevB N B (SW.list c) && !K.any badK))))) (.out (.tup [], Try.H68k' (.ro (.ints .i64 K) cap) N (settleN (manyK K) (SW.list c) B (SW.list c).length) (SW.list c)))
  | _, _ => .no
def Try.A68k : AFun := effA Try.S68k
theorem Try.sum68k : SumC Try.prog 68 Try.A68k := by
  refine effSumR 68 ⟨Try.f68, _, Try.fnOk68.1, Try.fnOk68.2, rfl⟩ ?_
  intro args h v h2 hok hs
  unfold Try.S68k at hs
  split at hs
  · rename_i K cap c B N bl n
    rw [Ans.run_grd] at hs
    cases hb : (decide (n = c.len) && (decide (bl = B.length) && (c.pureF && (SW.ok c && (isDevB N B (SW.list c) && !K.any badK))))) with
    | false => rw [hb] at hs; cases hs
    | true =>
      rw [hb, cond_true] at hs
      simp only [Bool.and_eq_true, decide_eq_true_eq, Bool.not_eq_true'] at hb
      obtain ⟨rfl, rfl, h1, h2', h3, h4⟩ := hb
      have e1 : (SW.list c).length = c.len := SW.list_len c
      refine EffAlone.weak (args' := [.ptr 0 0 0, .clo (.func 69) [] [.ptr 3 0 0]]) (h' := Try.H68k (.ro (.ints .i64 K) cap) N B (SW.list c)) ?_ (rootE_alone Try.e68 (d := 3) (p := 4) (ls := lsumsOf [(1, Try.L68k)]) (AllL.of1 (a := Try.b68) (by kernel_rfl) (LsOkP.of rfl rfl Try.l68k)) (Try.H68k_ok _ _ _ _) ((Try.w68k cap K N B (SW.list c)).trans ?_))
      · unfold Try.H68k
        rw [e1]
        exact WeakP.heap hok (.same _ (.con 2 0 0 (by rw [h1]; rfl) (SW.conv h2') (EsW.refl _)))
      · rw [← hs, SW_list_con, SW.ok_con, h3, h4, beq_self_eq_true, decide_eq_true (rfl : (SW.list c).length = (SW.list c).length), decide_eq_true (rfl : B.length = B.length)]
        rfl
  · cases hs
def Try.t25 : List (Nat × AFun) := [(63, Try.A63), (64, Try.A64), (68, Try.A68k), (98, Try.A98)]
def Try.E25 : Env := Try.env0 false (sumsOf Try.t25) (keepF 0 [])
theorem Try.e25 : EnvOk2 Try.prog Try.E25 := Try.envOk false (sumsOf Try.t25) _ (sumsOf_ok (show AllS Try.prog Try.t25 from ⟨Try.sum63, Try.sum64, Try.sum68k, Try.sum98, trivial⟩))
theorem Try.w25 (cap : Option Nat) (K : List Int) (N : Int) (B : List Int) (P : List SwD) : rootS Try.E25 5 25 (lsumsOf []) [devA N B P, .ro (.ints .i64 K) cap] =
 bif okSW (SW.con P) then
 bif isDevB N B (SW.list (SW.con P)) then
 bif decide ((↑K.length : Int) > (↑P.length : Int)) then
 some (.tup [.agg [.val (.int .i64 0), .val (.slice none 0 0), .val (.slice none 0 0)], .val (.int .i64 1)], ⟨0, []⟩)
 else
 bif K.length.ble 9223372036854775807 then
 bif decide ((bif K.any badK then (↑(List.findIdx badK K) : Int) else -1) ≥ 0) then
 some (.tup [.agg [.val (.int .i64 0), .val (.slice none 0 0), .val (.slice none 0 0)], .val (.int .i64 1)], ⟨0, []⟩)
 else
 bif okSW (SW.con P) && (B.length.ble 1000000 && (P.length.ble 1000000 && lensOk (SW.list (SW.con P)))) then
 bif decide ((SW.list (SW.con P)).length = (SW.list (SW.con P)).length) && (decide (B.length = B.length) && (SW.ok (SW.con (SW.list (SW.con P))) && (isDevB N B (SW.list (SW.con (SW.list (SW.con P)))) && !K.any badK))) then
 some (.tup [.agg [.val (.int .i64 (N)), .own 0 0 ((settleN (manyK K) (SW.list (SW.con (SW.list (SW.con P)))) B (SW.list (SW.con (SW.list (SW.con P)))).length).length) none 1, .val (.slice none 0 0)], .val (.int .i64 0)], ⟨1, [⟨0, 0, .cells (.ints .u8 (settleN (manyK K) (SW.list (SW.con (SW.list (SW.con P)))) B (SW.list (SW.con (SW.list (SW.con P)))).length))⟩]⟩)
 else
 none
 else
 none
 else
 none
 else
 some (.tup [.agg [.val (.int .i64 0), .val (.slice none 0 0), .val (.slice none 0 0)], .val (.int .i64 400)], ⟨0, []⟩)
 else
 none := by kernel_rfl
end Go.Ev
/- Devices: Fail, Write. -/
namespace Go.Ev
open Go.Proofs
def failD (d : DevD) (K : List Int) : DevD × Int := bif isDevD d then (bif decide ((K.length : Int) > (d.2.2.length : Int)) || K.any badK then noDev 1 else (settled (manyK K) d, 0)) else noDev 400
def nzDK : List AV → List AV
  | v :: k :: r => nzDev v :: nz0 (.ints .i64 []) k :: r
  | l => l
def Try.S25 (args : List AV) : Ans (AV × Heap) := match args with
  | [.agg [.val (.int .i64 N), .ro (.ints .u8 B) cap, .ro c cap'], .ro (.ints .i64 K) cap2] => .grd (okSW c && Nat.ble K.length 9223372036854775807) (.out (outDE (failD (N, B, SW.list c) K), ⟨0, []⟩))
  | _ => .no
def Try.A25 : AFun := roA (fun args => Try.S25 (nzDK args))
theorem nzDK_aw (l : List AV) : ArgsW l (nzDK l) := by
  unfold nzDK
  split
  · exact AWs.args (.cons (nzDev_aw _) (.cons (nz0_aw rfl _) (AWs.refl _)))
  · exact fun _ _ _ h => h
theorem findK_ge (K : List Int) : decide ((bif K.any badK then (↑(List.findIdx badK K) : Int) else -1) ≥ 0) = K.any badK := by
  cases K.any badK with
  | true => exact decide_eq_true (Int.natCast_nonneg _)
  | false => rfl
theorem Try.al25 (cap : Option Nat) (K : List Int) (N : Int) (B : List Int) (P : List SwD) (ok : okSW (SW.con P) = true) (hK : Nat.ble K.length 9223372036854775807 = true) : Alone Try.prog 25 [devA N B P, .ro (.ints .i64 K) cap] (outDE (failD (N, B, P) K)) ⟨0, []⟩ := by
  have run := fun v h2 => rootS_alone Try.e25 (d := 5) (g := 25) (ls := lsumsOf []) (AllL.of0 (by kernel_rfl)) (args := [devA N B P, .ro (.ints .i64 K) cap]) (v := v) (h2 := h2)
  unfold failD isDevD
  simp only
  cases hd : isDevB N B P with
  | false =>
    refine Alone.resW (noDev_aw 400) (run _ _ ((Try.w25 cap K N B P).trans ?_))
    rw [ok, SW_list_con, hd]; rfl
  | true =>
    rw [cond_true, cond_orB]
    cases hm : decide ((K.length : Int) > (P.length : Int)) with
    | true =>
      refine Alone.resW (noDev_aw 1) (run _ _ ((Try.w25 cap K N B P).trans ?_))
      rw [ok, SW_list_con, hd, hm]; rfl
    | false =>
      cases hb : K.any badK with
      | true =>
        refine Alone.resW (noDev_aw 1) (run _ _ ((Try.w25 cap K N B P).trans ?_))
        rw [ok, SW_list_con, hd, hm, hK, findK_ge, hb]; rfl
      | false =>
        have h := dev_facts hd
        refine devOwn _ (run _ _ ((Try.w25 cap K N B P).trans ?_))
        have h3 := h.len
        have h4 := h.hi
        have h5 := h.few
        rw [ok, SW_list_con, hd, hm, hK, findK_ge, hb, SW_list_con, SW.ok_con, lens_of h, hd, ble_t (show B.length ≤ 1000000 by omega), ble_t (show P.length ≤ 1000000 by omega), decide_eq_true (rfl : P.length = P.length), decide_eq_true (rfl : B.length = B.length)]
        rfl
theorem Try.sum25 : SumC Try.prog 25 Try.A25 := by
  refine roSumR 25 ⟨Try.f25, _, Try.fnOk25.1, Try.fnOk25.2, rfl⟩ ?_
  intro args v h2 hs
  replace hs : (Try.S25 (nzDK args)).run = some (v, h2) := hs
  have fin : Alone Try.prog 25 (nzDK args) v h2 ∧ ∀ e ∈ h2.es, ∃ k, e.blk = .cells k := by
    generalize nzDK args = args' at hs ⊢
    unfold Try.S25 at hs
    split at hs
    · rename_i N B cap c cap' K cap2
      rw [Ans.run_grd] at hs
      cases hb : (okSW c && Nat.ble K.length 9223372036854775807) with
      | false => rw [hb] at hs; cases hs
      | true =>
        rw [hb, cond_true] at hs
        rw [Bool.and_eq_true] at hb
        injection hs with hs
        injection hs with q1 q2
        subst q1; subst q2
        refine ⟨Alone.argsW (args' := [devA N B (SW.list c), .ro (.ints .i64 K) cap2]) ?_ (Try.al25 cap2 K N B (SW.list c) (okSW_con hb.1) hb.2), fun e he => by cases he⟩
        exact AWs.args (.cons (AW.agg (.cons (AW.refl _) (.cons (AW.cap _ _) (.cons (SW.aw (okSW_some hb.1).1 _) .nil)))) (AWs.refl _))
    · cases hs
  exact ⟨fin.2, fin.1.argsW (nzDK_aw args)⟩
theorem tab_snoc {D : Type} (R : RowTy D) (P : List D) (x : D) (f : Nat → List AV) (h0 : ∀ i, i < P.length → f i = R.row (P.getD i R.z)) (h1 : f P.length = R.row x) : ConW (.tab R.wd (P.length + 1) f) (R.con (P ++ [x])) := by
  refine ⟨rfl, by show (P ++ [x]).length = P.length + 1; simp, fun i hi j v' hv => ⟨v', ?_, AW.refl _⟩⟩
  have hv' : (R.row ((P ++ [x]).getD i R.z))[j]? = some v' := hv
  show (f i)[j]? = some v'
  have hi' : i < P.length + 1 := by first | exact hi | simpa [Con.len, RowTy.con] using hi
  rcases Nat.lt_or_ge i P.length with q | q
  · rw [h0 i q]
    rw [List.getD_eq_getElem?_getD, List.getElem?_append_left q, ← List.getD_eq_getElem?_getD] at hv'
    exact hv'
  · have e : i = P.length := by omega
    subst e
    rw [h1]
    rw [List.getD_eq_getElem?_getD, List.getElem?_append_right (Nat.le_refl _)] at hv'
    simpa using hv'
end Go.Ev
/- Ranges over functions by what they do; answers as they come. -/
namespace Go.Ev
def codeR {ρ : Type} (env : Env) (call : Calling) (kp : Nat → Option (List Nat)) (ls rs : Nat → Option LSum) (p : Nat) (c : Code) : KC ρ → St → Option ρ :=
  Code.rec (motive := fun _ => KC ρ → St → Option ρ)
    (fun K s => K .normal s)
    (fun _ ops draw K s => regionK env call ops draw K s)
    (fun _ b iha ihb K s => iha (thenK (fun s' => ihb K (trimR ⟨true, p⟩ (kpOf kp b) s')) K) s)
    (fun c _ _ iha ihb K s => condV (ev s.t c) (iha K s) (ihb K s))
    (fun id _ ih K s => ih (blockK id K) s)
    (fun c ih K s => match lsOf ls c with
      | some L => sumK (L (trimR ⟨true, p⟩ (kpOf kp c) s)) K
      | none => loopK (trimR ⟨true, p⟩ (kpOf kp c)) ih K env.rounds (trimR ⟨true, p⟩ (kpOf kp c) s))
    (fun f ps assign body _ _ K s => match lsOf rs assign with
      | some L => sumK (L (trimR ⟨true, p⟩ (kpOf kp assign) s)) K
      | none => rangeK env.strict call (ev s.t f) ps assign body K s)
    (fun id K s => K (.exit id) s)
    (fun _ _ _ _ => none)
    (fun _ K s => K .normal s)
    (fun _ _ _ => none)
    (fun K s => K .ret s)
    (fun _ _ _ => none) c
def rangesOf (c : Code) : List Code :=
  Code.rec (motive := fun _ => List Code) [] (fun _ _ _ => []) (fun _ _ a b => a ++ b) (fun _ _ _ a b => a ++ b) (fun _ _ a => a) (fun _ a => a) (fun f ps assign body _ _ => [.rangeFunc f ps assign body]) (fun _ => []) (fun _ _ => []) (fun _ => []) (fun _ => []) [] (fun _ => []) c
def RsOkP (P : Program) (p : Nat) (rs : Nat → Option LSum) (c : Code) : Prop := match c with
  | .rangeFunc _ _ assign _ => (match lsOf rs assign with | some L => ∀ s e s', s.h.ok → (L s).run = some (e, s') → TripleP P p c s e s' | none => True)
  | _ => True
section
variable {P : Program} {ρ : Type} {p : Nat}
theorem codeR_sound {call : Calling} (hc : CallOk P call) {env : Env} (he : EnvOk P env) (hmix : P.follows .mixedOrders = true) (kp : Nat → Option (List Nat)) (ls rs : Nat → Option LSum) (c : Code) (hl : AllL (LsOkP P p ls) (loopsOf c)) (hr : AllL (RsOkP P p rs) (rangesOf c)) : COk P ⟨true, p⟩ false c (fun (K : KC ρ) s => codeR env call kp ls rs p c K s) := by
  induction c with
  | skip => exact COk.skip
  | region id ops draw => exact COk.region hc he hmix
  | seq a b iha ihb => exact COk.seq (iha (AllL.append hl).1 (AllL.append hr).1) (ihb (AllL.append hl).2 (AllL.append hr).2) _
  | cond c a b iha ihb => exact COk.cond (iha (AllL.append hl).1 (AllL.append hr).1) (ihb (AllL.append hl).2 (AllL.append hr).2)
  | block id c ih => exact COk.block (ih hl hr)
  | loop c ih =>
    have hl' : LsOkP P p ls c ∧ AllL (LsOkP P p ls) (loopsOf c) := hl
    obtain ⟨h1, h2⟩ := hl'
    intro K s r hk hK
    have hK' : (match lsOf ls c with
      | some L => sumK (L (trimR ⟨true, p⟩ (kpOf kp c) s)) K
      | none => loopK (trimR ⟨true, p⟩ (kpOf kp c)) (codeR env call kp ls rs p c) K env.rounds (trimR ⟨true, p⟩ (kpOf kp c) s)) = some r := hK
    unfold LsOkP at h1
    cases hls : lsOf ls c with
    | none =>
      rw [hls] at hK'
      exact COk.loop (ih h2 hr) (kpOf kp c) env.rounds K s r hk hK'
    | some L =>
      rw [hls] at hK' h1
      simp only at hK' h1
      unfold sumK at hK'
      rw [Ans.walk_eq] at hK'
      split at hK'
      · rename_i r0 hL
        obtain ⟨e, s'⟩ := r0
        simp only at hK'
        obtain ⟨t2, t5⟩ := trimR_ok (root := ⟨true, p⟩) (ks := kpOf kp c) hk
        obtain ⟨q1, q2⟩ := h1 _ _ _ t2.1 hL
        refine ⟨e, s', hK', ⟨q1, fun q => by cases q⟩, fun hF hro w cx a hr hfr => ?_⟩
        obtain ⟨c2, r2, x2, v2⟩ := t5 w cx a _ hr hfr
        refine wpIn_mono (q2 hF (hro rfl) w c2 a r2 (hfr.onward v2)) ?_
        rintro e2 a2 w2 ⟨rfl, hp⟩
        exact ⟨rfl, hp.trans x2 v2⟩
      · cases hK'
  | rangeFunc f ps assign body _ _ =>
    have hr' : RsOkP P p rs (.rangeFunc f ps assign body) ∧ True := hr
    intro K s r hk hK
    have hK' : (match lsOf rs assign with
      | some L => sumK (L (trimR ⟨true, p⟩ (kpOf kp assign) s)) K
      | none => rangeK env.strict call (ev s.t f) ps assign body K s) = some r := hK
    have h1 := hr'.1
    unfold RsOkP at h1
    simp only at h1
    cases hls : lsOf rs assign with
    | none =>
      rw [hls] at hK'
      exact COk.rangeFunc hc K s r hk hK'
    | some L =>
      rw [hls] at hK' h1
      simp only at hK' h1
      unfold sumK at hK'
      rw [Ans.walk_eq] at hK'
      split at hK'
      · rename_i r0 hL
        obtain ⟨e, s'⟩ := r0
        simp only at hK'
        obtain ⟨t2, t5⟩ := trimR_ok (root := ⟨true, p⟩) (ks := kpOf kp assign) hk
        obtain ⟨q1, q2⟩ := h1 _ _ _ t2.1 hL
        refine ⟨e, s', hK', ⟨q1, fun q => by cases q⟩, fun hF hro w cx a hr hfr => ?_⟩
        obtain ⟨c2, r2, x2, v2⟩ := t5 w cx a _ hr hfr
        refine wpIn_mono (q2 hF (hro rfl) w c2 a r2 (hfr.onward v2)) ?_
        rintro e2 a2 w2 ⟨rfl, hp⟩
        exact ⟨rfl, hp.trans x2 v2⟩
      · cases hK'
  | exit id => exact COk.exit
  | scope c _ => intro K s r hk hK; cases hK
  | label l => exact COk.label
  | goto l => intro K s r hk hK; cases hK
  | ret => exact COk.ret
  | refuse why => intro K s r hk hK; cases hK
theorem range_triple {env : Env} (he : EnvOk2 P env) {d : Nat} {f : Operand} {ps : Array Tmp} {assign body : Code} {ks ko : List Nat} {s s1 s' : St} {e : AX} (hk : s.h.ok)
    (h1 : rangeK env.strict (callF env d) (ev s.t f) ps assign body (outKP p ks ko) s = some (e, s1)) (hw : WeakP p s1 s') : TripleP P p (.rangeFunc f ps assign body) s e s' := by
  have hX : COk P ⟨true, p⟩ false (.rangeFunc f ps assign body) (fun (K : KC (AX × St)) s => rangeK env.strict (callF env d) (ev s.t f) ps assign body K s) := COk.rangeFunc (callF_sound he d)
  obtain ⟨e1, s2, k1, k2, k3⟩ := hX _ _ _ hk h1
  refine ⟨hw.1, fun hF hro w cx a hr hfr => wpIn_mono (k3 hF (fun _ => hro) w cx a hr ⟨fun q => (by cases q), fun _ => hfr.R rfl⟩) ?_⟩
  rintro e2 a1 w1 ⟨rfl, c1, r1, x1, v1⟩
  have fin : ∀ kx : List Nat, e = e1 → s1 = canonP p (some kx) s2 → exitOf e1 = exitOf e ∧ PostC ⟨true, p⟩ w cx s.h.next s' a1 w1 := by
    intro kx he1 hs1
    subst he1
    obtain ⟨t2, t5⟩ := trimR_ok (root := ⟨true, p⟩) (ks := some kx) k2.1
    obtain ⟨c2, r2, x2, v2⟩ := t5 w1 c1 a1 s2.h.next r1 ⟨fun q => (by cases q), v1.R⟩
    have e2 : trimR ⟨true, p⟩ (some kx) s2 = s1 := hs1.symm
    rw [e2] at r2 v2
    obtain ⟨c3, r3, x3, v3, u3⟩ := hw.2 w1 c2 a1 r2 (v2.R rfl)
    have k3' : Keeps ⟨true, p⟩ c2 c3 s1.h.next s'.h.next := ⟨fun q => (by cases q), fun q => (by cases q), fun q => (by cases q), fun _ => v3, fun _ => u3⟩
    exact ⟨rfl, c3, r3, (x1.trans x2).trans x3, (v1.trans v2).trans k3'⟩
  cases e1 with
  | normal => injection k1 with k1; injection k1 with k1 k1'; exact fin ks k1.symm k1'.symm
  | exit i => injection k1 with k1; injection k1 with k1 k1'; exact fin ko k1.symm k1'.symm
  | ret => injection k1 with k1; injection k1 with k1 k1'; exact fin ko k1.symm k1'.symm
end
def rootR (env : Env) (d g p : Nat) (ls rs : Nat → Option LSum) (KV : AV → Heap → Option (AV × Heap)) (args : List AV) (h : Heap) : Option (AV × Heap) :=
  match env.fn.get g with
  | some fn => (match fn.body with
    | some c => codeR env (callF env d) (env.keep g) ls rs p c (endK env fn KV) ⟨startT fn args, [], h⟩
    | none => none)
  | none => none
section
variable {P : Program} {env : Env} (he : EnvOk2 P env)
include he
theorem rootR_alone {d g p : Nat} {ls rs : Nat → Option LSum} {KV : AV → Heap → Option (AV × Heap)} (hKV : ∀ v h v2 h2, h.ok → KV v h = some (v2, h2) → WeakP p ⟨[v], [], h⟩ ⟨[v2], [], h2⟩) (hl : AllL (LsOkP P p ls) (loopsOf (bodyOf env g))) (hrs : AllL (RsOkP P p rs) (rangesOf (bodyOf env g))) {args : List AV} {h0 : Heap} (hk0 : h0.ok) {v : AV} {h2 : Heap} (hK : rootR env d g p ls rs KV args h0 = some (v, h2)) : EffAlone P g p args h0 v h2 := by
  have hc := callF_sound he d
  unfold rootR at hK
  unfold bodyOf at hl hrs
  split at hK
  · rename_i fn hfn
    rw [hfn] at hl hrs
    simp only at hl hrs
    obtain ⟨f1, f2⟩ := he.fn g fn hfn
    split at hK
    · rename_i c hb
      rw [hb] at hl hrs
      simp only at hl hrs
      obtain ⟨e, s', h1, h2', h3⟩ := codeR_sound (p := p) hc he.ok he.mix (env.keep g) ls rs c hl hrs _ _ _ hk0 hK
      have hl : leaveK env fn KV s' = some (v, h2) ∧ ∀ id, e ≠ .exit id := by
        cases e with
        | normal => exact ⟨h1, by simp⟩
        | exit id => cases h1
        | ret => exact ⟨h1, by simp⟩
      obtain ⟨hl, hne⟩ := hl
      unfold leaveK at hl
      split at hl
      · rename_i h' hcm
        unfold leaveH at hl
        split at hl
        · rename_i l hla
          rw [sAV_eq] at hl
          obtain ⟨m1, m2, _⟩ := closeMarks_sound (P := P) (fn := fn) (tmps := #[]) (R := fun _ _ => True) s'.d s'.h h' h2'.1 hcm
          have hwk := hKV _ _ _ _ m1.ok hl
          refine ⟨hwk.1, ?_⟩
          intro w cx args' hr hv hV
          apply callsIn_of_wp_marks f1 hb trivial
          have hst : StRel w cx ⟨startT fn args, [], h0⟩ { tmps := args'.toArray ++ Array.replicate (fn.ntmps - args'.toArray.size) undef, defers := [] } := by
            refine ⟨?_, hr, rfl, by simp⟩
            show VRs w cx (args ++ List.replicate (fn.ntmps - args.length) undefA) _
            have : (args'.toArray ++ Array.replicate (fn.ntmps - args'.toArray.size) undef).toList = args' ++ List.replicate (fn.ntmps - args.length) undef := by
              simp [hv.length]
            rw [this]
            exact hv.append (VRs.replicate _ (.val _))
          have hx := h3 (.inl rfl) (fun _ => rfl) w cx _ hst ⟨fun q => (by cases q), fun _ => hV⟩
          refine wpIn_mono hx ?_
          rintro e1' a1 w1 ⟨rfl, c1, r1, x1, v1⟩
          have fin : LeavesInM Fence.wide 0 P fn a1.tmps (fun e w' => ∃ v', e = .returned v' ∧ PostF ⟨true, p⟩ w cx h0 h2 v v' w') a1.defers .returning w1 := by
            obtain ⟨_, _, m3⟩ := closeMarks_sound (P := P) (fn := fn) (tmps := a1.tmps) (R := fun e w' => ∃ v', e = .returned v' ∧ PostF ⟨true, p⟩ w cx h0 h2 v v' w') s'.d s'.h h' h2'.1 hcm
            obtain ⟨w', y1, y2, y3⟩ := m3 w1 c1 r1.h r1.dv
            rw [r1.d]
            apply y3
            obtain ⟨v', z1, z2⟩ := results_sound he.ok (fn := fn) (VRs.mono y1.toExt0 r1.t) y2 hla
            have v1' : Keeps ⟨true, p⟩ cx c1 h0.next h'.next := by rw [m2]; exact v1
            obtain ⟨c2, r2, x2, q2, u2⟩ := hwk.2 w' c1 { tmps := #[v'], defers := [] } ⟨.cons _ _ _ _ z2 .nil, y2, rfl, by simp⟩ (v1'.R rfl)
            have k2 : Keeps ⟨true, p⟩ c1 c2 h'.next h2.next := ⟨fun q => (by cases q), fun q => (by cases q), fun q => (by cases q), fun _ => q2, fun _ => u2⟩
            refine ⟨v', z1, v', rfl, c2, ?_, (x1.trans y1.w).trans x2, v1'.trans k2, r2.h⟩
            have r3 : VRs w' c2 [v] [v'] := r2.t
            cases r3 with | cons _ _ _ _ q1 q2 => exact q1
          cases e with
          | normal => exact fin
          | exit id => exact absurd rfl (hne id)
          | ret => exact fin
        · cases hl
      · cases hl
    · cases hK
  · cases hK
end
theorem outVP_weak {p : Nat} : ∀ v h v2 h2, h.ok → outVP p v h = some (v2, h2) → WeakP p ⟨[v], [], h⟩ ⟨[v2], [], h2⟩ := by
  intro v h v2 h2 hk e
  unfold outVP at e
  injection e with e
  injection e with e1 e2
  obtain ⟨t2, t5⟩ := trimR_ok (root := ⟨true, p⟩) (ks := some [0]) (s := ⟨[v], [], h⟩) hk
  subst e1; subst e2
  refine ⟨t2.1, fun w c a hr hv => ?_⟩
  obtain ⟨c2, r2, x2, v2⟩ := t5 w c a h.next hr ⟨fun q => (by cases q), fun _ => hv⟩
  refine ⟨c2, ⟨?_, r2.h, ?_, ?_⟩, x2, v2.R rfl, v2.P rfl⟩
  · have r3 : VRs w c2 (canonP p (some [0]) ⟨[v], [], h⟩).t a.tmps.toList := r2.t
    have hl := hr.t.length
    generalize (canonP p (some [0]) ⟨[v], [], h⟩).t = tt at r3
    generalize a.tmps.toList = us at r3 hl
    cases r3 with
    | nil => simp at hl
    | cons v0 u l us q1 q2 =>
      cases q2 with
      | nil => exact .cons _ _ _ _ q1 .nil
      | cons => simp at hl
  · have hd : hr.d = hr.d := rfl
    have := r2.d
    have h0 : a.defers = marks c [] := hr.d
    rw [h0]; rfl
  · intro i hi; cases hi
end Go.Ev
