/- The evaluator, its soundness and the walks: part 12. -/
import Derived.Handed
import Derived.JoinedOf
import Derived.Test.YtninaidfifiliaaC11
set_option linter.unusedSectionVars false
set_option linter.unusedSimpArgs false
set_option linter.unusedVariables false
set_option maxRecDepth 100000
set_option maxRecDepth 1000000
noncomputable section
/- Devices: what is read of a sector. -/
namespace Go.Ev
open Go.Proofs
def asg : Code → Code
  | .rangeFunc _ _ a _ => a
  | _ => .skip
def bdy : Code → Code
  | .rangeFunc _ _ _ b => b
  | _ => .skip
def isAH (a : List AV) (h : Heap) (a0 : List AV) (h0 : Heap) : Bool := @decide (a = a0 ∧ h = h0) (Classical.propDecidable _)
theorem isAH_refl (a : List AV) (h : Heap) : isAH a h a h = true := @decide_eq_true _ (Classical.propDecidable _) ⟨rfl, rfl⟩
theorem isAH_eq {a a0 : List AV} {h h0 : Heap} (q : isAH a h a0 h0 = true) : a = a0 ∧ h = h0 := @of_decide_eq_true _ (Classical.propDecidable _) q
def opn : Code → Operand
  | .rangeFunc f _ _ _ => f
  | _ => .tmp 0
def prsA : Code → Array Tmp
  | .rangeFunc _ ps _ _ => ps
  | _ => #[]
end Go.Ev
/- JournalDevices: the walk of the law. -/
namespace Go.Ev
open Go.Proofs
end Go.Ev
/- JournalDevices: the plain law. -/
namespace Go.Ev
open Go.Proofs
theorem okSW_le {Q : List SwD} (h : Q.length ≤ 9223372036854775807) : okSW (SW.con Q) = true := by
  unfold okSW
  rw [SW.ok_con, Bool.true_and]
  exact ble_t (a := Q.length) h
end Go.Ev
/- JournalDevices, for every input: the law answers true, and its arguments read as they did. -/
namespace Go.Ev
open Go.Proofs
abbrev intsSh : Sh := .sl (.int .i64)
end Go.Ev
namespace Go.Proofs.Ytninaidfifiliaa
open Go.Ev
end Go.Proofs.Ytninaidfifiliaa
/- Journals: entries as rows; journals as values; encoded. -/
namespace Go.Ev
open Go.Proofs
def enParse : List AV → EntD
  | [.val (.int .i64 k), .val (.int .i64 a), .val (.int .i64 b), .val (.int .i64 c), .ro (.ints .u8 l) _] => (k, a, b, c, l)
  | [.val (.int .i64 k), .val (.int .i64 a), .val (.int .i64 b), .val (.int .i64 c), .val (.slice none 0 0)] => (k, a, b, c, [])
  | _ => entZ
def enIs : List AV → Bool
  | [.val (.int .i64 k), .val (.int .i64 a), .val (.int .i64 b), .val (.int .i64 c), .ro (.ints .u8 l) _] => true
  | [.val (.int .i64 k), .val (.int .i64 a), .val (.int .i64 b), .val (.int .i64 c), .val (.slice none 0 0)] => true
  | _ => false
theorem en_law (r : List AV) (h : enIs r = true) (j : Nat) (v' : AV) (hv : (entRow (enParse r))[j]? = some v') : ∃ v, r[j]? = some v ∧ AW v v' := by
  unfold enIs at h
  split at h
  · rename_i k a b c l cap
    exact AWs.get (l' := [.val (.int .i64 k), .val (.int .i64 a), .val (.int .i64 b), .val (.int .i64 c), .ro (.ints .u8 l) none]) (.cons (AW.refl _) (.cons (AW.refl _) (.cons (AW.refl _) (.cons (AW.refl _) (.cons (AW.cap _ _) .nil))))) j v' hv
  · rename_i k a b c
    exact AWs.get (l' := [.val (.int .i64 k), .val (.int .i64 a), .val (.int .i64 b), .val (.int .i64 c), .ro (.ints .u8 []) none]) (.cons (AW.refl _) (.cons (AW.refl _) (.cons (AW.refl _) (.cons (AW.refl _) (.cons (AW.nil rfl) .nil))))) j v' hv
  · cases h
def EN : RowTy EntD := ⟨5, entRow, enParse, enIs, entZ, en_law, fun _ => rfl, fun _ => rfl⟩
theorem EN_list_con (L : List EntD) : EN.list (EN.con L) = L := EN.list_con L
def okEN (c : Con) : Bool := EN.ok c && Nat.ble c.len 9223372036854775807
structure JD where
  N : Int
  B : List Int
  P : List SwD
  gen : Int
  ep : Int
  so : Bool
  lim : Int
  st : Int
  ba : Int
  nx : Int
  L : List EntD
  E : List Int
def jcells (J : JD) : List AV := [.val (.int .i64 J.N), .ro (.ints .u8 J.B) none, .ro (SW.con J.P) none, .val (.int .i64 J.gen), .val (.int .i64 J.ep), .val (.bool J.so), .val (.int .i64 J.lim), .val (.int .i64 J.st), .val (.int .i64 J.ba), .val (.int .i64 J.nx), .ro (EN.con J.L) none, .ro (.ints .i64 J.E) none]
def jrA (J : JD) : AV := .agg (jcells J)
def JD.ok (J : JD) : Bool := okSW (SW.con J.P) && okEN (EN.con J.L)
def nzJ : AV → AV
  | .agg [n, b, p, g, e, s, l, st, ba, nx, en, es] => .agg [n, nz0 (.ints .u8 []) b, nz0 (.tab 2 0 (fun _ => [])) p, g, e, s, l, st, ba, nx, nz0 (.tab 5 0 (fun _ => [])) en, nz0 (.ints .i64 []) es]
  | v => v
def withJ {β : Type} (v : AV) (f : JD → Ans β) : Ans β := match v with
  | .agg [.val (.int .i64 N), .ro (.ints .u8 B) _, .ro c _, .val (.int .i64 g), .val (.int .i64 e), .val (.bool s), .val (.int .i64 l), .val (.int .i64 st), .val (.int .i64 ba), .val (.int .i64 nx), .ro ce _, .ro (.ints .i64 E) _] =>
    .grd (okSW c && okEN ce) (f ⟨N, B, SW.list c, g, e, s, l, st, ba, nx, EN.list ce, E⟩)
  | _ => .no
def jA (F : JD → Ans (AV × Heap)) : AFun := roA (fun args => match args with
  | [v] => withJ (nzJ v) F
  | _ => .no)
def j2A (F : JD → AV → Ans (AV × Heap)) : AFun := roA (fun args => match args with
  | [v, x] => withJ (nzJ v) (fun J => F J x)
  | _ => .no)
theorem nzJ_aw (v : AV) : AW v (nzJ v) := by
  unfold nzJ
  split
  · exact AW.agg (.cons (AW.refl _) (.cons (nz0_aw rfl _) (.cons (nz0_aw rfl _) (.cons (AW.refl _) (.cons (AW.refl _) (.cons (AW.refl _) (.cons (AW.refl _) (.cons (AW.refl _) (.cons (AW.refl _) (.cons (AW.refl _) (.cons (nz0_aw rfl _) (.cons (nz0_aw rfl _) .nil))))))))))))
  · exact AW.refl _
theorem okEN_con {c : Con} (h : okEN c = true) : okEN (EN.con (EN.list c)) = true := by
  unfold okEN at h ⊢
  rw [Bool.and_eq_true] at h ⊢
  refine ⟨EN.ok_con _, ?_⟩
  show Nat.ble (EN.list c).length _ = true
  rw [EN.list_len]; exact h.2
theorem okEN_le {L : List EntD} (h : L.length ≤ 9223372036854775807) : okEN (EN.con L) = true := by
  unfold okEN
  rw [EN.ok_con, Bool.true_and]
  exact ble_t (a := L.length) h
theorem withJ_some {β : Type} {v : AV} {f : JD → Ans β} {r : β} (h : (withJ v f).run = some r) : ∃ J : JD, AW v (jrA J) ∧ J.ok = true ∧ (f J).run = some r := by
  unfold withJ at h
  split at h
  · rename_i N B cb c cc g e s l st ba nx ce cce E cE
    rw [Ans.run_grd] at h
    cases hb : (okSW c && okEN ce) with
    | false => rw [hb] at h; cases h
    | true =>
      rw [hb, cond_true] at h
      rw [Bool.and_eq_true] at hb
      refine ⟨_, ?_, ?_, h⟩
      · exact AW.agg (.cons (AW.refl _) (.cons (AW.cap _ _) (.cons (SW.aw (okSW_some hb.1).1 _) (.cons (AW.refl _) (.cons (AW.refl _) (.cons (AW.refl _) (.cons (AW.refl _) (.cons (AW.refl _) (.cons (AW.refl _) (.cons (AW.refl _) (.cons (EN.aw (by have := hb.2; unfold okEN at this; rw [Bool.and_eq_true] at this; exact this.1) _) (.cons (AW.cap _ _) .nil))))))))))))
      · unfold JD.ok
        rw [Bool.and_eq_true]
        exact ⟨okSW_con hb.1, okEN_con hb.2⟩
  · cases h
theorem j_sum {g : Nat} {fn : Func} {code : Code} (hg : Try.prog.funcs[g]? = some fn ∧ fn.name ≠ "runtime.NumGoroutine") (hc : fn.body = some code) (F : JD → Ans (AV × Heap))
    (hal : ∀ J v h2, J.ok = true → (F J).run = some (v, h2) → (∀ e ∈ h2.es, ∃ k, e.blk = .cells k) ∧ Alone Try.prog g [jrA J] v h2) : SumC Try.prog g (jA F) := by
  refine roSumR g ⟨fn, code, hg.1, hg.2, hc⟩ ?_
  intro args v h2 hs
  split at hs
  · rename_i a
    obtain ⟨J, h1, h3, h4⟩ := withJ_some hs
    obtain ⟨q1, q2⟩ := hal J v h2 h3 h4
    exact ⟨q1, Alone.argsW (AWs.args (.cons (nzJ_aw a) .nil)) (Alone.argsW (AWs.args (.cons h1 .nil)) q2)⟩
  · cases hs
theorem j2_sum {g : Nat} {fn : Func} {code : Code} (hg : Try.prog.funcs[g]? = some fn ∧ fn.name ≠ "runtime.NumGoroutine") (hc : fn.body = some code) (F : JD → AV → Ans (AV × Heap))
    (hal : ∀ J x v h2, J.ok = true → (F J x).run = some (v, h2) → (∀ e ∈ h2.es, ∃ k, e.blk = .cells k) ∧ ∃ x', AW x x' ∧ Alone Try.prog g [jrA J, x'] v h2) : SumC Try.prog g (j2A F) := by
  refine roSumR g ⟨fn, code, hg.1, hg.2, hc⟩ ?_
  intro args v h2 hs
  split at hs
  · rename_i a x
    obtain ⟨J, h1, h3, h4⟩ := withJ_some hs
    obtain ⟨q1, x', q2, q3⟩ := hal J x v h2 h3 h4
    exact ⟨q1, Alone.argsW (AWs.args (.cons (nzJ_aw a) (.cons (AW.refl _) .nil))) (Alone.argsW (AWs.args (.cons h1 (.cons q2 .nil))) q3)⟩
  · cases hs
def encD (e : EntD) : List Int := encB e.1 e.2.1 e.2.2.1 e.2.2.2.1 e.2.2.2.2
def Try.E56 : Env := Try.env0 false (sumsOf [(92, Try.A92)]) (keepF 0 [])
def Try.S56 (args : List AV) : Ans (AV × Heap) := match args with
  | [.agg [.val (.int .i64 k), .val (.int .i64 a), .val (.int .i64 b), .val (.int .i64 c), .ro (.ints .u8 l) cap]] => .grd (Nat.ble l.length 1000000) (.out (.ro (.ints .u8 (encB k a b c l)) none, ⟨0, []⟩))
  | _ => .no
def Try.A56 : AFun := roA (fun args => Try.S56 (nzs Try.nzE args))
theorem Try.e56 : EnvOk2 Try.prog Try.E56 := Try.envOk false (sumsOf [(92, Try.A92)]) _ (sumsOf_ok (show AllS Try.prog [(92, Try.A92)] from ⟨Try.sum92, trivial⟩))
theorem Try.r56 (k a b c : Int) (l : List Int) (cap : Option Nat) : rootS Try.E56 3 56 (lsumsOf []) [Try.ent k a b c (.ro (.ints .u8 l) cap)] =
 bif k == 2 then
 some (.own 0 0 (13) none 1, ⟨1, [⟨0, 0, .cells (.ints .u8 ([IntKind.u8.wrap k, IntKind.u8.wrap a, IntKind.u8.wrap (a.fdiv 256), IntKind.u8.wrap (a.fdiv 65536), IntKind.u8.wrap (a.fdiv 16777216), IntKind.u8.wrap b, IntKind.u8.wrap (b.fdiv 256), IntKind.u8.wrap (b.fdiv 65536), IntKind.u8.wrap (b.fdiv 16777216), IntKind.u8.wrap c, IntKind.u8.wrap (c.fdiv 256), IntKind.u8.wrap (c.fdiv 65536), IntKind.u8.wrap (c.fdiv 16777216)]))⟩]⟩)
 else
 bif ownNew (some 1) 1 l.length then
 bif ((1 + l.length) * 1).ble most && (1 + l.length).ble most then
 some (.own 0 0 (1 + l.length) none 1, ⟨1, [⟨0, 0, .cells (.ints .u8 ([IntKind.u8.wrap k] ++ l))⟩]⟩)
 else
 none
 else
 bif ((1 + l.length) * 1).ble most && (1 + l.length).ble most then
 some (.own 0 0 (1 + l.length) none 1, ⟨1, [⟨0, 0, .cells (.ints .u8 ([IntKind.u8.wrap k] ++ l))⟩]⟩)
 else
 none := by kernel_rfl
end Go.Ev
/- Journals: which are valid. -/
namespace Go.Ev
open Go.Proofs
theorem Try.al56 (k a b c : Int) (l : List Int) (cap : Option Nat) (hl : l.length ≤ 1000000) : Alone Try.prog 56 [Try.ent k a b c (.ro (.ints .u8 l) cap)] (.ro (.ints .u8 (encB k a b c l)) none) ⟨0, []⟩ := by
  refine Alone.freeze (con := .ints .u8 (encB k a b c l)) rfl ?_
  have run := fun v h2 => rootS_alone Try.e56 (d := 3) (g := 56) (ls := lsumsOf []) (AllL.of0 (by kernel_rfl)) (args := [Try.ent k a b c (.ro (.ints .u8 l) cap)]) (v := v) (h2 := h2)
  have key := Try.r56 k a b c l cap
  rw [ble_t (show (1 + l.length) * 1 ≤ most by rw [most_eq]; omega), ble_t (show 1 + l.length ≤ most by rw [most_eq]; omega)] at key
  show Alone Try.prog 56 _ (.own 0 0 (encB k a b c l).length none 1) (oneH (.ints .u8 (encB k a b c l)))
  unfold encB
  cases hk : (k == 2) with
  | true =>
    rw [hk] at key
    have hk2 : k = 2 := by simpa using hk
    subst hk2
    exact run _ _ key
  | false =>
    rw [hk] at key
    have e1 : (IntKind.u8.wrap k :: (bif false then wordsB [a, b, c] else l)).length = 1 + l.length := by simp; omega
    rw [e1]
    refine run _ _ (key.trans ?_)
    cases ownNew (some 1) 1 l.length <;> rfl
theorem Try.sum56 : SumC Try.prog 56 Try.A56 := by
  refine roSumR 56 ⟨Try.f56, _, Try.fnOk56.1, Try.fnOk56.2, rfl⟩ ?_
  intro args v h2 hs
  replace hs : (Try.S56 (nzs Try.nzE args)).run = some (v, h2) := hs
  have fin : Alone Try.prog 56 (nzs Try.nzE args) v h2 ∧ ∀ e ∈ h2.es, ∃ k, e.blk = .cells k := by
    generalize nzs Try.nzE args = args' at hs ⊢
    unfold Try.S56 at hs
    split at hs
    · rename_i k a b c l cap
      rw [Ans.run_grd] at hs
      cases hb : Nat.ble l.length 1000000 with
      | false => rw [hb] at hs; cases hs
      | true =>
        rw [hb, cond_true] at hs
        rw [Nat.ble_eq] at hb
        injection hs with hs
        injection hs with q1 q2
        subst q1; subst q2
        exact ⟨Try.al56 k a b c l cap hb, fun e he => by cases he⟩
    · cases hs
  exact ⟨fin.2, fin.1.nz (cs := Try.nzE) (by simp [Try.nzE, Con.len])⟩
def secs (n : Nat) : Int := ((max ((n + 45) / 46) 1 : Nat) : Int)
def atJ (st : Int) (E : List Int) (k : Nat) : Int := Nat.rec st (fun k _ => E.getD k 0) k
def entD? (e : EntD) : Bool := entB e.1 e.2.1 e.2.2.1 e.2.2.2.1 e.2.2.2.2.length
def Try.t101 : List (Nat × AFun) := [(55, Try.A55), (56, Try.A56), (63, Try.A63)]
def Try.E101 : Env := Try.env0 false (sumsOf Try.t101) (keepF 101 [(6, [1,4,83,84,85])])
def Try.b101 : Code := nthD .skip (loopsOf (bodyOf Try.E101 101)) 0
def Try.B101 (s : St) : Option (AX × St) := codeS Try.E101 (callF Try.E101 3) (Try.E101.keep 101) (lsumsOf []) Try.b101 (outK [1,4,83,84,85] [1,2,4]) s
def Try.V101 (J : JD) (a : Int) (k : Nat) : List AV := [.ptr 0 0 0, .val (.int .i64 a), .ro (EN.con J.L) none, .val (.int .i64 J.L.length), .val (.int .i64 k)]
def jrC (J : JD) : Con := .rows true 12 [jcells J]
theorem Try.e101 : EnvOk2 Try.prog Try.E101 := Try.envOk false (sumsOf Try.t101) _ (sumsOf_ok (show AllS Try.prog Try.t101 from ⟨Try.sum55, Try.sum56, Try.sum63, trivial⟩))
theorem Try.r101 (J : JD) (a : Int) (k : Nat) : Try.B101 (stOf 117 [1,4,83,84,85] (Try.V101 J a k) (oneH (jrC J))) =
 bif decide ((↑k : Int) < (↑J.L.length : Int)) then
 bif inR (↑k : Int) J.L.length then
 bif entB (J.L.getD k EN.z).fst (J.L.getD k EN.z).snd.fst (J.L.getD k EN.z).snd.snd.fst (J.L.getD k EN.z).snd.snd.snd.fst (J.L.getD k EN.z).snd.snd.snd.snd.length then
 bif inR (↑k : Int) J.E.length then
 bif (J.L.getD k EN.z).snd.snd.snd.snd.length.ble 1000000 then
 bif IntKind.i64.wrap (J.E.getD k 0 - a) != if 1 > IntKind.i64.wrap ((IntKind.i64.wrap (IntKind.i64.wrap ((↑(encB (J.L.getD k EN.z).fst (J.L.getD k EN.z).snd.fst (J.L.getD k EN.z).snd.snd.fst (J.L.getD k EN.z).snd.snd.snd.fst (J.L.getD k EN.z).snd.snd.snd.snd).length : Int) + 46) - 1)).tdiv 46) then 1 else IntKind.i64.wrap ((IntKind.i64.wrap (IntKind.i64.wrap ((↑(encB (J.L.getD k EN.z).fst (J.L.getD k EN.z).snd.fst (J.L.getD k EN.z).snd.snd.fst (J.L.getD k EN.z).snd.snd.snd.fst (J.L.getD k EN.z).snd.snd.snd.snd).length : Int) + 46) - 1)).tdiv 46) then
 some (.ret, stOf 117 [1, 2, 4] [.ptr 0 0 0, .val (.bool false), .val (.int .i64 (a))] ⟨1, [⟨0, 0, .cells (jrC J)⟩]⟩ )
 else
 bif inR (↑k : Int) J.E.length then
 some (.normal, stOf 117 [1, 4, 83, 84, 85] [.ptr 0 0 0, .val (.int .i64 (J.E.getD k 0)), .ro (EN.con J.L) none, .val (.int .i64 ((↑J.L.length : Int))), .val (.int .i64 (IntKind.i64.wrap ((↑k : Int) + 1)))] ⟨1, [⟨0, 0, .cells (jrC J)⟩]⟩ )
 else
 none
 else
 none
 else
 none
 else
 some (.ret, stOf 117 [1, 2, 4] [.ptr 0 0 0, .val (.bool false), .val (.int .i64 (a))] ⟨1, [⟨0, 0, .cells (jrC J)⟩]⟩ )
 else
 none
 else
 some (.exit 0, stOf 117 [1, 4] [.ptr 0 0 0, .val (.int .i64 (a))] ⟨1, [⟨0, 0, .cells (jrC J)⟩]⟩ ) := by kernel_rfl
theorem secs_w (n : Nat) (h : n ≤ 1000001) : (if 1 > IntKind.i64.wrap ((IntKind.i64.wrap (IntKind.i64.wrap ((n : Int) + 46) - 1)).tdiv 46) then 1 else IntKind.i64.wrap ((IntKind.i64.wrap (IntKind.i64.wrap ((n : Int) + 46) - 1)).tdiv 46)) = secs n := by
  rw [wrap64 ((n : Int) + 46) (by omega) (by omega), wrap64 ((n : Int) + 46 - 1) (by omega) (by omega)]
  have e1 : ((n : Int) + 46 - 1).tdiv 46 = (((n + 45) / 46 : Nat) : Int) := by
    rw [show (n : Int) + 46 - 1 = ((n + 45 : Nat) : Int) by omega]
    exact Int.ofNat_tdiv (n + 45) 46
  rw [e1, wrap64 _ (by omega) (by omega)]
  unfold secs
  by_cases h1 : (n + 45) / 46 < 1
  · rw [if_pos (by omega), Nat.max_eq_right (by omega)]; rfl
  · rw [if_neg (by omega), Nat.max_eq_left (by omega)]
def stepB (J : JD) (k : Nat) : Bool := entD? (J.L.getD k EN.z) && (IntKind.i64.wrap (J.E.getD k 0 - atJ J.st J.E k) == secs (encD (J.L.getD k EN.z)).length)
def chainB (J : JD) (k : Nat) : Bool := Nat.rec true (fun k ih => ih && stepB J k) k
theorem chain_le {J : JD} {k : Nat} : ∀ n, k ≤ n → chainB J n = true → chainB J k = true
  | 0, hk, h => by have : k = 0 := by omega
                   subst this; exact h
  | n + 1, hk, h => by
    rcases Nat.lt_or_ge k (n + 1) with q | q
    · have h' : (chainB J n && stepB J n) = true := h
      rw [Bool.and_eq_true] at h'
      exact chain_le n (by omega) h'.1
    · have : k = n + 1 := by omega
      subst this; exact h
theorem ent_len {k a b c : Int} {n : Nat} (h : entB k a b c n = true) : n < 20000 := by
  unfold entB at h
  cases hk : (k == 2) with
  | true =>
    rw [hk, cond_true, Bool.and_eq_true, beq_iff_eq] at h
    omega
  | false =>
    rw [hk, cond_false] at h
    simp only [Bool.and_eq_true, decide_eq_true_eq] at h
    omega
theorem encB_len (k a b c : Int) (l : List Int) : (encB k a b c l).length ≤ 13 + l.length := by
  unfold encB
  rw [List.length_cons]
  cases (k == 2)
  · simp only [cond_false]; omega
  · have : (wordsB [a, b, c]).length = 12 := rfl
    simp only [cond_true]
    omega
def Try.s101 (J : JD) : St := stOf 117 [1,4,83,84,85] (Try.V101 J J.st 0) (oneH (jrC J))
def Try.x101 (J : JD) : AX × St := (.exit 0, stOf 117 [1,2,4] [.ptr 0 0 0, .unk, .val (.int .i64 (atJ J.st J.E J.L.length))] (oneH (jrC J)))
def Try.y101 (J : JD) : AX × St := (.ret, stOf 117 [1,2,4] [.ptr 0 0 0, .val (.bool false), .unk] (oneH (jrC J)))
def Try.L101 (J : JD) : LSum := atL (Try.s101 J) (.grd (decide (J.E.length = J.L.length) && Nat.ble J.L.length 9223372036854775807) (.br (chainB J J.L.length) (.out (Try.x101 J)) (.out (Try.y101 J))))
theorem Try.l101 (J : JD) : ∀ s e s', s.h.ok → (Try.L101 J s).run = some (e, s') → Triple Try.prog (.loop Try.b101) s e s' := by
  refine atL_grd (fun hp => ?_)
  rw [Bool.and_eq_true, decide_eq_true_eq, Nat.ble_eq] at hp
  obtain ⟨hE, hL⟩ := hp
  refine loop_at Try.e101 (d := 3) (g := 101) (ls := lsumsOf []) (c := Try.b101) trivial [1,4,83,84,85] [1,2,4] (T := Nat)
    (fun k => stOf 117 [1,4,83,84,85] (Try.V101 J (atJ J.st J.E k) k) (oneH (jrC J))) (fun k => k ≤ J.L.length ∧ chainB J k = true) (fun k => J.L.length - k) (fun _ => bif chainB J J.L.length then Try.x101 J else Try.y101 J) _ _ 0 ⟨Nat.zero_le _, rfl⟩ (Weak.refl (oneH_ok _)) ?_ (fun k _ => oneH_ok _) ?_
  · intro e s' h
    rw [Ans.run_br] at h
    cases hc : chainB J J.L.length <;> rw [hc] at h <;> exact Option.some.inj h
  · rintro k ⟨h2, h3⟩
    have key := Try.r101 J (atJ J.st J.E k) k
    by_cases hk : k < J.L.length
    · have bad : stepB J k = false → chainB J J.L.length = false := fun hs => by
        cases hc : chainB J J.L.length with
        | false => rfl
        | true =>
          have := chain_le _ (show k + 1 ≤ J.L.length from hk) hc
          have h' : (chainB J k && stepB J k) = true := this
          rw [hs, Bool.and_false] at h'
          cases h'
      have low : AWs [.ptr 0 0 0, .val (.bool false), .val (.int .i64 (atJ J.st J.E k))] [.ptr 0 0 0, .val (.bool false), .unk] := .cons (AW.refl _) (.cons (AW.refl _) (.cons (AW.unk _) .nil))
      rw [declt_nat, decide_eq_true hk, inR_nat, inR_nat, decide_eq_true hk, hE, decide_eq_true hk] at key
      cases h4 : entD? (J.L.getD k EN.z) with
      | false =>
        have h4' := h4
        unfold entD? at h4'
        rw [h4'] at key
        have hs : stepB J k = false := by unfold stepB; rw [h4, Bool.false_and]
        simp only [bad hs, cond_false']
        exact .inr ⟨_, key, Weak.slots (oneH_ok _) low, by show AX.ret ≠ .normal; intro h; cases h⟩
      | true =>
        have h4' := h4
        unfold entD? at h4'
        rw [h4'] at key
        have hn := ent_len h4'
        have hm := encB_len (J.L.getD k EN.z).1 (J.L.getD k EN.z).2.1 (J.L.getD k EN.z).2.2.1 (J.L.getD k EN.z).2.2.2.1 (J.L.getD k EN.z).2.2.2.2
        rw [ble_t (show (J.L.getD k EN.z).2.2.2.2.length ≤ 1000000 by omega), secs_w _ (by omega)] at key
        cases h5 : (IntKind.i64.wrap (J.E.getD k 0 - atJ J.st J.E k) == secs (encD (J.L.getD k EN.z)).length) with
        | false =>
          have h5' : (IntKind.i64.wrap (J.E.getD k 0 - atJ J.st J.E k) != secs (encB (J.L.getD k EN.z).1 (J.L.getD k EN.z).2.1 (J.L.getD k EN.z).2.2.1 (J.L.getD k EN.z).2.2.2.1 (J.L.getD k EN.z).2.2.2.2).length) = true := by
            rw [bne]; rw [show (IntKind.i64.wrap (J.E.getD k 0 - atJ J.st J.E k) == secs (encB (J.L.getD k EN.z).1 (J.L.getD k EN.z).2.1 (J.L.getD k EN.z).2.2.1 (J.L.getD k EN.z).2.2.2.1 (J.L.getD k EN.z).2.2.2.2).length) = false from h5]; rfl
          rw [h5'] at key
          have hs : stepB J k = false := by unfold stepB; rw [h4, h5]; rfl
          simp only [bad hs, cond_false']
          exact .inr ⟨_, key, Weak.slots (oneH_ok _) low, by show AX.ret ≠ .normal; intro h; cases h⟩
        | true =>
          have h5' : (IntKind.i64.wrap (J.E.getD k 0 - atJ J.st J.E k) != secs (encB (J.L.getD k EN.z).1 (J.L.getD k EN.z).2.1 (J.L.getD k EN.z).2.2.1 (J.L.getD k EN.z).2.2.2.1 (J.L.getD k EN.z).2.2.2.2).length) = false := by
            rw [bne]; rw [show (IntKind.i64.wrap (J.E.getD k 0 - atJ J.st J.E k) == secs (encB (J.L.getD k EN.z).1 (J.L.getD k EN.z).2.1 (J.L.getD k EN.z).2.2.1 (J.L.getD k EN.z).2.2.2.1 (J.L.getD k EN.z).2.2.2.2).length) = true from h5]; rfl
          rw [h5', wrapT k (by omega)] at key
          have hs : stepB J k = true := by unfold stepB; rw [h4, h5]; rfl
          refine .inl ⟨k + 1, _, key, Weak.refl (oneH_ok _), ⟨hk, ?_⟩, by omega, rfl⟩
          show (chainB J k && stepB J k) = true
          rw [h3, hs]; rfl
    · have : k = J.L.length := by omega
      subst this
      rw [declt_nat, decide_eq_false hk] at key
      simp only [h3, cond_true']
      exact .inr ⟨_, key, Weak.refl (oneH_ok _), by show (AX.exit 0) ≠ .normal; intro h; cases h⟩
theorem Try.w101 (J : JD) : rootS Try.E101 3 101 (lsumsOf [(6, Try.L101 J)]) [jrA J] =
 bif okSW (SW.con J.P) then
 bif isDevB J.N J.B (SW.list (SW.con J.P)) then
 bif decide (J.gen ≥ 1) then
 bif decide (J.gen ≤ 1073741824) then
 bif decide (J.ep ≥ 1) then
 bif decide (J.ep ≤ 1073741824) then
 bif decide (J.ba ≥ 0) then
 bif decide (J.ba ≤ J.st) then
 bif decide (J.st ≥ J.ba) then
 bif decide (J.st ≤ J.nx) then
 bif decide (J.nx > 1073741824) then
 some (.val (.bool false), ⟨0, []⟩)
 else
 bif decide (IntKind.i64.wrap (J.nx - J.ba) > IntKind.i64.wrap (J.N - 2)) then
 some (.val (.bool false), ⟨0, []⟩)
 else
 bif decide (J.lim ≥ 0) then
 bif decide (J.lim ≤ J.nx) then
 bif (↑J.E.length : Int) != (↑J.L.length : Int) then
 some (.val (.bool false), ⟨0, []⟩)
 else
 bif isSt (Try.s101 J) (Try.s101 J) then
 bif decide (J.E.length = J.L.length) && J.L.length.ble 9223372036854775807 then
 bif chainB J J.L.length then
 bif atJ J.st J.E J.L.length == J.nx then
 some (.val (.bool true), ⟨0, []⟩)
 else
 some (.val (.bool false), ⟨0, []⟩)
 else
 some (.val (.bool false), ⟨0, []⟩)
 else
 none
 else
 none
 else
 some (.val (.bool false), ⟨0, []⟩)
 else
 some (.val (.bool false), ⟨0, []⟩)
 else
 some (.val (.bool false), ⟨0, []⟩)
 else
 some (.val (.bool false), ⟨0, []⟩)
 else
 some (.val (.bool false), ⟨0, []⟩)
 else
 some (.val (.bool false), ⟨0, []⟩)
 else
 some (.val (.bool false), ⟨0, []⟩)
 else
 some (.val (.bool false), ⟨0, []⟩)
 else
 some (.val (.bool false), ⟨0, []⟩)
 else
 some (.val (.bool false), ⟨0, []⟩)
 else
 some (.val (.bool false), ⟨0, []⟩)
 else
 none := by kernel_rfl
end Go.Ev
/- Journals: their contract of being valid; entries copied. -/
namespace Go.Ev
open Go.Proofs
def isJr (J : JD) : Bool := isDevB J.N J.B J.P && (decide (J.gen ≥ 1) && (decide (J.gen ≤ 1073741824) && (decide (J.ep ≥ 1) && (decide (J.ep ≤ 1073741824) && (decide (J.ba ≥ 0) && (decide (J.ba ≤ J.st) && (decide (J.st ≤ J.nx) && (!decide (J.nx > 1073741824) && (!decide (IntKind.i64.wrap (J.nx - J.ba) > IntKind.i64.wrap (J.N - 2)) && (decide (J.lim ≥ 0) && (decide (J.lim ≤ J.nx) && (!((J.E.length : Int) != (J.L.length : Int)) && (chainB J J.L.length && (atJ J.st J.E J.L.length == J.nx))))))))))))))
def Try.A101 : AFun := jA (fun J => .out (.val (.bool (isJr J)), ⟨0, []⟩))
theorem Try.sum101 : SumC Try.prog 101 Try.A101 := by
  refine j_sum Try.fnOk101 rfl _ ?_
  intro J v h2 ok hs
  injection hs with hs
  injection hs with q1 q2
  subst q1; subst q2
  refine ⟨fun e he => (by cases he), ?_⟩
  refine rootS_alone Try.e101 (d := 3) (g := 101) (ls := lsumsOf [(6, Try.L101 J)]) (AllL.of1 (a := Try.b101) (by kernel_rfl) (LsOk.of rfl rfl (Try.l101 J))) ((Try.w101 J).trans ?_)
  unfold JD.ok at ok
  rw [Bool.and_eq_true] at ok
  have hL : Nat.ble J.L.length 9223372036854775807 = true := by
    have := ok.2
    unfold okEN at this
    rw [Bool.and_eq_true] at this
    exact this.2
  rw [ok.1, SW_list_con, isSt_refl, hL]
  unfold isJr
  cases isDevB J.N J.B J.P
  · rfl
  cases decide (J.gen ≥ 1)
  · rfl
  cases decide (J.gen ≤ 1073741824)
  · rfl
  cases decide (J.ep ≥ 1)
  · rfl
  cases decide (J.ep ≤ 1073741824)
  · rfl
  cases decide (J.ba ≥ 0)
  · rfl
  cases decide (J.ba ≤ J.st)
  · rfl
  cases decide (J.st ≤ J.nx)
  · rfl
  cases decide (J.nx > 1073741824)
  case true => rfl
  cases decide (IntKind.i64.wrap (J.nx - J.ba) > IntKind.i64.wrap (J.N - 2))
  case true => rfl
  cases decide (J.lim ≥ 0)
  · rfl
  cases decide (J.lim ≤ J.nx)
  · rfl
  cases hE : ((J.E.length : Int) != (J.L.length : Int))
  case true => rfl
  have hE' : J.E.length = J.L.length := by
    rw [bne, Bool.not_eq_false', beq_iff_eq] at hE; omega
  rw [decide_eq_true hE']
  cases chainB J J.L.length
  · rfl
  cases atJ J.st J.E J.L.length == J.nx
  · rfl
  rfl
theorem Try.r104a (e : EntD) (L : List EntD) : rootS Try.E1 3 104 (lsumsOf []) [.ro (EN.own (e :: L)) none] =
 bif ((0 + (List.map EN.row (e :: L)).length) * 56).ble most && (0 + (List.map EN.row (e :: L)).length).ble most then
 some (.own 0 0 (0 + (List.map EN.row (e :: L)).length) none 5, ⟨1, [⟨0, 0, .cells (.rows true 5 ([] ++ (List.map EN.row (e :: L))))⟩]⟩)
 else
 none := by kernel_rfl
theorem Try.r104b (m : Nat) : rootS Try.E1 3 104 (lsumsOf []) [.val (.slice none 0 m)] =
 some (.val (.slice none 0 0), ⟨0, []⟩) := by kernel_rfl
theorem Try.r104c (p : Addr) (m : Nat) : rootS Try.E1 3 104 (lsumsOf []) [.val (.slice (some p) 0 m)] =
 some (.own 0 0 (0) none 5, ⟨1, [⟨0, 0, .cells (.rows true 5 [])⟩]⟩) := by kernel_rfl
theorem EN_own_len (L : List EntD) : (EN.own L).len = L.length := by simp [RowTy.own, Con.len]
theorem Try.al104 (L : List EntD) (hl : L.length ≤ 1000000) : Alone Try.prog 104 [.ro (EN.own L) none] (.own 0 0 L.length none 5) (oneH (EN.con L)) := by
  have run := fun args v h2 => rootS_alone Try.e1 (d := 3) (g := 104) (ls := lsumsOf []) (AllL.of0 (by kernel_rfl)) (args := args) (v := v) (h2 := h2)
  have key := clone_alone (P := Try.prog) (g := 104) (EN.own L) none ?_ ?_ ?_
  · rw [EN_own_len] at key
    have h1 := EN.conv (EN.ok_own L)
    rw [EN.list_own] at h1
    exact Alone.outW (v' := .own 0 0 L.length none 5) (Weak.oneH (c := EN.own L) (c' := EN.con L) (t := [.own 0 0 L.length none 5]) rfl h1) key
  · intro hl'
    cases L with
    | nil => cases hl'
    | cons x L =>
      refine run _ _ _ ((Try.r104a x L).trans ?_)
      have e1 : 0 + (List.map EN.row (x :: L)).length = (x :: L).length := by simp
      rw [e1, ble_t (by rw [most_eq]; omega), ble_t (by rw [most_eq]; omega), EN_own_len]
      rfl
  · intro _ m; exact ⟨_, run _ _ _ (Try.r104b m)⟩
  · intro h0 p m
    have : L = [] := by cases L with | nil => rfl | cons => simp [RowTy.own, Con.len] at h0
    subst this
    exact run _ _ _ (Try.r104c p m)
def Try.S104 (args : List AV) : Ans (AV × Heap) := match args with
  | [.ro c cap] => .grd (EN.ok c && Nat.ble c.len 1000000) (.out (.own 0 0 c.len none 5, oneH (EN.con (EN.list c))))
  | _ => .no
def Try.nzEN : List Con := [.tab 5 0 (fun _ => [])]
def Try.A104 : AFun := roA (fun args => Try.S104 (nzs Try.nzEN args))
theorem Try.al104c {c : Con} {cap : Option Nat} (h : EN.ok c = true) (hl : c.len ≤ 1000000) : Alone Try.prog 104 [.ro c cap] (.own 0 0 c.len none 5) (oneH (EN.con (EN.list c))) := by
  refine Alone.argsW (args' := [.ro (EN.own (EN.list c)) none]) (AWs.args (.cons (fun _ _ _ => VR.conv (EN.convOwn h) (.inr rfl)) .nil)) ?_
  have := Try.al104 (EN.list c) (by rw [EN.list_len]; exact hl)
  rw [EN.list_len] at this
  exact this
theorem Try.sum104 : SumC Try.prog 104 Try.A104 := by
  refine roSumR 104 ⟨Try.f104, _, Try.fnOk104.1, Try.fnOk104.2, rfl⟩ ?_
  intro args v h2 hs
  replace hs : (Try.S104 (nzs Try.nzEN args)).run = some (v, h2) := hs
  have fin : Alone Try.prog 104 (nzs Try.nzEN args) v h2 ∧ ∀ e ∈ h2.es, ∃ k, e.blk = .cells k := by
    generalize nzs Try.nzEN args = args' at hs ⊢
    unfold Try.S104 at hs
    split at hs
    · rename_i c cap
      rw [Ans.run_grd] at hs
      cases hb : (EN.ok c && Nat.ble c.len 1000000) with
      | false => rw [hb] at hs; cases hs
      | true =>
        rw [hb, cond_true] at hs
        rw [Bool.and_eq_true, Nat.ble_eq] at hb
        injection hs with hs
        injection hs with q1 q2
        subst q1; subst q2
        refine ⟨Try.al104c hb.1 hb.2, fun e he => ?_⟩
        have : e = ⟨0, 0, .cells (EN.con (EN.list c))⟩ := by simpa [oneH] using he
        rw [this]; exact ⟨_, rfl⟩
    · cases hs
  exact ⟨fin.2, fin.1.nz (cs := Try.nzEN) (by simp [Try.nzEN, Con.len])⟩
def Try.t86 : List (Nat × AFun) := [(59, Try.A59x), (104, Try.A104)]
def Try.E86 : Env := Try.env0 false (sumsOf Try.t86) (keepF 86 [(3, [3,8,9,10])])
def Try.b86 : Code := nthD .skip (loopsOf (bodyOf Try.E86 86)) 0
def Try.B86 (s : St) : Option (AX × St) := codeS Try.E86 (callF Try.E86 3) (Try.E86.keep 86) (lsumsOf []) Try.b86 (outK [3,8,9,10] [3]) s
def Try.V86 (L : List EntD) (k : Nat) : List AV := [.own 0 0 L.length none 5, .own 0 0 L.length none 5, .val (.int .i64 L.length), .val (.int .i64 k)]
theorem Try.e86 : EnvOk2 Try.prog Try.E86 := Try.envOk false (sumsOf Try.t86) _ (sumsOf_ok (show AllS Try.prog Try.t86 from ⟨Try.sum59x, Try.sum104, trivial⟩))
theorem Try.r86 (L : List EntD) (k : Nat) : Try.B86 (stOf 24 [3,8,9,10] (Try.V86 L k) (oneH (EN.con L))) =
 bif decide ((↑k : Int) < (↑L.length : Int)) then
 bif inR (↑k : Int) L.length then
 bif (0 + k).blt L.length then
 bif (L.getD (0 + k) EN.z).snd.snd.snd.snd.length.ble 1000000 then
 bif inR (↑k : Int) L.length then
 bif (0 + k).blt L.length && true then
 some (.normal, stOf 24 [3, 8, 9, 10] [.own 0 0 (L.length) none 5, .own 0 0 (L.length) none 5, .val (.int .i64 ((↑L.length : Int))), .val (.int .i64 (IntKind.i64.wrap ((↑k : Int) + 1)))] ⟨1, [⟨0, 0, .cells (.rows true 5 (tabSet (L.length) (fun i => EN.row (L.getD i EN.z)) (0 + k) [.val (.int .i64 ((L.getD (0 + k) EN.z).fst)), .val (.int .i64 ((L.getD (0 + k) EN.z).snd.fst)), .val (.int .i64 ((L.getD (0 + k) EN.z).snd.snd.fst)), .val (.int .i64 ((L.getD (0 + k) EN.z).snd.snd.snd.fst)), .ro (.ints .u8 ((L.getD (0 + k) EN.z).snd.snd.snd.snd)) none]))⟩]⟩ )
 else
 none
 else
 none
 else
 none
 else
 none
 else
 none
 else
 some (.exit 0, stOf 24 [3] [.own 0 0 (L.length) none 5] ⟨1, [⟨0, 0, .cells (EN.con L)⟩]⟩ ) := by kernel_rfl
def elensOk (L : List EntD) : Bool := L.all fun e => Nat.ble e.2.2.2.2.length 1000000
def Try.s86 (n : Nat) (L : List EntD) : St := stOf 24 [3,8,9,10] [.own 0 0 n none 5, .own 0 0 n none 5, .val (.int .i64 n), .val (.int .i64 (0 : Nat))] (oneH (EN.con L))
def Try.x86 (L : List EntD) : AX × St := (.exit 0, stOf 24 [3] [.own 0 0 L.length none 5] (oneH (EN.con L)))
def Try.L86 (n : Nat) (L : List EntD) : LSum := atL (Try.s86 n L) (.grd (decide (n = L.length) && (Nat.ble L.length 1000000 && elensOk L)) (.out (Try.x86 L)))
theorem elensOk_get {L : List EntD} (h : elensOk L = true) (k : Nat) : (L.getD k EN.z).2.2.2.2.length ≤ 1000000 := by
  unfold elensOk at h
  rw [List.getD_eq_getElem?_getD]
  cases hi : L[k]? with
  | none => simp [EN, entZ]
  | some x =>
    have := (List.all_eq_true.1 h) x (List.mem_of_getElem? hi)
    simpa [Nat.ble_eq] using this
theorem Try.l86 (n : Nat) (L : List EntD) : ∀ s e s', s.h.ok → (Try.L86 n L s).run = some (e, s') → Triple Try.prog (.loop Try.b86) s e s' := by
  refine atL_grd (fun hp => ?_)
  rw [Bool.and_eq_true, decide_eq_true_eq, Bool.and_eq_true, Nat.ble_eq] at hp
  obtain ⟨rfl, hL, hls⟩ := hp
  refine loop_at Try.e86 (d := 3) (g := 86) (ls := lsumsOf []) (c := Try.b86) trivial [3,8,9,10] [3] (T := Nat)
    (fun k => stOf 24 [3,8,9,10] (Try.V86 L k) (oneH (EN.con L))) (fun k => k ≤ L.length) (fun k => L.length - k) (fun _ => Try.x86 L) _ _ 0 (Nat.zero_le _) (Weak.refl (oneH_ok _)) ?_ (fun k _ => oneH_ok _) ?_
  · intro e s' h
    exact Option.some.inj h
  · intro k h2
    replace h2 : k ≤ L.length := h2
    have key := Try.r86 L k
    by_cases hk : k < L.length
    · rw [declt_nat, inR_nat, Nat.zero_add, decide_eq_true hk, blt_t hk, ble_t (elensOk_get hls k), wrapT k (by omega)] at key
      refine .inl ⟨k + 1, _, key, ?_, hk, by omega, rfl⟩
      exact Weak.heap (oneH_ok _) (.con 0 0 0 rfl (tabSet_same (AWs.refl _)) (EsW.refl _))
    · have : k = L.length := by omega
      subst this
      rw [declt_nat, decide_eq_false hk] at key
      exact .inr ⟨_, key, Weak.refl (oneH_ok _), by show (AX.exit 0) ≠ .normal; intro h; cases h⟩
theorem Try.w86 (L : List EntD) : rootS Try.E86 3 86 (lsumsOf [(3, Try.L86 L.length (EN.list (EN.con L)))]) [.ro (EN.con L) none] =
 bif EN.ok (EN.con L) && L.length.ble 1000000 then
 bif isSt (Try.s86 L.length (EN.list (EN.con L))) (Try.s86 L.length (EN.list (EN.con L))) then
 bif decide (L.length = (EN.list (EN.con L)).length) && ((EN.list (EN.con L)).length.ble 1000000 && elensOk (EN.list (EN.con L))) then
 some (.own 0 0 ((EN.list (EN.con L)).length) none 5, ⟨1, [⟨0, 0, .cells (EN.con (EN.list (EN.con L)))⟩]⟩)
 else
 none
 else
 none
 else
 none := by kernel_rfl
def Try.S86 (args : List AV) : Ans (AV × Heap) := match args with
  | [.ro c cap] => .grd (EN.ok c && (Nat.ble c.len 1000000 && elensOk (EN.list c))) (.out (.own 0 0 c.len none 5, oneH (EN.con (EN.list c))))
  | _ => .no
def Try.A86 : AFun := roA (fun args => Try.S86 (nzs Try.nzEN args))
theorem Try.al86 (L : List EntD) (hL : L.length ≤ 1000000) (hs : elensOk L = true) : Alone Try.prog 86 [.ro (EN.con L) none] (.own 0 0 L.length none 5) (oneH (EN.con L)) := by
  refine rootS_alone Try.e86 (d := 3) (g := 86) (ls := lsumsOf [(3, Try.L86 L.length (EN.list (EN.con L)))]) (AllL.of1 (a := Try.b86) (by kernel_rfl) (LsOk.of rfl rfl (Try.l86 _ _))) ((Try.w86 L).trans ?_)
  rw [EN.ok_con, isSt_refl, EN_list_con, hs, ble_t hL, decide_eq_true (rfl : L.length = L.length)]
  rfl
theorem Try.al86c {c : Con} {cap : Option Nat} (h : EN.ok c = true) (hl : c.len ≤ 1000000) (hs : elensOk (EN.list c) = true) : Alone Try.prog 86 [.ro c cap] (.own 0 0 c.len none 5) (oneH (EN.con (EN.list c))) := by
  refine Alone.argsW (args' := [.ro (EN.con (EN.list c)) none]) (AWs.args (.cons (EN.aw h _) .nil)) ?_
  have := Try.al86 (EN.list c) (by rw [EN.list_len]; exact hl) hs
  rw [EN.list_len] at this
  exact this
theorem Try.sum86 : SumC Try.prog 86 Try.A86 := by
  refine roSumR 86 ⟨Try.f86, _, Try.fnOk86.1, Try.fnOk86.2, rfl⟩ ?_
  intro args v h2 hs
  replace hs : (Try.S86 (nzs Try.nzEN args)).run = some (v, h2) := hs
  have fin : Alone Try.prog 86 (nzs Try.nzEN args) v h2 ∧ ∀ e ∈ h2.es, ∃ k, e.blk = .cells k := by
    generalize nzs Try.nzEN args = args' at hs ⊢
    unfold Try.S86 at hs
    split at hs
    · rename_i c cap
      rw [Ans.run_grd] at hs
      cases hb : (EN.ok c && (Nat.ble c.len 1000000 && elensOk (EN.list c))) with
      | false => rw [hb] at hs; cases hs
      | true =>
        rw [hb, cond_true] at hs
        rw [Bool.and_eq_true, Bool.and_eq_true, Nat.ble_eq] at hb
        injection hs with hs
        injection hs with q1 q2
        subst q1; subst q2
        refine ⟨Try.al86c hb.1 hb.2.1 hb.2.2, fun e he => ?_⟩
        have : e = ⟨0, 0, .cells (EN.con (EN.list c))⟩ := by simpa [oneH] using he
        rw [this]; exact ⟨_, rfl⟩
    · cases hs
  exact ⟨fin.2, fin.1.nz (cs := Try.nzEN) (by simp [Try.nzEN, Con.len])⟩
end Go.Ev
/- Journals: opened. -/
namespace Go.Ev
open Go.Proofs
theorem Try.r46a (x : Int) (l : List Int) (cap : Option Nat) : rootS Try.E1 3 46 (lsumsOf []) [.ro (.ints .i64 (x :: l)) cap] =
 bif ((0 + (x :: l).length) * 8).ble most && (0 + (x :: l).length).ble most then
 some (.own 0 0 (0 + (x :: l).length) none 1, ⟨1, [⟨0, 0, .cells (.ints .i64 ([] ++ x :: l))⟩]⟩)
 else
 none := by kernel_rfl
theorem Try.r46b (m : Nat) : rootS Try.E1 3 46 (lsumsOf []) [.val (.slice none 0 m)] =
 some (.val (.slice none 0 0), ⟨0, []⟩) := by kernel_rfl
theorem Try.r46c (p : Addr) (m : Nat) : rootS Try.E1 3 46 (lsumsOf []) [.val (.slice (some p) 0 m)] =
 some (.own 0 0 (0) none 1, ⟨1, [⟨0, 0, .cells (.ints .i64 ([]))⟩]⟩) := by kernel_rfl
theorem Try.al46 (l : List Int) (cap : Option Nat) (hb : l.length ≤ 1000000) : Alone Try.prog 46 [.ro (.ints .i64 l) cap] (.own 0 0 l.length none 1) (oneH (.ints .i64 l)) := by
  have run := fun args v h2 => rootS_alone Try.e1 (d := 3) (g := 46) (ls := lsumsOf []) (AllL.of0 (by kernel_rfl)) (args := args) (v := v) (h2 := h2)
  refine clone_alone (.ints .i64 l) cap ?_ ?_ ?_
  · intro hl
    cases l with
    | nil => cases hl
    | cons x l =>
      refine run _ _ _ ((Try.r46a x l cap).trans ?_)
      rw [Nat.zero_add, ble_t (by rw [most_eq]; omega), ble_t (by rw [most_eq]; omega)]; rfl
  · intro _ m; exact ⟨_, run _ _ _ (Try.r46b m)⟩
  · intro h0 p m
    have : l = [] := List.length_eq_zero_iff.1 h0
    subst this
    exact run _ _ _ (Try.r46c p m)
def Try.S46 (args : List AV) : Ans (AV × Heap) := match args with
  | [.ro (.ints .i64 l) cap] => .grd (Nat.ble l.length 1000000) (.out (.own 0 0 l.length none 1, oneH (.ints .i64 l)))
  | _ => .no
def Try.A46 : AFun := pureA (fun args => Try.S46 (nzs [.ints .i64 []] args))
theorem Try.sum46 : SumC Try.prog 46 Try.A46 := by
  refine pureSumR 46 ⟨Try.f46, _, Try.fnOk46.1, Try.fnOk46.2, rfl⟩ ?_
  intro args v h2 hs
  refine Alone.nz (cs := [.ints .i64 []]) (by simp [Con.len]) ?_
  replace hs : (Try.S46 (nzs [.ints .i64 []] args)).run = some (v, h2) := hs
  generalize nzs [.ints .i64 []] args = args' at hs ⊢
  unfold Try.S46 at hs
  split at hs
  · rename_i l cap
    rw [Ans.run_grd] at hs
    cases hb : Nat.ble l.length 1000000 with
    | false => rw [hb] at hs; cases hs
    | true =>
      rw [hb, cond_true] at hs
      rw [Nat.ble_eq] at hb
      injection hs with hs
      injection hs with q1 q2
      subst q1; subst q2
      exact Try.al46 l cap hb
  · cases hs
def Try.t79 : List (Nat × AFun) := [(46, Try.A46), (64, Try.A64), (86, Try.A86), (101, Try.A101)]
def Try.E79 : Env := Try.env0 false (sumsOf Try.t79) (keepF 0 [])
theorem Try.e79 : EnvOk2 Try.prog Try.E79 := Try.envOk false (sumsOf Try.t79) _ (sumsOf_ok (show AllS Try.prog Try.t79 from ⟨Try.sum46, Try.sum64, Try.sum86, Try.sum101, trivial⟩))
theorem Try.w79 (J : JD) : rootS Try.E79 5 79 (lsumsOf []) [jrA J] =
 bif okSW (SW.con J.P) && okEN (EN.con J.L) then
 bif isJr { N := J.N, B := J.B, P := SW.list (SW.con J.P), gen := J.gen, ep := J.ep, so := J.so, lim := J.lim, st := J.st, ba := J.ba, nx := J.nx, L := EN.list (EN.con J.L), E := J.E } then
 bif okSW (SW.con J.P) && (J.B.length.ble 1000000 && (J.P.length.ble 1000000 && lensOk (SW.list (SW.con J.P)))) then
 bif J.E.length.ble 1000000 then
 bif EN.ok (EN.con J.L) && (J.L.length.ble 1000000 && elensOk (EN.list (EN.con J.L))) then
 some (.tup [.ptr 0 0 0, .val (.bool true)], ⟨5, [⟨4, 0, .cells (.ints .i64 (J.E))⟩, ⟨3, 0, .cells (EN.con (EN.list (EN.con J.L)))⟩, ⟨2, 0, .cells (SW.con (SW.list (SW.con J.P)))⟩, ⟨1, 0, .cells (.ints .u8 (J.B))⟩, ⟨0, 0, .cells (.rows false 15 ([.val (.int .i64 (J.N)), .own 1 0 (J.B.length) none 1, .own 2 0 ((SW.list (SW.con J.P)).length) none 2, .val (.int .i64 (J.N)), .ro (.ints .u8 (J.B)) none, .ro (SW.con J.P) none, .val (.int .i64 (J.gen)), .val (.int .i64 (J.ep)), .val (.bool (J.so)), .val (.int .i64 (J.lim)), .val (.int .i64 (J.st)), .val (.int .i64 (J.ba)), .val (.int .i64 (J.nx)), .own 3 0 (J.L.length) none 5, .own 4 0 (J.E.length) none 1] :: []))⟩]⟩)
 else
 none
 else
 none
 else
 none
 else
 some (.tup [.val (Value.pointer none), .val (.bool false)], ⟨0, []⟩)
 else
 none := by kernel_rfl
structure JrFacts (J : JD) : Prop where
  dev : isDevB J.N J.B J.P = true
  g0 : 1 ≤ J.gen
  g1 : J.gen ≤ 1073741824
  e0 : 1 ≤ J.ep
  e1 : J.ep ≤ 1073741824
  b0 : 0 ≤ J.ba
  bs : J.ba ≤ J.st
  sn : J.st ≤ J.nx
  nm : J.nx ≤ 1073741824
  room : J.nx - J.ba ≤ J.N - 2
  l0 : 0 ≤ J.lim
  l1 : J.lim ≤ J.nx
  len : J.E.length = J.L.length
  chain : chainB J J.L.length = true
  fin : atJ J.st J.E J.L.length = J.nx
theorem jr_facts {J : JD} (h : isJr J = true) : JrFacts J := by
  unfold isJr at h
  simp only [Bool.and_eq_true, decide_eq_true_eq, Bool.not_eq_true', decide_eq_false_iff_not, bne_eq_false_iff_eq, beq_iff_eq] at h
  obtain ⟨h1, h2, h3, h4, h5, h6, h7, h8, h9, h10, h11, h12, h13, h14, h15⟩ := h
  have hd := dev_facts h1
  have k1 := hd.lo
  have k2 := hd.hi
  rw [wrap64 _ (by omega) (by omega), wrap64 _ (by omega) (by omega)] at h10
  exact ⟨h1, by omega, by omega, by omega, by omega, by omega, by omega, by omega, by omega, by omega, by omega, by omega, by omega, h14, h15⟩
theorem jr_of {J : JD} (h : JrFacts J) : isJr J = true := by
  have hd := dev_facts h.dev
  have k1 := hd.lo
  have k2 := hd.hi
  obtain ⟨h1, h2, h3, h4, h5, h6, h7, h8, h9, h10, h11, h12, h13, h14, h15⟩ := h
  unfold isJr
  simp only [Bool.and_eq_true, decide_eq_true_eq, Bool.not_eq_true', decide_eq_false_iff_not, bne_eq_false_iff_eq, beq_iff_eq]
  rw [wrap64 _ (by omega) (by omega), wrap64 _ (by omega) (by omega)]
  exact ⟨h1, by omega, by omega, by omega, by omega, by omega, by omega, by omega, by omega, by omega, by omega, by omega, by omega, h14, h15⟩
theorem lens_dev {N : Int} {B : List Int} {P : List SwD} (h : DevFacts N B P) : lensOk P = true := by
  unfold lensOk
  rw [List.all_eq_true]
  intro e he
  obtain ⟨i, hi, rfl⟩ := List.getElem_of_mem he
  have := h.wl i hi
  rw [List.getD_eq_getElem?_getD, List.getElem?_eq_getElem hi, Option.getD_some] at this
  rw [Nat.ble_eq]
  omega
theorem chain_ents {J : JD} (h : chainB J J.L.length = true) : ∀ k, k < J.L.length → stepB J k = true := fun k hk => by
  have := chain_le _ (show k + 1 ≤ J.L.length from hk) h
  have h' : (chainB J k && stepB J k) = true := this
  rw [Bool.and_eq_true] at h'
  exact h'.2
theorem elens_jr {J : JD} (h : chainB J J.L.length = true) : elensOk J.L = true := by
  unfold elensOk
  rw [List.all_eq_true]
  intro e he
  obtain ⟨i, hi, rfl⟩ := List.getElem_of_mem he
  have := chain_ents h i hi
  unfold stepB at this
  rw [Bool.and_eq_true] at this
  have h2 := this.1
  unfold entD? at h2
  have h3 := ent_len h2
  rw [List.getD_eq_getElem?_getD, List.getElem?_eq_getElem hi, Option.getD_some] at h3
  rw [Nat.ble_eq]
  omega
def jrow (N : Int) (b p : AV) (J : JD) (en es : AV) : List AV := [.val (.int .i64 N), b, p, .val (.int .i64 J.N), .ro (.ints .u8 J.B) none, .ro (SW.con J.P) none, .val (.int .i64 J.gen), .val (.int .i64 J.ep), .val (.bool J.so), .val (.int .i64 J.lim), .val (.int .i64 J.st), .val (.int .i64 J.ba), .val (.int .i64 J.nx), en, es]
def opH (J : JD) : Heap := ⟨5, [⟨4, 0, .cells (.ints .i64 J.E)⟩, ⟨3, 0, .cells (EN.con J.L)⟩, ⟨2, 0, .cells (SW.con J.P)⟩, ⟨1, 0, .cells (.ints .u8 J.B)⟩, ⟨0, 0, .cells (.rows false 15 [jrow J.N (.own 1 0 J.B.length none 1) (.own 2 0 J.P.length none 2) J (.own 3 0 J.L.length none 5) (.own 4 0 J.E.length none 1)])⟩]⟩
def opHz (J : JD) : Heap := ⟨3, [⟨2, 0, .cells (SW.con J.P)⟩, ⟨1, 0, .cells (.ints .u8 J.B)⟩, ⟨0, 0, .cells (.rows false 15 [jrow J.N (.own 1 0 J.B.length none 1) (.own 2 0 J.P.length none 2) J (.ro (EN.con J.L) none) (.ro (.ints .i64 J.E) none)])⟩]⟩
def opX (J : JD) (h : Heap) : Ans (AV × Heap) := .grd (Nat.ble J.L.length 1000000) (.br (isJr J) (.out (.tup [.ptr 0 0 0, .val (.bool true)], h)) (.out (.tup [.val (.pointer none), .val (.bool false)], ⟨0, []⟩)))
def Try.A79 : AFun := jA (fun J => opX J (opH J))
def Try.A79z : AFun := jA (fun J => opX J (opHz J))
theorem Try.al79 (J : JD) (ok : J.ok = true) (hL : J.L.length ≤ 1000000) (h : isJr J = true) : Alone Try.prog 79 [jrA J] (.tup [.ptr 0 0 0, .val (.bool true)]) (opH J) := by
  refine rootS_alone Try.e79 (d := 5) (g := 79) (ls := lsumsOf []) (AllL.of0 (by kernel_rfl)) ((Try.w79 J).trans ?_)
  have hf := jr_facts h
  have hd := dev_facts hf.dev
  have h1 := hd.len
  have h2 := hd.hi
  have h3 := hd.few
  have h4 := hf.len
  unfold JD.ok at ok
  have ok1 := ok
  rw [Bool.and_eq_true] at ok1
  have e1 : (⟨J.N, J.B, J.P, J.gen, J.ep, J.so, J.lim, J.st, J.ba, J.nx, J.L, J.E⟩ : JD) = J := rfl
  rw [SW_list_con, EN_list_con, e1, h, ok1.1, ok1.2, ble_t (show J.B.length ≤ 1000000 by omega), ble_t (show J.P.length ≤ 1000000 by omega), lens_dev hd, ble_t (show J.E.length ≤ 1000000 by omega), EN.ok_con, ble_t hL, elens_jr hf.chain]
  rfl
theorem Try.al79n (J : JD) (ok : J.ok = true) (h : isJr J = false) : Alone Try.prog 79 [jrA J] (.tup [.val (.pointer none), .val (.bool false)]) ⟨0, []⟩ := by
  refine rootS_alone Try.e79 (d := 5) (g := 79) (ls := lsumsOf []) (AllL.of0 (by kernel_rfl)) ((Try.w79 J).trans ?_)
  unfold JD.ok at ok
  have e1 : (⟨J.N, J.B, J.P, J.gen, J.ep, J.so, J.lim, J.st, J.ba, J.nx, J.L, J.E⟩ : JD) = J := rfl
  rw [SW_list_con, EN_list_con, e1, h, ok]
  rfl
theorem Try.al79z (J : JD) (ok : J.ok = true) (hL : J.L.length ≤ 1000000) (h : isJr J = true) : Alone Try.prog 79 [jrA J] (.tup [.ptr 0 0 0, .val (.bool true)]) (opHz J) := by
  have q := Try.al79 J ok hL h
  have f1 : EsFz 4 (.ints .i64 J.E) (opH J).es [⟨3, 0, .cells (EN.con J.L)⟩, ⟨2, 0, .cells (SW.con J.P)⟩, ⟨1, 0, .cells (.ints .u8 J.B)⟩, ⟨0, 0, .cells (.rows false 15 [jrow J.N (.own 1 0 J.B.length none 1) (.own 2 0 J.P.length none 2) J (.own 3 0 J.L.length none 5) (.ro (.ints .i64 J.E) none)])⟩] :=
    .skip (.same _ rfl (.same _ rfl (.same _ rfl (.row 0 0 rfl (fun _ => rfl) (FzC.one (.cons (.inl rfl) (.cons (.inl rfl) (.cons (.inl rfl) (.cons (.inl rfl) (.cons (.inl rfl) (.cons (.inl rfl) (.cons (.inl rfl) (.cons (.inl rfl) (.cons (.inl rfl) (.cons (.inl rfl) (.cons (.inl rfl) (.cons (.inl rfl) (.cons (.inl rfl) (.cons (.inl rfl) (.cons (.inr (.inr ⟨none, rfl, rfl⟩)) .nil)))))))))))))))) .nil))))
  have q2 : Alone Try.prog 79 [jrA J] (.tup [.ptr 0 0 0, .val (.bool true)]) ⟨4, [⟨3, 0, .cells (EN.con J.L)⟩, ⟨2, 0, .cells (SW.con J.P)⟩, ⟨1, 0, .cells (.ints .u8 J.B)⟩, ⟨0, 0, .cells (.rows false 15 [jrow J.N (.own 1 0 J.B.length none 1) (.own 2 0 J.P.length none 2) J (.own 3 0 J.L.length none 5) (.ro (.ints .i64 J.E) none)])⟩]⟩ := Alone.fzA (v' := .tup [.ptr 0 0 0, .val (.bool true)]) (con := .ints .i64 J.E) (id := 4) (n := 5) rfl rfl (.one (.inl rfl)) f1 (by kernel_rfl) q
  have f2 : EsFz 3 (EN.con J.L) [⟨3, 0, .cells (EN.con J.L)⟩, ⟨2, 0, .cells (SW.con J.P)⟩, ⟨1, 0, .cells (.ints .u8 J.B)⟩, ⟨0, 0, .cells (.rows false 15 [jrow J.N (.own 1 0 J.B.length none 1) (.own 2 0 J.P.length none 2) J (.own 3 0 J.L.length none 5) (.ro (.ints .i64 J.E) none)])⟩] (opHz J).es :=
    .skip (.same _ rfl (.same _ rfl (.row 0 0 rfl (fun _ => rfl) (FzC.one (.cons (.inl rfl) (.cons (.inl rfl) (.cons (.inl rfl) (.cons (.inl rfl) (.cons (.inl rfl) (.cons (.inl rfl) (.cons (.inl rfl) (.cons (.inl rfl) (.cons (.inl rfl) (.cons (.inl rfl) (.cons (.inl rfl) (.cons (.inl rfl) (.cons (.inl rfl) (.cons (.inr (.inr ⟨none, rfl, rfl⟩)) (.cons (.inl rfl) .nil)))))))))))))))) .nil)))
  exact Alone.fzA (v' := .tup [.ptr 0 0 0, .val (.bool true)]) (con := EN.con J.L) (id := 3) (n := 4) rfl rfl (.one (.inl rfl)) f2 (by kernel_rfl) q2
theorem opX_some {J : JD} {h : Heap} {v : AV} {h2 : Heap} (hs : (opX J h).run = some (v, h2)) : J.L.length ≤ 1000000 ∧ (isJr J = true ∧ v = .tup [.ptr 0 0 0, .val (.bool true)] ∧ h2 = h ∨ isJr J = false ∧ v = .tup [.val (.pointer none), .val (.bool false)] ∧ h2 = ⟨0, []⟩) := by
  unfold opX at hs
  rw [Ans.run_grd] at hs
  cases hb : Nat.ble J.L.length 1000000 with
  | false => rw [hb] at hs; cases hs
  | true =>
    rw [hb, cond_true, Ans.run_br] at hs
    rw [Nat.ble_eq] at hb
    refine ⟨hb, ?_⟩
    cases hj : isJr J with
    | true => rw [hj] at hs; injection hs with hs; injection hs with q1 q2; exact .inl ⟨rfl, q1.symm, q2.symm⟩
    | false => rw [hj] at hs; injection hs with hs; injection hs with q1 q2; exact .inr ⟨rfl, q1.symm, q2.symm⟩
theorem Try.sum79 : SumC Try.prog 79 Try.A79 := by
  refine j_sum Try.fnOk79 rfl _ ?_
  intro J v h2 ok hs
  obtain ⟨hL, ⟨h, rfl, rfl⟩ | ⟨h, rfl, rfl⟩⟩ := opX_some hs
  · refine ⟨fun e he => ?_, Try.al79 J ok hL h⟩
    simp only [opH, List.mem_cons, List.not_mem_nil, or_false] at he
    rcases he with rfl | rfl | rfl | rfl | rfl <;> exact ⟨_, rfl⟩
  · exact ⟨fun e he => (by cases he), Try.al79n J ok h⟩
theorem Try.sum79z : SumC Try.prog 79 Try.A79z := by
  refine j_sum Try.fnOk79 rfl _ ?_
  intro J v h2 ok hs
  obtain ⟨hL, ⟨h, rfl, rfl⟩ | ⟨h, rfl, rfl⟩⟩ := opX_some hs
  · refine ⟨fun e he => ?_, Try.al79z J ok hL h⟩
    simp only [opHz, List.mem_cons, List.not_mem_nil, or_false] at he
    rcases he with rfl | rfl | rfl <;> exact ⟨_, rfl⟩
  · exact ⟨fun e he => (by cases he), Try.al79n J ok h⟩
end Go.Ev
/- Journals: Format, Room. -/
namespace Go.Ev
open Go.Proofs
theorem Try.r100 (g e s l : Int) : rootS Try.E56 3 100 (lsumsOf []) [.agg [.val (.int .i64 g), .val (.int .i64 e), .val (.int .i64 s), .val (.int .i64 l)]] =
 some (.own 0 0 (64) none 1, ⟨1, [⟨0, 0, .cells (.ints .u8 ([IntKind.u8.wrap g, IntKind.u8.wrap (g.fdiv 256), IntKind.u8.wrap (g.fdiv 65536), IntKind.u8.wrap (g.fdiv 16777216), 67, 74, 83, 66, IntKind.u8.wrap e, IntKind.u8.wrap (e.fdiv 256), IntKind.u8.wrap (e.fdiv 65536), IntKind.u8.wrap (e.fdiv 16777216), IntKind.u8.wrap s, IntKind.u8.wrap (s.fdiv 256), IntKind.u8.wrap (s.fdiv 65536), IntKind.u8.wrap (s.fdiv 16777216), IntKind.u8.wrap l, IntKind.u8.wrap (l.fdiv 256), IntKind.u8.wrap (l.fdiv 65536), IntKind.u8.wrap (l.fdiv 16777216), 0, 0, 0, 0, 0, 0, 0, 0, 0, 0, 0, 0, 0, 0, 0, 0, 0, 0, 0, 0, 0, 0, 0, 0, 0, 0, 0, 0, 0, 0, 0, 0, 0, 0, 0, 0, IntKind.u8.wrap g, IntKind.u8.wrap (g.fdiv 256), IntKind.u8.wrap (g.fdiv 65536), IntKind.u8.wrap (g.fdiv 16777216), 67, 74, 83, 66]))⟩]⟩) := by kernel_rfl
def superB (g e s l : Int) : List Int := wordsB [g, 1112754755, e, s, l] ++ (List.replicate 36 0 ++ wordsB [g, 1112754755])
def Try.S100 (args : List AV) : Ans (AV × Heap) := match args with
  | [.agg [.val (.int .i64 g), .val (.int .i64 e), .val (.int .i64 s), .val (.int .i64 l)]] => .out (.own 0 0 64 none 1, oneH (.ints .u8 (superB g e s l)))
  | _ => .no
def Try.A100 : AFun := pureA Try.S100
theorem Try.sum100 : SumC Try.prog 100 Try.A100 := by
  refine pureSumR 100 ⟨Try.f100, _, Try.fnOk100.1, Try.fnOk100.2, rfl⟩ ?_
  intro args v h2 hs
  unfold Try.S100 at hs
  split at hs
  · rename_i g e s l
    injection hs with hs
    injection hs with q1 q2
    subst q1; subst q2
    exact rootS_alone Try.e56 (d := 3) (g := 100) (ls := lsumsOf []) (AllL.of0 (by kernel_rfl)) ((Try.r100 g e s l).trans (by kernel_rfl))
  · cases hs
def Try.t37 : List (Nat × AFun) := [(63, Try.A63), (100, Try.A100)]
def Try.E37 : Env := Try.env0 false (sumsOf Try.t37) (keepF 0 [])
theorem Try.e37 : EnvOk2 Try.prog Try.E37 := Try.envOk false (sumsOf Try.t37) _ (sumsOf_ok (show AllS Try.prog Try.t37 from ⟨Try.sum63, Try.sum100, trivial⟩))
theorem Try.w37 (N : Int) (B : List Int) (P : List SwD) : rootS Try.E37 6 37 (lsumsOf []) [devA N B P] =
 bif okSW (SW.con P) then
 bif isDevB N B (SW.list (SW.con P)) then
 bif decide ((↑B.length : Int) ≤ (↑B.length : Int)) && decide ((↑B.length : Int) * 1 ≤ 1099511627776) && decide ((↑B.length : Int) ≤ 1099511627776) then
 bif decide (64 ≤ (↑B.length : Int)) then
 bif (64 + (B.length - 64)).ble (List.replicate B.length (0 : Int)).length && true then
 some (.tup [.agg [.val (.int .i64 (N)), .own 0 0 (B.length) (some (B.length)) 1, .val (.slice none 0 0), .val (.int .i64 1), .val (.int .i64 1), .val (.bool false), .val (.int .i64 0), .val (.int .i64 0), .val (.int .i64 0), .val (.int .i64 0), .val (.slice none 0 0), .val (.slice none 0 0)], .val (.int .i64 0)], ⟨1, [⟨0, 0, .cells (.ints .u8 (List.take 64 (List.drop 0 (List.replicate B.length (0 : Int))) ++ List.take (Nat.min 64 (B.length - 64)) [1, 0, 0, 0, 67, 74, 83, 66, 1, 0, 0, 0, 0, 0, 0, 0, 0, 0, 0, 0, 0, 0, 0, 0, 0, 0, 0, 0, 0, 0, 0, 0, 0, 0, 0, 0, 0, 0, 0, 0, 0, 0, 0, 0, 0, 0, 0, 0, 0, 0, 0, 0, 0, 0, 0, 0, 1, 0, 0, 0, 67, 74, 83, 66] ++ List.take ((List.replicate B.length (0 : Int)).length - (64 + Nat.min 64 (B.length - 64))) (List.drop (64 + Nat.min 64 (B.length - 64)) (List.replicate B.length (0 : Int)))))⟩]⟩)
 else
 none
 else
 none
 else
 none
 else
 some (.tup [.agg [.val (.int .i64 0), .val (.slice none 0 0), .val (.slice none 0 0), .val (.int .i64 0), .val (.int .i64 0), .val (.bool false), .val (.int .i64 0), .val (.int .i64 0), .val (.int .i64 0), .val (.int .i64 0), .val (.slice none 0 0), .val (.slice none 0 0)], .val (.int .i64 400)], ⟨0, []⟩)
 else
 none := by kernel_rfl
def noJ : JD := ⟨0, [], [], 0, 0, false, 0, 0, 0, 0, [], []⟩
def fmtJ (d : DevD) : JD × Int := bif isDevD d then (⟨d.1, putAt (List.replicate d.2.1.length 0) 64 (superB 1 1 0 0), [], 1, 1, false, 0, 0, 0, 0, [], []⟩, 0) else (noJ, 400)
def outJE (r : JD × Int) : AV := .tup [jrA r.1, .val (.int .i64 r.2)]
def Try.Sdv (F : DevD → AV) (args : List AV) : Ans (AV × Heap) := match args with
  | [.agg [.val (.int .i64 N), .ro (.ints .u8 B) cap, .ro c cap']] => .grd (okSW c) (.out (F (N, B, SW.list c), ⟨0, []⟩))
  | _ => .no
def Try.A37 : AFun := roA (fun args => Try.Sdv (fun d => outJE (fmtJ d)) (nzDevs args))
def zeroCells : List AV := [.val (.int .i64 0), .val (.slice none 0 0), .val (.slice none 0 0), .val (.int .i64 0), .val (.int .i64 0), .val (.bool false), .val (.int .i64 0), .val (.int .i64 0), .val (.int .i64 0), .val (.int .i64 0), .val (.slice none 0 0), .val (.slice none 0 0)]
theorem Try.sum_dv {g : Nat} {fn : Func} {code : Code} (hg : Try.prog.funcs[g]? = some fn ∧ fn.name ≠ "runtime.NumGoroutine") (hc : fn.body = some code) (F : DevD → AV)
    (hal : ∀ N B P, okSW (SW.con P) = true → Alone Try.prog g [devA N B P] (F (N, B, P)) ⟨0, []⟩) : SumC Try.prog g (roA (fun args => Try.Sdv F (nzDevs args))) := by
  refine roSumR g ⟨fn, code, hg.1, hg.2, hc⟩ ?_
  intro args v h2 hs
  replace hs : (Try.Sdv F (nzDevs args)).run = some (v, h2) := hs
  have fin : Alone Try.prog g (nzDevs args) v h2 ∧ ∀ e ∈ h2.es, ∃ k, e.blk = .cells k := by
    generalize nzDevs args = args' at hs ⊢
    unfold Try.Sdv at hs
    split at hs
    · rename_i N B cap c cap'
      rw [Ans.run_grd] at hs
      cases hb : okSW c with
      | false => rw [hb] at hs; cases hs
      | true =>
        rw [hb, cond_true] at hs
        injection hs with hs
        injection hs with q1 q2
        subst q1; subst q2
        exact ⟨Alone.argsW (dev_args hb) (hal N B (SW.list c) (okSW_con hb)), fun e he => by cases he⟩
    · cases hs
  exact ⟨fin.2, fin.1.argsW (nzDevs_aw args)⟩
theorem noJ_aw (e : Int) : AW (.tup [.agg zeroCells, .val (.int .i64 e)]) (outJE (noJ, e)) :=
  AW.tup (.cons (AW.agg (.cons (AW.refl _) (.cons (AW.nil rfl) (.cons (AW.nil rfl) (.cons (AW.refl _) (.cons (AW.refl _) (.cons (AW.refl _) (.cons (AW.refl _) (.cons (AW.refl _) (.cons (AW.refl _) (.cons (AW.refl _) (.cons (AW.nil rfl) (.cons (AW.nil rfl) .nil))))))))))))) (.cons (AW.refl _) .nil))
theorem superB_len (g e s l : Int) : (superB g e s l).length = 64 := rfl
theorem Try.sum37 : SumC Try.prog 37 Try.A37 := Try.sum_dv Try.fnOk37 rfl _ (fun N B P ok => by
  have run := fun v h2 => rootS_alone Try.e37 (d := 6) (g := 37) (ls := lsumsOf []) (AllL.of0 (by kernel_rfl)) (args := [devA N B P]) (v := v) (h2 := h2)
  have key := Try.w37 N B P
  rw [ok, SW_list_con] at key
  unfold fmtJ isDevD
  simp only
  cases hd : isDevB N B P with
  | false =>
    rw [hd] at key
    exact Alone.resW (noJ_aw 400) (run _ _ key)
  | true =>
    rw [hd] at key
    have hf := dev_facts hd
    have h1 := hf.len
    have h2 := hf.lo
    have h3 := hf.hi
    have hl : (List.replicate B.length (0 : Int)).length = B.length := List.length_replicate
    have e1 : Nat.min 64 (B.length - 64) = 64 := Nat.min_eq_left (by omega)
    rw [decide_eq_true (Int.le_refl _), decide_eq_true (show (B.length : Int) * 1 ≤ 1099511627776 by omega), decide_eq_true (show (B.length : Int) ≤ 1099511627776 by omega), decide_eq_true (show (64 : Int) ≤ B.length by omega), hl, ble_t (show 64 + (B.length - 64) ≤ B.length by omega), e1, List.drop_zero, List.take_of_length_le (i := B.length - (64 + 64)) (by rw [List.length_drop, hl]; exact Nat.le_refl _)] at key
    have e2 : List.take 64 (List.replicate B.length (0 : Int)) ++ List.take 64 (superB 1 1 0 0) ++ List.drop (64 + 64) (List.replicate B.length (0 : Int)) = putAt (List.replicate B.length 0) 64 (superB 1 1 0 0) := by
      unfold putAt
      rw [List.append_assoc]
      rfl
    have k2 := run _ _ key
    have e3 : (putAt (List.replicate B.length (0 : Int)) 64 (superB 1 1 0 0)).length = B.length := by
      rw [putAt_len (by rw [superB_len, hl]; omega), hl]
    refine Alone.resW (v := .tup [.agg [.val (.int .i64 N), .ro (.ints .u8 (putAt (List.replicate B.length 0) 64 (superB 1 1 0 0))) none, .val (.slice none 0 0), .val (.int .i64 1), .val (.int .i64 1), .val (.bool false), .val (.int .i64 0), .val (.int .i64 0), .val (.int .i64 0), .val (.int .i64 0), .val (.slice none 0 0), .val (.slice none 0 0)], .val (.int .i64 0)]) ?_ (Alone.fz1 (con := .ints .u8 (putAt (List.replicate B.length 0) 64 (superB 1 1 0 0))) rfl rfl ?_ (v := .tup [.agg [.val (.int .i64 N), .own 0 0 B.length (some B.length) 1, .val (.slice none 0 0), .val (.int .i64 1), .val (.int .i64 1), .val (.bool false), .val (.int .i64 0), .val (.int .i64 0), .val (.int .i64 0), .val (.int .i64 0), .val (.slice none 0 0), .val (.slice none 0 0)], .val (.int .i64 0)]) ?_)
    · exact AW.tup (.cons (AW.agg (.cons (AW.refl _) (.cons (AW.refl _) (.cons (AW.nil rfl) (.cons (AW.refl _) (.cons (AW.refl _) (.cons (AW.refl _) (.cons (AW.refl _) (.cons (AW.refl _) (.cons (AW.refl _) (.cons (AW.refl _) (.cons (AW.nil rfl) (.cons (AW.nil rfl) .nil))))))))))))) (.cons (AW.refl _) .nil))
    · refine .tup1 (.cons (.inl rfl) (.cons (.inr (.inr ⟨some B.length, ?_, rfl⟩)) (FzL.refl _ _ _)))
      show AV.own 0 0 B.length (some B.length) 1 = .own 0 0 (putAt (List.replicate B.length (0 : Int)) 64 (superB 1 1 0 0)).length (some B.length) 1
      rw [e3]
    · rw [← e2]
      exact k2)
end Go.Ev
/- Journals: settle, Sync. -/
namespace Go.Ev
open Go.Proofs
def a68 : List AV := [.ptr 0 0 0, .clo (.func 97) [] []]
def H68j (J : JD) (C : List Int) : Heap := ⟨3, [⟨2, 0, .cells (SW.con J.P)⟩, ⟨1, 0, .cells (.ints .u8 C)⟩, ⟨0, 0, .cells (.rows false 15 [jrow J.N (.own 1 0 C.length none 1) (.own 2 0 J.P.length none 2) J (.ro (EN.con J.L) none) (.ro (.ints .i64 J.E) none)])⟩]⟩
def H68n (J : JD) (C : List Int) : Heap := ⟨3, [⟨2, 0, .cells (SW.con J.P)⟩, ⟨1, 0, .cells (.ints .u8 C)⟩, ⟨0, 0, .cells (.rows false 15 [jrow J.N (.own 1 0 C.length none 1) (.val (.slice none 0 0)) J (.ro (EN.con J.L) none) (.ro (.ints .i64 J.E) none)])⟩]⟩
theorem Try.r68j (J : JD) (C : List Int) (k : Nat) : Try.B68 (stOf 38 [0,1,10,11,12] (Try.V68 J.P k) (H68j J C)) =
 bif decide ((↑k : Int) < (↑J.P.length : Int)) then
 bif inR (↑k : Int) J.P.length then
 bif (0 + k).blt J.P.length then
 bif decide (0 ≤ IntKind.i64.wrap ((J.P.getD (0 + k) SW.z).fst * 64)) && decide (IntKind.i64.wrap ((J.P.getD (0 + k) SW.z).fst * 64) ≤ (↑C.length : Int)) then
 bif decide (64 ≤ (↑(J.P.getD (0 + k) SW.z).snd.length : Int)) then
 bif (0 + (IntKind.i64.wrap ((J.P.getD (0 + k) SW.z).fst * 64)).toNat + (C.length - (IntKind.i64.wrap ((J.P.getD (0 + k) SW.z).fst * 64)).toNat)).ble C.length && true then
 some (.normal, stOf 38 [0, 1, 10, 11, 12] [.ptr 0 0 0, .clo (Fn.func 97) [] [], .own 2 0 (J.P.length) none 2, .val (.int .i64 ((↑J.P.length : Int))), .val (.int .i64 (IntKind.i64.wrap ((↑k : Int) + 1)))] ⟨3, [⟨2, 0, .cells (SW.con J.P)⟩, ⟨1, 0, .cells (.ints .u8 (List.take (0 + (IntKind.i64.wrap ((J.P.getD (0 + k) SW.z).fst * 64)).toNat) (List.drop 0 C) ++ List.take ((List.take 64 (List.drop 0 (J.P.getD (0 + k) SW.z).snd)).length.min (C.length - (IntKind.i64.wrap ((J.P.getD (0 + k) SW.z).fst * 64)).toNat)) (List.drop 0 (List.take 64 (List.drop 0 (J.P.getD (0 + k) SW.z).snd))) ++ List.take (C.length - (0 + (IntKind.i64.wrap ((J.P.getD (0 + k) SW.z).fst * 64)).toNat + (List.take 64 (List.drop 0 (J.P.getD (0 + k) SW.z).snd)).length.min (C.length - (IntKind.i64.wrap ((J.P.getD (0 + k) SW.z).fst * 64)).toNat))) (List.drop (0 + (IntKind.i64.wrap ((J.P.getD (0 + k) SW.z).fst * 64)).toNat + (List.take 64 (List.drop 0 (J.P.getD (0 + k) SW.z).snd)).length.min (C.length - (IntKind.i64.wrap ((J.P.getD (0 + k) SW.z).fst * 64)).toNat)) C)))⟩, ⟨0, 0, .cells (.rows false 15 ([.val (.int .i64 (J.N)), .own 1 0 (C.length) none 1, .own 2 0 (J.P.length) none 2, .val (.int .i64 (J.N)), .ro (.ints .u8 (J.B)) none, .ro (SW.con J.P) none, .val (.int .i64 (J.gen)), .val (.int .i64 (J.ep)), .val (.bool (J.so)), .val (.int .i64 (J.lim)), .val (.int .i64 (J.st)), .val (.int .i64 (J.ba)), .val (.int .i64 (J.nx)), .ro (EN.con J.L) none, .ro (.ints .i64 (J.E)) none] :: []))⟩]⟩ )
 else
 none
 else
 none
 else
 none
 else
 none
 else
 none
 else
 some (.exit 0, stOf 38 [0] [.ptr 0 0 0] ⟨3, [⟨2, 0, .cells (SW.con J.P)⟩, ⟨1, 0, .cells (.ints .u8 (C))⟩, ⟨0, 0, .cells (.rows false 15 ([.val (.int .i64 (J.N)), .own 1 0 (C.length) none 1, .own 2 0 (J.P.length) none 2, .val (.int .i64 (J.N)), .ro (.ints .u8 (J.B)) none, .ro (SW.con J.P) none, .val (.int .i64 (J.gen)), .val (.int .i64 (J.ep)), .val (.bool (J.so)), .val (.int .i64 (J.lim)), .val (.int .i64 (J.st)), .val (.int .i64 (J.ba)), .val (.int .i64 (J.nx)), .ro (EN.con J.L) none, .ro (.ints .i64 (J.E)) none] :: []))⟩]⟩ ) := by kernel_rfl
theorem ok3 {c2 c1 c0 : Con} : (⟨3, [⟨2, 0, .cells c2⟩, ⟨1, 0, .cells c1⟩, ⟨0, 0, .cells c0⟩]⟩ : Heap).ok := by
  refine ⟨by show List.Nodup [2, 1, 0]; decide, fun id e h => ?_⟩
  have h' : (bif Nat.beq 2 id then some _ else bif Nat.beq 1 id then some _ else bif Nat.beq 0 id then some _ else none) = some e := h
  show id < 3
  rcases Nat.lt_or_ge id 3 with q | q
  · exact q
  · rw [show Nat.beq 2 id = false from beqF (by omega), show Nat.beq 1 id = false from beqF (by omega), show Nat.beq 0 id = false from beqF (by omega)] at h'
    cases h'
theorem Try.s68j {J : JD} (h : DevFacts J.N J.B J.P) {C : List Int} (hC : C.length = J.B.length) {k : Nat} (hk : k < J.P.length) :
    Try.B68 (stOf 38 [0,1,10,11,12] (Try.V68 J.P k) (H68j J C)) = some (.normal, stOf 38 [0,1,10,11,12] (Try.V68 J.P (k + 1)) (H68j J (putAt C ((J.P.getD k SW.z).1.toNat * 64) ((J.P.getD k SW.z).2.take 64)))) := by
  refine (Try.r68j J C k).trans ?_
  have h0 := h.at0 k hk
  have h1 := h.at1 k hk
  have h2 := h.wl k hk
  have h3 := h.len
  have h4 := h.hi
  have h5 := h.few
  rw [Nat.zero_add]
  generalize J.P.getD k SW.z = e at *
  have ew : IntKind.i64.wrap (e.1 * 64) = e.1 * 64 := wrap64 _ (by omega) (by omega)
  have et : (e.1 * 64).toNat = e.1.toNat * 64 := by omega
  rw [ew, et]
  rw [copy_put (by omega) (by omega), declt_nat, decide_eq_true hk, inR_nat, decide_eq_true hk, blt_t hk, decide_eq_true (show 0 ≤ e.1 * 64 by omega), decide_eq_true (show e.1 * 64 ≤ (C.length : Int) by omega), decide_eq_true (show 64 ≤ (e.2.length : Int) by omega), ble_t (show 0 + e.1.toNat * 64 + (C.length - e.1.toNat * 64) ≤ C.length by omega), wrapT k (by omega)]
  have hl : (putAt C (e.1.toNat * 64) (e.2.take 64)).length = C.length := putAt_len (by simp; omega)
  unfold H68j
  rw [hl]
  rfl
def Try.z68j (J : JD) : St := stOf 38 [0,1,10,11,12] (Try.V68 J.P 0) (H68j J J.B)
def Try.x68j (J : JD) : AX × St := (.exit 0, stOf 38 [0] [.ptr 0 0 0] (H68j J (settleN (fun _ => 64) J.P J.B J.P.length)))
def Try.L68j (J : JD) : LSum := atL (Try.z68j J) (.grd (isDevB J.N J.B J.P) (.out (Try.x68j J)))
theorem Try.l68j (J : JD) : ∀ s e s', s.h.ok → (Try.L68j J s).run = some (e, s') → TripleP Try.prog 3 (.loop Try.b68) s e s' := by
  intro s e s' hk hL
  obtain ⟨rfl, hA⟩ := atL_some hL
  rw [Ans.run_grd] at hA
  cases hd : isDevB J.N J.B J.P with
  | false => rw [hd] at hA; cases hA
  | true =>
  rw [hd, cond_true] at hA
  have hA := Option.some.inj hA
  have hf := dev_facts hd
  have hX := codeP_sound (ρ := AX × St) (p := 3) (callF_sound Try.e68 3) Try.e68.ok Try.e68.mix (Try.E68.keep 68) (lsumsOf []) Try.b68 trivial
  have key := loop_tripleP hX [0,1,10,11,12] [0] (T := Nat) (fun k => stOf 38 [0,1,10,11,12] (Try.V68 J.P k) (H68j J (settleN (fun _ => 64) J.P J.B k))) (fun k => k ≤ J.P.length) (fun k => J.P.length - k) (fun _ => Try.x68j J) (fun k _ => ok3) (fun k hk => by
    replace hk : k ≤ J.P.length := hk
    by_cases h : k < J.P.length
    · exact .inl ⟨k + 1, _, Try.s68j hf (settleN_len hf k hk) h, WeakP.refl ok3, h, by omega, rfl⟩
    · have : k = J.P.length := by omega
      subst this
      have key := Try.r68j J (settleN (fun _ => 64) J.P J.B J.P.length) J.P.length
      rw [declt_nat, decide_eq_false h] at key
      exact .inr ⟨_, key, WeakP.refl ok3, by show (AX.exit 0) ≠ .normal; intro h; cases h⟩) 0 (Nat.zero_le _)
  rw [show Try.x68j J = (e, s') from hA] at key
  exact key
theorem Try.w68j (J : JD) : rootE Try.E68 3 68 3 (lsumsOf [(1, Try.L68j J)]) a68 (H68j J J.B) =
 bif isSt (Try.z68j J) (Try.z68j J) then
 bif isDevB J.N J.B J.P then
 some (.tup [], ⟨3, [⟨2, 0, .cells (SW.con J.P)⟩, ⟨1, 0, .cells (.ints .u8 (settleN (fun x => 64) J.P J.B J.P.length))⟩, ⟨0, 0, .cells (.rows false 15 ([.val (.int .i64 (J.N)), .own 1 0 ((settleN (fun x => 64) J.P J.B J.P.length).length) none 1, .val (.slice none 0 0), .val (.int .i64 (J.N)), .ro (.ints .u8 (J.B)) none, .ro (SW.con J.P) none, .val (.int .i64 (J.gen)), .val (.int .i64 (J.ep)), .val (.bool (J.so)), .val (.int .i64 (J.lim)), .val (.int .i64 (J.st)), .val (.int .i64 (J.ba)), .val (.int .i64 (J.nx)), .ro (EN.con J.L) none, .ro (.ints .i64 (J.E)) none] :: []))⟩]⟩)
 else
 none
 else
 none := by kernel_rfl
def Try.S68j (J : JD) (args : List AV) (h : Heap) : Ans (AV × Heap) := .grd (isAH args h a68 (H68j J J.B)) (.grd (isDevB J.N J.B J.P) (.out (.tup [], H68n J (settleN (fun _ => 64) J.P J.B J.P.length))))
def Try.A68j (J : JD) : AFun := effA (Try.S68j J)
theorem Try.sum68j (J : JD) : SumC Try.prog 68 (Try.A68j J) := by
  refine effSumR 68 ⟨Try.f68, _, Try.fnOk68.1, Try.fnOk68.2, rfl⟩ ?_
  intro args h v h2 hok hs
  unfold Try.S68j at hs
  rw [Ans.run_grd, Ans.run_grd] at hs
  cases hb : isAH args h a68 (H68j J J.B) with
  | false => rw [hb] at hs; cases hs
  | true =>
  rw [hb, cond_true] at hs
  obtain ⟨rfl, rfl⟩ := isAH_eq hb
  cases hd : isDevB J.N J.B J.P with
  | false => rw [hd] at hs; cases hs
  | true =>
  rw [hd, cond_true] at hs
  have hs := Option.some.inj hs
  refine rootE_alone Try.e68 (d := 3) (p := 3) (ls := lsumsOf [(1, Try.L68j J)]) (AllL.of1 (a := Try.b68) (by kernel_rfl) (LsOkP.of rfl rfl (Try.l68j J))) ok3 ((Try.w68j J).trans ?_)
  rw [isSt_refl, hd, ← hs]
  rfl
def reJ (J : JD) : JD := ⟨J.N, J.B, SW.list (SW.con J.P), J.gen, J.ep, J.so, J.lim, J.st, J.ba, J.nx, EN.list (EN.con J.L), J.E⟩
def Try.t41 (J : JD) : List (Nat × AFun) := [(68, Try.A68j J), (79, Try.A79z)]
def Try.E41 (J : JD) : Env := Try.env0 false (sumsOf (Try.t41 J)) (keepF 0 [])
theorem reJ_eq (J : JD) : reJ J = J := by unfold reJ; rw [SW_list_con, EN_list_con]
theorem Try.e41 (J : JD) : EnvOk2 Try.prog (Try.E41 J) := Try.envOk false (sumsOf (Try.t41 J)) _ (sumsOf_ok (show AllS Try.prog (Try.t41 J) from ⟨Try.sum68j J, Try.sum79z, trivial⟩))
theorem Try.w41 (J : JD) : rootS (Try.E41 (reJ J)) 5 41 (lsumsOf []) [jrA J] =
 bif okSW (SW.con J.P) && okEN (EN.con J.L) then
 bif (EN.list (EN.con J.L)).length.ble 1000000 then
 bif isJr { N := J.N, B := J.B, P := SW.list (SW.con J.P), gen := J.gen, ep := J.ep, so := J.so, lim := J.lim, st := J.st, ba := J.ba, nx := J.nx, L := EN.list (EN.con J.L), E := J.E } then
 bif isAH (a68) (H68j (reJ J) (reJ J).B) (a68) (H68j (reJ J) (reJ J).B) then
 bif isDevB (reJ J).N (reJ J).B (reJ J).P then
 some (.tup [.agg [.val (.int .i64 ((reJ J).N)), .own 0 0 ((settleN (fun x => 64) (reJ J).P (reJ J).B (reJ J).P.length).length) none 1, .val (.slice none 0 0), .val (.int .i64 ((reJ J).gen)), .val (.int .i64 ((reJ J).ep)), .val (.bool false), .val (.int .i64 ((reJ J).lim)), .val (.int .i64 ((reJ J).st)), .val (.int .i64 ((reJ J).st)), .val (.int .i64 ((reJ J).nx)), .ro (EN.con (reJ J).L) none, .ro (.ints .i64 ((reJ J).E)) none], .val (.int .i64 0)], ⟨1, [⟨0, 0, .cells (.ints .u8 (settleN (fun x => 64) (reJ J).P (reJ J).B (reJ J).P.length))⟩]⟩)
 else
 none
 else
 none
 else
 some (.tup [.agg [.val (.int .i64 0), .val (.slice none 0 0), .val (.slice none 0 0), .val (.int .i64 0), .val (.int .i64 0), .val (.bool false), .val (.int .i64 0), .val (.int .i64 0), .val (.int .i64 0), .val (.int .i64 0), .val (.slice none 0 0), .val (.slice none 0 0)], .val (.int .i64 401)], ⟨0, []⟩)
 else
 none
 else
 none := by kernel_rfl
def setl (J : JD) : List Int := settleN (fun _ => 64) J.P J.B J.P.length
def syncJ (J : JD) : JD × Int := bif isJr J then (⟨J.N, setl J, [], J.gen, J.ep, false, J.lim, J.st, J.st, J.nx, J.L, J.E⟩, 0) else (noJ, 401)
def Try.A41 : AFun := jA (fun J => .grd (Nat.ble J.L.length 1000000) (.out (outJE (syncJ J), ⟨0, []⟩)))
theorem Try.sum41 : SumC Try.prog 41 Try.A41 := by
  refine j_sum Try.fnOk41 rfl _ ?_
  intro J v h2 ok hs
  rw [Ans.run_grd] at hs
  cases hb : Nat.ble J.L.length 1000000 with
  | false => rw [hb] at hs; cases hs
  | true =>
    rw [hb, cond_true] at hs
    injection hs with hs
    injection hs with q1 q2
    subst q1; subst q2
    refine ⟨fun e he => (by cases he), ?_⟩
    have run := fun v h2 => rootS_alone (Try.e41 (reJ J)) (d := 5) (g := 41) (ls := lsumsOf []) (AllL.of0 (by kernel_rfl)) (args := [jrA J]) (v := v) (h2 := h2)
    have key := Try.w41 J
    have e1 : (⟨J.N, J.B, J.P, J.gen, J.ep, J.so, J.lim, J.st, J.ba, J.nx, J.L, J.E⟩ : JD) = J := rfl
    unfold JD.ok at ok
    simp only [reJ_eq] at key run
    rw [SW_list_con, EN_list_con, e1, ok, hb, isAH_refl] at key
    unfold syncJ
    cases h : isJr J with
    | false =>
      rw [h] at key
      exact Alone.resW (noJ_aw 401) (run _ _ key)
    | true =>
      have hf := jr_facts h
      rw [h, hf.dev] at key
      refine Alone.resW (v := .tup [.agg [.val (.int .i64 J.N), .ro (.ints .u8 (setl J)) none, .val (.slice none 0 0), .val (.int .i64 J.gen), .val (.int .i64 J.ep), .val (.bool false), .val (.int .i64 J.lim), .val (.int .i64 J.st), .val (.int .i64 J.st), .val (.int .i64 J.nx), .ro (EN.con J.L) none, .ro (.ints .i64 J.E) none], .val (.int .i64 0)]) ?_ (Alone.fz1 (con := .ints .u8 (setl J)) rfl rfl (.tup1 (.cons (.inl rfl) (.cons (.inr (.inr ⟨none, rfl, rfl⟩)) (FzL.refl _ _ _)))) (run _ _ key))
      exact AW.tup (.cons (AW.agg (.cons (AW.refl _) (.cons (AW.refl _) (.cons (AW.nil rfl) (AWs.refl _))))) (.cons (AW.refl _) .nil))
end Go.Ev
/- Journals: Trim. -/
namespace Go.Ev
open Go.Proofs
def Try.S100z (args : List AV) : Ans (AV × Heap) := match args with
  | [.agg [.val (.int .i64 g), .val (.int .i64 e), .val (.int .i64 s), .val (.int .i64 l)]] => .out (.ro (.ints .u8 (superB g e s l)) none, ⟨0, []⟩)
  | _ => .no
def Try.A100z : AFun := roA Try.S100z
theorem Try.sum100z : SumC Try.prog 100 Try.A100z := by
  refine roSumR 100 ⟨Try.f100, _, Try.fnOk100.1, Try.fnOk100.2, rfl⟩ ?_
  intro args v h2 hs
  unfold Try.S100z at hs
  split at hs
  · rename_i g e s l
    injection hs with hs
    injection hs with q1 q2
    subst q1; subst q2
    exact ⟨fun e he => (by cases he), Alone.freeze (con := .ints .u8 (superB g e s l)) rfl (rootS_alone Try.e56 (d := 3) (g := 100) (ls := lsumsOf []) (AllL.of0 (by kernel_rfl)) ((Try.r100 g e s l).trans (by kernel_rfl)))⟩
  · cases hs
def Try.t40 : List (Nat × AFun) := [(59, Try.A59x), (79, Try.A79z), (100, Try.A100z)]
def Try.E40 : Env := Try.env0 false (sumsOf Try.t40) (keepF 0 [])
theorem Try.e40 : EnvOk2 Try.prog Try.E40 := Try.envOk false (sumsOf Try.t40) _ (sumsOf_ok (show AllS Try.prog Try.t40 from ⟨Try.sum59x, Try.sum79z, Try.sum100z, trivial⟩))
theorem Try.w40 (J : JD) (n : Int) : rootS Try.E40 5 40 (lsumsOf []) [jrA J, .val (.int .i64 n)] =
 bif okSW (SW.con J.P) && okEN (EN.con J.L) then
 bif (EN.list (EN.con J.L)).length.ble 1000000 then
 bif isJr { N := J.N, B := J.B, P := SW.list (SW.con J.P), gen := J.gen, ep := J.ep, so := J.so, lim := J.lim, st := J.st, ba := J.ba, nx := J.nx, L := EN.list (EN.con J.L), E := J.E } then
 bif decide (n < 0) then
 some (.tup [.agg [.val (.int .i64 0), .val (.slice none 0 0), .val (.slice none 0 0), .val (.int .i64 0), .val (.int .i64 0), .val (.bool false), .val (.int .i64 0), .val (.int .i64 0), .val (.int .i64 0), .val (.int .i64 0), .val (.slice none 0 0), .val (.slice none 0 0)], .val (.int .i64 1)], ⟨0, []⟩)
 else
 bif decide (n > (↑J.L.length : Int)) then
 some (.tup [.agg [.val (.int .i64 0), .val (.slice none 0 0), .val (.slice none 0 0), .val (.int .i64 0), .val (.int .i64 0), .val (.bool false), .val (.int .i64 0), .val (.int .i64 0), .val (.int .i64 0), .val (.int .i64 0), .val (.slice none 0 0), .val (.slice none 0 0)], .val (.int .i64 1)], ⟨0, []⟩)
 else
 bif J.so then
 some (.tup [.agg [.val (.int .i64 0), .val (.slice none 0 0), .val (.slice none 0 0), .val (.int .i64 0), .val (.int .i64 0), .val (.bool false), .val (.int .i64 0), .val (.int .i64 0), .val (.int .i64 0), .val (.int .i64 0), .val (.slice none 0 0), .val (.slice none 0 0)], .val (.int .i64 5)], ⟨0, []⟩)
 else
 bif J.gen == 1073741824 then
 some (.tup [.agg [.val (.int .i64 0), .val (.slice none 0 0), .val (.slice none 0 0), .val (.int .i64 0), .val (.int .i64 0), .val (.bool false), .val (.int .i64 0), .val (.int .i64 0), .val (.int .i64 0), .val (.int .i64 0), .val (.slice none 0 0), .val (.slice none 0 0)], .val (.int .i64 2)], ⟨0, []⟩)
 else
 bif (↑(SW.list (SW.con J.P)).length : Int) == 2000 then
 some (.tup [.agg [.val (.int .i64 0), .val (.slice none 0 0), .val (.slice none 0 0), .val (.int .i64 0), .val (.int .i64 0), .val (.bool false), .val (.int .i64 0), .val (.int .i64 0), .val (.int .i64 0), .val (.int .i64 0), .val (.slice none 0 0), .val (.slice none 0 0)], .val (.int .i64 2)], ⟨0, []⟩)
 else
 bif decide (n > 0) then
 bif inR (IntKind.i64.wrap (n - 1)) J.E.length then
 bif decide (0 ≤ n) && decide (n ≤ (↑(EN.list (EN.con J.L)).length : Int)) then
 bif decide (0 ≤ n) && decide (n ≤ (↑J.E.length : Int)) then
 bif (0 + (SW.list (SW.con J.P)).length).ble (SW.list (SW.con J.P)).length then
 bif (((SW.list (SW.con J.P)).length + 1) * 32).ble most && ((SW.list (SW.con J.P)).length + 1).ble most then
 some (.tup [.agg [.val (.int .i64 (J.N)), .own 0 0 (J.B.length) none 1, .own 1 0 ((SW.list (SW.con J.P)).length + 1) none 2, .val (.int .i64 (IntKind.i64.wrap (J.gen + 1))), .val (.int .i64 (J.ep)), .val (.bool true), .val (.int .i64 (J.lim)), .val (.int .i64 (J.E.getD (IntKind.i64.wrap (n - 1)).toNat 0)), .val (.int .i64 (J.ba)), .val (.int .i64 (J.nx)), .ro (.tab 5 ((EN.list (EN.con J.L)).length - n.toNat) (fun i => EN.row ((EN.list (EN.con J.L)).getD (n.toNat + i) EN.z))) none, .ro (.ints .i64 (List.take (J.E.length - n.toNat) (List.drop n.toNat J.E))) none], .val (.int .i64 0)], ⟨2, [⟨1, 0, .cells (.tab 2 ((SW.list (SW.con J.P)).length + 1) (fun i => bif i.blt (SW.list (SW.con J.P)).length then SW.row ((SW.list (SW.con J.P)).getD (0 + i) SW.z) else [[AV.val (Value.int IntKind.i64 ((IntKind.i64.wrap (J.gen + 1)).tmod 2)), AV.ro (Con.ints IntKind.u8 (superB (IntKind.i64.wrap (J.gen + 1)) J.ep (J.E.getD (IntKind.i64.wrap (n - 1)).toNat 0) J.lim)) none]].getD (i - (SW.list (SW.con J.P)).length) []))⟩, ⟨0, 0, .cells (.ints .u8 (J.B))⟩]⟩)
 else
 none
 else
 none
 else
 none
 else
 none
 else
 none
 else
 bif decide (0 ≤ n) && decide (n ≤ (↑(EN.list (EN.con J.L)).length : Int)) then
 bif decide (0 ≤ n) && decide (n ≤ (↑J.E.length : Int)) then
 bif (0 + (SW.list (SW.con J.P)).length).ble (SW.list (SW.con J.P)).length then
 bif (((SW.list (SW.con J.P)).length + 1) * 32).ble most && ((SW.list (SW.con J.P)).length + 1).ble most then
 some (.tup [.agg [.val (.int .i64 (J.N)), .own 0 0 (J.B.length) none 1, .own 1 0 ((SW.list (SW.con J.P)).length + 1) none 2, .val (.int .i64 (IntKind.i64.wrap (J.gen + 1))), .val (.int .i64 (J.ep)), .val (.bool true), .val (.int .i64 (J.lim)), .val (.int .i64 (J.st)), .val (.int .i64 (J.ba)), .val (.int .i64 (J.nx)), .ro (.tab 5 ((EN.list (EN.con J.L)).length - n.toNat) (fun i => EN.row ((EN.list (EN.con J.L)).getD (n.toNat + i) EN.z))) none, .ro (.ints .i64 (List.take (J.E.length - n.toNat) (List.drop n.toNat J.E))) none], .val (.int .i64 0)], ⟨2, [⟨1, 0, .cells (.tab 2 ((SW.list (SW.con J.P)).length + 1) (fun i => bif i.blt (SW.list (SW.con J.P)).length then SW.row ((SW.list (SW.con J.P)).getD (0 + i) SW.z) else [[AV.val (Value.int IntKind.i64 ((IntKind.i64.wrap (J.gen + 1)).tmod 2)), AV.ro (Con.ints IntKind.u8 (superB (IntKind.i64.wrap (J.gen + 1)) J.ep J.st J.lim)) none]].getD (i - (SW.list (SW.con J.P)).length) []))⟩, ⟨0, 0, .cells (.ints .u8 (J.B))⟩]⟩)
 else
 none
 else
 none
 else
 none
 else
 none
 else
 some (.tup [.agg [.val (.int .i64 0), .val (.slice none 0 0), .val (.slice none 0 0), .val (.int .i64 0), .val (.int .i64 0), .val (.bool false), .val (.int .i64 0), .val (.int .i64 0), .val (.int .i64 0), .val (.int .i64 0), .val (.slice none 0 0), .val (.slice none 0 0)], .val (.int .i64 401)], ⟨0, []⟩)
 else
 none
 else
 none := by kernel_rfl
def trimSt (J : JD) (n : Int) : Int := bif decide (n > 0) then J.E.getD (n - 1).toNat 0 else J.st
def trimX (J : JD) (n : Int) : JD := ⟨J.N, J.B, J.P ++ [((J.gen + 1).tmod 2, superB (J.gen + 1) J.ep (trimSt J n) J.lim)], J.gen + 1, J.ep, true, J.lim, trimSt J n, J.ba, J.nx, J.L.drop n.toNat, J.E.drop n.toNat⟩
def trimJ (J : JD) (n : Int) : JD × Int := bif isJr J then (bif decide (n < 0) || decide (n > (J.L.length : Int)) then (noJ, 1) else bif J.so then (noJ, 5) else bif J.gen == 1073741824 || (J.P.length : Int) == 2000 then (noJ, 2) else (trimX J n, 0)) else (noJ, 401)
def Try.F40 (J : JD) (x : AV) : Ans (AV × Heap) := match x with
  | .val (.int .i64 n) => .grd (Nat.ble J.L.length 1000000) (.out (outJE (trimJ J n), ⟨0, []⟩))
  | _ => .no
def Try.A40 : AFun := j2A Try.F40
theorem tab_drop (R : RowTy EntD) (hz : R.wd = 5) (L : List EntD) (n : Nat) : Con.tab 5 (L.length - n) (fun i => R.row (L.getD (n + i) R.z)) = R.con (L.drop n) := by
  unfold RowTy.con
  rw [List.length_drop, hz]
  congr 1
  funext i
  rw [List.getD_eq_getElem?_getD, List.getD_eq_getElem?_getD, List.getElem?_drop]
theorem trim_al {J : JD} {n : Int} {st' : Int} {args : List AV} (f : Nat → List AV)
    (hf0 : ∀ i, i < J.P.length → f i = SW.row (J.P.getD i SW.z)) (hf1 : f J.P.length = SW.row ((J.gen + 1).tmod 2, superB (J.gen + 1) J.ep st' J.lim))
    (q : Alone Try.prog 40 args (.tup [.agg [.val (.int .i64 J.N), .own 0 0 J.B.length none 1, .own 1 0 (J.P.length + 1) none 2, .val (.int .i64 (J.gen + 1)), .val (.int .i64 J.ep), .val (.bool true), .val (.int .i64 J.lim), .val (.int .i64 st'), .val (.int .i64 J.ba), .val (.int .i64 J.nx), .ro (EN.con (J.L.drop n.toNat)) none, .ro (.ints .i64 (J.E.drop n.toNat)) none], .val (.int .i64 0)]) ⟨2, [⟨1, 0, .cells (.tab 2 (J.P.length + 1) f)⟩, ⟨0, 0, .cells (.ints .u8 J.B)⟩]⟩) :
    Alone Try.prog 40 args (outJE (⟨J.N, J.B, J.P ++ [((J.gen + 1).tmod 2, superB (J.gen + 1) J.ep st' J.lim)], J.gen + 1, J.ep, true, J.lim, st', J.ba, J.nx, J.L.drop n.toNat, J.E.drop n.toNat⟩, 0)) ⟨0, []⟩ := by
  refine Alone.resW (v := .tup [.agg [.val (.int .i64 J.N), .ro (.ints .u8 J.B) none, .ro (.tab 2 (J.P.length + 1) f) none, .val (.int .i64 (J.gen + 1)), .val (.int .i64 J.ep), .val (.bool true), .val (.int .i64 J.lim), .val (.int .i64 st'), .val (.int .i64 J.ba), .val (.int .i64 J.nx), .ro (EN.con (J.L.drop n.toNat)) none, .ro (.ints .i64 (J.E.drop n.toNat)) none], .val (.int .i64 0)]) ?_
    (Alone.fz2 (c1 := .tab 2 (J.P.length + 1) f) (c0 := .ints .u8 J.B) rfl rfl rfl (.tup1 (.cons (.inl rfl) (.cons (.inl rfl) (.cons (.inr (.inr ⟨none, rfl, rfl⟩)) (FzL.refl _ _ _))))) (.tup1 (.cons (.inl rfl) (.cons (.inr (.inr ⟨none, rfl, rfl⟩)) (FzL.refl _ _ _)))) q)
  exact AW.tup (.cons (AW.agg (.cons (AW.refl _) (.cons (AW.refl _) (.cons (fun _ _ _ => VR.conv (tab_snoc SW J.P _ f hf0 hf1) (.inr rfl)) (AWs.refl _))))) (.cons (AW.refl _) .nil))
theorem Try.al40 (J : JD) (n : Int) (ok : J.ok = true) (hb : J.L.length ≤ 1000000) : Alone Try.prog 40 [jrA J, .val (.int .i64 n)] (outJE (trimJ J n)) ⟨0, []⟩ := by
  have run := fun v h2 => rootS_alone Try.e40 (d := 5) (g := 40) (ls := lsumsOf []) (AllL.of0 (by kernel_rfl)) (args := [jrA J, .val (.int .i64 n)]) (v := v) (h2 := h2)
  have key := Try.w40 J n
  have e1 : (⟨J.N, J.B, J.P, J.gen, J.ep, J.so, J.lim, J.st, J.ba, J.nx, J.L, J.E⟩ : JD) = J := rfl
  unfold JD.ok at ok
  rw [SW_list_con, EN_list_con, e1, ok, ble_t hb] at key
  unfold trimJ
  cases h : isJr J with
  | false => rw [h] at key; exact Alone.resW (noJ_aw 401) (run _ _ key)
  | true =>
  rw [h] at key
  cases h1 : decide (n < 0) with
  | true => rw [h1] at key; exact Alone.resW (noJ_aw 1) (run _ _ key)
  | false =>
  rw [h1] at key
  cases h2 : decide (n > (J.L.length : Int)) with
  | true => rw [h2] at key; exact Alone.resW (noJ_aw 1) (run _ _ key)
  | false =>
  rw [h2] at key
  cases h3 : J.so with
  | true => rw [h3] at key; exact Alone.resW (noJ_aw 5) (run _ _ key)
  | false =>
  rw [h3] at key
  cases h4 : (J.gen == 1073741824) with
  | true => rw [h4] at key; exact Alone.resW (noJ_aw 2) (run _ _ key)
  | false =>
  rw [h4] at key
  cases h5 : ((J.P.length : Int) == 2000) with
  | true => rw [h5] at key; exact Alone.resW (noJ_aw 2) (run _ _ key)
  | false =>
  rw [h5] at key
  rw [decide_eq_false_iff_not] at h1 h2
  have hf := jr_facts h
  have hd := dev_facts hf.dev
  have k1 := hd.few
  have k2 := hf.g0
  have k3 := hf.g1
  have k4 := hf.len
  have e2 : List.take (J.E.length - n.toNat) (List.drop n.toNat J.E) = List.drop n.toNat J.E := by
    rw [List.take_of_length_le (by rw [List.length_drop]; exact Nat.le_refl _)]
  rw [decide_eq_true (show 0 ≤ n by omega), decide_eq_true (show n ≤ (J.L.length : Int) by omega), decide_eq_true (show n ≤ (J.E.length : Int) by omega), ble_t (show 0 + J.P.length ≤ J.P.length by omega), ble_t (show (J.P.length + 1) * 32 ≤ most by rw [most_eq]; omega), ble_t (show J.P.length + 1 ≤ most by rw [most_eq]; omega), e2, tab_drop EN rfl, wrap64 (J.gen + 1) (by omega) (by omega)] at key
  show Alone Try.prog 40 _ (outJE (trimX J n, 0)) ⟨0, []⟩
  unfold trimX trimSt
  cases h6 : decide (n > 0) with
  | false =>
    rw [h6] at key
    refine trim_al _ ?_ ?_ (run _ _ key)
    · intro i hi
      rw [blt_t hi, Nat.zero_add]; rfl
    · rw [blt_f (Nat.le_refl _), Nat.sub_self]; rfl
  | true =>
    rw [h6] at key
    rw [decide_eq_true_eq] at h6
    rw [wrap64 (n - 1) (by omega) (by omega), show inR (n - 1) J.E.length = true by
      rw [show n - 1 = ((n - 1).toNat : Int) by omega, inR_nat, decide_eq_true (by omega)]] at key
    refine trim_al _ ?_ ?_ (run _ _ key)
    · intro i hi
      rw [blt_t hi, Nat.zero_add]; rfl
    · rw [blt_f (Nat.le_refl _), Nat.sub_self]; rfl
theorem Try.sum40 : SumC Try.prog 40 Try.A40 := by
  refine j2_sum Try.fnOk40 rfl _ ?_
  intro J x v h2 ok hs
  unfold Try.F40 at hs
  split at hs
  · rename_i n
    rw [Ans.run_grd] at hs
    cases hb : Nat.ble J.L.length 1000000 with
    | false => rw [hb] at hs; cases hs
    | true =>
      rw [hb, cond_true] at hs
      rw [Nat.ble_eq] at hb
      injection hs with hs
      injection hs with q1 q2
      subst q1; subst q2
      exact ⟨fun e he => (by cases he), _, AW.refl _, Try.al40 J n ok hb⟩
  · cases hs
end Go.Ev
/- Journals: a data sector's bytes; pieces. -/
namespace Go.Ev
open Go.Proofs
theorem Try.r85 (s e : Int) (f l : Bool) (p : List Int) (cap : Option Nat) : rootS Try.E56 3 85 (lsumsOf []) [.agg [.val (.int .i64 s), .val (.int .i64 e), .val (.bool f), .val (.bool l), .ro (.ints .u8 p) cap]] =
 bif f then
 bif l then
 bif ((10 + p.length) * 1).ble most && (10 + p.length).ble most then
 bif decide (0 ≤ IntKind.i64.wrap (46 - (↑p.length : Int))) && decide (IntKind.i64.wrap (46 - (↑p.length : Int)) ≤ 1099511627776) && decide (IntKind.i64.wrap (46 - (↑p.length : Int)) * 1 ≤ 1099511627776) then
 bif (0 + (10 + p.length)).ble ([IntKind.u8.wrap s, IntKind.u8.wrap (s.fdiv 256), IntKind.u8.wrap (s.fdiv 65536), IntKind.u8.wrap (s.fdiv 16777216), IntKind.u8.wrap e, IntKind.u8.wrap (e.fdiv 256), IntKind.u8.wrap (e.fdiv 65536), IntKind.u8.wrap (e.fdiv 16777216), 3, IntKind.u8.wrap (↑p.length : Int)] ++ p).length then
 bif ((10 + p.length + (List.replicate (IntKind.i64.wrap (46 - (↑p.length : Int))).toNat (0 : Int)).length) * 1).ble most && (10 + p.length + (List.replicate (IntKind.i64.wrap (46 - (↑p.length : Int))).toNat (0 : Int)).length).ble most then
 bif (0 + (10 + p.length + (List.replicate (IntKind.i64.wrap (46 - (↑p.length : Int))).toNat (0 : Int)).length)).ble (List.take (10 + p.length) (List.drop 0 ([IntKind.u8.wrap s, IntKind.u8.wrap (s.fdiv 256), IntKind.u8.wrap (s.fdiv 65536), IntKind.u8.wrap (s.fdiv 16777216), IntKind.u8.wrap e, IntKind.u8.wrap (e.fdiv 256), IntKind.u8.wrap (e.fdiv 65536), IntKind.u8.wrap (e.fdiv 16777216), 3, IntKind.u8.wrap (↑p.length : Int)] ++ p)) ++ List.replicate (IntKind.i64.wrap (46 - (↑p.length : Int))).toNat (0 : Int)).length then
 bif ((10 + p.length + (List.replicate (IntKind.i64.wrap (46 - (↑p.length : Int))).toNat (0 : Int)).length + 8) * 1).ble most && (10 + p.length + (List.replicate (IntKind.i64.wrap (46 - (↑p.length : Int))).toNat (0 : Int)).length + 8).ble most then
 some (.own 0 0 (10 + p.length + (List.replicate (IntKind.i64.wrap (46 - (↑p.length : Int))).toNat (0 : Int)).length + 8) none 1, ⟨1, [⟨0, 0, .cells (.ints .u8 (List.take (10 + p.length + (List.replicate (IntKind.i64.wrap (46 - (↑p.length : Int))).toNat (0 : Int)).length) (List.drop 0 (List.take (10 + p.length) (List.drop 0 ([IntKind.u8.wrap s, IntKind.u8.wrap (s.fdiv 256), IntKind.u8.wrap (s.fdiv 65536), IntKind.u8.wrap (s.fdiv 16777216), IntKind.u8.wrap e, IntKind.u8.wrap (e.fdiv 256), IntKind.u8.wrap (e.fdiv 65536), IntKind.u8.wrap (e.fdiv 16777216), 3, IntKind.u8.wrap (↑p.length : Int)] ++ p)) ++ List.replicate (IntKind.i64.wrap (46 - (↑p.length : Int))).toNat (0 : Int))) ++ [IntKind.u8.wrap s, IntKind.u8.wrap (s.fdiv 256), IntKind.u8.wrap (s.fdiv 65536), IntKind.u8.wrap (s.fdiv 16777216), IntKind.u8.wrap e, IntKind.u8.wrap (e.fdiv 256), IntKind.u8.wrap (e.fdiv 65536), IntKind.u8.wrap (e.fdiv 16777216)]))⟩]⟩)
 else
 none
 else
 none
 else
 none
 else
 none
 else
 none
 else
 none
 else
 bif ((10 + p.length) * 1).ble most && (10 + p.length).ble most then
 bif decide (0 ≤ IntKind.i64.wrap (46 - (↑p.length : Int))) && decide (IntKind.i64.wrap (46 - (↑p.length : Int)) ≤ 1099511627776) && decide (IntKind.i64.wrap (46 - (↑p.length : Int)) * 1 ≤ 1099511627776) then
 bif (0 + (10 + p.length)).ble ([IntKind.u8.wrap s, IntKind.u8.wrap (s.fdiv 256), IntKind.u8.wrap (s.fdiv 65536), IntKind.u8.wrap (s.fdiv 16777216), IntKind.u8.wrap e, IntKind.u8.wrap (e.fdiv 256), IntKind.u8.wrap (e.fdiv 65536), IntKind.u8.wrap (e.fdiv 16777216), 1, IntKind.u8.wrap (↑p.length : Int)] ++ p).length then
 bif ((10 + p.length + (List.replicate (IntKind.i64.wrap (46 - (↑p.length : Int))).toNat (0 : Int)).length) * 1).ble most && (10 + p.length + (List.replicate (IntKind.i64.wrap (46 - (↑p.length : Int))).toNat (0 : Int)).length).ble most then
 bif (0 + (10 + p.length + (List.replicate (IntKind.i64.wrap (46 - (↑p.length : Int))).toNat (0 : Int)).length)).ble (List.take (10 + p.length) (List.drop 0 ([IntKind.u8.wrap s, IntKind.u8.wrap (s.fdiv 256), IntKind.u8.wrap (s.fdiv 65536), IntKind.u8.wrap (s.fdiv 16777216), IntKind.u8.wrap e, IntKind.u8.wrap (e.fdiv 256), IntKind.u8.wrap (e.fdiv 65536), IntKind.u8.wrap (e.fdiv 16777216), 1, IntKind.u8.wrap (↑p.length : Int)] ++ p)) ++ List.replicate (IntKind.i64.wrap (46 - (↑p.length : Int))).toNat (0 : Int)).length then
 bif ((10 + p.length + (List.replicate (IntKind.i64.wrap (46 - (↑p.length : Int))).toNat (0 : Int)).length + 8) * 1).ble most && (10 + p.length + (List.replicate (IntKind.i64.wrap (46 - (↑p.length : Int))).toNat (0 : Int)).length + 8).ble most then
 some (.own 0 0 (10 + p.length + (List.replicate (IntKind.i64.wrap (46 - (↑p.length : Int))).toNat (0 : Int)).length + 8) none 1, ⟨1, [⟨0, 0, .cells (.ints .u8 (List.take (10 + p.length + (List.replicate (IntKind.i64.wrap (46 - (↑p.length : Int))).toNat (0 : Int)).length) (List.drop 0 (List.take (10 + p.length) (List.drop 0 ([IntKind.u8.wrap s, IntKind.u8.wrap (s.fdiv 256), IntKind.u8.wrap (s.fdiv 65536), IntKind.u8.wrap (s.fdiv 16777216), IntKind.u8.wrap e, IntKind.u8.wrap (e.fdiv 256), IntKind.u8.wrap (e.fdiv 65536), IntKind.u8.wrap (e.fdiv 16777216), 1, IntKind.u8.wrap (↑p.length : Int)] ++ p)) ++ List.replicate (IntKind.i64.wrap (46 - (↑p.length : Int))).toNat (0 : Int))) ++ [IntKind.u8.wrap s, IntKind.u8.wrap (s.fdiv 256), IntKind.u8.wrap (s.fdiv 65536), IntKind.u8.wrap (s.fdiv 16777216), IntKind.u8.wrap e, IntKind.u8.wrap (e.fdiv 256), IntKind.u8.wrap (e.fdiv 65536), IntKind.u8.wrap (e.fdiv 16777216)]))⟩]⟩)
 else
 none
 else
 none
 else
 none
 else
 none
 else
 none
 else
 none
 else
 bif l then
 bif ((10 + p.length) * 1).ble most && (10 + p.length).ble most then
 bif decide (0 ≤ IntKind.i64.wrap (46 - (↑p.length : Int))) && decide (IntKind.i64.wrap (46 - (↑p.length : Int)) ≤ 1099511627776) && decide (IntKind.i64.wrap (46 - (↑p.length : Int)) * 1 ≤ 1099511627776) then
 bif (0 + (10 + p.length)).ble ([IntKind.u8.wrap s, IntKind.u8.wrap (s.fdiv 256), IntKind.u8.wrap (s.fdiv 65536), IntKind.u8.wrap (s.fdiv 16777216), IntKind.u8.wrap e, IntKind.u8.wrap (e.fdiv 256), IntKind.u8.wrap (e.fdiv 65536), IntKind.u8.wrap (e.fdiv 16777216), 2, IntKind.u8.wrap (↑p.length : Int)] ++ p).length then
 bif ((10 + p.length + (List.replicate (IntKind.i64.wrap (46 - (↑p.length : Int))).toNat (0 : Int)).length) * 1).ble most && (10 + p.length + (List.replicate (IntKind.i64.wrap (46 - (↑p.length : Int))).toNat (0 : Int)).length).ble most then
 bif (0 + (10 + p.length + (List.replicate (IntKind.i64.wrap (46 - (↑p.length : Int))).toNat (0 : Int)).length)).ble (List.take (10 + p.length) (List.drop 0 ([IntKind.u8.wrap s, IntKind.u8.wrap (s.fdiv 256), IntKind.u8.wrap (s.fdiv 65536), IntKind.u8.wrap (s.fdiv 16777216), IntKind.u8.wrap e, IntKind.u8.wrap (e.fdiv 256), IntKind.u8.wrap (e.fdiv 65536), IntKind.u8.wrap (e.fdiv 16777216), 2, IntKind.u8.wrap (↑p.length : Int)] ++ p)) ++ List.replicate (IntKind.i64.wrap (46 - (↑p.length : Int))).toNat (0 : Int)).length then
 bif ((10 + p.length + (List.replicate (IntKind.i64.wrap (46 - (↑p.length : Int))).toNat (0 : Int)).length + 8) * 1).ble most && (10 + p.length + (List.replicate (IntKind.i64.wrap (46 - (↑p.length : Int))).toNat (0 : Int)).length + 8).ble most then
 some (.own 0 0 (10 + p.length + (List.replicate (IntKind.i64.wrap (46 - (↑p.length : Int))).toNat (0 : Int)).length + 8) none 1, ⟨1, [⟨0, 0, .cells (.ints .u8 (List.take (10 + p.length + (List.replicate (IntKind.i64.wrap (46 - (↑p.length : Int))).toNat (0 : Int)).length) (List.drop 0 (List.take (10 + p.length) (List.drop 0 ([IntKind.u8.wrap s, IntKind.u8.wrap (s.fdiv 256), IntKind.u8.wrap (s.fdiv 65536), IntKind.u8.wrap (s.fdiv 16777216), IntKind.u8.wrap e, IntKind.u8.wrap (e.fdiv 256), IntKind.u8.wrap (e.fdiv 65536), IntKind.u8.wrap (e.fdiv 16777216), 2, IntKind.u8.wrap (↑p.length : Int)] ++ p)) ++ List.replicate (IntKind.i64.wrap (46 - (↑p.length : Int))).toNat (0 : Int))) ++ [IntKind.u8.wrap s, IntKind.u8.wrap (s.fdiv 256), IntKind.u8.wrap (s.fdiv 65536), IntKind.u8.wrap (s.fdiv 16777216), IntKind.u8.wrap e, IntKind.u8.wrap (e.fdiv 256), IntKind.u8.wrap (e.fdiv 65536), IntKind.u8.wrap (e.fdiv 16777216)]))⟩]⟩)
 else
 none
 else
 none
 else
 none
 else
 none
 else
 none
 else
 none
 else
 bif ((10 + p.length) * 1).ble most && (10 + p.length).ble most then
 bif decide (0 ≤ IntKind.i64.wrap (46 - (↑p.length : Int))) && decide (IntKind.i64.wrap (46 - (↑p.length : Int)) ≤ 1099511627776) && decide (IntKind.i64.wrap (46 - (↑p.length : Int)) * 1 ≤ 1099511627776) then
 bif (0 + (10 + p.length)).ble ([IntKind.u8.wrap s, IntKind.u8.wrap (s.fdiv 256), IntKind.u8.wrap (s.fdiv 65536), IntKind.u8.wrap (s.fdiv 16777216), IntKind.u8.wrap e, IntKind.u8.wrap (e.fdiv 256), IntKind.u8.wrap (e.fdiv 65536), IntKind.u8.wrap (e.fdiv 16777216), 0, IntKind.u8.wrap (↑p.length : Int)] ++ p).length then
 bif ((10 + p.length + (List.replicate (IntKind.i64.wrap (46 - (↑p.length : Int))).toNat (0 : Int)).length) * 1).ble most && (10 + p.length + (List.replicate (IntKind.i64.wrap (46 - (↑p.length : Int))).toNat (0 : Int)).length).ble most then
 bif (0 + (10 + p.length + (List.replicate (IntKind.i64.wrap (46 - (↑p.length : Int))).toNat (0 : Int)).length)).ble (List.take (10 + p.length) (List.drop 0 ([IntKind.u8.wrap s, IntKind.u8.wrap (s.fdiv 256), IntKind.u8.wrap (s.fdiv 65536), IntKind.u8.wrap (s.fdiv 16777216), IntKind.u8.wrap e, IntKind.u8.wrap (e.fdiv 256), IntKind.u8.wrap (e.fdiv 65536), IntKind.u8.wrap (e.fdiv 16777216), 0, IntKind.u8.wrap (↑p.length : Int)] ++ p)) ++ List.replicate (IntKind.i64.wrap (46 - (↑p.length : Int))).toNat (0 : Int)).length then
 bif ((10 + p.length + (List.replicate (IntKind.i64.wrap (46 - (↑p.length : Int))).toNat (0 : Int)).length + 8) * 1).ble most && (10 + p.length + (List.replicate (IntKind.i64.wrap (46 - (↑p.length : Int))).toNat (0 : Int)).length + 8).ble most then
 some (.own 0 0 (10 + p.length + (List.replicate (IntKind.i64.wrap (46 - (↑p.length : Int))).toNat (0 : Int)).length + 8) none 1, ⟨1, [⟨0, 0, .cells (.ints .u8 (List.take (10 + p.length + (List.replicate (IntKind.i64.wrap (46 - (↑p.length : Int))).toNat (0 : Int)).length) (List.drop 0 (List.take (10 + p.length) (List.drop 0 ([IntKind.u8.wrap s, IntKind.u8.wrap (s.fdiv 256), IntKind.u8.wrap (s.fdiv 65536), IntKind.u8.wrap (s.fdiv 16777216), IntKind.u8.wrap e, IntKind.u8.wrap (e.fdiv 256), IntKind.u8.wrap (e.fdiv 65536), IntKind.u8.wrap (e.fdiv 16777216), 0, IntKind.u8.wrap (↑p.length : Int)] ++ p)) ++ List.replicate (IntKind.i64.wrap (46 - (↑p.length : Int))).toNat (0 : Int))) ++ [IntKind.u8.wrap s, IntKind.u8.wrap (s.fdiv 256), IntKind.u8.wrap (s.fdiv 65536), IntKind.u8.wrap (s.fdiv 16777216), IntKind.u8.wrap e, IntKind.u8.wrap (e.fdiv 256), IntKind.u8.wrap (e.fdiv 65536), IntKind.u8.wrap (e.fdiv 16777216)]))⟩]⟩)
 else
 none
 else
 none
 else
 none
 else
 none
 else
 none
 else
 none := by kernel_rfl
def flagB (f l : Bool) : Int := bif f then (bif l then 3 else 1) else (bif l then 2 else 0)
def dataB (s e : Int) (f l : Bool) (p : List Int) : List Int := wordsB [s, e] ++ ([flagB f l, IntKind.u8.wrap p.length] ++ (p ++ (List.replicate (46 - p.length) 0 ++ wordsB [s, e])))
def Try.S85 (args : List AV) : Ans (AV × Heap) := match args with
  | [.agg [.val (.int .i64 s), .val (.int .i64 e), .val (.bool f), .val (.bool l), .ro (.ints .u8 p) cap]] => .grd (Nat.ble p.length 46) (.out (.ro (.ints .u8 (dataB s e f l p)) none, ⟨0, []⟩))
  | _ => .no
def Try.A85 : AFun := roA Try.S85
theorem dataB_len {s e : Int} {f l : Bool} {p : List Int} (h : p.length ≤ 46) : (dataB s e f l p).length = 64 := by
  unfold dataB
  have h1 : (wordsB [s, e]).length = 8 := rfl
  simp only [List.length_append, List.length_cons, List.length_nil, List.length_replicate, h1]
  omega
theorem Try.al85 (s e : Int) (f l : Bool) (p : List Int) (cap : Option Nat) (hp : p.length ≤ 46) : Alone Try.prog 85 [.agg [.val (.int .i64 s), .val (.int .i64 e), .val (.bool f), .val (.bool l), .ro (.ints .u8 p) cap]] (.ro (.ints .u8 (dataB s e f l p)) none) ⟨0, []⟩ := by
  refine Alone.freeze (con := .ints .u8 (dataB s e f l p)) rfl ?_
  refine rootS_alone Try.e56 (d := 3) (g := 85) (ls := lsumsOf []) (AllL.of0 (by kernel_rfl)) ((Try.r85 s e f l p cap).trans ?_)
  show _ = some (AV.own 0 0 (dataB s e f l p).length none 1, oneH (.ints .u8 (dataB s e f l p)))
  rw [dataB_len hp, wrap64 (46 - (p.length : Int)) (by omega) (by omega), show (46 - (p.length : Int)).toNat = 46 - p.length by omega]
  have e1 : 10 + p.length + (46 - p.length) + 8 = 64 := by omega
  unfold dataB flagB
  cases f <;> cases l <;>
    simp (disch := (first | omega | (simp only [List.length_append, List.length_cons, List.length_nil, List.length_replicate]; omega))) only [List.length_append, List.length_cons, List.length_nil, List.length_replicate, List.drop_zero, most_eq, ble_t, decide_eq_true, cond_true', cond_false', Bool.and_self, List.take_of_length_le, e1] <;>
    simp [wordsB, w4, oneH]
theorem Try.sum85 : SumC Try.prog 85 Try.A85 := by
  refine roSumR 85 ⟨Try.f85, _, Try.fnOk85.1, Try.fnOk85.2, rfl⟩ ?_
  intro args v h2 hs
  unfold Try.S85 at hs
  split at hs
  · rename_i s e f l p cap
    rw [Ans.run_grd] at hs
    cases hb : Nat.ble p.length 46 with
    | false => rw [hb] at hs; cases hs
    | true =>
      rw [hb, cond_true] at hs
      rw [Nat.ble_eq] at hb
      injection hs with hs
      injection hs with q1 q2
      subst q1; subst q2
      exact ⟨fun e he => (by cases he), Try.al85 s e f l p cap hb⟩
  · cases hs
end Go.Ev
/- Journals: pieces collected. -/
namespace Go.Ev
open Go.Proofs
def pcRow (l : List Int) : List AV := [.ro (.ints .u8 l) none]
def pcParse : List AV → List Int
  | [.ro (.ints .u8 l) _] => l
  | _ => []
def pcIs : List AV → Bool
  | [.ro (.ints .u8 l) _] => true
  | _ => false
theorem pc_law (r : List AV) (h : pcIs r = true) (j : Nat) (v' : AV) (hv : (pcRow (pcParse r))[j]? = some v') : ∃ v, r[j]? = some v ∧ AW v v' := by
  unfold pcIs at h
  split at h
  · exact AWs.get (.cons (AW.cap _ _) .nil) j v' hv
  · cases h
def PC : RowTy (List Int) := ⟨1, pcRow, pcParse, pcIs, [], pc_law, fun _ => rfl, fun _ => rfl⟩
def Try.E102 : Env := Try.env0 false (sumsOf []) (keepF 102 [(2, [2,6])])
def Try.rg102 : Code := nthD .skip (rangesOf (bodyOf Try.E102 102)) 0
def Try.a102 : Code := asg Try.rg102
def Try.c102 : Code := bdy Try.rg102
def Try.E103 : Env := Try.env0 false (sumsOf []) (keepF 103 [(1, [0,1,2,4])])
def Try.b103 : Code := nthD .skip (loopsOf (bodyOf Try.E103 103)) 0
def Try.B103 (s : St) : Option (AX × St) := codeP Try.E103 (callF Try.E103 5) (Try.E103.keep 103) (lsumsOf []) 5 Try.b103 (outKP 5 [0,1,2,4] []) s
def Try.V103 (i : Int) : List AV := [.clo (.yield 0) [] [], .ptr 3 0 0, .ptr 4 0 0, .val (.int .i64 i)]
def Try.T102 : List AV := placeL [2,6] [.ptr 2 0 0, .clo (.func 103) [] [.ptr 3 0 0, .ptr 4 0 0]] 13 0
def Try.e103 (b : List Int) (r : AV) : List Ent := [⟨4, 0, .cells (.rows true 1 [[.val (.int .i64 46)]])⟩, ⟨3, 0, .cells (.rows true 1 [[.ro (.ints .u8 b) none]])⟩, ⟨2, 0, .cells (.rows (noOwn0 r) 1 [[r]])⟩, ⟨1, 0, .defd⟩, ⟨0, 0, .loop .ready none Try.T102 [7] Try.a102 Try.c102 1⟩]
def Try.H103 (b : List Int) : Heap := ⟨5, Try.e103 b (.val (.slice none 0 0))⟩
def Try.H103' (b : List Int) (Q : List (List Int)) : Heap := ⟨6, ⟨5, 0, .cells (PC.con Q)⟩ :: Try.e103 b (.own 5 0 Q.length none 1)⟩
theorem Try.r103a (b : List Int) (i : Int) : Try.B103 (stOf 31 [0,1,2,4] (Try.V103 i) (Try.H103 b)) =
 bif decide (i < (↑b.length : Int)) then
 bif decide (0 ≤ i) && decide (i ≤ (↑b.length : Int)) then
 bif decide (0 ≤ IntKind.i64.wrap (i + if (↑(List.take (b.length - i.toNat) (List.drop i.toNat b)).length : Int) < 46 then (↑(List.take (b.length - i.toNat) (List.drop i.toNat b)).length : Int) else 46)) && decide (IntKind.i64.wrap (i + if (↑(List.take (b.length - i.toNat) (List.drop i.toNat b)).length : Int) < 46 then (↑(List.take (b.length - i.toNat) (List.drop i.toNat b)).length : Int) else 46) ≤ (↑b.length : Int)) then
 bif decide (0 ≤ IntKind.i64.wrap (i + if (↑(List.take (b.length - i.toNat) (List.drop i.toNat b)).length : Int) < 46 then (↑(List.take (b.length - i.toNat) (List.drop i.toNat b)).length : Int) else 46)) && decide (IntKind.i64.wrap (i + if (↑(List.take (b.length - i.toNat) (List.drop i.toNat b)).length : Int) < 46 then (↑(List.take (b.length - i.toNat) (List.drop i.toNat b)).length : Int) else 46) ≤ (↑(IntKind.i64.wrap (i + if (↑(List.take (b.length - i.toNat) (List.drop i.toNat b)).length : Int) < 46 then (↑(List.take (b.length - i.toNat) (List.drop i.toNat b)).length : Int) else 46)).toNat : Int)) then
 bif decide (0 ≤ i) && decide (i ≤ (↑(IntKind.i64.wrap (i + if (↑(List.take (b.length - i.toNat) (List.drop i.toNat b)).length : Int) < 46 then (↑(List.take (b.length - i.toNat) (List.drop i.toNat b)).length : Int) else 46)).toNat : Int)) then
 some (.normal, stOf 31 [0, 1, 2, 4] [.clo (Fn.yield 0) [] [], .ptr 3 0 0, .ptr 4 0 0, .val (.int .i64 (IntKind.i64.wrap (i + 46)))] ⟨6, [⟨5, 0, .cells (.rows true 1 ([.ro (.ints .u8 (List.take ((IntKind.i64.wrap (i + if (↑(List.take (b.length - i.toNat) (List.drop i.toNat b)).length : Int) < 46 then (↑(List.take (b.length - i.toNat) (List.drop i.toNat b)).length : Int) else 46)).toNat - i.toNat) (List.drop i.toNat b))) (some ((IntKind.i64.wrap (i + if (↑(List.take (b.length - i.toNat) (List.drop i.toNat b)).length : Int) < 46 then (↑(List.take (b.length - i.toNat) (List.drop i.toNat b)).length : Int) else 46)).toNat - i.toNat))] :: []))⟩, ⟨4, 0, .cells (.rows true 1 ([.val (.int .i64 46)] :: []))⟩, ⟨3, 0, .cells (.rows true 1 ([.ro (.ints .u8 (b)) none] :: []))⟩, ⟨2, 0, .cells (.rows false 1 ([.own 5 0 (1) none 1] :: []))⟩, ⟨1, 0, .defd⟩, ⟨0, 0, .loop .ready none Try.T102 [7] Try.a102 Try.c102 1⟩]⟩ )
 else
 none
 else
 none
 else
 none
 else
 none
 else
 some (.exit 0, stOf 31 [] [] ⟨5, [⟨4, 0, .cells (.rows true 1 ([.val (.int .i64 46)] :: []))⟩, ⟨3, 0, .cells (.rows true 1 ([.ro (.ints .u8 (b)) none] :: []))⟩, ⟨2, 0, .cells (.rows true 1 ([.val (.slice none 0 0)] :: []))⟩, ⟨1, 0, .defd⟩, ⟨0, 0, .loop .ready none Try.T102 [7] Try.a102 Try.c102 1⟩]⟩ ) := by kernel_rfl
theorem Try.r103b (b : List Int) (Q : List (List Int)) (i : Int) : Try.B103 (stOf 31 [0,1,2,4] (Try.V103 i) (Try.H103' b Q)) =
 bif decide (i < (↑b.length : Int)) then
 bif decide (0 ≤ i) && decide (i ≤ (↑b.length : Int)) then
 bif decide (0 ≤ IntKind.i64.wrap (i + if (↑(List.take (b.length - i.toNat) (List.drop i.toNat b)).length : Int) < 46 then (↑(List.take (b.length - i.toNat) (List.drop i.toNat b)).length : Int) else 46)) && decide (IntKind.i64.wrap (i + if (↑(List.take (b.length - i.toNat) (List.drop i.toNat b)).length : Int) < 46 then (↑(List.take (b.length - i.toNat) (List.drop i.toNat b)).length : Int) else 46) ≤ (↑b.length : Int)) then
 bif decide (0 ≤ IntKind.i64.wrap (i + if (↑(List.take (b.length - i.toNat) (List.drop i.toNat b)).length : Int) < 46 then (↑(List.take (b.length - i.toNat) (List.drop i.toNat b)).length : Int) else 46)) && decide (IntKind.i64.wrap (i + if (↑(List.take (b.length - i.toNat) (List.drop i.toNat b)).length : Int) < 46 then (↑(List.take (b.length - i.toNat) (List.drop i.toNat b)).length : Int) else 46) ≤ (↑(IntKind.i64.wrap (i + if (↑(List.take (b.length - i.toNat) (List.drop i.toNat b)).length : Int) < 46 then (↑(List.take (b.length - i.toNat) (List.drop i.toNat b)).length : Int) else 46)).toNat : Int)) then
 bif decide (0 ≤ i) && decide (i ≤ (↑(IntKind.i64.wrap (i + if (↑(List.take (b.length - i.toNat) (List.drop i.toNat b)).length : Int) < 46 then (↑(List.take (b.length - i.toNat) (List.drop i.toNat b)).length : Int) else 46)).toNat : Int)) then
 bif (0 + Q.length).ble Q.length then
 bif ((Q.length + 1) * 24).ble most && (Q.length + 1).ble most then
 some (.normal, stOf 31 [0, 1, 2, 4] [.clo (Fn.yield 0) [] [], .ptr 3 0 0, .ptr 4 0 0, .val (.int .i64 (IntKind.i64.wrap (i + 46)))] ⟨6, [⟨5, 0, .cells (.tab 1 (Q.length + 1) (fun i_1 => bif i_1.blt Q.length then PC.row (Q.getD (0 + i_1) PC.z) else [[AV.ro (Con.ints IntKind.u8 (List.take ((IntKind.i64.wrap (i + if (↑(List.take (b.length - i.toNat) (List.drop i.toNat b)).length : Int) < 46 then (↑(List.take (b.length - i.toNat) (List.drop i.toNat b)).length : Int) else 46)).toNat - i.toNat) (List.drop i.toNat b))) (subCap none (some (IntKind.i64.wrap (i + if (↑(List.take (b.length - i.toNat) (List.drop i.toNat b)).length : Int) < 46 then (↑(List.take (b.length - i.toNat) (List.drop i.toNat b)).length : Int) else 46)).toNat) i.toNat)]].getD (i_1 - Q.length) []))⟩, ⟨4, 0, .cells (.rows true 1 ([.val (.int .i64 46)] :: []))⟩, ⟨3, 0, .cells (.rows true 1 ([.ro (.ints .u8 (b)) none] :: []))⟩, ⟨2, 0, .cells (.rows false 1 ([.own 5 0 (Q.length + 1) none 1] :: []))⟩, ⟨1, 0, .defd⟩, ⟨0, 0, .loop .ready none Try.T102 [7] Try.a102 Try.c102 1⟩]⟩ )
 else
 none
 else
 none
 else
 none
 else
 none
 else
 none
 else
 none
 else
 some (.exit 0, stOf 31 [] [] ⟨6, [⟨5, 0, .cells (.tab 1 (Q.length) (fun i => PC.row (Q.getD i PC.z)))⟩, ⟨4, 0, .cells (.rows true 1 ([.val (.int .i64 46)] :: []))⟩, ⟨3, 0, .cells (.rows true 1 ([.ro (.ints .u8 (b)) none] :: []))⟩, ⟨2, 0, .cells (.rows false 1 ([.own 5 0 (Q.length) none 1] :: []))⟩, ⟨1, 0, .defd⟩, ⟨0, 0, .loop .ready none Try.T102 [7] Try.a102 Try.c102 1⟩]⟩ ) := by kernel_rfl
def pieceB (b : List Int) (k : Nat) : List Int := (b.drop (46 * k)).take 46
def piecesN (b : List Int) (k : Nat) : List (List Int) := (List.range k).map (pieceB b)
def nP (b : List Int) : Nat := (b.length + 45) / 46
def Try.S103 (b : List Int) (k : Nat) : St := match k with
  | 0 => stOf 31 [0,1,2,4] (Try.V103 0) (Try.H103 b)
  | k + 1 => stOf 31 [0,1,2,4] (Try.V103 ((46 * (k + 1) : Nat) : Int)) (Try.H103' b (piecesN b (k + 1)))
def Try.x103 (b : List Int) : AX × St := (.exit 0, stOf 31 [] [] (Try.H103' b (piecesN b (nP b))))
def Try.L103 (b : List Int) : LSum := atL (stOf 31 [0,1,2,4] (Try.V103 0) (Try.H103 b)) (.grd (Nat.ble b.length 1000000 && Nat.blt 0 b.length) (.out (Try.x103 b)))
theorem piecesN_len (b : List Int) (k : Nat) : (piecesN b k).length = k := by simp [piecesN]
theorem piecesN_s (b : List Int) (k : Nat) : piecesN b (k + 1) = piecesN b k ++ [pieceB b k] := by
  unfold piecesN
  rw [List.range_succ, List.map_append]; rfl
theorem h103_ids {r : AV} {b : List Int} {id : Nat} {e : Ent} {l : List Ent} (h : findE (Try.e103 b r) id = some e) : id < 5 := by
  have h' : (bif Nat.beq 4 id then some _ else bif Nat.beq 3 id then some _ else bif Nat.beq 2 id then some _ else bif Nat.beq 1 id then some _ else bif Nat.beq 0 id then some _ else none) = some e := h
  rcases Nat.lt_or_ge id 5 with q | q
  · exact q
  · rw [show Nat.beq 4 id = false from beqF (by omega), show Nat.beq 3 id = false from beqF (by omega), show Nat.beq 2 id = false from beqF (by omega), show Nat.beq 1 id = false from beqF (by omega), show Nat.beq 0 id = false from beqF (by omega)] at h'
    cases h'
theorem Try.H103_ok (b : List Int) : (Try.H103 b).ok := ⟨by show List.Nodup [4, 3, 2, 1, 0]; decide, fun id e h => h103_ids (l := []) h⟩
theorem Try.H103'_ok (b : List Int) (Q : List (List Int)) : (Try.H103' b Q).ok := by
  refine ⟨by show List.Nodup [5, 4, 3, 2, 1, 0]; decide, fun id e h => ?_⟩
  have h' : findE (⟨5, 0, .cells (PC.con Q)⟩ :: Try.e103 b (.own 5 0 Q.length none 1)) id = some e := h
  rw [findE_cons] at h'
  split at h'
  · rename_i q
    have q' : 5 = id := q
    show id < 6; omega
  · have := h103_ids (l := []) h'
    show id < 6; omega
theorem piece_nums {b : List Int} {k : Nat} (h : 46 * k < b.length) (hb : b.length ≤ 1000000) :
    List.take (b.length - 46 * k) (List.drop (46 * k) b) = List.drop (46 * k) b ∧ IntKind.i64.wrap (((46 * k : Nat) : Int) + if ((List.drop (46 * k) b).length : Int) < 46 then ((List.drop (46 * k) b).length : Int) else 46) = ((46 * k + min (b.length - 46 * k) 46 : Nat) : Int) ∧
    List.take (46 * k + min (b.length - 46 * k) 46 - 46 * k) (List.drop (46 * k) b) = pieceB b k ∧ IntKind.i64.wrap (((46 * k : Nat) : Int) + 46) = ((46 * (k + 1) : Nat) : Int) := by
  have hl : (List.drop (46 * k) b).length = b.length - 46 * k := List.length_drop
  refine ⟨List.take_of_length_le (by omega), ?_, ?_, ?_⟩
  · rw [hl]
    by_cases q : b.length - 46 * k < 46
    · rw [if_pos (by omega), wrap64 _ (by omega) (by omega), Nat.min_eq_left (by omega)]; omega
    · rw [if_neg (by omega), wrap64 _ (by omega) (by omega), Nat.min_eq_right (by omega)]; omega
  · unfold pieceB
    rw [show 46 * k + min (b.length - 46 * k) 46 - 46 * k = min (b.length - 46 * k) 46 by omega]
    by_cases q : b.length - 46 * k < 46
    · rw [Nat.min_eq_left (by omega), List.take_of_length_le (by omega), List.take_of_length_le (by omega)]
    · rw [Nat.min_eq_right (by omega)]
  · rw [wrap64 _ (by omega) (by omega)]; omega
theorem Try.l103 (b : List Int) : ∀ s e s', s.h.ok → (Try.L103 b s).run = some (e, s') → TripleP Try.prog 5 (.loop Try.b103) s e s' := by
  intro s e s' hk hL
  obtain ⟨rfl, hA⟩ := atL_some hL
  rw [Ans.run_grd] at hA
  cases hd : (Nat.ble b.length 1000000 && Nat.blt 0 b.length) with
  | false => rw [hd] at hA; cases hA
  | true =>
  rw [hd, cond_true] at hA
  have hA := Option.some.inj hA
  rw [Bool.and_eq_true, Nat.ble_eq, Nat.blt_eq] at hd
  obtain ⟨hb, hb0⟩ := hd
  have he : EnvOk2 Try.prog Try.E103 := Try.envOk false (sumsOf []) _ (fun g A h => by cases h)
  have hX := codeP_sound (ρ := AX × St) (p := 5) (callF_sound he 5) he.ok he.mix (Try.E103.keep 103) (lsumsOf []) Try.b103 trivial
  have key := loop_tripleP hX [0,1,2,4] [] (T := Nat) (fun k => Try.S103 b k) (fun k => k ≤ nP b) (fun k => nP b - k) (fun _ => Try.x103 b) (fun k _ => by cases k <;> first | exact Try.H103_ok _ | exact Try.H103'_ok _ _) (fun k hk => by
    replace hk : k ≤ nP b := hk
    have hn : nP b = (b.length + 45) / 46 := rfl
    cases k with
    | zero =>
      obtain ⟨n1, n2, n3, n4⟩ := piece_nums (b := b) (k := 0) (by omega) hb
      have key := Try.r103a b ((46 * 0 : Nat) : Int)
      rw [Int.toNat_natCast, n1, n2, n4, Int.toNat_natCast, n3, declt_nat, decide_eq_true (show 46 * 0 < b.length by omega), decide_eq_true (show (0 : Int) ≤ ((46 * 0 : Nat) : Int) by omega), decide_eq_true (show ((46 * 0 : Nat) : Int) ≤ (b.length : Int) by omega), decide_eq_true (show (0 : Int) ≤ ((46 * 0 + min (b.length - 46 * 0) 46 : Nat) : Int) by omega), decide_eq_true (show ((46 * 0 + min (b.length - 46 * 0) 46 : Nat) : Int) ≤ (b.length : Int) by omega), decide_eq_true (Int.le_refl _), decide_eq_true (show ((46 * 0 : Nat) : Int) ≤ ((46 * 0 + min (b.length - 46 * 0) 46 : Nat) : Int) by omega)] at key
      refine .inl ⟨1, _, key, ?_, by show 1 ≤ nP b; omega, by show nP b - 1 < nP b - 0; omega, rfl⟩
      have hk5 : (⟨6, ⟨5, 0, .cells (.rows true 1 [[.ro (.ints .u8 (pieceB b 0)) (some (46 * 0 + min (b.length - 46 * 0) 46 - 46 * 0))]])⟩ :: Try.e103 b (.own 5 0 1 none 1)⟩ : Heap).ok := by
        refine ⟨by show List.Nodup [5, 4, 3, 2, 1, 0]; decide, fun id e h => ?_⟩
        rw [findE_cons] at h
        split at h
        · rename_i q
          have q' : 5 = id := q
          show id < 6; omega
        · have := h103_ids (l := []) h
          show id < 6; omega
      refine WeakP.heap hk5 (.con 5 0 0 rfl ?_ (EsW.refl _))
      refine ⟨rfl, rfl, fun i hi j v' hv => ?_⟩
      have : i = 0 := by simpa [Con.len] using hi
      subst this
      exact AWs.get (l' := [.ro (.ints .u8 (pieceB b 0)) none]) (.cons (AW.cap _ _) .nil) j v' hv
    | succ k =>
      have key := Try.r103b b (piecesN b (k + 1)) ((46 * (k + 1) : Nat) : Int)
      by_cases h : 46 * (k + 1) < b.length
      · obtain ⟨n1, n2, n3, n4⟩ := piece_nums (b := b) (k := k + 1) h hb
        rw [Int.toNat_natCast, n1, n2, n4, Int.toNat_natCast, n3, declt_nat, decide_eq_true h, decide_eq_true (show (0 : Int) ≤ ((46 * (k + 1) : Nat) : Int) by omega), decide_eq_true (show ((46 * (k + 1) : Nat) : Int) ≤ (b.length : Int) by omega), decide_eq_true (show (0 : Int) ≤ ((46 * (k + 1) + min (b.length - 46 * (k + 1)) 46 : Nat) : Int) by omega), decide_eq_true (show ((46 * (k + 1) + min (b.length - 46 * (k + 1)) 46 : Nat) : Int) ≤ (b.length : Int) by omega), decide_eq_true (Int.le_refl _), decide_eq_true (show ((46 * (k + 1) : Nat) : Int) ≤ ((46 * (k + 1) + min (b.length - 46 * (k + 1)) 46 : Nat) : Int) by omega), piecesN_len, Nat.zero_add, ble_t (Nat.le_refl _), ble_t (show (k + 1 + 1) * 24 ≤ most by rw [most_eq]; omega), ble_t (show k + 1 + 1 ≤ most by rw [most_eq]; omega)] at key
        refine .inl ⟨k + 2, _, key, ?_, by show k + 2 ≤ nP b; omega, by show nP b - (k + 2) < nP b - (k + 1); omega, rfl⟩
        have hc : ConW (.tab 1 (k + 1 + 1) (fun i => bif i.blt (k + 1) then PC.row ((piecesN b (k + 1)).getD (0 + i) PC.z) else [[AV.ro (Con.ints IntKind.u8 (pieceB b (k + 1))) (subCap none (some (46 * (k + 1) + min (b.length - 46 * (k + 1)) 46)) (46 * (k + 1)))]].getD (i - (k + 1)) [])) (PC.con (piecesN b (k + 2))) := by
          rw [piecesN_s b (k + 1)]
          refine ⟨rfl, by show (piecesN b (k + 1) ++ [pieceB b (k + 1)]).length = k + 1 + 1; rw [List.length_append, piecesN_len]; rfl, fun i hi j v' hv => ?_⟩
          have hi' : i < k + 1 + 1 := hi
          have hv' : (PC.row ((piecesN b (k + 1) ++ [pieceB b (k + 1)]).getD i PC.z))[j]? = some v' := hv
          rcases Nat.lt_or_ge i (k + 1) with q | q
          · refine ⟨v', ?_, AW.refl _⟩
            show (bif i.blt (k + 1) then PC.row ((piecesN b (k + 1)).getD (0 + i) PC.z) else _)[j]? = some v'
            rw [blt_t q, Nat.zero_add, cond_true]
            rw [List.getD_eq_getElem?_getD, List.getElem?_append_left (by rw [piecesN_len]; exact q), ← List.getD_eq_getElem?_getD] at hv'
            exact hv'
          · have e : i = k + 1 := by omega
            subst e
            rw [List.getD_eq_getElem?_getD, List.getElem?_append_right (by rw [piecesN_len]; exact Nat.le_refl _), piecesN_len, Nat.sub_self] at hv'
            show ∃ v, (bif (k + 1).blt (k + 1) then _ else [[AV.ro (Con.ints IntKind.u8 (pieceB b (k + 1))) (subCap none (some (46 * (k + 1) + min (b.length - 46 * (k + 1)) 46)) (46 * (k + 1)))]].getD (k + 1 - (k + 1)) [])[j]? = some v ∧ AW v v'
            rw [blt_f (Nat.le_refl _), Nat.sub_self]
            exact AWs.get (l := [AV.ro (Con.ints IntKind.u8 (pieceB b (k + 1))) (subCap none (some (46 * (k + 1) + min (b.length - 46 * (k + 1)) 46)) (46 * (k + 1)))]) (l' := [.ro (.ints .u8 (pieceB b (k + 1))) none]) (.cons (AW.cap _ _) .nil) j v' hv'
        show WeakP 5 _ (stOf 31 [0,1,2,4] (Try.V103 ((46 * (k + 1 + 1) : Nat) : Int)) (Try.H103' b (piecesN b (k + 1 + 1))))
        unfold Try.H103'
        rw [piecesN_len]
        refine WeakP.heap ?_ (.con 5 0 0 rfl hc (EsW.refl _))
        refine ⟨by show List.Nodup [5, 4, 3, 2, 1, 0]; decide, fun id e h => ?_⟩
        rw [findE_cons] at h
        split at h
        · rename_i q
          have q' : 5 = id := q
          show id < 6; omega
        · have := h103_ids (r := .own 5 0 (k + 1 + 1) none 1) (b := b) (l := []) h
          show id < 6; omega
      · have e1 : k + 1 = nP b := by omega
        rw [declt_nat, decide_eq_false h] at key
        refine .inr ⟨stOf 31 [] [] (Try.H103' b (piecesN b (k + 1))), key, ?_, by show (AX.exit 0) ≠ .normal; intro h; cases h⟩
        show WeakP 5 (stOf 31 [] [] (Try.H103' b (piecesN b (k + 1)))) (stOf 31 [] [] (Try.H103' b (piecesN b (nP b))))
        rw [e1]
        exact WeakP.refl (Try.H103'_ok _ _)) 0 (Nat.zero_le _)
  rw [show Try.x103 b = (e, s') from hA] at key
  exact key
end Go.Ev
/- Journals: pieces collected; the range. -/
namespace Go.Ev
open Go.Proofs
theorem Try.w103 (b : List Int) : rootR Try.E103 5 103 5 (lsumsOf [(1, Try.L103 b)]) (lsumsOf []) (outVP 5) [.clo (.yield 0) [] [], .ptr 3 0 0, .ptr 4 0 0] (Try.H103 b) =
 bif isSt (stOf 31 [0, 1, 2, 4] (Try.V103 0) (Try.H103 b)) (stOf 31 [0, 1, 2, 4] (Try.V103 0) (Try.H103 b)) then
 bif b.length.ble 1000000 && Nat.blt 0 b.length then
 some (.tup [], ⟨6, [⟨5, 0, .cells (.tab 1 ((piecesN b (nP b)).length) (fun i => PC.row ((piecesN b (nP b)).getD i PC.z)))⟩, ⟨4, 0, .cells (.rows true 1 ([.val (.int .i64 46)] :: []))⟩, ⟨3, 0, .cells (.rows true 1 ([.ro (.ints .u8 (b)) none] :: []))⟩, ⟨2, 0, .cells (.rows false 1 ([.own 5 0 ((piecesN b (nP b)).length) none 1] :: []))⟩, ⟨1, 0, .defd⟩, ⟨0, 0, .loop .ready none Try.T102 [7] Try.a102 Try.c102 1⟩]⟩)
 else
 none
 else
 none := by kernel_rfl
def Try.F103 (b : List Int) (args : List AV) (h : Heap) : Ans (AV × Heap) := .grd (isAH args h [.clo (.yield 0) [] [], .ptr 3 0 0, .ptr 4 0 0] (Try.H103 b)) (.grd (Nat.ble b.length 1000000 && Nat.blt 0 b.length) (.out (.tup [], Try.H103' b (piecesN b (nP b)))))
def Try.A103 (b : List Int) : AFun := effA (Try.F103 b)
theorem Try.e103k : EnvOk2 Try.prog Try.E103 := Try.envOk false (sumsOf []) _ (fun g A h => by cases h)
theorem Try.sum103 (b : List Int) : SumC Try.prog 103 (Try.A103 b) := by
  refine effSumR 103 ⟨Try.f103, _, Try.fnOk103.1, Try.fnOk103.2, rfl⟩ ?_
  intro args h v h2 hok hs
  unfold Try.F103 at hs
  rw [Ans.run_grd, Ans.run_grd] at hs
  cases hb : isAH args h [.clo (.yield 0) [] [], .ptr 3 0 0, .ptr 4 0 0] (Try.H103 b) with
  | false => rw [hb] at hs; cases hs
  | true =>
  rw [hb, cond_true] at hs
  obtain ⟨rfl, rfl⟩ := isAH_eq hb
  cases hd : (Nat.ble b.length 1000000 && Nat.blt 0 b.length) with
  | false => rw [hd] at hs; cases hs
  | true =>
  rw [hd, cond_true] at hs
  have hs := Option.some.inj hs
  refine rootR_alone Try.e103k (d := 5) (p := 5) (ls := lsumsOf [(1, Try.L103 b)]) (rs := lsumsOf []) outVP_weak (AllL.of1 (a := Try.b103) (by kernel_rfl) (LsOkP.of rfl rfl (Try.l103 b))) (AllL.of0 (by kernel_rfl)) (Try.H103_ok b) ((Try.w103 b).trans ?_)
  rw [isSt_refl, hd, ← hs]
  rfl
def Try.E102r (b : List Int) : Env := Try.env0 false (sumsOf [(103, Try.A103 b)]) (keepF 102 [(2, [2,6])])
def Try.s102 (b : List Int) : St := stOf 13 [2,6] [.ptr 2 0 0, .clo (.func 103) [] [.ptr 0 0 0, .ptr 1 0 0]] ⟨3, [⟨2, 0, .cells (.rows true 1 [[.val (.slice none 0 0)]])⟩, ⟨1, 0, .cells (.rows true 1 [[.val (.int .i64 46)]])⟩, ⟨0, 0, .cells (.rows true 1 [[.ro (.ints .u8 b) none]])⟩]⟩
theorem Try.e102r (b : List Int) : EnvOk2 Try.prog (Try.E102r b) := Try.envOk false (sumsOf [(103, Try.A103 b)]) _ (sumsOf_ok (show AllS Try.prog [(103, Try.A103 b)] from ⟨Try.sum103 b, trivial⟩))
theorem Try.rg102_eq : Try.rg102 = .rangeFunc (opn Try.rg102) (prsA Try.rg102) Try.a102 Try.c102 := by kernel_rfl
def Try.s102' (b : List Int) (Q : List (List Int)) : St := ⟨placeL [2] [.ptr 2 0 0] 13 0, [4], ⟨5, [⟨4, 0, .defd⟩, ⟨3, 0, .cells (PC.con Q)⟩, ⟨2, 0, .cells (.rows false 1 [[.own 3 0 Q.length none 1]])⟩, ⟨1, 0, .cells (.rows true 1 [[.val (.int .i64 46)]])⟩, ⟨0, 0, .cells (.rows true 1 [[.ro (.ints .u8 b) none]])⟩]⟩⟩
def Try.R102 (b : List Int) : LSum := atL (Try.s102 b) (.grd (Nat.ble b.length 1000000 && Nat.blt 0 b.length) (.out (.normal, Try.s102' b (piecesN b (nP b)))))
def h102 (b : List Int) : Heap := ⟨2, [⟨1, 0, .cells (.rows true 1 [[.val (.int .i64 46)]])⟩, ⟨0, 0, .cells (.rows true 1 [[.ro (.ints .u8 b) none]])⟩]⟩
def h102' (b : List Int) (Q : List (List Int)) : Heap := ⟨3, [⟨2, 0, .cells (PC.con Q)⟩, ⟨1, 0, .cells (.rows true 1 [[.val (.int .i64 46)]])⟩, ⟨0, 0, .cells (.rows true 1 [[.ro (.ints .u8 b) none]])⟩]⟩
def ag102 : List AV := [.val (.slice none 0 0), .clo (.func 103) [] [.ptr 0 0 0, .ptr 1 0 0]]
theorem Try.g102 (b : List Int) : rangeK (Try.E102r b).strict (callF (Try.E102r b) 5) (ev (Try.s102 b).t (opn Try.rg102)) (prsA Try.rg102) Try.a102 Try.c102 (outKP 2 [2] [2]) (Try.s102 b) =
    bif isAH [.clo (.yield 0) [] [], .ptr 3 0 0, .ptr 4 0 0] (Try.H103 b) [.clo (.yield 0) [] [], .ptr 3 0 0, .ptr 4 0 0] (Try.H103 b) then
      bif Nat.ble b.length 1000000 && Nat.blt 0 b.length then some (.normal, Try.s102' b (piecesN b (nP b))) else none
    else none := by kernel_rfl
theorem Try.s102'_ok (b : List Int) (Q : List (List Int)) : (Try.s102' b Q).h.ok := by
  refine ⟨by show List.Nodup [4, 3, 2, 1, 0]; decide, fun id e h => ?_⟩
  have h' : (bif Nat.beq 4 id then some _ else bif Nat.beq 3 id then some _ else bif Nat.beq 2 id then some _ else bif Nat.beq 1 id then some _ else bif Nat.beq 0 id then some _ else none) = some e := h
  show id < 5
  rcases Nat.lt_or_ge id 5 with q | q
  · exact q
  · rw [show Nat.beq 4 id = false from beqF (by omega), show Nat.beq 3 id = false from beqF (by omega), show Nat.beq 2 id = false from beqF (by omega), show Nat.beq 1 id = false from beqF (by omega), show Nat.beq 0 id = false from beqF (by omega)] at h'
    cases h'
theorem Try.k102 (b : List Int) : RsOkP Try.prog 2 (lsumsOf [(2, Try.R102 b)]) Try.rg102 := by
  rw [Try.rg102_eq]
  show (match lsOf (lsumsOf [(2, Try.R102 b)]) Try.a102 with | some L => ∀ s e s', s.h.ok → (L s).run = some (e, s') → TripleP Try.prog 2 (.rangeFunc (opn Try.rg102) (prsA Try.rg102) Try.a102 Try.c102) s e s' | none => True)
  have e1 : lsOf (lsumsOf [(2, Try.R102 b)]) Try.a102 = some (Try.R102 b) := by kernel_rfl
  rw [e1]
  intro s e s' hk hL
  obtain ⟨rfl, hA⟩ := atL_some hL
  rw [Ans.run_grd] at hA
  cases hd : (Nat.ble b.length 1000000 && Nat.blt 0 b.length) with
  | false => rw [hd] at hA; cases hA
  | true =>
  rw [hd, cond_true] at hA
  have hA := Option.some.inj hA
  have key := Try.g102 b
  rw [isAH_refl, hd] at key
  injection hA with h1 h2
  subst h1; subst h2
  exact range_triple (Try.e102r b) hk key (WeakP.refl (Try.s102'_ok _ _))
theorem Try.e102 : EnvOk2 Try.prog Try.E102 := Try.envOk false (sumsOf []) _ (fun g A h => by cases h)
theorem Try.w102 (b : List Int) : rootR Try.E102 5 102 2 (lsumsOf []) (lsumsOf [(2, Try.R102 b)]) (outVP 2) ag102 (h102 b) =
 bif isSt (Try.s102 b) (Try.s102 b) then
 bif b.length.ble 1000000 && Nat.blt 0 b.length then
 some (.own 2 0 ((piecesN b (nP b)).length) none 1, ⟨3, [⟨2, 0, .cells (.tab 1 ((piecesN b (nP b)).length) (fun i => PC.row ((piecesN b (nP b)).getD i PC.z)))⟩, ⟨1, 0, .cells (.rows true 1 ([.val (.int .i64 46)] :: []))⟩, ⟨0, 0, .cells (.rows true 1 ([.ro (.ints .u8 (b)) none] :: []))⟩]⟩)
 else
 none
 else
 none := by kernel_rfl
def Try.F102 (b : List Int) (args : List AV) (h : Heap) : Ans (AV × Heap) := .grd (isAH args h ag102 (h102 b)) (.grd (Nat.ble b.length 1000000 && Nat.blt 0 b.length) (.out (.own 2 0 (piecesN b (nP b)).length none 1, h102' b (piecesN b (nP b)))))
def Try.A102 (b : List Int) : AFun := effA (Try.F102 b)
theorem ok2 {c1 c0 : Con} : (⟨2, [⟨1, 0, .cells c1⟩, ⟨0, 0, .cells c0⟩]⟩ : Heap).ok := two_ok _ _
theorem Try.sum102 (b : List Int) : SumC Try.prog 102 (Try.A102 b) := by
  refine effSumR 102 ⟨Try.f102, _, Try.fnOk102.1, Try.fnOk102.2, rfl⟩ ?_
  intro args h v h2 hok hs
  unfold Try.F102 at hs
  rw [Ans.run_grd, Ans.run_grd] at hs
  cases hb : isAH args h ag102 (h102 b) with
  | false => rw [hb] at hs; cases hs
  | true =>
  rw [hb, cond_true] at hs
  obtain ⟨rfl, rfl⟩ := isAH_eq hb
  cases hd : (Nat.ble b.length 1000000 && Nat.blt 0 b.length) with
  | false => rw [hd] at hs; cases hs
  | true =>
  rw [hd, cond_true] at hs
  have hs := Option.some.inj hs
  refine rootR_alone Try.e102 (d := 5) (g := 102) (p := 2) (ls := lsumsOf []) (rs := lsumsOf [(2, Try.R102 b)]) outVP_weak (AllL.of0 (by kernel_rfl)) (AllL.of1 (a := Try.rg102) (by kernel_rfl) (Try.k102 b)) ok2 ((Try.w102 b).trans ?_)
  rw [isSt_refl, hd, ← hs]
  rfl
end Go.Ev
/- Journals: Append's loop. -/
namespace Go.Ev
open Go.Proofs
def entA (e : EntD) : AV := .agg (entRow e)
def Try.t39 (e : EntD) : List (Nat × AFun) := [(55, Try.A55), (56, Try.A56), (59, Try.A59x), (79, Try.A79), (85, Try.A85), (102, Try.A102 (encD e))]
def Try.E39 (e : EntD) : Env := Try.env0 false (sumsOf (Try.t39 e)) (keepF 39 [(13, [3,4,6,9,52,53,54])])
def Try.b39 : Code := nthD .skip (loopsOf (bodyOf (Try.E39 entZ) 39)) 0
def Try.B39 (e : EntD) (s : St) : Option (AX × St) := codeS (Try.E39 e) (callF (Try.E39 e) 5) ((Try.E39 e).keep 39) (lsumsOf []) Try.b39 (outK [3,4,6,9,52,53,54] [3,4,6]) s
def setNx (J : JD) (x : Int) : JD := ⟨J.N, J.B, J.P, J.gen, J.ep, J.so, J.lim, J.st, J.ba, x, J.L, J.E⟩
def Try.V39 (n : Int) (m : Nat) (k : Nat) : List AV := [.ptr 0 0 0, .ptr 1 0 0, .ptr 2 0 0, .val (.int .i64 n), .own 7 0 m none 1, .val (.int .i64 m), .val (.int .i64 k)]
def Try.e39h (J : JD) (e : EntD) (P : List SwD) (nx : Int) : List Ent := [⟨6, 0, .cells (.ints .i64 J.E)⟩, ⟨5, 0, .cells (EN.con J.L)⟩, ⟨4, 0, .cells (SW.con P)⟩, ⟨3, 0, .cells (.ints .u8 J.B)⟩, ⟨2, 0, .cells (.rows false 15 [jrow J.N (.own 3 0 J.B.length none 1) (.own 4 0 P.length none 2) (setNx J nx) (.own 5 0 J.L.length none 5) (.own 6 0 J.E.length none 1)])⟩, ⟨1, 0, .cells (.rows true 12 [zeroCells])⟩, ⟨0, 0, .cells (.rows true 5 [entRow e])⟩]
def Try.H39 (J : JD) (e : EntD) (Q : List (List Int)) (P : List SwD) (nx : Int) : Heap := ⟨8, ⟨7, 0, .cells (PC.con Q)⟩ :: Try.e39h J e P nx⟩
theorem Try.e39 (e : EntD) : EnvOk2 Try.prog (Try.E39 e) := Try.envOk false (sumsOf (Try.t39 e)) _ (sumsOf_ok (show AllS Try.prog (Try.t39 e) from ⟨Try.sum55, Try.sum56, Try.sum59x, Try.sum79, Try.sum85, Try.sum102 _, trivial⟩))
theorem Try.r39 (J : JD) (e : EntD) (Q : List (List Int)) (P : List SwD) (n nx : Int) (k : Nat) : Try.B39 e (stOf 130 [3,4,6,9,52,53,54] (Try.V39 n Q.length k) (Try.H39 J e Q P nx)) =
 bif decide ((↑k : Int) < (↑Q.length : Int)) then
 bif inR (↑k : Int) Q.length then
 bif (0 + k).blt Q.length then
 bif (↑k : Int) == 0 then
 bif (↑k : Int) == IntKind.i64.wrap (n - 1) then
 bif IntKind.i64.wrap (J.N - 2) != 0 then
 bif (Q.getD (0 + k) PC.z).length.ble 46 then
 bif (dataB (setNx J nx).nx (setNx J nx).ep true true (Q.getD (0 + k) PC.z)).length.ble 1000000 then
 bif (0 + P.length).ble P.length then
 bif ((P.length + 1) * 32).ble most && (P.length + 1).ble most then
 some (.normal, stOf 130 [3, 4, 6, 9, 52, 53, 54] [.ptr 0 0 0, .ptr 1 0 0, .ptr 2 0 0, .val (.int .i64 (n)), .own 7 0 (Q.length) none 1, .val (.int .i64 ((↑Q.length : Int))), .val (.int .i64 (IntKind.i64.wrap ((↑k : Int) + 1)))] ⟨8, [⟨7, 0, .cells (.tab 1 (Q.length) (fun i => PC.row (Q.getD i PC.z)))⟩, ⟨6, 0, .cells (.ints .i64 (J.E))⟩, ⟨5, 0, .cells (EN.con J.L)⟩, ⟨4, 0, .cells (.tab 2 (P.length + 1) (fun i => bif i.blt P.length then SW.row (P.getD (0 + i) SW.z) else [[AV.val (Value.int IntKind.i64 (IntKind.i64.wrap (2 + (setNx J nx).nx.tmod (IntKind.i64.wrap (J.N - 2))))), AV.ro (Con.ints IntKind.u8 (dataB (setNx J nx).nx (setNx J nx).ep true true (Q.getD (0 + k) PC.z))) none]].getD (i - P.length) []))⟩, ⟨3, 0, .cells (.ints .u8 (J.B))⟩, ⟨2, 0, .cells (.rows false 15 ([.val (.int .i64 (J.N)), .own 3 0 (J.B.length) none 1, .own 4 0 (P.length + 1) none 2, .val (.int .i64 ((setNx J nx).N)), .ro (.ints .u8 ((setNx J nx).B)) none, .ro (SW.con (setNx J nx).P) none, .val (.int .i64 ((setNx J nx).gen)), .val (.int .i64 ((setNx J nx).ep)), .val (.bool ((setNx J nx).so)), .val (.int .i64 ((setNx J nx).lim)), .val (.int .i64 ((setNx J nx).st)), .val (.int .i64 ((setNx J nx).ba)), .val (.int .i64 (IntKind.i64.wrap ((setNx J nx).nx + 1))), .own 5 0 (J.L.length) none 5, .own 6 0 (J.E.length) none 1] :: []))⟩, ⟨1, 0, .cells (.rows true 12 ([.val (.int .i64 0), .val (.slice none 0 0), .val (.slice none 0 0), .val (.int .i64 0), .val (.int .i64 0), .val (.bool false), .val (.int .i64 0), .val (.int .i64 0), .val (.int .i64 0), .val (.int .i64 0), .val (.slice none 0 0), .val (.slice none 0 0)] :: []))⟩, ⟨0, 0, .cells (.rows true 5 ([.val (.int .i64 (e.fst)), .val (.int .i64 (e.snd.fst)), .val (.int .i64 (e.snd.snd.fst)), .val (.int .i64 (e.snd.snd.snd.fst)), .ro (.ints .u8 (e.snd.snd.snd.snd)) none] :: []))⟩]⟩ )
 else
 none
 else
 none
 else
 none
 else
 none
 else
 none
 else
 bif IntKind.i64.wrap (J.N - 2) != 0 then
 bif (Q.getD (0 + k) PC.z).length.ble 46 then
 bif (dataB (setNx J nx).nx (setNx J nx).ep true false (Q.getD (0 + k) PC.z)).length.ble 1000000 then
 bif (0 + P.length).ble P.length then
 bif ((P.length + 1) * 32).ble most && (P.length + 1).ble most then
 some (.normal, stOf 130 [3, 4, 6, 9, 52, 53, 54] [.ptr 0 0 0, .ptr 1 0 0, .ptr 2 0 0, .val (.int .i64 (n)), .own 7 0 (Q.length) none 1, .val (.int .i64 ((↑Q.length : Int))), .val (.int .i64 (IntKind.i64.wrap ((↑k : Int) + 1)))] ⟨8, [⟨7, 0, .cells (.tab 1 (Q.length) (fun i => PC.row (Q.getD i PC.z)))⟩, ⟨6, 0, .cells (.ints .i64 (J.E))⟩, ⟨5, 0, .cells (EN.con J.L)⟩, ⟨4, 0, .cells (.tab 2 (P.length + 1) (fun i => bif i.blt P.length then SW.row (P.getD (0 + i) SW.z) else [[AV.val (Value.int IntKind.i64 (IntKind.i64.wrap (2 + (setNx J nx).nx.tmod (IntKind.i64.wrap (J.N - 2))))), AV.ro (Con.ints IntKind.u8 (dataB (setNx J nx).nx (setNx J nx).ep true false (Q.getD (0 + k) PC.z))) none]].getD (i - P.length) []))⟩, ⟨3, 0, .cells (.ints .u8 (J.B))⟩, ⟨2, 0, .cells (.rows false 15 ([.val (.int .i64 (J.N)), .own 3 0 (J.B.length) none 1, .own 4 0 (P.length + 1) none 2, .val (.int .i64 ((setNx J nx).N)), .ro (.ints .u8 ((setNx J nx).B)) none, .ro (SW.con (setNx J nx).P) none, .val (.int .i64 ((setNx J nx).gen)), .val (.int .i64 ((setNx J nx).ep)), .val (.bool ((setNx J nx).so)), .val (.int .i64 ((setNx J nx).lim)), .val (.int .i64 ((setNx J nx).st)), .val (.int .i64 ((setNx J nx).ba)), .val (.int .i64 (IntKind.i64.wrap ((setNx J nx).nx + 1))), .own 5 0 (J.L.length) none 5, .own 6 0 (J.E.length) none 1] :: []))⟩, ⟨1, 0, .cells (.rows true 12 ([.val (.int .i64 0), .val (.slice none 0 0), .val (.slice none 0 0), .val (.int .i64 0), .val (.int .i64 0), .val (.bool false), .val (.int .i64 0), .val (.int .i64 0), .val (.int .i64 0), .val (.int .i64 0), .val (.slice none 0 0), .val (.slice none 0 0)] :: []))⟩, ⟨0, 0, .cells (.rows true 5 ([.val (.int .i64 (e.fst)), .val (.int .i64 (e.snd.fst)), .val (.int .i64 (e.snd.snd.fst)), .val (.int .i64 (e.snd.snd.snd.fst)), .ro (.ints .u8 (e.snd.snd.snd.snd)) none] :: []))⟩]⟩ )
 else
 none
 else
 none
 else
 none
 else
 none
 else
 none
 else
 bif (↑k : Int) == IntKind.i64.wrap (n - 1) then
 bif IntKind.i64.wrap (J.N - 2) != 0 then
 bif (Q.getD (0 + k) PC.z).length.ble 46 then
 bif (dataB (setNx J nx).nx (setNx J nx).ep false true (Q.getD (0 + k) PC.z)).length.ble 1000000 then
 bif (0 + P.length).ble P.length then
 bif ((P.length + 1) * 32).ble most && (P.length + 1).ble most then
 some (.normal, stOf 130 [3, 4, 6, 9, 52, 53, 54] [.ptr 0 0 0, .ptr 1 0 0, .ptr 2 0 0, .val (.int .i64 (n)), .own 7 0 (Q.length) none 1, .val (.int .i64 ((↑Q.length : Int))), .val (.int .i64 (IntKind.i64.wrap ((↑k : Int) + 1)))] ⟨8, [⟨7, 0, .cells (.tab 1 (Q.length) (fun i => PC.row (Q.getD i PC.z)))⟩, ⟨6, 0, .cells (.ints .i64 (J.E))⟩, ⟨5, 0, .cells (EN.con J.L)⟩, ⟨4, 0, .cells (.tab 2 (P.length + 1) (fun i => bif i.blt P.length then SW.row (P.getD (0 + i) SW.z) else [[AV.val (Value.int IntKind.i64 (IntKind.i64.wrap (2 + (setNx J nx).nx.tmod (IntKind.i64.wrap (J.N - 2))))), AV.ro (Con.ints IntKind.u8 (dataB (setNx J nx).nx (setNx J nx).ep false true (Q.getD (0 + k) PC.z))) none]].getD (i - P.length) []))⟩, ⟨3, 0, .cells (.ints .u8 (J.B))⟩, ⟨2, 0, .cells (.rows false 15 ([.val (.int .i64 (J.N)), .own 3 0 (J.B.length) none 1, .own 4 0 (P.length + 1) none 2, .val (.int .i64 ((setNx J nx).N)), .ro (.ints .u8 ((setNx J nx).B)) none, .ro (SW.con (setNx J nx).P) none, .val (.int .i64 ((setNx J nx).gen)), .val (.int .i64 ((setNx J nx).ep)), .val (.bool ((setNx J nx).so)), .val (.int .i64 ((setNx J nx).lim)), .val (.int .i64 ((setNx J nx).st)), .val (.int .i64 ((setNx J nx).ba)), .val (.int .i64 (IntKind.i64.wrap ((setNx J nx).nx + 1))), .own 5 0 (J.L.length) none 5, .own 6 0 (J.E.length) none 1] :: []))⟩, ⟨1, 0, .cells (.rows true 12 ([.val (.int .i64 0), .val (.slice none 0 0), .val (.slice none 0 0), .val (.int .i64 0), .val (.int .i64 0), .val (.bool false), .val (.int .i64 0), .val (.int .i64 0), .val (.int .i64 0), .val (.int .i64 0), .val (.slice none 0 0), .val (.slice none 0 0)] :: []))⟩, ⟨0, 0, .cells (.rows true 5 ([.val (.int .i64 (e.fst)), .val (.int .i64 (e.snd.fst)), .val (.int .i64 (e.snd.snd.fst)), .val (.int .i64 (e.snd.snd.snd.fst)), .ro (.ints .u8 (e.snd.snd.snd.snd)) none] :: []))⟩]⟩ )
 else
 none
 else
 none
 else
 none
 else
 none
 else
 none
 else
 bif IntKind.i64.wrap (J.N - 2) != 0 then
 bif (Q.getD (0 + k) PC.z).length.ble 46 then
 bif (dataB (setNx J nx).nx (setNx J nx).ep false false (Q.getD (0 + k) PC.z)).length.ble 1000000 then
 bif (0 + P.length).ble P.length then
 bif ((P.length + 1) * 32).ble most && (P.length + 1).ble most then
 some (.normal, stOf 130 [3, 4, 6, 9, 52, 53, 54] [.ptr 0 0 0, .ptr 1 0 0, .ptr 2 0 0, .val (.int .i64 (n)), .own 7 0 (Q.length) none 1, .val (.int .i64 ((↑Q.length : Int))), .val (.int .i64 (IntKind.i64.wrap ((↑k : Int) + 1)))] ⟨8, [⟨7, 0, .cells (.tab 1 (Q.length) (fun i => PC.row (Q.getD i PC.z)))⟩, ⟨6, 0, .cells (.ints .i64 (J.E))⟩, ⟨5, 0, .cells (EN.con J.L)⟩, ⟨4, 0, .cells (.tab 2 (P.length + 1) (fun i => bif i.blt P.length then SW.row (P.getD (0 + i) SW.z) else [[AV.val (Value.int IntKind.i64 (IntKind.i64.wrap (2 + (setNx J nx).nx.tmod (IntKind.i64.wrap (J.N - 2))))), AV.ro (Con.ints IntKind.u8 (dataB (setNx J nx).nx (setNx J nx).ep false false (Q.getD (0 + k) PC.z))) none]].getD (i - P.length) []))⟩, ⟨3, 0, .cells (.ints .u8 (J.B))⟩, ⟨2, 0, .cells (.rows false 15 ([.val (.int .i64 (J.N)), .own 3 0 (J.B.length) none 1, .own 4 0 (P.length + 1) none 2, .val (.int .i64 ((setNx J nx).N)), .ro (.ints .u8 ((setNx J nx).B)) none, .ro (SW.con (setNx J nx).P) none, .val (.int .i64 ((setNx J nx).gen)), .val (.int .i64 ((setNx J nx).ep)), .val (.bool ((setNx J nx).so)), .val (.int .i64 ((setNx J nx).lim)), .val (.int .i64 ((setNx J nx).st)), .val (.int .i64 ((setNx J nx).ba)), .val (.int .i64 (IntKind.i64.wrap ((setNx J nx).nx + 1))), .own 5 0 (J.L.length) none 5, .own 6 0 (J.E.length) none 1] :: []))⟩, ⟨1, 0, .cells (.rows true 12 ([.val (.int .i64 0), .val (.slice none 0 0), .val (.slice none 0 0), .val (.int .i64 0), .val (.int .i64 0), .val (.bool false), .val (.int .i64 0), .val (.int .i64 0), .val (.int .i64 0), .val (.int .i64 0), .val (.slice none 0 0), .val (.slice none 0 0)] :: []))⟩, ⟨0, 0, .cells (.rows true 5 ([.val (.int .i64 (e.fst)), .val (.int .i64 (e.snd.fst)), .val (.int .i64 (e.snd.snd.fst)), .val (.int .i64 (e.snd.snd.snd.fst)), .ro (.ints .u8 (e.snd.snd.snd.snd)) none] :: []))⟩]⟩ )
 else
 none
 else
 none
 else
 none
 else
 none
 else
 none
 else
 none
 else
 none
 else
 some (.exit 2, stOf 130 [3, 4, 6] [.ptr 0 0 0, .ptr 1 0 0, .ptr 2 0 0] ⟨7, [⟨6, 0, .cells (.ints .i64 (J.E))⟩, ⟨5, 0, .cells (EN.con J.L)⟩, ⟨4, 0, .cells (SW.con P)⟩, ⟨3, 0, .cells (.ints .u8 (J.B))⟩, ⟨2, 0, .cells (.rows false 15 ([.val (.int .i64 (J.N)), .own 3 0 (J.B.length) none 1, .own 4 0 (P.length) none 2, .val (.int .i64 ((setNx J nx).N)), .ro (.ints .u8 ((setNx J nx).B)) none, .ro (SW.con (setNx J nx).P) none, .val (.int .i64 ((setNx J nx).gen)), .val (.int .i64 ((setNx J nx).ep)), .val (.bool ((setNx J nx).so)), .val (.int .i64 ((setNx J nx).lim)), .val (.int .i64 ((setNx J nx).st)), .val (.int .i64 ((setNx J nx).ba)), .val (.int .i64 ((setNx J nx).nx)), .own 5 0 (J.L.length) none 5, .own 6 0 (J.E.length) none 1] :: []))⟩, ⟨1, 0, .cells (.rows true 12 ([.val (.int .i64 0), .val (.slice none 0 0), .val (.slice none 0 0), .val (.int .i64 0), .val (.int .i64 0), .val (.bool false), .val (.int .i64 0), .val (.int .i64 0), .val (.int .i64 0), .val (.int .i64 0), .val (.slice none 0 0), .val (.slice none 0 0)] :: []))⟩, ⟨0, 0, .cells (.rows true 5 ([.val (.int .i64 (e.fst)), .val (.int .i64 (e.snd.fst)), .val (.int .i64 (e.snd.snd.fst)), .val (.int .i64 (e.snd.snd.snd.fst)), .ro (.ints .u8 (e.snd.snd.snd.snd)) none] :: []))⟩]⟩ ) := by kernel_rfl
def placeI (N s : Int) : Int := 2 + s.tmod (N - 2)
def wr (J : JD) (e : EntD) (i : Nat) : SwD := (placeI J.N (J.nx + i), dataB (J.nx + i) J.ep ((i : Int) == 0) ((i : Int) == secs (encD e).length - 1) (pieceB (encD e) i))
def writesN (J : JD) (e : EntD) (k : Nat) : List SwD := (List.range k).map (wr J e)
def secsW (n : Nat) : Int := if 1 > IntKind.i64.wrap ((IntKind.i64.wrap (IntKind.i64.wrap ((n : Int) + 46) - 1)).tdiv 46) then 1 else IntKind.i64.wrap ((IntKind.i64.wrap (IntKind.i64.wrap ((n : Int) + 46) - 1)).tdiv 46)
def pcs (e : EntD) : List (List Int) := piecesN (encD e) (nP (encD e))
def fitsA (J : JD) (e : EntD) : Bool := isJr J && (entD? e && (decide (J.P.length + nP (encD e) ≤ 2000) && decide (J.nx + nP (encD e) ≤ 1073741824)))
def Try.s39 (J : JD) (e : EntD) : St := stOf 130 [3,4,6,9,52,53,54] (Try.V39 (secsW (encD e).length) (pcs e).length 0) (Try.H39 J e (pcs e) J.P J.nx)
def Try.x39 (J : JD) (e : EntD) : AX × St := (.exit 2, stOf 130 [3,4,6] [.ptr 0 0 0, .ptr 1 0 0, .ptr 2 0 0] ⟨7, Try.e39h J e (J.P ++ writesN J e (nP (encD e))) (J.nx + nP (encD e))⟩)
def Try.L39 (J : JD) (e : EntD) : LSum := atL (Try.s39 J e) (.grd (fitsA J e) (.out (Try.x39 J e)))
theorem secsW_eq {n : Nat} (h : n ≤ 1000001) : secsW n = secs n := secs_w n h
theorem encD_pos (e : EntD) : 0 < (encD e).length := by unfold encD encB; simp
theorem encD_len (e : EntD) : (encD e).length ≤ 13 + e.2.2.2.2.length := encB_len _ _ _ _ _
theorem secs_nP {b : List Int} (h : 0 < b.length) : secs b.length = (nP b : Int) := by
  unfold secs nP
  rw [Nat.max_eq_left (by omega)]
theorem writesN_len (J : JD) (e : EntD) (k : Nat) : (writesN J e k).length = k := by simp [writesN]
theorem writesN_s (J : JD) (e : EntD) (k : Nat) : writesN J e (k + 1) = writesN J e k ++ [wr J e k] := by
  unfold writesN
  rw [List.range_succ, List.map_append]; rfl
theorem piecesN_get {b : List Int} {n k : Nat} (h : k < n) : (piecesN b n).getD k PC.z = pieceB b k := by
  unfold piecesN
  rw [List.getD_eq_getElem?_getD, List.getElem?_map, List.getElem?_range h]; rfl
theorem pieceB_len (b : List Int) (k : Nat) : (pieceB b k).length ≤ 46 := by unfold pieceB; rw [List.length_take]; omega
theorem ids_lt : ∀ {es : List Ent} {n : Nat}, (∀ x ∈ es.map (·.id), x < n) → ∀ {id : Nat} {e : Ent}, findE es id = some e → id < n
  | [], n, _, id, e, h => by cases h
  | x :: es, n, hx, id, e, h => by
    rw [findE_cons] at h
    split at h
    · rename_i q
      have := hx x.id (by simp)
      rw [← q]; exact this
    · exact ids_lt (fun y hy => hx y (by rw [List.map_cons]; exact List.mem_cons_of_mem _ hy)) h
theorem heap_ok {n : Nat} {es : List Ent} (ids : List Nat) (hi : es.map (·.id) = ids) (h1 : ids.Nodup) (h2 : ∀ x ∈ ids, x < n) : (⟨n, es⟩ : Heap).ok :=
  ⟨by show (es.map (·.id)).Nodup; rw [hi]; exact h1, fun id e h => ids_lt (by rw [hi]; exact h2) h⟩
theorem e39_ok (J : JD) (e : EntD) (P : List SwD) (nx : Int) (b7 : Blk) : (⟨8, ⟨7, 0, b7⟩ :: Try.e39h J e P nx⟩ : Heap).ok := heap_ok [7, 6, 5, 4, 3, 2, 1, 0] rfl (by decide) (by decide)
theorem e39_ok7 (J : JD) (e : EntD) (P : List SwD) (nx : Int) : (⟨7, Try.e39h J e P nx⟩ : Heap).ok := heap_ok [6, 5, 4, 3, 2, 1, 0] rfl (by decide) (by decide)
theorem fitsA_facts {J : JD} {e : EntD} (h : fitsA J e = true) : JrFacts J ∧ entD? e = true ∧ e.2.2.2.2.length < 20000 ∧ J.P.length + nP (encD e) ≤ 2000 ∧ J.nx + nP (encD e) ≤ 1073741824 := by
  unfold fitsA at h
  simp only [Bool.and_eq_true, decide_eq_true_eq] at h
  exact ⟨jr_facts h.1, h.2.1, ent_len h.2.1, h.2.2.1, h.2.2.2⟩
theorem Try.l39 (J : JD) (e : EntD) : ∀ s e' s', s.h.ok → (Try.L39 J e s).run = some (e', s') → Triple Try.prog (.loop Try.b39) s e' s' := by
  refine atL_grd (fun hp => ?_)
  obtain ⟨hf, he, hl, hP, hN⟩ := fitsA_facts hp
  have hd := dev_facts hf.dev
  have d1 := hd.lo
  have d2 := hd.hi
  have hb := encD_len e
  have hb0 := encD_pos e
  have hn := secs_nP hb0
  have n0 := hf.b0
  have n1 := hf.bs
  have n2 := hf.sn
  refine loop_at (Try.e39 e) (d := 5) (g := 39) (ls := lsumsOf []) (c := Try.b39) trivial [3,4,6,9,52,53,54] [3,4,6] (T := Nat)
    (fun k => stOf 130 [3,4,6,9,52,53,54] (Try.V39 (nP (encD e) : Int) (nP (encD e)) k) (Try.H39 J e (pcs e) (J.P ++ writesN J e k) (J.nx + k))) (fun k => k ≤ nP (encD e)) (fun k => nP (encD e) - k) (fun _ => Try.x39 J e) _ _ 0 (Nat.zero_le _) ?_ ?_ (fun k _ => e39_ok _ _ _ _ _) ?_
  · have e0 : J.P ++ writesN J e 0 = J.P := by simp [writesN]
    have e1 : J.nx + ((0 : Nat) : Int) = J.nx := by simp
    show Weak (Try.s39 J e) (stOf 130 [3,4,6,9,52,53,54] (Try.V39 (nP (encD e) : Int) (nP (encD e)) 0) (Try.H39 J e (pcs e) (J.P ++ writesN J e 0) (J.nx + ((0 : Nat) : Int))))
    have e2 : (pcs e).length = nP (encD e) := piecesN_len _ _
    unfold Try.s39
    rw [e0, e1, secsW_eq (by omega), hn, e2]
    exact Weak.refl (e39_ok _ _ _ _ _)
  · intro e' s' h
    exact Option.some.inj h
  · intro k h2
    replace h2 : k ≤ nP (encD e) := h2
    have key := Try.r39 J e (pcs e) (J.P ++ writesN J e k) (secsW (encD e).length) (J.nx + k) k
    have pl : (pcs e).length = nP (encD e) := piecesN_len _ _
    have wl : (J.P ++ writesN J e k).length = J.P.length + k := by rw [List.length_append, writesN_len]
    by_cases hk : k < nP (encD e)
    · have hdl : ∀ f l, (dataB (J.nx + k) J.ep f l (pieceB (encD e) k)).length.ble 1000000 = true := fun f l => by rw [dataB_len (pieceB_len _ _)]; rfl
      have hpl : IntKind.i64.wrap (2 + (J.nx + k).tmod (J.N - 2)) = placeI J.N (J.nx + k) := by
        unfold placeI
        have t1 := Int.tmod_nonneg (b := J.N - 2) (show 0 ≤ J.nx + k by omega)
        have t2 := Int.tmod_lt_of_pos (J.nx + k) (show 0 < J.N - 2 by omega)
        rw [wrap64 _ (by omega) (by omega)]
      have hnx : IntKind.i64.wrap (J.nx + (k : Int) + 1) = J.nx + ((k + 1 : Nat) : Int) := by rw [wrap64 _ (by omega) (by omega)]; omega
      rw [Nat.zero_add, Nat.zero_add, secsW_eq (by omega), hn] at key
      rw [wl, pl, declt_nat, inR_nat, decide_eq_true hk, blt_t hk, wrap64 (J.N - 2) (by omega) (by omega), show pcs e = piecesN (encD e) (nP (encD e)) from rfl, piecesN_get hk, ble_t (pieceB_len _ _), ble_t (Nat.le_refl _), ble_t (show (J.P.length + k + 1) * 32 ≤ most by rw [most_eq]; omega), ble_t (show J.P.length + k + 1 ≤ most by rw [most_eq]; omega), wrap64 ((nP (encD e) : Int) - 1) (by omega) (by omega), show (J.N - 2 != 0) = true by rw [bne, Bool.not_eq_true', beq_eq_false_iff_ne]; omega] at key
      simp only [show (setNx J (J.nx + k)).nx = J.nx + k from rfl, show (setNx J (J.nx + k)).ep = J.ep from rfl, hdl, hpl, hnx, wrapT k (show k < 9223372036854775807 by omega), cond_true', Bool.and_self] at key
      have fin : ∀ (f l : Bool), ((k : Int) == 0) = f → ((k : Int) == (nP (encD e) : Int) - 1) = l → Weak (stOf 130 [3, 4, 6, 9, 52, 53, 54] (Try.V39 (nP (encD e) : Int) (nP (encD e)) (k + 1)) ⟨8, [⟨7, 0, .cells (.tab 1 (nP (encD e)) (fun i => PC.row ((piecesN (encD e) (nP (encD e))).getD i PC.z)))⟩, ⟨6, 0, .cells (.ints .i64 J.E)⟩, ⟨5, 0, .cells (EN.con J.L)⟩, ⟨4, 0, .cells (.tab 2 (J.P.length + k + 1) (fun i => bif i.blt (J.P.length + k) then SW.row ((J.P ++ writesN J e k).getD (0 + i) SW.z) else [[AV.val (Value.int IntKind.i64 (placeI J.N (J.nx + k))), AV.ro (Con.ints IntKind.u8 (dataB (J.nx + k) J.ep f l (pieceB (encD e) k))) none]].getD (i - (J.P.length + k)) []))⟩, ⟨3, 0, .cells (.ints .u8 J.B)⟩, ⟨2, 0, .cells (.rows false 15 [jrow J.N (.own 3 0 J.B.length none 1) (.own 4 0 (J.P.length + k + 1) none 2) (setNx J (J.nx + ((k + 1 : Nat) : Int))) (.own 5 0 J.L.length none 5) (.own 6 0 J.E.length none 1)])⟩, ⟨1, 0, .cells (.rows true 12 [zeroCells])⟩, ⟨0, 0, .cells (.rows true 5 [entRow e])⟩]⟩)
          (stOf 130 [3,4,6,9,52,53,54] (Try.V39 (nP (encD e) : Int) (nP (encD e)) (k + 1)) (Try.H39 J e (pcs e) (J.P ++ writesN J e (k + 1)) (J.nx + ((k + 1 : Nat) : Int)))) := by
        intro f l hf' hl'
        have c7 : Con.tab 1 (nP (encD e)) (fun i => PC.row ((piecesN (encD e) (nP (encD e))).getD i PC.z)) = PC.con (pcs e) := by unfold RowTy.con; rw [pl]; rfl
        rw [c7]
        have wl2 : (J.P ++ writesN J e (k + 1)).length = J.P.length + k + 1 := by rw [List.length_append, writesN_len]; omega
        unfold Try.H39 Try.e39h
        rw [wl2]
        have hc : ConW (.tab 2 (J.P.length + k + 1) (fun i => bif i.blt (J.P.length + k) then SW.row ((J.P ++ writesN J e k).getD (0 + i) SW.z) else [[AV.val (Value.int IntKind.i64 (placeI J.N (J.nx + k))), AV.ro (Con.ints IntKind.u8 (dataB (J.nx + k) J.ep f l (pieceB (encD e) k))) none]].getD (i - (J.P.length + k)) [])) (SW.con (J.P ++ writesN J e (k + 1))) := by
          rw [writesN_s, ← List.append_assoc, ← wl]
          refine tab_snoc SW (J.P ++ writesN J e k) (wr J e k) _ (fun i hi => ?_) ?_
          · rw [blt_t hi, Nat.zero_add]; rfl
          · rw [blt_f (Nat.le_refl _), Nat.sub_self]
            unfold wr
            rw [hn, hf', hl']
            rfl
        refine Weak.heap ?_ (.same _ (.same _ (.same _ (.con 4 0 0 rfl hc (EsW.refl _)))))
        exact heap_ok [7, 6, 5, 4, 3, 2, 1, 0] rfl (by decide) (by decide)
      cases h0 : ((k : Int) == 0) <;> cases h1 : ((k : Int) == (nP (encD e) : Int) - 1) <;> rw [h0, h1] at key <;> exact .inl ⟨k + 1, _, key, fin _ _ h0 h1, hk, by omega, rfl⟩
    · have e1 : k = nP (encD e) := by omega
      subst e1
      rw [pl, declt_nat, decide_eq_false hk, secsW_eq (by omega), hn] at key
      exact .inr ⟨_, key, Weak.refl (e39_ok7 _ _ _ _), by show (AX.exit 2) ≠ .normal; intro h; cases h⟩
theorem Try.w39 (J : JD) (e : EntD) : rootS (Try.E39 e) 5 39 (lsumsOf [(13, Try.L39 (reJ J) e)]) [jrA J, entA e] =
 bif okSW (SW.con J.P) && okEN (EN.con J.L) then
 bif (EN.list (EN.con J.L)).length.ble 1000000 then
 bif isJr { N := J.N, B := J.B, P := SW.list (SW.con J.P), gen := J.gen, ep := J.ep, so := J.so, lim := J.lim, st := J.st, ba := J.ba, nx := J.nx, L := EN.list (EN.con J.L), E := J.E } then
 bif entB e.fst e.snd.fst e.snd.snd.fst e.snd.snd.snd.fst e.snd.snd.snd.snd.length then
 bif e.snd.snd.snd.snd.length.ble 1000000 then
 bif decide ((if 1 > IntKind.i64.wrap ((IntKind.i64.wrap (IntKind.i64.wrap ((↑(encB e.fst e.snd.fst e.snd.snd.fst e.snd.snd.snd.fst e.snd.snd.snd.snd).length : Int) + 46) - 1)).tdiv 46) then 1 else IntKind.i64.wrap ((IntKind.i64.wrap (IntKind.i64.wrap ((↑(encB e.fst e.snd.fst e.snd.snd.fst e.snd.snd.snd.fst e.snd.snd.snd.snd).length : Int) + 46) - 1)).tdiv 46)) > if IntKind.i64.wrap (1073741824 - J.nx) < IntKind.i64.wrap (IntKind.i64.wrap (J.N - 2) - IntKind.i64.wrap (J.nx - J.ba)) then IntKind.i64.wrap (1073741824 - J.nx) else IntKind.i64.wrap (IntKind.i64.wrap (J.N - 2) - IntKind.i64.wrap (J.nx - J.ba))) then
 some (.tup [.agg [.val (.int .i64 0), .val (.slice none 0 0), .val (.slice none 0 0), .val (.int .i64 0), .val (.int .i64 0), .val (.bool false), .val (.int .i64 0), .val (.int .i64 0), .val (.int .i64 0), .val (.int .i64 0), .val (.slice none 0 0), .val (.slice none 0 0)], .val (.int .i64 402)], ⟨0, []⟩)
 else
 bif decide (IntKind.i64.wrap ((↑(SW.list (SW.con J.P)).length : Int) + if 1 > IntKind.i64.wrap ((IntKind.i64.wrap (IntKind.i64.wrap ((↑(encB e.fst e.snd.fst e.snd.snd.fst e.snd.snd.snd.fst e.snd.snd.snd.snd).length : Int) + 46) - 1)).tdiv 46) then 1 else IntKind.i64.wrap ((IntKind.i64.wrap (IntKind.i64.wrap ((↑(encB e.fst e.snd.fst e.snd.snd.fst e.snd.snd.snd.fst e.snd.snd.snd.snd).length : Int) + 46) - 1)).tdiv 46)) > 2000) then
 some (.tup [.agg [.val (.int .i64 0), .val (.slice none 0 0), .val (.slice none 0 0), .val (.int .i64 0), .val (.int .i64 0), .val (.bool false), .val (.int .i64 0), .val (.int .i64 0), .val (.int .i64 0), .val (.int .i64 0), .val (.slice none 0 0), .val (.slice none 0 0)], .val (.int .i64 2)], ⟨0, []⟩)
 else
 bif isAH (ag102) (h102 (encD e)) (ag102) (h102 (encD e)) then
 bif (encD e).length.ble 1000000 && Nat.blt 0 (encD e).length then
 bif isSt (Try.s39 (reJ J) e) (Try.s39 (reJ J) e) then
 bif fitsA (reJ J) e then
 bif e.snd.snd.snd.snd.length.ble 1000000 then
 bif (0 + (reJ J).L.length).ble (reJ J).L.length then
 bif (((reJ J).L.length + 1) * 56).ble most && ((reJ J).L.length + 1).ble most then
 bif (0 + (reJ J).E.length).ble (reJ J).E.length then
 bif (((reJ J).E.length + 1) * 8).ble most && ((reJ J).E.length + 1).ble most then
 some (.tup [.agg [.val (.int .i64 ((reJ J).N)), .own 0 0 ((reJ J).B.length) none 1, .own 1 0 (((reJ J).P ++ writesN (reJ J) e (nP (encD e))).length) none 2, .val (.int .i64 ((setNx (reJ J) ((reJ J).nx + (↑(nP (encD e)) : Int))).gen)), .val (.int .i64 ((setNx (reJ J) ((reJ J).nx + (↑(nP (encD e)) : Int))).ep)), .val (.bool ((setNx (reJ J) ((reJ J).nx + (↑(nP (encD e)) : Int))).so)), .val (.int .i64 ((setNx (reJ J) ((reJ J).nx + (↑(nP (encD e)) : Int))).lim)), .val (.int .i64 ((setNx (reJ J) ((reJ J).nx + (↑(nP (encD e)) : Int))).st)), .val (.int .i64 ((setNx (reJ J) ((reJ J).nx + (↑(nP (encD e)) : Int))).ba)), .val (.int .i64 ((setNx (reJ J) ((reJ J).nx + (↑(nP (encD e)) : Int))).nx)), .own 2 0 ((reJ J).L.length + 1) none 5, .own 3 0 ((reJ J).E.length + 1) none 1], .val (.int .i64 0)], ⟨4, [⟨3, 0, .cells (.ints .i64 (List.take (reJ J).E.length (List.drop 0 (reJ J).E) ++ [(setNx (reJ J) ((reJ J).nx + (↑(nP (encD e)) : Int))).nx]))⟩, ⟨2, 0, .cells (.tab 5 ((reJ J).L.length + 1) (fun i => bif i.blt (reJ J).L.length then EN.row ((reJ J).L.getD (0 + i) EN.z) else [splice ([[AV.val (Value.int IntKind.i64 e.fst), AV.val (Value.int IntKind.i64 e.snd.fst), AV.val (Value.int IntKind.i64 e.snd.snd.fst), AV.val (Value.int IntKind.i64 e.snd.snd.snd.fst), AV.ro (Con.ints IntKind.u8 e.snd.snd.snd.snd) none]].getD 0 []) 4 (AV.ro (Con.ints IntKind.u8 e.snd.snd.snd.snd) none).cells].getD (i - (reJ J).L.length) []))⟩, ⟨1, 0, .cells (SW.con ((reJ J).P ++ writesN (reJ J) e (nP (encD e))))⟩, ⟨0, 0, .cells (.ints .u8 ((reJ J).B))⟩]⟩)
 else
 none
 else
 none
 else
 none
 else
 none
 else
 none
 else
 none
 else
 none
 else
 none
 else
 none
 else
 none
 else
 some (.tup [.agg [.val (.int .i64 0), .val (.slice none 0 0), .val (.slice none 0 0), .val (.int .i64 0), .val (.int .i64 0), .val (.bool false), .val (.int .i64 0), .val (.int .i64 0), .val (.int .i64 0), .val (.int .i64 0), .val (.slice none 0 0), .val (.slice none 0 0)], .val (.int .i64 4)], ⟨0, []⟩)
 else
 some (.tup [.agg [.val (.int .i64 0), .val (.slice none 0 0), .val (.slice none 0 0), .val (.int .i64 0), .val (.int .i64 0), .val (.bool false), .val (.int .i64 0), .val (.int .i64 0), .val (.int .i64 0), .val (.int .i64 0), .val (.slice none 0 0), .val (.slice none 0 0)], .val (.int .i64 401)], ⟨0, []⟩)
 else
 none
 else
 none := by kernel_rfl
end Go.Ev
/- Journals: Append. -/
namespace Go.Ev
open Go.Proofs
theorem EsFz.rest {id : Nat} {con : Con} : ∀ {es : List Ent}, (∀ x ∈ es.map (·.id), Nat.beq x id = false) → EsFz id con es es
  | [], _ => .nil
  | e :: es, h => .same e (h e.id (by simp)) (EsFz.rest (fun x hx => h x (by rw [List.map_cons]; exact List.mem_cons_of_mem _ hx)))
def freeI (J : JD) : Int := min (J.N - 2 - (J.nx - J.ba)) (1073741824 - J.nx)
def appX (J : JD) (e : EntD) : JD := ⟨J.N, J.B, J.P ++ writesN J e (nP (encD e)), J.gen, J.ep, J.so, J.lim, J.st, J.ba, J.nx + nP (encD e), J.L ++ [e], J.E ++ [J.nx + nP (encD e)]⟩
def appJ (J : JD) (e : EntD) : JD × Int := bif isJr J then (bif entD? e then (bif decide ((nP (encD e) : Int) > freeI J) then (noJ, 402) else bif decide (J.P.length + nP (encD e) > 2000) then (noJ, 2) else (appX J e, 0)) else (noJ, 4)) else (noJ, 401)
def Try.F39 (J : JD) (x : AV) : Ans (AV × Heap) := match x with
  | .agg [.val (.int .i64 k), .val (.int .i64 a), .val (.int .i64 b), .val (.int .i64 c), .ro (.ints .u8 l) cap] => .grd (Nat.ble J.L.length 1000000) (.out (outJE (appJ J (k, a, b, c, l)), ⟨0, []⟩))
  | _ => .no
def nzEn : AV → AV
  | .agg [k, a, b, c, l] => .agg [k, a, b, c, nz0 (.ints .u8 []) l]
  | v => v
def Try.A39 : AFun := j2A (fun J x => Try.F39 J (nzEn x))
def app4 (J : JD) (b p l e : AV) : AV := .tup [.agg [.val (.int .i64 J.N), b, p, .val (.int .i64 J.gen), .val (.int .i64 J.ep), .val (.bool J.so), .val (.int .i64 J.lim), .val (.int .i64 J.st), .val (.int .i64 J.ba), .val (.int .i64 J.nx), l, e], .val (.int .i64 0)]
theorem nzEn_aw (v : AV) : AW v (nzEn v) := by
  unfold nzEn
  split
  · exact AW.agg (.cons (AW.refl _) (.cons (AW.refl _) (.cons (AW.refl _) (.cons (AW.refl _) (.cons (nz0_aw rfl _) .nil)))))
  · exact AW.refl _
theorem app4_frozen {g : Nat} {args : List AV} (J : JD) (n : Nat) (f : Nat → List AV) (ce : List Int)
    (q : Alone Try.prog g args (app4 J (.own 0 0 J.B.length none 1) (.own 1 0 J.P.length none 2) (.own 2 0 n none 5) (.own 3 0 ce.length none 1)) ⟨4, [⟨3, 0, .cells (.ints .i64 ce)⟩, ⟨2, 0, .cells (.tab 5 n f)⟩, ⟨1, 0, .cells (SW.con J.P)⟩, ⟨0, 0, .cells (.ints .u8 J.B)⟩]⟩) :
    Alone Try.prog g args (app4 J (.ro (.ints .u8 J.B) none) (.ro (SW.con J.P) none) (.ro (.tab 5 n f) none) (.ro (.ints .i64 ce) none)) ⟨0, []⟩ := by
  have q3 : Alone Try.prog g args (app4 J (.own 0 0 J.B.length none 1) (.own 1 0 J.P.length none 2) (.own 2 0 n none 5) (.ro (.ints .i64 ce) none)) ⟨3, [⟨2, 0, .cells (.tab 5 n f)⟩, ⟨1, 0, .cells (SW.con J.P)⟩, ⟨0, 0, .cells (.ints .u8 J.B)⟩]⟩ :=
    Alone.fzA (id := 3) (con := .ints .i64 ce) (v' := app4 J (.own 0 0 J.B.length none 1) (.own 1 0 J.P.length none 2) (.own 2 0 n none 5) (.ro (.ints .i64 ce) none)) rfl rfl
      (.tup1 (.cons (.inl rfl) (.cons (.inl rfl) (.cons (.inl rfl) (.cons (.inl rfl) (.cons (.inl rfl) (.cons (.inl rfl) (.cons (.inl rfl) (.cons (.inl rfl) (.cons (.inl rfl) (.cons (.inl rfl) (.cons (.inl rfl) (.cons (.inr (.inr ⟨none, rfl, rfl⟩)) .nil)))))))))))))
      (.skip (EsFz.rest (es := [⟨2, 0, .cells (.tab 5 n f)⟩, ⟨1, 0, .cells (SW.con J.P)⟩, ⟨0, 0, .cells (.ints .u8 J.B)⟩]) (by show ∀ x ∈ [2, 1, 0], Nat.beq x 3 = false; decide))) (by kernel_rfl) q
  have q2 : Alone Try.prog g args (app4 J (.own 0 0 J.B.length none 1) (.own 1 0 J.P.length none 2) (.ro (.tab 5 n f) none) (.ro (.ints .i64 ce) none)) ⟨2, [⟨1, 0, .cells (SW.con J.P)⟩, ⟨0, 0, .cells (.ints .u8 J.B)⟩]⟩ :=
    Alone.fzA (id := 2) (con := .tab 5 n f) (v' := app4 J (.own 0 0 J.B.length none 1) (.own 1 0 J.P.length none 2) (.ro (.tab 5 n f) none) (.ro (.ints .i64 ce) none)) rfl rfl
      (.tup1 (.cons (.inl rfl) (.cons (.inl rfl) (.cons (.inl rfl) (.cons (.inl rfl) (.cons (.inl rfl) (.cons (.inl rfl) (.cons (.inl rfl) (.cons (.inl rfl) (.cons (.inl rfl) (.cons (.inl rfl) (.cons (.inr (.inr ⟨none, rfl, rfl⟩)) (.cons (.inl rfl) .nil)))))))))))))
      (.skip (EsFz.rest (es := [⟨1, 0, .cells (SW.con J.P)⟩, ⟨0, 0, .cells (.ints .u8 J.B)⟩]) (by show ∀ x ∈ [1, 0], Nat.beq x 2 = false; decide))) (by kernel_rfl) q3
  exact Alone.fz2 (c1 := SW.con J.P) (c0 := .ints .u8 J.B) (v1 := app4 J (.own 0 0 J.B.length none 1) (.ro (SW.con J.P) none) (.ro (.tab 5 n f) none) (.ro (.ints .i64 ce) none)) rfl rfl (by kernel_rfl)
    (.tup1 (.cons (.inl rfl) (.cons (.inl rfl) (.cons (.inr (.inr ⟨none, rfl, rfl⟩)) (FzL.refl _ _ _))))) (.tup1 (.cons (.inl rfl) (.cons (.inr (.inr ⟨none, rfl, rfl⟩)) (FzL.refl _ _ _)))) q2
theorem Try.al39 (J : JD) (e : EntD) (ok : J.ok = true) (hb : J.L.length ≤ 1000000) : Alone Try.prog 39 [jrA J, entA e] (outJE (appJ J e)) ⟨0, []⟩ := by
  have run := fun v h2 => rootS_alone (Try.e39 e) (d := 5) (g := 39) (ls := lsumsOf [(13, Try.L39 (reJ J) e)]) (AllL.of1 (a := Try.b39) (by kernel_rfl) (LsOk.of rfl rfl (Try.l39 (reJ J) e))) (args := [jrA J, entA e]) (v := v) (h2 := h2)
  have key := Try.w39 J e
  have e1 : (⟨J.N, J.B, J.P, J.gen, J.ep, J.so, J.lim, J.st, J.ba, J.nx, J.L, J.E⟩ : JD) = J := rfl
  unfold JD.ok at ok
  simp only [reJ_eq] at key run
  rw [SW_list_con, EN_list_con, e1, ok, ble_t hb] at key
  unfold appJ
  cases h : isJr J with
  | false => rw [h] at key; exact Alone.resW (noJ_aw 401) (run _ _ key)
  | true =>
  rw [h] at key
  cases h1 : entD? e with
  | false =>
    have h1' := h1
    unfold entD? at h1'
    rw [h1'] at key
    exact Alone.resW (noJ_aw 4) (run _ _ key)
  | true =>
  have h1' := h1
  unfold entD? at h1'
  rw [h1'] at key
  have hl := ent_len h1'
  have hd0 := encD_len e
  have hd1 := encD_pos e
  have hf := jr_facts h
  have hd := dev_facts hf.dev
  have d1 := hd.lo
  have d2 := hd.hi
  have n0 := hf.b0
  have n1 := hf.bs
  have n2 := hf.sn
  have n3 := hf.nm
  have n4 := hf.room
  have n5 := hf.len
  have hs : (if 1 > IntKind.i64.wrap ((IntKind.i64.wrap (IntKind.i64.wrap (((encB e.fst e.snd.fst e.snd.snd.fst e.snd.snd.snd.fst e.snd.snd.snd.snd).length : Int) + 46) - 1)).tdiv 46) then 1 else IntKind.i64.wrap ((IntKind.i64.wrap (IntKind.i64.wrap (((encB e.fst e.snd.fst e.snd.snd.fst e.snd.snd.snd.fst e.snd.snd.snd.snd).length : Int) + 46) - 1)).tdiv 46)) = (nP (encD e) : Int) :=
    (secs_w (encD e).length (by omega)).trans (secs_nP hd1)
  have hq : nP (encD e) ≤ 1000 := by unfold nP; omega
  have hfr : (if IntKind.i64.wrap (1073741824 - J.nx) < IntKind.i64.wrap (IntKind.i64.wrap (J.N - 2) - IntKind.i64.wrap (J.nx - J.ba)) then IntKind.i64.wrap (1073741824 - J.nx) else IntKind.i64.wrap (IntKind.i64.wrap (J.N - 2) - IntKind.i64.wrap (J.nx - J.ba))) = freeI J := by
    rw [wrap64 (1073741824 - J.nx) (by omega) (by omega), wrap64 (J.N - 2) (by omega) (by omega), wrap64 (J.nx - J.ba) (by omega) (by omega), wrap64 (J.N - 2 - (J.nx - J.ba)) (by omega) (by omega)]
    unfold freeI
    split <;> omega
  rw [ble_t (show e.2.2.2.2.length ≤ 1000000 by omega), hs, hfr] at key
  cases h2 : decide ((nP (encD e) : Int) > freeI J) with
  | true => rw [h2] at key; exact Alone.resW (noJ_aw 402) (run _ _ key)
  | false =>
  rw [h2] at key
  rw [decide_eq_false_iff_not] at h2
  have hfd := hd.few
  rw [wrap64 ((J.P.length : Int) + (nP (encD e) : Int)) (by omega) (by omega)] at key
  cases h3 : decide (J.P.length + nP (encD e) > 2000) with
  | true =>
    rw [decide_eq_true_eq] at h3
    rw [decide_eq_true (show (J.P.length : Int) + (nP (encD e) : Int) > 2000 by omega)] at key
    exact Alone.resW (noJ_aw 2) (run _ _ key)
  | false =>
  rw [decide_eq_false_iff_not] at h3
  have hfit : fitsA J e = true := by
    unfold fitsA
    unfold freeI at h2
    rw [h, h1, decide_eq_true (show J.P.length + nP (encD e) ≤ 2000 by omega), decide_eq_true (show J.nx + (nP (encD e) : Int) ≤ 1073741824 by omega)]
    rfl
  have e5 : List.take J.E.length (List.drop 0 J.E) = J.E := by rw [List.drop_zero, List.take_length]
  rw [decide_eq_false (show ¬ (J.P.length : Int) + (nP (encD e) : Int) > 2000 by omega), isAH_refl, ble_t (show (encD e).length ≤ 1000000 by omega), blt_t hd1, isSt_refl, hfit, Nat.zero_add, Nat.zero_add, ble_t (Nat.le_refl _), ble_t (show (J.L.length + 1) * 56 ≤ most by rw [most_eq]; omega), ble_t (show J.L.length + 1 ≤ most by rw [most_eq]; omega), ble_t (Nat.le_refl _), ble_t (show (J.E.length + 1) * 8 ≤ most by rw [most_eq]; omega), ble_t (show J.E.length + 1 ≤ most by rw [most_eq]; omega), e5] at key
  simp only [cond_true', cond_false', Bool.and_self] at key
  show Alone Try.prog 39 _ (outJE (appX J e, 0)) ⟨0, []⟩
  have k2 := run _ _ key
  have hEl : (J.E ++ [J.nx + (nP (encD e) : Int)]).length = J.E.length + 1 := by simp
  have k3 := app4_frozen (appX J e) (J.L.length + 1) _ (J.E ++ [J.nx + (nP (encD e) : Int)]) (by rw [hEl]; exact k2)
  refine Alone.resW ?_ k3
  refine AW.tup (.cons (AW.agg (.cons (AW.refl _) (.cons (AW.refl _) (.cons (AW.refl _) (.cons (AW.refl _) (.cons (AW.refl _) (.cons (AW.refl _) (.cons (AW.refl _) (.cons (AW.refl _) (.cons (AW.refl _) (.cons (AW.refl _) (.cons (fun _ _ _ => VR.conv ?_ (.inr rfl)) (.cons (AW.refl _) .nil))))))))))))) (.cons (AW.refl _) .nil))
  refine tab_snoc EN J.L e _ (fun i hi => ?_) ?_
  · rw [blt_t hi, Nat.zero_add]; rfl
  · rw [blt_f (Nat.le_refl _), Nat.sub_self]; rfl
theorem Try.sum39 : SumC Try.prog 39 Try.A39 := by
  refine j2_sum Try.fnOk39 rfl _ ?_
  intro J x v h2 ok hs
  have hx := nzEn_aw x
  generalize nzEn x = y at hs hx
  unfold Try.F39 at hs
  split at hs
  · rename_i k a b c l cap
    rw [Ans.run_grd] at hs
    cases hb : Nat.ble J.L.length 1000000 with
    | false => rw [hb] at hs; cases hs
    | true =>
      rw [hb, cond_true] at hs
      rw [Nat.ble_eq] at hb
      injection hs with hs
      injection hs with q1 q2
      subst q1; subst q2
      refine ⟨fun e he => (by cases he), entA (k, a, b, c, l), fun w c u hu => ?_, Try.al39 J (k, a, b, c, l) ok hb⟩
      exact AW.agg (.cons (AW.refl _) (.cons (AW.refl _) (.cons (AW.refl _) (.cons (AW.refl _) (.cons (AW.cap _ _) .nil))))) w c u (hx w c u hu)
  · cases hs
end Go.Ev
/- JournalPlatters: its loops. -/
namespace Go.Ev
open Go.Proofs
end Go.Ev
/- JournalPlatters: the plain law. -/
namespace Go.Ev
open Go.Proofs
theorem putAt_get {B : List Int} {off : Nat} {src : List Int} (h : off + src.length ≤ B.length) (j : Nat) : (putAt B off src)[j]? = if j < off then B[j]? else if j < off + src.length then src[j - off]? else B[j]? := by
  unfold putAt
  rw [List.getElem?_append, List.getElem?_take, List.length_take, List.getElem?_append, List.getElem?_drop, Nat.min_eq_left (by omega)]
  by_cases h1 : j < off
  · rw [if_pos h1, if_pos h1, if_pos h1]
  · rw [if_neg h1, if_neg h1]
    by_cases h2 : j < off + src.length
    · rw [if_pos h2, if_pos (by omega)]
    · rw [if_neg h2, if_neg (by omega), show off + src.length + (j - off - src.length) = j by omega]
def sect (B : List Int) (t : Nat) : List Int := (B.drop (t * 64)).take 64
theorem isDevB_settled {N : Int} {B : List Int} {P : List SwD} (h : isDevB N B P = true) (many : Nat → Nat) : isDevB N (settleN many P B P.length) [] = true := by
  have hf := settleN_len (many := many) (dev_facts h) P.length (Nat.le_refl _)
  unfold isDevB at h ⊢
  simp only [Bool.and_eq_true] at h ⊢
  rw [hf]
  exact ⟨h.1, h.2.1, h.2.2.1, rfl, rfl⟩
theorem isDevB_write {N : Int} {B : List Int} {P : List SwD} (h : isDevB N B P = true) {at' : Int} {b : List Int} (h0 : 0 ≤ at') (h1 : at' < N) (h2 : b.length = 64) (h3 : P.length < 2000) : isDevB N B (P ++ [(at', b)]) = true := by
  unfold isDevB at h ⊢
  simp only [Bool.and_eq_true, decide_eq_true_eq] at h ⊢
  obtain ⟨k1, k2, k3, k4, k5⟩ := h
  refine ⟨k1, k2, k3, ?_, ?_⟩
  · rw [List.length_append]; simp only [List.length_cons, List.length_nil]; omega
  · rw [List.any_append, Bool.not_eq_true', Bool.or_eq_false_iff]
    refine ⟨by simpa using k5, ?_⟩
    simp [badB, h0, h1, h2]
end Go.Ev
/- Functions to whose arguments own blocks are lent, and whose answer's block is frozen. -/
namespace Go.Ev
def pzA (S : List AV → Ans (AV × (IntKind × List Int))) : AFun := fun _ args h K => (purAsT h args).walk fun p => (S p).walk fun r => K r.1 h
def isVal : AV → Bool
  | .val _ => true
  | _ => false
def PzV (con : Con) (v v' : AV) : Prop := (v' = v ∧ isVal v = true) ∨ ∃ cap, v = .own 0 0 con.len cap con.wd ∧ v' = .ro con none
inductive PzL (con : Con) : List AV → List AV → Prop
  | nil : PzL con [] []
  | cons {v v' : AV} {l l' : List AV} : PzV con v v' → PzL con l l' → PzL con (v :: l) (v' :: l')
inductive PzT (con : Con) : AV → AV → Prop
  | one {v v' : AV} : PzV con v v' → PzT con v v'
  | tup1 {l l' m m' : List AV} : PzL con l l' → PzL con m m' → PzT con (.tup (.agg l :: m)) (.tup (.agg l' :: m'))
  | tup {l l' : List AV} : PzL con l l' → PzT con (.tup l) (.tup l')
theorem PzL.rel {con : Con} {w : World} {c c2 : Cx} (hx : ∀ v v' u, PzV con v v' → VR w c v u → VR w c2 v' u) : ∀ {l l' : List AV} {us : List Value}, PzL con l l' → VRs w c l us → VRs w c2 l' us
  | _, _, _, .nil, h => by cases h; exact .nil
  | _, _, _, .cons h1 h2, h => by
    cases h with | cons _ u _ us k1 k2 => exact .cons _ _ _ _ (hx _ _ _ h1 k1) (h2.rel hx k2)
theorem PzT.rel {con : Con} {w : World} {c c2 : Cx} (hx : ∀ v v' u, PzV con v v' → VR w c v u → VR w c2 v' u) {v v' : AV} {u : Value} (h : PzT con v v') (hu : VR w c v u) : VR w c2 v' u := by
  cases h with
  | one h => exact hx _ _ _ h hu
  | tup h => cases hu with | tup _ _ k => exact .tup _ _ (h.rel hx k)
  | tup1 h h2 =>
    cases hu with | tup _ _ k =>
    cases k with | cons _ u _ us k1 k2 =>
    cases k1 with | agg _ _ k =>
    exact .tup _ _ (.cons _ _ _ _ (.agg _ _ (h.rel hx k)) (h2.rel hx k2))
theorem val_inv {w : World} {c : Cx} {x u : Value} (h : VR w c (.val x) u) : u = x := by cases h; rfl
theorem pzSumR {P : Program} (g : Nat) {S : List AV → Ans (AV × (IntKind × List Int))} (hf : ∃ fn c, P.funcs[g]? = some fn ∧ fn.name ≠ "runtime.NumGoroutine" ∧ fn.body = some c)
    (hS : ∀ args v r, (S args).run = some (v, r) → ∃ v0, PzT (.ints r.1 r.2) v0 v ∧ Alone P g args v0 (oneH (.ints r.1 r.2))) : SumC P g (pzA S) := by
  refine ⟨hf, ?_⟩
  intro ρ args h K r hk hA
  unfold pzA at hA
  rw [Ans.walk_eq, purAsT_run] at hA
  split at hA
  · rename_i p hp
    rw [Ans.walk_eq] at hA
    split at hA
    · rename_i r0 hs
      obtain ⟨v, kd, l⟩ := r0
      simp only at hA
      obtain ⟨v0, hz, k2, k3⟩ := hS p v (kd, l) hs
      simp only at hz k2 k3
      refine ⟨v, h, hA, HEff.refl hk, ?_⟩
      intro w c args' hr hv hfr
      have hv' := purAs_rel hr hp hv
      refine CallsIn.mono (k3 w (Cx.lent w) args' hr.lentH hv' (fun _ q => q)) ?_
      rintro e w' ⟨v', rfl, c', q1, q2, q3, q4⟩
      have hall : ∀ b, b < w.heap.size → w'.heap[b]? = w.heap[b]? := fun b hb => q2.keep b hb (fun q => q)
      have hnO : ∀ b, b < w.heap.size → ¬ c'.O b := fun b hb ho => q2.own b hb ho
      have hb1 : CellsRel w' c' (c'.ι 0) (.ints kd l) := q4.blk 0 _ rfl
      classical
      let c2 : Cx := ⟨fun b => c.M b ∨ ((c'.ι 0).live = true ∧ b = (c'.ι 0).blk), fun b => c.O b ∧ b < w.heap.size, c.ι, c.V⟩
      have hnew : (c'.ι 0).live = true → ¬ (c'.ι 0).blk < w.heap.size := fun hl hb => hnO _ hb (hb1.own hl)
      have hlt : (c'.ι 0).live = true → (c'.ι 0).blk < w'.heap.size := by
        intro hl
        obtain ⟨arr, te, fz, a1, _⟩ := hb1.arr hl
        rcases Nat.lt_or_ge (c'.ι 0).blk w'.heap.size with q | q
        · exact q
        · rw [Array.getElem?_eq_none q] at a1; cases a1
      have hx : Ext w c w' c2 := by
        refine ⟨⟨fun b q => .inl q, fun b hb _ => hall b hb, fun i hi => ⟨hi, rfl⟩⟩, q2.os, q2.tape, q2.output, q2.size, fun b hb _ => hall b hb, fun b hb q => q.1, ?_, ?_⟩
        · rintro b hb (q | ⟨q, rfl⟩)
          · exact q
          · exact absurd hb (hnew q)
        · rintro b (q | ⟨q, rfl⟩) hn
          · exact absurd q hn
          · exact ⟨fun z => hnew q z.2, hlt q⟩
      have fz : ∀ cap u, VR w' c' (.own 0 0 l.length cap 1) u → VR w' c2 (.ro (.ints kd l) cap) u := by
        intro cap u hu
        cases hu with | own _ _ _ _ _ pa m h1 h2 h3 h4 h5 =>
        refine .ro (.ints kd l) cap pa m h3 h4 ?_ ?_
        · rcases h5 with h5 | ⟨l1, l2, l3⟩
          · left; show l.length = 0; omega
          · rcases Nat.eq_zero_or_pos l.length with z | z
            · exact .inl z
            · exact .inr ⟨_, _, l2, z⟩
        · intro b o e hpos
          rcases h5 with h5 | ⟨l1, l2, l3⟩
          · have : 0 < l.length := hpos
            omega
          · rw [l2] at e
            injection e with e
            injection e with e1 e2
            obtain ⟨arr, te, fz, a1, a2, a3, a4, a5, a6⟩ := hb1.arr l1
            have hwd : 1 = (c'.ι 0).wd := hb1.wd
            subst e1
            have e2' : o = (c'.ι 0).st := by rw [← e2]; omega
            subst e2'
            have bound : ∀ i j, i < l.length → j < 1 → (c'.ι 0).st + i * 1 + j < arr.size := by
              intro i j hi hj
              have a5' : (c'.ι 0).st + l.length * (c'.ι 0).wd ≤ (c'.ι 0).size := a5
              rw [← hwd] at a5'
              rw [a2]; omega
            refine .mk (.ints kd l) _ _ arr te fz (fun i j => (arr[(c'.ι 0).st + i * 1 + j]?).getD undef) (.inr ⟨l1, rfl⟩) a1 ?_ ?_
            · intro i j hi hj
              have hb := bound i j hi hj
              rw [show (Con.ints kd l).wd = 1 from rfl, Array.getElem?_eq_getElem hb]
              exact ⟨rfl, a4 _ _ (Array.getElem?_eq_getElem hb)⟩
            · intro i j v hi hj hv
              have hb := bound i j hi hj
              have hu : arr[(c'.ι 0).st + i * 1 + j]? = some arr[(c'.ι 0).st + i * 1 + j] := Array.getElem?_eq_getElem hb
              simp only [hu, Option.getD_some]
              have q := a6 i j v _ hi (by rw [← hwd]; exact hj) hv (by rw [← hwd]; exact hu)
              have hj' : j = 0 := by have : j < 1 := hj; omega
              subst hj'
              have hv' : ([AV.val (.int kd (l.getD i 0))] : List AV)[0]? = some v := hv
              simp at hv'
              subst hv'
              rw [val_inv q]
              exact .val _
      have fzv : ∀ x x' u, PzV (.ints kd l) x x' → VR w' c' x u → VR w' c2 x' u := by
        rintro x x' u (⟨rfl, hv⟩ | ⟨cap, rfl, rfl⟩) hu
        · cases hu <;> first | exact .val _ | cases hv
        · exact AW.cap _ cap _ _ _ (fz cap u hu)
      refine ⟨v', rfl, c2, hz.rel fzv q1, hx, fun id q => .inl q, ?_⟩
      refine ⟨hr.valid, fun j b hb => ?_, hr.inj, ?_⟩
      · have hbr := hr.blk j b hb
        exact BlkRel.keep hx.toExt0 hbr (fun hl => hall _ (hbr.lt hl)) (fun hl => ⟨hbr.owned hl, hbr.lt hl⟩)
      · rintro b (q | ⟨q, rfl⟩)
        · exact ⟨fun z => (hr.dis b q).1 z.1, Nat.lt_of_lt_of_le (hr.dis b q).2 q2.size⟩
        · exact ⟨fun z => hnew q z.2, hlt q⟩
    · cases hA
  · cases hA
end Go.Ev
