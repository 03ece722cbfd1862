/- JournalTorn, for every input: the law answers true, and its arguments read as they did. -/
import Derived.Test.YtninaidfifiliaaC15
set_option linter.unusedSectionVars false
set_option linter.unusedSimpArgs false
set_option linter.unusedVariables false
set_option maxRecDepth 100000
set_option maxRecDepth 1000000
noncomputable section
/- play: its inner loop (JournalTorn). -/
namespace Go.Ev
open Go.Proofs
def Try.tP45 (n : Int) (ee : EntD) (ke : List Int) : List (Nat × AFun) := [(25, Try.A25), (29, Try.A29), (37, Try.A37), (39, Try.A39), (40, Try.A40), (41, Try.A41), (45, pureA (trueC n (caps45 n ee ke))), (47, Try.A47), (48, Try.A48)]
def Try.EP45 (n : Int) (ee : EntD) (ke : List Int) : Env := Try.env0 false (sumsOf (Try.tP45 n ee ke )) (keepF 43 [(9, [2, 9, 10, 41, 42, 43]), (35, [2, 9, 10, 21, 22, 41, 42, 43, 127, 128, 129])])
def Try.VQ45 (l : List OpD) (k : Nat) (fits : Bool) (i : Nat) : List AV := [.clo (.func 45) [] [.ptr 0 0 0, .ptr 1 0 0, .ptr 2 0 0], .ptr 3 0 0, .ptr 4 0 0, .ptr 5 0 0, .val (.bool fits), .ro (OP.con l) none, .val (.int .i64 l.length), .val (.int .i64 k), .own 6 0 2 (some 2) 1, .val (.int .i64 2), .val (.int .i64 i)]
def Try.HQ45 (n : Int) (ee : EntD) (ke : List Int) (J : JD) (m : MD) (K : JD) (b0 s0 : Int) : Heap := ⟨7, [⟨6, 0, .cells (.ints .i64 [b0, s0])⟩, ⟨5, 0, .cells (jrC K)⟩, ⟨4, 0, .cells (mdC m.1 m.2.1 m.2.2.1 m.2.2.2)⟩, ⟨3, 0, .cells (jrC J)⟩, ⟨2, 0, .cells (ptC n)⟩, ⟨1, 0, .cells (kC ke)⟩, ⟨0, 0, .cells (eC ee)⟩]⟩
def Try.BQ45 (n : Int) (ee : EntD) (ke : List Int) (s : St) : Option (AX × St) := codeP (Try.EP45 n ee ke ) (callF (Try.EP45 n ee ke ) 5) ((Try.EP45 n ee ke ).keep 43) (lsumsOf []) 3 Try.bQ (outKP 3 [2, 9, 10, 21, 22, 41, 42, 43, 127, 128, 129] [2, 9, 10, 21, 22, 41, 42, 43]) s
theorem Try.eP45 (n : Int) (ee : EntD) (ke : List Int) (hh : bytesOk ee.2.2.2.2 = true) : EnvOk2 Try.prog (Try.EP45 n ee ke ) := Try.envOk false (sumsOf (Try.tP45 n ee ke )) _ (sumsOf_ok (show AllS Try.prog (Try.tP45 n ee ke ) from ⟨Try.sum25, Try.sum29, Try.sum37, Try.sum39, Try.sum40, Try.sum41, Try.sum45 n ee ke hh, Try.sum47, Try.sum48, trivial⟩))
theorem Try.rQ45 (n : Int) (ee : EntD) (ke : List Int) (l : List OpD) (k : Nat) (J : JD) (m : MD) (K : JD) (b0 s0 : Int) (fits : Bool) (i : Nat) : Try.BQ45 n ee ke (stOf 208 [2, 9, 10, 21, 22, 41, 42, 43, 127, 128, 129] (Try.VQ45 l k fits i) (Try.HQ45 n ee ke J m K b0 s0)) =
 bif decide ((↑i : Int) < 2) then
 bif inR (↑i : Int) 2 then
 bif (0 + i).blt 2 then
 bif fits then
 some (.normal, stOf 208 [2, 9, 10, 21, 22, 41, 42, 43, 127, 128, 129] [.clo (Fn.func 45) [] [.ptr 0 0 0, .ptr 1 0 0, .ptr 2 0 0], .ptr 3 0 0, .ptr 4 0 0, .ptr 5 0 0, .val (.bool (fits)), .ro (OP.con l) none, .val (.int .i64 ((↑l.length : Int))), .val (.int .i64 (↑k : Int)), .own 6 0 (2) (some (2)) 1, .val (.int .i64 2), .val (.int .i64 (IntKind.i64.wrap ((↑i : Int) + 1)))] ⟨7, [⟨6, 0, .cells (.ints .i64 ([b0, s0]))⟩, ⟨5, 0, .cells (jrC K)⟩, ⟨4, 0, .cells (.rows true 4 ([.ro (EN.con m.fst) none, .val (.int .i64 (m.snd.fst)), .val (.int .i64 (m.snd.snd.fst)), .val (.int .i64 (m.snd.snd.snd))] :: []))⟩, ⟨3, 0, .cells (jrC J)⟩, ⟨2, 0, .cells (.rows true 1 ([.val (.int .i64 (n))] :: []))⟩, ⟨1, 0, .cells (.rows true 1 ([.ro (.ints .i64 (ke)) none] :: []))⟩, ⟨0, 0, .cells (.rows true 5 ([.val (.int .i64 (ee.fst)), .val (.int .i64 (ee.snd.fst)), .val (.int .i64 (ee.snd.snd.fst)), .val (.int .i64 (ee.snd.snd.snd.fst)), .ro (.ints .u8 (ee.snd.snd.snd.snd)) none] :: []))⟩]⟩ )
 else
 bif decide (IntKind.i64.wrap ([b0, s0].getD (0 + i) 0 + (↑K.L.length : Int)) ≤ (↑m.fst.length : Int)) then
 bif decide (IntKind.i64.wrap ([b0, s0].getD (0 + i) 0 + (↑K.L.length : Int)) ≥ if (↑m.fst.length : Int) < m.snd.snd.snd then (↑m.fst.length : Int) else m.snd.snd.snd) then
 bif decide (0 ≤ IntKind.i64.wrap ([b0, s0].getD (0 + i) 0 + (↑K.L.length : Int))) && decide (IntKind.i64.wrap ([b0, s0].getD (0 + i) 0 + (↑K.L.length : Int)) ≤ (↑m.fst.length : Int)) then
 bif decide (0 ≤ [b0, s0].getD (0 + i) 0) && decide ([b0, s0].getD (0 + i) 0 ≤ (↑(IntKind.i64.wrap ([b0, s0].getD (0 + i) 0 + (↑K.L.length : Int))).toNat : Int)) then
 bif okEN (EN.con K.L) && (okEN (Con.tab 5 ((IntKind.i64.wrap ([b0, s0].getD (0 + i) 0 + (↑K.L.length : Int))).toNat - ([b0, s0].getD (0 + i) 0).toNat) fun i_1 => EN.row (m.fst.getD (([b0, s0].getD (0 + i) 0).toNat + i_1) EN.z)) && (EN.list (EN.con K.L)).length.ble 1000000) then
 bif eqEs (EN.list (EN.con K.L)) (EN.list (Con.tab 5 ((IntKind.i64.wrap ([b0, s0].getD (0 + i) 0 + (↑K.L.length : Int))).toNat - ([b0, s0].getD (0 + i) 0).toNat) fun i_1 => EN.row (m.fst.getD (([b0, s0].getD (0 + i) 0).toNat + i_1) EN.z))) then
 bif decide (0 ≤ IntKind.i64.wrap ([b0, s0].getD (0 + i) 0 + (↑K.L.length : Int))) && decide (IntKind.i64.wrap ([b0, s0].getD (0 + i) 0 + (↑K.L.length : Int)) ≤ (↑m.fst.length : Int)) then
 some (.normal, stOf 208 [2, 9, 10, 21, 22, 41, 42, 43, 127, 128, 129] [.clo (Fn.func 45) [] [.ptr 0 0 0, .ptr 1 0 0, .ptr 2 0 0], .ptr 3 0 0, .ptr 4 0 0, .ptr 5 0 0, .val (.bool true), .ro (OP.con l) none, .val (.int .i64 ((↑l.length : Int))), .val (.int .i64 (↑k : Int)), .own 6 0 (2) (some (2)) 1, .val (.int .i64 2), .val (.int .i64 (IntKind.i64.wrap ((↑i : Int) + 1)))] ⟨7, [⟨6, 0, .cells (.ints .i64 ([b0, s0]))⟩, ⟨5, 0, .cells (jrC K)⟩, ⟨4, 0, .cells (.rows true 4 ([.ro (.tab 5 ((IntKind.i64.wrap ([b0, s0].getD (0 + i) 0 + (↑K.L.length : Int))).toNat - 0) (fun i => EN.row (m.fst.getD (0 + i) EN.z))) none, .val (.int .i64 ([b0, s0].getD (0 + i) 0)), .val (.int .i64 ([b0, s0].getD (0 + i) 0)), .val (.int .i64 (IntKind.i64.wrap ([b0, s0].getD (0 + i) 0 + (↑K.L.length : Int))))] :: []))⟩, ⟨3, 0, .cells (jrC J)⟩, ⟨2, 0, .cells (.rows true 1 ([.val (.int .i64 (n))] :: []))⟩, ⟨1, 0, .cells (.rows true 1 ([.ro (.ints .i64 (ke)) none] :: []))⟩, ⟨0, 0, .cells (.rows true 5 ([.val (.int .i64 (ee.fst)), .val (.int .i64 (ee.snd.fst)), .val (.int .i64 (ee.snd.snd.fst)), .val (.int .i64 (ee.snd.snd.snd.fst)), .ro (.ints .u8 (ee.snd.snd.snd.snd)) none] :: []))⟩]⟩ )
 else
 none
 else
 some (.normal, stOf 208 [2, 9, 10, 21, 22, 41, 42, 43, 127, 128, 129] [.clo (Fn.func 45) [] [.ptr 0 0 0, .ptr 1 0 0, .ptr 2 0 0], .ptr 3 0 0, .ptr 4 0 0, .ptr 5 0 0, .val (.bool (fits)), .ro (OP.con l) none, .val (.int .i64 ((↑l.length : Int))), .val (.int .i64 (↑k : Int)), .own 6 0 (2) (some (2)) 1, .val (.int .i64 2), .val (.int .i64 (IntKind.i64.wrap ((↑i : Int) + 1)))] ⟨7, [⟨6, 0, .cells (.ints .i64 ([b0, s0]))⟩, ⟨5, 0, .cells (jrC K)⟩, ⟨4, 0, .cells (.rows true 4 ([.ro (EN.con m.fst) none, .val (.int .i64 (m.snd.fst)), .val (.int .i64 (m.snd.snd.fst)), .val (.int .i64 (m.snd.snd.snd))] :: []))⟩, ⟨3, 0, .cells (jrC J)⟩, ⟨2, 0, .cells (.rows true 1 ([.val (.int .i64 (n))] :: []))⟩, ⟨1, 0, .cells (.rows true 1 ([.ro (.ints .i64 (ke)) none] :: []))⟩, ⟨0, 0, .cells (.rows true 5 ([.val (.int .i64 (ee.fst)), .val (.int .i64 (ee.snd.fst)), .val (.int .i64 (ee.snd.snd.fst)), .val (.int .i64 (ee.snd.snd.snd.fst)), .ro (.ints .u8 (ee.snd.snd.snd.snd)) none] :: []))⟩]⟩ )
 else
 none
 else
 none
 else
 none
 else
 some (.normal, stOf 208 [2, 9, 10, 21, 22, 41, 42, 43, 127, 128, 129] [.clo (Fn.func 45) [] [.ptr 0 0 0, .ptr 1 0 0, .ptr 2 0 0], .ptr 3 0 0, .ptr 4 0 0, .ptr 5 0 0, .val (.bool (fits)), .ro (OP.con l) none, .val (.int .i64 ((↑l.length : Int))), .val (.int .i64 (↑k : Int)), .own 6 0 (2) (some (2)) 1, .val (.int .i64 2), .val (.int .i64 (IntKind.i64.wrap ((↑i : Int) + 1)))] ⟨7, [⟨6, 0, .cells (.ints .i64 ([b0, s0]))⟩, ⟨5, 0, .cells (jrC K)⟩, ⟨4, 0, .cells (.rows true 4 ([.ro (EN.con m.fst) none, .val (.int .i64 (m.snd.fst)), .val (.int .i64 (m.snd.snd.fst)), .val (.int .i64 (m.snd.snd.snd))] :: []))⟩, ⟨3, 0, .cells (jrC J)⟩, ⟨2, 0, .cells (.rows true 1 ([.val (.int .i64 (n))] :: []))⟩, ⟨1, 0, .cells (.rows true 1 ([.ro (.ints .i64 (ke)) none] :: []))⟩, ⟨0, 0, .cells (.rows true 5 ([.val (.int .i64 (ee.fst)), .val (.int .i64 (ee.snd.fst)), .val (.int .i64 (ee.snd.snd.fst)), .val (.int .i64 (ee.snd.snd.snd.fst)), .ro (.ints .u8 (ee.snd.snd.snd.snd)) none] :: []))⟩]⟩ )
 else
 some (.normal, stOf 208 [2, 9, 10, 21, 22, 41, 42, 43, 127, 128, 129] [.clo (Fn.func 45) [] [.ptr 0 0 0, .ptr 1 0 0, .ptr 2 0 0], .ptr 3 0 0, .ptr 4 0 0, .ptr 5 0 0, .val (.bool (fits)), .ro (OP.con l) none, .val (.int .i64 ((↑l.length : Int))), .val (.int .i64 (↑k : Int)), .own 6 0 (2) (some (2)) 1, .val (.int .i64 2), .val (.int .i64 (IntKind.i64.wrap ((↑i : Int) + 1)))] ⟨7, [⟨6, 0, .cells (.ints .i64 ([b0, s0]))⟩, ⟨5, 0, .cells (jrC K)⟩, ⟨4, 0, .cells (.rows true 4 ([.ro (EN.con m.fst) none, .val (.int .i64 (m.snd.fst)), .val (.int .i64 (m.snd.snd.fst)), .val (.int .i64 (m.snd.snd.snd))] :: []))⟩, ⟨3, 0, .cells (jrC J)⟩, ⟨2, 0, .cells (.rows true 1 ([.val (.int .i64 (n))] :: []))⟩, ⟨1, 0, .cells (.rows true 1 ([.ro (.ints .i64 (ke)) none] :: []))⟩, ⟨0, 0, .cells (.rows true 5 ([.val (.int .i64 (ee.fst)), .val (.int .i64 (ee.snd.fst)), .val (.int .i64 (ee.snd.snd.fst)), .val (.int .i64 (ee.snd.snd.snd.fst)), .ro (.ints .u8 (ee.snd.snd.snd.snd)) none] :: []))⟩]⟩ )
 else
 none
 else
 none
 else
 some (.exit 3, stOf 208 [2, 9, 10, 21, 22, 41, 42, 43] [.clo (Fn.func 45) [] [.ptr 0 0 0, .ptr 1 0 0, .ptr 2 0 0], .ptr 3 0 0, .ptr 4 0 0, .ptr 5 0 0, .val (.bool (fits)), .ro (OP.con l) none, .val (.int .i64 ((↑l.length : Int))), .val (.int .i64 (↑k : Int))] ⟨6, [⟨5, 0, .cells (jrC K)⟩, ⟨4, 0, .cells (.rows true 4 ([.ro (EN.con m.fst) none, .val (.int .i64 (m.snd.fst)), .val (.int .i64 (m.snd.snd.fst)), .val (.int .i64 (m.snd.snd.snd))] :: []))⟩, ⟨3, 0, .cells (jrC J)⟩, ⟨2, 0, .cells (.rows true 1 ([.val (.int .i64 (n))] :: []))⟩, ⟨1, 0, .cells (.rows true 1 ([.ro (.ints .i64 (ke)) none] :: []))⟩, ⟨0, 0, .cells (.rows true 5 ([.val (.int .i64 (ee.fst)), .val (.int .i64 (ee.snd.fst)), .val (.int .i64 (ee.snd.snd.fst)), .val (.int .i64 (ee.snd.snd.snd.fst)), .ro (.ints .u8 (ee.snd.snd.snd.snd)) none] :: []))⟩]⟩ ) := by kernel_rfl
def Try.SQ45 (n : Int) (ee : EntD) (ke : List Int) (l : List OpD) (k : Nat) (J : JD) (K : JD) (b0 s0 : Int) (q : Bool × MD) (i : Nat) : St := stOf 208 [2, 9, 10, 21, 22, 41, 42, 43, 127, 128, 129] (Try.VQ45 l k q.1 i) (Try.HQ45 n ee ke J q.2 K b0 s0)
def Try.xQ45 (n : Int) (ee : EntD) (ke : List Int) (l : List OpD) (k : Nat) (fits : Bool) (J : JD) (m : MD) (K : JD) : St := stOf 208 [2, 9, 10, 21, 22, 41, 42, 43] [.clo (.func 45) [] [.ptr 0 0 0, .ptr 1 0 0, .ptr 2 0 0], .ptr 3 0 0, .ptr 4 0 0, .ptr 5 0 0, .val (.bool fits), .ro (OP.con l) none, .val (.int .i64 l.length), .val (.int .i64 k)] ⟨6, [⟨5, 0, .cells (jrC K)⟩, ⟨4, 0, .cells (mdC m.1 m.2.1 m.2.2.1 m.2.2.2)⟩, ⟨3, 0, .cells (jrC J)⟩, ⟨2, 0, .cells (ptC n)⟩, ⟨1, 0, .cells (kC ke)⟩, ⟨0, 0, .cells (eC ee)⟩]⟩
def Try.LQ45 (n : Int) (ee : EntD) (ke : List Int) (l : List OpD) (k : Nat) (J : JD) (m : MD) (K : JD) : LSum := atL (Try.SQ45 n ee ke l k J K m.2.1 m.2.2.1 (false, m) 0) (.grd (propB (QB m K)) (.br (fitM m K.L).1 (.out (.exit 3, Try.xQ45 n ee ke l k true J (fitM m K.L).2 K)) (.out (.exit 3, Try.xQ45 n ee ke l k false J (fitM m K.L).2 K))))
theorem Try.okQ45 (n : Int) (ee : EntD) (ke : List Int) (l : List OpD) (k : Nat) (J K : JD) (b0 s0 : Int) (q : Bool × MD) (i : Nat) : (Try.SQ45 n ee ke l k J K b0 s0 q i).h.ok := heap_ok [6, 5, 4, 3, 2, 1, 0] rfl (by decide) (by decide)
theorem Try.okX45 (n : Int) (ee : EntD) (ke : List Int) (l : List OpD) (k : Nat) (f : Bool) (J : JD) (m : MD) (K : JD) : (Try.xQ45 n ee ke l k f J m K).h.ok := heap_ok [5, 4, 3, 2, 1, 0] rfl (by decide) (by decide)
theorem Try.round45 (n : Int) (ee : EntD) (ke : List Int) (l : List OpD) (k : Nat) (J K : JD) (b0 s0 : Int) (q : Bool × MD) (i : Nat) (hi : i < 2) (hb : q.1 = false → 0 ≤ [b0, s0].getD (0 + i) 0 ∧ [b0, s0].getD (0 + i) 0 ≤ 1000 ∧ q.2.1.length ≤ 1000 ∧ K.L.length ≤ 1000) :
    ∃ s1, Try.BQ45 n ee ke (Try.SQ45 n ee ke l k J K b0 s0 q i) = some (.normal, s1) ∧ WeakP 3 s1 (Try.SQ45 n ee ke l k J K b0 s0 (tryM q K.L ([b0, s0].getD (0 + i) 0)) (i + 1)) := by
  have key := Try.rQ45 n ee ke l k J q.2 K b0 s0 q.1 i
  rw [decide_eq_true (show (i : Int) < 2 by omega), inR_nat, decide_eq_true hi, blt_t (show 0 + i < 2 by omega), wrapT i (by omega)] at key
  generalize [b0, s0].getD (0 + i) 0 = a at key hb ⊢
  have ok := fun q i => Try.okQ45 n ee ke l k J K b0 s0 q i
  have same : ∀ q' : Bool × MD, q' = q → (Try.SQ45 n ee ke l k J K b0 s0 q' (i + 1)) = Try.SQ45 n ee ke l k J K b0 s0 q (i + 1) := fun q' h => by rw [h]
  cases hq : q.1 with
  | true =>
    rw [same (tryM q K.L a) (by unfold tryM; rw [hq]; rfl)]
    have hf : q.1 = true := hq
    rw [hq] at key
    refine ⟨_, (show Try.BQ45 n ee ke (Try.SQ45 n ee ke l k J K b0 s0 q i) = _ from by unfold Try.SQ45; rw [hf]; exact key), ?_⟩
    unfold Try.SQ45
    rw [hf]
    exact WeakP.refl (ok q (i + 1))
  | false =>
  obtain ⟨b1, b2, b3, b4⟩ := hb hq
  have e1 : IntKind.i64.wrap (a + (K.L.length : Int)) = a + K.L.length := wrap64 _ (by omega) (by omega)
  have hS : Try.SQ45 n ee ke l k J K b0 s0 q i = stOf 208 [2, 9, 10, 21, 22, 41, 42, 43, 127, 128, 129] (Try.VQ45 l k false i) (Try.HQ45 n ee ke J q.2 K b0 s0) := by unfold Try.SQ45; rw [hq]
  have hS2 : Try.SQ45 n ee ke l k J K b0 s0 q (i + 1) = stOf 208 [2, 9, 10, 21, 22, 41, 42, 43, 127, 128, 129] (Try.VQ45 l k false (i + 1)) (Try.HQ45 n ee ke J q.2 K b0 s0) := by unfold Try.SQ45; rw [hq]
  have stay : okFit q.2 K.L a = false → (∃ s1, Try.BQ45 n ee ke (Try.SQ45 n ee ke l k J K b0 s0 q i) = some (.normal, s1) ∧ WeakP 3 s1 (Try.SQ45 n ee ke l k J K b0 s0 q (i + 1))) → (∃ s1, Try.BQ45 n ee ke (Try.SQ45 n ee ke l k J K b0 s0 q i) = some (.normal, s1) ∧ WeakP 3 s1 (Try.SQ45 n ee ke l k J K b0 s0 (tryM q K.L a) (i + 1))) := fun h1 h2 => by
    rw [same (tryM q K.L a) (by unfold tryM; rw [hq, h1]; rfl)]; exact h2
  rw [hq, e1] at key
  rw [hS] at stay ⊢
  rw [hS2] at stay
  have okR := ok q (i + 1)
  rw [hS2] at okR
  cases h1 : decide (a + (K.L.length : Int) ≤ (q.2.1.length : Int)) with
  | false =>
    rw [h1] at key
    exact stay (by unfold okFit; rw [h1]; rfl) ⟨_, key, WeakP.refl okR⟩
  | true =>
  cases h2 : decide (a + (K.L.length : Int) ≥ if (q.2.1.length : Int) < q.2.2.2.2 then (q.2.1.length : Int) else q.2.2.2.2) with
  | false =>
    rw [h1, h2] at key
    exact stay (by unfold okFit; rw [h1, h2]; rfl) ⟨_, key, WeakP.refl okR⟩
  | true =>
  have h1' : a + (K.L.length : Int) ≤ (q.2.1.length : Int) := by simpa using h1
  obtain ⟨s1, s2⟩ := en_slice q.2.1 a.toNat ((a + (K.L.length : Int)).toNat - a.toNat) (by omega)
  have e4 : (a + (K.L.length : Int)).toNat - a.toNat = K.L.length := by omega
  rw [e4] at s1 s2
  have o1 : okEN (EN.con K.L) = true := okEN_le (by omega)
  have o2 := en_ok s1 (by rw [s2, List.length_take]; omega)
  rw [h1, h2, e4, decide_eq_true (show 0 ≤ a + (K.L.length : Int) by omega), decide_eq_true b1, decide_eq_true (show a ≤ (((a + (K.L.length : Int)).toNat : Nat) : Int) by omega), o1, o2, EN_list_con, s2, ble_t (show K.L.length ≤ 1000000 by omega)] at key
  cases h3 : eqEs K.L ((q.2.1.drop a.toNat).take K.L.length) with
  | false =>
    rw [h3] at key
    exact stay (by unfold okFit; rw [h1, h2, h3]; rfl) ⟨_, key, WeakP.refl okR⟩
  | true =>
    rw [h3] at key
    have e5 : tryM q K.L a = (true, (q.2.1.take (a + K.L.length).toNat, a, a, a + K.L.length)) := by unfold tryM okFit; rw [hq, h1, h2, h3]; rfl
    rw [e5]
    refine ⟨_, key, ?_⟩
    obtain ⟨u1, u2⟩ := en_slice q.2.1 0 ((a + (K.L.length : Int)).toNat - 0) (by omega)
    have u3 : EN.list (.tab 5 ((a + (K.L.length : Int)).toNat - 0) (fun i => EN.row (q.2.1.getD (0 + i) EN.z))) = q.2.1.take (a + K.L.length).toNat := u2
    exact WeakP.heap (heap_ok [6, 5, 4, 3, 2, 1, 0] rfl (by decide) (by decide)) (.same _ (.same _ (.con 4 0 0 rfl (ConW.one (md_aw u1 u3 _ _ _)) (EsW.refl _))))
theorem Try.lQ45 (n : Int) (ee : EntD) (ke : List Int) (l : List OpD) (k : Nat) (J : JD) (m : MD) (K : JD) (hh : bytesOk ee.2.2.2.2 = true) : ∀ s e s', s.h.ok → (Try.LQ45 n ee ke l k J m K s).run = some (e, s') → TripleP Try.prog 3 (.loop Try.bQ) s e s' := by
  refine atLP_grd (fun hp => ?_)
  obtain ⟨b1, b2, b3, b4, b5, b6⟩ := propB_eq hp
  refine loop_atP (Try.eP45 n ee ke hh) (p := 3) (d := 5) (g := 43) (ls := lsumsOf []) (c := Try.bQ) trivial [2, 9, 10, 21, 22, 41, 42, 43, 127, 128, 129] [2, 9, 10, 21, 22, 41, 42, 43] (T := (Bool × MD) × Nat)
    (fun x => Try.SQ45 n ee ke l k J K m.2.1 m.2.2.1 x.1 x.2) (fun x => x.2 ≤ 2 ∧ (x.2 = 0 → x.1 = (false, m)) ∧ (x.2 = 1 → x.1 = tryM (false, m) K.L m.2.1) ∧ (x.2 = 2 → x.1 = fitM m K.L)) (fun x => 2 - x.2)
    (fun _ => bif (fitM m K.L).1 then (.exit 3, Try.xQ45 n ee ke l k true J (fitM m K.L).2 K) else (.exit 3, Try.xQ45 n ee ke l k false J (fitM m K.L).2 K)) _ _ ((false, m), 0) ⟨show (0 : Nat) ≤ 2 by decide, fun _ => rfl, (fun h => by cases h), (fun h => by cases h)⟩ (WeakP.refl (Try.okQ45 n ee ke l k J K m.2.1 m.2.2.1 (false, m) 0)) ?_ (fun x _ => Try.okQ45 n ee ke l k J K m.2.1 m.2.2.1 x.1 x.2) ?_
  · intro e s' h
    rw [Ans.run_br] at h
    cases hq : (fitM m K.L).1 <;> rw [hq] at h <;> exact Option.some.inj h
  · rintro ⟨q, i⟩ ⟨h0, h1, h2, h3⟩
    replace h0 : i ≤ 2 := h0
    by_cases z0 : i = 0
    · subst z0
      have hq : q = (false, m) := h1 rfl
      subst hq
      obtain ⟨s1, r1, r2⟩ := Try.round45 n ee ke l k J K m.2.1 m.2.2.1 (false, m) 0 (by decide) (fun _ => ⟨b1, b2, b5, b6⟩)
      exact .inl ⟨(tryM (false, m) K.L m.2.1, 1), s1, r1, r2, ⟨show (1 : Nat) ≤ 2 by decide, (fun h => by cases h), fun _ => rfl, (fun h => by cases h)⟩, by show 2 - 1 < 2 - 0; decide, rfl⟩
    · by_cases z1 : i = 1
      · subst z1
        have hq : q = tryM (false, m) K.L m.2.1 := h2 rfl
        obtain ⟨s1, r1, r2⟩ := Try.round45 n ee ke l k J K m.2.1 m.2.2.1 q 1 (by decide) (fun hf => by
          have : q = (false, m) := by
            rw [hq] at hf ⊢
            unfold tryM at hf ⊢
            rw [cond_false] at hf ⊢
            cases z : okFit m K.L m.2.1 with
            | true => rw [z] at hf; cases hf
            | false => rfl
          rw [this]
          exact ⟨b3, b4, b5, b6⟩)
        exact .inl ⟨(tryM q K.L m.2.2.1, 2), s1, r1, r2, ⟨show (2 : Nat) ≤ 2 by decide, (fun h => by cases h), (fun h => by cases h), fun _ => by rw [hq]; rfl⟩, by show 2 - 2 < 2 - 1; decide, rfl⟩
      · have z2 : i = 2 := by omega
        subst z2
        have hq : q = fitM m K.L := h3 rfl
        have key := Try.rQ45 n ee ke l k J q.2 K m.2.1 m.2.2.1 q.1 2
        subst hq
        refine .inr ⟨_, key.trans (show _ = some ((bif (fitM m K.L).1 then (AX.exit 3, Try.xQ45 n ee ke l k true J (fitM m K.L).2 K) else (.exit 3, Try.xQ45 n ee ke l k false J (fitM m K.L).2 K)).1, Try.xQ45 n ee ke l k (fitM m K.L).1 J (fitM m K.L).2 K) from ?_), ?_, ?_⟩
        · cases (fitM m K.L).1 <;> rfl
        · cases hz : (fitM m K.L).1
          · exact WeakP.refl (Try.okX45 n ee ke l k _ J _ K)
          · exact WeakP.refl (Try.okX45 n ee ke l k _ J _ K)
        · cases (fitM m K.L).1 <;> (show (AX.exit 3) ≠ .normal; intro h; cases h)
end Go.Ev
/- play: a round of its loop (JournalTorn). -/
namespace Go.Ev
open Go.Proofs
def Try.VP45 (l : List OpD) (k : Nat) : List AV := [.clo (.func 45) [] [.ptr 0 0 0, .ptr 1 0 0, .ptr 2 0 0], .ptr 3 0 0, .ptr 4 0 0, .ro (OP.con l) none, .val (.int .i64 l.length), .val (.int .i64 k)]
def Try.HP45 (n : Int) (ee : EntD) (ke : List Int) (J : JD) (m : MD) : Heap := ⟨5, [⟨4, 0, .cells (mdC m.1 m.2.1 m.2.2.1 m.2.2.2)⟩, ⟨3, 0, .cells (jrC J)⟩, ⟨2, 0, .cells (ptC n)⟩, ⟨1, 0, .cells (kC ke)⟩, ⟨0, 0, .cells (eC ee)⟩]⟩
def Try.SP45 (n : Int) (ee : EntD) (ke : List Int) (l : List OpD) (k : Nat) (J : JD) (m : MD) : St := stOf 208 [2, 9, 10, 41, 42, 43] (Try.VP45 l k) (Try.HP45 n ee ke J m)
def Try.lP45 (n : Int) (ee : EntD) (ke : List Int) (l : List OpD) (k : Nat) (J : JD) (m : MD) : Nat → Option LSum := lsumsOf [(35, Try.LQ45 n ee ke l k J m (kOf J (l.getD k OP.z).2.2.2))]
def Try.BP45 (n : Int) (ee : EntD) (ke : List Int) (l : List OpD) (k : Nat) (J : JD) (m : MD) (s : St) : Option (AX × St) := codeP (Try.EP45 n ee ke ) (callF (Try.EP45 n ee ke ) 5) ((Try.EP45 n ee ke ).keep 43) (Try.lP45 n ee ke l k J m) 3 Try.bP (outKP 3 [2, 9, 10, 41, 42, 43] [6]) s
theorem Try.rP45 (n : Int) (ee : EntD) (ke : List Int) (l : List OpD) (k : Nat) (J : JD) (m : MD) : Try.BP45 n ee ke l k J m (Try.SP45 n ee ke l k J m) =
 bif decide ((↑k : Int) < (↑l.length : Int)) then
 bif inR (↑k : Int) l.length then
 bif (l.getD k OP.z).fst == 1 then
 bif okSW (SW.con J.P) && okEN (EN.con J.L) then
 bif (reJ J).L.length.ble 1000000 then
 bif (appJ (reJ J) ((l.getD k OP.z).snd.snd.fst.fst, (l.getD k OP.z).snd.snd.fst.snd.fst, (l.getD k OP.z).snd.snd.fst.snd.snd.fst, (l.getD k OP.z).snd.snd.fst.snd.snd.snd.fst, (l.getD k OP.z).snd.snd.fst.snd.snd.snd.snd)).snd != 0 then
 some (.normal, stOf 208 [2, 9, 10, 41, 42, 43] [.clo (Fn.func 45) [] [.ptr 0 0 0, .ptr 1 0 0, .ptr 2 0 0], .ptr 3 0 0, .ptr 4 0 0, .ro (OP.con l) none, .val (.int .i64 ((↑l.length : Int))), .val (.int .i64 (IntKind.i64.wrap ((↑k : Int) + 1)))] ⟨5, [⟨4, 0, .cells (.rows true 4 ([.ro (EN.con m.fst) none, .val (.int .i64 (m.snd.fst)), .val (.int .i64 (m.snd.snd.fst)), .val (.int .i64 (m.snd.snd.snd))] :: []))⟩, ⟨3, 0, .cells (jrC J)⟩, ⟨2, 0, .cells (.rows true 1 ([.val (.int .i64 (n))] :: []))⟩, ⟨1, 0, .cells (.rows true 1 ([.ro (.ints .i64 (ke)) none] :: []))⟩, ⟨0, 0, .cells (.rows true 5 ([.val (.int .i64 (ee.fst)), .val (.int .i64 (ee.snd.fst)), .val (.int .i64 (ee.snd.snd.fst)), .val (.int .i64 (ee.snd.snd.snd.fst)), .ro (.ints .u8 (ee.snd.snd.snd.snd)) none] :: []))⟩]⟩ )
 else
 bif decide ((↑m.fst.length : Int) ≤ (↑m.fst.length : Int)) then
 bif decide ((↑m.fst.length : Int) ≤ (↑m.fst.length : Int)) then
 bif roNew (subCap none (some m.fst.length) 0) (Con.tab 5 (m.fst.length - 0) fun i => EN.row (m.fst.getD (0 + i) EN.z)).len 1 then
 bif (((Con.tab 5 (m.fst.length - 0) fun i => EN.row (m.fst.getD (0 + i) EN.z)).len + 1) * 56).ble most && ((Con.tab 5 (m.fst.length - 0) fun i => EN.row (m.fst.getD (0 + i) EN.z)).len + 1).ble most then
 bif (↑(appJ (reJ J) ((l.getD k OP.z).snd.snd.fst.fst, (l.getD k OP.z).snd.snd.fst.snd.fst, (l.getD k OP.z).snd.snd.fst.snd.snd.fst, (l.getD k OP.z).snd.snd.fst.snd.snd.snd.fst, (l.getD k OP.z).snd.snd.fst.snd.snd.snd.snd)).fst.L.length : Int) != IntKind.i64.wrap ((↑((Con.tab 5 (m.fst.length - 0) fun i => EN.row (m.fst.getD (0 + i) EN.z)).len + 1) : Int) - m.snd.snd.fst) then
 some (.ret, stOf 208 [6] [.val (.bool false)] ⟨3, [⟨2, 0, .cells (.rows true 1 ([.val (.int .i64 (n))] :: []))⟩, ⟨1, 0, .cells (.rows true 1 ([.ro (.ints .i64 (ke)) none] :: []))⟩, ⟨0, 0, .cells (.rows true 5 ([.val (.int .i64 (ee.fst)), .val (.int .i64 (ee.snd.fst)), .val (.int .i64 (ee.snd.snd.fst)), .val (.int .i64 (ee.snd.snd.snd.fst)), .ro (.ints .u8 (ee.snd.snd.snd.snd)) none] :: []))⟩]⟩ )
 else
 bif decide (0 ≤ m.snd.snd.fst) && decide (m.snd.snd.fst ≤ (↑((Con.tab 5 (m.fst.length - 0) fun i => EN.row (m.fst.getD (0 + i) EN.z)).len + 1) : Int)) then
 bif (0 + m.snd.snd.fst.toNat + ((Con.tab 5 (m.fst.length - 0) fun i => EN.row (m.fst.getD (0 + i) EN.z)).len + 1 - m.snd.snd.fst.toNat)).ble (Con.tab 5 (m.fst.length - 0 + 1) fun i => bif i.blt (m.fst.length - 0) then EN.row (m.fst.getD (0 + i) EN.z) else [[AV.val (Value.int IntKind.i64 (l.getD k OP.z).snd.snd.fst.fst), AV.val (Value.int IntKind.i64 (l.getD k OP.z).snd.snd.fst.snd.fst), AV.val (Value.int IntKind.i64 (l.getD k OP.z).snd.snd.fst.snd.snd.fst), AV.val (Value.int IntKind.i64 (l.getD k OP.z).snd.snd.fst.snd.snd.snd.fst), AV.ro (Con.ints IntKind.u8 (l.getD k OP.z).snd.snd.fst.snd.snd.snd.snd) none]].getD (i - (m.fst.length - 0)) []).len && true then
 bif okEN (EN.con (appJ (reJ J) ((l.getD k OP.z).snd.snd.fst.fst, (l.getD k OP.z).snd.snd.fst.snd.fst, (l.getD k OP.z).snd.snd.fst.snd.snd.fst, (l.getD k OP.z).snd.snd.fst.snd.snd.snd.fst, (l.getD k OP.z).snd.snd.fst.snd.snd.snd.snd)).fst.L) && (okEN (Con.tab 5 ((Con.tab 5 (m.fst.length - 0) fun i => EN.row (m.fst.getD (0 + i) EN.z)).len + 1 - m.snd.snd.fst.toNat) fun i => bif (0 + m.snd.snd.fst.toNat + i).blt (m.fst.length - 0) then EN.row (m.fst.getD (0 + (0 + m.snd.snd.fst.toNat + i)) EN.z) else [[AV.val (Value.int IntKind.i64 (l.getD k OP.z).snd.snd.fst.fst), AV.val (Value.int IntKind.i64 (l.getD k OP.z).snd.snd.fst.snd.fst), AV.val (Value.int IntKind.i64 (l.getD k OP.z).snd.snd.fst.snd.snd.fst), AV.val (Value.int IntKind.i64 (l.getD k OP.z).snd.snd.fst.snd.snd.snd.fst), AV.ro (Con.ints IntKind.u8 (l.getD k OP.z).snd.snd.fst.snd.snd.snd.snd) none]].getD (0 + m.snd.snd.fst.toNat + i - (m.fst.length - 0)) []) && (EN.list (EN.con (appJ (reJ J) ((l.getD k OP.z).snd.snd.fst.fst, (l.getD k OP.z).snd.snd.fst.snd.fst, (l.getD k OP.z).snd.snd.fst.snd.snd.fst, (l.getD k OP.z).snd.snd.fst.snd.snd.snd.fst, (l.getD k OP.z).snd.snd.fst.snd.snd.snd.snd)).fst.L)).length.ble 1000000) then
 bif eqEs (EN.list (EN.con (appJ (reJ J) ((l.getD k OP.z).snd.snd.fst.fst, (l.getD k OP.z).snd.snd.fst.snd.fst, (l.getD k OP.z).snd.snd.fst.snd.snd.fst, (l.getD k OP.z).snd.snd.fst.snd.snd.snd.fst, (l.getD k OP.z).snd.snd.fst.snd.snd.snd.snd)).fst.L)) (EN.list (Con.tab 5 ((Con.tab 5 (m.fst.length - 0) fun i => EN.row (m.fst.getD (0 + i) EN.z)).len + 1 - m.snd.snd.fst.toNat) fun i => bif (0 + m.snd.snd.fst.toNat + i).blt (m.fst.length - 0) then EN.row (m.fst.getD (0 + (0 + m.snd.snd.fst.toNat + i)) EN.z) else [[AV.val (Value.int IntKind.i64 (l.getD k OP.z).snd.snd.fst.fst), AV.val (Value.int IntKind.i64 (l.getD k OP.z).snd.snd.fst.snd.fst), AV.val (Value.int IntKind.i64 (l.getD k OP.z).snd.snd.fst.snd.snd.fst), AV.val (Value.int IntKind.i64 (l.getD k OP.z).snd.snd.fst.snd.snd.snd.fst), AV.ro (Con.ints IntKind.u8 (l.getD k OP.z).snd.snd.fst.snd.snd.snd.snd) none]].getD (0 + m.snd.snd.fst.toNat + i - (m.fst.length - 0)) [])) then
 bif (0 + ((Con.tab 5 (m.fst.length - 0) fun i => EN.row (m.fst.getD (0 + i) EN.z)).len + 1)).ble (Con.tab 5 (m.fst.length - 0 + 1) fun i => bif i.blt (m.fst.length - 0) then EN.row (m.fst.getD (0 + i) EN.z) else [[AV.val (Value.int IntKind.i64 (l.getD k OP.z).snd.snd.fst.fst), AV.val (Value.int IntKind.i64 (l.getD k OP.z).snd.snd.fst.snd.fst), AV.val (Value.int IntKind.i64 (l.getD k OP.z).snd.snd.fst.snd.snd.fst), AV.val (Value.int IntKind.i64 (l.getD k OP.z).snd.snd.fst.snd.snd.snd.fst), AV.ro (Con.ints IntKind.u8 (l.getD k OP.z).snd.snd.fst.snd.snd.snd.snd) none]].getD (i - (m.fst.length - 0)) []).len && true then
 bif sameAs (caps45 n ee ke) (caps45 n ee ke) then
 bif okSW (SW.con (appJ (reJ J) ((l.getD k OP.z).snd.snd.fst.fst, (l.getD k OP.z).snd.snd.fst.snd.fst, (l.getD k OP.z).snd.snd.fst.snd.snd.fst, (l.getD k OP.z).snd.snd.fst.snd.snd.snd.fst, (l.getD k OP.z).snd.snd.fst.snd.snd.snd.snd)).fst.P) && okEN (EN.con (appJ (reJ J) ((l.getD k OP.z).snd.snd.fst.fst, (l.getD k OP.z).snd.snd.fst.snd.fst, (l.getD k OP.z).snd.snd.fst.snd.snd.fst, (l.getD k OP.z).snd.snd.fst.snd.snd.snd.fst, (l.getD k OP.z).snd.snd.fst.snd.snd.snd.snd)).fst.L) then
 bif propB (OkN n (reJ (appJ (reJ J) ((l.getD k OP.z).snd.snd.fst.fst, (l.getD k OP.z).snd.snd.fst.snd.fst, (l.getD k OP.z).snd.snd.fst.snd.snd.fst, (l.getD k OP.z).snd.snd.fst.snd.snd.snd.fst, (l.getD k OP.z).snd.snd.fst.snd.snd.snd.snd)).fst)) then
 some (.normal, stOf 208 [2, 9, 10, 41, 42, 43] [.clo (Fn.func 45) [] [.ptr 0 0 0, .ptr 1 0 0, .ptr 2 0 0], .ptr 3 0 0, .ptr 4 0 0, .ro (OP.con l) none, .val (.int .i64 ((↑l.length : Int))), .val (.int .i64 (IntKind.i64.wrap ((↑k : Int) + 1)))] ⟨6, [⟨5, 0, .cells (.tab 5 (m.fst.length - 0 + 1) (fun i => bif i.blt (m.fst.length - 0) then EN.row (m.fst.getD (0 + i) EN.z) else [[AV.val (Value.int IntKind.i64 (l.getD k OP.z).snd.snd.fst.fst), AV.val (Value.int IntKind.i64 (l.getD k OP.z).snd.snd.fst.snd.fst), AV.val (Value.int IntKind.i64 (l.getD k OP.z).snd.snd.fst.snd.snd.fst), AV.val (Value.int IntKind.i64 (l.getD k OP.z).snd.snd.fst.snd.snd.snd.fst), AV.ro (Con.ints IntKind.u8 (l.getD k OP.z).snd.snd.fst.snd.snd.snd.snd) none]].getD (i - (m.fst.length - 0)) []))⟩, ⟨4, 0, .cells (.rows false 4 ([.own 5 0 ((Con.tab 5 (m.fst.length - 0) fun i => EN.row (m.fst.getD (0 + i) EN.z)).len + 1) none 5, .val (.int .i64 (m.snd.fst)), .val (.int .i64 (m.snd.snd.fst)), .val (.int .i64 (m.snd.snd.snd))] :: []))⟩, ⟨3, 0, .cells (jrC (appJ (reJ J) ((l.getD k OP.z).snd.snd.fst.fst, (l.getD k OP.z).snd.snd.fst.snd.fst, (l.getD k OP.z).snd.snd.fst.snd.snd.fst, (l.getD k OP.z).snd.snd.fst.snd.snd.snd.fst, (l.getD k OP.z).snd.snd.fst.snd.snd.snd.snd)).fst)⟩, ⟨2, 0, .cells (.rows true 1 ([.val (.int .i64 (n))] :: []))⟩, ⟨1, 0, .cells (.rows true 1 ([.ro (.ints .i64 (ke)) none] :: []))⟩, ⟨0, 0, .cells (.rows true 5 ([.val (.int .i64 (ee.fst)), .val (.int .i64 (ee.snd.fst)), .val (.int .i64 (ee.snd.snd.fst)), .val (.int .i64 (ee.snd.snd.snd.fst)), .ro (.ints .u8 (ee.snd.snd.snd.snd)) none] :: []))⟩]⟩ )
 else
 none
 else
 none
 else
 none
 else
 none
 else
 some (.ret, stOf 208 [6] [.val (.bool false)] ⟨3, [⟨2, 0, .cells (.rows true 1 ([.val (.int .i64 (n))] :: []))⟩, ⟨1, 0, .cells (.rows true 1 ([.ro (.ints .i64 (ke)) none] :: []))⟩, ⟨0, 0, .cells (.rows true 5 ([.val (.int .i64 (ee.fst)), .val (.int .i64 (ee.snd.fst)), .val (.int .i64 (ee.snd.snd.fst)), .val (.int .i64 (ee.snd.snd.snd.fst)), .ro (.ints .u8 (ee.snd.snd.snd.snd)) none] :: []))⟩]⟩ )
 else
 none
 else
 none
 else
 none
 else
 none
 else
 none
 else
 none
 else
 none
 else
 none
 else
 none
 else
 bif (l.getD k OP.z).fst == 2 then
 bif okSW (SW.con J.P) && okEN (EN.con J.L) then
 bif (reJ J).L.length.ble 1000000 then
 bif (syncJ (reJ J)).snd != 0 then
 some (.ret, stOf 208 [6] [.val (.bool false)] ⟨3, [⟨2, 0, .cells (.rows true 1 ([.val (.int .i64 (n))] :: []))⟩, ⟨1, 0, .cells (.rows true 1 ([.ro (.ints .i64 (ke)) none] :: []))⟩, ⟨0, 0, .cells (.rows true 5 ([.val (.int .i64 (ee.fst)), .val (.int .i64 (ee.snd.fst)), .val (.int .i64 (ee.snd.snd.fst)), .val (.int .i64 (ee.snd.snd.snd.fst)), .ro (.ints .u8 (ee.snd.snd.snd.snd)) none] :: []))⟩]⟩ )
 else
 bif (↑(syncJ (reJ J)).fst.L.length : Int) != IntKind.i64.wrap ((↑m.fst.length : Int) - m.snd.snd.fst) then
 some (.ret, stOf 208 [6] [.val (.bool false)] ⟨3, [⟨2, 0, .cells (.rows true 1 ([.val (.int .i64 (n))] :: []))⟩, ⟨1, 0, .cells (.rows true 1 ([.ro (.ints .i64 (ke)) none] :: []))⟩, ⟨0, 0, .cells (.rows true 5 ([.val (.int .i64 (ee.fst)), .val (.int .i64 (ee.snd.fst)), .val (.int .i64 (ee.snd.snd.fst)), .val (.int .i64 (ee.snd.snd.snd.fst)), .ro (.ints .u8 (ee.snd.snd.snd.snd)) none] :: []))⟩]⟩ )
 else
 bif decide (0 ≤ m.snd.snd.fst) && decide (m.snd.snd.fst ≤ (↑m.fst.length : Int)) then
 bif okEN (EN.con (syncJ (reJ J)).fst.L) && (okEN (Con.tab 5 (m.fst.length - m.snd.snd.fst.toNat) fun i => EN.row (m.fst.getD (m.snd.snd.fst.toNat + i) EN.z)) && (EN.list (EN.con (syncJ (reJ J)).fst.L)).length.ble 1000000) then
 bif eqEs (EN.list (EN.con (syncJ (reJ J)).fst.L)) (EN.list (Con.tab 5 (m.fst.length - m.snd.snd.fst.toNat) fun i => EN.row (m.fst.getD (m.snd.snd.fst.toNat + i) EN.z))) then
 bif sameAs (caps45 n ee ke) (caps45 n ee ke) then
 bif okSW (SW.con (syncJ (reJ J)).fst.P) && okEN (EN.con (syncJ (reJ J)).fst.L) then
 bif propB (OkN n (reJ (syncJ (reJ J)).fst)) then
 some (.normal, stOf 208 [2, 9, 10, 41, 42, 43] [.clo (Fn.func 45) [] [.ptr 0 0 0, .ptr 1 0 0, .ptr 2 0 0], .ptr 3 0 0, .ptr 4 0 0, .ro (OP.con l) none, .val (.int .i64 ((↑l.length : Int))), .val (.int .i64 (IntKind.i64.wrap ((↑k : Int) + 1)))] ⟨5, [⟨4, 0, .cells (.rows true 4 ([.ro (EN.con m.fst) none, .val (.int .i64 (m.snd.snd.fst)), .val (.int .i64 (m.snd.snd.fst)), .val (.int .i64 ((↑m.fst.length : Int)))] :: []))⟩, ⟨3, 0, .cells (jrC (syncJ (reJ J)).fst)⟩, ⟨2, 0, .cells (.rows true 1 ([.val (.int .i64 (n))] :: []))⟩, ⟨1, 0, .cells (.rows true 1 ([.ro (.ints .i64 (ke)) none] :: []))⟩, ⟨0, 0, .cells (.rows true 5 ([.val (.int .i64 (ee.fst)), .val (.int .i64 (ee.snd.fst)), .val (.int .i64 (ee.snd.snd.fst)), .val (.int .i64 (ee.snd.snd.snd.fst)), .ro (.ints .u8 (ee.snd.snd.snd.snd)) none] :: []))⟩]⟩ )
 else
 none
 else
 none
 else
 none
 else
 some (.ret, stOf 208 [6] [.val (.bool false)] ⟨3, [⟨2, 0, .cells (.rows true 1 ([.val (.int .i64 (n))] :: []))⟩, ⟨1, 0, .cells (.rows true 1 ([.ro (.ints .i64 (ke)) none] :: []))⟩, ⟨0, 0, .cells (.rows true 5 ([.val (.int .i64 (ee.fst)), .val (.int .i64 (ee.snd.fst)), .val (.int .i64 (ee.snd.snd.fst)), .val (.int .i64 (ee.snd.snd.snd.fst)), .ro (.ints .u8 (ee.snd.snd.snd.snd)) none] :: []))⟩]⟩ )
 else
 none
 else
 none
 else
 none
 else
 none
 else
 bif (l.getD k OP.z).fst == 3 then
 bif okSW (SW.con J.P) && okEN (EN.con J.L) then
 bif (reJ J).L.length.ble 1000000 then
 bif (trimJ (reJ J) (l.getD k OP.z).snd.fst).snd != 0 then
 some (.normal, stOf 208 [2, 9, 10, 41, 42, 43] [.clo (Fn.func 45) [] [.ptr 0 0 0, .ptr 1 0 0, .ptr 2 0 0], .ptr 3 0 0, .ptr 4 0 0, .ro (OP.con l) none, .val (.int .i64 ((↑l.length : Int))), .val (.int .i64 (IntKind.i64.wrap ((↑k : Int) + 1)))] ⟨5, [⟨4, 0, .cells (.rows true 4 ([.ro (EN.con m.fst) none, .val (.int .i64 (m.snd.fst)), .val (.int .i64 (m.snd.snd.fst)), .val (.int .i64 (m.snd.snd.snd))] :: []))⟩, ⟨3, 0, .cells (jrC J)⟩, ⟨2, 0, .cells (.rows true 1 ([.val (.int .i64 (n))] :: []))⟩, ⟨1, 0, .cells (.rows true 1 ([.ro (.ints .i64 (ke)) none] :: []))⟩, ⟨0, 0, .cells (.rows true 5 ([.val (.int .i64 (ee.fst)), .val (.int .i64 (ee.snd.fst)), .val (.int .i64 (ee.snd.snd.fst)), .val (.int .i64 (ee.snd.snd.snd.fst)), .ro (.ints .u8 (ee.snd.snd.snd.snd)) none] :: []))⟩]⟩ )
 else
 bif (↑(trimJ (reJ J) (l.getD k OP.z).snd.fst).fst.L.length : Int) != IntKind.i64.wrap ((↑m.fst.length : Int) - IntKind.i64.wrap (m.snd.snd.fst + (l.getD k OP.z).snd.fst)) then
 some (.ret, stOf 208 [6] [.val (.bool false)] ⟨3, [⟨2, 0, .cells (.rows true 1 ([.val (.int .i64 (n))] :: []))⟩, ⟨1, 0, .cells (.rows true 1 ([.ro (.ints .i64 (ke)) none] :: []))⟩, ⟨0, 0, .cells (.rows true 5 ([.val (.int .i64 (ee.fst)), .val (.int .i64 (ee.snd.fst)), .val (.int .i64 (ee.snd.snd.fst)), .val (.int .i64 (ee.snd.snd.snd.fst)), .ro (.ints .u8 (ee.snd.snd.snd.snd)) none] :: []))⟩]⟩ )
 else
 bif decide (0 ≤ IntKind.i64.wrap (m.snd.snd.fst + (l.getD k OP.z).snd.fst)) && decide (IntKind.i64.wrap (m.snd.snd.fst + (l.getD k OP.z).snd.fst) ≤ (↑m.fst.length : Int)) then
 bif okEN (EN.con (trimJ (reJ J) (l.getD k OP.z).snd.fst).fst.L) && (okEN (Con.tab 5 (m.fst.length - (IntKind.i64.wrap (m.snd.snd.fst + (l.getD k OP.z).snd.fst)).toNat) fun i => EN.row (m.fst.getD ((IntKind.i64.wrap (m.snd.snd.fst + (l.getD k OP.z).snd.fst)).toNat + i) EN.z)) && (EN.list (EN.con (trimJ (reJ J) (l.getD k OP.z).snd.fst).fst.L)).length.ble 1000000) then
 bif eqEs (EN.list (EN.con (trimJ (reJ J) (l.getD k OP.z).snd.fst).fst.L)) (EN.list (Con.tab 5 (m.fst.length - (IntKind.i64.wrap (m.snd.snd.fst + (l.getD k OP.z).snd.fst)).toNat) fun i => EN.row (m.fst.getD ((IntKind.i64.wrap (m.snd.snd.fst + (l.getD k OP.z).snd.fst)).toNat + i) EN.z))) then
 bif sameAs (caps45 n ee ke) (caps45 n ee ke) then
 bif okSW (SW.con (trimJ (reJ J) (l.getD k OP.z).snd.fst).fst.P) && okEN (EN.con (trimJ (reJ J) (l.getD k OP.z).snd.fst).fst.L) then
 bif propB (OkN n (reJ (trimJ (reJ J) (l.getD k OP.z).snd.fst).fst)) then
 some (.normal, stOf 208 [2, 9, 10, 41, 42, 43] [.clo (Fn.func 45) [] [.ptr 0 0 0, .ptr 1 0 0, .ptr 2 0 0], .ptr 3 0 0, .ptr 4 0 0, .ro (OP.con l) none, .val (.int .i64 ((↑l.length : Int))), .val (.int .i64 (IntKind.i64.wrap ((↑k : Int) + 1)))] ⟨5, [⟨4, 0, .cells (.rows true 4 ([.ro (EN.con m.fst) none, .val (.int .i64 (m.snd.fst)), .val (.int .i64 (IntKind.i64.wrap (m.snd.snd.fst + (l.getD k OP.z).snd.fst))), .val (.int .i64 (m.snd.snd.snd))] :: []))⟩, ⟨3, 0, .cells (jrC (trimJ (reJ J) (l.getD k OP.z).snd.fst).fst)⟩, ⟨2, 0, .cells (.rows true 1 ([.val (.int .i64 (n))] :: []))⟩, ⟨1, 0, .cells (.rows true 1 ([.ro (.ints .i64 (ke)) none] :: []))⟩, ⟨0, 0, .cells (.rows true 5 ([.val (.int .i64 (ee.fst)), .val (.int .i64 (ee.snd.fst)), .val (.int .i64 (ee.snd.snd.fst)), .val (.int .i64 (ee.snd.snd.snd.fst)), .ro (.ints .u8 (ee.snd.snd.snd.snd)) none] :: []))⟩]⟩ )
 else
 none
 else
 none
 else
 none
 else
 some (.ret, stOf 208 [6] [.val (.bool false)] ⟨3, [⟨2, 0, .cells (.rows true 1 ([.val (.int .i64 (n))] :: []))⟩, ⟨1, 0, .cells (.rows true 1 ([.ro (.ints .i64 (ke)) none] :: []))⟩, ⟨0, 0, .cells (.rows true 5 ([.val (.int .i64 (ee.fst)), .val (.int .i64 (ee.snd.fst)), .val (.int .i64 (ee.snd.snd.fst)), .val (.int .i64 (ee.snd.snd.snd.fst)), .ro (.ints .u8 (ee.snd.snd.snd.snd)) none] :: []))⟩]⟩ )
 else
 none
 else
 none
 else
 none
 else
 none
 else
 bif (l.getD k OP.z).fst == 4 then
 bif okSW (SW.con J.P) && (l.getD k OP.z).snd.snd.snd.length.ble 9223372036854775807 then
 bif (failD (J.N, J.B, SW.list (SW.con J.P)) (l.getD k OP.z).snd.snd.snd).snd != 0 then
 some (.normal, stOf 208 [2, 9, 10, 41, 42, 43] [.clo (Fn.func 45) [] [.ptr 0 0 0, .ptr 1 0 0, .ptr 2 0 0], .ptr 3 0 0, .ptr 4 0 0, .ro (OP.con l) none, .val (.int .i64 ((↑l.length : Int))), .val (.int .i64 (IntKind.i64.wrap ((↑k : Int) + 1)))] ⟨5, [⟨4, 0, .cells (.rows true 4 ([.ro (EN.con m.fst) none, .val (.int .i64 (m.snd.fst)), .val (.int .i64 (m.snd.snd.fst)), .val (.int .i64 (m.snd.snd.snd))] :: []))⟩, ⟨3, 0, .cells (jrC J)⟩, ⟨2, 0, .cells (.rows true 1 ([.val (.int .i64 (n))] :: []))⟩, ⟨1, 0, .cells (.rows true 1 ([.ro (.ints .i64 (ke)) none] :: []))⟩, ⟨0, 0, .cells (.rows true 5 ([.val (.int .i64 (ee.fst)), .val (.int .i64 (ee.snd.fst)), .val (.int .i64 (ee.snd.snd.fst)), .val (.int .i64 (ee.snd.snd.snd.fst)), .ro (.ints .u8 (ee.snd.snd.snd.snd)) none] :: []))⟩]⟩ )
 else
 bif okSW (SW.con (failD (J.N, J.B, SW.list (SW.con J.P)) (l.getD k OP.z).snd.snd.snd).fst.snd.snd) && ((failD (J.N, J.B, SW.list (SW.con J.P)) (l.getD k OP.z).snd.snd.snd).fst.snd.snd.length.beq 0 && bytesOk (failD (J.N, J.B, SW.list (SW.con J.P)) (l.getD k OP.z).snd.snd.snd).fst.snd.fst) then
 bif (openJ ((failD (J.N, J.B, SW.list (SW.con J.P)) (l.getD k OP.z).snd.snd.snd).fst.fst, (failD (J.N, J.B, SW.list (SW.con J.P)) (l.getD k OP.z).snd.snd.snd).fst.snd.fst, [])).snd != 0 then
 some (.ret, stOf 208 [6] [.val (.bool false)] ⟨3, [⟨2, 0, .cells (.rows true 1 ([.val (.int .i64 (n))] :: []))⟩, ⟨1, 0, .cells (.rows true 1 ([.ro (.ints .i64 (ke)) none] :: []))⟩, ⟨0, 0, .cells (.rows true 5 ([.val (.int .i64 (ee.fst)), .val (.int .i64 (ee.snd.fst)), .val (.int .i64 (ee.snd.snd.fst)), .val (.int .i64 (ee.snd.snd.snd.fst)), .ro (.ints .u8 (ee.snd.snd.snd.snd)) none] :: []))⟩]⟩ )
 else
 bif isSt (Try.SQ45 n ee ke l k J (kOf J (l.getD k OP.z).snd.snd.snd) m.snd.fst m.snd.snd.fst (false, m) 0) (Try.SQ45 n ee ke l k J (kOf J (l.getD k OP.z).snd.snd.snd) m.snd.fst m.snd.snd.fst (false, m) 0) then
 bif propB (QB m (kOf J (l.getD k OP.z).snd.snd.snd)) then
 bif (fitM m (kOf J (l.getD k OP.z).snd.snd.snd).L).fst then
 bif (↑(kOf J (l.getD k OP.z).snd.snd.snd).L.length : Int) != IntKind.i64.wrap ((↑(fitM m (kOf J (l.getD k OP.z).snd.snd.snd).L).snd.fst.length : Int) - (fitM m (kOf J (l.getD k OP.z).snd.snd.snd).L).snd.snd.snd.fst) then
 some (.ret, stOf 208 [6] [.val (.bool false)] ⟨3, [⟨2, 0, .cells (.rows true 1 ([.val (.int .i64 (n))] :: []))⟩, ⟨1, 0, .cells (.rows true 1 ([.ro (.ints .i64 (ke)) none] :: []))⟩, ⟨0, 0, .cells (.rows true 5 ([.val (.int .i64 (ee.fst)), .val (.int .i64 (ee.snd.fst)), .val (.int .i64 (ee.snd.snd.fst)), .val (.int .i64 (ee.snd.snd.snd.fst)), .ro (.ints .u8 (ee.snd.snd.snd.snd)) none] :: []))⟩]⟩ )
 else
 bif decide (0 ≤ (fitM m (kOf J (l.getD k OP.z).snd.snd.snd).L).snd.snd.snd.fst) && decide ((fitM m (kOf J (l.getD k OP.z).snd.snd.snd).L).snd.snd.snd.fst ≤ (↑(fitM m (kOf J (l.getD k OP.z).snd.snd.snd).L).snd.fst.length : Int)) then
 bif okEN (EN.con (kOf J (l.getD k OP.z).snd.snd.snd).L) && (okEN (Con.tab 5 ((fitM m (kOf J (l.getD k OP.z).snd.snd.snd).L).snd.fst.length - (fitM m (kOf J (l.getD k OP.z).snd.snd.snd).L).snd.snd.snd.fst.toNat) fun i => EN.row ((fitM m (kOf J (l.getD k OP.z).snd.snd.snd).L).snd.fst.getD ((fitM m (kOf J (l.getD k OP.z).snd.snd.snd).L).snd.snd.snd.fst.toNat + i) EN.z)) && (EN.list (EN.con (kOf J (l.getD k OP.z).snd.snd.snd).L)).length.ble 1000000) then
 bif eqEs (EN.list (EN.con (kOf J (l.getD k OP.z).snd.snd.snd).L)) (EN.list (Con.tab 5 ((fitM m (kOf J (l.getD k OP.z).snd.snd.snd).L).snd.fst.length - (fitM m (kOf J (l.getD k OP.z).snd.snd.snd).L).snd.snd.snd.fst.toNat) fun i => EN.row ((fitM m (kOf J (l.getD k OP.z).snd.snd.snd).L).snd.fst.getD ((fitM m (kOf J (l.getD k OP.z).snd.snd.snd).L).snd.snd.snd.fst.toNat + i) EN.z))) then
 bif sameAs (caps45 n ee ke) (caps45 n ee ke) then
 bif okSW (SW.con (kOf J (l.getD k OP.z).snd.snd.snd).P) && okEN (EN.con (kOf J (l.getD k OP.z).snd.snd.snd).L) then
 bif propB (OkN n (reJ (kOf J (l.getD k OP.z).snd.snd.snd))) then
 some (.normal, stOf 208 [2, 9, 10, 41, 42, 43] [.clo (Fn.func 45) [] [.ptr 0 0 0, .ptr 1 0 0, .ptr 2 0 0], .ptr 3 0 0, .ptr 4 0 0, .ro (OP.con l) none, .val (.int .i64 ((↑l.length : Int))), .val (.int .i64 (IntKind.i64.wrap ((↑k : Int) + 1)))] ⟨5, [⟨4, 0, .cells (.rows true 4 ([.ro (EN.con (fitM m (kOf J (l.getD k OP.z).snd.snd.snd).L).snd.fst) none, .val (.int .i64 ((fitM m (kOf J (l.getD k OP.z).snd.snd.snd).L).snd.snd.fst)), .val (.int .i64 ((fitM m (kOf J (l.getD k OP.z).snd.snd.snd).L).snd.snd.snd.fst)), .val (.int .i64 ((fitM m (kOf J (l.getD k OP.z).snd.snd.snd).L).snd.snd.snd.snd))] :: []))⟩, ⟨3, 0, .cells (jrC (kOf J (l.getD k OP.z).snd.snd.snd))⟩, ⟨2, 0, .cells (.rows true 1 ([.val (.int .i64 (n))] :: []))⟩, ⟨1, 0, .cells (.rows true 1 ([.ro (.ints .i64 (ke)) none] :: []))⟩, ⟨0, 0, .cells (.rows true 5 ([.val (.int .i64 (ee.fst)), .val (.int .i64 (ee.snd.fst)), .val (.int .i64 (ee.snd.snd.fst)), .val (.int .i64 (ee.snd.snd.snd.fst)), .ro (.ints .u8 (ee.snd.snd.snd.snd)) none] :: []))⟩]⟩ )
 else
 none
 else
 none
 else
 none
 else
 some (.ret, stOf 208 [6] [.val (.bool false)] ⟨3, [⟨2, 0, .cells (.rows true 1 ([.val (.int .i64 (n))] :: []))⟩, ⟨1, 0, .cells (.rows true 1 ([.ro (.ints .i64 (ke)) none] :: []))⟩, ⟨0, 0, .cells (.rows true 5 ([.val (.int .i64 (ee.fst)), .val (.int .i64 (ee.snd.fst)), .val (.int .i64 (ee.snd.snd.fst)), .val (.int .i64 (ee.snd.snd.snd.fst)), .ro (.ints .u8 (ee.snd.snd.snd.snd)) none] :: []))⟩]⟩ )
 else
 none
 else
 none
 else
 some (.ret, stOf 208 [6] [.val (.bool false)] ⟨3, [⟨2, 0, .cells (.rows true 1 ([.val (.int .i64 (n))] :: []))⟩, ⟨1, 0, .cells (.rows true 1 ([.ro (.ints .i64 (ke)) none] :: []))⟩, ⟨0, 0, .cells (.rows true 5 ([.val (.int .i64 (ee.fst)), .val (.int .i64 (ee.snd.fst)), .val (.int .i64 (ee.snd.snd.fst)), .val (.int .i64 (ee.snd.snd.snd.fst)), .ro (.ints .u8 (ee.snd.snd.snd.snd)) none] :: []))⟩]⟩ )
 else
 none
 else
 none
 else
 none
 else
 none
 else
 bif (↑J.L.length : Int) != IntKind.i64.wrap ((↑m.fst.length : Int) - m.snd.snd.fst) then
 some (.ret, stOf 208 [6] [.val (.bool false)] ⟨3, [⟨2, 0, .cells (.rows true 1 ([.val (.int .i64 (n))] :: []))⟩, ⟨1, 0, .cells (.rows true 1 ([.ro (.ints .i64 (ke)) none] :: []))⟩, ⟨0, 0, .cells (.rows true 5 ([.val (.int .i64 (ee.fst)), .val (.int .i64 (ee.snd.fst)), .val (.int .i64 (ee.snd.snd.fst)), .val (.int .i64 (ee.snd.snd.snd.fst)), .ro (.ints .u8 (ee.snd.snd.snd.snd)) none] :: []))⟩]⟩ )
 else
 bif decide (0 ≤ m.snd.snd.fst) && decide (m.snd.snd.fst ≤ (↑m.fst.length : Int)) then
 bif okEN (EN.con J.L) && (okEN (Con.tab 5 (m.fst.length - m.snd.snd.fst.toNat) fun i => EN.row (m.fst.getD (m.snd.snd.fst.toNat + i) EN.z)) && (EN.list (EN.con J.L)).length.ble 1000000) then
 bif eqEs (EN.list (EN.con J.L)) (EN.list (Con.tab 5 (m.fst.length - m.snd.snd.fst.toNat) fun i => EN.row (m.fst.getD (m.snd.snd.fst.toNat + i) EN.z))) then
 bif sameAs (caps45 n ee ke) (caps45 n ee ke) then
 bif okSW (SW.con J.P) && okEN (EN.con J.L) then
 bif propB (OkN n (reJ J)) then
 some (.normal, stOf 208 [2, 9, 10, 41, 42, 43] [.clo (Fn.func 45) [] [.ptr 0 0 0, .ptr 1 0 0, .ptr 2 0 0], .ptr 3 0 0, .ptr 4 0 0, .ro (OP.con l) none, .val (.int .i64 ((↑l.length : Int))), .val (.int .i64 (IntKind.i64.wrap ((↑k : Int) + 1)))] ⟨5, [⟨4, 0, .cells (.rows true 4 ([.ro (EN.con m.fst) none, .val (.int .i64 (m.snd.fst)), .val (.int .i64 (m.snd.snd.fst)), .val (.int .i64 (m.snd.snd.snd))] :: []))⟩, ⟨3, 0, .cells (jrC J)⟩, ⟨2, 0, .cells (.rows true 1 ([.val (.int .i64 (n))] :: []))⟩, ⟨1, 0, .cells (.rows true 1 ([.ro (.ints .i64 (ke)) none] :: []))⟩, ⟨0, 0, .cells (.rows true 5 ([.val (.int .i64 (ee.fst)), .val (.int .i64 (ee.snd.fst)), .val (.int .i64 (ee.snd.snd.fst)), .val (.int .i64 (ee.snd.snd.snd.fst)), .ro (.ints .u8 (ee.snd.snd.snd.snd)) none] :: []))⟩]⟩ )
 else
 none
 else
 none
 else
 none
 else
 some (.ret, stOf 208 [6] [.val (.bool false)] ⟨3, [⟨2, 0, .cells (.rows true 1 ([.val (.int .i64 (n))] :: []))⟩, ⟨1, 0, .cells (.rows true 1 ([.ro (.ints .i64 (ke)) none] :: []))⟩, ⟨0, 0, .cells (.rows true 5 ([.val (.int .i64 (ee.fst)), .val (.int .i64 (ee.snd.fst)), .val (.int .i64 (ee.snd.snd.fst)), .val (.int .i64 (ee.snd.snd.snd.fst)), .ro (.ints .u8 (ee.snd.snd.snd.snd)) none] :: []))⟩]⟩ )
 else
 none
 else
 none
 else
 none
 else
 some (.exit 0, stOf 208 [] [] ⟨3, [⟨2, 0, .cells (.rows true 1 ([.val (.int .i64 (n))] :: []))⟩, ⟨1, 0, .cells (.rows true 1 ([.ro (.ints .i64 (ke)) none] :: []))⟩, ⟨0, 0, .cells (.rows true 5 ([.val (.int .i64 (ee.fst)), .val (.int .i64 (ee.snd.fst)), .val (.int .i64 (ee.snd.snd.fst)), .val (.int .i64 (ee.snd.snd.snd.fst)), .ro (.ints .u8 (ee.snd.snd.snd.snd)) none] :: []))⟩]⟩ ) := by kernel_rfl
theorem Try.okP45 (n : Int) (ee : EntD) (ke : List Int) (l : List OpD) (k : Nat) (J : JD) (m : MD) : (Try.SP45 n ee ke l k J m).h.ok := heap_ok [4, 3, 2, 1, 0] rfl (by decide) (by decide)
theorem Try.step45 (n : Int) (ee : EntD) (ke : List Int) (l : List OpD) (hl : l.length ≤ 60) (hops : ∀ x ∈ l, bytesOk x.2.2.1.2.2.2.2 = true ∧ x.2.2.2.length ≤ 9223372036854775807) (k : Nat) (J : JD) (m : MD) (h : PInv n k J m) (hk : k < l.length) :
    ∃ J' m' s1, Try.BP45 n ee ke l k J m (Try.SP45 n ee ke l k J m) = some (.normal, s1) ∧ WeakP 3 s1 (Try.SP45 n ee ke l (k + 1) J' m') ∧ PInv n (k + 1) J' m' := by
  have key := Try.rP45 n ee ke l k J m
  have F := h.facts
  have ok1 : (okSW (SW.con J.P) && okEN (EN.con J.L)) = true := jx_ok F.jx
  have f1 := F.few
  have f2 := h.len
  have b0 := F.b0
  have bs := F.bs
  have sl := F.sl
  simp only [reJ_eq] at key
  have hx : l.getD k OP.z ∈ l := by rw [List.getD_eq_getElem?_getD, List.getElem?_eq_getElem hk]; exact List.getElem_mem hk
  rw [declt_nat, inR_nat, decide_eq_true hk, wrapT k (by omega)] at key
  simp only [cond_true'] at key
  obtain ⟨hbx, hkx⟩ := hops _ hx
  generalize hxe : l.getD k OP.z = x at key hbx hkx
  have ex : (x.snd.snd.fst.fst, x.snd.snd.fst.snd.fst, x.snd.snd.fst.snd.snd.fst, x.snd.snd.fst.snd.snd.snd.fst, x.snd.snd.fst.snd.snd.snd.snd) = x.snd.snd.fst := rfl
  simp only [ex, ok1, ble_t (show J.L.length ≤ 1000000 by omega), cond_true'] at key
  -- what is compared behind each operation
  have chk : ∀ (J' : JD) (m' : MD), PInv n (k + 1) J' m' → ((J'.L.length : Int) != IntKind.i64.wrap ((m'.1.length : Int) - m'.2.2.1)) = false ∧ decide (0 ≤ m'.2.2.1) = true ∧ decide (m'.2.2.1 ≤ (m'.1.length : Int)) = true ∧ okEN (EN.con J'.L) = true ∧
      okEN (.tab 5 (m'.1.length - m'.2.2.1.toNat) (fun i => EN.row (m'.1.getD (m'.2.2.1.toNat + i) EN.z))) = true ∧ Nat.ble J'.L.length 1000000 = true ∧ EN.list (.tab 5 (m'.1.length - m'.2.2.1.toNat) (fun i => EN.row (m'.1.getD (m'.2.2.1.toNat + i) EN.z))) = J'.L ∧ okSW (SW.con J'.P) = true ∧ propB (OkN n J') = true := fun J' m' h' => by
    have F' := h'.facts
    have g1 := F'.few
    have g2 := h'.len
    have g3 := F'.b0
    have g4 := F'.bs
    have g5 := F'.sl
    have eL := F'.L
    have lL : J'.L.length = m'.1.length - m'.2.2.1.toNat := by rw [eL, List.length_drop]
    obtain ⟨s1, s2⟩ := en_slice m'.1 m'.2.2.1.toNat (m'.1.length - m'.2.2.1.toNat) (by omega)
    have s3 : (m'.1.drop m'.2.2.1.toNat).take (m'.1.length - m'.2.2.1.toNat) = J'.L := by rw [eL]; exact List.take_of_length_le (by rw [List.length_drop]; exact Nat.le_refl _)
    rw [s3] at s2
    refine ⟨?_, decide_eq_true (by omega), decide_eq_true g5, okEN_le (by omega), en_ok s1 (by rw [s2]; omega), ble_t (by omega), s2, (by have := jx_ok F'.jx; unfold JD.ok at this; rw [Bool.and_eq_true] at this; exact this.1), propB_t ⟨h'.N, h'.okP (by omega)⟩⟩
    rw [wrap64 _ (by omega) (by omega), lL, bne, Bool.not_eq_false', beq_iff_eq]
    omega
  have stay : ∀ (hR : Try.BP45 n ee ke l k J m (Try.SP45 n ee ke l k J m) = some (.normal, Try.SP45 n ee ke l (k + 1) J m)), ∃ J' m' s1, Try.BP45 n ee ke l k J m (Try.SP45 n ee ke l k J m) = some (.normal, s1) ∧ WeakP 3 s1 (Try.SP45 n ee ke l (k + 1) J' m') ∧ PInv n (k + 1) J' m' := fun hR =>
    ⟨J, m, _, hR, WeakP.refl (Try.okP45 n ee ke l (k + 1) J m), h.next⟩
  cases h1 : (x.fst == 1) with
  | true =>
    rw [h1] at key
    cases he : ((appJ J x.snd.snd.fst).snd != 0) with
    | true =>
      rw [he] at key
      exact stay key
    | false =>
      rw [he] at key
      obtain ⟨a1, a2⟩ := pinv_app h hbx (by simpa using he)
      obtain ⟨c1, c2, c3, c4, c5, c6, c7, c8, c9⟩ := chk _ _ a2
      have F2 := a2.facts
      have eL := F2.L
      replace eL : (appX J x.snd.snd.fst).L = (m.1 ++ [x.snd.snd.fst]).drop m.2.2.1.toNat := eL
      have len1 : (m.1 ++ [x.snd.snd.fst]).length = m.1.length + 1 := by simp
      have lt : ∀ f, (Con.tab 5 (m.1.length - 0) f).len = m.1.length := fun _ => rfl
      have lt2 : ∀ f, (Con.tab 5 (m.1.length - 0 + 1) f).len = m.1.length + 1 := fun _ => rfl
      have rn : ∀ f : Nat → List AV, roNew (subCap none (some m.1.length) 0) m.1.length 1 = true := fun _ => by
        show roNew (some (m.1.length - 0)) m.1.length 1 = true
        rw [Nat.sub_zero]
        cases m.1.length with
        | zero => rfl
        | succ j => show (Nat.beq (j + 1) (j + 1) && true) = true; rw [Nat.beq_refl]; rfl
      have hrow : ∀ i, i < m.1.length + 1 - m.2.2.1.toNat → (bif (0 + m.2.2.1.toNat + i).blt (m.1.length - 0) then EN.row (m.1.getD (0 + (0 + m.2.2.1.toNat + i)) EN.z) else ([[AV.val (Value.int IntKind.i64 x.snd.snd.fst.fst), AV.val (Value.int IntKind.i64 x.snd.snd.fst.snd.fst), AV.val (Value.int IntKind.i64 x.snd.snd.fst.snd.snd.fst), AV.val (Value.int IntKind.i64 x.snd.snd.fst.snd.snd.snd.fst), AV.ro (Con.ints IntKind.u8 x.snd.snd.fst.snd.snd.snd.snd) none]].getD (0 + m.2.2.1.toNat + i - (m.1.length - 0)) [])) = EN.row (((m.1 ++ [x.snd.snd.fst]).drop m.2.2.1.toNat).getD i EN.z) := fun i hi => by
        rw [List.getD_eq_getElem?_getD (l := List.drop _ _), List.getElem?_drop]
        by_cases q : m.2.2.1.toNat + i < m.1.length
        · rw [blt_t (by omega), cond_true, List.getElem?_append_left q, ← List.getD_eq_getElem?_getD, show 0 + (0 + m.2.2.1.toNat + i) = m.2.2.1.toNat + i by omega]
        · rw [blt_f (by omega), cond_false, List.getElem?_append_right (by omega), show 0 + m.2.2.1.toNat + i - (m.1.length - 0) = 0 by omega, show m.2.2.1.toNat + i - m.1.length = 0 by omega]
          rfl
      obtain ⟨u1, u2⟩ := tab_list (M := (m.1 ++ [x.snd.snd.fst]).drop m.2.2.1.toNat) (by rw [List.length_drop, len1]) hrow
      have u3 := en_ok u1 (by rw [u2, List.length_drop, len1]; omega)
      rw [len1] at c1 c3
      replace c1 : (((appX J x.snd.snd.fst).L.length : Int) != IntKind.i64.wrap (((m.1.length + 1 : Nat) : Int) - m.2.2.1)) = false := c1
      replace c2 : decide (0 ≤ m.2.2.1) = true := c2
      replace c3 : decide (m.2.2.1 ≤ ((m.1.length + 1 : Nat) : Int)) = true := c3
      simp only [a1, lt, lt2, rn (fun _ => []), c1, c2, c3, c4, u3, u2, EN_list_con, ← eL, eqEs_refl, sameAs_refl, c6, c8, c9, cond_true', cond_false', Bool.and_self, most_eq, decide_eq_true (Int.le_refl _), ble_t (show (m.1.length + 1) * 56 ≤ 1099511627776 by omega), ble_t (show m.1.length + 1 ≤ 1099511627776 by omega), ble_t (show 0 + m.2.2.1.toNat + (m.1.length + 1 - m.2.2.1.toNat) ≤ m.1.length + 1 by omega), ble_t (show 0 + (m.1.length + 1) ≤ m.1.length + 1 by omega)] at key
      refine ⟨appX J x.snd.snd.fst, (m.1 ++ [x.snd.snd.fst], m.2), _, key, ?_, a2⟩
      have hc : ConW (.tab 5 (m.1.length - 0 + 1) (fun i => bif i.blt (m.1.length - 0) then EN.row (m.1.getD (0 + i) EN.z) else ([[AV.val (Value.int IntKind.i64 x.snd.snd.fst.fst), AV.val (Value.int IntKind.i64 x.snd.snd.fst.snd.fst), AV.val (Value.int IntKind.i64 x.snd.snd.fst.snd.snd.fst), AV.val (Value.int IntKind.i64 x.snd.snd.fst.snd.snd.snd.fst), AV.ro (Con.ints IntKind.u8 x.snd.snd.fst.snd.snd.snd.snd) none]].getD (i - (m.1.length - 0)) []))) (EN.con (m.1 ++ [x.snd.snd.fst])) :=
        tab_snoc EN m.1 x.snd.snd.fst _ (fun i hi => by
          show (bif i.blt m.1.length then _ else _) = _
          rw [blt_t hi, cond_true, Nat.zero_add]) (by
          show (bif m.1.length.blt m.1.length then _ else ([_].getD (m.1.length - m.1.length) [])) = _
          rw [blt_f (Nat.le_refl _), cond_false, Nat.sub_self]; rfl)
      have w1 := WeakP.heap (p := 3) (t := placeL [2, 9, 10, 41, 42, 43] (Try.VP45 l (k + 1)) 208 0) (d := []) (n := 6)
        (es := [⟨5, 0, .cells (.tab 5 (m.1.length - 0 + 1) (fun i => bif i.blt (m.1.length - 0) then EN.row (m.1.getD (0 + i) EN.z) else ([[AV.val (Value.int IntKind.i64 x.snd.snd.fst.fst), AV.val (Value.int IntKind.i64 x.snd.snd.fst.snd.fst), AV.val (Value.int IntKind.i64 x.snd.snd.fst.snd.snd.fst), AV.val (Value.int IntKind.i64 x.snd.snd.fst.snd.snd.snd.fst), AV.ro (Con.ints IntKind.u8 x.snd.snd.fst.snd.snd.snd.snd) none]].getD (i - (m.1.length - 0)) [])))⟩, ⟨4, 0, .cells (.rows false 4 [[.own 5 0 (m.1.length + 1) none 5, .val (.int .i64 m.2.1), .val (.int .i64 m.2.2.1), .val (.int .i64 m.2.2.2)]])⟩, ⟨3, 0, .cells (jrC (appX J x.snd.snd.fst))⟩, ⟨2, 0, .cells (ptC n)⟩, ⟨1, 0, .cells (kC ke)⟩, ⟨0, 0, .cells (eC ee)⟩])
        (es' := [⟨5, 0, .cells (EN.con (m.1 ++ [x.snd.snd.fst]))⟩, ⟨4, 0, .cells (.rows false 4 [[.own 5 0 (m.1.length + 1) none 5, .val (.int .i64 m.2.1), .val (.int .i64 m.2.2.1), .val (.int .i64 m.2.2.2)]])⟩, ⟨3, 0, .cells (jrC (appX J x.snd.snd.fst))⟩, ⟨2, 0, .cells (ptC n)⟩, ⟨1, 0, .cells (kC ke)⟩, ⟨0, 0, .cells (eC ee)⟩])
        (heap_ok [5, 4, 3, 2, 1, 0] rfl (by decide) (by decide)) (.con 5 0 0 rfl hc (EsW.refl _))
      have w2 := WeakP.fzHs (p0 := 3) (m := 208) (ks := [2, 9, 10, 41, 42, 43]) (vs := Try.VP45 l (k + 1)) (vs' := Try.VP45 l (k + 1)) (con := EN.con (m.1 ++ [x.snd.snd.fst])) (n := 6) (id := 5)
        (es := [⟨5, 0, .cells (EN.con (m.1 ++ [x.snd.snd.fst]))⟩, ⟨4, 0, .cells (.rows false 4 [[.own 5 0 (m.1.length + 1) none 5, .val (.int .i64 m.2.1), .val (.int .i64 m.2.2.1), .val (.int .i64 m.2.2.2)]])⟩, ⟨3, 0, .cells (jrC (appX J x.snd.snd.fst))⟩, ⟨2, 0, .cells (ptC n)⟩, ⟨1, 0, .cells (kC ke)⟩, ⟨0, 0, .cells (eC ee)⟩])
        (es' := [⟨4, 0, .cells (mdC (m.1 ++ [x.snd.snd.fst]) m.2.1 m.2.2.1 m.2.2.2)⟩, ⟨3, 0, .cells (jrC (appX J x.snd.snd.fst))⟩, ⟨2, 0, .cells (ptC n)⟩, ⟨1, 0, .cells (kC ke)⟩, ⟨0, 0, .cells (eC ee)⟩])
        (heap_ok [5, 4, 3, 2, 1, 0] rfl (by decide) (by decide)) rfl rfl (FzL.refl _ _ _)
        (.skip (.row 4 0 rfl (fun q => by cases q) (FzC.oneT (.cons (.inr (.inr ⟨none, by show AV.own 5 0 (m.1.length + 1) none 5 = .own 5 0 (m.1 ++ [x.snd.snd.fst]).length none 5; rw [len1], rfl⟩)) (FzL.refl _ _ _)) (by
          intro v hv
          simp only [List.mem_cons, List.not_mem_nil, or_false] at hv
          rcases hv with rfl | rfl | rfl | rfl <;> rfl)) (EsFz.rest (by show ∀ i ∈ [3, 2, 1, 0], Nat.beq i 5 = false; decide))))
      have w3 := WeakP.canon (p := 3) (s := stOf 208 [2, 9, 10, 41, 42, 43] (Try.VP45 l (k + 1)) ⟨6, [⟨4, 0, .cells (mdC (m.1 ++ [x.snd.snd.fst]) m.2.1 m.2.2.1 m.2.2.2)⟩, ⟨3, 0, .cells (jrC (appX J x.snd.snd.fst))⟩, ⟨2, 0, .cells (ptC n)⟩, ⟨1, 0, .cells (kC ke)⟩, ⟨0, 0, .cells (eC ee)⟩]⟩) (heap_ok [4, 3, 2, 1, 0] rfl (by decide) (by decide)) [2, 9, 10, 41, 42, 43]
      have e3 : canonP 3 (some [2, 9, 10, 41, 42, 43]) (stOf 208 [2, 9, 10, 41, 42, 43] (Try.VP45 l (k + 1)) ⟨6, [⟨4, 0, .cells (mdC (m.1 ++ [x.snd.snd.fst]) m.2.1 m.2.2.1 m.2.2.2)⟩, ⟨3, 0, .cells (jrC (appX J x.snd.snd.fst))⟩, ⟨2, 0, .cells (ptC n)⟩, ⟨1, 0, .cells (kC ke)⟩, ⟨0, 0, .cells (eC ee)⟩]⟩) = Try.SP45 n ee ke l (k + 1) (appX J x.snd.snd.fst) (m.1 ++ [x.snd.snd.fst], m.2) := by kernel_rfl
      rw [e3] at w3
      exact (w1.trans w2).trans w3
  | false =>
  rw [h1] at key
  cases h2 : (x.fst == 2) with
  | true =>
    rw [h2] at key
    obtain ⟨a1, a2⟩ := pinv_sync h
    obtain ⟨c1, c2, c3, c4, c5, c6, c7, c8, c9⟩ := chk _ _ a2
    simp only [a1, bne_self_eq_false, c1, c2, c3, c4, c5, c6, c7, c8, c9, EN_list_con, eqEs_refl, sameAs_refl, cond_true', cond_false', Bool.and_self] at key
    exact ⟨_, _, _, key, WeakP.refl (Try.okP45 n ee ke l (k + 1) _ _), a2⟩
  | false =>
  rw [h2] at key
  cases h3 : (x.fst == 3) with
  | true =>
    rw [h3] at key
    cases he : ((trimJ J x.snd.fst).snd != 0) with
    | true =>
      rw [he] at key
      exact stay key
    | false =>
      rw [he] at key
      obtain ⟨a1, a0, a00, a2⟩ := pinv_trim h (x := x.snd.fst) (by omega) (by simpa using he)
      obtain ⟨c1, c2, c3, c4, c5, c6, c7, c8, c9⟩ := chk _ _ a2
      rw [wrap64 (m.2.2.1 + x.snd.fst) (by omega) (by omega)] at key
      simp only [a1, bne_self_eq_false, c1, c2, c3, c4, c5, c6, c7, c8, c9, EN_list_con, eqEs_refl, sameAs_refl, cond_true', cond_false', Bool.and_self] at key
      exact ⟨_, _, _, key, WeakP.refl (Try.okP45 n ee ke l (k + 1) _ _), a2⟩
  | false =>
  rw [h3] at key
  cases h4 : (x.fst == 4) with
  | true =>
    rw [h4] at key
    have ef : failD (J.N, J.B, SW.list (SW.con J.P)) x.snd.snd.snd = flD J x.snd.snd.snd := rfl
    have ok2 : okSW (SW.con J.P) = true := by rw [Bool.and_eq_true] at ok1; exact ok1.1
    simp only [ef, ok2, ble_t hkx, cond_true', cond_false', Bool.and_self] at key
    cases he : ((flD J x.snd.snd.snd).snd != 0) with
    | true =>
      rw [he] at key
      exact stay key
    | false =>
      rw [he] at key
      obtain ⟨B', a1, a2, a3, a4, a5, a6, a7, a8⟩ := pinv_fail h (kp := x.snd.snd.snd) (by omega) (by simpa using he)
      obtain ⟨c1, c2, c3, c4, c5, c6, c7, c8, c9⟩ := chk _ _ a8
      have o1 : okSW (SW.con ([] : List SwD)) = true := okSW_le (by simp)
      simp only [a3, a4, o1, a2, show Nat.beq ([] : List SwD).length 0 = true from rfl, isSt_refl, propB_t a6, a7, bne_self_eq_false, c1, c2, c3, c4, c5, c6, c7, c8, c9, EN_list_con, eqEs_refl, sameAs_refl, cond_true', cond_false', Bool.and_self] at key
      exact ⟨_, _, _, key, WeakP.refl (Try.okP45 n ee ke l (k + 1) _ _), a8⟩
  | false =>
    rw [h4] at key
    obtain ⟨c1, c2, c3, c4, c5, c6, c7, c8, c9⟩ := chk _ _ h.next
    simp only [c1, c2, c3, c4, c5, c6, c7, c8, c9, EN_list_con, eqEs_refl, sameAs_refl, cond_true', cond_false', Bool.and_self] at key
    exact stay key
end Go.Ev
/- JournalRing: its loop. -/
namespace Go.Ev
open Go.Proofs
end Go.Ev
/- JournalRing: the loop's law. -/
namespace Go.Ev
open Go.Proofs
end Go.Ev
/- JournalRing: the walk and the law. -/
namespace Go.Ev
open Go.Proofs
def rd (d : DevD) : DevD := (d.1, d.2.1, SW.list (SW.con d.2.2))
theorem rd_eq (d : DevD) : rd d = d := by unfold rd; rw [SW_list_con]
end Go.Ev
/- play (JournalTorn). -/
namespace Go.Ev
open Go.Proofs
def Try.H045 (n : Int) (ee : EntD) (ke : List Int) : Heap := ⟨3, [⟨2, 0, .cells (ptC n)⟩, ⟨1, 0, .cells (kC ke)⟩, ⟨0, 0, .cells (eC ee)⟩]⟩
def Try.s0P45 (n : Int) (ee : EntD) (ke : List Int) (l : List OpD) (J : JD) : St := stOf 208 [2, 9, 10, 41, 42, 43] (Try.VP45 l 0) ⟨5, [⟨4, 0, .cells (.rows true 4 [[.val (.slice none 0 0), .val (.int .i64 0), .val (.int .i64 0), .val (.int .i64 0)]])⟩, ⟨3, 0, .cells (jrC J)⟩, ⟨2, 0, .cells (ptC n)⟩, ⟨1, 0, .cells (kC ke)⟩, ⟨0, 0, .cells (eC ee)⟩]⟩
def Try.x0P45 (n : Int) (ee : EntD) (ke : List Int) : AX × St := (.exit 0, stOf 208 [] [] (Try.H045 n ee ke ))
def Try.LP45 (n : Int) (ee : EntD) (ke : List Int) (l : List OpD) (J : JD) : LSum := atL (Try.s0P45 n ee ke l J) (.grd (propB (PInv n 0 J ([], 0, 0, 0) ∧ PB n l)) (.out (Try.x0P45 n ee ke )))
theorem Try.lP045 (n : Int) (ee : EntD) (ke : List Int) (l : List OpD) (J : JD) (hh : bytesOk ee.2.2.2.2 = true) : ∀ s e s', s.h.ok → (Try.LP45 n ee ke l J s).run = some (e, s') → TripleP Try.prog 3 (.loop Try.bP) s e s' := by
  refine atLP_grd (fun hp => ?_)
  obtain ⟨hI, hn, hl, hops⟩ := propB_eq hp
  have w0 : WeakP 3 (Try.s0P45 n ee ke l J) (Try.SP45 n ee ke l 0 J ([], 0, 0, 0)) := WeakP.heap (heap_ok [4, 3, 2, 1, 0] rfl (by decide) (by decide)) (.con 4 0 0 rfl (ConW.one (.cons (AW.nil rfl) (AWs.refl _))) (EsW.refl _))
  have okH : (Try.H045 n ee ke ).ok := heap_ok [2, 1, 0] rfl (by decide) (by decide)
  have hX := fun (k : Nat) (J : JD) (m : MD) => codeP_sound (ρ := AX × St) (p := 3) (callF_sound (Try.eP45 n ee ke hh) 5) (Try.eP45 n ee ke hh).ok (Try.eP45 n ee ke hh).mix ((Try.EP45 n ee ke ).keep 43) (Try.lP45 n ee ke l k J m) Try.bP (AllL.of1 (a := Try.bQ) (by kernel_rfl) (LsOkP.of rfl rfl (Try.lQ45 n ee ke l k J m _ hh)))
  have key := loop_tripleX (T := Nat × JD × MD) (X := fun x => fun K s => codeP (Try.EP45 n ee ke ) (callF (Try.EP45 n ee ke ) 5) ((Try.EP45 n ee ke ).keep 43) (Try.lP45 n ee ke l x.1 x.2.1 x.2.2) 3 Try.bP K s) (fun x => hX x.1 x.2.1 x.2.2) [2, 9, 10, 41, 42, 43] [6]
    (fun x => Try.SP45 n ee ke l x.1 x.2.1 x.2.2) (fun x => x.1 ≤ l.length ∧ PInv n x.1 x.2.1 x.2.2) (fun x => l.length - x.1) (fun _ => Try.x0P45 n ee ke ) (fun x _ => Try.okP45 n ee ke l x.1 x.2.1 x.2.2) ?_ (0, J, ([], 0, 0, 0)) ⟨Nat.zero_le _, hI⟩
  · intro s e s' hk hL
    obtain ⟨rfl, hA2⟩ := atL_some hL
    have hA2 := Option.some.inj hA2
    injection hA2 with q1 q2
    rw [← q1, ← q2]
    exact TripleP.weak w0 key
  · rintro ⟨k, J, m⟩ ⟨h1, h2⟩
    replace h1 : k ≤ l.length := h1
    replace h2 : PInv n k J m := h2
    by_cases hk : k < l.length
    · obtain ⟨J', m', s1, r1, r2, r3⟩ := Try.step45 n ee ke l hl hops k J m h2 hk
      exact .inl ⟨(k + 1, J', m'), s1, r1, r2, ⟨hk, r3⟩, by show l.length - (k + 1) < l.length - k; omega, rfl⟩
    · have key := Try.rP45 n ee ke l k J m
      rw [declt_nat, decide_eq_false hk] at key
      exact .inr ⟨_, key, WeakP.refl okH, by show (AX.exit 0) ≠ .normal; intro h; cases h⟩
theorem Try.w4345 (n : Int) (ee : EntD) (ke : List Int) (l : List OpD) : rootE (Try.EP45 n ee ke ) 5 43 3 (lsumsOf [(9, Try.LP45 n ee ke l (fmtJ (rd (newD n).1)).1)]) [.val (.int .i64 n), .ro (OP.con l) none, .clo (.func 45) [] [.ptr 0 0 0, .ptr 1 0 0, .ptr 2 0 0]] (Try.H045 n ee ke ) =
 bif (newD n).snd != 0 then
 some (.val (.bool true), ⟨3, [⟨2, 0, .cells (.rows true 1 ([.val (.int .i64 (n))] :: []))⟩, ⟨1, 0, .cells (.rows true 1 ([.ro (.ints .i64 (ke)) none] :: []))⟩, ⟨0, 0, .cells (.rows true 5 ([.val (.int .i64 (ee.fst)), .val (.int .i64 (ee.snd.fst)), .val (.int .i64 (ee.snd.snd.fst)), .val (.int .i64 (ee.snd.snd.snd.fst)), .ro (.ints .u8 (ee.snd.snd.snd.snd)) none] :: []))⟩]⟩)
 else
 bif okSW (SW.con (newD n).fst.snd.snd) then
 bif (fmtJ ((newD n).fst.fst, (newD n).fst.snd.fst, SW.list (SW.con (newD n).fst.snd.snd))).snd != 0 then
 some (.val (.bool false), ⟨3, [⟨2, 0, .cells (.rows true 1 ([.val (.int .i64 (n))] :: []))⟩, ⟨1, 0, .cells (.rows true 1 ([.ro (.ints .i64 (ke)) none] :: []))⟩, ⟨0, 0, .cells (.rows true 5 ([.val (.int .i64 (ee.fst)), .val (.int .i64 (ee.snd.fst)), .val (.int .i64 (ee.snd.snd.fst)), .val (.int .i64 (ee.snd.snd.snd.fst)), .ro (.ints .u8 (ee.snd.snd.snd.snd)) none] :: []))⟩]⟩)
 else
 bif isSt (Try.s0P45 n ee ke l (fmtJ (rd (newD n).fst)).fst) (Try.s0P45 n ee ke l (fmtJ (rd (newD n).fst)).fst) then
 bif propB (PInv n 0 (fmtJ (rd (newD n).fst)).fst ([], 0, 0, 0) ∧ PB n l) then
 some (.val (.bool true), ⟨3, [⟨2, 0, .cells (.rows true 1 ([.val (.int .i64 (n))] :: []))⟩, ⟨1, 0, .cells (.rows true 1 ([.ro (.ints .i64 (ke)) none] :: []))⟩, ⟨0, 0, .cells (.rows true 5 ([.val (.int .i64 (ee.fst)), .val (.int .i64 (ee.snd.fst)), .val (.int .i64 (ee.snd.snd.fst)), .val (.int .i64 (ee.snd.snd.snd.fst)), .ro (.ints .u8 (ee.snd.snd.snd.snd)) none] :: []))⟩]⟩)
 else
 none
 else
 none
 else
 none := by kernel_rfl
def Try.F4345 (n : Int) (ee : EntD) (ke : List Int) (l : List OpD) (args : List AV) (h : Heap) : Ans (AV × Heap) := .grd (isAH args h [.val (.int .i64 n), .ro (OP.con l) none, .clo (.func 45) [] [.ptr 0 0 0, .ptr 1 0 0, .ptr 2 0 0]] (Try.H045 n ee ke )) (.grd (propB (PB n l)) (.out (.val (.bool true), Try.H045 n ee ke )))
def Try.A4345 (n : Int) (ee : EntD) (ke : List Int) (l : List OpD) : AFun := effA (Try.F4345 n ee ke l)
theorem Try.sum4345 (n : Int) (ee : EntD) (ke : List Int) (l : List OpD) (hh : bytesOk ee.2.2.2.2 = true) : SumC Try.prog 43 (Try.A4345 n ee ke l) := by
  refine effSumR 43 ⟨Try.f43, _, Try.fnOk43.1, Try.fnOk43.2, rfl⟩ ?_
  intro args h v h2 hok hs
  unfold Try.F4345 at hs
  rw [Ans.run_grd, Ans.run_grd] at hs
  cases hb : isAH args h [.val (.int .i64 n), .ro (OP.con l) none, .clo (.func 45) [] [.ptr 0 0 0, .ptr 1 0 0, .ptr 2 0 0]] (Try.H045 n ee ke ) with
  | false => rw [hb] at hs; cases hs
  | true =>
  rw [hb, cond_true] at hs
  obtain ⟨rfl, rfl⟩ := isAH_eq hb
  cases hd : propB (PB n l) with
  | false => rw [hd] at hs; cases hs
  | true =>
  rw [hd, cond_true] at hs
  have hs := Option.some.inj hs
  have hPB := propB_eq hd
  have okH : (Try.H045 n ee ke ).ok := heap_ok [2, 1, 0] rfl (by decide) (by decide)
  refine rootE_alone (Try.eP45 n ee ke hh) (d := 5) (g := 43) (p := 3) (ls := lsumsOf [(9, Try.LP45 n ee ke l (fmtJ (rd (newD n).1)).1)]) (AllL.of2 (a := Try.bP) (b := Try.bQ) (by kernel_rfl) (LsOkP.of rfl rfl (Try.lP045 n ee ke l _ hh)) trivial) okH ((Try.w4345 n ee ke l).trans ?_)
  rw [SW_list_con, isSt_refl, rd_eq]
  by_cases h0 : 8 ≤ n
  · have hn := hPB.1
    obtain ⟨f1, f2, f3⟩ := fmt_jx h0 (show n ≤ 4096 by omega)
    have e1 : ((newD n).1.1, (newD n).1.2.1, (newD n).1.2.2) = (newD n).1 := rfl
    rw [e1, f1, f2]
    have hI := pinv_fmt h0 hn
    unfold fmtX at hI
    rw [propB_t ⟨hI, hPB⟩, show okSW (SW.con (([] : List SwD))) = true from okSW_le (by simp), ← hs]
    rfl
  · have e2 : newD n = noDev 1 := by unfold newD; rw [decide_eq_true (show n < 8 by omega), Bool.true_or]; rfl
    rw [e2, ← hs]; rfl
end Go.Ev
/- JournalTorn, for every input: the law answers true, and its arguments read as they did. -/
namespace Go.Ev
open Go.Proofs
def Try.t8s (n : Int) (ee : EntD) (ke : List Int) (l : List OpD) : List (Nat × AFun) := [(12, constA (.bool true)), (42, Try.A42), (43, Try.A4345 n ee ke l)]
def Try.E8s (n : Int) (ee : EntD) (ke : List Int) (l : List OpD) : Env := Try.env0 false (sumsOf (Try.t8s n ee ke l)) (keepF 0 [])
theorem Try.e8s (n : Int) (ee : EntD) (ke : List Int) (l : List OpD) (hh : bytesOk ee.2.2.2.2 = true) : EnvOk2 Try.prog (Try.E8s n ee ke l) := Try.envOk false (sumsOf (Try.t8s n ee ke l)) _ (sumsOf_ok (show AllS Try.prog (Try.t8s n ee ke l) from ⟨Try.saneSum, Try.sum42, Try.sum4345 n ee ke l hh, trivial⟩))
theorem Try.w8s (n : Int) (ee : EntD) (ke : List Int) (l : List OpD) : rootS (Try.E8s n ee ke l) 5 8 (lsumsOf []) [.val (.int .i64 n), .ro (OP.con l) none, .agg (entRow ee), .ro (.ints .i64 ke) none] =
 bif decide (n > 60) then
 some (.val (.bool true), ⟨0, []⟩)
 else
 bif okOP (OP.con l) then
 bif fewB (OP.list (OP.con l)) then
 bif decide ((↑ee.snd.snd.snd.snd.length : Int) > 400) then
 some (.val (.bool true), ⟨0, []⟩)
 else
 bif decide ((↑ke.length : Int) > 30) then
 some (.val (.bool true), ⟨0, []⟩)
 else
 bif isAH ([AV.val (Value.int IntKind.i64 n), AV.ro (OP.con l) none, AV.clo (Fn.func 45) [] [AV.ptr 0 0 0, AV.ptr 1 0 0, AV.ptr 2 0 0]]) (Try.H045 n ee ke) ([AV.val (Value.int IntKind.i64 n), AV.ro (OP.con l) none, AV.clo (Fn.func 45) [] [AV.ptr 0 0 0, AV.ptr 1 0 0, AV.ptr 2 0 0]]) (Try.H045 n ee ke) then
 bif propB (PB n l) then
 some (.val (.bool true), ⟨0, []⟩)
 else
 none
 else
 none
 else
 some (.val (.bool true), ⟨0, []⟩)
 else
 none := by kernel_rfl
theorem okOP_le {L : List OpD} (h : L.length ≤ 9223372036854775807) : okOP (OP.con L) = true := by
  unfold okOP
  rw [OP.ok_con, Bool.true_and]
  exact ble_t (a := L.length) h
theorem few_len {l : List OpD} (h : fewB l = true) : l.length ≤ 60 := by
  unfold fewB at h
  simp only [Bool.and_eq_true, decide_eq_true_eq] at h
  omega
theorem Try.law8 (n : Int) (ee : EntD) (ke : List Int) (l : List OpD) (hh : bytesOk ee.2.2.2.2 = true) (hl : l.length ≤ 9223372036854775807) (hops : ∀ x ∈ l, bytesOk x.2.2.1.2.2.2.2 = true ∧ x.2.2.2.length ≤ 9223372036854775807) : Alone Try.prog 8 [.val (.int .i64 n), .ro (OP.con l) none, .agg (entRow ee), .ro (.ints .i64 ke) none] (.val (.bool true)) ⟨0, []⟩ := by
  refine rootS_alone (Try.e8s n ee ke l hh) (d := 5) (g := 8) (ls := lsumsOf []) (AllL.of0 (by kernel_rfl)) ((Try.w8s n ee ke l).trans ?_)
  cases h1 : decide (n > 60) with
  | true => rfl
  | false =>
  rw [decide_eq_false_iff_not] at h1
  rw [okOP_le hl, OP.list_con]
  cases h2 : fewB l with
  | false => rfl
  | true =>
    cases q1 : decide ((ee.2.2.2.2.length : Int) > 400) with
    | true => rfl
    | false =>
    cases q2 : decide ((ke.length : Int) > 30) with
    | true => rfl
    | false =>
    rw [propB_t (show PB n l from ⟨by omega, few_len h2, hops⟩), isAH_refl]
    rfl
theorem argsA_play {H : Type} (d1 d2 d3 d4 : DataW H) : argsA [.int .i64, .sl opSh, entSh, intsSh] [d1, d2, d3, d4] = [.val (.int .i64 (intD d1)), .ro (OP.con ((elemsD d2).map opD)) none, .agg (entRow (entD d3)), .ro (.ints .i64 (intsD d4)) none] := by
  rw [← avs_ops]
  rfl
end Go.Ev
namespace Go.Proofs.Ytninaidfifiliaa
open Go.Ev
theorem torn_contract (H : Type) (enc : TypeId × Value → H) (W : World) (base : Nat) (args : Array Value) (ds gs : List (DataW H)) (before : List MemPlace)
    (hval : ∀ (j : Nat) t v, Try.f8.params[j]? = some t → args[j]? = some v → Value.okWide Try.prog W .any base t v)
    (hW : DataW.Whole enc Try.prog Try.f8.params.toList Rows.journalTornSpec.vars false W args.toList ds gs before) :
    Calls Try.prog 8 args W fun e W' => ∃ v, e = .returned v ∧ Rows.journalTornSpec.post enc Try.prog Try.f8 false true false false W args v W' := by
  have hsh : shsOk Try.prog [.int .i64, .sl opSh, entSh, intsSh] Try.f8.params.toList = true := by kernel_rfl
  obtain ⟨p, q, hA, hV, _⟩ := id hW
  obtain ⟨hwf, hlen⟩ := args_wf hsh hA
  obtain rfl : gs = [] := by cases gs with | nil => rfl | cons => cases hV
  match ds, hlen with
  | [d1, d2, d3, d4], _ =>
    simp only [wfDL, List.headD_cons, List.tail_cons] at hwf
    have hw := ops_wf hwf.2.1
    have law := Try.law8 (intD d1) (entD d3) (intsD d4) ((elemsD d2).map opD) (by
      have h3 := hwf.2.2.1
      simp only [wfD, wfDL] at h3
      exact bytes_wf (d := tl2 (partsD d3)) (by simp only [wfD]; exact h3.2.2.1)) hw.2 hw.1
    rw [← argsA_play] at law
    exact law_calls (b := 4) Try.kidsG Try.fullG (by kernel_rfl) rfl Try.underlying4 (by kernel_rfl) rfl hsh hval hW law
theorem torn_lifted (os : Os) (started : os.Started) (H : Type) (enc : TypeId × Value → H) :
    ReturnsInHanded {} Try.checked os 8 .any (Rows.journalTornSpec.pre6 enc Try.prog Try.f8 Rows.journalTornRow.domain false) (Rows.journalTornSpec.post enc Try.prog Try.f8 false true false false) := by
  refine returnsInHanded_of_change (C := Try.checked) Try.ownG started (by kernel_rfl) Try.func8
    (ChangeSpec.witness6 (enc := enc) (C := Try.checked) false ⟨#[], #[.int .i64 0, .slice none 0 0, .agg #[.int .i64 0, .int .i64 0, .int .i64 0, .int .i64 0, .slice none 0 0], .slice none 0 0], []⟩ 8 (by kernel_rfl) (by kernel_rfl) (by kernel_rfl) (by kernel_rfl)) ?_
  intro W base args ds gs before hval hW _ _
  exact torn_contract H enc W base args ds gs before hval hW
theorem journalTorn : Rows.JournalTornSaid :=
  OpenClaim.holds_of_wide 8 Try.f8 rfl rfl rfl rfl rfl rfl rfl ⟨rfl, rfl, rfl, rfl, rfl⟩ rfl rfl rfl rfl rfl (by kernel_rfl) Try.func8 (by kernel_rfl)
    (of_decide_eq_true (by kernel_rfl)) (by unfold Func.isWrapper; first | (rw [if_pos (by decide +kernel)]; kernel_rfl) | (rw [if_neg (by decide +kernel)]; exact ⟨rfl, rfl⟩))
    (fun os started H enc _ => torn_lifted os started H enc)
end Go.Proofs.Ytninaidfifiliaa
