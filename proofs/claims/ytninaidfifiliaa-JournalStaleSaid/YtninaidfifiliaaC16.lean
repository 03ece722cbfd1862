/- JournalStale, for every input: the law answers true, and its arguments read as they did. -/
import Derived.Test.YtninaidfifiliaaC15
set_option linter.unusedSectionVars false
set_option linter.unusedSimpArgs false
set_option linter.unusedVariables false
set_option maxRecDepth 100000
set_option maxRecDepth 1000000
noncomputable section
/- The closure of JournalStale: what it names. -/
namespace Go.Ev
open Go.Proofs
def ptC (a : Int) : Con := .rows true 1 [[.val (.int .i64 a)]]
def kC (keep : List Int) : Con := .rows true 1 [[.ro (.ints .i64 keep) none]]
def mC (mo : List EntD) : Con := .rows true 1 [[.ro (EN.con mo) none]]
def okC (b : Bool) : Con := .rows true 1 [[.val (.bool b)]]
def dvC (D : DevD) : Con := .rows true 3 [[.val (.int .i64 D.1), .ro (.ints .u8 D.2.1) none, .ro (SW.con D.2.2) none]]
def cutA (K : JD) (keep : List Int) : List Int := List.take ((if (K.P.length : Int) < (keep.length : Int) then (K.P.length : Int) else (keep.length : Int)).toNat - 0) (List.drop 0 keep)
def cl49 (J : JD) (keep : List Int) : List Int := (cutA J keep).map clampI
def xr (J : JD) (ke : List Int) (mo : List EntD) : JD := appsN (kOf J (cl49 J ke)) mo mo.length
def yr (J : JD) : JD := (syncJ (reJ J)).1
def MoOk (mo : List EntD) : Prop := mo.length ≤ 10 ∧ ∀ e ∈ mo, bytesOk e.2.2.2.2 = true
def Try.t49 : List (Nat × AFun) := [(25, Try.A25), (39, Try.A39), (41, Try.A41), (46, Try.A46), (47, Try.A47), (48, Try.A48)]
def Try.E49 : Env := Try.env0 false (sumsOf Try.t49) (keepF 49 [(6, [4, 5, 6, 9, 38, 39]), (15, [5, 11, 13, 70, 71, 72])])
def Try.b49 : Code := nthD .skip (loopsOf (bodyOf Try.E49 49)) 0
def Try.c49 : Code := nthD .skip (loopsOf (bodyOf Try.E49 49)) 1
theorem Try.e49 : EnvOk2 Try.prog Try.E49 := Try.envOk false (sumsOf Try.t49) _ (sumsOf_ok (show AllS Try.prog Try.t49 from ⟨Try.sum25, Try.sum39, Try.sum41, Try.sum46, Try.sum47, Try.sum48, trivial⟩))
theorem cut_len (K : JD) (keep : List Int) : (cutA K keep).length ≤ K.P.length := by
  unfold cutA
  rw [List.length_take, Nat.sub_zero]
  split <;> omega
end Go.Ev
/- The closure of JournalStale: its walk (entries that are only read). -/
namespace Go.Ev
open Go.Proofs
def Try.H49r (q : Int) (ke : List Int) (mo : List EntD) : Heap := ⟨4, [⟨3, 0, .cells (okC true)⟩, ⟨2, 0, .cells (mC mo)⟩, ⟨1, 0, .cells (kC ke)⟩, ⟨0, 0, .cells (ptC q)⟩]⟩
def Try.h49ar (q : Int) (ke : List Int) (mo : List EntD) (J : JD) (l : List Int) : Heap := ⟨6, [⟨5, 0, .cells (.ints .i64 l)⟩, ⟨4, 0, .cells (jrC J)⟩, ⟨3, 0, .cells (okC true)⟩, ⟨2, 0, .cells (mC mo)⟩, ⟨1, 0, .cells (kC ke)⟩, ⟨0, 0, .cells (ptC q)⟩]⟩
def Try.s49ar (q : Int) (ke : List Int) (mo : List EntD) (J : JD) (l : List Int) (k : Nat) : St := stOf 123 [4, 5, 6, 9, 38, 39] [.ptr 2 0 0, .ptr 3 0 0, .ptr 4 0 0, .own 5 0 l.length none 1, .val (.int .i64 l.length), .val (.int .i64 k)] (Try.h49ar q ke mo J l)
def Try.x49ar (q : Int) (ke : List Int) (mo : List EntD) (J : JD) (l : List Int) : St := stOf 123 [4, 5, 6, 9] [.ptr 2 0 0, .ptr 3 0 0, .ptr 4 0 0, .ro (.ints .i64 l) none] ⟨6, [⟨4, 0, .cells (jrC J)⟩, ⟨3, 0, .cells (okC true)⟩, ⟨2, 0, .cells (mC mo)⟩, ⟨1, 0, .cells (kC ke)⟩, ⟨0, 0, .cells (ptC q)⟩]⟩
def Try.L49ar (q : Int) (ke : List Int) (mo : List EntD) (J : JD) (l : List Int) : LSum := atL (Try.s49ar q ke mo J l 0) (.grd (Nat.ble l.length 1000000) (.out (.exit 0, Try.x49ar q ke mo J (l.map clampI))))
def Try.B49ar (s : St) : Option (AX × St) := codeP Try.E49 (callF Try.E49 5) (Try.E49.keep 49) (lsumsOf []) 4 Try.b49 (outKP 4 [4, 5, 6, 9, 38, 39] [4, 5, 6, 9]) s
def Try.h49br (q : Int) (ke : List Int) (mo : List EntD) (D : DevD) (X : JD) : Heap := ⟨6, [⟨5, 0, .cells (jrC X)⟩, ⟨4, 0, .cells (dvC D)⟩, ⟨3, 0, .cells (okC true)⟩, ⟨2, 0, .cells (mC mo)⟩, ⟨1, 0, .cells (kC ke)⟩, ⟨0, 0, .cells (ptC q)⟩]⟩
def Try.s49br (q : Int) (ke : List Int) (mo : List EntD) (D : DevD) (X : JD) (k : Nat) : St := stOf 123 [5, 11, 13, 70, 71, 72] [.ptr 3 0 0, .ptr 4 0 0, .ptr 5 0 0, .ro (EN.con mo) none, .val (.int .i64 mo.length), .val (.int .i64 k)] (Try.h49br q ke mo D X)
def Try.x49br (q : Int) (ke : List Int) (mo : List EntD) (D : DevD) (X : JD) : St := stOf 123 [5, 11, 13] [.ptr 3 0 0, .ptr 4 0 0, .ptr 5 0 0] (Try.h49br q ke mo D X)
def Try.L49br (q : Int) (ke : List Int) (mo : List EntD) (D : DevD) (X : JD) : LSum := atL (Try.s49br q ke mo D X 0) (.grd (propB (StI X.N X ∧ MoOk mo)) (.out (.exit 2, Try.x49br q ke mo D (appsN X mo mo.length))))
def Try.B49br (s : St) : Option (AX × St) := codeP Try.E49 (callF Try.E49 5) (Try.E49.keep 49) (lsumsOf []) 4 Try.c49 (outKP 4 [5, 11, 13, 70, 71, 72] [5, 11, 13]) s
theorem Try.r49ar (q : Int) (ke : List Int) (mo : List EntD) (J : JD) (l : List Int) (k : Nat) : Try.B49ar (Try.s49ar q ke mo J l k) =
 bif decide ((↑k : Int) < (↑l.length : Int)) then
 bif inR (↑k : Int) l.length then
 bif (0 + k).blt l.length then
 bif inR (↑k : Int) l.length then
 bif (0 + k).blt l.length then
 some (.normal, stOf 123 [4, 5, 6, 9, 38, 39] [.ptr 2 0 0, .ptr 3 0 0, .ptr 4 0 0, .own 5 0 (l.length) none 1, .val (.int .i64 ((↑l.length : Int))), .val (.int .i64 (IntKind.i64.wrap ((↑k : Int) + 1)))] ⟨6, [⟨5, 0, .cells (.ints .i64 (l.set (0 + k) (if 64 < if 0 > l.getD (0 + k) 0 then 0 else l.getD (0 + k) 0 then 64 else if 0 > l.getD (0 + k) 0 then 0 else l.getD (0 + k) 0)))⟩, ⟨4, 0, .cells (jrC J)⟩, ⟨3, 0, .cells (okC true)⟩, ⟨2, 0, .cells (mC mo)⟩, ⟨1, 0, .cells (kC ke)⟩, ⟨0, 0, .cells (ptC q)⟩]⟩ )
 else
 none
 else
 none
 else
 none
 else
 none
 else
 some (.exit 0, stOf 123 [4, 5, 6, 9] [.ptr 2 0 0, .ptr 3 0 0, .ptr 4 0 0, .own 5 0 (l.length) none 1] ⟨6, [⟨5, 0, .cells (.ints .i64 (l))⟩, ⟨4, 0, .cells (jrC J)⟩, ⟨3, 0, .cells (okC true)⟩, ⟨2, 0, .cells (mC mo)⟩, ⟨1, 0, .cells (kC ke)⟩, ⟨0, 0, .cells (ptC q)⟩]⟩ ) := by kernel_rfl
theorem Try.r49br (q : Int) (ke : List Int) (mo : List EntD) (D : DevD) (X : JD) (k : Nat) : Try.B49br (Try.s49br q ke mo D X k) =
 bif decide ((↑k : Int) < (↑mo.length : Int)) then
 bif inR (↑k : Int) mo.length then
 bif okSW (SW.con X.P) && okEN (EN.con X.L) then
 bif (reJ X).L.length.ble 1000000 then
 bif (appJ (reJ X) (mo.getD k EN.z)).snd == 0 then
 some (.normal, stOf 123 [5, 11, 13, 70, 71, 72] [.ptr 3 0 0, .ptr 4 0 0, .ptr 5 0 0, .ro (EN.con mo) none, .val (.int .i64 ((↑mo.length : Int))), .val (.int .i64 (IntKind.i64.wrap ((↑k : Int) + 1)))] ⟨6, [⟨5, 0, .cells (jrC (appJ (reJ X) (mo.getD k EN.z)).fst)⟩, ⟨4, 0, .cells (.rows true 3 ([.val (.int .i64 (D.fst)), .ro (.ints .u8 (D.snd.fst)) none, .ro (SW.con D.snd.snd) none] :: []))⟩, ⟨3, 0, .cells (okC true)⟩, ⟨2, 0, .cells (mC mo)⟩, ⟨1, 0, .cells (kC ke)⟩, ⟨0, 0, .cells (ptC q)⟩]⟩ )
 else
 some (.normal, stOf 123 [5, 11, 13, 70, 71, 72] [.ptr 3 0 0, .ptr 4 0 0, .ptr 5 0 0, .ro (EN.con mo) none, .val (.int .i64 ((↑mo.length : Int))), .val (.int .i64 (IntKind.i64.wrap ((↑k : Int) + 1)))] ⟨6, [⟨5, 0, .cells (jrC X)⟩, ⟨4, 0, .cells (.rows true 3 ([.val (.int .i64 (D.fst)), .ro (.ints .u8 (D.snd.fst)) none, .ro (SW.con D.snd.snd) none] :: []))⟩, ⟨3, 0, .cells (okC true)⟩, ⟨2, 0, .cells (mC mo)⟩, ⟨1, 0, .cells (kC ke)⟩, ⟨0, 0, .cells (ptC q)⟩]⟩ )
 else
 none
 else
 none
 else
 none
 else
 some (.exit 2, stOf 123 [5, 11, 13] [.ptr 3 0 0, .ptr 4 0 0, .ptr 5 0 0] ⟨6, [⟨5, 0, .cells (jrC X)⟩, ⟨4, 0, .cells (.rows true 3 ([.val (.int .i64 (D.fst)), .ro (.ints .u8 (D.snd.fst)) none, .ro (SW.con D.snd.snd) none] :: []))⟩, ⟨3, 0, .cells (okC true)⟩, ⟨2, 0, .cells (mC mo)⟩, ⟨1, 0, .cells (kC ke)⟩, ⟨0, 0, .cells (ptC q)⟩]⟩ ) := by kernel_rfl
theorem Try.w49r (q : Int) (ke : List Int) (mo : List EntD) (J : JD) (c : Con) (cap : Option Nat) (x y z : Int) : rootE Try.E49 5 49 4 (lsumsOf [(6, Try.L49ar (IntKind.i64.wrap (q + 1)) ke mo J (cutA J ke)), (15, Try.L49br (IntKind.i64.wrap (q + 1)) ke mo (flD J (cl49 J ke)).1 (kOf J (cl49 J ke)))]) [jrA J, .agg [.ro c cap, .val (.int .i64 x), .val (.int .i64 y), .val (.int .i64 z)], .ptr 0 0 0, .ptr 1 0 0, .ptr 2 0 0, .ptr 3 0 0] (Try.H49r q ke mo) =
 bif (IntKind.i64.wrap (q + 1)).tmod 4 != 1 then
 some (.val (.bool true), ⟨4, [⟨3, 0, .cells (okC true)⟩, ⟨2, 0, .cells (mC mo)⟩, ⟨1, 0, .cells (kC ke)⟩, ⟨0, 0, .cells (ptC (IntKind.i64.wrap (q + 1)))⟩]⟩)
 else
 bif decide (0 ≤ if (↑J.P.length : Int) < (↑ke.length : Int) then (↑J.P.length : Int) else (↑ke.length : Int)) && decide ((if (↑J.P.length : Int) < (↑ke.length : Int) then (↑J.P.length : Int) else (↑ke.length : Int)) ≤ (↑ke.length : Int)) then
 bif (cutA J ke).length.ble 1000000 then
 bif isSt (Try.s49ar (IntKind.i64.wrap (q + 1)) ke mo J (cutA J ke) 0) (Try.s49ar (IntKind.i64.wrap (q + 1)) ke mo J (cutA J ke) 0) then
 bif (cutA J ke).length.ble 1000000 then
 bif okSW (SW.con J.P) && (cl49 J ke).length.ble 9223372036854775807 then
 bif okSW (SW.con (flD J (cl49 J ke)).fst.snd.snd) && ((flD J (cl49 J ke)).fst.snd.snd.length.beq 0 && bytesOk (flD J (cl49 J ke)).fst.snd.fst) then
 bif (flD J (cl49 J ke)).snd != 0 then
 some (.val (.bool false), ⟨4, [⟨3, 0, .cells (okC true)⟩, ⟨2, 0, .cells (mC mo)⟩, ⟨1, 0, .cells (kC ke)⟩, ⟨0, 0, .cells (ptC (IntKind.i64.wrap (q + 1)))⟩]⟩)
 else
 bif (openJ ((flD J (cl49 J ke)).fst.fst, (flD J (cl49 J ke)).fst.snd.fst, [])).snd != 0 then
 some (.val (.bool false), ⟨4, [⟨3, 0, .cells (okC true)⟩, ⟨2, 0, .cells (mC mo)⟩, ⟨1, 0, .cells (kC ke)⟩, ⟨0, 0, .cells (ptC (IntKind.i64.wrap (q + 1)))⟩]⟩)
 else
 bif isSt (Try.s49br (IntKind.i64.wrap (q + 1)) ke mo (flD J (cl49 J ke)).fst (kOf J (cl49 J ke)) 0) (Try.s49br (IntKind.i64.wrap (q + 1)) ke mo (flD J (cl49 J ke)).fst (kOf J (cl49 J ke)) 0) then
 bif propB (StI (kOf J (cl49 J ke)).N (kOf J (cl49 J ke)) ∧ MoOk mo) then
 bif okSW (SW.con (xr J ke mo).P) && okEN (EN.con (xr J ke mo).L) then
 bif (reJ (xr J ke mo)).L.length.ble 1000000 then
 bif okSW (SW.con (yr (xr J ke mo)).P) && true then
 bif okSW (SW.con (flD (yr (xr J ke mo)) []).fst.snd.snd) && ((flD (yr (xr J ke mo)) []).fst.snd.snd.length.beq 0 && bytesOk (flD (yr (xr J ke mo)) []).fst.snd.fst) then
 bif (syncJ (reJ (xr J ke mo))).snd == 0 then
 bif (flD (yr (xr J ke mo)) []).snd == 0 then
 bif (openJ ((flD (yr (xr J ke mo)) []).fst.fst, (flD (yr (xr J ke mo)) []).fst.snd.fst, [])).snd == 0 then
 bif okEN (EN.con (kOf (yr (xr J ke mo)) []).L) && (okEN (EN.con (xr J ke mo).L) && (EN.list (EN.con (kOf (yr (xr J ke mo)) []).L)).length.ble 1000000) then
 bif eqEs (EN.list (EN.con (kOf (yr (xr J ke mo)) []).L)) (EN.list (EN.con (xr J ke mo).L)) then
 some (.val (.bool true), ⟨4, [⟨3, 0, .cells (okC true)⟩, ⟨2, 0, .cells (mC mo)⟩, ⟨1, 0, .cells (kC ke)⟩, ⟨0, 0, .cells (ptC (IntKind.i64.wrap (q + 1)))⟩]⟩)
 else
 some (.val (.bool false), ⟨4, [⟨3, 0, .cells (okC false)⟩, ⟨2, 0, .cells (mC mo)⟩, ⟨1, 0, .cells (kC ke)⟩, ⟨0, 0, .cells (ptC (IntKind.i64.wrap (q + 1)))⟩]⟩)
 else
 none
 else
 some (.val (.bool false), ⟨4, [⟨3, 0, .cells (okC false)⟩, ⟨2, 0, .cells (mC mo)⟩, ⟨1, 0, .cells (kC ke)⟩, ⟨0, 0, .cells (ptC (IntKind.i64.wrap (q + 1)))⟩]⟩)
 else
 some (.val (.bool false), ⟨4, [⟨3, 0, .cells (okC false)⟩, ⟨2, 0, .cells (mC mo)⟩, ⟨1, 0, .cells (kC ke)⟩, ⟨0, 0, .cells (ptC (IntKind.i64.wrap (q + 1)))⟩]⟩)
 else
 some (.val (.bool false), ⟨4, [⟨3, 0, .cells (okC false)⟩, ⟨2, 0, .cells (mC mo)⟩, ⟨1, 0, .cells (kC ke)⟩, ⟨0, 0, .cells (ptC (IntKind.i64.wrap (q + 1)))⟩]⟩)
 else
 none
 else
 none
 else
 none
 else
 none
 else
 none
 else
 none
 else
 none
 else
 none
 else
 none
 else
 none
 else
 none
 else
 none := by kernel_rfl
theorem Try.l49ar (q : Int) (ke : List Int) (mo : List EntD) (J : JD) (l : List Int) : ∀ s e s', s.h.ok → (Try.L49ar q ke mo J l s).run = some (e, s') → TripleP Try.prog 4 (.loop Try.b49) s e s' := by
  refine atLP_grd (fun hp => ?_)
  rw [Nat.ble_eq] at hp
  have ok : ∀ m k, (Try.s49ar q ke mo J m k).h.ok := fun m k => heap_ok [5, 4, 3, 2, 1, 0] rfl (by decide) (by decide)
  refine loop_atP Try.e49 (p := 4) (d := 5) (g := 49) (ls := lsumsOf []) (c := Try.b49) trivial [4, 5, 6, 9, 38, 39] [4, 5, 6, 9] (T := Nat)
    (fun k => Try.s49ar q ke mo J ((l.take k).map clampI ++ l.drop k) k) (fun k => k ≤ l.length) (fun k => l.length - k) (fun _ => (.exit 0, Try.x49ar q ke mo J (l.map clampI))) _ _ 0 (Nat.zero_le _) (WeakP.refl (ok _ _)) ?_ (fun k _ => ok _ _) ?_
  · intro e s' h
    exact Option.some.inj h
  · intro k h1
    have key := Try.r49ar q ke mo J ((l.take k).map clampI ++ l.drop k) k
    have hlen : ((l.take k).map clampI ++ l.drop k).length = l.length := by rw [List.length_append, List.length_map, List.length_take, List.length_drop]; omega
    by_cases hk : k < l.length
    · rw [declt_nat, inR_nat, decide_eq_true (show k < ((l.take k).map clampI ++ l.drop k).length by omega), blt_t (show 0 + k < ((l.take k).map clampI ++ l.drop k).length by omega), wrapT k (by omega)] at key
      have e1 : ((l.take k).map clampI ++ l.drop k).set (0 + k) (clampI (((l.take k).map clampI ++ l.drop k).getD (0 + k) 0)) = (l.take (k + 1)).map clampI ++ l.drop (k + 1) := by
        have hl : ((l.take k).map clampI).length = k := by rw [List.length_map, List.length_take]; omega
        rw [List.getD_eq_getElem?_getD, List.getElem?_append_right (by omega), hl, List.set_append_right _ _ (by omega), hl, show 0 + k - k = 0 by omega, List.drop_eq_getElem_cons hk, List.take_succ_eq_append_getElem hk, List.map_append, List.append_assoc]
        rfl
      refine .inl ⟨k + 1, _, key, ?_, hk, by show l.length - (k + 1) < l.length - k; omega, rfl⟩
      unfold Try.s49ar Try.h49ar
      rw [← e1, List.length_set]
      exact WeakP.refl (heap_ok [5, 4, 3, 2, 1, 0] rfl (by decide) (by decide))
    · have e1 : k = l.length := by omega
      rw [declt_nat, decide_eq_false (show ¬ k < ((l.take k).map clampI ++ l.drop k).length by omega)] at key
      have e2 : (l.take k).map clampI ++ l.drop k = l.map clampI := by rw [e1, List.take_length, List.drop_length, List.append_nil]
      rw [e2] at key ⊢
      refine .inr ⟨_, key, ?_, by show (AX.exit 0) ≠ .normal; intro h; cases h⟩
      exact WeakP.fzHs (m := 123) (ks := [4, 5, 6, 9]) (con := .ints .i64 (l.map clampI)) (n := 6) (id := 5) (heap_ok [5, 4, 3, 2, 1, 0] rfl (by decide) (by decide)) rfl rfl (.cons (.inl rfl) (.cons (.inl rfl) (.cons (.inl rfl) (.cons (.inr (.inr ⟨none, rfl, rfl⟩)) .nil)))) (.skip (EsFz.rest (by show ∀ i ∈ [4, 3, 2, 1, 0], Nat.beq i 5 = false; decide)))
theorem Try.l49br (q : Int) (ke : List Int) (mo : List EntD) (D : DevD) (X : JD) : ∀ s e s', s.h.ok → (Try.L49br q ke mo D X s).run = some (e, s') → TripleP Try.prog 4 (.loop Try.c49) s e s' := by
  refine atLP_grd (fun hp => ?_)
  obtain ⟨hX, hm0, hm⟩ := propB_eq hp
  have ok : ∀ X k, (Try.s49br q ke mo D X k).h.ok := fun X k => heap_ok [5, 4, 3, 2, 1, 0] rfl (by decide) (by decide)
  refine loop_atP Try.e49 (p := 4) (d := 5) (g := 49) (ls := lsumsOf []) (c := Try.c49) trivial [5, 11, 13, 70, 71, 72] [5, 11, 13] (T := Nat)
    (fun k => Try.s49br q ke mo D (appsN X mo k) k) (fun k => k ≤ mo.length) (fun k => mo.length - k) (fun _ => (.exit 2, Try.x49br q ke mo D (appsN X mo mo.length))) _ _ 0 (Nat.zero_le _) (WeakP.refl (ok _ _)) ?_ (fun k _ => ok _ _) ?_
  · intro e s' h
    exact Option.some.inj h
  · intro k h1
    have key := Try.r49br q ke mo D (appsN X mo k) k
    have hk' := apps_sti hX hm k
    have jx := jx_oks hk'.jx
    have jl := hk'.len
    by_cases hk : k < mo.length
    · rw [declt_nat, inR_nat, decide_eq_true hk, wrapT k (by omega), jx.1, jx.2, reJ_eq, ble_t (show (appsN X mo k).L.length ≤ 1000000 by omega)] at key
      refine .inl ⟨k + 1, _, key.trans ?_, WeakP.refl (ok _ _), hk, by show mo.length - (k + 1) < mo.length - k; omega, rfl⟩
      show _ = some (AX.normal, Try.s49br q ke mo D (bif (appJ (appsN X mo k) (mo.getD k EN.z)).2 == 0 then (appJ (appsN X mo k) (mo.getD k EN.z)).1 else appsN X mo k) (k + 1))
      cases (appJ (appsN X mo k) (mo.getD k EN.z)).2 == 0 with
      | true => rfl
      | false => rfl
    · have e1 : k = mo.length := by omega
      rw [declt_nat, decide_eq_false hk] at key
      subst e1
      exact .inr ⟨_, key, WeakP.refl (heap_ok [5, 4, 3, 2, 1, 0] rfl (by decide) (by decide)), by show (AX.exit 2) ≠ .normal; intro h; cases h⟩
theorem Try.eff49r {n q : Int} {ke : List Int} {mo : List EntD} {c : Con} {cap : Option Nat} {x y z : Int} {J : JD} (hJ : OkN n J) (hm : MoOk mo) : EffAlone Try.prog 49 4 [jrA J, .agg [.ro c cap, .val (.int .i64 x), .val (.int .i64 y), .val (.int .i64 z)], .ptr 0 0 0, .ptr 1 0 0, .ptr 2 0 0, .ptr 3 0 0] (Try.H49r q ke mo) (.val (.bool true)) (Try.H49r (IntKind.i64.wrap (q + 1)) ke mo) := by
  refine rootE_alone Try.e49 (d := 5) (g := 49) (p := 4) (ls := lsumsOf [(6, Try.L49ar (IntKind.i64.wrap (q + 1)) ke mo J (cutA J ke)), (15, Try.L49br (IntKind.i64.wrap (q + 1)) ke mo (flD J (cl49 J ke)).1 (kOf J (cl49 J ke)))])
    (AllL.of2 (a := Try.b49) (b := Try.c49) (by kernel_rfl) (LsOkP.of rfl rfl (Try.l49ar _ _ _ _ _)) (LsOkP.of rfl rfl (Try.l49br _ _ _ _ _))) (heap_ok [3, 2, 1, 0] rfl (by decide) (by decide)) ((Try.w49r q ke mo J c cap x y z).trans ?_)
  cases hq : ((IntKind.i64.wrap (q + 1)).tmod 4 != 1) with
  | true => rfl
  | false =>
  obtain ⟨B', h1, h2, h3, h4, h5, h6⟩ := stale_open hJ (cut_len J ke)
  obtain ⟨z, g1, g2, g3, g4, g5, g6, g7, g8⟩ := stale_end (apps_sti h6 hm.2 mo.length)
  have f1 := (dev_facts h1.jr.dev).few
  have hc := cut_len J ke
  have ec : cl49 J ke = (cutA J ke).map clampI := rfl
  have ex : appsN (kOf J (cl49 J ke)) mo mo.length = xr J ke mo := rfl
  rw [← ec] at h3 h5 h6 g1 g2 g3 g4 g5 g6 g8
  have hx := apps_sti h6 hm.2 mo.length
  rw [ex] at g1 g2 g3 g4 g5 g6 g8 hx
  have k1 := jx_oks h1
  have k2 := jx_oks hx.jx
  have k3 := jx_oks g2
  have k4 := jx_oks g7
  have ll : (cl49 J ke).length ≤ 2000 := by rw [ec, List.length_map]; omega
  have e1 : decide (0 ≤ if (J.P.length : Int) < (ke.length : Int) then (J.P.length : Int) else (ke.length : Int)) = true := decide_eq_true (by split <;> omega)
  have e2 : decide ((if (J.P.length : Int) < (ke.length : Int) then (J.P.length : Int) else (ke.length : Int)) ≤ (ke.length : Int)) = true := decide_eq_true (by split <;> omega)
  have z0 : okSW (SW.con ([] : List SwD)) = true := okSW_le (by simp)
  have zz : Nat.beq ([] : List SwD).length 0 = true := rfl
  have hxl := hx.len
  have ey : yr (xr J ke mo) = syncX (xr J ke mo) := by unfold yr; rw [reJ_eq, g1]
  have eN : (kOf J (cl49 J ke)).N = n := h6.1
  have hS : propB (StI (kOf J (cl49 J ke)).N (kOf J (cl49 J ke)) ∧ MoOk mo) = true := propB_t ⟨by rw [eN]; exact h6, hm⟩
  have ek : kOf (syncX (xr J ke mo)) [] = z := by
    unfold kOf
    rw [g4]
    show (openJ ((syncX (xr J ke mo)).N, (syncX (xr J ke mo)).B, [])).1 = z
    rw [g6]
  have zl : z.L.length ≤ 60 := by rw [g8]; exact hxl
  simp only [e1, e2, ble_t (show (cutA J ke).length ≤ 1000000 by omega), isSt_refl, k1.1, ble_t (show (cl49 J ke).length ≤ 9223372036854775807 by omega), h3, z0, zz, h4, h5, hS, k2.1, k2.2, reJ_eq, ble_t (show (xr J ke mo).L.length ≤ 1000000 by omega), ey, g1, g4, g5, g6, k3.1, EN_list_con, bne_self_eq_false, beq_self_eq_true, Bool.and_self, cond_true', cond_false']
  rw [ek]
  simp only [k4.2, k2.2, g8, ble_t (show (xr J ke mo).L.length ≤ 1000000 by omega), eqEs_refl, Bool.and_self, cond_true']
  rfl
end Go.Ev
/- The closure of JournalStale: its walk (entries in a block). -/
namespace Go.Ev
open Go.Proofs
def Try.H49o (q : Int) (ke : List Int) (mo : List EntD) (nn : Nat) (ff : Nat → List AV) : Heap := ⟨5, [⟨4, 0, .cells (okC true)⟩, ⟨3, 0, .cells (mC mo)⟩, ⟨2, 0, .cells (kC ke)⟩, ⟨1, 0, .cells (ptC q)⟩, ⟨0, 0, .cells (.tab 5 nn ff)⟩]⟩
def Try.h49ao (q : Int) (ke : List Int) (mo : List EntD) (nn : Nat) (ff : Nat → List AV) (J : JD) (l : List Int) : Heap := ⟨7, [⟨6, 0, .cells (.ints .i64 l)⟩, ⟨5, 0, .cells (jrC J)⟩, ⟨4, 0, .cells (okC true)⟩, ⟨3, 0, .cells (mC mo)⟩, ⟨2, 0, .cells (kC ke)⟩, ⟨1, 0, .cells (ptC q)⟩, ⟨0, 0, .cells (.tab 5 nn ff)⟩]⟩
def Try.s49ao (q : Int) (ke : List Int) (mo : List EntD) (nn : Nat) (ff : Nat → List AV) (J : JD) (l : List Int) (k : Nat) : St := stOf 123 [4, 5, 6, 9, 38, 39] [.ptr 3 0 0, .ptr 4 0 0, .ptr 5 0 0, .own 6 0 l.length none 1, .val (.int .i64 l.length), .val (.int .i64 k)] (Try.h49ao q ke mo nn ff J l)
def Try.x49ao (q : Int) (ke : List Int) (mo : List EntD) (nn : Nat) (ff : Nat → List AV) (J : JD) (l : List Int) : St := stOf 123 [4, 5, 6, 9] [.ptr 3 0 0, .ptr 4 0 0, .ptr 5 0 0, .ro (.ints .i64 l) none] ⟨7, [⟨5, 0, .cells (jrC J)⟩, ⟨4, 0, .cells (okC true)⟩, ⟨3, 0, .cells (mC mo)⟩, ⟨2, 0, .cells (kC ke)⟩, ⟨1, 0, .cells (ptC q)⟩, ⟨0, 0, .cells (.tab 5 nn ff)⟩]⟩
def Try.L49ao (q : Int) (ke : List Int) (mo : List EntD) (nn : Nat) (ff : Nat → List AV) (J : JD) (l : List Int) : LSum := atL (Try.s49ao q ke mo nn ff J l 0) (.grd (Nat.ble l.length 1000000) (.out (.exit 0, Try.x49ao q ke mo nn ff J (l.map clampI))))
def Try.B49ao (s : St) : Option (AX × St) := codeP Try.E49 (callF Try.E49 5) (Try.E49.keep 49) (lsumsOf []) 5 Try.b49 (outKP 5 [4, 5, 6, 9, 38, 39] [4, 5, 6, 9]) s
def Try.h49bo (q : Int) (ke : List Int) (mo : List EntD) (nn : Nat) (ff : Nat → List AV) (D : DevD) (X : JD) : Heap := ⟨7, [⟨6, 0, .cells (jrC X)⟩, ⟨5, 0, .cells (dvC D)⟩, ⟨4, 0, .cells (okC true)⟩, ⟨3, 0, .cells (mC mo)⟩, ⟨2, 0, .cells (kC ke)⟩, ⟨1, 0, .cells (ptC q)⟩, ⟨0, 0, .cells (.tab 5 nn ff)⟩]⟩
def Try.s49bo (q : Int) (ke : List Int) (mo : List EntD) (nn : Nat) (ff : Nat → List AV) (D : DevD) (X : JD) (k : Nat) : St := stOf 123 [5, 11, 13, 70, 71, 72] [.ptr 4 0 0, .ptr 5 0 0, .ptr 6 0 0, .ro (EN.con mo) none, .val (.int .i64 mo.length), .val (.int .i64 k)] (Try.h49bo q ke mo nn ff D X)
def Try.x49bo (q : Int) (ke : List Int) (mo : List EntD) (nn : Nat) (ff : Nat → List AV) (D : DevD) (X : JD) : St := stOf 123 [5, 11, 13] [.ptr 4 0 0, .ptr 5 0 0, .ptr 6 0 0] (Try.h49bo q ke mo nn ff D X)
def Try.L49bo (q : Int) (ke : List Int) (mo : List EntD) (nn : Nat) (ff : Nat → List AV) (D : DevD) (X : JD) : LSum := atL (Try.s49bo q ke mo nn ff D X 0) (.grd (propB (StI X.N X ∧ MoOk mo)) (.out (.exit 2, Try.x49bo q ke mo nn ff D (appsN X mo mo.length))))
def Try.B49bo (s : St) : Option (AX × St) := codeP Try.E49 (callF Try.E49 5) (Try.E49.keep 49) (lsumsOf []) 5 Try.c49 (outKP 5 [5, 11, 13, 70, 71, 72] [5, 11, 13]) s
theorem Try.r49ao (q : Int) (ke : List Int) (mo : List EntD) (nn : Nat) (ff : Nat → List AV) (J : JD) (l : List Int) (k : Nat) : Try.B49ao (Try.s49ao q ke mo nn ff J l k) =
 bif decide ((↑k : Int) < (↑l.length : Int)) then
 bif inR (↑k : Int) l.length then
 bif (0 + k).blt l.length then
 bif inR (↑k : Int) l.length then
 bif (0 + k).blt l.length then
 some (.normal, stOf 123 [4, 5, 6, 9, 38, 39] [.ptr 3 0 0, .ptr 4 0 0, .ptr 5 0 0, .own 6 0 (l.length) none 1, .val (.int .i64 ((↑l.length : Int))), .val (.int .i64 (IntKind.i64.wrap ((↑k : Int) + 1)))] ⟨7, [⟨6, 0, .cells (.ints .i64 (l.set (0 + k) (if 64 < if 0 > l.getD (0 + k) 0 then 0 else l.getD (0 + k) 0 then 64 else if 0 > l.getD (0 + k) 0 then 0 else l.getD (0 + k) 0)))⟩, ⟨5, 0, .cells (jrC J)⟩, ⟨4, 0, .cells (okC true)⟩, ⟨3, 0, .cells (mC mo)⟩, ⟨2, 0, .cells (kC ke)⟩, ⟨1, 0, .cells (ptC q)⟩, ⟨0, 0, .cells (.tab 5 (nn) (ff))⟩]⟩ )
 else
 none
 else
 none
 else
 none
 else
 none
 else
 some (.exit 0, stOf 123 [4, 5, 6, 9] [.ptr 3 0 0, .ptr 4 0 0, .ptr 5 0 0, .own 6 0 (l.length) none 1] ⟨7, [⟨6, 0, .cells (.ints .i64 (l))⟩, ⟨5, 0, .cells (jrC J)⟩, ⟨4, 0, .cells (okC true)⟩, ⟨3, 0, .cells (mC mo)⟩, ⟨2, 0, .cells (kC ke)⟩, ⟨1, 0, .cells (ptC q)⟩, ⟨0, 0, .cells (.tab 5 (nn) (ff))⟩]⟩ ) := by kernel_rfl
theorem Try.r49bo (q : Int) (ke : List Int) (mo : List EntD) (nn : Nat) (ff : Nat → List AV) (D : DevD) (X : JD) (k : Nat) : Try.B49bo (Try.s49bo q ke mo nn ff D X k) =
 bif decide ((↑k : Int) < (↑mo.length : Int)) then
 bif inR (↑k : Int) mo.length then
 bif okSW (SW.con X.P) && okEN (EN.con X.L) then
 bif (reJ X).L.length.ble 1000000 then
 bif (appJ (reJ X) (mo.getD k EN.z)).snd == 0 then
 some (.normal, stOf 123 [5, 11, 13, 70, 71, 72] [.ptr 4 0 0, .ptr 5 0 0, .ptr 6 0 0, .ro (EN.con mo) none, .val (.int .i64 ((↑mo.length : Int))), .val (.int .i64 (IntKind.i64.wrap ((↑k : Int) + 1)))] ⟨7, [⟨6, 0, .cells (jrC (appJ (reJ X) (mo.getD k EN.z)).fst)⟩, ⟨5, 0, .cells (.rows true 3 ([.val (.int .i64 (D.fst)), .ro (.ints .u8 (D.snd.fst)) none, .ro (SW.con D.snd.snd) none] :: []))⟩, ⟨4, 0, .cells (okC true)⟩, ⟨3, 0, .cells (mC mo)⟩, ⟨2, 0, .cells (kC ke)⟩, ⟨1, 0, .cells (ptC q)⟩, ⟨0, 0, .cells (.tab 5 (nn) (ff))⟩]⟩ )
 else
 some (.normal, stOf 123 [5, 11, 13, 70, 71, 72] [.ptr 4 0 0, .ptr 5 0 0, .ptr 6 0 0, .ro (EN.con mo) none, .val (.int .i64 ((↑mo.length : Int))), .val (.int .i64 (IntKind.i64.wrap ((↑k : Int) + 1)))] ⟨7, [⟨6, 0, .cells (jrC X)⟩, ⟨5, 0, .cells (.rows true 3 ([.val (.int .i64 (D.fst)), .ro (.ints .u8 (D.snd.fst)) none, .ro (SW.con D.snd.snd) none] :: []))⟩, ⟨4, 0, .cells (okC true)⟩, ⟨3, 0, .cells (mC mo)⟩, ⟨2, 0, .cells (kC ke)⟩, ⟨1, 0, .cells (ptC q)⟩, ⟨0, 0, .cells (.tab 5 (nn) (ff))⟩]⟩ )
 else
 none
 else
 none
 else
 none
 else
 some (.exit 2, stOf 123 [5, 11, 13] [.ptr 4 0 0, .ptr 5 0 0, .ptr 6 0 0] ⟨7, [⟨6, 0, .cells (jrC X)⟩, ⟨5, 0, .cells (.rows true 3 ([.val (.int .i64 (D.fst)), .ro (.ints .u8 (D.snd.fst)) none, .ro (SW.con D.snd.snd) none] :: []))⟩, ⟨4, 0, .cells (okC true)⟩, ⟨3, 0, .cells (mC mo)⟩, ⟨2, 0, .cells (kC ke)⟩, ⟨1, 0, .cells (ptC q)⟩, ⟨0, 0, .cells (.tab 5 (nn) (ff))⟩]⟩ ) := by kernel_rfl
theorem Try.w49o (q : Int) (ke : List Int) (mo : List EntD) (J : JD) (nn : Nat) (ff : Nat → List AV) (ln : Nat) (x y z : Int) : rootE Try.E49 5 49 5 (lsumsOf [(6, Try.L49ao (IntKind.i64.wrap (q + 1)) ke mo nn ff J (cutA J ke)), (15, Try.L49bo (IntKind.i64.wrap (q + 1)) ke mo nn ff (flD J (cl49 J ke)).1 (kOf J (cl49 J ke)))]) [jrA J, .agg [.own 0 0 ln none 5, .val (.int .i64 x), .val (.int .i64 y), .val (.int .i64 z)], .ptr 1 0 0, .ptr 2 0 0, .ptr 3 0 0, .ptr 4 0 0] (Try.H49o q ke mo nn ff) =
 bif (IntKind.i64.wrap (q + 1)).tmod 4 != 1 then
 some (.val (.bool true), ⟨5, [⟨4, 0, .cells (okC true)⟩, ⟨3, 0, .cells (mC mo)⟩, ⟨2, 0, .cells (kC ke)⟩, ⟨1, 0, .cells (ptC (IntKind.i64.wrap (q + 1)))⟩, ⟨0, 0, .cells (.tab 5 (nn) (ff))⟩]⟩)
 else
 bif decide (0 ≤ if (↑J.P.length : Int) < (↑ke.length : Int) then (↑J.P.length : Int) else (↑ke.length : Int)) && decide ((if (↑J.P.length : Int) < (↑ke.length : Int) then (↑J.P.length : Int) else (↑ke.length : Int)) ≤ (↑ke.length : Int)) then
 bif (cutA J ke).length.ble 1000000 then
 bif isSt (Try.s49ao (IntKind.i64.wrap (q + 1)) ke mo nn ff J (cutA J ke) 0) (Try.s49ao (IntKind.i64.wrap (q + 1)) ke mo nn ff J (cutA J ke) 0) then
 bif (cutA J ke).length.ble 1000000 then
 bif okSW (SW.con J.P) && (cl49 J ke).length.ble 9223372036854775807 then
 bif okSW (SW.con (flD J (cl49 J ke)).fst.snd.snd) && ((flD J (cl49 J ke)).fst.snd.snd.length.beq 0 && bytesOk (flD J (cl49 J ke)).fst.snd.fst) then
 bif (flD J (cl49 J ke)).snd != 0 then
 some (.val (.bool false), ⟨5, [⟨4, 0, .cells (okC true)⟩, ⟨3, 0, .cells (mC mo)⟩, ⟨2, 0, .cells (kC ke)⟩, ⟨1, 0, .cells (ptC (IntKind.i64.wrap (q + 1)))⟩, ⟨0, 0, .cells (.tab 5 (nn) (ff))⟩]⟩)
 else
 bif (openJ ((flD J (cl49 J ke)).fst.fst, (flD J (cl49 J ke)).fst.snd.fst, [])).snd != 0 then
 some (.val (.bool false), ⟨5, [⟨4, 0, .cells (okC true)⟩, ⟨3, 0, .cells (mC mo)⟩, ⟨2, 0, .cells (kC ke)⟩, ⟨1, 0, .cells (ptC (IntKind.i64.wrap (q + 1)))⟩, ⟨0, 0, .cells (.tab 5 (nn) (ff))⟩]⟩)
 else
 bif isSt (Try.s49bo (IntKind.i64.wrap (q + 1)) ke mo nn ff (flD J (cl49 J ke)).fst (kOf J (cl49 J ke)) 0) (Try.s49bo (IntKind.i64.wrap (q + 1)) ke mo nn ff (flD J (cl49 J ke)).fst (kOf J (cl49 J ke)) 0) then
 bif propB (StI (kOf J (cl49 J ke)).N (kOf J (cl49 J ke)) ∧ MoOk mo) then
 bif okSW (SW.con (xr J ke mo).P) && okEN (EN.con (xr J ke mo).L) then
 bif (reJ (xr J ke mo)).L.length.ble 1000000 then
 bif okSW (SW.con (yr (xr J ke mo)).P) && true then
 bif okSW (SW.con (flD (yr (xr J ke mo)) []).fst.snd.snd) && ((flD (yr (xr J ke mo)) []).fst.snd.snd.length.beq 0 && bytesOk (flD (yr (xr J ke mo)) []).fst.snd.fst) then
 bif (syncJ (reJ (xr J ke mo))).snd == 0 then
 bif (flD (yr (xr J ke mo)) []).snd == 0 then
 bif (openJ ((flD (yr (xr J ke mo)) []).fst.fst, (flD (yr (xr J ke mo)) []).fst.snd.fst, [])).snd == 0 then
 bif okEN (EN.con (kOf (yr (xr J ke mo)) []).L) && (okEN (EN.con (xr J ke mo).L) && (EN.list (EN.con (kOf (yr (xr J ke mo)) []).L)).length.ble 1000000) then
 bif eqEs (EN.list (EN.con (kOf (yr (xr J ke mo)) []).L)) (EN.list (EN.con (xr J ke mo).L)) then
 some (.val (.bool true), ⟨5, [⟨4, 0, .cells (okC true)⟩, ⟨3, 0, .cells (mC mo)⟩, ⟨2, 0, .cells (kC ke)⟩, ⟨1, 0, .cells (ptC (IntKind.i64.wrap (q + 1)))⟩, ⟨0, 0, .cells (.tab 5 (nn) (ff))⟩]⟩)
 else
 some (.val (.bool false), ⟨5, [⟨4, 0, .cells (okC false)⟩, ⟨3, 0, .cells (mC mo)⟩, ⟨2, 0, .cells (kC ke)⟩, ⟨1, 0, .cells (ptC (IntKind.i64.wrap (q + 1)))⟩, ⟨0, 0, .cells (.tab 5 (nn) (ff))⟩]⟩)
 else
 none
 else
 some (.val (.bool false), ⟨5, [⟨4, 0, .cells (okC false)⟩, ⟨3, 0, .cells (mC mo)⟩, ⟨2, 0, .cells (kC ke)⟩, ⟨1, 0, .cells (ptC (IntKind.i64.wrap (q + 1)))⟩, ⟨0, 0, .cells (.tab 5 (nn) (ff))⟩]⟩)
 else
 some (.val (.bool false), ⟨5, [⟨4, 0, .cells (okC false)⟩, ⟨3, 0, .cells (mC mo)⟩, ⟨2, 0, .cells (kC ke)⟩, ⟨1, 0, .cells (ptC (IntKind.i64.wrap (q + 1)))⟩, ⟨0, 0, .cells (.tab 5 (nn) (ff))⟩]⟩)
 else
 some (.val (.bool false), ⟨5, [⟨4, 0, .cells (okC false)⟩, ⟨3, 0, .cells (mC mo)⟩, ⟨2, 0, .cells (kC ke)⟩, ⟨1, 0, .cells (ptC (IntKind.i64.wrap (q + 1)))⟩, ⟨0, 0, .cells (.tab 5 (nn) (ff))⟩]⟩)
 else
 none
 else
 none
 else
 none
 else
 none
 else
 none
 else
 none
 else
 none
 else
 none
 else
 none
 else
 none
 else
 none
 else
 none := by kernel_rfl
theorem Try.l49ao (q : Int) (ke : List Int) (mo : List EntD) (nn : Nat) (ff : Nat → List AV) (J : JD) (l : List Int) : ∀ s e s', s.h.ok → (Try.L49ao q ke mo nn ff J l s).run = some (e, s') → TripleP Try.prog 5 (.loop Try.b49) s e s' := by
  refine atLP_grd (fun hp => ?_)
  rw [Nat.ble_eq] at hp
  have ok : ∀ m k, (Try.s49ao q ke mo nn ff J m k).h.ok := fun m k => heap_ok [6, 5, 4, 3, 2, 1, 0] rfl (by decide) (by decide)
  refine loop_atP Try.e49 (p := 5) (d := 5) (g := 49) (ls := lsumsOf []) (c := Try.b49) trivial [4, 5, 6, 9, 38, 39] [4, 5, 6, 9] (T := Nat)
    (fun k => Try.s49ao q ke mo nn ff J ((l.take k).map clampI ++ l.drop k) k) (fun k => k ≤ l.length) (fun k => l.length - k) (fun _ => (.exit 0, Try.x49ao q ke mo nn ff J (l.map clampI))) _ _ 0 (Nat.zero_le _) (WeakP.refl (ok _ _)) ?_ (fun k _ => ok _ _) ?_
  · intro e s' h
    exact Option.some.inj h
  · intro k h1
    have key := Try.r49ao q ke mo nn ff J ((l.take k).map clampI ++ l.drop k) k
    have hlen : ((l.take k).map clampI ++ l.drop k).length = l.length := by rw [List.length_append, List.length_map, List.length_take, List.length_drop]; omega
    by_cases hk : k < l.length
    · rw [declt_nat, inR_nat, decide_eq_true (show k < ((l.take k).map clampI ++ l.drop k).length by omega), blt_t (show 0 + k < ((l.take k).map clampI ++ l.drop k).length by omega), wrapT k (by omega)] at key
      have e1 : ((l.take k).map clampI ++ l.drop k).set (0 + k) (clampI (((l.take k).map clampI ++ l.drop k).getD (0 + k) 0)) = (l.take (k + 1)).map clampI ++ l.drop (k + 1) := by
        have hl : ((l.take k).map clampI).length = k := by rw [List.length_map, List.length_take]; omega
        rw [List.getD_eq_getElem?_getD, List.getElem?_append_right (by omega), hl, List.set_append_right _ _ (by omega), hl, show 0 + k - k = 0 by omega, List.drop_eq_getElem_cons hk, List.take_succ_eq_append_getElem hk, List.map_append, List.append_assoc]
        rfl
      refine .inl ⟨k + 1, _, key, ?_, hk, by show l.length - (k + 1) < l.length - k; omega, rfl⟩
      unfold Try.s49ao Try.h49ao
      rw [← e1, List.length_set]
      exact WeakP.refl (heap_ok [6, 5, 4, 3, 2, 1, 0] rfl (by decide) (by decide))
    · have e1 : k = l.length := by omega
      rw [declt_nat, decide_eq_false (show ¬ k < ((l.take k).map clampI ++ l.drop k).length by omega)] at key
      have e2 : (l.take k).map clampI ++ l.drop k = l.map clampI := by rw [e1, List.take_length, List.drop_length, List.append_nil]
      rw [e2] at key ⊢
      refine .inr ⟨_, key, ?_, by show (AX.exit 0) ≠ .normal; intro h; cases h⟩
      exact WeakP.fzHs (m := 123) (ks := [4, 5, 6, 9]) (con := .ints .i64 (l.map clampI)) (n := 7) (id := 6) (heap_ok [6, 5, 4, 3, 2, 1, 0] rfl (by decide) (by decide)) rfl rfl (.cons (.inl rfl) (.cons (.inl rfl) (.cons (.inl rfl) (.cons (.inr (.inr ⟨none, rfl, rfl⟩)) .nil)))) (.skip (EsFz.rest (by show ∀ i ∈ [5, 4, 3, 2, 1, 0], Nat.beq i 6 = false; decide)))
theorem Try.l49bo (q : Int) (ke : List Int) (mo : List EntD) (nn : Nat) (ff : Nat → List AV) (D : DevD) (X : JD) : ∀ s e s', s.h.ok → (Try.L49bo q ke mo nn ff D X s).run = some (e, s') → TripleP Try.prog 5 (.loop Try.c49) s e s' := by
  refine atLP_grd (fun hp => ?_)
  obtain ⟨hX, hm0, hm⟩ := propB_eq hp
  have ok : ∀ X k, (Try.s49bo q ke mo nn ff D X k).h.ok := fun X k => heap_ok [6, 5, 4, 3, 2, 1, 0] rfl (by decide) (by decide)
  refine loop_atP Try.e49 (p := 5) (d := 5) (g := 49) (ls := lsumsOf []) (c := Try.c49) trivial [5, 11, 13, 70, 71, 72] [5, 11, 13] (T := Nat)
    (fun k => Try.s49bo q ke mo nn ff D (appsN X mo k) k) (fun k => k ≤ mo.length) (fun k => mo.length - k) (fun _ => (.exit 2, Try.x49bo q ke mo nn ff D (appsN X mo mo.length))) _ _ 0 (Nat.zero_le _) (WeakP.refl (ok _ _)) ?_ (fun k _ => ok _ _) ?_
  · intro e s' h
    exact Option.some.inj h
  · intro k h1
    have key := Try.r49bo q ke mo nn ff D (appsN X mo k) k
    have hk' := apps_sti hX hm k
    have jx := jx_oks hk'.jx
    have jl := hk'.len
    by_cases hk : k < mo.length
    · rw [declt_nat, inR_nat, decide_eq_true hk, wrapT k (by omega), jx.1, jx.2, reJ_eq, ble_t (show (appsN X mo k).L.length ≤ 1000000 by omega)] at key
      refine .inl ⟨k + 1, _, key.trans ?_, WeakP.refl (ok _ _), hk, by show mo.length - (k + 1) < mo.length - k; omega, rfl⟩
      show _ = some (AX.normal, Try.s49bo q ke mo nn ff D (bif (appJ (appsN X mo k) (mo.getD k EN.z)).2 == 0 then (appJ (appsN X mo k) (mo.getD k EN.z)).1 else appsN X mo k) (k + 1))
      cases (appJ (appsN X mo k) (mo.getD k EN.z)).2 == 0 with
      | true => rfl
      | false => rfl
    · have e1 : k = mo.length := by omega
      rw [declt_nat, decide_eq_false hk] at key
      subst e1
      exact .inr ⟨_, key, WeakP.refl (heap_ok [6, 5, 4, 3, 2, 1, 0] rfl (by decide) (by decide)), by show (AX.exit 2) ≠ .normal; intro h; cases h⟩
theorem Try.eff49o {n q : Int} {ke : List Int} {mo : List EntD} {nn : Nat} {ff : Nat → List AV} {ln : Nat} {x y z : Int} {J : JD} (hJ : OkN n J) (hm : MoOk mo) : EffAlone Try.prog 49 5 [jrA J, .agg [.own 0 0 ln none 5, .val (.int .i64 x), .val (.int .i64 y), .val (.int .i64 z)], .ptr 1 0 0, .ptr 2 0 0, .ptr 3 0 0, .ptr 4 0 0] (Try.H49o q ke mo nn ff) (.val (.bool true)) (Try.H49o (IntKind.i64.wrap (q + 1)) ke mo nn ff) := by
  refine rootE_alone Try.e49 (d := 5) (g := 49) (p := 5) (ls := lsumsOf [(6, Try.L49ao (IntKind.i64.wrap (q + 1)) ke mo nn ff J (cutA J ke)), (15, Try.L49bo (IntKind.i64.wrap (q + 1)) ke mo nn ff (flD J (cl49 J ke)).1 (kOf J (cl49 J ke)))])
    (AllL.of2 (a := Try.b49) (b := Try.c49) (by kernel_rfl) (LsOkP.of rfl rfl (Try.l49ao _ _ _ _ _ _ _)) (LsOkP.of rfl rfl (Try.l49bo _ _ _ _ _ _ _))) (heap_ok [4, 3, 2, 1, 0] rfl (by decide) (by decide)) ((Try.w49o q ke mo J nn ff ln x y z).trans ?_)
  cases hq : ((IntKind.i64.wrap (q + 1)).tmod 4 != 1) with
  | true => rfl
  | false =>
  obtain ⟨B', h1, h2, h3, h4, h5, h6⟩ := stale_open hJ (cut_len J ke)
  obtain ⟨z, g1, g2, g3, g4, g5, g6, g7, g8⟩ := stale_end (apps_sti h6 hm.2 mo.length)
  have f1 := (dev_facts h1.jr.dev).few
  have hc := cut_len J ke
  have ec : cl49 J ke = (cutA J ke).map clampI := rfl
  have ex : appsN (kOf J (cl49 J ke)) mo mo.length = xr J ke mo := rfl
  rw [← ec] at h3 h5 h6 g1 g2 g3 g4 g5 g6 g8
  have hx := apps_sti h6 hm.2 mo.length
  rw [ex] at g1 g2 g3 g4 g5 g6 g8 hx
  have k1 := jx_oks h1
  have k2 := jx_oks hx.jx
  have k3 := jx_oks g2
  have k4 := jx_oks g7
  have ll : (cl49 J ke).length ≤ 2000 := by rw [ec, List.length_map]; omega
  have e1 : decide (0 ≤ if (J.P.length : Int) < (ke.length : Int) then (J.P.length : Int) else (ke.length : Int)) = true := decide_eq_true (by split <;> omega)
  have e2 : decide ((if (J.P.length : Int) < (ke.length : Int) then (J.P.length : Int) else (ke.length : Int)) ≤ (ke.length : Int)) = true := decide_eq_true (by split <;> omega)
  have z0 : okSW (SW.con ([] : List SwD)) = true := okSW_le (by simp)
  have zz : Nat.beq ([] : List SwD).length 0 = true := rfl
  have hxl := hx.len
  have ey : yr (xr J ke mo) = syncX (xr J ke mo) := by unfold yr; rw [reJ_eq, g1]
  have eN : (kOf J (cl49 J ke)).N = n := h6.1
  have hS : propB (StI (kOf J (cl49 J ke)).N (kOf J (cl49 J ke)) ∧ MoOk mo) = true := propB_t ⟨by rw [eN]; exact h6, hm⟩
  have ek : kOf (syncX (xr J ke mo)) [] = z := by
    unfold kOf
    rw [g4]
    show (openJ ((syncX (xr J ke mo)).N, (syncX (xr J ke mo)).B, [])).1 = z
    rw [g6]
  have zl : z.L.length ≤ 60 := by rw [g8]; exact hxl
  simp only [e1, e2, ble_t (show (cutA J ke).length ≤ 1000000 by omega), isSt_refl, k1.1, ble_t (show (cl49 J ke).length ≤ 9223372036854775807 by omega), h3, z0, zz, h4, h5, hS, k2.1, k2.2, reJ_eq, ble_t (show (xr J ke mo).L.length ≤ 1000000 by omega), ey, g1, g4, g5, g6, k3.1, EN_list_con, bne_self_eq_false, beq_self_eq_true, Bool.and_self, cond_true', cond_false']
  rw [ek]
  simp only [k4.2, k2.2, g8, ble_t (show (xr J ke mo).L.length ≤ 1000000 by omega), eqEs_refl, Bool.and_self, cond_true']
  rfl
end Go.Ev
/- What the closure of JournalStale does: it counts, and answers true. -/
namespace Go.Ev
open Go.Proofs
def onCnt {β : Type} (h : Heap) (id : Nat) (f : Int → Ans β) : Ans β := match h.con id with | some (.rows true 1 [[.val (.int .i64 q)]]) => f q | _ => .no
def onTab {β : Type} (h : Heap) (id : Nat) (f : Nat → (Nat → List AV) → Ans β) : Ans β := match h.con id with | some (.tab 5 n g) => f n g | _ => .no
def Try.F49 (n : Int) (ke : List Int) (mo : List EntD) (args : List AV) (h : Heap) : Ans (AV × Heap) := match args with
  | [v, .agg [.ro c cap, .val (.int .i64 x), .val (.int .i64 y), .val (.int .i64 z)], .ptr 0 0 0, .ptr 1 0 0, .ptr 2 0 0, .ptr 3 0 0] =>
    onCnt h 0 (fun q => .grd (isAH [] h [] (Try.H49r q ke mo)) (withJ (nzJ v) (fun J => .grd (propB (OkN n J)) (.out (.val (.bool true), Try.H49r (IntKind.i64.wrap (q + 1)) ke mo)))))
  | [v, .agg [.own 0 0 ln none 5, .val (.int .i64 x), .val (.int .i64 y), .val (.int .i64 z)], .ptr 1 0 0, .ptr 2 0 0, .ptr 3 0 0, .ptr 4 0 0] =>
    onCnt h 1 (fun q => onTab h 0 (fun nn ff => .grd (isAH [] h [] (Try.H49o q ke mo nn ff)) (withJ (nzJ v) (fun J => .grd (propB (OkN n J)) (.out (.val (.bool true), Try.H49o (IntKind.i64.wrap (q + 1)) ke mo nn ff))))))
  | _ => .no
def Try.A49 (n : Int) (ke : List Int) (mo : List EntD) : AFun := effA (Try.F49 n ke mo)
theorem onCnt_some {β : Type} {h : Heap} {id : Nat} {f : Int → Ans β} {r : β} (hs : (onCnt h id f).run = some r) : ∃ q, (f q).run = some r := by
  unfold onCnt at hs
  split at hs
  · exact ⟨_, hs⟩
  · cases hs
theorem onTab_some {β : Type} {h : Heap} {id : Nat} {f : Nat → (Nat → List AV) → Ans β} {r : β} (hs : (onTab h id f).run = some r) : ∃ n g, (f n g).run = some r := by
  unfold onTab at hs
  split at hs
  · exact ⟨_, _, hs⟩
  · cases hs
theorem WeakP.args {p : Nat} {t t' : List AV} {h : Heap} (hk : h.ok) (hw : AWs t t') : WeakP p ⟨t, [], h⟩ ⟨t', [], h⟩ :=
  ⟨hk, fun w c a hr hv => ⟨c, ⟨AWs.args hw _ _ _ hr.t, hr.h, hr.d, hr.dv⟩, (Ext.refl w c).w, hv, fun _ _ hi => ⟨hi, rfl⟩⟩⟩
theorem Try.sum49 (n : Int) (ke : List Int) (mo : List EntD) (hm : MoOk mo) : SumC Try.prog 49 (Try.A49 n ke mo) := by
  refine effSumR 49 ⟨Try.f49, _, Try.fnOk49.1, Try.fnOk49.2, rfl⟩ ?_
  intro args h v h2 hok hs
  unfold Try.F49 at hs
  split at hs
  · rename_i a c cap x y z
    replace hs := onCnt_some hs
    obtain ⟨q, hs⟩ := hs
    rw [Ans.run_grd] at hs
    cases hb : isAH [] h [] (Try.H49r q ke mo) with
    | false => rw [hb] at hs; cases hs
    | true =>
    rw [hb, cond_true] at hs
    have hh := (isAH_eq hb).2
    subst hh
    obtain ⟨J, h1, h3, h4⟩ := withJ_some hs
    rw [Ans.run_grd] at h4
    cases hp : propB (OkN n J) with
    | false => rw [hp] at h4; cases h4
    | true =>
      rw [hp, cond_true] at h4
      injection h4 with h4
      injection h4 with q1 q2
      subst q1; subst q2
      exact EffAlone.weak ((WeakP.args hok (.cons (nzJ_aw a) (AWs.refl _))).trans (WeakP.args hok (.cons h1 (AWs.refl _)))) (Try.eff49r (propB_eq hp) hm)
  · rename_i a ln x y z
    replace hs := onCnt_some hs
    obtain ⟨q, hs⟩ := hs
    replace hs := onTab_some hs
    obtain ⟨nn, ff, hs⟩ := hs
    rw [Ans.run_grd] at hs
    cases hb : isAH [] h [] (Try.H49o q ke mo nn ff) with
    | false => rw [hb] at hs; cases hs
    | true =>
    rw [hb, cond_true] at hs
    have hh := (isAH_eq hb).2
    subst hh
    obtain ⟨J, h1, h3, h4⟩ := withJ_some hs
    rw [Ans.run_grd] at h4
    cases hp : propB (OkN n J) with
    | false => rw [hp] at h4; cases h4
    | true =>
      rw [hp, cond_true] at h4
      injection h4 with h4
      injection h4 with q1 q2
      subst q1; subst q2
      exact EffAlone.weak ((WeakP.args hok (.cons (nzJ_aw a) (AWs.refl _))).trans (WeakP.args hok (.cons h1 (AWs.refl _)))) (Try.eff49o (propB_eq hp) hm)
  · cases hs
end Go.Ev
/- play: its inner loop (JournalStale). -/
namespace Go.Ev
open Go.Proofs
def Try.tP49 (n : Int) (ke : List Int) (mo : List EntD) : List (Nat × AFun) := [(25, Try.A25), (29, Try.A29), (37, Try.A37), (39, Try.A39), (40, Try.A40), (41, Try.A41), (49, Try.A49 n ke mo), (47, Try.A47), (48, Try.A48)]
def Try.EP49 (n : Int) (ke : List Int) (mo : List EntD) : Env := Try.env0 false (sumsOf (Try.tP49 n ke mo )) (keepF 43 [(9, [2, 9, 10, 41, 42, 43]), (35, [2, 9, 10, 21, 22, 41, 42, 43, 127, 128, 129])])
def Try.VQ49 (l : List OpD) (k : Nat) (fits : Bool) (i : Nat) : List AV := [.clo (.func 49) [] [.ptr 0 0 0, .ptr 1 0 0, .ptr 2 0 0, .ptr 3 0 0], .ptr 4 0 0, .ptr 5 0 0, .ptr 6 0 0, .val (.bool fits), .ro (OP.con l) none, .val (.int .i64 l.length), .val (.int .i64 k), .own 7 0 2 (some 2) 1, .val (.int .i64 2), .val (.int .i64 i)]
def Try.HQ49 (n : Int) (ke : List Int) (mo : List EntD) (cq : Int) (J : JD) (m : MD) (K : JD) (b0 s0 : Int) : Heap := ⟨8, [⟨7, 0, .cells (.ints .i64 [b0, s0])⟩, ⟨6, 0, .cells (jrC K)⟩, ⟨5, 0, .cells (mdC m.1 m.2.1 m.2.2.1 m.2.2.2)⟩, ⟨4, 0, .cells (jrC J)⟩, ⟨3, 0, .cells (okC true)⟩, ⟨2, 0, .cells (mC mo)⟩, ⟨1, 0, .cells (kC ke)⟩, ⟨0, 0, .cells (ptC cq)⟩]⟩
def Try.BQ49 (n : Int) (ke : List Int) (mo : List EntD) (s : St) : Option (AX × St) := codeP (Try.EP49 n ke mo ) (callF (Try.EP49 n ke mo ) 5) ((Try.EP49 n ke mo ).keep 43) (lsumsOf []) 4 Try.bQ (outKP 4 [2, 9, 10, 21, 22, 41, 42, 43, 127, 128, 129] [2, 9, 10, 21, 22, 41, 42, 43]) s
theorem Try.eP49 (n : Int) (ke : List Int) (mo : List EntD) (hh : MoOk mo) : EnvOk2 Try.prog (Try.EP49 n ke mo ) := Try.envOk false (sumsOf (Try.tP49 n ke mo )) _ (sumsOf_ok (show AllS Try.prog (Try.tP49 n ke mo ) from ⟨Try.sum25, Try.sum29, Try.sum37, Try.sum39, Try.sum40, Try.sum41, Try.sum49 n ke mo hh, Try.sum47, Try.sum48, trivial⟩))
theorem Try.rQ49 (n : Int) (ke : List Int) (mo : List EntD) (cq : Int) (l : List OpD) (k : Nat) (J : JD) (m : MD) (K : JD) (b0 s0 : Int) (fits : Bool) (i : Nat) : Try.BQ49 n ke mo (stOf 208 [2, 9, 10, 21, 22, 41, 42, 43, 127, 128, 129] (Try.VQ49 l k fits i) (Try.HQ49 n ke mo cq J m K b0 s0)) =
 bif decide ((↑i : Int) < 2) then
 bif inR (↑i : Int) 2 then
 bif (0 + i).blt 2 then
 bif fits then
 some (.normal, stOf 208 [2, 9, 10, 21, 22, 41, 42, 43, 127, 128, 129] [.clo (Fn.func 49) [] [.ptr 0 0 0, .ptr 1 0 0, .ptr 2 0 0, .ptr 3 0 0], .ptr 4 0 0, .ptr 5 0 0, .ptr 6 0 0, .val (.bool (fits)), .ro (OP.con l) none, .val (.int .i64 ((↑l.length : Int))), .val (.int .i64 (↑k : Int)), .own 7 0 (2) (some (2)) 1, .val (.int .i64 2), .val (.int .i64 (IntKind.i64.wrap ((↑i : Int) + 1)))] ⟨8, [⟨7, 0, .cells (.ints .i64 ([b0, s0]))⟩, ⟨6, 0, .cells (jrC K)⟩, ⟨5, 0, .cells (.rows true 4 ([.ro (EN.con m.fst) none, .val (.int .i64 (m.snd.fst)), .val (.int .i64 (m.snd.snd.fst)), .val (.int .i64 (m.snd.snd.snd))] :: []))⟩, ⟨4, 0, .cells (jrC J)⟩, ⟨3, 0, .cells (.rows true 1 ([.val (.bool true)] :: []))⟩, ⟨2, 0, .cells (.rows true 1 ([.ro (EN.con mo) none] :: []))⟩, ⟨1, 0, .cells (.rows true 1 ([.ro (.ints .i64 (ke)) none] :: []))⟩, ⟨0, 0, .cells (.rows true 1 ([.val (.int .i64 (cq))] :: []))⟩]⟩ )
 else
 bif decide (IntKind.i64.wrap ([b0, s0].getD (0 + i) 0 + (↑K.L.length : Int)) ≤ (↑m.fst.length : Int)) then
 bif decide (IntKind.i64.wrap ([b0, s0].getD (0 + i) 0 + (↑K.L.length : Int)) ≥ if (↑m.fst.length : Int) < m.snd.snd.snd then (↑m.fst.length : Int) else m.snd.snd.snd) then
 bif decide (0 ≤ IntKind.i64.wrap ([b0, s0].getD (0 + i) 0 + (↑K.L.length : Int))) && decide (IntKind.i64.wrap ([b0, s0].getD (0 + i) 0 + (↑K.L.length : Int)) ≤ (↑m.fst.length : Int)) then
 bif decide (0 ≤ [b0, s0].getD (0 + i) 0) && decide ([b0, s0].getD (0 + i) 0 ≤ (↑(IntKind.i64.wrap ([b0, s0].getD (0 + i) 0 + (↑K.L.length : Int))).toNat : Int)) then
 bif okEN (EN.con K.L) && (okEN (Con.tab 5 ((IntKind.i64.wrap ([b0, s0].getD (0 + i) 0 + (↑K.L.length : Int))).toNat - ([b0, s0].getD (0 + i) 0).toNat) fun i_1 => EN.row (m.fst.getD (([b0, s0].getD (0 + i) 0).toNat + i_1) EN.z)) && (EN.list (EN.con K.L)).length.ble 1000000) then
 bif eqEs (EN.list (EN.con K.L)) (EN.list (Con.tab 5 ((IntKind.i64.wrap ([b0, s0].getD (0 + i) 0 + (↑K.L.length : Int))).toNat - ([b0, s0].getD (0 + i) 0).toNat) fun i_1 => EN.row (m.fst.getD (([b0, s0].getD (0 + i) 0).toNat + i_1) EN.z))) then
 bif decide (0 ≤ IntKind.i64.wrap ([b0, s0].getD (0 + i) 0 + (↑K.L.length : Int))) && decide (IntKind.i64.wrap ([b0, s0].getD (0 + i) 0 + (↑K.L.length : Int)) ≤ (↑m.fst.length : Int)) then
 some (.normal, stOf 208 [2, 9, 10, 21, 22, 41, 42, 43, 127, 128, 129] [.clo (Fn.func 49) [] [.ptr 0 0 0, .ptr 1 0 0, .ptr 2 0 0, .ptr 3 0 0], .ptr 4 0 0, .ptr 5 0 0, .ptr 6 0 0, .val (.bool true), .ro (OP.con l) none, .val (.int .i64 ((↑l.length : Int))), .val (.int .i64 (↑k : Int)), .own 7 0 (2) (some (2)) 1, .val (.int .i64 2), .val (.int .i64 (IntKind.i64.wrap ((↑i : Int) + 1)))] ⟨8, [⟨7, 0, .cells (.ints .i64 ([b0, s0]))⟩, ⟨6, 0, .cells (jrC K)⟩, ⟨5, 0, .cells (.rows true 4 ([.ro (.tab 5 ((IntKind.i64.wrap ([b0, s0].getD (0 + i) 0 + (↑K.L.length : Int))).toNat - 0) (fun i => EN.row (m.fst.getD (0 + i) EN.z))) none, .val (.int .i64 ([b0, s0].getD (0 + i) 0)), .val (.int .i64 ([b0, s0].getD (0 + i) 0)), .val (.int .i64 (IntKind.i64.wrap ([b0, s0].getD (0 + i) 0 + (↑K.L.length : Int))))] :: []))⟩, ⟨4, 0, .cells (jrC J)⟩, ⟨3, 0, .cells (.rows true 1 ([.val (.bool true)] :: []))⟩, ⟨2, 0, .cells (.rows true 1 ([.ro (EN.con mo) none] :: []))⟩, ⟨1, 0, .cells (.rows true 1 ([.ro (.ints .i64 (ke)) none] :: []))⟩, ⟨0, 0, .cells (.rows true 1 ([.val (.int .i64 (cq))] :: []))⟩]⟩ )
 else
 none
 else
 some (.normal, stOf 208 [2, 9, 10, 21, 22, 41, 42, 43, 127, 128, 129] [.clo (Fn.func 49) [] [.ptr 0 0 0, .ptr 1 0 0, .ptr 2 0 0, .ptr 3 0 0], .ptr 4 0 0, .ptr 5 0 0, .ptr 6 0 0, .val (.bool (fits)), .ro (OP.con l) none, .val (.int .i64 ((↑l.length : Int))), .val (.int .i64 (↑k : Int)), .own 7 0 (2) (some (2)) 1, .val (.int .i64 2), .val (.int .i64 (IntKind.i64.wrap ((↑i : Int) + 1)))] ⟨8, [⟨7, 0, .cells (.ints .i64 ([b0, s0]))⟩, ⟨6, 0, .cells (jrC K)⟩, ⟨5, 0, .cells (.rows true 4 ([.ro (EN.con m.fst) none, .val (.int .i64 (m.snd.fst)), .val (.int .i64 (m.snd.snd.fst)), .val (.int .i64 (m.snd.snd.snd))] :: []))⟩, ⟨4, 0, .cells (jrC J)⟩, ⟨3, 0, .cells (.rows true 1 ([.val (.bool true)] :: []))⟩, ⟨2, 0, .cells (.rows true 1 ([.ro (EN.con mo) none] :: []))⟩, ⟨1, 0, .cells (.rows true 1 ([.ro (.ints .i64 (ke)) none] :: []))⟩, ⟨0, 0, .cells (.rows true 1 ([.val (.int .i64 (cq))] :: []))⟩]⟩ )
 else
 none
 else
 none
 else
 none
 else
 some (.normal, stOf 208 [2, 9, 10, 21, 22, 41, 42, 43, 127, 128, 129] [.clo (Fn.func 49) [] [.ptr 0 0 0, .ptr 1 0 0, .ptr 2 0 0, .ptr 3 0 0], .ptr 4 0 0, .ptr 5 0 0, .ptr 6 0 0, .val (.bool (fits)), .ro (OP.con l) none, .val (.int .i64 ((↑l.length : Int))), .val (.int .i64 (↑k : Int)), .own 7 0 (2) (some (2)) 1, .val (.int .i64 2), .val (.int .i64 (IntKind.i64.wrap ((↑i : Int) + 1)))] ⟨8, [⟨7, 0, .cells (.ints .i64 ([b0, s0]))⟩, ⟨6, 0, .cells (jrC K)⟩, ⟨5, 0, .cells (.rows true 4 ([.ro (EN.con m.fst) none, .val (.int .i64 (m.snd.fst)), .val (.int .i64 (m.snd.snd.fst)), .val (.int .i64 (m.snd.snd.snd))] :: []))⟩, ⟨4, 0, .cells (jrC J)⟩, ⟨3, 0, .cells (.rows true 1 ([.val (.bool true)] :: []))⟩, ⟨2, 0, .cells (.rows true 1 ([.ro (EN.con mo) none] :: []))⟩, ⟨1, 0, .cells (.rows true 1 ([.ro (.ints .i64 (ke)) none] :: []))⟩, ⟨0, 0, .cells (.rows true 1 ([.val (.int .i64 (cq))] :: []))⟩]⟩ )
 else
 some (.normal, stOf 208 [2, 9, 10, 21, 22, 41, 42, 43, 127, 128, 129] [.clo (Fn.func 49) [] [.ptr 0 0 0, .ptr 1 0 0, .ptr 2 0 0, .ptr 3 0 0], .ptr 4 0 0, .ptr 5 0 0, .ptr 6 0 0, .val (.bool (fits)), .ro (OP.con l) none, .val (.int .i64 ((↑l.length : Int))), .val (.int .i64 (↑k : Int)), .own 7 0 (2) (some (2)) 1, .val (.int .i64 2), .val (.int .i64 (IntKind.i64.wrap ((↑i : Int) + 1)))] ⟨8, [⟨7, 0, .cells (.ints .i64 ([b0, s0]))⟩, ⟨6, 0, .cells (jrC K)⟩, ⟨5, 0, .cells (.rows true 4 ([.ro (EN.con m.fst) none, .val (.int .i64 (m.snd.fst)), .val (.int .i64 (m.snd.snd.fst)), .val (.int .i64 (m.snd.snd.snd))] :: []))⟩, ⟨4, 0, .cells (jrC J)⟩, ⟨3, 0, .cells (.rows true 1 ([.val (.bool true)] :: []))⟩, ⟨2, 0, .cells (.rows true 1 ([.ro (EN.con mo) none] :: []))⟩, ⟨1, 0, .cells (.rows true 1 ([.ro (.ints .i64 (ke)) none] :: []))⟩, ⟨0, 0, .cells (.rows true 1 ([.val (.int .i64 (cq))] :: []))⟩]⟩ )
 else
 none
 else
 none
 else
 some (.exit 3, stOf 208 [2, 9, 10, 21, 22, 41, 42, 43] [.clo (Fn.func 49) [] [.ptr 0 0 0, .ptr 1 0 0, .ptr 2 0 0, .ptr 3 0 0], .ptr 4 0 0, .ptr 5 0 0, .ptr 6 0 0, .val (.bool (fits)), .ro (OP.con l) none, .val (.int .i64 ((↑l.length : Int))), .val (.int .i64 (↑k : Int))] ⟨7, [⟨6, 0, .cells (jrC K)⟩, ⟨5, 0, .cells (.rows true 4 ([.ro (EN.con m.fst) none, .val (.int .i64 (m.snd.fst)), .val (.int .i64 (m.snd.snd.fst)), .val (.int .i64 (m.snd.snd.snd))] :: []))⟩, ⟨4, 0, .cells (jrC J)⟩, ⟨3, 0, .cells (.rows true 1 ([.val (.bool true)] :: []))⟩, ⟨2, 0, .cells (.rows true 1 ([.ro (EN.con mo) none] :: []))⟩, ⟨1, 0, .cells (.rows true 1 ([.ro (.ints .i64 (ke)) none] :: []))⟩, ⟨0, 0, .cells (.rows true 1 ([.val (.int .i64 (cq))] :: []))⟩]⟩ ) := by kernel_rfl
def Try.SQ49 (n : Int) (ke : List Int) (mo : List EntD) (cq : Int) (l : List OpD) (k : Nat) (J : JD) (K : JD) (b0 s0 : Int) (q : Bool × MD) (i : Nat) : St := stOf 208 [2, 9, 10, 21, 22, 41, 42, 43, 127, 128, 129] (Try.VQ49 l k q.1 i) (Try.HQ49 n ke mo cq J q.2 K b0 s0)
def Try.xQ49 (n : Int) (ke : List Int) (mo : List EntD) (cq : Int) (l : List OpD) (k : Nat) (fits : Bool) (J : JD) (m : MD) (K : JD) : St := stOf 208 [2, 9, 10, 21, 22, 41, 42, 43] [.clo (.func 49) [] [.ptr 0 0 0, .ptr 1 0 0, .ptr 2 0 0, .ptr 3 0 0], .ptr 4 0 0, .ptr 5 0 0, .ptr 6 0 0, .val (.bool fits), .ro (OP.con l) none, .val (.int .i64 l.length), .val (.int .i64 k)] ⟨7, [⟨6, 0, .cells (jrC K)⟩, ⟨5, 0, .cells (mdC m.1 m.2.1 m.2.2.1 m.2.2.2)⟩, ⟨4, 0, .cells (jrC J)⟩, ⟨3, 0, .cells (okC true)⟩, ⟨2, 0, .cells (mC mo)⟩, ⟨1, 0, .cells (kC ke)⟩, ⟨0, 0, .cells (ptC cq)⟩]⟩
def Try.LQ49 (n : Int) (ke : List Int) (mo : List EntD) (cq : Int) (l : List OpD) (k : Nat) (J : JD) (m : MD) (K : JD) : LSum := atL (Try.SQ49 n ke mo cq l k J K m.2.1 m.2.2.1 (false, m) 0) (.grd (propB (QB m K)) (.br (fitM m K.L).1 (.out (.exit 3, Try.xQ49 n ke mo cq l k true J (fitM m K.L).2 K)) (.out (.exit 3, Try.xQ49 n ke mo cq l k false J (fitM m K.L).2 K))))
theorem Try.okQ49 (n : Int) (ke : List Int) (mo : List EntD) (cq : Int) (l : List OpD) (k : Nat) (J K : JD) (b0 s0 : Int) (q : Bool × MD) (i : Nat) : (Try.SQ49 n ke mo cq l k J K b0 s0 q i).h.ok := heap_ok [7, 6, 5, 4, 3, 2, 1, 0] rfl (by decide) (by decide)
theorem Try.okX49 (n : Int) (ke : List Int) (mo : List EntD) (cq : Int) (l : List OpD) (k : Nat) (f : Bool) (J : JD) (m : MD) (K : JD) : (Try.xQ49 n ke mo cq l k f J m K).h.ok := heap_ok [6, 5, 4, 3, 2, 1, 0] rfl (by decide) (by decide)
theorem Try.round49 (n : Int) (ke : List Int) (mo : List EntD) (cq : Int) (l : List OpD) (k : Nat) (J K : JD) (b0 s0 : Int) (q : Bool × MD) (i : Nat) (hi : i < 2) (hb : q.1 = false → 0 ≤ [b0, s0].getD (0 + i) 0 ∧ [b0, s0].getD (0 + i) 0 ≤ 1000 ∧ q.2.1.length ≤ 1000 ∧ K.L.length ≤ 1000) :
    ∃ s1, Try.BQ49 n ke mo (Try.SQ49 n ke mo cq l k J K b0 s0 q i) = some (.normal, s1) ∧ WeakP 4 s1 (Try.SQ49 n ke mo cq l k J K b0 s0 (tryM q K.L ([b0, s0].getD (0 + i) 0)) (i + 1)) := by
  have key := Try.rQ49 n ke mo cq l k J q.2 K b0 s0 q.1 i
  rw [decide_eq_true (show (i : Int) < 2 by omega), inR_nat, decide_eq_true hi, blt_t (show 0 + i < 2 by omega), wrapT i (by omega)] at key
  generalize [b0, s0].getD (0 + i) 0 = a at key hb ⊢
  have ok := fun q i => Try.okQ49 n ke mo cq l k J K b0 s0 q i
  have same : ∀ q' : Bool × MD, q' = q → (Try.SQ49 n ke mo cq l k J K b0 s0 q' (i + 1)) = Try.SQ49 n ke mo cq l k J K b0 s0 q (i + 1) := fun q' h => by rw [h]
  cases hq : q.1 with
  | true =>
    rw [same (tryM q K.L a) (by unfold tryM; rw [hq]; rfl)]
    have hf : q.1 = true := hq
    rw [hq] at key
    refine ⟨_, (show Try.BQ49 n ke mo (Try.SQ49 n ke mo cq l k J K b0 s0 q i) = _ from by unfold Try.SQ49; rw [hf]; exact key), ?_⟩
    unfold Try.SQ49
    rw [hf]
    exact WeakP.refl (ok q (i + 1))
  | false =>
  obtain ⟨b1, b2, b3, b4⟩ := hb hq
  have e1 : IntKind.i64.wrap (a + (K.L.length : Int)) = a + K.L.length := wrap64 _ (by omega) (by omega)
  have hS : Try.SQ49 n ke mo cq l k J K b0 s0 q i = stOf 208 [2, 9, 10, 21, 22, 41, 42, 43, 127, 128, 129] (Try.VQ49 l k false i) (Try.HQ49 n ke mo cq J q.2 K b0 s0) := by unfold Try.SQ49; rw [hq]
  have hS2 : Try.SQ49 n ke mo cq l k J K b0 s0 q (i + 1) = stOf 208 [2, 9, 10, 21, 22, 41, 42, 43, 127, 128, 129] (Try.VQ49 l k false (i + 1)) (Try.HQ49 n ke mo cq J q.2 K b0 s0) := by unfold Try.SQ49; rw [hq]
  have stay : okFit q.2 K.L a = false → (∃ s1, Try.BQ49 n ke mo (Try.SQ49 n ke mo cq l k J K b0 s0 q i) = some (.normal, s1) ∧ WeakP 4 s1 (Try.SQ49 n ke mo cq l k J K b0 s0 q (i + 1))) → (∃ s1, Try.BQ49 n ke mo (Try.SQ49 n ke mo cq l k J K b0 s0 q i) = some (.normal, s1) ∧ WeakP 4 s1 (Try.SQ49 n ke mo cq l k J K b0 s0 (tryM q K.L a) (i + 1))) := fun h1 h2 => by
    rw [same (tryM q K.L a) (by unfold tryM; rw [hq, h1]; rfl)]; exact h2
  rw [hq, e1] at key
  rw [hS] at stay ⊢
  rw [hS2] at stay
  have okR := ok q (i + 1)
  rw [hS2] at okR
  cases h1 : decide (a + (K.L.length : Int) ≤ (q.2.1.length : Int)) with
  | false =>
    rw [h1] at key
    exact stay (by unfold okFit; rw [h1]; rfl) ⟨_, key, WeakP.refl okR⟩
  | true =>
  cases h2 : decide (a + (K.L.length : Int) ≥ if (q.2.1.length : Int) < q.2.2.2.2 then (q.2.1.length : Int) else q.2.2.2.2) with
  | false =>
    rw [h1, h2] at key
    exact stay (by unfold okFit; rw [h1, h2]; rfl) ⟨_, key, WeakP.refl okR⟩
  | true =>
  have h1' : a + (K.L.length : Int) ≤ (q.2.1.length : Int) := by simpa using h1
  obtain ⟨s1, s2⟩ := en_slice q.2.1 a.toNat ((a + (K.L.length : Int)).toNat - a.toNat) (by omega)
  have e4 : (a + (K.L.length : Int)).toNat - a.toNat = K.L.length := by omega
  rw [e4] at s1 s2
  have o1 : okEN (EN.con K.L) = true := okEN_le (by omega)
  have o2 := en_ok s1 (by rw [s2, List.length_take]; omega)
  rw [h1, h2, e4, decide_eq_true (show 0 ≤ a + (K.L.length : Int) by omega), decide_eq_true b1, decide_eq_true (show a ≤ (((a + (K.L.length : Int)).toNat : Nat) : Int) by omega), o1, o2, EN_list_con, s2, ble_t (show K.L.length ≤ 1000000 by omega)] at key
  cases h3 : eqEs K.L ((q.2.1.drop a.toNat).take K.L.length) with
  | false =>
    rw [h3] at key
    exact stay (by unfold okFit; rw [h1, h2, h3]; rfl) ⟨_, key, WeakP.refl okR⟩
  | true =>
    rw [h3] at key
    have e5 : tryM q K.L a = (true, (q.2.1.take (a + K.L.length).toNat, a, a, a + K.L.length)) := by unfold tryM okFit; rw [hq, h1, h2, h3]; rfl
    rw [e5]
    refine ⟨_, key, ?_⟩
    obtain ⟨u1, u2⟩ := en_slice q.2.1 0 ((a + (K.L.length : Int)).toNat - 0) (by omega)
    have u3 : EN.list (.tab 5 ((a + (K.L.length : Int)).toNat - 0) (fun i => EN.row (q.2.1.getD (0 + i) EN.z))) = q.2.1.take (a + K.L.length).toNat := u2
    exact WeakP.heap (heap_ok [7, 6, 5, 4, 3, 2, 1, 0] rfl (by decide) (by decide)) (.same _ (.same _ (.con 5 0 0 rfl (ConW.one (md_aw u1 u3 _ _ _)) (EsW.refl _))))
theorem Try.lQ49 (n : Int) (ke : List Int) (mo : List EntD) (cq : Int) (l : List OpD) (k : Nat) (J : JD) (m : MD) (K : JD) (hh : MoOk mo) : ∀ s e s', s.h.ok → (Try.LQ49 n ke mo cq l k J m K s).run = some (e, s') → TripleP Try.prog 4 (.loop Try.bQ) s e s' := by
  refine atLP_grd (fun hp => ?_)
  obtain ⟨b1, b2, b3, b4, b5, b6⟩ := propB_eq hp
  refine loop_atP (Try.eP49 n ke mo hh) (p := 4) (d := 5) (g := 43) (ls := lsumsOf []) (c := Try.bQ) trivial [2, 9, 10, 21, 22, 41, 42, 43, 127, 128, 129] [2, 9, 10, 21, 22, 41, 42, 43] (T := (Bool × MD) × Nat)
    (fun x => Try.SQ49 n ke mo cq l k J K m.2.1 m.2.2.1 x.1 x.2) (fun x => x.2 ≤ 2 ∧ (x.2 = 0 → x.1 = (false, m)) ∧ (x.2 = 1 → x.1 = tryM (false, m) K.L m.2.1) ∧ (x.2 = 2 → x.1 = fitM m K.L)) (fun x => 2 - x.2)
    (fun _ => bif (fitM m K.L).1 then (.exit 3, Try.xQ49 n ke mo cq l k true J (fitM m K.L).2 K) else (.exit 3, Try.xQ49 n ke mo cq l k false J (fitM m K.L).2 K)) _ _ ((false, m), 0) ⟨show (0 : Nat) ≤ 2 by decide, fun _ => rfl, (fun h => by cases h), (fun h => by cases h)⟩ (WeakP.refl (Try.okQ49 n ke mo cq l k J K m.2.1 m.2.2.1 (false, m) 0)) ?_ (fun x _ => Try.okQ49 n ke mo cq l k J K m.2.1 m.2.2.1 x.1 x.2) ?_
  · intro e s' h
    rw [Ans.run_br] at h
    cases hq : (fitM m K.L).1 <;> rw [hq] at h <;> exact Option.some.inj h
  · rintro ⟨q, i⟩ ⟨h0, h1, h2, h3⟩
    replace h0 : i ≤ 2 := h0
    by_cases z0 : i = 0
    · subst z0
      have hq : q = (false, m) := h1 rfl
      subst hq
      obtain ⟨s1, r1, r2⟩ := Try.round49 n ke mo cq l k J K m.2.1 m.2.2.1 (false, m) 0 (by decide) (fun _ => ⟨b1, b2, b5, b6⟩)
      exact .inl ⟨(tryM (false, m) K.L m.2.1, 1), s1, r1, r2, ⟨show (1 : Nat) ≤ 2 by decide, (fun h => by cases h), fun _ => rfl, (fun h => by cases h)⟩, by show 2 - 1 < 2 - 0; decide, rfl⟩
    · by_cases z1 : i = 1
      · subst z1
        have hq : q = tryM (false, m) K.L m.2.1 := h2 rfl
        obtain ⟨s1, r1, r2⟩ := Try.round49 n ke mo cq l k J K m.2.1 m.2.2.1 q 1 (by decide) (fun hf => by
          have : q = (false, m) := by
            rw [hq] at hf ⊢
            unfold tryM at hf ⊢
            rw [cond_false] at hf ⊢
            cases z : okFit m K.L m.2.1 with
            | true => rw [z] at hf; cases hf
            | false => rfl
          rw [this]
          exact ⟨b3, b4, b5, b6⟩)
        exact .inl ⟨(tryM q K.L m.2.2.1, 2), s1, r1, r2, ⟨show (2 : Nat) ≤ 2 by decide, (fun h => by cases h), (fun h => by cases h), fun _ => by rw [hq]; rfl⟩, by show 2 - 2 < 2 - 1; decide, rfl⟩
      · have z2 : i = 2 := by omega
        subst z2
        have hq : q = fitM m K.L := h3 rfl
        have key := Try.rQ49 n ke mo cq l k J q.2 K m.2.1 m.2.2.1 q.1 2
        subst hq
        refine .inr ⟨_, key.trans (show _ = some ((bif (fitM m K.L).1 then (AX.exit 3, Try.xQ49 n ke mo cq l k true J (fitM m K.L).2 K) else (.exit 3, Try.xQ49 n ke mo cq l k false J (fitM m K.L).2 K)).1, Try.xQ49 n ke mo cq l k (fitM m K.L).1 J (fitM m K.L).2 K) from ?_), ?_, ?_⟩
        · cases (fitM m K.L).1 <;> rfl
        · cases hz : (fitM m K.L).1
          · exact WeakP.refl (Try.okX49 n ke mo cq l k _ J _ K)
          · exact WeakP.refl (Try.okX49 n ke mo cq l k _ J _ K)
        · cases (fitM m K.L).1 <;> (show (AX.exit 3) ≠ .normal; intro h; cases h)
end Go.Ev
/- play: a round of its loop (JournalStale). -/
namespace Go.Ev
open Go.Proofs
def Try.VP49 (l : List OpD) (k : Nat) : List AV := [.clo (.func 49) [] [.ptr 0 0 0, .ptr 1 0 0, .ptr 2 0 0, .ptr 3 0 0], .ptr 4 0 0, .ptr 5 0 0, .ro (OP.con l) none, .val (.int .i64 l.length), .val (.int .i64 k)]
def Try.HP49 (n : Int) (ke : List Int) (mo : List EntD) (cq : Int) (J : JD) (m : MD) : Heap := ⟨6, [⟨5, 0, .cells (mdC m.1 m.2.1 m.2.2.1 m.2.2.2)⟩, ⟨4, 0, .cells (jrC J)⟩, ⟨3, 0, .cells (okC true)⟩, ⟨2, 0, .cells (mC mo)⟩, ⟨1, 0, .cells (kC ke)⟩, ⟨0, 0, .cells (ptC cq)⟩]⟩
def Try.SP49 (n : Int) (ke : List Int) (mo : List EntD) (cq : Int) (l : List OpD) (k : Nat) (J : JD) (m : MD) : St := stOf 208 [2, 9, 10, 41, 42, 43] (Try.VP49 l k) (Try.HP49 n ke mo cq J m)
def Try.lP49 (n : Int) (ke : List Int) (mo : List EntD) (cq : Int) (l : List OpD) (k : Nat) (J : JD) (m : MD) : Nat → Option LSum := lsumsOf [(35, Try.LQ49 n ke mo cq l k J m (kOf J (l.getD k OP.z).2.2.2))]
def Try.BP49 (n : Int) (ke : List Int) (mo : List EntD) (cq : Int) (l : List OpD) (k : Nat) (J : JD) (m : MD) (s : St) : Option (AX × St) := codeP (Try.EP49 n ke mo ) (callF (Try.EP49 n ke mo ) 5) ((Try.EP49 n ke mo ).keep 43) (Try.lP49 n ke mo cq l k J m) 4 Try.bP (outKP 4 [2, 9, 10, 41, 42, 43] [6]) s
theorem Try.rP49 (n : Int) (ke : List Int) (mo : List EntD) (cq : Int) (l : List OpD) (k : Nat) (J : JD) (m : MD) : Try.BP49 n ke mo cq l k J m (Try.SP49 n ke mo cq l k J m) =
 bif decide ((↑k : Int) < (↑l.length : Int)) then
 bif inR (↑k : Int) l.length then
 bif (l.getD k OP.z).fst == 1 then
 bif okSW (SW.con J.P) && okEN (EN.con J.L) then
 bif (reJ J).L.length.ble 1000000 then
 bif (appJ (reJ J) (l.getD k OP.z).snd.snd.fst).snd != 0 then
 some (.normal, stOf 208 [2, 9, 10, 41, 42, 43] [.clo (Fn.func 49) [] [.ptr 0 0 0, .ptr 1 0 0, .ptr 2 0 0, .ptr 3 0 0], .ptr 4 0 0, .ptr 5 0 0, .ro (OP.con l) none, .val (.int .i64 ((↑l.length : Int))), .val (.int .i64 (IntKind.i64.wrap ((↑k : Int) + 1)))] ⟨6, [⟨5, 0, .cells (.rows true 4 ([.ro (EN.con m.fst) none, .val (.int .i64 (m.snd.fst)), .val (.int .i64 (m.snd.snd.fst)), .val (.int .i64 (m.snd.snd.snd))] :: []))⟩, ⟨4, 0, .cells (jrC J)⟩, ⟨3, 0, .cells (.rows true 1 ([.val (.bool true)] :: []))⟩, ⟨2, 0, .cells (.rows true 1 ([.ro (EN.con mo) none] :: []))⟩, ⟨1, 0, .cells (.rows true 1 ([.ro (.ints .i64 (ke)) none] :: []))⟩, ⟨0, 0, .cells (.rows true 1 ([.val (.int .i64 (cq))] :: []))⟩]⟩ )
 else
 bif decide ((↑m.fst.length : Int) ≤ (↑m.fst.length : Int)) then
 bif decide ((↑m.fst.length : Int) ≤ (↑m.fst.length : Int)) then
 bif roNew (subCap none (some m.fst.length) 0) m.fst.length 1 then
 bif ((m.fst.length + 1) * 56).ble most && (m.fst.length + 1).ble most then
 bif (↑(appJ (reJ J) (l.getD k OP.z).snd.snd.fst).fst.L.length : Int) != IntKind.i64.wrap ((↑(m.fst.length + 1) : Int) - m.snd.snd.fst) then
 some (.ret, stOf 208 [6] [.val (.bool false)] ⟨4, [⟨3, 0, .cells (.rows true 1 ([.val (.bool true)] :: []))⟩, ⟨2, 0, .cells (.rows true 1 ([.ro (EN.con mo) none] :: []))⟩, ⟨1, 0, .cells (.rows true 1 ([.ro (.ints .i64 (ke)) none] :: []))⟩, ⟨0, 0, .cells (.rows true 1 ([.val (.int .i64 (cq))] :: []))⟩]⟩ )
 else
 bif decide (0 ≤ m.snd.snd.fst) && decide (m.snd.snd.fst ≤ (↑(m.fst.length + 1) : Int)) then
 bif (0 + m.snd.snd.fst.toNat + (m.fst.length + 1 - m.snd.snd.fst.toNat)).ble (Con.tab 5 (m.fst.length - 0 + 1) fun i => bif i.blt (m.fst.length - 0) then EN.row (m.fst.getD (0 + i) EN.z) else [entRow (l.getD k OP.z).snd.snd.fst].getD (i - (m.fst.length - 0)) []).len && true then
 bif okEN (EN.con (appJ (reJ J) (l.getD k OP.z).snd.snd.fst).fst.L) && (okEN (Con.tab 5 (m.fst.length + 1 - m.snd.snd.fst.toNat) fun i => bif (0 + m.snd.snd.fst.toNat + i).blt (m.fst.length - 0) then EN.row (m.fst.getD (0 + (0 + m.snd.snd.fst.toNat + i)) EN.z) else [entRow (l.getD k OP.z).snd.snd.fst].getD (0 + m.snd.snd.fst.toNat + i - (m.fst.length - 0)) []) && (EN.list (EN.con (appJ (reJ J) (l.getD k OP.z).snd.snd.fst).fst.L)).length.ble 1000000) then
 bif eqEs (EN.list (EN.con (appJ (reJ J) (l.getD k OP.z).snd.snd.fst).fst.L)) (EN.list (Con.tab 5 (m.fst.length + 1 - m.snd.snd.fst.toNat) fun i => bif (0 + m.snd.snd.fst.toNat + i).blt (m.fst.length - 0) then EN.row (m.fst.getD (0 + (0 + m.snd.snd.fst.toNat + i)) EN.z) else [entRow (l.getD k OP.z).snd.snd.fst].getD (0 + m.snd.snd.fst.toNat + i - (m.fst.length - 0)) [])) then
 bif isAH ([]) (Try.H49o cq ke mo (m.fst.length - 0 + 1) fun i => bif i.blt (m.fst.length - 0) then EN.row (m.fst.getD (0 + i) EN.z) else [entRow (l.getD k OP.z).snd.snd.fst].getD (i - (m.fst.length - 0)) []) ([]) (Try.H49o cq ke mo (m.fst.length - 0 + 1) fun i => bif i.blt (m.fst.length - 0) then EN.row (m.fst.getD (0 + i) EN.z) else [entRow (l.getD k OP.z).snd.snd.fst].getD (i - (m.fst.length - 0)) []) then
 bif okSW (SW.con (appJ (reJ J) (l.getD k OP.z).snd.snd.fst).fst.P) && okEN (EN.con (appJ (reJ J) (l.getD k OP.z).snd.snd.fst).fst.L) then
 bif propB (OkN n (reJ (appJ (reJ J) (l.getD k OP.z).snd.snd.fst).fst)) then
 some (.normal, stOf 208 [2, 9, 10, 41, 42, 43] [.clo (Fn.func 49) [] [.ptr 0 0 0, .ptr 1 0 0, .ptr 2 0 0, .ptr 3 0 0], .ptr 4 0 0, .ptr 5 0 0, .ro (OP.con l) none, .val (.int .i64 ((↑l.length : Int))), .val (.int .i64 (IntKind.i64.wrap ((↑k : Int) + 1)))] ⟨7, [⟨6, 0, .cells (.tab 5 (m.fst.length - 0 + 1) (fun i => bif i.blt (m.fst.length - 0) then EN.row (m.fst.getD (0 + i) EN.z) else [entRow (l.getD k OP.z).snd.snd.fst].getD (i - (m.fst.length - 0)) []))⟩, ⟨5, 0, .cells (.rows false 4 ([.own 6 0 (m.fst.length + 1) none 5, .val (.int .i64 (m.snd.fst)), .val (.int .i64 (m.snd.snd.fst)), .val (.int .i64 (m.snd.snd.snd))] :: []))⟩, ⟨4, 0, .cells (jrC (appJ (reJ J) (l.getD k OP.z).snd.snd.fst).fst)⟩, ⟨3, 0, .cells (.rows true 1 ([.val (.bool true)] :: []))⟩, ⟨2, 0, .cells (.rows true 1 ([.ro (EN.con mo) none] :: []))⟩, ⟨1, 0, .cells (.rows true 1 ([.ro (.ints .i64 (ke)) none] :: []))⟩, ⟨0, 0, .cells (.rows true 1 ([.val (.int .i64 (IntKind.i64.wrap (cq + 1)))] :: []))⟩]⟩ )
 else
 none
 else
 none
 else
 none
 else
 some (.ret, stOf 208 [6] [.val (.bool false)] ⟨4, [⟨3, 0, .cells (.rows true 1 ([.val (.bool true)] :: []))⟩, ⟨2, 0, .cells (.rows true 1 ([.ro (EN.con mo) none] :: []))⟩, ⟨1, 0, .cells (.rows true 1 ([.ro (.ints .i64 (ke)) none] :: []))⟩, ⟨0, 0, .cells (.rows true 1 ([.val (.int .i64 (cq))] :: []))⟩]⟩ )
 else
 none
 else
 none
 else
 none
 else
 none
 else
 none
 else
 none
 else
 none
 else
 none
 else
 none
 else
 bif (l.getD k OP.z).fst == 2 then
 bif okSW (SW.con J.P) && okEN (EN.con J.L) then
 bif (reJ J).L.length.ble 1000000 then
 bif (syncJ (reJ J)).snd != 0 then
 some (.ret, stOf 208 [6] [.val (.bool false)] ⟨4, [⟨3, 0, .cells (.rows true 1 ([.val (.bool true)] :: []))⟩, ⟨2, 0, .cells (.rows true 1 ([.ro (EN.con mo) none] :: []))⟩, ⟨1, 0, .cells (.rows true 1 ([.ro (.ints .i64 (ke)) none] :: []))⟩, ⟨0, 0, .cells (.rows true 1 ([.val (.int .i64 (cq))] :: []))⟩]⟩ )
 else
 bif (↑(syncJ (reJ J)).fst.L.length : Int) != IntKind.i64.wrap ((↑m.fst.length : Int) - m.snd.snd.fst) then
 some (.ret, stOf 208 [6] [.val (.bool false)] ⟨4, [⟨3, 0, .cells (.rows true 1 ([.val (.bool true)] :: []))⟩, ⟨2, 0, .cells (.rows true 1 ([.ro (EN.con mo) none] :: []))⟩, ⟨1, 0, .cells (.rows true 1 ([.ro (.ints .i64 (ke)) none] :: []))⟩, ⟨0, 0, .cells (.rows true 1 ([.val (.int .i64 (cq))] :: []))⟩]⟩ )
 else
 bif decide (0 ≤ m.snd.snd.fst) && decide (m.snd.snd.fst ≤ (↑m.fst.length : Int)) then
 bif okEN (EN.con (syncJ (reJ J)).fst.L) && (okEN (Con.tab 5 (m.fst.length - m.snd.snd.fst.toNat) fun i => EN.row (m.fst.getD (m.snd.snd.fst.toNat + i) EN.z)) && (EN.list (EN.con (syncJ (reJ J)).fst.L)).length.ble 1000000) then
 bif eqEs (EN.list (EN.con (syncJ (reJ J)).fst.L)) (EN.list (Con.tab 5 (m.fst.length - m.snd.snd.fst.toNat) fun i => EN.row (m.fst.getD (m.snd.snd.fst.toNat + i) EN.z))) then
 bif isAH ([]) (Try.H49r cq ke mo) ([]) (Try.H49r cq ke mo) then
 bif okSW (SW.con (syncJ (reJ J)).fst.P) && okEN (EN.con (syncJ (reJ J)).fst.L) then
 bif propB (OkN n (reJ (syncJ (reJ J)).fst)) then
 some (.normal, stOf 208 [2, 9, 10, 41, 42, 43] [.clo (Fn.func 49) [] [.ptr 0 0 0, .ptr 1 0 0, .ptr 2 0 0, .ptr 3 0 0], .ptr 4 0 0, .ptr 5 0 0, .ro (OP.con l) none, .val (.int .i64 ((↑l.length : Int))), .val (.int .i64 (IntKind.i64.wrap ((↑k : Int) + 1)))] ⟨6, [⟨5, 0, .cells (.rows true 4 ([.ro (EN.con m.fst) none, .val (.int .i64 (m.snd.snd.fst)), .val (.int .i64 (m.snd.snd.fst)), .val (.int .i64 ((↑m.fst.length : Int)))] :: []))⟩, ⟨4, 0, .cells (jrC (syncJ (reJ J)).fst)⟩, ⟨3, 0, .cells (.rows true 1 ([.val (.bool true)] :: []))⟩, ⟨2, 0, .cells (.rows true 1 ([.ro (EN.con mo) none] :: []))⟩, ⟨1, 0, .cells (.rows true 1 ([.ro (.ints .i64 (ke)) none] :: []))⟩, ⟨0, 0, .cells (.rows true 1 ([.val (.int .i64 (IntKind.i64.wrap (cq + 1)))] :: []))⟩]⟩ )
 else
 none
 else
 none
 else
 none
 else
 some (.ret, stOf 208 [6] [.val (.bool false)] ⟨4, [⟨3, 0, .cells (.rows true 1 ([.val (.bool true)] :: []))⟩, ⟨2, 0, .cells (.rows true 1 ([.ro (EN.con mo) none] :: []))⟩, ⟨1, 0, .cells (.rows true 1 ([.ro (.ints .i64 (ke)) none] :: []))⟩, ⟨0, 0, .cells (.rows true 1 ([.val (.int .i64 (cq))] :: []))⟩]⟩ )
 else
 none
 else
 none
 else
 none
 else
 none
 else
 bif (l.getD k OP.z).fst == 3 then
 bif okSW (SW.con J.P) && okEN (EN.con J.L) then
 bif (reJ J).L.length.ble 1000000 then
 bif (trimJ (reJ J) (l.getD k OP.z).snd.fst).snd != 0 then
 some (.normal, stOf 208 [2, 9, 10, 41, 42, 43] [.clo (Fn.func 49) [] [.ptr 0 0 0, .ptr 1 0 0, .ptr 2 0 0, .ptr 3 0 0], .ptr 4 0 0, .ptr 5 0 0, .ro (OP.con l) none, .val (.int .i64 ((↑l.length : Int))), .val (.int .i64 (IntKind.i64.wrap ((↑k : Int) + 1)))] ⟨6, [⟨5, 0, .cells (.rows true 4 ([.ro (EN.con m.fst) none, .val (.int .i64 (m.snd.fst)), .val (.int .i64 (m.snd.snd.fst)), .val (.int .i64 (m.snd.snd.snd))] :: []))⟩, ⟨4, 0, .cells (jrC J)⟩, ⟨3, 0, .cells (.rows true 1 ([.val (.bool true)] :: []))⟩, ⟨2, 0, .cells (.rows true 1 ([.ro (EN.con mo) none] :: []))⟩, ⟨1, 0, .cells (.rows true 1 ([.ro (.ints .i64 (ke)) none] :: []))⟩, ⟨0, 0, .cells (.rows true 1 ([.val (.int .i64 (cq))] :: []))⟩]⟩ )
 else
 bif (↑(trimJ (reJ J) (l.getD k OP.z).snd.fst).fst.L.length : Int) != IntKind.i64.wrap ((↑m.fst.length : Int) - IntKind.i64.wrap (m.snd.snd.fst + (l.getD k OP.z).snd.fst)) then
 some (.ret, stOf 208 [6] [.val (.bool false)] ⟨4, [⟨3, 0, .cells (.rows true 1 ([.val (.bool true)] :: []))⟩, ⟨2, 0, .cells (.rows true 1 ([.ro (EN.con mo) none] :: []))⟩, ⟨1, 0, .cells (.rows true 1 ([.ro (.ints .i64 (ke)) none] :: []))⟩, ⟨0, 0, .cells (.rows true 1 ([.val (.int .i64 (cq))] :: []))⟩]⟩ )
 else
 bif decide (0 ≤ IntKind.i64.wrap (m.snd.snd.fst + (l.getD k OP.z).snd.fst)) && decide (IntKind.i64.wrap (m.snd.snd.fst + (l.getD k OP.z).snd.fst) ≤ (↑m.fst.length : Int)) then
 bif okEN (EN.con (trimJ (reJ J) (l.getD k OP.z).snd.fst).fst.L) && (okEN (Con.tab 5 (m.fst.length - (IntKind.i64.wrap (m.snd.snd.fst + (l.getD k OP.z).snd.fst)).toNat) fun i => EN.row (m.fst.getD ((IntKind.i64.wrap (m.snd.snd.fst + (l.getD k OP.z).snd.fst)).toNat + i) EN.z)) && (EN.list (EN.con (trimJ (reJ J) (l.getD k OP.z).snd.fst).fst.L)).length.ble 1000000) then
 bif eqEs (EN.list (EN.con (trimJ (reJ J) (l.getD k OP.z).snd.fst).fst.L)) (EN.list (Con.tab 5 (m.fst.length - (IntKind.i64.wrap (m.snd.snd.fst + (l.getD k OP.z).snd.fst)).toNat) fun i => EN.row (m.fst.getD ((IntKind.i64.wrap (m.snd.snd.fst + (l.getD k OP.z).snd.fst)).toNat + i) EN.z))) then
 bif isAH ([]) (Try.H49r cq ke mo) ([]) (Try.H49r cq ke mo) then
 bif okSW (SW.con (trimJ (reJ J) (l.getD k OP.z).snd.fst).fst.P) && okEN (EN.con (trimJ (reJ J) (l.getD k OP.z).snd.fst).fst.L) then
 bif propB (OkN n (reJ (trimJ (reJ J) (l.getD k OP.z).snd.fst).fst)) then
 some (.normal, stOf 208 [2, 9, 10, 41, 42, 43] [.clo (Fn.func 49) [] [.ptr 0 0 0, .ptr 1 0 0, .ptr 2 0 0, .ptr 3 0 0], .ptr 4 0 0, .ptr 5 0 0, .ro (OP.con l) none, .val (.int .i64 ((↑l.length : Int))), .val (.int .i64 (IntKind.i64.wrap ((↑k : Int) + 1)))] ⟨6, [⟨5, 0, .cells (.rows true 4 ([.ro (EN.con m.fst) none, .val (.int .i64 (m.snd.fst)), .val (.int .i64 (IntKind.i64.wrap (m.snd.snd.fst + (l.getD k OP.z).snd.fst))), .val (.int .i64 (m.snd.snd.snd))] :: []))⟩, ⟨4, 0, .cells (jrC (trimJ (reJ J) (l.getD k OP.z).snd.fst).fst)⟩, ⟨3, 0, .cells (.rows true 1 ([.val (.bool true)] :: []))⟩, ⟨2, 0, .cells (.rows true 1 ([.ro (EN.con mo) none] :: []))⟩, ⟨1, 0, .cells (.rows true 1 ([.ro (.ints .i64 (ke)) none] :: []))⟩, ⟨0, 0, .cells (.rows true 1 ([.val (.int .i64 (IntKind.i64.wrap (cq + 1)))] :: []))⟩]⟩ )
 else
 none
 else
 none
 else
 none
 else
 some (.ret, stOf 208 [6] [.val (.bool false)] ⟨4, [⟨3, 0, .cells (.rows true 1 ([.val (.bool true)] :: []))⟩, ⟨2, 0, .cells (.rows true 1 ([.ro (EN.con mo) none] :: []))⟩, ⟨1, 0, .cells (.rows true 1 ([.ro (.ints .i64 (ke)) none] :: []))⟩, ⟨0, 0, .cells (.rows true 1 ([.val (.int .i64 (cq))] :: []))⟩]⟩ )
 else
 none
 else
 none
 else
 none
 else
 none
 else
 bif (l.getD k OP.z).fst == 4 then
 bif okSW (SW.con J.P) && (l.getD k OP.z).snd.snd.snd.length.ble 9223372036854775807 then
 bif (failD (J.N, J.B, SW.list (SW.con J.P)) (l.getD k OP.z).snd.snd.snd).snd != 0 then
 some (.normal, stOf 208 [2, 9, 10, 41, 42, 43] [.clo (Fn.func 49) [] [.ptr 0 0 0, .ptr 1 0 0, .ptr 2 0 0, .ptr 3 0 0], .ptr 4 0 0, .ptr 5 0 0, .ro (OP.con l) none, .val (.int .i64 ((↑l.length : Int))), .val (.int .i64 (IntKind.i64.wrap ((↑k : Int) + 1)))] ⟨6, [⟨5, 0, .cells (.rows true 4 ([.ro (EN.con m.fst) none, .val (.int .i64 (m.snd.fst)), .val (.int .i64 (m.snd.snd.fst)), .val (.int .i64 (m.snd.snd.snd))] :: []))⟩, ⟨4, 0, .cells (jrC J)⟩, ⟨3, 0, .cells (.rows true 1 ([.val (.bool true)] :: []))⟩, ⟨2, 0, .cells (.rows true 1 ([.ro (EN.con mo) none] :: []))⟩, ⟨1, 0, .cells (.rows true 1 ([.ro (.ints .i64 (ke)) none] :: []))⟩, ⟨0, 0, .cells (.rows true 1 ([.val (.int .i64 (cq))] :: []))⟩]⟩ )
 else
 bif okSW (SW.con (failD (J.N, J.B, SW.list (SW.con J.P)) (l.getD k OP.z).snd.snd.snd).fst.snd.snd) && ((failD (J.N, J.B, SW.list (SW.con J.P)) (l.getD k OP.z).snd.snd.snd).fst.snd.snd.length.beq 0 && bytesOk (failD (J.N, J.B, SW.list (SW.con J.P)) (l.getD k OP.z).snd.snd.snd).fst.snd.fst) then
 bif (openJ ((failD (J.N, J.B, SW.list (SW.con J.P)) (l.getD k OP.z).snd.snd.snd).fst.fst, (failD (J.N, J.B, SW.list (SW.con J.P)) (l.getD k OP.z).snd.snd.snd).fst.snd.fst, [])).snd != 0 then
 some (.ret, stOf 208 [6] [.val (.bool false)] ⟨4, [⟨3, 0, .cells (.rows true 1 ([.val (.bool true)] :: []))⟩, ⟨2, 0, .cells (.rows true 1 ([.ro (EN.con mo) none] :: []))⟩, ⟨1, 0, .cells (.rows true 1 ([.ro (.ints .i64 (ke)) none] :: []))⟩, ⟨0, 0, .cells (.rows true 1 ([.val (.int .i64 (cq))] :: []))⟩]⟩ )
 else
 bif isSt (Try.SQ49 n ke mo cq l k J (kOf J (l.getD k OP.z).snd.snd.snd) m.snd.fst m.snd.snd.fst (false, m) 0) (Try.SQ49 n ke mo cq l k J (kOf J (l.getD k OP.z).snd.snd.snd) m.snd.fst m.snd.snd.fst (false, m) 0) then
 bif propB (QB m (kOf J (l.getD k OP.z).snd.snd.snd)) then
 bif (fitM m (kOf J (l.getD k OP.z).snd.snd.snd).L).fst then
 bif (↑(kOf J (l.getD k OP.z).snd.snd.snd).L.length : Int) != IntKind.i64.wrap ((↑(fitM m (kOf J (l.getD k OP.z).snd.snd.snd).L).snd.fst.length : Int) - (fitM m (kOf J (l.getD k OP.z).snd.snd.snd).L).snd.snd.snd.fst) then
 some (.ret, stOf 208 [6] [.val (.bool false)] ⟨4, [⟨3, 0, .cells (.rows true 1 ([.val (.bool true)] :: []))⟩, ⟨2, 0, .cells (.rows true 1 ([.ro (EN.con mo) none] :: []))⟩, ⟨1, 0, .cells (.rows true 1 ([.ro (.ints .i64 (ke)) none] :: []))⟩, ⟨0, 0, .cells (.rows true 1 ([.val (.int .i64 (cq))] :: []))⟩]⟩ )
 else
 bif decide (0 ≤ (fitM m (kOf J (l.getD k OP.z).snd.snd.snd).L).snd.snd.snd.fst) && decide ((fitM m (kOf J (l.getD k OP.z).snd.snd.snd).L).snd.snd.snd.fst ≤ (↑(fitM m (kOf J (l.getD k OP.z).snd.snd.snd).L).snd.fst.length : Int)) then
 bif okEN (EN.con (kOf J (l.getD k OP.z).snd.snd.snd).L) && (okEN (Con.tab 5 ((fitM m (kOf J (l.getD k OP.z).snd.snd.snd).L).snd.fst.length - (fitM m (kOf J (l.getD k OP.z).snd.snd.snd).L).snd.snd.snd.fst.toNat) fun i => EN.row ((fitM m (kOf J (l.getD k OP.z).snd.snd.snd).L).snd.fst.getD ((fitM m (kOf J (l.getD k OP.z).snd.snd.snd).L).snd.snd.snd.fst.toNat + i) EN.z)) && (EN.list (EN.con (kOf J (l.getD k OP.z).snd.snd.snd).L)).length.ble 1000000) then
 bif eqEs (EN.list (EN.con (kOf J (l.getD k OP.z).snd.snd.snd).L)) (EN.list (Con.tab 5 ((fitM m (kOf J (l.getD k OP.z).snd.snd.snd).L).snd.fst.length - (fitM m (kOf J (l.getD k OP.z).snd.snd.snd).L).snd.snd.snd.fst.toNat) fun i => EN.row ((fitM m (kOf J (l.getD k OP.z).snd.snd.snd).L).snd.fst.getD ((fitM m (kOf J (l.getD k OP.z).snd.snd.snd).L).snd.snd.snd.fst.toNat + i) EN.z))) then
 bif isAH ([]) (Try.H49r cq ke mo) ([]) (Try.H49r cq ke mo) then
 bif okSW (SW.con (kOf J (l.getD k OP.z).snd.snd.snd).P) && okEN (EN.con (kOf J (l.getD k OP.z).snd.snd.snd).L) then
 bif propB (OkN n (reJ (kOf J (l.getD k OP.z).snd.snd.snd))) then
 some (.normal, stOf 208 [2, 9, 10, 41, 42, 43] [.clo (Fn.func 49) [] [.ptr 0 0 0, .ptr 1 0 0, .ptr 2 0 0, .ptr 3 0 0], .ptr 4 0 0, .ptr 5 0 0, .ro (OP.con l) none, .val (.int .i64 ((↑l.length : Int))), .val (.int .i64 (IntKind.i64.wrap ((↑k : Int) + 1)))] ⟨6, [⟨5, 0, .cells (.rows true 4 ([.ro (EN.con (fitM m (kOf J (l.getD k OP.z).snd.snd.snd).L).snd.fst) none, .val (.int .i64 ((fitM m (kOf J (l.getD k OP.z).snd.snd.snd).L).snd.snd.fst)), .val (.int .i64 ((fitM m (kOf J (l.getD k OP.z).snd.snd.snd).L).snd.snd.snd.fst)), .val (.int .i64 ((fitM m (kOf J (l.getD k OP.z).snd.snd.snd).L).snd.snd.snd.snd))] :: []))⟩, ⟨4, 0, .cells (jrC (kOf J (l.getD k OP.z).snd.snd.snd))⟩, ⟨3, 0, .cells (.rows true 1 ([.val (.bool true)] :: []))⟩, ⟨2, 0, .cells (.rows true 1 ([.ro (EN.con mo) none] :: []))⟩, ⟨1, 0, .cells (.rows true 1 ([.ro (.ints .i64 (ke)) none] :: []))⟩, ⟨0, 0, .cells (.rows true 1 ([.val (.int .i64 (IntKind.i64.wrap (cq + 1)))] :: []))⟩]⟩ )
 else
 none
 else
 none
 else
 none
 else
 some (.ret, stOf 208 [6] [.val (.bool false)] ⟨4, [⟨3, 0, .cells (.rows true 1 ([.val (.bool true)] :: []))⟩, ⟨2, 0, .cells (.rows true 1 ([.ro (EN.con mo) none] :: []))⟩, ⟨1, 0, .cells (.rows true 1 ([.ro (.ints .i64 (ke)) none] :: []))⟩, ⟨0, 0, .cells (.rows true 1 ([.val (.int .i64 (cq))] :: []))⟩]⟩ )
 else
 none
 else
 none
 else
 some (.ret, stOf 208 [6] [.val (.bool false)] ⟨4, [⟨3, 0, .cells (.rows true 1 ([.val (.bool true)] :: []))⟩, ⟨2, 0, .cells (.rows true 1 ([.ro (EN.con mo) none] :: []))⟩, ⟨1, 0, .cells (.rows true 1 ([.ro (.ints .i64 (ke)) none] :: []))⟩, ⟨0, 0, .cells (.rows true 1 ([.val (.int .i64 (cq))] :: []))⟩]⟩ )
 else
 none
 else
 none
 else
 none
 else
 none
 else
 bif (↑J.L.length : Int) != IntKind.i64.wrap ((↑m.fst.length : Int) - m.snd.snd.fst) then
 some (.ret, stOf 208 [6] [.val (.bool false)] ⟨4, [⟨3, 0, .cells (.rows true 1 ([.val (.bool true)] :: []))⟩, ⟨2, 0, .cells (.rows true 1 ([.ro (EN.con mo) none] :: []))⟩, ⟨1, 0, .cells (.rows true 1 ([.ro (.ints .i64 (ke)) none] :: []))⟩, ⟨0, 0, .cells (.rows true 1 ([.val (.int .i64 (cq))] :: []))⟩]⟩ )
 else
 bif decide (0 ≤ m.snd.snd.fst) && decide (m.snd.snd.fst ≤ (↑m.fst.length : Int)) then
 bif okEN (EN.con J.L) && (okEN (Con.tab 5 (m.fst.length - m.snd.snd.fst.toNat) fun i => EN.row (m.fst.getD (m.snd.snd.fst.toNat + i) EN.z)) && (EN.list (EN.con J.L)).length.ble 1000000) then
 bif eqEs (EN.list (EN.con J.L)) (EN.list (Con.tab 5 (m.fst.length - m.snd.snd.fst.toNat) fun i => EN.row (m.fst.getD (m.snd.snd.fst.toNat + i) EN.z))) then
 bif isAH ([]) (Try.H49r cq ke mo) ([]) (Try.H49r cq ke mo) then
 bif okSW (SW.con J.P) && okEN (EN.con J.L) then
 bif propB (OkN n (reJ J)) then
 some (.normal, stOf 208 [2, 9, 10, 41, 42, 43] [.clo (Fn.func 49) [] [.ptr 0 0 0, .ptr 1 0 0, .ptr 2 0 0, .ptr 3 0 0], .ptr 4 0 0, .ptr 5 0 0, .ro (OP.con l) none, .val (.int .i64 ((↑l.length : Int))), .val (.int .i64 (IntKind.i64.wrap ((↑k : Int) + 1)))] ⟨6, [⟨5, 0, .cells (.rows true 4 ([.ro (EN.con m.fst) none, .val (.int .i64 (m.snd.fst)), .val (.int .i64 (m.snd.snd.fst)), .val (.int .i64 (m.snd.snd.snd))] :: []))⟩, ⟨4, 0, .cells (jrC J)⟩, ⟨3, 0, .cells (.rows true 1 ([.val (.bool true)] :: []))⟩, ⟨2, 0, .cells (.rows true 1 ([.ro (EN.con mo) none] :: []))⟩, ⟨1, 0, .cells (.rows true 1 ([.ro (.ints .i64 (ke)) none] :: []))⟩, ⟨0, 0, .cells (.rows true 1 ([.val (.int .i64 (IntKind.i64.wrap (cq + 1)))] :: []))⟩]⟩ )
 else
 none
 else
 none
 else
 none
 else
 some (.ret, stOf 208 [6] [.val (.bool false)] ⟨4, [⟨3, 0, .cells (.rows true 1 ([.val (.bool true)] :: []))⟩, ⟨2, 0, .cells (.rows true 1 ([.ro (EN.con mo) none] :: []))⟩, ⟨1, 0, .cells (.rows true 1 ([.ro (.ints .i64 (ke)) none] :: []))⟩, ⟨0, 0, .cells (.rows true 1 ([.val (.int .i64 (cq))] :: []))⟩]⟩ )
 else
 none
 else
 none
 else
 none
 else
 some (.exit 0, stOf 208 [] [] ⟨4, [⟨3, 0, .cells (.rows true 1 ([.val (.bool true)] :: []))⟩, ⟨2, 0, .cells (.rows true 1 ([.ro (EN.con mo) none] :: []))⟩, ⟨1, 0, .cells (.rows true 1 ([.ro (.ints .i64 (ke)) none] :: []))⟩, ⟨0, 0, .cells (.rows true 1 ([.val (.int .i64 (cq))] :: []))⟩]⟩ ) := by kernel_rfl
theorem Try.okP49 (n : Int) (ke : List Int) (mo : List EntD) (cq : Int) (l : List OpD) (k : Nat) (J : JD) (m : MD) : (Try.SP49 n ke mo cq l k J m).h.ok := heap_ok [5, 4, 3, 2, 1, 0] rfl (by decide) (by decide)
theorem Try.step49 (n : Int) (ke : List Int) (mo : List EntD) (cq : Int) (l : List OpD) (hl : l.length ≤ 60) (hops : ∀ x ∈ l, bytesOk x.2.2.1.2.2.2.2 = true ∧ x.2.2.2.length ≤ 9223372036854775807) (k : Nat) (J : JD) (m : MD) (h : PInv n k J m) (hk : k < l.length) :
    ∃ cq1 J' m' s1, Try.BP49 n ke mo cq l k J m (Try.SP49 n ke mo cq l k J m) = some (.normal, s1) ∧ WeakP 4 s1 (Try.SP49 n ke mo cq1 l (k + 1) J' m') ∧ PInv n (k + 1) J' m' := by
  have key := Try.rP49 n ke mo cq l k J m
  have F := h.facts
  have ok1 : (okSW (SW.con J.P) && okEN (EN.con J.L)) = true := jx_ok F.jx
  have f1 := F.few
  have f2 := h.len
  have b0 := F.b0
  have bs := F.bs
  have sl := F.sl
  simp only [reJ_eq] at key
  have hx : l.getD k OP.z ∈ l := by rw [List.getD_eq_getElem?_getD, List.getElem?_eq_getElem hk]; exact List.getElem_mem hk
  rw [declt_nat, inR_nat, decide_eq_true hk, wrapT k (by omega)] at key
  simp only [cond_true'] at key
  obtain ⟨hbx, hkx⟩ := hops _ hx
  generalize hxe : l.getD k OP.z = x at key hbx hkx
  have ex : (x.snd.snd.fst.fst, x.snd.snd.fst.snd.fst, x.snd.snd.fst.snd.snd.fst, x.snd.snd.fst.snd.snd.snd.fst, x.snd.snd.fst.snd.snd.snd.snd) = x.snd.snd.fst := rfl
  simp only [ex, ok1, ble_t (show J.L.length ≤ 1000000 by omega), cond_true'] at key
  -- what is compared behind each operation
  have chk : ∀ (J' : JD) (m' : MD), PInv n (k + 1) J' m' → ((J'.L.length : Int) != IntKind.i64.wrap ((m'.1.length : Int) - m'.2.2.1)) = false ∧ decide (0 ≤ m'.2.2.1) = true ∧ decide (m'.2.2.1 ≤ (m'.1.length : Int)) = true ∧ okEN (EN.con J'.L) = true ∧
      okEN (.tab 5 (m'.1.length - m'.2.2.1.toNat) (fun i => EN.row (m'.1.getD (m'.2.2.1.toNat + i) EN.z))) = true ∧ Nat.ble J'.L.length 1000000 = true ∧ EN.list (.tab 5 (m'.1.length - m'.2.2.1.toNat) (fun i => EN.row (m'.1.getD (m'.2.2.1.toNat + i) EN.z))) = J'.L ∧ okSW (SW.con J'.P) = true ∧ propB (OkN n J') = true := fun J' m' h' => by
    have F' := h'.facts
    have g1 := F'.few
    have g2 := h'.len
    have g3 := F'.b0
    have g4 := F'.bs
    have g5 := F'.sl
    have eL := F'.L
    have lL : J'.L.length = m'.1.length - m'.2.2.1.toNat := by rw [eL, List.length_drop]
    obtain ⟨s1, s2⟩ := en_slice m'.1 m'.2.2.1.toNat (m'.1.length - m'.2.2.1.toNat) (by omega)
    have s3 : (m'.1.drop m'.2.2.1.toNat).take (m'.1.length - m'.2.2.1.toNat) = J'.L := by rw [eL]; exact List.take_of_length_le (by rw [List.length_drop]; exact Nat.le_refl _)
    rw [s3] at s2
    refine ⟨?_, decide_eq_true (by omega), decide_eq_true g5, okEN_le (by omega), en_ok s1 (by rw [s2]; omega), ble_t (by omega), s2, (by have := jx_ok F'.jx; unfold JD.ok at this; rw [Bool.and_eq_true] at this; exact this.1), propB_t ⟨h'.N, h'.okP (by omega)⟩⟩
    rw [wrap64 _ (by omega) (by omega), lL, bne, Bool.not_eq_false', beq_iff_eq]
    omega
  have stay : ∀ (hR : Try.BP49 n ke mo cq l k J m (Try.SP49 n ke mo cq l k J m) = some (.normal, Try.SP49 n ke mo cq l (k + 1) J m)), ∃ cq1 J' m' s1, Try.BP49 n ke mo cq l k J m (Try.SP49 n ke mo cq l k J m) = some (.normal, s1) ∧ WeakP 4 s1 (Try.SP49 n ke mo cq1 l (k + 1) J' m') ∧ PInv n (k + 1) J' m' := fun hR =>
    ⟨cq, J, m, _, hR, WeakP.refl (Try.okP49 n ke mo cq l (k + 1) J m), h.next⟩
  cases h1 : (x.fst == 1) with
  | true =>
    rw [h1] at key
    cases he : ((appJ J x.snd.snd.fst).snd != 0) with
    | true =>
      rw [he] at key
      exact stay key
    | false =>
      rw [he] at key
      obtain ⟨a1, a2⟩ := pinv_app h hbx (by simpa using he)
      obtain ⟨c1, c2, c3, c4, c5, c6, c7, c8, c9⟩ := chk _ _ a2
      have F2 := a2.facts
      have eL := F2.L
      replace eL : (appX J x.snd.snd.fst).L = (m.1 ++ [x.snd.snd.fst]).drop m.2.2.1.toNat := eL
      have len1 : (m.1 ++ [x.snd.snd.fst]).length = m.1.length + 1 := by simp
      have lt : ∀ f, (Con.tab 5 (m.1.length - 0) f).len = m.1.length := fun _ => rfl
      have lt2 : ∀ f, (Con.tab 5 (m.1.length - 0 + 1) f).len = m.1.length + 1 := fun _ => rfl
      have rn : ∀ f : Nat → List AV, roNew (subCap none (some m.1.length) 0) m.1.length 1 = true := fun _ => by
        show roNew (some (m.1.length - 0)) m.1.length 1 = true
        rw [Nat.sub_zero]
        cases m.1.length with
        | zero => rfl
        | succ j => show (Nat.beq (j + 1) (j + 1) && true) = true; rw [Nat.beq_refl]; rfl
      have hrow : ∀ i, i < m.1.length + 1 - m.2.2.1.toNat → (bif (0 + m.2.2.1.toNat + i).blt (m.1.length - 0) then EN.row (m.1.getD (0 + (0 + m.2.2.1.toNat + i)) EN.z) else ([entRow x.snd.snd.fst].getD (0 + m.2.2.1.toNat + i - (m.1.length - 0)) [])) = EN.row (((m.1 ++ [x.snd.snd.fst]).drop m.2.2.1.toNat).getD i EN.z) := fun i hi => by
        rw [List.getD_eq_getElem?_getD (l := List.drop _ _), List.getElem?_drop]
        by_cases q : m.2.2.1.toNat + i < m.1.length
        · rw [blt_t (by omega), cond_true, List.getElem?_append_left q, ← List.getD_eq_getElem?_getD, show 0 + (0 + m.2.2.1.toNat + i) = m.2.2.1.toNat + i by omega]
        · rw [blt_f (by omega), cond_false, List.getElem?_append_right (by omega), show 0 + m.2.2.1.toNat + i - (m.1.length - 0) = 0 by omega, show m.2.2.1.toNat + i - m.1.length = 0 by omega]
          rfl
      obtain ⟨u1, u2⟩ := tab_list (M := (m.1 ++ [x.snd.snd.fst]).drop m.2.2.1.toNat) (by rw [List.length_drop, len1]) hrow
      have u3 := en_ok u1 (by rw [u2, List.length_drop, len1]; omega)
      rw [len1] at c1 c3
      replace c1 : (((appX J x.snd.snd.fst).L.length : Int) != IntKind.i64.wrap (((m.1.length + 1 : Nat) : Int) - m.2.2.1)) = false := c1
      replace c2 : decide (0 ≤ m.2.2.1) = true := c2
      replace c3 : decide (m.2.2.1 ≤ ((m.1.length + 1 : Nat) : Int)) = true := c3
      simp only [a1, lt, lt2, rn (fun _ => []), c1, c2, c3, c4, u3, u2, EN_list_con, ← eL, eqEs_refl, sameAs_refl, isAH_refl, c6, c8, c9, cond_true', cond_false', Bool.and_self, most_eq, decide_eq_true (Int.le_refl _), ble_t (show (m.1.length + 1) * 56 ≤ 1099511627776 by omega), ble_t (show m.1.length + 1 ≤ 1099511627776 by omega), ble_t (show 0 + m.2.2.1.toNat + (m.1.length + 1 - m.2.2.1.toNat) ≤ m.1.length + 1 by omega), ble_t (show 0 + (m.1.length + 1) ≤ m.1.length + 1 by omega)] at key
      refine ⟨IntKind.i64.wrap (cq + 1), appX J x.snd.snd.fst, (m.1 ++ [x.snd.snd.fst], m.2), _, key, ?_, a2⟩
      have hc : ConW (.tab 5 (m.1.length - 0 + 1) (fun i => bif i.blt (m.1.length - 0) then EN.row (m.1.getD (0 + i) EN.z) else ([entRow x.snd.snd.fst].getD (i - (m.1.length - 0)) []))) (EN.con (m.1 ++ [x.snd.snd.fst])) :=
        tab_snoc EN m.1 x.snd.snd.fst _ (fun i hi => by
          show (bif i.blt m.1.length then _ else _) = _
          rw [blt_t hi, cond_true, Nat.zero_add]) (by
          show (bif m.1.length.blt m.1.length then _ else ([_].getD (m.1.length - m.1.length) [])) = _
          rw [blt_f (Nat.le_refl _), cond_false, Nat.sub_self]; rfl)
      have w1 := WeakP.heap (p := 4) (t := placeL [2, 9, 10, 41, 42, 43] (Try.VP49 l (k + 1)) 208 0) (d := []) (n := 7)
        (es := [⟨6, 0, .cells (.tab 5 (m.1.length - 0 + 1) (fun i => bif i.blt (m.1.length - 0) then EN.row (m.1.getD (0 + i) EN.z) else ([entRow x.snd.snd.fst].getD (i - (m.1.length - 0)) [])))⟩, ⟨5, 0, .cells (.rows false 4 [[.own 6 0 (m.1.length + 1) none 5, .val (.int .i64 m.2.1), .val (.int .i64 m.2.2.1), .val (.int .i64 m.2.2.2)]])⟩, ⟨4, 0, .cells (jrC (appX J x.snd.snd.fst))⟩, ⟨3, 0, .cells (okC true)⟩, ⟨2, 0, .cells (mC mo)⟩, ⟨1, 0, .cells (kC ke)⟩, ⟨0, 0, .cells (ptC (IntKind.i64.wrap (cq + 1)))⟩])
        (es' := [⟨6, 0, .cells (EN.con (m.1 ++ [x.snd.snd.fst]))⟩, ⟨5, 0, .cells (.rows false 4 [[.own 6 0 (m.1.length + 1) none 5, .val (.int .i64 m.2.1), .val (.int .i64 m.2.2.1), .val (.int .i64 m.2.2.2)]])⟩, ⟨4, 0, .cells (jrC (appX J x.snd.snd.fst))⟩, ⟨3, 0, .cells (okC true)⟩, ⟨2, 0, .cells (mC mo)⟩, ⟨1, 0, .cells (kC ke)⟩, ⟨0, 0, .cells (ptC (IntKind.i64.wrap (cq + 1)))⟩])
        (heap_ok [6, 5, 4, 3, 2, 1, 0] rfl (by decide) (by decide)) (.con 6 0 0 rfl hc (EsW.refl _))
      have w2 := WeakP.fzHs (p0 := 4) (m := 208) (ks := [2, 9, 10, 41, 42, 43]) (vs := Try.VP49 l (k + 1)) (vs' := Try.VP49 l (k + 1)) (con := EN.con (m.1 ++ [x.snd.snd.fst])) (n := 7) (id := 6)
        (es := [⟨6, 0, .cells (EN.con (m.1 ++ [x.snd.snd.fst]))⟩, ⟨5, 0, .cells (.rows false 4 [[.own 6 0 (m.1.length + 1) none 5, .val (.int .i64 m.2.1), .val (.int .i64 m.2.2.1), .val (.int .i64 m.2.2.2)]])⟩, ⟨4, 0, .cells (jrC (appX J x.snd.snd.fst))⟩, ⟨3, 0, .cells (okC true)⟩, ⟨2, 0, .cells (mC mo)⟩, ⟨1, 0, .cells (kC ke)⟩, ⟨0, 0, .cells (ptC (IntKind.i64.wrap (cq + 1)))⟩])
        (es' := [⟨5, 0, .cells (mdC (m.1 ++ [x.snd.snd.fst]) m.2.1 m.2.2.1 m.2.2.2)⟩, ⟨4, 0, .cells (jrC (appX J x.snd.snd.fst))⟩, ⟨3, 0, .cells (okC true)⟩, ⟨2, 0, .cells (mC mo)⟩, ⟨1, 0, .cells (kC ke)⟩, ⟨0, 0, .cells (ptC (IntKind.i64.wrap (cq + 1)))⟩])
        (heap_ok [6, 5, 4, 3, 2, 1, 0] rfl (by decide) (by decide)) rfl rfl (FzL.refl _ _ _)
        (.skip (.row 5 0 rfl (fun q => by cases q) (FzC.oneT (.cons (.inr (.inr ⟨none, by show AV.own 6 0 (m.1.length + 1) none 5 = .own 6 0 (m.1 ++ [x.snd.snd.fst]).length none 5; rw [len1], rfl⟩)) (FzL.refl _ _ _)) (by
          intro v hv
          simp only [List.mem_cons, List.not_mem_nil, or_false] at hv
          rcases hv with rfl | rfl | rfl | rfl <;> rfl)) (EsFz.rest (by show ∀ i ∈ [4, 3, 2, 1, 0], Nat.beq i 6 = false; decide))))
      have w3 := WeakP.canon (p := 4) (s := stOf 208 [2, 9, 10, 41, 42, 43] (Try.VP49 l (k + 1)) ⟨7, [⟨5, 0, .cells (mdC (m.1 ++ [x.snd.snd.fst]) m.2.1 m.2.2.1 m.2.2.2)⟩, ⟨4, 0, .cells (jrC (appX J x.snd.snd.fst))⟩, ⟨3, 0, .cells (okC true)⟩, ⟨2, 0, .cells (mC mo)⟩, ⟨1, 0, .cells (kC ke)⟩, ⟨0, 0, .cells (ptC (IntKind.i64.wrap (cq + 1)))⟩]⟩) (heap_ok [5, 4, 3, 2, 1, 0] rfl (by decide) (by decide)) [2, 9, 10, 41, 42, 43]
      have e3 : canonP 4 (some [2, 9, 10, 41, 42, 43]) (stOf 208 [2, 9, 10, 41, 42, 43] (Try.VP49 l (k + 1)) ⟨7, [⟨5, 0, .cells (mdC (m.1 ++ [x.snd.snd.fst]) m.2.1 m.2.2.1 m.2.2.2)⟩, ⟨4, 0, .cells (jrC (appX J x.snd.snd.fst))⟩, ⟨3, 0, .cells (okC true)⟩, ⟨2, 0, .cells (mC mo)⟩, ⟨1, 0, .cells (kC ke)⟩, ⟨0, 0, .cells (ptC (IntKind.i64.wrap (cq + 1)))⟩]⟩) = Try.SP49 n ke mo (IntKind.i64.wrap (cq + 1)) l (k + 1) (appX J x.snd.snd.fst) (m.1 ++ [x.snd.snd.fst], m.2) := by kernel_rfl
      rw [e3] at w3
      exact (w1.trans w2).trans w3
  | false =>
  rw [h1] at key
  cases h2 : (x.fst == 2) with
  | true =>
    rw [h2] at key
    obtain ⟨a1, a2⟩ := pinv_sync h
    obtain ⟨c1, c2, c3, c4, c5, c6, c7, c8, c9⟩ := chk _ _ a2
    simp only [a1, bne_self_eq_false, c1, c2, c3, c4, c5, c6, c7, c8, c9, EN_list_con, eqEs_refl, sameAs_refl, isAH_refl, cond_true', cond_false', Bool.and_self] at key
    exact ⟨IntKind.i64.wrap (cq + 1), _, _, _, key, WeakP.refl (Try.okP49 n ke mo (IntKind.i64.wrap (cq + 1)) l (k + 1) _ _), a2⟩
  | false =>
  rw [h2] at key
  cases h3 : (x.fst == 3) with
  | true =>
    rw [h3] at key
    cases he : ((trimJ J x.snd.fst).snd != 0) with
    | true =>
      rw [he] at key
      exact stay key
    | false =>
      rw [he] at key
      obtain ⟨a1, a0, a00, a2⟩ := pinv_trim h (x := x.snd.fst) (by omega) (by simpa using he)
      obtain ⟨c1, c2, c3, c4, c5, c6, c7, c8, c9⟩ := chk _ _ a2
      rw [wrap64 (m.2.2.1 + x.snd.fst) (by omega) (by omega)] at key
      simp only [a1, bne_self_eq_false, c1, c2, c3, c4, c5, c6, c7, c8, c9, EN_list_con, eqEs_refl, sameAs_refl, isAH_refl, cond_true', cond_false', Bool.and_self] at key
      exact ⟨IntKind.i64.wrap (cq + 1), _, _, _, key, WeakP.refl (Try.okP49 n ke mo (IntKind.i64.wrap (cq + 1)) l (k + 1) _ _), a2⟩
  | false =>
  rw [h3] at key
  cases h4 : (x.fst == 4) with
  | true =>
    rw [h4] at key
    have ef : failD (J.N, J.B, SW.list (SW.con J.P)) x.snd.snd.snd = flD J x.snd.snd.snd := rfl
    have ok2 : okSW (SW.con J.P) = true := by rw [Bool.and_eq_true] at ok1; exact ok1.1
    simp only [ef, ok2, ble_t hkx, cond_true', cond_false', Bool.and_self] at key
    cases he : ((flD J x.snd.snd.snd).snd != 0) with
    | true =>
      rw [he] at key
      exact stay key
    | false =>
      rw [he] at key
      obtain ⟨B', a1, a2, a3, a4, a5, a6, a7, a8⟩ := pinv_fail h (kp := x.snd.snd.snd) (by omega) (by simpa using he)
      obtain ⟨c1, c2, c3, c4, c5, c6, c7, c8, c9⟩ := chk _ _ a8
      have o1 : okSW (SW.con ([] : List SwD)) = true := okSW_le (by simp)
      simp only [a3, a4, o1, a2, show Nat.beq ([] : List SwD).length 0 = true from rfl, isSt_refl, propB_t a6, a7, bne_self_eq_false, c1, c2, c3, c4, c5, c6, c7, c8, c9, EN_list_con, eqEs_refl, sameAs_refl, isAH_refl, cond_true', cond_false', Bool.and_self] at key
      exact ⟨IntKind.i64.wrap (cq + 1), _, _, _, key, WeakP.refl (Try.okP49 n ke mo (IntKind.i64.wrap (cq + 1)) l (k + 1) _ _), a8⟩
  | false =>
    rw [h4] at key
    obtain ⟨c1, c2, c3, c4, c5, c6, c7, c8, c9⟩ := chk _ _ h.next
    simp only [c1, c2, c3, c4, c5, c6, c7, c8, c9, EN_list_con, eqEs_refl, sameAs_refl, isAH_refl, cond_true', cond_false', Bool.and_self] at key
    exact ⟨IntKind.i64.wrap (cq + 1), J, m, _, key, WeakP.refl (Try.okP49 n ke mo (IntKind.i64.wrap (cq + 1)) l (k + 1) J m), h.next⟩
end Go.Ev
/- JournalRing: its loop. -/
namespace Go.Ev
open Go.Proofs
end Go.Ev
/- JournalRing: the loop's law. -/
namespace Go.Ev
open Go.Proofs
end Go.Ev
/- JournalRing: the walk and the law. -/
namespace Go.Ev
open Go.Proofs
def rd (d : DevD) : DevD := (d.1, d.2.1, SW.list (SW.con d.2.2))
theorem rd_eq (d : DevD) : rd d = d := by unfold rd; rw [SW_list_con]
end Go.Ev
/- play (JournalStale). -/
namespace Go.Ev
open Go.Proofs
def Try.H049 (n : Int) (ke : List Int) (mo : List EntD) (cq : Int) : Heap := ⟨4, [⟨3, 0, .cells (okC true)⟩, ⟨2, 0, .cells (mC mo)⟩, ⟨1, 0, .cells (kC ke)⟩, ⟨0, 0, .cells (ptC cq)⟩]⟩
def Try.s0P49 (n : Int) (ke : List Int) (mo : List EntD) (cq : Int) (l : List OpD) (J : JD) : St := stOf 208 [2, 9, 10, 41, 42, 43] (Try.VP49 l 0) ⟨6, [⟨5, 0, .cells (.rows true 4 [[.val (.slice none 0 0), .val (.int .i64 0), .val (.int .i64 0), .val (.int .i64 0)]])⟩, ⟨4, 0, .cells (jrC J)⟩, ⟨3, 0, .cells (okC true)⟩, ⟨2, 0, .cells (mC mo)⟩, ⟨1, 0, .cells (kC ke)⟩, ⟨0, 0, .cells (ptC cq)⟩]⟩
def Try.Hu49 (ke : List Int) (mo : List EntD) : Heap := ⟨4, [⟨3, 0, .cells (okC true)⟩, ⟨2, 0, .cells (mC mo)⟩, ⟨1, 0, .cells (kC ke)⟩, ⟨0, 0, .cells (.rows true 1 [[.unk]])⟩]⟩
def Try.x0P49 (ke : List Int) (mo : List EntD) : AX × St := (.exit 0, stOf 208 [] [] (Try.Hu49 ke mo))
def Try.LP49 (n : Int) (ke : List Int) (mo : List EntD) (cq : Int) (l : List OpD) (J : JD) : LSum := atL (Try.s0P49 n ke mo cq l J) (.grd (propB (PInv n 0 J ([], 0, 0, 0) ∧ PB n l)) (.out (Try.x0P49 ke mo)))
theorem Try.lP049 (n : Int) (ke : List Int) (mo : List EntD) (cq : Int) (l : List OpD) (J : JD) (hh : MoOk mo) : ∀ s e s', s.h.ok → (Try.LP49 n ke mo cq l J s).run = some (e, s') → TripleP Try.prog 4 (.loop Try.bP) s e s' := by
  refine atLP_grd (fun hp => ?_)
  obtain ⟨hI, hn, hl, hops⟩ := propB_eq hp
  have w0 : WeakP 4 (Try.s0P49 n ke mo cq l J) (Try.SP49 n ke mo cq l 0 J ([], 0, 0, 0)) := WeakP.heap (heap_ok [5, 4, 3, 2, 1, 0] rfl (by decide) (by decide)) (.con 5 0 0 rfl (ConW.one (.cons (AW.nil rfl) (AWs.refl _))) (EsW.refl _))
  have okH : ∀ cq, (Try.H049 n ke mo cq ).ok := fun cq => heap_ok [3, 2, 1, 0] rfl (by decide) (by decide)
  have hX := fun (cq : Int) (k : Nat) (J : JD) (m : MD) => codeP_sound (ρ := AX × St) (p := 4) (callF_sound (Try.eP49 n ke mo hh) 5) (Try.eP49 n ke mo hh).ok (Try.eP49 n ke mo hh).mix ((Try.EP49 n ke mo ).keep 43) (Try.lP49 n ke mo cq l k J m) Try.bP (AllL.of1 (a := Try.bQ) (by kernel_rfl) (LsOkP.of rfl rfl (Try.lQ49 n ke mo cq l k J m _ hh)))
  have key := loop_tripleX (T := Int × Nat × JD × MD) (X := fun x => fun K s => codeP (Try.EP49 n ke mo ) (callF (Try.EP49 n ke mo ) 5) ((Try.EP49 n ke mo ).keep 43) (Try.lP49 n ke mo x.1 l x.2.1 x.2.2.1 x.2.2.2) 4 Try.bP K s) (fun x => hX x.1 x.2.1 x.2.2.1 x.2.2.2) [2, 9, 10, 41, 42, 43] [6]
    (fun x => Try.SP49 n ke mo x.1 l x.2.1 x.2.2.1 x.2.2.2) (fun x => x.2.1 ≤ l.length ∧ PInv n x.2.1 x.2.2.1 x.2.2.2) (fun x => l.length - x.2.1) (fun _ => Try.x0P49 ke mo) (fun x _ => Try.okP49 n ke mo x.1 l x.2.1 x.2.2.1 x.2.2.2) ?_ (cq, 0, J, ([], 0, 0, 0)) ⟨Nat.zero_le _, hI⟩
  · intro s e s' hk hL
    obtain ⟨rfl, hA2⟩ := atL_some hL
    have hA2 := Option.some.inj hA2
    injection hA2 with q1 q2
    rw [← q1, ← q2]
    exact TripleP.weak w0 key
  · rintro ⟨cq, k, J, m⟩ ⟨h1, h2⟩
    replace h1 : k ≤ l.length := h1
    replace h2 : PInv n k J m := h2
    by_cases hk : k < l.length
    · obtain ⟨cq1, J', m', s1, r1, r2, r3⟩ := Try.step49 n ke mo cq l hl hops k J m h2 hk
      exact .inl ⟨(cq1, k + 1, J', m'), s1, r1, r2, ⟨hk, r3⟩, by show l.length - (k + 1) < l.length - k; omega, rfl⟩
    · have key := Try.rP49 n ke mo cq l k J m
      rw [declt_nat, decide_eq_false hk] at key
      exact .inr ⟨_, key, WeakP.heap (okH cq) (.same _ (.same _ (.same _ (.con 0 0 0 rfl (ConW.one (.cons (AW.unk _) .nil)) (EsW.refl _))))), by show (AX.exit 0) ≠ .normal; intro h; cases h⟩
theorem Try.w4349 (n : Int) (ke : List Int) (mo : List EntD) (cq : Int) (l : List OpD) : rootE (Try.EP49 n ke mo ) 5 43 4 (lsumsOf [(9, Try.LP49 n ke mo cq l (fmtJ (rd (newD n).1)).1)]) [.val (.int .i64 n), .ro (OP.con l) none, .clo (.func 49) [] [.ptr 0 0 0, .ptr 1 0 0, .ptr 2 0 0, .ptr 3 0 0]] (Try.H049 n ke mo cq ) =
 bif (newD n).snd != 0 then
 some (.val (.bool true), ⟨4, [⟨3, 0, .cells (.rows true 1 ([.val (.bool true)] :: []))⟩, ⟨2, 0, .cells (.rows true 1 ([.ro (EN.con mo) none] :: []))⟩, ⟨1, 0, .cells (.rows true 1 ([.ro (.ints .i64 (ke)) none] :: []))⟩, ⟨0, 0, .cells (.rows true 1 ([.val (.int .i64 (cq))] :: []))⟩]⟩)
 else
 bif okSW (SW.con (newD n).fst.snd.snd) then
 bif (fmtJ ((newD n).fst.fst, (newD n).fst.snd.fst, SW.list (SW.con (newD n).fst.snd.snd))).snd != 0 then
 some (.val (.bool false), ⟨4, [⟨3, 0, .cells (.rows true 1 ([.val (.bool true)] :: []))⟩, ⟨2, 0, .cells (.rows true 1 ([.ro (EN.con mo) none] :: []))⟩, ⟨1, 0, .cells (.rows true 1 ([.ro (.ints .i64 (ke)) none] :: []))⟩, ⟨0, 0, .cells (.rows true 1 ([.val (.int .i64 (cq))] :: []))⟩]⟩)
 else
 bif isSt (Try.s0P49 n ke mo cq l (fmtJ (rd (newD n).fst)).fst) (Try.s0P49 n ke mo cq l (fmtJ (rd (newD n).fst)).fst) then
 bif propB (PInv n 0 (fmtJ (rd (newD n).fst)).fst ([], 0, 0, 0) ∧ PB n l) then
 some (.val (.bool true), ⟨4, [⟨3, 0, .cells (.rows true 1 ([.val (.bool true)] :: []))⟩, ⟨2, 0, .cells (.rows true 1 ([.ro (EN.con mo) none] :: []))⟩, ⟨1, 0, .cells (.rows true 1 ([.ro (.ints .i64 (ke)) none] :: []))⟩, ⟨0, 0, .cells (.rows true 1 ([.unk] :: []))⟩]⟩)
 else
 none
 else
 none
 else
 none := by kernel_rfl
def Try.F4349 (n : Int) (ke : List Int) (mo : List EntD) (cq : Int) (l : List OpD) (args : List AV) (h : Heap) : Ans (AV × Heap) := .grd (isAH args h [.val (.int .i64 n), .ro (OP.con l) none, .clo (.func 49) [] [.ptr 0 0 0, .ptr 1 0 0, .ptr 2 0 0, .ptr 3 0 0]] (Try.H049 n ke mo cq )) (.grd (propB (PB n l)) (.br ((newD n).2 != 0) (.out (.val (.bool true), Try.H049 n ke mo cq)) (.out (.val (.bool true), Try.Hu49 ke mo))))
def Try.A4349 (n : Int) (ke : List Int) (mo : List EntD) (cq : Int) (l : List OpD) : AFun := effA (Try.F4349 n ke mo cq l)
theorem Try.sum4349 (n : Int) (ke : List Int) (mo : List EntD) (cq : Int) (l : List OpD) (hh : MoOk mo) : SumC Try.prog 43 (Try.A4349 n ke mo cq l) := by
  refine effSumR 43 ⟨Try.f43, _, Try.fnOk43.1, Try.fnOk43.2, rfl⟩ ?_
  intro args h v h2 hok hs
  unfold Try.F4349 at hs
  rw [Ans.run_grd, Ans.run_grd] at hs
  cases hb : isAH args h [.val (.int .i64 n), .ro (OP.con l) none, .clo (.func 49) [] [.ptr 0 0 0, .ptr 1 0 0, .ptr 2 0 0, .ptr 3 0 0]] (Try.H049 n ke mo cq ) with
  | false => rw [hb] at hs; cases hs
  | true =>
  rw [hb, cond_true] at hs
  obtain ⟨rfl, rfl⟩ := isAH_eq hb
  cases hd : propB (PB n l) with
  | false => rw [hd] at hs; cases hs
  | true =>
  rw [hd, cond_true, Ans.run_br] at hs
  have hPB := propB_eq hd
  have okH : ∀ cq, (Try.H049 n ke mo cq ).ok := fun cq => heap_ok [3, 2, 1, 0] rfl (by decide) (by decide)
  refine rootE_alone (Try.eP49 n ke mo hh) (d := 5) (g := 43) (p := 4) (ls := lsumsOf [(9, Try.LP49 n ke mo cq l (fmtJ (rd (newD n).1)).1)]) (AllL.of2 (a := Try.bP) (b := Try.bQ) (by kernel_rfl) (LsOkP.of rfl rfl (Try.lP049 n ke mo cq l _ hh)) trivial) (okH cq) ((Try.w4349 n ke mo cq l).trans ?_)
  rw [SW_list_con, isSt_refl, rd_eq, ← hs]
  by_cases h0 : 8 ≤ n
  · have hn := hPB.1
    obtain ⟨f1, f2, f3⟩ := fmt_jx h0 (show n ≤ 4096 by omega)
    have e1 : ((newD n).1.1, (newD n).1.2.1, (newD n).1.2.2) = (newD n).1 := rfl
    rw [e1, f1, f2]
    have hI := pinv_fmt h0 hn
    unfold fmtX at hI
    rw [propB_t ⟨hI, hPB⟩, show okSW (SW.con (([] : List SwD))) = true from okSW_le (by simp)]
    rfl
  · have e2 : newD n = noDev 1 := by unfold newD; rw [decide_eq_true (show n < 8 by omega), Bool.true_or]; rfl
    rw [e2]
    rfl
end Go.Ev
/- JournalStale, for every input: the law answers true, and its arguments read as they did. -/
namespace Go.Ev
open Go.Proofs
def guardA (b : Bool) (A : AFun) : AFun := fun ρ args h K => bif b then A ρ args h K else none
theorem guardA_sum {P : Program} {g : Nat} {fn : Func} {c : Code} {b : Bool} {A : AFun} (hf : P.funcs[g]? = some fn ∧ fn.name ≠ "runtime.NumGoroutine") (hc : fn.body = some c) (h : b = true → SumC P g A) : SumC P g (guardA b A) := by
  cases b with
  | true => exact h rfl
  | false => exact ⟨⟨fn, c, hf.1, hf.2, hc⟩, fun ρ args h K r _ hs => by cases hs⟩
def Try.t9s (n : Int) (ke : List Int) (mo : List EntD) (l : List OpD) : List (Nat × AFun) := [(12, constA (.bool true)), (42, Try.A42), (43, guardA (propB (MoOk mo)) (Try.A4349 n ke mo 0 l))]
def Try.E9s (n : Int) (ke : List Int) (mo : List EntD) (l : List OpD) : Env := Try.env0 false (sumsOf (Try.t9s n ke mo l)) (keepF 9 [(5, [0, 1, 6, 7, 9, 17, 18, 19])])
def Try.b9 : Code := nthD .skip (loopsOf (bodyOf Try.E1 9)) 0
def Try.B9 (n : Int) (ke : List Int) (mo : List EntD) (l : List OpD) (s : St) : Option (AX × St) := codeS (Try.E9s n ke mo l) (callF (Try.E9s n ke mo l) 5) ((Try.E9s n ke mo l).keep 9) (lsumsOf []) Try.b9 (outK [0, 1, 6, 7, 9, 17, 18, 19] [0, 1, 6, 7, 9]) s
def totN (mo : List EntD) (k : Nat) : Int := Nat.rec 0 (fun k ih => IntKind.i64.wrap (ih + ((mo.getD k EN.z).2.2.2.2.length : Int))) k
def Try.h9 (ke : List Int) (mo : List EntD) : Heap := ⟨2, [⟨1, 0, .cells (mC mo)⟩, ⟨0, 0, .cells (kC ke)⟩]⟩
def Try.s9 (n : Int) (ke : List Int) (mo : List EntD) (l : List OpD) (t : Int) (k : Nat) : St := stOf 58 [0, 1, 6, 7, 9, 17, 18, 19] [.val (.int .i64 n), .ro (OP.con l) none, .ptr 0 0 0, .ptr 1 0 0, .val (.int .i64 t), .ro (EN.con mo) none, .val (.int .i64 mo.length), .val (.int .i64 k)] (Try.h9 ke mo)
def Try.x9 (n : Int) (ke : List Int) (mo : List EntD) (l : List OpD) : AX × St := (.exit 0, stOf 58 [0, 1, 6, 7, 9] [.val (.int .i64 n), .ro (OP.con l) none, .ptr 0 0 0, .ptr 1 0 0, .val (.int .i64 (totN mo mo.length))] (Try.h9 ke mo))
def Try.L9 (n : Int) (ke : List Int) (mo : List EntD) (l : List OpD) : LSum := atL (Try.s9 n ke mo l 0 0) (.grd (Nat.ble mo.length 9223372036854775807) (.out (Try.x9 n ke mo l)))
theorem Try.e9s (n : Int) (ke : List Int) (mo : List EntD) (l : List OpD) : EnvOk2 Try.prog (Try.E9s n ke mo l) := Try.envOk false (sumsOf (Try.t9s n ke mo l)) _ (sumsOf_ok (show AllS Try.prog (Try.t9s n ke mo l) from ⟨Try.saneSum, Try.sum42, guardA_sum Try.fnOk43 rfl (fun h => Try.sum4349 n ke mo 0 l (propB_eq h)), trivial⟩))
theorem Try.r9 (n : Int) (ke : List Int) (mo : List EntD) (l : List OpD) (t : Int) (k : Nat) : Try.B9 n ke mo l (Try.s9 n ke mo l t k) =
 bif decide ((↑k : Int) < (↑mo.length : Int)) then
 bif inR (↑k : Int) mo.length then
 some (.normal, stOf 58 [0, 1, 6, 7, 9, 17, 18, 19] [.val (.int .i64 (n)), .ro (OP.con l) none, .ptr 0 0 0, .ptr 1 0 0, .val (.int .i64 (IntKind.i64.wrap (t + (↑(mo.getD k EN.z).snd.snd.snd.snd.length : Int)))), .ro (EN.con mo) none, .val (.int .i64 ((↑mo.length : Int))), .val (.int .i64 (IntKind.i64.wrap ((↑k : Int) + 1)))] ⟨2, [⟨1, 0, .cells (.rows true 1 ([.ro (EN.con mo) none] :: []))⟩, ⟨0, 0, .cells (.rows true 1 ([.ro (.ints .i64 (ke)) none] :: []))⟩]⟩ )
 else
 none
 else
 some (.exit 0, stOf 58 [0, 1, 6, 7, 9] [.val (.int .i64 (n)), .ro (OP.con l) none, .ptr 0 0 0, .ptr 1 0 0, .val (.int .i64 (t))] ⟨2, [⟨1, 0, .cells (.rows true 1 ([.ro (EN.con mo) none] :: []))⟩, ⟨0, 0, .cells (.rows true 1 ([.ro (.ints .i64 (ke)) none] :: []))⟩]⟩ ) := by kernel_rfl
theorem Try.w9s (n : Int) (ke : List Int) (mo : List EntD) (l : List OpD) : rootS (Try.E9s n ke mo l) 5 9 (lsumsOf [(5, Try.L9 n ke mo l)]) [.val (.int .i64 n), .ro (OP.con l) none, .ro (.ints .i64 ke) none, .ro (EN.con mo) none] =
 bif isSt (Try.s9 n ke mo l 0 0) (Try.s9 n ke mo l 0 0) then
 bif mo.length.ble 9223372036854775807 then
 bif decide (n > 60) then
 some (.val (.bool true), ⟨0, []⟩)
 else
 bif okOP (OP.con l) then
 bif fewB (OP.list (OP.con l)) then
 bif decide ((↑mo.length : Int) > 10) then
 some (.val (.bool true), ⟨0, []⟩)
 else
 bif decide (totN mo mo.length > 1000) then
 some (.val (.bool true), ⟨0, []⟩)
 else
 bif decide ((↑ke.length : Int) > 200) then
 some (.val (.bool true), ⟨0, []⟩)
 else
 bif propB (MoOk mo) then
 bif isAH ([AV.val (Value.int IntKind.i64 n), AV.ro (OP.con l) none, AV.clo (Fn.func 49) [] [AV.ptr 0 0 0, AV.ptr 1 0 0, AV.ptr 2 0 0, AV.ptr 3 0 0]]) (Try.H049 n ke mo 0) ([AV.val (Value.int IntKind.i64 n), AV.ro (OP.con l) none, AV.clo (Fn.func 49) [] [AV.ptr 0 0 0, AV.ptr 1 0 0, AV.ptr 2 0 0, AV.ptr 3 0 0]]) (Try.H049 n ke mo 0) then
 bif propB (PB n l) then
 bif (newD n).snd != 0 then
 some (.val (.bool true), ⟨0, []⟩)
 else
 some (.val (.bool true), ⟨0, []⟩)
 else
 none
 else
 none
 else
 none
 else
 some (.val (.bool true), ⟨0, []⟩)
 else
 none
 else
 none
 else
 none := by kernel_rfl
theorem Try.l9 (n : Int) (ke : List Int) (mo : List EntD) (l : List OpD) : ∀ s e s', s.h.ok → (Try.L9 n ke mo l s).run = some (e, s') → Triple Try.prog (.loop Try.b9) s e s' := by
  refine atL_grd (fun hp => ?_)
  rw [Nat.ble_eq] at hp
  have ok : ∀ t k, (Try.s9 n ke mo l t k).h.ok := fun t k => heap_ok [1, 0] rfl (by decide) (by decide)
  refine loop_at (Try.e9s n ke mo l) (d := 5) (g := 9) (ls := lsumsOf []) (c := Try.b9) trivial [0, 1, 6, 7, 9, 17, 18, 19] [0, 1, 6, 7, 9] (T := Nat)
    (fun k => Try.s9 n ke mo l (totN mo k) k) (fun k => k ≤ mo.length) (fun k => mo.length - k) (fun _ => Try.x9 n ke mo l) _ _ 0 (Nat.zero_le _) (Weak.refl (ok _ _)) ?_ (fun k _ => ok _ _) ?_
  · intro e s' h
    exact Option.some.inj h
  · intro k h1
    have key := Try.r9 n ke mo l (totN mo k) k
    by_cases hk : k < mo.length
    · rw [declt_nat, inR_nat, decide_eq_true hk, wrapT k (by omega)] at key
      exact .inl ⟨k + 1, _, key, Weak.refl (ok _ _), hk, by show mo.length - (k + 1) < mo.length - k; omega, rfl⟩
    · have e1 : k = mo.length := by omega
      rw [declt_nat, decide_eq_false hk] at key
      subst e1
      exact .inr ⟨_, key, Weak.refl (heap_ok [1, 0] rfl (by decide) (by decide)), by show (AX.exit 0) ≠ .normal; intro h; cases h⟩
theorem okOP_le {L : List OpD} (h : L.length ≤ 9223372036854775807) : okOP (OP.con L) = true := by
  unfold okOP
  rw [OP.ok_con, Bool.true_and]
  exact ble_t (a := L.length) h
theorem few_len {l : List OpD} (h : fewB l = true) : l.length ≤ 60 := by
  unfold fewB at h
  simp only [Bool.and_eq_true, decide_eq_true_eq] at h
  omega
theorem Try.law9 (n : Int) (ke : List Int) (mo : List EntD) (l : List OpD) (hm : ∀ e ∈ mo, bytesOk e.2.2.2.2 = true) (hml : mo.length ≤ 9223372036854775807) (hl : l.length ≤ 9223372036854775807) (hops : ∀ x ∈ l, bytesOk x.2.2.1.2.2.2.2 = true ∧ x.2.2.2.length ≤ 9223372036854775807) : Alone Try.prog 9 [.val (.int .i64 n), .ro (OP.con l) none, .ro (.ints .i64 ke) none, .ro (EN.con mo) none] (.val (.bool true)) ⟨0, []⟩ := by
  refine rootS_alone (Try.e9s n ke mo l) (d := 5) (g := 9) (ls := lsumsOf [(5, Try.L9 n ke mo l)]) (AllL.of1 (a := Try.b9) (by kernel_rfl) (LsOk.of rfl rfl (Try.l9 n ke mo l))) ((Try.w9s n ke mo l).trans ?_)
  rw [isSt_refl, ble_t hml]
  cases h1 : decide (n > 60) with
  | true => rfl
  | false =>
  rw [decide_eq_false_iff_not] at h1
  rw [okOP_le hl, OP.list_con]
  cases h2 : fewB l with
  | false => rfl
  | true =>
  cases h3 : decide ((mo.length : Int) > 10) with
  | true => rfl
  | false =>
  cases h4 : decide (totN mo mo.length > 1000) with
  | true => rfl
  | false =>
  cases h5 : decide ((ke.length : Int) > 200) with
  | true => rfl
  | false =>
  rw [decide_eq_false_iff_not] at h3
  rw [propB_t (show MoOk mo from ⟨by omega, hm⟩), propB_t (show PB n l from ⟨by omega, few_len h2, hops⟩), isAH_refl]
  cases (newD n).snd != 0 <;> rfl
theorem argsA_play {H : Type} (d1 d2 d3 d4 : DataW H) : argsA [.int .i64, .sl opSh, intsSh, .sl entSh] [d1, d2, d3, d4] = [.val (.int .i64 (intD d1)), .ro (OP.con ((elemsD d2).map opD)) none, .ro (.ints .i64 (intsD d3)) none, .ro (EN.con ((elemsD d4).map entD)) none] := by
  have h := avs_ents (elemsD d4)
  have e1 : EN.con ((elemsD d4).map entD) = entC ((elemsD d4).map entD) := rfl
  rw [e1, ← h, ← avs_ops]
  rfl
theorem ents_wf {H : Type} {d : DataW H} (h : wfD (.sl entSh) d) : (∀ e ∈ (elemsD d).map entD, bytesOk e.2.2.2.2 = true) ∧ ((elemsD d).map entD).length ≤ 9223372036854775807 := by
  simp only [wfD] at h
  refine ⟨fun x hx => ?_, by rw [List.length_map]; have := h.1; rw [show maxLen = 9223372036854775807 from rfl] at this; exact this⟩
  obtain ⟨y, hy, rfl⟩ := List.mem_map.1 hx
  have hw := h.2 y hy
  simp only [wfD, wfDL] at hw
  exact bytes_wf (d := tl2 (partsD y)) (by simp only [wfD]; exact hw.2.2.1)
end Go.Ev
namespace Go.Proofs.Ytninaidfifiliaa
open Go.Ev
theorem stale_contract (H : Type) (enc : TypeId × Value → H) (W : World) (base : Nat) (args : Array Value) (ds gs : List (DataW H)) (before : List MemPlace)
    (hval : ∀ (j : Nat) t v, Try.f9.params[j]? = some t → args[j]? = some v → Value.okWide Try.prog W .any base t v)
    (hW : DataW.Whole enc Try.prog Try.f9.params.toList Rows.journalStaleSpec.vars false W args.toList ds gs before) :
    Calls Try.prog 9 args W fun e W' => ∃ v, e = .returned v ∧ Rows.journalStaleSpec.post enc Try.prog Try.f9 false true false false W args v W' := by
  have hsh : shsOk Try.prog [.int .i64, .sl opSh, intsSh, .sl entSh] Try.f9.params.toList = true := by kernel_rfl
  obtain ⟨p, q, hA, hV, _⟩ := id hW
  obtain ⟨hwf, hlen⟩ := args_wf hsh hA
  obtain rfl : gs = [] := by cases gs with | nil => rfl | cons => cases hV
  match ds, hlen with
  | [d1, d2, d3, d4], _ =>
    simp only [wfDL, List.headD_cons, List.tail_cons] at hwf
    have hw := ops_wf hwf.2.1
    have law := Try.law9 (intD d1) (intsD d3) ((elemsD d4).map entD) ((elemsD d2).map opD) (ents_wf hwf.2.2.2.1).1 (ents_wf hwf.2.2.2.1).2 hw.2 hw.1
    rw [← argsA_play] at law
    exact law_calls (b := 4) Try.kidsG Try.fullG (by kernel_rfl) rfl Try.underlying4 (by kernel_rfl) rfl hsh hval hW law
theorem stale_lifted (os : Os) (started : os.Started) (H : Type) (enc : TypeId × Value → H) :
    ReturnsInHanded {} Try.checked os 9 .any (Rows.journalStaleSpec.pre6 enc Try.prog Try.f9 Rows.journalStaleRow.domain false) (Rows.journalStaleSpec.post enc Try.prog Try.f9 false true false false) := by
  refine returnsInHanded_of_change (C := Try.checked) Try.ownG started (by kernel_rfl) Try.func9
    (ChangeSpec.witness6 (enc := enc) (C := Try.checked) false ⟨#[], #[.int .i64 0, .slice none 0 0, .slice none 0 0, .slice none 0 0], []⟩ 8 (by kernel_rfl) (by kernel_rfl) (by kernel_rfl) (by kernel_rfl)) ?_
  intro W base args ds gs before hval hW _ _
  exact stale_contract H enc W base args ds gs before hval hW
theorem journalStale : Rows.JournalStaleSaid :=
  OpenClaim.holds_of_wide 9 Try.f9 rfl rfl rfl rfl rfl rfl rfl ⟨rfl, rfl, rfl, rfl, rfl⟩ rfl rfl rfl rfl rfl (by kernel_rfl) Try.func9 (by kernel_rfl)
    (of_decide_eq_true (by kernel_rfl)) (by unfold Func.isWrapper; first | (rw [if_pos (by decide +kernel)]; kernel_rfl) | (rw [if_neg (by decide +kernel)]; exact ⟨rfl, rfl⟩))
    (fun os started H enc _ => stale_lifted os started H enc)
end Go.Proofs.Ytninaidfifiliaa
