/- The evaluator, its soundness and the walks: part 11. -/
import Derived.Test.YtninaidfifiliaaC10
set_option linter.unusedSimpArgs false
set_option linter.unusedVariables false
set_option linter.unusedSectionVars false
/- Devices: small functions of both. -/
set_option linter.unusedVariables false
set_option maxRecDepth 100000
namespace Go.Ev
open Go.Proofs
noncomputable section
def Try.E73 : Env := Try.env0 false (sumsOf []) (keepF 0 [])
def Try.A23 : AFun := pureA (fun args => Try.Sdev isDevB (nzDevs args))
def Try.E32 : Env := Try.env0 false (sumsOf [(23, Try.A23)]) (keepF 0 [])
def Try.E31 : Env := Try.env0 false (sumsOf [(63, Try.A63)]) (keepF 0 [])
end
theorem Try.w73a (cap : Option Nat) (at' : Int) (x : Int) (b : List Int) (N : Int) (B : List Int) (e : SwD) (P : List SwD) : rootR Try.E73 5 73 0 (lsumsOf []) (lsumsOf []) rawV [.agg [.val (.int .i64 N), .ro (.ints .u8 B) none, .ro (SW.own (e :: P)) none], .val (.int .i64 at'), .ro (.ints .u8 (x :: b)) cap] heap0 =
      bif ((0 + (List.map SW.row (e :: P)).length) * 32).ble most && (0 + (List.map SW.row (e :: P)).length).ble most then
       bif ((0 + (x :: b).length) * 1).ble most && (0 + (x :: b).length).ble most then
        bif (0 + (0 + (List.map SW.row (e :: P)).length)).ble ([] ++ List.map SW.row (e :: P)).length then
         bif ((0 + (List.map SW.row (e :: P)).length + 1) * 32).ble most && (0 + (List.map SW.row (e :: P)).length + 1).ble most then
          some (.agg [.val (.int .i64 (N)), .ro (.ints .u8 (B)) none, .own 7 (0) (0 + (List.map SW.row (e :: P)).length + 1) none 2], ⟨8, [⟨7, 0, .cells (.rows false 2 ((List.take (0 + (List.map SW.row (e :: P)).length) (List.drop 0 ([] ++ List.map SW.row (e :: P)))) ++ ([.val (.int .i64 (at')), .own 5 (0) (0 + (x :: b).length) none 1] :: [])))⟩, ⟨6, 0, .cells (.rows false 2 ([.val (.int .i64 (at')), .own 5 (0) (0 + (x :: b).length) none 1] :: []))⟩, ⟨5, 0, .cells (.ints .u8 ([] ++ x :: b))⟩, ⟨4, 0, .cells (.ints .u8 ([]))⟩, ⟨2, 0, .cells (.rows true 2 [])⟩, ⟨1, 1, .cells (.rows false 3 ([.val (.int .i64 (N)), .ro (.ints .u8 (B)) none, .own 7 (0) (0 + (List.map SW.row (e :: P)).length + 1) none 2] :: []))⟩, ⟨0, 1, .cells (.rows false 3 ([.val (.int .i64 (N)), .ro (.ints .u8 (B)) none, .own 7 (0) (0 + (List.map SW.row (e :: P)).length + 1) none 2] :: []))⟩]⟩)
         else
          none
        else
         none
       else
        none
      else
       none := by kernel_rfl
theorem Try.w73b (cap : Option Nat) (at' : Int) (x : Int) (b : List Int) (N : Int) (B : List Int) : rootR Try.E73 5 73 0 (lsumsOf []) (lsumsOf []) rawV [.agg [.val (.int .i64 N), .ro (.ints .u8 B) none, .ro (SW.own []) none], .val (.int .i64 at'), .ro (.ints .u8 (x :: b)) cap] heap0 =
      bif ((0 + (x :: b).length) * 1).ble most && (0 + (x :: b).length).ble most then
       some (.agg [.val (.int .i64 (N)), .ro (.ints .u8 (B)) none, .own 7 (0) (1) none 2], ⟨8, [⟨7, 0, .cells (.rows false 2 ([.val (.int .i64 (at')), .own 5 (0) (0 + (x :: b).length) none 1] :: []))⟩, ⟨6, 0, .cells (.rows false 2 ([.val (.int .i64 (at')), .own 5 (0) (0 + (x :: b).length) none 1] :: []))⟩, ⟨5, 0, .cells (.ints .u8 ([] ++ x :: b))⟩, ⟨4, 0, .cells (.ints .u8 ([]))⟩, ⟨1, 1, .cells (.rows false 3 ([.val (.int .i64 (N)), .ro (.ints .u8 (B)) none, .own 7 (0) (1) none 2] :: []))⟩, ⟨0, 1, .cells (.rows false 3 ([.val (.int .i64 (N)), .ro (.ints .u8 (B)) none, .own 7 (0) (1) none 2] :: []))⟩]⟩)
      else
       none := by kernel_rfl
theorem Try.w31 (N : Int) (B : List Int) (P : List SwD) : rootS Try.E31 5 31 (lsumsOf []) [devA N B P] =
      bif okSW (SW.con P) then
       bif isDevB N B (SW.list (SW.con P)) then
        some (.val (.int .i64 (0)), ⟨0, []⟩)
       else
        some (.val (.int .i64 (400)), ⟨0, []⟩)
      else
       none := by kernel_rfl
theorem Try.w32 (N : Int) (B : List Int) (P : List SwD) : rootS Try.E32 5 32 (lsumsOf []) [devA N B P] =
      bif okSW (SW.con P) then
       bif isDevB N B (SW.list (SW.con P)) then
        some (.val (.int .i64 (0)), ⟨0, []⟩)
       else
        some (.val (.int .i64 (400)), ⟨0, []⟩)
      else
       none := by kernel_rfl
theorem Try.w29 (n : Int) : rootS Try.E73 5 29 (lsumsOf []) [.val (.int .i64 n)] =
      bif decide (n < 8) then
       some (.tup [.agg [.val (.int .i64 (0)), .val (.slice none 0 0), .val (.slice none 0 0)], .val (.int .i64 (1))], ⟨0, []⟩)
      else
       bif decide (n > 4096) then
        some (.tup [.agg [.val (.int .i64 (0)), .val (.slice none 0 0), .val (.slice none 0 0)], .val (.int .i64 (1))], ⟨0, []⟩)
       else
        bif decide (0 ≤ IntKind.i64.wrap (n * 64)) && decide (IntKind.i64.wrap (n * 64) ≤ IntKind.i64.wrap (n * 64)) && decide (IntKind.i64.wrap (n * 64) * 1 ≤ 1099511627776) && decide (IntKind.i64.wrap (n * 64) ≤ 1099511627776) then
         some (.tup [.agg [.val (.int .i64 (n)), .own 0 (0) ((IntKind.i64.wrap (n * 64)).toNat) (some ((IntKind.i64.wrap (n * 64)).toNat)) 1, .val (.slice none 0 0)], .val (.int .i64 (0))], ⟨1, [⟨0, 0, .cells (.ints .u8 (List.replicate (IntKind.i64.wrap (n * 64)).toNat 0))⟩]⟩)
        else
         none := by kernel_rfl
theorem Try.w30 (n : Int) : rootS Try.E73 5 30 (lsumsOf []) [.val (.int .i64 n)] =
      bif decide (n < 8) then
       some (.tup [.agg [.val (.int .i64 (0)), .val (.slice none 0 0), .val (.slice none 0 0)], .val (.int .i64 (1))], ⟨0, []⟩)
      else
       bif decide (n > 4096) then
        some (.tup [.agg [.val (.int .i64 (0)), .val (.slice none 0 0), .val (.slice none 0 0)], .val (.int .i64 (1))], ⟨0, []⟩)
       else
        bif decide (0 ≤ IntKind.i64.wrap (n * 64)) && decide (IntKind.i64.wrap (n * 64) ≤ IntKind.i64.wrap (n * 64)) && decide (IntKind.i64.wrap (n * 64) * 1 ≤ 1099511627776) && decide (IntKind.i64.wrap (n * 64) ≤ 1099511627776) then
         some (.tup [.agg [.val (.int .i64 (n)), .own 0 (0) ((IntKind.i64.wrap (n * 64)).toNat) (some ((IntKind.i64.wrap (n * 64)).toNat)) 1, .val (.slice none 0 0)], .val (.int .i64 (0))], ⟨1, [⟨0, 0, .cells (.ints .u8 (List.replicate (IntKind.i64.wrap (n * 64)).toNat 0))⟩]⟩)
        else
         none := by kernel_rfl
theorem Alone.fzRow {P : Program} {g : Nat} {args : List AV} {h : Heap} {x y : AV} (jb jp : Nat) (hne : jp ≠ jb) {con k k' : Con} (hp : con.pureF = true) (hb : h.G jb = some (.cells con)) (hk : h.G jp = some (.cells k)) (hk' : k'.pureF = true) (hz : FzC jb con k k')
    (hc : outV (.agg [x, y, .ro k' none]) ⟨h.next, []⟩ = some (.agg [x, y, .ro k' none], ⟨0, []⟩)) (q : Alone P g args (.agg [x, y, .own jp 0 k'.len none k'.wd]) h) : Alone P g args (.agg [x, y, .ro k' none]) ⟨0, []⟩ := by
  have hok : (⟨h.next, [⟨jp, 0, .cells k'⟩]⟩ : Heap).ok := by
    refine ⟨by show List.Nodup [jp]; simp, fun id e he => ?_⟩
    rw [findE_cons] at he
    have hlt : jp < h.next := by
      simp only [Heap.G, Option.map_eq_some_iff] at hk
      obtain ⟨e0, h0, _⟩ := hk
      exact q.1.lt jp e0 h0
    split at he
    · rename_i e1; have e1' : jp = id := e1; rw [← e1']; exact hlt
    · cases he
  have w1 : Weak ⟨[.agg [x, y, .own jp 0 k'.len none k'.wd]], [], h⟩ ⟨[.agg [x, y, .own jp 0 k'.len none k'.wd]], [], ⟨h.next, [⟨jp, 0, .cells k'⟩]⟩⟩ := by
    refine Weak.freeze (s := ⟨[.agg [x, y, .own jp 0 k'.len none k'.wd]], [], h⟩) q.1 jb con hb hp hok (Nat.le_refl _) ⟨rfl, fun j v' hv => ⟨v', hv, .inl rfl⟩⟩ (fun j b' hj => ?_)
    simp only [Heap.G, findE_cons] at hj
    split at hj
    · rename_i e1
      have e1' : jp = j := e1
      subst e1'
      simp only [Option.map_some, Option.some.injEq] at hj
      subst hj
      exact ⟨hne, .inr ⟨k, k', hk, rfl, (fun q => by rw [hk'] at q; cases q), hz⟩⟩
    · cases hj
  have w2 := Weak.fz (v := .agg [x, y, .own jp 0 k'.len none k'.wd]) (v' := .agg [x, y, .ro k' none]) (n := h.next) (id := jp) (es := []) hok hk' (.agg (.cons (.inl rfl) (.cons (.inl rfl) (.cons (.inr (.inr ⟨none, rfl, rfl⟩)) .nil))))
  have w3 := Weak.canon (s := ⟨[.agg [x, y, .ro k' none]], [], ⟨h.next, []⟩⟩) w2.1 [0]
  have := Alone.outW (v' := getT (canon (some [0]) ⟨[.agg [x, y, .ro k' none]], [], ⟨h.next, []⟩⟩).t 0) (h3 := (canon (some [0]) ⟨[.agg [x, y, .ro k' none]], [], ⟨h.next, []⟩⟩).h) ((w1.trans w2).trans w3) q
  unfold outV at hc
  injection hc with hc
  injection hc with h1 h2
  rw [h1, h2] at this
  exact this
abbrev swO (j : Nat) (at' : Int) (b : List Int) : List AV := [.val (.int .i64 at'), .own j 0 b.length none 1]
theorem sw_fzC (j : Nat) (P : List SwD) (at' : Int) (b : List Int) : FzC j (.ints .u8 b) (.rows false 2 (P.map SW.row ++ [swO j at' b])) (SW.con (P ++ [(at', b)])) := by
  refine ⟨rfl, ?_, fun i hi q v' hv => ?_⟩
  · show (P ++ [(at', b)]).length = (P.map SW.row ++ [swO j at' b]).length
    simp
  · have hi' : i < P.length + 1 := by have : i < (P.map SW.row ++ [swO j at' b]).length := hi; simpa using this
    have hv' : (SW.row ((P ++ [(at', b)]).getD i SW.z))[q]? = some v' := hv
    have hno : noOwn0 v' = true := by
      generalize (P ++ [(at', b)]).getD i SW.z = e at hv'
      have : (swRow e)[q]? = some v' := hv'
      unfold swRow at this
      rcases q with _ | _ | q
      · simp at this; subst this; rfl
      · simp at this; subst this; rfl
      · simp at this
    refine ⟨?_, fun _ => .inr hno⟩
    show ∃ v, ((P.map SW.row ++ [swO j at' b]).getD i [])[q]? = some v ∧ _
    rcases Nat.lt_or_ge i P.length with l | l
    · refine ⟨v', ?_, .inl rfl⟩
      rw [List.getD_eq_getElem?_getD, List.getElem?_append_left (by simpa using l)] at hv' ⊢
      rw [List.getElem?_map, List.getElem?_eq_getElem l]
      rw [List.getElem?_eq_getElem l] at hv'
      exact hv'
    · have e : i = P.length := by omega
      subst e
      rw [List.getD_eq_getElem?_getD, List.getElem?_append_right (by simp)]
      rw [List.getD_eq_getElem?_getD, List.getElem?_append_right (Nat.le_refl _)] at hv'
      simp only [List.length_map, Nat.sub_self, List.getElem?_cons_zero, Option.getD_some] at hv' ⊢
      have : (swRow (at', b))[q]? = some v' := hv'
      unfold swRow at this
      rcases q with _ | _ | q
      · simp at this; subst this; exact ⟨_, rfl, .inl rfl⟩
      · simp at this; subst this; exact ⟨_, rfl, .inr (.inr ⟨none, rfl, rfl⟩)⟩
      · simp at this
theorem Try.e73 : EnvOk2 Try.prog Try.E73 := Try.envOk false (sumsOf []) _ (fun g A h => by cases h)
theorem SW_own_aw (P : List SwD) : AW (.ro (SW.con P) none) (.ro (SW.own P) none) := by
  have h := SW.convOwn (SW.ok_con P)
  rw [SW_list_con] at h
  exact AW.ro h none
theorem Try.al73 (cap : Option Nat) (at' : Int) (b : List Int) (N : Int) (B : List Int) (P : List SwD) (hP : P.length ≤ 1000000) (hb : b.length ≤ 1000000) (hb0 : 0 < b.length) : Alone Try.prog 73 [devA N B P, .val (.int .i64 at'), .ro (.ints .u8 b) cap] (devX (N, B, P ++ [(at', b)])) ⟨0, []⟩ := by
  refine Alone.argsW (args' := [.agg [.val (.int .i64 N), .ro (.ints .u8 B) none, .ro (SW.own P) none], .val (.int .i64 at'), .ro (.ints .u8 b) cap]) (AWs.args (.cons (AW.agg (.cons (AW.refl _) (.cons (AW.refl _) (.cons (SW_own_aw P) .nil)))) (AWs.refl _))) ?_
  have run := fun args v h2 h => EffAlone.alone (rootR_alone Try.e73 (d := 5) (g := 73) (p := 0) (ls := lsumsOf []) (rs := lsumsOf []) rawV_weak (AllL.of0 (by kernel_rfl)) (AllL.of0 (by kernel_rfl)) heap0_ok (args := args) (v := v) (h2 := h2) h)
  cases b with
  | nil => exact absurd hb0 (Nat.lt_irrefl 0)
  | cons x b =>
    cases P with
    | nil =>
      have key := Try.w73b cap at' x b N B
      rw [ble_t (show (0 + (x :: b).length) * 1 ≤ most by rw [most_eq]; omega), ble_t (show 0 + (x :: b).length ≤ most by rw [most_eq]; omega)] at key
      rw [Nat.zero_add, List.nil_append] at key
      exact Alone.fzRow (k' := SW.con ([] ++ [(at', x :: b)])) 5 7 (by decide) rfl rfl rfl rfl (sw_fzC 5 [] at' (x :: b)) rfl (run _ _ _ key)
    | cons e P =>
      have key := Try.w73a cap at' x b N B e P
      have hl : (List.map SW.row (e :: P)).length = (e :: P).length := List.length_map ..
      rw [hl, ble_t (show (0 + (x :: b).length) * 1 ≤ most by rw [most_eq]; omega), ble_t (show 0 + (x :: b).length ≤ most by rw [most_eq]; omega), ble_t (show (0 + (e :: P).length) * 32 ≤ most by rw [most_eq]; omega), ble_t (show 0 + (e :: P).length ≤ most by rw [most_eq]; omega), List.nil_append, hl, ble_t (show 0 + (0 + (e :: P).length) ≤ (e :: P).length by omega), ble_t (show (0 + (e :: P).length + 1) * 32 ≤ most by rw [most_eq]; omega), ble_t (show 0 + (e :: P).length + 1 ≤ most by rw [most_eq]; omega)] at key
      rw [Nat.zero_add, Nat.zero_add, List.nil_append, List.drop_zero, List.take_of_length_le (Nat.le_of_eq hl)] at key
      have hk' : (SW.con ((e :: P) ++ [(at', x :: b)])).len = (e :: P).length + 1 := by show ((e :: P) ++ [(at', x :: b)]).length = _; simp
      have key2 := run _ _ _ key
      rw [← hk'] at key2
      exact Alone.fzRow (k' := SW.con ((e :: P) ++ [(at', x :: b)])) 5 7 (by decide) rfl rfl rfl rfl (sw_fzC 5 (e :: P) at' (x :: b)) rfl key2
end Go.Ev

/- Devices: NewDevice, CheckDevice; the reference's Write. -/
set_option linter.unusedVariables false
set_option maxRecDepth 100000
namespace Go.Ev
open Go.Proofs
noncomputable section
def newD (n : Int) : DevD × Int := bif decide (n < 8) || decide (n > 4096) then noDev 1 else ((n, List.replicate (n * 64).toNat 0, []), 0)
def Try.S29 (args : List AV) : Ans (AV × Heap) := match args with
  | [.val (.int .i64 n)] => .out (outDE (newD n), ⟨0, []⟩)
  | _ => .no
def Try.A29 : AFun := roA Try.S29
def chkD (d : DevD) : Int := bif isDevD d then 0 else 400
def Try.Sdi (f : DevD → Int) (args : List AV) : Ans (AV × Heap) := match args with
  | [.agg [.val (.int .i64 N), .ro (.ints .u8 B) cap, .ro c cap']] => .grd (okSW c) (.out (.val (.int .i64 (f (N, B, SW.list c))), ⟨0, []⟩))
  | _ => .no
def Try.A31 : AFun := roA (fun args => Try.Sdi chkD (nzDevs args))
def Try.S73 (args : List AV) : Ans (AV × Heap) := match args with
  | [.agg [.val (.int .i64 N), .ro (.ints .u8 B) cap, .ro c cap'], .val (.int .i64 at'), .ro (.ints .u8 b) cap2] => .grd (okSW c && (Nat.ble c.len 1000000 && (Nat.ble b.length 1000000 && Nat.blt 0 b.length))) (.out (devX (N, B, SW.list c ++ [(at', b)]), ⟨0, []⟩))
  | _ => .no
def Try.A73 : AFun := roA (fun args => Try.S73 (nzDWb args))
end
theorem newD_al {P : Program} {g : Nat} {n : Int} (h : ∀ v h2, (bif decide (n < 8) then
       some (.tup [.agg [.val (.int .i64 (0)), .val (.slice none 0 0), .val (.slice none 0 0)], .val (.int .i64 (1))], ⟨0, []⟩)
      else
       bif decide (n > 4096) then
        some (.tup [.agg [.val (.int .i64 (0)), .val (.slice none 0 0), .val (.slice none 0 0)], .val (.int .i64 (1))], ⟨0, []⟩)
       else
        bif decide (0 ≤ IntKind.i64.wrap (n * 64)) && decide (IntKind.i64.wrap (n * 64) ≤ IntKind.i64.wrap (n * 64)) && decide (IntKind.i64.wrap (n * 64) * 1 ≤ 1099511627776) && decide (IntKind.i64.wrap (n * 64) ≤ 1099511627776) then
         some (.tup [.agg [.val (.int .i64 (n)), .own 0 (0) ((IntKind.i64.wrap (n * 64)).toNat) (some ((IntKind.i64.wrap (n * 64)).toNat)) 1, .val (.slice none 0 0)], .val (.int .i64 (0))], ⟨1, [⟨0, 0, .cells (.ints .u8 (List.replicate (IntKind.i64.wrap (n * 64)).toNat 0))⟩]⟩)
        else
         none) = some (v, h2) → Alone P g [.val (.int .i64 n)] v h2) : Alone P g [.val (.int .i64 n)] (outDE (newD n)) ⟨0, []⟩ := by
  unfold newD
  rw [cond_orB]
  cases h1 : decide (n < 8) with
  | true => rw [h1] at h; exact Alone.resW (noDev_aw 1) (h _ _ rfl)
  | false =>
    rw [h1] at h
    simp only [cond_false'] at h ⊢
    cases h2 : decide (n > 4096) with
    | true => rw [h2] at h; exact Alone.resW (noDev_aw 1) (h _ _ rfl)
    | false =>
      rw [h2] at h
      simp only [cond_false'] at h ⊢
      rw [decide_eq_false_iff_not] at h1 h2
      rw [wrap64 (n * 64) (by omega) (by omega), decide_eq_true (show 0 ≤ n * 64 by omega), decide_eq_true (show n * 64 ≤ n * 64 by omega), decide_eq_true (show n * 64 * 1 ≤ 1099511627776 by omega), decide_eq_true (show n * 64 ≤ 1099511627776 by omega)] at h
      have h3 := h _ _ rfl
      have hl : (List.replicate (n * 64).toNat (0 : Int)).length = (n * 64).toNat := List.length_replicate
      refine Alone.resW (v := .tup [.agg [.val (.int .i64 n), .ro (.ints .u8 (List.replicate (n * 64).toNat 0)) none, .val (.slice none 0 0)], .val (.int .i64 0)]) ?_ (Alone.fz1 (con := .ints .u8 (List.replicate (n * 64).toNat 0)) rfl rfl ?_ h3)
      · exact AW.tup (.cons (AW.agg (.cons (AW.refl _) (.cons (AW.refl _) (.cons (AW.nil rfl) .nil)))) (.cons (AW.refl _) .nil))
      · refine .tup1 (.cons (.inl rfl) (.cons (.inr (.inr ⟨some (n * 64).toNat, ?_, rfl⟩)) (.cons (.inl rfl) .nil)))
        show AV.own 0 0 (n * 64).toNat (some (n * 64).toNat) 1 = .own 0 0 (List.replicate (n * 64).toNat (0 : Int)).length (some (n * 64).toNat) 1
        rw [hl]
theorem Try.sum_n {g : Nat} {fn : Func} {code : Code} (hg : Try.prog.funcs[g]? = some fn ∧ fn.name ≠ "runtime.NumGoroutine") (hc : fn.body = some code)
    (hal : ∀ n, Alone Try.prog g [.val (.int .i64 n)] (outDE (newD n)) ⟨0, []⟩) : SumC Try.prog g Try.A29 := by
  refine roSumR g ⟨fn, code, hg.1, hg.2, hc⟩ ?_
  intro args v h2 hs
  unfold Try.S29 at hs
  split at hs
  · rename_i n
    injection hs with hs
    injection hs with q1 q2
    subst q1; subst q2
    exact ⟨(fun e he => by cases he), hal n⟩
  · cases hs
theorem Try.sum29 : SumC Try.prog 29 Try.A29 := Try.sum_n Try.fnOk29 rfl (fun n => newD_al (fun v h2 h => rootS_alone Try.e73 (d := 5) (g := 29) (ls := lsumsOf []) (AllL.of0 (by kernel_rfl)) ((Try.w29 n).trans h)))
theorem Try.sum30 : SumC Try.prog 30 Try.A29 := Try.sum_n Try.fnOk30 rfl (fun n => newD_al (fun v h2 h => rootS_alone Try.e73 (d := 5) (g := 30) (ls := lsumsOf []) (AllL.of0 (by kernel_rfl)) ((Try.w30 n).trans h)))
theorem Try.sum_di {g : Nat} {fn : Func} {code : Code} (hg : Try.prog.funcs[g]? = some fn ∧ fn.name ≠ "runtime.NumGoroutine") (hc : fn.body = some code) (f : DevD → Int)
    (hal : ∀ N B P, okSW (SW.con P) = true → Alone Try.prog g [devA N B P] (.val (.int .i64 (f (N, B, P)))) ⟨0, []⟩) : SumC Try.prog g (roA (fun args => Try.Sdi f (nzDevs args))) := by
  refine roSumR g ⟨fn, code, hg.1, hg.2, hc⟩ ?_
  intro args v h2 hs
  replace hs : (Try.Sdi f (nzDevs args)).run = some (v, h2) := hs
  have fin : Alone Try.prog g (nzDevs args) v h2 ∧ ∀ e ∈ h2.es, ∃ k, e.blk = .cells k := by
    generalize nzDevs args = args' at hs ⊢
    unfold Try.Sdi at hs
    split at hs
    · rename_i N B cap c cap'
      rw [Ans.run_grd] at hs
      cases hb : okSW c with
      | false => rw [hb] at hs; cases hs
      | true =>
        rw [hb, cond_true] at hs
        injection hs with hs
        injection hs with q1 q2
        subst q1; subst q2
        exact ⟨Alone.argsW (dev_args hb) (hal N B (SW.list c) (okSW_con hb)), fun e he => by cases he⟩
    · cases hs
  exact ⟨fin.2, fin.1.argsW (nzDevs_aw args)⟩
theorem Try.e31 : EnvOk2 Try.prog Try.E31 := Try.envOk false (sumsOf [(63, Try.A63)]) _ (sumsOf_ok (show AllS Try.prog [(63, Try.A63)] from ⟨Try.sum63, trivial⟩))
theorem Try.e32 : EnvOk2 Try.prog Try.E32 := Try.envOk false (sumsOf [(23, Try.A23)]) _ (sumsOf_ok (show AllS Try.prog [(23, Try.A23)] from ⟨Try.sum23, trivial⟩))
theorem Try.sum31 : SumC Try.prog 31 Try.A31 := Try.sum_di Try.fnOk31 rfl chkD (fun N B P ok => by
  refine rootS_alone Try.e31 (d := 5) (g := 31) (ls := lsumsOf []) (AllL.of0 (by kernel_rfl)) ((Try.w31 N B P).trans ?_)
  unfold chkD isDevD
  rw [ok, SW_list_con]
  simp only
  cases isDevB N B P <;> rfl)
theorem Try.sum32 : SumC Try.prog 32 Try.A31 := Try.sum_di Try.fnOk32 rfl chkD (fun N B P ok => by
  refine rootS_alone Try.e32 (d := 5) (g := 32) (ls := lsumsOf []) (AllL.of0 (by kernel_rfl)) ((Try.w32 N B P).trans ?_)
  unfold chkD isDevD
  rw [ok, SW_list_con]
  simp only
  cases isDevB N B P <;> rfl)
theorem Try.sum73 : SumC Try.prog 73 Try.A73 := by
  refine roSumR 73 ⟨Try.f73, _, Try.fnOk73.1, Try.fnOk73.2, rfl⟩ ?_
  intro args v h2 hs
  replace hs : (Try.S73 (nzDWb args)).run = some (v, h2) := hs
  have fin : Alone Try.prog 73 (nzDWb args) v h2 ∧ ∀ e ∈ h2.es, ∃ k, e.blk = .cells k := by
    generalize nzDWb args = args' at hs ⊢
    unfold Try.S73 at hs
    split at hs
    · rename_i N B cap c cap' at' b cap2
      rw [Ans.run_grd] at hs
      cases hb : (okSW c && (Nat.ble c.len 1000000 && (Nat.ble b.length 1000000 && Nat.blt 0 b.length))) with
      | false => rw [hb] at hs; cases hs
      | true =>
        rw [hb, cond_true] at hs
        simp only [Bool.and_eq_true, Nat.ble_eq, Nat.blt_eq] at hb
        injection hs with hs
        injection hs with q1 q2
        subst q1; subst q2
        refine ⟨Alone.argsW (args' := [devA N B (SW.list c), .val (.int .i64 at'), .ro (.ints .u8 b) cap2]) ?_ (Try.al73 cap2 at' b N B (SW.list c) (by rw [SW.list_len]; exact hb.2.1) hb.2.2.1 hb.2.2.2), fun e he => by cases he⟩
        exact AWs.args (.cons (AW.agg (.cons (AW.refl _) (.cons (AW.cap _ _) (.cons (SW.aw (okSW_some hb.1).1 _) .nil)))) (AWs.refl _))
    · cases hs
  exact ⟨fin.2, fin.1.argsW (nzDWb_aw args)⟩
noncomputable section
def Try.t33 : List (Nat × AFun) := [(23, Try.A23), (73, Try.A73)]
def Try.E33 : Env := Try.env0 false (sumsOf Try.t33) (keepF 0 [])
end
theorem Try.e33 : EnvOk2 Try.prog Try.E33 := Try.envOk false (sumsOf Try.t33) _ (sumsOf_ok (show AllS Try.prog Try.t33 from ⟨Try.sum23, Try.sum73, trivial⟩))
theorem Try.w33 (cap : Option Nat) (at' : Int) (b : List Int) (N : Int) (B : List Int) (P : List SwD) : rootS Try.E33 5 33 (lsumsOf []) [devA N B P, .val (.int .i64 at'), .ro (.ints .u8 b) cap] =
      bif okSW (SW.con P) then
       bif isDevB N B (SW.list (SW.con P)) then
        bif decide (at' < 0) then
         some (.tup [.agg [.val (.int .i64 (0)), .val (.slice none 0 0), .val (.slice none 0 0)], .val (.int .i64 (1))], ⟨0, []⟩)
        else
         bif decide (at' ≥ N) then
          some (.tup [.agg [.val (.int .i64 (0)), .val (.slice none 0 0), .val (.slice none 0 0)], .val (.int .i64 (1))], ⟨0, []⟩)
         else
          bif (↑b.length : Int) != 64 then
           some (.tup [.agg [.val (.int .i64 (0)), .val (.slice none 0 0), .val (.slice none 0 0)], .val (.int .i64 (1))], ⟨0, []⟩)
          else
           bif decide ((↑P.length : Int) ≥ 2000) then
            some (.tup [.agg [.val (.int .i64 (0)), .val (.slice none 0 0), .val (.slice none 0 0)], .val (.int .i64 (2))], ⟨0, []⟩)
           else
            bif okSW (SW.con P) && (P.length.ble 1000000 && (b.length.ble 1000000 && Nat.blt 0 b.length)) then
             some (.tup [.agg [.val (.int .i64 ((N, B, SW.list (SW.con P) ++ [(at', b)]).fst)), .ro (.ints .u8 ((N, B, SW.list (SW.con P) ++ [(at', b)]).snd.fst)) none, .ro (.tab 2 ((N, B, SW.list (SW.con P) ++ [(at', b)]).snd.snd.length) (fun i => SW.row ((N, B, SW.list (SW.con P) ++ [(at', b)]).snd.snd.getD i SW.z))) none], .val (.int .i64 (0))], ⟨0, []⟩)
            else
             none
       else
        some (.tup [.agg [.val (.int .i64 (0)), .val (.slice none 0 0), .val (.slice none 0 0)], .val (.int .i64 (400))], ⟨0, []⟩)
      else
       none := by kernel_rfl
theorem Try.al33 (cap : Option Nat) (at' : Int) (b : List Int) (N : Int) (B : List Int) (P : List SwD) (ok : okSW (SW.con P) = true) (hb : Nat.ble b.length 1000000 = true) : Alone Try.prog 33 [devA N B P, .val (.int .i64 at'), .ro (.ints .u8 b) cap] (outDE (writeD (N, B, P) at' b)) ⟨0, []⟩ := by
  have run := fun v h2 => rootS_alone Try.e33 (d := 5) (g := 33) (ls := lsumsOf []) (AllL.of0 (by kernel_rfl)) (args := [devA N B P, .val (.int .i64 at'), .ro (.ints .u8 b) cap]) (v := v) (h2 := h2)
  have key := Try.w33 cap at' b N B P
  unfold writeD isDevD
  simp only
  rw [ok, SW_list_con] at key
  cases hd : isDevB N B P with
  | false =>
    rw [hd] at key
    exact Alone.resW (noDev_aw 400) (run _ _ key)
  | true =>
    rw [hd] at key
    rw [cond_true, cond_orB, cond_notB, cond_andB]
    simp only [cond_true'] at key
    by_cases h1 : at' < 0
    · rw [decide_eq_true h1] at key
      rw [decide_eq_false (show ¬ at' ≥ 0 by omega)]
      exact Alone.resW (noDev_aw 1) (run _ _ key)
    · rw [decide_eq_false h1] at key
      rw [decide_eq_true (show at' ≥ 0 by omega)]
      simp only [cond_true', cond_false'] at key ⊢
      by_cases h2 : at' ≥ N
      · rw [decide_eq_true h2] at key
        rw [decide_eq_false (show ¬ at' < N by omega)]
        exact Alone.resW (noDev_aw 1) (run _ _ key)
      · rw [decide_eq_false h2] at key
        rw [decide_eq_true (show at' < N by omega)]
        simp only [cond_true', cond_false'] at key ⊢
        cases h3 : ((b.length : Int) != 64) with
        | true => rw [h3] at key; exact Alone.resW (noDev_aw 1) (run _ _ key)
        | false =>
          rw [h3] at key
          simp only [cond_false'] at key ⊢
          have h := dev_facts hd
          have k5 := h.few
          have h6 : b.length = 64 := by
            rw [bne, Bool.not_eq_false', beq_iff_eq] at h3; omega
          by_cases h4 : P.length = 2000
          · rw [decide_eq_true (show (P.length : Int) ≥ 2000 by omega)] at key
            rw [show ((P.length : Int) == 2000) = true by rw [beq_iff_eq]; omega]
            exact Alone.resW (noDev_aw 2) (run _ _ key)
          · rw [decide_eq_false (show ¬ (P.length : Int) ≥ 2000 by omega), ble_t (show P.length ≤ 1000000 by omega), hb, blt_t (show 0 < b.length by omega)] at key
            rw [show ((P.length : Int) == 2000) = false by rw [beq_eq_false_iff_ne]; omega]
            exact run _ _ key
noncomputable section
def Try.A33 : AFun := roA (fun args => Try.SW3 writeD (nzDWb args))
end
theorem Try.sum33 : SumC Try.prog 33 Try.A33 := Try.sum_w3 Try.fnOk33 rfl writeD Try.al33
noncomputable section
/-- What was written last to a sector, among the first 'k' writes. -/
def hasW (P : List SwD) (at' : Int) (k : Nat) : Bool := Nat.rec false (fun k ih => bif (P.getD k SW.z).1 == at' then true else ih) k
def getW (P : List SwD) (at' : Int) (k : Nat) : List Int := Nat.rec [] (fun k ih => bif (P.getD k SW.z).1 == at' then (P.getD k SW.z).2 else ih) k
def readD (d : DevD) (at' : Int) : List Int := bif hasW d.2.2 at' d.2.2.length then getW d.2.2 at' d.2.2.length else (d.2.1.drop (at' * 64).toNat).take 64
def Try.E74 : Env := Try.env0 false (sumsOf []) (keepF 74 [(2, [1,2,5])])
def Try.b74 : Code := nthD .skip (loopsOf (bodyOf Try.E74 74)) 0
def Try.B74 (s : St) : Option (AX × St) := codeS Try.E74 (callF Try.E74 5) (Try.E74.keep 74) (lsumsOf []) Try.b74 (outK [1,2,5] [1,2,4]) s
def Try.f74L (vs : List AV) (h : Heap) : Ans (AX × List AV × Heap) := match vs, h with
  | [.val (.int .i64 at'), .ptr 0 0 0, .val (.int .i64 i)], ⟨1, [⟨0, 0, .cells (.rows true 3 [[.val (.int .i64 N), .ro (.ints .u8 B) none, .ro c cap]])⟩]⟩ =>
    .grd (i == IntKind.i64.wrap ((c.len : Int) - 1) && (okSW c && isDevB N B (SW.list c))) (.br (hasW (SW.list c) at' (SW.list c).length)
      (.out (.ret, [.val (.int .i64 at'), .ptr 0 0 0, .own 1 0 (getW (SW.list c) at' (SW.list c).length).length none 1], ⟨2, [⟨1, 0, .cells (.ints .u8 (getW (SW.list c) at' (SW.list c).length))⟩, ⟨0, 0, .cells (box1 N (.ro (.ints .u8 B) none) (.ro (SW.con (SW.list c)) none))⟩]⟩))
      (.out (.exit 0, [.val (.int .i64 at'), .ptr 0 0 0, .unk], oneH (box1 N (.ro (.ints .u8 B) none) (.ro (SW.con (SW.list c)) none)))))
  | _, _ => .no
def Try.L74 : LSum := toLSum 40 [1,2,5] [1,2,4] Try.f74L
def Try.V74 (at' i : Int) : List AV := [.val (.int .i64 at'), .ptr 0 0 0, .val (.int .i64 i)]
end
theorem Try.r74 (at' : Int) (N : Int) (B : List Int) (P : List SwD) (i : Int) : Try.B74 (stOf 40 [1,2,5] (Try.V74 at' i) (oneH (box1 N (.ro (.ints .u8 B) none) (.ro (SW.con P) none)))) =
      bif decide (i ≥ 0) then
       bif inR i P.length then
        bif (P.getD i.toNat SW.z).fst == at' then
         bif inR i P.length then
          bif ownNew (some 0) 0 (P.getD i.toNat SW.z).snd.length then
           bif ((0 + (P.getD i.toNat SW.z).snd.length) * 1).ble most && (0 + (P.getD i.toNat SW.z).snd.length).ble most then
            some (.ret, stOf 40 [1, 2, 4] [.val (.int .i64 (at')), .ptr 0 (0) 0, .own 1 (0) (0 + (P.getD i.toNat SW.z).snd.length) none 1] ⟨2, [⟨1, 0, .cells (.ints .u8 ([] ++ (P.getD i.toNat SW.z).snd))⟩, ⟨0, 0, .cells (.rows true 3 ([.val (.int .i64 (N)), .ro (.ints .u8 (B)) none, .ro (.tab 2 (P.length) (fun i => SW.row (P.getD i SW.z))) none] :: []))⟩]⟩ )
           else
            none
          else
           bif ((0 + (P.getD i.toNat SW.z).snd.length) * 1).ble most && (0 + (P.getD i.toNat SW.z).snd.length).ble most then
            some (.ret, stOf 40 [1, 2, 4] [.val (.int .i64 (at')), .ptr 0 (0) 0, .own 1 (0) (0 + (P.getD i.toNat SW.z).snd.length) none 1] ⟨2, [⟨1, 0, .cells (.ints .u8 ([] ++ (P.getD i.toNat SW.z).snd))⟩, ⟨0, 0, .cells (.rows true 3 ([.val (.int .i64 (N)), .ro (.ints .u8 (B)) none, .ro (.tab 2 (P.length) (fun i => SW.row (P.getD i SW.z))) none] :: []))⟩]⟩ )
           else
            none
         else
          none
        else
         some (.normal, stOf 40 [1, 2, 5] [.val (.int .i64 (at')), .ptr 0 (0) 0, .val (.int .i64 (IntKind.i64.wrap (i - 1)))] ⟨1, [⟨0, 0, .cells (.rows true 3 ([.val (.int .i64 (N)), .ro (.ints .u8 (B)) none, .ro (.tab 2 (P.length) (fun i => SW.row (P.getD i SW.z))) none] :: []))⟩]⟩ )
       else
        none
      else
       some (.exit 0, stOf 40 [1, 2] [.val (.int .i64 (at')), .ptr 0 (0) 0] ⟨1, [⟨0, 0, .cells (.rows true 3 ([.val (.int .i64 (N)), .ro (.ints .u8 (B)) none, .ro (.tab 2 (P.length) (fun i => SW.row (P.getD i SW.z))) none] :: []))⟩]⟩ ) := by kernel_rfl
theorem Try.e74 : EnvOk2 Try.prog Try.E74 := Try.envOk false (sumsOf []) _ (fun g A h => by cases h)
theorem getW_len {N : Int} {B : List Int} {P : List SwD} (h : DevFacts N B P) {at' : Int} : ∀ k, k ≤ P.length → hasW P at' k = true → (getW P at' k).length = 64
  | 0, _, h0 => by cases h0
  | k + 1, hk, h0 => by
    have h0' : (bif (P.getD k SW.z).1 == at' then true else hasW P at' k) = true := h0
    show (bif (P.getD k SW.z).1 == at' then (P.getD k SW.z).2 else getW P at' k).length = 64
    cases hq : ((P.getD k SW.z).1 == at') with
    | true => exact h.wl k hk
    | false => rw [hq] at h0'; exact getW_len h k (by omega) h0'
noncomputable section
def Try.fin74 (at' N : Int) (B : List Int) (P : List SwD) (k : Nat) : AX × List AV × Heap := bif hasW P at' k then (.ret, [.val (.int .i64 at'), .ptr 0 0 0, .own 1 0 (getW P at' k).length none 1], ⟨2, [⟨1, 0, .cells (.ints .u8 (getW P at' k))⟩, ⟨0, 0, .cells (box1 N (.ro (.ints .u8 B) none) (.ro (SW.con P) none))⟩]⟩) else (.exit 0, [.val (.int .i64 at'), .ptr 0 0 0, .unk], oneH (box1 N (.ro (.ints .u8 B) none) (.ro (SW.con P) none)))
end
theorem Try.fin74_s (at' N : Int) (B : List Int) (P : List SwD) (k : Nat) : Try.fin74 at' N B P (k + 1) = bif (P.getD k SW.z).1 == at' then (.ret, [.val (.int .i64 at'), .ptr 0 0 0, .own 1 0 (P.getD k SW.z).2.length none 1], ⟨2, [⟨1, 0, .cells (.ints .u8 (P.getD k SW.z).2)⟩, ⟨0, 0, .cells (box1 N (.ro (.ints .u8 B) none) (.ro (SW.con P) none))⟩]⟩) else Try.fin74 at' N B P k := by
  unfold Try.fin74 hasW getW
  simp only
  cases ((P.getD k SW.z).1 == at') <;> rfl
theorem Try.l74 : ∀ s e s', s.h.ok → (Try.L74 s).run = some (e, s') → Triple Try.prog (.loop Try.b74) s e s' := by
  refine loop_lawW Try.e74 (d := 5) (g := 74) (ls := lsumsOf []) (c := Try.b74) trivial 40 [1,2,5] [1,2,4] (T := Int × Int × List Int × List SwD × Nat)
    (fun x => Try.V74 x.1 ((x.2.2.2.2 : Int) - 1)) (fun x => oneH (box1 x.2.1 (.ro (.ints .u8 x.2.2.1) none) (.ro (SW.con x.2.2.2.1) none))) (fun x => DevFacts x.2.1 x.2.2.1 x.2.2.2.1 ∧ x.2.2.2.2 ≤ x.2.2.2.1.length) (fun x => x.2.2.2.2)
    (fun x => Try.fin74 x.1 x.2.1 x.2.2.1 x.2.2.2.1 x.2.2.2.2) Try.f74L ?_ (fun x _ => oneH_ok _) ?_
  · intro vs h e vo h' hok hf
    unfold Try.f74L at hf
    split at hf
    · rename_i at' i N B c cap
      rw [Ans.run_grd] at hf
      cases hb : (i == IntKind.i64.wrap ((c.len : Int) - 1) && (okSW c && isDevB N B (SW.list c))) with
      | false => rw [hb] at hf; cases hf
      | true =>
      rw [hb, cond_true, Ans.run_br] at hf
      simp only [Bool.and_eq_true, beq_iff_eq] at hb
      obtain ⟨rfl, h1, h2⟩ := hb
      have hl := SW.list_len c
      have hd := dev_facts h2
      have hfew := hd.few
      refine ⟨(at', N, B, SW.list c, (SW.list c).length), ⟨hd, Nat.le_refl _⟩, ?_, ?_⟩
      · rw [wrap64 _ (by omega) (by omega), ← hl]
        exact Weak.oneH rfl (ConW.one (.cons (AW.refl _) (.cons (AW.refl _) (.cons (SW.aw (okSW_some h1).1 _) .nil))))
      · simp only [Try.fin74]
        cases hq : hasW (SW.list c) at' (SW.list c).length with
        | true => rw [hq] at hf; injection hf with hf
        | false => rw [hq] at hf; injection hf with hf
    · cases hf
  · rintro ⟨at', N, B, P, k⟩ ⟨hd, hk⟩
    simp only at hd hk
    have hfew := hd.few
    cases k with
    | zero =>
      refine .inr ⟨_, (Try.r74 at' N B P (((0 : Nat) : Int) - 1)).trans (by rfl), Weak.refl (oneH_ok _), ?_⟩
      show (AX.exit 0) ≠ .normal
      simp
    | succ k =>
      have key := Try.r74 at' N B P (k : Int)
      have e0 : (((k + 1 : Nat) : Int) - 1) = (k : Int) := by omega
      have hw := hd.wl k hk
      rw [inR_nat, decide_eq_true (show k < P.length from hk), decide_eq_true (show (k : Int) ≥ 0 by omega), Int.toNat_natCast, hw, ble_t (show (0 + 64) * 1 ≤ most by rw [most_eq]; omega), wrap64 _ (by omega) (by omega)] at key
      simp only [e0, Try.fin74_s]
      cases hq : ((P.getD k SW.z).1 == at') with
      | true =>
        rw [hq] at key
        refine .inr ⟨_, key.trans ?_, Weak.refl ?_, by simp⟩
        · rw [hw]
          cases ownNew (some 0) 0 64 <;> rfl
        · exact two_ok _ _
      | false =>
        rw [hq] at key
        exact .inl ⟨(at', N, B, P, k), _, key, Weak.refl (oneH_ok _), ⟨hd, Nat.le_of_succ_le hk⟩, Nat.lt_succ_self _, rfl⟩
theorem Try.w74 (at' : Int) (N : Int) (B : List Int) (P : List SwD) : rootS Try.E74 5 74 (lsumsOf [(2, Try.L74)]) [devA N B P, .val (.int .i64 at')] =
      bif IntKind.i64.wrap ((↑P.length : Int) - 1) == IntKind.i64.wrap ((↑P.length : Int) - 1) && (okSW (SW.con P) && isDevB N B (SW.list (SW.con P))) then
       bif hasW (SW.list (SW.con P)) at' (SW.list (SW.con P)).length then
        some (.own 0 (0) ((getW (SW.list (SW.con P)) at' (SW.list (SW.con P)).length).length) none 1, ⟨1, [⟨0, 0, .cells (.ints .u8 (getW (SW.list (SW.con P)) at' (SW.list (SW.con P)).length))⟩]⟩)
       else
        bif decide (0 ≤ IntKind.i64.wrap (IntKind.i64.wrap (at' + 1) * 64)) && decide (IntKind.i64.wrap (IntKind.i64.wrap (at' + 1) * 64) ≤ (↑B.length : Int)) then
         bif decide (0 ≤ IntKind.i64.wrap (at' * 64)) && decide (IntKind.i64.wrap (at' * 64) ≤ (↑(IntKind.i64.wrap (IntKind.i64.wrap (at' + 1) * 64)).toNat : Int)) then
          bif ownNew (some 0) 0 (List.take ((IntKind.i64.wrap (IntKind.i64.wrap (at' + 1) * 64)).toNat - (IntKind.i64.wrap (at' * 64)).toNat) (List.drop (IntKind.i64.wrap (at' * 64)).toNat B)).length then
           bif ((0 + (List.take ((IntKind.i64.wrap (IntKind.i64.wrap (at' + 1) * 64)).toNat - (IntKind.i64.wrap (at' * 64)).toNat) (List.drop (IntKind.i64.wrap (at' * 64)).toNat B)).length) * 1).ble most && (0 + (List.take ((IntKind.i64.wrap (IntKind.i64.wrap (at' + 1) * 64)).toNat - (IntKind.i64.wrap (at' * 64)).toNat) (List.drop (IntKind.i64.wrap (at' * 64)).toNat B)).length).ble most then
            some (.own 0 (0) (0 + (List.take ((IntKind.i64.wrap (IntKind.i64.wrap (at' + 1) * 64)).toNat - (IntKind.i64.wrap (at' * 64)).toNat) (List.drop (IntKind.i64.wrap (at' * 64)).toNat B)).length) none 1, ⟨1, [⟨0, 0, .cells (.ints .u8 ([] ++ List.take ((IntKind.i64.wrap (IntKind.i64.wrap (at' + 1) * 64)).toNat - (IntKind.i64.wrap (at' * 64)).toNat) (List.drop (IntKind.i64.wrap (at' * 64)).toNat B)))⟩]⟩)
           else
            none
          else
           bif ((0 + (List.take ((IntKind.i64.wrap (IntKind.i64.wrap (at' + 1) * 64)).toNat - (IntKind.i64.wrap (at' * 64)).toNat) (List.drop (IntKind.i64.wrap (at' * 64)).toNat B)).length) * 1).ble most && (0 + (List.take ((IntKind.i64.wrap (IntKind.i64.wrap (at' + 1) * 64)).toNat - (IntKind.i64.wrap (at' * 64)).toNat) (List.drop (IntKind.i64.wrap (at' * 64)).toNat B)).length).ble most then
            some (.own 0 (0) (0 + (List.take ((IntKind.i64.wrap (IntKind.i64.wrap (at' + 1) * 64)).toNat - (IntKind.i64.wrap (at' * 64)).toNat) (List.drop (IntKind.i64.wrap (at' * 64)).toNat B)).length) none 1, ⟨1, [⟨0, 0, .cells (.ints .u8 ([] ++ List.take ((IntKind.i64.wrap (IntKind.i64.wrap (at' + 1) * 64)).toNat - (IntKind.i64.wrap (at' * 64)).toNat) (List.drop (IntKind.i64.wrap (at' * 64)).toNat B)))⟩]⟩)
           else
            none
         else
          none
        else
         none
      else
       none := by kernel_rfl
theorem readD_len {N : Int} {B : List Int} {P : List SwD} (h : DevFacts N B P) {at' : Int} (h0 : 0 ≤ at') (h1 : at' < N) : (readD (N, B, P) at').length = 64 := by
  unfold readD
  simp only
  cases hq : hasW P at' P.length with
  | true => exact getW_len h _ (Nat.le_refl _) hq
  | false =>
    have h3 := h.len
    simp only [cond_false', List.length_take, List.length_drop]
    omega
theorem Try.al74 (at' : Int) (N : Int) (B : List Int) (P : List SwD) (ok : okSW (SW.con P) = true) (hd : isDevB N B P = true) (h0 : 0 ≤ at') (h1 : at' < N) : Alone Try.prog 74 [devA N B P, .val (.int .i64 at')] (.ro (.ints .u8 (readD (N, B, P) at')) none) ⟨0, []⟩ := by
  have run := fun v h2 => rootS_alone Try.e74 (d := 5) (g := 74) (ls := lsumsOf [(2, Try.L74)]) (AllL.of1 (a := Try.b74) (by kernel_rfl) (LsOk.of rfl rfl Try.l74)) (args := [devA N B P, .val (.int .i64 at')]) (v := v) (h2 := h2)
  have h := dev_facts hd
  have key := Try.w74 at' N B P
  have hl := readD_len h h0 h1
  refine Alone.freeze (con := .ints .u8 (readD (N, B, P) at')) rfl (run _ _ (key.trans ?_))
  show _ = some (AV.own 0 0 (readD (N, B, P) at').length none 1, oneH (.ints .u8 (readD (N, B, P) at')))
  rw [beq_self_eq_true, ok, SW_list_con, hd]
  unfold readD at hl ⊢
  simp only at hl ⊢
  cases hq : hasW P at' P.length with
  | true => rfl
  | false =>
    rw [hq] at hl
    simp only [cond_false'] at hl
    have h3 := h.len
    have h4 := h.hi
    have e1 : IntKind.i64.wrap (at' + 1) = at' + 1 := wrap64 _ (by omega) (by omega)
    have e2 : IntKind.i64.wrap ((at' + 1) * 64) = (at' + 1) * 64 := wrap64 _ (by omega) (by omega)
    have e3 : IntKind.i64.wrap (at' * 64) = at' * 64 := wrap64 _ (by omega) (by omega)
    have e4 : ((at' + 1) * 64).toNat - (at' * 64).toNat = 64 := by omega
    rw [e1, e2, e3, e4, hl, decide_eq_true (show 0 ≤ (at' + 1) * 64 by omega), decide_eq_true (show (at' + 1) * 64 ≤ (B.length : Int) by omega), decide_eq_true (show 0 ≤ at' * 64 by omega), decide_eq_true (show at' * 64 ≤ (((at' + 1) * 64).toNat : Int) by omega), ble_t (show (0 + 64) * 1 ≤ most by rw [most_eq]; omega)]
    simp only [cond_false', hl]
    cases ownNew (some 0) 0 64 <;> rfl
noncomputable section
def nzDA : List AV → List AV
  | v :: r => nzDev v :: r
  | [] => []
def Try.S74 (args : List AV) : Ans (AV × Heap) := match args with
  | [.agg [.val (.int .i64 N), .ro (.ints .u8 B) cap, .ro c cap'], .val (.int .i64 at')] => .grd (okSW c && (isDevB N B (SW.list c) && (decide (0 ≤ at') && decide (at' < N)))) (.out (.ro (.ints .u8 (readD (N, B, SW.list c) at')) none, ⟨0, []⟩))
  | _ => .no
def Try.A74 : AFun := roA (fun args => Try.S74 (nzDevs args))
end
theorem Try.sum74 : SumC Try.prog 74 Try.A74 := by
  refine roSumR 74 ⟨Try.f74, _, Try.fnOk74.1, Try.fnOk74.2, rfl⟩ ?_
  intro args v h2 hs
  replace hs : (Try.S74 (nzDevs args)).run = some (v, h2) := hs
  have fin : Alone Try.prog 74 (nzDevs args) v h2 ∧ ∀ e ∈ h2.es, ∃ k, e.blk = .cells k := by
    generalize nzDevs args = args' at hs ⊢
    unfold Try.S74 at hs
    split at hs
    · rename_i N B cap c cap' at'
      rw [Ans.run_grd] at hs
      cases hb : (okSW c && (isDevB N B (SW.list c) && (decide (0 ≤ at') && decide (at' < N)))) with
      | false => rw [hb] at hs; cases hs
      | true =>
        rw [hb, cond_true] at hs
        simp only [Bool.and_eq_true, decide_eq_true_eq] at hb
        injection hs with hs
        injection hs with q1 q2
        subst q1; subst q2
        refine ⟨Alone.argsW (args' := [devA N B (SW.list c), .val (.int .i64 at')]) ?_ (Try.al74 at' N B (SW.list c) (okSW_con hb.1) hb.2.1 hb.2.2.1 hb.2.2.2), fun e he => by cases he⟩
        exact AWs.args (.cons (AW.agg (.cons (AW.refl _) (.cons (AW.cap _ _) (.cons (SW.aw (okSW_some hb.1).1 _) .nil)))) (AWs.refl _))
    · cases hs
  exact ⟨fin.2, fin.1.argsW (nzDevs_aw args)⟩
noncomputable section
def Try.t34 : List (Nat × AFun) := [(23, Try.A23), (74, Try.A74)]
def Try.E34 : Env := Try.env0 false (sumsOf Try.t34) (keepF 0 [])
end
theorem Try.e34 : EnvOk2 Try.prog Try.E34 := Try.envOk false (sumsOf Try.t34) _ (sumsOf_ok (show AllS Try.prog Try.t34 from ⟨Try.sum23, Try.sum74, trivial⟩))
theorem Try.w34 (at' : Int) (N : Int) (B : List Int) (P : List SwD) : rootS Try.E34 5 34 (lsumsOf []) [devA N B P, .val (.int .i64 at')] =
      bif okSW (SW.con P) then
       bif isDevB N B (SW.list (SW.con P)) then
        bif decide (at' < 0) then
         some (.tup [.val (.slice none 0 0), .val (.int .i64 (1))], ⟨0, []⟩)
        else
         bif decide (at' ≥ N) then
          some (.tup [.val (.slice none 0 0), .val (.int .i64 (1))], ⟨0, []⟩)
         else
          bif okSW (SW.con P) && (isDevB N B (SW.list (SW.con P)) && (decide (0 ≤ at') && decide (at' < N))) then
           some (.tup [.ro (.ints .u8 (readD (N, B, SW.list (SW.con P)) at')) none, .val (.int .i64 (0))], ⟨0, []⟩)
          else
           none
       else
        some (.tup [.val (.slice none 0 0), .val (.int .i64 (400))], ⟨0, []⟩)
      else
       none := by kernel_rfl
noncomputable section
def sectD (d : DevD) (at' : Int) : List Int × Int := bif isDevD d then (bif decide (0 ≤ at') && decide (at' < d.1) then (readD d at', 0) else ([], 1)) else ([], 400)
def outBE (r : List Int × Int) : AV := .tup [.ro (.ints .u8 r.1) none, .val (.int .i64 r.2)]
def Try.S34 (args : List AV) : Ans (AV × Heap) := match args with
  | [.agg [.val (.int .i64 N), .ro (.ints .u8 B) cap, .ro c cap'], .val (.int .i64 at')] => .grd (okSW c) (.out (outBE (sectD (N, B, SW.list c) at'), ⟨0, []⟩))
  | _ => .no
def Try.A34 : AFun := roA (fun args => Try.S34 (nzDevs args))
end
theorem noB_aw (e : Int) : AW (.tup [.val (.slice none 0 0), .val (.int .i64 e)]) (outBE ([], e)) := AW.tup (.cons (AW.nil rfl) (.cons (AW.refl _) .nil))
theorem Try.sum_be {g : Nat} {fn : Func} {code : Code} (hg : Try.prog.funcs[g]? = some fn ∧ fn.name ≠ "runtime.NumGoroutine") (hc : fn.body = some code)
    (hal : ∀ at' N B P, okSW (SW.con P) = true → Alone Try.prog g [devA N B P, .val (.int .i64 at')] (outBE (sectD (N, B, P) at')) ⟨0, []⟩) : SumC Try.prog g Try.A34 := by
  refine roSumR g ⟨fn, code, hg.1, hg.2, hc⟩ ?_
  intro args v h2 hs
  replace hs : (Try.S34 (nzDevs args)).run = some (v, h2) := hs
  have fin : Alone Try.prog g (nzDevs args) v h2 ∧ ∀ e ∈ h2.es, ∃ k, e.blk = .cells k := by
    generalize nzDevs args = args' at hs ⊢
    unfold Try.S34 at hs
    split at hs
    · rename_i N B cap c cap' at'
      rw [Ans.run_grd] at hs
      cases hb : okSW c with
      | false => rw [hb] at hs; cases hs
      | true =>
        rw [hb, cond_true] at hs
        injection hs with hs
        injection hs with q1 q2
        subst q1; subst q2
        refine ⟨Alone.argsW (args' := [devA N B (SW.list c), .val (.int .i64 at')]) ?_ (hal at' N B (SW.list c) (okSW_con hb)), fun e he => by cases he⟩
        exact AWs.args (.cons (AW.agg (.cons (AW.refl _) (.cons (AW.cap _ _) (.cons (SW.aw (okSW_some hb).1 _) .nil)))) (AWs.refl _))
    · cases hs
  exact ⟨fin.2, fin.1.argsW (nzDevs_aw args)⟩
theorem Try.sum34 : SumC Try.prog 34 Try.A34 := Try.sum_be Try.fnOk34 rfl (fun at' N B P ok => by
  have run := fun v h2 => rootS_alone Try.e34 (d := 5) (g := 34) (ls := lsumsOf []) (AllL.of0 (by kernel_rfl)) (args := [devA N B P, .val (.int .i64 at')]) (v := v) (h2 := h2)
  have key := Try.w34 at' N B P
  unfold sectD isDevD
  simp only
  rw [ok, SW_list_con] at key
  cases hd : isDevB N B P with
  | false =>
    rw [hd] at key
    exact Alone.resW (noB_aw 400) (run _ _ key)
  | true =>
    rw [hd] at key
    rw [cond_true, cond_andB]
    simp only [cond_true'] at key
    by_cases h1 : at' < 0
    · rw [decide_eq_true h1] at key
      rw [decide_eq_false (show ¬ 0 ≤ at' by omega)]
      exact Alone.resW (noB_aw 1) (run _ _ key)
    · rw [decide_eq_false h1, decide_eq_true (show 0 ≤ at' by omega)] at key
      rw [decide_eq_true (show 0 ≤ at' by omega)]
      simp only [cond_true', cond_false'] at key ⊢
      by_cases h2 : at' ≥ N
      · rw [decide_eq_true h2] at key
        rw [decide_eq_false (show ¬ at' < N by omega)]
        exact Alone.resW (noB_aw 1) (run _ _ key)
      · rw [decide_eq_false h2, decide_eq_true (show at' < N by omega)] at key
        rw [decide_eq_true (show at' < N by omega)]
        exact run _ _ key)
end Go.Ev

/- Devices: the reference's Flush and Fail. -/
set_option linter.unusedVariables false
set_option maxRecDepth 100000
namespace Go.Ev
open Go.Proofs
noncomputable section
def Try.E76 : Env := Try.env0 false (sumsOf []) (keepF 76 [(3, [1,2,4,5,6]), (7, [1,2,4,5,6,7,8])])
def Try.b76 : Code := nthD .skip (loopsOf (bodyOf Try.E76 76)) 0
def Try.b76i : Code := nthD .skip (loopsOf (bodyOf Try.E76 76)) 1
def Try.B76i (s : St) : Option (AX × St) := codeS Try.E76 (callF Try.E76 5) (Try.E76.keep 76) (lsumsOf []) Try.b76i (outK [1,2,4,5,6,7,8] [1,2,4,5,6]) s
def Try.V76i (cap : Option Nat) (K : List Int) (i k : Nat) : List AV := [.ro (.ints .i64 K) cap, .ptr 0 0 0, .ptr 1 0 0, .ptr 2 0 0, .val (.int .i64 i), .ptr 4 0 0, .val (.int .i64 k)]
def Try.H76i (N : Int) (x y : AV) (C : List Int) (at' : Int) (b : List Int) : Heap := ⟨5, [⟨4, 0, .cells (.rows true 2 [[.val (.int .i64 at'), .ro (.ints .u8 b) none]])⟩, ⟨3, 0, .cells (.ints .u8 C)⟩, ⟨2, 0, .cells (.rows false 3 [[.val (.int .i64 N), .own 3 0 C.length none 1, .val (.slice none 0 0)]])⟩, ⟨1, 0, .cells (.rows true 3 [[.val (.int .i64 0), .val (.slice none 0 0), .val (.slice none 0 0)]])⟩, ⟨0, 0, .cells (box1 N x y)⟩]⟩
end
theorem Try.r76i (cap : Option Nat) (K : List Int) (i k : Nat) (N : Int) (x y : AV) (C : List Int) (at' : Int) (b : List Int) : Try.B76i (stOf 56 [1,2,4,5,6,7,8] (Try.V76i cap K i k) (Try.H76i N x y C at' b)) =
      bif decide ((↑i : Int) < (↑K.length : Int)) then
       bif inR (↑i : Int) K.length then
        bif decide ((↑k : Int) < K.getD i 0) then
         bif inR (↑k : Int) b.length then
          bif inR (IntKind.i64.wrap (IntKind.i64.wrap (at' * 64) + (↑k : Int))) C.length then
           bif (0 + (IntKind.i64.wrap (IntKind.i64.wrap (at' * 64) + (↑k : Int))).toNat).blt C.length then
            some (.normal, stOf 56 [1, 2, 4, 5, 6, 7, 8] [.ro (.ints .i64 (K)) (cap), .ptr 0 (0) 0, .ptr 1 (0) 0, .ptr 2 (0) 0, .val (.int .i64 ((↑i : Int))), .ptr 4 (0) 0, .val (.int .i64 (IntKind.i64.wrap ((↑k : Int) + 1)))] ⟨5, [⟨4, 0, .cells (.rows true 2 ([.val (.int .i64 (at')), .ro (.ints .u8 (b)) none] :: []))⟩, ⟨3, 0, .cells (.ints .u8 (C.set (0 + (IntKind.i64.wrap (IntKind.i64.wrap (at' * 64) + (↑k : Int))).toNat) (b.getD k 0)))⟩, ⟨2, 0, .cells (.rows false 3 ([.val (.int .i64 (N)), .own 3 (0) (C.length) none 1, .val (.slice none 0 0)] :: []))⟩, ⟨1, 0, .cells (.rows true 3 ([.val (.int .i64 (0)), .val (.slice none 0 0), .val (.slice none 0 0)] :: []))⟩, ⟨0, 0, .cells (.rows true 3 ([.val (.int .i64 (N)), «x», «y»] :: []))⟩]⟩ )
           else
            none
          else
           none
         else
          none
        else
         some (.exit 2, stOf 56 [1, 2, 4, 5, 6] [.ro (.ints .i64 (K)) (cap), .ptr 0 (0) 0, .ptr 1 (0) 0, .ptr 2 (0) 0, .val (.int .i64 ((↑i : Int)))] ⟨4, [⟨3, 0, .cells (.ints .u8 (C))⟩, ⟨2, 0, .cells (.rows false 3 ([.val (.int .i64 (N)), .own 3 (0) (C.length) none 1, .val (.slice none 0 0)] :: []))⟩, ⟨1, 0, .cells (.rows true 3 ([.val (.int .i64 (0)), .val (.slice none 0 0), .val (.slice none 0 0)] :: []))⟩, ⟨0, 0, .cells (.rows true 3 ([.val (.int .i64 (N)), «x», «y»] :: []))⟩]⟩ )
       else
        none
      else
       some (.exit 2, stOf 56 [1, 2, 4, 5, 6] [.ro (.ints .i64 (K)) (cap), .ptr 0 (0) 0, .ptr 1 (0) 0, .ptr 2 (0) 0, .val (.int .i64 ((↑i : Int)))] ⟨4, [⟨3, 0, .cells (.ints .u8 (C))⟩, ⟨2, 0, .cells (.rows false 3 ([.val (.int .i64 (N)), .own 3 (0) (C.length) none 1, .val (.slice none 0 0)] :: []))⟩, ⟨1, 0, .cells (.rows true 3 ([.val (.int .i64 (0)), .val (.slice none 0 0), .val (.slice none 0 0)] :: []))⟩, ⟨0, 0, .cells (.rows true 3 ([.val (.int .i64 (N)), «x», «y»] :: []))⟩]⟩ ) := by kernel_rfl
theorem Try.e76 : EnvOk2 Try.prog Try.E76 := Try.envOk false (sumsOf []) _ (fun g A h => by cases h)
theorem putAt_step {C src : List Int} {off k : Nat} (hk : k < src.length) (h : off + src.length ≤ C.length) : (putAt C off (src.take k)).set (off + k) (src.getD k 0) = putAt C off (src.take (k + 1)) := by
  unfold putAt
  have e1 : (C.take off).length = off := by simp; omega
  have e2 : (src.take k).length = k := by simp; omega
  have e3 : (src.take (k + 1)).length = k + 1 := by simp; omega
  rw [List.set_append_right _ _ (by omega), e1, Nat.add_sub_cancel_left, List.set_append_right _ _ (by omega), e2, Nat.sub_self, e3]
  rw [List.take_add_one, List.getElem?_eq_getElem hk, List.append_assoc]
  have e4 : C.drop (off + k) = C[off + k]'(by omega) :: C.drop (off + (k + 1)) := by
    rw [List.drop_eq_getElem_cons (by omega)]; rfl
  rw [e4, List.set_cons_zero, List.getD_eq_getElem?_getD, List.getElem?_eq_getElem hk]
  rfl
structure I76 where
  cap : Option Nat
  K : List Int
  i : Nat
  N : Int
  x : AV
  y : AV
  C : List Int
  at' : Int
  b : List Int
  k : Nat
structure I76.Inv (t : I76) : Prop where
  ok : t.K.any badK = false
  a0 : 0 ≤ t.at'
  a1 : t.at' * 64 + 64 ≤ (t.C.length : Int)
  a2 : t.b.length = 64
  a3 : t.C.length ≤ 1000000
  k0 : t.k ≤ manyK t.K t.i
noncomputable section
def Try.V76 (cap : Option Nat) (K : List Int) (i : Nat) : List AV := [.ro (.ints .i64 K) cap, .ptr 0 0 0, .ptr 1 0 0, .ptr 2 0 0, .val (.int .i64 i)]
def Try.H76 (N : Int) (x y : AV) (C : List Int) : Heap := ⟨4, [⟨3, 0, .cells (.ints .u8 C)⟩, ⟨2, 0, .cells (.rows false 3 [[.val (.int .i64 N), .own 3 0 C.length none 1, .val (.slice none 0 0)]])⟩, ⟨1, 0, .cells (.rows true 3 [[.val (.int .i64 0), .val (.slice none 0 0), .val (.slice none 0 0)]])⟩, ⟨0, 0, .cells (box1 N x y)⟩]⟩
def fin76i (cap : Option Nat) (K : List Int) (i : Nat) (N : Int) (x y : AV) (C : List Int) (at' : Int) (b : List Int) : AX × List AV × Heap := (.exit 2, Try.V76 cap K i, Try.H76 N x y (putAt C (at'.toNat * 64) (b.take (manyK K i))))
def I76.fin (t : I76) : AX × List AV × Heap := fin76i t.cap t.K t.i t.N t.x t.y t.C t.at' t.b
def Try.f76iL (vs : List AV) (h : Heap) : Ans (AX × List AV × Heap) := match vs, h with
  | [.ro (.ints .i64 K) cap, .ptr 0 0 0, .ptr 1 0 0, .ptr 2 0 0, .val (.int .i64 (.ofNat i)), .ptr 4 0 0, .val (.int .i64 (.ofNat 0))], ⟨5, [⟨4, 0, .cells (.rows true 2 [[.val (.int .i64 at'), .ro (.ints .u8 b) none]])⟩, ⟨3, 0, .cells (.ints .u8 C)⟩, ⟨2, 0, .cells (.rows false 3 [[.val (.int .i64 N), .own 3 0 bl none 1, .val (.slice none 0 0)]])⟩, ⟨1, 0, .cells (.rows true 3 [[.val (.int .i64 (.ofNat 0)), .val (.slice none 0 0), .val (.slice none 0 0)]])⟩, ⟨0, 0, .cells (.rows true 3 [[.val (.int .i64 N'), x, y]])⟩]⟩ =>
    .grd (!K.any badK && (decide (0 ≤ at') && (decide (at' * 64 + 64 ≤ (C.length : Int)) && (Nat.beq b.length 64 && (decide (bl = C.length) && (decide (N' = N) && Nat.ble C.length 1000000)))))) (.out (fin76i cap K i N x y C at' b))
  | _, _ => .no
def Try.L76i : LSum := toLSum 56 [1,2,4,5,6,7,8] [1,2,4,5,6] Try.f76iL
end
theorem four_ok (c3 c2 c1 c0 : Con) : (⟨4, [⟨3, 0, .cells c3⟩, ⟨2, 0, .cells c2⟩, ⟨1, 0, .cells c1⟩, ⟨0, 0, .cells c0⟩]⟩ : Heap).ok := by
  refine ⟨by show List.Nodup [3, 2, 1, 0]; decide, fun id e h => ?_⟩
  have h' : (bif Nat.beq 3 id then some _ else bif Nat.beq 2 id then some _ else bif Nat.beq 1 id then some _ else bif Nat.beq 0 id then some _ else none) = some e := h
  show id < 4
  rcases Nat.lt_or_ge id 4 with q | q
  · exact q
  · rw [show Nat.beq 3 id = false from beqF (by omega), show Nat.beq 2 id = false from beqF (by omega), show Nat.beq 1 id = false from beqF (by omega), show Nat.beq 0 id = false from beqF (by omega)] at h'
    cases h'
theorem five_ok (c4 c3 c2 c1 c0 : Con) : (⟨5, [⟨4, 0, .cells c4⟩, ⟨3, 0, .cells c3⟩, ⟨2, 0, .cells c2⟩, ⟨1, 0, .cells c1⟩, ⟨0, 0, .cells c0⟩]⟩ : Heap).ok := by
  refine ⟨by show List.Nodup [4, 3, 2, 1, 0]; decide, fun id e h => ?_⟩
  have h' : (bif Nat.beq 4 id then some _ else bif Nat.beq 3 id then some _ else bif Nat.beq 2 id then some _ else bif Nat.beq 1 id then some _ else bif Nat.beq 0 id then some _ else none) = some e := h
  show id < 5
  rcases Nat.lt_or_ge id 5 with q | q
  · exact q
  · rw [show Nat.beq 4 id = false from beqF (by omega), show Nat.beq 3 id = false from beqF (by omega), show Nat.beq 2 id = false from beqF (by omega), show Nat.beq 1 id = false from beqF (by omega), show Nat.beq 0 id = false from beqF (by omega)] at h'
    cases h'
theorem Try.l76i : ∀ s e s', s.h.ok → (Try.L76i s).run = some (e, s') → Triple Try.prog (.loop Try.b76i) s e s' := by
  refine loop_lawW Try.e76 (d := 5) (g := 76) (ls := lsumsOf []) (c := Try.b76i) trivial 56 [1,2,4,5,6,7,8] [1,2,4,5,6] (T := I76)
    (fun t => Try.V76i t.cap t.K t.i t.k) (fun t => Try.H76i t.N t.x t.y (putAt t.C (t.at'.toNat * 64) (t.b.take t.k)) t.at' t.b) I76.Inv (fun t => manyK t.K t.i - t.k) I76.fin Try.f76iL ?_ (fun t _ => five_ok _ _ _ _ _) ?_
  · intro vs h e vo h' hok hf
    unfold Try.f76iL at hf
    split at hf
    · rename_i K cap i at' b C N bl N' x y
      rw [Ans.run_grd] at hf
      cases hb : (!K.any badK && (decide (0 ≤ at') && (decide (at' * 64 + 64 ≤ (C.length : Int)) && (Nat.beq b.length 64 && (decide (bl = C.length) && (decide (N' = N) && Nat.ble C.length 1000000)))))) with
      | false => rw [hb] at hf; cases hf
      | true =>
      rw [hb, cond_true] at hf
      simp only [Bool.and_eq_true, Bool.not_eq_true', decide_eq_true_eq, Nat.beq_eq, Nat.ble_eq] at hb
      obtain ⟨h1, h2, h3, h4, rfl, rfl, h5⟩ := hb
      injection hf with hf
      refine ⟨⟨cap, K, i, N', x, y, C, at', b, 0⟩, ⟨h1, h2, h3, h4, h5, Nat.zero_le _⟩, ?_, hf⟩
      have e0 : putAt C (at'.toNat * 64) (b.take 0) = C := by simp [putAt]
      simp only [e0]
      exact Weak.refl (five_ok _ _ _ _ _)
    · cases hf
  · rintro ⟨cap, K, i, N, x, y, C, at', b, k⟩ ⟨h1, h2, h3, h4, h5, h6⟩
    simp only at h1 h2 h3 h4 h5 h6
    have hm : manyK K i ≤ 64 := by
      by_cases hi : i < K.length
      · have := badK_get h1 hi; unfold manyK; omega
      · have : manyK K i = 0 := by unfold manyK; rw [List.getD_eq_getElem?_getD, List.getElem?_eq_none (by omega)]; rfl
        omega
    have hlen : (putAt C (at'.toNat * 64) (b.take k)).length = C.length := putAt_len (by simp; omega)
    have key := Try.r76i cap K i k N x y (putAt C (at'.toNat * 64) (b.take k)) at' b
    rw [hlen] at key
    have w1 : IntKind.i64.wrap (at' * 64) = at' * 64 := wrap64 _ (by omega) (by omega)
    by_cases hk : k < manyK K i
    · have hi : i < K.length := by
        rcases Nat.lt_or_ge i K.length with q | q
        · exact q
        · have : manyK K i = 0 := by unfold manyK; rw [List.getD_eq_getElem?_getD, List.getElem?_eq_none (by omega)]; rfl
          omega
      have hg := badK_get h1 hi
      have hk2 : (k : Int) < K.getD i 0 := by unfold manyK at hk; omega
      have w2 : IntKind.i64.wrap (IntKind.i64.wrap (at' * 64) + (k : Int)) = ((at'.toNat * 64 + k : Nat) : Int) := by rw [w1, wrap64 _ (by omega) (by omega)]; omega
      rw [declt_nat, inR_nat, decide_eq_true hi, decide_eq_true hk2, inR_nat, decide_eq_true (show k < b.length by omega), w2, inR_nat, decide_eq_true (show at'.toNat * 64 + k < C.length by omega), Int.toNat_natCast, Nat.zero_add, blt_t (show at'.toNat * 64 + k < C.length by omega), putAt_step (by omega) (by omega), wrapT k (by omega)] at key
      refine .inl ⟨⟨cap, K, i, N, x, y, C, at', b, k + 1⟩, _, key, ?_, ⟨h1, h2, h3, h4, h5, hk⟩, by show manyK K i - (k + 1) < manyK K i - k; omega, rfl⟩
      have hlen2 : (putAt C (at'.toNat * 64) (b.take (k + 1))).length = C.length := putAt_len (by simp; omega)
      unfold Try.H76i
      rw [hlen2]
      exact Weak.refl (five_ok _ _ _ _ _)
    · have ek : k = manyK K i := by omega
      refine .inr ⟨_, key.trans ?_, Weak.refl (four_ok _ _ _ _), by simp [I76.fin, fin76i]⟩
      simp only [I76.fin, fin76i, Try.H76, ← ek, hlen]
      by_cases hi : i < K.length
      · have hg := badK_get h1 hi
        rw [declt_nat, inR_nat, decide_eq_true hi, decide_eq_false (show ¬ (k : Int) < K.getD i 0 by unfold manyK at ek; omega)]
        rfl
      · rw [declt_nat, decide_eq_false hi]
        rfl
noncomputable section
def Try.B76 (s : St) : Option (AX × St) := codeS Try.E76 (callF Try.E76 5) (Try.E76.keep 76) (lsumsOf [(7, Try.L76i)]) Try.b76 (outK [1,2,4,5,6] [4,5]) s
end
theorem Try.r76 (cap : Option Nat) (K : List Int) (i : Nat) (N : Int) (x : AV) (P : List SwD) (C : List Int) : Try.B76 (stOf 56 [1,2,4,5,6] (Try.V76 cap K i) (Try.H76 N x (.ro (SW.con P) none) C)) =
      bif decide ((↑i : Int) < (↑P.length : Int)) then
       bif inR (↑i : Int) P.length then
        bif !K.any badK && (decide (0 ≤ (P.getD i SW.z).fst) && (decide ((P.getD i SW.z).fst * 64 + 64 ≤ (↑C.length : Int)) && ((P.getD i SW.z).snd.length.beq 64 && (decide (C.length = C.length) && (decide (N = N) && C.length.ble 1000000))))) then
         some (.normal, stOf 56 [1, 2, 4, 5, 6] [.ro (.ints .i64 (K)) (cap), .ptr 0 (0) 0, .ptr 1 (0) 0, .ptr 2 (0) 0, .val (.int .i64 (IntKind.i64.wrap ((↑i : Int) + 1)))] ⟨4, [⟨3, 0, .cells (.ints .u8 (putAt C ((P.getD i SW.z).fst.toNat * 64) (List.take (manyK K i) (P.getD i SW.z).snd)))⟩, ⟨2, 0, .cells (.rows false 3 ([.val (.int .i64 (N)), .own 3 (0) ((putAt C ((P.getD i SW.z).fst.toNat * 64) (List.take (manyK K i) (P.getD i SW.z).snd)).length) none 1, .val (.slice none 0 0)] :: []))⟩, ⟨1, 0, .cells (.rows true 3 ([.val (.int .i64 (0)), .val (.slice none 0 0), .val (.slice none 0 0)] :: []))⟩, ⟨0, 0, .cells (.rows true 3 ([.val (.int .i64 (N)), «x», .ro (.tab 2 (P.length) (fun i => SW.row (P.getD i SW.z))) none] :: []))⟩]⟩ )
        else
         none
       else
        none
      else
       some (.exit 0, stOf 56 [4, 5] [.ptr 0 (0) 0, .ptr 1 (0) 0] ⟨3, [⟨2, 0, .cells (.ints .u8 (C))⟩, ⟨1, 0, .cells (.rows false 3 ([.val (.int .i64 (N)), .own 2 (0) (C.length) none 1, .val (.slice none 0 0)] :: []))⟩, ⟨0, 0, .cells (.rows true 3 ([.val (.int .i64 (0)), .val (.slice none 0 0), .val (.slice none 0 0)] :: []))⟩]⟩ ) := by kernel_rfl
structure O76 where
  cap : Option Nat
  K : List Int
  N : Int
  x : AV
  P : List SwD
  B : List Int
  i : Nat
structure O76.Inv (t : O76) : Prop where
  ok : t.K.any badK = false
  dev : DevFacts t.N t.B t.P
  i0 : t.i ≤ t.P.length
noncomputable section
def Try.H76o (N : Int) (C : List Int) : Heap := ⟨3, [⟨2, 0, .cells (.ints .u8 C)⟩, ⟨1, 0, .cells (.rows false 3 [[.val (.int .i64 N), .own 2 0 C.length none 1, .val (.slice none 0 0)]])⟩, ⟨0, 0, .cells (.rows true 3 [[.val (.int .i64 0), .val (.slice none 0 0), .val (.slice none 0 0)]])⟩]⟩
def fin76 (K : List Int) (N : Int) (P : List SwD) (B : List Int) : AX × List AV × Heap := (.exit 0, [.ptr 0 0 0, .ptr 1 0 0], Try.H76o N (settleN (manyK K) P B P.length))
def Try.f76L (vs : List AV) (h : Heap) : Ans (AX × List AV × Heap) := match vs, h with
  | [.ro (.ints .i64 K) cap, .ptr 0 0 0, .ptr 1 0 0, .ptr 2 0 0, .val (.int .i64 (.ofNat 0))], ⟨4, [⟨3, 0, .cells (.ints .u8 C)⟩, ⟨2, 0, .cells (.rows false 3 [[.val (.int .i64 N), .own 3 0 bl none 1, .val (.slice none 0 0)]])⟩, ⟨1, 0, .cells (.rows true 3 [[.val (.int .i64 (.ofNat 0)), .val (.slice none 0 0), .val (.slice none 0 0)]])⟩, ⟨0, 0, .cells (.rows true 3 [[.val (.int .i64 N'), x, .ro c cap2]])⟩]⟩ =>
    .grd (!K.any badK && (decide (bl = C.length) && (decide (N' = N) && (SW.ok c && isDevB N C (SW.list c))))) (.out (fin76 K N (SW.list c) C))
  | _, _ => .no
def Try.L76 : LSum := toLSum 56 [1,2,4,5,6] [4,5] Try.f76L
end
theorem three_ok (c2 c1 c0 : Con) : (⟨3, [⟨2, 0, .cells c2⟩, ⟨1, 0, .cells c1⟩, ⟨0, 0, .cells c0⟩]⟩ : Heap).ok := by
  refine ⟨by show List.Nodup [2, 1, 0]; decide, fun id e h => ?_⟩
  have h' : (bif Nat.beq 2 id then some _ else bif Nat.beq 1 id then some _ else bif Nat.beq 0 id then some _ else none) = some e := h
  show id < 3
  rcases Nat.lt_or_ge id 3 with q | q
  · exact q
  · rw [show Nat.beq 2 id = false from beqF (by omega), show Nat.beq 1 id = false from beqF (by omega), show Nat.beq 0 id = false from beqF (by omega)] at h'
    cases h'
theorem Try.l76 : ∀ s e s', s.h.ok → (Try.L76 s).run = some (e, s') → Triple Try.prog (.loop Try.b76) s e s' := by
  refine loop_lawW Try.e76 (d := 5) (g := 76) (ls := lsumsOf [(7, Try.L76i)]) (c := Try.b76) (AllL.of1 (a := Try.b76i) (by kernel_rfl) (LsOk.of rfl rfl Try.l76i)) 56 [1,2,4,5,6] [4,5] (T := O76)
    (fun t => Try.V76 t.cap t.K t.i) (fun t => Try.H76 t.N t.x (.ro (SW.con t.P) none) (settleN (manyK t.K) t.P t.B t.i)) O76.Inv (fun t => t.P.length - t.i) (fun t => fin76 t.K t.N t.P t.B) Try.f76L ?_ (fun t _ => four_ok _ _ _ _) ?_
  · intro vs h e vo h' hok hf
    unfold Try.f76L at hf
    split at hf
    · rename_i K cap C N bl N' x c cap2
      rw [Ans.run_grd] at hf
      cases hb : (!K.any badK && (decide (bl = C.length) && (decide (N' = N) && (SW.ok c && isDevB N C (SW.list c))))) with
      | false => rw [hb] at hf; cases hf
      | true =>
      rw [hb, cond_true] at hf
      simp only [Bool.and_eq_true, Bool.not_eq_true', decide_eq_true_eq] at hb
      obtain ⟨h1, rfl, rfl, h2, h3⟩ := hb
      injection hf with hf
      refine ⟨⟨cap, K, N', x, SW.list c, C, 0⟩, ⟨h1, dev_facts h3, Nat.zero_le _⟩, ?_, hf⟩
      exact Weak.heap (four_ok _ _ _ _) (.same _ (.same _ (.same _ (.con 0 0 0 rfl (ConW.one (.cons (AW.refl _) (.cons (AW.refl _) (.cons (SW.aw h2 _) .nil)))) (EsW.refl _)))))
    · cases hf
  · rintro ⟨cap, K, N, x, P, B, i⟩ ⟨h1, h2, h3⟩
    simp only at h1 h2 h3
    have key := Try.r76 cap K i N x P (settleN (manyK K) P B i)
    have hlen := settleN_len (many := manyK K) h2 i h3
    have a1 := h2.len
    have a2 := h2.hi
    have a3 := h2.few
    by_cases hi : i < P.length
    · have b0 := h2.at0 i hi
      have b1 := h2.at1 i hi
      have b2 := h2.wl i hi
      rw [declt_nat, inR_nat, decide_eq_true hi, h1, decide_eq_true b0, hlen, decide_eq_true (show (P.getD i SW.z).1 * 64 + 64 ≤ (B.length : Int) by omega), b2, decide_eq_true (rfl : B.length = B.length), decide_eq_true (rfl : N = N), ble_t (show B.length ≤ 1000000 by omega), wrapT i (by omega)] at key
      exact .inl ⟨⟨cap, K, N, x, P, B, i + 1⟩, _, key, Weak.refl (four_ok _ _ _ _), ⟨h1, h2, hi⟩, by show P.length - (i + 1) < P.length - i; omega, rfl⟩
    · have : i = P.length := by omega
      subst this
      rw [declt_nat, decide_eq_false hi] at key
      exact .inr ⟨_, key, Weak.refl (three_ok _ _ _), by simp [fin76]⟩
theorem Try.w76 (cap : Option Nat) (K : List Int) (N : Int) (B : List Int) (P : List SwD) : rootS Try.E76 5 76 (lsumsOf [(3, Try.L76), (7, Try.L76i)]) [devA N B P, .ro (.ints .i64 K) cap] =
      bif ownNew (some 0) 0 B.length then
       bif ((0 + B.length) * 1).ble most && (0 + B.length).ble most then
        bif !K.any badK && (decide (0 + B.length = ([] ++ B).length) && (decide (N = N) && (SW.ok (SW.con P) && isDevB N ([] ++ B) (SW.list (SW.con P))))) then
         some (.agg [.val (.int .i64 (N)), .own 0 (0) ((settleN (manyK K) (SW.list (SW.con P)) ([] ++ B) (SW.list (SW.con P)).length).length) none 1, .val (.slice none 0 0)], ⟨1, [⟨0, 0, .cells (.ints .u8 (settleN (manyK K) (SW.list (SW.con P)) ([] ++ B) (SW.list (SW.con P)).length))⟩]⟩)
        else
         none
       else
        none
      else
       bif ((0 + B.length) * 1).ble most && (0 + B.length).ble most then
        bif !K.any badK && (decide (0 + B.length = ([] ++ B).length) && (decide (N = N) && (SW.ok (SW.con P) && isDevB N ([] ++ B) (SW.list (SW.con P))))) then
         some (.agg [.val (.int .i64 (N)), .own 0 (0) ((settleN (manyK K) (SW.list (SW.con P)) ([] ++ B) (SW.list (SW.con P)).length).length) none 1, .val (.slice none 0 0)], ⟨1, [⟨0, 0, .cells (.ints .u8 (settleN (manyK K) (SW.list (SW.con P)) ([] ++ B) (SW.list (SW.con P)).length))⟩]⟩)
        else
         none
       else
        none := by kernel_rfl
end Go.Ev

/- Devices: the reference's Flush and Fail, their contracts. -/
set_option linter.unusedVariables false
set_option maxRecDepth 100000
namespace Go.Ev
open Go.Proofs
noncomputable section
def k64 (n : Nat) : List Int := List.replicate n 64
def ownD (N : Int) (B : List Int) : AV := .agg [.val (.int .i64 N), .own 0 0 B.length none 1, .val (.slice none 0 0)]
def Try.S76 (args : List AV) : Ans (AV × Heap) := match args with
  | [.agg [.val (.int .i64 N), .ro (.ints .u8 B) cap, .ro c cap'], .ro (.ints .i64 K) cap2] => .grd (okSW c && (isDevB N B (SW.list c) && !K.any badK)) (.out (ownD N (settleN (manyK K) (SW.list c) B (SW.list c).length), oneH (.ints .u8 (settleN (manyK K) (SW.list c) B (SW.list c).length))))
  | _ => .no
def Try.A76 : AFun := pureA (fun args => Try.S76 (nzDK args))
end
theorem Try.al76 (cap : Option Nat) (K : List Int) (N : Int) (B : List Int) (P : List SwD) (hd : isDevB N B P = true) (hK : K.any badK = false) : Alone Try.prog 76 [devA N B P, .ro (.ints .i64 K) cap] (ownD N (settleN (manyK K) P B P.length)) (oneH (.ints .u8 (settleN (manyK K) P B P.length))) := by
  refine rootS_alone Try.e76 (d := 5) (g := 76) (ls := lsumsOf [(3, Try.L76), (7, Try.L76i)]) (AllL.of2 (a := Try.b76) (b := Try.b76i) (by kernel_rfl) (LsOk.of rfl rfl Try.l76) (LsOk.of rfl rfl Try.l76i)) ((Try.w76 cap K N B P).trans ?_)
  have h := dev_facts hd
  have h3 := h.len
  have h4 := h.hi
  rw [SW_list_con, hK, List.nil_append, Nat.zero_add, hd, SW.ok_con, decide_eq_true (rfl : B.length = B.length), decide_eq_true (rfl : N = N), ble_t (show B.length * 1 ≤ most by rw [most_eq]; omega), ble_t (show B.length ≤ most by rw [most_eq]; omega)]
  cases ownNew (some 0) 0 B.length <;> rfl
theorem Try.sum76 : SumC Try.prog 76 Try.A76 := by
  refine pureSumR 76 ⟨Try.f76, _, Try.fnOk76.1, Try.fnOk76.2, rfl⟩ ?_
  intro args v h2 hs
  refine Alone.argsW (nzDK_aw args) ?_
  replace hs : (Try.S76 (nzDK args)).run = some (v, h2) := hs
  generalize nzDK args = args' at hs ⊢
  unfold Try.S76 at hs
  split at hs
  · rename_i N B cap c cap' K cap2
    rw [Ans.run_grd] at hs
    cases hb : (okSW c && (isDevB N B (SW.list c) && !K.any badK)) with
    | false => rw [hb] at hs; cases hs
    | true =>
      rw [hb, cond_true] at hs
      simp only [Bool.and_eq_true, Bool.not_eq_true'] at hb
      injection hs with hs
      injection hs with q1 q2
      subst q1; subst q2
      refine Alone.argsW (args' := [devA N B (SW.list c), .ro (.ints .i64 K) cap2]) ?_ (Try.al76 cap2 K N B (SW.list c) hb.2.1 hb.2.2)
      exact AWs.args (.cons (AW.agg (.cons (AW.refl _) (.cons (AW.cap _ _) (.cons (SW.aw (okSW_some hb.1).1 _) .nil)))) (AWs.refl _))
  · cases hs
noncomputable section
def Try.E75 : Env := Try.env0 false (sumsOf [(76, Try.A76)]) (keepF 75 [(3, [1,2,3,4])])
def Try.b75 : Code := nthD .skip (loopsOf (bodyOf Try.E75 75)) 0
def Try.B75 (s : St) : Option (AX × St) := codeS Try.E75 (callF Try.E75 5) (Try.E75.keep 75) (lsumsOf []) Try.b75 (outK [1,2,3,4] [1,2,3]) s
def Try.V75 (k : Nat) : List AV := [.ptr 0 0 0, .ptr 1 0 0, .own 2 0 k none 1, .val (.int .i64 k)]
def Try.H75 (N : Int) (x : AV) (P : List SwD) (K : List Int) : Heap := ⟨3, [⟨2, 0, .cells (.ints .i64 K)⟩, ⟨1, 0, .cells (.rows true 3 [[.val (.int .i64 0), .val (.slice none 0 0), .val (.slice none 0 0)]])⟩, ⟨0, 0, .cells (box1 N x (.ro (SW.con P) none))⟩]⟩
def Try.f75L (vs : List AV) (h : Heap) : Ans (AX × List AV × Heap) := match vs, h with
  | [.ptr 0 0 0, .ptr 1 0 0, .val (.slice none 0 0), .val (.int .i64 (.ofNat 0))], ⟨2, [⟨1, 0, .cells (.rows true 3 [[.val (.int .i64 (.ofNat 0)), .val (.slice none 0 0), .val (.slice none 0 0)]])⟩, ⟨0, 0, .cells (.rows true 3 [[.val (.int .i64 N), x, .ro c cap]])⟩]⟩ =>
    .grd (SW.ok c && Nat.ble c.len 1000000) (.out (.exit 0, [.ptr 0 0 0, .ptr 1 0 0, .own 2 0 (SW.list c).length none 1], Try.H75 N x (SW.list c) (k64 (SW.list c).length)))
  | _, _ => .no
def Try.L75 : LSum := toLSum 18 [1,2,3,4] [1,2,3] Try.f75L
end
theorem Try.e75 : EnvOk2 Try.prog Try.E75 := Try.envOk false (sumsOf [(76, Try.A76)]) _ (sumsOf_ok (show AllS Try.prog [(76, Try.A76)] from ⟨Try.sum76, trivial⟩))
theorem Try.r75 (N : Int) (x : AV) (P : List SwD) (K : List Int) (k : Nat) : Try.B75 (stOf 18 [1,2,3,4] (Try.V75 k) (Try.H75 N x P K)) =
      bif decide ((↑k : Int) < (↑P.length : Int)) then
       bif (0 + k).ble K.length then
        bif ((k + 1) * 8).ble most && (k + 1).ble most then
         some (.normal, stOf 18 [1, 2, 3, 4] [.ptr 0 (0) 0, .ptr 1 (0) 0, .own 2 (0) (k + 1) none 1, .val (.int .i64 (IntKind.i64.wrap ((↑k : Int) + 1)))] ⟨3, [⟨2, 0, .cells (.ints .i64 (List.take k (List.drop 0 K) ++ [64]))⟩, ⟨1, 0, .cells (.rows true 3 ([.val (.int .i64 (0)), .val (.slice none 0 0), .val (.slice none 0 0)] :: []))⟩, ⟨0, 0, .cells (.rows true 3 ([.val (.int .i64 (N)), «x», .ro (.tab 2 (P.length) (fun i => SW.row (P.getD i SW.z))) none] :: []))⟩]⟩ )
        else
         none
       else
        none
      else
       some (.exit 0, stOf 18 [1, 2, 3] [.ptr 0 (0) 0, .ptr 1 (0) 0, .own 2 (0) (k) none 1] ⟨3, [⟨2, 0, .cells (.ints .i64 (K))⟩, ⟨1, 0, .cells (.rows true 3 ([.val (.int .i64 (0)), .val (.slice none 0 0), .val (.slice none 0 0)] :: []))⟩, ⟨0, 0, .cells (.rows true 3 ([.val (.int .i64 (N)), «x», .ro (.tab 2 (P.length) (fun i => SW.row (P.getD i SW.z))) none] :: []))⟩]⟩ ) := by kernel_rfl
theorem Try.l75 : ∀ s e s', s.h.ok → (Try.L75 s).run = some (e, s') → Triple Try.prog (.loop Try.b75) s e s' := by
  refine loop_lawW Try.e75 (d := 5) (g := 75) (ls := lsumsOf []) (c := Try.b75) trivial 18 [1,2,3,4] [1,2,3] (T := Int × AV × List SwD × Nat)
    (fun t => Try.V75 t.2.2.2) (fun t => Try.H75 t.1 t.2.1 t.2.2.1 (k64 t.2.2.2)) (fun t => t.2.2.1.length ≤ 1000000 ∧ t.2.2.2 ≤ t.2.2.1.length) (fun t => t.2.2.1.length - t.2.2.2) (fun t => (.exit 0, [.ptr 0 0 0, .ptr 1 0 0, .own 2 0 t.2.2.1.length none 1], Try.H75 t.1 t.2.1 t.2.2.1 (k64 t.2.2.1.length))) Try.f75L ?_ (fun t _ => three_ok _ _ _) ?_
  · intro vs h e vo h' hok hf
    unfold Try.f75L at hf
    split at hf
    · rename_i N x c cap
      rw [Ans.run_grd] at hf
      cases hb : (SW.ok c && Nat.ble c.len 1000000) with
      | false => rw [hb] at hf; cases hf
      | true =>
      rw [hb, cond_true] at hf
      simp only [Bool.and_eq_true, Nat.ble_eq] at hb
      injection hf with hf
      refine ⟨(N, x, SW.list c, 0), ⟨by rw [SW.list_len]; exact hb.2, Nat.zero_le _⟩, ?_, hf⟩
      have a1 : Weak (stOf 18 [1,2,3,4] [.ptr 0 0 0, .ptr 1 0 0, .val (.slice none 0 0), .val (.int .i64 (.ofNat 0))] ⟨2, [⟨1, 0, .cells (.rows true 3 [[.val (.int .i64 (.ofNat 0)), .val (.slice none 0 0), .val (.slice none 0 0)]])⟩, ⟨0, 0, .cells (.rows true 3 [[.val (.int .i64 N), x, .ro c cap]])⟩]⟩)
          (stOf 18 [1,2,3,4] [.ptr 0 0 0, .ptr 1 0 0, .val (.slice none 0 0), .val (.int .i64 (.ofNat 0))] ⟨2, [⟨1, 0, .cells (.rows true 3 [[.val (.int .i64 (.ofNat 0)), .val (.slice none 0 0), .val (.slice none 0 0)]])⟩, ⟨0, 0, .cells (box1 N x (.ro (SW.con (SW.list c)) none))⟩]⟩) :=
        Weak.heap (two_ok _ _) (.same _ (.con 0 0 0 rfl (ConW.one (.cons (AW.refl _) (.cons (AW.refl _) (.cons (SW.aw hb.1 _) .nil)))) (EsW.refl _)))
      have a2 := Weak.nil a1.1 3 (.ints .i64 []) rfl rfl
      exact a1.trans a2
    · cases hf
  · rintro ⟨N, x, P, k⟩ ⟨h1, h2⟩
    simp only at h1 h2
    have key := Try.r75 N x P (k64 k) k
    have ek : (k64 k).length = k := List.length_replicate
    by_cases hk : k < P.length
    · have e1 : List.take k (List.drop 0 (k64 k)) ++ [64] = k64 (k + 1) := by
        rw [List.drop_zero, List.take_of_length_le (by omega)]; exact List.replicate_succ'.symm
      rw [declt_nat, decide_eq_true hk, ek, Nat.zero_add, ble_t (Nat.le_refl _), ble_t (show (k + 1) * 8 ≤ most by rw [most_eq]; omega), ble_t (show k + 1 ≤ most by rw [most_eq]; omega), wrapT k (by omega), e1] at key
      exact .inl ⟨(N, x, P, k + 1), _, key, Weak.refl (three_ok _ _ _), ⟨h1, hk⟩, by show P.length - (k + 1) < P.length - k; omega, rfl⟩
    · have : k = P.length := by omega
      subst this
      rw [declt_nat, decide_eq_false hk] at key
      exact .inr ⟨_, key, Weak.refl (three_ok _ _ _), by simp⟩
theorem Try.w75 (N : Int) (B : List Int) (P : List SwD) : rootS Try.E75 5 75 (lsumsOf [(3, Try.L75)]) [devA N B P] =
      bif SW.ok (SW.con P) && P.length.ble 1000000 then
       bif (0 + (SW.list (SW.con P)).length).ble (k64 (SW.list (SW.con P)).length).length && true then
        bif okSW (SW.con (SW.list (SW.con P))) && (isDevB N B (SW.list (SW.con (SW.list (SW.con P)))) && !(List.take (SW.list (SW.con P)).length (List.drop 0 (k64 (SW.list (SW.con P)).length))).any badK) then
         some (.agg [.val (.int .i64 (N)), .own 0 (0) ((settleN (manyK (List.take (SW.list (SW.con P)).length (List.drop 0 (k64 (SW.list (SW.con P)).length)))) (SW.list (SW.con (SW.list (SW.con P)))) B (SW.list (SW.con (SW.list (SW.con P)))).length).length) none 1, .val (.slice none 0 0)], ⟨1, [⟨0, 0, .cells (.ints .u8 (settleN (manyK (List.take (SW.list (SW.con P)).length (List.drop 0 (k64 (SW.list (SW.con P)).length)))) (SW.list (SW.con (SW.list (SW.con P)))) B (SW.list (SW.con (SW.list (SW.con P)))).length))⟩]⟩)
        else
         none
       else
        none
      else
       none := by kernel_rfl
theorem settleN_congr {f g : Nat → Nat} {P : List SwD} {B : List Int} : ∀ n, (∀ k, k < n → f k = g k) → settleN f P B n = settleN g P B n
  | 0, _ => rfl
  | n + 1, h => by
    show putAt (settleN f P B n) _ ((P.getD n SW.z).2.take (f n)) = putAt (settleN g P B n) _ ((P.getD n SW.z).2.take (g n))
    rw [settleN_congr n (fun k hk => h k (by omega)), h n (by omega)]
theorem many64 {n k : Nat} (h : k < n) : manyK (k64 n) k = 64 := by
  unfold manyK k64
  rw [List.getD_eq_getElem?_getD, List.getElem?_replicate, if_pos h]; rfl
theorem any64 (n : Nat) : (k64 n).any badK = false := by
  unfold k64
  rw [List.any_eq_false]
  intro x hx
  rw [List.eq_of_mem_replicate hx]
  decide
noncomputable section
def Try.S75 (args : List AV) : Ans (AV × Heap) := match args with
  | [.agg [.val (.int .i64 N), .ro (.ints .u8 B) cap, .ro c cap']] => .grd (okSW c && isDevB N B (SW.list c)) (.out (ownD N (settleN (fun _ => 64) (SW.list c) B (SW.list c).length), oneH (.ints .u8 (settleN (fun _ => 64) (SW.list c) B (SW.list c).length))))
  | _ => .no
def Try.A75 : AFun := pureA (fun args => Try.S75 (nzDevs args))
def Try.t35 : List (Nat × AFun) := [(23, Try.A23), (75, Try.A75)]
def Try.E35 : Env := Try.env0 false (sumsOf Try.t35) (keepF 0 [])
def Try.t36 : List (Nat × AFun) := [(23, Try.A23), (76, Try.A76)]
def Try.E36 : Env := Try.env0 false (sumsOf Try.t36) (keepF 36 [(6, [1,2,4,6])])
end
theorem Try.al75 (N : Int) (B : List Int) (P : List SwD) (ok : okSW (SW.con P) = true) (hd : isDevB N B P = true) : Alone Try.prog 75 [devA N B P] (ownD N (settleN (fun _ => 64) P B P.length)) (oneH (.ints .u8 (settleN (fun _ => 64) P B P.length))) := by
  refine rootS_alone Try.e75 (d := 5) (g := 75) (ls := lsumsOf [(3, Try.L75)]) (AllL.of1 (a := Try.b75) (by kernel_rfl) (LsOk.of rfl rfl Try.l75)) ((Try.w75 N B P).trans ?_)
  have h := dev_facts hd
  have h5 := h.few
  rw [← settleN_congr (f := manyK (k64 P.length)) (g := fun _ => 64) P.length (fun k hk => many64 hk)]
  have ek : (k64 P.length).length = P.length := List.length_replicate
  have e1 : List.take P.length (List.drop 0 (k64 P.length)) = k64 P.length := by rw [List.drop_zero, List.take_of_length_le (by omega)]
  rw [SW_list_con, SW.ok_con, ble_t (show P.length ≤ 1000000 by omega), ek, e1, any64, SW_list_con, hd, ok, Nat.zero_add, ble_t (Nat.le_refl _)]
  rfl
end Go.Ev

/- Devices: the reference's Flush and Fail, joined. -/
set_option linter.unusedVariables false
set_option maxRecDepth 100000
namespace Go.Ev
open Go.Proofs
theorem Try.sum75 : SumC Try.prog 75 Try.A75 := by
  refine pureSumR 75 ⟨Try.f75, _, Try.fnOk75.1, Try.fnOk75.2, rfl⟩ ?_
  intro args v h2 hs
  refine Alone.argsW (nzDevs_aw args) ?_
  replace hs : (Try.S75 (nzDevs args)).run = some (v, h2) := hs
  generalize nzDevs args = args' at hs ⊢
  unfold Try.S75 at hs
  split at hs
  · rename_i N B cap c cap'
    rw [Ans.run_grd] at hs
    cases hb : (okSW c && isDevB N B (SW.list c)) with
    | false => rw [hb] at hs; cases hs
    | true =>
      rw [hb, cond_true] at hs
      simp only [Bool.and_eq_true] at hb
      injection hs with hs
      injection hs with q1 q2
      subst q1; subst q2
      exact Alone.argsW (dev_args hb.1) (Try.al75 N B (SW.list c) (okSW_con hb.1) hb.2)
  · cases hs
theorem Try.e35 : EnvOk2 Try.prog Try.E35 := Try.envOk false (sumsOf Try.t35) _ (sumsOf_ok (show AllS Try.prog Try.t35 from ⟨Try.sum23, Try.sum75, trivial⟩))
theorem Try.e36 : EnvOk2 Try.prog Try.E36 := Try.envOk false (sumsOf Try.t36) _ (sumsOf_ok (show AllS Try.prog Try.t36 from ⟨Try.sum23, Try.sum76, trivial⟩))
theorem Try.w35 (N : Int) (B : List Int) (P : List SwD) : rootS Try.E35 5 35 (lsumsOf []) [devA N B P] =
      bif okSW (SW.con P) then
       bif isDevB N B (SW.list (SW.con P)) then
        bif okSW (SW.con P) && isDevB N B (SW.list (SW.con P)) then
         some (.tup [.agg [.val (.int .i64 (N)), .own 0 (0) ((settleN (fun x => 64) (SW.list (SW.con P)) B (SW.list (SW.con P)).length).length) none 1, .val (.slice none 0 0)], .val (.int .i64 (0))], ⟨1, [⟨0, 0, .cells (.ints .u8 (settleN (fun x => 64) (SW.list (SW.con P)) B (SW.list (SW.con P)).length))⟩]⟩)
        else
         none
       else
        some (.tup [.agg [.val (.int .i64 (0)), .val (.slice none 0 0), .val (.slice none 0 0)], .val (.int .i64 (400))], ⟨0, []⟩)
      else
       none := by kernel_rfl
theorem Try.al35 (N : Int) (B : List Int) (P : List SwD) (ok : okSW (SW.con P) = true) : Alone Try.prog 35 [devA N B P] (outDE (flushD (N, B, P))) ⟨0, []⟩ := by
  have run := fun v h2 => rootS_alone Try.e35 (d := 5) (g := 35) (ls := lsumsOf []) (AllL.of0 (by kernel_rfl)) (args := [devA N B P]) (v := v) (h2 := h2)
  have key := Try.w35 N B P
  unfold flushD isDevD
  simp only
  rw [ok, SW_list_con] at key
  cases hd : isDevB N B P with
  | false =>
    rw [hd] at key
    exact Alone.resW (noDev_aw 400) (run _ _ key)
  | true =>
    rw [hd] at key
    exact devOwn _ (run _ _ key)
noncomputable section
def Try.A35 : AFun := roA (fun args => Try.Sde flushD (nzDevs args))
end
theorem Try.sum35 : SumC Try.prog 35 Try.A35 := Try.sum_de Try.fnOk35 rfl flushD Try.al35
noncomputable section
def Try.b36 : Code := nthD .skip (loopsOf (bodyOf Try.E36 36)) 0
def Try.B36 (s : St) : Option (AX × St) := codeS Try.E36 (callF Try.E36 5) (Try.E36.keep 36) (lsumsOf []) Try.b36 (outK [1,2,4,6] [1,2,4,5]) s
def Try.V36 (cap : Option Nat) (K : List Int) (k : Nat) : List AV := [.ro (.ints .i64 K) cap, .ptr 0 0 0, .ptr 1 0 0, .val (.int .i64 k)]
def Try.H36 (z : List (List AV)) : Heap := ⟨2, [⟨1, 0, .cells (.rows true 3 [[.val (.int .i64 0), .val (.slice none 0 0), .val (.slice none 0 0)]])⟩, ⟨0, 0, .cells (.rows true 3 z)⟩]⟩
end
theorem Try.r36 (cap : Option Nat) (K : List Int) (z : List (List AV)) (k : Nat) : Try.B36 (stOf 40 [1,2,4,6] (Try.V36 cap K k) (Try.H36 z)) =
      bif decide ((↑k : Int) < (↑K.length : Int)) then
       bif inR (↑k : Int) K.length then
        bif decide (K.getD k 0 < 0) then
         some (.ret, stOf 40 [1, 2, 4, 5] [.ro (.ints .i64 (K)) (cap), .ptr 0 (0) 0, .ptr 1 (0) 0, .val (.int .i64 (1))] ⟨2, [⟨1, 0, .cells (.rows true 3 ([.val (.int .i64 (0)), .val (.slice none 0 0), .val (.slice none 0 0)] :: []))⟩, ⟨0, 0, .cells (.rows true 3 (z))⟩]⟩ )
        else
         bif inR (↑k : Int) K.length then
          bif decide (K.getD k 0 > 64) then
           some (.ret, stOf 40 [1, 2, 4, 5] [.ro (.ints .i64 (K)) (cap), .ptr 0 (0) 0, .ptr 1 (0) 0, .val (.int .i64 (1))] ⟨2, [⟨1, 0, .cells (.rows true 3 ([.val (.int .i64 (0)), .val (.slice none 0 0), .val (.slice none 0 0)] :: []))⟩, ⟨0, 0, .cells (.rows true 3 (z))⟩]⟩ )
          else
           some (.normal, stOf 40 [1, 2, 4, 6] [.ro (.ints .i64 (K)) (cap), .ptr 0 (0) 0, .ptr 1 (0) 0, .val (.int .i64 (IntKind.i64.wrap ((↑k : Int) + 1)))] ⟨2, [⟨1, 0, .cells (.rows true 3 ([.val (.int .i64 (0)), .val (.slice none 0 0), .val (.slice none 0 0)] :: []))⟩, ⟨0, 0, .cells (.rows true 3 (z))⟩]⟩ )
         else
          none
       else
        none
      else
       some (.exit 0, stOf 40 [1, 2, 4] [.ro (.ints .i64 (K)) (cap), .ptr 0 (0) 0, .ptr 1 (0) 0] ⟨2, [⟨1, 0, .cells (.rows true 3 ([.val (.int .i64 (0)), .val (.slice none 0 0), .val (.slice none 0 0)] :: []))⟩, ⟨0, 0, .cells (.rows true 3 (z))⟩]⟩ ) := by kernel_rfl
noncomputable section
def Try.f36L (vs : List AV) (h : Heap) : Ans (AX × List AV × Heap) := match vs, h with
  | [.ro (.ints .i64 K) cap, .ptr 0 0 0, .ptr 1 0 0, .val (.int .i64 (.ofNat 0))], ⟨2, [⟨1, 0, .cells (.rows true 3 [[.val (.int .i64 (.ofNat 0)), .val (.slice none 0 0), .val (.slice none 0 0)]])⟩, ⟨0, 0, .cells (.rows true 3 z)⟩]⟩ =>
    .grd (Nat.ble K.length 9223372036854775807) (.br (K.any badK) (.out (.ret, [.ro (.ints .i64 K) cap, .ptr 0 0 0, .ptr 1 0 0, .val (.int .i64 1)], Try.H36 z)) (.out (.exit 0, [.ro (.ints .i64 K) cap, .ptr 0 0 0, .ptr 1 0 0, .unk], Try.H36 z)))
  | _, _ => .no
def Try.L36 : LSum := toLSum 40 [1,2,4,6] [1,2,4,5] Try.f36L
end
theorem Try.l36 : ∀ s e s', s.h.ok → (Try.L36 s).run = some (e, s') → Triple Try.prog (.loop Try.b36) s e s' := by
  refine loop_lawW Try.e36 (d := 5) (g := 36) (ls := lsumsOf []) (c := Try.b36) trivial 40 [1,2,4,6] [1,2,4,5] (T := Option Nat × List Int × List (List AV) × Nat)
    (fun t => Try.V36 t.1 t.2.1 t.2.2.2) (fun t => Try.H36 t.2.2.1) (fun t => t.2.1.length ≤ 9223372036854775807 ∧ t.2.2.2 ≤ t.2.1.length ∧ ∀ e ∈ t.2.1.take t.2.2.2, badK e = false) (fun t => t.2.1.length - t.2.2.2)
    (fun t => bif t.2.1.any badK then (.ret, [.ro (.ints .i64 t.2.1) t.1, .ptr 0 0 0, .ptr 1 0 0, .val (.int .i64 1)], Try.H36 t.2.2.1) else (.exit 0, [.ro (.ints .i64 t.2.1) t.1, .ptr 0 0 0, .ptr 1 0 0, .unk], Try.H36 t.2.2.1)) Try.f36L ?_ (fun t _ => two_ok _ _) ?_
  · intro vs h e vo h' hok hf
    unfold Try.f36L at hf
    split at hf
    · rename_i K cap z
      rw [Ans.run_grd] at hf
      cases hb : Nat.ble K.length 9223372036854775807 with
      | false => rw [hb] at hf; cases hf
      | true =>
      rw [hb, cond_true, Ans.run_br] at hf
      rw [Nat.ble_eq] at hb
      refine ⟨(cap, K, z, 0), ⟨hb, Nat.zero_le _, fun e he => by simp at he⟩, Weak.refl (two_ok _ _), ?_⟩
      simp only
      cases hq : K.any badK with
      | true => rw [hq] at hf; injection hf with hf
      | false => rw [hq] at hf; injection hf with hf
    · cases hf
  · rintro ⟨cap, K, z, k⟩ ⟨hl, hk, hpre⟩
    simp only at hl hk hpre
    have key := Try.r36 cap K z k
    by_cases h : k < K.length
    · rw [declt_nat, inR_nat, decide_eq_true h, wrapT k (by omega)] at key
      cases hbad : badK (K.getD k 0) with
      | true =>
        obtain ⟨q1, q2⟩ := findIdx_at (d := 0) h hpre hbad
        refine .inr ?_
        simp only [q1, cond_true']
        refine ⟨_, key.trans ?_, Weak.refl (two_ok _ _), by simp⟩
        simp only [badK] at hbad
        by_cases a1 : K.getD k 0 < 0
        · rw [decide_eq_true a1]; rfl
        · rw [decide_eq_false a1] at hbad ⊢
          rw [Bool.false_or] at hbad
          rw [hbad]; rfl
      | false =>
        have hb' := hbad
        simp only [badK, Bool.or_eq_false_iff] at hbad
        obtain ⟨a1, a2⟩ := hbad
        rw [a1, a2] at key
        exact .inl ⟨(cap, K, z, k + 1), _, key, Weak.refl (two_ok _ _), ⟨hl, h, take_succ_all (d := 0) h hpre hb'⟩, by show K.length - (k + 1) < K.length - k; omega, rfl⟩
    · have : k = K.length := by omega
      subst this
      have q := none_any hpre
      rw [declt_nat, decide_eq_false h] at key
      refine .inr ?_
      simp only [q, cond_false']
      exact ⟨_, key, Weak.refl (two_ok _ _), by simp⟩
theorem Try.w36 (cap : Option Nat) (K : List Int) (N : Int) (B : List Int) (P : List SwD) : rootS Try.E36 5 36 (lsumsOf [(6, Try.L36)]) [devA N B P, .ro (.ints .i64 K) cap] =
      bif okSW (SW.con P) then
       bif isDevB N B (SW.list (SW.con P)) then
        bif decide ((↑K.length : Int) > (↑P.length : Int)) then
         some (.tup [.agg [.val (.int .i64 (0)), .val (.slice none 0 0), .val (.slice none 0 0)], .val (.int .i64 (1))], ⟨0, []⟩)
        else
         bif K.length.ble 9223372036854775807 then
          bif K.any badK then
           some (.tup [.agg [.val (.int .i64 (0)), .val (.slice none 0 0), .val (.slice none 0 0)], .val (.int .i64 (1))], ⟨0, []⟩)
          else
           bif okSW (SW.con P) && (isDevB N B (SW.list (SW.con P)) && !K.any badK) then
            some (.tup [.agg [.val (.int .i64 (N)), .own 0 (0) ((settleN (manyK K) (SW.list (SW.con P)) B (SW.list (SW.con P)).length).length) none 1, .val (.slice none 0 0)], .val (.int .i64 (0))], ⟨1, [⟨0, 0, .cells (.ints .u8 (settleN (manyK K) (SW.list (SW.con P)) B (SW.list (SW.con P)).length))⟩]⟩)
           else
            none
         else
          none
       else
        some (.tup [.agg [.val (.int .i64 (0)), .val (.slice none 0 0), .val (.slice none 0 0)], .val (.int .i64 (400))], ⟨0, []⟩)
      else
       none := by kernel_rfl
theorem Try.al36 (cap : Option Nat) (K : List Int) (N : Int) (B : List Int) (P : List SwD) (ok : okSW (SW.con P) = true) (hK : Nat.ble K.length 9223372036854775807 = true) : Alone Try.prog 36 [devA N B P, .ro (.ints .i64 K) cap] (outDE (failD (N, B, P) K)) ⟨0, []⟩ := by
  have run := fun v h2 => rootS_alone Try.e36 (d := 5) (g := 36) (ls := lsumsOf [(6, Try.L36)]) (AllL.of1 (a := Try.b36) (by kernel_rfl) (LsOk.of rfl rfl Try.l36)) (args := [devA N B P, .ro (.ints .i64 K) cap]) (v := v) (h2 := h2)
  have key := Try.w36 cap K N B P
  unfold failD isDevD
  simp only
  rw [ok, SW_list_con, hK] at key
  cases hd : isDevB N B P with
  | false =>
    rw [hd] at key
    exact Alone.resW (noDev_aw 400) (run _ _ key)
  | true =>
    rw [hd] at key
    rw [cond_true, cond_orB]
    simp only [cond_true'] at key
    cases hm : decide ((K.length : Int) > (P.length : Int)) with
    | true => rw [hm] at key; exact Alone.resW (noDev_aw 1) (run _ _ key)
    | false =>
      rw [hm] at key
      cases hb : K.any badK with
      | true => rw [hb] at key; exact Alone.resW (noDev_aw 1) (run _ _ key)
      | false => rw [hb] at key; exact devOwn _ (run _ _ key)
theorem Try.sum36 : SumC Try.prog 36 Try.A25 := by
  refine roSumR 36 ⟨Try.f36, _, Try.fnOk36.1, Try.fnOk36.2, rfl⟩ ?_
  intro args v h2 hs
  replace hs : (Try.S25 (nzDK args)).run = some (v, h2) := hs
  have fin : Alone Try.prog 36 (nzDK args) v h2 ∧ ∀ e ∈ h2.es, ∃ k, e.blk = .cells k := by
    generalize nzDK args = args' at hs ⊢
    unfold Try.S25 at hs
    split at hs
    · rename_i N B cap c cap' K cap2
      rw [Ans.run_grd] at hs
      cases hb : (okSW c && Nat.ble K.length 9223372036854775807) with
      | false => rw [hb] at hs; cases hs
      | true =>
        rw [hb, cond_true] at hs
        rw [Bool.and_eq_true] at hb
        injection hs with hs
        injection hs with q1 q2
        subst q1; subst q2
        refine ⟨Alone.argsW (args' := [devA N B (SW.list c), .ro (.ints .i64 K) cap2]) ?_ (Try.al36 cap2 K N B (SW.list c) (okSW_con hb.1) hb.2), fun e he => by cases he⟩
        exact AWs.args (.cons (AW.agg (.cons (AW.refl _) (.cons (AW.cap _ _) (.cons (SW.aw (okSW_some hb.1).1 _) .nil)))) (AWs.refl _))
    · cases hs
  exact ⟨fin.2, fin.1.argsW (nzDK_aw args)⟩
/-! SameDevice -/
noncomputable section
def Try.E26 : Env := Try.env0 false (sumsOf []) (keepF 26 [(4, [2,3,5])])
def Try.b26 : Code := nthD .skip (loopsOf (bodyOf Try.E26 26)) 0
def Try.B26 (s : St) : Option (AX × St) := codeS Try.E26 (callF Try.E26 5) (Try.E26.keep 26) (lsumsOf []) Try.b26 (outK [2,3,5] [4]) s
def Try.V26 (k : Nat) : List AV := [.ptr 0 0 0, .ptr 1 0 0, .val (.int .i64 k)]
def Try.H26 (N M : Int) (x y : AV) (P Q : List SwD) : Heap := ⟨2, [⟨1, 0, .cells (box1 M y (.ro (SW.con Q) none))⟩, ⟨0, 0, .cells (box1 N x (.ro (SW.con P) none))⟩]⟩
end
theorem Try.r26 (N M : Int) (x y : AV) (P Q : List SwD) (k : Nat) : Try.B26 (stOf 66 [2,3,5] (Try.V26 k) (Try.H26 N M x y P Q)) =
      bif decide ((↑k : Int) < (↑P.length : Int)) then
       bif inR (↑k : Int) P.length then
        bif inR (↑k : Int) Q.length then
         bif (P.getD k SW.z).fst != (Q.getD k SW.z).fst then
          some (.ret, stOf 66 [4] [.val (.bool false)] ⟨0, []⟩ )
         else
          bif inR (↑k : Int) P.length then
           bif inR (↑k : Int) Q.length then
            bif !(strOf (P.getD k SW.z).snd).toList == (strOf (Q.getD k SW.z).snd).toList then
             some (.ret, stOf 66 [4] [.val (.bool false)] ⟨0, []⟩ )
            else
             some (.normal, stOf 66 [2, 3, 5] [.ptr 0 (0) 0, .ptr 1 (0) 0, .val (.int .i64 (IntKind.i64.wrap ((↑k : Int) + 1)))] ⟨2, [⟨1, 0, .cells (.rows true 3 ([.val (.int .i64 (M)), «y», .ro (.tab 2 (Q.length) (fun i => SW.row (Q.getD i SW.z))) none] :: []))⟩, ⟨0, 0, .cells (.rows true 3 ([.val (.int .i64 (N)), «x», .ro (.tab 2 (P.length) (fun i => SW.row (P.getD i SW.z))) none] :: []))⟩]⟩ )
           else
            none
          else
           none
        else
         none
       else
        none
      else
       some (.exit 0, stOf 66 [] [] ⟨0, []⟩ ) := by kernel_rfl
noncomputable section
def sameW (a b : SwD) : Bool := !(a.1 != b.1) && (strOf a.2).toList == (strOf b.2).toList
def sameTo (P Q : List SwD) (k : Nat) : Bool := Nat.rec true (fun k ih => ih && sameW (P.getD k SW.z) (Q.getD k SW.z)) k
def Try.f26L (vs : List AV) (h : Heap) : Ans (AX × List AV × Heap) := match vs, h with
  | [.ptr 0 0 0, .ptr 1 0 0, .val (.int .i64 (.ofNat 0))], ⟨2, [⟨1, 0, .cells (.rows true 3 [[.val (.int .i64 M), y, .ro c' cap']])⟩, ⟨0, 0, .cells (.rows true 3 [[.val (.int .i64 N), x, .ro c cap]])⟩]⟩ =>
    .grd ((c.len : Int) == (c'.len : Int) && (okSW c && okSW c')) (.br (sameTo (SW.list c) (SW.list c') (SW.list c).length) (.out (.exit 0, [.unk], ⟨0, []⟩)) (.out (.ret, [.val (.bool false)], ⟨0, []⟩)))
  | _, _ => .no
def Try.L26 : LSum := toLSum 66 [2,3,5] [4] Try.f26L
end
theorem Try.e26 : EnvOk2 Try.prog Try.E26 := Try.envOk false (sumsOf []) _ (fun g A h => by cases h)
theorem sameTo_f {P Q : List SwD} {k : Nat} (h : sameW (P.getD k SW.z) (Q.getD k SW.z) = false) : ∀ n, k < n → sameTo P Q n = false
  | 0, hk => by omega
  | n + 1, hk => by
    show (sameTo P Q n && sameW (P.getD n SW.z) (Q.getD n SW.z)) = false
    rcases Nat.lt_or_ge k n with q | q
    · rw [sameTo_f h n q]; rfl
    · have : n = k := by omega
      subst this
      rw [h, Bool.and_false]
theorem Try.l26 : ∀ s e s', s.h.ok → (Try.L26 s).run = some (e, s') → Triple Try.prog (.loop Try.b26) s e s' := by
  refine loop_lawW Try.e26 (d := 5) (g := 26) (ls := lsumsOf []) (c := Try.b26) trivial 66 [2,3,5] [4] (T := (Int × Int) × (AV × AV) × List SwD × List SwD × Nat)
    (fun t => Try.V26 t.2.2.2.2) (fun t => Try.H26 t.1.1 t.1.2 t.2.1.1 t.2.1.2 t.2.2.1 t.2.2.2.1) (fun t => (t.2.2.1.length ≤ 9223372036854775807 ∧ t.2.2.1.length = t.2.2.2.1.length) ∧ t.2.2.2.2 ≤ t.2.2.1.length ∧ sameTo t.2.2.1 t.2.2.2.1 t.2.2.2.2 = true) (fun t => t.2.2.1.length - t.2.2.2.2)
    (fun t => bif sameTo t.2.2.1 t.2.2.2.1 t.2.2.1.length then (.exit 0, [.unk], ⟨0, []⟩) else (.ret, [.val (.bool false)], ⟨0, []⟩)) Try.f26L ?_ (fun t _ => two_ok _ _) ?_
  · intro vs h e vo h' hok hf
    unfold Try.f26L at hf
    split at hf
    · rename_i M y c' cap' N x c cap
      rw [Ans.run_grd] at hf
      cases hb : ((c.len : Int) == (c'.len : Int) && (okSW c && okSW c')) with
      | false => rw [hb] at hf; cases hf
      | true =>
      rw [hb, cond_true, Ans.run_br] at hf
      simp only [Bool.and_eq_true, beq_iff_eq] at hb
      obtain ⟨h1, h2, h3⟩ := hb
      refine ⟨((N, M), (x, y), SW.list c, SW.list c', 0), ⟨⟨by rw [SW.list_len]; exact (okSW_some h2).2, by rw [SW.list_len, SW.list_len]; omega⟩, Nat.zero_le _, rfl⟩, ?_, ?_⟩
      · exact Weak.heap (two_ok _ _) (.con 1 0 0 rfl (ConW.one (.cons (AW.refl _) (.cons (AW.refl _) (.cons (SW.aw (okSW_some h3).1 _) .nil)))) (.con 0 0 0 rfl (ConW.one (.cons (AW.refl _) (.cons (AW.refl _) (.cons (SW.aw (okSW_some h2).1 _) .nil)))) (EsW.refl _)))
      · simp only
        cases hq : sameTo (SW.list c) (SW.list c') (SW.list c).length with
        | true => rw [hq] at hf; injection hf with hf
        | false => rw [hq] at hf; injection hf with hf
    · cases hf
  · rintro ⟨⟨N, M⟩, ⟨x, y⟩, P, Q, k⟩ ⟨⟨hl, hpq⟩, hk, hpre⟩
    simp only at hl hpq hk hpre
    have key := Try.r26 N M x y P Q k
    by_cases h : k < P.length
    · rw [declt_nat, inR_nat, inR_nat, decide_eq_true h, decide_eq_true (show k < Q.length by omega), wrapT k (by omega)] at key
      simp only [cond_true'] at key
      cases hs : sameW (P.getD k SW.z) (Q.getD k SW.z) with
      | true =>
        have hs' := hs
        unfold sameW at hs
        rw [Bool.and_eq_true, Bool.not_eq_true'] at hs
        rw [hs.1, hs.2] at key
        refine .inl ⟨((N, M), (x, y), P, Q, k + 1), _, key, Weak.refl (two_ok _ _), ⟨⟨hl, hpq⟩, h, ?_⟩, by show P.length - (k + 1) < P.length - k; omega, rfl⟩
        show (sameTo P Q k && sameW (P.getD k SW.z) (Q.getD k SW.z)) = true
        rw [hpre, hs']; rfl
      | false =>
        have q := sameTo_f hs P.length h
        refine .inr ?_
        simp only [q, cond_false']
        refine ⟨_, key.trans ?_, Weak.refl heap0_ok, by simp⟩
        unfold sameW at hs
        cases h1 : ((P.getD k SW.z).1 != (Q.getD k SW.z).1) with
        | true => rfl
        | false =>
          rw [h1] at hs
          simp only [Bool.not_false, Bool.true_and] at hs
          rw [hs]; rfl
    · have : k = P.length := by omega
      subst this
      rw [declt_nat, decide_eq_false h] at key
      refine .inr ?_
      simp only [hpre, cond_true']
      exact ⟨_, key, Weak.refl heap0_ok, by simp⟩
theorem Try.w26 (N M : Int) (B C : List Int) (P Q : List SwD) : rootS Try.E26 5 26 (lsumsOf [(4, Try.L26)]) [devA N B P, devA M C Q] =
      bif N != M then
       some (.val (.bool false), ⟨0, []⟩)
      else
       bif !(strOf B).toList == (strOf C).toList then
        some (.val (.bool false), ⟨0, []⟩)
       else
        bif (↑P.length : Int) != (↑Q.length : Int) then
         some (.val (.bool false), ⟨0, []⟩)
        else
         bif (↑P.length : Int) == (↑Q.length : Int) && (okSW (SW.con P) && okSW (SW.con Q)) then
          bif sameTo (SW.list (SW.con P)) (SW.list (SW.con Q)) (SW.list (SW.con P)).length then
           some (.val (.bool true), ⟨0, []⟩)
          else
           some (.val (.bool false), ⟨0, []⟩)
         else
          none := by kernel_rfl
noncomputable section
def sameD (d e : DevD) : Bool := !(d.1 != e.1) && ((strOf d.2.1).toList == (strOf e.2.1).toList && (!((d.2.2.length : Int) != (e.2.2.length : Int)) && sameTo d.2.2 e.2.2 d.2.2.length))
def nzDD : List AV → List AV
  | v :: k :: r => nzDev v :: nzDev k :: r
  | l => l
def Try.S26 (args : List AV) : Ans (AV × Heap) := match args with
  | [.agg [.val (.int .i64 N), .ro (.ints .u8 B) cap, .ro c cap'], .agg [.val (.int .i64 N2), .ro (.ints .u8 B2) cap2, .ro c2 cap2']] => .grd (okSW c && okSW c2) (.out (.val (.bool (sameD (N, B, SW.list c) (N2, B2, SW.list c2))), ⟨0, []⟩))
  | _ => .no
def Try.A26 : AFun := roA (fun args => Try.S26 (nzDD args))
end
theorem nzDD_aw (l : List AV) : ArgsW l (nzDD l) := by
  unfold nzDD
  split
  · exact AWs.args (.cons (nzDev_aw _) (.cons (nzDev_aw _) (AWs.refl _)))
  · exact fun _ _ _ h => h
theorem sameTo_refl (P : List SwD) : ∀ n, sameTo P P n = true
  | 0 => rfl
  | n + 1 => by
    show (sameTo P P n && sameW (P.getD n SW.z) (P.getD n SW.z)) = true
    rw [sameTo_refl P n]
    simp [sameW]
theorem sameD_refl (d : DevD) : sameD d d = true := by
  unfold sameD
  rw [sameTo_refl]
  simp
theorem Try.al26 (N M : Int) (B C : List Int) (P Q : List SwD) (ok1 : okSW (SW.con P) = true) (ok2 : okSW (SW.con Q) = true) : Alone Try.prog 26 [devA N B P, devA M C Q] (.val (.bool (sameD (N, B, P) (M, C, Q)))) ⟨0, []⟩ := by
  refine rootS_alone Try.e26 (d := 5) (g := 26) (ls := lsumsOf [(4, Try.L26)]) (AllL.of1 (a := Try.b26) (by kernel_rfl) (LsOk.of rfl rfl Try.l26)) ((Try.w26 N M B C P Q).trans ?_)
  unfold sameD
  rw [ok1, ok2, SW_list_con, SW_list_con]
  simp only
  cases h1 : (N != M) with
  | true => rfl
  | false =>
    cases h2 : ((strOf B).toList == (strOf C).toList) with
    | false => rfl
    | true =>
      cases h3 : ((P.length : Int) != (Q.length : Int)) with
      | true => rfl
      | false =>
        rw [bne, Bool.not_eq_false'] at h3
        rw [h3]
        cases sameTo P Q P.length <;> rfl
theorem Try.sum26 : SumC Try.prog 26 Try.A26 := by
  refine roSumR 26 ⟨Try.f26, _, Try.fnOk26.1, Try.fnOk26.2, rfl⟩ ?_
  intro args v h2 hs
  replace hs : (Try.S26 (nzDD args)).run = some (v, h2) := hs
  have fin : Alone Try.prog 26 (nzDD args) v h2 ∧ ∀ e ∈ h2.es, ∃ k, e.blk = .cells k := by
    generalize nzDD args = args' at hs ⊢
    unfold Try.S26 at hs
    split at hs
    · rename_i N B cap c cap' N2 B2 cap2 c2 cap2'
      rw [Ans.run_grd] at hs
      cases hb : (okSW c && okSW c2) with
      | false => rw [hb] at hs; cases hs
      | true =>
        rw [hb, cond_true] at hs
        rw [Bool.and_eq_true] at hb
        injection hs with hs
        injection hs with q1 q2
        subst q1; subst q2
        refine ⟨Alone.argsW (args' := [devA N B (SW.list c), devA N2 B2 (SW.list c2)]) ?_ (Try.al26 N N2 B B2 _ _ (okSW_con hb.1) (okSW_con hb.2)), fun e he => by cases he⟩
        exact AWs.args (.cons (AW.agg (.cons (AW.refl _) (.cons (AW.cap _ _) (.cons (SW.aw (okSW_some hb.1).1 _) .nil)))) (.cons (AW.agg (.cons (AW.refl _) (.cons (AW.cap _ _) (.cons (SW.aw (okSW_some hb.2).1 _) .nil)))) .nil))
    · cases hs
  exact ⟨fin.2, fin.1.argsW (nzDD_aw args)⟩
end Go.Ev

/- Loops, from one state alone. -/
set_option linter.unusedVariables false
namespace Go.Ev
noncomputable section
def propB (p : Prop) : Bool := @decide p (Classical.propDecidable _)
def isSt (s s0 : St) : Bool := @decide (s = s0) (Classical.propDecidable _)
/-- What a loop does from one state. -/
def atL (s0 : St) (A : Ans (AX × St)) : LSum := fun s => .grd (isSt s s0) A
end
theorem propB_eq {p : Prop} : propB p = true → p := fun h => @of_decide_eq_true _ (Classical.propDecidable _) h
theorem propB_t {p : Prop} (h : p) : propB p = true := @decide_eq_true _ (Classical.propDecidable _) h
theorem isSt_eq {s s0 : St} : isSt s s0 = true → s = s0 := fun h => @of_decide_eq_true _ (Classical.propDecidable _) h
theorem isSt_refl (s : St) : isSt s s = true := @decide_eq_true _ (Classical.propDecidable _) rfl
theorem atL_some {s0 s : St} {A : Ans (AX × St)} {r : AX × St} (h : (atL s0 A s).run = some r) : s = s0 ∧ A.run = some r := by
  unfold atL at h
  rw [Ans.run_grd] at h
  cases hs : isSt s s0 with
  | false => rw [hs] at h; cases h
  | true => rw [hs, cond_true] at h; exact ⟨isSt_eq hs, h⟩
theorem loop_at {P : Program} {env : Env} (he : EnvOk2 P env) {d g : Nat} {ls : Nat → Option LSum} {c : Code} (hin : AllL (LsOk P ls) (loopsOf c)) (ks ko : List Nat) {T : Type} (S : T → St) (Inv : T → Prop) (m : T → Nat) (fin : T → AX × St)
    (s0 : St) (A : Ans (AX × St)) (x0 : T) (hi : Inv x0) (hw : Weak s0 (S x0)) (hA : ∀ e s', A.run = some (e, s') → fin x0 = (e, s'))
    (hok : ∀ x, Inv x → (S x).h.ok)
    (hb : ∀ x, Inv x → (∃ x' s1, codeS env (callF env d) (env.keep g) ls c (outK ks ko) (S x) = some (.normal, s1) ∧ Weak s1 (S x') ∧ Inv x' ∧ m x' < m x ∧ fin x' = fin x) ∨
      (∃ s1, codeS env (callF env d) (env.keep g) ls c (outK ks ko) (S x) = some ((fin x).1, s1) ∧ Weak s1 (fin x).2 ∧ (fin x).1 ≠ .normal)) :
    ∀ s e s', s.h.ok → (atL s0 A s).run = some (e, s') → Triple P (.loop c) s e s' := by
  intro s e s' hk hL
  obtain ⟨rfl, hA2⟩ := atL_some hL
  have hX := codeS_sound (ρ := AX × St) (callF_sound he d) he.ok he.mix (env.keep g) ls c hin
  have key := loop_tripleW hX ks ko S Inv m fin hok hb x0 hi
  rw [hA _ _ hA2] at key
  exact Triple.weak hw key
theorem lookS_fz {id : Nat} {con : Con} (i : Nat) : ∀ {ks : List Nat} {vs vs' : List AV}, FzL id con vs vs' → FzV id con (lookS i ks vs) (lookS i ks vs')
  | [], _, _, h => by cases h <;> exact .inl rfl
  | k :: ks, _, _, .nil => .inl rfl
  | k :: ks, _, _, .cons h1 h2 => by
    show FzV id con (bif _ then _ else _) (bif _ then _ else _)
    cases Nat.beq k i
    · exact lookS_fz i h2
    · exact h1
theorem placeL_fz {id : Nat} {con : Con} {ks : List Nat} {vs vs' : List AV} (h : FzL id con vs vs') : ∀ n i, FzL id con (placeL ks vs n i) (placeL ks vs' n i)
  | 0, _ => .nil
  | n + 1, i => .cons (lookS_fz i h) (placeL_fz h n (i + 1))
theorem atL_grd {P : Program} {c : Code} {s0 : St} {b : Bool} {A : Ans (AX × St)} (h : b = true → ∀ s e s', s.h.ok → (atL s0 A s).run = some (e, s') → Triple P (.loop c) s e s') : ∀ s e s', s.h.ok → (atL s0 (.grd b A) s).run = some (e, s') → Triple P (.loop c) s e s' := by
  intro s e s' hk hL
  obtain ⟨rfl, h2⟩ := atL_some hL
  rw [Ans.run_grd] at h2
  cases b with
  | false => cases h2
  | true =>
    refine h rfl _ e s' hk ?_
    unfold atL
    rw [Ans.run_grd, isSt_refl]
    exact h2
/-- The topmost block of a state is frozen. -/
theorem Weak.fzS {t t' : List AV} {con : Con} {n id : Nat} {es : List Ent} (hk : (⟨n, ⟨id, 0, .cells con⟩ :: es⟩ : Heap).ok) (hp : con.pureF = true) (hv : FzL id con t t') : Weak ⟨t, [], ⟨n, ⟨id, 0, .cells con⟩ :: es⟩⟩ ⟨t', [], ⟨n, es⟩⟩ := by
  have hu := hk.uniq
  unfold Uniq at hu
  rw [List.map_cons, List.nodup_cons] at hu
  have hne : ∀ j b, (⟨n, es⟩ : Heap).G j = some b → j ≠ id := by
    intro j b hj e
    subst e
    simp only [Heap.G, Option.map_eq_some_iff] at hj
    obtain ⟨e0, he, _⟩ := hj
    refine hu.1 (List.mem_map.2 ⟨e0, findE_some_mem he, findE_id he⟩)
  have hsame : ∀ j, j ≠ id → findE (⟨id, 0, .cells con⟩ :: es) j = findE es j := by
    intro j hj
    rw [findE_cons, if_neg (fun e => hj e.symm)]
  refine Weak.freezeX (s := ⟨t, [], ⟨n, ⟨id, 0, .cells con⟩ :: es⟩⟩) hk id con ?_ hp ⟨hu.2, fun j e hj => ?_⟩ (Nat.le_refl _) (fun w c c2 us hx h => hv.rel hx h) (fun j b' hj => ?_)
  · show (findE (⟨id, 0, .cells con⟩ :: es) id).map (·.blk) = _
    rw [findE_cons, if_pos rfl]; rfl
  · have h1 : (⟨n, es⟩ : Heap).G j = some e.blk := by simp [Heap.G, hj]
    exact hk.lt j e (by rw [hsame j (hne j _ h1)]; exact hj)
  · refine ⟨hne j b' hj, .inl ?_⟩
    show (findE _ j).map _ = _
    rw [hsame j (hne j _ hj)]; exact hj
theorem Weak.fzSt {m : Nat} {ks : List Nat} {vs vs' : List AV} {con : Con} {n id : Nat} {es : List Ent} (hk : (⟨n, ⟨id, 0, .cells con⟩ :: es⟩ : Heap).ok) (hp : con.pureF = true) (hv : FzL id con vs vs') : Weak (stOf m ks vs ⟨n, ⟨id, 0, .cells con⟩ :: es⟩) (stOf m ks vs' ⟨n, es⟩) :=
  Weak.fzS hk hp (placeL_fz hv m 0)
theorem AW.unk (v : AV) : AW v .unk := fun _ _ _ _ => .unk _
/-! ### A block is frozen, also where other blocks lead to it -/
inductive EsFz (id : Nat) (con : Con) : List Ent → List Ent → Prop
  | nil : EsFz id con [] []
  | skip {es es' : List Ent} : EsFz id con es es' → EsFz id con (⟨id, 0, .cells con⟩ :: es) es'
  | same {es es' : List Ent} (e : Ent) (hn : Nat.beq e.id id = false) : EsFz id con es es' → EsFz id con (e :: es) (e :: es')
  | row {es es' : List Ent} (i v : Nat) {k k' : Con} (hn : Nat.beq i id = false) (hp : k'.pureF = false → k.pureF = false) (hz : FzC id con k k') : EsFz id con es es' → EsFz id con (⟨i, v, .cells k⟩ :: es) (⟨i, v, .cells k'⟩ :: es')
theorem EsFz.find {id : Nat} {con : Con} {es es' : List Ent} (h : EsFz id con es es') : ∀ j e', findE es' j = some e' → j ≠ id ∧ ∃ e, findE es j = some e ∧ (e.blk = e'.blk ∨ ∃ k k', e.blk = .cells k ∧ e'.blk = .cells k' ∧ (k'.pureF = false → k.pureF = false) ∧ FzC id con k k') := by
  induction h with
  | nil => intro j e' h; cases h
  | skip h ih =>
    intro j e' hj
    obtain ⟨q1, e, q2, q3⟩ := ih j e' hj
    refine ⟨q1, e, ?_, q3⟩
    rw [findE_cons, if_neg (fun q => q1 q.symm)]
    exact q2
  | same e hn h ih =>
    intro j e' hj
    rw [findE_cons] at hj
    split at hj
    · rename_i hq
      injection hj with hj
      subst hj
      refine ⟨?_, e, by rw [findE_cons, if_pos hq], .inl rfl⟩
      rw [← hq]
      exact fun q => by rw [q, Nat.beq_refl] at hn; cases hn
    · rename_i hq
      obtain ⟨q1, e2, q2, q3⟩ := ih j e' hj
      exact ⟨q1, e2, by rw [findE_cons, if_neg hq]; exact q2, q3⟩
  | row i v hn hp hz h ih =>
    intro j e' hj
    rw [findE_cons] at hj
    split at hj
    · rename_i hq
      injection hj with hj
      subst hj
      refine ⟨?_, _, by rw [findE_cons, if_pos hq], .inr ⟨_, _, rfl, rfl, hp, hz⟩⟩
      have hq' : i = j := hq
      rw [← hq']
      exact fun q => by rw [q, Nat.beq_refl] at hn; cases hn
    · rename_i hq
      obtain ⟨q1, e2, q2, q3⟩ := ih j e' hj
      exact ⟨q1, e2, by rw [findE_cons, if_neg hq]; exact q2, q3⟩
theorem EsFz.sub {id : Nat} {con : Con} {es es' : List Ent} (h : EsFz id con es es') : (es'.map (·.id)).Sublist (es.map (·.id)) := by
  induction h with
  | nil => exact List.Sublist.slnil
  | skip h ih => exact List.Sublist.cons _ ih
  | same e hn h ih => exact List.Sublist.cons_cons _ ih
  | row i v hn hp hz h ih => exact List.Sublist.cons_cons _ ih
theorem Weak.fzH {t t' : List AV} {con : Con} {n id : Nat} {es es' : List Ent} (hk : (⟨n, es⟩ : Heap).ok) (hp : con.pureF = true) (hid : (⟨n, es⟩ : Heap).G id = some (.cells con))
    (ht : ∀ w c c2 us, (∀ v v' u, FzV id con v v' → VR w c v u → VR w c2 v' u) → VRs w c t us → VRs w c2 t' us) (he : EsFz id con es es') : Weak ⟨t, [], ⟨n, es⟩⟩ ⟨t', [], ⟨n, es'⟩⟩ := by
  have hG : ∀ j b', (⟨n, es'⟩ : Heap).G j = some b' → j ≠ id ∧ ((⟨n, es⟩ : Heap).G j = some b' ∨ ∃ k k', (⟨n, es⟩ : Heap).G j = some (.cells k) ∧ b' = .cells k' ∧ (k'.pureF = false → k.pureF = false) ∧ FzC id con k k') := by
    intro j b' hj
    simp only [Heap.G, Option.map_eq_some_iff] at hj
    obtain ⟨e', h1, rfl⟩ := hj
    obtain ⟨q1, e, q2, q3⟩ := he.find j e' h1
    refine ⟨q1, ?_⟩
    rcases q3 with q3 | ⟨k, k', q3, q4, q5, q6⟩
    · exact .inl (by simp [Heap.G, q2, q3])
    · exact .inr ⟨k, k', by simp [Heap.G, q2, q3], q4, q5, q6⟩
  refine Weak.freezeX (s := ⟨t, [], ⟨n, es⟩⟩) hk id con hid hp ⟨List.Nodup.sublist he.sub hk.uniq, fun j e' hj => ?_⟩ (Nat.le_refl _) ht hG
  obtain ⟨q1, e, q2, q3⟩ := he.find j e' hj
  exact hk.lt j e q2
theorem Weak.fzHs {m : Nat} {ks : List Nat} {vs vs' : List AV} {con : Con} {n id : Nat} {es es' : List Ent} (hk : (⟨n, es⟩ : Heap).ok) (hp : con.pureF = true) (hid : (⟨n, es⟩ : Heap).G id = some (.cells con)) (hv : FzL id con vs vs') (he : EsFz id con es es') : Weak (stOf m ks vs ⟨n, es⟩) (stOf m ks vs' ⟨n, es'⟩) :=
  Weak.fzH hk hp hid (fun w c c2 us hx h => (placeL_fz hv m 0).rel hx h) he
/-- An answer, a block of which is frozen. -/
theorem Alone.fzA {P : Program} {g : Nat} {args : List AV} {v v' v2 : AV} {con : Con} {n id : Nat} {es es' : List Ent} {h2 : Heap} (hp : con.pureF = true) (hid : (⟨n, es⟩ : Heap).G id = some (.cells con)) (hv : FzT id con v v') (he : EsFz id con es es')
    (hc : outV v' ⟨n, es'⟩ = some (v2, h2)) (q : Alone P g args v ⟨n, es⟩) : Alone P g args v2 h2 := by
  have w1 : Weak ⟨[v], [], ⟨n, es⟩⟩ ⟨[v'], [], ⟨n, es'⟩⟩ := Weak.fzH q.1 hp hid (fun w c c2 us hx h => by cases h with | cons _ u _ us k1 k2 => exact .cons _ _ _ _ (hv.rel hx k1) (by cases k2; exact .nil)) he
  have w2 := Weak.canon (s := ⟨[v'], [], ⟨n, es'⟩⟩) w1.1 [0]
  have := Alone.outW (v' := getT (canon (some [0]) ⟨[v'], [], ⟨n, es'⟩⟩).t 0) (h3 := (canon (some [0]) ⟨[v'], [], ⟨n, es'⟩⟩).h) (w1.trans w2) q
  unfold outV at hc
  injection hc with hc
  injection hc with h1 h3
  rw [h1, h3] at this
  exact this
/-- One row. -/
theorem FzL.get {id : Nat} {con : Con} : ∀ {l l' : List AV}, FzL id con l l' → ∀ (j : Nat) (v' : AV), l'[j]? = some v' → ∃ v, l[j]? = some v ∧ FzV id con v v'
  | _, _, .nil, j, v', h => by simp at h
  | _, _, .cons h1 h2, 0, v', h => by simp at h; subst h; exact ⟨_, rfl, h1⟩
  | _, _, .cons h1 h2, j + 1, v', h => by obtain ⟨v, e, q⟩ := FzL.get h2 j v' (by simpa using h); exact ⟨v, by simpa using e, q⟩
theorem FzC.one {id : Nat} {con : Con} {p : Bool} {w : Nat} {r r' : List AV} (h : FzL id con r r') : FzC id con (.rows p w [r]) (.rows false w [r']) := by
  refine ⟨rfl, rfl, fun i hi j v' hv => ?_⟩
  have : i = 0 := by simpa [Con.len] using hi
  subst this
  exact ⟨h.get j v' hv, fun q => by cases q⟩
end Go.Ev
