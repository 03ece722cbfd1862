/- JournalCodes, for every input of bulk at most 1048576: the law answers true, and its arguments read as they did. -/
import Derived.Test.YtninaidfifiliaaRows
import Derived.JoinedCond
import Derived.ProofKit
import Derived.Test.YtninaidfifiliaaC6
set_option linter.unusedSimpArgs false
set_option linter.unusedVariables false
set_option linter.unusedSectionVars false
/- JournalCodes, for every input of bulk at most 1048576: the law answers true, and its arguments read as they did. -/
set_option linter.unusedVariables false
set_option linter.unusedSimpArgs false
set_option maxRecDepth 100000
namespace Go.Ev
open Go.Proofs
/-! ### Bulk -/
section
variable {H : Type}
open Go.Proofs.Ytninaidfifiliaa
theorem bulk_one (d : DataW H) : 1 ≤ Rows.uptoBulk d := by
  cases d with
  | lit l => cases l <;> simp [Rows.uptoBulk]
  | _ => simp [Rows.uptoBulk]
theorem bulk_length : ∀ l : List (DataW H), l.length ≤ Rows.uptoBulkAll l
  | [] => Nat.zero_le _
  | d :: l => by have := bulk_one d; have := bulk_length l; simp only [Rows.uptoBulkAll, List.length_cons]; omega
theorem bulk_elems (d : DataW H) : Rows.uptoBulkAll (elemsD d) ≤ Rows.uptoBulk d := by
  cases d <;> simp [elemsD, Rows.uptoBulkAll, Rows.uptoBulk]; omega
theorem bulk_parts (d : DataW H) : Rows.uptoBulkAll (partsD d) ≤ Rows.uptoBulk d := by
  cases d <;> simp [partsD, Rows.uptoBulkAll, Rows.uptoBulk]
theorem bulk_head (l : List (DataW H)) : Rows.uptoBulk (l.headD .nil) ≤ Rows.uptoBulkAll l + 1 := by
  cases l <;> simp [Rows.uptoBulkAll, Rows.uptoBulk]; omega
theorem bulk_tail (l : List (DataW H)) : Rows.uptoBulkAll l.tail ≤ Rows.uptoBulkAll l := by
  cases l <;> simp [Rows.uptoBulkAll]
end

/-! ### Entries, out of what is read -/
noncomputable section
abbrev turnSh : Sh := .agg [.int .i64, .int .i64, .int .i64]
abbrev bytesSh : Sh := .sl (.int .u8)
abbrev entSh : Sh := .agg [.int .i64, turnSh, bytesSh]
section
variable {H : Type}
def bytesD (d : DataW H) : List Int := (elemsD d).map intD
def tl1 (l : List (DataW H)) : DataW H := l.tail.headD .nil
def tl2 (l : List (DataW H)) : DataW H := l.tail.tail.headD .nil
def entD (d : DataW H) : EntD := (intD ((partsD d).headD .nil), intD ((partsD (tl1 (partsD d))).headD .nil), intD (tl1 (partsD (tl1 (partsD d)))), intD (tl2 (partsD (tl1 (partsD d)))), bytesD (tl2 (partsD d)))
end
end
section
variable {H : Type}
theorem avs_ent (d : DataW H) : avs entSh d = entRow (entD d) := rfl
theorem ent_nil : entD (DataW.nil : DataW H) = entZ := rfl
theorem avs_ents (l : List (DataW H)) : Con.tab (Sh.wd entSh) l.length (fun i => avs entSh (l.getD i .nil)) = entC (l.map entD) := by
  unfold entC
  have e : (fun i => avs entSh (l.getD i .nil)) = fun i => entRow ((l.map entD).getD i entZ) := by
    funext i
    rw [avs_ent, List.getD_eq_getElem?_getD, List.getD_eq_getElem?_getD, List.getElem?_map]
    cases l[i]? <;> rfl
  rw [e, List.length_map]; rfl
theorem bytes_wf {d : DataW H} (h : wfD bytesSh d) : bytesOk (bytesD d) = true := by
  unfold bytesOk bytesD
  rw [List.all_eq_true]
  intro x hx
  obtain ⟨y, hy, rfl⟩ := List.mem_map.1 hx
  have := h.2 y hy
  simp only [wfD, Lit.wf, IntKind.min, IntKind.max, IntKind.signed, IntKind.bits] at this
  simp at this
  simp only [Bool.and_eq_true, decide_eq_true_eq]
  omega
theorem argsA_codes (d1 d2 d3 : DataW H) : argsA [entSh, bytesSh, .sl entSh] [d1, d2, d3] = [Try.ent (entD d1).1 (entD d1).2.1 (entD d1).2.2.1 (entD d1).2.2.2.1 (.ro (.ints .u8 (entD d1).2.2.2.2) none), .ro (.ints .u8 (bytesD d2)) none, .ro (entC ((elemsD d3).map entD)) none] := by
  rw [← avs_ents]
  rfl
theorem bulk_bytes (d : DataW H) : (bytesD d).length ≤ Go.Proofs.Ytninaidfifiliaa.Rows.uptoBulk d := by
  unfold bytesD
  rw [List.length_map]
  exact Nat.le_trans (bulk_length _) (bulk_elems d)
theorem bulk_ent (d : DataW H) : (entD d).2.2.2.2.length ≤ Go.Proofs.Ytninaidfifiliaa.Rows.uptoBulk d + 1 := by
  have h1 := bulk_bytes (tl2 (partsD d))
  have h2 := bulk_head (partsD d).tail.tail
  have h3 := bulk_tail (partsD d).tail
  have h4 := bulk_tail (partsD d)
  have h5 := bulk_parts d
  show (bytesD (tl2 (partsD d))).length ≤ _
  unfold tl2 at h1 ⊢
  omega
theorem bulk_in : ∀ l : List (DataW H), (inOf (l.map entD)).length ≤ 2 * Go.Proofs.Ytninaidfifiliaa.Rows.uptoBulkAll l
  | [] => Nat.zero_le _
  | d :: l => by
    have ih := bulk_in l
    have h1 := bulk_ent d
    have h0 := bulk_one d
    show ((bif (entD d).1 == 3 then (entD d).2.2.2.2 else []) ++ inOf (l.map entD)).length ≤ _
    rw [List.length_append]
    simp only [Go.Proofs.Ytninaidfifiliaa.Rows.uptoBulkAll]
    have : (bif (entD d).1 == 3 then (entD d).2.2.2.2 else []).length ≤ (entD d).2.2.2.2.length := by cases (entD d).1 == 3 <;> simp
    omega
end
end Go.Ev

namespace Go.Proofs.Ytninaidfifiliaa
open Go.Ev
theorem Try.ownG : ownKnob Try.prog.godebug = none := by kernel_rfl
theorem Try.kidsG : Kids Try.prog (· < Try.prog.types.size) := kids_rows (by kernel_rfl) (by kernel_rfl)
theorem Try.fullG : ∀ t e, t < Try.prog.types.size → Try.prog.underlying t = some (.slice e) → 0 < Try.prog.cellsOf e := slices_full_of Try.prog (by kernel_rfl)

theorem codes_contract (H : Type) (enc : TypeId × Value → H) (F : Stop.Interp) (W : World) (base : Nat) (args : Array Value) (ds gs : List (DataW H)) (before : List MemPlace)
    (hval : ∀ (j : Nat) t v, Try.f3.params[j]? = some t → args[j]? = some v → Value.okWide Try.prog W .any base t v)
    (hW : DataW.Whole enc Try.prog Try.f3.params.toList Rows.journalCodesSpec.vars false W args.toList ds gs before) (hk : Rows.uptoSmall H (ds ++ gs) = true) :
    Calls Try.prog 3 args W fun e W' => ∃ v, e = .returned v ∧ Rows.journalCodesSpec.post enc Try.prog Try.f3 false true false false W args v W' := by
  have hsh : shsOk Try.prog [entSh, bytesSh, .sl entSh] Try.f3.params.toList = true := by kernel_rfl
  obtain ⟨p, q, hA, hV, _⟩ := id hW
  obtain ⟨hwf, hlen⟩ := args_wf hsh hA
  obtain rfl : gs = [] := by cases gs with | nil => rfl | cons => cases hV
  match ds, hlen with
  | [d1, d2, d3], _ =>
    simp only [wfDL, List.headD_cons, List.tail_cons] at hwf
    obtain ⟨w1, w2, _, _⟩ := hwf
    have hl : bytesOk (entD d1).2.2.2.2 = true := bytes_wf (d := tl2 (partsD d1)) (by simp only [wfD, wfDL] at w1; exact ⟨w1.2.2.1.1, by simp only [wfD]; exact w1.2.2.1.2⟩)
    have hm : bytesOk (bytesD d2) = true := bytes_wf w2
    have hb : Rows.uptoBulkAll [d1, d2, d3] ≤ 1048576 := by
      have := of_decide_eq_true hk
      simpa using this
    have hin : (inOf ((elemsD d3).map entD)).length ≤ 1000000000 := by
      have h1 := bulk_in (elemsD d3)
      have h2 := bulk_elems d3
      simp only [Rows.uptoBulkAll] at hb
      omega
    have law := Try.law3 (entD d1).1 (entD d1).2.1 (entD d1).2.2.1 (entD d1).2.2.2.1 (entD d1).2.2.2.2 (bytesD d2) ((elemsD d3).map entD) hl hm hin
    rw [← argsA_codes] at law
    exact law_calls (b := 4) Try.kidsG Try.fullG (by kernel_rfl) rfl Try.underlying4 (by kernel_rfl) rfl hsh hval hW (rootS_alone Try.e6 (AllL.of0 (by kernel_rfl)) law)

theorem codes_lifted (os : Os) (started : os.Started) (H : Type) (enc : TypeId × Value → H) (F : Stop.Interp) :
    ReturnsInHanded {} Try.checked os 3 .any ((Rows.OpenSpec.upto Rows.journalCodesSpec).pre6 enc Try.prog Try.f3 Rows.journalCodesUptoRow.domain false) (((Rows.OpenSpec.upto Rows.journalCodesSpec).at F).post enc Try.prog Try.f3 false true false false) := by
  refine returnsInHanded_of_cond (C := Try.checked) (s := Rows.OpenSpec.upto Rows.journalCodesSpec) (k := Rows.uptoSmall) rfl Try.ownG started (by kernel_rfl) Try.func3
    (OpenSpec.witness (enc := enc) (C := Try.checked) (s := Rows.OpenSpec.upto Rows.journalCodesSpec) (k := Rows.uptoSmall) rfl false ⟨#[], #[.agg #[.int .i64 0, .int .i64 0, .int .i64 0, .int .i64 0, .slice none 0 0], .slice none 0 0, .slice none 0 0], []⟩ 8 (by kernel_rfl) (by kernel_rfl) (by kernel_rfl)
      (x := ([.agg [.lit (.int .i64 0), .agg [.lit (.int .i64 0), .lit (.int .i64 0), .lit (.int .i64 0)], .nil], .nil, .nil], [], [])) (by kernel_rfl) rfl (by kernel_rfl)) ?_
  intro W base args ds gs before hval hW _ hk _
  exact codes_contract H enc F W base args ds gs before hval hW hk

theorem journalCodes_upto : Rows.JournalCodesUptoSaid :=
  OpenClaim.holds_of_cond 3 Try.f3 rfl rfl rfl rfl rfl rfl rfl ⟨rfl, rfl, rfl, rfl, rfl⟩ rfl rfl rfl rfl rfl (by kernel_rfl) Try.func3 (by kernel_rfl)
    (of_decide_eq_true (by kernel_rfl)) (by unfold Func.isWrapper; first | (rw [if_pos (by decide +kernel)]; kernel_rfl) | (rw [if_neg (by decide +kernel)]; exact ⟨rfl, rfl⟩))
    (fun os started H enc _ F => codes_lifted os started H enc F)
end Go.Proofs.Ytninaidfifiliaa
