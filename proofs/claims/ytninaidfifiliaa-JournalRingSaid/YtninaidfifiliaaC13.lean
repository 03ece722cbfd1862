/- JournalRing, for every input: the law answers true, and its arguments read as they did. -/
import Derived.Test.YtninaidfifiliaaC12
set_option linter.unusedSimpArgs false
set_option linter.unusedVariables false
set_option linter.unusedSectionVars false
/- JournalRing: its loop. -/
set_option linter.unusedVariables false
set_option linter.unusedSimpArgs false
set_option maxRecDepth 100000
namespace Go.Ev
open Go.Proofs
noncomputable section
def Try.M14x (args : List AV) : Ans (AV × Heap) := match args with
  | [.agg [.val (.int .i64 k), .val (.int .i64 a), .val (.int .i64 b), .val (.int .i64 c), .ro (.ints .u8 l) cap]] => .out (.tup [.own 0 0 (encX k a b c l).length none 1, .val (.int .i64 (encE k a b c l.length))], oneH (.ints .u8 (encX k a b c l)))
  | _ => .no
def Try.AR14 : AFun := pureA (fun args => Try.M14x (nzs Try.nzE args))
end
theorem Try.sum14x : SumC Try.prog 14 Try.AR14 := by
  refine pureSumR 14 ⟨Try.f14, _, Try.fnOk14.1, Try.fnOk14.2, rfl⟩ ?_
  intro args v h2 hs
  refine Alone.nz (cs := Try.nzE) (by simp [Try.nzE, Con.len]) ?_
  replace hs : (Try.M14x (nzs Try.nzE args)).run = some (v, h2) := hs
  generalize nzs Try.nzE args = args' at hs ⊢
  unfold Try.M14x at hs
  split at hs
  · rename_i k a b c l cap
    injection hs with hs
    injection hs with q1 q2
    subst q1; subst q2
    unfold encX encE
    cases he : entB k a b c l.length with
    | true =>
      have hb := ent_len he
      have al := fun v h2 hs => rootS_alone Try.e3 (d := 3) (g := 14) (ls := lsumsOf []) (AllL.of0 (by kernel_rfl)) (Try.rs14 [Try.ent k a b c (.ro (.ints .u8 l) cap)] v h2 hs)
      have hrun : (Try.S13 [Try.ent k a b c (.ro (.ints .u8 l) cap)]).run = bif Nat.ble l.length 1000000 then (bif entB k a b c l.length then some (.tup [.own 0 0 (encB k a b c l).length none 1, .val (.int .i64 0)], oneH (.ints .u8 (encB k a b c l))) else some Try.err) else none := rfl
      rw [ble_t (show l.length ≤ 1000000 by omega), cond_true, he] at hrun
      exact al _ _ hrun
    | false =>
      have key := Try.r14 k a b c l cap
      rw [he] at key
      exact Alone.nilW (.ints .u8 []) rfl (.cons .nil (NilWs.refl _ _)) (rootS_alone Try.e3 (d := 3) (g := 14) (ls := lsumsOf []) (AllL.of0 (by kernel_rfl)) key)
  · cases hs
noncomputable section
def Try.tR6 : List (Nat × AFun) := [(12, constA (.bool true)), (14, Try.AR14), (18, Try.A18), (29, Try.A29), (37, Try.A37), (38, Try.A38), (39, Try.A39), (40, Try.A40), (41, Try.A41)]
def Try.ER6 : Env := Try.env0 false (sumsOf Try.tR6) (keepF 6 [(10, [0,7,40,41,42])])
def Try.bR6 : Code := nthD .skip (loopsOf (bodyOf Try.ER6 6)) 0
def Try.BR6 (s : St) : Option (AX × St) := codeS Try.ER6 (callF Try.ER6 5) (Try.ER6.keep 6) (lsumsOf []) Try.bR6 (outK [0,7,40,41,42] [4]) s
def Try.VR6 (n : Int) (l : List EntD) (k : Nat) : List AV := [.val (.int .i64 n), .ptr 0 0 0, .ro (EN.con l) none, .val (.int .i64 l.length), .val (.int .i64 k)]
end
theorem Try.eR6 : EnvOk2 Try.prog Try.ER6 := Try.envOk false (sumsOf Try.tR6) _ (sumsOf_ok (show AllS Try.prog Try.tR6 from ⟨Try.saneSum, Try.sum14x, Try.sum18, Try.sum29, Try.sum37, Try.sum38, Try.sum39, Try.sum40, Try.sum41, trivial⟩))
theorem Try.rR6 (n : Int) (J : JD) (l : List EntD) (k : Nat) : Try.BR6 (stOf 139 [0,7,40,41,42] (Try.VR6 n l k) (oneH (jrC J))) =
      bif decide ((↑k : Int) < (↑l.length : Int)) then
       bif inR (↑k : Int) l.length then
        bif encE (l.getD k EN.z).fst (l.getD k EN.z).snd.fst (l.getD k EN.z).snd.snd.fst (l.getD k EN.z).snd.snd.snd.fst (l.getD k EN.z).snd.snd.snd.snd.length != 0 then
         some (.normal, stOf 139 [0, 7, 40, 41, 42] [.val (.int .i64 (n)), .ptr 0 (0) 0, .ro (.tab 5 (l.length) (fun i => EN.row (l.getD i EN.z))) none, .val (.int .i64 ((↑l.length : Int))), .val (.int .i64 (IntKind.i64.wrap ((↑k : Int) + 1)))] ⟨1, [⟨0, 0, .cells (.rows true 12 ([.val (.int .i64 (J.N)), .ro (.ints .u8 (J.B)) none, .ro (.tab 2 (J.P.length) (fun i => SW.row (J.P.getD i SW.z))) none, .val (.int .i64 (J.gen)), .val (.int .i64 (J.ep)), .val (.bool (J.so)), .val (.int .i64 (J.lim)), .val (.int .i64 (J.st)), .val (.int .i64 (J.ba)), .val (.int .i64 (J.nx)), .ro (.tab 5 (J.L.length) (fun i => EN.row (J.L.getD i EN.z))) none, .ro (.ints .i64 (J.E)) none] :: []))⟩]⟩ )
        else
         bif decide ((↑(encX (l.getD k EN.z).fst (l.getD k EN.z).snd.fst (l.getD k EN.z).snd.snd.fst (l.getD k EN.z).snd.snd.snd.fst (l.getD k EN.z).snd.snd.snd.snd).length : Int) > IntKind.i64.wrap (IntKind.i64.wrap (n - 2) * 46)) then
          some (.normal, stOf 139 [0, 7, 40, 41, 42] [.val (.int .i64 (n)), .ptr 0 (0) 0, .ro (.tab 5 (l.length) (fun i => EN.row (l.getD i EN.z))) none, .val (.int .i64 ((↑l.length : Int))), .val (.int .i64 (IntKind.i64.wrap ((↑k : Int) + 1)))] ⟨1, [⟨0, 0, .cells (.rows true 12 ([.val (.int .i64 (J.N)), .ro (.ints .u8 (J.B)) none, .ro (.tab 2 (J.P.length) (fun i => SW.row (J.P.getD i SW.z))) none, .val (.int .i64 (J.gen)), .val (.int .i64 (J.ep)), .val (.bool (J.so)), .val (.int .i64 (J.lim)), .val (.int .i64 (J.st)), .val (.int .i64 (J.ba)), .val (.int .i64 (J.nx)), .ro (.tab 5 (J.L.length) (fun i => EN.row (J.L.getD i EN.z))) none, .ro (.ints .i64 (J.E)) none] :: []))⟩]⟩ )
         else
          bif okSW (SW.con J.P) && okEN (EN.con J.L) then
           bif (reJ J).L.length.ble 1000000 then
            bif okSW (SW.con J.P) && okEN (EN.con J.L) then
             bif (reJ J).L.length.ble 1000000 then
              bif (roomJ (reJ J)).snd != 0 then
               some (.ret, stOf 139 [4] [.val (.bool false)] ⟨0, []⟩ )
              else
               bif (appJ (reJ J) ((l.getD k EN.z).fst, (l.getD k EN.z).snd.fst, (l.getD k EN.z).snd.snd.fst, (l.getD k EN.z).snd.snd.snd.fst, (l.getD k EN.z).snd.snd.snd.snd)).snd == 0 then
                bif decide ((↑(encX (l.getD k EN.z).fst (l.getD k EN.z).snd.fst (l.getD k EN.z).snd.snd.fst (l.getD k EN.z).snd.snd.snd.fst (l.getD k EN.z).snd.snd.snd.snd).length : Int) ≤ (roomJ (reJ J)).fst) then
                 bif (appJ (reJ J) ((l.getD k EN.z).fst, (l.getD k EN.z).snd.fst, (l.getD k EN.z).snd.snd.fst, (l.getD k EN.z).snd.snd.snd.fst, (l.getD k EN.z).snd.snd.snd.snd)).snd != 0 then
                  bif okSW (SW.con J.P) && okEN (EN.con J.L) then
                   bif (reJ J).L.length.ble 1000000 then
                    bif (trimJ (reJ J) (↑J.L.length : Int)).snd != 0 then
                     some (.ret, stOf 139 [4] [.val (.bool false)] ⟨0, []⟩ )
                    else
                     bif okSW (SW.con (trimJ (reJ J) (↑J.L.length : Int)).fst.P) && okEN (EN.con (trimJ (reJ J) (↑J.L.length : Int)).fst.L) then
                      bif (reJ (trimJ (reJ J) (↑J.L.length : Int)).fst).L.length.ble 1000000 then
                       bif okSW (SW.con (syncJ (reJ (trimJ (reJ J) (↑J.L.length : Int)).fst)).fst.P) && okEN (EN.con (syncJ (reJ (trimJ (reJ J) (↑J.L.length : Int)).fst)).fst.L) then
                        bif (reJ (syncJ (reJ (trimJ (reJ J) (↑J.L.length : Int)).fst)).fst).L.length.ble 1000000 then
                         bif (syncJ (reJ (trimJ (reJ J) (↑J.L.length : Int)).fst)).snd != 0 then
                          some (.ret, stOf 139 [4] [.val (.bool false)] ⟨0, []⟩ )
                         else
                          bif (appJ (reJ (syncJ (reJ (trimJ (reJ J) (↑J.L.length : Int)).fst)).fst) ((l.getD k EN.z).fst, (l.getD k EN.z).snd.fst, (l.getD k EN.z).snd.snd.fst, (l.getD k EN.z).snd.snd.snd.fst, (l.getD k EN.z).snd.snd.snd.snd)).snd != 0 then
                           some (.ret, stOf 139 [4] [.val (.bool false)] ⟨0, []⟩ )
                          else
                           bif okSW (SW.con (appJ (reJ (syncJ (reJ (trimJ (reJ J) (↑J.L.length : Int)).fst)).fst) ((l.getD k EN.z).fst, (l.getD k EN.z).snd.fst, (l.getD k EN.z).snd.snd.fst, (l.getD k EN.z).snd.snd.snd.fst, (l.getD k EN.z).snd.snd.snd.snd)).fst.P) && okEN (EN.con (appJ (reJ (syncJ (reJ (trimJ (reJ J) (↑J.L.length : Int)).fst)).fst) ((l.getD k EN.z).fst, (l.getD k EN.z).snd.fst, (l.getD k EN.z).snd.snd.fst, (l.getD k EN.z).snd.snd.snd.fst, (l.getD k EN.z).snd.snd.snd.snd)).fst.L) then
                            bif (reJ (appJ (reJ (syncJ (reJ (trimJ (reJ J) (↑J.L.length : Int)).fst)).fst) ((l.getD k EN.z).fst, (l.getD k EN.z).snd.fst, (l.getD k EN.z).snd.snd.fst, (l.getD k EN.z).snd.snd.snd.fst, (l.getD k EN.z).snd.snd.snd.snd)).fst).L.length.ble 1000000 then
                             bif (syncJ (reJ (appJ (reJ (syncJ (reJ (trimJ (reJ J) (↑J.L.length : Int)).fst)).fst) ((l.getD k EN.z).fst, (l.getD k EN.z).snd.fst, (l.getD k EN.z).snd.snd.fst, (l.getD k EN.z).snd.snd.snd.fst, (l.getD k EN.z).snd.snd.snd.snd)).fst)).snd != 0 then
                              some (.ret, stOf 139 [4] [.val (.bool false)] ⟨0, []⟩ )
                             else
                              bif (↑(syncJ (reJ (appJ (reJ (syncJ (reJ (trimJ (reJ J) (↑J.L.length : Int)).fst)).fst) ((l.getD k EN.z).fst, (l.getD k EN.z).snd.fst, (l.getD k EN.z).snd.snd.fst, (l.getD k EN.z).snd.snd.snd.fst, (l.getD k EN.z).snd.snd.snd.snd)).fst)).fst.L.length : Int) == 0 then
                               some (.ret, stOf 139 [4] [.val (.bool false)] ⟨0, []⟩ )
                              else
                               bif inR (IntKind.i64.wrap ((↑(syncJ (reJ (appJ (reJ (syncJ (reJ (trimJ (reJ J) (↑J.L.length : Int)).fst)).fst) ((l.getD k EN.z).fst, (l.getD k EN.z).snd.fst, (l.getD k EN.z).snd.snd.fst, (l.getD k EN.z).snd.snd.snd.fst, (l.getD k EN.z).snd.snd.snd.snd)).fst)).fst.L.length : Int) - 1)) (syncJ (reJ (appJ (reJ (syncJ (reJ (trimJ (reJ J) (↑J.L.length : Int)).fst)).fst) ((l.getD k EN.z).fst, (l.getD k EN.z).snd.fst, (l.getD k EN.z).snd.snd.fst, (l.getD k EN.z).snd.snd.snd.fst, (l.getD k EN.z).snd.snd.snd.snd)).fst)).fst.L.length then
                                bif sameB ((syncJ (reJ (appJ (reJ (syncJ (reJ (trimJ (reJ J) (↑J.L.length : Int)).fst)).fst) ((l.getD k EN.z).fst, (l.getD k EN.z).snd.fst, (l.getD k EN.z).snd.snd.fst, (l.getD k EN.z).snd.snd.snd.fst, (l.getD k EN.z).snd.snd.snd.snd)).fst)).fst.L.getD (IntKind.i64.wrap ((↑(syncJ (reJ (appJ (reJ (syncJ (reJ (trimJ (reJ J) (↑J.L.length : Int)).fst)).fst) ((l.getD k EN.z).fst, (l.getD k EN.z).snd.fst, (l.getD k EN.z).snd.snd.fst, (l.getD k EN.z).snd.snd.snd.fst, (l.getD k EN.z).snd.snd.snd.snd)).fst)).fst.L.length : Int) - 1)).toNat EN.z).fst ((syncJ (reJ (appJ (reJ (syncJ (reJ (trimJ (reJ J) (↑J.L.length : Int)).fst)).fst) ((l.getD k EN.z).fst, (l.getD k EN.z).snd.fst, (l.getD k EN.z).snd.snd.fst, (l.getD k EN.z).snd.snd.snd.fst, (l.getD k EN.z).snd.snd.snd.snd)).fst)).fst.L.getD (IntKind.i64.wrap ((↑(syncJ (reJ (appJ (reJ (syncJ (reJ (trimJ (reJ J) (↑J.L.length : Int)).fst)).fst) ((l.getD k EN.z).fst, (l.getD k EN.z).snd.fst, (l.getD k EN.z).snd.snd.fst, (l.getD k EN.z).snd.snd.snd.fst, (l.getD k EN.z).snd.snd.snd.snd)).fst)).fst.L.length : Int) - 1)).toNat EN.z).snd.fst ((syncJ (reJ (appJ (reJ (syncJ (reJ (trimJ (reJ J) (↑J.L.length : Int)).fst)).fst) ((l.getD k EN.z).fst, (l.getD k EN.z).snd.fst, (l.getD k EN.z).snd.snd.fst, (l.getD k EN.z).snd.snd.snd.fst, (l.getD k EN.z).snd.snd.snd.snd)).fst)).fst.L.getD (IntKind.i64.wrap ((↑(syncJ (reJ (appJ (reJ (syncJ (reJ (trimJ (reJ J) (↑J.L.length : Int)).fst)).fst) ((l.getD k EN.z).fst, (l.getD k EN.z).snd.fst, (l.getD k EN.z).snd.snd.fst, (l.getD k EN.z).snd.snd.snd.fst, (l.getD k EN.z).snd.snd.snd.snd)).fst)).fst.L.length : Int) - 1)).toNat EN.z).snd.snd.fst ((syncJ (reJ (appJ (reJ (syncJ (reJ (trimJ (reJ J) (↑J.L.length : Int)).fst)).fst) ((l.getD k EN.z).fst, (l.getD k EN.z).snd.fst, (l.getD k EN.z).snd.snd.fst, (l.getD k EN.z).snd.snd.snd.fst, (l.getD k EN.z).snd.snd.snd.snd)).fst)).fst.L.getD (IntKind.i64.wrap ((↑(syncJ (reJ (appJ (reJ (syncJ (reJ (trimJ (reJ J) (↑J.L.length : Int)).fst)).fst) ((l.getD k EN.z).fst, (l.getD k EN.z).snd.fst, (l.getD k EN.z).snd.snd.fst, (l.getD k EN.z).snd.snd.snd.fst, (l.getD k EN.z).snd.snd.snd.snd)).fst)).fst.L.length : Int) - 1)).toNat EN.z).snd.snd.snd.fst (l.getD k EN.z).fst (l.getD k EN.z).snd.fst (l.getD k EN.z).snd.snd.fst (l.getD k EN.z).snd.snd.snd.fst ((syncJ (reJ (appJ (reJ (syncJ (reJ (trimJ (reJ J) (↑J.L.length : Int)).fst)).fst) ((l.getD k EN.z).fst, (l.getD k EN.z).snd.fst, (l.getD k EN.z).snd.snd.fst, (l.getD k EN.z).snd.snd.snd.fst, (l.getD k EN.z).snd.snd.snd.snd)).fst)).fst.L.getD (IntKind.i64.wrap ((↑(syncJ (reJ (appJ (reJ (syncJ (reJ (trimJ (reJ J) (↑J.L.length : Int)).fst)).fst) ((l.getD k EN.z).fst, (l.getD k EN.z).snd.fst, (l.getD k EN.z).snd.snd.fst, (l.getD k EN.z).snd.snd.snd.fst, (l.getD k EN.z).snd.snd.snd.snd)).fst)).fst.L.length : Int) - 1)).toNat EN.z).snd.snd.snd.snd (l.getD k EN.z).snd.snd.snd.snd then
                                 some (.normal, stOf 139 [0, 7, 40, 41, 42] [.val (.int .i64 (n)), .ptr 0 (0) 0, .ro (.tab 5 (l.length) (fun i => EN.row (l.getD i EN.z))) none, .val (.int .i64 ((↑l.length : Int))), .val (.int .i64 (IntKind.i64.wrap ((↑k : Int) + 1)))] ⟨1, [⟨0, 0, .cells (.rows true 12 ([.val (.int .i64 ((syncJ (reJ (appJ (reJ (syncJ (reJ (trimJ (reJ J) (↑J.L.length : Int)).fst)).fst) ((l.getD k EN.z).fst, (l.getD k EN.z).snd.fst, (l.getD k EN.z).snd.snd.fst, (l.getD k EN.z).snd.snd.snd.fst, (l.getD k EN.z).snd.snd.snd.snd)).fst)).fst.N)), .ro (.ints .u8 ((syncJ (reJ (appJ (reJ (syncJ (reJ (trimJ (reJ J) (↑J.L.length : Int)).fst)).fst) ((l.getD k EN.z).fst, (l.getD k EN.z).snd.fst, (l.getD k EN.z).snd.snd.fst, (l.getD k EN.z).snd.snd.snd.fst, (l.getD k EN.z).snd.snd.snd.snd)).fst)).fst.B)) none, .ro (.tab 2 ((syncJ (reJ (appJ (reJ (syncJ (reJ (trimJ (reJ J) (↑J.L.length : Int)).fst)).fst) ((l.getD k EN.z).fst, (l.getD k EN.z).snd.fst, (l.getD k EN.z).snd.snd.fst, (l.getD k EN.z).snd.snd.snd.fst, (l.getD k EN.z).snd.snd.snd.snd)).fst)).fst.P.length) (fun i => SW.row ((syncJ (reJ (appJ (reJ (syncJ (reJ (trimJ (reJ J) (↑J.L.length : Int)).fst)).fst) ((l.getD k EN.z).fst, (l.getD k EN.z).snd.fst, (l.getD k EN.z).snd.snd.fst, (l.getD k EN.z).snd.snd.snd.fst, (l.getD k EN.z).snd.snd.snd.snd)).fst)).fst.P.getD i SW.z))) none, .val (.int .i64 ((syncJ (reJ (appJ (reJ (syncJ (reJ (trimJ (reJ J) (↑J.L.length : Int)).fst)).fst) ((l.getD k EN.z).fst, (l.getD k EN.z).snd.fst, (l.getD k EN.z).snd.snd.fst, (l.getD k EN.z).snd.snd.snd.fst, (l.getD k EN.z).snd.snd.snd.snd)).fst)).fst.gen)), .val (.int .i64 ((syncJ (reJ (appJ (reJ (syncJ (reJ (trimJ (reJ J) (↑J.L.length : Int)).fst)).fst) ((l.getD k EN.z).fst, (l.getD k EN.z).snd.fst, (l.getD k EN.z).snd.snd.fst, (l.getD k EN.z).snd.snd.snd.fst, (l.getD k EN.z).snd.snd.snd.snd)).fst)).fst.ep)), .val (.bool ((syncJ (reJ (appJ (reJ (syncJ (reJ (trimJ (reJ J) (↑J.L.length : Int)).fst)).fst) ((l.getD k EN.z).fst, (l.getD k EN.z).snd.fst, (l.getD k EN.z).snd.snd.fst, (l.getD k EN.z).snd.snd.snd.fst, (l.getD k EN.z).snd.snd.snd.snd)).fst)).fst.so)), .val (.int .i64 ((syncJ (reJ (appJ (reJ (syncJ (reJ (trimJ (reJ J) (↑J.L.length : Int)).fst)).fst) ((l.getD k EN.z).fst, (l.getD k EN.z).snd.fst, (l.getD k EN.z).snd.snd.fst, (l.getD k EN.z).snd.snd.snd.fst, (l.getD k EN.z).snd.snd.snd.snd)).fst)).fst.lim)), .val (.int .i64 ((syncJ (reJ (appJ (reJ (syncJ (reJ (trimJ (reJ J) (↑J.L.length : Int)).fst)).fst) ((l.getD k EN.z).fst, (l.getD k EN.z).snd.fst, (l.getD k EN.z).snd.snd.fst, (l.getD k EN.z).snd.snd.snd.fst, (l.getD k EN.z).snd.snd.snd.snd)).fst)).fst.st)), .val (.int .i64 ((syncJ (reJ (appJ (reJ (syncJ (reJ (trimJ (reJ J) (↑J.L.length : Int)).fst)).fst) ((l.getD k EN.z).fst, (l.getD k EN.z).snd.fst, (l.getD k EN.z).snd.snd.fst, (l.getD k EN.z).snd.snd.snd.fst, (l.getD k EN.z).snd.snd.snd.snd)).fst)).fst.ba)), .val (.int .i64 ((syncJ (reJ (appJ (reJ (syncJ (reJ (trimJ (reJ J) (↑J.L.length : Int)).fst)).fst) ((l.getD k EN.z).fst, (l.getD k EN.z).snd.fst, (l.getD k EN.z).snd.snd.fst, (l.getD k EN.z).snd.snd.snd.fst, (l.getD k EN.z).snd.snd.snd.snd)).fst)).fst.nx)), .ro (.tab 5 ((syncJ (reJ (appJ (reJ (syncJ (reJ (trimJ (reJ J) (↑J.L.length : Int)).fst)).fst) ((l.getD k EN.z).fst, (l.getD k EN.z).snd.fst, (l.getD k EN.z).snd.snd.fst, (l.getD k EN.z).snd.snd.snd.fst, (l.getD k EN.z).snd.snd.snd.snd)).fst)).fst.L.length) (fun i => EN.row ((syncJ (reJ (appJ (reJ (syncJ (reJ (trimJ (reJ J) (↑J.L.length : Int)).fst)).fst) ((l.getD k EN.z).fst, (l.getD k EN.z).snd.fst, (l.getD k EN.z).snd.snd.fst, (l.getD k EN.z).snd.snd.snd.fst, (l.getD k EN.z).snd.snd.snd.snd)).fst)).fst.L.getD i EN.z))) none, .ro (.ints .i64 ((syncJ (reJ (appJ (reJ (syncJ (reJ (trimJ (reJ J) (↑J.L.length : Int)).fst)).fst) ((l.getD k EN.z).fst, (l.getD k EN.z).snd.fst, (l.getD k EN.z).snd.snd.fst, (l.getD k EN.z).snd.snd.snd.fst, (l.getD k EN.z).snd.snd.snd.snd)).fst)).fst.E)) none] :: []))⟩]⟩ )
                                else
                                 some (.ret, stOf 139 [4] [.val (.bool false)] ⟨0, []⟩ )
                               else
                                none
                            else
                             none
                           else
                            none
                        else
                         none
                       else
                        none
                      else
                       none
                     else
                      none
                   else
                    none
                  else
                   none
                 else
                  bif okSW (SW.con (appJ (reJ J) ((l.getD k EN.z).fst, (l.getD k EN.z).snd.fst, (l.getD k EN.z).snd.snd.fst, (l.getD k EN.z).snd.snd.snd.fst, (l.getD k EN.z).snd.snd.snd.snd)).fst.P) && okEN (EN.con (appJ (reJ J) ((l.getD k EN.z).fst, (l.getD k EN.z).snd.fst, (l.getD k EN.z).snd.snd.fst, (l.getD k EN.z).snd.snd.snd.fst, (l.getD k EN.z).snd.snd.snd.snd)).fst.L) then
                   bif (reJ (appJ (reJ J) ((l.getD k EN.z).fst, (l.getD k EN.z).snd.fst, (l.getD k EN.z).snd.snd.fst, (l.getD k EN.z).snd.snd.snd.fst, (l.getD k EN.z).snd.snd.snd.snd)).fst).L.length.ble 1000000 then
                    bif (syncJ (reJ (appJ (reJ J) ((l.getD k EN.z).fst, (l.getD k EN.z).snd.fst, (l.getD k EN.z).snd.snd.fst, (l.getD k EN.z).snd.snd.snd.fst, (l.getD k EN.z).snd.snd.snd.snd)).fst)).snd != 0 then
                     some (.ret, stOf 139 [4] [.val (.bool false)] ⟨0, []⟩ )
                    else
                     bif (↑(syncJ (reJ (appJ (reJ J) ((l.getD k EN.z).fst, (l.getD k EN.z).snd.fst, (l.getD k EN.z).snd.snd.fst, (l.getD k EN.z).snd.snd.snd.fst, (l.getD k EN.z).snd.snd.snd.snd)).fst)).fst.L.length : Int) == 0 then
                      some (.ret, stOf 139 [4] [.val (.bool false)] ⟨0, []⟩ )
                     else
                      bif inR (IntKind.i64.wrap ((↑(syncJ (reJ (appJ (reJ J) ((l.getD k EN.z).fst, (l.getD k EN.z).snd.fst, (l.getD k EN.z).snd.snd.fst, (l.getD k EN.z).snd.snd.snd.fst, (l.getD k EN.z).snd.snd.snd.snd)).fst)).fst.L.length : Int) - 1)) (syncJ (reJ (appJ (reJ J) ((l.getD k EN.z).fst, (l.getD k EN.z).snd.fst, (l.getD k EN.z).snd.snd.fst, (l.getD k EN.z).snd.snd.snd.fst, (l.getD k EN.z).snd.snd.snd.snd)).fst)).fst.L.length then
                       bif sameB ((syncJ (reJ (appJ (reJ J) ((l.getD k EN.z).fst, (l.getD k EN.z).snd.fst, (l.getD k EN.z).snd.snd.fst, (l.getD k EN.z).snd.snd.snd.fst, (l.getD k EN.z).snd.snd.snd.snd)).fst)).fst.L.getD (IntKind.i64.wrap ((↑(syncJ (reJ (appJ (reJ J) ((l.getD k EN.z).fst, (l.getD k EN.z).snd.fst, (l.getD k EN.z).snd.snd.fst, (l.getD k EN.z).snd.snd.snd.fst, (l.getD k EN.z).snd.snd.snd.snd)).fst)).fst.L.length : Int) - 1)).toNat EN.z).fst ((syncJ (reJ (appJ (reJ J) ((l.getD k EN.z).fst, (l.getD k EN.z).snd.fst, (l.getD k EN.z).snd.snd.fst, (l.getD k EN.z).snd.snd.snd.fst, (l.getD k EN.z).snd.snd.snd.snd)).fst)).fst.L.getD (IntKind.i64.wrap ((↑(syncJ (reJ (appJ (reJ J) ((l.getD k EN.z).fst, (l.getD k EN.z).snd.fst, (l.getD k EN.z).snd.snd.fst, (l.getD k EN.z).snd.snd.snd.fst, (l.getD k EN.z).snd.snd.snd.snd)).fst)).fst.L.length : Int) - 1)).toNat EN.z).snd.fst ((syncJ (reJ (appJ (reJ J) ((l.getD k EN.z).fst, (l.getD k EN.z).snd.fst, (l.getD k EN.z).snd.snd.fst, (l.getD k EN.z).snd.snd.snd.fst, (l.getD k EN.z).snd.snd.snd.snd)).fst)).fst.L.getD (IntKind.i64.wrap ((↑(syncJ (reJ (appJ (reJ J) ((l.getD k EN.z).fst, (l.getD k EN.z).snd.fst, (l.getD k EN.z).snd.snd.fst, (l.getD k EN.z).snd.snd.snd.fst, (l.getD k EN.z).snd.snd.snd.snd)).fst)).fst.L.length : Int) - 1)).toNat EN.z).snd.snd.fst ((syncJ (reJ (appJ (reJ J) ((l.getD k EN.z).fst, (l.getD k EN.z).snd.fst, (l.getD k EN.z).snd.snd.fst, (l.getD k EN.z).snd.snd.snd.fst, (l.getD k EN.z).snd.snd.snd.snd)).fst)).fst.L.getD (IntKind.i64.wrap ((↑(syncJ (reJ (appJ (reJ J) ((l.getD k EN.z).fst, (l.getD k EN.z).snd.fst, (l.getD k EN.z).snd.snd.fst, (l.getD k EN.z).snd.snd.snd.fst, (l.getD k EN.z).snd.snd.snd.snd)).fst)).fst.L.length : Int) - 1)).toNat EN.z).snd.snd.snd.fst (l.getD k EN.z).fst (l.getD k EN.z).snd.fst (l.getD k EN.z).snd.snd.fst (l.getD k EN.z).snd.snd.snd.fst ((syncJ (reJ (appJ (reJ J) ((l.getD k EN.z).fst, (l.getD k EN.z).snd.fst, (l.getD k EN.z).snd.snd.fst, (l.getD k EN.z).snd.snd.snd.fst, (l.getD k EN.z).snd.snd.snd.snd)).fst)).fst.L.getD (IntKind.i64.wrap ((↑(syncJ (reJ (appJ (reJ J) ((l.getD k EN.z).fst, (l.getD k EN.z).snd.fst, (l.getD k EN.z).snd.snd.fst, (l.getD k EN.z).snd.snd.snd.fst, (l.getD k EN.z).snd.snd.snd.snd)).fst)).fst.L.length : Int) - 1)).toNat EN.z).snd.snd.snd.snd (l.getD k EN.z).snd.snd.snd.snd then
                        some (.normal, stOf 139 [0, 7, 40, 41, 42] [.val (.int .i64 (n)), .ptr 0 (0) 0, .ro (.tab 5 (l.length) (fun i => EN.row (l.getD i EN.z))) none, .val (.int .i64 ((↑l.length : Int))), .val (.int .i64 (IntKind.i64.wrap ((↑k : Int) + 1)))] ⟨1, [⟨0, 0, .cells (.rows true 12 ([.val (.int .i64 ((syncJ (reJ (appJ (reJ J) ((l.getD k EN.z).fst, (l.getD k EN.z).snd.fst, (l.getD k EN.z).snd.snd.fst, (l.getD k EN.z).snd.snd.snd.fst, (l.getD k EN.z).snd.snd.snd.snd)).fst)).fst.N)), .ro (.ints .u8 ((syncJ (reJ (appJ (reJ J) ((l.getD k EN.z).fst, (l.getD k EN.z).snd.fst, (l.getD k EN.z).snd.snd.fst, (l.getD k EN.z).snd.snd.snd.fst, (l.getD k EN.z).snd.snd.snd.snd)).fst)).fst.B)) none, .ro (.tab 2 ((syncJ (reJ (appJ (reJ J) ((l.getD k EN.z).fst, (l.getD k EN.z).snd.fst, (l.getD k EN.z).snd.snd.fst, (l.getD k EN.z).snd.snd.snd.fst, (l.getD k EN.z).snd.snd.snd.snd)).fst)).fst.P.length) (fun i => SW.row ((syncJ (reJ (appJ (reJ J) ((l.getD k EN.z).fst, (l.getD k EN.z).snd.fst, (l.getD k EN.z).snd.snd.fst, (l.getD k EN.z).snd.snd.snd.fst, (l.getD k EN.z).snd.snd.snd.snd)).fst)).fst.P.getD i SW.z))) none, .val (.int .i64 ((syncJ (reJ (appJ (reJ J) ((l.getD k EN.z).fst, (l.getD k EN.z).snd.fst, (l.getD k EN.z).snd.snd.fst, (l.getD k EN.z).snd.snd.snd.fst, (l.getD k EN.z).snd.snd.snd.snd)).fst)).fst.gen)), .val (.int .i64 ((syncJ (reJ (appJ (reJ J) ((l.getD k EN.z).fst, (l.getD k EN.z).snd.fst, (l.getD k EN.z).snd.snd.fst, (l.getD k EN.z).snd.snd.snd.fst, (l.getD k EN.z).snd.snd.snd.snd)).fst)).fst.ep)), .val (.bool ((syncJ (reJ (appJ (reJ J) ((l.getD k EN.z).fst, (l.getD k EN.z).snd.fst, (l.getD k EN.z).snd.snd.fst, (l.getD k EN.z).snd.snd.snd.fst, (l.getD k EN.z).snd.snd.snd.snd)).fst)).fst.so)), .val (.int .i64 ((syncJ (reJ (appJ (reJ J) ((l.getD k EN.z).fst, (l.getD k EN.z).snd.fst, (l.getD k EN.z).snd.snd.fst, (l.getD k EN.z).snd.snd.snd.fst, (l.getD k EN.z).snd.snd.snd.snd)).fst)).fst.lim)), .val (.int .i64 ((syncJ (reJ (appJ (reJ J) ((l.getD k EN.z).fst, (l.getD k EN.z).snd.fst, (l.getD k EN.z).snd.snd.fst, (l.getD k EN.z).snd.snd.snd.fst, (l.getD k EN.z).snd.snd.snd.snd)).fst)).fst.st)), .val (.int .i64 ((syncJ (reJ (appJ (reJ J) ((l.getD k EN.z).fst, (l.getD k EN.z).snd.fst, (l.getD k EN.z).snd.snd.fst, (l.getD k EN.z).snd.snd.snd.fst, (l.getD k EN.z).snd.snd.snd.snd)).fst)).fst.ba)), .val (.int .i64 ((syncJ (reJ (appJ (reJ J) ((l.getD k EN.z).fst, (l.getD k EN.z).snd.fst, (l.getD k EN.z).snd.snd.fst, (l.getD k EN.z).snd.snd.snd.fst, (l.getD k EN.z).snd.snd.snd.snd)).fst)).fst.nx)), .ro (.tab 5 ((syncJ (reJ (appJ (reJ J) ((l.getD k EN.z).fst, (l.getD k EN.z).snd.fst, (l.getD k EN.z).snd.snd.fst, (l.getD k EN.z).snd.snd.snd.fst, (l.getD k EN.z).snd.snd.snd.snd)).fst)).fst.L.length) (fun i => EN.row ((syncJ (reJ (appJ (reJ J) ((l.getD k EN.z).fst, (l.getD k EN.z).snd.fst, (l.getD k EN.z).snd.snd.fst, (l.getD k EN.z).snd.snd.snd.fst, (l.getD k EN.z).snd.snd.snd.snd)).fst)).fst.L.getD i EN.z))) none, .ro (.ints .i64 ((syncJ (reJ (appJ (reJ J) ((l.getD k EN.z).fst, (l.getD k EN.z).snd.fst, (l.getD k EN.z).snd.snd.fst, (l.getD k EN.z).snd.snd.snd.fst, (l.getD k EN.z).snd.snd.snd.snd)).fst)).fst.E)) none] :: []))⟩]⟩ )
                       else
                        some (.ret, stOf 139 [4] [.val (.bool false)] ⟨0, []⟩ )
                      else
                       none
                   else
                    none
                  else
                   none
                else
                 some (.ret, stOf 139 [4] [.val (.bool false)] ⟨0, []⟩ )
               else
                bif decide ((↑(encX (l.getD k EN.z).fst (l.getD k EN.z).snd.fst (l.getD k EN.z).snd.snd.fst (l.getD k EN.z).snd.snd.snd.fst (l.getD k EN.z).snd.snd.snd.snd).length : Int) ≤ (roomJ (reJ J)).fst) then
                 some (.ret, stOf 139 [4] [.val (.bool false)] ⟨0, []⟩ )
                else
                 bif (appJ (reJ J) ((l.getD k EN.z).fst, (l.getD k EN.z).snd.fst, (l.getD k EN.z).snd.snd.fst, (l.getD k EN.z).snd.snd.snd.fst, (l.getD k EN.z).snd.snd.snd.snd)).snd != 0 then
                  bif okSW (SW.con J.P) && okEN (EN.con J.L) then
                   bif (reJ J).L.length.ble 1000000 then
                    bif (trimJ (reJ J) (↑J.L.length : Int)).snd != 0 then
                     some (.ret, stOf 139 [4] [.val (.bool false)] ⟨0, []⟩ )
                    else
                     bif okSW (SW.con (trimJ (reJ J) (↑J.L.length : Int)).fst.P) && okEN (EN.con (trimJ (reJ J) (↑J.L.length : Int)).fst.L) then
                      bif (reJ (trimJ (reJ J) (↑J.L.length : Int)).fst).L.length.ble 1000000 then
                       bif okSW (SW.con (syncJ (reJ (trimJ (reJ J) (↑J.L.length : Int)).fst)).fst.P) && okEN (EN.con (syncJ (reJ (trimJ (reJ J) (↑J.L.length : Int)).fst)).fst.L) then
                        bif (reJ (syncJ (reJ (trimJ (reJ J) (↑J.L.length : Int)).fst)).fst).L.length.ble 1000000 then
                         bif (syncJ (reJ (trimJ (reJ J) (↑J.L.length : Int)).fst)).snd != 0 then
                          some (.ret, stOf 139 [4] [.val (.bool false)] ⟨0, []⟩ )
                         else
                          bif (appJ (reJ (syncJ (reJ (trimJ (reJ J) (↑J.L.length : Int)).fst)).fst) ((l.getD k EN.z).fst, (l.getD k EN.z).snd.fst, (l.getD k EN.z).snd.snd.fst, (l.getD k EN.z).snd.snd.snd.fst, (l.getD k EN.z).snd.snd.snd.snd)).snd != 0 then
                           some (.ret, stOf 139 [4] [.val (.bool false)] ⟨0, []⟩ )
                          else
                           bif okSW (SW.con (appJ (reJ (syncJ (reJ (trimJ (reJ J) (↑J.L.length : Int)).fst)).fst) ((l.getD k EN.z).fst, (l.getD k EN.z).snd.fst, (l.getD k EN.z).snd.snd.fst, (l.getD k EN.z).snd.snd.snd.fst, (l.getD k EN.z).snd.snd.snd.snd)).fst.P) && okEN (EN.con (appJ (reJ (syncJ (reJ (trimJ (reJ J) (↑J.L.length : Int)).fst)).fst) ((l.getD k EN.z).fst, (l.getD k EN.z).snd.fst, (l.getD k EN.z).snd.snd.fst, (l.getD k EN.z).snd.snd.snd.fst, (l.getD k EN.z).snd.snd.snd.snd)).fst.L) then
                            bif (reJ (appJ (reJ (syncJ (reJ (trimJ (reJ J) (↑J.L.length : Int)).fst)).fst) ((l.getD k EN.z).fst, (l.getD k EN.z).snd.fst, (l.getD k EN.z).snd.snd.fst, (l.getD k EN.z).snd.snd.snd.fst, (l.getD k EN.z).snd.snd.snd.snd)).fst).L.length.ble 1000000 then
                             bif (syncJ (reJ (appJ (reJ (syncJ (reJ (trimJ (reJ J) (↑J.L.length : Int)).fst)).fst) ((l.getD k EN.z).fst, (l.getD k EN.z).snd.fst, (l.getD k EN.z).snd.snd.fst, (l.getD k EN.z).snd.snd.snd.fst, (l.getD k EN.z).snd.snd.snd.snd)).fst)).snd != 0 then
                              some (.ret, stOf 139 [4] [.val (.bool false)] ⟨0, []⟩ )
                             else
                              bif (↑(syncJ (reJ (appJ (reJ (syncJ (reJ (trimJ (reJ J) (↑J.L.length : Int)).fst)).fst) ((l.getD k EN.z).fst, (l.getD k EN.z).snd.fst, (l.getD k EN.z).snd.snd.fst, (l.getD k EN.z).snd.snd.snd.fst, (l.getD k EN.z).snd.snd.snd.snd)).fst)).fst.L.length : Int) == 0 then
                               some (.ret, stOf 139 [4] [.val (.bool false)] ⟨0, []⟩ )
                              else
                               bif inR (IntKind.i64.wrap ((↑(syncJ (reJ (appJ (reJ (syncJ (reJ (trimJ (reJ J) (↑J.L.length : Int)).fst)).fst) ((l.getD k EN.z).fst, (l.getD k EN.z).snd.fst, (l.getD k EN.z).snd.snd.fst, (l.getD k EN.z).snd.snd.snd.fst, (l.getD k EN.z).snd.snd.snd.snd)).fst)).fst.L.length : Int) - 1)) (syncJ (reJ (appJ (reJ (syncJ (reJ (trimJ (reJ J) (↑J.L.length : Int)).fst)).fst) ((l.getD k EN.z).fst, (l.getD k EN.z).snd.fst, (l.getD k EN.z).snd.snd.fst, (l.getD k EN.z).snd.snd.snd.fst, (l.getD k EN.z).snd.snd.snd.snd)).fst)).fst.L.length then
                                bif sameB ((syncJ (reJ (appJ (reJ (syncJ (reJ (trimJ (reJ J) (↑J.L.length : Int)).fst)).fst) ((l.getD k EN.z).fst, (l.getD k EN.z).snd.fst, (l.getD k EN.z).snd.snd.fst, (l.getD k EN.z).snd.snd.snd.fst, (l.getD k EN.z).snd.snd.snd.snd)).fst)).fst.L.getD (IntKind.i64.wrap ((↑(syncJ (reJ (appJ (reJ (syncJ (reJ (trimJ (reJ J) (↑J.L.length : Int)).fst)).fst) ((l.getD k EN.z).fst, (l.getD k EN.z).snd.fst, (l.getD k EN.z).snd.snd.fst, (l.getD k EN.z).snd.snd.snd.fst, (l.getD k EN.z).snd.snd.snd.snd)).fst)).fst.L.length : Int) - 1)).toNat EN.z).fst ((syncJ (reJ (appJ (reJ (syncJ (reJ (trimJ (reJ J) (↑J.L.length : Int)).fst)).fst) ((l.getD k EN.z).fst, (l.getD k EN.z).snd.fst, (l.getD k EN.z).snd.snd.fst, (l.getD k EN.z).snd.snd.snd.fst, (l.getD k EN.z).snd.snd.snd.snd)).fst)).fst.L.getD (IntKind.i64.wrap ((↑(syncJ (reJ (appJ (reJ (syncJ (reJ (trimJ (reJ J) (↑J.L.length : Int)).fst)).fst) ((l.getD k EN.z).fst, (l.getD k EN.z).snd.fst, (l.getD k EN.z).snd.snd.fst, (l.getD k EN.z).snd.snd.snd.fst, (l.getD k EN.z).snd.snd.snd.snd)).fst)).fst.L.length : Int) - 1)).toNat EN.z).snd.fst ((syncJ (reJ (appJ (reJ (syncJ (reJ (trimJ (reJ J) (↑J.L.length : Int)).fst)).fst) ((l.getD k EN.z).fst, (l.getD k EN.z).snd.fst, (l.getD k EN.z).snd.snd.fst, (l.getD k EN.z).snd.snd.snd.fst, (l.getD k EN.z).snd.snd.snd.snd)).fst)).fst.L.getD (IntKind.i64.wrap ((↑(syncJ (reJ (appJ (reJ (syncJ (reJ (trimJ (reJ J) (↑J.L.length : Int)).fst)).fst) ((l.getD k EN.z).fst, (l.getD k EN.z).snd.fst, (l.getD k EN.z).snd.snd.fst, (l.getD k EN.z).snd.snd.snd.fst, (l.getD k EN.z).snd.snd.snd.snd)).fst)).fst.L.length : Int) - 1)).toNat EN.z).snd.snd.fst ((syncJ (reJ (appJ (reJ (syncJ (reJ (trimJ (reJ J) (↑J.L.length : Int)).fst)).fst) ((l.getD k EN.z).fst, (l.getD k EN.z).snd.fst, (l.getD k EN.z).snd.snd.fst, (l.getD k EN.z).snd.snd.snd.fst, (l.getD k EN.z).snd.snd.snd.snd)).fst)).fst.L.getD (IntKind.i64.wrap ((↑(syncJ (reJ (appJ (reJ (syncJ (reJ (trimJ (reJ J) (↑J.L.length : Int)).fst)).fst) ((l.getD k EN.z).fst, (l.getD k EN.z).snd.fst, (l.getD k EN.z).snd.snd.fst, (l.getD k EN.z).snd.snd.snd.fst, (l.getD k EN.z).snd.snd.snd.snd)).fst)).fst.L.length : Int) - 1)).toNat EN.z).snd.snd.snd.fst (l.getD k EN.z).fst (l.getD k EN.z).snd.fst (l.getD k EN.z).snd.snd.fst (l.getD k EN.z).snd.snd.snd.fst ((syncJ (reJ (appJ (reJ (syncJ (reJ (trimJ (reJ J) (↑J.L.length : Int)).fst)).fst) ((l.getD k EN.z).fst, (l.getD k EN.z).snd.fst, (l.getD k EN.z).snd.snd.fst, (l.getD k EN.z).snd.snd.snd.fst, (l.getD k EN.z).snd.snd.snd.snd)).fst)).fst.L.getD (IntKind.i64.wrap ((↑(syncJ (reJ (appJ (reJ (syncJ (reJ (trimJ (reJ J) (↑J.L.length : Int)).fst)).fst) ((l.getD k EN.z).fst, (l.getD k EN.z).snd.fst, (l.getD k EN.z).snd.snd.fst, (l.getD k EN.z).snd.snd.snd.fst, (l.getD k EN.z).snd.snd.snd.snd)).fst)).fst.L.length : Int) - 1)).toNat EN.z).snd.snd.snd.snd (l.getD k EN.z).snd.snd.snd.snd then
                                 some (.normal, stOf 139 [0, 7, 40, 41, 42] [.val (.int .i64 (n)), .ptr 0 (0) 0, .ro (.tab 5 (l.length) (fun i => EN.row (l.getD i EN.z))) none, .val (.int .i64 ((↑l.length : Int))), .val (.int .i64 (IntKind.i64.wrap ((↑k : Int) + 1)))] ⟨1, [⟨0, 0, .cells (.rows true 12 ([.val (.int .i64 ((syncJ (reJ (appJ (reJ (syncJ (reJ (trimJ (reJ J) (↑J.L.length : Int)).fst)).fst) ((l.getD k EN.z).fst, (l.getD k EN.z).snd.fst, (l.getD k EN.z).snd.snd.fst, (l.getD k EN.z).snd.snd.snd.fst, (l.getD k EN.z).snd.snd.snd.snd)).fst)).fst.N)), .ro (.ints .u8 ((syncJ (reJ (appJ (reJ (syncJ (reJ (trimJ (reJ J) (↑J.L.length : Int)).fst)).fst) ((l.getD k EN.z).fst, (l.getD k EN.z).snd.fst, (l.getD k EN.z).snd.snd.fst, (l.getD k EN.z).snd.snd.snd.fst, (l.getD k EN.z).snd.snd.snd.snd)).fst)).fst.B)) none, .ro (.tab 2 ((syncJ (reJ (appJ (reJ (syncJ (reJ (trimJ (reJ J) (↑J.L.length : Int)).fst)).fst) ((l.getD k EN.z).fst, (l.getD k EN.z).snd.fst, (l.getD k EN.z).snd.snd.fst, (l.getD k EN.z).snd.snd.snd.fst, (l.getD k EN.z).snd.snd.snd.snd)).fst)).fst.P.length) (fun i => SW.row ((syncJ (reJ (appJ (reJ (syncJ (reJ (trimJ (reJ J) (↑J.L.length : Int)).fst)).fst) ((l.getD k EN.z).fst, (l.getD k EN.z).snd.fst, (l.getD k EN.z).snd.snd.fst, (l.getD k EN.z).snd.snd.snd.fst, (l.getD k EN.z).snd.snd.snd.snd)).fst)).fst.P.getD i SW.z))) none, .val (.int .i64 ((syncJ (reJ (appJ (reJ (syncJ (reJ (trimJ (reJ J) (↑J.L.length : Int)).fst)).fst) ((l.getD k EN.z).fst, (l.getD k EN.z).snd.fst, (l.getD k EN.z).snd.snd.fst, (l.getD k EN.z).snd.snd.snd.fst, (l.getD k EN.z).snd.snd.snd.snd)).fst)).fst.gen)), .val (.int .i64 ((syncJ (reJ (appJ (reJ (syncJ (reJ (trimJ (reJ J) (↑J.L.length : Int)).fst)).fst) ((l.getD k EN.z).fst, (l.getD k EN.z).snd.fst, (l.getD k EN.z).snd.snd.fst, (l.getD k EN.z).snd.snd.snd.fst, (l.getD k EN.z).snd.snd.snd.snd)).fst)).fst.ep)), .val (.bool ((syncJ (reJ (appJ (reJ (syncJ (reJ (trimJ (reJ J) (↑J.L.length : Int)).fst)).fst) ((l.getD k EN.z).fst, (l.getD k EN.z).snd.fst, (l.getD k EN.z).snd.snd.fst, (l.getD k EN.z).snd.snd.snd.fst, (l.getD k EN.z).snd.snd.snd.snd)).fst)).fst.so)), .val (.int .i64 ((syncJ (reJ (appJ (reJ (syncJ (reJ (trimJ (reJ J) (↑J.L.length : Int)).fst)).fst) ((l.getD k EN.z).fst, (l.getD k EN.z).snd.fst, (l.getD k EN.z).snd.snd.fst, (l.getD k EN.z).snd.snd.snd.fst, (l.getD k EN.z).snd.snd.snd.snd)).fst)).fst.lim)), .val (.int .i64 ((syncJ (reJ (appJ (reJ (syncJ (reJ (trimJ (reJ J) (↑J.L.length : Int)).fst)).fst) ((l.getD k EN.z).fst, (l.getD k EN.z).snd.fst, (l.getD k EN.z).snd.snd.fst, (l.getD k EN.z).snd.snd.snd.fst, (l.getD k EN.z).snd.snd.snd.snd)).fst)).fst.st)), .val (.int .i64 ((syncJ (reJ (appJ (reJ (syncJ (reJ (trimJ (reJ J) (↑J.L.length : Int)).fst)).fst) ((l.getD k EN.z).fst, (l.getD k EN.z).snd.fst, (l.getD k EN.z).snd.snd.fst, (l.getD k EN.z).snd.snd.snd.fst, (l.getD k EN.z).snd.snd.snd.snd)).fst)).fst.ba)), .val (.int .i64 ((syncJ (reJ (appJ (reJ (syncJ (reJ (trimJ (reJ J) (↑J.L.length : Int)).fst)).fst) ((l.getD k EN.z).fst, (l.getD k EN.z).snd.fst, (l.getD k EN.z).snd.snd.fst, (l.getD k EN.z).snd.snd.snd.fst, (l.getD k EN.z).snd.snd.snd.snd)).fst)).fst.nx)), .ro (.tab 5 ((syncJ (reJ (appJ (reJ (syncJ (reJ (trimJ (reJ J) (↑J.L.length : Int)).fst)).fst) ((l.getD k EN.z).fst, (l.getD k EN.z).snd.fst, (l.getD k EN.z).snd.snd.fst, (l.getD k EN.z).snd.snd.snd.fst, (l.getD k EN.z).snd.snd.snd.snd)).fst)).fst.L.length) (fun i => EN.row ((syncJ (reJ (appJ (reJ (syncJ (reJ (trimJ (reJ J) (↑J.L.length : Int)).fst)).fst) ((l.getD k EN.z).fst, (l.getD k EN.z).snd.fst, (l.getD k EN.z).snd.snd.fst, (l.getD k EN.z).snd.snd.snd.fst, (l.getD k EN.z).snd.snd.snd.snd)).fst)).fst.L.getD i EN.z))) none, .ro (.ints .i64 ((syncJ (reJ (appJ (reJ (syncJ (reJ (trimJ (reJ J) (↑J.L.length : Int)).fst)).fst) ((l.getD k EN.z).fst, (l.getD k EN.z).snd.fst, (l.getD k EN.z).snd.snd.fst, (l.getD k EN.z).snd.snd.snd.fst, (l.getD k EN.z).snd.snd.snd.snd)).fst)).fst.E)) none] :: []))⟩]⟩ )
                                else
                                 some (.ret, stOf 139 [4] [.val (.bool false)] ⟨0, []⟩ )
                               else
                                none
                            else
                             none
                           else
                            none
                        else
                         none
                       else
                        none
                      else
                       none
                     else
                      none
                   else
                    none
                  else
                   none
                 else
                  bif okSW (SW.con (appJ (reJ J) ((l.getD k EN.z).fst, (l.getD k EN.z).snd.fst, (l.getD k EN.z).snd.snd.fst, (l.getD k EN.z).snd.snd.snd.fst, (l.getD k EN.z).snd.snd.snd.snd)).fst.P) && okEN (EN.con (appJ (reJ J) ((l.getD k EN.z).fst, (l.getD k EN.z).snd.fst, (l.getD k EN.z).snd.snd.fst, (l.getD k EN.z).snd.snd.snd.fst, (l.getD k EN.z).snd.snd.snd.snd)).fst.L) then
                   bif (reJ (appJ (reJ J) ((l.getD k EN.z).fst, (l.getD k EN.z).snd.fst, (l.getD k EN.z).snd.snd.fst, (l.getD k EN.z).snd.snd.snd.fst, (l.getD k EN.z).snd.snd.snd.snd)).fst).L.length.ble 1000000 then
                    bif (syncJ (reJ (appJ (reJ J) ((l.getD k EN.z).fst, (l.getD k EN.z).snd.fst, (l.getD k EN.z).snd.snd.fst, (l.getD k EN.z).snd.snd.snd.fst, (l.getD k EN.z).snd.snd.snd.snd)).fst)).snd != 0 then
                     some (.ret, stOf 139 [4] [.val (.bool false)] ⟨0, []⟩ )
                    else
                     bif (↑(syncJ (reJ (appJ (reJ J) ((l.getD k EN.z).fst, (l.getD k EN.z).snd.fst, (l.getD k EN.z).snd.snd.fst, (l.getD k EN.z).snd.snd.snd.fst, (l.getD k EN.z).snd.snd.snd.snd)).fst)).fst.L.length : Int) == 0 then
                      some (.ret, stOf 139 [4] [.val (.bool false)] ⟨0, []⟩ )
                     else
                      bif inR (IntKind.i64.wrap ((↑(syncJ (reJ (appJ (reJ J) ((l.getD k EN.z).fst, (l.getD k EN.z).snd.fst, (l.getD k EN.z).snd.snd.fst, (l.getD k EN.z).snd.snd.snd.fst, (l.getD k EN.z).snd.snd.snd.snd)).fst)).fst.L.length : Int) - 1)) (syncJ (reJ (appJ (reJ J) ((l.getD k EN.z).fst, (l.getD k EN.z).snd.fst, (l.getD k EN.z).snd.snd.fst, (l.getD k EN.z).snd.snd.snd.fst, (l.getD k EN.z).snd.snd.snd.snd)).fst)).fst.L.length then
                       bif sameB ((syncJ (reJ (appJ (reJ J) ((l.getD k EN.z).fst, (l.getD k EN.z).snd.fst, (l.getD k EN.z).snd.snd.fst, (l.getD k EN.z).snd.snd.snd.fst, (l.getD k EN.z).snd.snd.snd.snd)).fst)).fst.L.getD (IntKind.i64.wrap ((↑(syncJ (reJ (appJ (reJ J) ((l.getD k EN.z).fst, (l.getD k EN.z).snd.fst, (l.getD k EN.z).snd.snd.fst, (l.getD k EN.z).snd.snd.snd.fst, (l.getD k EN.z).snd.snd.snd.snd)).fst)).fst.L.length : Int) - 1)).toNat EN.z).fst ((syncJ (reJ (appJ (reJ J) ((l.getD k EN.z).fst, (l.getD k EN.z).snd.fst, (l.getD k EN.z).snd.snd.fst, (l.getD k EN.z).snd.snd.snd.fst, (l.getD k EN.z).snd.snd.snd.snd)).fst)).fst.L.getD (IntKind.i64.wrap ((↑(syncJ (reJ (appJ (reJ J) ((l.getD k EN.z).fst, (l.getD k EN.z).snd.fst, (l.getD k EN.z).snd.snd.fst, (l.getD k EN.z).snd.snd.snd.fst, (l.getD k EN.z).snd.snd.snd.snd)).fst)).fst.L.length : Int) - 1)).toNat EN.z).snd.fst ((syncJ (reJ (appJ (reJ J) ((l.getD k EN.z).fst, (l.getD k EN.z).snd.fst, (l.getD k EN.z).snd.snd.fst, (l.getD k EN.z).snd.snd.snd.fst, (l.getD k EN.z).snd.snd.snd.snd)).fst)).fst.L.getD (IntKind.i64.wrap ((↑(syncJ (reJ (appJ (reJ J) ((l.getD k EN.z).fst, (l.getD k EN.z).snd.fst, (l.getD k EN.z).snd.snd.fst, (l.getD k EN.z).snd.snd.snd.fst, (l.getD k EN.z).snd.snd.snd.snd)).fst)).fst.L.length : Int) - 1)).toNat EN.z).snd.snd.fst ((syncJ (reJ (appJ (reJ J) ((l.getD k EN.z).fst, (l.getD k EN.z).snd.fst, (l.getD k EN.z).snd.snd.fst, (l.getD k EN.z).snd.snd.snd.fst, (l.getD k EN.z).snd.snd.snd.snd)).fst)).fst.L.getD (IntKind.i64.wrap ((↑(syncJ (reJ (appJ (reJ J) ((l.getD k EN.z).fst, (l.getD k EN.z).snd.fst, (l.getD k EN.z).snd.snd.fst, (l.getD k EN.z).snd.snd.snd.fst, (l.getD k EN.z).snd.snd.snd.snd)).fst)).fst.L.length : Int) - 1)).toNat EN.z).snd.snd.snd.fst (l.getD k EN.z).fst (l.getD k EN.z).snd.fst (l.getD k EN.z).snd.snd.fst (l.getD k EN.z).snd.snd.snd.fst ((syncJ (reJ (appJ (reJ J) ((l.getD k EN.z).fst, (l.getD k EN.z).snd.fst, (l.getD k EN.z).snd.snd.fst, (l.getD k EN.z).snd.snd.snd.fst, (l.getD k EN.z).snd.snd.snd.snd)).fst)).fst.L.getD (IntKind.i64.wrap ((↑(syncJ (reJ (appJ (reJ J) ((l.getD k EN.z).fst, (l.getD k EN.z).snd.fst, (l.getD k EN.z).snd.snd.fst, (l.getD k EN.z).snd.snd.snd.fst, (l.getD k EN.z).snd.snd.snd.snd)).fst)).fst.L.length : Int) - 1)).toNat EN.z).snd.snd.snd.snd (l.getD k EN.z).snd.snd.snd.snd then
                        some (.normal, stOf 139 [0, 7, 40, 41, 42] [.val (.int .i64 (n)), .ptr 0 (0) 0, .ro (.tab 5 (l.length) (fun i => EN.row (l.getD i EN.z))) none, .val (.int .i64 ((↑l.length : Int))), .val (.int .i64 (IntKind.i64.wrap ((↑k : Int) + 1)))] ⟨1, [⟨0, 0, .cells (.rows true 12 ([.val (.int .i64 ((syncJ (reJ (appJ (reJ J) ((l.getD k EN.z).fst, (l.getD k EN.z).snd.fst, (l.getD k EN.z).snd.snd.fst, (l.getD k EN.z).snd.snd.snd.fst, (l.getD k EN.z).snd.snd.snd.snd)).fst)).fst.N)), .ro (.ints .u8 ((syncJ (reJ (appJ (reJ J) ((l.getD k EN.z).fst, (l.getD k EN.z).snd.fst, (l.getD k EN.z).snd.snd.fst, (l.getD k EN.z).snd.snd.snd.fst, (l.getD k EN.z).snd.snd.snd.snd)).fst)).fst.B)) none, .ro (.tab 2 ((syncJ (reJ (appJ (reJ J) ((l.getD k EN.z).fst, (l.getD k EN.z).snd.fst, (l.getD k EN.z).snd.snd.fst, (l.getD k EN.z).snd.snd.snd.fst, (l.getD k EN.z).snd.snd.snd.snd)).fst)).fst.P.length) (fun i => SW.row ((syncJ (reJ (appJ (reJ J) ((l.getD k EN.z).fst, (l.getD k EN.z).snd.fst, (l.getD k EN.z).snd.snd.fst, (l.getD k EN.z).snd.snd.snd.fst, (l.getD k EN.z).snd.snd.snd.snd)).fst)).fst.P.getD i SW.z))) none, .val (.int .i64 ((syncJ (reJ (appJ (reJ J) ((l.getD k EN.z).fst, (l.getD k EN.z).snd.fst, (l.getD k EN.z).snd.snd.fst, (l.getD k EN.z).snd.snd.snd.fst, (l.getD k EN.z).snd.snd.snd.snd)).fst)).fst.gen)), .val (.int .i64 ((syncJ (reJ (appJ (reJ J) ((l.getD k EN.z).fst, (l.getD k EN.z).snd.fst, (l.getD k EN.z).snd.snd.fst, (l.getD k EN.z).snd.snd.snd.fst, (l.getD k EN.z).snd.snd.snd.snd)).fst)).fst.ep)), .val (.bool ((syncJ (reJ (appJ (reJ J) ((l.getD k EN.z).fst, (l.getD k EN.z).snd.fst, (l.getD k EN.z).snd.snd.fst, (l.getD k EN.z).snd.snd.snd.fst, (l.getD k EN.z).snd.snd.snd.snd)).fst)).fst.so)), .val (.int .i64 ((syncJ (reJ (appJ (reJ J) ((l.getD k EN.z).fst, (l.getD k EN.z).snd.fst, (l.getD k EN.z).snd.snd.fst, (l.getD k EN.z).snd.snd.snd.fst, (l.getD k EN.z).snd.snd.snd.snd)).fst)).fst.lim)), .val (.int .i64 ((syncJ (reJ (appJ (reJ J) ((l.getD k EN.z).fst, (l.getD k EN.z).snd.fst, (l.getD k EN.z).snd.snd.fst, (l.getD k EN.z).snd.snd.snd.fst, (l.getD k EN.z).snd.snd.snd.snd)).fst)).fst.st)), .val (.int .i64 ((syncJ (reJ (appJ (reJ J) ((l.getD k EN.z).fst, (l.getD k EN.z).snd.fst, (l.getD k EN.z).snd.snd.fst, (l.getD k EN.z).snd.snd.snd.fst, (l.getD k EN.z).snd.snd.snd.snd)).fst)).fst.ba)), .val (.int .i64 ((syncJ (reJ (appJ (reJ J) ((l.getD k EN.z).fst, (l.getD k EN.z).snd.fst, (l.getD k EN.z).snd.snd.fst, (l.getD k EN.z).snd.snd.snd.fst, (l.getD k EN.z).snd.snd.snd.snd)).fst)).fst.nx)), .ro (.tab 5 ((syncJ (reJ (appJ (reJ J) ((l.getD k EN.z).fst, (l.getD k EN.z).snd.fst, (l.getD k EN.z).snd.snd.fst, (l.getD k EN.z).snd.snd.snd.fst, (l.getD k EN.z).snd.snd.snd.snd)).fst)).fst.L.length) (fun i => EN.row ((syncJ (reJ (appJ (reJ J) ((l.getD k EN.z).fst, (l.getD k EN.z).snd.fst, (l.getD k EN.z).snd.snd.fst, (l.getD k EN.z).snd.snd.snd.fst, (l.getD k EN.z).snd.snd.snd.snd)).fst)).fst.L.getD i EN.z))) none, .ro (.ints .i64 ((syncJ (reJ (appJ (reJ J) ((l.getD k EN.z).fst, (l.getD k EN.z).snd.fst, (l.getD k EN.z).snd.snd.fst, (l.getD k EN.z).snd.snd.snd.fst, (l.getD k EN.z).snd.snd.snd.snd)).fst)).fst.E)) none] :: []))⟩]⟩ )
                       else
                        some (.ret, stOf 139 [4] [.val (.bool false)] ⟨0, []⟩ )
                      else
                       none
                   else
                    none
                  else
                   none
             else
              none
            else
             none
           else
            none
          else
           none
       else
        none
      else
       some (.exit 0, stOf 139 [] [] ⟨0, []⟩ ) := by kernel_rfl
end Go.Ev

/- JournalPlatters: its loops. -/
set_option linter.unusedVariables false
set_option maxRecDepth 100000
namespace Go.Ev
open Go.Proofs
noncomputable section
def Try.t4 : List (Nat × AFun) := [(12, constA (.bool true)), (17, Try.A17), (22, Try.A22), (23, Try.A23), (24, Try.A24), (25, Try.A25), (26, Try.A26), (27, Try.A34), (28, Try.A28)]
def Try.E4 : Env := Try.env0 false (sumsOf Try.t4) (keepF 4 [(7, [1,2,3,7,38,39]), (16, [1,2,3,8,90,91])])
def Try.b4 : Code := nthD .skip (loopsOf (bodyOf Try.E4 4)) 0
def Try.b4i : Code := nthD .skip (loopsOf (bodyOf Try.E4 4)) 1
def Try.B4 (s : St) : Option (AX × St) := codeS Try.E4 (callF Try.E4 3) (Try.E4.keep 4) (lsumsOf []) Try.b4 (outK [1,2,3,7,38,39] [1,2,3,7]) s
def Try.B4i (s : St) : Option (AX × St) := codeS Try.E4 (callF Try.E4 3) (Try.E4.keep 4) (lsumsOf []) Try.b4i (outK [1,2,3,8,90,91] [1,2,3,6]) s
def Try.V4 (at' : Int) (b : List Int) (n : Int) (v : AV) (k : Nat) : List AV := [.val (.int .i64 at'), .ro (.ints .u8 b) none, .ptr 0 0 0, v, .val (.int .i64 n), .val (.int .i64 k)]
def Try.V4i (at' : Int) (b : List Int) (N : Int) (i : Nat) : List AV := [.val (.int .i64 at'), .ro (.ints .u8 b) none, .ptr 0 0 0, .ptr 1 0 0, .val (.int .i64 N), .val (.int .i64 i)]
def boxD (d : DevD) : Con := box1 d.1 (.ro (.ints .u8 d.2.1) none) (.ro (SW.con d.2.2) none)
def Try.H4 (d : DevD) (K : List Int) : Heap := ⟨2, [⟨1, 0, .cells (.ints .i64 K)⟩, ⟨0, 0, .cells (boxD d)⟩]⟩
def Try.H4i (d x : DevD) : Heap := ⟨2, [⟨1, 0, .cells (boxD x)⟩, ⟨0, 0, .cells (boxD d)⟩]⟩
end
theorem Try.e4 : EnvOk2 Try.prog Try.E4 := Try.envOk false (sumsOf Try.t4) _ (sumsOf_ok (show AllS Try.prog Try.t4 from ⟨Try.saneSum, Try.sum17, Try.sum22, Try.sum23, Try.sum24, Try.sum25, Try.sum26, Try.sum27, Try.sum28, trivial⟩))
theorem Try.r4a (at' : Int) (b : List Int) (n : Int) (d : DevD) (k : Nat) : Try.B4 (stOf 151 [1,2,3,7,38,39] (Try.V4 at' b n (.own 1 0 k none 1) k) (Try.H4 d (k64 k))) =
      bif decide ((↑k : Int) < n) then
       bif (0 + k).ble (k64 k).length then
        bif ((k + 1) * 8).ble most && (k + 1).ble most then
         some (.normal, stOf 151 [1, 2, 3, 7, 38, 39] [.val (.int .i64 (at')), .ro (.ints .u8 (b)) none, .ptr 0 (0) 0, .own 1 (0) (k + 1) none 1, .val (.int .i64 (n)), .val (.int .i64 (IntKind.i64.wrap ((↑k : Int) + 1)))] ⟨2, [⟨1, 0, .cells (.ints .i64 (List.take k (List.drop 0 (k64 k)) ++ [64]))⟩, ⟨0, 0, .cells (.rows true 3 ([.val (.int .i64 (d.fst)), .ro (.ints .u8 (d.snd.fst)) none, .ro (.tab 2 (d.snd.snd.length) (fun i => SW.row (d.snd.snd.getD i SW.z))) none] :: []))⟩]⟩ )
        else
         none
       else
        none
      else
       some (.exit 0, stOf 151 [1, 2, 3, 7] [.val (.int .i64 (at')), .ro (.ints .u8 (b)) none, .ptr 0 (0) 0, .own 1 (0) (k) none 1] ⟨2, [⟨1, 0, .cells (.ints .i64 (k64 k))⟩, ⟨0, 0, .cells (.rows true 3 ([.val (.int .i64 (d.fst)), .ro (.ints .u8 (d.snd.fst)) none, .ro (.tab 2 (d.snd.snd.length) (fun i => SW.row (d.snd.snd.getD i SW.z))) none] :: []))⟩]⟩ ) := by kernel_rfl
theorem Try.r4i (at' : Int) (b : List Int) (n : Int) (d x : DevD) (k : Nat) : Try.B4i (stOf 151 [1,2,3,8,90,91] (Try.V4i at' b n k) (Try.H4i d x)) =
      bif decide ((↑k : Int) < n) then
       bif okSW (SW.con d.snd.snd) then
        bif okSW (SW.con x.snd.snd) then
         bif (sectD (d.fst, d.snd.fst, SW.list (SW.con d.snd.snd)) (↑k : Int)).snd != 0 then
          some (.ret, stOf 151 [1, 2, 3, 6] [.val (.int .i64 (at')), .ro (.ints .u8 (b)) none, .ptr 0 (0) 0, .val (.bool false)] ⟨1, [⟨0, 0, .cells (.rows true 3 ([.val (.int .i64 (d.fst)), .ro (.ints .u8 (d.snd.fst)) none, .ro (.tab 2 (d.snd.snd.length) (fun i => SW.row (d.snd.snd.getD i SW.z))) none] :: []))⟩]⟩ )
         else
          bif (sectD (x.fst, x.snd.fst, SW.list (SW.con x.snd.snd)) (↑k : Int)).snd != 0 then
           some (.ret, stOf 151 [1, 2, 3, 6] [.val (.int .i64 (at')), .ro (.ints .u8 (b)) none, .ptr 0 (0) 0, .val (.bool false)] ⟨1, [⟨0, 0, .cells (.rows true 3 ([.val (.int .i64 (d.fst)), .ro (.ints .u8 (d.snd.fst)) none, .ro (.tab 2 (d.snd.snd.length) (fun i => SW.row (d.snd.snd.getD i SW.z))) none] :: []))⟩]⟩ )
          else
           bif eqS (sectD (d.fst, d.snd.fst, SW.list (SW.con d.snd.snd)) (↑k : Int)).fst (sectD (x.fst, x.snd.fst, SW.list (SW.con x.snd.snd)) (↑k : Int)).fst then
            some (.normal, stOf 151 [1, 2, 3, 8, 90, 91] [.val (.int .i64 (at')), .ro (.ints .u8 (b)) none, .ptr 0 (0) 0, .ptr 1 (0) 0, .val (.int .i64 (n)), .val (.int .i64 (IntKind.i64.wrap ((↑k : Int) + 1)))] ⟨2, [⟨1, 0, .cells (.rows true 3 ([.val (.int .i64 (x.fst)), .ro (.ints .u8 (x.snd.fst)) none, .ro (.tab 2 (x.snd.snd.length) (fun i => SW.row (x.snd.snd.getD i SW.z))) none] :: []))⟩, ⟨0, 0, .cells (.rows true 3 ([.val (.int .i64 (d.fst)), .ro (.ints .u8 (d.snd.fst)) none, .ro (.tab 2 (d.snd.snd.length) (fun i => SW.row (d.snd.snd.getD i SW.z))) none] :: []))⟩]⟩ )
           else
            some (.ret, stOf 151 [1, 2, 3, 6] [.val (.int .i64 (at')), .ro (.ints .u8 (b)) none, .ptr 0 (0) 0, .val (.bool false)] ⟨1, [⟨0, 0, .cells (.rows true 3 ([.val (.int .i64 (d.fst)), .ro (.ints .u8 (d.snd.fst)) none, .ro (.tab 2 (d.snd.snd.length) (fun i => SW.row (d.snd.snd.getD i SW.z))) none] :: []))⟩]⟩ )
        else
         none
       else
        none
      else
       some (.exit 2, stOf 151 [1, 2, 3] [.val (.int .i64 (at')), .ro (.ints .u8 (b)) none, .ptr 0 (0) 0] ⟨1, [⟨0, 0, .cells (.rows true 3 ([.val (.int .i64 (d.fst)), .ro (.ints .u8 (d.snd.fst)) none, .ro (.tab 2 (d.snd.snd.length) (fun i => SW.row (d.snd.snd.getD i SW.z))) none] :: []))⟩]⟩ ) := by kernel_rfl
noncomputable section
def Try.s4 (at' : Int) (b : List Int) (d : DevD) : St := stOf 151 [1,2,3,7,38,39] (Try.V4 at' b d.2.2.length (.val (.slice none 0 0)) 0) (oneH (boxD d))
def Try.o4 (at' : Int) (b : List Int) (d : DevD) : AX × St := (.exit 0, stOf 151 [1,2,3,7] [.val (.int .i64 at'), .ro (.ints .u8 b) none, .ptr 0 0 0, .ro (.ints .i64 (k64 d.2.2.length)) none] ⟨2, [⟨0, 0, .cells (boxD d)⟩]⟩)
def Try.L4 (at' : Int) (b : List Int) (d : DevD) : LSum := atL (Try.s4 at' b d) (.grd (Nat.ble d.2.2.length 1000000) (.out (Try.o4 at' b d)))
def Try.s4i (at' : Int) (b : List Int) (d x : DevD) : St := stOf 151 [1,2,3,8,90,91] (Try.V4i at' b d.1 0) (Try.H4i d x)
def Try.o4i (at' : Int) (b : List Int) (d : DevD) : AX × St := (.exit 2, stOf 151 [1,2,3] [.val (.int .i64 at'), .ro (.ints .u8 b) none, .ptr 0 0 0] (oneH (boxD d)))
def seqAll (d x : DevD) : Prop := okSW (SW.con d.2.2) = true ∧ okSW (SW.con x.2.2) = true ∧ 0 ≤ d.1 ∧ d.1 ≤ 1000000 ∧ ∀ k : Nat, (k : Int) < d.1 → (sectD d k).2 = 0 ∧ (sectD x k).2 = 0 ∧ eqS (sectD d k).1 (sectD x k).1 = true
def Try.L4i (at' : Int) (b : List Int) (d x : DevD) : LSum := atL (Try.s4i at' b d x) (.grd (propB (seqAll d x)) (.out (Try.o4i at' b d)))
end
theorem Try.l4 (at' : Int) (b : List Int) (d : DevD) : ∀ s e s', s.h.ok → (Try.L4 at' b d s).run = some (e, s') → Triple Try.prog (.loop Try.b4) s e s' := by
  refine atL_grd (fun hP => ?_)
  rw [Nat.ble_eq] at hP
  refine loop_at Try.e4 (d := 3) (g := 4) (ls := lsumsOf []) (c := Try.b4) trivial [1,2,3,7,38,39] [1,2,3,7] (T := Nat)
    (fun k => stOf 151 [1,2,3,7,38,39] (Try.V4 at' b d.2.2.length (.own 1 0 k none 1) k) (Try.H4 d (k64 k))) (fun k => k ≤ d.2.2.length) (fun k => d.2.2.length - k) (fun _ => Try.o4 at' b d) _ _ 0 (Nat.zero_le _) ?_ ?_ (fun k _ => two_ok _ _) ?_
  · exact Weak.nil (oneH_ok _) 7 (.ints .i64 []) rfl rfl
  · intro e s' h
    exact Option.some.inj h
  · intro k h2
    replace h2 : k ≤ d.2.2.length := h2
    have key := Try.r4a at' b d.2.2.length d k
    have ek : (k64 k).length = k := List.length_replicate
    by_cases hk : k < d.2.2.length
    · have e1 : List.take k (List.drop 0 (k64 k)) ++ [64] = k64 (k + 1) := by
        rw [List.drop_zero, List.take_of_length_le (by omega)]; exact List.replicate_succ'.symm
      rw [declt_nat, decide_eq_true hk, ek, Nat.zero_add, ble_t (Nat.le_refl _), ble_t (show (k + 1) * 8 ≤ most by rw [most_eq]; omega), ble_t (show k + 1 ≤ most by rw [most_eq]; omega), wrapT k (by omega), e1] at key
      exact .inl ⟨k + 1, _, key, Weak.refl (two_ok _ _), hk, by omega, rfl⟩
    · have : k = d.2.2.length := by omega
      subst this
      rw [declt_nat, decide_eq_false hk] at key
      have fz : FzL 1 (.ints .i64 (k64 d.2.2.length)) [.val (.int .i64 at'), .ro (.ints .u8 b) none, .ptr 0 0 0, .own 1 0 d.2.2.length none 1] [.val (.int .i64 at'), .ro (.ints .u8 b) none, .ptr 0 0 0, .ro (.ints .i64 (k64 d.2.2.length)) none] :=
        .cons (.inl rfl) (.cons (.inl rfl) (.cons (.inl rfl) (.cons (.inr (.inr ⟨none, by show AV.own 1 0 d.2.2.length none 1 = .own 1 0 (k64 d.2.2.length).length none 1; rw [ek], rfl⟩)) .nil)))
      exact .inr ⟨_, key, Weak.fzSt (two_ok _ _) rfl fz, by show (AX.exit 0) ≠ .normal; intro h; cases h⟩
theorem Try.l4i (at' : Int) (b : List Int) (d x : DevD) : ∀ s e s', s.h.ok → (Try.L4i at' b d x s).run = some (e, s') → Triple Try.prog (.loop Try.b4i) s e s' := by
  refine atL_grd (fun hp => ?_)
  obtain ⟨hd, hx, h0, hN, heq⟩ := propB_eq hp
  refine loop_at Try.e4 (d := 3) (g := 4) (ls := lsumsOf []) (c := Try.b4i) trivial [1,2,3,8,90,91] [1,2,3,6] (T := Nat)
    (fun k => stOf 151 [1,2,3,8,90,91] (Try.V4i at' b d.1 k) (Try.H4i d x)) (fun k => (k : Int) ≤ d.1) (fun k => d.1.toNat - k) (fun _ => Try.o4i at' b d) _ _ 0 h0 (Weak.refl (two_ok _ _)) ?_ (fun k _ => two_ok _ _) ?_
  · intro e s' h
    exact Option.some.inj h
  · intro k h2
    replace h2 : (k : Int) ≤ d.1 := h2
    have key := Try.r4i at' b d.1 d x k
    rw [SW_list_con, SW_list_con, hd, hx] at key
    by_cases hk : (k : Int) < d.1
    · obtain ⟨a1, a2, a3⟩ := heq k hk
      rw [decide_eq_true hk, show (d.1, d.2.1, d.2.2) = d from rfl, show (x.1, x.2.1, x.2.2) = x from rfl, a1, a2, a3, wrapT k (by omega)] at key
      exact .inl ⟨k + 1, _, key, Weak.refl (two_ok _ _), by omega, by omega, rfl⟩
    · rw [decide_eq_false hk] at key
      exact .inr ⟨_, key, Weak.refl (oneH_ok _), by show (AX.exit 2) ≠ .normal; intro h; cases h⟩
theorem Try.r4 (at' : Int) (b : List Int) (N : Int) (B : List Int) (P : List SwD) : rootS Try.E4 3 4 (lsumsOf [(7, Try.L4 at' b (N, B, P)), (16, Try.L4i at' b (N, B, P) (flushD (N, B, SW.list (SW.con P))).1)]) [devA N B P, .val (.int .i64 at'), .ro (.ints .u8 b) none] =
      bif okSW (SW.con P) then
       bif smallB N B (SW.list (SW.con P)) then
        bif okSW (SW.con P) then
         bif isDevB N B (SW.list (SW.con P)) then
          bif decide ((↑b.length : Int) > 1000) then
           some (.val (.bool true), ⟨0, []⟩)
          else
           bif isSt (Try.s4 at' b (N, B, P)) (Try.s4 at' b (N, B, P)) then
            bif (N, B, P).snd.snd.length.ble 1000000 then
             bif okSW (SW.con (N, B, P).snd.snd) then
              bif okSW (SW.con (N, B, P).snd.snd) && (k64 (N, B, P).snd.snd.length).length.ble 9223372036854775807 then
               bif okSW (SW.con (flushD ((N, B, P).fst, (N, B, P).snd.fst, SW.list (SW.con (N, B, P).snd.snd))).fst.snd.snd) && true then
                bif (flushD ((N, B, P).fst, (N, B, P).snd.fst, SW.list (SW.con (N, B, P).snd.snd))).snd != 0 then
                 some (.val (.bool false), ⟨0, []⟩)
                else
                 bif (failD ((N, B, P).fst, (N, B, P).snd.fst, SW.list (SW.con (N, B, P).snd.snd)) (k64 (N, B, P).snd.snd.length)).snd != 0 then
                  some (.val (.bool false), ⟨0, []⟩)
                 else
                  bif (failD ((flushD ((N, B, P).fst, (N, B, P).snd.fst, SW.list (SW.con (N, B, P).snd.snd))).fst.fst, (flushD ((N, B, P).fst, (N, B, P).snd.fst, SW.list (SW.con (N, B, P).snd.snd))).fst.snd.fst, SW.list (SW.con (flushD ((N, B, P).fst, (N, B, P).snd.fst, SW.list (SW.con (N, B, P).snd.snd))).fst.snd.snd)) []).snd != 0 then
                   some (.val (.bool false), ⟨0, []⟩)
                  else
                   bif okSW (SW.con (flushD ((N, B, P).fst, (N, B, P).snd.fst, SW.list (SW.con (N, B, P).snd.snd))).fst.snd.snd) && okSW (SW.con (failD ((N, B, P).fst, (N, B, P).snd.fst, SW.list (SW.con (N, B, P).snd.snd)) (k64 (N, B, P).snd.snd.length)).fst.snd.snd) then
                    bif sameD ((flushD ((N, B, P).fst, (N, B, P).snd.fst, SW.list (SW.con (N, B, P).snd.snd))).fst.fst, (flushD ((N, B, P).fst, (N, B, P).snd.fst, SW.list (SW.con (N, B, P).snd.snd))).fst.snd.fst, SW.list (SW.con (flushD ((N, B, P).fst, (N, B, P).snd.fst, SW.list (SW.con (N, B, P).snd.snd))).fst.snd.snd)) ((failD ((N, B, P).fst, (N, B, P).snd.fst, SW.list (SW.con (N, B, P).snd.snd)) (k64 (N, B, P).snd.snd.length)).fst.fst, (failD ((N, B, P).fst, (N, B, P).snd.fst, SW.list (SW.con (N, B, P).snd.snd)) (k64 (N, B, P).snd.snd.length)).fst.snd.fst, SW.list (SW.con (failD ((N, B, P).fst, (N, B, P).snd.fst, SW.list (SW.con (N, B, P).snd.snd)) (k64 (N, B, P).snd.snd.length)).fst.snd.snd)) then
                     bif okSW (SW.con (flushD ((N, B, P).fst, (N, B, P).snd.fst, SW.list (SW.con (N, B, P).snd.snd))).fst.snd.snd) && okSW (SW.con (failD ((flushD ((N, B, P).fst, (N, B, P).snd.fst, SW.list (SW.con (N, B, P).snd.snd))).fst.fst, (flushD ((N, B, P).fst, (N, B, P).snd.fst, SW.list (SW.con (N, B, P).snd.snd))).fst.snd.fst, SW.list (SW.con (flushD ((N, B, P).fst, (N, B, P).snd.fst, SW.list (SW.con (N, B, P).snd.snd))).fst.snd.snd)) []).fst.snd.snd) then
                      bif sameD ((flushD ((N, B, P).fst, (N, B, P).snd.fst, SW.list (SW.con (N, B, P).snd.snd))).fst.fst, (flushD ((N, B, P).fst, (N, B, P).snd.fst, SW.list (SW.con (N, B, P).snd.snd))).fst.snd.fst, SW.list (SW.con (flushD ((N, B, P).fst, (N, B, P).snd.fst, SW.list (SW.con (N, B, P).snd.snd))).fst.snd.snd)) ((failD ((flushD ((N, B, P).fst, (N, B, P).snd.fst, SW.list (SW.con (N, B, P).snd.snd))).fst.fst, (flushD ((N, B, P).fst, (N, B, P).snd.fst, SW.list (SW.con (N, B, P).snd.snd))).fst.snd.fst, SW.list (SW.con (flushD ((N, B, P).fst, (N, B, P).snd.fst, SW.list (SW.con (N, B, P).snd.snd))).fst.snd.snd)) []).fst.fst, (failD ((flushD ((N, B, P).fst, (N, B, P).snd.fst, SW.list (SW.con (N, B, P).snd.snd))).fst.fst, (flushD ((N, B, P).fst, (N, B, P).snd.fst, SW.list (SW.con (N, B, P).snd.snd))).fst.snd.fst, SW.list (SW.con (flushD ((N, B, P).fst, (N, B, P).snd.fst, SW.list (SW.con (N, B, P).snd.snd))).fst.snd.snd)) []).fst.snd.fst, SW.list (SW.con (failD ((flushD ((N, B, P).fst, (N, B, P).snd.fst, SW.list (SW.con (N, B, P).snd.snd))).fst.fst, (flushD ((N, B, P).fst, (N, B, P).snd.fst, SW.list (SW.con (N, B, P).snd.snd))).fst.snd.fst, SW.list (SW.con (flushD ((N, B, P).fst, (N, B, P).snd.fst, SW.list (SW.con (N, B, P).snd.snd))).fst.snd.snd)) []).fst.snd.snd)) then
                       bif decide ((↑(flushD ((N, B, P).fst, (N, B, P).snd.fst, SW.list (SW.con (N, B, P).snd.snd))).fst.snd.snd.length : Int) > 0) then
                        some (.val (.bool false), ⟨0, []⟩)
                       else
                        bif isSt (Try.s4i at' b (N, B, P) (flushD (N, B, SW.list (SW.con P))).fst) (Try.s4i at' b (N, B, P) (flushD (N, B, SW.list (SW.con P))).fst) then
                         bif propB (seqAll (N, B, P) (flushD (N, B, SW.list (SW.con P))).fst) then
                          bif okSW (SW.con (N, B, P).snd.snd) && b.length.ble 1000000 then
                           bif (writeD ((N, B, P).fst, (N, B, P).snd.fst, SW.list (SW.con (N, B, P).snd.snd)) at' b).snd != 0 then
                            some (.val (.bool true), ⟨0, []⟩)
                           else
                            bif okSW (SW.con (writeD ((N, B, P).fst, (N, B, P).snd.fst, SW.list (SW.con (N, B, P).snd.snd)) at' b).fst.snd.snd) then
                             bif (sectD ((writeD ((N, B, P).fst, (N, B, P).snd.fst, SW.list (SW.con (N, B, P).snd.snd)) at' b).fst.fst, (writeD ((N, B, P).fst, (N, B, P).snd.fst, SW.list (SW.con (N, B, P).snd.snd)) at' b).fst.snd.fst, SW.list (SW.con (writeD ((N, B, P).fst, (N, B, P).snd.fst, SW.list (SW.con (N, B, P).snd.snd)) at' b).fst.snd.snd)) at').snd == 0 then
                              bif eqS (sectD ((writeD ((N, B, P).fst, (N, B, P).snd.fst, SW.list (SW.con (N, B, P).snd.snd)) at' b).fst.fst, (writeD ((N, B, P).fst, (N, B, P).snd.fst, SW.list (SW.con (N, B, P).snd.snd)) at' b).fst.snd.fst, SW.list (SW.con (writeD ((N, B, P).fst, (N, B, P).snd.fst, SW.list (SW.con (N, B, P).snd.snd)) at' b).fst.snd.snd)) at').fst b then
                               bif (↑(writeD ((N, B, P).fst, (N, B, P).snd.fst, SW.list (SW.con (N, B, P).snd.snd)) at' b).fst.snd.snd.length : Int) == IntKind.i64.wrap ((↑(N, B, P).snd.snd.length : Int) + 1) then
                                some (.val (.bool true), ⟨0, []⟩)
                               else
                                some (.val (.bool false), ⟨0, []⟩)
                              else
                               some (.val (.bool false), ⟨0, []⟩)
                             else
                              some (.val (.bool false), ⟨0, []⟩)
                            else
                             none
                          else
                           none
                         else
                          none
                        else
                         none
                      else
                       some (.val (.bool false), ⟨0, []⟩)
                     else
                      none
                    else
                     some (.val (.bool false), ⟨0, []⟩)
                   else
                    none
               else
                none
              else
               none
             else
              none
            else
             none
           else
            none
         else
          some (.val (.bool true), ⟨0, []⟩)
        else
         none
       else
        some (.val (.bool true), ⟨0, []⟩)
      else
       none := by kernel_rfl
end Go.Ev

/- JournalPlatters: the plain law. -/
set_option linter.unusedVariables false
set_option linter.unusedSimpArgs false
set_option maxRecDepth 100000
namespace Go.Ev
open Go.Proofs
theorem putAt_get {B : List Int} {off : Nat} {src : List Int} (h : off + src.length ≤ B.length) (j : Nat) : (putAt B off src)[j]? = if j < off then B[j]? else if j < off + src.length then src[j - off]? else B[j]? := by
  unfold putAt
  rw [List.getElem?_append, List.getElem?_take, List.length_take, List.getElem?_append, List.getElem?_drop, Nat.min_eq_left (by omega)]
  by_cases h1 : j < off
  · rw [if_pos h1, if_pos h1, if_pos h1]
  · rw [if_neg h1, if_neg h1]
    by_cases h2 : j < off + src.length
    · rw [if_pos h2, if_pos (by omega)]
    · rw [if_neg h2, if_neg (by omega), show off + src.length + (j - off - src.length) = j by omega]
def sect (B : List Int) (t : Nat) : List Int := (B.drop (t * 64)).take 64
theorem sect_put {B : List Int} {a t : Nat} {src : List Int} (hs : src.length = 64) (h : a * 64 + 64 ≤ B.length) : sect (putAt B (a * 64) src) t = bif a == t then src else sect B t := by
  apply List.ext_getElem?
  intro j
  unfold sect
  rw [List.getElem?_take, List.getElem?_drop, putAt_get (by omega)]
  by_cases h1 : a = t
  · subst h1
    rw [beq_self_eq_true, cond_true]
    by_cases h2 : j < 64
    · rw [if_pos h2, if_neg (by omega), if_pos (by omega), show a * 64 + j - a * 64 = j by omega]
    · rw [if_neg h2, List.getElem?_eq_none (by omega)]
  · rw [show (a == t) = false by simpa using h1, cond_false, List.getElem?_take, List.getElem?_drop]
    by_cases h2 : j < 64
    · rw [if_pos h2, if_pos h2]
      by_cases h3 : t < a
      · rw [if_pos (by omega)]
      · rw [if_neg (by omega), if_neg (by omega)]
    · rw [if_neg h2, if_neg h2]
theorem settle_sect {N : Int} {B : List Int} {P : List SwD} (h : DevFacts N B P) (t : Nat) : ∀ m, m ≤ P.length → sect (settleN (fun _ => 64) P B m) t = bif hasW P t m then getW P t m else sect B t
  | 0, _ => rfl
  | m + 1, hm => by
    have ih := settle_sect h t m (by omega)
    have e0 := h.at0 m hm
    have e1 := h.at1 m hm
    have e2 := h.wl m hm
    have e3 := h.len
    have e4 := settleN_len (many := fun _ => 64) h m (by omega)
    show sect (putAt (settleN (fun _ => 64) P B m) ((P.getD m SW.z).1.toNat * 64) ((P.getD m SW.z).2.take 64)) t = bif (bif (P.getD m SW.z).1 == (t : Int) then true else hasW P t m) then (bif (P.getD m SW.z).1 == (t : Int) then (P.getD m SW.z).2 else getW P t m) else sect B t
    rw [List.take_of_length_le (by omega), sect_put e2 (by omega), ih]
    by_cases hq : (P.getD m SW.z).1 = (t : Int)
    · rw [hq, beq_self_eq_true, Int.toNat_natCast, beq_self_eq_true]; rfl
    · rw [show ((P.getD m SW.z).1 == (t : Int)) = false by simpa using hq, show ((P.getD m SW.z).1.toNat == t) = false by
        rw [beq_eq_false_iff_ne]; omega]
      rfl
theorem isDevB_settled {N : Int} {B : List Int} {P : List SwD} (h : isDevB N B P = true) (many : Nat → Nat) : isDevB N (settleN many P B P.length) [] = true := by
  have hf := settleN_len (many := many) (dev_facts h) P.length (Nat.le_refl _)
  unfold isDevB at h ⊢
  simp only [Bool.and_eq_true] at h ⊢
  rw [hf]
  exact ⟨h.1, h.2.1, h.2.2.1, rfl, rfl⟩
theorem isDevB_write {N : Int} {B : List Int} {P : List SwD} (h : isDevB N B P = true) {at' : Int} {b : List Int} (h0 : 0 ≤ at') (h1 : at' < N) (h2 : b.length = 64) (h3 : P.length < 2000) : isDevB N B (P ++ [(at', b)]) = true := by
  unfold isDevB at h ⊢
  simp only [Bool.and_eq_true, decide_eq_true_eq] at h ⊢
  obtain ⟨k1, k2, k3, k4, k5⟩ := h
  refine ⟨k1, k2, k3, ?_, ?_⟩
  · rw [List.length_append]; simp only [List.length_cons, List.length_nil]; omega
  · rw [List.any_append, Bool.not_eq_true', Bool.or_eq_false_iff]
    refine ⟨by simpa using k5, ?_⟩
    simp [badB, h0, h1, h2]
theorem readD_nil (N : Int) (D : List Int) (t : Nat) : readD (N, D, []) t = sect D t := by
  show (bif false then _ else _) = _
  rw [cond_false]
  unfold sect
  show ((D.drop ((t : Int) * 64).toNat).take 64) = _
  rw [show ((t : Int) * 64).toNat = t * 64 by omega]
theorem readD_settled {N : Int} {B : List Int} {P : List SwD} (h : isDevB N B P = true) (t : Nat) : readD (N, settleN (fun _ => 64) P B P.length, []) t = readD (N, B, P) t := by
  rw [readD_nil, settle_sect (dev_facts h) t P.length (Nat.le_refl _)]
  unfold readD
  simp only
  rw [show ((t : Int) * 64).toNat = t * 64 by omega]
  rfl
theorem eqS_self (l : List Int) : eqS l l = true := by unfold eqS; simp
theorem law4_facts {N : Int} {B : List Int} {P : List SwD} (h : isDevB N B P = true) : flushD (N, B, P) = ((N, settleN (fun _ => 64) P B P.length, []), 0) ∧ failD (N, B, P) (k64 P.length) = ((N, settleN (fun _ => 64) P B P.length, []), 0) ∧
    failD (N, settleN (fun _ => 64) P B P.length, []) [] = ((N, settleN (fun _ => 64) P B P.length, []), 0) ∧ seqAll (N, B, P) (N, settleN (fun _ => 64) P B P.length, []) := by
  have hf := dev_facts h
  have hx := isDevB_settled h (fun _ => 64)
  have f1 := hf.few
  have f2 := hf.lo
  have f3 := hf.hi
  refine ⟨?_, ?_, ?_, ?_⟩
  · unfold flushD isDevD settled
    simp only
    rw [h, cond_true]
  · unfold failD isDevD settled
    simp only
    rw [h, cond_true, any64, show (k64 P.length).length = P.length from List.length_replicate, decide_eq_false (by omega), settleN_congr (f := manyK (k64 P.length)) (g := fun _ => 64) P.length (fun k hk => many64 hk)]
    rfl
  · unfold failD isDevD settled
    simp only
    rw [hx, cond_true]
    rfl
  · refine ⟨okSW_le (by show P.length ≤ _; omega), okSW_le (by simp), by show 0 ≤ N; omega, by show N ≤ _; omega, fun k hk => ?_⟩
    replace hk : (k : Int) < N := hk
    unfold sectD isDevD
    simp only
    rw [h, hx, decide_eq_true hk, decide_eq_true (show (0 : Int) ≤ k by omega), readD_settled h]
    exact ⟨rfl, rfl, eqS_self _⟩
theorem write_facts {N : Int} {B : List Int} {P : List SwD} (h : isDevB N B P = true) (at' : Int) (b : List Int) : ((writeD (N, B, P) at' b).2 != 0) = true ∨
    writeD (N, B, P) at' b = ((N, B, P ++ [(at', b)]), 0) ∧ sectD (N, B, P ++ [(at', b)]) at' = (b, 0) := by
  have hf := dev_facts h
  have f1 := hf.few
  unfold writeD isDevD
  simp only
  rw [h, cond_true]
  cases h1 : !(decide (at' ≥ 0) && decide (at' < N)) || ((b.length : Int) != 64) with
  | true => exact .inl rfl
  | false =>
    rw [cond_false]
    rw [Bool.or_eq_false_iff, Bool.not_eq_false', Bool.and_eq_true, decide_eq_true_eq, decide_eq_true_eq] at h1
    obtain ⟨⟨k1, k2⟩, k3⟩ := h1
    have k3 : b.length = 64 := by rw [bne, Bool.not_eq_false', beq_iff_eq] at k3; omega
    cases h2 : ((P.length : Int) == 2000) with
    | true => exact .inl rfl
    | false =>
      rw [beq_eq_false_iff_ne] at h2
      refine .inr ⟨rfl, ?_⟩
      have hw := isDevB_write h (b := b) k1 k2 k3 (by omega)
      unfold sectD isDevD
      simp only
      rw [hw, decide_eq_true (show 0 ≤ at' from k1), decide_eq_true k2]
      show (readD _ _, _) = _
      unfold readD
      simp only
      have e1 : (P ++ [(at', b)]).length = P.length + 1 := by simp
      have e2 : (P ++ [(at', b)]).getD P.length SW.z = (at', b) := by
        rw [List.getD_eq_getElem?_getD, List.getElem?_append_right (Nat.le_refl _)]; simp
      rw [e1]
      show (bif (bif ((P ++ [(at', b)]).getD P.length SW.z).1 == at' then true else _) then (bif ((P ++ [(at', b)]).getD P.length SW.z).1 == at' then ((P ++ [(at', b)]).getD P.length SW.z).2 else _) else _, _) = _
      rw [e2]
      simp only [beq_self_eq_true, cond_true]
theorem Try.law4 (at' : Int) (b : List Int) (N : Int) (B : List Int) (P : List SwD) (hP : P.length ≤ 9223372036854775807) : rootS Try.E4 3 4 (lsumsOf [(7, Try.L4 at' b (N, B, P)), (16, Try.L4i at' b (N, B, P) (flushD (N, B, SW.list (SW.con P))).1)]) [devA N B P, .val (.int .i64 at'), .ro (.ints .u8 b) none] = some (.val (.bool true), ⟨0, []⟩) := by
  rw [Try.r4]
  have o1 := okSW_le hP
  have o4 : okSW (SW.con ([] : List SwD)) = true := okSW_le (by simp)
  simp only [SW_list_con, o1, cond_true']
  cases smallB N B P with
  | false => rfl
  | true =>
  cases hd : isDevB N B P with
  | false => rfl
  | true =>
  cases h1 : decide ((b.length : Int) > 1000) with
  | true => rfl
  | false =>
  rw [decide_eq_false_iff_not] at h1
  obtain ⟨a1, a2, a3, a4⟩ := law4_facts hd
  have hf := dev_facts hd
  have f1 := hf.few
  simp only [a1, a2, a3, SW_list_con, isSt_refl, o4, cond_true', cond_false', propB_t a4, ble_t (show P.length ≤ 1000000 by omega), show (k64 P.length).length = P.length from List.length_replicate, ble_t (show P.length ≤ 9223372036854775807 by omega), ble_t (show b.length ≤ 1000000 by omega), Bool.and_self, bne_self_eq_false, sameD_refl, List.length_nil, show decide (((0 : Nat) : Int) > 0) = false from rfl]
  rcases write_facts hd at' b with hw | ⟨hw, hs⟩
  · simp only [hw, cond_true']
  · have o5 : okSW (SW.con (P ++ [(at', b)])) = true := okSW_le (by simp; omega)
    simp only [hw, bne_self_eq_false, cond_false', o5, cond_true', hs, beq_self_eq_true, eqS_self]
    rw [List.length_append, wrapT P.length (by omega)]
    simp
end Go.Ev

/- Journals: what Append, Sync and Trim keep. -/
set_option linter.unusedVariables false
set_option linter.unusedSimpArgs false
set_option maxRecDepth 100000
namespace Go.Ev
open Go.Proofs
/-- A valid journal, whose entries' ends are told without overflow. -/
structure JX (J : JD) : Prop where
  jr : JrFacts J
  ex : ∀ k, k < J.L.length → J.E.getD k 0 = atJ J.st J.E k + secs (encD (J.L.getD k EN.z)).length
theorem chain_of {J : JD} : ∀ {n : Nat}, (∀ k, k < n → stepB J k = true) → chainB J n = true
  | 0, _ => rfl
  | n + 1, h => by
    show (chainB J n && stepB J n) = true
    rw [chain_of (fun k hk => h k (by omega)), h n (by omega)]; rfl
theorem secs_pos (n : Nat) : 1 ≤ secs n := by unfold secs; omega
theorem secs_le {n : Nat} : secs n ≤ n + 1 := by unfold secs; omega
/-- The ends grow. -/
theorem at_mono {J : JD} (h : JX J) : ∀ {a b : Nat}, a ≤ b → b ≤ J.L.length → atJ J.st J.E a + (b - a : Nat) ≤ atJ J.st J.E b := by
  intro a b
  induction b with
  | zero => intro h1 h2; have : a = 0 := by omega
            subst this; simp
  | succ b ih =>
    intro h1 h2
    rcases Nat.lt_or_ge b a with q | q
    · have : a = b + 1 := by omega
      subst this; simp
    · have h3 := ih q (by omega)
      have h4 := h.ex b (by omega)
      have h5 := secs_pos (encD (J.L.getD b EN.z)).length
      show _ ≤ J.E.getD b 0
      omega
theorem at_le {J : JD} (h : JX J) {a : Nat} (ha : a ≤ J.L.length) : J.st + a ≤ atJ J.st J.E a ∧ atJ J.st J.E a + (J.L.length - a : Nat) ≤ J.nx := by
  have h1 := at_mono h (Nat.zero_le a) ha
  have h2 := at_mono h ha (Nat.le_refl _)
  rw [h.jr.fin] at h2
  have h3 : atJ J.st J.E 0 = J.st := rfl
  rw [h3] at h1
  omega
theorem jx_len {J : JD} (h : JX J) : J.L.length ≤ 1073741824 := by
  have := (at_le h (Nat.le_refl _)).1
  rw [h.jr.fin] at this
  have h1 := h.jr.nm
  have h2 := h.jr.b0
  have h3 := h.jr.bs
  omega
theorem jx_ok {J : JD} (h : JX J) : J.ok = true := by
  have hd := dev_facts h.jr.dev
  have h1 := hd.few
  have h2 := jx_len h
  unfold JD.ok
  rw [okSW_le (by omega), okEN_le (by omega)]
  rfl
/-- What is valid, from the exact ends. -/
theorem jx_of {J : JD} (dev : isDevB J.N J.B J.P = true) (g0 : 1 ≤ J.gen) (g1 : J.gen ≤ 1073741824) (e0 : 1 ≤ J.ep) (e1 : J.ep ≤ 1073741824) (b0 : 0 ≤ J.ba) (bs : J.ba ≤ J.st) (sn : J.st ≤ J.nx) (nm : J.nx ≤ 1073741824) (room : J.nx - J.ba ≤ J.N - 2)
    (l0 : 0 ≤ J.lim) (l1 : J.lim ≤ J.nx) (len : J.E.length = J.L.length) (ents : ∀ k, k < J.L.length → entD? (J.L.getD k EN.z) = true) (ex : ∀ k, k < J.L.length → J.E.getD k 0 = atJ J.st J.E k + secs (encD (J.L.getD k EN.z)).length)
    (fin : atJ J.st J.E J.L.length = J.nx) : JX J := by
  refine ⟨⟨dev, g0, g1, e0, e1, b0, bs, sn, nm, room, l0, l1, len, chain_of (fun k hk => ?_), fin⟩, ex⟩
  unfold stepB
  have h1 := ents k hk
  rw [h1, Bool.true_and, ex k hk]
  unfold entD? at h1
  have h2 := ent_len h1
  have h3 := encD_len (J.L.getD k EN.z)
  have h4 := secs_le (n := (encD (J.L.getD k EN.z)).length)
  have h5 := secs_pos (encD (J.L.getD k EN.z)).length
  rw [show atJ J.st J.E k + secs (encD (J.L.getD k EN.z)).length - atJ J.st J.E k = secs (encD (J.L.getD k EN.z)).length by omega, wrap64 _ (by omega) (by omega)]
  exact beq_self_eq_true _
theorem jx_ent {J : JD} (h : JX J) {k : Nat} (hk : k < J.L.length) : entD? (J.L.getD k EN.z) = true := by
  have := chain_ents h.jr.chain k hk
  unfold stepB at this
  rw [Bool.and_eq_true] at this
  exact this.1
theorem atJ_app (st : Int) (E : List Int) (y : Int) : ∀ k, k ≤ E.length → atJ st (E ++ [y]) k = atJ st E k
  | 0, _ => rfl
  | k + 1, h => by
    show (E ++ [y]).getD k 0 = E.getD k 0
    rw [List.getD_eq_getElem?_getD, List.getD_eq_getElem?_getD, List.getElem?_append_left (by omega)]
theorem placeI_ok {N s : Int} (hN : 8 ≤ N) (hs : 0 ≤ s) : 2 ≤ placeI N s ∧ placeI N s < N := by
  unfold placeI
  have t1 := Int.tmod_nonneg (b := N - 2) hs
  have t2 := Int.tmod_lt_of_pos s (show 0 < N - 2 by omega)
  omega
theorem isDevB_writes {N : Int} {B : List Int} {P W : List SwD} (h : isDevB N B P = true) (hW : ∀ w ∈ W, 0 ≤ w.1 ∧ w.1 < N ∧ w.2.length = 64) (hl : P.length + W.length ≤ 2000) : isDevB N B (P ++ W) = true := by
  unfold isDevB at h ⊢
  simp only [Bool.and_eq_true, decide_eq_true_eq] at h ⊢
  obtain ⟨k1, k2, k3, k4, k5⟩ := h
  refine ⟨k1, k2, k3, ?_, ?_⟩
  · rw [List.length_append]; omega
  · rw [List.any_append, Bool.not_eq_true', Bool.or_eq_false_iff]
    refine ⟨by simpa using k5, ?_⟩
    rw [List.any_eq_false]
    intro w hw
    obtain ⟨h1, h2, h3⟩ := hW w hw
    simp [badB, h1, h2, h3]
theorem wr_ok {J : JD} {e : EntD} (hN : 8 ≤ J.N) (hx : 0 ≤ J.nx) {w : SwD} {k : Nat} (hw : w ∈ writesN J e k) : 0 ≤ w.1 ∧ w.1 < J.N ∧ w.2.length = 64 := by
  unfold writesN at hw
  obtain ⟨i, _, rfl⟩ := List.mem_map.1 hw
  have := placeI_ok (s := J.nx + i) hN (by omega)
  exact ⟨by show 0 ≤ placeI J.N (J.nx + i); omega, this.2, dataB_len (pieceB_len _ _)⟩
theorem appX_jx {J : JD} {e : EntD} (h : JX J) (he : entD? e = true) (h1 : (nP (encD e) : Int) ≤ freeI J) (h2 : J.P.length + nP (encD e) ≤ 2000) : JX (appX J e) := by
  have hd := dev_facts h.jr.dev
  have d1 := hd.lo
  have n0 := h.jr.b0
  have n1 := h.jr.bs
  have n2 := h.jr.sn
  have n3 := h.jr.nm
  have n4 := h.jr.room
  have n5 := h.jr.l1
  have n6 := h.jr.len
  unfold freeI at h1
  have hs := secs_nP (encD_pos e)
  refine jx_of (J := appX J e) (isDevB_writes h.jr.dev (fun w hw => wr_ok d1 (by omega) hw) (by rw [writesN_len]; exact h2)) h.jr.g0 h.jr.g1 h.jr.e0 h.jr.e1 h.jr.b0 h.jr.bs (by show J.st ≤ J.nx + _; omega) (by show J.nx + (nP (encD e) : Int) ≤ _; omega) (by show J.nx + (nP (encD e) : Int) - J.ba ≤ J.N - 2; omega) h.jr.l0 (by show J.lim ≤ J.nx + _; omega) (by show (J.E ++ [_]).length = (J.L ++ [e]).length; simp [n6]) ?_ ?_ ?_
  · intro k hk
    have hk' : k < J.L.length + 1 := by have : k < (J.L ++ [e]).length := hk; simpa using this
    show entD? ((J.L ++ [e]).getD k EN.z) = true
    rcases Nat.lt_or_ge k J.L.length with q | q
    · rw [List.getD_eq_getElem?_getD, List.getElem?_append_left q, ← List.getD_eq_getElem?_getD]
      exact jx_ent h q
    · have : k = J.L.length := by omega
      subst this
      rw [List.getD_eq_getElem?_getD, List.getElem?_append_right (Nat.le_refl _), Nat.sub_self]
      exact he
  · intro k hk
    have hk' : k < J.L.length + 1 := by have : k < (J.L ++ [e]).length := hk; simpa using this
    show (J.E ++ [J.nx + (nP (encD e) : Int)]).getD k 0 = atJ J.st (J.E ++ [J.nx + (nP (encD e) : Int)]) k + secs (encD ((J.L ++ [e]).getD k EN.z)).length
    rw [atJ_app _ _ _ k (by omega)]
    rcases Nat.lt_or_ge k J.L.length with q | q
    · rw [List.getD_eq_getElem?_getD, List.getElem?_append_left (by omega), ← List.getD_eq_getElem?_getD, List.getD_eq_getElem?_getD (l := J.L ++ [e]), List.getElem?_append_left q, ← List.getD_eq_getElem?_getD]
      exact h.ex k q
    · have : k = J.L.length := by omega
      subst this
      rw [h.jr.fin, List.getD_eq_getElem?_getD, List.getElem?_append_right (by omega), List.getD_eq_getElem?_getD (l := J.L ++ [e]), List.getElem?_append_right (Nat.le_refl _), n6, Nat.sub_self]
      show J.nx + (nP (encD e) : Int) = J.nx + secs (encD e).length
      rw [hs]
  · show atJ J.st (J.E ++ [J.nx + (nP (encD e) : Int)]) (J.L ++ [e]).length = J.nx + (nP (encD e) : Int)
    rw [List.length_append]
    show (J.E ++ [J.nx + (nP (encD e) : Int)]).getD J.L.length 0 = _
    rw [List.getD_eq_getElem?_getD, List.getElem?_append_right (by omega), n6, Nat.sub_self]; rfl
def syncX (J : JD) : JD := ⟨J.N, setl J, [], J.gen, J.ep, false, J.lim, J.st, J.st, J.nx, J.L, J.E⟩
theorem syncJ_eq {J : JD} (h : isJr J = true) : syncJ J = (syncX J, 0) := by unfold syncJ; rw [h]; rfl
theorem syncX_jx {J : JD} (h : JX J) : JX (syncX J) := by
  have n0 := h.jr.b0
  have n1 := h.jr.bs
  have n4 := h.jr.room
  exact jx_of (J := syncX J) (isDevB_settled h.jr.dev _) h.jr.g0 h.jr.g1 h.jr.e0 h.jr.e1 (by show 0 ≤ J.st; omega) (Int.le_refl _) h.jr.sn h.jr.nm (by show J.nx - J.st ≤ J.N - 2; omega) h.jr.l0 h.jr.l1 h.jr.len (fun k hk => jx_ent h hk) h.ex h.jr.fin
theorem atJ_drop (st : Int) (E : List Int) (n : Nat) : ∀ k, atJ (atJ st E n) (E.drop n) k = atJ st E (n + k)
  | 0 => rfl
  | k + 1 => by
    show (E.drop n).getD k 0 = E.getD (n + k) 0
    rw [List.getD_eq_getElem?_getD, List.getD_eq_getElem?_getD, List.getElem?_drop]
theorem trimSt_eq (J : JD) (n : Nat) : trimSt J n = atJ J.st J.E n := by
  unfold trimSt
  cases n with
  | zero => rfl
  | succ n =>
    rw [decide_eq_true (show ((n + 1 : Nat) : Int) > 0 by omega), show (((n + 1 : Nat) : Int) - 1).toNat = n by omega]
    rfl
theorem trimX_jx {J : JD} (h : JX J) {n : Nat} (hn : n ≤ J.L.length) (hg : J.gen < 1073741824) (hp : J.P.length < 2000) : JX (trimX J n) := by
  have hd := dev_facts h.jr.dev
  have d1 := hd.lo
  have n0 := h.jr.b0
  have n1 := h.jr.bs
  have n2 := h.jr.sn
  have n3 := h.jr.nm
  have n4 := h.jr.room
  have n5 := h.jr.l1
  have n6 := h.jr.len
  have g0 := h.jr.g0
  have ha := at_le h hn
  have e1 : trimX J n = ⟨J.N, J.B, J.P ++ [((J.gen + 1).tmod 2, superB (J.gen + 1) J.ep (atJ J.st J.E n) J.lim)], J.gen + 1, J.ep, true, J.lim, atJ J.st J.E n, J.ba, J.nx, J.L.drop n, J.E.drop n⟩ := by
    unfold trimX
    rw [trimSt_eq, Int.toNat_natCast]
  rw [e1]
  have hm1 := Int.tmod_nonneg (b := 2) (show 0 ≤ J.gen + 1 by omega)
  have hm2 := Int.tmod_lt_of_pos (J.gen + 1) (show (0 : Int) < 2 by omega)
  refine jx_of (isDevB_write h.jr.dev hm1 (by omega) rfl (by omega)) (by show 1 ≤ J.gen + 1; omega) (by show J.gen + 1 ≤ _; omega) h.jr.e0 h.jr.e1 h.jr.b0 (by show J.ba ≤ atJ J.st J.E n; omega) (by show atJ J.st J.E n ≤ J.nx; omega) h.jr.nm h.jr.room h.jr.l0 h.jr.l1 (by show (J.E.drop n).length = (J.L.drop n).length; simp [n6]) ?_ ?_ ?_
  · intro k hk
    have hk' : k < (J.L.drop n).length := hk
    rw [List.length_drop] at hk'
    show entD? ((J.L.drop n).getD k EN.z) = true
    rw [List.getD_eq_getElem?_getD, List.getElem?_drop, ← List.getD_eq_getElem?_getD]
    exact jx_ent h (by omega)
  · intro k hk
    have hk' : k < (J.L.drop n).length := hk
    rw [List.length_drop] at hk'
    show (J.E.drop n).getD k 0 = atJ (atJ J.st J.E n) (J.E.drop n) k + secs (encD ((J.L.drop n).getD k EN.z)).length
    rw [atJ_drop, List.getD_eq_getElem?_getD, List.getElem?_drop, ← List.getD_eq_getElem?_getD, List.getD_eq_getElem?_getD (l := J.L.drop n), List.getElem?_drop, ← List.getD_eq_getElem?_getD]
    exact h.ex (n + k) (by omega)
  · show atJ (atJ J.st J.E n) (J.E.drop n) (J.L.drop n).length = J.nx
    rw [atJ_drop, List.length_drop, show n + (J.L.length - n) = J.L.length by omega, h.jr.fin]
theorem appJ_eq {J : JD} {e : EntD} (h : isJr J = true) (he : entD? e = true) (h1 : (nP (encD e) : Int) ≤ freeI J) (h2 : J.P.length + nP (encD e) ≤ 2000) : appJ J e = (appX J e, 0) := by
  unfold appJ
  rw [h, he, decide_eq_false (by omega), decide_eq_false (by omega)]; rfl
theorem appJ_full {J : JD} {e : EntD} (h : isJr J = true) (he : entD? e = true) (h1 : ¬ (nP (encD e) : Int) ≤ freeI J) : appJ J e = (noJ, 402) := by
  unfold appJ
  rw [h, he, decide_eq_true (by omega)]; rfl
theorem trimJ_eq {J : JD} (h : isJr J = true) {n : Nat} (hn : n ≤ J.L.length) (hs : J.so = false) (hg : J.gen < 1073741824) (hp : J.P.length < 2000) : trimJ J n = (trimX J n, 0) := by
  unfold trimJ
  rw [h, decide_eq_false (show ¬ (n : Int) < 0 by omega), decide_eq_false (show ¬ (n : Int) > (J.L.length : Int) by omega), hs, show (J.gen == 1073741824) = false by rw [beq_eq_false_iff_ne]; omega, show ((J.P.length : Int) == 2000) = false by rw [beq_eq_false_iff_ne]; omega]
  rfl
theorem fmt_jx {n : Int} (h0 : 8 ≤ n) (h1 : n ≤ 4096) : fmtJ (newD n).1 = (⟨n, putAt (List.replicate (n * 64).toNat 0) 64 (superB 1 1 0 0), [], 1, 1, false, 0, 0, 0, 0, [], []⟩, 0) ∧ newD n = ((n, List.replicate (n * 64).toNat 0, []), 0) ∧ JX ⟨n, putAt (List.replicate (n * 64).toNat 0) 64 (superB 1 1 0 0), [], 1, 1, false, 0, 0, 0, 0, [], []⟩ := by
  have e1 : newD n = ((n, List.replicate (n * 64).toNat 0, []), 0) := by
    unfold newD
    rw [decide_eq_false (show ¬ n < 8 by omega), decide_eq_false (show ¬ n > 4096 by omega)]; rfl
  have hl : (List.replicate (n * 64).toNat (0 : Int)).length = (n * 64).toNat := List.length_replicate
  have dv : ∀ C : List Int, C.length = (n * 64).toNat → isDevB n C [] = true := fun C hC => by
    unfold isDevB
    rw [decide_eq_true (show n ≥ 8 from h0), decide_eq_true h1, wrap64 _ (by omega) (by omega), hC, show (((n * 64).toNat : Int) == n * 64) = true by rw [beq_iff_eq]; omega]
    rfl
  refine ⟨?_, e1, ?_⟩
  · rw [e1]
    unfold fmtJ isDevD
    simp only
    rw [dv _ hl, hl]
    rfl
  · refine jx_of (dv _ (by show (putAt _ 64 _).length = _; rw [putAt_len (by rw [superB_len, hl]; omega), hl])) (by simp) (by simp) (by simp) (by simp) (by simp) (by simp) (by simp) (by simp) (by show (0 : Int) - 0 ≤ n - 2; omega) (by simp) (by simp) rfl (fun k hk => by cases hk) (fun k hk => by cases hk) rfl
end Go.Ev

/- JournalRing: the loop's law. -/
set_option linter.unusedVariables false
set_option linter.unusedSimpArgs false
set_option maxRecDepth 100000
namespace Go.Ev
open Go.Proofs
structure RInv (n : Int) (J : JD) (k : Nat) : Prop where
  x : JX J
  N : J.N = n
  lo : 8 ≤ n
  hi : n ≤ 40
  P : J.P = []
  so : J.so = false
  ba : J.ba = J.st
  nx : J.nx ≤ 38 * k
  gen : J.gen ≤ k + 1
  L : J.L.length ≤ k
theorem RInv.next {n : Int} {J : JD} {k : Nat} (h : RInv n J k) : RInv n J (k + 1) :=
  ⟨h.x, h.N, h.lo, h.hi, h.P, h.so, h.ba, by have := h.nx; omega, by have := h.gen; omega, by have := h.L; omega⟩
theorem ring_free {n : Int} {J : JD} {k : Nat} (h : RInv n J k) (hk : k ≤ 60) : freeI J = n - 2 - (J.nx - J.st) ∧ 0 ≤ freeI J ∧ freeI J ≤ 38 := by
  have h1 := h.nx
  have h2 := h.hi
  have h3 := h.x.jr.sn
  have h4 := h.x.jr.room
  have h5 := h.N
  have h6 := h.ba
  unfold freeI
  omega
theorem ring_room {n : Int} {J : JD} {k : Nat} (h : RInv n J k) (hk : k ≤ 60) : roomJ J = (freeI J * 46, 0) := by
  have h1 := ring_free h hk
  unfold roomJ
  rw [jr_of h.x.jr, cond_true]
  unfold freeI at *
  rw [Int.min_eq_left (by omega)]
theorem nP_le {b : List Int} {f : Int} (hf : 0 ≤ f) : ((b.length : Int) ≤ f * 46) ↔ (nP b : Int) ≤ f := by
  unfold nP; omega
theorem ring_app {n : Int} {J : JD} {k : Nat} (h : RInv n J k) (hk : k ≤ 60) {x : EntD} (hx : entD? x = true) (hp : (nP (encD x) : Int) ≤ freeI J) : appJ J x = (appX J x, 0) ∧ syncJ (appX J x) = (syncX (appX J x), 0) ∧ JX (appX J x) ∧ RInv n (syncX (appX J x)) (k + 1) := by
  have hf := ring_free h hk
  have hl : J.P.length + nP (encD x) ≤ 2000 := by rw [h.P]; simp; omega
  have hj := appX_jx h.x hx hp hl
  refine ⟨appJ_eq (jr_of h.x.jr) hx hp hl, syncJ_eq (jr_of hj.jr), hj, syncX_jx hj, h.N, h.lo, h.hi, rfl, rfl, rfl, ?_, ?_, ?_⟩
  · have := h.nx
    show J.nx + (nP (encD x) : Int) ≤ 38 * ((k + 1 : Nat) : Int)
    omega
  · have := h.gen
    show J.gen ≤ ((k + 1 : Nat) : Int) + 1
    omega
  · have := h.L
    show (J.L ++ [x]).length ≤ k + 1
    simp; omega
/-- Everything is removed. -/
theorem ring_trim {n : Int} {J : JD} {k : Nat} (h : RInv n J k) (hk : k ≤ 60) : trimJ J (J.L.length : Int) = (trimX J (J.L.length : Int), 0) ∧ syncJ (trimX J (J.L.length : Int)) = (syncX (trimX J (J.L.length : Int)), 0) ∧ JX (trimX J (J.L.length : Int)) ∧ JX (syncX (trimX J (J.L.length : Int))) ∧
    freeI (syncX (trimX J (J.L.length : Int))) = n - 2 ∧ (syncX (trimX J (J.L.length : Int))).L = [] := by
  have h1 := h.gen
  have hj := trimX_jx h.x (Nat.le_refl _) (by omega) (by rw [h.P]; decide)
  have e1 : atJ J.st J.E J.L.length = J.nx := h.x.jr.fin
  refine ⟨trimJ_eq (jr_of h.x.jr) (Nat.le_refl _) h.so (by omega) (by rw [h.P]; decide), syncJ_eq (jr_of hj.jr), hj, syncX_jx hj, ?_, ?_⟩
  · have h2 := h.nx
    have h3 := h.hi
    have h4 := h.N
    show min (J.N - 2 - (J.nx - trimSt J (J.L.length : Int))) (1073741824 - J.nx) = n - 2
    rw [trimSt_eq, e1]
    omega
  · show J.L.drop ((J.L.length : Int)).toNat = []
    rw [Int.toNat_natCast, List.drop_length]
theorem ring_again {n : Int} {J : JD} {k : Nat} (h : RInv n J k) (hk : k ≤ 60) {x : EntD} (hx : entD? x = true) (hp : (nP (encD x) : Int) ≤ n - 2) : appJ (syncX (trimX J (J.L.length : Int))) x = (appX (syncX (trimX J (J.L.length : Int))) x, 0) ∧
    syncJ (appX (syncX (trimX J (J.L.length : Int))) x) = (syncX (appX (syncX (trimX J (J.L.length : Int))) x), 0) ∧ JX (appX (syncX (trimX J (J.L.length : Int))) x) ∧ RInv n (syncX (appX (syncX (trimX J (J.L.length : Int))) x)) (k + 1) := by
  obtain ⟨t1, t2, t3, t4, t5, t6⟩ := ring_trim h hk
  have h3 := h.hi
  have hl : (syncX (trimX J (J.L.length : Int))).P.length + nP (encD x) ≤ 2000 := by show 0 + nP (encD x) ≤ 2000; omega
  have hj := appX_jx t4 hx (by rw [t5]; exact hp) hl
  refine ⟨appJ_eq (jr_of t4.jr) hx (by rw [t5]; exact hp) hl, syncJ_eq (jr_of hj.jr), hj, syncX_jx hj, h.N, h.lo, h.hi, rfl, rfl, rfl, ?_, ?_, ?_⟩
  · have := h.nx
    show J.nx + (nP (encD x) : Int) ≤ 38 * ((k + 1 : Nat) : Int)
    omega
  · have := h.gen
    show J.gen + 1 ≤ ((k + 1 : Nat) : Int) + 1
    omega
  · show ((syncX (trimX J (J.L.length : Int))).L ++ [x]).length ≤ k + 1
    rw [t6]; simp
theorem last_get (L : List EntD) (x : EntD) : (L ++ [x]).getD (IntKind.i64.wrap (((L ++ [x]).length : Int) - 1)).toNat EN.z = x ∨ 1000000 < L.length := by
  rcases Nat.lt_or_ge 1000000 L.length with q | q
  · exact .inr q
  · have hl : (L ++ [x]).length = L.length + 1 := by simp
    rw [hl, wrap64 _ (by omega) (by omega), show (((L.length + 1 : Nat) : Int) - 1).toNat = L.length by omega, List.getD_eq_getElem?_getD, List.getElem?_append_right (Nat.le_refl _), Nat.sub_self]
    exact .inl rfl
noncomputable section
def Try.SR6 (n : Int) (l : List EntD) (k : Nat) (J : JD) : St := stOf 139 [0,7,40,41,42] (Try.VR6 n l k) (oneH (jrC J))
end
theorem Try.ring_step (n : Int) (l : List EntD) (hl : l.length ≤ 60) (k : Nat) (J : JD) (h : RInv n J k) (hk : k < l.length) : ∃ J', Try.BR6 (Try.SR6 n l k J) = some (.normal, Try.SR6 n l (k + 1) J') ∧ RInv n J' (k + 1) := by
  have key := Try.rR6 n J l k
  have hX := h.x
  have ok1 : (okSW (SW.con J.P) && okEN (EN.con J.L)) = true := jx_ok hX
  have hL : J.L.length ≤ 60 := by have := h.L; omega
  have hN := h.lo
  have hN2 := h.hi
  simp only [reJ_eq] at key
  rw [declt_nat, inR_nat, decide_eq_true hk, wrapT k (by omega)] at key
  simp only [ok1, ble_t (show J.L.length ≤ 1000000 by omega), cond_true', ring_room h (by omega), bne_self_eq_false, cond_false'] at key
  have same : RInv n J (k + 1) := h.next
  generalize hx : l.getD k EN.z = x at key
  have ex : (x.fst, x.snd.fst, x.snd.snd.fst, x.snd.snd.snd.fst, x.snd.snd.snd.snd) = x := rfl
  simp only [ex] at key
  cases he : entD? x with
  | false =>
    have he' := he
    unfold entD? at he'
    have e1 : encE x.fst x.snd.fst x.snd.snd.fst x.snd.snd.snd.fst x.snd.snd.snd.snd.length = 4 := by unfold encE; rw [he']; rfl
    rw [e1] at key
    exact ⟨J, key, same⟩
  | true =>
    have he' := he
    unfold entD? at he'
    have hlen := ent_len he'
    have e1 : encE x.fst x.snd.fst x.snd.snd.fst x.snd.snd.snd.fst x.snd.snd.snd.snd.length = 0 := by unfold encE; rw [he']; rfl
    have e2 : encX x.fst x.snd.fst x.snd.snd.fst x.snd.snd.snd.fst x.snd.snd.snd.snd = encD x := by unfold encX; rw [he']; rfl
    rw [e1, e2, wrap64 (n - 2) (by omega) (by omega), wrap64 ((n - 2) * 46) (by omega) (by omega)] at key
    simp only [cond_true', cond_false', bne_self_eq_false] at key
    by_cases hb : ((encD x).length : Int) > (n - 2) * 46
    · rw [decide_eq_true hb] at key
      exact ⟨J, key, same⟩
    · rw [decide_eq_false hb] at key
      have hp := (nP_le (b := encD x) (f := n - 2) (by omega)).1 (by omega)
      simp only [cond_true', cond_false'] at key
      by_cases hf : (nP (encD x) : Int) ≤ freeI J
      · obtain ⟨a1, a2, a3, a4⟩ := ring_app h (by omega) he hf
        have hroom := (nP_le (b := encD x) (ring_free h (by omega)).2.1).2 hf
        have ok2 : (okSW (SW.con (appX J x).P) && okEN (EN.con (appX J x).L)) = true := jx_ok a3
        have hL2 : (appX J x).L.length ≤ 1000000 := by show (J.L ++ [x]).length ≤ _; simp; omega
        have hL3 : (syncX (appX J x)).L = J.L ++ [x] := rfl
        have e3 : (J.L ++ [x]).length = J.L.length + 1 := by simp
        have e4 := (last_get J.L x).resolve_right (by omega)
        rw [e3] at e4
        simp only [a1, beq_self_eq_true, cond_true', decide_eq_true hroom, bne_self_eq_false, cond_false', ok2, ble_t hL2, a2, hL3, e3, e4, sameB_refl] at key
        rw [show (((J.L.length + 1 : Nat) : Int) == 0) = false by rw [beq_eq_false_iff_ne]; omega, wrap64 (((J.L.length + 1 : Nat) : Int) - 1) (by omega) (by omega), show (((J.L.length + 1 : Nat) : Int) - 1) = (J.L.length : Int) by omega, inR_nat, decide_eq_true (show J.L.length < J.L.length + 1 by omega)] at key
        rw [← e3] at key
        exact ⟨syncX (appX J x), key, a4⟩
      · obtain ⟨t1, t2, t3, t4, t5, t6⟩ := ring_trim h (by omega)
        obtain ⟨a1, a2, a3, a4⟩ := ring_again h (by omega) he hp
        have hroom : ¬ ((encD x).length : Int) ≤ freeI J * 46 := fun q => hf ((nP_le (b := encD x) (ring_free h (by omega)).2.1).1 q)
        have ok2 : (okSW (SW.con (trimX J (J.L.length : Int)).P) && okEN (EN.con (trimX J (J.L.length : Int)).L)) = true := jx_ok t3
        have ok3 : (okSW (SW.con (syncX (trimX J (J.L.length : Int))).P) && okEN (EN.con (syncX (trimX J (J.L.length : Int))).L)) = true := jx_ok t4
        have ok4 : (okSW (SW.con (appX (syncX (trimX J (J.L.length : Int))) x).P) && okEN (EN.con (appX (syncX (trimX J (J.L.length : Int))) x).L)) = true := jx_ok a3
        have f1 : appJ J x = (noJ, 402) := appJ_full (jr_of hX.jr) he hf
        have l1 : (trimX J (J.L.length : Int)).L.length ≤ 1000000 := by show (J.L.drop _).length ≤ _; rw [List.length_drop]; omega
        have l2 : (syncX (trimX J (J.L.length : Int))).L.length ≤ 1000000 := l1
        have l3 : (appX (syncX (trimX J (J.L.length : Int))) x).L.length ≤ 1000000 := by show ((syncX (trimX J (J.L.length : Int))).L ++ [x]).length ≤ _; rw [t6]; simp
        have hL3 : (syncX (appX (syncX (trimX J (J.L.length : Int))) x)).L = [x] := by show (syncX (trimX J (J.L.length : Int))).L ++ [x] = [x]; rw [t6]; rfl
        have e4 := (last_get [] x).resolve_right (by simp)
        have e5 : ([] ++ [x] : List EntD) = [x] := rfl
        rw [e5] at e4
        simp only [f1, show ((402 : Int) == 0) = false from rfl, show ((402 : Int) != 0) = true from rfl, decide_eq_false hroom, cond_true', cond_false', t1, bne_self_eq_false, ok2, ble_t l1, ok3, ble_t l2, t2, a1, ok4, ble_t l3, a2, hL3, e4, sameB_refl] at key
        rw [show (([x].length : Nat) : Int) - 1 = ((0 : Nat) : Int) by rfl, wrap64 _ (by omega) (by omega), inR_nat] at key
        refine ⟨syncX (appX (syncX (trimX J (J.L.length : Int))) x), ?_, a4⟩
        refine key.trans ?_
        unfold Try.SR6 jrC jcells
        rw [hL3]
        rfl
end Go.Ev

/- JournalRing: the walk and the law. -/
set_option linter.unusedVariables false
set_option linter.unusedSimpArgs false
set_option maxRecDepth 100000
namespace Go.Ev
open Go.Proofs
noncomputable section
def Try.LR6 (n : Int) (l : List EntD) (J : JD) : LSum := atL (Try.SR6 n l 0 J) (.grd (propB (RInv n J 0 ∧ l.length ≤ 60)) (.out (.exit 0, stOf 139 [] [] ⟨0, []⟩)))
/-- What Format is given. -/
def rd (d : DevD) : DevD := (d.1, d.2.1, SW.list (SW.con d.2.2))
end
theorem rd_eq (d : DevD) : rd d = d := by unfold rd; rw [SW_list_con]
theorem Try.lR6 (n : Int) (l : List EntD) (J : JD) : ∀ s e s', s.h.ok → (Try.LR6 n l J s).run = some (e, s') → Triple Try.prog (.loop Try.bR6) s e s' := by
  refine atL_grd (fun hp => ?_)
  obtain ⟨hI, hl⟩ := propB_eq hp
  refine loop_at Try.eR6 (d := 5) (g := 6) (ls := lsumsOf []) (c := Try.bR6) trivial [0,7,40,41,42] [4] (T := Nat × JD)
    (fun x => Try.SR6 n l x.1 x.2) (fun x => x.1 ≤ l.length ∧ RInv n x.2 x.1) (fun x => l.length - x.1) (fun _ => (.exit 0, stOf 139 [] [] ⟨0, []⟩)) _ _ (0, J) ⟨Nat.zero_le _, hI⟩ (Weak.refl (oneH_ok _)) ?_ (fun x _ => oneH_ok _) ?_
  · intro e s' h
    exact Option.some.inj h
  · rintro ⟨k, J⟩ ⟨h1, h2⟩
    replace h1 : k ≤ l.length := h1
    replace h2 : RInv n J k := h2
    by_cases hk : k < l.length
    · obtain ⟨J', q1, q2⟩ := Try.ring_step n l hl k J h2 hk
      exact .inl ⟨(k + 1, J'), _, q1, Weak.refl (oneH_ok _), ⟨hk, q2⟩, by show l.length - (k + 1) < l.length - k; omega, rfl⟩
    · have e1 : k = l.length := by omega
      have key := Try.rR6 n J l k
      rw [e1, declt_nat, decide_eq_false (Nat.lt_irrefl _)] at key
      subst e1
      exact .inr ⟨_, key, Weak.refl heap0_ok, by show (AX.exit 0) ≠ .normal; intro h; cases h⟩
theorem Try.wR6 (n : Int) (l : List EntD) : rootS Try.ER6 5 6 (lsumsOf [(10, Try.LR6 n l (fmtJ (rd (newD n).1)).1)]) [.val (.int .i64 n), .ro (EN.con l) none] =
      bif (newD n).snd != 0 then
       some (.val (.bool true), ⟨0, []⟩)
      else
       bif decide (n > 40) then
        some (.val (.bool true), ⟨0, []⟩)
       else
        bif decide ((↑l.length : Int) > 60) then
         some (.val (.bool true), ⟨0, []⟩)
        else
         bif okSW (SW.con (newD n).fst.snd.snd) then
          bif (fmtJ ((newD n).fst.fst, (newD n).fst.snd.fst, SW.list (SW.con (newD n).fst.snd.snd))).snd != 0 then
           some (.val (.bool false), ⟨0, []⟩)
          else
           bif isSt (Try.SR6 n l 0 (fmtJ (rd (newD n).fst)).fst) (Try.SR6 n l 0 (fmtJ (rd (newD n).fst)).fst) then
            bif propB (RInv n (fmtJ (rd (newD n).fst)).fst 0 ∧ l.length ≤ 60) then
             some (.val (.bool true), ⟨0, []⟩)
            else
             none
           else
            none
         else
          none := by kernel_rfl
theorem Try.alR6 (n : Int) (l : List EntD) : Alone Try.prog 6 [.val (.int .i64 n), .ro (EN.con l) none] (.val (.bool true)) ⟨0, []⟩ := by
  refine rootS_alone Try.eR6 (d := 5) (g := 6) (ls := lsumsOf [(10, Try.LR6 n l (fmtJ (rd (newD n).1)).1)]) (AllL.of1 (a := Try.bR6) (by kernel_rfl) (LsOk.of rfl rfl (Try.lR6 _ _ _))) ((Try.wR6 n l).trans ?_)
  rw [SW_list_con, isSt_refl, rd_eq]
  by_cases h0 : 8 ≤ n
  · by_cases h1 : n ≤ 4096
    · obtain ⟨f1, f2, f3⟩ := fmt_jx h0 h1
      have e1 : ((newD n).1.1, (newD n).1.2.1, (newD n).1.2.2) = (newD n).1 := rfl
      rw [e1, f1, f2]
      cases h2 : decide (n > 40) with
      | true => rfl
      | false =>
      cases h3 : decide ((l.length : Int) > 60) with
      | true => rfl
      | false =>
      rw [decide_eq_false_iff_not] at h2 h3
      have hI : RInv n ⟨n, putAt (List.replicate (n * 64).toNat 0) 64 (superB 1 1 0 0), [], 1, 1, false, 0, 0, 0, 0, [], []⟩ 0 := ⟨f3, rfl, h0, by omega, rfl, rfl, rfl, by simp, by simp, Nat.le_refl _⟩
      rw [propB_t ⟨hI, (by omega : l.length ≤ 60)⟩, show okSW (SW.con (([] : List SwD))) = true from okSW_le (by simp)]
      rfl
    · have e2 : newD n = noDev 1 := by unfold newD; rw [decide_eq_true (show n > 4096 by omega), Bool.or_true]; rfl
      rw [e2]; rfl
  · have e2 : newD n = noDev 1 := by unfold newD; rw [decide_eq_true (show n < 8 by omega), Bool.true_or]; rfl
    rw [e2]; rfl
end Go.Ev

/- JournalRing, for every input: the law answers true, and its arguments read as they did. -/
set_option linter.unusedVariables false
set_option linter.unusedSimpArgs false
set_option maxRecDepth 100000
namespace Go.Ev
open Go.Proofs
theorem argsA_ring {H : Type} (d1 d2 : DataW H) : argsA [.int .i64, .sl entSh] [d1, d2] = [.val (.int .i64 (intD d1)), .ro (EN.con ((elemsD d2).map entD)) none] := by
  have h := avs_ents (elemsD d2)
  have e1 : EN.con ((elemsD d2).map entD) = entC ((elemsD d2).map entD) := rfl
  rw [e1, ← h]
  rfl
end Go.Ev

namespace Go.Proofs.Ytninaidfifiliaa
open Go.Ev
theorem ring_contract (H : Type) (enc : TypeId × Value → H) (W : World) (base : Nat) (args : Array Value) (ds gs : List (DataW H)) (before : List MemPlace)
    (hval : ∀ (j : Nat) t v, Try.f6.params[j]? = some t → args[j]? = some v → Value.okWide Try.prog W .any base t v)
    (hW : DataW.Whole enc Try.prog Try.f6.params.toList Rows.journalRingSpec.vars false W args.toList ds gs before) :
    Calls Try.prog 6 args W fun e W' => ∃ v, e = .returned v ∧ Rows.journalRingSpec.post enc Try.prog Try.f6 false true false false W args v W' := by
  have hsh : shsOk Try.prog [.int .i64, .sl entSh] Try.f6.params.toList = true := by kernel_rfl
  obtain ⟨p, q, hA, hV, _⟩ := id hW
  obtain ⟨hwf, hlen⟩ := args_wf hsh hA
  obtain rfl : gs = [] := by cases gs with | nil => rfl | cons => cases hV
  match ds, hlen with
  | [d1, d2], _ =>
    have law := Try.alR6 (intD d1) ((elemsD d2).map entD)
    rw [← argsA_ring] at law
    exact law_calls (b := 4) Try.kidsG Try.fullG (by kernel_rfl) rfl Try.underlying4 (by kernel_rfl) rfl hsh hval hW law

theorem ring_lifted (os : Os) (started : os.Started) (H : Type) (enc : TypeId × Value → H) :
    ReturnsInHanded {} Try.checked os 6 .any (Rows.journalRingSpec.pre6 enc Try.prog Try.f6 Rows.journalRingRow.domain false) (Rows.journalRingSpec.post enc Try.prog Try.f6 false true false false) := by
  refine returnsInHanded_of_change (C := Try.checked) Try.ownG started (by kernel_rfl) Try.func6
    (ChangeSpec.witness6 (enc := enc) (C := Try.checked) false ⟨#[], #[.int .i64 0, .slice none 0 0], []⟩ 8 (by kernel_rfl) (by kernel_rfl) (by kernel_rfl) (by kernel_rfl)) ?_
  intro W base args ds gs before hval hW _ _
  exact ring_contract H enc W base args ds gs before hval hW

theorem journalRing : Rows.JournalRingSaid :=
  OpenClaim.holds_of_wide 6 Try.f6 rfl rfl rfl rfl rfl rfl rfl ⟨rfl, rfl, rfl, rfl, rfl⟩ rfl rfl rfl rfl rfl (by kernel_rfl) Try.func6 (by kernel_rfl)
    (of_decide_eq_true (by kernel_rfl)) (by unfold Func.isWrapper; first | (rw [if_pos (by decide +kernel)]; kernel_rfl) | (rw [if_neg (by decide +kernel)]; exact ⟨rfl, rfl⟩))
    (fun os started H enc _ => ring_lifted os started H enc)
end Go.Proofs.Ytninaidfifiliaa
