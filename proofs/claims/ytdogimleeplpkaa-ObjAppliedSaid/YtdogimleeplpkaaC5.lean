/- The evaluator, its soundness and the walks: part 5. -/
import Derived.Test.YtdogimleeplpkaaC4
set_option linter.unusedSectionVars false
set_option linter.unusedSimpArgs false
set_option linter.unusedVariables false
set_option maxRecDepth 100000
set_option maxRecDepth 1000000
noncomputable section
namespace Go.Ev
open Go.Proofs
theorem Try.tq {t : Nat} {i : TI} {ti : TypeInfo} (h1 : Try.prog.types[t]? = some ti) (hu : Try.prog.underlying t = some i.desc) (hz : ti.zero = some i.zero := by kernel_rfl) (hs : ti.size = i.size := by kernel_rfl) (hb : ti.bytes = i.bytes := by kernel_rfl) (hc : tyCheck 164 i = true := by kernel_rfl) : TyOk Try.prog t i := TyOk.of_check h1 hz hs hb hu Try.types_size hc
abbrev Try.FnOk (k : Nat) (f : Func) : Prop := Try.prog.funcs[k]? = some f ∧ f.name ≠ "runtime.NumGoroutine"
theorem Try.fq {k : Nat} {f : Func} (h : Try.prog.funcs[k]? = some f) (h2 : decide (f.name ≠ "runtime.NumGoroutine") = true := by kernel_rfl) : Try.FnOk k f := ⟨h, of_decide_eq_true h2⟩
theorem Try.fnOk3 : Try.FnOk 3 Try.f3 := Try.fq Try.func3
theorem Try.fnOk4 : Try.FnOk 4 Try.f4 := Try.fq Try.func4
theorem Try.fnOk5 : Try.FnOk 5 Try.f5 := Try.fq Try.func5
theorem Try.fnOk6 : Try.FnOk 6 Try.f6 := Try.fq Try.func6
theorem Try.fnOk7 : Try.FnOk 7 Try.f7 := Try.fq Try.func7
theorem Try.fnOk8 : Try.FnOk 8 Try.f8 := Try.fq Try.func8
theorem Try.fnOk9 : Try.FnOk 9 Try.f9 := Try.fq Try.func9
theorem Try.fnOk10 : Try.FnOk 10 Try.f10 := Try.fq Try.func10
theorem Try.fnOk11 : Try.FnOk 11 Try.f11 := Try.fq Try.func11
theorem Try.fnOk12 : Try.FnOk 12 Try.f12 := Try.fq Try.func12
theorem Try.fnOk13 : Try.FnOk 13 Try.f13 := Try.fq Try.func13
theorem Try.fnOk14 : Try.FnOk 14 Try.f14 := Try.fq Try.func14
theorem Try.fnOk15 : Try.FnOk 15 Try.f15 := Try.fq Try.func15
theorem Try.fnOk16 : Try.FnOk 16 Try.f16 := Try.fq Try.func16
theorem Try.fnOk17 : Try.FnOk 17 Try.f17 := Try.fq Try.func17
theorem Try.fnOk18 : Try.FnOk 18 Try.f18 := Try.fq Try.func18
theorem Try.fnOk19 : Try.FnOk 19 Try.f19 := Try.fq Try.func19
theorem Try.fnOk20 : Try.FnOk 20 Try.f20 := Try.fq Try.func20
theorem Try.fnOk21 : Try.FnOk 21 Try.f21 := Try.fq Try.func21
theorem Try.fnOk22 : Try.FnOk 22 Try.f22 := Try.fq Try.func22
theorem Try.fnOk23 : Try.FnOk 23 Try.f23 := Try.fq Try.func23
theorem Try.fnOk24 : Try.FnOk 24 Try.f24 := Try.fq Try.func24
theorem Try.fnOk25 : Try.FnOk 25 Try.f25 := Try.fq Try.func25
theorem Try.fnOk26 : Try.FnOk 26 Try.f26 := Try.fq Try.func26
theorem Try.fnOk27 : Try.FnOk 27 Try.f27 := Try.fq Try.func27
theorem Try.fnOk28 : Try.FnOk 28 Try.f28 := Try.fq Try.func28
theorem Try.fnOk29 : Try.FnOk 29 Try.f29 := Try.fq Try.func29
theorem Try.fnOk30 : Try.FnOk 30 Try.f30 := Try.fq Try.func30
theorem Try.fnOk31 : Try.FnOk 31 Try.f31 := Try.fq Try.func31
theorem Try.fnOk32 : Try.FnOk 32 Try.f32 := Try.fq Try.func32
theorem Try.fnOk33 : Try.FnOk 33 Try.f33 := Try.fq Try.func33
theorem Try.fnOk34 : Try.FnOk 34 Try.f34 := Try.fq Try.func34
theorem Try.fnOk35 : Try.FnOk 35 Try.f35 := Try.fq Try.func35
theorem Try.fnOk36 : Try.FnOk 36 Try.f36 := Try.fq Try.func36
theorem Try.fnOk37 : Try.FnOk 37 Try.f37 := Try.fq Try.func37
theorem Try.fnOk38 : Try.FnOk 38 Try.f38 := Try.fq Try.func38
theorem Try.fnOk39 : Try.FnOk 39 Try.f39 := Try.fq Try.func39
theorem Try.fnOk40 : Try.FnOk 40 Try.f40 := Try.fq Try.func40
theorem Try.fnOk41 : Try.FnOk 41 Try.f41 := Try.fq Try.func41
theorem Try.fnOk42 : Try.FnOk 42 Try.f42 := Try.fq Try.func42
theorem Try.fnOk43 : Try.FnOk 43 Try.f43 := Try.fq Try.func43
theorem Try.fnOk44 : Try.FnOk 44 Try.f44 := Try.fq Try.func44
theorem Try.fnOk45 : Try.FnOk 45 Try.f45 := Try.fq Try.func45
theorem Try.fnOk46 : Try.FnOk 46 Try.f46 := Try.fq Try.func46
theorem Try.fnOk47 : Try.FnOk 47 Try.f47 := Try.fq Try.func47
theorem Try.fnOk48 : Try.FnOk 48 Try.f48 := Try.fq Try.func48
theorem Try.fnOk49 : Try.FnOk 49 Try.f49 := Try.fq Try.func49
theorem Try.fnOk50 : Try.FnOk 50 Try.f50 := Try.fq Try.func50
theorem Try.fnOk51 : Try.FnOk 51 Try.f51 := Try.fq Try.func51
theorem Try.fnOk52 : Try.FnOk 52 Try.f52 := Try.fq Try.func52
theorem Try.fnOk53 : Try.FnOk 53 Try.f53 := Try.fq Try.func53
theorem Try.fnOk54 : Try.FnOk 54 Try.f54 := Try.fq Try.func54
theorem Try.fnOk55 : Try.FnOk 55 Try.f55 := Try.fq Try.func55
theorem Try.fnOk56 : Try.FnOk 56 Try.f56 := Try.fq Try.func56
theorem Try.fnOk57 : Try.FnOk 57 Try.f57 := Try.fq Try.func57
theorem Try.fnOk58 : Try.FnOk 58 Try.f58 := Try.fq Try.func58
theorem Try.fnOk59 : Try.FnOk 59 Try.f59 := Try.fq Try.func59
theorem Try.fnOk60 : Try.FnOk 60 Try.f60 := Try.fq Try.func60
theorem Try.fnOk61 : Try.FnOk 61 Try.f61 := Try.fq Try.func61
theorem Try.fnOk62 : Try.FnOk 62 Try.f62 := Try.fq Try.func62
theorem Try.fnOk63 : Try.FnOk 63 Try.f63 := Try.fq Try.func63
theorem Try.fnOk64 : Try.FnOk 64 Try.f64 := Try.fq Try.func64
theorem Try.fnOk65 : Try.FnOk 65 Try.f65 := Try.fq Try.func65
theorem Try.fnOk66 : Try.FnOk 66 Try.f66 := Try.fq Try.func66
theorem Try.fnOk67 : Try.FnOk 67 Try.f67 := Try.fq Try.func67
theorem Try.fnOk68 : Try.FnOk 68 Try.f68 := Try.fq Try.func68
theorem Try.fnOk69 : Try.FnOk 69 Try.f69 := Try.fq Try.func69
theorem Try.fnOk70 : Try.FnOk 70 Try.f70 := Try.fq Try.func70
theorem Try.fnOk71 : Try.FnOk 71 Try.f71 := Try.fq Try.func71
theorem Try.fnOk72 : Try.FnOk 72 Try.f72 := Try.fq Try.func72
theorem Try.fnOk73 : Try.FnOk 73 Try.f73 := Try.fq Try.func73
theorem Try.fnOk74 : Try.FnOk 74 Try.f74 := Try.fq Try.func74
theorem Try.fnOk75 : Try.FnOk 75 Try.f75 := Try.fq Try.func75
theorem Try.fnOk76 : Try.FnOk 76 Try.f76 := Try.fq Try.func76
theorem Try.fnOk77 : Try.FnOk 77 Try.f77 := Try.fq Try.func77
theorem Try.fnOk78 : Try.FnOk 78 Try.f78 := Try.fq Try.func78
theorem Try.fnOk79 : Try.FnOk 79 Try.f79 := Try.fq Try.func79
theorem Try.fnOk80 : Try.FnOk 80 Try.f80 := Try.fq Try.func80
theorem Try.fnOk81 : Try.FnOk 81 Try.f81 := Try.fq Try.func81
theorem Try.fnOk82 : Try.FnOk 82 Try.f82 := Try.fq Try.func82
theorem Try.fnOk83 : Try.FnOk 83 Try.f83 := Try.fq Try.func83
theorem Try.fnOk84 : Try.FnOk 84 Try.f84 := Try.fq Try.func84
theorem Try.fnOk85 : Try.FnOk 85 Try.f85 := Try.fq Try.func85
theorem Try.fnOk86 : Try.FnOk 86 Try.f86 := Try.fq Try.func86
theorem Try.fnOk87 : Try.FnOk 87 Try.f87 := Try.fq Try.func87
theorem Try.fnOk88 : Try.FnOk 88 Try.f88 := Try.fq Try.func88
theorem Try.fnOk89 : Try.FnOk 89 Try.f89 := Try.fq Try.func89
theorem Try.fnOk90 : Try.FnOk 90 Try.f90 := Try.fq Try.func90
theorem Try.fnOk91 : Try.FnOk 91 Try.f91 := Try.fq Try.func91
theorem Try.fnOk92 : Try.FnOk 92 Try.f92 := Try.fq Try.func92
theorem Try.fnOk93 : Try.FnOk 93 Try.f93 := Try.fq Try.func93
theorem Try.fnOk94 : Try.FnOk 94 Try.f94 := Try.fq Try.func94
theorem Try.fnOk95 : Try.FnOk 95 Try.f95 := Try.fq Try.func95
theorem Try.fnOk96 : Try.FnOk 96 Try.f96 := Try.fq Try.func96
theorem Try.fnOk97 : Try.FnOk 97 Try.f97 := Try.fq Try.func97
theorem Try.fnOk98 : Try.FnOk 98 Try.f98 := Try.fq Try.func98
theorem Try.fnOk99 : Try.FnOk 99 Try.f99 := Try.fq Try.func99
theorem Try.fnOk100 : Try.FnOk 100 Try.f100 := Try.fq Try.func100
theorem Try.fnOk101 : Try.FnOk 101 Try.f101 := Try.fq Try.func101
theorem Try.fnOk102 : Try.FnOk 102 Try.f102 := Try.fq Try.func102
theorem Try.fnOk103 : Try.FnOk 103 Try.f103 := Try.fq Try.func103
theorem Try.fnOk104 : Try.FnOk 104 Try.f104 := Try.fq Try.func104
theorem Try.fnOk105 : Try.FnOk 105 Try.f105 := Try.fq Try.func105
theorem Try.fnOk106 : Try.FnOk 106 Try.f106 := Try.fq Try.func106
theorem Try.fnOk107 : Try.FnOk 107 Try.f107 := Try.fq Try.func107
theorem Try.fnOk108 : Try.FnOk 108 Try.f108 := Try.fq Try.func108
theorem Try.fnOk109 : Try.FnOk 109 Try.f109 := Try.fq Try.func109
theorem Try.fnOk111 : Try.FnOk 111 Try.f111 := Try.fq Try.func111
theorem Try.tysOk : ∀ t i, Try.tys.get t = some i → TyOk Try.prog t i := Tri.get_all (.cons (.none (.some (Try.tq Try.type1 Try.underlying1) (.some (Try.tq Try.type2 Try.underlying2) (.some (Try.tq Try.type3 Try.underlying3) (.some (Try.tq Try.type4 Try.underlying4) (.some (Try.tq Try.type5 Try.underlying5) (.some (Try.tq Try.type6 Try.underlying6) (.some (Try.tq Try.type7 Try.underlying7) (.some (Try.tq Try.type8 Try.underlying8) (.some (Try.tq Try.type9 Try.underlying9) (.some (Try.tq Try.type10 Try.underlying10) (.some (Try.tq Try.type11 Try.underlying11) (.some (Try.tq Try.type12 Try.underlying12) (.some (Try.tq Try.type13 Try.underlying13) (.some (Try.tq Try.type14 Try.underlying14) (.some (Try.tq Try.type15 Try.underlying15) (.nil _))))))))))))))))) (.cons (.some (Try.tq Try.type16 Try.underlying16) (.some (Try.tq Try.type17 Try.underlying17) (.some (Try.tq Try.type18 Try.underlying18) (.some (Try.tq Try.type19 Try.underlying19) (.some (Try.tq Try.type20 Try.underlying20) (.some (Try.tq Try.type21 Try.underlying21) (.some (Try.tq Try.type22 Try.underlying22) (.some (Try.tq Try.type23 Try.underlying23) (.some (Try.tq Try.type24 Try.underlying24) (.some (Try.tq Try.type25 Try.underlying25) (.none (.some (Try.tq Try.type27 Try.underlying27) (.none (.some (Try.tq Try.type29 Try.underlying29) (.some (Try.tq Try.type30 Try.underlying30) (.some (Try.tq Try.type31 Try.underlying31) (.nil _))))))))))))))))) (.cons (.some (Try.tq Try.type32 Try.underlying32) (.some (Try.tq Try.type33 Try.underlying33) (.some (Try.tq Try.type34 Try.underlying34) (.some (Try.tq Try.type35 Try.underlying35) (.some (Try.tq Try.type36 Try.underlying36) (.some (Try.tq Try.type37 Try.underlying37) (.some (Try.tq Try.type38 Try.underlying38) (.some (Try.tq Try.type39 Try.underlying39) (.some (Try.tq Try.type40 Try.underlying40) (.some (Try.tq Try.type41 Try.underlying41) (.some (Try.tq Try.type42 Try.underlying42) (.some (Try.tq Try.type43 Try.underlying43) (.some (Try.tq Try.type44 Try.underlying44) (.some (Try.tq Try.type45 Try.underlying45) (.some (Try.tq Try.type46 Try.underlying46) (.some (Try.tq Try.type47 Try.underlying47) (.nil _))))))))))))))))) (.cons (.some (Try.tq Try.type48 Try.underlying48) (.none (.some (Try.tq Try.type50 Try.underlying50) (.some (Try.tq Try.type51 Try.underlying51) (.some (Try.tq Try.type52 Try.underlying52) (.some (Try.tq Try.type53 Try.underlying53) (.some (Try.tq Try.type54 Try.underlying54) (.some (Try.tq Try.type55 Try.underlying55) (.some (Try.tq Try.type56 Try.underlying56) (.some (Try.tq Try.type57 Try.underlying57) (.some (Try.tq Try.type58 Try.underlying58) (.some (Try.tq Try.type59 Try.underlying59) (.none (.some (Try.tq Try.type61 Try.underlying61) (.some (Try.tq Try.type62 Try.underlying62) (.some (Try.tq Try.type63 Try.underlying63) (.nil _))))))))))))))))) (.cons (.some (Try.tq Try.type64 Try.underlying64) (.some (Try.tq Try.type65 Try.underlying65) (.some (Try.tq Try.type66 Try.underlying66) (.some (Try.tq Try.type67 Try.underlying67) (.some (Try.tq Try.type68 Try.underlying68) (.none (.some (Try.tq Try.type70 Try.underlying70) (.some (Try.tq Try.type71 Try.underlying71) (.some (Try.tq Try.type72 Try.underlying72) (.some (Try.tq Try.type73 Try.underlying73) (.some (Try.tq Try.type74 Try.underlying74) (.some (Try.tq Try.type75 Try.underlying75) (.some (Try.tq Try.type76 Try.underlying76) (.some (Try.tq Try.type77 Try.underlying77) (.none (.some (Try.tq Try.type79 Try.underlying79) (.nil _))))))))))))))))) (.cons (.some (Try.tq Try.type80 Try.underlying80) (.some (Try.tq Try.type81 Try.underlying81) (.some (Try.tq Try.type82 Try.underlying82) (.some (Try.tq Try.type83 Try.underlying83) (.some (Try.tq Try.type84 Try.underlying84) (.some (Try.tq Try.type85 Try.underlying85) (.some (Try.tq Try.type86 Try.underlying86) (.some (Try.tq Try.type87 Try.underlying87) (.some (Try.tq Try.type88 Try.underlying88) (.some (Try.tq Try.type89 Try.underlying89) (.some (Try.tq Try.type90 Try.underlying90) (.some (Try.tq Try.type91 Try.underlying91) (.none (.some (Try.tq Try.type93 Try.underlying93) (.some (Try.tq Try.type94 Try.underlying94) (.some (Try.tq Try.type95 Try.underlying95) (.nil _))))))))))))))))) (.cons (.some (Try.tq Try.type96 Try.underlying96) (.some (Try.tq Try.type97 Try.underlying97) (.some (Try.tq Try.type98 Try.underlying98) (.some (Try.tq Try.type99 Try.underlying99) (.some (Try.tq Try.type100 Try.underlying100) (.some (Try.tq Try.type101 Try.underlying101) (.some (Try.tq Try.type102 Try.underlying102) (.some (Try.tq Try.type103 Try.underlying103) (.some (Try.tq Try.type104 Try.underlying104) (.some (Try.tq Try.type105 Try.underlying105) (.none (.some (Try.tq Try.type107 Try.underlying107) (.some (Try.tq Try.type108 Try.underlying108) (.some (Try.tq Try.type109 Try.underlying109) (.some (Try.tq Try.type110 Try.underlying110) (.some (Try.tq Try.type111 Try.underlying111) (.nil _))))))))))))))))) (.cons (.some (Try.tq Try.type112 Try.underlying112) (.some (Try.tq Try.type113 Try.underlying113) (.some (Try.tq Try.type114 Try.underlying114) (.some (Try.tq Try.type115 Try.underlying115) (.some (Try.tq Try.type116 Try.underlying116) (.some (Try.tq Try.type117 Try.underlying117) (.some (Try.tq Try.type118 Try.underlying118) (.some (Try.tq Try.type119 Try.underlying119) (.some (Try.tq Try.type120 Try.underlying120) (.some (Try.tq Try.type121 Try.underlying121) (.some (Try.tq Try.type122 Try.underlying122) (.some (Try.tq Try.type123 Try.underlying123) (.some (Try.tq Try.type124 Try.underlying124) (.some (Try.tq Try.type125 Try.underlying125) (.some (Try.tq Try.type126 Try.underlying126) (.some (Try.tq Try.type127 Try.underlying127) (.nil _))))))))))))))))) (.cons (.some (Try.tq Try.type128 Try.underlying128) (.some (Try.tq Try.type129 Try.underlying129) (.some (Try.tq Try.type130 Try.underlying130) (.some (Try.tq Try.type131 Try.underlying131) (.some (Try.tq Try.type132 Try.underlying132) (.some (Try.tq Try.type133 Try.underlying133) (.some (Try.tq Try.type134 Try.underlying134) (.some (Try.tq Try.type135 Try.underlying135) (.some (Try.tq Try.type136 Try.underlying136) (.some (Try.tq Try.type137 Try.underlying137) (.some (Try.tq Try.type138 Try.underlying138) (.some (Try.tq Try.type139 Try.underlying139) (.some (Try.tq Try.type140 Try.underlying140) (.some (Try.tq Try.type141 Try.underlying141) (.some (Try.tq Try.type142 Try.underlying142) (.some (Try.tq Try.type143 Try.underlying143) (.nil _))))))))))))))))) (.cons (.some (Try.tq Try.type144 Try.underlying144) (.some (Try.tq Try.type145 Try.underlying145) (.some (Try.tq Try.type146 Try.underlying146) (.none (.some (Try.tq Try.type148 Try.underlying148) (.some (Try.tq Try.type149 Try.underlying149) (.some (Try.tq Try.type150 Try.underlying150) (.some (Try.tq Try.type151 Try.underlying151) (.some (Try.tq Try.type152 Try.underlying152) (.some (Try.tq Try.type153 Try.underlying153) (.some (Try.tq Try.type154 Try.underlying154) (.some (Try.tq Try.type155 Try.underlying155) (.some (Try.tq Try.type156 Try.underlying156) (.some (Try.tq Try.type157 Try.underlying157) (.some (Try.tq Try.type158 Try.underlying158) (.some (Try.tq Try.type159 Try.underlying159) (.nil _))))))))))))))))) (.cons (.some (Try.tq Try.type160 Try.underlying160) (.some (Try.tq Try.type161 Try.underlying161) (.some (Try.tq Try.type162 Try.underlying162) (.some (Try.tq Try.type163 Try.underlying163) (.none (.none (.none (.none (.none (.none (.none (.none (.none (.none (.none (.none (.nil _))))))))))))))))) (.nil _))))))))))))
theorem Try.fnsOk : ∀ g fn, Try.fns.get g = some fn → Try.FnOk g fn := Tri.get_all (p := Try.FnOk) (.cons (.none (.none (.none (.some Try.fnOk3 (.some Try.fnOk4 (.some Try.fnOk5 (.some Try.fnOk6 (.some Try.fnOk7 (.some Try.fnOk8 (.some Try.fnOk9 (.some Try.fnOk10 (.some Try.fnOk11 (.some Try.fnOk12 (.some Try.fnOk13 (.some Try.fnOk14 (.some Try.fnOk15 (.nil _))))))))))))))))) (.cons (.some Try.fnOk16 (.some Try.fnOk17 (.some Try.fnOk18 (.some Try.fnOk19 (.some Try.fnOk20 (.some Try.fnOk21 (.some Try.fnOk22 (.some Try.fnOk23 (.some Try.fnOk24 (.some Try.fnOk25 (.some Try.fnOk26 (.some Try.fnOk27 (.some Try.fnOk28 (.some Try.fnOk29 (.some Try.fnOk30 (.some Try.fnOk31 (.nil _))))))))))))))))) (.cons (.some Try.fnOk32 (.some Try.fnOk33 (.some Try.fnOk34 (.some Try.fnOk35 (.some Try.fnOk36 (.some Try.fnOk37 (.some Try.fnOk38 (.some Try.fnOk39 (.some Try.fnOk40 (.some Try.fnOk41 (.some Try.fnOk42 (.some Try.fnOk43 (.some Try.fnOk44 (.some Try.fnOk45 (.some Try.fnOk46 (.some Try.fnOk47 (.nil _))))))))))))))))) (.cons (.some Try.fnOk48 (.some Try.fnOk49 (.some Try.fnOk50 (.some Try.fnOk51 (.some Try.fnOk52 (.some Try.fnOk53 (.some Try.fnOk54 (.some Try.fnOk55 (.some Try.fnOk56 (.some Try.fnOk57 (.some Try.fnOk58 (.some Try.fnOk59 (.some Try.fnOk60 (.some Try.fnOk61 (.some Try.fnOk62 (.some Try.fnOk63 (.nil _))))))))))))))))) (.cons (.some Try.fnOk64 (.some Try.fnOk65 (.some Try.fnOk66 (.some Try.fnOk67 (.some Try.fnOk68 (.some Try.fnOk69 (.some Try.fnOk70 (.some Try.fnOk71 (.some Try.fnOk72 (.some Try.fnOk73 (.some Try.fnOk74 (.some Try.fnOk75 (.some Try.fnOk76 (.some Try.fnOk77 (.some Try.fnOk78 (.some Try.fnOk79 (.nil _))))))))))))))))) (.cons (.some Try.fnOk80 (.some Try.fnOk81 (.some Try.fnOk82 (.some Try.fnOk83 (.some Try.fnOk84 (.some Try.fnOk85 (.some Try.fnOk86 (.some Try.fnOk87 (.some Try.fnOk88 (.some Try.fnOk89 (.some Try.fnOk90 (.some Try.fnOk91 (.some Try.fnOk92 (.some Try.fnOk93 (.some Try.fnOk94 (.some Try.fnOk95 (.nil _))))))))))))))))) (.cons (.some Try.fnOk96 (.some Try.fnOk97 (.some Try.fnOk98 (.some Try.fnOk99 (.some Try.fnOk100 (.some Try.fnOk101 (.some Try.fnOk102 (.some Try.fnOk103 (.some Try.fnOk104 (.some Try.fnOk105 (.some Try.fnOk106 (.some Try.fnOk107 (.some Try.fnOk108 (.some Try.fnOk109 (.none (.some Try.fnOk111 (.nil _))))))))))))))))) (.nil _))))))))
theorem Try.mixed : Try.prog.follows .mixedOrders = true := by kernel_rfl
end Go.Ev
/- Summaries out of runs. -/
namespace Go.Ev
def heap0 : Heap := ⟨0, []⟩
theorem heap0_ok : heap0.ok := ⟨List.nodup_nil, fun id e h => by simp [heap0] at h⟩
theorem run_sum {P : Program} {env : Env} (he : EnvOk2 P env) (d g : Nat) {ρ : Type} {args : List AV} {h : Heap} {K : AV → Heap → Option ρ} {r : ρ} (hk : h.ok) (hs : env.sum g = none) (hK : callF env (d + 1) ρ (.clo (.func g) [] []) args h K = some r) :
    (∃ fn c, P.funcs[g]? = some fn ∧ fn.name ≠ "runtime.NumGoroutine" ∧ fn.body = some c) ∧ ∃ v h', K v h' = some r ∧ HEff h h' ∧ ∀ (w : World) (c : Cx) (args' : List Value), HR w c h.G → VRs w c args args' → (∀ id, h.next ≤ id → id < h'.next → ¬ c.V id) →
      CallsIn Fence.wide 0 P g args'.toArray w (PostE w c h h' v) := by
  have hK' : (match env.sum g with | some A => A ρ ([] ++ args ++ []) h K | none => enterK env (callF env d) ⟨false, 0, false⟩ g ([] ++ args ++ []) h K) = some r := hK
  rw [hs] at hK'
  simp only [List.nil_append, List.append_nil] at hK'
  obtain ⟨h1, v, h', k1, k2, k3⟩ := enter_sound he (callF_sound he d) hk hK'
  exact ⟨h1, v, h', k1, k2.2 rfl, fun w c args' hr hv hfr => CallsIn.mono (k3 w c args' hr hv (Fresh.of hfr)) (fun e w' q => q.post)⟩
theorem HR.none {w : World} {c : Cx} {G : Nat → Option Blk} (h : HR w c G) : HR w c.none heap0.G :=
  ⟨fun id b hb => by simp [Heap.G, heap0] at hb, fun id b hb => by simp [Heap.G, heap0] at hb, fun i j b b' hb => by simp [Heap.G, heap0] at hb, fun b hb => ⟨fun q => q, (h.dis b hb).2⟩⟩
theorem Ext.ofNone {w w' : World} {c c' : Cx} (h : Ext w c.none w' c') : Ext w c w' c ∧ ∀ b, b < w.heap.size → w'.heap[b]? = w.heap[b]? := by
  have hall : ∀ b, b < w.heap.size → w'.heap[b]? = w.heap[b]? := fun b hb => h.keep b hb (fun q => q)
  exact ⟨⟨⟨fun _ q => q, fun b hb _ => hall b hb, fun i hi => ⟨hi, rfl⟩⟩, h.os, h.tape, h.output, h.size, fun b hb _ => hall b hb, fun _ _ q => q, fun _ _ q => q, fun _ q q' => absurd q q'⟩, hall⟩
theorem HR.kept {w w' : World} {c : Cx} {G : Nat → Option Blk} (h : HR w c G) (hx : Ext w c w' c) (hall : ∀ b, b < w.heap.size → w'.heap[b]? = w.heap[b]?) : HR w' c G :=
  ⟨h.valid, fun id b hb => BlkRel.keep hx.toExt0 (h.blk id b hb) (fun hl => hall _ ((h.blk id b hb).lt hl)) (fun hl => (h.blk id b hb).owned hl), h.inj, fun b hb => ⟨(h.dis b hb).1, Nat.lt_of_lt_of_le (h.dis b hb).2 hx.size⟩⟩
noncomputable def constA (v : Value) : AFun := fun _ args h K => match args with
  | [] => K (.val v) h
  | _ => none
theorem SumC.closed {P : Program} {env : Env} (he : EnvOk2 P env) (d g : Nat) (hs : env.sum g = none) {v : Value} (hrun : callF env (d + 1) AV (.clo (.func g) [] []) [] heap0 (fun v _ => some v) = some (.val v)) : SumC P g (constA v) := by
  obtain ⟨h1, u, h', k1, k2, k3⟩ := run_sum he d g heap0_ok hs hrun
  injection k1 with k1
  subst k1
  refine ⟨h1, ?_⟩
  intro ρ args h K r hk hA
  unfold constA at hA
  split at hA
  · refine ⟨.val v, h, hA, HEff.refl hk, ?_⟩
    intro w c args' hr hv hfr
    cases hv
    apply callsRet
    refine CallsIn.mono (k3 w c.none [] hr.none .nil (fun id _ _ q => q)) ?_
    rintro e w' ⟨c', q0, q2, q3, q4⟩
    obtain ⟨v', rfl, q1⟩ := q0.ret (fun x => by simp)
    obtain ⟨x1, x2⟩ := q2.ofNone
    have := q1.val_inv
    subst this
    exact ⟨_, rfl, c, .val _, x1, fun id hid => .inl hid, hr.kept x1 x2⟩
  · cases hA
end Go.Ev
