/- The evaluator, its soundness and the walks: part 5. -/
import Derived.Test.YtdogimleeplpkaaGreatC4
set_option linter.unusedSectionVars false
set_option linter.unusedSimpArgs false
set_option linter.unusedVariables false
set_option maxRecDepth 100000
set_option maxRecDepth 1000000
noncomputable section
namespace Go.Ev
open Go.Proofs
theorem Tryz.tq {t : Nat} {i : TI} {ti : TypeInfo} (h1 : Tryz.prog.types[t]? = some ti) (hu : Tryz.prog.underlying t = some i.desc) (hz : ti.zero = some i.zero := by kernel_rfl) (hs : ti.size = i.size := by kernel_rfl) (hb : ti.bytes = i.bytes := by kernel_rfl) (hc : tyCheck 239 i = true := by kernel_rfl) : TyOk Tryz.prog t i := TyOk.of_check h1 hz hs hb hu Tryz.types_size hc
abbrev Tryz.FnOk (k : Nat) (f : Func) : Prop := Tryz.prog.funcs[k]? = some f ∧ f.name ≠ "runtime.NumGoroutine"
theorem Tryz.fq {k : Nat} {f : Func} (h : Tryz.prog.funcs[k]? = some f) (h2 : decide (f.name ≠ "runtime.NumGoroutine") = true := by kernel_rfl) : Tryz.FnOk k f := ⟨h, of_decide_eq_true h2⟩
theorem Tryz.fnOk3 : Tryz.FnOk 3 Tryz.f3 := Tryz.fq Tryz.func3
theorem Tryz.fnOk4 : Tryz.FnOk 4 Tryz.f4 := Tryz.fq Tryz.func4
theorem Tryz.fnOk5 : Tryz.FnOk 5 Tryz.f5 := Tryz.fq Tryz.func5
theorem Tryz.fnOk6 : Tryz.FnOk 6 Tryz.f6 := Tryz.fq Tryz.func6
theorem Tryz.fnOk7 : Tryz.FnOk 7 Tryz.f7 := Tryz.fq Tryz.func7
theorem Tryz.fnOk8 : Tryz.FnOk 8 Tryz.f8 := Tryz.fq Tryz.func8
theorem Tryz.fnOk9 : Tryz.FnOk 9 Tryz.f9 := Tryz.fq Tryz.func9
theorem Tryz.fnOk10 : Tryz.FnOk 10 Tryz.f10 := Tryz.fq Tryz.func10
theorem Tryz.fnOk11 : Tryz.FnOk 11 Tryz.f11 := Tryz.fq Tryz.func11
theorem Tryz.fnOk12 : Tryz.FnOk 12 Tryz.f12 := Tryz.fq Tryz.func12
theorem Tryz.fnOk13 : Tryz.FnOk 13 Tryz.f13 := Tryz.fq Tryz.func13
theorem Tryz.fnOk14 : Tryz.FnOk 14 Tryz.f14 := Tryz.fq Tryz.func14
theorem Tryz.fnOk15 : Tryz.FnOk 15 Tryz.f15 := Tryz.fq Tryz.func15
theorem Tryz.fnOk16 : Tryz.FnOk 16 Tryz.f16 := Tryz.fq Tryz.func16
theorem Tryz.fnOk17 : Tryz.FnOk 17 Tryz.f17 := Tryz.fq Tryz.func17
theorem Tryz.fnOk18 : Tryz.FnOk 18 Tryz.f18 := Tryz.fq Tryz.func18
theorem Tryz.fnOk19 : Tryz.FnOk 19 Tryz.f19 := Tryz.fq Tryz.func19
theorem Tryz.fnOk20 : Tryz.FnOk 20 Tryz.f20 := Tryz.fq Tryz.func20
theorem Tryz.fnOk21 : Tryz.FnOk 21 Tryz.f21 := Tryz.fq Tryz.func21
theorem Tryz.fnOk22 : Tryz.FnOk 22 Tryz.f22 := Tryz.fq Tryz.func22
theorem Tryz.fnOk23 : Tryz.FnOk 23 Tryz.f23 := Tryz.fq Tryz.func23
theorem Tryz.fnOk24 : Tryz.FnOk 24 Tryz.f24 := Tryz.fq Tryz.func24
theorem Tryz.fnOk25 : Tryz.FnOk 25 Tryz.f25 := Tryz.fq Tryz.func25
theorem Tryz.fnOk26 : Tryz.FnOk 26 Tryz.f26 := Tryz.fq Tryz.func26
theorem Tryz.fnOk27 : Tryz.FnOk 27 Tryz.f27 := Tryz.fq Tryz.func27
theorem Tryz.fnOk28 : Tryz.FnOk 28 Tryz.f28 := Tryz.fq Tryz.func28
theorem Tryz.fnOk29 : Tryz.FnOk 29 Tryz.f29 := Tryz.fq Tryz.func29
theorem Tryz.fnOk30 : Tryz.FnOk 30 Tryz.f30 := Tryz.fq Tryz.func30
theorem Tryz.fnOk31 : Tryz.FnOk 31 Tryz.f31 := Tryz.fq Tryz.func31
theorem Tryz.fnOk32 : Tryz.FnOk 32 Tryz.f32 := Tryz.fq Tryz.func32
theorem Tryz.fnOk33 : Tryz.FnOk 33 Tryz.f33 := Tryz.fq Tryz.func33
theorem Tryz.fnOk34 : Tryz.FnOk 34 Tryz.f34 := Tryz.fq Tryz.func34
theorem Tryz.fnOk35 : Tryz.FnOk 35 Tryz.f35 := Tryz.fq Tryz.func35
theorem Tryz.fnOk36 : Tryz.FnOk 36 Tryz.f36 := Tryz.fq Tryz.func36
theorem Tryz.fnOk37 : Tryz.FnOk 37 Tryz.f37 := Tryz.fq Tryz.func37
theorem Tryz.fnOk38 : Tryz.FnOk 38 Tryz.f38 := Tryz.fq Tryz.func38
theorem Tryz.fnOk39 : Tryz.FnOk 39 Tryz.f39 := Tryz.fq Tryz.func39
theorem Tryz.fnOk40 : Tryz.FnOk 40 Tryz.f40 := Tryz.fq Tryz.func40
theorem Tryz.fnOk41 : Tryz.FnOk 41 Tryz.f41 := Tryz.fq Tryz.func41
theorem Tryz.fnOk42 : Tryz.FnOk 42 Tryz.f42 := Tryz.fq Tryz.func42
theorem Tryz.fnOk43 : Tryz.FnOk 43 Tryz.f43 := Tryz.fq Tryz.func43
theorem Tryz.fnOk44 : Tryz.FnOk 44 Tryz.f44 := Tryz.fq Tryz.func44
theorem Tryz.fnOk45 : Tryz.FnOk 45 Tryz.f45 := Tryz.fq Tryz.func45
theorem Tryz.fnOk46 : Tryz.FnOk 46 Tryz.f46 := Tryz.fq Tryz.func46
theorem Tryz.fnOk47 : Tryz.FnOk 47 Tryz.f47 := Tryz.fq Tryz.func47
theorem Tryz.fnOk48 : Tryz.FnOk 48 Tryz.f48 := Tryz.fq Tryz.func48
theorem Tryz.fnOk49 : Tryz.FnOk 49 Tryz.f49 := Tryz.fq Tryz.func49
theorem Tryz.fnOk50 : Tryz.FnOk 50 Tryz.f50 := Tryz.fq Tryz.func50
theorem Tryz.fnOk51 : Tryz.FnOk 51 Tryz.f51 := Tryz.fq Tryz.func51
theorem Tryz.fnOk52 : Tryz.FnOk 52 Tryz.f52 := Tryz.fq Tryz.func52
theorem Tryz.fnOk53 : Tryz.FnOk 53 Tryz.f53 := Tryz.fq Tryz.func53
theorem Tryz.fnOk54 : Tryz.FnOk 54 Tryz.f54 := Tryz.fq Tryz.func54
theorem Tryz.fnOk55 : Tryz.FnOk 55 Tryz.f55 := Tryz.fq Tryz.func55
theorem Tryz.fnOk56 : Tryz.FnOk 56 Tryz.f56 := Tryz.fq Tryz.func56
theorem Tryz.fnOk57 : Tryz.FnOk 57 Tryz.f57 := Tryz.fq Tryz.func57
theorem Tryz.fnOk58 : Tryz.FnOk 58 Tryz.f58 := Tryz.fq Tryz.func58
theorem Tryz.fnOk59 : Tryz.FnOk 59 Tryz.f59 := Tryz.fq Tryz.func59
theorem Tryz.fnOk60 : Tryz.FnOk 60 Tryz.f60 := Tryz.fq Tryz.func60
theorem Tryz.fnOk61 : Tryz.FnOk 61 Tryz.f61 := Tryz.fq Tryz.func61
theorem Tryz.fnOk62 : Tryz.FnOk 62 Tryz.f62 := Tryz.fq Tryz.func62
theorem Tryz.fnOk63 : Tryz.FnOk 63 Tryz.f63 := Tryz.fq Tryz.func63
theorem Tryz.fnOk64 : Tryz.FnOk 64 Tryz.f64 := Tryz.fq Tryz.func64
theorem Tryz.fnOk65 : Tryz.FnOk 65 Tryz.f65 := Tryz.fq Tryz.func65
theorem Tryz.fnOk66 : Tryz.FnOk 66 Tryz.f66 := Tryz.fq Tryz.func66
theorem Tryz.fnOk67 : Tryz.FnOk 67 Tryz.f67 := Tryz.fq Tryz.func67
theorem Tryz.fnOk68 : Tryz.FnOk 68 Tryz.f68 := Tryz.fq Tryz.func68
theorem Tryz.fnOk69 : Tryz.FnOk 69 Tryz.f69 := Tryz.fq Tryz.func69
theorem Tryz.fnOk70 : Tryz.FnOk 70 Tryz.f70 := Tryz.fq Tryz.func70
theorem Tryz.fnOk71 : Tryz.FnOk 71 Tryz.f71 := Tryz.fq Tryz.func71
theorem Tryz.fnOk72 : Tryz.FnOk 72 Tryz.f72 := Tryz.fq Tryz.func72
theorem Tryz.fnOk73 : Tryz.FnOk 73 Tryz.f73 := Tryz.fq Tryz.func73
theorem Tryz.fnOk74 : Tryz.FnOk 74 Tryz.f74 := Tryz.fq Tryz.func74
theorem Tryz.fnOk75 : Tryz.FnOk 75 Tryz.f75 := Tryz.fq Tryz.func75
theorem Tryz.fnOk76 : Tryz.FnOk 76 Tryz.f76 := Tryz.fq Tryz.func76
theorem Tryz.fnOk77 : Tryz.FnOk 77 Tryz.f77 := Tryz.fq Tryz.func77
theorem Tryz.fnOk78 : Tryz.FnOk 78 Tryz.f78 := Tryz.fq Tryz.func78
theorem Tryz.fnOk79 : Tryz.FnOk 79 Tryz.f79 := Tryz.fq Tryz.func79
theorem Tryz.fnOk80 : Tryz.FnOk 80 Tryz.f80 := Tryz.fq Tryz.func80
theorem Tryz.fnOk81 : Tryz.FnOk 81 Tryz.f81 := Tryz.fq Tryz.func81
theorem Tryz.fnOk82 : Tryz.FnOk 82 Tryz.f82 := Tryz.fq Tryz.func82
theorem Tryz.fnOk83 : Tryz.FnOk 83 Tryz.f83 := Tryz.fq Tryz.func83
theorem Tryz.fnOk84 : Tryz.FnOk 84 Tryz.f84 := Tryz.fq Tryz.func84
theorem Tryz.fnOk85 : Tryz.FnOk 85 Tryz.f85 := Tryz.fq Tryz.func85
theorem Tryz.fnOk86 : Tryz.FnOk 86 Tryz.f86 := Tryz.fq Tryz.func86
theorem Tryz.fnOk87 : Tryz.FnOk 87 Tryz.f87 := Tryz.fq Tryz.func87
theorem Tryz.fnOk88 : Tryz.FnOk 88 Tryz.f88 := Tryz.fq Tryz.func88
theorem Tryz.fnOk89 : Tryz.FnOk 89 Tryz.f89 := Tryz.fq Tryz.func89
theorem Tryz.fnOk90 : Tryz.FnOk 90 Tryz.f90 := Tryz.fq Tryz.func90
theorem Tryz.fnOk91 : Tryz.FnOk 91 Tryz.f91 := Tryz.fq Tryz.func91
theorem Tryz.fnOk92 : Tryz.FnOk 92 Tryz.f92 := Tryz.fq Tryz.func92
theorem Tryz.fnOk93 : Tryz.FnOk 93 Tryz.f93 := Tryz.fq Tryz.func93
theorem Tryz.fnOk94 : Tryz.FnOk 94 Tryz.f94 := Tryz.fq Tryz.func94
theorem Tryz.fnOk95 : Tryz.FnOk 95 Tryz.f95 := Tryz.fq Tryz.func95
theorem Tryz.fnOk96 : Tryz.FnOk 96 Tryz.f96 := Tryz.fq Tryz.func96
theorem Tryz.fnOk97 : Tryz.FnOk 97 Tryz.f97 := Tryz.fq Tryz.func97
theorem Tryz.fnOk98 : Tryz.FnOk 98 Tryz.f98 := Tryz.fq Tryz.func98
theorem Tryz.fnOk99 : Tryz.FnOk 99 Tryz.f99 := Tryz.fq Tryz.func99
theorem Tryz.fnOk100 : Tryz.FnOk 100 Tryz.f100 := Tryz.fq Tryz.func100
theorem Tryz.fnOk101 : Tryz.FnOk 101 Tryz.f101 := Tryz.fq Tryz.func101
theorem Tryz.fnOk103 : Tryz.FnOk 103 Tryz.f103 := Tryz.fq Tryz.func103
theorem Tryz.fnOk104 : Tryz.FnOk 104 Tryz.f104 := Tryz.fq Tryz.func104
theorem Tryz.fnOk105 : Tryz.FnOk 105 Tryz.f105 := Tryz.fq Tryz.func105
theorem Tryz.fnOk106 : Tryz.FnOk 106 Tryz.f106 := Tryz.fq Tryz.func106
theorem Tryz.fnOk107 : Tryz.FnOk 107 Tryz.f107 := Tryz.fq Tryz.func107
theorem Tryz.fnOk108 : Tryz.FnOk 108 Tryz.f108 := Tryz.fq Tryz.func108
theorem Tryz.fnOk109 : Tryz.FnOk 109 Tryz.f109 := Tryz.fq Tryz.func109
theorem Tryz.fnOk110 : Tryz.FnOk 110 Tryz.f110 := Tryz.fq Tryz.func110
theorem Tryz.fnOk111 : Tryz.FnOk 111 Tryz.f111 := Tryz.fq Tryz.func111
theorem Tryz.fnOk112 : Tryz.FnOk 112 Tryz.f112 := Tryz.fq Tryz.func112
theorem Tryz.fnOk113 : Tryz.FnOk 113 Tryz.f113 := Tryz.fq Tryz.func113
theorem Tryz.fnOk114 : Tryz.FnOk 114 Tryz.f114 := Tryz.fq Tryz.func114
theorem Tryz.fnOk115 : Tryz.FnOk 115 Tryz.f115 := Tryz.fq Tryz.func115
theorem Tryz.fnOk116 : Tryz.FnOk 116 Tryz.f116 := Tryz.fq Tryz.func116
theorem Tryz.fnOk117 : Tryz.FnOk 117 Tryz.f117 := Tryz.fq Tryz.func117
theorem Tryz.fnOk118 : Tryz.FnOk 118 Tryz.f118 := Tryz.fq Tryz.func118
theorem Tryz.fnOk119 : Tryz.FnOk 119 Tryz.f119 := Tryz.fq Tryz.func119
theorem Tryz.fnOk120 : Tryz.FnOk 120 Tryz.f120 := Tryz.fq Tryz.func120
theorem Tryz.fnOk121 : Tryz.FnOk 121 Tryz.f121 := Tryz.fq Tryz.func121
theorem Tryz.fnOk122 : Tryz.FnOk 122 Tryz.f122 := Tryz.fq Tryz.func122
theorem Tryz.fnOk123 : Tryz.FnOk 123 Tryz.f123 := Tryz.fq Tryz.func123
theorem Tryz.fnOk124 : Tryz.FnOk 124 Tryz.f124 := Tryz.fq Tryz.func124
theorem Tryz.fnOk125 : Tryz.FnOk 125 Tryz.f125 := Tryz.fq Tryz.func125
theorem Tryz.fnOk126 : Tryz.FnOk 126 Tryz.f126 := Tryz.fq Tryz.func126
theorem Tryz.fnOk127 : Tryz.FnOk 127 Tryz.f127 := Tryz.fq Tryz.func127
theorem Tryz.fnOk128 : Tryz.FnOk 128 Tryz.f128 := Tryz.fq Tryz.func128
theorem Tryz.fnOk129 : Tryz.FnOk 129 Tryz.f129 := Tryz.fq Tryz.func129
theorem Tryz.fnOk130 : Tryz.FnOk 130 Tryz.f130 := Tryz.fq Tryz.func130
theorem Tryz.fnOk131 : Tryz.FnOk 131 Tryz.f131 := Tryz.fq Tryz.func131
theorem Tryz.fnOk132 : Tryz.FnOk 132 Tryz.f132 := Tryz.fq Tryz.func132
theorem Tryz.fnOk133 : Tryz.FnOk 133 Tryz.f133 := Tryz.fq Tryz.func133
theorem Tryz.fnOk134 : Tryz.FnOk 134 Tryz.f134 := Tryz.fq Tryz.func134
theorem Tryz.fnOk135 : Tryz.FnOk 135 Tryz.f135 := Tryz.fq Tryz.func135
theorem Tryz.fnOk136 : Tryz.FnOk 136 Tryz.f136 := Tryz.fq Tryz.func136
theorem Tryz.fnOk137 : Tryz.FnOk 137 Tryz.f137 := Tryz.fq Tryz.func137
theorem Tryz.fnOk138 : Tryz.FnOk 138 Tryz.f138 := Tryz.fq Tryz.func138
theorem Tryz.fnOk139 : Tryz.FnOk 139 Tryz.f139 := Tryz.fq Tryz.func139
theorem Tryz.fnOk140 : Tryz.FnOk 140 Tryz.f140 := Tryz.fq Tryz.func140
theorem Tryz.fnOk141 : Tryz.FnOk 141 Tryz.f141 := Tryz.fq Tryz.func141
theorem Tryz.fnOk142 : Tryz.FnOk 142 Tryz.f142 := Tryz.fq Tryz.func142
theorem Tryz.fnOk143 : Tryz.FnOk 143 Tryz.f143 := Tryz.fq Tryz.func143
theorem Tryz.fnOk144 : Tryz.FnOk 144 Tryz.f144 := Tryz.fq Tryz.func144
theorem Tryz.fnOk145 : Tryz.FnOk 145 Tryz.f145 := Tryz.fq Tryz.func145
theorem Tryz.fnOk146 : Tryz.FnOk 146 Tryz.f146 := Tryz.fq Tryz.func146
theorem Tryz.fnOk147 : Tryz.FnOk 147 Tryz.f147 := Tryz.fq Tryz.func147
theorem Tryz.fnOk148 : Tryz.FnOk 148 Tryz.f148 := Tryz.fq Tryz.func148
theorem Tryz.fnOk149 : Tryz.FnOk 149 Tryz.f149 := Tryz.fq Tryz.func149
theorem Tryz.fnOk150 : Tryz.FnOk 150 Tryz.f150 := Tryz.fq Tryz.func150
theorem Tryz.fnOk151 : Tryz.FnOk 151 Tryz.f151 := Tryz.fq Tryz.func151
theorem Tryz.fnOk152 : Tryz.FnOk 152 Tryz.f152 := Tryz.fq Tryz.func152
theorem Tryz.fnOk153 : Tryz.FnOk 153 Tryz.f153 := Tryz.fq Tryz.func153
theorem Tryz.fnOk154 : Tryz.FnOk 154 Tryz.f154 := Tryz.fq Tryz.func154
theorem Tryz.fnOk155 : Tryz.FnOk 155 Tryz.f155 := Tryz.fq Tryz.func155
theorem Tryz.fnOk156 : Tryz.FnOk 156 Tryz.f156 := Tryz.fq Tryz.func156
theorem Tryz.fnOk157 : Tryz.FnOk 157 Tryz.f157 := Tryz.fq Tryz.func157
theorem Tryz.fnOk158 : Tryz.FnOk 158 Tryz.f158 := Tryz.fq Tryz.func158
theorem Tryz.fnOk159 : Tryz.FnOk 159 Tryz.f159 := Tryz.fq Tryz.func159
theorem Tryz.fnOk160 : Tryz.FnOk 160 Tryz.f160 := Tryz.fq Tryz.func160
theorem Tryz.fnOk161 : Tryz.FnOk 161 Tryz.f161 := Tryz.fq Tryz.func161
theorem Tryz.fnOk162 : Tryz.FnOk 162 Tryz.f162 := Tryz.fq Tryz.func162
theorem Tryz.fnOk163 : Tryz.FnOk 163 Tryz.f163 := Tryz.fq Tryz.func163
theorem Tryz.fnOk164 : Tryz.FnOk 164 Tryz.f164 := Tryz.fq Tryz.func164
theorem Tryz.fnOk165 : Tryz.FnOk 165 Tryz.f165 := Tryz.fq Tryz.func165
theorem Tryz.fnOk167 : Tryz.FnOk 167 Tryz.f167 := Tryz.fq Tryz.func167
theorem Tryz.fnOk168 : Tryz.FnOk 168 Tryz.f168 := Tryz.fq Tryz.func168
theorem Tryz.fnOk169 : Tryz.FnOk 169 Tryz.f169 := Tryz.fq Tryz.func169
theorem Tryz.fnOk170 : Tryz.FnOk 170 Tryz.f170 := Tryz.fq Tryz.func170
theorem Tryz.fnOk171 : Tryz.FnOk 171 Tryz.f171 := Tryz.fq Tryz.func171
theorem Tryz.fnOk172 : Tryz.FnOk 172 Tryz.f172 := Tryz.fq Tryz.func172
theorem Tryz.fnOk173 : Tryz.FnOk 173 Tryz.f173 := Tryz.fq Tryz.func173
theorem Tryz.fnOk174 : Tryz.FnOk 174 Tryz.f174 := Tryz.fq Tryz.func174
theorem Tryz.fnOk175 : Tryz.FnOk 175 Tryz.f175 := Tryz.fq Tryz.func175
theorem Tryz.fnOk176 : Tryz.FnOk 176 Tryz.f176 := Tryz.fq Tryz.func176
theorem Tryz.fnOk177 : Tryz.FnOk 177 Tryz.f177 := Tryz.fq Tryz.func177
theorem Tryz.fnOk178 : Tryz.FnOk 178 Tryz.f178 := Tryz.fq Tryz.func178
theorem Tryz.fnOk179 : Tryz.FnOk 179 Tryz.f179 := Tryz.fq Tryz.func179
theorem Tryz.fnOk180 : Tryz.FnOk 180 Tryz.f180 := Tryz.fq Tryz.func180
theorem Tryz.fnOk181 : Tryz.FnOk 181 Tryz.f181 := Tryz.fq Tryz.func181
theorem Tryz.fnOk182 : Tryz.FnOk 182 Tryz.f182 := Tryz.fq Tryz.func182
theorem Tryz.fnOk183 : Tryz.FnOk 183 Tryz.f183 := Tryz.fq Tryz.func183
theorem Tryz.fnOk184 : Tryz.FnOk 184 Tryz.f184 := Tryz.fq Tryz.func184
theorem Tryz.fnOk185 : Tryz.FnOk 185 Tryz.f185 := Tryz.fq Tryz.func185
theorem Tryz.fnOk186 : Tryz.FnOk 186 Tryz.f186 := Tryz.fq Tryz.func186
theorem Tryz.fnOk187 : Tryz.FnOk 187 Tryz.f187 := Tryz.fq Tryz.func187
theorem Tryz.fnOk188 : Tryz.FnOk 188 Tryz.f188 := Tryz.fq Tryz.func188
theorem Tryz.fnOk189 : Tryz.FnOk 189 Tryz.f189 := Tryz.fq Tryz.func189
theorem Tryz.fnOk190 : Tryz.FnOk 190 Tryz.f190 := Tryz.fq Tryz.func190
theorem Tryz.fnOk191 : Tryz.FnOk 191 Tryz.f191 := Tryz.fq Tryz.func191
theorem Tryz.fnOk192 : Tryz.FnOk 192 Tryz.f192 := Tryz.fq Tryz.func192
theorem Tryz.fnOk193 : Tryz.FnOk 193 Tryz.f193 := Tryz.fq Tryz.func193
theorem Tryz.fnOk194 : Tryz.FnOk 194 Tryz.f194 := Tryz.fq Tryz.func194
theorem Tryz.fnOk195 : Tryz.FnOk 195 Tryz.f195 := Tryz.fq Tryz.func195
theorem Tryz.fnOk196 : Tryz.FnOk 196 Tryz.f196 := Tryz.fq Tryz.func196
theorem Tryz.fnOk197 : Tryz.FnOk 197 Tryz.f197 := Tryz.fq Tryz.func197
theorem Tryz.fnOk198 : Tryz.FnOk 198 Tryz.f198 := Tryz.fq Tryz.func198
theorem Tryz.fnOk199 : Tryz.FnOk 199 Tryz.f199 := Tryz.fq Tryz.func199
theorem Tryz.fnOk201 : Tryz.FnOk 201 Tryz.f201 := Tryz.fq Tryz.func201
theorem Tryz.fnOk202 : Tryz.FnOk 202 Tryz.f202 := Tryz.fq Tryz.func202
theorem Tryz.fnOk203 : Tryz.FnOk 203 Tryz.f203 := Tryz.fq Tryz.func203
theorem Tryz.fnOk204 : Tryz.FnOk 204 Tryz.f204 := Tryz.fq Tryz.func204
theorem Tryz.fnOk205 : Tryz.FnOk 205 Tryz.f205 := Tryz.fq Tryz.func205
theorem Tryz.fnOk206 : Tryz.FnOk 206 Tryz.f206 := Tryz.fq Tryz.func206
theorem Tryz.fnOk207 : Tryz.FnOk 207 Tryz.f207 := Tryz.fq Tryz.func207
theorem Tryz.fnOk208 : Tryz.FnOk 208 Tryz.f208 := Tryz.fq Tryz.func208
theorem Tryz.fnOk209 : Tryz.FnOk 209 Tryz.f209 := Tryz.fq Tryz.func209
theorem Tryz.fnOk210 : Tryz.FnOk 210 Tryz.f210 := Tryz.fq Tryz.func210
theorem Tryz.fnOk211 : Tryz.FnOk 211 Tryz.f211 := Tryz.fq Tryz.func211
theorem Tryz.fnOk212 : Tryz.FnOk 212 Tryz.f212 := Tryz.fq Tryz.func212
theorem Tryz.fnOk213 : Tryz.FnOk 213 Tryz.f213 := Tryz.fq Tryz.func213
theorem Tryz.fnOk214 : Tryz.FnOk 214 Tryz.f214 := Tryz.fq Tryz.func214
theorem Tryz.fnOk215 : Tryz.FnOk 215 Tryz.f215 := Tryz.fq Tryz.func215
theorem Tryz.fnOk216 : Tryz.FnOk 216 Tryz.f216 := Tryz.fq Tryz.func216
theorem Tryz.fnOk217 : Tryz.FnOk 217 Tryz.f217 := Tryz.fq Tryz.func217
theorem Tryz.fnOk218 : Tryz.FnOk 218 Tryz.f218 := Tryz.fq Tryz.func218
theorem Tryz.fnOk219 : Tryz.FnOk 219 Tryz.f219 := Tryz.fq Tryz.func219
theorem Tryz.tysOk : ∀ t i, Tryz.tys.get t = some i → TyOk Tryz.prog t i := Tri.get_all (.cons (.none (.some (Tryz.tq Tryz.type1 Tryz.underlying1) (.some (Tryz.tq Tryz.type2 Tryz.underlying2) (.some (Tryz.tq Tryz.type3 Tryz.underlying3) (.some (Tryz.tq Tryz.type4 Tryz.underlying4) (.some (Tryz.tq Tryz.type5 Tryz.underlying5) (.some (Tryz.tq Tryz.type6 Tryz.underlying6) (.some (Tryz.tq Tryz.type7 Tryz.underlying7) (.some (Tryz.tq Tryz.type8 Tryz.underlying8) (.some (Tryz.tq Tryz.type9 Tryz.underlying9) (.some (Tryz.tq Tryz.type10 Tryz.underlying10) (.some (Tryz.tq Tryz.type11 Tryz.underlying11) (.some (Tryz.tq Tryz.type12 Tryz.underlying12) (.some (Tryz.tq Tryz.type13 Tryz.underlying13) (.some (Tryz.tq Tryz.type14 Tryz.underlying14) (.some (Tryz.tq Tryz.type15 Tryz.underlying15) (.nil _))))))))))))))))) (.cons (.some (Tryz.tq Tryz.type16 Tryz.underlying16) (.some (Tryz.tq Tryz.type17 Tryz.underlying17) (.some (Tryz.tq Tryz.type18 Tryz.underlying18) (.some (Tryz.tq Tryz.type19 Tryz.underlying19) (.some (Tryz.tq Tryz.type20 Tryz.underlying20) (.some (Tryz.tq Tryz.type21 Tryz.underlying21) (.some (Tryz.tq Tryz.type22 Tryz.underlying22) (.some (Tryz.tq Tryz.type23 Tryz.underlying23) (.some (Tryz.tq Tryz.type24 Tryz.underlying24) (.some (Tryz.tq Tryz.type25 Tryz.underlying25) (.some (Tryz.tq Tryz.type26 Tryz.underlying26) (.some (Tryz.tq Tryz.type27 Tryz.underlying27) (.some (Tryz.tq Tryz.type28 Tryz.underlying28) (.some (Tryz.tq Tryz.type29 Tryz.underlying29) (.some (Tryz.tq Tryz.type30 Tryz.underlying30) (.some (Tryz.tq Tryz.type31 Tryz.underlying31) (.nil _))))))))))))))))) (.cons (.some (Tryz.tq Tryz.type32 Tryz.underlying32) (.none (.some (Tryz.tq Tryz.type34 Tryz.underlying34) (.some (Tryz.tq Tryz.type35 Tryz.underlying35) (.some (Tryz.tq Tryz.type36 Tryz.underlying36) (.some (Tryz.tq Tryz.type37 Tryz.underlying37) (.none (.some (Tryz.tq Tryz.type39 Tryz.underlying39) (.some (Tryz.tq Tryz.type40 Tryz.underlying40) (.some (Tryz.tq Tryz.type41 Tryz.underlying41) (.some (Tryz.tq Tryz.type42 Tryz.underlying42) (.some (Tryz.tq Tryz.type43 Tryz.underlying43) (.some (Tryz.tq Tryz.type44 Tryz.underlying44) (.some (Tryz.tq Tryz.type45 Tryz.underlying45) (.none (.some (Tryz.tq Tryz.type47 Tryz.underlying47) (.nil _))))))))))))))))) (.cons (.some (Tryz.tq Tryz.type48 Tryz.underlying48) (.some (Tryz.tq Tryz.type49 Tryz.underlying49) (.some (Tryz.tq Tryz.type50 Tryz.underlying50) (.some (Tryz.tq Tryz.type51 Tryz.underlying51) (.some (Tryz.tq Tryz.type52 Tryz.underlying52) (.some (Tryz.tq Tryz.type53 Tryz.underlying53) (.some (Tryz.tq Tryz.type54 Tryz.underlying54) (.some (Tryz.tq Tryz.type55 Tryz.underlying55) (.none (.some (Tryz.tq Tryz.type57 Tryz.underlying57) (.none (.some (Tryz.tq Tryz.type59 Tryz.underlying59) (.some (Tryz.tq Tryz.type60 Tryz.underlying60) (.some (Tryz.tq Tryz.type61 Tryz.underlying61) (.some (Tryz.tq Tryz.type62 Tryz.underlying62) (.some (Tryz.tq Tryz.type63 Tryz.underlying63) (.nil _))))))))))))))))) (.cons (.some (Tryz.tq Tryz.type64 Tryz.underlying64) (.some (Tryz.tq Tryz.type65 Tryz.underlying65) (.some (Tryz.tq Tryz.type66 Tryz.underlying66) (.some (Tryz.tq Tryz.type67 Tryz.underlying67) (.some (Tryz.tq Tryz.type68 Tryz.underlying68) (.some (Tryz.tq Tryz.type69 Tryz.underlying69) (.some (Tryz.tq Tryz.type70 Tryz.underlying70) (.some (Tryz.tq Tryz.type71 Tryz.underlying71) (.some (Tryz.tq Tryz.type72 Tryz.underlying72) (.none (.some (Tryz.tq Tryz.type74 Tryz.underlying74) (.some (Tryz.tq Tryz.type75 Tryz.underlying75) (.none (.some (Tryz.tq Tryz.type77 Tryz.underlying77) (.some (Tryz.tq Tryz.type78 Tryz.underlying78) (.some (Tryz.tq Tryz.type79 Tryz.underlying79) (.nil _))))))))))))))))) (.cons (.some (Tryz.tq Tryz.type80 Tryz.underlying80) (.some (Tryz.tq Tryz.type81 Tryz.underlying81) (.some (Tryz.tq Tryz.type82 Tryz.underlying82) (.some (Tryz.tq Tryz.type83 Tryz.underlying83) (.some (Tryz.tq Tryz.type84 Tryz.underlying84) (.some (Tryz.tq Tryz.type85 Tryz.underlying85) (.some (Tryz.tq Tryz.type86 Tryz.underlying86) (.some (Tryz.tq Tryz.type87 Tryz.underlying87) (.some (Tryz.tq Tryz.type88 Tryz.underlying88) (.some (Tryz.tq Tryz.type89 Tryz.underlying89) (.some (Tryz.tq Tryz.type90 Tryz.underlying90) (.some (Tryz.tq Tryz.type91 Tryz.underlying91) (.some (Tryz.tq Tryz.type92 Tryz.underlying92) (.some (Tryz.tq Tryz.type93 Tryz.underlying93) (.some (Tryz.tq Tryz.type94 Tryz.underlying94) (.some (Tryz.tq Tryz.type95 Tryz.underlying95) (.nil _))))))))))))))))) (.cons (.none (.some (Tryz.tq Tryz.type97 Tryz.underlying97) (.some (Tryz.tq Tryz.type98 Tryz.underlying98) (.some (Tryz.tq Tryz.type99 Tryz.underlying99) (.some (Tryz.tq Tryz.type100 Tryz.underlying100) (.some (Tryz.tq Tryz.type101 Tryz.underlying101) (.some (Tryz.tq Tryz.type102 Tryz.underlying102) (.some (Tryz.tq Tryz.type103 Tryz.underlying103) (.some (Tryz.tq Tryz.type104 Tryz.underlying104) (.some (Tryz.tq Tryz.type105 Tryz.underlying105) (.some (Tryz.tq Tryz.type106 Tryz.underlying106) (.some (Tryz.tq Tryz.type107 Tryz.underlying107) (.some (Tryz.tq Tryz.type108 Tryz.underlying108) (.some (Tryz.tq Tryz.type109 Tryz.underlying109) (.some (Tryz.tq Tryz.type110 Tryz.underlying110) (.some (Tryz.tq Tryz.type111 Tryz.underlying111) (.nil _))))))))))))))))) (.cons (.some (Tryz.tq Tryz.type112 Tryz.underlying112) (.some (Tryz.tq Tryz.type113 Tryz.underlying113) (.some (Tryz.tq Tryz.type114 Tryz.underlying114) (.some (Tryz.tq Tryz.type115 Tryz.underlying115) (.some (Tryz.tq Tryz.type116 Tryz.underlying116) (.some (Tryz.tq Tryz.type117 Tryz.underlying117) (.some (Tryz.tq Tryz.type118 Tryz.underlying118) (.some (Tryz.tq Tryz.type119 Tryz.underlying119) (.some (Tryz.tq Tryz.type120 Tryz.underlying120) (.some (Tryz.tq Tryz.type121 Tryz.underlying121) (.some (Tryz.tq Tryz.type122 Tryz.underlying122) (.none (.some (Tryz.tq Tryz.type124 Tryz.underlying124) (.some (Tryz.tq Tryz.type125 Tryz.underlying125) (.none (.some (Tryz.tq Tryz.type127 Tryz.underlying127) (.nil _))))))))))))))))) (.cons (.some (Tryz.tq Tryz.type128 Tryz.underlying128) (.none (.some (Tryz.tq Tryz.type130 Tryz.underlying130) (.some (Tryz.tq Tryz.type131 Tryz.underlying131) (.some (Tryz.tq Tryz.type132 Tryz.underlying132) (.some (Tryz.tq Tryz.type133 Tryz.underlying133) (.some (Tryz.tq Tryz.type134 Tryz.underlying134) (.some (Tryz.tq Tryz.type135 Tryz.underlying135) (.some (Tryz.tq Tryz.type136 Tryz.underlying136) (.some (Tryz.tq Tryz.type137 Tryz.underlying137) (.some (Tryz.tq Tryz.type138 Tryz.underlying138) (.some (Tryz.tq Tryz.type139 Tryz.underlying139) (.some (Tryz.tq Tryz.type140 Tryz.underlying140) (.some (Tryz.tq Tryz.type141 Tryz.underlying141) (.some (Tryz.tq Tryz.type142 Tryz.underlying142) (.some (Tryz.tq Tryz.type143 Tryz.underlying143) (.nil _))))))))))))))))) (.cons (.some (Tryz.tq Tryz.type144 Tryz.underlying144) (.some (Tryz.tq Tryz.type145 Tryz.underlying145) (.some (Tryz.tq Tryz.type146 Tryz.underlying146) (.none (.some (Tryz.tq Tryz.type148 Tryz.underlying148) (.some (Tryz.tq Tryz.type149 Tryz.underlying149) (.some (Tryz.tq Tryz.type150 Tryz.underlying150) (.some (Tryz.tq Tryz.type151 Tryz.underlying151) (.some (Tryz.tq Tryz.type152 Tryz.underlying152) (.some (Tryz.tq Tryz.type153 Tryz.underlying153) (.some (Tryz.tq Tryz.type154 Tryz.underlying154) (.some (Tryz.tq Tryz.type155 Tryz.underlying155) (.some (Tryz.tq Tryz.type156 Tryz.underlying156) (.some (Tryz.tq Tryz.type157 Tryz.underlying157) (.some (Tryz.tq Tryz.type158 Tryz.underlying158) (.some (Tryz.tq Tryz.type159 Tryz.underlying159) (.nil _))))))))))))))))) (.cons (.some (Tryz.tq Tryz.type160 Tryz.underlying160) (.some (Tryz.tq Tryz.type161 Tryz.underlying161) (.some (Tryz.tq Tryz.type162 Tryz.underlying162) (.some (Tryz.tq Tryz.type163 Tryz.underlying163) (.some (Tryz.tq Tryz.type164 Tryz.underlying164) (.some (Tryz.tq Tryz.type165 Tryz.underlying165) (.some (Tryz.tq Tryz.type166 Tryz.underlying166) (.some (Tryz.tq Tryz.type167 Tryz.underlying167) (.some (Tryz.tq Tryz.type168 Tryz.underlying168) (.some (Tryz.tq Tryz.type169 Tryz.underlying169) (.some (Tryz.tq Tryz.type170 Tryz.underlying170) (.some (Tryz.tq Tryz.type171 Tryz.underlying171) (.some (Tryz.tq Tryz.type172 Tryz.underlying172) (.some (Tryz.tq Tryz.type173 Tryz.underlying173) (.some (Tryz.tq Tryz.type174 Tryz.underlying174) (.some (Tryz.tq Tryz.type175 Tryz.underlying175) (.nil _))))))))))))))))) (.cons (.some (Tryz.tq Tryz.type176 Tryz.underlying176) (.some (Tryz.tq Tryz.type177 Tryz.underlying177) (.some (Tryz.tq Tryz.type178 Tryz.underlying178) (.some (Tryz.tq Tryz.type179 Tryz.underlying179) (.some (Tryz.tq Tryz.type180 Tryz.underlying180) (.none (.some (Tryz.tq Tryz.type182 Tryz.underlying182) (.some (Tryz.tq Tryz.type183 Tryz.underlying183) (.some (Tryz.tq Tryz.type184 Tryz.underlying184) (.some (Tryz.tq Tryz.type185 Tryz.underlying185) (.some (Tryz.tq Tryz.type186 Tryz.underlying186) (.some (Tryz.tq Tryz.type187 Tryz.underlying187) (.some (Tryz.tq Tryz.type188 Tryz.underlying188) (.some (Tryz.tq Tryz.type189 Tryz.underlying189) (.some (Tryz.tq Tryz.type190 Tryz.underlying190) (.some (Tryz.tq Tryz.type191 Tryz.underlying191) (.nil _))))))))))))))))) (.cons (.some (Tryz.tq Tryz.type192 Tryz.underlying192) (.some (Tryz.tq Tryz.type193 Tryz.underlying193) (.some (Tryz.tq Tryz.type194 Tryz.underlying194) (.some (Tryz.tq Tryz.type195 Tryz.underlying195) (.some (Tryz.tq Tryz.type196 Tryz.underlying196) (.some (Tryz.tq Tryz.type197 Tryz.underlying197) (.some (Tryz.tq Tryz.type198 Tryz.underlying198) (.some (Tryz.tq Tryz.type199 Tryz.underlying199) (.some (Tryz.tq Tryz.type200 Tryz.underlying200) (.some (Tryz.tq Tryz.type201 Tryz.underlying201) (.some (Tryz.tq Tryz.type202 Tryz.underlying202) (.some (Tryz.tq Tryz.type203 Tryz.underlying203) (.some (Tryz.tq Tryz.type204 Tryz.underlying204) (.some (Tryz.tq Tryz.type205 Tryz.underlying205) (.some (Tryz.tq Tryz.type206 Tryz.underlying206) (.some (Tryz.tq Tryz.type207 Tryz.underlying207) (.nil _))))))))))))))))) (.cons (.some (Tryz.tq Tryz.type208 Tryz.underlying208) (.some (Tryz.tq Tryz.type209 Tryz.underlying209) (.some (Tryz.tq Tryz.type210 Tryz.underlying210) (.some (Tryz.tq Tryz.type211 Tryz.underlying211) (.some (Tryz.tq Tryz.type212 Tryz.underlying212) (.some (Tryz.tq Tryz.type213 Tryz.underlying213) (.some (Tryz.tq Tryz.type214 Tryz.underlying214) (.some (Tryz.tq Tryz.type215 Tryz.underlying215) (.none (.some (Tryz.tq Tryz.type217 Tryz.underlying217) (.some (Tryz.tq Tryz.type218 Tryz.underlying218) (.some (Tryz.tq Tryz.type219 Tryz.underlying219) (.some (Tryz.tq Tryz.type220 Tryz.underlying220) (.some (Tryz.tq Tryz.type221 Tryz.underlying221) (.none (.some (Tryz.tq Tryz.type223 Tryz.underlying223) (.nil _))))))))))))))))) (.cons (.some (Tryz.tq Tryz.type224 Tryz.underlying224) (.some (Tryz.tq Tryz.type225 Tryz.underlying225) (.some (Tryz.tq Tryz.type226 Tryz.underlying226) (.some (Tryz.tq Tryz.type227 Tryz.underlying227) (.some (Tryz.tq Tryz.type228 Tryz.underlying228) (.some (Tryz.tq Tryz.type229 Tryz.underlying229) (.some (Tryz.tq Tryz.type230 Tryz.underlying230) (.some (Tryz.tq Tryz.type231 Tryz.underlying231) (.some (Tryz.tq Tryz.type232 Tryz.underlying232) (.some (Tryz.tq Tryz.type233 Tryz.underlying233) (.some (Tryz.tq Tryz.type234 Tryz.underlying234) (.some (Tryz.tq Tryz.type235 Tryz.underlying235) (.some (Tryz.tq Tryz.type236 Tryz.underlying236) (.some (Tryz.tq Tryz.type237 Tryz.underlying237) (.some (Tryz.tq Tryz.type238 Tryz.underlying238) (.none (.nil _))))))))))))))))) (.nil _))))))))))))))))
theorem Tryz.fnsOk : ∀ g fn, Tryz.fns.get g = some fn → Tryz.FnOk g fn := Tri.get_all (p := Tryz.FnOk) (.cons (.none (.none (.none (.some Tryz.fnOk3 (.some Tryz.fnOk4 (.some Tryz.fnOk5 (.some Tryz.fnOk6 (.some Tryz.fnOk7 (.some Tryz.fnOk8 (.some Tryz.fnOk9 (.some Tryz.fnOk10 (.some Tryz.fnOk11 (.some Tryz.fnOk12 (.some Tryz.fnOk13 (.some Tryz.fnOk14 (.some Tryz.fnOk15 (.nil _))))))))))))))))) (.cons (.some Tryz.fnOk16 (.some Tryz.fnOk17 (.some Tryz.fnOk18 (.some Tryz.fnOk19 (.some Tryz.fnOk20 (.some Tryz.fnOk21 (.some Tryz.fnOk22 (.some Tryz.fnOk23 (.some Tryz.fnOk24 (.some Tryz.fnOk25 (.some Tryz.fnOk26 (.some Tryz.fnOk27 (.some Tryz.fnOk28 (.some Tryz.fnOk29 (.some Tryz.fnOk30 (.some Tryz.fnOk31 (.nil _))))))))))))))))) (.cons (.some Tryz.fnOk32 (.some Tryz.fnOk33 (.some Tryz.fnOk34 (.some Tryz.fnOk35 (.some Tryz.fnOk36 (.some Tryz.fnOk37 (.some Tryz.fnOk38 (.some Tryz.fnOk39 (.some Tryz.fnOk40 (.some Tryz.fnOk41 (.some Tryz.fnOk42 (.some Tryz.fnOk43 (.some Tryz.fnOk44 (.some Tryz.fnOk45 (.some Tryz.fnOk46 (.some Tryz.fnOk47 (.nil _))))))))))))))))) (.cons (.some Tryz.fnOk48 (.some Tryz.fnOk49 (.some Tryz.fnOk50 (.some Tryz.fnOk51 (.some Tryz.fnOk52 (.some Tryz.fnOk53 (.some Tryz.fnOk54 (.some Tryz.fnOk55 (.some Tryz.fnOk56 (.some Tryz.fnOk57 (.some Tryz.fnOk58 (.some Tryz.fnOk59 (.some Tryz.fnOk60 (.some Tryz.fnOk61 (.some Tryz.fnOk62 (.some Tryz.fnOk63 (.nil _))))))))))))))))) (.cons (.some Tryz.fnOk64 (.some Tryz.fnOk65 (.some Tryz.fnOk66 (.some Tryz.fnOk67 (.some Tryz.fnOk68 (.some Tryz.fnOk69 (.some Tryz.fnOk70 (.some Tryz.fnOk71 (.some Tryz.fnOk72 (.some Tryz.fnOk73 (.some Tryz.fnOk74 (.some Tryz.fnOk75 (.some Tryz.fnOk76 (.some Tryz.fnOk77 (.some Tryz.fnOk78 (.some Tryz.fnOk79 (.nil _))))))))))))))))) (.cons (.some Tryz.fnOk80 (.some Tryz.fnOk81 (.some Tryz.fnOk82 (.some Tryz.fnOk83 (.some Tryz.fnOk84 (.some Tryz.fnOk85 (.some Tryz.fnOk86 (.some Tryz.fnOk87 (.some Tryz.fnOk88 (.some Tryz.fnOk89 (.some Tryz.fnOk90 (.some Tryz.fnOk91 (.some Tryz.fnOk92 (.some Tryz.fnOk93 (.some Tryz.fnOk94 (.some Tryz.fnOk95 (.nil _))))))))))))))))) (.cons (.some Tryz.fnOk96 (.some Tryz.fnOk97 (.some Tryz.fnOk98 (.some Tryz.fnOk99 (.some Tryz.fnOk100 (.some Tryz.fnOk101 (.none (.some Tryz.fnOk103 (.some Tryz.fnOk104 (.some Tryz.fnOk105 (.some Tryz.fnOk106 (.some Tryz.fnOk107 (.some Tryz.fnOk108 (.some Tryz.fnOk109 (.some Tryz.fnOk110 (.some Tryz.fnOk111 (.nil _))))))))))))))))) (.cons (.some Tryz.fnOk112 (.some Tryz.fnOk113 (.some Tryz.fnOk114 (.some Tryz.fnOk115 (.some Tryz.fnOk116 (.some Tryz.fnOk117 (.some Tryz.fnOk118 (.some Tryz.fnOk119 (.some Tryz.fnOk120 (.some Tryz.fnOk121 (.some Tryz.fnOk122 (.some Tryz.fnOk123 (.some Tryz.fnOk124 (.some Tryz.fnOk125 (.some Tryz.fnOk126 (.some Tryz.fnOk127 (.nil _))))))))))))))))) (.cons (.some Tryz.fnOk128 (.some Tryz.fnOk129 (.some Tryz.fnOk130 (.some Tryz.fnOk131 (.some Tryz.fnOk132 (.some Tryz.fnOk133 (.some Tryz.fnOk134 (.some Tryz.fnOk135 (.some Tryz.fnOk136 (.some Tryz.fnOk137 (.some Tryz.fnOk138 (.some Tryz.fnOk139 (.some Tryz.fnOk140 (.some Tryz.fnOk141 (.some Tryz.fnOk142 (.some Tryz.fnOk143 (.nil _))))))))))))))))) (.cons (.some Tryz.fnOk144 (.some Tryz.fnOk145 (.some Tryz.fnOk146 (.some Tryz.fnOk147 (.some Tryz.fnOk148 (.some Tryz.fnOk149 (.some Tryz.fnOk150 (.some Tryz.fnOk151 (.some Tryz.fnOk152 (.some Tryz.fnOk153 (.some Tryz.fnOk154 (.some Tryz.fnOk155 (.some Tryz.fnOk156 (.some Tryz.fnOk157 (.some Tryz.fnOk158 (.some Tryz.fnOk159 (.nil _))))))))))))))))) (.cons (.some Tryz.fnOk160 (.some Tryz.fnOk161 (.some Tryz.fnOk162 (.some Tryz.fnOk163 (.some Tryz.fnOk164 (.some Tryz.fnOk165 (.none (.some Tryz.fnOk167 (.some Tryz.fnOk168 (.some Tryz.fnOk169 (.some Tryz.fnOk170 (.some Tryz.fnOk171 (.some Tryz.fnOk172 (.some Tryz.fnOk173 (.some Tryz.fnOk174 (.some Tryz.fnOk175 (.nil _))))))))))))))))) (.cons (.some Tryz.fnOk176 (.some Tryz.fnOk177 (.some Tryz.fnOk178 (.some Tryz.fnOk179 (.some Tryz.fnOk180 (.some Tryz.fnOk181 (.some Tryz.fnOk182 (.some Tryz.fnOk183 (.some Tryz.fnOk184 (.some Tryz.fnOk185 (.some Tryz.fnOk186 (.some Tryz.fnOk187 (.some Tryz.fnOk188 (.some Tryz.fnOk189 (.some Tryz.fnOk190 (.some Tryz.fnOk191 (.nil _))))))))))))))))) (.cons (.some Tryz.fnOk192 (.some Tryz.fnOk193 (.some Tryz.fnOk194 (.some Tryz.fnOk195 (.some Tryz.fnOk196 (.some Tryz.fnOk197 (.some Tryz.fnOk198 (.some Tryz.fnOk199 (.none (.some Tryz.fnOk201 (.some Tryz.fnOk202 (.some Tryz.fnOk203 (.some Tryz.fnOk204 (.some Tryz.fnOk205 (.some Tryz.fnOk206 (.some Tryz.fnOk207 (.nil _))))))))))))))))) (.cons (.some Tryz.fnOk208 (.some Tryz.fnOk209 (.some Tryz.fnOk210 (.some Tryz.fnOk211 (.some Tryz.fnOk212 (.some Tryz.fnOk213 (.some Tryz.fnOk214 (.some Tryz.fnOk215 (.some Tryz.fnOk216 (.some Tryz.fnOk217 (.some Tryz.fnOk218 (.some Tryz.fnOk219 (.none (.none (.none (.none (.nil _))))))))))))))))) (.nil _)))))))))))))))
theorem Tryz.mixed : Tryz.prog.follows .mixedOrders = true := by kernel_rfl
end Go.Ev
/- Summaries out of runs. -/
namespace Go.Ev
def heap0 : Heap := ⟨0, []⟩
theorem heap0_ok : heap0.ok := ⟨List.nodup_nil, fun id e h => by simp [heap0] at h⟩
theorem run_sum {P : Program} {env : Env} (he : EnvOk2 P env) (d g : Nat) {ρ : Type} {args : List AV} {h : Heap} {K : AV → Heap → Option ρ} {r : ρ} (hk : h.ok) (hs : env.sum g = none) (hK : callF env (d + 1) ρ (.clo (.func g) [] []) args h K = some r) :
    (∃ fn c, P.funcs[g]? = some fn ∧ fn.name ≠ "runtime.NumGoroutine" ∧ fn.body = some c) ∧ ∃ v h', K v h' = some r ∧ HEff h h' ∧ ∀ (w : World) (c : Cx) (args' : List Value), HR w c h.G → VRs w c args args' → (∀ id, h.next ≤ id → id < h'.next → ¬ c.V id) →
      CallsIn Fence.wide 0 P g args'.toArray w (PostE w c h h' v) := by
  have hK' : (match env.sum g with | some A => A ρ ([] ++ args ++ []) h K | none => enterK env (callF env d) ⟨false, 0, false⟩ g ([] ++ args ++ []) h K) = some r := hK
  rw [hs] at hK'
  simp only [List.nil_append, List.append_nil] at hK'
  obtain ⟨h1, v, h', k1, k2, k3⟩ := enter_sound he (callF_sound he d) hk hK'
  exact ⟨h1, v, h', k1, k2.2 rfl, fun w c args' hr hv hfr => CallsIn.mono (k3 w c args' hr hv (Fresh.of hfr)) (fun e w' q => q.post)⟩
theorem HR.none {w : World} {c : Cx} {G : Nat → Option Blk} (h : HR w c G) : HR w c.none heap0.G :=
  ⟨fun id b hb => by simp [Heap.G, heap0] at hb, fun id b hb => by simp [Heap.G, heap0] at hb, fun i j b b' hb => by simp [Heap.G, heap0] at hb, fun b hb => ⟨fun q => q, (h.dis b hb).2⟩⟩
theorem Ext.ofNone {w w' : World} {c c' : Cx} (h : Ext w c.none w' c') : Ext w c w' c ∧ ∀ b, b < w.heap.size → w'.heap[b]? = w.heap[b]? := by
  have hall : ∀ b, b < w.heap.size → w'.heap[b]? = w.heap[b]? := fun b hb => h.keep b hb (fun q => q)
  exact ⟨⟨⟨fun _ q => q, fun b hb _ => hall b hb, fun i hi => ⟨hi, rfl⟩⟩, h.os, h.tape, h.output, h.size, fun b hb _ => hall b hb, fun _ _ q => q, fun _ _ q => q, fun _ q q' => absurd q q'⟩, hall⟩
theorem HR.kept {w w' : World} {c : Cx} {G : Nat → Option Blk} (h : HR w c G) (hx : Ext w c w' c) (hall : ∀ b, b < w.heap.size → w'.heap[b]? = w.heap[b]?) : HR w' c G :=
  ⟨h.valid, fun id b hb => BlkRel.keep hx.toExt0 (h.blk id b hb) (fun hl => hall _ ((h.blk id b hb).lt hl)) (fun hl => (h.blk id b hb).owned hl), h.inj, fun b hb => ⟨(h.dis b hb).1, Nat.lt_of_lt_of_le (h.dis b hb).2 hx.size⟩⟩
noncomputable def constA (v : Value) : AFun := fun _ args h K => match args with
  | [] => K (.val v) h
  | _ => none
theorem SumC.closed {P : Program} {env : Env} (he : EnvOk2 P env) (d g : Nat) (hs : env.sum g = none) {v : Value} (hrun : callF env (d + 1) AV (.clo (.func g) [] []) [] heap0 (fun v _ => some v) = some (.val v)) : SumC P g (constA v) := by
  obtain ⟨h1, u, h', k1, k2, k3⟩ := run_sum he d g heap0_ok hs hrun
  injection k1 with k1
  subst k1
  refine ⟨h1, ?_⟩
  intro ρ args h K r hk hA
  unfold constA at hA
  split at hA
  · refine ⟨.val v, h, hA, HEff.refl hk, ?_⟩
    intro w c args' hr hv hfr
    cases hv
    apply callsRet
    refine CallsIn.mono (k3 w c.none [] hr.none .nil (fun id _ _ q => q)) ?_
    rintro e w' ⟨c', q0, q2, q3, q4⟩
    obtain ⟨v', rfl, q1⟩ := q0.ret (fun x => by simp)
    obtain ⟨x1, x2⟩ := q2.ofNone
    have := q1.val_inv
    subst this
    exact ⟨_, rfl, c, .val _, x1, fun id hid => .inl hid, hr.kept x1 x2⟩
  · cases hA
end Go.Ev
