/- The evaluator, its soundness and the walks: part 4. -/
import Derived.Test.YtninaidfifiliaaC3
set_option linter.unusedSimpArgs false
set_option linter.unusedVariables false
set_option linter.unusedSectionVars false
namespace Go.Ev
open Go.Proofs
set_option maxRecDepth 100000

theorem Try.tyOk1 : TyOk Try.prog 1 Try.ti1 := TyOk.of_check Try.type1 (by kernel_rfl) (by kernel_rfl) (by kernel_rfl) Try.underlying1 Try.types_size (by kernel_rfl)
theorem Try.tyOk2 : TyOk Try.prog 2 Try.ti2 := TyOk.of_check Try.type2 (by kernel_rfl) (by kernel_rfl) (by kernel_rfl) Try.underlying2 Try.types_size (by kernel_rfl)
theorem Try.tyOk3 : TyOk Try.prog 3 Try.ti3 := TyOk.of_check Try.type3 (by kernel_rfl) (by kernel_rfl) (by kernel_rfl) Try.underlying3 Try.types_size (by kernel_rfl)
theorem Try.tyOk4 : TyOk Try.prog 4 Try.ti4 := TyOk.of_check Try.type4 (by kernel_rfl) (by kernel_rfl) (by kernel_rfl) Try.underlying4 Try.types_size (by kernel_rfl)
theorem Try.tyOk5 : TyOk Try.prog 5 Try.ti5 := TyOk.of_check Try.type5 (by kernel_rfl) (by kernel_rfl) (by kernel_rfl) Try.underlying5 Try.types_size (by kernel_rfl)
theorem Try.tyOk6 : TyOk Try.prog 6 Try.ti6 := TyOk.of_check Try.type6 (by kernel_rfl) (by kernel_rfl) (by kernel_rfl) Try.underlying6 Try.types_size (by kernel_rfl)
theorem Try.tyOk7 : TyOk Try.prog 7 Try.ti7 := TyOk.of_check Try.type7 (by kernel_rfl) (by kernel_rfl) (by kernel_rfl) Try.underlying7 Try.types_size (by kernel_rfl)
theorem Try.tyOk8 : TyOk Try.prog 8 Try.ti8 := TyOk.of_check Try.type8 (by kernel_rfl) (by kernel_rfl) (by kernel_rfl) Try.underlying8 Try.types_size (by kernel_rfl)
theorem Try.tyOk9 : TyOk Try.prog 9 Try.ti9 := TyOk.of_check Try.type9 (by kernel_rfl) (by kernel_rfl) (by kernel_rfl) Try.underlying9 Try.types_size (by kernel_rfl)
theorem Try.tyOk10 : TyOk Try.prog 10 Try.ti10 := TyOk.of_check Try.type10 (by kernel_rfl) (by kernel_rfl) (by kernel_rfl) Try.underlying10 Try.types_size (by kernel_rfl)
theorem Try.tyOk11 : TyOk Try.prog 11 Try.ti11 := TyOk.of_check Try.type11 (by kernel_rfl) (by kernel_rfl) (by kernel_rfl) Try.underlying11 Try.types_size (by kernel_rfl)
theorem Try.tyOk12 : TyOk Try.prog 12 Try.ti12 := TyOk.of_check Try.type12 (by kernel_rfl) (by kernel_rfl) (by kernel_rfl) Try.underlying12 Try.types_size (by kernel_rfl)
theorem Try.tyOk13 : TyOk Try.prog 13 Try.ti13 := TyOk.of_check Try.type13 (by kernel_rfl) (by kernel_rfl) (by kernel_rfl) Try.underlying13 Try.types_size (by kernel_rfl)
theorem Try.tyOk14 : TyOk Try.prog 14 Try.ti14 := TyOk.of_check Try.type14 (by kernel_rfl) (by kernel_rfl) (by kernel_rfl) Try.underlying14 Try.types_size (by kernel_rfl)
theorem Try.tyOk15 : TyOk Try.prog 15 Try.ti15 := TyOk.of_check Try.type15 (by kernel_rfl) (by kernel_rfl) (by kernel_rfl) Try.underlying15 Try.types_size (by kernel_rfl)
theorem Try.tyOk16 : TyOk Try.prog 16 Try.ti16 := TyOk.of_check Try.type16 (by kernel_rfl) (by kernel_rfl) (by kernel_rfl) Try.underlying16 Try.types_size (by kernel_rfl)
theorem Try.tyOk17 : TyOk Try.prog 17 Try.ti17 := TyOk.of_check Try.type17 (by kernel_rfl) (by kernel_rfl) (by kernel_rfl) Try.underlying17 Try.types_size (by kernel_rfl)
theorem Try.tyOk18 : TyOk Try.prog 18 Try.ti18 := TyOk.of_check Try.type18 (by kernel_rfl) (by kernel_rfl) (by kernel_rfl) Try.underlying18 Try.types_size (by kernel_rfl)
theorem Try.tyOk19 : TyOk Try.prog 19 Try.ti19 := TyOk.of_check Try.type19 (by kernel_rfl) (by kernel_rfl) (by kernel_rfl) Try.underlying19 Try.types_size (by kernel_rfl)
theorem Try.tyOk20 : TyOk Try.prog 20 Try.ti20 := TyOk.of_check Try.type20 (by kernel_rfl) (by kernel_rfl) (by kernel_rfl) Try.underlying20 Try.types_size (by kernel_rfl)
theorem Try.tyOk21 : TyOk Try.prog 21 Try.ti21 := TyOk.of_check Try.type21 (by kernel_rfl) (by kernel_rfl) (by kernel_rfl) Try.underlying21 Try.types_size (by kernel_rfl)
theorem Try.tyOk22 : TyOk Try.prog 22 Try.ti22 := TyOk.of_check Try.type22 (by kernel_rfl) (by kernel_rfl) (by kernel_rfl) Try.underlying22 Try.types_size (by kernel_rfl)
theorem Try.tyOk23 : TyOk Try.prog 23 Try.ti23 := TyOk.of_check Try.type23 (by kernel_rfl) (by kernel_rfl) (by kernel_rfl) Try.underlying23 Try.types_size (by kernel_rfl)
theorem Try.tyOk24 : TyOk Try.prog 24 Try.ti24 := TyOk.of_check Try.type24 (by kernel_rfl) (by kernel_rfl) (by kernel_rfl) Try.underlying24 Try.types_size (by kernel_rfl)
theorem Try.tyOk25 : TyOk Try.prog 25 Try.ti25 := TyOk.of_check Try.type25 (by kernel_rfl) (by kernel_rfl) (by kernel_rfl) Try.underlying25 Try.types_size (by kernel_rfl)
theorem Try.tyOk26 : TyOk Try.prog 26 Try.ti26 := TyOk.of_check Try.type26 (by kernel_rfl) (by kernel_rfl) (by kernel_rfl) Try.underlying26 Try.types_size (by kernel_rfl)
theorem Try.tyOk27 : TyOk Try.prog 27 Try.ti27 := TyOk.of_check Try.type27 (by kernel_rfl) (by kernel_rfl) (by kernel_rfl) Try.underlying27 Try.types_size (by kernel_rfl)
theorem Try.tyOk28 : TyOk Try.prog 28 Try.ti28 := TyOk.of_check Try.type28 (by kernel_rfl) (by kernel_rfl) (by kernel_rfl) Try.underlying28 Try.types_size (by kernel_rfl)
theorem Try.tyOk29 : TyOk Try.prog 29 Try.ti29 := TyOk.of_check Try.type29 (by kernel_rfl) (by kernel_rfl) (by kernel_rfl) Try.underlying29 Try.types_size (by kernel_rfl)
theorem Try.tyOk31 : TyOk Try.prog 31 Try.ti31 := TyOk.of_check Try.type31 (by kernel_rfl) (by kernel_rfl) (by kernel_rfl) Try.underlying31 Try.types_size (by kernel_rfl)
theorem Try.tyOk33 : TyOk Try.prog 33 Try.ti33 := TyOk.of_check Try.type33 (by kernel_rfl) (by kernel_rfl) (by kernel_rfl) Try.underlying33 Try.types_size (by kernel_rfl)
theorem Try.tyOk34 : TyOk Try.prog 34 Try.ti34 := TyOk.of_check Try.type34 (by kernel_rfl) (by kernel_rfl) (by kernel_rfl) Try.underlying34 Try.types_size (by kernel_rfl)
theorem Try.tyOk35 : TyOk Try.prog 35 Try.ti35 := TyOk.of_check Try.type35 (by kernel_rfl) (by kernel_rfl) (by kernel_rfl) Try.underlying35 Try.types_size (by kernel_rfl)
theorem Try.tyOk36 : TyOk Try.prog 36 Try.ti36 := TyOk.of_check Try.type36 (by kernel_rfl) (by kernel_rfl) (by kernel_rfl) Try.underlying36 Try.types_size (by kernel_rfl)
theorem Try.tyOk38 : TyOk Try.prog 38 Try.ti38 := TyOk.of_check Try.type38 (by kernel_rfl) (by kernel_rfl) (by kernel_rfl) Try.underlying38 Try.types_size (by kernel_rfl)
theorem Try.tyOk39 : TyOk Try.prog 39 Try.ti39 := TyOk.of_check Try.type39 (by kernel_rfl) (by kernel_rfl) (by kernel_rfl) Try.underlying39 Try.types_size (by kernel_rfl)
theorem Try.tyOk40 : TyOk Try.prog 40 Try.ti40 := TyOk.of_check Try.type40 (by kernel_rfl) (by kernel_rfl) (by kernel_rfl) Try.underlying40 Try.types_size (by kernel_rfl)
theorem Try.tyOk41 : TyOk Try.prog 41 Try.ti41 := TyOk.of_check Try.type41 (by kernel_rfl) (by kernel_rfl) (by kernel_rfl) Try.underlying41 Try.types_size (by kernel_rfl)
theorem Try.tyOk42 : TyOk Try.prog 42 Try.ti42 := TyOk.of_check Try.type42 (by kernel_rfl) (by kernel_rfl) (by kernel_rfl) Try.underlying42 Try.types_size (by kernel_rfl)
theorem Try.tyOk43 : TyOk Try.prog 43 Try.ti43 := TyOk.of_check Try.type43 (by kernel_rfl) (by kernel_rfl) (by kernel_rfl) Try.underlying43 Try.types_size (by kernel_rfl)
theorem Try.tyOk44 : TyOk Try.prog 44 Try.ti44 := TyOk.of_check Try.type44 (by kernel_rfl) (by kernel_rfl) (by kernel_rfl) Try.underlying44 Try.types_size (by kernel_rfl)
theorem Try.tyOk45 : TyOk Try.prog 45 Try.ti45 := TyOk.of_check Try.type45 (by kernel_rfl) (by kernel_rfl) (by kernel_rfl) Try.underlying45 Try.types_size (by kernel_rfl)
theorem Try.tyOk47 : TyOk Try.prog 47 Try.ti47 := TyOk.of_check Try.type47 (by kernel_rfl) (by kernel_rfl) (by kernel_rfl) Try.underlying47 Try.types_size (by kernel_rfl)
theorem Try.tyOk48 : TyOk Try.prog 48 Try.ti48 := TyOk.of_check Try.type48 (by kernel_rfl) (by kernel_rfl) (by kernel_rfl) Try.underlying48 Try.types_size (by kernel_rfl)
theorem Try.tyOk49 : TyOk Try.prog 49 Try.ti49 := TyOk.of_check Try.type49 (by kernel_rfl) (by kernel_rfl) (by kernel_rfl) Try.underlying49 Try.types_size (by kernel_rfl)
theorem Try.tyOk50 : TyOk Try.prog 50 Try.ti50 := TyOk.of_check Try.type50 (by kernel_rfl) (by kernel_rfl) (by kernel_rfl) Try.underlying50 Try.types_size (by kernel_rfl)
theorem Try.tyOk51 : TyOk Try.prog 51 Try.ti51 := TyOk.of_check Try.type51 (by kernel_rfl) (by kernel_rfl) (by kernel_rfl) Try.underlying51 Try.types_size (by kernel_rfl)
theorem Try.tyOk52 : TyOk Try.prog 52 Try.ti52 := TyOk.of_check Try.type52 (by kernel_rfl) (by kernel_rfl) (by kernel_rfl) Try.underlying52 Try.types_size (by kernel_rfl)
theorem Try.tyOk53 : TyOk Try.prog 53 Try.ti53 := TyOk.of_check Try.type53 (by kernel_rfl) (by kernel_rfl) (by kernel_rfl) Try.underlying53 Try.types_size (by kernel_rfl)
theorem Try.tyOk54 : TyOk Try.prog 54 Try.ti54 := TyOk.of_check Try.type54 (by kernel_rfl) (by kernel_rfl) (by kernel_rfl) Try.underlying54 Try.types_size (by kernel_rfl)
theorem Try.tyOk55 : TyOk Try.prog 55 Try.ti55 := TyOk.of_check Try.type55 (by kernel_rfl) (by kernel_rfl) (by kernel_rfl) Try.underlying55 Try.types_size (by kernel_rfl)
theorem Try.tyOk56 : TyOk Try.prog 56 Try.ti56 := TyOk.of_check Try.type56 (by kernel_rfl) (by kernel_rfl) (by kernel_rfl) Try.underlying56 Try.types_size (by kernel_rfl)
theorem Try.tyOk57 : TyOk Try.prog 57 Try.ti57 := TyOk.of_check Try.type57 (by kernel_rfl) (by kernel_rfl) (by kernel_rfl) Try.underlying57 Try.types_size (by kernel_rfl)
theorem Try.tyOk59 : TyOk Try.prog 59 Try.ti59 := TyOk.of_check Try.type59 (by kernel_rfl) (by kernel_rfl) (by kernel_rfl) Try.underlying59 Try.types_size (by kernel_rfl)
theorem Try.tyOk61 : TyOk Try.prog 61 Try.ti61 := TyOk.of_check Try.type61 (by kernel_rfl) (by kernel_rfl) (by kernel_rfl) Try.underlying61 Try.types_size (by kernel_rfl)
theorem Try.tyOk62 : TyOk Try.prog 62 Try.ti62 := TyOk.of_check Try.type62 (by kernel_rfl) (by kernel_rfl) (by kernel_rfl) Try.underlying62 Try.types_size (by kernel_rfl)
theorem Try.tyOk63 : TyOk Try.prog 63 Try.ti63 := TyOk.of_check Try.type63 (by kernel_rfl) (by kernel_rfl) (by kernel_rfl) Try.underlying63 Try.types_size (by kernel_rfl)
theorem Try.tyOk64 : TyOk Try.prog 64 Try.ti64 := TyOk.of_check Try.type64 (by kernel_rfl) (by kernel_rfl) (by kernel_rfl) Try.underlying64 Try.types_size (by kernel_rfl)
theorem Try.tyOk65 : TyOk Try.prog 65 Try.ti65 := TyOk.of_check Try.type65 (by kernel_rfl) (by kernel_rfl) (by kernel_rfl) Try.underlying65 Try.types_size (by kernel_rfl)
theorem Try.tyOk66 : TyOk Try.prog 66 Try.ti66 := TyOk.of_check Try.type66 (by kernel_rfl) (by kernel_rfl) (by kernel_rfl) Try.underlying66 Try.types_size (by kernel_rfl)
theorem Try.tyOk67 : TyOk Try.prog 67 Try.ti67 := TyOk.of_check Try.type67 (by kernel_rfl) (by kernel_rfl) (by kernel_rfl) Try.underlying67 Try.types_size (by kernel_rfl)
theorem Try.tyOk68 : TyOk Try.prog 68 Try.ti68 := TyOk.of_check Try.type68 (by kernel_rfl) (by kernel_rfl) (by kernel_rfl) Try.underlying68 Try.types_size (by kernel_rfl)
theorem Try.tyOk69 : TyOk Try.prog 69 Try.ti69 := TyOk.of_check Try.type69 (by kernel_rfl) (by kernel_rfl) (by kernel_rfl) Try.underlying69 Try.types_size (by kernel_rfl)
theorem Try.tyOk70 : TyOk Try.prog 70 Try.ti70 := TyOk.of_check Try.type70 (by kernel_rfl) (by kernel_rfl) (by kernel_rfl) Try.underlying70 Try.types_size (by kernel_rfl)
theorem Try.tyOk71 : TyOk Try.prog 71 Try.ti71 := TyOk.of_check Try.type71 (by kernel_rfl) (by kernel_rfl) (by kernel_rfl) Try.underlying71 Try.types_size (by kernel_rfl)
theorem Try.tyOk72 : TyOk Try.prog 72 Try.ti72 := TyOk.of_check Try.type72 (by kernel_rfl) (by kernel_rfl) (by kernel_rfl) Try.underlying72 Try.types_size (by kernel_rfl)
theorem Try.tyOk73 : TyOk Try.prog 73 Try.ti73 := TyOk.of_check Try.type73 (by kernel_rfl) (by kernel_rfl) (by kernel_rfl) Try.underlying73 Try.types_size (by kernel_rfl)
theorem Try.tyOk74 : TyOk Try.prog 74 Try.ti74 := TyOk.of_check Try.type74 (by kernel_rfl) (by kernel_rfl) (by kernel_rfl) Try.underlying74 Try.types_size (by kernel_rfl)
theorem Try.tyOk75 : TyOk Try.prog 75 Try.ti75 := TyOk.of_check Try.type75 (by kernel_rfl) (by kernel_rfl) (by kernel_rfl) Try.underlying75 Try.types_size (by kernel_rfl)
theorem Try.tyOk76 : TyOk Try.prog 76 Try.ti76 := TyOk.of_check Try.type76 (by kernel_rfl) (by kernel_rfl) (by kernel_rfl) Try.underlying76 Try.types_size (by kernel_rfl)
theorem Try.tyOk77 : TyOk Try.prog 77 Try.ti77 := TyOk.of_check Try.type77 (by kernel_rfl) (by kernel_rfl) (by kernel_rfl) Try.underlying77 Try.types_size (by kernel_rfl)
theorem Try.tyOk78 : TyOk Try.prog 78 Try.ti78 := TyOk.of_check Try.type78 (by kernel_rfl) (by kernel_rfl) (by kernel_rfl) Try.underlying78 Try.types_size (by kernel_rfl)
theorem Try.tyOk79 : TyOk Try.prog 79 Try.ti79 := TyOk.of_check Try.type79 (by kernel_rfl) (by kernel_rfl) (by kernel_rfl) Try.underlying79 Try.types_size (by kernel_rfl)
theorem Try.tyOk80 : TyOk Try.prog 80 Try.ti80 := TyOk.of_check Try.type80 (by kernel_rfl) (by kernel_rfl) (by kernel_rfl) Try.underlying80 Try.types_size (by kernel_rfl)
theorem Try.tyOk81 : TyOk Try.prog 81 Try.ti81 := TyOk.of_check Try.type81 (by kernel_rfl) (by kernel_rfl) (by kernel_rfl) Try.underlying81 Try.types_size (by kernel_rfl)
theorem Try.tyOk82 : TyOk Try.prog 82 Try.ti82 := TyOk.of_check Try.type82 (by kernel_rfl) (by kernel_rfl) (by kernel_rfl) Try.underlying82 Try.types_size (by kernel_rfl)
theorem Try.tyOk83 : TyOk Try.prog 83 Try.ti83 := TyOk.of_check Try.type83 (by kernel_rfl) (by kernel_rfl) (by kernel_rfl) Try.underlying83 Try.types_size (by kernel_rfl)
theorem Try.tyOk84 : TyOk Try.prog 84 Try.ti84 := TyOk.of_check Try.type84 (by kernel_rfl) (by kernel_rfl) (by kernel_rfl) Try.underlying84 Try.types_size (by kernel_rfl)
theorem Try.tyOk85 : TyOk Try.prog 85 Try.ti85 := TyOk.of_check Try.type85 (by kernel_rfl) (by kernel_rfl) (by kernel_rfl) Try.underlying85 Try.types_size (by kernel_rfl)
theorem Try.tyOk86 : TyOk Try.prog 86 Try.ti86 := TyOk.of_check Try.type86 (by kernel_rfl) (by kernel_rfl) (by kernel_rfl) Try.underlying86 Try.types_size (by kernel_rfl)
theorem Try.tyOk87 : TyOk Try.prog 87 Try.ti87 := TyOk.of_check Try.type87 (by kernel_rfl) (by kernel_rfl) (by kernel_rfl) Try.underlying87 Try.types_size (by kernel_rfl)
theorem Try.tyOk88 : TyOk Try.prog 88 Try.ti88 := TyOk.of_check Try.type88 (by kernel_rfl) (by kernel_rfl) (by kernel_rfl) Try.underlying88 Try.types_size (by kernel_rfl)
theorem Try.tyOk89 : TyOk Try.prog 89 Try.ti89 := TyOk.of_check Try.type89 (by kernel_rfl) (by kernel_rfl) (by kernel_rfl) Try.underlying89 Try.types_size (by kernel_rfl)
theorem Try.tyOk90 : TyOk Try.prog 90 Try.ti90 := TyOk.of_check Try.type90 (by kernel_rfl) (by kernel_rfl) (by kernel_rfl) Try.underlying90 Try.types_size (by kernel_rfl)
theorem Try.tyOk91 : TyOk Try.prog 91 Try.ti91 := TyOk.of_check Try.type91 (by kernel_rfl) (by kernel_rfl) (by kernel_rfl) Try.underlying91 Try.types_size (by kernel_rfl)
theorem Try.tyOk92 : TyOk Try.prog 92 Try.ti92 := TyOk.of_check Try.type92 (by kernel_rfl) (by kernel_rfl) (by kernel_rfl) Try.underlying92 Try.types_size (by kernel_rfl)
theorem Try.tyOk93 : TyOk Try.prog 93 Try.ti93 := TyOk.of_check Try.type93 (by kernel_rfl) (by kernel_rfl) (by kernel_rfl) Try.underlying93 Try.types_size (by kernel_rfl)
theorem Try.tyOk94 : TyOk Try.prog 94 Try.ti94 := TyOk.of_check Try.type94 (by kernel_rfl) (by kernel_rfl) (by kernel_rfl) Try.underlying94 Try.types_size (by kernel_rfl)
theorem Try.tyOk95 : TyOk Try.prog 95 Try.ti95 := TyOk.of_check Try.type95 (by kernel_rfl) (by kernel_rfl) (by kernel_rfl) Try.underlying95 Try.types_size (by kernel_rfl)
theorem Try.tyOk96 : TyOk Try.prog 96 Try.ti96 := TyOk.of_check Try.type96 (by kernel_rfl) (by kernel_rfl) (by kernel_rfl) Try.underlying96 Try.types_size (by kernel_rfl)
theorem Try.tyOk97 : TyOk Try.prog 97 Try.ti97 := TyOk.of_check Try.type97 (by kernel_rfl) (by kernel_rfl) (by kernel_rfl) Try.underlying97 Try.types_size (by kernel_rfl)
theorem Try.tyOk98 : TyOk Try.prog 98 Try.ti98 := TyOk.of_check Try.type98 (by kernel_rfl) (by kernel_rfl) (by kernel_rfl) Try.underlying98 Try.types_size (by kernel_rfl)
theorem Try.tyOk99 : TyOk Try.prog 99 Try.ti99 := TyOk.of_check Try.type99 (by kernel_rfl) (by kernel_rfl) (by kernel_rfl) Try.underlying99 Try.types_size (by kernel_rfl)
theorem Try.tyOk100 : TyOk Try.prog 100 Try.ti100 := TyOk.of_check Try.type100 (by kernel_rfl) (by kernel_rfl) (by kernel_rfl) Try.underlying100 Try.types_size (by kernel_rfl)
theorem Try.tyOk101 : TyOk Try.prog 101 Try.ti101 := TyOk.of_check Try.type101 (by kernel_rfl) (by kernel_rfl) (by kernel_rfl) Try.underlying101 Try.types_size (by kernel_rfl)
theorem Try.tyOk102 : TyOk Try.prog 102 Try.ti102 := TyOk.of_check Try.type102 (by kernel_rfl) (by kernel_rfl) (by kernel_rfl) Try.underlying102 Try.types_size (by kernel_rfl)
theorem Try.tyOk103 : TyOk Try.prog 103 Try.ti103 := TyOk.of_check Try.type103 (by kernel_rfl) (by kernel_rfl) (by kernel_rfl) Try.underlying103 Try.types_size (by kernel_rfl)
theorem Try.tyOk104 : TyOk Try.prog 104 Try.ti104 := TyOk.of_check Try.type104 (by kernel_rfl) (by kernel_rfl) (by kernel_rfl) Try.underlying104 Try.types_size (by kernel_rfl)
theorem Try.tyOk106 : TyOk Try.prog 106 Try.ti106 := TyOk.of_check Try.type106 (by kernel_rfl) (by kernel_rfl) (by kernel_rfl) Try.underlying106 Try.types_size (by kernel_rfl)
theorem Try.tyOk107 : TyOk Try.prog 107 Try.ti107 := TyOk.of_check Try.type107 (by kernel_rfl) (by kernel_rfl) (by kernel_rfl) Try.underlying107 Try.types_size (by kernel_rfl)
theorem Try.tyOk108 : TyOk Try.prog 108 Try.ti108 := TyOk.of_check Try.type108 (by kernel_rfl) (by kernel_rfl) (by kernel_rfl) Try.underlying108 Try.types_size (by kernel_rfl)
theorem Try.tyOk109 : TyOk Try.prog 109 Try.ti109 := TyOk.of_check Try.type109 (by kernel_rfl) (by kernel_rfl) (by kernel_rfl) Try.underlying109 Try.types_size (by kernel_rfl)
theorem Try.tyOk110 : TyOk Try.prog 110 Try.ti110 := TyOk.of_check Try.type110 (by kernel_rfl) (by kernel_rfl) (by kernel_rfl) Try.underlying110 Try.types_size (by kernel_rfl)
theorem Try.tyOk111 : TyOk Try.prog 111 Try.ti111 := TyOk.of_check Try.type111 (by kernel_rfl) (by kernel_rfl) (by kernel_rfl) Try.underlying111 Try.types_size (by kernel_rfl)
theorem Try.tyOk112 : TyOk Try.prog 112 Try.ti112 := TyOk.of_check Try.type112 (by kernel_rfl) (by kernel_rfl) (by kernel_rfl) Try.underlying112 Try.types_size (by kernel_rfl)
theorem Try.tyOk113 : TyOk Try.prog 113 Try.ti113 := TyOk.of_check Try.type113 (by kernel_rfl) (by kernel_rfl) (by kernel_rfl) Try.underlying113 Try.types_size (by kernel_rfl)
theorem Try.tyOk114 : TyOk Try.prog 114 Try.ti114 := TyOk.of_check Try.type114 (by kernel_rfl) (by kernel_rfl) (by kernel_rfl) Try.underlying114 Try.types_size (by kernel_rfl)
theorem Try.tyOk115 : TyOk Try.prog 115 Try.ti115 := TyOk.of_check Try.type115 (by kernel_rfl) (by kernel_rfl) (by kernel_rfl) Try.underlying115 Try.types_size (by kernel_rfl)
theorem Try.tyOk116 : TyOk Try.prog 116 Try.ti116 := TyOk.of_check Try.type116 (by kernel_rfl) (by kernel_rfl) (by kernel_rfl) Try.underlying116 Try.types_size (by kernel_rfl)
theorem Try.tyOk117 : TyOk Try.prog 117 Try.ti117 := TyOk.of_check Try.type117 (by kernel_rfl) (by kernel_rfl) (by kernel_rfl) Try.underlying117 Try.types_size (by kernel_rfl)
theorem Try.tyOk118 : TyOk Try.prog 118 Try.ti118 := TyOk.of_check Try.type118 (by kernel_rfl) (by kernel_rfl) (by kernel_rfl) Try.underlying118 Try.types_size (by kernel_rfl)
theorem Try.tyOk119 : TyOk Try.prog 119 Try.ti119 := TyOk.of_check Try.type119 (by kernel_rfl) (by kernel_rfl) (by kernel_rfl) Try.underlying119 Try.types_size (by kernel_rfl)
theorem Try.tyOk120 : TyOk Try.prog 120 Try.ti120 := TyOk.of_check Try.type120 (by kernel_rfl) (by kernel_rfl) (by kernel_rfl) Try.underlying120 Try.types_size (by kernel_rfl)
theorem Try.tyOk122 : TyOk Try.prog 122 Try.ti122 := TyOk.of_check Try.type122 (by kernel_rfl) (by kernel_rfl) (by kernel_rfl) Try.underlying122 Try.types_size (by kernel_rfl)
theorem Try.tyOk123 : TyOk Try.prog 123 Try.ti123 := TyOk.of_check Try.type123 (by kernel_rfl) (by kernel_rfl) (by kernel_rfl) Try.underlying123 Try.types_size (by kernel_rfl)
theorem Try.tyOk124 : TyOk Try.prog 124 Try.ti124 := TyOk.of_check Try.type124 (by kernel_rfl) (by kernel_rfl) (by kernel_rfl) Try.underlying124 Try.types_size (by kernel_rfl)
theorem Try.tyOk125 : TyOk Try.prog 125 Try.ti125 := TyOk.of_check Try.type125 (by kernel_rfl) (by kernel_rfl) (by kernel_rfl) Try.underlying125 Try.types_size (by kernel_rfl)
theorem Try.tyOk126 : TyOk Try.prog 126 Try.ti126 := TyOk.of_check Try.type126 (by kernel_rfl) (by kernel_rfl) (by kernel_rfl) Try.underlying126 Try.types_size (by kernel_rfl)
theorem Try.tyOk127 : TyOk Try.prog 127 Try.ti127 := TyOk.of_check Try.type127 (by kernel_rfl) (by kernel_rfl) (by kernel_rfl) Try.underlying127 Try.types_size (by kernel_rfl)
theorem Try.tyOk128 : TyOk Try.prog 128 Try.ti128 := TyOk.of_check Try.type128 (by kernel_rfl) (by kernel_rfl) (by kernel_rfl) Try.underlying128 Try.types_size (by kernel_rfl)
theorem Try.tyOk129 : TyOk Try.prog 129 Try.ti129 := TyOk.of_check Try.type129 (by kernel_rfl) (by kernel_rfl) (by kernel_rfl) Try.underlying129 Try.types_size (by kernel_rfl)
theorem Try.tyOk130 : TyOk Try.prog 130 Try.ti130 := TyOk.of_check Try.type130 (by kernel_rfl) (by kernel_rfl) (by kernel_rfl) Try.underlying130 Try.types_size (by kernel_rfl)
theorem Try.tyOk131 : TyOk Try.prog 131 Try.ti131 := TyOk.of_check Try.type131 (by kernel_rfl) (by kernel_rfl) (by kernel_rfl) Try.underlying131 Try.types_size (by kernel_rfl)
theorem Try.tyOk132 : TyOk Try.prog 132 Try.ti132 := TyOk.of_check Try.type132 (by kernel_rfl) (by kernel_rfl) (by kernel_rfl) Try.underlying132 Try.types_size (by kernel_rfl)
theorem Try.tyOk133 : TyOk Try.prog 133 Try.ti133 := TyOk.of_check Try.type133 (by kernel_rfl) (by kernel_rfl) (by kernel_rfl) Try.underlying133 Try.types_size (by kernel_rfl)
theorem Try.tyOk134 : TyOk Try.prog 134 Try.ti134 := TyOk.of_check Try.type134 (by kernel_rfl) (by kernel_rfl) (by kernel_rfl) Try.underlying134 Try.types_size (by kernel_rfl)
theorem Try.tyOk135 : TyOk Try.prog 135 Try.ti135 := TyOk.of_check Try.type135 (by kernel_rfl) (by kernel_rfl) (by kernel_rfl) Try.underlying135 Try.types_size (by kernel_rfl)
theorem Try.tyOk136 : TyOk Try.prog 136 Try.ti136 := TyOk.of_check Try.type136 (by kernel_rfl) (by kernel_rfl) (by kernel_rfl) Try.underlying136 Try.types_size (by kernel_rfl)
theorem Try.tyOk137 : TyOk Try.prog 137 Try.ti137 := TyOk.of_check Try.type137 (by kernel_rfl) (by kernel_rfl) (by kernel_rfl) Try.underlying137 Try.types_size (by kernel_rfl)
theorem Try.tyOk138 : TyOk Try.prog 138 Try.ti138 := TyOk.of_check Try.type138 (by kernel_rfl) (by kernel_rfl) (by kernel_rfl) Try.underlying138 Try.types_size (by kernel_rfl)
theorem Try.tyOk139 : TyOk Try.prog 139 Try.ti139 := TyOk.of_check Try.type139 (by kernel_rfl) (by kernel_rfl) (by kernel_rfl) Try.underlying139 Try.types_size (by kernel_rfl)
theorem Try.tyOk141 : TyOk Try.prog 141 Try.ti141 := TyOk.of_check Try.type141 (by kernel_rfl) (by kernel_rfl) (by kernel_rfl) Try.underlying141 Try.types_size (by kernel_rfl)
theorem Try.tyOk142 : TyOk Try.prog 142 Try.ti142 := TyOk.of_check Try.type142 (by kernel_rfl) (by kernel_rfl) (by kernel_rfl) Try.underlying142 Try.types_size (by kernel_rfl)
theorem Try.tyOk143 : TyOk Try.prog 143 Try.ti143 := TyOk.of_check Try.type143 (by kernel_rfl) (by kernel_rfl) (by kernel_rfl) Try.underlying143 Try.types_size (by kernel_rfl)
theorem Try.tyOk144 : TyOk Try.prog 144 Try.ti144 := TyOk.of_check Try.type144 (by kernel_rfl) (by kernel_rfl) (by kernel_rfl) Try.underlying144 Try.types_size (by kernel_rfl)
theorem Try.tyOk145 : TyOk Try.prog 145 Try.ti145 := TyOk.of_check Try.type145 (by kernel_rfl) (by kernel_rfl) (by kernel_rfl) Try.underlying145 Try.types_size (by kernel_rfl)
theorem Try.tyOk146 : TyOk Try.prog 146 Try.ti146 := TyOk.of_check Try.type146 (by kernel_rfl) (by kernel_rfl) (by kernel_rfl) Try.underlying146 Try.types_size (by kernel_rfl)
theorem Try.tyOk147 : TyOk Try.prog 147 Try.ti147 := TyOk.of_check Try.type147 (by kernel_rfl) (by kernel_rfl) (by kernel_rfl) Try.underlying147 Try.types_size (by kernel_rfl)
theorem Try.tyOk148 : TyOk Try.prog 148 Try.ti148 := TyOk.of_check Try.type148 (by kernel_rfl) (by kernel_rfl) (by kernel_rfl) Try.underlying148 Try.types_size (by kernel_rfl)
theorem Try.tyOk149 : TyOk Try.prog 149 Try.ti149 := TyOk.of_check Try.type149 (by kernel_rfl) (by kernel_rfl) (by kernel_rfl) Try.underlying149 Try.types_size (by kernel_rfl)
theorem Try.tyOk150 : TyOk Try.prog 150 Try.ti150 := TyOk.of_check Try.type150 (by kernel_rfl) (by kernel_rfl) (by kernel_rfl) Try.underlying150 Try.types_size (by kernel_rfl)
theorem Try.tyOk151 : TyOk Try.prog 151 Try.ti151 := TyOk.of_check Try.type151 (by kernel_rfl) (by kernel_rfl) (by kernel_rfl) Try.underlying151 Try.types_size (by kernel_rfl)
theorem Try.tyOk152 : TyOk Try.prog 152 Try.ti152 := TyOk.of_check Try.type152 (by kernel_rfl) (by kernel_rfl) (by kernel_rfl) Try.underlying152 Try.types_size (by kernel_rfl)
theorem Try.tyOk153 : TyOk Try.prog 153 Try.ti153 := TyOk.of_check Try.type153 (by kernel_rfl) (by kernel_rfl) (by kernel_rfl) Try.underlying153 Try.types_size (by kernel_rfl)
theorem Try.tyOk154 : TyOk Try.prog 154 Try.ti154 := TyOk.of_check Try.type154 (by kernel_rfl) (by kernel_rfl) (by kernel_rfl) Try.underlying154 Try.types_size (by kernel_rfl)
theorem Try.tyOk155 : TyOk Try.prog 155 Try.ti155 := TyOk.of_check Try.type155 (by kernel_rfl) (by kernel_rfl) (by kernel_rfl) Try.underlying155 Try.types_size (by kernel_rfl)
theorem Try.tyOk156 : TyOk Try.prog 156 Try.ti156 := TyOk.of_check Try.type156 (by kernel_rfl) (by kernel_rfl) (by kernel_rfl) Try.underlying156 Try.types_size (by kernel_rfl)
theorem Try.tyOk157 : TyOk Try.prog 157 Try.ti157 := TyOk.of_check Try.type157 (by kernel_rfl) (by kernel_rfl) (by kernel_rfl) Try.underlying157 Try.types_size (by kernel_rfl)
theorem Try.tyOk158 : TyOk Try.prog 158 Try.ti158 := TyOk.of_check Try.type158 (by kernel_rfl) (by kernel_rfl) (by kernel_rfl) Try.underlying158 Try.types_size (by kernel_rfl)
theorem Try.tyOk159 : TyOk Try.prog 159 Try.ti159 := TyOk.of_check Try.type159 (by kernel_rfl) (by kernel_rfl) (by kernel_rfl) Try.underlying159 Try.types_size (by kernel_rfl)
theorem Try.tyOk160 : TyOk Try.prog 160 Try.ti160 := TyOk.of_check Try.type160 (by kernel_rfl) (by kernel_rfl) (by kernel_rfl) Try.underlying160 Try.types_size (by kernel_rfl)
theorem Try.tyOk161 : TyOk Try.prog 161 Try.ti161 := TyOk.of_check Try.type161 (by kernel_rfl) (by kernel_rfl) (by kernel_rfl) Try.underlying161 Try.types_size (by kernel_rfl)
theorem Try.tyOk162 : TyOk Try.prog 162 Try.ti162 := TyOk.of_check Try.type162 (by kernel_rfl) (by kernel_rfl) (by kernel_rfl) Try.underlying162 Try.types_size (by kernel_rfl)
theorem Try.fnOk3 : Try.prog.funcs[3]? = some Try.f3 ∧ Try.f3.name ≠ "runtime.NumGoroutine" := ⟨Try.func3, of_decide_eq_true (by kernel_rfl)⟩
theorem Try.fnOk4 : Try.prog.funcs[4]? = some Try.f4 ∧ Try.f4.name ≠ "runtime.NumGoroutine" := ⟨Try.func4, of_decide_eq_true (by kernel_rfl)⟩
theorem Try.fnOk5 : Try.prog.funcs[5]? = some Try.f5 ∧ Try.f5.name ≠ "runtime.NumGoroutine" := ⟨Try.func5, of_decide_eq_true (by kernel_rfl)⟩
theorem Try.fnOk6 : Try.prog.funcs[6]? = some Try.f6 ∧ Try.f6.name ≠ "runtime.NumGoroutine" := ⟨Try.func6, of_decide_eq_true (by kernel_rfl)⟩
theorem Try.fnOk7 : Try.prog.funcs[7]? = some Try.f7 ∧ Try.f7.name ≠ "runtime.NumGoroutine" := ⟨Try.func7, of_decide_eq_true (by kernel_rfl)⟩
theorem Try.fnOk8 : Try.prog.funcs[8]? = some Try.f8 ∧ Try.f8.name ≠ "runtime.NumGoroutine" := ⟨Try.func8, of_decide_eq_true (by kernel_rfl)⟩
theorem Try.fnOk9 : Try.prog.funcs[9]? = some Try.f9 ∧ Try.f9.name ≠ "runtime.NumGoroutine" := ⟨Try.func9, of_decide_eq_true (by kernel_rfl)⟩
theorem Try.fnOk10 : Try.prog.funcs[10]? = some Try.f10 ∧ Try.f10.name ≠ "runtime.NumGoroutine" := ⟨Try.func10, of_decide_eq_true (by kernel_rfl)⟩
theorem Try.fnOk11 : Try.prog.funcs[11]? = some Try.f11 ∧ Try.f11.name ≠ "runtime.NumGoroutine" := ⟨Try.func11, of_decide_eq_true (by kernel_rfl)⟩
theorem Try.fnOk12 : Try.prog.funcs[12]? = some Try.f12 ∧ Try.f12.name ≠ "runtime.NumGoroutine" := ⟨Try.func12, of_decide_eq_true (by kernel_rfl)⟩
theorem Try.fnOk13 : Try.prog.funcs[13]? = some Try.f13 ∧ Try.f13.name ≠ "runtime.NumGoroutine" := ⟨Try.func13, of_decide_eq_true (by kernel_rfl)⟩
theorem Try.fnOk14 : Try.prog.funcs[14]? = some Try.f14 ∧ Try.f14.name ≠ "runtime.NumGoroutine" := ⟨Try.func14, of_decide_eq_true (by kernel_rfl)⟩
theorem Try.fnOk15 : Try.prog.funcs[15]? = some Try.f15 ∧ Try.f15.name ≠ "runtime.NumGoroutine" := ⟨Try.func15, of_decide_eq_true (by kernel_rfl)⟩
theorem Try.fnOk16 : Try.prog.funcs[16]? = some Try.f16 ∧ Try.f16.name ≠ "runtime.NumGoroutine" := ⟨Try.func16, of_decide_eq_true (by kernel_rfl)⟩
theorem Try.fnOk17 : Try.prog.funcs[17]? = some Try.f17 ∧ Try.f17.name ≠ "runtime.NumGoroutine" := ⟨Try.func17, of_decide_eq_true (by kernel_rfl)⟩
theorem Try.fnOk18 : Try.prog.funcs[18]? = some Try.f18 ∧ Try.f18.name ≠ "runtime.NumGoroutine" := ⟨Try.func18, of_decide_eq_true (by kernel_rfl)⟩
theorem Try.fnOk19 : Try.prog.funcs[19]? = some Try.f19 ∧ Try.f19.name ≠ "runtime.NumGoroutine" := ⟨Try.func19, of_decide_eq_true (by kernel_rfl)⟩
theorem Try.fnOk20 : Try.prog.funcs[20]? = some Try.f20 ∧ Try.f20.name ≠ "runtime.NumGoroutine" := ⟨Try.func20, of_decide_eq_true (by kernel_rfl)⟩
theorem Try.fnOk21 : Try.prog.funcs[21]? = some Try.f21 ∧ Try.f21.name ≠ "runtime.NumGoroutine" := ⟨Try.func21, of_decide_eq_true (by kernel_rfl)⟩
theorem Try.fnOk22 : Try.prog.funcs[22]? = some Try.f22 ∧ Try.f22.name ≠ "runtime.NumGoroutine" := ⟨Try.func22, of_decide_eq_true (by kernel_rfl)⟩
theorem Try.fnOk23 : Try.prog.funcs[23]? = some Try.f23 ∧ Try.f23.name ≠ "runtime.NumGoroutine" := ⟨Try.func23, of_decide_eq_true (by kernel_rfl)⟩
theorem Try.fnOk24 : Try.prog.funcs[24]? = some Try.f24 ∧ Try.f24.name ≠ "runtime.NumGoroutine" := ⟨Try.func24, of_decide_eq_true (by kernel_rfl)⟩
theorem Try.fnOk25 : Try.prog.funcs[25]? = some Try.f25 ∧ Try.f25.name ≠ "runtime.NumGoroutine" := ⟨Try.func25, of_decide_eq_true (by kernel_rfl)⟩
theorem Try.fnOk26 : Try.prog.funcs[26]? = some Try.f26 ∧ Try.f26.name ≠ "runtime.NumGoroutine" := ⟨Try.func26, of_decide_eq_true (by kernel_rfl)⟩
theorem Try.fnOk27 : Try.prog.funcs[27]? = some Try.f27 ∧ Try.f27.name ≠ "runtime.NumGoroutine" := ⟨Try.func27, of_decide_eq_true (by kernel_rfl)⟩
theorem Try.fnOk28 : Try.prog.funcs[28]? = some Try.f28 ∧ Try.f28.name ≠ "runtime.NumGoroutine" := ⟨Try.func28, of_decide_eq_true (by kernel_rfl)⟩
theorem Try.fnOk29 : Try.prog.funcs[29]? = some Try.f29 ∧ Try.f29.name ≠ "runtime.NumGoroutine" := ⟨Try.func29, of_decide_eq_true (by kernel_rfl)⟩
theorem Try.fnOk30 : Try.prog.funcs[30]? = some Try.f30 ∧ Try.f30.name ≠ "runtime.NumGoroutine" := ⟨Try.func30, of_decide_eq_true (by kernel_rfl)⟩
theorem Try.fnOk31 : Try.prog.funcs[31]? = some Try.f31 ∧ Try.f31.name ≠ "runtime.NumGoroutine" := ⟨Try.func31, of_decide_eq_true (by kernel_rfl)⟩
theorem Try.fnOk32 : Try.prog.funcs[32]? = some Try.f32 ∧ Try.f32.name ≠ "runtime.NumGoroutine" := ⟨Try.func32, of_decide_eq_true (by kernel_rfl)⟩
theorem Try.fnOk33 : Try.prog.funcs[33]? = some Try.f33 ∧ Try.f33.name ≠ "runtime.NumGoroutine" := ⟨Try.func33, of_decide_eq_true (by kernel_rfl)⟩
theorem Try.fnOk34 : Try.prog.funcs[34]? = some Try.f34 ∧ Try.f34.name ≠ "runtime.NumGoroutine" := ⟨Try.func34, of_decide_eq_true (by kernel_rfl)⟩
theorem Try.fnOk35 : Try.prog.funcs[35]? = some Try.f35 ∧ Try.f35.name ≠ "runtime.NumGoroutine" := ⟨Try.func35, of_decide_eq_true (by kernel_rfl)⟩
theorem Try.fnOk36 : Try.prog.funcs[36]? = some Try.f36 ∧ Try.f36.name ≠ "runtime.NumGoroutine" := ⟨Try.func36, of_decide_eq_true (by kernel_rfl)⟩
theorem Try.fnOk37 : Try.prog.funcs[37]? = some Try.f37 ∧ Try.f37.name ≠ "runtime.NumGoroutine" := ⟨Try.func37, of_decide_eq_true (by kernel_rfl)⟩
theorem Try.fnOk38 : Try.prog.funcs[38]? = some Try.f38 ∧ Try.f38.name ≠ "runtime.NumGoroutine" := ⟨Try.func38, of_decide_eq_true (by kernel_rfl)⟩
theorem Try.fnOk39 : Try.prog.funcs[39]? = some Try.f39 ∧ Try.f39.name ≠ "runtime.NumGoroutine" := ⟨Try.func39, of_decide_eq_true (by kernel_rfl)⟩
theorem Try.fnOk40 : Try.prog.funcs[40]? = some Try.f40 ∧ Try.f40.name ≠ "runtime.NumGoroutine" := ⟨Try.func40, of_decide_eq_true (by kernel_rfl)⟩
theorem Try.fnOk41 : Try.prog.funcs[41]? = some Try.f41 ∧ Try.f41.name ≠ "runtime.NumGoroutine" := ⟨Try.func41, of_decide_eq_true (by kernel_rfl)⟩
theorem Try.fnOk42 : Try.prog.funcs[42]? = some Try.f42 ∧ Try.f42.name ≠ "runtime.NumGoroutine" := ⟨Try.func42, of_decide_eq_true (by kernel_rfl)⟩
theorem Try.fnOk43 : Try.prog.funcs[43]? = some Try.f43 ∧ Try.f43.name ≠ "runtime.NumGoroutine" := ⟨Try.func43, of_decide_eq_true (by kernel_rfl)⟩
theorem Try.fnOk44 : Try.prog.funcs[44]? = some Try.f44 ∧ Try.f44.name ≠ "runtime.NumGoroutine" := ⟨Try.func44, of_decide_eq_true (by kernel_rfl)⟩
theorem Try.fnOk45 : Try.prog.funcs[45]? = some Try.f45 ∧ Try.f45.name ≠ "runtime.NumGoroutine" := ⟨Try.func45, of_decide_eq_true (by kernel_rfl)⟩
theorem Try.fnOk46 : Try.prog.funcs[46]? = some Try.f46 ∧ Try.f46.name ≠ "runtime.NumGoroutine" := ⟨Try.func46, of_decide_eq_true (by kernel_rfl)⟩
theorem Try.fnOk47 : Try.prog.funcs[47]? = some Try.f47 ∧ Try.f47.name ≠ "runtime.NumGoroutine" := ⟨Try.func47, of_decide_eq_true (by kernel_rfl)⟩
theorem Try.fnOk48 : Try.prog.funcs[48]? = some Try.f48 ∧ Try.f48.name ≠ "runtime.NumGoroutine" := ⟨Try.func48, of_decide_eq_true (by kernel_rfl)⟩
theorem Try.fnOk49 : Try.prog.funcs[49]? = some Try.f49 ∧ Try.f49.name ≠ "runtime.NumGoroutine" := ⟨Try.func49, of_decide_eq_true (by kernel_rfl)⟩
theorem Try.fnOk50 : Try.prog.funcs[50]? = some Try.f50 ∧ Try.f50.name ≠ "runtime.NumGoroutine" := ⟨Try.func50, of_decide_eq_true (by kernel_rfl)⟩
theorem Try.fnOk51 : Try.prog.funcs[51]? = some Try.f51 ∧ Try.f51.name ≠ "runtime.NumGoroutine" := ⟨Try.func51, of_decide_eq_true (by kernel_rfl)⟩
theorem Try.fnOk52 : Try.prog.funcs[52]? = some Try.f52 ∧ Try.f52.name ≠ "runtime.NumGoroutine" := ⟨Try.func52, of_decide_eq_true (by kernel_rfl)⟩
theorem Try.fnOk53 : Try.prog.funcs[53]? = some Try.f53 ∧ Try.f53.name ≠ "runtime.NumGoroutine" := ⟨Try.func53, of_decide_eq_true (by kernel_rfl)⟩
theorem Try.fnOk54 : Try.prog.funcs[54]? = some Try.f54 ∧ Try.f54.name ≠ "runtime.NumGoroutine" := ⟨Try.func54, of_decide_eq_true (by kernel_rfl)⟩
theorem Try.fnOk55 : Try.prog.funcs[55]? = some Try.f55 ∧ Try.f55.name ≠ "runtime.NumGoroutine" := ⟨Try.func55, of_decide_eq_true (by kernel_rfl)⟩
theorem Try.fnOk56 : Try.prog.funcs[56]? = some Try.f56 ∧ Try.f56.name ≠ "runtime.NumGoroutine" := ⟨Try.func56, of_decide_eq_true (by kernel_rfl)⟩
theorem Try.fnOk57 : Try.prog.funcs[57]? = some Try.f57 ∧ Try.f57.name ≠ "runtime.NumGoroutine" := ⟨Try.func57, of_decide_eq_true (by kernel_rfl)⟩
theorem Try.fnOk58 : Try.prog.funcs[58]? = some Try.f58 ∧ Try.f58.name ≠ "runtime.NumGoroutine" := ⟨Try.func58, of_decide_eq_true (by kernel_rfl)⟩
theorem Try.fnOk59 : Try.prog.funcs[59]? = some Try.f59 ∧ Try.f59.name ≠ "runtime.NumGoroutine" := ⟨Try.func59, of_decide_eq_true (by kernel_rfl)⟩
theorem Try.fnOk60 : Try.prog.funcs[60]? = some Try.f60 ∧ Try.f60.name ≠ "runtime.NumGoroutine" := ⟨Try.func60, of_decide_eq_true (by kernel_rfl)⟩
theorem Try.fnOk61 : Try.prog.funcs[61]? = some Try.f61 ∧ Try.f61.name ≠ "runtime.NumGoroutine" := ⟨Try.func61, of_decide_eq_true (by kernel_rfl)⟩
theorem Try.fnOk62 : Try.prog.funcs[62]? = some Try.f62 ∧ Try.f62.name ≠ "runtime.NumGoroutine" := ⟨Try.func62, of_decide_eq_true (by kernel_rfl)⟩
theorem Try.fnOk63 : Try.prog.funcs[63]? = some Try.f63 ∧ Try.f63.name ≠ "runtime.NumGoroutine" := ⟨Try.func63, of_decide_eq_true (by kernel_rfl)⟩
theorem Try.fnOk64 : Try.prog.funcs[64]? = some Try.f64 ∧ Try.f64.name ≠ "runtime.NumGoroutine" := ⟨Try.func64, of_decide_eq_true (by kernel_rfl)⟩
theorem Try.fnOk65 : Try.prog.funcs[65]? = some Try.f65 ∧ Try.f65.name ≠ "runtime.NumGoroutine" := ⟨Try.func65, of_decide_eq_true (by kernel_rfl)⟩
theorem Try.fnOk66 : Try.prog.funcs[66]? = some Try.f66 ∧ Try.f66.name ≠ "runtime.NumGoroutine" := ⟨Try.func66, of_decide_eq_true (by kernel_rfl)⟩
theorem Try.fnOk67 : Try.prog.funcs[67]? = some Try.f67 ∧ Try.f67.name ≠ "runtime.NumGoroutine" := ⟨Try.func67, of_decide_eq_true (by kernel_rfl)⟩
theorem Try.fnOk68 : Try.prog.funcs[68]? = some Try.f68 ∧ Try.f68.name ≠ "runtime.NumGoroutine" := ⟨Try.func68, of_decide_eq_true (by kernel_rfl)⟩
theorem Try.fnOk69 : Try.prog.funcs[69]? = some Try.f69 ∧ Try.f69.name ≠ "runtime.NumGoroutine" := ⟨Try.func69, of_decide_eq_true (by kernel_rfl)⟩
theorem Try.fnOk70 : Try.prog.funcs[70]? = some Try.f70 ∧ Try.f70.name ≠ "runtime.NumGoroutine" := ⟨Try.func70, of_decide_eq_true (by kernel_rfl)⟩
theorem Try.fnOk71 : Try.prog.funcs[71]? = some Try.f71 ∧ Try.f71.name ≠ "runtime.NumGoroutine" := ⟨Try.func71, of_decide_eq_true (by kernel_rfl)⟩
theorem Try.fnOk72 : Try.prog.funcs[72]? = some Try.f72 ∧ Try.f72.name ≠ "runtime.NumGoroutine" := ⟨Try.func72, of_decide_eq_true (by kernel_rfl)⟩
theorem Try.fnOk73 : Try.prog.funcs[73]? = some Try.f73 ∧ Try.f73.name ≠ "runtime.NumGoroutine" := ⟨Try.func73, of_decide_eq_true (by kernel_rfl)⟩
theorem Try.fnOk74 : Try.prog.funcs[74]? = some Try.f74 ∧ Try.f74.name ≠ "runtime.NumGoroutine" := ⟨Try.func74, of_decide_eq_true (by kernel_rfl)⟩
theorem Try.fnOk75 : Try.prog.funcs[75]? = some Try.f75 ∧ Try.f75.name ≠ "runtime.NumGoroutine" := ⟨Try.func75, of_decide_eq_true (by kernel_rfl)⟩
theorem Try.fnOk76 : Try.prog.funcs[76]? = some Try.f76 ∧ Try.f76.name ≠ "runtime.NumGoroutine" := ⟨Try.func76, of_decide_eq_true (by kernel_rfl)⟩
theorem Try.fnOk77 : Try.prog.funcs[77]? = some Try.f77 ∧ Try.f77.name ≠ "runtime.NumGoroutine" := ⟨Try.func77, of_decide_eq_true (by kernel_rfl)⟩
theorem Try.fnOk78 : Try.prog.funcs[78]? = some Try.f78 ∧ Try.f78.name ≠ "runtime.NumGoroutine" := ⟨Try.func78, of_decide_eq_true (by kernel_rfl)⟩
theorem Try.fnOk79 : Try.prog.funcs[79]? = some Try.f79 ∧ Try.f79.name ≠ "runtime.NumGoroutine" := ⟨Try.func79, of_decide_eq_true (by kernel_rfl)⟩
theorem Try.fnOk80 : Try.prog.funcs[80]? = some Try.f80 ∧ Try.f80.name ≠ "runtime.NumGoroutine" := ⟨Try.func80, of_decide_eq_true (by kernel_rfl)⟩
theorem Try.fnOk81 : Try.prog.funcs[81]? = some Try.f81 ∧ Try.f81.name ≠ "runtime.NumGoroutine" := ⟨Try.func81, of_decide_eq_true (by kernel_rfl)⟩
theorem Try.fnOk82 : Try.prog.funcs[82]? = some Try.f82 ∧ Try.f82.name ≠ "runtime.NumGoroutine" := ⟨Try.func82, of_decide_eq_true (by kernel_rfl)⟩
theorem Try.fnOk83 : Try.prog.funcs[83]? = some Try.f83 ∧ Try.f83.name ≠ "runtime.NumGoroutine" := ⟨Try.func83, of_decide_eq_true (by kernel_rfl)⟩
theorem Try.fnOk84 : Try.prog.funcs[84]? = some Try.f84 ∧ Try.f84.name ≠ "runtime.NumGoroutine" := ⟨Try.func84, of_decide_eq_true (by kernel_rfl)⟩
theorem Try.fnOk85 : Try.prog.funcs[85]? = some Try.f85 ∧ Try.f85.name ≠ "runtime.NumGoroutine" := ⟨Try.func85, of_decide_eq_true (by kernel_rfl)⟩
theorem Try.fnOk86 : Try.prog.funcs[86]? = some Try.f86 ∧ Try.f86.name ≠ "runtime.NumGoroutine" := ⟨Try.func86, of_decide_eq_true (by kernel_rfl)⟩
theorem Try.fnOk87 : Try.prog.funcs[87]? = some Try.f87 ∧ Try.f87.name ≠ "runtime.NumGoroutine" := ⟨Try.func87, of_decide_eq_true (by kernel_rfl)⟩
theorem Try.fnOk88 : Try.prog.funcs[88]? = some Try.f88 ∧ Try.f88.name ≠ "runtime.NumGoroutine" := ⟨Try.func88, of_decide_eq_true (by kernel_rfl)⟩
theorem Try.fnOk89 : Try.prog.funcs[89]? = some Try.f89 ∧ Try.f89.name ≠ "runtime.NumGoroutine" := ⟨Try.func89, of_decide_eq_true (by kernel_rfl)⟩
theorem Try.fnOk90 : Try.prog.funcs[90]? = some Try.f90 ∧ Try.f90.name ≠ "runtime.NumGoroutine" := ⟨Try.func90, of_decide_eq_true (by kernel_rfl)⟩
theorem Try.fnOk91 : Try.prog.funcs[91]? = some Try.f91 ∧ Try.f91.name ≠ "runtime.NumGoroutine" := ⟨Try.func91, of_decide_eq_true (by kernel_rfl)⟩
theorem Try.fnOk92 : Try.prog.funcs[92]? = some Try.f92 ∧ Try.f92.name ≠ "runtime.NumGoroutine" := ⟨Try.func92, of_decide_eq_true (by kernel_rfl)⟩
theorem Try.fnOk93 : Try.prog.funcs[93]? = some Try.f93 ∧ Try.f93.name ≠ "runtime.NumGoroutine" := ⟨Try.func93, of_decide_eq_true (by kernel_rfl)⟩
theorem Try.fnOk94 : Try.prog.funcs[94]? = some Try.f94 ∧ Try.f94.name ≠ "runtime.NumGoroutine" := ⟨Try.func94, of_decide_eq_true (by kernel_rfl)⟩
theorem Try.fnOk95 : Try.prog.funcs[95]? = some Try.f95 ∧ Try.f95.name ≠ "runtime.NumGoroutine" := ⟨Try.func95, of_decide_eq_true (by kernel_rfl)⟩
theorem Try.fnOk96 : Try.prog.funcs[96]? = some Try.f96 ∧ Try.f96.name ≠ "runtime.NumGoroutine" := ⟨Try.func96, of_decide_eq_true (by kernel_rfl)⟩
theorem Try.fnOk97 : Try.prog.funcs[97]? = some Try.f97 ∧ Try.f97.name ≠ "runtime.NumGoroutine" := ⟨Try.func97, of_decide_eq_true (by kernel_rfl)⟩
theorem Try.fnOk98 : Try.prog.funcs[98]? = some Try.f98 ∧ Try.f98.name ≠ "runtime.NumGoroutine" := ⟨Try.func98, of_decide_eq_true (by kernel_rfl)⟩
theorem Try.fnOk99 : Try.prog.funcs[99]? = some Try.f99 ∧ Try.f99.name ≠ "runtime.NumGoroutine" := ⟨Try.func99, of_decide_eq_true (by kernel_rfl)⟩
theorem Try.fnOk100 : Try.prog.funcs[100]? = some Try.f100 ∧ Try.f100.name ≠ "runtime.NumGoroutine" := ⟨Try.func100, of_decide_eq_true (by kernel_rfl)⟩
theorem Try.fnOk101 : Try.prog.funcs[101]? = some Try.f101 ∧ Try.f101.name ≠ "runtime.NumGoroutine" := ⟨Try.func101, of_decide_eq_true (by kernel_rfl)⟩
theorem Try.fnOk102 : Try.prog.funcs[102]? = some Try.f102 ∧ Try.f102.name ≠ "runtime.NumGoroutine" := ⟨Try.func102, of_decide_eq_true (by kernel_rfl)⟩
theorem Try.fnOk103 : Try.prog.funcs[103]? = some Try.f103 ∧ Try.f103.name ≠ "runtime.NumGoroutine" := ⟨Try.func103, of_decide_eq_true (by kernel_rfl)⟩
theorem Try.fnOk104 : Try.prog.funcs[104]? = some Try.f104 ∧ Try.f104.name ≠ "runtime.NumGoroutine" := ⟨Try.func104, of_decide_eq_true (by kernel_rfl)⟩
theorem Try.fnOk105 : Try.prog.funcs[105]? = some Try.f105 ∧ Try.f105.name ≠ "runtime.NumGoroutine" := ⟨Try.func105, of_decide_eq_true (by kernel_rfl)⟩
theorem Try.fnOk106 : Try.prog.funcs[106]? = some Try.f106 ∧ Try.f106.name ≠ "runtime.NumGoroutine" := ⟨Try.func106, of_decide_eq_true (by kernel_rfl)⟩
theorem Try.fnOk107 : Try.prog.funcs[107]? = some Try.f107 ∧ Try.f107.name ≠ "runtime.NumGoroutine" := ⟨Try.func107, of_decide_eq_true (by kernel_rfl)⟩
theorem Try.fnOk108 : Try.prog.funcs[108]? = some Try.f108 ∧ Try.f108.name ≠ "runtime.NumGoroutine" := ⟨Try.func108, of_decide_eq_true (by kernel_rfl)⟩
theorem Try.fnOk109 : Try.prog.funcs[109]? = some Try.f109 ∧ Try.f109.name ≠ "runtime.NumGoroutine" := ⟨Try.func109, of_decide_eq_true (by kernel_rfl)⟩
theorem Try.fnOk110 : Try.prog.funcs[110]? = some Try.f110 ∧ Try.f110.name ≠ "runtime.NumGoroutine" := ⟨Try.func110, of_decide_eq_true (by kernel_rfl)⟩
theorem Try.fnOk111 : Try.prog.funcs[111]? = some Try.f111 ∧ Try.f111.name ≠ "runtime.NumGoroutine" := ⟨Try.func111, of_decide_eq_true (by kernel_rfl)⟩
theorem Try.tysOk : ∀ t i, Try.tys.get t = some i → TyOk Try.prog t i := Tri.get_all (.cons (.none (.some Try.tyOk1 (.some Try.tyOk2 (.some Try.tyOk3 (.some Try.tyOk4 (.some Try.tyOk5 (.some Try.tyOk6 (.some Try.tyOk7 (.some Try.tyOk8 (.some Try.tyOk9 (.some Try.tyOk10 (.some Try.tyOk11 (.some Try.tyOk12 (.some Try.tyOk13 (.some Try.tyOk14 (.some Try.tyOk15 (.nil _))))))))))))))))) (.cons (.some Try.tyOk16 (.some Try.tyOk17 (.some Try.tyOk18 (.some Try.tyOk19 (.some Try.tyOk20 (.some Try.tyOk21 (.some Try.tyOk22 (.some Try.tyOk23 (.some Try.tyOk24 (.some Try.tyOk25 (.some Try.tyOk26 (.some Try.tyOk27 (.some Try.tyOk28 (.some Try.tyOk29 (.none (.some Try.tyOk31 (.nil _))))))))))))))))) (.cons (.none (.some Try.tyOk33 (.some Try.tyOk34 (.some Try.tyOk35 (.some Try.tyOk36 (.none (.some Try.tyOk38 (.some Try.tyOk39 (.some Try.tyOk40 (.some Try.tyOk41 (.some Try.tyOk42 (.some Try.tyOk43 (.some Try.tyOk44 (.some Try.tyOk45 (.none (.some Try.tyOk47 (.nil _))))))))))))))))) (.cons (.some Try.tyOk48 (.some Try.tyOk49 (.some Try.tyOk50 (.some Try.tyOk51 (.some Try.tyOk52 (.some Try.tyOk53 (.some Try.tyOk54 (.some Try.tyOk55 (.some Try.tyOk56 (.some Try.tyOk57 (.none (.some Try.tyOk59 (.none (.some Try.tyOk61 (.some Try.tyOk62 (.some Try.tyOk63 (.nil _))))))))))))))))) (.cons (.some Try.tyOk64 (.some Try.tyOk65 (.some Try.tyOk66 (.some Try.tyOk67 (.some Try.tyOk68 (.some Try.tyOk69 (.some Try.tyOk70 (.some Try.tyOk71 (.some Try.tyOk72 (.some Try.tyOk73 (.some Try.tyOk74 (.some Try.tyOk75 (.some Try.tyOk76 (.some Try.tyOk77 (.some Try.tyOk78 (.some Try.tyOk79 (.nil _))))))))))))))))) (.cons (.some Try.tyOk80 (.some Try.tyOk81 (.some Try.tyOk82 (.some Try.tyOk83 (.some Try.tyOk84 (.some Try.tyOk85 (.some Try.tyOk86 (.some Try.tyOk87 (.some Try.tyOk88 (.some Try.tyOk89 (.some Try.tyOk90 (.some Try.tyOk91 (.some Try.tyOk92 (.some Try.tyOk93 (.some Try.tyOk94 (.some Try.tyOk95 (.nil _))))))))))))))))) (.cons (.some Try.tyOk96 (.some Try.tyOk97 (.some Try.tyOk98 (.some Try.tyOk99 (.some Try.tyOk100 (.some Try.tyOk101 (.some Try.tyOk102 (.some Try.tyOk103 (.some Try.tyOk104 (.none (.some Try.tyOk106 (.some Try.tyOk107 (.some Try.tyOk108 (.some Try.tyOk109 (.some Try.tyOk110 (.some Try.tyOk111 (.nil _))))))))))))))))) (.cons (.some Try.tyOk112 (.some Try.tyOk113 (.some Try.tyOk114 (.some Try.tyOk115 (.some Try.tyOk116 (.some Try.tyOk117 (.some Try.tyOk118 (.some Try.tyOk119 (.some Try.tyOk120 (.none (.some Try.tyOk122 (.some Try.tyOk123 (.some Try.tyOk124 (.some Try.tyOk125 (.some Try.tyOk126 (.some Try.tyOk127 (.nil _))))))))))))))))) (.cons (.some Try.tyOk128 (.some Try.tyOk129 (.some Try.tyOk130 (.some Try.tyOk131 (.some Try.tyOk132 (.some Try.tyOk133 (.some Try.tyOk134 (.some Try.tyOk135 (.some Try.tyOk136 (.some Try.tyOk137 (.some Try.tyOk138 (.some Try.tyOk139 (.none (.some Try.tyOk141 (.some Try.tyOk142 (.some Try.tyOk143 (.nil _))))))))))))))))) (.cons (.some Try.tyOk144 (.some Try.tyOk145 (.some Try.tyOk146 (.some Try.tyOk147 (.some Try.tyOk148 (.some Try.tyOk149 (.some Try.tyOk150 (.some Try.tyOk151 (.some Try.tyOk152 (.some Try.tyOk153 (.some Try.tyOk154 (.some Try.tyOk155 (.some Try.tyOk156 (.some Try.tyOk157 (.some Try.tyOk158 (.some Try.tyOk159 (.nil _))))))))))))))))) (.cons (.some Try.tyOk160 (.some Try.tyOk161 (.some Try.tyOk162 (.none (.none (.none (.none (.none (.none (.none (.none (.none (.none (.none (.none (.none (.nil _))))))))))))))))) (.nil _))))))))))))
theorem Try.fnsOk : ∀ g fn, Try.fns.get g = some fn → Try.prog.funcs[g]? = some fn ∧ fn.name ≠ "runtime.NumGoroutine" := Tri.get_all (p := fun g fn => Try.prog.funcs[g]? = some fn ∧ fn.name ≠ "runtime.NumGoroutine") (.cons (.none (.none (.none (.some Try.fnOk3 (.some Try.fnOk4 (.some Try.fnOk5 (.some Try.fnOk6 (.some Try.fnOk7 (.some Try.fnOk8 (.some Try.fnOk9 (.some Try.fnOk10 (.some Try.fnOk11 (.some Try.fnOk12 (.some Try.fnOk13 (.some Try.fnOk14 (.some Try.fnOk15 (.nil _))))))))))))))))) (.cons (.some Try.fnOk16 (.some Try.fnOk17 (.some Try.fnOk18 (.some Try.fnOk19 (.some Try.fnOk20 (.some Try.fnOk21 (.some Try.fnOk22 (.some Try.fnOk23 (.some Try.fnOk24 (.some Try.fnOk25 (.some Try.fnOk26 (.some Try.fnOk27 (.some Try.fnOk28 (.some Try.fnOk29 (.some Try.fnOk30 (.some Try.fnOk31 (.nil _))))))))))))))))) (.cons (.some Try.fnOk32 (.some Try.fnOk33 (.some Try.fnOk34 (.some Try.fnOk35 (.some Try.fnOk36 (.some Try.fnOk37 (.some Try.fnOk38 (.some Try.fnOk39 (.some Try.fnOk40 (.some Try.fnOk41 (.some Try.fnOk42 (.some Try.fnOk43 (.some Try.fnOk44 (.some Try.fnOk45 (.some Try.fnOk46 (.some Try.fnOk47 (.nil _))))))))))))))))) (.cons (.some Try.fnOk48 (.some Try.fnOk49 (.some Try.fnOk50 (.some Try.fnOk51 (.some Try.fnOk52 (.some Try.fnOk53 (.some Try.fnOk54 (.some Try.fnOk55 (.some Try.fnOk56 (.some Try.fnOk57 (.some Try.fnOk58 (.some Try.fnOk59 (.some Try.fnOk60 (.some Try.fnOk61 (.some Try.fnOk62 (.some Try.fnOk63 (.nil _))))))))))))))))) (.cons (.some Try.fnOk64 (.some Try.fnOk65 (.some Try.fnOk66 (.some Try.fnOk67 (.some Try.fnOk68 (.some Try.fnOk69 (.some Try.fnOk70 (.some Try.fnOk71 (.some Try.fnOk72 (.some Try.fnOk73 (.some Try.fnOk74 (.some Try.fnOk75 (.some Try.fnOk76 (.some Try.fnOk77 (.some Try.fnOk78 (.some Try.fnOk79 (.nil _))))))))))))))))) (.cons (.some Try.fnOk80 (.some Try.fnOk81 (.some Try.fnOk82 (.some Try.fnOk83 (.some Try.fnOk84 (.some Try.fnOk85 (.some Try.fnOk86 (.some Try.fnOk87 (.some Try.fnOk88 (.some Try.fnOk89 (.some Try.fnOk90 (.some Try.fnOk91 (.some Try.fnOk92 (.some Try.fnOk93 (.some Try.fnOk94 (.some Try.fnOk95 (.nil _))))))))))))))))) (.cons (.some Try.fnOk96 (.some Try.fnOk97 (.some Try.fnOk98 (.some Try.fnOk99 (.some Try.fnOk100 (.some Try.fnOk101 (.some Try.fnOk102 (.some Try.fnOk103 (.some Try.fnOk104 (.some Try.fnOk105 (.some Try.fnOk106 (.some Try.fnOk107 (.some Try.fnOk108 (.some Try.fnOk109 (.some Try.fnOk110 (.some Try.fnOk111 (.nil _))))))))))))))))) (.nil _))))))))
theorem Try.mixed : Try.prog.follows .mixedOrders = true := by kernel_rfl
end Go.Ev

/- Summaries out of runs. -/
set_option linter.unusedSimpArgs false
set_option linter.unusedVariables false
set_option linter.unusedSectionVars false
namespace Go.Ev

def heap0 : Heap := ⟨0, []⟩
theorem heap0_ok : heap0.ok := ⟨List.nodup_nil, fun id e h => by simp [heap0] at h⟩

/-- A call of a function of the program, as the evaluator carries it out, is so. -/
theorem run_sum {P : Program} {env : Env} (he : EnvOk2 P env) (d g : Nat) {ρ : Type} {args : List AV} {h : Heap} {K : AV → Heap → Option ρ} {r : ρ} (hk : h.ok) (hs : env.sum g = none) (hK : callF env (d + 1) ρ (.clo (.func g) [] []) args h K = some r) :
    (∃ fn c, P.funcs[g]? = some fn ∧ fn.name ≠ "runtime.NumGoroutine" ∧ fn.body = some c) ∧ ∃ v h', K v h' = some r ∧ HEff h h' ∧ ∀ (w : World) (c : Cx) (args' : List Value), HR w c h.G → VRs w c args args' → (∀ id, h.next ≤ id → id < h'.next → ¬ c.V id) →
      CallsIn Fence.wide 0 P g args'.toArray w (fun e w' => ∃ v', e = .returned v' ∧ Post w c h h' v v' w') := by
  have hK' : (match env.sum g with | some A => A ρ ([] ++ args ++ []) h K | none => enterK env (callF env d) ⟨false, 0⟩ g ([] ++ args ++ []) h K) = some r := hK
  rw [hs] at hK'
  simp only [List.nil_append, List.append_nil] at hK'
  obtain ⟨h1, v, h', k1, k2, k3⟩ := enter_sound he (callF_sound he d) hk hK'
  exact ⟨h1, v, h', k1, k2.2 rfl, fun w c args' hr hv hfr => CallsIn.mono (k3 w c args' hr hv (Fresh.of hfr)) (fun e w' ⟨v', q1, q2⟩ => ⟨v', q1, q2.post⟩)⟩

theorem HR.none {w : World} {c : Cx} {G : Nat → Option Blk} (h : HR w c G) : HR w c.none heap0.G :=
  ⟨fun id b hb => by simp [Heap.G, heap0] at hb, fun id b hb => by simp [Heap.G, heap0] at hb, fun i j b b' hb => by simp [Heap.G, heap0] at hb, fun b hb => ⟨fun q => q, (h.dis b hb).2⟩⟩

/-- What a callee without blocks of the caller's leaves behind, for the caller. -/
theorem Ext.ofNone {w w' : World} {c c' : Cx} (h : Ext w c.none w' c') : Ext w c w' c ∧ ∀ b, b < w.heap.size → w'.heap[b]? = w.heap[b]? := by
  have hall : ∀ b, b < w.heap.size → w'.heap[b]? = w.heap[b]? := fun b hb => h.keep b hb (fun q => q)
  exact ⟨⟨⟨fun _ q => q, fun b hb _ => hall b hb, fun i hi => ⟨hi, rfl⟩⟩, h.os, h.tape, h.output, h.size, fun b hb _ => hall b hb, fun _ _ q => q, fun _ _ q => q, fun _ q q' => absurd q q'⟩, hall⟩

theorem HR.kept {w w' : World} {c : Cx} {G : Nat → Option Blk} (h : HR w c G) (hx : Ext w c w' c) (hall : ∀ b, b < w.heap.size → w'.heap[b]? = w.heap[b]?) : HR w' c G :=
  ⟨h.valid, fun id b hb => BlkRel.keep hx.toExt0 (h.blk id b hb) (fun hl => hall _ ((h.blk id b hb).lt hl)) (fun hl => (h.blk id b hb).owned hl), h.inj, fun b hb => ⟨(h.dis b hb).1, Nat.lt_of_lt_of_le (h.dis b hb).2 hx.size⟩⟩

/-- A function without arguments whose answer is one value. -/
noncomputable def constA (v : Value) : AFun := fun _ args h K => match args with
  | [] => K (.val v) h
  | _ => none

theorem SumC.closed {P : Program} {env : Env} (he : EnvOk2 P env) (d g : Nat) (hs : env.sum g = none) {v : Value} (hrun : callF env (d + 1) AV (.clo (.func g) [] []) [] heap0 (fun v _ => some v) = some (.val v)) : SumC P g (constA v) := by
  obtain ⟨h1, u, h', k1, k2, k3⟩ := run_sum he d g heap0_ok hs hrun
  injection k1 with k1
  subst k1
  refine ⟨h1, ?_⟩
  intro ρ args h K r hk hA
  unfold constA at hA
  split at hA
  · refine ⟨.val v, h, hA, HEff.refl hk, ?_⟩
    intro w c args' hr hv hfr
    cases hv
    refine CallsIn.mono (k3 w c.none [] hr.none .nil (fun id _ _ q => q)) ?_
    rintro e w' ⟨v', rfl, c', q1, q2, q3, q4⟩
    obtain ⟨x1, x2⟩ := q2.ofNone
    have := q1.val_inv
    subst this
    exact ⟨_, rfl, c, .val _, x1, fun id hid => .inl hid, hr.kept x1 x2⟩
  · cases hA
end Go.Ev
