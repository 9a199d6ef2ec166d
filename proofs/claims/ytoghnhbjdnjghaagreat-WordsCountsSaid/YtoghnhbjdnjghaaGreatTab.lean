/- The table of the types of this seat's program, and that its functions are entered; made by a program of mine (tab.py) out of the dump's rows; each row is a closed fact that the kernel checks. -/
import Derived.Test.YtoghnhbjdnjghaaGreatMW
import Derived.Test.YtoghnhbjdnjghaaGreatProg
namespace Go.Proofs.YtoghnhbjdnjghaaGreat
open Go.W
set_option maxRecDepth 100000
def ti1 : TI := ⟨.func, .nilFunc, 1, 8⟩
theorem tok1 : TIok Tryz.prog 1 ti1 := ⟨⟨_, _, _, Tryz.underlying1⟩, by kernel_rfl⟩
def ti2 : TI := ⟨.int .i64, .int .i64 0, 1, 8⟩
theorem tok2 : TIok Tryz.prog 2 ti2 := ⟨Tryz.underlying2, by kernel_rfl⟩
def ti3 : TI := ⟨.int .i64, .int .i64 0, 1, 8⟩
theorem tok3 : TIok Tryz.prog 3 ti3 := ⟨Tryz.underlying3, by kernel_rfl⟩
def ti4 : TI := ⟨.bool, .bool false, 1, 1⟩
theorem tok4 : TIok Tryz.prog 4 ti4 := ⟨Tryz.underlying4, by kernel_rfl⟩
def ti5 : TI := ⟨.int .u8, .int .u8 0, 1, 1⟩
theorem tok5 : TIok Tryz.prog 5 ti5 := ⟨Tryz.underlying5, by kernel_rfl⟩
def ti6 : TI := ⟨.int .u8, .int .u8 0, 1, 1⟩
theorem tok6 : TIok Tryz.prog 6 ti6 := ⟨Tryz.underlying6, by kernel_rfl⟩
def ti7 : TI := ⟨.struct [(0, 2), (1, 3), (2, 4), (3, 6)], .agg #[.int .i64 0, .int .i64 0, .bool false, .int .u8 0], 4, 24⟩
theorem tok7 : TIok Tryz.prog 7 ti7 := ⟨⟨_, Tryz.underlying7, by kernel_rfl⟩, by kernel_rfl⟩
def ti8 : TI := ⟨.struct [(0, 2), (1, 3), (2, 4), (3, 6)], .agg #[.int .i64 0, .int .i64 0, .bool false, .int .u8 0], 4, 24⟩
theorem tok8 : TIok Tryz.prog 8 ti8 := ⟨⟨_, Tryz.underlying8, by kernel_rfl⟩, by kernel_rfl⟩
def ti9 : TI := ⟨.string, .string ⟨#[]⟩, 1, 16⟩
theorem tok9 : TIok Tryz.prog 9 ti9 := ⟨Tryz.underlying9, by kernel_rfl⟩
def ti10 : TI := ⟨.string, .string ⟨#[]⟩, 1, 16⟩
theorem tok10 : TIok Tryz.prog 10 ti10 := ⟨Tryz.underlying10, by kernel_rfl⟩
def ti11 : TI := ⟨.string, .string ⟨#[]⟩, 1, 16⟩
theorem tok11 : TIok Tryz.prog 11 ti11 := ⟨Tryz.underlying11, by kernel_rfl⟩
def ti12 : TI := ⟨.int .u64, .int .u64 0, 1, 8⟩
theorem tok12 : TIok Tryz.prog 12 ti12 := ⟨Tryz.underlying12, by kernel_rfl⟩
def ti13 : TI := ⟨.struct [(0, 9), (1, 12)], .agg #[.string ⟨#[]⟩, .int .u64 0], 2, 24⟩
theorem tok13 : TIok Tryz.prog 13 ti13 := ⟨⟨_, Tryz.underlying13, by kernel_rfl⟩, by kernel_rfl⟩
def ti14 : TI := ⟨.struct [(0, 9), (1, 12)], .agg #[.string ⟨#[]⟩, .int .u64 0], 2, 24⟩
theorem tok14 : TIok Tryz.prog 14 ti14 := ⟨⟨_, Tryz.underlying14, by kernel_rfl⟩, by kernel_rfl⟩
def ti15 : TI := ⟨.pointer 154, .pointer none, 1, 8⟩
theorem tok15 : TIok Tryz.prog 15 ti15 := ⟨Tryz.underlying15, by kernel_rfl⟩
def ti16 : TI := ⟨.pointer 157, .pointer none, 1, 8⟩
theorem tok16 : TIok Tryz.prog 16 ti16 := ⟨Tryz.underlying16, by kernel_rfl⟩
def ti17 : TI := ⟨.pointer 165, .pointer none, 1, 8⟩
theorem tok17 : TIok Tryz.prog 17 ti17 := ⟨Tryz.underlying17, by kernel_rfl⟩
def ti18 : TI := ⟨.struct [(0, 17)], .agg #[.pointer none], 1, 8⟩
theorem tok18 : TIok Tryz.prog 18 ti18 := ⟨⟨_, Tryz.underlying18, by kernel_rfl⟩, by kernel_rfl⟩
def ti19 : TI := ⟨.struct [(0, 17)], .agg #[.pointer none], 1, 8⟩
theorem tok19 : TIok Tryz.prog 19 ti19 := ⟨⟨_, Tryz.underlying19, by kernel_rfl⟩, by kernel_rfl⟩
def ti20 : TI := ⟨.iface, .nilIface, 1, 16⟩
theorem tok20 : TIok Tryz.prog 20 ti20 := ⟨⟨_, Tryz.underlying20⟩, by kernel_rfl⟩
def ti21 : TI := ⟨.int .i32, .int .i32 0, 1, 4⟩
theorem tok21 : TIok Tryz.prog 21 ti21 := ⟨Tryz.underlying21, by kernel_rfl⟩
def ti22 : TI := ⟨.slice 56, .slice none 0 0, 1, 24⟩
theorem tok22 : TIok Tryz.prog 22 ti22 := ⟨Tryz.underlying22, by kernel_rfl⟩
def ti23 : TI := ⟨.func, .nilFunc, 1, 8⟩
theorem tok23 : TIok Tryz.prog 23 ti23 := ⟨⟨_, _, _, Tryz.underlying23⟩, by kernel_rfl⟩
def ti24 : TI := ⟨.func, .nilFunc, 1, 8⟩
theorem tok24 : TIok Tryz.prog 24 ti24 := ⟨⟨_, _, _, Tryz.underlying24⟩, by kernel_rfl⟩
def ti25 : TI := ⟨.int .i64, .int .i64 0, 1, 8⟩
theorem tok25 : TIok Tryz.prog 25 ti25 := ⟨Tryz.underlying25, by kernel_rfl⟩
def ti27 : TI := ⟨.func, .nilFunc, 1, 8⟩
theorem tok27 : TIok Tryz.prog 27 ti27 := ⟨⟨_, _, _, Tryz.underlying27⟩, by kernel_rfl⟩
def ti28 : TI := ⟨.func, .nilFunc, 1, 8⟩
theorem tok28 : TIok Tryz.prog 28 ti28 := ⟨⟨_, _, _, Tryz.underlying28⟩, by kernel_rfl⟩
def ti29 : TI := ⟨.func, .nilFunc, 1, 8⟩
theorem tok29 : TIok Tryz.prog 29 ti29 := ⟨⟨_, _, _, Tryz.underlying29⟩, by kernel_rfl⟩
def ti30 : TI := ⟨.func, .nilFunc, 1, 8⟩
theorem tok30 : TIok Tryz.prog 30 ti30 := ⟨⟨_, _, _, Tryz.underlying30⟩, by kernel_rfl⟩
def ti31 : TI := ⟨.func, .nilFunc, 1, 8⟩
theorem tok31 : TIok Tryz.prog 31 ti31 := ⟨⟨_, _, _, Tryz.underlying31⟩, by kernel_rfl⟩
def ti33 : TI := ⟨.func, .nilFunc, 1, 8⟩
theorem tok33 : TIok Tryz.prog 33 ti33 := ⟨⟨_, _, _, Tryz.underlying33⟩, by kernel_rfl⟩
def ti34 : TI := ⟨.func, .nilFunc, 1, 8⟩
theorem tok34 : TIok Tryz.prog 34 ti34 := ⟨⟨_, _, _, Tryz.underlying34⟩, by kernel_rfl⟩
def ti36 : TI := ⟨.func, .nilFunc, 1, 8⟩
theorem tok36 : TIok Tryz.prog 36 ti36 := ⟨⟨_, _, _, Tryz.underlying36⟩, by kernel_rfl⟩
def ti38 : TI := ⟨.func, .nilFunc, 1, 8⟩
theorem tok38 : TIok Tryz.prog 38 ti38 := ⟨⟨_, _, _, Tryz.underlying38⟩, by kernel_rfl⟩
def ti39 : TI := ⟨.func, .nilFunc, 1, 8⟩
theorem tok39 : TIok Tryz.prog 39 ti39 := ⟨⟨_, _, _, Tryz.underlying39⟩, by kernel_rfl⟩
def ti40 : TI := ⟨.slice 46, .slice none 0 0, 1, 24⟩
theorem tok40 : TIok Tryz.prog 40 ti40 := ⟨Tryz.underlying40, by kernel_rfl⟩
def ti42 : TI := ⟨.func, .nilFunc, 1, 8⟩
theorem tok42 : TIok Tryz.prog 42 ti42 := ⟨⟨_, _, _, Tryz.underlying42⟩, by kernel_rfl⟩
def ti44 : TI := ⟨.func, .nilFunc, 1, 8⟩
theorem tok44 : TIok Tryz.prog 44 ti44 := ⟨⟨_, _, _, Tryz.underlying44⟩, by kernel_rfl⟩
def ti45 : TI := ⟨.func, .nilFunc, 1, 8⟩
theorem tok45 : TIok Tryz.prog 45 ti45 := ⟨⟨_, _, _, Tryz.underlying45⟩, by kernel_rfl⟩
def ti46 : TI := ⟨.array 2 9, .agg #[.string ⟨#[]⟩, .string ⟨#[]⟩], 2, 32⟩
theorem tok46 : TIok Tryz.prog 46 ti46 := ⟨Tryz.underlying46, by kernel_rfl⟩
def ti48 : TI := ⟨.func, .nilFunc, 1, 8⟩
theorem tok48 : TIok Tryz.prog 48 ti48 := ⟨⟨_, _, _, Tryz.underlying48⟩, by kernel_rfl⟩
def ti50 : TI := ⟨.func, .nilFunc, 1, 8⟩
theorem tok50 : TIok Tryz.prog 50 ti50 := ⟨⟨_, _, _, Tryz.underlying50⟩, by kernel_rfl⟩
def ti52 : TI := ⟨.func, .nilFunc, 1, 8⟩
theorem tok52 : TIok Tryz.prog 52 ti52 := ⟨⟨_, _, _, Tryz.underlying52⟩, by kernel_rfl⟩
def ti53 : TI := ⟨.func, .nilFunc, 1, 8⟩
theorem tok53 : TIok Tryz.prog 53 ti53 := ⟨⟨_, _, _, Tryz.underlying53⟩, by kernel_rfl⟩
def ti54 : TI := ⟨.func, .nilFunc, 1, 8⟩
theorem tok54 : TIok Tryz.prog 54 ti54 := ⟨⟨_, _, _, Tryz.underlying54⟩, by kernel_rfl⟩
def ti55 : TI := ⟨.struct [(0, 9), (1, 9)], .agg #[.string ⟨#[]⟩, .string ⟨#[]⟩], 2, 32⟩
theorem tok55 : TIok Tryz.prog 55 ti55 := ⟨⟨_, Tryz.underlying55, by kernel_rfl⟩, by kernel_rfl⟩
def ti56 : TI := ⟨.struct [(0, 9), (1, 9)], .agg #[.string ⟨#[]⟩, .string ⟨#[]⟩], 2, 32⟩
theorem tok56 : TIok Tryz.prog 56 ti56 := ⟨⟨_, Tryz.underlying56, by kernel_rfl⟩, by kernel_rfl⟩
def ti57 : TI := ⟨.struct [(0, 9), (1, 9)], .agg #[.string ⟨#[]⟩, .string ⟨#[]⟩], 2, 32⟩
theorem tok57 : TIok Tryz.prog 57 ti57 := ⟨⟨_, Tryz.underlying57, by kernel_rfl⟩, by kernel_rfl⟩
def ti58 : TI := ⟨.struct [(0, 9), (1, 9)], .agg #[.string ⟨#[]⟩, .string ⟨#[]⟩], 2, 32⟩
theorem tok58 : TIok Tryz.prog 58 ti58 := ⟨⟨_, Tryz.underlying58, by kernel_rfl⟩, by kernel_rfl⟩
def ti59 : TI := ⟨.func, .nilFunc, 1, 8⟩
theorem tok59 : TIok Tryz.prog 59 ti59 := ⟨⟨_, _, _, Tryz.underlying59⟩, by kernel_rfl⟩
def ti60 : TI := ⟨.func, .nilFunc, 1, 8⟩
theorem tok60 : TIok Tryz.prog 60 ti60 := ⟨⟨_, _, _, Tryz.underlying60⟩, by kernel_rfl⟩
def ti61 : TI := ⟨.slice 3, .slice none 0 0, 1, 24⟩
theorem tok61 : TIok Tryz.prog 61 ti61 := ⟨Tryz.underlying61, by kernel_rfl⟩
def ti63 : TI := ⟨.func, .nilFunc, 1, 8⟩
theorem tok63 : TIok Tryz.prog 63 ti63 := ⟨⟨_, _, _, Tryz.underlying63⟩, by kernel_rfl⟩
def ti64 : TI := ⟨.func, .nilFunc, 1, 8⟩
theorem tok64 : TIok Tryz.prog 64 ti64 := ⟨⟨_, _, _, Tryz.underlying64⟩, by kernel_rfl⟩
def ti65 : TI := ⟨.func, .nilFunc, 1, 8⟩
theorem tok65 : TIok Tryz.prog 65 ti65 := ⟨⟨_, _, _, Tryz.underlying65⟩, by kernel_rfl⟩
def ti67 : TI := ⟨.func, .nilFunc, 1, 8⟩
theorem tok67 : TIok Tryz.prog 67 ti67 := ⟨⟨_, _, _, Tryz.underlying67⟩, by kernel_rfl⟩
def ti68 : TI := ⟨.func, .nilFunc, 1, 8⟩
theorem tok68 : TIok Tryz.prog 68 ti68 := ⟨⟨_, _, _, Tryz.underlying68⟩, by kernel_rfl⟩
def ti69 : TI := ⟨.func, .nilFunc, 1, 8⟩
theorem tok69 : TIok Tryz.prog 69 ti69 := ⟨⟨_, _, _, Tryz.underlying69⟩, by kernel_rfl⟩
def ti70 : TI := ⟨.func, .nilFunc, 1, 8⟩
theorem tok70 : TIok Tryz.prog 70 ti70 := ⟨⟨_, _, _, Tryz.underlying70⟩, by kernel_rfl⟩
def ti71 : TI := ⟨.func, .nilFunc, 1, 8⟩
theorem tok71 : TIok Tryz.prog 71 ti71 := ⟨⟨_, _, _, Tryz.underlying71⟩, by kernel_rfl⟩
def ti73 : TI := ⟨.func, .nilFunc, 1, 8⟩
theorem tok73 : TIok Tryz.prog 73 ti73 := ⟨⟨_, _, _, Tryz.underlying73⟩, by kernel_rfl⟩
def ti74 : TI := ⟨.func, .nilFunc, 1, 8⟩
theorem tok74 : TIok Tryz.prog 74 ti74 := ⟨⟨_, _, _, Tryz.underlying74⟩, by kernel_rfl⟩
def ti75 : TI := ⟨.func, .nilFunc, 1, 8⟩
theorem tok75 : TIok Tryz.prog 75 ti75 := ⟨⟨_, _, _, Tryz.underlying75⟩, by kernel_rfl⟩
def ti76 : TI := ⟨.func, .nilFunc, 1, 8⟩
theorem tok76 : TIok Tryz.prog 76 ti76 := ⟨⟨_, _, _, Tryz.underlying76⟩, by kernel_rfl⟩
def ti77 : TI := ⟨.func, .nilFunc, 1, 8⟩
theorem tok77 : TIok Tryz.prog 77 ti77 := ⟨⟨_, _, _, Tryz.underlying77⟩, by kernel_rfl⟩
def ti79 : TI := ⟨.func, .nilFunc, 1, 8⟩
theorem tok79 : TIok Tryz.prog 79 ti79 := ⟨⟨_, _, _, Tryz.underlying79⟩, by kernel_rfl⟩
def ti80 : TI := ⟨.pointer 84, .pointer none, 1, 8⟩
theorem tok80 : TIok Tryz.prog 80 ti80 := ⟨Tryz.underlying80, by kernel_rfl⟩
def ti81 : TI := ⟨.func, .nilFunc, 1, 8⟩
theorem tok81 : TIok Tryz.prog 81 ti81 := ⟨⟨_, _, _, Tryz.underlying81⟩, by kernel_rfl⟩
def ti82 : TI := ⟨.slice 61, .slice none 0 0, 1, 24⟩
theorem tok82 : TIok Tryz.prog 82 ti82 := ⟨Tryz.underlying82, by kernel_rfl⟩
def ti83 : TI := ⟨.struct [(0, 82)], .agg #[.slice none 0 0], 1, 24⟩
theorem tok83 : TIok Tryz.prog 83 ti83 := ⟨⟨_, Tryz.underlying83, by kernel_rfl⟩, by kernel_rfl⟩
def ti84 : TI := ⟨.struct [(0, 82)], .agg #[.slice none 0 0], 1, 24⟩
theorem tok84 : TIok Tryz.prog 84 ti84 := ⟨⟨_, Tryz.underlying84, by kernel_rfl⟩, by kernel_rfl⟩
def ti85 : TI := ⟨.func, .nilFunc, 1, 8⟩
theorem tok85 : TIok Tryz.prog 85 ti85 := ⟨⟨_, _, _, Tryz.underlying85⟩, by kernel_rfl⟩
def ti86 : TI := ⟨.func, .nilFunc, 1, 8⟩
theorem tok86 : TIok Tryz.prog 86 ti86 := ⟨⟨_, _, _, Tryz.underlying86⟩, by kernel_rfl⟩
def ti87 : TI := ⟨.slice 9, .slice none 0 0, 1, 24⟩
theorem tok87 : TIok Tryz.prog 87 ti87 := ⟨Tryz.underlying87, by kernel_rfl⟩
def ti88 : TI := ⟨.struct [(0, 87), (1, 82)], .agg #[.slice none 0 0, .slice none 0 0], 2, 48⟩
theorem tok88 : TIok Tryz.prog 88 ti88 := ⟨⟨_, Tryz.underlying88, by kernel_rfl⟩, by kernel_rfl⟩
def ti89 : TI := ⟨.struct [(0, 87), (1, 82)], .agg #[.slice none 0 0, .slice none 0 0], 2, 48⟩
theorem tok89 : TIok Tryz.prog 89 ti89 := ⟨⟨_, Tryz.underlying89, by kernel_rfl⟩, by kernel_rfl⟩
def ti90 : TI := ⟨.func, .nilFunc, 1, 8⟩
theorem tok90 : TIok Tryz.prog 90 ti90 := ⟨⟨_, _, _, Tryz.underlying90⟩, by kernel_rfl⟩
def ti91 : TI := ⟨.func, .nilFunc, 1, 8⟩
theorem tok91 : TIok Tryz.prog 91 ti91 := ⟨⟨_, _, _, Tryz.underlying91⟩, by kernel_rfl⟩
def ti92 : TI := ⟨.func, .nilFunc, 1, 8⟩
theorem tok92 : TIok Tryz.prog 92 ti92 := ⟨⟨_, _, _, Tryz.underlying92⟩, by kernel_rfl⟩
def ti93 : TI := ⟨.func, .nilFunc, 1, 8⟩
theorem tok93 : TIok Tryz.prog 93 ti93 := ⟨⟨_, _, _, Tryz.underlying93⟩, by kernel_rfl⟩
def ti95 : TI := ⟨.func, .nilFunc, 1, 8⟩
theorem tok95 : TIok Tryz.prog 95 ti95 := ⟨⟨_, _, _, Tryz.underlying95⟩, by kernel_rfl⟩
def ti96 : TI := ⟨.func, .nilFunc, 1, 8⟩
theorem tok96 : TIok Tryz.prog 96 ti96 := ⟨⟨_, _, _, Tryz.underlying96⟩, by kernel_rfl⟩
def ti98 : TI := ⟨.func, .nilFunc, 1, 8⟩
theorem tok98 : TIok Tryz.prog 98 ti98 := ⟨⟨_, _, _, Tryz.underlying98⟩, by kernel_rfl⟩
def ti99 : TI := ⟨.func, .nilFunc, 1, 8⟩
theorem tok99 : TIok Tryz.prog 99 ti99 := ⟨⟨_, _, _, Tryz.underlying99⟩, by kernel_rfl⟩
def ti100 : TI := ⟨.pointer 103, .pointer none, 1, 8⟩
theorem tok100 : TIok Tryz.prog 100 ti100 := ⟨Tryz.underlying100, by kernel_rfl⟩
def ti101 : TI := ⟨.map 56 4, .map none, 1, 8⟩
theorem tok101 : TIok Tryz.prog 101 ti101 := ⟨Tryz.underlying101, by kernel_rfl⟩
def ti102 : TI := ⟨.struct [(0, 22), (1, 101)], .agg #[.slice none 0 0, .map none], 2, 32⟩
theorem tok102 : TIok Tryz.prog 102 ti102 := ⟨⟨_, Tryz.underlying102, by kernel_rfl⟩, by kernel_rfl⟩
def ti103 : TI := ⟨.struct [(0, 22), (1, 101)], .agg #[.slice none 0 0, .map none], 2, 32⟩
theorem tok103 : TIok Tryz.prog 103 ti103 := ⟨⟨_, Tryz.underlying103, by kernel_rfl⟩, by kernel_rfl⟩
def ti104 : TI := ⟨.func, .nilFunc, 1, 8⟩
theorem tok104 : TIok Tryz.prog 104 ti104 := ⟨⟨_, _, _, Tryz.underlying104⟩, by kernel_rfl⟩
def ti105 : TI := ⟨.func, .nilFunc, 1, 8⟩
theorem tok105 : TIok Tryz.prog 105 ti105 := ⟨⟨_, _, _, Tryz.underlying105⟩, by kernel_rfl⟩
def ti106 : TI := ⟨.func, .nilFunc, 1, 8⟩
theorem tok106 : TIok Tryz.prog 106 ti106 := ⟨⟨_, _, _, Tryz.underlying106⟩, by kernel_rfl⟩
def ti107 : TI := ⟨.func, .nilFunc, 1, 8⟩
theorem tok107 : TIok Tryz.prog 107 ti107 := ⟨⟨_, _, _, Tryz.underlying107⟩, by kernel_rfl⟩
def ti108 : TI := ⟨.func, .nilFunc, 1, 8⟩
theorem tok108 : TIok Tryz.prog 108 ti108 := ⟨⟨_, _, _, Tryz.underlying108⟩, by kernel_rfl⟩
def ti109 : TI := ⟨.func, .nilFunc, 1, 8⟩
theorem tok109 : TIok Tryz.prog 109 ti109 := ⟨⟨_, _, _, Tryz.underlying109⟩, by kernel_rfl⟩
def ti110 : TI := ⟨.slice 5, .slice none 0 0, 1, 24⟩
theorem tok110 : TIok Tryz.prog 110 ti110 := ⟨Tryz.underlying110, by kernel_rfl⟩
def ti111 : TI := ⟨.map 9 3, .map none, 1, 8⟩
theorem tok111 : TIok Tryz.prog 111 ti111 := ⟨Tryz.underlying111, by kernel_rfl⟩
def ti112 : TI := ⟨.func, .nilFunc, 1, 8⟩
theorem tok112 : TIok Tryz.prog 112 ti112 := ⟨⟨_, _, _, Tryz.underlying112⟩, by kernel_rfl⟩
def ti113 : TI := ⟨.int .u64, .int .u64 0, 1, 8⟩
theorem tok113 : TIok Tryz.prog 113 ti113 := ⟨Tryz.underlying113, by kernel_rfl⟩
def ti115 : TI := ⟨.func, .nilFunc, 1, 8⟩
theorem tok115 : TIok Tryz.prog 115 ti115 := ⟨⟨_, _, _, Tryz.underlying115⟩, by kernel_rfl⟩
def ti116 : TI := ⟨.func, .nilFunc, 1, 8⟩
theorem tok116 : TIok Tryz.prog 116 ti116 := ⟨⟨_, _, _, Tryz.underlying116⟩, by kernel_rfl⟩
def ti117 : TI := ⟨.func, .nilFunc, 1, 8⟩
theorem tok117 : TIok Tryz.prog 117 ti117 := ⟨⟨_, _, _, Tryz.underlying117⟩, by kernel_rfl⟩
def ti118 : TI := ⟨.func, .nilFunc, 1, 8⟩
theorem tok118 : TIok Tryz.prog 118 ti118 := ⟨⟨_, _, _, Tryz.underlying118⟩, by kernel_rfl⟩
def ti119 : TI := ⟨.func, .nilFunc, 1, 8⟩
theorem tok119 : TIok Tryz.prog 119 ti119 := ⟨⟨_, _, _, Tryz.underlying119⟩, by kernel_rfl⟩
def ti120 : TI := ⟨.func, .nilFunc, 1, 8⟩
theorem tok120 : TIok Tryz.prog 120 ti120 := ⟨⟨_, _, _, Tryz.underlying120⟩, by kernel_rfl⟩
def ti121 : TI := ⟨.int .u64, .int .u64 0, 1, 8⟩
theorem tok121 : TIok Tryz.prog 121 ti121 := ⟨Tryz.underlying121, by kernel_rfl⟩
def ti122 : TI := ⟨.func, .nilFunc, 1, 8⟩
theorem tok122 : TIok Tryz.prog 122 ti122 := ⟨⟨_, _, _, Tryz.underlying122⟩, by kernel_rfl⟩
def ti123 : TI := ⟨.func, .nilFunc, 1, 8⟩
theorem tok123 : TIok Tryz.prog 123 ti123 := ⟨⟨_, _, _, Tryz.underlying123⟩, by kernel_rfl⟩
def ti124 : TI := ⟨.func, .nilFunc, 1, 8⟩
theorem tok124 : TIok Tryz.prog 124 ti124 := ⟨⟨_, _, _, Tryz.underlying124⟩, by kernel_rfl⟩
def ti125 : TI := ⟨.func, .nilFunc, 1, 8⟩
theorem tok125 : TIok Tryz.prog 125 ti125 := ⟨⟨_, _, _, Tryz.underlying125⟩, by kernel_rfl⟩
def ti126 : TI := ⟨.func, .nilFunc, 1, 8⟩
theorem tok126 : TIok Tryz.prog 126 ti126 := ⟨⟨_, _, _, Tryz.underlying126⟩, by kernel_rfl⟩
def ti127 : TI := ⟨.int .i64, .int .i64 0, 1, 8⟩
theorem tok127 : TIok Tryz.prog 127 ti127 := ⟨Tryz.underlying127, by kernel_rfl⟩
def ti129 : TI := ⟨.func, .nilFunc, 1, 8⟩
theorem tok129 : TIok Tryz.prog 129 ti129 := ⟨⟨_, _, _, Tryz.underlying129⟩, by kernel_rfl⟩
def ti130 : TI := ⟨.func, .nilFunc, 1, 8⟩
theorem tok130 : TIok Tryz.prog 130 ti130 := ⟨⟨_, _, _, Tryz.underlying130⟩, by kernel_rfl⟩
def ti131 : TI := ⟨.func, .nilFunc, 1, 8⟩
theorem tok131 : TIok Tryz.prog 131 ti131 := ⟨⟨_, _, _, Tryz.underlying131⟩, by kernel_rfl⟩
def ti132 : TI := ⟨.func, .nilFunc, 1, 8⟩
theorem tok132 : TIok Tryz.prog 132 ti132 := ⟨⟨_, _, _, Tryz.underlying132⟩, by kernel_rfl⟩
def ti133 : TI := ⟨.func, .nilFunc, 1, 8⟩
theorem tok133 : TIok Tryz.prog 133 ti133 := ⟨⟨_, _, _, Tryz.underlying133⟩, by kernel_rfl⟩
def ti134 : TI := ⟨.int .u32, .int .u32 0, 1, 4⟩
theorem tok134 : TIok Tryz.prog 134 ti134 := ⟨Tryz.underlying134, by kernel_rfl⟩
def ti135 : TI := ⟨.func, .nilFunc, 1, 8⟩
theorem tok135 : TIok Tryz.prog 135 ti135 := ⟨⟨_, _, _, Tryz.underlying135⟩, by kernel_rfl⟩
def ti136 : TI := ⟨.slice 22, .slice none 0 0, 1, 24⟩
theorem tok136 : TIok Tryz.prog 136 ti136 := ⟨Tryz.underlying136, by kernel_rfl⟩
def ti137 : TI := ⟨.func, .nilFunc, 1, 8⟩
theorem tok137 : TIok Tryz.prog 137 ti137 := ⟨⟨_, _, _, Tryz.underlying137⟩, by kernel_rfl⟩
def ti138 : TI := ⟨.int .u64, .int .u64 0, 1, 8⟩
theorem tok138 : TIok Tryz.prog 138 ti138 := ⟨Tryz.underlying138, by kernel_rfl⟩
def ti139 : TI := ⟨.func, .nilFunc, 1, 8⟩
theorem tok139 : TIok Tryz.prog 139 ti139 := ⟨⟨_, _, _, Tryz.underlying139⟩, by kernel_rfl⟩
def ti140 : TI := ⟨.func, .nilFunc, 1, 8⟩
theorem tok140 : TIok Tryz.prog 140 ti140 := ⟨⟨_, _, _, Tryz.underlying140⟩, by kernel_rfl⟩
def ti141 : TI := ⟨.func, .nilFunc, 1, 8⟩
theorem tok141 : TIok Tryz.prog 141 ti141 := ⟨⟨_, _, _, Tryz.underlying141⟩, by kernel_rfl⟩
def ti142 : TI := ⟨.pointer 3, .pointer none, 1, 8⟩
theorem tok142 : TIok Tryz.prog 142 ti142 := ⟨Tryz.underlying142, by kernel_rfl⟩
def ti143 : TI := ⟨.func, .nilFunc, 1, 8⟩
theorem tok143 : TIok Tryz.prog 143 ti143 := ⟨⟨_, _, _, Tryz.underlying143⟩, by kernel_rfl⟩
def ti144 : TI := ⟨.pointer 138, .pointer none, 1, 8⟩
theorem tok144 : TIok Tryz.prog 144 ti144 := ⟨Tryz.underlying144, by kernel_rfl⟩
def ti146 : TI := ⟨.func, .nilFunc, 1, 8⟩
theorem tok146 : TIok Tryz.prog 146 ti146 := ⟨⟨_, _, _, Tryz.underlying146⟩, by kernel_rfl⟩
def ti147 : TI := ⟨.func, .nilFunc, 1, 8⟩
theorem tok147 : TIok Tryz.prog 147 ti147 := ⟨⟨_, _, _, Tryz.underlying147⟩, by kernel_rfl⟩
def ti148 : TI := ⟨.func, .nilFunc, 1, 8⟩
theorem tok148 : TIok Tryz.prog 148 ti148 := ⟨⟨_, _, _, Tryz.underlying148⟩, by kernel_rfl⟩
def ti149 : TI := ⟨.func, .nilFunc, 1, 8⟩
theorem tok149 : TIok Tryz.prog 149 ti149 := ⟨⟨_, _, _, Tryz.underlying149⟩, by kernel_rfl⟩
def ti151 : TI := ⟨.func, .nilFunc, 1, 8⟩
theorem tok151 : TIok Tryz.prog 151 ti151 := ⟨⟨_, _, _, Tryz.underlying151⟩, by kernel_rfl⟩
def ti152 : TI := ⟨.func, .nilFunc, 1, 8⟩
theorem tok152 : TIok Tryz.prog 152 ti152 := ⟨⟨_, _, _, Tryz.underlying152⟩, by kernel_rfl⟩
def ti153 : TI := ⟨.struct [(0, 17), (1, 17), (2, 17), (3, 9)], .agg #[.pointer none, .pointer none, .pointer none, .string ⟨#[]⟩], 4, 40⟩
theorem tok153 : TIok Tryz.prog 153 ti153 := ⟨⟨_, Tryz.underlying153, by kernel_rfl⟩, by kernel_rfl⟩
def ti154 : TI := ⟨.struct [(0, 17), (1, 17), (2, 17), (3, 9)], .agg #[.pointer none, .pointer none, .pointer none, .string ⟨#[]⟩], 4, 40⟩
theorem tok154 : TIok Tryz.prog 154 ti154 := ⟨⟨_, Tryz.underlying154, by kernel_rfl⟩, by kernel_rfl⟩
def ti155 : TI := ⟨.array 0 16, .agg #[], 0, 0⟩
theorem tok155 : TIok Tryz.prog 155 ti155 := ⟨Tryz.underlying155, by kernel_rfl⟩
def ti156 : TI := ⟨.struct [(0, 155)], .agg #[], 0, 0⟩
theorem tok156 : TIok Tryz.prog 156 ti156 := ⟨⟨_, Tryz.underlying156, by kernel_rfl⟩, by kernel_rfl⟩
def ti157 : TI := ⟨.struct [(0, 155)], .agg #[], 0, 0⟩
theorem tok157 : TIok Tryz.prog 157 ti157 := ⟨⟨_, Tryz.underlying157, by kernel_rfl⟩, by kernel_rfl⟩
def ti158 : TI := ⟨.int .u8, .int .u8 0, 1, 1⟩
theorem tok158 : TIok Tryz.prog 158 ti158 := ⟨Tryz.underlying158, by kernel_rfl⟩
def ti159 : TI := ⟨.int .u8, .int .u8 0, 1, 1⟩
theorem tok159 : TIok Tryz.prog 159 ti159 := ⟨Tryz.underlying159, by kernel_rfl⟩
def ti160 : TI := ⟨.func, .nilFunc, 1, 8⟩
theorem tok160 : TIok Tryz.prog 160 ti160 := ⟨⟨_, _, _, Tryz.underlying160⟩, by kernel_rfl⟩
def ti161 : TI := ⟨.pointer 5, .pointer none, 1, 8⟩
theorem tok161 : TIok Tryz.prog 161 ti161 := ⟨Tryz.underlying161, by kernel_rfl⟩
def ti162 : TI := ⟨.int .i32, .int .i32 0, 1, 4⟩
theorem tok162 : TIok Tryz.prog 162 ti162 := ⟨Tryz.underlying162, by kernel_rfl⟩
def ti163 : TI := ⟨.int .i32, .int .i32 0, 1, 4⟩
theorem tok163 : TIok Tryz.prog 163 ti163 := ⟨Tryz.underlying163, by kernel_rfl⟩
def ti164 : TI := ⟨.struct [(0, 12), (1, 12), (2, 134), (3, 158), (4, 5), (5, 5), (6, 159), (7, 160), (8, 161), (9, 162), (10, 163)], .agg #[.int .u64 0, .int .u64 0, .int .u32 0, .int .u8 0, .int .u8 0, .int .u8 0, .int .u8 0, .nilFunc, .pointer none, .int .i32 0, .int .i32 0], 11, 48⟩
theorem tok164 : TIok Tryz.prog 164 ti164 := ⟨⟨_, Tryz.underlying164, by kernel_rfl⟩, by kernel_rfl⟩
def ti165 : TI := ⟨.struct [(0, 12), (1, 12), (2, 134), (3, 158), (4, 5), (5, 5), (6, 159), (7, 160), (8, 161), (9, 162), (10, 163)], .agg #[.int .u64 0, .int .u64 0, .int .u32 0, .int .u8 0, .int .u8 0, .int .u8 0, .int .u8 0, .nilFunc, .pointer none, .int .i32 0, .int .i32 0], 11, 48⟩
theorem tok165 : TIok Tryz.prog 165 ti165 := ⟨⟨_, Tryz.underlying165, by kernel_rfl⟩, by kernel_rfl⟩
def tiAll : Nat → Option TI
  | 1 => some ti1
  | 2 => some ti2
  | 3 => some ti3
  | 4 => some ti4
  | 5 => some ti5
  | 6 => some ti6
  | 7 => some ti7
  | 8 => some ti8
  | 9 => some ti9
  | 10 => some ti10
  | 11 => some ti11
  | 12 => some ti12
  | 13 => some ti13
  | 14 => some ti14
  | 15 => some ti15
  | 16 => some ti16
  | 17 => some ti17
  | 18 => some ti18
  | 19 => some ti19
  | 20 => some ti20
  | 21 => some ti21
  | 22 => some ti22
  | 23 => some ti23
  | 24 => some ti24
  | 25 => some ti25
  | 27 => some ti27
  | 28 => some ti28
  | 29 => some ti29
  | 30 => some ti30
  | 31 => some ti31
  | 33 => some ti33
  | 34 => some ti34
  | 36 => some ti36
  | 38 => some ti38
  | 39 => some ti39
  | 40 => some ti40
  | 42 => some ti42
  | 44 => some ti44
  | 45 => some ti45
  | 46 => some ti46
  | 48 => some ti48
  | 50 => some ti50
  | 52 => some ti52
  | 53 => some ti53
  | 54 => some ti54
  | 55 => some ti55
  | 56 => some ti56
  | 57 => some ti57
  | 58 => some ti58
  | 59 => some ti59
  | 60 => some ti60
  | 61 => some ti61
  | 63 => some ti63
  | 64 => some ti64
  | 65 => some ti65
  | 67 => some ti67
  | 68 => some ti68
  | 69 => some ti69
  | 70 => some ti70
  | 71 => some ti71
  | 73 => some ti73
  | 74 => some ti74
  | 75 => some ti75
  | 76 => some ti76
  | 77 => some ti77
  | 79 => some ti79
  | 80 => some ti80
  | 81 => some ti81
  | 82 => some ti82
  | 83 => some ti83
  | 84 => some ti84
  | 85 => some ti85
  | 86 => some ti86
  | 87 => some ti87
  | 88 => some ti88
  | 89 => some ti89
  | 90 => some ti90
  | 91 => some ti91
  | 92 => some ti92
  | 93 => some ti93
  | 95 => some ti95
  | 96 => some ti96
  | 98 => some ti98
  | 99 => some ti99
  | 100 => some ti100
  | 101 => some ti101
  | 102 => some ti102
  | 103 => some ti103
  | 104 => some ti104
  | 105 => some ti105
  | 106 => some ti106
  | 107 => some ti107
  | 108 => some ti108
  | 109 => some ti109
  | 110 => some ti110
  | 111 => some ti111
  | 112 => some ti112
  | 113 => some ti113
  | 115 => some ti115
  | 116 => some ti116
  | 117 => some ti117
  | 118 => some ti118
  | 119 => some ti119
  | 120 => some ti120
  | 121 => some ti121
  | 122 => some ti122
  | 123 => some ti123
  | 124 => some ti124
  | 125 => some ti125
  | 126 => some ti126
  | 127 => some ti127
  | 129 => some ti129
  | 130 => some ti130
  | 131 => some ti131
  | 132 => some ti132
  | 133 => some ti133
  | 134 => some ti134
  | 135 => some ti135
  | 136 => some ti136
  | 137 => some ti137
  | 138 => some ti138
  | 139 => some ti139
  | 140 => some ti140
  | 141 => some ti141
  | 142 => some ti142
  | 143 => some ti143
  | 144 => some ti144
  | 146 => some ti146
  | 147 => some ti147
  | 148 => some ti148
  | 149 => some ti149
  | 151 => some ti151
  | 152 => some ti152
  | 153 => some ti153
  | 154 => some ti154
  | 155 => some ti155
  | 156 => some ti156
  | 157 => some ti157
  | 158 => some ti158
  | 159 => some ti159
  | 160 => some ti160
  | 161 => some ti161
  | 162 => some ti162
  | 163 => some ti163
  | 164 => some ti164
  | 165 => some ti165
  | _ => none
instance : TT Tryz.prog where
  ti := tiAll
  ok := by
    intro t i h
    unfold tiAll at h
    split at h
    · simp only [Option.some.injEq] at h; rw [← h]; exact tok1
    · simp only [Option.some.injEq] at h; rw [← h]; exact tok2
    · simp only [Option.some.injEq] at h; rw [← h]; exact tok3
    · simp only [Option.some.injEq] at h; rw [← h]; exact tok4
    · simp only [Option.some.injEq] at h; rw [← h]; exact tok5
    · simp only [Option.some.injEq] at h; rw [← h]; exact tok6
    · simp only [Option.some.injEq] at h; rw [← h]; exact tok7
    · simp only [Option.some.injEq] at h; rw [← h]; exact tok8
    · simp only [Option.some.injEq] at h; rw [← h]; exact tok9
    · simp only [Option.some.injEq] at h; rw [← h]; exact tok10
    · simp only [Option.some.injEq] at h; rw [← h]; exact tok11
    · simp only [Option.some.injEq] at h; rw [← h]; exact tok12
    · simp only [Option.some.injEq] at h; rw [← h]; exact tok13
    · simp only [Option.some.injEq] at h; rw [← h]; exact tok14
    · simp only [Option.some.injEq] at h; rw [← h]; exact tok15
    · simp only [Option.some.injEq] at h; rw [← h]; exact tok16
    · simp only [Option.some.injEq] at h; rw [← h]; exact tok17
    · simp only [Option.some.injEq] at h; rw [← h]; exact tok18
    · simp only [Option.some.injEq] at h; rw [← h]; exact tok19
    · simp only [Option.some.injEq] at h; rw [← h]; exact tok20
    · simp only [Option.some.injEq] at h; rw [← h]; exact tok21
    · simp only [Option.some.injEq] at h; rw [← h]; exact tok22
    · simp only [Option.some.injEq] at h; rw [← h]; exact tok23
    · simp only [Option.some.injEq] at h; rw [← h]; exact tok24
    · simp only [Option.some.injEq] at h; rw [← h]; exact tok25
    · simp only [Option.some.injEq] at h; rw [← h]; exact tok27
    · simp only [Option.some.injEq] at h; rw [← h]; exact tok28
    · simp only [Option.some.injEq] at h; rw [← h]; exact tok29
    · simp only [Option.some.injEq] at h; rw [← h]; exact tok30
    · simp only [Option.some.injEq] at h; rw [← h]; exact tok31
    · simp only [Option.some.injEq] at h; rw [← h]; exact tok33
    · simp only [Option.some.injEq] at h; rw [← h]; exact tok34
    · simp only [Option.some.injEq] at h; rw [← h]; exact tok36
    · simp only [Option.some.injEq] at h; rw [← h]; exact tok38
    · simp only [Option.some.injEq] at h; rw [← h]; exact tok39
    · simp only [Option.some.injEq] at h; rw [← h]; exact tok40
    · simp only [Option.some.injEq] at h; rw [← h]; exact tok42
    · simp only [Option.some.injEq] at h; rw [← h]; exact tok44
    · simp only [Option.some.injEq] at h; rw [← h]; exact tok45
    · simp only [Option.some.injEq] at h; rw [← h]; exact tok46
    · simp only [Option.some.injEq] at h; rw [← h]; exact tok48
    · simp only [Option.some.injEq] at h; rw [← h]; exact tok50
    · simp only [Option.some.injEq] at h; rw [← h]; exact tok52
    · simp only [Option.some.injEq] at h; rw [← h]; exact tok53
    · simp only [Option.some.injEq] at h; rw [← h]; exact tok54
    · simp only [Option.some.injEq] at h; rw [← h]; exact tok55
    · simp only [Option.some.injEq] at h; rw [← h]; exact tok56
    · simp only [Option.some.injEq] at h; rw [← h]; exact tok57
    · simp only [Option.some.injEq] at h; rw [← h]; exact tok58
    · simp only [Option.some.injEq] at h; rw [← h]; exact tok59
    · simp only [Option.some.injEq] at h; rw [← h]; exact tok60
    · simp only [Option.some.injEq] at h; rw [← h]; exact tok61
    · simp only [Option.some.injEq] at h; rw [← h]; exact tok63
    · simp only [Option.some.injEq] at h; rw [← h]; exact tok64
    · simp only [Option.some.injEq] at h; rw [← h]; exact tok65
    · simp only [Option.some.injEq] at h; rw [← h]; exact tok67
    · simp only [Option.some.injEq] at h; rw [← h]; exact tok68
    · simp only [Option.some.injEq] at h; rw [← h]; exact tok69
    · simp only [Option.some.injEq] at h; rw [← h]; exact tok70
    · simp only [Option.some.injEq] at h; rw [← h]; exact tok71
    · simp only [Option.some.injEq] at h; rw [← h]; exact tok73
    · simp only [Option.some.injEq] at h; rw [← h]; exact tok74
    · simp only [Option.some.injEq] at h; rw [← h]; exact tok75
    · simp only [Option.some.injEq] at h; rw [← h]; exact tok76
    · simp only [Option.some.injEq] at h; rw [← h]; exact tok77
    · simp only [Option.some.injEq] at h; rw [← h]; exact tok79
    · simp only [Option.some.injEq] at h; rw [← h]; exact tok80
    · simp only [Option.some.injEq] at h; rw [← h]; exact tok81
    · simp only [Option.some.injEq] at h; rw [← h]; exact tok82
    · simp only [Option.some.injEq] at h; rw [← h]; exact tok83
    · simp only [Option.some.injEq] at h; rw [← h]; exact tok84
    · simp only [Option.some.injEq] at h; rw [← h]; exact tok85
    · simp only [Option.some.injEq] at h; rw [← h]; exact tok86
    · simp only [Option.some.injEq] at h; rw [← h]; exact tok87
    · simp only [Option.some.injEq] at h; rw [← h]; exact tok88
    · simp only [Option.some.injEq] at h; rw [← h]; exact tok89
    · simp only [Option.some.injEq] at h; rw [← h]; exact tok90
    · simp only [Option.some.injEq] at h; rw [← h]; exact tok91
    · simp only [Option.some.injEq] at h; rw [← h]; exact tok92
    · simp only [Option.some.injEq] at h; rw [← h]; exact tok93
    · simp only [Option.some.injEq] at h; rw [← h]; exact tok95
    · simp only [Option.some.injEq] at h; rw [← h]; exact tok96
    · simp only [Option.some.injEq] at h; rw [← h]; exact tok98
    · simp only [Option.some.injEq] at h; rw [← h]; exact tok99
    · simp only [Option.some.injEq] at h; rw [← h]; exact tok100
    · simp only [Option.some.injEq] at h; rw [← h]; exact tok101
    · simp only [Option.some.injEq] at h; rw [← h]; exact tok102
    · simp only [Option.some.injEq] at h; rw [← h]; exact tok103
    · simp only [Option.some.injEq] at h; rw [← h]; exact tok104
    · simp only [Option.some.injEq] at h; rw [← h]; exact tok105
    · simp only [Option.some.injEq] at h; rw [← h]; exact tok106
    · simp only [Option.some.injEq] at h; rw [← h]; exact tok107
    · simp only [Option.some.injEq] at h; rw [← h]; exact tok108
    · simp only [Option.some.injEq] at h; rw [← h]; exact tok109
    · simp only [Option.some.injEq] at h; rw [← h]; exact tok110
    · simp only [Option.some.injEq] at h; rw [← h]; exact tok111
    · simp only [Option.some.injEq] at h; rw [← h]; exact tok112
    · simp only [Option.some.injEq] at h; rw [← h]; exact tok113
    · simp only [Option.some.injEq] at h; rw [← h]; exact tok115
    · simp only [Option.some.injEq] at h; rw [← h]; exact tok116
    · simp only [Option.some.injEq] at h; rw [← h]; exact tok117
    · simp only [Option.some.injEq] at h; rw [← h]; exact tok118
    · simp only [Option.some.injEq] at h; rw [← h]; exact tok119
    · simp only [Option.some.injEq] at h; rw [← h]; exact tok120
    · simp only [Option.some.injEq] at h; rw [← h]; exact tok121
    · simp only [Option.some.injEq] at h; rw [← h]; exact tok122
    · simp only [Option.some.injEq] at h; rw [← h]; exact tok123
    · simp only [Option.some.injEq] at h; rw [← h]; exact tok124
    · simp only [Option.some.injEq] at h; rw [← h]; exact tok125
    · simp only [Option.some.injEq] at h; rw [← h]; exact tok126
    · simp only [Option.some.injEq] at h; rw [← h]; exact tok127
    · simp only [Option.some.injEq] at h; rw [← h]; exact tok129
    · simp only [Option.some.injEq] at h; rw [← h]; exact tok130
    · simp only [Option.some.injEq] at h; rw [← h]; exact tok131
    · simp only [Option.some.injEq] at h; rw [← h]; exact tok132
    · simp only [Option.some.injEq] at h; rw [← h]; exact tok133
    · simp only [Option.some.injEq] at h; rw [← h]; exact tok134
    · simp only [Option.some.injEq] at h; rw [← h]; exact tok135
    · simp only [Option.some.injEq] at h; rw [← h]; exact tok136
    · simp only [Option.some.injEq] at h; rw [← h]; exact tok137
    · simp only [Option.some.injEq] at h; rw [← h]; exact tok138
    · simp only [Option.some.injEq] at h; rw [← h]; exact tok139
    · simp only [Option.some.injEq] at h; rw [← h]; exact tok140
    · simp only [Option.some.injEq] at h; rw [← h]; exact tok141
    · simp only [Option.some.injEq] at h; rw [← h]; exact tok142
    · simp only [Option.some.injEq] at h; rw [← h]; exact tok143
    · simp only [Option.some.injEq] at h; rw [← h]; exact tok144
    · simp only [Option.some.injEq] at h; rw [← h]; exact tok146
    · simp only [Option.some.injEq] at h; rw [← h]; exact tok147
    · simp only [Option.some.injEq] at h; rw [← h]; exact tok148
    · simp only [Option.some.injEq] at h; rw [← h]; exact tok149
    · simp only [Option.some.injEq] at h; rw [← h]; exact tok151
    · simp only [Option.some.injEq] at h; rw [← h]; exact tok152
    · simp only [Option.some.injEq] at h; rw [← h]; exact tok153
    · simp only [Option.some.injEq] at h; rw [← h]; exact tok154
    · simp only [Option.some.injEq] at h; rw [← h]; exact tok155
    · simp only [Option.some.injEq] at h; rw [← h]; exact tok156
    · simp only [Option.some.injEq] at h; rw [← h]; exact tok157
    · simp only [Option.some.injEq] at h; rw [← h]; exact tok158
    · simp only [Option.some.injEq] at h; rw [← h]; exact tok159
    · simp only [Option.some.injEq] at h; rw [← h]; exact tok160
    · simp only [Option.some.injEq] at h; rw [← h]; exact tok161
    · simp only [Option.some.injEq] at h; rw [← h]; exact tok162
    · simp only [Option.some.injEq] at h; rw [← h]; exact tok163
    · simp only [Option.some.injEq] at h; rw [← h]; exact tok164
    · simp only [Option.some.injEq] at h; rw [← h]; exact tok165
    · cases h
theorem mixed : Tryz.prog.follows .mixedOrders = true := by kernel_rfl
theorem ent3 : Ents Tryz.prog 3 := enters_of Tryz.func3 (by kernel_rfl) rfl
theorem ent4 : Ents Tryz.prog 4 := enters_of Tryz.func4 (by kernel_rfl) rfl
theorem ent5 : Ents Tryz.prog 5 := enters_of Tryz.func5 (by kernel_rfl) rfl
theorem ent6 : Ents Tryz.prog 6 := enters_of Tryz.func6 (by kernel_rfl) rfl
theorem ent7 : Ents Tryz.prog 7 := enters_of Tryz.func7 (by kernel_rfl) rfl
theorem ent8 : Ents Tryz.prog 8 := enters_of Tryz.func8 (by kernel_rfl) rfl
theorem ent9 : Ents Tryz.prog 9 := enters_of Tryz.func9 (by kernel_rfl) rfl
theorem ent10 : Ents Tryz.prog 10 := enters_of Tryz.func10 (by kernel_rfl) rfl
theorem ent11 : Ents Tryz.prog 11 := enters_of Tryz.func11 (by kernel_rfl) rfl
theorem ent12 : Ents Tryz.prog 12 := enters_of Tryz.func12 (by kernel_rfl) rfl
theorem ent13 : Ents Tryz.prog 13 := enters_of Tryz.func13 (by kernel_rfl) rfl
theorem ent14 : Ents Tryz.prog 14 := enters_of Tryz.func14 (by kernel_rfl) rfl
theorem ent15 : Ents Tryz.prog 15 := enters_of Tryz.func15 (by kernel_rfl) rfl
theorem ent16 : Ents Tryz.prog 16 := enters_of Tryz.func16 (by kernel_rfl) rfl
theorem ent17 : Ents Tryz.prog 17 := enters_of Tryz.func17 (by kernel_rfl) rfl
theorem ent18 : Ents Tryz.prog 18 := enters_of Tryz.func18 (by kernel_rfl) rfl
theorem ent19 : Ents Tryz.prog 19 := enters_of Tryz.func19 (by kernel_rfl) rfl
theorem ent20 : Ents Tryz.prog 20 := enters_of Tryz.func20 (by kernel_rfl) rfl
theorem ent21 : Ents Tryz.prog 21 := enters_of Tryz.func21 (by kernel_rfl) rfl
theorem ent22 : Ents Tryz.prog 22 := enters_of Tryz.func22 (by kernel_rfl) rfl
theorem ent23 : Ents Tryz.prog 23 := enters_of Tryz.func23 (by kernel_rfl) rfl
theorem ent24 : Ents Tryz.prog 24 := enters_of Tryz.func24 (by kernel_rfl) rfl
theorem ent25 : Ents Tryz.prog 25 := enters_of Tryz.func25 (by kernel_rfl) rfl
theorem ent26 : Ents Tryz.prog 26 := enters_of Tryz.func26 (by kernel_rfl) rfl
theorem ent27 : Ents Tryz.prog 27 := enters_of Tryz.func27 (by kernel_rfl) rfl
theorem ent28 : Ents Tryz.prog 28 := enters_of Tryz.func28 (by kernel_rfl) rfl
theorem ent29 : Ents Tryz.prog 29 := enters_of Tryz.func29 (by kernel_rfl) rfl
theorem ent30 : Ents Tryz.prog 30 := enters_of Tryz.func30 (by kernel_rfl) rfl
theorem ent31 : Ents Tryz.prog 31 := enters_of Tryz.func31 (by kernel_rfl) rfl
theorem ent32 : Ents Tryz.prog 32 := enters_of Tryz.func32 (by kernel_rfl) rfl
theorem ent33 : Ents Tryz.prog 33 := enters_of Tryz.func33 (by kernel_rfl) rfl
theorem ent34 : Ents Tryz.prog 34 := enters_of Tryz.func34 (by kernel_rfl) rfl
theorem ent35 : Ents Tryz.prog 35 := enters_of Tryz.func35 (by kernel_rfl) rfl
theorem ent36 : Ents Tryz.prog 36 := enters_of Tryz.func36 (by kernel_rfl) rfl
theorem ent37 : Ents Tryz.prog 37 := enters_of Tryz.func37 (by kernel_rfl) rfl
theorem ent38 : Ents Tryz.prog 38 := enters_of Tryz.func38 (by kernel_rfl) rfl
theorem ent39 : Ents Tryz.prog 39 := enters_of Tryz.func39 (by kernel_rfl) rfl
theorem ent40 : Ents Tryz.prog 40 := enters_of Tryz.func40 (by kernel_rfl) rfl
theorem ent41 : Ents Tryz.prog 41 := enters_of Tryz.func41 (by kernel_rfl) rfl
theorem ent42 : Ents Tryz.prog 42 := enters_of Tryz.func42 (by kernel_rfl) rfl
theorem ent43 : Ents Tryz.prog 43 := enters_of Tryz.func43 (by kernel_rfl) rfl
theorem ent44 : Ents Tryz.prog 44 := enters_of Tryz.func44 (by kernel_rfl) rfl
theorem ent45 : Ents Tryz.prog 45 := enters_of Tryz.func45 (by kernel_rfl) rfl
theorem ent46 : Ents Tryz.prog 46 := enters_of Tryz.func46 (by kernel_rfl) rfl
theorem ent47 : Ents Tryz.prog 47 := enters_of Tryz.func47 (by kernel_rfl) rfl
theorem ent48 : Ents Tryz.prog 48 := enters_of Tryz.func48 (by kernel_rfl) rfl
theorem ent49 : Ents Tryz.prog 49 := enters_of Tryz.func49 (by kernel_rfl) rfl
theorem ent50 : Ents Tryz.prog 50 := enters_of Tryz.func50 (by kernel_rfl) rfl
theorem ent51 : Ents Tryz.prog 51 := enters_of Tryz.func51 (by kernel_rfl) rfl
theorem ent52 : Ents Tryz.prog 52 := enters_of Tryz.func52 (by kernel_rfl) rfl
theorem ent53 : Ents Tryz.prog 53 := enters_of Tryz.func53 (by kernel_rfl) rfl
theorem ent54 : Ents Tryz.prog 54 := enters_of Tryz.func54 (by kernel_rfl) rfl
theorem ent55 : Ents Tryz.prog 55 := enters_of Tryz.func55 (by kernel_rfl) rfl
theorem ent56 : Ents Tryz.prog 56 := enters_of Tryz.func56 (by kernel_rfl) rfl
theorem ent57 : Ents Tryz.prog 57 := enters_of Tryz.func57 (by kernel_rfl) rfl
theorem ent58 : Ents Tryz.prog 58 := enters_of Tryz.func58 (by kernel_rfl) rfl
theorem ent59 : Ents Tryz.prog 59 := enters_of Tryz.func59 (by kernel_rfl) rfl
theorem ent60 : Ents Tryz.prog 60 := enters_of Tryz.func60 (by kernel_rfl) rfl
theorem ent61 : Ents Tryz.prog 61 := enters_of Tryz.func61 (by kernel_rfl) rfl
theorem ent62 : Ents Tryz.prog 62 := enters_of Tryz.func62 (by kernel_rfl) rfl
theorem ent63 : Ents Tryz.prog 63 := enters_of Tryz.func63 (by kernel_rfl) rfl
theorem ent64 : Ents Tryz.prog 64 := enters_of Tryz.func64 (by kernel_rfl) rfl
theorem ent65 : Ents Tryz.prog 65 := enters_of Tryz.func65 (by kernel_rfl) rfl
theorem ent66 : Ents Tryz.prog 66 := enters_of Tryz.func66 (by kernel_rfl) rfl
theorem ent67 : Ents Tryz.prog 67 := enters_of Tryz.func67 (by kernel_rfl) rfl
theorem ent68 : Ents Tryz.prog 68 := enters_of Tryz.func68 (by kernel_rfl) rfl
theorem ent69 : Ents Tryz.prog 69 := enters_of Tryz.func69 (by kernel_rfl) rfl
theorem ent70 : Ents Tryz.prog 70 := enters_of Tryz.func70 (by kernel_rfl) rfl
theorem ent71 : Ents Tryz.prog 71 := enters_of Tryz.func71 (by kernel_rfl) rfl
theorem ent72 : Ents Tryz.prog 72 := enters_of Tryz.func72 (by kernel_rfl) rfl
theorem ent73 : Ents Tryz.prog 73 := enters_of Tryz.func73 (by kernel_rfl) rfl
theorem ent74 : Ents Tryz.prog 74 := enters_of Tryz.func74 (by kernel_rfl) rfl
theorem ent75 : Ents Tryz.prog 75 := enters_of Tryz.func75 (by kernel_rfl) rfl
theorem ent76 : Ents Tryz.prog 76 := enters_of Tryz.func76 (by kernel_rfl) rfl
theorem ent77 : Ents Tryz.prog 77 := enters_of Tryz.func77 (by kernel_rfl) rfl
theorem ent78 : Ents Tryz.prog 78 := enters_of Tryz.func78 (by kernel_rfl) rfl
theorem ent79 : Ents Tryz.prog 79 := enters_of Tryz.func79 (by kernel_rfl) rfl
theorem ent80 : Ents Tryz.prog 80 := enters_of Tryz.func80 (by kernel_rfl) rfl
theorem ent82 : Ents Tryz.prog 82 := enters_of Tryz.func82 (by kernel_rfl) rfl
theorem ent83 : Ents Tryz.prog 83 := enters_of Tryz.func83 (by kernel_rfl) rfl
theorem ent84 : Ents Tryz.prog 84 := enters_of Tryz.func84 (by kernel_rfl) rfl
theorem ent85 : Ents Tryz.prog 85 := enters_of Tryz.func85 (by kernel_rfl) rfl
theorem ent86 : Ents Tryz.prog 86 := enters_of Tryz.func86 (by kernel_rfl) rfl
theorem ent87 : Ents Tryz.prog 87 := enters_of Tryz.func87 (by kernel_rfl) rfl
theorem ent88 : Ents Tryz.prog 88 := enters_of Tryz.func88 (by kernel_rfl) rfl
theorem ent89 : Ents Tryz.prog 89 := enters_of Tryz.func89 (by kernel_rfl) rfl
theorem ent90 : Ents Tryz.prog 90 := enters_of Tryz.func90 (by kernel_rfl) rfl
theorem ent91 : Ents Tryz.prog 91 := enters_of Tryz.func91 (by kernel_rfl) rfl
theorem ent92 : Ents Tryz.prog 92 := enters_of Tryz.func92 (by kernel_rfl) rfl
theorem ent93 : Ents Tryz.prog 93 := enters_of Tryz.func93 (by kernel_rfl) rfl
theorem ent94 : Ents Tryz.prog 94 := enters_of Tryz.func94 (by kernel_rfl) rfl
theorem ent95 : Ents Tryz.prog 95 := enters_of Tryz.func95 (by kernel_rfl) rfl
theorem ent96 : Ents Tryz.prog 96 := enters_of Tryz.func96 (by kernel_rfl) rfl
theorem ent97 : Ents Tryz.prog 97 := enters_of Tryz.func97 (by kernel_rfl) rfl
theorem ent98 : Ents Tryz.prog 98 := enters_of Tryz.func98 (by kernel_rfl) rfl
theorem ent99 : Ents Tryz.prog 99 := enters_of Tryz.func99 (by kernel_rfl) rfl
theorem ent100 : Ents Tryz.prog 100 := enters_of Tryz.func100 (by kernel_rfl) rfl
theorem ent101 : Ents Tryz.prog 101 := enters_of Tryz.func101 (by kernel_rfl) rfl
theorem ent102 : Ents Tryz.prog 102 := enters_of Tryz.func102 (by kernel_rfl) rfl
theorem ent103 : Ents Tryz.prog 103 := enters_of Tryz.func103 (by kernel_rfl) rfl
theorem ent104 : Ents Tryz.prog 104 := enters_of Tryz.func104 (by kernel_rfl) rfl
theorem ent105 : Ents Tryz.prog 105 := enters_of Tryz.func105 (by kernel_rfl) rfl
theorem ent106 : Ents Tryz.prog 106 := enters_of Tryz.func106 (by kernel_rfl) rfl
theorem ent107 : Ents Tryz.prog 107 := enters_of Tryz.func107 (by kernel_rfl) rfl
theorem ent108 : Ents Tryz.prog 108 := enters_of Tryz.func108 (by kernel_rfl) rfl
theorem ent109 : Ents Tryz.prog 109 := enters_of Tryz.func109 (by kernel_rfl) rfl
theorem ent110 : Ents Tryz.prog 110 := enters_of Tryz.func110 (by kernel_rfl) rfl
theorem ent111 : Ents Tryz.prog 111 := enters_of Tryz.func111 (by kernel_rfl) rfl
theorem ent112 : Ents Tryz.prog 112 := enters_of Tryz.func112 (by kernel_rfl) rfl
theorem ent113 : Ents Tryz.prog 113 := enters_of Tryz.func113 (by kernel_rfl) rfl
theorem ent114 : Ents Tryz.prog 114 := enters_of Tryz.func114 (by kernel_rfl) rfl
theorem ent116 : Ents Tryz.prog 116 := enters_of Tryz.func116 (by kernel_rfl) rfl
theorem ent117 : Ents Tryz.prog 117 := enters_of Tryz.func117 (by kernel_rfl) rfl
theorem ent119 : Ents Tryz.prog 119 := enters_of Tryz.func119 (by kernel_rfl) rfl
theorem ent120 : Ents Tryz.prog 120 := enters_of Tryz.func120 (by kernel_rfl) rfl
theorem ent121 : Ents Tryz.prog 121 := enters_of Tryz.func121 (by kernel_rfl) rfl
theorem ent122 : Ents Tryz.prog 122 := enters_of Tryz.func122 (by kernel_rfl) rfl
theorem ent123 : Ents Tryz.prog 123 := enters_of Tryz.func123 (by kernel_rfl) rfl
theorem ent124 : Ents Tryz.prog 124 := enters_of Tryz.func124 (by kernel_rfl) rfl
theorem ent125 : Ents Tryz.prog 125 := enters_of Tryz.func125 (by kernel_rfl) rfl
theorem ent126 : Ents Tryz.prog 126 := enters_of Tryz.func126 (by kernel_rfl) rfl
theorem ent127 : Ents Tryz.prog 127 := enters_of Tryz.func127 (by kernel_rfl) rfl
theorem ent128 : Ents Tryz.prog 128 := enters_of Tryz.func128 (by kernel_rfl) rfl
theorem ent130 : Ents Tryz.prog 130 := enters_of Tryz.func130 (by kernel_rfl) rfl
theorem ent131 : Ents Tryz.prog 131 := enters_of Tryz.func131 (by kernel_rfl) rfl
theorem ent133 : Ents Tryz.prog 133 := enters_of Tryz.func133 (by kernel_rfl) rfl
end Go.Proofs.YtoghnhbjdnjghaaGreat
