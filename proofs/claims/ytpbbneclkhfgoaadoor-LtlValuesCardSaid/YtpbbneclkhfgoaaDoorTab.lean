/- The table of the types of this seat's program, and that its functions are entered; made by a program of mine (tab.py) out of the dump's rows; each row is a closed fact that the kernel checks. -/
import Derived.Test.YtpbbneclkhfgoaaDoorMW
import Derived.Test.YtpbbneclkhfgoaaDoorProg
namespace Go.Proofs.YtpbbneclkhfgoaaDoor
open Go.W
set_option maxRecDepth 100000
def ti1 : TI := ⟨.func, .nilFunc, 1, 8⟩
theorem tok1 : TIok Tryd.prog 1 ti1 := ⟨⟨_, _, _, Tryd.underlying1⟩, by kernel_rfl⟩
def ti2 : TI := ⟨.int .i64, .int .i64 0, 1, 8⟩
theorem tok2 : TIok Tryd.prog 2 ti2 := ⟨Tryd.underlying2, by kernel_rfl⟩
def ti3 : TI := ⟨.int .i64, .int .i64 0, 1, 8⟩
theorem tok3 : TIok Tryd.prog 3 ti3 := ⟨Tryd.underlying3, by kernel_rfl⟩
def ti4 : TI := ⟨.bool, .bool false, 1, 1⟩
theorem tok4 : TIok Tryd.prog 4 ti4 := ⟨Tryd.underlying4, by kernel_rfl⟩
def ti5 : TI := ⟨.int .u8, .int .u8 0, 1, 1⟩
theorem tok5 : TIok Tryd.prog 5 ti5 := ⟨Tryd.underlying5, by kernel_rfl⟩
def ti6 : TI := ⟨.int .u8, .int .u8 0, 1, 1⟩
theorem tok6 : TIok Tryd.prog 6 ti6 := ⟨Tryd.underlying6, by kernel_rfl⟩
def ti7 : TI := ⟨.struct [(0, 2), (1, 3), (2, 4), (3, 6)], .agg #[.int .i64 0, .int .i64 0, .bool false, .int .u8 0], 4, 24⟩
theorem tok7 : TIok Tryd.prog 7 ti7 := ⟨⟨_, Tryd.underlying7, by kernel_rfl⟩, by kernel_rfl⟩
def ti8 : TI := ⟨.struct [(0, 2), (1, 3), (2, 4), (3, 6)], .agg #[.int .i64 0, .int .i64 0, .bool false, .int .u8 0], 4, 24⟩
theorem tok8 : TIok Tryd.prog 8 ti8 := ⟨⟨_, Tryd.underlying8, by kernel_rfl⟩, by kernel_rfl⟩
def ti9 : TI := ⟨.string, .string ⟨#[]⟩, 1, 16⟩
theorem tok9 : TIok Tryd.prog 9 ti9 := ⟨Tryd.underlying9, by kernel_rfl⟩
def ti10 : TI := ⟨.string, .string ⟨#[]⟩, 1, 16⟩
theorem tok10 : TIok Tryd.prog 10 ti10 := ⟨Tryd.underlying10, by kernel_rfl⟩
def ti11 : TI := ⟨.string, .string ⟨#[]⟩, 1, 16⟩
theorem tok11 : TIok Tryd.prog 11 ti11 := ⟨Tryd.underlying11, by kernel_rfl⟩
def ti12 : TI := ⟨.int .u64, .int .u64 0, 1, 8⟩
theorem tok12 : TIok Tryd.prog 12 ti12 := ⟨Tryd.underlying12, by kernel_rfl⟩
def ti13 : TI := ⟨.struct [(0, 9), (1, 12)], .agg #[.string ⟨#[]⟩, .int .u64 0], 2, 24⟩
theorem tok13 : TIok Tryd.prog 13 ti13 := ⟨⟨_, Tryd.underlying13, by kernel_rfl⟩, by kernel_rfl⟩
def ti14 : TI := ⟨.struct [(0, 9), (1, 12)], .agg #[.string ⟨#[]⟩, .int .u64 0], 2, 24⟩
theorem tok14 : TIok Tryd.prog 14 ti14 := ⟨⟨_, Tryd.underlying14, by kernel_rfl⟩, by kernel_rfl⟩
def ti15 : TI := ⟨.pointer 164, .pointer none, 1, 8⟩
theorem tok15 : TIok Tryd.prog 15 ti15 := ⟨Tryd.underlying15, by kernel_rfl⟩
def ti16 : TI := ⟨.pointer 167, .pointer none, 1, 8⟩
theorem tok16 : TIok Tryd.prog 16 ti16 := ⟨Tryd.underlying16, by kernel_rfl⟩
def ti17 : TI := ⟨.pointer 177, .pointer none, 1, 8⟩
theorem tok17 : TIok Tryd.prog 17 ti17 := ⟨Tryd.underlying17, by kernel_rfl⟩
def ti18 : TI := ⟨.struct [(0, 17)], .agg #[.pointer none], 1, 8⟩
theorem tok18 : TIok Tryd.prog 18 ti18 := ⟨⟨_, Tryd.underlying18, by kernel_rfl⟩, by kernel_rfl⟩
def ti19 : TI := ⟨.struct [(0, 17)], .agg #[.pointer none], 1, 8⟩
theorem tok19 : TIok Tryd.prog 19 ti19 := ⟨⟨_, Tryd.underlying19, by kernel_rfl⟩, by kernel_rfl⟩
def ti20 : TI := ⟨.iface, .nilIface, 1, 16⟩
theorem tok20 : TIok Tryd.prog 20 ti20 := ⟨⟨_, Tryd.underlying20⟩, by kernel_rfl⟩
def ti21 : TI := ⟨.int .i32, .int .i32 0, 1, 4⟩
theorem tok21 : TIok Tryd.prog 21 ti21 := ⟨Tryd.underlying21, by kernel_rfl⟩
def ti22 : TI := ⟨.slice 3, .slice none 0 0, 1, 24⟩
theorem tok22 : TIok Tryd.prog 22 ti22 := ⟨Tryd.underlying22, by kernel_rfl⟩
def ti23 : TI := ⟨.struct [(0, 22), (1, 22)], .agg #[.slice none 0 0, .slice none 0 0], 2, 48⟩
theorem tok23 : TIok Tryd.prog 23 ti23 := ⟨⟨_, Tryd.underlying23, by kernel_rfl⟩, by kernel_rfl⟩
def ti24 : TI := ⟨.struct [(0, 22), (1, 22)], .agg #[.slice none 0 0, .slice none 0 0], 2, 48⟩
theorem tok24 : TIok Tryd.prog 24 ti24 := ⟨⟨_, Tryd.underlying24, by kernel_rfl⟩, by kernel_rfl⟩
def ti25 : TI := ⟨.func, .nilFunc, 1, 8⟩
theorem tok25 : TIok Tryd.prog 25 ti25 := ⟨⟨_, _, _, Tryd.underlying25⟩, by kernel_rfl⟩
def ti26 : TI := ⟨.func, .nilFunc, 1, 8⟩
theorem tok26 : TIok Tryd.prog 26 ti26 := ⟨⟨_, _, _, Tryd.underlying26⟩, by kernel_rfl⟩
def ti27 : TI := ⟨.int .i64, .int .i64 0, 1, 8⟩
theorem tok27 : TIok Tryd.prog 27 ti27 := ⟨Tryd.underlying27, by kernel_rfl⟩
def ti29 : TI := ⟨.func, .nilFunc, 1, 8⟩
theorem tok29 : TIok Tryd.prog 29 ti29 := ⟨⟨_, _, _, Tryd.underlying29⟩, by kernel_rfl⟩
def ti30 : TI := ⟨.func, .nilFunc, 1, 8⟩
theorem tok30 : TIok Tryd.prog 30 ti30 := ⟨⟨_, _, _, Tryd.underlying30⟩, by kernel_rfl⟩
def ti31 : TI := ⟨.slice 98, .slice none 0 0, 1, 24⟩
theorem tok31 : TIok Tryd.prog 31 ti31 := ⟨Tryd.underlying31, by kernel_rfl⟩
def ti32 : TI := ⟨.slice 98, .slice none 0 0, 1, 24⟩
theorem tok32 : TIok Tryd.prog 32 ti32 := ⟨Tryd.underlying32, by kernel_rfl⟩
def ti34 : TI := ⟨.func, .nilFunc, 1, 8⟩
theorem tok34 : TIok Tryd.prog 34 ti34 := ⟨⟨_, _, _, Tryd.underlying34⟩, by kernel_rfl⟩
def ti35 : TI := ⟨.func, .nilFunc, 1, 8⟩
theorem tok35 : TIok Tryd.prog 35 ti35 := ⟨⟨_, _, _, Tryd.underlying35⟩, by kernel_rfl⟩
def ti36 : TI := ⟨.func, .nilFunc, 1, 8⟩
theorem tok36 : TIok Tryd.prog 36 ti36 := ⟨⟨_, _, _, Tryd.underlying36⟩, by kernel_rfl⟩
def ti37 : TI := ⟨.func, .nilFunc, 1, 8⟩
theorem tok37 : TIok Tryd.prog 37 ti37 := ⟨⟨_, _, _, Tryd.underlying37⟩, by kernel_rfl⟩
def ti39 : TI := ⟨.func, .nilFunc, 1, 8⟩
theorem tok39 : TIok Tryd.prog 39 ti39 := ⟨⟨_, _, _, Tryd.underlying39⟩, by kernel_rfl⟩
def ti40 : TI := ⟨.func, .nilFunc, 1, 8⟩
theorem tok40 : TIok Tryd.prog 40 ti40 := ⟨⟨_, _, _, Tryd.underlying40⟩, by kernel_rfl⟩
def ti41 : TI := ⟨.func, .nilFunc, 1, 8⟩
theorem tok41 : TIok Tryd.prog 41 ti41 := ⟨⟨_, _, _, Tryd.underlying41⟩, by kernel_rfl⟩
def ti42 : TI := ⟨.slice 22, .slice none 0 0, 1, 24⟩
theorem tok42 : TIok Tryd.prog 42 ti42 := ⟨Tryd.underlying42, by kernel_rfl⟩
def ti43 : TI := ⟨.struct [(0, 42), (1, 22)], .agg #[.slice none 0 0, .slice none 0 0], 2, 48⟩
theorem tok43 : TIok Tryd.prog 43 ti43 := ⟨⟨_, Tryd.underlying43, by kernel_rfl⟩, by kernel_rfl⟩
def ti44 : TI := ⟨.struct [(0, 42), (1, 22)], .agg #[.slice none 0 0, .slice none 0 0], 2, 48⟩
theorem tok44 : TIok Tryd.prog 44 ti44 := ⟨⟨_, Tryd.underlying44, by kernel_rfl⟩, by kernel_rfl⟩
def ti45 : TI := ⟨.func, .nilFunc, 1, 8⟩
theorem tok45 : TIok Tryd.prog 45 ti45 := ⟨⟨_, _, _, Tryd.underlying45⟩, by kernel_rfl⟩
def ti46 : TI := ⟨.func, .nilFunc, 1, 8⟩
theorem tok46 : TIok Tryd.prog 46 ti46 := ⟨⟨_, _, _, Tryd.underlying46⟩, by kernel_rfl⟩
def ti47 : TI := ⟨.struct [(0, 4), (1, 22), (2, 22)], .agg #[.bool false, .slice none 0 0, .slice none 0 0], 3, 56⟩
theorem tok47 : TIok Tryd.prog 47 ti47 := ⟨⟨_, Tryd.underlying47, by kernel_rfl⟩, by kernel_rfl⟩
def ti48 : TI := ⟨.struct [(0, 4), (1, 22), (2, 22)], .agg #[.bool false, .slice none 0 0, .slice none 0 0], 3, 56⟩
theorem tok48 : TIok Tryd.prog 48 ti48 := ⟨⟨_, Tryd.underlying48, by kernel_rfl⟩, by kernel_rfl⟩
def ti50 : TI := ⟨.func, .nilFunc, 1, 8⟩
theorem tok50 : TIok Tryd.prog 50 ti50 := ⟨⟨_, _, _, Tryd.underlying50⟩, by kernel_rfl⟩
def ti51 : TI := ⟨.func, .nilFunc, 1, 8⟩
theorem tok51 : TIok Tryd.prog 51 ti51 := ⟨⟨_, _, _, Tryd.underlying51⟩, by kernel_rfl⟩
def ti52 : TI := ⟨.func, .nilFunc, 1, 8⟩
theorem tok52 : TIok Tryd.prog 52 ti52 := ⟨⟨_, _, _, Tryd.underlying52⟩, by kernel_rfl⟩
def ti53 : TI := ⟨.func, .nilFunc, 1, 8⟩
theorem tok53 : TIok Tryd.prog 53 ti53 := ⟨⟨_, _, _, Tryd.underlying53⟩, by kernel_rfl⟩
def ti54 : TI := ⟨.func, .nilFunc, 1, 8⟩
theorem tok54 : TIok Tryd.prog 54 ti54 := ⟨⟨_, _, _, Tryd.underlying54⟩, by kernel_rfl⟩
def ti55 : TI := ⟨.func, .nilFunc, 1, 8⟩
theorem tok55 : TIok Tryd.prog 55 ti55 := ⟨⟨_, _, _, Tryd.underlying55⟩, by kernel_rfl⟩
def ti56 : TI := ⟨.func, .nilFunc, 1, 8⟩
theorem tok56 : TIok Tryd.prog 56 ti56 := ⟨⟨_, _, _, Tryd.underlying56⟩, by kernel_rfl⟩
def ti57 : TI := ⟨.func, .nilFunc, 1, 8⟩
theorem tok57 : TIok Tryd.prog 57 ti57 := ⟨⟨_, _, _, Tryd.underlying57⟩, by kernel_rfl⟩
def ti58 : TI := ⟨.func, .nilFunc, 1, 8⟩
theorem tok58 : TIok Tryd.prog 58 ti58 := ⟨⟨_, _, _, Tryd.underlying58⟩, by kernel_rfl⟩
def ti59 : TI := ⟨.func, .nilFunc, 1, 8⟩
theorem tok59 : TIok Tryd.prog 59 ti59 := ⟨⟨_, _, _, Tryd.underlying59⟩, by kernel_rfl⟩
def ti60 : TI := ⟨.func, .nilFunc, 1, 8⟩
theorem tok60 : TIok Tryd.prog 60 ti60 := ⟨⟨_, _, _, Tryd.underlying60⟩, by kernel_rfl⟩
def ti62 : TI := ⟨.func, .nilFunc, 1, 8⟩
theorem tok62 : TIok Tryd.prog 62 ti62 := ⟨⟨_, _, _, Tryd.underlying62⟩, by kernel_rfl⟩
def ti63 : TI := ⟨.func, .nilFunc, 1, 8⟩
theorem tok63 : TIok Tryd.prog 63 ti63 := ⟨⟨_, _, _, Tryd.underlying63⟩, by kernel_rfl⟩
def ti64 : TI := ⟨.func, .nilFunc, 1, 8⟩
theorem tok64 : TIok Tryd.prog 64 ti64 := ⟨⟨_, _, _, Tryd.underlying64⟩, by kernel_rfl⟩
def ti65 : TI := ⟨.func, .nilFunc, 1, 8⟩
theorem tok65 : TIok Tryd.prog 65 ti65 := ⟨⟨_, _, _, Tryd.underlying65⟩, by kernel_rfl⟩
def ti66 : TI := ⟨.struct [(0, 9), (1, 9)], .agg #[.string ⟨#[]⟩, .string ⟨#[]⟩], 2, 32⟩
theorem tok66 : TIok Tryd.prog 66 ti66 := ⟨⟨_, Tryd.underlying66, by kernel_rfl⟩, by kernel_rfl⟩
def ti67 : TI := ⟨.struct [(0, 9), (1, 9)], .agg #[.string ⟨#[]⟩, .string ⟨#[]⟩], 2, 32⟩
theorem tok67 : TIok Tryd.prog 67 ti67 := ⟨⟨_, Tryd.underlying67, by kernel_rfl⟩, by kernel_rfl⟩
def ti68 : TI := ⟨.array 2 9, .agg #[.string ⟨#[]⟩, .string ⟨#[]⟩], 2, 32⟩
theorem tok68 : TIok Tryd.prog 68 ti68 := ⟨Tryd.underlying68, by kernel_rfl⟩
def ti69 : TI := ⟨.array 12 68, .agg #[.string ⟨#[]⟩, .string ⟨#[]⟩, .string ⟨#[]⟩, .string ⟨#[]⟩, .string ⟨#[]⟩, .string ⟨#[]⟩, .string ⟨#[]⟩, .string ⟨#[]⟩, .string ⟨#[]⟩, .string ⟨#[]⟩, .string ⟨#[]⟩, .string ⟨#[]⟩, .string ⟨#[]⟩, .string ⟨#[]⟩, .string ⟨#[]⟩, .string ⟨#[]⟩, .string ⟨#[]⟩, .string ⟨#[]⟩, .string ⟨#[]⟩, .string ⟨#[]⟩, .string ⟨#[]⟩, .string ⟨#[]⟩, .string ⟨#[]⟩, .string ⟨#[]⟩], 24, 384⟩
theorem tok69 : TIok Tryd.prog 69 ti69 := ⟨Tryd.underlying69, by kernel_rfl⟩
def ti70 : TI := ⟨.func, .nilFunc, 1, 8⟩
theorem tok70 : TIok Tryd.prog 70 ti70 := ⟨⟨_, _, _, Tryd.underlying70⟩, by kernel_rfl⟩
def ti71 : TI := ⟨.func, .nilFunc, 1, 8⟩
theorem tok71 : TIok Tryd.prog 71 ti71 := ⟨⟨_, _, _, Tryd.underlying71⟩, by kernel_rfl⟩
def ti72 : TI := ⟨.func, .nilFunc, 1, 8⟩
theorem tok72 : TIok Tryd.prog 72 ti72 := ⟨⟨_, _, _, Tryd.underlying72⟩, by kernel_rfl⟩
def ti73 : TI := ⟨.func, .nilFunc, 1, 8⟩
theorem tok73 : TIok Tryd.prog 73 ti73 := ⟨⟨_, _, _, Tryd.underlying73⟩, by kernel_rfl⟩
def ti74 : TI := ⟨.func, .nilFunc, 1, 8⟩
theorem tok74 : TIok Tryd.prog 74 ti74 := ⟨⟨_, _, _, Tryd.underlying74⟩, by kernel_rfl⟩
def ti75 : TI := ⟨.func, .nilFunc, 1, 8⟩
theorem tok75 : TIok Tryd.prog 75 ti75 := ⟨⟨_, _, _, Tryd.underlying75⟩, by kernel_rfl⟩
def ti76 : TI := ⟨.func, .nilFunc, 1, 8⟩
theorem tok76 : TIok Tryd.prog 76 ti76 := ⟨⟨_, _, _, Tryd.underlying76⟩, by kernel_rfl⟩
def ti77 : TI := ⟨.func, .nilFunc, 1, 8⟩
theorem tok77 : TIok Tryd.prog 77 ti77 := ⟨⟨_, _, _, Tryd.underlying77⟩, by kernel_rfl⟩
def ti78 : TI := ⟨.func, .nilFunc, 1, 8⟩
theorem tok78 : TIok Tryd.prog 78 ti78 := ⟨⟨_, _, _, Tryd.underlying78⟩, by kernel_rfl⟩
def ti79 : TI := ⟨.array 2 3, .agg #[.int .i64 0, .int .i64 0], 2, 16⟩
theorem tok79 : TIok Tryd.prog 79 ti79 := ⟨Tryd.underlying79, by kernel_rfl⟩
def ti80 : TI := ⟨.func, .nilFunc, 1, 8⟩
theorem tok80 : TIok Tryd.prog 80 ti80 := ⟨⟨_, _, _, Tryd.underlying80⟩, by kernel_rfl⟩
def ti81 : TI := ⟨.func, .nilFunc, 1, 8⟩
theorem tok81 : TIok Tryd.prog 81 ti81 := ⟨⟨_, _, _, Tryd.underlying81⟩, by kernel_rfl⟩
def ti82 : TI := ⟨.struct [(0, 22), (1, 3)], .agg #[.slice none 0 0, .int .i64 0], 2, 32⟩
theorem tok82 : TIok Tryd.prog 82 ti82 := ⟨⟨_, Tryd.underlying82, by kernel_rfl⟩, by kernel_rfl⟩
def ti83 : TI := ⟨.struct [(0, 22), (1, 3)], .agg #[.slice none 0 0, .int .i64 0], 2, 32⟩
theorem tok83 : TIok Tryd.prog 83 ti83 := ⟨⟨_, Tryd.underlying83, by kernel_rfl⟩, by kernel_rfl⟩
def ti84 : TI := ⟨.func, .nilFunc, 1, 8⟩
theorem tok84 : TIok Tryd.prog 84 ti84 := ⟨⟨_, _, _, Tryd.underlying84⟩, by kernel_rfl⟩
def ti85 : TI := ⟨.func, .nilFunc, 1, 8⟩
theorem tok85 : TIok Tryd.prog 85 ti85 := ⟨⟨_, _, _, Tryd.underlying85⟩, by kernel_rfl⟩
def ti86 : TI := ⟨.iface, .nilIface, 1, 16⟩
theorem tok86 : TIok Tryd.prog 86 ti86 := ⟨⟨_, Tryd.underlying86⟩, by kernel_rfl⟩
def ti87 : TI := ⟨.iface, .nilIface, 1, 16⟩
theorem tok87 : TIok Tryd.prog 87 ti87 := ⟨⟨_, Tryd.underlying87⟩, by kernel_rfl⟩
def ti89 : TI := ⟨.func, .nilFunc, 1, 8⟩
theorem tok89 : TIok Tryd.prog 89 ti89 := ⟨⟨_, _, _, Tryd.underlying89⟩, by kernel_rfl⟩
def ti90 : TI := ⟨.slice 4, .slice none 0 0, 1, 24⟩
theorem tok90 : TIok Tryd.prog 90 ti90 := ⟨Tryd.underlying90, by kernel_rfl⟩
def ti91 : TI := ⟨.func, .nilFunc, 1, 8⟩
theorem tok91 : TIok Tryd.prog 91 ti91 := ⟨⟨_, _, _, Tryd.underlying91⟩, by kernel_rfl⟩
def ti92 : TI := ⟨.slice 9, .slice none 0 0, 1, 24⟩
theorem tok92 : TIok Tryd.prog 92 ti92 := ⟨Tryd.underlying92, by kernel_rfl⟩
def ti93 : TI := ⟨.func, .nilFunc, 1, 8⟩
theorem tok93 : TIok Tryd.prog 93 ti93 := ⟨⟨_, _, _, Tryd.underlying93⟩, by kernel_rfl⟩
def ti95 : TI := ⟨.func, .nilFunc, 1, 8⟩
theorem tok95 : TIok Tryd.prog 95 ti95 := ⟨⟨_, _, _, Tryd.underlying95⟩, by kernel_rfl⟩
def ti96 : TI := ⟨.slice 90, .slice none 0 0, 1, 24⟩
theorem tok96 : TIok Tryd.prog 96 ti96 := ⟨Tryd.underlying96, by kernel_rfl⟩
def ti97 : TI := ⟨.struct [(0, 9), (1, 3), (2, 3)], .agg #[.string ⟨#[]⟩, .int .i64 0, .int .i64 0], 3, 32⟩
theorem tok97 : TIok Tryd.prog 97 ti97 := ⟨⟨_, Tryd.underlying97, by kernel_rfl⟩, by kernel_rfl⟩
def ti98 : TI := ⟨.struct [(0, 9), (1, 3), (2, 3)], .agg #[.string ⟨#[]⟩, .int .i64 0, .int .i64 0], 3, 32⟩
theorem tok98 : TIok Tryd.prog 98 ti98 := ⟨⟨_, Tryd.underlying98, by kernel_rfl⟩, by kernel_rfl⟩
def ti99 : TI := ⟨.func, .nilFunc, 1, 8⟩
theorem tok99 : TIok Tryd.prog 99 ti99 := ⟨⟨_, _, _, Tryd.underlying99⟩, by kernel_rfl⟩
def ti100 : TI := ⟨.func, .nilFunc, 1, 8⟩
theorem tok100 : TIok Tryd.prog 100 ti100 := ⟨⟨_, _, _, Tryd.underlying100⟩, by kernel_rfl⟩
def ti101 : TI := ⟨.func, .nilFunc, 1, 8⟩
theorem tok101 : TIok Tryd.prog 101 ti101 := ⟨⟨_, _, _, Tryd.underlying101⟩, by kernel_rfl⟩
def ti102 : TI := ⟨.func, .nilFunc, 1, 8⟩
theorem tok102 : TIok Tryd.prog 102 ti102 := ⟨⟨_, _, _, Tryd.underlying102⟩, by kernel_rfl⟩
def ti103 : TI := ⟨.func, .nilFunc, 1, 8⟩
theorem tok103 : TIok Tryd.prog 103 ti103 := ⟨⟨_, _, _, Tryd.underlying103⟩, by kernel_rfl⟩
def ti104 : TI := ⟨.int .u64, .int .u64 0, 1, 8⟩
theorem tok104 : TIok Tryd.prog 104 ti104 := ⟨Tryd.underlying104, by kernel_rfl⟩
def ti105 : TI := ⟨.func, .nilFunc, 1, 8⟩
theorem tok105 : TIok Tryd.prog 105 ti105 := ⟨⟨_, _, _, Tryd.underlying105⟩, by kernel_rfl⟩
def ti106 : TI := ⟨.func, .nilFunc, 1, 8⟩
theorem tok106 : TIok Tryd.prog 106 ti106 := ⟨⟨_, _, _, Tryd.underlying106⟩, by kernel_rfl⟩
def ti107 : TI := ⟨.struct [(0, 9), (1, 87), (2, 87)], .agg #[.string ⟨#[]⟩, .nilIface, .nilIface], 3, 48⟩
theorem tok107 : TIok Tryd.prog 107 ti107 := ⟨⟨_, Tryd.underlying107, by kernel_rfl⟩, by kernel_rfl⟩
def ti108 : TI := ⟨.struct [(0, 9), (1, 87), (2, 87)], .agg #[.string ⟨#[]⟩, .nilIface, .nilIface], 3, 48⟩
theorem tok108 : TIok Tryd.prog 108 ti108 := ⟨⟨_, Tryd.underlying108, by kernel_rfl⟩, by kernel_rfl⟩
def ti109 : TI := ⟨.slice 87, .slice none 0 0, 1, 24⟩
theorem tok109 : TIok Tryd.prog 109 ti109 := ⟨Tryd.underlying109, by kernel_rfl⟩
def ti111 : TI := ⟨.pointer 140, .pointer none, 1, 8⟩
theorem tok111 : TIok Tryd.prog 111 ti111 := ⟨Tryd.underlying111, by kernel_rfl⟩
def ti112 : TI := ⟨.func, .nilFunc, 1, 8⟩
theorem tok112 : TIok Tryd.prog 112 ti112 := ⟨⟨_, _, _, Tryd.underlying112⟩, by kernel_rfl⟩
def ti113 : TI := ⟨.func, .nilFunc, 1, 8⟩
theorem tok113 : TIok Tryd.prog 113 ti113 := ⟨⟨_, _, _, Tryd.underlying113⟩, by kernel_rfl⟩
def ti114 : TI := ⟨.func, .nilFunc, 1, 8⟩
theorem tok114 : TIok Tryd.prog 114 ti114 := ⟨⟨_, _, _, Tryd.underlying114⟩, by kernel_rfl⟩
def ti115 : TI := ⟨.func, .nilFunc, 1, 8⟩
theorem tok115 : TIok Tryd.prog 115 ti115 := ⟨⟨_, _, _, Tryd.underlying115⟩, by kernel_rfl⟩
def ti116 : TI := ⟨.func, .nilFunc, 1, 8⟩
theorem tok116 : TIok Tryd.prog 116 ti116 := ⟨⟨_, _, _, Tryd.underlying116⟩, by kernel_rfl⟩
def ti117 : TI := ⟨.func, .nilFunc, 1, 8⟩
theorem tok117 : TIok Tryd.prog 117 ti117 := ⟨⟨_, _, _, Tryd.underlying117⟩, by kernel_rfl⟩
def ti118 : TI := ⟨.func, .nilFunc, 1, 8⟩
theorem tok118 : TIok Tryd.prog 118 ti118 := ⟨⟨_, _, _, Tryd.underlying118⟩, by kernel_rfl⟩
def ti119 : TI := ⟨.func, .nilFunc, 1, 8⟩
theorem tok119 : TIok Tryd.prog 119 ti119 := ⟨⟨_, _, _, Tryd.underlying119⟩, by kernel_rfl⟩
def ti120 : TI := ⟨.func, .nilFunc, 1, 8⟩
theorem tok120 : TIok Tryd.prog 120 ti120 := ⟨⟨_, _, _, Tryd.underlying120⟩, by kernel_rfl⟩
def ti121 : TI := ⟨.func, .nilFunc, 1, 8⟩
theorem tok121 : TIok Tryd.prog 121 ti121 := ⟨⟨_, _, _, Tryd.underlying121⟩, by kernel_rfl⟩
def ti122 : TI := ⟨.func, .nilFunc, 1, 8⟩
theorem tok122 : TIok Tryd.prog 122 ti122 := ⟨⟨_, _, _, Tryd.underlying122⟩, by kernel_rfl⟩
def ti123 : TI := ⟨.pointer 125, .pointer none, 1, 8⟩
theorem tok123 : TIok Tryd.prog 123 ti123 := ⟨Tryd.underlying123, by kernel_rfl⟩
def ti124 : TI := ⟨.struct [(0, 92), (1, 3)], .agg #[.slice none 0 0, .int .i64 0], 2, 32⟩
theorem tok124 : TIok Tryd.prog 124 ti124 := ⟨⟨_, Tryd.underlying124, by kernel_rfl⟩, by kernel_rfl⟩
def ti125 : TI := ⟨.struct [(0, 92), (1, 3)], .agg #[.slice none 0 0, .int .i64 0], 2, 32⟩
theorem tok125 : TIok Tryd.prog 125 ti125 := ⟨⟨_, Tryd.underlying125, by kernel_rfl⟩, by kernel_rfl⟩
def ti126 : TI := ⟨.func, .nilFunc, 1, 8⟩
theorem tok126 : TIok Tryd.prog 126 ti126 := ⟨⟨_, _, _, Tryd.underlying126⟩, by kernel_rfl⟩
def ti127 : TI := ⟨.func, .nilFunc, 1, 8⟩
theorem tok127 : TIok Tryd.prog 127 ti127 := ⟨⟨_, _, _, Tryd.underlying127⟩, by kernel_rfl⟩
def ti128 : TI := ⟨.struct [(0, 9)], .agg #[.string ⟨#[]⟩], 1, 16⟩
theorem tok128 : TIok Tryd.prog 128 ti128 := ⟨⟨_, Tryd.underlying128, by kernel_rfl⟩, by kernel_rfl⟩
def ti129 : TI := ⟨.struct [(0, 9)], .agg #[.string ⟨#[]⟩], 1, 16⟩
theorem tok129 : TIok Tryd.prog 129 ti129 := ⟨⟨_, Tryd.underlying129, by kernel_rfl⟩, by kernel_rfl⟩
def ti130 : TI := ⟨.func, .nilFunc, 1, 8⟩
theorem tok130 : TIok Tryd.prog 130 ti130 := ⟨⟨_, _, _, Tryd.underlying130⟩, by kernel_rfl⟩
def ti131 : TI := ⟨.struct [(0, 9), (1, 87)], .agg #[.string ⟨#[]⟩, .nilIface], 2, 32⟩
theorem tok131 : TIok Tryd.prog 131 ti131 := ⟨⟨_, Tryd.underlying131, by kernel_rfl⟩, by kernel_rfl⟩
def ti132 : TI := ⟨.struct [(0, 9), (1, 87)], .agg #[.string ⟨#[]⟩, .nilIface], 2, 32⟩
theorem tok132 : TIok Tryd.prog 132 ti132 := ⟨⟨_, Tryd.underlying132, by kernel_rfl⟩, by kernel_rfl⟩
def ti133 : TI := ⟨.func, .nilFunc, 1, 8⟩
theorem tok133 : TIok Tryd.prog 133 ti133 := ⟨⟨_, _, _, Tryd.underlying133⟩, by kernel_rfl⟩
def ti134 : TI := ⟨.func, .nilFunc, 1, 8⟩
theorem tok134 : TIok Tryd.prog 134 ti134 := ⟨⟨_, _, _, Tryd.underlying134⟩, by kernel_rfl⟩
def ti135 : TI := ⟨.func, .nilFunc, 1, 8⟩
theorem tok135 : TIok Tryd.prog 135 ti135 := ⟨⟨_, _, _, Tryd.underlying135⟩, by kernel_rfl⟩
def ti136 : TI := ⟨.map 9 9, .map none, 1, 8⟩
theorem tok136 : TIok Tryd.prog 136 ti136 := ⟨Tryd.underlying136, by kernel_rfl⟩
def ti138 : TI := ⟨.array 10 9, .agg #[.string ⟨#[]⟩, .string ⟨#[]⟩, .string ⟨#[]⟩, .string ⟨#[]⟩, .string ⟨#[]⟩, .string ⟨#[]⟩, .string ⟨#[]⟩, .string ⟨#[]⟩, .string ⟨#[]⟩, .string ⟨#[]⟩], 10, 160⟩
theorem tok138 : TIok Tryd.prog 138 ti138 := ⟨Tryd.underlying138, by kernel_rfl⟩
def ti139 : TI := ⟨.struct [(0, 44), (2, 3), (3, 109), (4, 3), (5, 22), (6, 90), (7, 22)], .agg #[.slice none 0 0, .slice none 0 0, .int .i64 0, .slice none 0 0, .int .i64 0, .slice none 0 0, .slice none 0 0, .slice none 0 0], 8, 160⟩
theorem tok139 : TIok Tryd.prog 139 ti139 := ⟨⟨_, Tryd.underlying139, by kernel_rfl⟩, by kernel_rfl⟩
def ti140 : TI := ⟨.struct [(0, 44), (2, 3), (3, 109), (4, 3), (5, 22), (6, 90), (7, 22)], .agg #[.slice none 0 0, .slice none 0 0, .int .i64 0, .slice none 0 0, .int .i64 0, .slice none 0 0, .slice none 0 0, .slice none 0 0], 8, 160⟩
theorem tok140 : TIok Tryd.prog 140 ti140 := ⟨⟨_, Tryd.underlying140, by kernel_rfl⟩, by kernel_rfl⟩
def ti141 : TI := ⟨.func, .nilFunc, 1, 8⟩
theorem tok141 : TIok Tryd.prog 141 ti141 := ⟨⟨_, _, _, Tryd.underlying141⟩, by kernel_rfl⟩
def ti142 : TI := ⟨.pointer 144, .pointer none, 1, 8⟩
theorem tok142 : TIok Tryd.prog 142 ti142 := ⟨Tryd.underlying142, by kernel_rfl⟩
def ti143 : TI := ⟨.struct [(0, 3), (1, 3), (2, 3), (3, 3), (4, 3)], .agg #[.int .i64 0, .int .i64 0, .int .i64 0, .int .i64 0, .int .i64 0], 5, 40⟩
theorem tok143 : TIok Tryd.prog 143 ti143 := ⟨⟨_, Tryd.underlying143, by kernel_rfl⟩, by kernel_rfl⟩
def ti144 : TI := ⟨.struct [(0, 3), (1, 3), (2, 3), (3, 3), (4, 3)], .agg #[.int .i64 0, .int .i64 0, .int .i64 0, .int .i64 0, .int .i64 0], 5, 40⟩
theorem tok144 : TIok Tryd.prog 144 ti144 := ⟨⟨_, Tryd.underlying144, by kernel_rfl⟩, by kernel_rfl⟩
def ti145 : TI := ⟨.func, .nilFunc, 1, 8⟩
theorem tok145 : TIok Tryd.prog 145 ti145 := ⟨⟨_, _, _, Tryd.underlying145⟩, by kernel_rfl⟩
def ti146 : TI := ⟨.func, .nilFunc, 1, 8⟩
theorem tok146 : TIok Tryd.prog 146 ti146 := ⟨⟨_, _, _, Tryd.underlying146⟩, by kernel_rfl⟩
def ti147 : TI := ⟨.map 3 3, .map none, 1, 8⟩
theorem tok147 : TIok Tryd.prog 147 ti147 := ⟨Tryd.underlying147, by kernel_rfl⟩
def ti148 : TI := ⟨.map 3 4, .map none, 1, 8⟩
theorem tok148 : TIok Tryd.prog 148 ti148 := ⟨Tryd.underlying148, by kernel_rfl⟩
def ti149 : TI := ⟨.func, .nilFunc, 1, 8⟩
theorem tok149 : TIok Tryd.prog 149 ti149 := ⟨⟨_, _, _, Tryd.underlying149⟩, by kernel_rfl⟩
def ti150 : TI := ⟨.func, .nilFunc, 1, 8⟩
theorem tok150 : TIok Tryd.prog 150 ti150 := ⟨⟨_, _, _, Tryd.underlying150⟩, by kernel_rfl⟩
def ti151 : TI := ⟨.struct [(0, 27)], .agg #[.int .i64 0], 1, 8⟩
theorem tok151 : TIok Tryd.prog 151 ti151 := ⟨⟨_, Tryd.underlying151, by kernel_rfl⟩, by kernel_rfl⟩
def ti152 : TI := ⟨.struct [(0, 27)], .agg #[.int .i64 0], 1, 8⟩
theorem tok152 : TIok Tryd.prog 152 ti152 := ⟨⟨_, Tryd.underlying152, by kernel_rfl⟩, by kernel_rfl⟩
def ti153 : TI := ⟨.func, .nilFunc, 1, 8⟩
theorem tok153 : TIok Tryd.prog 153 ti153 := ⟨⟨_, _, _, Tryd.underlying153⟩, by kernel_rfl⟩
def ti154 : TI := ⟨.func, .nilFunc, 1, 8⟩
theorem tok154 : TIok Tryd.prog 154 ti154 := ⟨⟨_, _, _, Tryd.underlying154⟩, by kernel_rfl⟩
def ti156 : TI := ⟨.func, .nilFunc, 1, 8⟩
theorem tok156 : TIok Tryd.prog 156 ti156 := ⟨⟨_, _, _, Tryd.underlying156⟩, by kernel_rfl⟩
def ti157 : TI := ⟨.func, .nilFunc, 1, 8⟩
theorem tok157 : TIok Tryd.prog 157 ti157 := ⟨⟨_, _, _, Tryd.underlying157⟩, by kernel_rfl⟩
def ti158 : TI := ⟨.map 79 22, .map none, 1, 8⟩
theorem tok158 : TIok Tryd.prog 158 ti158 := ⟨Tryd.underlying158, by kernel_rfl⟩
def ti159 : TI := ⟨.func, .nilFunc, 1, 8⟩
theorem tok159 : TIok Tryd.prog 159 ti159 := ⟨⟨_, _, _, Tryd.underlying159⟩, by kernel_rfl⟩
def ti161 : TI := ⟨.func, .nilFunc, 1, 8⟩
theorem tok161 : TIok Tryd.prog 161 ti161 := ⟨⟨_, _, _, Tryd.underlying161⟩, by kernel_rfl⟩
def ti162 : TI := ⟨.func, .nilFunc, 1, 8⟩
theorem tok162 : TIok Tryd.prog 162 ti162 := ⟨⟨_, _, _, Tryd.underlying162⟩, by kernel_rfl⟩
def ti163 : TI := ⟨.struct [(0, 17), (1, 17), (2, 17), (3, 9)], .agg #[.pointer none, .pointer none, .pointer none, .string ⟨#[]⟩], 4, 40⟩
theorem tok163 : TIok Tryd.prog 163 ti163 := ⟨⟨_, Tryd.underlying163, by kernel_rfl⟩, by kernel_rfl⟩
def ti164 : TI := ⟨.struct [(0, 17), (1, 17), (2, 17), (3, 9)], .agg #[.pointer none, .pointer none, .pointer none, .string ⟨#[]⟩], 4, 40⟩
theorem tok164 : TIok Tryd.prog 164 ti164 := ⟨⟨_, Tryd.underlying164, by kernel_rfl⟩, by kernel_rfl⟩
def ti165 : TI := ⟨.array 0 16, .agg #[], 0, 0⟩
theorem tok165 : TIok Tryd.prog 165 ti165 := ⟨Tryd.underlying165, by kernel_rfl⟩
def ti166 : TI := ⟨.struct [(0, 165)], .agg #[], 0, 0⟩
theorem tok166 : TIok Tryd.prog 166 ti166 := ⟨⟨_, Tryd.underlying166, by kernel_rfl⟩, by kernel_rfl⟩
def ti167 : TI := ⟨.struct [(0, 165)], .agg #[], 0, 0⟩
theorem tok167 : TIok Tryd.prog 167 ti167 := ⟨⟨_, Tryd.underlying167, by kernel_rfl⟩, by kernel_rfl⟩
def ti168 : TI := ⟨.func, .nilFunc, 1, 8⟩
theorem tok168 : TIok Tryd.prog 168 ti168 := ⟨⟨_, _, _, Tryd.underlying168⟩, by kernel_rfl⟩
def ti169 : TI := ⟨.int .u32, .int .u32 0, 1, 4⟩
theorem tok169 : TIok Tryd.prog 169 ti169 := ⟨Tryd.underlying169, by kernel_rfl⟩
def ti170 : TI := ⟨.int .u8, .int .u8 0, 1, 1⟩
theorem tok170 : TIok Tryd.prog 170 ti170 := ⟨Tryd.underlying170, by kernel_rfl⟩
def ti171 : TI := ⟨.int .u8, .int .u8 0, 1, 1⟩
theorem tok171 : TIok Tryd.prog 171 ti171 := ⟨Tryd.underlying171, by kernel_rfl⟩
def ti172 : TI := ⟨.func, .nilFunc, 1, 8⟩
theorem tok172 : TIok Tryd.prog 172 ti172 := ⟨⟨_, _, _, Tryd.underlying172⟩, by kernel_rfl⟩
def ti173 : TI := ⟨.pointer 5, .pointer none, 1, 8⟩
theorem tok173 : TIok Tryd.prog 173 ti173 := ⟨Tryd.underlying173, by kernel_rfl⟩
def ti174 : TI := ⟨.int .i32, .int .i32 0, 1, 4⟩
theorem tok174 : TIok Tryd.prog 174 ti174 := ⟨Tryd.underlying174, by kernel_rfl⟩
def ti175 : TI := ⟨.int .i32, .int .i32 0, 1, 4⟩
theorem tok175 : TIok Tryd.prog 175 ti175 := ⟨Tryd.underlying175, by kernel_rfl⟩
def ti176 : TI := ⟨.struct [(0, 12), (1, 12), (2, 169), (3, 170), (4, 5), (5, 5), (6, 171), (7, 172), (8, 173), (9, 174), (10, 175)], .agg #[.int .u64 0, .int .u64 0, .int .u32 0, .int .u8 0, .int .u8 0, .int .u8 0, .int .u8 0, .nilFunc, .pointer none, .int .i32 0, .int .i32 0], 11, 48⟩
theorem tok176 : TIok Tryd.prog 176 ti176 := ⟨⟨_, Tryd.underlying176, by kernel_rfl⟩, by kernel_rfl⟩
def ti177 : TI := ⟨.struct [(0, 12), (1, 12), (2, 169), (3, 170), (4, 5), (5, 5), (6, 171), (7, 172), (8, 173), (9, 174), (10, 175)], .agg #[.int .u64 0, .int .u64 0, .int .u32 0, .int .u8 0, .int .u8 0, .int .u8 0, .int .u8 0, .nilFunc, .pointer none, .int .i32 0, .int .i32 0], 11, 48⟩
theorem tok177 : TIok Tryd.prog 177 ti177 := ⟨⟨_, Tryd.underlying177, by kernel_rfl⟩, by kernel_rfl⟩
def tiAll : Nat → Option TI
  | 1 => some ti1
  | 2 => some ti2
  | 3 => some ti3
  | 4 => some ti4
  | 5 => some ti5
  | 6 => some ti6
  | 7 => some ti7
  | 8 => some ti8
  | 9 => some ti9
  | 10 => some ti10
  | 11 => some ti11
  | 12 => some ti12
  | 13 => some ti13
  | 14 => some ti14
  | 15 => some ti15
  | 16 => some ti16
  | 17 => some ti17
  | 18 => some ti18
  | 19 => some ti19
  | 20 => some ti20
  | 21 => some ti21
  | 22 => some ti22
  | 23 => some ti23
  | 24 => some ti24
  | 25 => some ti25
  | 26 => some ti26
  | 27 => some ti27
  | 29 => some ti29
  | 30 => some ti30
  | 31 => some ti31
  | 32 => some ti32
  | 34 => some ti34
  | 35 => some ti35
  | 36 => some ti36
  | 37 => some ti37
  | 39 => some ti39
  | 40 => some ti40
  | 41 => some ti41
  | 42 => some ti42
  | 43 => some ti43
  | 44 => some ti44
  | 45 => some ti45
  | 46 => some ti46
  | 47 => some ti47
  | 48 => some ti48
  | 50 => some ti50
  | 51 => some ti51
  | 52 => some ti52
  | 53 => some ti53
  | 54 => some ti54
  | 55 => some ti55
  | 56 => some ti56
  | 57 => some ti57
  | 58 => some ti58
  | 59 => some ti59
  | 60 => some ti60
  | 62 => some ti62
  | 63 => some ti63
  | 64 => some ti64
  | 65 => some ti65
  | 66 => some ti66
  | 67 => some ti67
  | 68 => some ti68
  | 69 => some ti69
  | 70 => some ti70
  | 71 => some ti71
  | 72 => some ti72
  | 73 => some ti73
  | 74 => some ti74
  | 75 => some ti75
  | 76 => some ti76
  | 77 => some ti77
  | 78 => some ti78
  | 79 => some ti79
  | 80 => some ti80
  | 81 => some ti81
  | 82 => some ti82
  | 83 => some ti83
  | 84 => some ti84
  | 85 => some ti85
  | 86 => some ti86
  | 87 => some ti87
  | 89 => some ti89
  | 90 => some ti90
  | 91 => some ti91
  | 92 => some ti92
  | 93 => some ti93
  | 95 => some ti95
  | 96 => some ti96
  | 97 => some ti97
  | 98 => some ti98
  | 99 => some ti99
  | 100 => some ti100
  | 101 => some ti101
  | 102 => some ti102
  | 103 => some ti103
  | 104 => some ti104
  | 105 => some ti105
  | 106 => some ti106
  | 107 => some ti107
  | 108 => some ti108
  | 109 => some ti109
  | 111 => some ti111
  | 112 => some ti112
  | 113 => some ti113
  | 114 => some ti114
  | 115 => some ti115
  | 116 => some ti116
  | 117 => some ti117
  | 118 => some ti118
  | 119 => some ti119
  | 120 => some ti120
  | 121 => some ti121
  | 122 => some ti122
  | 123 => some ti123
  | 124 => some ti124
  | 125 => some ti125
  | 126 => some ti126
  | 127 => some ti127
  | 128 => some ti128
  | 129 => some ti129
  | 130 => some ti130
  | 131 => some ti131
  | 132 => some ti132
  | 133 => some ti133
  | 134 => some ti134
  | 135 => some ti135
  | 136 => some ti136
  | 138 => some ti138
  | 139 => some ti139
  | 140 => some ti140
  | 141 => some ti141
  | 142 => some ti142
  | 143 => some ti143
  | 144 => some ti144
  | 145 => some ti145
  | 146 => some ti146
  | 147 => some ti147
  | 148 => some ti148
  | 149 => some ti149
  | 150 => some ti150
  | 151 => some ti151
  | 152 => some ti152
  | 153 => some ti153
  | 154 => some ti154
  | 156 => some ti156
  | 157 => some ti157
  | 158 => some ti158
  | 159 => some ti159
  | 161 => some ti161
  | 162 => some ti162
  | 163 => some ti163
  | 164 => some ti164
  | 165 => some ti165
  | 166 => some ti166
  | 167 => some ti167
  | 168 => some ti168
  | 169 => some ti169
  | 170 => some ti170
  | 171 => some ti171
  | 172 => some ti172
  | 173 => some ti173
  | 174 => some ti174
  | 175 => some ti175
  | 176 => some ti176
  | 177 => some ti177
  | _ => none
instance : TT Tryd.prog where
  ti := tiAll
  ok := by
    intro t i h
    unfold tiAll at h
    split at h
    · simp only [Option.some.injEq] at h; rw [← h]; exact tok1
    · simp only [Option.some.injEq] at h; rw [← h]; exact tok2
    · simp only [Option.some.injEq] at h; rw [← h]; exact tok3
    · simp only [Option.some.injEq] at h; rw [← h]; exact tok4
    · simp only [Option.some.injEq] at h; rw [← h]; exact tok5
    · simp only [Option.some.injEq] at h; rw [← h]; exact tok6
    · simp only [Option.some.injEq] at h; rw [← h]; exact tok7
    · simp only [Option.some.injEq] at h; rw [← h]; exact tok8
    · simp only [Option.some.injEq] at h; rw [← h]; exact tok9
    · simp only [Option.some.injEq] at h; rw [← h]; exact tok10
    · simp only [Option.some.injEq] at h; rw [← h]; exact tok11
    · simp only [Option.some.injEq] at h; rw [← h]; exact tok12
    · simp only [Option.some.injEq] at h; rw [← h]; exact tok13
    · simp only [Option.some.injEq] at h; rw [← h]; exact tok14
    · simp only [Option.some.injEq] at h; rw [← h]; exact tok15
    · simp only [Option.some.injEq] at h; rw [← h]; exact tok16
    · simp only [Option.some.injEq] at h; rw [← h]; exact tok17
    · simp only [Option.some.injEq] at h; rw [← h]; exact tok18
    · simp only [Option.some.injEq] at h; rw [← h]; exact tok19
    · simp only [Option.some.injEq] at h; rw [← h]; exact tok20
    · simp only [Option.some.injEq] at h; rw [← h]; exact tok21
    · simp only [Option.some.injEq] at h; rw [← h]; exact tok22
    · simp only [Option.some.injEq] at h; rw [← h]; exact tok23
    · simp only [Option.some.injEq] at h; rw [← h]; exact tok24
    · simp only [Option.some.injEq] at h; rw [← h]; exact tok25
    · simp only [Option.some.injEq] at h; rw [← h]; exact tok26
    · simp only [Option.some.injEq] at h; rw [← h]; exact tok27
    · simp only [Option.some.injEq] at h; rw [← h]; exact tok29
    · simp only [Option.some.injEq] at h; rw [← h]; exact tok30
    · simp only [Option.some.injEq] at h; rw [← h]; exact tok31
    · simp only [Option.some.injEq] at h; rw [← h]; exact tok32
    · simp only [Option.some.injEq] at h; rw [← h]; exact tok34
    · simp only [Option.some.injEq] at h; rw [← h]; exact tok35
    · simp only [Option.some.injEq] at h; rw [← h]; exact tok36
    · simp only [Option.some.injEq] at h; rw [← h]; exact tok37
    · simp only [Option.some.injEq] at h; rw [← h]; exact tok39
    · simp only [Option.some.injEq] at h; rw [← h]; exact tok40
    · simp only [Option.some.injEq] at h; rw [← h]; exact tok41
    · simp only [Option.some.injEq] at h; rw [← h]; exact tok42
    · simp only [Option.some.injEq] at h; rw [← h]; exact tok43
    · simp only [Option.some.injEq] at h; rw [← h]; exact tok44
    · simp only [Option.some.injEq] at h; rw [← h]; exact tok45
    · simp only [Option.some.injEq] at h; rw [← h]; exact tok46
    · simp only [Option.some.injEq] at h; rw [← h]; exact tok47
    · simp only [Option.some.injEq] at h; rw [← h]; exact tok48
    · simp only [Option.some.injEq] at h; rw [← h]; exact tok50
    · simp only [Option.some.injEq] at h; rw [← h]; exact tok51
    · simp only [Option.some.injEq] at h; rw [← h]; exact tok52
    · simp only [Option.some.injEq] at h; rw [← h]; exact tok53
    · simp only [Option.some.injEq] at h; rw [← h]; exact tok54
    · simp only [Option.some.injEq] at h; rw [← h]; exact tok55
    · simp only [Option.some.injEq] at h; rw [← h]; exact tok56
    · simp only [Option.some.injEq] at h; rw [← h]; exact tok57
    · simp only [Option.some.injEq] at h; rw [← h]; exact tok58
    · simp only [Option.some.injEq] at h; rw [← h]; exact tok59
    · simp only [Option.some.injEq] at h; rw [← h]; exact tok60
    · simp only [Option.some.injEq] at h; rw [← h]; exact tok62
    · simp only [Option.some.injEq] at h; rw [← h]; exact tok63
    · simp only [Option.some.injEq] at h; rw [← h]; exact tok64
    · simp only [Option.some.injEq] at h; rw [← h]; exact tok65
    · simp only [Option.some.injEq] at h; rw [← h]; exact tok66
    · simp only [Option.some.injEq] at h; rw [← h]; exact tok67
    · simp only [Option.some.injEq] at h; rw [← h]; exact tok68
    · simp only [Option.some.injEq] at h; rw [← h]; exact tok69
    · simp only [Option.some.injEq] at h; rw [← h]; exact tok70
    · simp only [Option.some.injEq] at h; rw [← h]; exact tok71
    · simp only [Option.some.injEq] at h; rw [← h]; exact tok72
    · simp only [Option.some.injEq] at h; rw [← h]; exact tok73
    · simp only [Option.some.injEq] at h; rw [← h]; exact tok74
    · simp only [Option.some.injEq] at h; rw [← h]; exact tok75
    · simp only [Option.some.injEq] at h; rw [← h]; exact tok76
    · simp only [Option.some.injEq] at h; rw [← h]; exact tok77
    · simp only [Option.some.injEq] at h; rw [← h]; exact tok78
    · simp only [Option.some.injEq] at h; rw [← h]; exact tok79
    · simp only [Option.some.injEq] at h; rw [← h]; exact tok80
    · simp only [Option.some.injEq] at h; rw [← h]; exact tok81
    · simp only [Option.some.injEq] at h; rw [← h]; exact tok82
    · simp only [Option.some.injEq] at h; rw [← h]; exact tok83
    · simp only [Option.some.injEq] at h; rw [← h]; exact tok84
    · simp only [Option.some.injEq] at h; rw [← h]; exact tok85
    · simp only [Option.some.injEq] at h; rw [← h]; exact tok86
    · simp only [Option.some.injEq] at h; rw [← h]; exact tok87
    · simp only [Option.some.injEq] at h; rw [← h]; exact tok89
    · simp only [Option.some.injEq] at h; rw [← h]; exact tok90
    · simp only [Option.some.injEq] at h; rw [← h]; exact tok91
    · simp only [Option.some.injEq] at h; rw [← h]; exact tok92
    · simp only [Option.some.injEq] at h; rw [← h]; exact tok93
    · simp only [Option.some.injEq] at h; rw [← h]; exact tok95
    · simp only [Option.some.injEq] at h; rw [← h]; exact tok96
    · simp only [Option.some.injEq] at h; rw [← h]; exact tok97
    · simp only [Option.some.injEq] at h; rw [← h]; exact tok98
    · simp only [Option.some.injEq] at h; rw [← h]; exact tok99
    · simp only [Option.some.injEq] at h; rw [← h]; exact tok100
    · simp only [Option.some.injEq] at h; rw [← h]; exact tok101
    · simp only [Option.some.injEq] at h; rw [← h]; exact tok102
    · simp only [Option.some.injEq] at h; rw [← h]; exact tok103
    · simp only [Option.some.injEq] at h; rw [← h]; exact tok104
    · simp only [Option.some.injEq] at h; rw [← h]; exact tok105
    · simp only [Option.some.injEq] at h; rw [← h]; exact tok106
    · simp only [Option.some.injEq] at h; rw [← h]; exact tok107
    · simp only [Option.some.injEq] at h; rw [← h]; exact tok108
    · simp only [Option.some.injEq] at h; rw [← h]; exact tok109
    · simp only [Option.some.injEq] at h; rw [← h]; exact tok111
    · simp only [Option.some.injEq] at h; rw [← h]; exact tok112
    · simp only [Option.some.injEq] at h; rw [← h]; exact tok113
    · simp only [Option.some.injEq] at h; rw [← h]; exact tok114
    · simp only [Option.some.injEq] at h; rw [← h]; exact tok115
    · simp only [Option.some.injEq] at h; rw [← h]; exact tok116
    · simp only [Option.some.injEq] at h; rw [← h]; exact tok117
    · simp only [Option.some.injEq] at h; rw [← h]; exact tok118
    · simp only [Option.some.injEq] at h; rw [← h]; exact tok119
    · simp only [Option.some.injEq] at h; rw [← h]; exact tok120
    · simp only [Option.some.injEq] at h; rw [← h]; exact tok121
    · simp only [Option.some.injEq] at h; rw [← h]; exact tok122
    · simp only [Option.some.injEq] at h; rw [← h]; exact tok123
    · simp only [Option.some.injEq] at h; rw [← h]; exact tok124
    · simp only [Option.some.injEq] at h; rw [← h]; exact tok125
    · simp only [Option.some.injEq] at h; rw [← h]; exact tok126
    · simp only [Option.some.injEq] at h; rw [← h]; exact tok127
    · simp only [Option.some.injEq] at h; rw [← h]; exact tok128
    · simp only [Option.some.injEq] at h; rw [← h]; exact tok129
    · simp only [Option.some.injEq] at h; rw [← h]; exact tok130
    · simp only [Option.some.injEq] at h; rw [← h]; exact tok131
    · simp only [Option.some.injEq] at h; rw [← h]; exact tok132
    · simp only [Option.some.injEq] at h; rw [← h]; exact tok133
    · simp only [Option.some.injEq] at h; rw [← h]; exact tok134
    · simp only [Option.some.injEq] at h; rw [← h]; exact tok135
    · simp only [Option.some.injEq] at h; rw [← h]; exact tok136
    · simp only [Option.some.injEq] at h; rw [← h]; exact tok138
    · simp only [Option.some.injEq] at h; rw [← h]; exact tok139
    · simp only [Option.some.injEq] at h; rw [← h]; exact tok140
    · simp only [Option.some.injEq] at h; rw [← h]; exact tok141
    · simp only [Option.some.injEq] at h; rw [← h]; exact tok142
    · simp only [Option.some.injEq] at h; rw [← h]; exact tok143
    · simp only [Option.some.injEq] at h; rw [← h]; exact tok144
    · simp only [Option.some.injEq] at h; rw [← h]; exact tok145
    · simp only [Option.some.injEq] at h; rw [← h]; exact tok146
    · simp only [Option.some.injEq] at h; rw [← h]; exact tok147
    · simp only [Option.some.injEq] at h; rw [← h]; exact tok148
    · simp only [Option.some.injEq] at h; rw [← h]; exact tok149
    · simp only [Option.some.injEq] at h; rw [← h]; exact tok150
    · simp only [Option.some.injEq] at h; rw [← h]; exact tok151
    · simp only [Option.some.injEq] at h; rw [← h]; exact tok152
    · simp only [Option.some.injEq] at h; rw [← h]; exact tok153
    · simp only [Option.some.injEq] at h; rw [← h]; exact tok154
    · simp only [Option.some.injEq] at h; rw [← h]; exact tok156
    · simp only [Option.some.injEq] at h; rw [← h]; exact tok157
    · simp only [Option.some.injEq] at h; rw [← h]; exact tok158
    · simp only [Option.some.injEq] at h; rw [← h]; exact tok159
    · simp only [Option.some.injEq] at h; rw [← h]; exact tok161
    · simp only [Option.some.injEq] at h; rw [← h]; exact tok162
    · simp only [Option.some.injEq] at h; rw [← h]; exact tok163
    · simp only [Option.some.injEq] at h; rw [← h]; exact tok164
    · simp only [Option.some.injEq] at h; rw [← h]; exact tok165
    · simp only [Option.some.injEq] at h; rw [← h]; exact tok166
    · simp only [Option.some.injEq] at h; rw [← h]; exact tok167
    · simp only [Option.some.injEq] at h; rw [← h]; exact tok168
    · simp only [Option.some.injEq] at h; rw [← h]; exact tok169
    · simp only [Option.some.injEq] at h; rw [← h]; exact tok170
    · simp only [Option.some.injEq] at h; rw [← h]; exact tok171
    · simp only [Option.some.injEq] at h; rw [← h]; exact tok172
    · simp only [Option.some.injEq] at h; rw [← h]; exact tok173
    · simp only [Option.some.injEq] at h; rw [← h]; exact tok174
    · simp only [Option.some.injEq] at h; rw [← h]; exact tok175
    · simp only [Option.some.injEq] at h; rw [← h]; exact tok176
    · simp only [Option.some.injEq] at h; rw [← h]; exact tok177
    · cases h
theorem mixed : Tryd.prog.follows .mixedOrders = true := by kernel_rfl
theorem ent3 : Ents Tryd.prog 3 := enters_of Tryd.func3 (by kernel_rfl) rfl
theorem ent4 : Ents Tryd.prog 4 := enters_of Tryd.func4 (by kernel_rfl) rfl
theorem ent5 : Ents Tryd.prog 5 := enters_of Tryd.func5 (by kernel_rfl) rfl
theorem ent6 : Ents Tryd.prog 6 := enters_of Tryd.func6 (by kernel_rfl) rfl
theorem ent7 : Ents Tryd.prog 7 := enters_of Tryd.func7 (by kernel_rfl) rfl
theorem ent8 : Ents Tryd.prog 8 := enters_of Tryd.func8 (by kernel_rfl) rfl
theorem ent9 : Ents Tryd.prog 9 := enters_of Tryd.func9 (by kernel_rfl) rfl
theorem ent10 : Ents Tryd.prog 10 := enters_of Tryd.func10 (by kernel_rfl) rfl
theorem ent11 : Ents Tryd.prog 11 := enters_of Tryd.func11 (by kernel_rfl) rfl
theorem ent12 : Ents Tryd.prog 12 := enters_of Tryd.func12 (by kernel_rfl) rfl
theorem ent13 : Ents Tryd.prog 13 := enters_of Tryd.func13 (by kernel_rfl) rfl
theorem ent14 : Ents Tryd.prog 14 := enters_of Tryd.func14 (by kernel_rfl) rfl
theorem ent15 : Ents Tryd.prog 15 := enters_of Tryd.func15 (by kernel_rfl) rfl
theorem ent16 : Ents Tryd.prog 16 := enters_of Tryd.func16 (by kernel_rfl) rfl
theorem ent17 : Ents Tryd.prog 17 := enters_of Tryd.func17 (by kernel_rfl) rfl
theorem ent18 : Ents Tryd.prog 18 := enters_of Tryd.func18 (by kernel_rfl) rfl
theorem ent19 : Ents Tryd.prog 19 := enters_of Tryd.func19 (by kernel_rfl) rfl
theorem ent20 : Ents Tryd.prog 20 := enters_of Tryd.func20 (by kernel_rfl) rfl
theorem ent21 : Ents Tryd.prog 21 := enters_of Tryd.func21 (by kernel_rfl) rfl
theorem ent22 : Ents Tryd.prog 22 := enters_of Tryd.func22 (by kernel_rfl) rfl
theorem ent23 : Ents Tryd.prog 23 := enters_of Tryd.func23 (by kernel_rfl) rfl
theorem ent24 : Ents Tryd.prog 24 := enters_of Tryd.func24 (by kernel_rfl) rfl
theorem ent25 : Ents Tryd.prog 25 := enters_of Tryd.func25 (by kernel_rfl) rfl
theorem ent26 : Ents Tryd.prog 26 := enters_of Tryd.func26 (by kernel_rfl) rfl
theorem ent27 : Ents Tryd.prog 27 := enters_of Tryd.func27 (by kernel_rfl) rfl
theorem ent28 : Ents Tryd.prog 28 := enters_of Tryd.func28 (by kernel_rfl) rfl
theorem ent29 : Ents Tryd.prog 29 := enters_of Tryd.func29 (by kernel_rfl) rfl
theorem ent30 : Ents Tryd.prog 30 := enters_of Tryd.func30 (by kernel_rfl) rfl
theorem ent31 : Ents Tryd.prog 31 := enters_of Tryd.func31 (by kernel_rfl) rfl
theorem ent32 : Ents Tryd.prog 32 := enters_of Tryd.func32 (by kernel_rfl) rfl
theorem ent33 : Ents Tryd.prog 33 := enters_of Tryd.func33 (by kernel_rfl) rfl
theorem ent34 : Ents Tryd.prog 34 := enters_of Tryd.func34 (by kernel_rfl) rfl
theorem ent35 : Ents Tryd.prog 35 := enters_of Tryd.func35 (by kernel_rfl) rfl
theorem ent36 : Ents Tryd.prog 36 := enters_of Tryd.func36 (by kernel_rfl) rfl
theorem ent37 : Ents Tryd.prog 37 := enters_of Tryd.func37 (by kernel_rfl) rfl
theorem ent38 : Ents Tryd.prog 38 := enters_of Tryd.func38 (by kernel_rfl) rfl
theorem ent39 : Ents Tryd.prog 39 := enters_of Tryd.func39 (by kernel_rfl) rfl
theorem ent40 : Ents Tryd.prog 40 := enters_of Tryd.func40 (by kernel_rfl) rfl
theorem ent41 : Ents Tryd.prog 41 := enters_of Tryd.func41 (by kernel_rfl) rfl
theorem ent42 : Ents Tryd.prog 42 := enters_of Tryd.func42 (by kernel_rfl) rfl
theorem ent43 : Ents Tryd.prog 43 := enters_of Tryd.func43 (by kernel_rfl) rfl
theorem ent44 : Ents Tryd.prog 44 := enters_of Tryd.func44 (by kernel_rfl) rfl
theorem ent45 : Ents Tryd.prog 45 := enters_of Tryd.func45 (by kernel_rfl) rfl
theorem ent46 : Ents Tryd.prog 46 := enters_of Tryd.func46 (by kernel_rfl) rfl
theorem ent47 : Ents Tryd.prog 47 := enters_of Tryd.func47 (by kernel_rfl) rfl
theorem ent48 : Ents Tryd.prog 48 := enters_of Tryd.func48 (by kernel_rfl) rfl
theorem ent49 : Ents Tryd.prog 49 := enters_of Tryd.func49 (by kernel_rfl) rfl
theorem ent50 : Ents Tryd.prog 50 := enters_of Tryd.func50 (by kernel_rfl) rfl
theorem ent51 : Ents Tryd.prog 51 := enters_of Tryd.func51 (by kernel_rfl) rfl
theorem ent52 : Ents Tryd.prog 52 := enters_of Tryd.func52 (by kernel_rfl) rfl
theorem ent53 : Ents Tryd.prog 53 := enters_of Tryd.func53 (by kernel_rfl) rfl
theorem ent54 : Ents Tryd.prog 54 := enters_of Tryd.func54 (by kernel_rfl) rfl
theorem ent55 : Ents Tryd.prog 55 := enters_of Tryd.func55 (by kernel_rfl) rfl
theorem ent56 : Ents Tryd.prog 56 := enters_of Tryd.func56 (by kernel_rfl) rfl
theorem ent57 : Ents Tryd.prog 57 := enters_of Tryd.func57 (by kernel_rfl) rfl
theorem ent58 : Ents Tryd.prog 58 := enters_of Tryd.func58 (by kernel_rfl) rfl
theorem ent59 : Ents Tryd.prog 59 := enters_of Tryd.func59 (by kernel_rfl) rfl
theorem ent60 : Ents Tryd.prog 60 := enters_of Tryd.func60 (by kernel_rfl) rfl
theorem ent61 : Ents Tryd.prog 61 := enters_of Tryd.func61 (by kernel_rfl) rfl
theorem ent62 : Ents Tryd.prog 62 := enters_of Tryd.func62 (by kernel_rfl) rfl
theorem ent63 : Ents Tryd.prog 63 := enters_of Tryd.func63 (by kernel_rfl) rfl
theorem ent64 : Ents Tryd.prog 64 := enters_of Tryd.func64 (by kernel_rfl) rfl
theorem ent65 : Ents Tryd.prog 65 := enters_of Tryd.func65 (by kernel_rfl) rfl
theorem ent66 : Ents Tryd.prog 66 := enters_of Tryd.func66 (by kernel_rfl) rfl
theorem ent67 : Ents Tryd.prog 67 := enters_of Tryd.func67 (by kernel_rfl) rfl
theorem ent68 : Ents Tryd.prog 68 := enters_of Tryd.func68 (by kernel_rfl) rfl
theorem ent69 : Ents Tryd.prog 69 := enters_of Tryd.func69 (by kernel_rfl) rfl
theorem ent70 : Ents Tryd.prog 70 := enters_of Tryd.func70 (by kernel_rfl) rfl
theorem ent71 : Ents Tryd.prog 71 := enters_of Tryd.func71 (by kernel_rfl) rfl
theorem ent72 : Ents Tryd.prog 72 := enters_of Tryd.func72 (by kernel_rfl) rfl
theorem ent73 : Ents Tryd.prog 73 := enters_of Tryd.func73 (by kernel_rfl) rfl
theorem ent74 : Ents Tryd.prog 74 := enters_of Tryd.func74 (by kernel_rfl) rfl
theorem ent75 : Ents Tryd.prog 75 := enters_of Tryd.func75 (by kernel_rfl) rfl
theorem ent76 : Ents Tryd.prog 76 := enters_of Tryd.func76 (by kernel_rfl) rfl
theorem ent77 : Ents Tryd.prog 77 := enters_of Tryd.func77 (by kernel_rfl) rfl
theorem ent78 : Ents Tryd.prog 78 := enters_of Tryd.func78 (by kernel_rfl) rfl
theorem ent79 : Ents Tryd.prog 79 := enters_of Tryd.func79 (by kernel_rfl) rfl
theorem ent80 : Ents Tryd.prog 80 := enters_of Tryd.func80 (by kernel_rfl) rfl
theorem ent81 : Ents Tryd.prog 81 := enters_of Tryd.func81 (by kernel_rfl) rfl
theorem ent82 : Ents Tryd.prog 82 := enters_of Tryd.func82 (by kernel_rfl) rfl
theorem ent83 : Ents Tryd.prog 83 := enters_of Tryd.func83 (by kernel_rfl) rfl
theorem ent84 : Ents Tryd.prog 84 := enters_of Tryd.func84 (by kernel_rfl) rfl
theorem ent85 : Ents Tryd.prog 85 := enters_of Tryd.func85 (by kernel_rfl) rfl
theorem ent86 : Ents Tryd.prog 86 := enters_of Tryd.func86 (by kernel_rfl) rfl
theorem ent87 : Ents Tryd.prog 87 := enters_of Tryd.func87 (by kernel_rfl) rfl
theorem ent88 : Ents Tryd.prog 88 := enters_of Tryd.func88 (by kernel_rfl) rfl
theorem ent89 : Ents Tryd.prog 89 := enters_of Tryd.func89 (by kernel_rfl) rfl
theorem ent90 : Ents Tryd.prog 90 := enters_of Tryd.func90 (by kernel_rfl) rfl
theorem ent91 : Ents Tryd.prog 91 := enters_of Tryd.func91 (by kernel_rfl) rfl
theorem ent92 : Ents Tryd.prog 92 := enters_of Tryd.func92 (by kernel_rfl) rfl
theorem ent93 : Ents Tryd.prog 93 := enters_of Tryd.func93 (by kernel_rfl) rfl
theorem ent94 : Ents Tryd.prog 94 := enters_of Tryd.func94 (by kernel_rfl) rfl
theorem ent95 : Ents Tryd.prog 95 := enters_of Tryd.func95 (by kernel_rfl) rfl
theorem ent96 : Ents Tryd.prog 96 := enters_of Tryd.func96 (by kernel_rfl) rfl
theorem ent97 : Ents Tryd.prog 97 := enters_of Tryd.func97 (by kernel_rfl) rfl
theorem ent98 : Ents Tryd.prog 98 := enters_of Tryd.func98 (by kernel_rfl) rfl
theorem ent99 : Ents Tryd.prog 99 := enters_of Tryd.func99 (by kernel_rfl) rfl
theorem ent100 : Ents Tryd.prog 100 := enters_of Tryd.func100 (by kernel_rfl) rfl
theorem ent101 : Ents Tryd.prog 101 := enters_of Tryd.func101 (by kernel_rfl) rfl
theorem ent102 : Ents Tryd.prog 102 := enters_of Tryd.func102 (by kernel_rfl) rfl
theorem ent103 : Ents Tryd.prog 103 := enters_of Tryd.func103 (by kernel_rfl) rfl
theorem ent104 : Ents Tryd.prog 104 := enters_of Tryd.func104 (by kernel_rfl) rfl
theorem ent105 : Ents Tryd.prog 105 := enters_of Tryd.func105 (by kernel_rfl) rfl
theorem ent121 : Ents Tryd.prog 121 := enters_of Tryd.func121 (by kernel_rfl) rfl
theorem ent122 : Ents Tryd.prog 122 := enters_of Tryd.func122 (by kernel_rfl) rfl
theorem ent123 : Ents Tryd.prog 123 := enters_of Tryd.func123 (by kernel_rfl) rfl
end Go.Proofs.YtpbbneclkhfgoaaDoor
