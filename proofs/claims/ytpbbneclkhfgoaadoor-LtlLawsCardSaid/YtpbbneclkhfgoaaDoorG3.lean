/- Texts on the way to LtlLaws, one behind the other: Tab U1 U2 U3 U4 U5 U6 U7 U8. -/
import Derived.Test.YtpbbneclkhfgoaaDoorG2
import Derived.Test.YtpbbneclkhfgoaaDoorProg
import Derived.Tactics2
import Derived.Laws.Pointers
import Derived.Lib.AppendZerosOnto
import Derived.Laws.CopyRow
import Derived.WalkSpells
section
/- The table of the types of this seat's program, and that its functions are entered; made by a program of mine (tab.py) out of the dump's rows; each row is a closed fact that the kernel checks. -/
namespace Go.Proofs.YtpbbneclkhfgoaaDoor
open Go.W
set_option maxRecDepth 100000
def ti1 : TI := ⟨.func, .nilFunc, 1, 8⟩
theorem tok1 : TIok Tryd.prog 1 ti1 := ⟨⟨_, _, _, Tryd.underlying1⟩, by kernel_rfl⟩
def ti2 : TI := ⟨.int .i64, .int .i64 0, 1, 8⟩
theorem tok2 : TIok Tryd.prog 2 ti2 := ⟨Tryd.underlying2, by kernel_rfl⟩
def ti3 : TI := ⟨.int .i64, .int .i64 0, 1, 8⟩
theorem tok3 : TIok Tryd.prog 3 ti3 := ⟨Tryd.underlying3, by kernel_rfl⟩
def ti4 : TI := ⟨.bool, .bool false, 1, 1⟩
theorem tok4 : TIok Tryd.prog 4 ti4 := ⟨Tryd.underlying4, by kernel_rfl⟩
def ti5 : TI := ⟨.int .u8, .int .u8 0, 1, 1⟩
theorem tok5 : TIok Tryd.prog 5 ti5 := ⟨Tryd.underlying5, by kernel_rfl⟩
def ti6 : TI := ⟨.int .u8, .int .u8 0, 1, 1⟩
theorem tok6 : TIok Tryd.prog 6 ti6 := ⟨Tryd.underlying6, by kernel_rfl⟩
def ti7 : TI := ⟨.struct [(0, 2), (1, 3), (2, 4), (3, 6)], .agg #[.int .i64 0, .int .i64 0, .bool false, .int .u8 0], 4, 24⟩
theorem tok7 : TIok Tryd.prog 7 ti7 := ⟨⟨_, Tryd.underlying7, by kernel_rfl⟩, by kernel_rfl⟩
def ti8 : TI := ⟨.struct [(0, 2), (1, 3), (2, 4), (3, 6)], .agg #[.int .i64 0, .int .i64 0, .bool false, .int .u8 0], 4, 24⟩
theorem tok8 : TIok Tryd.prog 8 ti8 := ⟨⟨_, Tryd.underlying8, by kernel_rfl⟩, by kernel_rfl⟩
def ti9 : TI := ⟨.string, .string ⟨#[]⟩, 1, 16⟩
theorem tok9 : TIok Tryd.prog 9 ti9 := ⟨Tryd.underlying9, by kernel_rfl⟩
def ti10 : TI := ⟨.string, .string ⟨#[]⟩, 1, 16⟩
theorem tok10 : TIok Tryd.prog 10 ti10 := ⟨Tryd.underlying10, by kernel_rfl⟩
def ti11 : TI := ⟨.string, .string ⟨#[]⟩, 1, 16⟩
theorem tok11 : TIok Tryd.prog 11 ti11 := ⟨Tryd.underlying11, by kernel_rfl⟩
def ti12 : TI := ⟨.int .u64, .int .u64 0, 1, 8⟩
theorem tok12 : TIok Tryd.prog 12 ti12 := ⟨Tryd.underlying12, by kernel_rfl⟩
def ti13 : TI := ⟨.struct [(0, 9), (1, 12)], .agg #[.string ⟨#[]⟩, .int .u64 0], 2, 24⟩
theorem tok13 : TIok Tryd.prog 13 ti13 := ⟨⟨_, Tryd.underlying13, by kernel_rfl⟩, by kernel_rfl⟩
def ti14 : TI := ⟨.struct [(0, 9), (1, 12)], .agg #[.string ⟨#[]⟩, .int .u64 0], 2, 24⟩
theorem tok14 : TIok Tryd.prog 14 ti14 := ⟨⟨_, Tryd.underlying14, by kernel_rfl⟩, by kernel_rfl⟩
def ti15 : TI := ⟨.pointer 164, .pointer none, 1, 8⟩
theorem tok15 : TIok Tryd.prog 15 ti15 := ⟨Tryd.underlying15, by kernel_rfl⟩
def ti16 : TI := ⟨.pointer 167, .pointer none, 1, 8⟩
theorem tok16 : TIok Tryd.prog 16 ti16 := ⟨Tryd.underlying16, by kernel_rfl⟩
def ti17 : TI := ⟨.pointer 177, .pointer none, 1, 8⟩
theorem tok17 : TIok Tryd.prog 17 ti17 := ⟨Tryd.underlying17, by kernel_rfl⟩
def ti18 : TI := ⟨.struct [(0, 17)], .agg #[.pointer none], 1, 8⟩
theorem tok18 : TIok Tryd.prog 18 ti18 := ⟨⟨_, Tryd.underlying18, by kernel_rfl⟩, by kernel_rfl⟩
def ti19 : TI := ⟨.struct [(0, 17)], .agg #[.pointer none], 1, 8⟩
theorem tok19 : TIok Tryd.prog 19 ti19 := ⟨⟨_, Tryd.underlying19, by kernel_rfl⟩, by kernel_rfl⟩
def ti20 : TI := ⟨.iface, .nilIface, 1, 16⟩
theorem tok20 : TIok Tryd.prog 20 ti20 := ⟨⟨_, Tryd.underlying20⟩, by kernel_rfl⟩
def ti21 : TI := ⟨.int .i32, .int .i32 0, 1, 4⟩
theorem tok21 : TIok Tryd.prog 21 ti21 := ⟨Tryd.underlying21, by kernel_rfl⟩
def ti22 : TI := ⟨.slice 3, .slice none 0 0, 1, 24⟩
theorem tok22 : TIok Tryd.prog 22 ti22 := ⟨Tryd.underlying22, by kernel_rfl⟩
def ti23 : TI := ⟨.struct [(0, 22), (1, 22)], .agg #[.slice none 0 0, .slice none 0 0], 2, 48⟩
theorem tok23 : TIok Tryd.prog 23 ti23 := ⟨⟨_, Tryd.underlying23, by kernel_rfl⟩, by kernel_rfl⟩
def ti24 : TI := ⟨.struct [(0, 22), (1, 22)], .agg #[.slice none 0 0, .slice none 0 0], 2, 48⟩
theorem tok24 : TIok Tryd.prog 24 ti24 := ⟨⟨_, Tryd.underlying24, by kernel_rfl⟩, by kernel_rfl⟩
def ti25 : TI := ⟨.func, .nilFunc, 1, 8⟩
theorem tok25 : TIok Tryd.prog 25 ti25 := ⟨⟨_, _, _, Tryd.underlying25⟩, by kernel_rfl⟩
def ti26 : TI := ⟨.func, .nilFunc, 1, 8⟩
theorem tok26 : TIok Tryd.prog 26 ti26 := ⟨⟨_, _, _, Tryd.underlying26⟩, by kernel_rfl⟩
def ti27 : TI := ⟨.int .i64, .int .i64 0, 1, 8⟩
theorem tok27 : TIok Tryd.prog 27 ti27 := ⟨Tryd.underlying27, by kernel_rfl⟩
def ti29 : TI := ⟨.func, .nilFunc, 1, 8⟩
theorem tok29 : TIok Tryd.prog 29 ti29 := ⟨⟨_, _, _, Tryd.underlying29⟩, by kernel_rfl⟩
def ti30 : TI := ⟨.func, .nilFunc, 1, 8⟩
theorem tok30 : TIok Tryd.prog 30 ti30 := ⟨⟨_, _, _, Tryd.underlying30⟩, by kernel_rfl⟩
def ti31 : TI := ⟨.slice 98, .slice none 0 0, 1, 24⟩
theorem tok31 : TIok Tryd.prog 31 ti31 := ⟨Tryd.underlying31, by kernel_rfl⟩
def ti32 : TI := ⟨.slice 98, .slice none 0 0, 1, 24⟩
theorem tok32 : TIok Tryd.prog 32 ti32 := ⟨Tryd.underlying32, by kernel_rfl⟩
def ti34 : TI := ⟨.func, .nilFunc, 1, 8⟩
theorem tok34 : TIok Tryd.prog 34 ti34 := ⟨⟨_, _, _, Tryd.underlying34⟩, by kernel_rfl⟩
def ti35 : TI := ⟨.func, .nilFunc, 1, 8⟩
theorem tok35 : TIok Tryd.prog 35 ti35 := ⟨⟨_, _, _, Tryd.underlying35⟩, by kernel_rfl⟩
def ti36 : TI := ⟨.func, .nilFunc, 1, 8⟩
theorem tok36 : TIok Tryd.prog 36 ti36 := ⟨⟨_, _, _, Tryd.underlying36⟩, by kernel_rfl⟩
def ti37 : TI := ⟨.func, .nilFunc, 1, 8⟩
theorem tok37 : TIok Tryd.prog 37 ti37 := ⟨⟨_, _, _, Tryd.underlying37⟩, by kernel_rfl⟩
def ti39 : TI := ⟨.func, .nilFunc, 1, 8⟩
theorem tok39 : TIok Tryd.prog 39 ti39 := ⟨⟨_, _, _, Tryd.underlying39⟩, by kernel_rfl⟩
def ti40 : TI := ⟨.func, .nilFunc, 1, 8⟩
theorem tok40 : TIok Tryd.prog 40 ti40 := ⟨⟨_, _, _, Tryd.underlying40⟩, by kernel_rfl⟩
def ti41 : TI := ⟨.func, .nilFunc, 1, 8⟩
theorem tok41 : TIok Tryd.prog 41 ti41 := ⟨⟨_, _, _, Tryd.underlying41⟩, by kernel_rfl⟩
def ti42 : TI := ⟨.slice 22, .slice none 0 0, 1, 24⟩
theorem tok42 : TIok Tryd.prog 42 ti42 := ⟨Tryd.underlying42, by kernel_rfl⟩
def ti43 : TI := ⟨.struct [(0, 42), (1, 22)], .agg #[.slice none 0 0, .slice none 0 0], 2, 48⟩
theorem tok43 : TIok Tryd.prog 43 ti43 := ⟨⟨_, Tryd.underlying43, by kernel_rfl⟩, by kernel_rfl⟩
def ti44 : TI := ⟨.struct [(0, 42), (1, 22)], .agg #[.slice none 0 0, .slice none 0 0], 2, 48⟩
theorem tok44 : TIok Tryd.prog 44 ti44 := ⟨⟨_, Tryd.underlying44, by kernel_rfl⟩, by kernel_rfl⟩
def ti45 : TI := ⟨.func, .nilFunc, 1, 8⟩
theorem tok45 : TIok Tryd.prog 45 ti45 := ⟨⟨_, _, _, Tryd.underlying45⟩, by kernel_rfl⟩
def ti46 : TI := ⟨.func, .nilFunc, 1, 8⟩
theorem tok46 : TIok Tryd.prog 46 ti46 := ⟨⟨_, _, _, Tryd.underlying46⟩, by kernel_rfl⟩
def ti47 : TI := ⟨.struct [(0, 4), (1, 22), (2, 22)], .agg #[.bool false, .slice none 0 0, .slice none 0 0], 3, 56⟩
theorem tok47 : TIok Tryd.prog 47 ti47 := ⟨⟨_, Tryd.underlying47, by kernel_rfl⟩, by kernel_rfl⟩
def ti48 : TI := ⟨.struct [(0, 4), (1, 22), (2, 22)], .agg #[.bool false, .slice none 0 0, .slice none 0 0], 3, 56⟩
theorem tok48 : TIok Tryd.prog 48 ti48 := ⟨⟨_, Tryd.underlying48, by kernel_rfl⟩, by kernel_rfl⟩
def ti50 : TI := ⟨.func, .nilFunc, 1, 8⟩
theorem tok50 : TIok Tryd.prog 50 ti50 := ⟨⟨_, _, _, Tryd.underlying50⟩, by kernel_rfl⟩
def ti51 : TI := ⟨.func, .nilFunc, 1, 8⟩
theorem tok51 : TIok Tryd.prog 51 ti51 := ⟨⟨_, _, _, Tryd.underlying51⟩, by kernel_rfl⟩
def ti52 : TI := ⟨.func, .nilFunc, 1, 8⟩
theorem tok52 : TIok Tryd.prog 52 ti52 := ⟨⟨_, _, _, Tryd.underlying52⟩, by kernel_rfl⟩
def ti53 : TI := ⟨.func, .nilFunc, 1, 8⟩
theorem tok53 : TIok Tryd.prog 53 ti53 := ⟨⟨_, _, _, Tryd.underlying53⟩, by kernel_rfl⟩
def ti54 : TI := ⟨.func, .nilFunc, 1, 8⟩
theorem tok54 : TIok Tryd.prog 54 ti54 := ⟨⟨_, _, _, Tryd.underlying54⟩, by kernel_rfl⟩
def ti55 : TI := ⟨.func, .nilFunc, 1, 8⟩
theorem tok55 : TIok Tryd.prog 55 ti55 := ⟨⟨_, _, _, Tryd.underlying55⟩, by kernel_rfl⟩
def ti56 : TI := ⟨.func, .nilFunc, 1, 8⟩
theorem tok56 : TIok Tryd.prog 56 ti56 := ⟨⟨_, _, _, Tryd.underlying56⟩, by kernel_rfl⟩
def ti57 : TI := ⟨.func, .nilFunc, 1, 8⟩
theorem tok57 : TIok Tryd.prog 57 ti57 := ⟨⟨_, _, _, Tryd.underlying57⟩, by kernel_rfl⟩
def ti58 : TI := ⟨.func, .nilFunc, 1, 8⟩
theorem tok58 : TIok Tryd.prog 58 ti58 := ⟨⟨_, _, _, Tryd.underlying58⟩, by kernel_rfl⟩
def ti59 : TI := ⟨.func, .nilFunc, 1, 8⟩
theorem tok59 : TIok Tryd.prog 59 ti59 := ⟨⟨_, _, _, Tryd.underlying59⟩, by kernel_rfl⟩
def ti60 : TI := ⟨.func, .nilFunc, 1, 8⟩
theorem tok60 : TIok Tryd.prog 60 ti60 := ⟨⟨_, _, _, Tryd.underlying60⟩, by kernel_rfl⟩
def ti62 : TI := ⟨.func, .nilFunc, 1, 8⟩
theorem tok62 : TIok Tryd.prog 62 ti62 := ⟨⟨_, _, _, Tryd.underlying62⟩, by kernel_rfl⟩
def ti63 : TI := ⟨.func, .nilFunc, 1, 8⟩
theorem tok63 : TIok Tryd.prog 63 ti63 := ⟨⟨_, _, _, Tryd.underlying63⟩, by kernel_rfl⟩
def ti64 : TI := ⟨.func, .nilFunc, 1, 8⟩
theorem tok64 : TIok Tryd.prog 64 ti64 := ⟨⟨_, _, _, Tryd.underlying64⟩, by kernel_rfl⟩
def ti65 : TI := ⟨.func, .nilFunc, 1, 8⟩
theorem tok65 : TIok Tryd.prog 65 ti65 := ⟨⟨_, _, _, Tryd.underlying65⟩, by kernel_rfl⟩
def ti66 : TI := ⟨.struct [(0, 9), (1, 9)], .agg #[.string ⟨#[]⟩, .string ⟨#[]⟩], 2, 32⟩
theorem tok66 : TIok Tryd.prog 66 ti66 := ⟨⟨_, Tryd.underlying66, by kernel_rfl⟩, by kernel_rfl⟩
def ti67 : TI := ⟨.struct [(0, 9), (1, 9)], .agg #[.string ⟨#[]⟩, .string ⟨#[]⟩], 2, 32⟩
theorem tok67 : TIok Tryd.prog 67 ti67 := ⟨⟨_, Tryd.underlying67, by kernel_rfl⟩, by kernel_rfl⟩
def ti68 : TI := ⟨.array 2 9, .agg #[.string ⟨#[]⟩, .string ⟨#[]⟩], 2, 32⟩
theorem tok68 : TIok Tryd.prog 68 ti68 := ⟨Tryd.underlying68, by kernel_rfl⟩
def ti69 : TI := ⟨.array 12 68, .agg #[.string ⟨#[]⟩, .string ⟨#[]⟩, .string ⟨#[]⟩, .string ⟨#[]⟩, .string ⟨#[]⟩, .string ⟨#[]⟩, .string ⟨#[]⟩, .string ⟨#[]⟩, .string ⟨#[]⟩, .string ⟨#[]⟩, .string ⟨#[]⟩, .string ⟨#[]⟩, .string ⟨#[]⟩, .string ⟨#[]⟩, .string ⟨#[]⟩, .string ⟨#[]⟩, .string ⟨#[]⟩, .string ⟨#[]⟩, .string ⟨#[]⟩, .string ⟨#[]⟩, .string ⟨#[]⟩, .string ⟨#[]⟩, .string ⟨#[]⟩, .string ⟨#[]⟩], 24, 384⟩
theorem tok69 : TIok Tryd.prog 69 ti69 := ⟨Tryd.underlying69, by kernel_rfl⟩
def ti70 : TI := ⟨.func, .nilFunc, 1, 8⟩
theorem tok70 : TIok Tryd.prog 70 ti70 := ⟨⟨_, _, _, Tryd.underlying70⟩, by kernel_rfl⟩
def ti71 : TI := ⟨.func, .nilFunc, 1, 8⟩
theorem tok71 : TIok Tryd.prog 71 ti71 := ⟨⟨_, _, _, Tryd.underlying71⟩, by kernel_rfl⟩
def ti72 : TI := ⟨.func, .nilFunc, 1, 8⟩
theorem tok72 : TIok Tryd.prog 72 ti72 := ⟨⟨_, _, _, Tryd.underlying72⟩, by kernel_rfl⟩
def ti73 : TI := ⟨.func, .nilFunc, 1, 8⟩
theorem tok73 : TIok Tryd.prog 73 ti73 := ⟨⟨_, _, _, Tryd.underlying73⟩, by kernel_rfl⟩
def ti74 : TI := ⟨.func, .nilFunc, 1, 8⟩
theorem tok74 : TIok Tryd.prog 74 ti74 := ⟨⟨_, _, _, Tryd.underlying74⟩, by kernel_rfl⟩
def ti75 : TI := ⟨.func, .nilFunc, 1, 8⟩
theorem tok75 : TIok Tryd.prog 75 ti75 := ⟨⟨_, _, _, Tryd.underlying75⟩, by kernel_rfl⟩
def ti76 : TI := ⟨.func, .nilFunc, 1, 8⟩
theorem tok76 : TIok Tryd.prog 76 ti76 := ⟨⟨_, _, _, Tryd.underlying76⟩, by kernel_rfl⟩
def ti77 : TI := ⟨.func, .nilFunc, 1, 8⟩
theorem tok77 : TIok Tryd.prog 77 ti77 := ⟨⟨_, _, _, Tryd.underlying77⟩, by kernel_rfl⟩
def ti78 : TI := ⟨.func, .nilFunc, 1, 8⟩
theorem tok78 : TIok Tryd.prog 78 ti78 := ⟨⟨_, _, _, Tryd.underlying78⟩, by kernel_rfl⟩
def ti79 : TI := ⟨.array 2 3, .agg #[.int .i64 0, .int .i64 0], 2, 16⟩
theorem tok79 : TIok Tryd.prog 79 ti79 := ⟨Tryd.underlying79, by kernel_rfl⟩
def ti80 : TI := ⟨.func, .nilFunc, 1, 8⟩
theorem tok80 : TIok Tryd.prog 80 ti80 := ⟨⟨_, _, _, Tryd.underlying80⟩, by kernel_rfl⟩
def ti81 : TI := ⟨.func, .nilFunc, 1, 8⟩
theorem tok81 : TIok Tryd.prog 81 ti81 := ⟨⟨_, _, _, Tryd.underlying81⟩, by kernel_rfl⟩
def ti82 : TI := ⟨.struct [(0, 22), (1, 3)], .agg #[.slice none 0 0, .int .i64 0], 2, 32⟩
theorem tok82 : TIok Tryd.prog 82 ti82 := ⟨⟨_, Tryd.underlying82, by kernel_rfl⟩, by kernel_rfl⟩
def ti83 : TI := ⟨.struct [(0, 22), (1, 3)], .agg #[.slice none 0 0, .int .i64 0], 2, 32⟩
theorem tok83 : TIok Tryd.prog 83 ti83 := ⟨⟨_, Tryd.underlying83, by kernel_rfl⟩, by kernel_rfl⟩
def ti84 : TI := ⟨.func, .nilFunc, 1, 8⟩
theorem tok84 : TIok Tryd.prog 84 ti84 := ⟨⟨_, _, _, Tryd.underlying84⟩, by kernel_rfl⟩
def ti85 : TI := ⟨.func, .nilFunc, 1, 8⟩
theorem tok85 : TIok Tryd.prog 85 ti85 := ⟨⟨_, _, _, Tryd.underlying85⟩, by kernel_rfl⟩
def ti86 : TI := ⟨.iface, .nilIface, 1, 16⟩
theorem tok86 : TIok Tryd.prog 86 ti86 := ⟨⟨_, Tryd.underlying86⟩, by kernel_rfl⟩
def ti87 : TI := ⟨.iface, .nilIface, 1, 16⟩
theorem tok87 : TIok Tryd.prog 87 ti87 := ⟨⟨_, Tryd.underlying87⟩, by kernel_rfl⟩
def ti89 : TI := ⟨.func, .nilFunc, 1, 8⟩
theorem tok89 : TIok Tryd.prog 89 ti89 := ⟨⟨_, _, _, Tryd.underlying89⟩, by kernel_rfl⟩
def ti90 : TI := ⟨.slice 4, .slice none 0 0, 1, 24⟩
theorem tok90 : TIok Tryd.prog 90 ti90 := ⟨Tryd.underlying90, by kernel_rfl⟩
def ti91 : TI := ⟨.func, .nilFunc, 1, 8⟩
theorem tok91 : TIok Tryd.prog 91 ti91 := ⟨⟨_, _, _, Tryd.underlying91⟩, by kernel_rfl⟩
def ti92 : TI := ⟨.slice 9, .slice none 0 0, 1, 24⟩
theorem tok92 : TIok Tryd.prog 92 ti92 := ⟨Tryd.underlying92, by kernel_rfl⟩
def ti93 : TI := ⟨.func, .nilFunc, 1, 8⟩
theorem tok93 : TIok Tryd.prog 93 ti93 := ⟨⟨_, _, _, Tryd.underlying93⟩, by kernel_rfl⟩
def ti95 : TI := ⟨.func, .nilFunc, 1, 8⟩
theorem tok95 : TIok Tryd.prog 95 ti95 := ⟨⟨_, _, _, Tryd.underlying95⟩, by kernel_rfl⟩
def ti96 : TI := ⟨.slice 90, .slice none 0 0, 1, 24⟩
theorem tok96 : TIok Tryd.prog 96 ti96 := ⟨Tryd.underlying96, by kernel_rfl⟩
def ti97 : TI := ⟨.struct [(0, 9), (1, 3), (2, 3)], .agg #[.string ⟨#[]⟩, .int .i64 0, .int .i64 0], 3, 32⟩
theorem tok97 : TIok Tryd.prog 97 ti97 := ⟨⟨_, Tryd.underlying97, by kernel_rfl⟩, by kernel_rfl⟩
def ti98 : TI := ⟨.struct [(0, 9), (1, 3), (2, 3)], .agg #[.string ⟨#[]⟩, .int .i64 0, .int .i64 0], 3, 32⟩
theorem tok98 : TIok Tryd.prog 98 ti98 := ⟨⟨_, Tryd.underlying98, by kernel_rfl⟩, by kernel_rfl⟩
def ti99 : TI := ⟨.func, .nilFunc, 1, 8⟩
theorem tok99 : TIok Tryd.prog 99 ti99 := ⟨⟨_, _, _, Tryd.underlying99⟩, by kernel_rfl⟩
def ti100 : TI := ⟨.func, .nilFunc, 1, 8⟩
theorem tok100 : TIok Tryd.prog 100 ti100 := ⟨⟨_, _, _, Tryd.underlying100⟩, by kernel_rfl⟩
def ti101 : TI := ⟨.func, .nilFunc, 1, 8⟩
theorem tok101 : TIok Tryd.prog 101 ti101 := ⟨⟨_, _, _, Tryd.underlying101⟩, by kernel_rfl⟩
def ti102 : TI := ⟨.func, .nilFunc, 1, 8⟩
theorem tok102 : TIok Tryd.prog 102 ti102 := ⟨⟨_, _, _, Tryd.underlying102⟩, by kernel_rfl⟩
def ti103 : TI := ⟨.func, .nilFunc, 1, 8⟩
theorem tok103 : TIok Tryd.prog 103 ti103 := ⟨⟨_, _, _, Tryd.underlying103⟩, by kernel_rfl⟩
def ti104 : TI := ⟨.int .u64, .int .u64 0, 1, 8⟩
theorem tok104 : TIok Tryd.prog 104 ti104 := ⟨Tryd.underlying104, by kernel_rfl⟩
def ti105 : TI := ⟨.func, .nilFunc, 1, 8⟩
theorem tok105 : TIok Tryd.prog 105 ti105 := ⟨⟨_, _, _, Tryd.underlying105⟩, by kernel_rfl⟩
def ti106 : TI := ⟨.func, .nilFunc, 1, 8⟩
theorem tok106 : TIok Tryd.prog 106 ti106 := ⟨⟨_, _, _, Tryd.underlying106⟩, by kernel_rfl⟩
def ti107 : TI := ⟨.struct [(0, 9), (1, 87), (2, 87)], .agg #[.string ⟨#[]⟩, .nilIface, .nilIface], 3, 48⟩
theorem tok107 : TIok Tryd.prog 107 ti107 := ⟨⟨_, Tryd.underlying107, by kernel_rfl⟩, by kernel_rfl⟩
def ti108 : TI := ⟨.struct [(0, 9), (1, 87), (2, 87)], .agg #[.string ⟨#[]⟩, .nilIface, .nilIface], 3, 48⟩
theorem tok108 : TIok Tryd.prog 108 ti108 := ⟨⟨_, Tryd.underlying108, by kernel_rfl⟩, by kernel_rfl⟩
def ti109 : TI := ⟨.slice 87, .slice none 0 0, 1, 24⟩
theorem tok109 : TIok Tryd.prog 109 ti109 := ⟨Tryd.underlying109, by kernel_rfl⟩
def ti111 : TI := ⟨.pointer 140, .pointer none, 1, 8⟩
theorem tok111 : TIok Tryd.prog 111 ti111 := ⟨Tryd.underlying111, by kernel_rfl⟩
def ti112 : TI := ⟨.func, .nilFunc, 1, 8⟩
theorem tok112 : TIok Tryd.prog 112 ti112 := ⟨⟨_, _, _, Tryd.underlying112⟩, by kernel_rfl⟩
def ti113 : TI := ⟨.func, .nilFunc, 1, 8⟩
theorem tok113 : TIok Tryd.prog 113 ti113 := ⟨⟨_, _, _, Tryd.underlying113⟩, by kernel_rfl⟩
def ti114 : TI := ⟨.func, .nilFunc, 1, 8⟩
theorem tok114 : TIok Tryd.prog 114 ti114 := ⟨⟨_, _, _, Tryd.underlying114⟩, by kernel_rfl⟩
def ti115 : TI := ⟨.func, .nilFunc, 1, 8⟩
theorem tok115 : TIok Tryd.prog 115 ti115 := ⟨⟨_, _, _, Tryd.underlying115⟩, by kernel_rfl⟩
def ti116 : TI := ⟨.func, .nilFunc, 1, 8⟩
theorem tok116 : TIok Tryd.prog 116 ti116 := ⟨⟨_, _, _, Tryd.underlying116⟩, by kernel_rfl⟩
def ti117 : TI := ⟨.func, .nilFunc, 1, 8⟩
theorem tok117 : TIok Tryd.prog 117 ti117 := ⟨⟨_, _, _, Tryd.underlying117⟩, by kernel_rfl⟩
def ti118 : TI := ⟨.func, .nilFunc, 1, 8⟩
theorem tok118 : TIok Tryd.prog 118 ti118 := ⟨⟨_, _, _, Tryd.underlying118⟩, by kernel_rfl⟩
def ti119 : TI := ⟨.func, .nilFunc, 1, 8⟩
theorem tok119 : TIok Tryd.prog 119 ti119 := ⟨⟨_, _, _, Tryd.underlying119⟩, by kernel_rfl⟩
def ti120 : TI := ⟨.func, .nilFunc, 1, 8⟩
theorem tok120 : TIok Tryd.prog 120 ti120 := ⟨⟨_, _, _, Tryd.underlying120⟩, by kernel_rfl⟩
def ti121 : TI := ⟨.func, .nilFunc, 1, 8⟩
theorem tok121 : TIok Tryd.prog 121 ti121 := ⟨⟨_, _, _, Tryd.underlying121⟩, by kernel_rfl⟩
def ti122 : TI := ⟨.func, .nilFunc, 1, 8⟩
theorem tok122 : TIok Tryd.prog 122 ti122 := ⟨⟨_, _, _, Tryd.underlying122⟩, by kernel_rfl⟩
def ti123 : TI := ⟨.pointer 125, .pointer none, 1, 8⟩
theorem tok123 : TIok Tryd.prog 123 ti123 := ⟨Tryd.underlying123, by kernel_rfl⟩
def ti124 : TI := ⟨.struct [(0, 92), (1, 3)], .agg #[.slice none 0 0, .int .i64 0], 2, 32⟩
theorem tok124 : TIok Tryd.prog 124 ti124 := ⟨⟨_, Tryd.underlying124, by kernel_rfl⟩, by kernel_rfl⟩
def ti125 : TI := ⟨.struct [(0, 92), (1, 3)], .agg #[.slice none 0 0, .int .i64 0], 2, 32⟩
theorem tok125 : TIok Tryd.prog 125 ti125 := ⟨⟨_, Tryd.underlying125, by kernel_rfl⟩, by kernel_rfl⟩
def ti126 : TI := ⟨.func, .nilFunc, 1, 8⟩
theorem tok126 : TIok Tryd.prog 126 ti126 := ⟨⟨_, _, _, Tryd.underlying126⟩, by kernel_rfl⟩
def ti127 : TI := ⟨.func, .nilFunc, 1, 8⟩
theorem tok127 : TIok Tryd.prog 127 ti127 := ⟨⟨_, _, _, Tryd.underlying127⟩, by kernel_rfl⟩
def ti128 : TI := ⟨.struct [(0, 9)], .agg #[.string ⟨#[]⟩], 1, 16⟩
theorem tok128 : TIok Tryd.prog 128 ti128 := ⟨⟨_, Tryd.underlying128, by kernel_rfl⟩, by kernel_rfl⟩
def ti129 : TI := ⟨.struct [(0, 9)], .agg #[.string ⟨#[]⟩], 1, 16⟩
theorem tok129 : TIok Tryd.prog 129 ti129 := ⟨⟨_, Tryd.underlying129, by kernel_rfl⟩, by kernel_rfl⟩
def ti130 : TI := ⟨.func, .nilFunc, 1, 8⟩
theorem tok130 : TIok Tryd.prog 130 ti130 := ⟨⟨_, _, _, Tryd.underlying130⟩, by kernel_rfl⟩
def ti131 : TI := ⟨.struct [(0, 9), (1, 87)], .agg #[.string ⟨#[]⟩, .nilIface], 2, 32⟩
theorem tok131 : TIok Tryd.prog 131 ti131 := ⟨⟨_, Tryd.underlying131, by kernel_rfl⟩, by kernel_rfl⟩
def ti132 : TI := ⟨.struct [(0, 9), (1, 87)], .agg #[.string ⟨#[]⟩, .nilIface], 2, 32⟩
theorem tok132 : TIok Tryd.prog 132 ti132 := ⟨⟨_, Tryd.underlying132, by kernel_rfl⟩, by kernel_rfl⟩
def ti133 : TI := ⟨.func, .nilFunc, 1, 8⟩
theorem tok133 : TIok Tryd.prog 133 ti133 := ⟨⟨_, _, _, Tryd.underlying133⟩, by kernel_rfl⟩
def ti134 : TI := ⟨.func, .nilFunc, 1, 8⟩
theorem tok134 : TIok Tryd.prog 134 ti134 := ⟨⟨_, _, _, Tryd.underlying134⟩, by kernel_rfl⟩
def ti135 : TI := ⟨.func, .nilFunc, 1, 8⟩
theorem tok135 : TIok Tryd.prog 135 ti135 := ⟨⟨_, _, _, Tryd.underlying135⟩, by kernel_rfl⟩
def ti136 : TI := ⟨.map 9 9, .map none, 1, 8⟩
theorem tok136 : TIok Tryd.prog 136 ti136 := ⟨Tryd.underlying136, by kernel_rfl⟩
def ti138 : TI := ⟨.array 10 9, .agg #[.string ⟨#[]⟩, .string ⟨#[]⟩, .string ⟨#[]⟩, .string ⟨#[]⟩, .string ⟨#[]⟩, .string ⟨#[]⟩, .string ⟨#[]⟩, .string ⟨#[]⟩, .string ⟨#[]⟩, .string ⟨#[]⟩], 10, 160⟩
theorem tok138 : TIok Tryd.prog 138 ti138 := ⟨Tryd.underlying138, by kernel_rfl⟩
def ti139 : TI := ⟨.struct [(0, 44), (2, 3), (3, 109), (4, 3), (5, 22), (6, 90), (7, 22)], .agg #[.slice none 0 0, .slice none 0 0, .int .i64 0, .slice none 0 0, .int .i64 0, .slice none 0 0, .slice none 0 0, .slice none 0 0], 8, 160⟩
theorem tok139 : TIok Tryd.prog 139 ti139 := ⟨⟨_, Tryd.underlying139, by kernel_rfl⟩, by kernel_rfl⟩
def ti140 : TI := ⟨.struct [(0, 44), (2, 3), (3, 109), (4, 3), (5, 22), (6, 90), (7, 22)], .agg #[.slice none 0 0, .slice none 0 0, .int .i64 0, .slice none 0 0, .int .i64 0, .slice none 0 0, .slice none 0 0, .slice none 0 0], 8, 160⟩
theorem tok140 : TIok Tryd.prog 140 ti140 := ⟨⟨_, Tryd.underlying140, by kernel_rfl⟩, by kernel_rfl⟩
def ti141 : TI := ⟨.func, .nilFunc, 1, 8⟩
theorem tok141 : TIok Tryd.prog 141 ti141 := ⟨⟨_, _, _, Tryd.underlying141⟩, by kernel_rfl⟩
def ti142 : TI := ⟨.pointer 144, .pointer none, 1, 8⟩
theorem tok142 : TIok Tryd.prog 142 ti142 := ⟨Tryd.underlying142, by kernel_rfl⟩
def ti143 : TI := ⟨.struct [(0, 3), (1, 3), (2, 3), (3, 3), (4, 3)], .agg #[.int .i64 0, .int .i64 0, .int .i64 0, .int .i64 0, .int .i64 0], 5, 40⟩
theorem tok143 : TIok Tryd.prog 143 ti143 := ⟨⟨_, Tryd.underlying143, by kernel_rfl⟩, by kernel_rfl⟩
def ti144 : TI := ⟨.struct [(0, 3), (1, 3), (2, 3), (3, 3), (4, 3)], .agg #[.int .i64 0, .int .i64 0, .int .i64 0, .int .i64 0, .int .i64 0], 5, 40⟩
theorem tok144 : TIok Tryd.prog 144 ti144 := ⟨⟨_, Tryd.underlying144, by kernel_rfl⟩, by kernel_rfl⟩
def ti145 : TI := ⟨.func, .nilFunc, 1, 8⟩
theorem tok145 : TIok Tryd.prog 145 ti145 := ⟨⟨_, _, _, Tryd.underlying145⟩, by kernel_rfl⟩
def ti146 : TI := ⟨.func, .nilFunc, 1, 8⟩
theorem tok146 : TIok Tryd.prog 146 ti146 := ⟨⟨_, _, _, Tryd.underlying146⟩, by kernel_rfl⟩
def ti147 : TI := ⟨.map 3 3, .map none, 1, 8⟩
theorem tok147 : TIok Tryd.prog 147 ti147 := ⟨Tryd.underlying147, by kernel_rfl⟩
def ti148 : TI := ⟨.map 3 4, .map none, 1, 8⟩
theorem tok148 : TIok Tryd.prog 148 ti148 := ⟨Tryd.underlying148, by kernel_rfl⟩
def ti149 : TI := ⟨.func, .nilFunc, 1, 8⟩
theorem tok149 : TIok Tryd.prog 149 ti149 := ⟨⟨_, _, _, Tryd.underlying149⟩, by kernel_rfl⟩
def ti150 : TI := ⟨.func, .nilFunc, 1, 8⟩
theorem tok150 : TIok Tryd.prog 150 ti150 := ⟨⟨_, _, _, Tryd.underlying150⟩, by kernel_rfl⟩
def ti151 : TI := ⟨.struct [(0, 27)], .agg #[.int .i64 0], 1, 8⟩
theorem tok151 : TIok Tryd.prog 151 ti151 := ⟨⟨_, Tryd.underlying151, by kernel_rfl⟩, by kernel_rfl⟩
def ti152 : TI := ⟨.struct [(0, 27)], .agg #[.int .i64 0], 1, 8⟩
theorem tok152 : TIok Tryd.prog 152 ti152 := ⟨⟨_, Tryd.underlying152, by kernel_rfl⟩, by kernel_rfl⟩
def ti153 : TI := ⟨.func, .nilFunc, 1, 8⟩
theorem tok153 : TIok Tryd.prog 153 ti153 := ⟨⟨_, _, _, Tryd.underlying153⟩, by kernel_rfl⟩
def ti154 : TI := ⟨.func, .nilFunc, 1, 8⟩
theorem tok154 : TIok Tryd.prog 154 ti154 := ⟨⟨_, _, _, Tryd.underlying154⟩, by kernel_rfl⟩
def ti156 : TI := ⟨.func, .nilFunc, 1, 8⟩
theorem tok156 : TIok Tryd.prog 156 ti156 := ⟨⟨_, _, _, Tryd.underlying156⟩, by kernel_rfl⟩
def ti157 : TI := ⟨.func, .nilFunc, 1, 8⟩
theorem tok157 : TIok Tryd.prog 157 ti157 := ⟨⟨_, _, _, Tryd.underlying157⟩, by kernel_rfl⟩
def ti158 : TI := ⟨.map 79 22, .map none, 1, 8⟩
theorem tok158 : TIok Tryd.prog 158 ti158 := ⟨Tryd.underlying158, by kernel_rfl⟩
def ti159 : TI := ⟨.func, .nilFunc, 1, 8⟩
theorem tok159 : TIok Tryd.prog 159 ti159 := ⟨⟨_, _, _, Tryd.underlying159⟩, by kernel_rfl⟩
def ti161 : TI := ⟨.func, .nilFunc, 1, 8⟩
theorem tok161 : TIok Tryd.prog 161 ti161 := ⟨⟨_, _, _, Tryd.underlying161⟩, by kernel_rfl⟩
def ti162 : TI := ⟨.func, .nilFunc, 1, 8⟩
theorem tok162 : TIok Tryd.prog 162 ti162 := ⟨⟨_, _, _, Tryd.underlying162⟩, by kernel_rfl⟩
def ti163 : TI := ⟨.struct [(0, 17), (1, 17), (2, 17), (3, 9)], .agg #[.pointer none, .pointer none, .pointer none, .string ⟨#[]⟩], 4, 40⟩
theorem tok163 : TIok Tryd.prog 163 ti163 := ⟨⟨_, Tryd.underlying163, by kernel_rfl⟩, by kernel_rfl⟩
def ti164 : TI := ⟨.struct [(0, 17), (1, 17), (2, 17), (3, 9)], .agg #[.pointer none, .pointer none, .pointer none, .string ⟨#[]⟩], 4, 40⟩
theorem tok164 : TIok Tryd.prog 164 ti164 := ⟨⟨_, Tryd.underlying164, by kernel_rfl⟩, by kernel_rfl⟩
def ti165 : TI := ⟨.array 0 16, .agg #[], 0, 0⟩
theorem tok165 : TIok Tryd.prog 165 ti165 := ⟨Tryd.underlying165, by kernel_rfl⟩
def ti166 : TI := ⟨.struct [(0, 165)], .agg #[], 0, 0⟩
theorem tok166 : TIok Tryd.prog 166 ti166 := ⟨⟨_, Tryd.underlying166, by kernel_rfl⟩, by kernel_rfl⟩
def ti167 : TI := ⟨.struct [(0, 165)], .agg #[], 0, 0⟩
theorem tok167 : TIok Tryd.prog 167 ti167 := ⟨⟨_, Tryd.underlying167, by kernel_rfl⟩, by kernel_rfl⟩
def ti168 : TI := ⟨.func, .nilFunc, 1, 8⟩
theorem tok168 : TIok Tryd.prog 168 ti168 := ⟨⟨_, _, _, Tryd.underlying168⟩, by kernel_rfl⟩
def ti169 : TI := ⟨.int .u32, .int .u32 0, 1, 4⟩
theorem tok169 : TIok Tryd.prog 169 ti169 := ⟨Tryd.underlying169, by kernel_rfl⟩
def ti170 : TI := ⟨.int .u8, .int .u8 0, 1, 1⟩
theorem tok170 : TIok Tryd.prog 170 ti170 := ⟨Tryd.underlying170, by kernel_rfl⟩
def ti171 : TI := ⟨.int .u8, .int .u8 0, 1, 1⟩
theorem tok171 : TIok Tryd.prog 171 ti171 := ⟨Tryd.underlying171, by kernel_rfl⟩
def ti172 : TI := ⟨.func, .nilFunc, 1, 8⟩
theorem tok172 : TIok Tryd.prog 172 ti172 := ⟨⟨_, _, _, Tryd.underlying172⟩, by kernel_rfl⟩
def ti173 : TI := ⟨.pointer 5, .pointer none, 1, 8⟩
theorem tok173 : TIok Tryd.prog 173 ti173 := ⟨Tryd.underlying173, by kernel_rfl⟩
def ti174 : TI := ⟨.int .i32, .int .i32 0, 1, 4⟩
theorem tok174 : TIok Tryd.prog 174 ti174 := ⟨Tryd.underlying174, by kernel_rfl⟩
def ti175 : TI := ⟨.int .i32, .int .i32 0, 1, 4⟩
theorem tok175 : TIok Tryd.prog 175 ti175 := ⟨Tryd.underlying175, by kernel_rfl⟩
def ti176 : TI := ⟨.struct [(0, 12), (1, 12), (2, 169), (3, 170), (4, 5), (5, 5), (6, 171), (7, 172), (8, 173), (9, 174), (10, 175)], .agg #[.int .u64 0, .int .u64 0, .int .u32 0, .int .u8 0, .int .u8 0, .int .u8 0, .int .u8 0, .nilFunc, .pointer none, .int .i32 0, .int .i32 0], 11, 48⟩
theorem tok176 : TIok Tryd.prog 176 ti176 := ⟨⟨_, Tryd.underlying176, by kernel_rfl⟩, by kernel_rfl⟩
def ti177 : TI := ⟨.struct [(0, 12), (1, 12), (2, 169), (3, 170), (4, 5), (5, 5), (6, 171), (7, 172), (8, 173), (9, 174), (10, 175)], .agg #[.int .u64 0, .int .u64 0, .int .u32 0, .int .u8 0, .int .u8 0, .int .u8 0, .int .u8 0, .nilFunc, .pointer none, .int .i32 0, .int .i32 0], 11, 48⟩
theorem tok177 : TIok Tryd.prog 177 ti177 := ⟨⟨_, Tryd.underlying177, by kernel_rfl⟩, by kernel_rfl⟩
def tiAll : Nat → Option TI
  | 1 => some ti1
  | 2 => some ti2
  | 3 => some ti3
  | 4 => some ti4
  | 5 => some ti5
  | 6 => some ti6
  | 7 => some ti7
  | 8 => some ti8
  | 9 => some ti9
  | 10 => some ti10
  | 11 => some ti11
  | 12 => some ti12
  | 13 => some ti13
  | 14 => some ti14
  | 15 => some ti15
  | 16 => some ti16
  | 17 => some ti17
  | 18 => some ti18
  | 19 => some ti19
  | 20 => some ti20
  | 21 => some ti21
  | 22 => some ti22
  | 23 => some ti23
  | 24 => some ti24
  | 25 => some ti25
  | 26 => some ti26
  | 27 => some ti27
  | 29 => some ti29
  | 30 => some ti30
  | 31 => some ti31
  | 32 => some ti32
  | 34 => some ti34
  | 35 => some ti35
  | 36 => some ti36
  | 37 => some ti37
  | 39 => some ti39
  | 40 => some ti40
  | 41 => some ti41
  | 42 => some ti42
  | 43 => some ti43
  | 44 => some ti44
  | 45 => some ti45
  | 46 => some ti46
  | 47 => some ti47
  | 48 => some ti48
  | 50 => some ti50
  | 51 => some ti51
  | 52 => some ti52
  | 53 => some ti53
  | 54 => some ti54
  | 55 => some ti55
  | 56 => some ti56
  | 57 => some ti57
  | 58 => some ti58
  | 59 => some ti59
  | 60 => some ti60
  | 62 => some ti62
  | 63 => some ti63
  | 64 => some ti64
  | 65 => some ti65
  | 66 => some ti66
  | 67 => some ti67
  | 68 => some ti68
  | 69 => some ti69
  | 70 => some ti70
  | 71 => some ti71
  | 72 => some ti72
  | 73 => some ti73
  | 74 => some ti74
  | 75 => some ti75
  | 76 => some ti76
  | 77 => some ti77
  | 78 => some ti78
  | 79 => some ti79
  | 80 => some ti80
  | 81 => some ti81
  | 82 => some ti82
  | 83 => some ti83
  | 84 => some ti84
  | 85 => some ti85
  | 86 => some ti86
  | 87 => some ti87
  | 89 => some ti89
  | 90 => some ti90
  | 91 => some ti91
  | 92 => some ti92
  | 93 => some ti93
  | 95 => some ti95
  | 96 => some ti96
  | 97 => some ti97
  | 98 => some ti98
  | 99 => some ti99
  | 100 => some ti100
  | 101 => some ti101
  | 102 => some ti102
  | 103 => some ti103
  | 104 => some ti104
  | 105 => some ti105
  | 106 => some ti106
  | 107 => some ti107
  | 108 => some ti108
  | 109 => some ti109
  | 111 => some ti111
  | 112 => some ti112
  | 113 => some ti113
  | 114 => some ti114
  | 115 => some ti115
  | 116 => some ti116
  | 117 => some ti117
  | 118 => some ti118
  | 119 => some ti119
  | 120 => some ti120
  | 121 => some ti121
  | 122 => some ti122
  | 123 => some ti123
  | 124 => some ti124
  | 125 => some ti125
  | 126 => some ti126
  | 127 => some ti127
  | 128 => some ti128
  | 129 => some ti129
  | 130 => some ti130
  | 131 => some ti131
  | 132 => some ti132
  | 133 => some ti133
  | 134 => some ti134
  | 135 => some ti135
  | 136 => some ti136
  | 138 => some ti138
  | 139 => some ti139
  | 140 => some ti140
  | 141 => some ti141
  | 142 => some ti142
  | 143 => some ti143
  | 144 => some ti144
  | 145 => some ti145
  | 146 => some ti146
  | 147 => some ti147
  | 148 => some ti148
  | 149 => some ti149
  | 150 => some ti150
  | 151 => some ti151
  | 152 => some ti152
  | 153 => some ti153
  | 154 => some ti154
  | 156 => some ti156
  | 157 => some ti157
  | 158 => some ti158
  | 159 => some ti159
  | 161 => some ti161
  | 162 => some ti162
  | 163 => some ti163
  | 164 => some ti164
  | 165 => some ti165
  | 166 => some ti166
  | 167 => some ti167
  | 168 => some ti168
  | 169 => some ti169
  | 170 => some ti170
  | 171 => some ti171
  | 172 => some ti172
  | 173 => some ti173
  | 174 => some ti174
  | 175 => some ti175
  | 176 => some ti176
  | 177 => some ti177
  | _ => none
instance : TT Tryd.prog where
  ti := tiAll
  ok := by
    intro t i h
    unfold tiAll at h
    split at h
    · simp only [Option.some.injEq] at h; rw [← h]; exact tok1
    · simp only [Option.some.injEq] at h; rw [← h]; exact tok2
    · simp only [Option.some.injEq] at h; rw [← h]; exact tok3
    · simp only [Option.some.injEq] at h; rw [← h]; exact tok4
    · simp only [Option.some.injEq] at h; rw [← h]; exact tok5
    · simp only [Option.some.injEq] at h; rw [← h]; exact tok6
    · simp only [Option.some.injEq] at h; rw [← h]; exact tok7
    · simp only [Option.some.injEq] at h; rw [← h]; exact tok8
    · simp only [Option.some.injEq] at h; rw [← h]; exact tok9
    · simp only [Option.some.injEq] at h; rw [← h]; exact tok10
    · simp only [Option.some.injEq] at h; rw [← h]; exact tok11
    · simp only [Option.some.injEq] at h; rw [← h]; exact tok12
    · simp only [Option.some.injEq] at h; rw [← h]; exact tok13
    · simp only [Option.some.injEq] at h; rw [← h]; exact tok14
    · simp only [Option.some.injEq] at h; rw [← h]; exact tok15
    · simp only [Option.some.injEq] at h; rw [← h]; exact tok16
    · simp only [Option.some.injEq] at h; rw [← h]; exact tok17
    · simp only [Option.some.injEq] at h; rw [← h]; exact tok18
    · simp only [Option.some.injEq] at h; rw [← h]; exact tok19
    · simp only [Option.some.injEq] at h; rw [← h]; exact tok20
    · simp only [Option.some.injEq] at h; rw [← h]; exact tok21
    · simp only [Option.some.injEq] at h; rw [← h]; exact tok22
    · simp only [Option.some.injEq] at h; rw [← h]; exact tok23
    · simp only [Option.some.injEq] at h; rw [← h]; exact tok24
    · simp only [Option.some.injEq] at h; rw [← h]; exact tok25
    · simp only [Option.some.injEq] at h; rw [← h]; exact tok26
    · simp only [Option.some.injEq] at h; rw [← h]; exact tok27
    · simp only [Option.some.injEq] at h; rw [← h]; exact tok29
    · simp only [Option.some.injEq] at h; rw [← h]; exact tok30
    · simp only [Option.some.injEq] at h; rw [← h]; exact tok31
    · simp only [Option.some.injEq] at h; rw [← h]; exact tok32
    · simp only [Option.some.injEq] at h; rw [← h]; exact tok34
    · simp only [Option.some.injEq] at h; rw [← h]; exact tok35
    · simp only [Option.some.injEq] at h; rw [← h]; exact tok36
    · simp only [Option.some.injEq] at h; rw [← h]; exact tok37
    · simp only [Option.some.injEq] at h; rw [← h]; exact tok39
    · simp only [Option.some.injEq] at h; rw [← h]; exact tok40
    · simp only [Option.some.injEq] at h; rw [← h]; exact tok41
    · simp only [Option.some.injEq] at h; rw [← h]; exact tok42
    · simp only [Option.some.injEq] at h; rw [← h]; exact tok43
    · simp only [Option.some.injEq] at h; rw [← h]; exact tok44
    · simp only [Option.some.injEq] at h; rw [← h]; exact tok45
    · simp only [Option.some.injEq] at h; rw [← h]; exact tok46
    · simp only [Option.some.injEq] at h; rw [← h]; exact tok47
    · simp only [Option.some.injEq] at h; rw [← h]; exact tok48
    · simp only [Option.some.injEq] at h; rw [← h]; exact tok50
    · simp only [Option.some.injEq] at h; rw [← h]; exact tok51
    · simp only [Option.some.injEq] at h; rw [← h]; exact tok52
    · simp only [Option.some.injEq] at h; rw [← h]; exact tok53
    · simp only [Option.some.injEq] at h; rw [← h]; exact tok54
    · simp only [Option.some.injEq] at h; rw [← h]; exact tok55
    · simp only [Option.some.injEq] at h; rw [← h]; exact tok56
    · simp only [Option.some.injEq] at h; rw [← h]; exact tok57
    · simp only [Option.some.injEq] at h; rw [← h]; exact tok58
    · simp only [Option.some.injEq] at h; rw [← h]; exact tok59
    · simp only [Option.some.injEq] at h; rw [← h]; exact tok60
    · simp only [Option.some.injEq] at h; rw [← h]; exact tok62
    · simp only [Option.some.injEq] at h; rw [← h]; exact tok63
    · simp only [Option.some.injEq] at h; rw [← h]; exact tok64
    · simp only [Option.some.injEq] at h; rw [← h]; exact tok65
    · simp only [Option.some.injEq] at h; rw [← h]; exact tok66
    · simp only [Option.some.injEq] at h; rw [← h]; exact tok67
    · simp only [Option.some.injEq] at h; rw [← h]; exact tok68
    · simp only [Option.some.injEq] at h; rw [← h]; exact tok69
    · simp only [Option.some.injEq] at h; rw [← h]; exact tok70
    · simp only [Option.some.injEq] at h; rw [← h]; exact tok71
    · simp only [Option.some.injEq] at h; rw [← h]; exact tok72
    · simp only [Option.some.injEq] at h; rw [← h]; exact tok73
    · simp only [Option.some.injEq] at h; rw [← h]; exact tok74
    · simp only [Option.some.injEq] at h; rw [← h]; exact tok75
    · simp only [Option.some.injEq] at h; rw [← h]; exact tok76
    · simp only [Option.some.injEq] at h; rw [← h]; exact tok77
    · simp only [Option.some.injEq] at h; rw [← h]; exact tok78
    · simp only [Option.some.injEq] at h; rw [← h]; exact tok79
    · simp only [Option.some.injEq] at h; rw [← h]; exact tok80
    · simp only [Option.some.injEq] at h; rw [← h]; exact tok81
    · simp only [Option.some.injEq] at h; rw [← h]; exact tok82
    · simp only [Option.some.injEq] at h; rw [← h]; exact tok83
    · simp only [Option.some.injEq] at h; rw [← h]; exact tok84
    · simp only [Option.some.injEq] at h; rw [← h]; exact tok85
    · simp only [Option.some.injEq] at h; rw [← h]; exact tok86
    · simp only [Option.some.injEq] at h; rw [← h]; exact tok87
    · simp only [Option.some.injEq] at h; rw [← h]; exact tok89
    · simp only [Option.some.injEq] at h; rw [← h]; exact tok90
    · simp only [Option.some.injEq] at h; rw [← h]; exact tok91
    · simp only [Option.some.injEq] at h; rw [← h]; exact tok92
    · simp only [Option.some.injEq] at h; rw [← h]; exact tok93
    · simp only [Option.some.injEq] at h; rw [← h]; exact tok95
    · simp only [Option.some.injEq] at h; rw [← h]; exact tok96
    · simp only [Option.some.injEq] at h; rw [← h]; exact tok97
    · simp only [Option.some.injEq] at h; rw [← h]; exact tok98
    · simp only [Option.some.injEq] at h; rw [← h]; exact tok99
    · simp only [Option.some.injEq] at h; rw [← h]; exact tok100
    · simp only [Option.some.injEq] at h; rw [← h]; exact tok101
    · simp only [Option.some.injEq] at h; rw [← h]; exact tok102
    · simp only [Option.some.injEq] at h; rw [← h]; exact tok103
    · simp only [Option.some.injEq] at h; rw [← h]; exact tok104
    · simp only [Option.some.injEq] at h; rw [← h]; exact tok105
    · simp only [Option.some.injEq] at h; rw [← h]; exact tok106
    · simp only [Option.some.injEq] at h; rw [← h]; exact tok107
    · simp only [Option.some.injEq] at h; rw [← h]; exact tok108
    · simp only [Option.some.injEq] at h; rw [← h]; exact tok109
    · simp only [Option.some.injEq] at h; rw [← h]; exact tok111
    · simp only [Option.some.injEq] at h; rw [← h]; exact tok112
    · simp only [Option.some.injEq] at h; rw [← h]; exact tok113
    · simp only [Option.some.injEq] at h; rw [← h]; exact tok114
    · simp only [Option.some.injEq] at h; rw [← h]; exact tok115
    · simp only [Option.some.injEq] at h; rw [← h]; exact tok116
    · simp only [Option.some.injEq] at h; rw [← h]; exact tok117
    · simp only [Option.some.injEq] at h; rw [← h]; exact tok118
    · simp only [Option.some.injEq] at h; rw [← h]; exact tok119
    · simp only [Option.some.injEq] at h; rw [← h]; exact tok120
    · simp only [Option.some.injEq] at h; rw [← h]; exact tok121
    · simp only [Option.some.injEq] at h; rw [← h]; exact tok122
    · simp only [Option.some.injEq] at h; rw [← h]; exact tok123
    · simp only [Option.some.injEq] at h; rw [← h]; exact tok124
    · simp only [Option.some.injEq] at h; rw [← h]; exact tok125
    · simp only [Option.some.injEq] at h; rw [← h]; exact tok126
    · simp only [Option.some.injEq] at h; rw [← h]; exact tok127
    · simp only [Option.some.injEq] at h; rw [← h]; exact tok128
    · simp only [Option.some.injEq] at h; rw [← h]; exact tok129
    · simp only [Option.some.injEq] at h; rw [← h]; exact tok130
    · simp only [Option.some.injEq] at h; rw [← h]; exact tok131
    · simp only [Option.some.injEq] at h; rw [← h]; exact tok132
    · simp only [Option.some.injEq] at h; rw [← h]; exact tok133
    · simp only [Option.some.injEq] at h; rw [← h]; exact tok134
    · simp only [Option.some.injEq] at h; rw [← h]; exact tok135
    · simp only [Option.some.injEq] at h; rw [← h]; exact tok136
    · simp only [Option.some.injEq] at h; rw [← h]; exact tok138
    · simp only [Option.some.injEq] at h; rw [← h]; exact tok139
    · simp only [Option.some.injEq] at h; rw [← h]; exact tok140
    · simp only [Option.some.injEq] at h; rw [← h]; exact tok141
    · simp only [Option.some.injEq] at h; rw [← h]; exact tok142
    · simp only [Option.some.injEq] at h; rw [← h]; exact tok143
    · simp only [Option.some.injEq] at h; rw [← h]; exact tok144
    · simp only [Option.some.injEq] at h; rw [← h]; exact tok145
    · simp only [Option.some.injEq] at h; rw [← h]; exact tok146
    · simp only [Option.some.injEq] at h; rw [← h]; exact tok147
    · simp only [Option.some.injEq] at h; rw [← h]; exact tok148
    · simp only [Option.some.injEq] at h; rw [← h]; exact tok149
    · simp only [Option.some.injEq] at h; rw [← h]; exact tok150
    · simp only [Option.some.injEq] at h; rw [← h]; exact tok151
    · simp only [Option.some.injEq] at h; rw [← h]; exact tok152
    · simp only [Option.some.injEq] at h; rw [← h]; exact tok153
    · simp only [Option.some.injEq] at h; rw [← h]; exact tok154
    · simp only [Option.some.injEq] at h; rw [← h]; exact tok156
    · simp only [Option.some.injEq] at h; rw [← h]; exact tok157
    · simp only [Option.some.injEq] at h; rw [← h]; exact tok158
    · simp only [Option.some.injEq] at h; rw [← h]; exact tok159
    · simp only [Option.some.injEq] at h; rw [← h]; exact tok161
    · simp only [Option.some.injEq] at h; rw [← h]; exact tok162
    · simp only [Option.some.injEq] at h; rw [← h]; exact tok163
    · simp only [Option.some.injEq] at h; rw [← h]; exact tok164
    · simp only [Option.some.injEq] at h; rw [← h]; exact tok165
    · simp only [Option.some.injEq] at h; rw [← h]; exact tok166
    · simp only [Option.some.injEq] at h; rw [← h]; exact tok167
    · simp only [Option.some.injEq] at h; rw [← h]; exact tok168
    · simp only [Option.some.injEq] at h; rw [← h]; exact tok169
    · simp only [Option.some.injEq] at h; rw [← h]; exact tok170
    · simp only [Option.some.injEq] at h; rw [← h]; exact tok171
    · simp only [Option.some.injEq] at h; rw [← h]; exact tok172
    · simp only [Option.some.injEq] at h; rw [← h]; exact tok173
    · simp only [Option.some.injEq] at h; rw [← h]; exact tok174
    · simp only [Option.some.injEq] at h; rw [← h]; exact tok175
    · simp only [Option.some.injEq] at h; rw [← h]; exact tok176
    · simp only [Option.some.injEq] at h; rw [← h]; exact tok177
    · cases h
theorem mixed : Tryd.prog.follows .mixedOrders = true := by kernel_rfl
theorem ent16 : Ents Tryd.prog 16 := enters_of Tryd.func16 (by kernel_rfl) rfl
theorem ent17 : Ents Tryd.prog 17 := enters_of Tryd.func17 (by kernel_rfl) rfl
theorem ent19 : Ents Tryd.prog 19 := enters_of Tryd.func19 (by kernel_rfl) rfl
theorem ent20 : Ents Tryd.prog 20 := enters_of Tryd.func20 (by kernel_rfl) rfl
theorem ent22 : Ents Tryd.prog 22 := enters_of Tryd.func22 (by kernel_rfl) rfl
theorem ent26 : Ents Tryd.prog 26 := enters_of Tryd.func26 (by kernel_rfl) rfl
theorem ent29 : Ents Tryd.prog 29 := enters_of Tryd.func29 (by kernel_rfl) rfl
theorem ent30 : Ents Tryd.prog 30 := enters_of Tryd.func30 (by kernel_rfl) rfl
theorem ent43 : Ents Tryd.prog 43 := enters_of Tryd.func43 (by kernel_rfl) rfl
theorem ent44 : Ents Tryd.prog 44 := enters_of Tryd.func44 (by kernel_rfl) rfl
theorem ent45 : Ents Tryd.prog 45 := enters_of Tryd.func45 (by kernel_rfl) rfl
theorem ent46 : Ents Tryd.prog 46 := enters_of Tryd.func46 (by kernel_rfl) rfl
theorem ent47 : Ents Tryd.prog 47 := enters_of Tryd.func47 (by kernel_rfl) rfl
theorem ent48 : Ents Tryd.prog 48 := enters_of Tryd.func48 (by kernel_rfl) rfl
theorem ent49 : Ents Tryd.prog 49 := enters_of Tryd.func49 (by kernel_rfl) rfl
theorem ent50 : Ents Tryd.prog 50 := enters_of Tryd.func50 (by kernel_rfl) rfl
theorem ent51 : Ents Tryd.prog 51 := enters_of Tryd.func51 (by kernel_rfl) rfl
theorem ent53 : Ents Tryd.prog 53 := enters_of Tryd.func53 (by kernel_rfl) rfl
theorem ent55 : Ents Tryd.prog 55 := enters_of Tryd.func55 (by kernel_rfl) rfl
theorem ent56 : Ents Tryd.prog 56 := enters_of Tryd.func56 (by kernel_rfl) rfl
theorem ent57 : Ents Tryd.prog 57 := enters_of Tryd.func57 (by kernel_rfl) rfl
theorem ent58 : Ents Tryd.prog 58 := enters_of Tryd.func58 (by kernel_rfl) rfl
theorem ent59 : Ents Tryd.prog 59 := enters_of Tryd.func59 (by kernel_rfl) rfl
theorem ent60 : Ents Tryd.prog 60 := enters_of Tryd.func60 (by kernel_rfl) rfl
theorem ent61 : Ents Tryd.prog 61 := enters_of Tryd.func61 (by kernel_rfl) rfl
theorem ent69 : Ents Tryd.prog 69 := enters_of Tryd.func69 (by kernel_rfl) rfl
theorem ent70 : Ents Tryd.prog 70 := enters_of Tryd.func70 (by kernel_rfl) rfl
theorem ent71 : Ents Tryd.prog 71 := enters_of Tryd.func71 (by kernel_rfl) rfl
theorem ent72 : Ents Tryd.prog 72 := enters_of Tryd.func72 (by kernel_rfl) rfl
theorem ent73 : Ents Tryd.prog 73 := enters_of Tryd.func73 (by kernel_rfl) rfl
theorem ent74 : Ents Tryd.prog 74 := enters_of Tryd.func74 (by kernel_rfl) rfl
theorem ent75 : Ents Tryd.prog 75 := enters_of Tryd.func75 (by kernel_rfl) rfl
theorem ent76 : Ents Tryd.prog 76 := enters_of Tryd.func76 (by kernel_rfl) rfl
theorem ent77 : Ents Tryd.prog 77 := enters_of Tryd.func77 (by kernel_rfl) rfl
theorem ent78 : Ents Tryd.prog 78 := enters_of Tryd.func78 (by kernel_rfl) rfl
theorem ent79 : Ents Tryd.prog 79 := enters_of Tryd.func79 (by kernel_rfl) rfl
theorem ent80 : Ents Tryd.prog 80 := enters_of Tryd.func80 (by kernel_rfl) rfl
theorem ent81 : Ents Tryd.prog 81 := enters_of Tryd.func81 (by kernel_rfl) rfl
theorem ent82 : Ents Tryd.prog 82 := enters_of Tryd.func82 (by kernel_rfl) rfl
theorem ent83 : Ents Tryd.prog 83 := enters_of Tryd.func83 (by kernel_rfl) rfl
theorem ent84 : Ents Tryd.prog 84 := enters_of Tryd.func84 (by kernel_rfl) rfl
theorem ent85 : Ents Tryd.prog 85 := enters_of Tryd.func85 (by kernel_rfl) rfl
theorem ent86 : Ents Tryd.prog 86 := enters_of Tryd.func86 (by kernel_rfl) rfl
theorem ent87 : Ents Tryd.prog 87 := enters_of Tryd.func87 (by kernel_rfl) rfl
theorem ent88 : Ents Tryd.prog 88 := enters_of Tryd.func88 (by kernel_rfl) rfl
theorem ent89 : Ents Tryd.prog 89 := enters_of Tryd.func89 (by kernel_rfl) rfl
theorem ent90 : Ents Tryd.prog 90 := enters_of Tryd.func90 (by kernel_rfl) rfl
theorem ent91 : Ents Tryd.prog 91 := enters_of Tryd.func91 (by kernel_rfl) rfl
theorem ent92 : Ents Tryd.prog 92 := enters_of Tryd.func92 (by kernel_rfl) rfl
theorem ent93 : Ents Tryd.prog 93 := enters_of Tryd.func93 (by kernel_rfl) rfl
theorem ent94 : Ents Tryd.prog 94 := enters_of Tryd.func94 (by kernel_rfl) rfl
theorem ent96 : Ents Tryd.prog 96 := enters_of Tryd.func96 (by kernel_rfl) rfl
theorem ent97 : Ents Tryd.prog 97 := enters_of Tryd.func97 (by kernel_rfl) rfl
theorem ent98 : Ents Tryd.prog 98 := enters_of Tryd.func98 (by kernel_rfl) rfl
theorem ent99 : Ents Tryd.prog 99 := enters_of Tryd.func99 (by kernel_rfl) rfl
theorem ent100 : Ents Tryd.prog 100 := enters_of Tryd.func100 (by kernel_rfl) rfl
theorem ent101 : Ents Tryd.prog 101 := enters_of Tryd.func101 (by kernel_rfl) rfl
theorem ent102 : Ents Tryd.prog 102 := enters_of Tryd.func102 (by kernel_rfl) rfl
theorem ent103 : Ents Tryd.prog 103 := enters_of Tryd.func103 (by kernel_rfl) rfl
theorem ent105 : Ents Tryd.prog 105 := enters_of Tryd.func105 (by kernel_rfl) rfl
end Go.Proofs.YtpbbneclkhfgoaaDoor
end
section
/- ltl, first: panics and guard. -/
namespace Go.W
open Go.RowKit
theorem wrap_mid {z : Int} (h0 : -9223372036854775808 ≤ z) (h1 : z < 9223372036854775808) : IntKind.i64.wrap z = z := by rw [IntKind.wrap_i64]; omega
theorem wrap_succ {i n : Nat} (h : i < n) (hn : n ≤ 9223372036854775807) : IntKind.i64.wrap ((i : Int) + 1) = ((i + 1 : Nat) : Int) := by rw [wrap_mid (by omega) (by omega)]; omega
/-- What fail reports. -/
abbrev tr (k : Int) : List PanicEntry := [{ v := .iface 152 (.agg #[.int .i64 k]), recovered := false }]
/-- Where an error is kept. -/
abbrev erB (b : Nat) (k : Int) : Ent := .blk b (.cells #[.int .i64 k] 27 (0, 0))
end Go.W
namespace Go.Proofs.YtpbbneclkhfgoaaDoor
open Go.W Go.Ltl
set_option maxRecDepth 100000
attribute [local irreducible] WC WL WQ WS WH
theorem fail_z (k : Int) (w : World) {Z : Pan} (hz : Z (tr k) w) : RetZ Tryd.prog 75 [.int .i64 k] w (fun _ _ => False) Z := by
  refine enterZ Tryd.func75 rfl rfl ⟨rfl, rfl⟩ rfl ?_
  repeat (first | refine zA ?_ | refine zB ?_ | refine zC rfl rfl rfl ?_ | refine zD ?_ | refine zE ?_ | refine zF ?_ | refine zG rfl ?_ | refine zH rfl ?_ | refine zI rfl rfl rfl ?_ | refine zJ rfl rfl ?_ | refine zK ?_ | refine zL ?_ | refine zM rfl ?_ | refine zN ?_)
  refine WL.buildT rfl rfl rfl rfl rfl rfl ?_
  refine WL.val rfl rfl rfl (yMkI rfl rfl rfl) ?_
  exact WL.panicI rfl rfl rfl hz
theorem recov_p (b : Nat) (k k0 : Int) {w0 w : World} {L : List Ent} (hp : Hp w0 w (erB b k0 :: L)) :
    CallsD Tryd.prog 96 #[.pointer (some ⟨b, 0, none⟩)] (.panicking (tr k)) w fun e u w' => u = .panicking [{ v := .iface 152 (.agg #[.int .i64 k]), recovered := true }] ∧ ∃ r, e = .returned r ∧ Hp w0 w' (erB b k :: L) := by
  refine rec_enter (args := [.pointer (some ⟨b, 0, none⟩)]) Tryd.func96 rfl rfl ⟨rfl, rfl⟩ rfl (.inl ⟨[], rfl, rfl⟩) ?_
  repeat (first | refine zA ?_ | refine zB ?_ | refine zC rfl rfl rfl ?_ | refine zD ?_ | refine zE ?_ | refine zF ?_ | refine zG rfl ?_ | refine zH rfl ?_ | refine zI rfl rfl rfl ?_ | refine zJ rfl rfl ?_ | refine zK ?_ | refine zL ?_ | refine zM rfl ?_ | refine zN ?_)
  refine WL.val rfl rfl rfl (yEqI rfl rfl) ?_
  repeat (first | refine zA ?_ | refine zB ?_ | refine zC rfl rfl rfl ?_ | refine zD ?_ | refine zE ?_ | refine zF ?_ | refine zG rfl ?_ | refine zH rfl ?_ | refine zI rfl rfl rfl ?_ | refine zJ rfl rfl ?_ | refine zK ?_ | refine zL ?_ | refine zM rfl ?_ | refine zN ?_)
  refine WL.val rfl rfl rfl (yAsT rfl rfl rfl) ?_
  repeat (first | refine zA ?_ | refine zB ?_ | refine zC rfl rfl rfl ?_ | refine zD ?_ | refine zE ?_ | refine zF ?_ | refine zG rfl ?_ | refine zH rfl ?_ | refine zI rfl rfl rfl ?_ | refine zJ rfl rfl ?_ | refine zK ?_ | refine zL ?_ | refine zM rfl ?_ | refine zN ?_)
  refine WL.alloc rfl rfl rfl (fun b2 w2 h2 => ?_)
  have hp2 := hp.new h2
  refine WL.storeN rfl rfl rfl rfl rfl (by simp [Value.oneCell']) (hp2.obj 0 rfl) (Nat.le_refl _) rfl (fun w3 h3 => ?_)
  have hp3 := hp2.set 0 rfl rfl h3
  repeat (first | refine zA ?_ | refine zB ?_ | refine zC rfl rfl rfl ?_ | refine zD ?_ | refine zE ?_ | refine zF ?_ | refine zG rfl ?_ | refine zH rfl ?_ | refine zI rfl rfl rfl ?_ | refine zJ rfl rfl ?_ | refine zK ?_ | refine zL ?_ | refine zM rfl ?_ | refine zN ?_)
  refine WL.loadB rfl rfl rfl rfl rfl (hp3.obj 0 rfl) rfl ?_
  refine WL.store rfl rfl rfl rfl rfl rfl (hp3.obj 1 rfl) (Nat.lt_succ_self 0) (fun w4 h4 => ?_)
  have hp4 := hp3.set 1 rfl rfl h4
  repeat (first | refine zA ?_ | refine zB ?_ | refine zC rfl rfl rfl ?_ | refine zD ?_ | refine zE ?_ | refine zF ?_ | refine zG rfl ?_ | refine zH rfl ?_ | refine zI rfl rfl rfl ?_ | refine zJ rfl rfl ?_ | refine zK ?_ | refine zL ?_ | refine zM rfl ?_ | refine zN ?_)
  exact Res.zero rfl rfl hp4.tail
theorem recov_n (b : Nat) (k0 : Int) {w0 w : World} {L : List Ent} (hp : Hp w0 w (erB b k0 :: L)) :
    CallsD Tryd.prog 96 #[.pointer (some ⟨b, 0, none⟩)] .returning w fun e u w' => u = .returning ∧ ∃ r, e = .returned r ∧ Hp w0 w' (erB b k0 :: L) := by
  refine rec_enter (args := [.pointer (some ⟨b, 0, none⟩)]) Tryd.func96 rfl rfl ⟨rfl, rfl⟩ rfl (.inr ⟨rfl, rfl, rfl⟩) ?_
  repeat (first | refine zA ?_ | refine zB ?_ | refine zC rfl rfl rfl ?_ | refine zD ?_ | refine zE ?_ | refine zF ?_ | refine zG rfl ?_ | refine zH rfl ?_ | refine zI rfl rfl rfl ?_ | refine zJ rfl rfl ?_ | refine zK ?_ | refine zL ?_ | refine zM rfl ?_ | refine zN ?_)
  refine WL.val rfl rfl rfl (yEqN rfl rfl) ?_
  repeat (first | refine zA ?_ | refine zB ?_ | refine zC rfl rfl rfl ?_ | refine zD ?_ | refine zE ?_ | refine zF ?_ | refine zG rfl ?_ | refine zH rfl ?_ | refine zI rfl rfl rfl ?_ | refine zJ rfl rfl ?_ | refine zK ?_ | refine zL ?_ | refine zM rfl ?_ | refine zN ?_)
  exact Res.zero rfl rfl hp
theorem guard_any {σ τ : Type} {fi ca : List Value} {f : FuncId} (hE : Ents Tryd.prog f) {w0 w : World} {L : List Ent} {A : σ → List Ent} {φ : σ → Prop} {B : τ → List Ent} {k : τ → Int} {ψ : τ → Prop} (hp : Hp w0 w L)
    (h : ∀ b w1, Hp w0 w1 (erB b 0 :: L) → RetZ Tryd.prog f (fi ++ ca) w1 (fun _ w' => ∃ s, Hp w0 w' (erB b 0 :: A s) ∧ φ s) (fun ch w' => ∃ s, ch = tr (k s) ∧ Hp w0 w' (erB b 0 :: B s) ∧ ψ s)) :
    Ret Tryd.prog 71 [.func (.func f) fi.toArray ca.toArray] w (fun v w' => (∃ s, v = .int .i64 0 ∧ Hp w0 w' (A s) ∧ φ s) ∨ ∃ s, v = .int .i64 (k s) ∧ Hp w0 w' (B s) ∧ ψ s) := by
  go_enter_defers Tryd.func71, Tryd.ntmps71
  go_wp2
  have hb := hp.new (newB w (.cells #[.int .i64 0] 27 (0, 0)))
  have e1 : (callFunc f (fi ++ ca).toArray).run Tryd.prog (w.alloc (Obj.cells #[Value.int IntKind.i64 0] 27)) = .ok (.enter f (fi ++ ca).toArray) (w.alloc (Obj.cells #[Value.int IntKind.i64 0] 27)) := hE _ _
  rw [e1]
  show Calls _ _ _ _ _
  refine Calls.mono (h _ _ hb) ?_
  rintro en w' (⟨v, rfl, s, hp', hs⟩ | ⟨ch, rfl, s, rfl, hp', hs⟩)
  · rename_i K1 a1 K2 a2
    refine a2 _ _ ?_
    refine wpList_nil ?_
    refine a1 _ _ ?_
    have hcell : w'.cell? ⟨w.heap.size, 0, none⟩ = some (.int .i64 0) := cell_of_obj (hp'.obj 0 rfl) rfl
    have hfr : w'.frozen? ⟨w.heap.size, 0, none⟩ = false := frozen_of_row w' _ 0 _ _ (hp'.obj 0 rfl)
    have hset := setB_cell (j := 0) (hp'.obj 0 rfl) (.int .i64 0)
    have hp2 := hp'.set 0 rfl rfl hset
    go_wp2
    refine leaves_cons (f := 96) (args := #[.pointer (some ⟨w.heap.size, 0, none⟩)]) (by simp) (by rw [show invoke _ _ = callFunc _ _ from rfl]; exact @ent96 _ _) ?_
    refine (recov_n _ _ hp2).mono ?_
    rintro e u' w'' ⟨rfl, r, rfl, hp3⟩
    have hc3 : w''.cell? ⟨w.heap.size, 0, none⟩ = some (.int .i64 0) := cell_of_obj (hp3.obj 0 rfl) rfl
    show Leaves _ _ _ _ [] .returning _
    refine ⟨.int .i64 0, ?_, .int .i64 0, rfl, .inl ⟨s, rfl, hp3.tail, hs⟩⟩
    simp [results, Tryd.results71, go_sem, hc3]
  · refine leaves_cons (f := 96) (args := #[.pointer (some ⟨w.heap.size, 0, none⟩)]) (by simp) (by rw [show invoke _ _ = callFunc _ _ from rfl]; exact @ent96 _ _) ?_
    refine (recov_p _ _ _ hp').mono ?_
    rintro e u' w'' ⟨rfl, r, rfl, hp3⟩
    have hc3 : w''.cell? ⟨w.heap.size, 0, none⟩ = some (.int .i64 (k s)) := cell_of_obj (hp3.obj 0 rfl) rfl
    show Leaves _ _ _ _ [] .returning _
    refine ⟨.int .i64 (k s), ?_, .int .i64 (k s), rfl, .inr ⟨s, rfl, hp3.tail, hs⟩⟩
    simp [results, Tryd.results71, go_sem, hc3]
end Go.Proofs.YtpbbneclkhfgoaaDoor
end
section
/- ltl, second: the words of a string. -/
namespace Go.Proofs.YtpbbneclkhfgoaaDoor
open Go.W Go.Ltl Go.RowKit
set_option maxRecDepth 100000
attribute [local irreducible] WC WL WQ WS WH

/-- A row of strings. -/
abbrev Rs (v : Value) (P : List Str) : Ent := .row 9 1 v P.length (P.map st)
theorem st_cells (P : List Str) : Cells (P.map st) := by
  intro v hv
  obtain ⟨x, _, rfl⟩ := List.mem_map.1 hv
  rfl
abbrev Iv (b : Nat) (z : Int) : Ent := .blk b (.cells #[.int .i64 z] 3 (0, 0))
abbrev Sv (b : Nat) (v : Value) : Ent := .blk b (.cells #[v] 92 (0, 0))
abbrev Bs (b : Nat) (s : Str) : Ent := .blk b (.cells #[st s] 9 (0, 0))
abbrev ptr (b : Nat) : Value := .pointer (some ⟨b, 0, none⟩)
/-- What the cutter keeps. -/
abbrev Ct (bf bo bs : Nat) (q : Nat) (v : Value) (l : List Str) (s : Str) (L : List Ent) : List Ent := Iv bf (q : Nat) :: Sv bo v :: Rs v l :: Bs bs s :: L
theorem cut_any {w0 w : World} {L : List Ent} {bf bo bs q at_ c : Nat} {a : Option Addr} {l : List Str} {s : Str} (hp : Hp w0 w (Ct bf bo bs q (.slice a l.length c) l s L)) (h1 : q ≤ at_) (h2 : at_ ≤ s.length) (h3 : s.length ≤ 2000) (h4 : l.length ≤ 5000) :
    Ret Tryd.prog 97 [.int .i64 (at_ : Nat), ptr bf, ptr bo, ptr bs] w fun _ w' => ∃ a' c', Hp w0 w' (Ct bf bo bs (at_ + 1) (.slice a' (l ++ flush ((s.drop q).take (at_ - q))).length c') (l ++ flush ((s.drop q).take (at_ - q))) s L) := by
  have step : IntKind.i64.wrap (((at_ : Nat) : Int) + 1) = ((at_ + 1 : Nat) : Int) := wrap_succ (n := at_ + 1) (by omega) (by omega)
  refine enter Tryd.func97 rfl rfl ⟨rfl, rfl⟩ rfl ?_
  refine WC.seq ?_
  refine WC.mid (Option Addr × Nat) (fun _ => [(0, .int .i64 (at_ : Nat)), (1, ptr bf), (2, ptr bo), (3, ptr bs)]) (fun (a', c') w' => Hp w0 w' (Ct bf bo bs q (.slice a' (l ++ flush ((s.drop q).take (at_ - q))).length c') (l ++ flush ((s.drop q).take (at_ - q))) s L)) ?_ ?_
  · refine WC.seq (WC.reg ?_)
    refine WL.loadB rfl rfl rfl rfl rfl (hp.obj 0 rfl) rfl ?_
    repeat (first | refine zA ?_ | refine zB ?_ | refine zC rfl rfl rfl ?_ | refine zD ?_ | refine zE ?_ | refine zF ?_ | refine zG rfl ?_ | refine zH rfl ?_ | refine zI rfl rfl rfl ?_ | refine zJ rfl rfl ?_ | refine zK ?_ | refine zL ?_ | refine zM rfl ?_ | refine zN ?_)
    refine WC.cond rfl (fun hc => ?_) (fun hc => ?_)
    · have hq : q < at_ := by have := of_decide_eq_true hc; omega
      have hne : (s.drop q).take (at_ - q) ≠ [] := by
        intro h
        have := congrArg List.length h
        rw [List.length_take, List.length_drop] at this
        simp only [List.length_nil] at this
        omega
      have hfl : flush ((s.drop q).take (at_ - q)) = [(s.drop q).take (at_ - q)] := by unfold flush; rw [if_neg hne]
      rw [hfl]
      refine WC.regH (fun w' => Hp w0 w' [Iv bf q, Bs bs s]) mixed (by kernel_rfl) (fun w1 hw1 hh1 => ?_)
      have hp1 := hp.keep hw1
      have hS1 : Hp w0 w1 [Iv bf q, Bs bs s] := hp1.pick [0, 3] (by decide)
      refine WH.load 1 (by kernel_rfl) rfl (by kernel_rfl) rfl rfl rfl rfl rfl (fun w' h => cell_of_obj (h.obj 1 rfl) rfl) hS1 ?_
      refine WH.load 2 (by kernel_rfl) rfl (by kernel_rfl) rfl rfl rfl rfl rfl (fun w' h => cell_of_obj (h.obj 0 rfl) rfl) hS1 ?_
      refine WH.pure 3 (by kernel_rfl) rfl (by kernel_rfl) rfl rfl rfl (hS1) ?_
      refine WH.sSl (a := q) (b := at_) 4 (by kernel_rfl) rfl (by kernel_rfl) rfl rfl rfl rfl rfl rfl h1 h2 hS1 ?_
      generalize (s.drop q).take (at_ - q) = p at *
      have e2 : (l ++ [p]).length = l.length + 1 := by rw [List.length_append]; rfl
      refine WH.two 0 5 rfl rfl (by kernel_rfl) ?_ ?_
      · refine WL.loadB rfl rfl rfl rfl rfl (hp1.obj 1 rfl) (j := 0) rfl (WL.nil ⟨hS1, ?_⟩)
        refine WH.one 5 rfl (by kernel_rfl) ?_
        refine WL.buildS (cs := [st p]) rfl rfl rfl rfl rfl rfl rfl rfl rfl (fun b6 w4 hb4 => ?_)
        have hp4 := hp1.new hb4
        refine WL.nil ⟨hp4.pick [1, 4] (by decide), ?_⟩
        refine WH.one 6 rfl (by kernel_rfl) ?_
        refine WL.append 3 hp4 rfl rfl rfl rfl rfl (by decide) rfl rfl rfl (news := [st p]) (Sl.of_obj (hp4.obj 0 rfl) (fun q u hq => by simpa using hq)) rfl (st_cells [p]) (by unfold maxLen; omega) (by show (l.length + 1) * 16 ≤ _; omega) ?_
        intro ra rc1 w5 hp5 hg5
        refine WL.nil ⟨hp5.pick [1, 4] (by decide), ?_⟩
        refine WH.one 7 rfl (by kernel_rfl) ?_
        refine WL.store rfl rfl rfl rfl rfl rfl (hp5.obj 2 rfl) (Nat.lt_succ_self 0) (fun w6 h6 => ?_)
        have hp6 := hp5.set 2 rfl rfl h6
        refine WL.nil ⟨hp6.pick [1, 4] (by decide), ?_⟩
        refine WH.done (by kernel_rfl) ?_
        refine ⟨(ra, rc1), ⟨rfl, rfl, rfl, rfl, rfl⟩, ?_⟩
        show Hp w0 w6 (Iv bf q :: Sv bo (.slice ra (l ++ [p]).length rc1) :: Rs (.slice ra (l ++ [p]).length rc1) (l ++ [p]) :: Bs bs s :: L)
        unfold Rs
        rw [e2, List.map_append]
        exact hp6.tail
      · refine WL.buildS (cs := [st p]) rfl rfl rfl rfl rfl rfl rfl rfl rfl (fun b6 w4 hb4 => ?_)
        have hp4 := hp1.new hb4
        refine WL.nil ⟨hp4.pick [1, 4] (by decide), ?_⟩
        refine WH.one 0 rfl (by kernel_rfl) ?_
        refine WL.loadB rfl rfl rfl rfl rfl (hp4.obj 2 rfl) (j := 0) rfl (WL.nil ⟨hp4.pick [1, 4] (by decide), ?_⟩)
        refine WH.one 6 rfl (by kernel_rfl) ?_
        refine WL.append 3 hp4 rfl rfl rfl rfl rfl (by decide) rfl rfl rfl (news := [st p]) (Sl.of_obj (hp4.obj 0 rfl) (fun q u hq => by simpa using hq)) rfl (st_cells [p]) (by unfold maxLen; omega) (by show (l.length + 1) * 16 ≤ _; omega) ?_
        intro ra rc1 w5 hp5 hg5
        refine WL.nil ⟨hp5.pick [1, 4] (by decide), ?_⟩
        refine WH.one 7 rfl (by kernel_rfl) ?_
        refine WL.store rfl rfl rfl rfl rfl rfl (hp5.obj 2 rfl) (Nat.lt_succ_self 0) (fun w6 h6 => ?_)
        have hp6 := hp5.set 2 rfl rfl h6
        refine WL.nil ⟨hp6.pick [1, 4] (by decide), ?_⟩
        refine WH.done (by kernel_rfl) ?_
        refine ⟨(ra, rc1), ⟨rfl, rfl, rfl, rfl, rfl⟩, ?_⟩
        show Hp w0 w6 (Iv bf q :: Sv bo (.slice ra (l ++ [p]).length rc1) :: Rs (.slice ra (l ++ [p]).length rc1) (l ++ [p]) :: Bs bs s :: L)
        unfold Rs
        rw [e2, List.map_append]
        exact hp6.tail
    · have hq : q = at_ := by have := of_decide_eq_false hc; omega
      repeat (first | refine zA ?_ | refine zB ?_ | refine zC rfl rfl rfl ?_ | refine zD ?_ | refine zE ?_ | refine zF ?_ | refine zG rfl ?_ | refine zH rfl ?_ | refine zI rfl rfl rfl ?_ | refine zJ rfl rfl ?_ | refine zK ?_ | refine zL ?_ | refine zM rfl ?_ | refine zN ?_)
      refine ⟨(a, c), ⟨rfl, rfl, rfl, rfl, rfl⟩, ?_⟩
      subst hq
      rw [Nat.sub_self, List.take_zero]
      show Hp w0 w (Ct bf bo bs q (.slice a (l ++ []).length c) (l ++ []) s L)
      rw [List.append_nil]
      exact hp
  · rintro ⟨a', c'⟩ e2 w2 hsub hp2
    refine WC.sub hsub ?_
    clear hsub e2
    repeat (first | refine zA ?_ | refine zB ?_ | refine zC rfl rfl rfl ?_ | refine zD ?_ | refine zE ?_ | refine zF ?_ | refine zG rfl ?_ | refine zH rfl ?_ | refine zI rfl rfl rfl ?_ | refine zJ rfl rfl ?_ | refine zK ?_ | refine zL ?_ | refine zM rfl ?_ | refine zN ?_)
    refine WL.known (d := 16) (congrArg (fun z => some (Value.int .i64 z)) step) ?_
    refine WL.store rfl rfl rfl rfl rfl rfl (hp2.obj 0 rfl) (Nat.lt_succ_self 0) (fun w3 h3 => ?_)
    have hp3 := hp2.set 0 rfl rfl h3
    repeat (first | refine zA ?_ | refine zB ?_ | refine zC rfl rfl rfl ?_ | refine zD ?_ | refine zE ?_ | refine zF ?_ | refine zG rfl ?_ | refine zH rfl ?_ | refine zI rfl rfl rfl ?_ | refine zJ rfl rfl ?_ | refine zK ?_ | refine zL ?_ | refine zM rfl ?_ | refine zN ?_)
    exact Res.zero rfl rfl ⟨a', c', hp3⟩
theorem u8_iff (c : UInt8) (n : Nat) (hn : n < 256) : ((c.toNat : Nat) : Int) = (n : Nat) ↔ c = UInt8.ofNat n := by
  constructor
  · intro h
    have h2 : c.toNat = n := by omega
    rw [← h2, UInt8.ofNat_toNat]
  · intro h
    rw [h, UInt8.toNat_ofNat_of_lt' (by simpa using hn)]
theorem flush_le (x : Str) : (flush x).length ≤ 1 := by unfold flush; split <;> simp
theorem tokN_sp {c : UInt8} (s cur : Str) (h : c = 32 ∨ c = 10) : tokN (c :: s) cur = flush cur ++ tokN s [] := by rw [tokN, if_pos h]
theorem tokN_pa {c : UInt8} (s cur : Str) (h : ¬ (c = 32 ∨ c = 10)) (h2 : c = 40 ∨ c = 41) : tokN (c :: s) cur = flush cur ++ ([c] :: tokN s []) := by rw [tokN, if_neg h, if_pos h2]
theorem tokN_go {c : UInt8} (s cur : Str) (h : ¬ (c = 32 ∨ c = 10)) (h2 : ¬ (c = 40 ∨ c = 41)) : tokN (c :: s) cur = tokN s (cur ++ [c]) := by rw [tokN, if_neg h, if_neg h2]
theorem tokens_any (s : Str) (hs : s.length ≤ 2000) (w : World) :
    Ret Tryd.prog 73 [st s] w fun v w' => ∃ a c, v = .slice a (tokM s).length c ∧ Hp w w' [Rs (.slice a (tokM s).length c) (tokM s)] := by
  refine enter Tryd.func73 rfl rfl ⟨rfl, rfl⟩ rfl ?_
  repeat (first | refine zA ?_ | refine zB ?_ | refine zC rfl rfl rfl ?_ | refine zD ?_ | refine zE ?_ | refine zF ?_ | refine zG rfl ?_ | refine zH rfl ?_ | refine zI rfl rfl rfl ?_ | refine zJ rfl rfl ?_ | refine zK ?_ | refine zL ?_ | refine zM rfl ?_ | refine zN ?_)
  refine WL.box rfl rfl rfl (fun bs w1 h1 => ?_)
  have hp1 := (Hp.start w).new h1
  repeat (first | refine zA ?_ | refine zB ?_ | refine zC rfl rfl rfl ?_ | refine zD ?_ | refine zE ?_ | refine zF ?_ | refine zG rfl ?_ | refine zH rfl ?_ | refine zI rfl rfl rfl ?_ | refine zJ rfl rfl ?_ | refine zK ?_ | refine zL ?_ | refine zM rfl ?_ | refine zN ?_)
  refine WL.alloc rfl rfl rfl (fun bo w2 h2 => ?_)
  have hp2 := hp1.new h2
  repeat (first | refine zA ?_ | refine zB ?_ | refine zC rfl rfl rfl ?_ | refine zD ?_ | refine zE ?_ | refine zF ?_ | refine zG rfl ?_ | refine zH rfl ?_ | refine zI rfl rfl rfl ?_ | refine zJ rfl rfl ?_ | refine zK ?_ | refine zL ?_ | refine zM rfl ?_ | refine zN ?_)
  refine WL.alloc rfl rfl rfl (fun bf w3 h3 => ?_)
  have hp3 := hp2.new h3
  refine WL.store rfl rfl rfl rfl rfl rfl (hp3.obj 0 rfl) (Nat.lt_succ_self 0) (fun w4 h4 => ?_)
  have hp4 := ((hp3.set 0 rfl rfl h4).nilrow 9 1).pick [1, 2, 0, 3] (by decide)
  repeat (first | refine zA ?_ | refine zB ?_ | refine zC rfl rfl rfl ?_ | refine zD ?_ | refine zE ?_ | refine zF ?_ | refine zG rfl ?_ | refine zH rfl ?_ | refine zI rfl rfl rfl ?_ | refine zJ rfl rfl ?_ | refine zK ?_ | refine zL ?_ | refine zM rfl ?_ | refine zN ?_)
  refine WL.loadB rfl rfl rfl rfl rfl (hp4.obj 3 rfl) (j := 0) rfl ?_
  refine WL.sLen rfl rfl rfl rfl ?_
  repeat (first | refine zA ?_ | refine zB ?_ | refine zC rfl rfl rfl ?_ | refine zD ?_ | refine zE ?_ | refine zF ?_ | refine zG rfl ?_ | refine zH rfl ?_ | refine zI rfl rfl rfl ?_ | refine zJ rfl rfl ?_ | refine zK ?_ | refine zL ?_ | refine zM rfl ?_ | refine zN ?_)
  refine WC.loop (Nat × Nat × Option Addr × Nat × List Str) (fun (i, q, a, c, l) => [(1, ptr bs), (3, ptr bo), (5, .func (.func 97) #[] #[ptr bf, ptr bo, ptr bs]), (9, .int .i64 (s.length : Nat)), (10, .int .i64 (i : Nat))])
    (fun (i, q, a, c, l) w' => i ≤ s.length ∧ q ≤ i ∧ tokM s = l ++ tokN (s.drop i) ((s.drop q).take (i - q)) ∧ l.length ≤ 2 * i ∧ Hp w w' (Ct bf bo bs q (.slice a l.length c) l s [])) (fun (i, _) => s.length - i) (0, 0, none, 0, []) ⟨rfl, rfl, rfl, rfl, rfl, rfl⟩
    ⟨Nat.zero_le _, Nat.le_refl _, rfl, Nat.le_refl _, hp4⟩ ?_
  clear hp4
  rintro ⟨i, q, a, c, l⟩ w5 ⟨hi, hq, hinv, hll, hp⟩
  replace hi : i ≤ s.length := hi
  replace hq : q ≤ i := hq
  replace hll : l.length ≤ 2 * i := hll
  replace hinv : tokM s = l ++ tokN (s.drop i) ((s.drop q).take (i - q)) := hinv
  replace hp : Hp w w5 (Ct bf bo bs q (.slice a l.length c) l s []) := hp
  repeat (first | refine zA ?_ | refine zB ?_ | refine zC rfl rfl rfl ?_ | refine zD ?_ | refine zE ?_ | refine zF ?_ | refine zG rfl ?_ | refine zH rfl ?_ | refine zI rfl rfl rfl ?_ | refine zJ rfl rfl ?_ | refine zK ?_ | refine zL ?_ | refine zM rfl ?_ | refine zN ?_)
  refine WC.cond rfl (fun hc => ?_) (fun hc => ?_)
  · replace hi : i < s.length := by have := of_decide_eq_true hc; omega
    have step := wrap_succ (i := i) (n := i + 1) (by omega) (by omega)
    have hd : s.drop i = s[i] :: s.drop (i + 1) := List.drop_eq_getElem_cons hi
    repeat (first | refine zA ?_ | refine zB ?_ | refine zC rfl rfl rfl ?_ | refine zD ?_ | refine zE ?_ | refine zF ?_ | refine zG rfl ?_ | refine zH rfl ?_ | refine zI rfl rfl rfl ?_ | refine zJ rfl rfl ?_ | refine zK ?_ | refine zL ?_ | refine zM rfl ?_ | refine zN ?_)
    refine WL.loadB rfl rfl rfl rfl rfl (hp.obj 3 rfl) (j := 0) rfl ?_
    repeat (first | refine zA ?_ | refine zB ?_ | refine zC rfl rfl rfl ?_ | refine zD ?_ | refine zE ?_ | refine zF ?_ | refine zG rfl ?_ | refine zH rfl ?_ | refine zI rfl rfl rfl ?_ | refine zJ rfl rfl ?_ | refine zK ?_ | refine zL ?_ | refine zM rfl ?_ | refine zN ?_)
    refine WL.sAt rfl rfl rfl rfl rfl hi ?_
    have hcut : s[i] = s[i] := rfl
    obtain ⟨u, hu⟩ : ∃ u, u = s[i] := ⟨_, rfl⟩
    rw [← hu] at hd ⊢
    refine WL.nil ?_
    refine WC.mid (Nat × Option Addr × Nat × List Str) (fun _ => [(1, ptr bs), (3, ptr bo), (5, .func (.func 97) #[] #[ptr bf, ptr bo, ptr bs]), (9, .int .i64 (s.length : Nat)), (10, .int .i64 (i : Nat))])
      (fun (q, a, c, l) w' => q ≤ i + 1 ∧ tokM s = l ++ tokN (s.drop (i + 1)) ((s.drop q).take (i + 1 - q)) ∧ l.length ≤ 2 * (i + 1) ∧ Hp w w' (Ct bf bo bs q (.slice a l.length c) l s [])) ?_ ?_
    · refine WC.block ?_
      refine WC.seq ?_
      refine WC.mid Bool (fun b => [(1, ptr bs), (3, ptr bo), (5, .func (.func 97) #[] #[ptr bf, ptr bo, ptr bs]), (6, .int .i64 (i : Nat)), (9, .int .i64 (s.length : Nat)), (10, .int .i64 (i : Nat)), (15, .int .u8 (u.toNat : Nat)), (16, .bool b)]) (fun b w' => b = decide (u = 32 ∨ u = 10) ∧ Hp w w' (Ct bf bo bs q (.slice a l.length c) l s [])) ?_ ?_
      · repeat (first | refine zA ?_ | refine zB ?_ | refine zC rfl rfl rfl ?_ | refine zD ?_ | refine zE ?_ | refine zF ?_ | refine zG rfl ?_ | refine zH rfl ?_ | refine zI rfl rfl rfl ?_ | refine zJ rfl rfl ?_ | refine zK ?_ | refine zL ?_ | refine zM rfl ?_ | refine zN ?_)
        refine WC.cond rfl (fun h1 => ?_) (fun h1 => ?_)
        · have h2 : u = 32 := (u8_iff u 32 (by decide)).1 (beq_iff_eq.1 h1)
          repeat (first | refine zA ?_ | refine zB ?_ | refine zC rfl rfl rfl ?_ | refine zD ?_ | refine zE ?_ | refine zF ?_ | refine zG rfl ?_ | refine zH rfl ?_ | refine zI rfl rfl rfl ?_ | refine zJ rfl rfl ?_ | refine zK ?_ | refine zL ?_ | refine zM rfl ?_ | refine zN ?_)
          exact ⟨_, ⟨rfl, rfl, rfl, rfl, rfl, rfl, rfl, rfl, rfl⟩, by rw [h1]; exact (decide_eq_true (.inl h2)).symm, hp⟩
        · have h1 : ¬ u = 32 := fun h => Bool.noConfusion (h1.symm.trans (beq_iff_eq.2 ((u8_iff u 32 (by decide)).2 h)))
          repeat (first | refine zA ?_ | refine zB ?_ | refine zC rfl rfl rfl ?_ | refine zD ?_ | refine zE ?_ | refine zF ?_ | refine zG rfl ?_ | refine zH rfl ?_ | refine zI rfl rfl rfl ?_ | refine zJ rfl rfl ?_ | refine zK ?_ | refine zL ?_ | refine zM rfl ?_ | refine zN ?_)
          refine ⟨_, ⟨rfl, rfl, rfl, rfl, rfl, rfl, rfl, rfl, rfl⟩, ?_, hp⟩
          rw [Bool.eq_iff_iff, beq_iff_eq, decide_eq_true_iff]
          exact ⟨fun h => .inr ((u8_iff u 10 (by decide)).1 h), fun h => (u8_iff u 10 (by decide)).2 (h.resolve_left h1)⟩
      rintro b e6 w6 hsub ⟨hb, hp⟩
      refine WC.sub hsub ?_
      clear hsub e6
      refine WC.cond rfl (fun h1 => ?_) (fun h1 => ?_)
      · have hsp : u = 32 ∨ u = 10 := by rw [h1] at hb; exact of_decide_eq_true hb.symm
        repeat (first | refine zA ?_ | refine zB ?_ | refine zC rfl rfl rfl ?_ | refine zD ?_ | refine zE ?_ | refine zF ?_ | refine zG rfl ?_ | refine zH rfl ?_ | refine zI rfl rfl rfl ?_ | refine zJ rfl rfl ?_ | refine zK ?_ | refine zL ?_ | refine zM rfl ?_ | refine zN ?_)
        refine WL.call rfl rfl rfl rfl rfl ent97 (cut_any hp hq (by omega) hs (by omega)) ?_
        rintro v w7 ⟨a', c', hp7⟩
        have hf := flush_le ((s.drop q).take (i - q))
        repeat (first | refine zA ?_ | refine zB ?_ | refine zC rfl rfl rfl ?_ | refine zD ?_ | refine zE ?_ | refine zF ?_ | refine zG rfl ?_ | refine zH rfl ?_ | refine zI rfl rfl rfl ?_ | refine zJ rfl rfl ?_ | refine zK ?_ | refine zL ?_ | refine zM rfl ?_ | refine zN ?_)
        refine ⟨(i + 1, a', c', l ++ flush ((s.drop q).take (i - q))), ⟨rfl, rfl, rfl, rfl, rfl, rfl⟩, Nat.le_refl _, ?_, ?_, hp7⟩
        · rw [hinv, hd, tokN_sp _ _ hsp, Nat.sub_self, List.take_zero, List.append_assoc]
        · rw [List.length_append]; omega
      · have hsp : ¬ (u = 32 ∨ u = 10) := by rw [h1] at hb; exact of_decide_eq_false hb.symm
        clear hb h1
        refine WC.seq ?_
        refine WC.mid Bool (fun b => [(1, ptr bs), (3, ptr bo), (5, .func (.func 97) #[] #[ptr bf, ptr bo, ptr bs]), (6, .int .i64 (i : Nat)), (9, .int .i64 (s.length : Nat)), (10, .int .i64 (i : Nat)), (15, .int .u8 (u.toNat : Nat)), (22, .bool b)]) (fun b w' => b = decide (u = 40 ∨ u = 41) ∧ Hp w w' (Ct bf bo bs q (.slice a l.length c) l s [])) ?_ ?_
        · repeat (first | refine zA ?_ | refine zB ?_ | refine zC rfl rfl rfl ?_ | refine zD ?_ | refine zE ?_ | refine zF ?_ | refine zG rfl ?_ | refine zH rfl ?_ | refine zI rfl rfl rfl ?_ | refine zJ rfl rfl ?_ | refine zK ?_ | refine zL ?_ | refine zM rfl ?_ | refine zN ?_)
          refine WC.cond rfl (fun h1 => ?_) (fun h1 => ?_)
          · have h2 : u = 40 := (u8_iff u 40 (by decide)).1 (beq_iff_eq.1 h1)
            repeat (first | refine zA ?_ | refine zB ?_ | refine zC rfl rfl rfl ?_ | refine zD ?_ | refine zE ?_ | refine zF ?_ | refine zG rfl ?_ | refine zH rfl ?_ | refine zI rfl rfl rfl ?_ | refine zJ rfl rfl ?_ | refine zK ?_ | refine zL ?_ | refine zM rfl ?_ | refine zN ?_)
            exact ⟨_, ⟨rfl, rfl, rfl, rfl, rfl, rfl, rfl, rfl, rfl⟩, by rw [h1]; exact (decide_eq_true (.inl h2)).symm, hp⟩
          · have h1 : ¬ u = 40 := fun h => Bool.noConfusion (h1.symm.trans (beq_iff_eq.2 ((u8_iff u 40 (by decide)).2 h)))
            repeat (first | refine zA ?_ | refine zB ?_ | refine zC rfl rfl rfl ?_ | refine zD ?_ | refine zE ?_ | refine zF ?_ | refine zG rfl ?_ | refine zH rfl ?_ | refine zI rfl rfl rfl ?_ | refine zJ rfl rfl ?_ | refine zK ?_ | refine zL ?_ | refine zM rfl ?_ | refine zN ?_)
            refine ⟨_, ⟨rfl, rfl, rfl, rfl, rfl, rfl, rfl, rfl, rfl⟩, ?_, hp⟩
            rw [Bool.eq_iff_iff, beq_iff_eq, decide_eq_true_iff]
            exact ⟨fun h => .inr ((u8_iff u 41 (by decide)).1 h), fun h => (u8_iff u 41 (by decide)).2 (h.resolve_left h1)⟩
        rintro b e6 w6 hsub ⟨hb, hp⟩
        refine WC.sub hsub ?_
        clear hsub e6
        refine WC.cond rfl (fun h1 => ?_) (fun h1 => ?_)
        · have hpa : u = 40 ∨ u = 41 := by rw [h1] at hb; exact of_decide_eq_true hb.symm
          repeat (first | refine zA ?_ | refine zB ?_ | refine zC rfl rfl rfl ?_ | refine zD ?_ | refine zE ?_ | refine zF ?_ | refine zG rfl ?_ | refine zH rfl ?_ | refine zI rfl rfl rfl ?_ | refine zJ rfl rfl ?_ | refine zK ?_ | refine zL ?_ | refine zM rfl ?_ | refine zN ?_)
          refine WL.call rfl rfl rfl rfl rfl ent97 (cut_any hp hq (by omega) hs (by omega)) ?_
          rintro v w7 ⟨a', c', hp7⟩
          have hf := flush_le ((s.drop q).take (i - q))
          repeat (first | refine zA ?_ | refine zB ?_ | refine zC rfl rfl rfl ?_ | refine zD ?_ | refine zE ?_ | refine zF ?_ | refine zG rfl ?_ | refine zH rfl ?_ | refine zI rfl rfl rfl ?_ | refine zJ rfl rfl ?_ | refine zK ?_ | refine zL ?_ | refine zM rfl ?_ | refine zN ?_)
          obtain ⟨l2, hl2⟩ : ∃ l2, l2 = l ++ flush ((s.drop q).take (i - q)) := ⟨_, rfl⟩
          rw [← hl2] at hp7
          have hl2l : l2.length ≤ 2 * i + 1 := by rw [hl2, List.length_append]; omega
          have e2 : (l2 ++ [[u]]).length = l2.length + 1 := by rw [List.length_append]; rfl
          have e3 : (s.drop i).take (i + 1 - i) = [u] := by rw [hd, Nat.add_sub_cancel_left]; rfl
          refine WC.regH (fun w' => Hp w w' [Bs bs s]) mixed (by kernel_rfl) (fun w8 hw8 hh8 => ?_)
          have hp8 := hp7.keep hw8
          have hS : Hp w w8 [Bs bs s] := hp8.pick [3] (by decide)
          refine WH.load 1 (by kernel_rfl) rfl (by kernel_rfl) rfl rfl rfl rfl rfl (fun w' h => cell_of_obj (h.obj 0 rfl) rfl) hS ?_
          refine WH.pure 2 (by kernel_rfl) rfl (by kernel_rfl) rfl rfl rfl (hS) ?_
          refine WH.pure 3 (by kernel_rfl) rfl (by kernel_rfl) rfl rfl rfl (hS) ?_
          refine WH.pure 4 (by kernel_rfl) rfl (by kernel_rfl) rfl rfl rfl (hS) ?_
          refine WH.known (d := 32) (congrArg (fun z => some (Value.int .i64 z)) step) ?_
          refine WH.sSl (a := i) (b := i + 1) 5 (by kernel_rfl) rfl (by kernel_rfl) rfl rfl rfl rfl rfl rfl (by omega) (by omega) hS ?_
          rw [e3]
          refine WH.two 0 6 rfl rfl (by kernel_rfl) ?_ ?_
          · refine WL.loadB rfl rfl rfl rfl rfl (hp8.obj 1 rfl) (j := 0) rfl (WL.nil ⟨hS, ?_⟩)
            refine WH.one 6 rfl (by kernel_rfl) ?_
            refine WL.buildS (cs := [st [u]]) rfl rfl rfl rfl rfl rfl rfl rfl rfl (fun b6 w9 hb9 => ?_)
            have hp9 := hp8.new hb9
            refine WL.nil ⟨hp9.pick [4] (by decide), ?_⟩
            refine WH.one 7 rfl (by kernel_rfl) ?_
            refine WL.append 3 hp9 rfl rfl rfl rfl rfl (by decide) rfl rfl rfl (news := [st [u]]) (Sl.of_obj (hp9.obj 0 rfl) (fun q u hq => by simpa using hq)) rfl (st_cells [[u]]) (by unfold maxLen; omega) (by show (l2.length + 1) * 16 ≤ _; omega) ?_
            intro ra rc1 w10 hp10 hg10
            refine WL.nil ⟨hp10.pick [4] (by decide), ?_⟩
            refine WH.one 8 rfl (by kernel_rfl) ?_
            refine WL.store rfl rfl rfl rfl rfl rfl (hp10.obj 2 rfl) (Nat.lt_succ_self 0) (fun w11 h11 => ?_)
            have hp11 := hp10.set 2 rfl rfl h11
            refine WL.nil ⟨hp11.pick [4] (by decide), ?_⟩
            refine WH.done (by kernel_rfl) ?_
            refine ⟨(i + 1, ra, rc1, l2 ++ [[u]]), ⟨rfl, rfl, rfl, rfl, rfl, rfl⟩, Nat.le_refl _, ?_, ?_, ?_⟩
            · rw [hinv, hd, tokN_pa _ _ hsp hpa, Nat.sub_self, List.take_zero, hl2, List.append_assoc, List.append_assoc]; rfl
            · show (l2 ++ [[u]]).length ≤ 2 * (i + 1); rw [e2]; omega
            show Hp w w11 (Ct bf bo bs (i + 1) (.slice ra (l2 ++ [[u]]).length rc1) (l2 ++ [[u]]) s [])
            unfold Ct Rs
            rw [e2, List.map_append]
            exact hp11.tail
          · refine WL.buildS (cs := [st [u]]) rfl rfl rfl rfl rfl rfl rfl rfl rfl (fun b6 w9 hb9 => ?_)
            have hp9 := hp8.new hb9
            refine WL.nil ⟨hp9.pick [4] (by decide), ?_⟩
            refine WH.one 0 rfl (by kernel_rfl) ?_
            refine WL.loadB rfl rfl rfl rfl rfl (hp9.obj 2 rfl) (j := 0) rfl (WL.nil ⟨hp9.pick [4] (by decide), ?_⟩)
            refine WH.one 7 rfl (by kernel_rfl) ?_
            refine WL.append 3 hp9 rfl rfl rfl rfl rfl (by decide) rfl rfl rfl (news := [st [u]]) (Sl.of_obj (hp9.obj 0 rfl) (fun q u hq => by simpa using hq)) rfl (st_cells [[u]]) (by unfold maxLen; omega) (by show (l2.length + 1) * 16 ≤ _; omega) ?_
            intro ra rc1 w10 hp10 hg10
            refine WL.nil ⟨hp10.pick [4] (by decide), ?_⟩
            refine WH.one 8 rfl (by kernel_rfl) ?_
            refine WL.store rfl rfl rfl rfl rfl rfl (hp10.obj 2 rfl) (Nat.lt_succ_self 0) (fun w11 h11 => ?_)
            have hp11 := hp10.set 2 rfl rfl h11
            refine WL.nil ⟨hp11.pick [4] (by decide), ?_⟩
            refine WH.done (by kernel_rfl) ?_
            refine ⟨(i + 1, ra, rc1, l2 ++ [[u]]), ⟨rfl, rfl, rfl, rfl, rfl, rfl⟩, Nat.le_refl _, ?_, ?_, ?_⟩
            · rw [hinv, hd, tokN_pa _ _ hsp hpa, Nat.sub_self, List.take_zero, hl2, List.append_assoc, List.append_assoc]; rfl
            · show (l2 ++ [[u]]).length ≤ 2 * (i + 1); rw [e2]; omega
            show Hp w w11 (Ct bf bo bs (i + 1) (.slice ra (l2 ++ [[u]]).length rc1) (l2 ++ [[u]]) s [])
            unfold Ct Rs
            rw [e2, List.map_append]
            exact hp11.tail
        · have hpa : ¬ (u = 40 ∨ u = 41) := by rw [h1] at hb; exact of_decide_eq_false hb.symm
          repeat (first | refine zA ?_ | refine zB ?_ | refine zC rfl rfl rfl ?_ | refine zD ?_ | refine zE ?_ | refine zF ?_ | refine zG rfl ?_ | refine zH rfl ?_ | refine zI rfl rfl rfl ?_ | refine zJ rfl rfl ?_ | refine zK ?_ | refine zL ?_ | refine zM rfl ?_ | refine zN ?_)
          refine ⟨(q, a, c, l), ⟨rfl, rfl, rfl, rfl, rfl, rfl⟩, by omega, ?_, by omega, hp⟩
          rw [hinv, hd, tokN_go _ _ hsp hpa]
          congr 2
          rw [show i + 1 - q = (i - q) + 1 from by omega, List.take_succ_eq_append_getElem (by rw [List.length_drop]; omega), List.getElem_drop]
          congr 2
          rw [hu]
          congr 1
          omega
    · rintro ⟨q', a', c', l'⟩ e6 w6 hsub ⟨h1, h2, h3, h4⟩
      refine WC.sub hsub ?_
      clear hsub e6
      repeat (first | refine zA ?_ | refine zB ?_ | refine zC rfl rfl rfl ?_ | refine zD ?_ | refine zE ?_ | refine zF ?_ | refine zG rfl ?_ | refine zH rfl ?_ | refine zI rfl rfl rfl ?_ | refine zJ rfl rfl ?_ | refine zK ?_ | refine zL ?_ | refine zM rfl ?_ | refine zN ?_)
      exact ⟨(i + 1, q', a', c', l'), (by show s.length - (i + 1) < s.length - i; omega), ⟨rfl, rfl, rfl, rfl, congrArg (fun z => some (Value.int .i64 z)) step, rfl⟩, hi, h1, h2, h3, h4⟩
  · have hie : i = s.length := by have := of_decide_eq_false hc; omega
    repeat (first | refine zA ?_ | refine zB ?_ | refine zC rfl rfl rfl ?_ | refine zD ?_ | refine zE ?_ | refine zF ?_ | refine zG rfl ?_ | refine zH rfl ?_ | refine zI rfl rfl rfl ?_ | refine zJ rfl rfl ?_ | refine zK ?_ | refine zL ?_ | refine zM rfl ?_ | refine zN ?_)
    refine WL.loadB rfl rfl rfl rfl rfl (hp.obj 3 rfl) (j := 0) rfl ?_
    refine WL.sLen rfl rfl rfl rfl ?_
    refine WL.call rfl rfl rfl rfl rfl ent97 (cut_any hp (by omega) (Nat.le_refl _) hs (by omega)) ?_
    rintro v w7 ⟨a', c', hp7⟩
    have e4 : l ++ flush ((s.drop q).take (s.length - q)) = tokM s := by
      rw [hinv, hie, List.drop_of_length_le (Nat.le_refl _)]
      rfl
    rw [e4] at hp7
    repeat (first | refine zA ?_ | refine zB ?_ | refine zC rfl rfl rfl ?_ | refine zD ?_ | refine zE ?_ | refine zF ?_ | refine zG rfl ?_ | refine zH rfl ?_ | refine zI rfl rfl rfl ?_ | refine zJ rfl rfl ?_ | refine zK ?_ | refine zL ?_ | refine zM rfl ?_ | refine zN ?_)
    refine WL.loadB rfl rfl rfl rfl rfl (hp7.obj 1 rfl) (j := 0) rfl ?_
    repeat (first | refine zA ?_ | refine zB ?_ | refine zC rfl rfl rfl ?_ | refine zD ?_ | refine zE ?_ | refine zF ?_ | refine zG rfl ?_ | refine zH rfl ?_ | refine zI rfl rfl rfl ?_ | refine zJ rfl rfl ?_ | refine zK ?_ | refine zL ?_ | refine zM rfl ?_ | refine zN ?_)
    exact Res.one rfl rfl rfl ⟨a', c', rfl, hp7.pick [2] (by decide)⟩
end Go.Proofs.YtpbbneclkhfgoaaDoor
end
section
/- ltl, third: the words that the package keeps; a list contains a string; the parser's small steps. -/
set_option linter.unusedSectionVars false
namespace Go.W
open Go.RowKit Go.Ltl
theorem row_cap {w : World} {B E s n c : Nat} {a : Option Addr} {xs : List Value} (h : w.ownsRow B E s (.slice a n c) n xs) : n ≤ c := by
  obtain ⟨_, ⟨hv, hn⟩ | ⟨_, _, _, hv, _, _, hnc, _⟩⟩ := h
  · rw [hn]; exact Nat.zero_le _
  · simp only [Value.slice.injEq] at hv; rw [hv.2.2]; exact hnc
/-- Entries of a map from strings to strings. -/
def SE : List MapEntry → List (Str × Str) → Prop
  | [], [] => True
  | e :: es, p :: P => e.key = st p.1 ∧ e.val = st p.2 ∧ SE es P
  | _, _ => False
def fndS (P : List (Str × Str)) (s : Str) : Option Str := (P.find? fun p => p.1 = s).map (·.2)
theorem findNow_ss (s : Str) : ∀ (es : List MapEntry) (P : List (Str × Str)) (i : Nat), SE es P → ∃ j : Option Nat, (Instr.findNow .string (st s) es i) = some (match fndS P s with
    | some v => some (j.getD 0, st v)
    | none => none) := by
  intro es
  induction es with
  | nil =>
    intro P i h
    cases P with
    | nil => exact ⟨none, rfl⟩
    | cons p P => exact h.elim
  | cons e es ih =>
    intro P i h
    cases P with
    | nil => exact h.elim
    | cons p P =>
      have e1 : Instr.sameNow .string (st s) e.key = some (decide (s = p.1)) := by
        rw [h.1, st, st, Instr.sameNow, sb_beq]
      rw [Instr.findNow, e1]
      by_cases hp : s = p.1
      · rw [decide_eq_true hp]
        refine ⟨some i, ?_⟩
        have : fndS (p :: P) s = some p.2 := by unfold fndS; rw [List.find?_cons_of_pos (by simpa using hp.symm)]; rfl
        rw [this]
        simp only [h.2.1, Option.getD_some]
      · rw [decide_eq_false hp]
        have : fndS (p :: P) s = fndS P s := by unfold fndS; rw [List.find?_cons_of_neg (by simpa using fun h => hp h.symm)]
        rw [this]
        exact ih P (i + 1) h.2.2
/-- What the package's variables hold. -/
structure Gl (w : World) : Prop where
  atoms : ∃ a c, w.cell? ⟨1, 0, none⟩ = some (.slice a 6 c) ∧ Sl w a (atomsL.map st)
  ones : ∃ a c, w.cell? ⟨2, 0, none⟩ = some (.slice a 4 c) ∧ Sl w a (onesL.map st)
  twos : ∃ a c, w.cell? ⟨3, 0, none⟩ = some (.slice a 4 c) ∧ Sl w a (twosL.map st)
  dual : ∃ mb es c P, w.cell? ⟨0, 0, none⟩ = some (.map (some mb)) ∧ mb < w.heap.size ∧ w.heap[mb]? = some (.map es c) ∧ SE es.toList P ∧ ∀ s, fndS P s = dualM s
theorem Gl.below {w w' : World} (h : Gl w) (hb : Below w.heap.size w w') : Gl w' := by
  obtain ⟨⟨a1, c1, h1, s1⟩, ⟨a2, c2, h2, s2⟩, ⟨a3, c3, h3, s3⟩, ⟨mb, es, c, P, h4, hl, h5, h6, h7⟩⟩ := h
  exact ⟨⟨a1, c1, cell_below hb h1, s1.below hb⟩, ⟨a2, c2, cell_below hb h2, s2.below hb⟩, ⟨a3, c3, cell_below hb h3, s3.below hb⟩, ⟨mb, es, c, P, cell_below hb h4, Nat.lt_of_lt_of_le hl hb.size, by rw [hb.block mb hl]; exact h5, h6, h7⟩⟩
theorem Gl.hp {w0 w : World} {L : List Ent} (h : Gl w0) (hp : Hp w0 w L) : Gl w := h.below hp.below
section
variable {P : Program} [T : TT P] {e : Env} {w : World} {ty : TypeId}
/-- What a lookup of a string in such a map gives. -/
def lkS (ok : Bool) (o : Option Str) : Value := match ok with
  | true => .tuple #[st (o.getD []), .bool o.isSome]
  | false => st (o.getD [])
theorem check_st {kt : TypeId} (hu : P.underlying kt = some .string) (b : Bool) (m : Nat) (s : Str) : (Instr.checkKey b (m + 1) kt (st s)).run P w = .ok () w := by
  simp [Instr.checkKey, run_underlying hu, st]
theorem yLkS {b c : Nat} {t kt vt : TypeId} {z z2 z3 : Value} {s0 b0 s2 b2 s3 b3 : Nat} {x ix : Operand} {es : Array MapEntry} {Q : List (Str × Str)} {s : Str} {ok : Bool} {r : Option Str}
    (ht : T.ti t = some ⟨.map kt vt, z, s0, b0⟩) (hk : T.ti kt = some ⟨.string, z2, s2, b2⟩) (hv : T.ti vt = some ⟨.string, z3, s3, b3⟩) (hz : z3 = st [])
    (hx : opv e x = some (.map (some b))) (hix : opv e ix = some (st s)) (hb : w.heap[b]? = some (.map es c)) (h : SE es.toList Q) (hr : fndS Q s = r) :
    Yv P e (.lookup t x ix ok) ty w (lkS ok r) w := by
  subst hr
  have hu : P.underlying t = some (.map kt vt) := (T.ok t _ ht).k
  have huk : P.underlying kt = some .string := (T.ok kt _ hk).k
  have hzv := (T.ok vt _ hv).zeroValue w
  have hobj : (getObj b).run P w = .ok (.map es c) w := by simp [getObj, Sem.run, hb]
  have hc := check_st (P := P) (w := w) huk es.isEmpty 9999 s
  obtain ⟨j, hj⟩ := findNow_ss s es.toList Q 0 h
  intro ρ hρ d' pos' aft' g'
  subst hz
  cases hq : fndS Q s with
  | none =>
    rw [hq] at hj
    have hf : (Instr.findKey kt (st s) es.toList).run P w = .ok none w := by simp [Instr.findKey, run_underlying huk, hj]
    cases ok <;> simp [execOp, hρ _ _ hx, hρ _ _ hix, Instr.lookup, run_underlying hu, hobj, hc, hf, hzv, lkS]
  | some v =>
    rw [hq] at hj
    have hf : (Instr.findKey kt (st s) es.toList).run P w = .ok (some (j.getD 0, st v)) w := by simp [Instr.findKey, run_underlying huk, hj]
    cases ok <;> simp [execOp, hρ _ _ hx, hρ _ _ hix, Instr.lookup, run_underlying hu, hobj, hc, hf, lkS]
end
end Go.W
namespace Go.Proofs.YtpbbneclkhfgoaaDoor
open Go.W Go.Ltl Go.RowKit
set_option maxRecDepth 100000
attribute [local irreducible] WC WL WQ WS WH

theorem index_any (a : Option Addr) (cap : Nat) (l : List Str) (s : Str) (hl : l.length ≤ 1000000) (w : World) (hs : Sl w a (l.map st)) :
    Ret Tryd.prog 105 [.slice a l.length cap, st s] w fun v w' => (∃ z : Int, v = .int .i64 z ∧ (0 ≤ z ↔ s ∈ l)) ∧ w' = w := by
  refine enter Tryd.func105 rfl rfl ⟨rfl, rfl⟩ rfl ?_
  repeat (first | refine zA ?_ | refine zB ?_ | refine zC rfl rfl rfl ?_ | refine zD ?_ | refine zE ?_ | refine zF ?_ | refine zG rfl ?_ | refine zH rfl ?_ | refine zI rfl rfl rfl ?_ | refine zJ rfl rfl ?_ | refine zK ?_ | refine zL ?_ | refine zM rfl ?_ | refine zN ?_)
  refine WC.loop Nat (fun i => [(0, .slice a l.length cap), (1, st s), (7, .int .i64 (l.length : Nat)), (8, .int .i64 (i : Nat))]) (fun i w' => i ≤ l.length ∧ s ∉ l.take i ∧ w' = w) (fun i => l.length - i) 0 ⟨rfl, rfl, rfl, rfl, rfl⟩ ⟨Nat.zero_le _, by simp, rfl⟩ ?_
  rintro i w1 ⟨hi, hno, rfl⟩
  repeat (first | refine zA ?_ | refine zB ?_ | refine zC rfl rfl rfl ?_ | refine zD ?_ | refine zE ?_ | refine zF ?_ | refine zG rfl ?_ | refine zH rfl ?_ | refine zI rfl rfl rfl ?_ | refine zJ rfl rfl ?_ | refine zK ?_ | refine zL ?_ | refine zM rfl ?_ | refine zN ?_)
  refine WC.cond rfl (fun hc => ?_) (fun hc => ?_)
  · have hi : i < l.length := by have := of_decide_eq_true hc; omega
    have step := wrap_succ (i := i) (n := i + 1) (by omega) (by omega)
    repeat (first | refine zA ?_ | refine zB ?_ | refine zC rfl rfl rfl ?_ | refine zD ?_ | refine zE ?_ | refine zF ?_ | refine zG rfl ?_ | refine zH rfl ?_ | refine zI rfl rfl rfl ?_ | refine zJ rfl rfl ?_ | refine zK ?_ | refine zL ?_ | refine zM rfl ?_ | refine zN ?_)
    refine WL.ixload rfl (fun _ => rfl) rfl rfl rfl rfl rfl rfl rfl hi rfl rfl hs (v := st l[i]) (by rw [List.getElem?_map, List.getElem?_eq_getElem hi]; rfl) ?_
    intro p
    refine WL.sCmp rfl rfl rfl rfl rfl ?_
    repeat (first | refine zA ?_ | refine zB ?_ | refine zC rfl rfl rfl ?_ | refine zD ?_ | refine zE ?_ | refine zF ?_ | refine zG rfl ?_ | refine zH rfl ?_ | refine zI rfl rfl rfl ?_ | refine zJ rfl rfl ?_ | refine zK ?_ | refine zL ?_ | refine zM rfl ?_ | refine zN ?_)
    refine WC.cond rfl (fun h1 => ?_) (fun h1 => ?_)
    · have h1 : s = l[i] := of_decide_eq_true h1
      repeat (first | refine zA ?_ | refine zB ?_ | refine zC rfl rfl rfl ?_ | refine zD ?_ | refine zE ?_ | refine zF ?_ | refine zG rfl ?_ | refine zH rfl ?_ | refine zI rfl rfl rfl ?_ | refine zJ rfl rfl ?_ | refine zK ?_ | refine zL ?_ | refine zM rfl ?_ | refine zN ?_)
      exact Res.one rfl rfl rfl ⟨⟨_, rfl, ⟨fun _ => by rw [h1]; exact List.getElem_mem hi, fun _ => by omega⟩⟩, rfl⟩
    · have h1 : ¬ s = l[i] := of_decide_eq_false h1
      repeat (first | refine zA ?_ | refine zB ?_ | refine zC rfl rfl rfl ?_ | refine zD ?_ | refine zE ?_ | refine zF ?_ | refine zG rfl ?_ | refine zH rfl ?_ | refine zI rfl rfl rfl ?_ | refine zJ rfl rfl ?_ | refine zK ?_ | refine zL ?_ | refine zM rfl ?_ | refine zN ?_)
      refine ⟨i + 1, (by show l.length - (i + 1) < l.length - i; omega), ⟨rfl, rfl, rfl, congrArg (fun z => some (Value.int .i64 z)) step, rfl⟩, by omega, ?_, rfl⟩
      rw [List.take_succ_eq_append_getElem hi, List.mem_append, List.mem_singleton]
      rintro (h | h)
      · exact hno h
      · exact h1 h
  · have hi : i = l.length := by have := of_decide_eq_false hc; omega
    repeat (first | refine zA ?_ | refine zB ?_ | refine zC rfl rfl rfl ?_ | refine zD ?_ | refine zE ?_ | refine zF ?_ | refine zG rfl ?_ | refine zH rfl ?_ | refine zI rfl rfl rfl ?_ | refine zJ rfl rfl ?_ | refine zK ?_ | refine zL ?_ | refine zM rfl ?_ | refine zN ?_)
    refine Res.one rfl rfl rfl ⟨⟨_, rfl, ⟨fun h => by omega, fun h => ?_⟩⟩, rfl⟩
    rw [hi, List.take_of_length_le (Nat.le_refl _)] at hno
    exact absurd h hno
theorem Contains_any (a : Option Addr) (cap : Nat) (l : List Str) (s : Str) (hl : l.length ≤ 1000000) (w : World) (hs : Sl w a (l.map st)) :
    Ret Tryd.prog 100 [.slice a l.length cap, st s] w fun v w' => v = .bool (decide (s ∈ l)) ∧ w' = w := by
  refine enter Tryd.func100 rfl rfl ⟨rfl, rfl⟩ rfl ?_
  repeat (first | refine zA ?_ | refine zB ?_ | refine zC rfl rfl rfl ?_ | refine zD ?_ | refine zE ?_ | refine zF ?_ | refine zG rfl ?_ | refine zH rfl ?_ | refine zI rfl rfl rfl ?_ | refine zJ rfl rfl ?_ | refine zK ?_ | refine zL ?_ | refine zM rfl ?_ | refine zN ?_)
  refine WL.call rfl rfl rfl rfl rfl ent105 (index_any a cap l s hl w hs) ?_
  rintro v w2 ⟨⟨z, rfl, hz⟩, rfl⟩
  repeat (first | refine zA ?_ | refine zB ?_ | refine zC rfl rfl rfl ?_ | refine zD ?_ | refine zE ?_ | refine zF ?_ | refine zG rfl ?_ | refine zH rfl ?_ | refine zI rfl rfl rfl ?_ | refine zJ rfl rfl ?_ | refine zK ?_ | refine zL ?_ | refine zM rfl ?_ | refine zN ?_)
  refine Res.one rfl rfl rfl ⟨?_, rfl⟩
  congr 1
  rw [decide_eq_decide]
  exact hz

/-- The parser. -/
abbrev Pb (pb : Nat) (a : Option Addr) (n c k : Nat) : Ent := .blk pb (.cells #[.slice a n c, .int .i64 (k : Nat)] 125 (0, 0))
theorem take_any {w0 w : World} {L : List Ent} {pb c k : Nat} {a : Option Addr} {l : List Str} (hp : Hp w0 w (Pb pb a l.length c k :: L)) (hs : Sl w0 a (l.map st)) (hc : l.length ≤ c) (hl : l.length ≤ 1000000) :
    RetZ Tryd.prog 98 [ptr pb] w (fun v w' => ∃ s l' a' c', l = s :: l' ∧ v = st s ∧ Sl w0 a' (l'.map st) ∧ l'.length ≤ c' ∧ Hp w0 w' (Pb pb a' l'.length c' k :: L)) (fun ch w' => ch = tr 4 ∧ l = [] ∧ Hp w0 w' (Pb pb a l.length c k :: L)) := by
  refine enterZ Tryd.func98 rfl rfl ⟨rfl, rfl⟩ rfl ?_
  repeat (first | refine zA ?_ | refine zB ?_ | refine zC rfl rfl rfl ?_ | refine zD ?_ | refine zE ?_ | refine zF ?_ | refine zG rfl ?_ | refine zH rfl ?_ | refine zI rfl rfl rfl ?_ | refine zJ rfl rfl ?_ | refine zK ?_ | refine zL ?_ | refine zM rfl ?_ | refine zN ?_)
  refine WL.nilC rfl rfl rfl ?_
  repeat (first | refine zA ?_ | refine zB ?_ | refine zC rfl rfl rfl ?_ | refine zD ?_ | refine zE ?_ | refine zF ?_ | refine zG rfl ?_ | refine zH rfl ?_ | refine zI rfl rfl rfl ?_ | refine zJ rfl rfl ?_ | refine zK ?_ | refine zL ?_ | refine zM rfl ?_ | refine zN ?_)
  refine WL.loadB rfl rfl rfl rfl rfl (hp.obj 0 rfl) (j := 0) rfl ?_
  repeat (first | refine zA ?_ | refine zB ?_ | refine zC rfl rfl rfl ?_ | refine zD ?_ | refine zE ?_ | refine zF ?_ | refine zG rfl ?_ | refine zH rfl ?_ | refine zI rfl rfl rfl ?_ | refine zJ rfl rfl ?_ | refine zK ?_ | refine zL ?_ | refine zM rfl ?_ | refine zN ?_)
  refine WC.cond rfl (fun h1 => ?_) (fun h1 => ?_)
  · have h1 : l = [] := List.eq_nil_of_length_eq_zero (by have := beq_iff_eq.1 h1; omega)
    repeat (first | refine zA ?_ | refine zB ?_ | refine zC rfl rfl rfl ?_ | refine zD ?_ | refine zE ?_ | refine zF ?_ | refine zG rfl ?_ | refine zH rfl ?_ | refine zI rfl rfl rfl ?_ | refine zJ rfl rfl ?_ | refine zK ?_ | refine zL ?_ | refine zM rfl ?_ | refine zN ?_)
    refine WL.callZ rfl rfl rfl rfl rfl ent75 rfl (fail_z 4 w (Z := fun ch w' => ch = tr 4 ∧ w' = w) ⟨rfl, rfl⟩) (fun v w' h => h.elim) ?_
    rintro ch w' ⟨rfl, rfl⟩
    exact ⟨rfl, h1, hp⟩
  · have h1 : l ≠ [] := fun h => by rw [h] at h1; cases h1
    obtain ⟨s, l', rfl⟩ := List.exists_cons_of_ne_nil h1
    repeat (first | refine zA ?_ | refine zB ?_ | refine zC rfl rfl rfl ?_ | refine zD ?_ | refine zE ?_ | refine zF ?_ | refine zG rfl ?_ | refine zH rfl ?_ | refine zI rfl rfl rfl ?_ | refine zJ rfl rfl ?_ | refine zK ?_ | refine zL ?_ | refine zM rfl ?_ | refine zN ?_)
    refine WL.nilC rfl rfl rfl ?_
    repeat (first | refine zA ?_ | refine zB ?_ | refine zC rfl rfl rfl ?_ | refine zD ?_ | refine zE ?_ | refine zF ?_ | refine zG rfl ?_ | refine zH rfl ?_ | refine zI rfl rfl rfl ?_ | refine zJ rfl rfl ?_ | refine zK ?_ | refine zL ?_ | refine zM rfl ?_ | refine zN ?_)
    refine WL.loadB rfl rfl rfl rfl rfl (hp.obj 0 rfl) (j := 0) rfl ?_
    refine WL.ixload (j := 0) rfl (fun _ => rfl) rfl rfl rfl rfl rfl rfl rfl (Nat.succ_pos _) rfl rfl (hs.hp hp) (v := st s) rfl ?_
    intro p
    repeat (first | refine zA ?_ | refine zB ?_ | refine zC rfl rfl rfl ?_ | refine zD ?_ | refine zE ?_ | refine zF ?_ | refine zG rfl ?_ | refine zH rfl ?_ | refine zI rfl rfl rfl ?_ | refine zJ rfl rfl ?_ | refine zK ?_ | refine zL ?_ | refine zM rfl ?_ | refine zN ?_)
    refine WL.nilC rfl rfl rfl ?_
    repeat (first | refine zA ?_ | refine zB ?_ | refine zC rfl rfl rfl ?_ | refine zD ?_ | refine zE ?_ | refine zF ?_ | refine zG rfl ?_ | refine zH rfl ?_ | refine zI rfl rfl rfl ?_ | refine zJ rfl rfl ?_ | refine zK ?_ | refine zL ?_ | refine zM rfl ?_ | refine zN ?_)
    refine WL.loadB rfl rfl rfl rfl rfl (hp.obj 0 rfl) (j := 0) rfl ?_
    refine WL.sliceLo (l := 1) rfl rfl rfl rfl rfl rfl (Nat.succ_pos _) hc ?_
    intro a' ha'
    refine WL.nilC rfl rfl rfl ?_
    repeat (first | refine zA ?_ | refine zB ?_ | refine zC rfl rfl rfl ?_ | refine zD ?_ | refine zE ?_ | refine zF ?_ | refine zG rfl ?_ | refine zH rfl ?_ | refine zI rfl rfl rfl ?_ | refine zJ rfl rfl ?_ | refine zK ?_ | refine zL ?_ | refine zM rfl ?_ | refine zN ?_)
    refine WL.store rfl rfl rfl rfl rfl rfl (hp.obj 0 rfl) (Nat.succ_pos _) (fun w2 h2 => ?_)
    have hp2 := hp.set 0 rfl rfl h2
    repeat (first | refine zA ?_ | refine zB ?_ | refine zC rfl rfl rfl ?_ | refine zD ?_ | refine zE ?_ | refine zF ?_ | refine zG rfl ?_ | refine zH rfl ?_ | refine zI rfl rfl rfl ?_ | refine zJ rfl rfl ?_ | refine zK ?_ | refine zL ?_ | refine zM rfl ?_ | refine zN ?_)
    refine Res.one rfl rfl rfl ⟨s, l', a', c - 1, rfl, rfl, ?_, ?_, hp2⟩
    · have := ha' w0 _ hs (by rw [List.length_map]; exact Nat.le_of_eq (Nat.mul_one _).symm)
      exact this
    · have : l'.length + 1 ≤ c := hc
      omega
theorem word_any {w0 w : World} {L : List Ent} {pb n c k : Nat} {a : Option Addr} (hp : Hp w0 w (Pb pb a n c k :: L)) (hk : k ≤ 12) :
    RetZ Tryd.prog 99 [ptr pb] w (fun v w' => k + 1 ≤ 12 ∧ Hp w0 w' (Pb pb a n c (k + 1) :: L)) (fun ch w' => ch = tr 4 ∧ 12 < k + 1 ∧ Hp w0 w' (Pb pb a n c (k + 1) :: L)) := by
  have step := wrap_succ (i := k) (n := k + 1) (by omega) (by omega)
  refine enterZ Tryd.func99 rfl rfl ⟨rfl, rfl⟩ rfl ?_
  repeat (first | refine zA ?_ | refine zB ?_ | refine zC rfl rfl rfl ?_ | refine zD ?_ | refine zE ?_ | refine zF ?_ | refine zG rfl ?_ | refine zH rfl ?_ | refine zI rfl rfl rfl ?_ | refine zJ rfl rfl ?_ | refine zK ?_ | refine zL ?_ | refine zM rfl ?_ | refine zN ?_)
  refine WL.nilC rfl rfl rfl ?_
  repeat (first | refine zA ?_ | refine zB ?_ | refine zC rfl rfl rfl ?_ | refine zD ?_ | refine zE ?_ | refine zF ?_ | refine zG rfl ?_ | refine zH rfl ?_ | refine zI rfl rfl rfl ?_ | refine zJ rfl rfl ?_ | refine zK ?_ | refine zL ?_ | refine zM rfl ?_ | refine zN ?_)
  refine WL.loadB rfl rfl rfl rfl rfl (hp.obj 0 rfl) (j := 1) rfl ?_
  refine WL.pure rfl rfl rfl ?_
  refine WL.known (d := 6) (congrArg (fun z => some (Value.int .i64 z)) step) ?_
  refine WL.nilC rfl rfl rfl ?_
  repeat (first | refine zA ?_ | refine zB ?_ | refine zC rfl rfl rfl ?_ | refine zD ?_ | refine zE ?_ | refine zF ?_ | refine zG rfl ?_ | refine zH rfl ?_ | refine zI rfl rfl rfl ?_ | refine zJ rfl rfl ?_ | refine zK ?_ | refine zL ?_ | refine zM rfl ?_ | refine zN ?_)
  refine WL.store rfl rfl rfl rfl rfl rfl (hp.obj 0 rfl) (Nat.lt_succ_self 1) (fun w2 h2 => ?_)
  have hp2 := hp.set 0 rfl rfl h2
  repeat (first | refine zA ?_ | refine zB ?_ | refine zC rfl rfl rfl ?_ | refine zD ?_ | refine zE ?_ | refine zF ?_ | refine zG rfl ?_ | refine zH rfl ?_ | refine zI rfl rfl rfl ?_ | refine zJ rfl rfl ?_ | refine zK ?_ | refine zL ?_ | refine zM rfl ?_ | refine zN ?_)
  refine WL.nilC rfl rfl rfl ?_
  repeat (first | refine zA ?_ | refine zB ?_ | refine zC rfl rfl rfl ?_ | refine zD ?_ | refine zE ?_ | refine zF ?_ | refine zG rfl ?_ | refine zH rfl ?_ | refine zI rfl rfl rfl ?_ | refine zJ rfl rfl ?_ | refine zK ?_ | refine zL ?_ | refine zM rfl ?_ | refine zN ?_)
  refine WL.loadB rfl rfl rfl rfl rfl (hp2.obj 0 rfl) (j := 1) rfl ?_
  repeat (first | refine zA ?_ | refine zB ?_ | refine zC rfl rfl rfl ?_ | refine zD ?_ | refine zE ?_ | refine zF ?_ | refine zG rfl ?_ | refine zH rfl ?_ | refine zI rfl rfl rfl ?_ | refine zJ rfl rfl ?_ | refine zK ?_ | refine zL ?_ | refine zM rfl ?_ | refine zN ?_)
  refine WC.cond rfl (fun h1 => ?_) (fun h1 => ?_)
  · have h1 : 12 < k + 1 := by have := of_decide_eq_true h1; omega
    repeat (first | refine zA ?_ | refine zB ?_ | refine zC rfl rfl rfl ?_ | refine zD ?_ | refine zE ?_ | refine zF ?_ | refine zG rfl ?_ | refine zH rfl ?_ | refine zI rfl rfl rfl ?_ | refine zJ rfl rfl ?_ | refine zK ?_ | refine zL ?_ | refine zM rfl ?_ | refine zN ?_)
    refine WL.callZ rfl rfl rfl rfl rfl ent75 rfl (fail_z 4 w2 (Z := fun ch w' => ch = tr 4 ∧ w' = w2) ⟨rfl, rfl⟩) (fun v w' h => h.elim) ?_
    rintro ch w' ⟨rfl, rfl⟩
    exact ⟨rfl, h1, hp2⟩
  · have h1 : k + 1 ≤ 12 := by have := of_decide_eq_false h1; omega
    repeat (first | refine zA ?_ | refine zB ?_ | refine zC rfl rfl rfl ?_ | refine zD ?_ | refine zE ?_ | refine zF ?_ | refine zG rfl ?_ | refine zH rfl ?_ | refine zI rfl rfl rfl ?_ | refine zJ rfl rfl ?_ | refine zK ?_ | refine zL ?_ | refine zM rfl ?_ | refine zN ?_)
    exact Res.zero rfl rfl ⟨h1, hp2⟩
end Go.Proofs.YtpbbneclkhfgoaaDoor
end
section
/- ltl, fourth: the parser. -/
namespace Go.W
open Go.RowKit Go.Ltl
/-- A formula as a value. -/
def fmV : Fm → Value
  | .at_ w => .iface 129 (.agg #[st w])
  | .on_ w f => .iface 132 (.agg #[st w, fmV f])
  | .tw_ w f g => .iface 108 (.agg #[st w, fmV f, fmV g])
end Go.W
namespace Go.Ltl
open Go.W
def finF (x : Fm) (k : Nat) : List Str → Option (Fm × List Str × Nat)
  | [41] :: l => some (x, l, k)
  | _ => none
theorem finF_no (x : Fm) (k : Nat) (s : Str) (l : List Str) (h : s ≠ [41]) : finF x k (s :: l) = none := by
  unfold finF
  split
  · rename_i h1; simp only [List.cons.injEq] at h1; exact absurd h1.1 h
  · rfl
theorem prsN_big (n : Nat) (s : Str) (l : List Str) (k : Nat) (h : s ≠ [40]) (hk : 12 < k + 1) : prsN (n + 1) (s :: l) k = none := by unfold prsN; simp only [ne_eq, h, not_false_eq_true, if_true, if_pos hk]
theorem prsN_at (n : Nat) (s : Str) (l : List Str) (k : Nat) (h : s ≠ [40]) (hk : k + 1 ≤ 12) : prsN (n + 1) (s :: l) k = if s ∈ atomsL then some (.at_ s, l, k + 1) else none := by
  unfold prsN
  simp only [ne_eq, h, not_false_eq_true, if_true, if_neg (show ¬ 12 < k + 1 by omega)]
theorem prsN_nil (n : Nat) (k : Nat) : prsN n [] k = none := by cases n <;> rfl
theorem prsN_p0 (n : Nat) (k : Nat) : prsN (n + 1) [[40]] k = none := rfl
theorem prsN_pb (n : Nat) (s : Str) (l : List Str) (k : Nat) (hk : 12 < k + 1) : prsN (n + 1) ([40] :: s :: l) k = none := by rw [prsN, if_neg (by simp)]; simp only [if_pos hk]
theorem prsN_on (n : Nat) (s : Str) (l : List Str) (k : Nat) (hk : k + 1 ≤ 12) (h1 : s ∈ onesL) : prsN (n + 1) ([40] :: s :: l) k = match prsN n l (k + 1) with
    | some (f, l, k) => finF (.on_ s f) k l
    | none => none := by
  rw [prsN, if_neg (by simp)]
  simp only [if_neg (show ¬ 12 < k + 1 by omega), if_pos h1]
  cases prsN n l (k + 1) with
  | none => rfl
  | some r =>
    obtain ⟨f, l, k⟩ := r
    show _ = finF (.on_ s f) k l
    unfold finF
    split <;> split <;> simp_all
theorem prsN_tw (n : Nat) (s : Str) (l : List Str) (k : Nat) (hk : k + 1 ≤ 12) (h1 : s ∉ onesL) (h2 : s ∈ twosL) : prsN (n + 1) ([40] :: s :: l) k = match prsN n l (k + 1) with
    | some (f, l, k) => match prsN n l k with
      | some (g, l, k) => finF (.tw_ s f g) k l
      | none => none
    | none => none := by
  rw [prsN, if_neg (by simp)]
  simp only [if_neg (show ¬ 12 < k + 1 by omega), if_neg h1, if_pos h2]
  cases prsN n l (k + 1) with
  | none => rfl
  | some r =>
    obtain ⟨f, l, k⟩ := r
    simp only
    cases prsN n l k with
    | none => rfl
    | some r =>
      obtain ⟨g, l, k⟩ := r
      show _ = finF (.tw_ s f g) k l
      unfold finF
      split <;> split <;> simp_all
theorem prsN_un (n : Nat) (s : Str) (l : List Str) (k : Nat) (h1 : s ∉ onesL) (h2 : s ∉ twosL) : prsN (n + 1) ([40] :: s :: l) k = none := by
  rw [prsN, if_neg (by simp)]
  simp only [if_neg h1, if_neg h2]
  split <;> rfl
end Go.Ltl
namespace Go.Proofs.YtpbbneclkhfgoaaDoor
open Go.W Go.Ltl Go.RowKit
set_option maxRecDepth 100000
attribute [local irreducible] WC WL WQ WS WH

theorem formula_any {w0 : World} {L : List Ent} (pb : Nat) (hG : Gl w0) : ∀ (n : Nat) (l : List Str) (k : Nat) (a : Option Addr) (c : Nat) (w : World), l.length < n → l.length ≤ 1000000 → k ≤ 12 → l.length ≤ c → Sl w0 a (l.map st) → Hp w0 w (Pb pb a l.length c k :: L) →
    RetZ Tryd.prog 74 [ptr pb] w (fun v w' => ∃ f l' k' a' c', prsN n l k = some (f, l', k') ∧ v = fmV f ∧ Sl w0 a' (l'.map st) ∧ l'.length ≤ c' ∧ k' ≤ 12 ∧ l'.length ≤ l.length ∧ Hp w0 w' (Pb pb a' l'.length c' k' :: L))
      (fun ch w' => ch = tr 4 ∧ prsN n l k = none ∧ ∃ a' n' c' k', Hp w0 w' (Pb pb a' n' c' k' :: L)) := by
  intro n
  induction n with
  | zero => intro l k a c w h; exact absurd h (Nat.not_lt_zero _)
  | succ n ih =>
    intro l k a c w hln hl6 hk hlc hs hp
    obtain ⟨aA, cA, hA1, hA2⟩ := hG.atoms
    obtain ⟨aO, cO, hO1, hO2⟩ := hG.ones
    obtain ⟨aT, cT, hT1, hT2⟩ := hG.twos
    refine enterZ Tryd.func74 rfl rfl ⟨rfl, rfl⟩ rfl ?_
    repeat (first | refine zA ?_ | refine zB ?_ | refine zC rfl rfl rfl ?_ | refine zD ?_ | refine zE ?_ | refine zF ?_ | refine zG rfl ?_ | refine zH rfl ?_ | refine zI rfl rfl rfl ?_ | refine zJ rfl rfl ?_ | refine zK ?_ | refine zL ?_ | refine zM rfl ?_ | refine zN ?_)
    refine WL.callZ rfl rfl rfl rfl rfl ent98 rfl (take_any hp hs hlc hl6) ?_ ?_
    rotate_left
    · rintro ch w' ⟨rfl, rfl, hp'⟩
      exact ⟨rfl, prsN_nil _ _, _, _, _, _, hp'⟩
    rintro v w1 ⟨s, l1, a1, c1, rfl, rfl, hs1, hc1, hp1⟩
    have hl1 : l1.length + 1 < n + 1 := hln
    have hl61 : l1.length + 1 ≤ 1000000 := hl6
    repeat (first | refine zA ?_ | refine zB ?_ | refine zC rfl rfl rfl ?_ | refine zD ?_ | refine zE ?_ | refine zF ?_ | refine zG rfl ?_ | refine zH rfl ?_ | refine zI rfl rfl rfl ?_ | refine zJ rfl rfl ?_ | refine zK ?_ | refine zL ?_ | refine zM rfl ?_ | refine zN ?_)
    refine WL.sCmp rfl rfl rfl rfl rfl ?_
    repeat (first | refine zA ?_ | refine zB ?_ | refine zC rfl rfl rfl ?_ | refine zD ?_ | refine zE ?_ | refine zF ?_ | refine zG rfl ?_ | refine zH rfl ?_ | refine zI rfl rfl rfl ?_ | refine zJ rfl rfl ?_ | refine zK ?_ | refine zL ?_ | refine zM rfl ?_ | refine zN ?_)
    refine WC.cond rfl (fun h1 => ?_) (fun h1 => ?_)
    · have h1 : s ≠ [40] := by simpa using h1
      repeat (first | refine zA ?_ | refine zB ?_ | refine zC rfl rfl rfl ?_ | refine zD ?_ | refine zE ?_ | refine zF ?_ | refine zG rfl ?_ | refine zH rfl ?_ | refine zI rfl rfl rfl ?_ | refine zJ rfl rfl ?_ | refine zK ?_ | refine zL ?_ | refine zM rfl ?_ | refine zN ?_)
      refine WL.callZ rfl rfl rfl rfl rfl ent99 rfl (word_any hp1 hk) ?_ ?_
      rotate_left
      · rintro ch w' ⟨rfl, hk2, hp'⟩
        exact ⟨rfl, prsN_big _ _ _ _ h1 hk2, _, _, _, _, hp'⟩
      rintro v w2 ⟨hk2, hp2⟩
      repeat (first | refine zA ?_ | refine zB ?_ | refine zC rfl rfl rfl ?_ | refine zD ?_ | refine zE ?_ | refine zF ?_ | refine zG rfl ?_ | refine zH rfl ?_ | refine zI rfl rfl rfl ?_ | refine zJ rfl rfl ?_ | refine zK ?_ | refine zL ?_ | refine zM rfl ?_ | refine zN ?_)
      refine WL.load rfl rfl rfl rfl rfl (cell_below hp2.below hA1) ?_
      repeat (first | refine zA ?_ | refine zB ?_ | refine zC rfl rfl rfl ?_ | refine zD ?_ | refine zE ?_ | refine zF ?_ | refine zG rfl ?_ | refine zH rfl ?_ | refine zI rfl rfl rfl ?_ | refine zJ rfl rfl ?_ | refine zK ?_ | refine zL ?_ | refine zM rfl ?_ | refine zN ?_)
      refine WL.call rfl rfl rfl rfl rfl ent100 (Contains_any aA cA atomsL s (by decide) w2 (hA2.hp hp2)) ?_
      rintro v w3 ⟨rfl, rfl⟩
      repeat (first | refine zA ?_ | refine zB ?_ | refine zC rfl rfl rfl ?_ | refine zD ?_ | refine zE ?_ | refine zF ?_ | refine zG rfl ?_ | refine zH rfl ?_ | refine zI rfl rfl rfl ?_ | refine zJ rfl rfl ?_ | refine zK ?_ | refine zL ?_ | refine zM rfl ?_ | refine zN ?_)
      have hpr := prsN_at n s l1 k h1 hk2
      refine WC.cond rfl (fun h2 => ?_) (fun h2 => ?_)
      · have h2 : s ∉ atomsL := by simpa using h2
        rw [if_neg h2] at hpr
        repeat (first | refine zA ?_ | refine zB ?_ | refine zC rfl rfl rfl ?_ | refine zD ?_ | refine zE ?_ | refine zF ?_ | refine zG rfl ?_ | refine zH rfl ?_ | refine zI rfl rfl rfl ?_ | refine zJ rfl rfl ?_ | refine zK ?_ | refine zL ?_ | refine zM rfl ?_ | refine zN ?_)
        refine WL.callZ rfl rfl rfl rfl rfl ent75 rfl (fail_z 4 w3 (Z := fun ch w' => ch = tr 4 ∧ w' = w3) ⟨rfl, rfl⟩) (fun v w' h => h.elim) ?_
        rintro ch w' ⟨rfl, rfl⟩
        exact ⟨rfl, hpr, _, _, _, _, hp2⟩
      · have h2 : s ∈ atomsL := by simpa using h2
        rw [if_pos h2] at hpr
        repeat (first | refine zA ?_ | refine zB ?_ | refine zC rfl rfl rfl ?_ | refine zD ?_ | refine zE ?_ | refine zF ?_ | refine zG rfl ?_ | refine zH rfl ?_ | refine zI rfl rfl rfl ?_ | refine zJ rfl rfl ?_ | refine zK ?_ | refine zL ?_ | refine zM rfl ?_ | refine zN ?_)
        refine WL.buildT rfl rfl rfl rfl rfl rfl ?_
        refine WL.val rfl rfl rfl (yMkI rfl rfl rfl) ?_
        repeat (first | refine zA ?_ | refine zB ?_ | refine zC rfl rfl rfl ?_ | refine zD ?_ | refine zE ?_ | refine zF ?_ | refine zG rfl ?_ | refine zH rfl ?_ | refine zI rfl rfl rfl ?_ | refine zJ rfl rfl ?_ | refine zK ?_ | refine zL ?_ | refine zM rfl ?_ | refine zN ?_)
        exact Res.one rfl rfl rfl ⟨_, _, _, _, _, hpr, rfl, hs1, hc1, hk2, by rw [List.length_cons]; omega, hp2⟩
    · have h1 : s = [40] := by simpa using h1
      subst h1
      repeat (first | refine zA ?_ | refine zB ?_ | refine zC rfl rfl rfl ?_ | refine zD ?_ | refine zE ?_ | refine zF ?_ | refine zG rfl ?_ | refine zH rfl ?_ | refine zI rfl rfl rfl ?_ | refine zJ rfl rfl ?_ | refine zK ?_ | refine zL ?_ | refine zM rfl ?_ | refine zN ?_)
      refine WL.callZ rfl rfl rfl rfl rfl ent98 rfl (take_any hp1 hs1 hc1 (by omega)) ?_ ?_
      rotate_left
      · rintro ch w' ⟨rfl, rfl, hp'⟩
        exact ⟨rfl, prsN_p0 _ _, _, _, _, _, hp'⟩
      rintro v w2 ⟨s, l2, a2, c2, rfl, rfl, hs2, hc2, hp2⟩
      have hl2 : l2.length + 1 + 1 < n + 1 := hl1
      have hl62 : l2.length + 1 + 1 ≤ 1000000 := hl61
      repeat (first | refine zA ?_ | refine zB ?_ | refine zC rfl rfl rfl ?_ | refine zD ?_ | refine zE ?_ | refine zF ?_ | refine zG rfl ?_ | refine zH rfl ?_ | refine zI rfl rfl rfl ?_ | refine zJ rfl rfl ?_ | refine zK ?_ | refine zL ?_ | refine zM rfl ?_ | refine zN ?_)
      refine WL.callZ rfl rfl rfl rfl rfl ent99 rfl (word_any hp2 hk) ?_ ?_
      rotate_left
      · rintro ch w' ⟨rfl, hk2, hp'⟩
        exact ⟨rfl, prsN_pb _ _ _ _ hk2, _, _, _, _, hp'⟩
      rintro v w3 ⟨hk2, hp3⟩
      refine WL.nil ?_
      refine WC.seq ?_
      refine WC.mid (Fm × List Str × Nat × Option Addr × Nat) (fun (x, _, _, _, _) => [(0, ptr pb), (4, fmV x)]) (fun (x, l3, k3, a3, c3) w' => prsN (n + 1) ([40] :: s :: l2) k = finF x k3 l3 ∧ Sl w0 a3 (l3.map st) ∧ l3.length ≤ c3 ∧ k3 ≤ 12 ∧ l3.length ≤ l2.length ∧ Hp w0 w' (Pb pb a3 l3.length c3 k3 :: L)) ?_ ?_
      · repeat (first | refine zA ?_ | refine zB ?_ | refine zC rfl rfl rfl ?_ | refine zD ?_ | refine zE ?_ | refine zF ?_ | refine zG rfl ?_ | refine zH rfl ?_ | refine zI rfl rfl rfl ?_ | refine zJ rfl rfl ?_ | refine zK ?_ | refine zL ?_ | refine zM rfl ?_ | refine zN ?_)
        refine WL.load rfl rfl rfl rfl rfl (cell_below hp3.below hO1) ?_
        repeat (first | refine zA ?_ | refine zB ?_ | refine zC rfl rfl rfl ?_ | refine zD ?_ | refine zE ?_ | refine zF ?_ | refine zG rfl ?_ | refine zH rfl ?_ | refine zI rfl rfl rfl ?_ | refine zJ rfl rfl ?_ | refine zK ?_ | refine zL ?_ | refine zM rfl ?_ | refine zN ?_)
        refine WL.call rfl rfl rfl rfl rfl ent100 (Contains_any aO cO onesL s (by decide) w3 (hO2.hp hp3)) ?_
        rintro v w4 ⟨rfl, rfl⟩
        repeat (first | refine zA ?_ | refine zB ?_ | refine zC rfl rfl rfl ?_ | refine zD ?_ | refine zE ?_ | refine zF ?_ | refine zG rfl ?_ | refine zH rfl ?_ | refine zI rfl rfl rfl ?_ | refine zJ rfl rfl ?_ | refine zK ?_ | refine zL ?_ | refine zM rfl ?_ | refine zN ?_)
        refine WC.cond rfl (fun h2 => ?_) (fun h2 => ?_)
        · have h2 : s ∈ onesL := of_decide_eq_true h2
          have hpr := prsN_on n s l2 k hk2 h2
          repeat (first | refine zA ?_ | refine zB ?_ | refine zC rfl rfl rfl ?_ | refine zD ?_ | refine zE ?_ | refine zF ?_ | refine zG rfl ?_ | refine zH rfl ?_ | refine zI rfl rfl rfl ?_ | refine zJ rfl rfl ?_ | refine zK ?_ | refine zL ?_ | refine zM rfl ?_ | refine zN ?_)
          refine WL.callZ rfl rfl rfl rfl rfl ent74 rfl (ih l2 (k + 1) a2 c2 w4 (by omega) (by omega) hk2 hc2 hs2 hp3) ?_ ?_
          rotate_left
          · rintro ch w' ⟨rfl, hn, hp'⟩
            rw [hn] at hpr
            exact ⟨rfl, hpr, hp'⟩
          rintro v w5 ⟨f, l3, k3, a3, c3, hn, rfl, hs3, hc3, hk3, hl3, hp5⟩
          rw [hn] at hpr
          refine WL.buildT (cs := [st s, fmV f]) rfl rfl rfl rfl rfl (by cases f <;> rfl) ?_
          refine WL.val rfl rfl rfl (yMkI rfl rfl rfl) ?_
          repeat (first | refine zA ?_ | refine zB ?_ | refine zC rfl rfl rfl ?_ | refine zD ?_ | refine zE ?_ | refine zF ?_ | refine zG rfl ?_ | refine zH rfl ?_ | refine zI rfl rfl rfl ?_ | refine zJ rfl rfl ?_ | refine zK ?_ | refine zL ?_ | refine zM rfl ?_ | refine zN ?_)
          exact ⟨(.on_ s f, l3, k3, a3, c3), ⟨rfl, rfl, rfl⟩, hpr, hs3, hc3, hk3, hl3, hp5⟩
        · have h2 : s ∉ onesL := of_decide_eq_false h2
          repeat (first | refine zA ?_ | refine zB ?_ | refine zC rfl rfl rfl ?_ | refine zD ?_ | refine zE ?_ | refine zF ?_ | refine zG rfl ?_ | refine zH rfl ?_ | refine zI rfl rfl rfl ?_ | refine zJ rfl rfl ?_ | refine zK ?_ | refine zL ?_ | refine zM rfl ?_ | refine zN ?_)
          refine WL.load rfl rfl rfl rfl rfl (cell_below hp3.below hT1) ?_
          repeat (first | refine zA ?_ | refine zB ?_ | refine zC rfl rfl rfl ?_ | refine zD ?_ | refine zE ?_ | refine zF ?_ | refine zG rfl ?_ | refine zH rfl ?_ | refine zI rfl rfl rfl ?_ | refine zJ rfl rfl ?_ | refine zK ?_ | refine zL ?_ | refine zM rfl ?_ | refine zN ?_)
          refine WL.call rfl rfl rfl rfl rfl ent100 (Contains_any aT cT twosL s (by decide) w4 (hT2.hp hp3)) ?_
          rintro v w5 ⟨rfl, rfl⟩
          repeat (first | refine zA ?_ | refine zB ?_ | refine zC rfl rfl rfl ?_ | refine zD ?_ | refine zE ?_ | refine zF ?_ | refine zG rfl ?_ | refine zH rfl ?_ | refine zI rfl rfl rfl ?_ | refine zJ rfl rfl ?_ | refine zK ?_ | refine zL ?_ | refine zM rfl ?_ | refine zN ?_)
          refine WC.cond rfl (fun h3 => ?_) (fun h3 => ?_)
          · have h3 : s ∈ twosL := of_decide_eq_true h3
            have hpr := prsN_tw n s l2 k hk2 h2 h3
            repeat (first | refine zA ?_ | refine zB ?_ | refine zC rfl rfl rfl ?_ | refine zD ?_ | refine zE ?_ | refine zF ?_ | refine zG rfl ?_ | refine zH rfl ?_ | refine zI rfl rfl rfl ?_ | refine zJ rfl rfl ?_ | refine zK ?_ | refine zL ?_ | refine zM rfl ?_ | refine zN ?_)
            refine WL.callZ rfl rfl rfl rfl rfl ent74 rfl (ih l2 (k + 1) a2 c2 w5 (by omega) (by omega) hk2 hc2 hs2 hp3) ?_ ?_
            rotate_left
            · rintro ch w' ⟨rfl, hn, hp'⟩
              rw [hn] at hpr
              exact ⟨rfl, hpr, hp'⟩
            rintro v w6 ⟨f, l3, k3, a3, c3, hn, rfl, hs3, hc3, hk3, hl3, hp6⟩
            rw [hn] at hpr
            repeat (first | refine zA ?_ | refine zB ?_ | refine zC rfl rfl rfl ?_ | refine zD ?_ | refine zE ?_ | refine zF ?_ | refine zG rfl ?_ | refine zH rfl ?_ | refine zI rfl rfl rfl ?_ | refine zJ rfl rfl ?_ | refine zK ?_ | refine zL ?_ | refine zM rfl ?_ | refine zN ?_)
            refine WL.callZ rfl rfl rfl rfl rfl ent74 rfl (ih l3 k3 a3 c3 w6 (by omega) (by omega) hk3 hc3 hs3 hp6) ?_ ?_
            rotate_left
            · rintro ch w' ⟨rfl, hn2, hp'⟩
              simp only [hn2] at hpr
              exact ⟨rfl, hpr, hp'⟩
            rintro v w7 ⟨g, l4, k4, a4, c4, hn2, rfl, hs4, hc4, hk4, hl4, hp7⟩
            simp only [hn2] at hpr
            refine WL.buildT (cs := [st s, fmV f, fmV g]) rfl rfl rfl rfl rfl (by cases f <;> cases g <;> rfl) ?_
            refine WL.val rfl rfl rfl (yMkI rfl rfl rfl) ?_
            repeat (first | refine zA ?_ | refine zB ?_ | refine zC rfl rfl rfl ?_ | refine zD ?_ | refine zE ?_ | refine zF ?_ | refine zG rfl ?_ | refine zH rfl ?_ | refine zI rfl rfl rfl ?_ | refine zJ rfl rfl ?_ | refine zK ?_ | refine zL ?_ | refine zM rfl ?_ | refine zN ?_)
            exact ⟨(.tw_ s f g, l4, k4, a4, c4), ⟨rfl, rfl, rfl⟩, hpr, hs4, hc4, hk4, by omega, hp7⟩
          · have h3 : s ∉ twosL := of_decide_eq_false h3
            repeat (first | refine zA ?_ | refine zB ?_ | refine zC rfl rfl rfl ?_ | refine zD ?_ | refine zE ?_ | refine zF ?_ | refine zG rfl ?_ | refine zH rfl ?_ | refine zI rfl rfl rfl ?_ | refine zJ rfl rfl ?_ | refine zK ?_ | refine zL ?_ | refine zM rfl ?_ | refine zN ?_)
            refine WL.callZ rfl rfl rfl rfl rfl ent75 rfl (fail_z 4 w5 (Z := fun ch w' => ch = tr 4 ∧ w' = w5) ⟨rfl, rfl⟩) (fun v w' h => h.elim) ?_
            rintro ch w' ⟨rfl, rfl⟩
            exact ⟨rfl, prsN_un _ _ _ _ h2 h3, _, _, _, _, hp3⟩
      · rintro ⟨x, l3, k3, a3, c3⟩ e6 w6 hsub ⟨hpr, hs3, hc3, hk3, hl3, hp6⟩
        replace hpr : prsN (n + 1) ([40] :: s :: l2) k = finF x k3 l3 := hpr
        replace hp6 : Hp w0 w6 (Pb pb a3 l3.length c3 k3 :: L) := hp6
        replace hl3 : l3.length ≤ l2.length := hl3
        refine WC.sub hsub ?_
        clear hsub e6
        repeat (first | refine zA ?_ | refine zB ?_ | refine zC rfl rfl rfl ?_ | refine zD ?_ | refine zE ?_ | refine zF ?_ | refine zG rfl ?_ | refine zH rfl ?_ | refine zI rfl rfl rfl ?_ | refine zJ rfl rfl ?_ | refine zK ?_ | refine zL ?_ | refine zM rfl ?_ | refine zN ?_)
        refine WL.callZ rfl rfl rfl rfl rfl ent98 rfl (take_any hp6 hs3 hc3 (by omega)) ?_ ?_
        rotate_left
        · rintro ch w' ⟨rfl, rfl, hp'⟩
          exact ⟨rfl, hpr, _, _, _, _, hp'⟩
        rintro v w7 ⟨s2, l4, a4, c4, rfl, rfl, hs4, hc4, hp7⟩
        replace hl3 : l4.length + 1 ≤ l2.length := hl3
        repeat (first | refine zA ?_ | refine zB ?_ | refine zC rfl rfl rfl ?_ | refine zD ?_ | refine zE ?_ | refine zF ?_ | refine zG rfl ?_ | refine zH rfl ?_ | refine zI rfl rfl rfl ?_ | refine zJ rfl rfl ?_ | refine zK ?_ | refine zL ?_ | refine zM rfl ?_ | refine zN ?_)
        refine WL.sCmp rfl rfl rfl rfl rfl ?_
        repeat (first | refine zA ?_ | refine zB ?_ | refine zC rfl rfl rfl ?_ | refine zD ?_ | refine zE ?_ | refine zF ?_ | refine zG rfl ?_ | refine zH rfl ?_ | refine zI rfl rfl rfl ?_ | refine zJ rfl rfl ?_ | refine zK ?_ | refine zL ?_ | refine zM rfl ?_ | refine zN ?_)
        refine WC.cond rfl (fun h2 => ?_) (fun h2 => ?_)
        · have h2 : s2 ≠ [41] := by simpa using h2
          repeat (first | refine zA ?_ | refine zB ?_ | refine zC rfl rfl rfl ?_ | refine zD ?_ | refine zE ?_ | refine zF ?_ | refine zG rfl ?_ | refine zH rfl ?_ | refine zI rfl rfl rfl ?_ | refine zJ rfl rfl ?_ | refine zK ?_ | refine zL ?_ | refine zM rfl ?_ | refine zN ?_)
          refine WL.callZ rfl rfl rfl rfl rfl ent75 rfl (fail_z 4 w7 (Z := fun ch w' => ch = tr 4 ∧ w' = w7) ⟨rfl, rfl⟩) (fun v w' h => h.elim) ?_
          rintro ch w' ⟨rfl, rfl⟩
          rw [finF_no _ _ _ _ h2] at hpr
          exact ⟨rfl, hpr, _, _, _, _, hp7⟩
        · have h2 : s2 = [41] := by simpa using h2
          subst h2
          repeat (first | refine zA ?_ | refine zB ?_ | refine zC rfl rfl rfl ?_ | refine zD ?_ | refine zE ?_ | refine zF ?_ | refine zG rfl ?_ | refine zH rfl ?_ | refine zI rfl rfl rfl ?_ | refine zJ rfl rfl ?_ | refine zK ?_ | refine zL ?_ | refine zM rfl ?_ | refine zN ?_)
          exact Res.one rfl rfl rfl ⟨_, _, _, _, _, hpr, rfl, hs4, hc4, hk3, by rw [List.length_cons, List.length_cons]; omega, hp7⟩
end Go.Proofs.YtpbbneclkhfgoaaDoor
end
section
/- ltl, fifth: parse, push, text. -/
namespace Go.W
open Go.RowKit Go.Ltl
section
variable {P : Program} {fn : Func} {R : Value → World → Prop} {e : Env} {w : World}
/-- Results of which the first lies in a cell. -/
theorem Res.ct1 [T : TT P] {t t2 b : Nat} {v v2 : Value} {ty : TypeId} {i : TI} (hm : marks e = []) (hr : fn.results = #[.cell t ty, .tmp t2]) (ht : T.ti ty = some i) (h1 : isOne i.k = true)
    (hv : look e t = some (.pointer (some ⟨b, 0, none⟩))) (hv2 : look e t2 = some v2) (hc : w.cell? ⟨b, 0, none⟩ = some v) (h : R (.tuple #[v, v2]) w) : Res P fn R e w := by
  refine ⟨hm, _, fun tm htm => ?_, h⟩
  have hag : i.k.isAgg = false := by cases hk2 : i.k <;> rw [hk2] at h1 <;> first | rfl | (simp [isOne] at h1)
  have hagg := (T.ok ty i ht).isAgg w
  rw [hag] at hagg
  have k2 := htm t _ hv
  have k3 := htm t2 _ hv2
  rw [Array.getD_eq_getD_getElem?] at k2 k3
  simp [results, hr, k2, k3, asAddr, loadVar, hagg, go_sem, hc]
end
end Go.W
namespace Go.Ltl
open Go.W
theorem tokN_len : ∀ (s cur : Str), (tokN s cur).length ≤ 2 * s.length + 1 := by
  intro s
  induction s with
  | nil => intro cur; have : (flush cur).length ≤ 1 := by { unfold flush; split <;> simp }; exact this
  | cons c s ih =>
    intro cur
    have hf : (flush cur).length ≤ 1 := by unfold flush; split <;> simp
    rw [tokN]
    have h1 := ih []
    have h2 := ih (cur ++ [c])
    split
    · rw [List.length_append, List.length_cons]; omega
    · split
      · rw [List.length_append, List.length_cons, List.length_cons]; omega
      · rw [List.length_cons]; omega
end Go.Ltl
namespace Go.Proofs.YtpbbneclkhfgoaaDoor
open Go.W Go.Ltl Go.RowKit
set_option maxRecDepth 100000
attribute [local irreducible] WC WL WQ WS WH

/-- Where a formula is kept. -/
abbrev Nb (b : Nat) (v : Value) : Ent := .blk b (.cells #[v] 87 (0, 0))
theorem parse1_any {w0 w : World} (b bn bs : Nat) (s : Str) (hs : s.length ≤ 2000) (hG : Gl w0) (hp : Hp w0 w [erB b 0, Nb bn .nilIface, Bs bs s]) :
    RetZ Tryd.prog 72 [ptr bs, ptr bn] w (fun _ w' => ∃ f, Hp w0 w' [erB b 0, Nb bn (fmV f)] ∧ parseM s = some f) (fun ch w' => ∃ v, ch = tr 4 ∧ Hp w0 w' [erB b 0, Nb bn v] ∧ parseM s = none ∧ v.oneCell' = true) := by
  have htl : (tokM s).length ≤ 2 * s.length + 1 := tokN_len s []
  refine enterZ Tryd.func72 rfl rfl ⟨rfl, rfl⟩ rfl ?_
  repeat (first | refine zA ?_ | refine zB ?_ | refine zC rfl rfl rfl ?_ | refine zD ?_ | refine zE ?_ | refine zF ?_ | refine zG rfl ?_ | refine zH rfl ?_ | refine zI rfl rfl rfl ?_ | refine zJ rfl rfl ?_ | refine zK ?_ | refine zL ?_ | refine zM rfl ?_ | refine zN ?_)
  refine WL.loadB rfl rfl rfl rfl rfl (hp.obj 2 rfl) (j := 0) rfl ?_
  refine WL.call rfl rfl rfl rfl rfl ent73 (tokens_any s hs w) ?_
  rintro v w1 ⟨a, c, rfl, hp1⟩
  have hsl := Sl.of_row (hp1.at 0 rfl)
  have hc := row_cap (hp1.at 0 rfl)
  have hpA := hp.comb hp1
  refine WL.buildT rfl rfl rfl rfl rfl rfl ?_
  refine WL.box rfl rfl rfl (fun pb w2 h2 => ?_)
  have hp2 : Hp w1 w2 [Pb pb a (tokM s).length c 0] := (Hp.start w1).new h2
  repeat (first | refine zA ?_ | refine zB ?_ | refine zC rfl rfl rfl ?_ | refine zD ?_ | refine zE ?_ | refine zF ?_ | refine zG rfl ?_ | refine zH rfl ?_ | refine zI rfl rfl rfl ?_ | refine zJ rfl rfl ?_ | refine zK ?_ | refine zL ?_ | refine zM rfl ?_ | refine zN ?_)
  refine WL.callZ rfl rfl rfl rfl rfl ent74 rfl (formula_any pb ((hG.hp hp).hp hp1) ((tokM s).length + 1) (tokM s) 0 a c w2 (Nat.lt_succ_self _) (by omega) (by omega) hc hsl hp2) ?_ ?_
  rotate_left
  · rintro ch w' ⟨rfl, hn, a', n', c', k', hp'⟩
    refine ⟨.nilIface, rfl, (hpA.comb hp').pick [2, 3] (by decide), ?_, rfl⟩
    unfold parseM
    rw [hn]
  rintro v w3 ⟨f, l', k', a', c', hn, rfl, hs', hc', hk', hl', hp3⟩
  have hpB := hpA.comb hp3
  refine WL.store rfl rfl rfl rfl rfl (by cases f <;> rfl) (hpB.obj 3 rfl) (Nat.lt_succ_self 0) (fun w4 h4 => ?_)
  have hpC : Hp w0 w4 [Pb pb a' l'.length c' k', Rs (.slice a (tokM s).length c) (tokM s), erB b 0, Nb bn (fmV f), Bs bs s] := hpB.set 3 rfl rfl h4
  repeat (first | refine zA ?_ | refine zB ?_ | refine zC rfl rfl rfl ?_ | refine zD ?_ | refine zE ?_ | refine zF ?_ | refine zG rfl ?_ | refine zH rfl ?_ | refine zI rfl rfl rfl ?_ | refine zJ rfl rfl ?_ | refine zK ?_ | refine zL ?_ | refine zM rfl ?_ | refine zN ?_)
  refine WL.nilC rfl rfl rfl ?_
  repeat (first | refine zA ?_ | refine zB ?_ | refine zC rfl rfl rfl ?_ | refine zD ?_ | refine zE ?_ | refine zF ?_ | refine zG rfl ?_ | refine zH rfl ?_ | refine zI rfl rfl rfl ?_ | refine zJ rfl rfl ?_ | refine zK ?_ | refine zL ?_ | refine zM rfl ?_ | refine zN ?_)
  refine WL.loadB rfl rfl rfl rfl rfl (hpC.obj 0 rfl) (j := 0) rfl ?_
  repeat (first | refine zA ?_ | refine zB ?_ | refine zC rfl rfl rfl ?_ | refine zD ?_ | refine zE ?_ | refine zF ?_ | refine zG rfl ?_ | refine zH rfl ?_ | refine zI rfl rfl rfl ?_ | refine zJ rfl rfl ?_ | refine zK ?_ | refine zL ?_ | refine zM rfl ?_ | refine zN ?_)
  refine WC.cond rfl (fun h1 => ?_) (fun h1 => ?_)
  · have h1 : l' ≠ [] := by intro h; rw [h] at h1; cases h1
    obtain ⟨x, l2, rfl⟩ := List.exists_cons_of_ne_nil h1
    repeat (first | refine zA ?_ | refine zB ?_ | refine zC rfl rfl rfl ?_ | refine zD ?_ | refine zE ?_ | refine zF ?_ | refine zG rfl ?_ | refine zH rfl ?_ | refine zI rfl rfl rfl ?_ | refine zJ rfl rfl ?_ | refine zK ?_ | refine zL ?_ | refine zM rfl ?_ | refine zN ?_)
    refine WL.callZ rfl rfl rfl rfl rfl ent75 rfl (fail_z 4 w4 (Z := fun ch w' => ch = tr 4 ∧ w' = w4) ⟨rfl, rfl⟩) (fun v w' h => h.elim) ?_
    rintro ch w' ⟨rfl, rfl⟩
    refine ⟨fmV f, rfl, hpC.pick [2, 3] (by decide), ?_, by cases f <;> rfl⟩
    unfold parseM
    rw [hn]
  · have h1 : l' = [] := by
      cases l' with
      | nil => rfl
      | cons x l2 => have := of_decide_eq_false h1; exfalso; apply this; show (0 : Int) < ((l2.length + 1 : Nat) : Int); omega
    subst h1
    repeat (first | refine zA ?_ | refine zB ?_ | refine zC rfl rfl rfl ?_ | refine zD ?_ | refine zE ?_ | refine zF ?_ | refine zG rfl ?_ | refine zH rfl ?_ | refine zI rfl rfl rfl ?_ | refine zJ rfl rfl ?_ | refine zK ?_ | refine zL ?_ | refine zM rfl ?_ | refine zN ?_)
    refine Res.zero rfl rfl ⟨f, hpC.pick [2, 3] (by decide), ?_⟩
    unfold parseM
    rw [hn]
theorem parse_any (s : Str) (hs : s.length ≤ 2000) (w : World) (hG : Gl w) :
    Ret Tryd.prog 48 [st s] w fun v w' => ((∃ f, parseM s = some f ∧ v = .tuple #[fmV f, .int .i64 0]) ∨ (parseM s = none ∧ ∃ x, v = .tuple #[x, .int .i64 4])) ∧ Hp w w' [] := by
  refine enter Tryd.func48 rfl rfl ⟨rfl, rfl⟩ rfl ?_
  repeat (first | refine zA ?_ | refine zB ?_ | refine zC rfl rfl rfl ?_ | refine zD ?_ | refine zE ?_ | refine zF ?_ | refine zG rfl ?_ | refine zH rfl ?_ | refine zI rfl rfl rfl ?_ | refine zJ rfl rfl ?_ | refine zK ?_ | refine zL ?_ | refine zM rfl ?_ | refine zN ?_)
  refine WL.box rfl rfl rfl (fun bs w1 h1 => ?_)
  have hp1 := (Hp.start w).new h1
  refine WL.alloc rfl rfl rfl (fun bn w2 h2 => ?_)
  have hp2 : Hp w w2 [Nb bn .nilIface, Bs bs s] := hp1.new h2
  repeat (first | refine zA ?_ | refine zB ?_ | refine zC rfl rfl rfl ?_ | refine zD ?_ | refine zE ?_ | refine zF ?_ | refine zG rfl ?_ | refine zH rfl ?_ | refine zI rfl rfl rfl ?_ | refine zJ rfl rfl ?_ | refine zK ?_ | refine zL ?_ | refine zM rfl ?_ | refine zN ?_)
  refine WL.call rfl rfl rfl rfl rfl ent71 (guard_any (fi := []) (ca := [ptr bs, ptr bn]) (σ := Fm) (τ := Value) (A := fun f => [Nb bn (fmV f)]) (φ := fun f => parseM s = some f) (B := fun v => [Nb bn v]) (k := fun _ => 4) (ψ := fun v => parseM s = none ∧ v.oneCell' = true) ent72 hp2 (fun b w3 hp3 => parse1_any b bn bs s hs hG hp3)) ?_
  rintro v w3 (⟨f, rfl, hp3, hf⟩ | ⟨x, rfl, hp3, hf, h1⟩)
  · have h1 : (fmV f).oneCell' = true := by cases f <;> rfl
    repeat (first | refine zA ?_ | refine zB ?_ | refine zC rfl rfl rfl ?_ | refine zD ?_ | refine zE ?_ | refine zF ?_ | refine zG rfl ?_ | refine zH rfl ?_ | refine zI rfl rfl rfl ?_ | refine zJ rfl rfl ?_ | refine zK ?_ | refine zL ?_ | refine zM rfl ?_ | refine zN ?_)
    refine WL.loadB rfl rfl rfl rfl rfl (hp3.obj 0 rfl) (j := 0) rfl ?_
    repeat (first | refine zA ?_ | refine zB ?_ | refine zC rfl rfl rfl ?_ | refine zD ?_ | refine zE ?_ | refine zF ?_ | refine zG rfl ?_ | refine zH rfl ?_ | refine zI rfl rfl rfl ?_ | refine zJ rfl rfl ?_ | refine zK ?_ | refine zL ?_ | refine zM rfl ?_ | refine zN ?_)
    refine WL.store rfl rfl rfl rfl rfl h1 (hp3.obj 0 rfl) (Nat.lt_succ_self 0) (fun w4 h4 => ?_)
    have hp4 : Hp w w4 [Nb bn (fmV f)] := hp3.set 0 rfl rfl h4
    repeat (first | refine zA ?_ | refine zB ?_ | refine zC rfl rfl rfl ?_ | refine zD ?_ | refine zE ?_ | refine zF ?_ | refine zG rfl ?_ | refine zH rfl ?_ | refine zI rfl rfl rfl ?_ | refine zJ rfl rfl ?_ | refine zK ?_ | refine zL ?_ | refine zM rfl ?_ | refine zN ?_)
    exact Res.ct1 rfl rfl rfl rfl rfl rfl (cell_of_obj (hp4.obj 0 rfl) rfl) ⟨.inl ⟨f, hf, rfl⟩, hp4.nil'⟩
  · repeat (first | refine zA ?_ | refine zB ?_ | refine zC rfl rfl rfl ?_ | refine zD ?_ | refine zE ?_ | refine zF ?_ | refine zG rfl ?_ | refine zH rfl ?_ | refine zI rfl rfl rfl ?_ | refine zJ rfl rfl ?_ | refine zK ?_ | refine zL ?_ | refine zM rfl ?_ | refine zN ?_)
    refine WL.loadB rfl rfl rfl rfl rfl (hp3.obj 0 rfl) (j := 0) rfl ?_
    repeat (first | refine zA ?_ | refine zB ?_ | refine zC rfl rfl rfl ?_ | refine zD ?_ | refine zE ?_ | refine zF ?_ | refine zG rfl ?_ | refine zH rfl ?_ | refine zI rfl rfl rfl ?_ | refine zJ rfl rfl ?_ | refine zK ?_ | refine zL ?_ | refine zM rfl ?_ | refine zN ?_)
    refine WL.store rfl rfl rfl rfl rfl h1 (hp3.obj 0 rfl) (Nat.lt_succ_self 0) (fun w4 h4 => ?_)
    have hp4 : Hp w w4 [Nb bn x] := hp3.set 0 rfl rfl h4
    repeat (first | refine zA ?_ | refine zB ?_ | refine zC rfl rfl rfl ?_ | refine zD ?_ | refine zE ?_ | refine zF ?_ | refine zG rfl ?_ | refine zH rfl ?_ | refine zI rfl rfl rfl ?_ | refine zJ rfl rfl ?_ | refine zK ?_ | refine zL ?_ | refine zM rfl ?_ | refine zN ?_)
    exact Res.ct1 rfl rfl rfl rfl rfl rfl (cell_of_obj (hp4.obj 0 rfl) rfl) ⟨.inr ⟨hf, x, rfl⟩, hp4.nil'⟩
end Go.Proofs.YtpbbneclkhfgoaaDoor
end
section
/- ltl, sixth: push, text, Push. -/
namespace Go.W
open Go.RowKit Go.Ltl
/-- The type, the function of the text and the parts of a formula as a value. -/
def fmT : Fm → TypeId
  | .at_ _ => 129
  | .on_ _ _ => 132
  | .tw_ _ _ _ => 108
def fmP : Fm → Value
  | .at_ w => .agg #[st w]
  | .on_ w f => .agg #[st w, fmV f]
  | .tw_ w f g => .agg #[st w, fmV f, fmV g]
def fmN : Fm → FuncId
  | .at_ _ => 122
  | .on_ _ _ => 123
  | .tw_ _ _ _ => 121
theorem fmV_eq (f : Fm) : fmV f = .iface (fmT f) (fmP f) := by cases f <;> rfl
end Go.W
namespace Go.Proofs.YtpbbneclkhfgoaaDoor
open Go.W Go.Ltl Go.RowKit
set_option maxRecDepth 100000
attribute [local irreducible] WC WL WQ WS WH

theorem meth_any (f : Fm) : Meth Tryd.prog (fmT f) "olivette/ltl.text" (fmN f) := by
  intro v args w
  cases f <;> kernel_rfl
theorem push1_any {w0 w : World} {L : List Ent} (b : Nat) (s : Str) (c : Bool) (hG : Gl w0) (hp : Hp w0 w (.blk b (.cells #[.bool c] 4 (0, 0)) :: L)) :
    Ret Tryd.prog 83 [st s, ptr b] w fun v w' => v = st (nameM c s) ∧ w' = w := by
  obtain ⟨mb, es, cc, P, h4, hl, h5, h6, h7⟩ := (hG.hp hp).dual
  refine enter Tryd.func83 rfl rfl ⟨rfl, rfl⟩ rfl ?_
  repeat (first | refine zA ?_ | refine zB ?_ | refine zC rfl rfl rfl ?_ | refine zD ?_ | refine zE ?_ | refine zF ?_ | refine zG rfl ?_ | refine zH rfl ?_ | refine zI rfl rfl rfl ?_ | refine zJ rfl rfl ?_ | refine zK ?_ | refine zL ?_ | refine zM rfl ?_ | refine zN ?_)
  refine WL.loadB rfl rfl rfl rfl rfl (hp.obj 0 rfl) (j := 0) rfl ?_
  repeat (first | refine zA ?_ | refine zB ?_ | refine zC rfl rfl rfl ?_ | refine zD ?_ | refine zE ?_ | refine zF ?_ | refine zG rfl ?_ | refine zH rfl ?_ | refine zI rfl rfl rfl ?_ | refine zJ rfl rfl ?_ | refine zK ?_ | refine zL ?_ | refine zM rfl ?_ | refine zN ?_)
  cases c with
  | true =>
    repeat (first | refine zA ?_ | refine zB ?_ | refine zC rfl rfl rfl ?_ | refine zD ?_ | refine zE ?_ | refine zF ?_ | refine zG rfl ?_ | refine zH rfl ?_ | refine zI rfl rfl rfl ?_ | refine zJ rfl rfl ?_ | refine zK ?_ | refine zL ?_ | refine zM rfl ?_ | refine zN ?_)
    refine WL.load rfl rfl rfl rfl rfl h4 ?_
    repeat (first | refine zA ?_ | refine zB ?_ | refine zC rfl rfl rfl ?_ | refine zD ?_ | refine zE ?_ | refine zF ?_ | refine zG rfl ?_ | refine zH rfl ?_ | refine zI rfl rfl rfl ?_ | refine zJ rfl rfl ?_ | refine zK ?_ | refine zL ?_ | refine zM rfl ?_ | refine zN ?_)
    refine WL.val rfl rfl rfl (yLkS (r := dualM s) rfl rfl rfl rfl rfl rfl h5 h6 (h7 s)) ?_
    repeat (first | refine zA ?_ | refine zB ?_ | refine zC rfl rfl rfl ?_ | refine zD ?_ | refine zE ?_ | refine zF ?_ | refine zG rfl ?_ | refine zH rfl ?_ | refine zI rfl rfl rfl ?_ | refine zJ rfl rfl ?_ | refine zK ?_ | refine zL ?_ | refine zM rfl ?_ | refine zN ?_)
    exact Res.one rfl rfl rfl ⟨rfl, rfl⟩
  | false =>
    repeat (first | refine zA ?_ | refine zB ?_ | refine zC rfl rfl rfl ?_ | refine zD ?_ | refine zE ?_ | refine zF ?_ | refine zG rfl ?_ | refine zH rfl ?_ | refine zI rfl rfl rfl ?_ | refine zJ rfl rfl ?_ | refine zK ?_ | refine zL ?_ | refine zM rfl ?_ | refine zN ?_)
    exact Res.one rfl rfl rfl ⟨rfl, rfl⟩
/-- What push keeps: whether the contrary is wanted, and the part at hand. -/
abbrev Bb (b : Nat) (c : Bool) : Ent := .blk b (.cells #[.bool c] 4 (0, 0))
abbrev Q1b (b : Nat) (s : Str) (f : Fm) : Ent := .blk b (.cells #[st s, fmV f] 132 (0, 0))
abbrev Q2b (b : Nat) (s : Str) (f g : Fm) : Ent := .blk b (.cells #[st s, fmV f, fmV g] 108 (0, 0))
theorem fm_one (f : Fm) : (fmV f).oneCell' = true := by cases f <;> rfl
theorem push_any : ∀ (f : Fm) (c : Bool) (w : World), Gl w → Ret Tryd.prog 53 [fmV f, .bool c] w fun v w' => v = fmV (pushM f c) ∧ Hp w w' [] := by
  intro f
  induction f with
  | at_ s =>
    intro c w hG
    refine enter Tryd.func53 rfl rfl ⟨rfl, rfl⟩ rfl ?_
    repeat (first | refine zA ?_ | refine zB ?_ | refine zC rfl rfl rfl ?_ | refine zD ?_ | refine zE ?_ | refine zF ?_ | refine zG rfl ?_ | refine zH rfl ?_ | refine zI rfl rfl rfl ?_ | refine zJ rfl rfl ?_ | refine zK ?_ | refine zL ?_ | refine zM rfl ?_ | refine zN ?_)
    refine WL.box rfl rfl rfl (fun b w1 h1 => ?_)
    have hp1 := (Hp.start w).new h1
    repeat (first | refine zA ?_ | refine zB ?_ | refine zC rfl rfl rfl ?_ | refine zD ?_ | refine zE ?_ | refine zF ?_ | refine zG rfl ?_ | refine zH rfl ?_ | refine zI rfl rfl rfl ?_ | refine zJ rfl rfl ?_ | refine zK ?_ | refine zL ?_ | refine zM rfl ?_ | refine zN ?_)
    refine WL.val rfl rfl rfl (yAsT rfl rfl rfl) ?_
    repeat (first | refine zA ?_ | refine zB ?_ | refine zC rfl rfl rfl ?_ | refine zD ?_ | refine zE ?_ | refine zF ?_ | refine zG rfl ?_ | refine zH rfl ?_ | refine zI rfl rfl rfl ?_ | refine zJ rfl rfl ?_ | refine zK ?_ | refine zL ?_ | refine zM rfl ?_ | refine zN ?_)
    refine WL.val rfl rfl rfl (yAsT rfl rfl rfl) ?_
    repeat (first | refine zA ?_ | refine zB ?_ | refine zC rfl rfl rfl ?_ | refine zD ?_ | refine zE ?_ | refine zF ?_ | refine zG rfl ?_ | refine zH rfl ?_ | refine zI rfl rfl rfl ?_ | refine zJ rfl rfl ?_ | refine zK ?_ | refine zL ?_ | refine zM rfl ?_ | refine zN ?_)
    refine WL.val rfl rfl rfl (yAsT rfl rfl rfl) ?_
    repeat (first | refine zA ?_ | refine zB ?_ | refine zC rfl rfl rfl ?_ | refine zD ?_ | refine zE ?_ | refine zF ?_ | refine zG rfl ?_ | refine zH rfl ?_ | refine zI rfl rfl rfl ?_ | refine zJ rfl rfl ?_ | refine zK ?_ | refine zL ?_ | refine zM rfl ?_ | refine zN ?_)
    refine WL.alloc rfl rfl rfl (fun b2 w2 h2 => ?_)
    have hp2 := hp1.new h2
    refine WL.storeN rfl rfl rfl rfl rfl (by simp [Value.oneCell', st]) (hp2.obj 0 rfl) (Nat.le_refl _) rfl (fun w3 h3 => ?_)
    have hp3 : Hp w w3 [.blk b2 (.cells #[st s] 129 (0, 0)), Bb b c] := hp2.set 0 rfl rfl h3
    obtain ⟨mb, es, cc, P, h4, hl, h5, h6, h7⟩ := (hG.hp hp3).dual
    repeat (first | refine zA ?_ | refine zB ?_ | refine zC rfl rfl rfl ?_ | refine zD ?_ | refine zE ?_ | refine zF ?_ | refine zG rfl ?_ | refine zH rfl ?_ | refine zI rfl rfl rfl ?_ | refine zJ rfl rfl ?_ | refine zK ?_ | refine zL ?_ | refine zM rfl ?_ | refine zN ?_)
    refine WL.load rfl rfl rfl rfl rfl h4 ?_
    repeat (first | refine zA ?_ | refine zB ?_ | refine zC rfl rfl rfl ?_ | refine zD ?_ | refine zE ?_ | refine zF ?_ | refine zG rfl ?_ | refine zH rfl ?_ | refine zI rfl rfl rfl ?_ | refine zJ rfl rfl ?_ | refine zK ?_ | refine zL ?_ | refine zM rfl ?_ | refine zN ?_)
    refine WL.loadB rfl rfl rfl rfl rfl (hp3.obj 0 rfl) (j := 0) rfl ?_
    refine WL.val rfl rfl rfl (yLkS (r := dualM s) rfl rfl rfl rfl rfl rfl h5 h6 (h7 s)) ?_
    cases hd : dualM s with
    | some r =>
      have e1 : pushM (.at_ s) c = .at_ (nameM c s) := by simp [pushM, hd]
      rw [e1]
      repeat (first | refine zA ?_ | refine zB ?_ | refine zC rfl rfl rfl ?_ | refine zD ?_ | refine zE ?_ | refine zF ?_ | refine zG rfl ?_ | refine zH rfl ?_ | refine zI rfl rfl rfl ?_ | refine zJ rfl rfl ?_ | refine zK ?_ | refine zL ?_ | refine zM rfl ?_ | refine zN ?_)
      refine WL.loadB rfl rfl rfl rfl rfl (hp3.obj 0 rfl) (j := 0) rfl ?_
      refine WL.call rfl rfl rfl rfl rfl ent83 (push1_any b s c hG (hp3.pick [1] (by decide))) ?_
      rintro v w4 ⟨rfl, rfl⟩
      refine WL.buildT (cs := [st (nameM c s)]) rfl rfl rfl rfl rfl rfl ?_
      refine WL.val rfl rfl rfl (yMkI rfl rfl rfl) ?_
      repeat (first | refine zA ?_ | refine zB ?_ | refine zC rfl rfl rfl ?_ | refine zD ?_ | refine zE ?_ | refine zF ?_ | refine zG rfl ?_ | refine zH rfl ?_ | refine zI rfl rfl rfl ?_ | refine zJ rfl rfl ?_ | refine zK ?_ | refine zL ?_ | refine zM rfl ?_ | refine zN ?_)
      exact Res.one rfl rfl rfl ⟨rfl, hp3.nil'⟩
    | none =>
      repeat (first | refine zA ?_ | refine zB ?_ | refine zC rfl rfl rfl ?_ | refine zD ?_ | refine zE ?_ | refine zF ?_ | refine zG rfl ?_ | refine zH rfl ?_ | refine zI rfl rfl rfl ?_ | refine zJ rfl rfl ?_ | refine zK ?_ | refine zL ?_ | refine zM rfl ?_ | refine zN ?_)
      refine WL.loadB rfl rfl rfl rfl rfl (hp3.obj 1 rfl) (j := 0) rfl ?_
      repeat (first | refine zA ?_ | refine zB ?_ | refine zC rfl rfl rfl ?_ | refine zD ?_ | refine zE ?_ | refine zF ?_ | refine zG rfl ?_ | refine zH rfl ?_ | refine zI rfl rfl rfl ?_ | refine zJ rfl rfl ?_ | refine zK ?_ | refine zL ?_ | refine zM rfl ?_ | refine zN ?_)
      cases c with
      | true =>
        have e1 : pushM (.at_ s) true = .on_ wNot (.at_ s) := by simp [pushM, hd]
        rw [e1]
        repeat (first | refine zA ?_ | refine zB ?_ | refine zC rfl rfl rfl ?_ | refine zD ?_ | refine zE ?_ | refine zF ?_ | refine zG rfl ?_ | refine zH rfl ?_ | refine zI rfl rfl rfl ?_ | refine zJ rfl rfl ?_ | refine zK ?_ | refine zL ?_ | refine zM rfl ?_ | refine zN ?_)
        refine WL.loadN rfl rfl rfl rfl rfl (cs := [st s]) rfl (fun j v hj => cell_of_obj (hp3.obj 0 rfl) (by rw [Nat.zero_add]; simpa using hj)) ?_
        refine WL.val rfl rfl rfl (yMkI rfl rfl rfl) ?_
        refine WL.buildT (cs := [st wNot, fmV (.at_ s)]) rfl rfl rfl rfl rfl rfl ?_
        refine WL.val rfl rfl rfl (yMkI rfl rfl rfl) ?_
        repeat (first | refine zA ?_ | refine zB ?_ | refine zC rfl rfl rfl ?_ | refine zD ?_ | refine zE ?_ | refine zF ?_ | refine zG rfl ?_ | refine zH rfl ?_ | refine zI rfl rfl rfl ?_ | refine zJ rfl rfl ?_ | refine zK ?_ | refine zL ?_ | refine zM rfl ?_ | refine zN ?_)
        exact Res.one rfl rfl rfl ⟨rfl, hp3.nil'⟩
      | false =>
        have e1 : pushM (.at_ s) false = .at_ s := by simp [pushM, hd]
        rw [e1]
        repeat (first | refine zA ?_ | refine zB ?_ | refine zC rfl rfl rfl ?_ | refine zD ?_ | refine zE ?_ | refine zF ?_ | refine zG rfl ?_ | refine zH rfl ?_ | refine zI rfl rfl rfl ?_ | refine zJ rfl rfl ?_ | refine zK ?_ | refine zL ?_ | refine zM rfl ?_ | refine zN ?_)
        exact Res.one rfl rfl rfl ⟨rfl, hp3.nil'⟩
  | on_ s f ih =>
    intro c w hG
    refine enter Tryd.func53 rfl rfl ⟨rfl, rfl⟩ rfl ?_
    repeat (first | refine zA ?_ | refine zB ?_ | refine zC rfl rfl rfl ?_ | refine zD ?_ | refine zE ?_ | refine zF ?_ | refine zG rfl ?_ | refine zH rfl ?_ | refine zI rfl rfl rfl ?_ | refine zJ rfl rfl ?_ | refine zK ?_ | refine zL ?_ | refine zM rfl ?_ | refine zN ?_)
    refine WL.box rfl rfl rfl (fun b w1 h1 => ?_)
    have hp1 := (Hp.start w).new h1
    repeat (first | refine zA ?_ | refine zB ?_ | refine zC rfl rfl rfl ?_ | refine zD ?_ | refine zE ?_ | refine zF ?_ | refine zG rfl ?_ | refine zH rfl ?_ | refine zI rfl rfl rfl ?_ | refine zJ rfl rfl ?_ | refine zK ?_ | refine zL ?_ | refine zM rfl ?_ | refine zN ?_)
    refine WL.val rfl rfl rfl (yAsT rfl rfl rfl) ?_
    repeat (first | refine zA ?_ | refine zB ?_ | refine zC rfl rfl rfl ?_ | refine zD ?_ | refine zE ?_ | refine zF ?_ | refine zG rfl ?_ | refine zH rfl ?_ | refine zI rfl rfl rfl ?_ | refine zJ rfl rfl ?_ | refine zK ?_ | refine zL ?_ | refine zM rfl ?_ | refine zN ?_)
    refine WL.alloc rfl rfl rfl (fun b2 w2 h2 => ?_)
    have hp2 := hp1.new h2
    refine WL.storeN rfl rfl rfl rfl rfl (by simp [Value.oneCell', st]; exact fm_one f) (hp2.obj 0 rfl) (Nat.le_refl _) rfl (fun w3 h3 => ?_)
    have hp3 : Hp w w3 [Q1b b2 s f, Bb b c] := hp2.set 0 rfl rfl h3
    repeat (first | refine zA ?_ | refine zB ?_ | refine zC rfl rfl rfl ?_ | refine zD ?_ | refine zE ?_ | refine zF ?_ | refine zG rfl ?_ | refine zH rfl ?_ | refine zI rfl rfl rfl ?_ | refine zJ rfl rfl ?_ | refine zK ?_ | refine zL ?_ | refine zM rfl ?_ | refine zN ?_)
    refine WL.loadB rfl rfl rfl rfl rfl (hp3.obj 0 rfl) (j := 0) rfl ?_
    refine WL.sCmp rfl rfl rfl rfl rfl ?_
    repeat (first | refine zA ?_ | refine zB ?_ | refine zC rfl rfl rfl ?_ | refine zD ?_ | refine zE ?_ | refine zF ?_ | refine zG rfl ?_ | refine zH rfl ?_ | refine zI rfl rfl rfl ?_ | refine zJ rfl rfl ?_ | refine zK ?_ | refine zL ?_ | refine zM rfl ?_ | refine zN ?_)
    refine WC.cond rfl (fun h1 => ?_) (fun h1 => ?_)
    · have h1 : s = wNot := of_decide_eq_true h1
      have e1 : pushM (.on_ s f) c = pushM f (!c) := by simp [pushM, h1]
      rw [e1]
      repeat (first | refine zA ?_ | refine zB ?_ | refine zC rfl rfl rfl ?_ | refine zD ?_ | refine zE ?_ | refine zF ?_ | refine zG rfl ?_ | refine zH rfl ?_ | refine zI rfl rfl rfl ?_ | refine zJ rfl rfl ?_ | refine zK ?_ | refine zL ?_ | refine zM rfl ?_ | refine zN ?_)
      refine WL.loadB rfl rfl rfl rfl rfl (hp3.obj 0 rfl) (j := 1) rfl ?_
      refine WL.loadB rfl rfl rfl rfl rfl (hp3.obj 1 rfl) (j := 0) rfl ?_
      repeat (first | refine zA ?_ | refine zB ?_ | refine zC rfl rfl rfl ?_ | refine zD ?_ | refine zE ?_ | refine zF ?_ | refine zG rfl ?_ | refine zH rfl ?_ | refine zI rfl rfl rfl ?_ | refine zJ rfl rfl ?_ | refine zK ?_ | refine zL ?_ | refine zM rfl ?_ | refine zN ?_)
      refine WL.call rfl rfl rfl rfl rfl ent53 (ih (!c) w3 (hG.hp hp3)) ?_
      rintro v w4 ⟨rfl, hp4⟩
      repeat (first | refine zA ?_ | refine zB ?_ | refine zC rfl rfl rfl ?_ | refine zD ?_ | refine zE ?_ | refine zF ?_ | refine zG rfl ?_ | refine zH rfl ?_ | refine zI rfl rfl rfl ?_ | refine zJ rfl rfl ?_ | refine zK ?_ | refine zL ?_ | refine zM rfl ?_ | refine zN ?_)
      exact Res.one rfl rfl rfl ⟨rfl, (hp3.comb hp4).nil'⟩
    · have h1 : s ≠ wNot := of_decide_eq_false h1
      have e1 : pushM (.on_ s f) c = .on_ (nameM c s) (pushM f c) := by simp [pushM, h1]
      rw [e1]
      repeat (first | refine zA ?_ | refine zB ?_ | refine zC rfl rfl rfl ?_ | refine zD ?_ | refine zE ?_ | refine zF ?_ | refine zG rfl ?_ | refine zH rfl ?_ | refine zI rfl rfl rfl ?_ | refine zJ rfl rfl ?_ | refine zK ?_ | refine zL ?_ | refine zM rfl ?_ | refine zN ?_)
      refine WC.regQ (fun w' => Hp w w' [Q1b b2 s f, Bb b c]) mixed (by kernel_rfl) (fun w' hw' => hp3.keep hw') ?_
      repeat (first | refine WQ.pure rfl rfl rfl ?_ | refine WQ.off rfl rfl rfl ?_ | refine WQ.nil ?_)
      refine WQ.load rfl rfl rfl rfl rfl (fun w' h => cell_of_obj (h.obj 0 rfl) (j := 0) rfl) ?_
      refine WQ.call rfl rfl rfl rfl rfl ent83 (fun w' h => (push1_any b s c hG (h.pick [1] (by decide))).mono fun v w'' hh => ⟨hh.1, by rw [hh.2]; exact h⟩) ?_
      repeat (first | refine WQ.pure rfl rfl rfl ?_ | refine WQ.off rfl rfl rfl ?_ | refine WQ.nil ?_)
      refine WQ.load rfl rfl rfl rfl rfl (fun w' h => cell_of_obj (h.obj 0 rfl) (j := 1) rfl) ?_
      refine WQ.load rfl rfl rfl rfl rfl (fun w' h => cell_of_obj (h.obj 1 rfl) (j := 0) rfl) ?_
      refine WQ.call rfl rfl rfl rfl rfl ent53 (fun w' h => (ih c w' (hG.hp h)).mono fun v w'' hh => ⟨hh.1, h.comb hh.2⟩) ?_
      refine WQ.val rfl rfl (fun _ _ => yBuildT (cs := [st (nameM c s), fmV (pushM f c)]) rfl rfl rfl (by cases pushM f c <;> rfl)) ?_
      refine WQ.val rfl rfl (fun _ _ => yMkI rfl rfl rfl) ?_
      repeat (first | refine WQ.pure rfl rfl rfl ?_ | refine WQ.off rfl rfl rfl ?_ | refine WQ.nil ?_)
      intro w4 hp4
      repeat (first | refine zA ?_ | refine zB ?_ | refine zC rfl rfl rfl ?_ | refine zD ?_ | refine zE ?_ | refine zF ?_ | refine zG rfl ?_ | refine zH rfl ?_ | refine zI rfl rfl rfl ?_ | refine zJ rfl rfl ?_ | refine zK ?_ | refine zL ?_ | refine zM rfl ?_ | refine zN ?_)
      exact Res.one rfl rfl rfl ⟨rfl, hp4.nil'⟩
  | tw_ s f g ihf ihg =>
    intro c w hG
    refine enter Tryd.func53 rfl rfl ⟨rfl, rfl⟩ rfl ?_
    repeat (first | refine zA ?_ | refine zB ?_ | refine zC rfl rfl rfl ?_ | refine zD ?_ | refine zE ?_ | refine zF ?_ | refine zG rfl ?_ | refine zH rfl ?_ | refine zI rfl rfl rfl ?_ | refine zJ rfl rfl ?_ | refine zK ?_ | refine zL ?_ | refine zM rfl ?_ | refine zN ?_)
    refine WL.box rfl rfl rfl (fun b w1 h1 => ?_)
    have hp1 := (Hp.start w).new h1
    repeat (first | refine zA ?_ | refine zB ?_ | refine zC rfl rfl rfl ?_ | refine zD ?_ | refine zE ?_ | refine zF ?_ | refine zG rfl ?_ | refine zH rfl ?_ | refine zI rfl rfl rfl ?_ | refine zJ rfl rfl ?_ | refine zK ?_ | refine zL ?_ | refine zM rfl ?_ | refine zN ?_)
    refine WL.val rfl rfl rfl (yAsT rfl rfl rfl) ?_
    repeat (first | refine zA ?_ | refine zB ?_ | refine zC rfl rfl rfl ?_ | refine zD ?_ | refine zE ?_ | refine zF ?_ | refine zG rfl ?_ | refine zH rfl ?_ | refine zI rfl rfl rfl ?_ | refine zJ rfl rfl ?_ | refine zK ?_ | refine zL ?_ | refine zM rfl ?_ | refine zN ?_)
    refine WL.val rfl rfl rfl (yAsT rfl rfl rfl) ?_
    repeat (first | refine zA ?_ | refine zB ?_ | refine zC rfl rfl rfl ?_ | refine zD ?_ | refine zE ?_ | refine zF ?_ | refine zG rfl ?_ | refine zH rfl ?_ | refine zI rfl rfl rfl ?_ | refine zJ rfl rfl ?_ | refine zK ?_ | refine zL ?_ | refine zM rfl ?_ | refine zN ?_)
    refine WL.alloc rfl rfl rfl (fun b2 w2 h2 => ?_)
    have hp2 := hp1.new h2
    refine WL.storeN rfl rfl rfl rfl rfl (by simp [Value.oneCell', st]; exact ⟨fm_one f, fm_one g⟩) (hp2.obj 0 rfl) (Nat.le_refl _) rfl (fun w3 h3 => ?_)
    have hp3 : Hp w w3 [Q2b b2 s f g, Bb b c] := hp2.set 0 rfl rfl h3
    have e1 : pushM (.tw_ s f g) c = .tw_ (nameM c s) (pushM f c) (pushM g c) := by simp [pushM]
    rw [e1]
    repeat (first | refine zA ?_ | refine zB ?_ | refine zC rfl rfl rfl ?_ | refine zD ?_ | refine zE ?_ | refine zF ?_ | refine zG rfl ?_ | refine zH rfl ?_ | refine zI rfl rfl rfl ?_ | refine zJ rfl rfl ?_ | refine zK ?_ | refine zL ?_ | refine zM rfl ?_ | refine zN ?_)
    refine WC.regQ (fun w' => Hp w w' [Q2b b2 s f g, Bb b c]) mixed (by kernel_rfl) (fun w' hw' => hp3.keep hw') ?_
    repeat (first | refine WQ.pure rfl rfl rfl ?_ | refine WQ.off rfl rfl rfl ?_ | refine WQ.nil ?_)
    refine WQ.load rfl rfl rfl rfl rfl (fun w' h => cell_of_obj (h.obj 0 rfl) (j := 0) rfl) ?_
    refine WQ.call rfl rfl rfl rfl rfl ent83 (fun w' h => (push1_any b s c hG (h.pick [1] (by decide))).mono fun v w'' hh => ⟨hh.1, by rw [hh.2]; exact h⟩) ?_
    repeat (first | refine WQ.pure rfl rfl rfl ?_ | refine WQ.off rfl rfl rfl ?_ | refine WQ.nil ?_)
    refine WQ.load rfl rfl rfl rfl rfl (fun w' h => cell_of_obj (h.obj 0 rfl) (j := 1) rfl) ?_
    refine WQ.load rfl rfl rfl rfl rfl (fun w' h => cell_of_obj (h.obj 1 rfl) (j := 0) rfl) ?_
    refine WQ.call rfl rfl rfl rfl rfl ent53 (fun w' h => (ihf c w' (hG.hp h)).mono fun v w'' hh => ⟨hh.1, h.comb hh.2⟩) ?_
    repeat (first | refine WQ.pure rfl rfl rfl ?_ | refine WQ.off rfl rfl rfl ?_ | refine WQ.nil ?_)
    refine WQ.load rfl rfl rfl rfl rfl (fun w' h => cell_of_obj (h.obj 0 rfl) (j := 2) rfl) ?_
    refine WQ.load rfl rfl rfl rfl rfl (fun w' h => cell_of_obj (h.obj 1 rfl) (j := 0) rfl) ?_
    refine WQ.call rfl rfl rfl rfl rfl ent53 (fun w' h => (ihg c w' (hG.hp h)).mono fun v w'' hh => ⟨hh.1, h.comb hh.2⟩) ?_
    refine WQ.val rfl rfl (fun _ _ => yBuildT (cs := [st (nameM c s), fmV (pushM f c), fmV (pushM g c)]) rfl rfl rfl (by cases pushM f c <;> cases pushM g c <;> rfl)) ?_
    refine WQ.val rfl rfl (fun _ _ => yMkI rfl rfl rfl) ?_
    repeat (first | refine WQ.pure rfl rfl rfl ?_ | refine WQ.off rfl rfl rfl ?_ | refine WQ.nil ?_)
    intro w4 hp4
    repeat (first | refine zA ?_ | refine zB ?_ | refine zC rfl rfl rfl ?_ | refine zD ?_ | refine zE ?_ | refine zF ?_ | refine zG rfl ?_ | refine zH rfl ?_ | refine zI rfl rfl rfl ?_ | refine zJ rfl rfl ?_ | refine zK ?_ | refine zL ?_ | refine zM rfl ?_ | refine zN ?_)
    exact Res.one rfl rfl rfl ⟨rfl, hp4.nil'⟩
end Go.Proofs.YtpbbneclkhfgoaaDoor
end
section
/- ltl, seventh: text, Push. -/
namespace Go.Ltl
open Go.W
/-- Words of at most seven bytes. -/
def shF : Fm → Prop
  | .at_ w => w.length ≤ 7
  | .on_ w f => w.length ≤ 7 ∧ shF f
  | .tw_ w f g => w.length ≤ 7 ∧ shF f ∧ shF g
theorem textF_len : ∀ f, shF f → (textF f).length ≤ 11 * sizeF f := by
  intro f
  induction f with
  | at_ w => intro h; have : w.length ≤ 7 := h; show w.length ≤ 11 * 1; omega
  | on_ w f ih =>
    intro h
    obtain ⟨h1, h2⟩ : w.length ≤ 7 ∧ shF f := h
    have := ih h2
    show ([40] ++ w ++ [32] ++ textF f ++ [41] : Str).length ≤ 11 * (1 + sizeF f)
    simp only [List.length_append, List.length_cons, List.length_nil]
    omega
  | tw_ w f g ihf ihg =>
    intro h
    obtain ⟨h1, h2, h3⟩ : w.length ≤ 7 ∧ shF f ∧ shF g := h
    have := ihf h2
    have := ihg h3
    show ([40] ++ w ++ [32] ++ textF f ++ [32] ++ textF g ++ [41] : Str).length ≤ 11 * (1 + sizeF f + sizeF g)
    simp only [List.length_append, List.length_cons, List.length_nil]
    omega
theorem dualM_len (w v : Str) (h : dualM w = some v) : v.length ≤ 7 := by
  unfold dualM at h
  obtain ⟨p, hp, rfl⟩ := Option.map_eq_some_iff.1 h
  have hm := List.mem_of_find?_eq_some hp
  have : ∀ p ∈ dualL, p.2.length ≤ 7 := by decide
  exact this p hm
theorem nameM_len (c : Bool) (w : Str) (h : w.length ≤ 7) : (nameM c w).length ≤ 7 := by
  unfold nameM
  cases c with
  | false => exact h
  | true =>
    rw [if_pos rfl]
    cases hd : dualM w with
    | none => exact Nat.zero_le _
    | some v => exact dualM_len w v hd
theorem pushM_sh : ∀ f c, shF f → shF (pushM f c) ∧ sizeF (pushM f c) ≤ 2 * sizeF f := by
  intro f
  induction f with
  | at_ w =>
    intro c h
    have h : w.length ≤ 7 := h
    unfold pushM
    split
    · exact ⟨nameM_len c w h, by show 1 ≤ 2 * 1; omega⟩
    · split
      · exact ⟨⟨by decide, h⟩, by show 1 + 1 ≤ 2 * 1; omega⟩
      · exact ⟨h, by show 1 ≤ 2 * 1; omega⟩
  | on_ w f ih =>
    intro c h
    obtain ⟨h1, h2⟩ : w.length ≤ 7 ∧ shF f := h
    unfold pushM
    split
    · have := ih (!c) h2
      refine ⟨this.1, ?_⟩
      have h3 := this.2
      show _ ≤ 2 * (1 + sizeF f)
      omega
    · have := ih c h2
      refine ⟨⟨nameM_len c w h1, this.1⟩, ?_⟩
      have h3 := this.2
      show 1 + sizeF (pushM f c) ≤ 2 * (1 + sizeF f)
      omega
  | tw_ w f g ihf ihg =>
    intro c h
    obtain ⟨h1, h2, h3⟩ : w.length ≤ 7 ∧ shF f ∧ shF g := h
    unfold pushM
    have := ihf c h2
    have h5 := ihg c h3
    refine ⟨⟨nameM_len c w h1, this.1, h5.1⟩, ?_⟩
    have h4 := this.2
    have h6 := h5.2
    show 1 + sizeF (pushM f c) + sizeF (pushM g c) ≤ 2 * (1 + sizeF f + sizeF g)
    omega
/-- What is read is small. -/
theorem mem_le {w : Str} {l : List Str} (hl : ∀ x ∈ l, x.length ≤ 7) (h : w ∈ l) : w.length ≤ 7 := hl w h
theorem prsN_sz : ∀ (n : Nat) (l : List Str) (k : Nat) (f : Fm) (l' : List Str) (k' : Nat), prsN n l k = some (f, l', k') → shF f ∧ k' = k + sizeF f ∧ k' ≤ 12 := by
  intro n
  induction n with
  | zero => intro l k f l' k' h; cases h
  | succ n ih =>
    intro l k f l' k' h
    cases l with
    | nil => cases h
    | cons s l =>
      by_cases hs : s = [40]
      · subst hs
        cases l with
        | nil => cases h
        | cons s l =>
          by_cases hk : 12 < k + 1
          · rw [prsN_pb _ _ _ _ hk] at h; cases h
          · by_cases h1 : s ∈ onesL
            · rw [prsN_on _ _ _ _ (by omega) h1] at h
              cases hq : prsN n l (k + 1) with
              | none => rw [hq] at h; cases h
              | some r =>
                obtain ⟨f1, l1, k1⟩ := r
                obtain ⟨i1, i2, i3⟩ := ih _ _ _ _ _ hq
                rw [hq] at h
                have h : finF (.on_ s f1) k1 l1 = some (f, l', k') := h
                unfold finF at h
                split at h
                · simp only [Option.some.injEq, Prod.mk.injEq] at h
                  obtain ⟨rfl, rfl, rfl⟩ := h
                  exact ⟨⟨mem_le (by decide) h1, i1⟩, by show k1 = k + (1 + sizeF f1); omega, i3⟩
                · cases h
            · by_cases h2 : s ∈ twosL
              · rw [prsN_tw _ _ _ _ (by omega) h1 h2] at h
                cases hq : prsN n l (k + 1) with
                | none => rw [hq] at h; cases h
                | some r =>
                  obtain ⟨f1, l1, k1⟩ := r
                  obtain ⟨i1, i2, i3⟩ := ih _ _ _ _ _ hq
                  simp only [hq] at h
                  cases hq2 : prsN n l1 k1 with
                  | none => rw [hq2] at h; cases h
                  | some r =>
                    obtain ⟨f2, l2, k2⟩ := r
                    obtain ⟨j1, j2, j3⟩ := ih _ _ _ _ _ hq2
                    rw [hq2] at h
                    have h : finF (.tw_ s f1 f2) k2 l2 = some (f, l', k') := h
                    unfold finF at h
                    split at h
                    · simp only [Option.some.injEq, Prod.mk.injEq] at h
                      obtain ⟨rfl, rfl, rfl⟩ := h
                      exact ⟨⟨mem_le (by decide) h2, i1, j1⟩, by show k2 = k + (1 + sizeF f1 + sizeF f2); omega, j3⟩
                    · cases h
              · rw [prsN_un _ _ _ _ h1 h2] at h; cases h
      · by_cases hk : 12 < k + 1
        · rw [prsN_big _ _ _ _ hs hk] at h; cases h
        · rw [prsN_at _ _ _ _ hs (by omega)] at h
          by_cases h1 : s ∈ atomsL
          · rw [if_pos h1] at h
            simp only [Option.some.injEq, Prod.mk.injEq] at h
            obtain ⟨rfl, rfl, rfl⟩ := h
            exact ⟨mem_le (by decide) h1, rfl, by omega⟩
          · rw [if_neg h1] at h; cases h
theorem parseM_sz {s : Str} {f : Fm} (h : parseM s = some f) : shF f ∧ sizeF f ≤ 12 := by
  unfold parseM at h
  split at h
  · rename_i f' k hq
    simp only [Option.some.injEq] at h
    subst h
    obtain ⟨h1, h2, h3⟩ := prsN_sz _ _ _ _ _ _ hq
    exact ⟨h1, by omega⟩
  · cases h
end Go.Ltl
namespace Go.Proofs.YtpbbneclkhfgoaaDoor
open Go.W Go.Ltl Go.RowKit
set_option maxRecDepth 100000
attribute [local irreducible] WC WL WQ WS WH

theorem text_any : ∀ (f : Fm) (w : World), (textF f).length ≤ 1000000 → Ret Tryd.prog (fmN f) [fmP f] w fun v w' => v = st (textF f) ∧ Hp w w' [] := by
  intro f
  induction f with
  | at_ s =>
    intro w hl
    refine enter Tryd.func122 rfl rfl ⟨rfl, rfl⟩ rfl ?_
    repeat (first | refine zA ?_ | refine zB ?_ | refine zC rfl rfl rfl ?_ | refine zD ?_ | refine zE ?_ | refine zF ?_ | refine zG rfl ?_ | refine zH rfl ?_ | refine zI rfl rfl rfl ?_ | refine zJ rfl rfl ?_ | refine zK ?_ | refine zL ?_ | refine zM rfl ?_ | refine zN ?_)
    refine WL.box rfl rfl rfl (fun b w1 h1 => ?_)
    have hp1 : Hp w w1 [.blk b (.cells #[st s] 129 (0, 0))] := (Hp.start w).new h1
    repeat (first | refine zA ?_ | refine zB ?_ | refine zC rfl rfl rfl ?_ | refine zD ?_ | refine zE ?_ | refine zF ?_ | refine zG rfl ?_ | refine zH rfl ?_ | refine zI rfl rfl rfl ?_ | refine zJ rfl rfl ?_ | refine zK ?_ | refine zL ?_ | refine zM rfl ?_ | refine zN ?_)
    refine WL.loadB rfl rfl rfl rfl rfl (hp1.obj 0 rfl) (j := 0) rfl ?_
    repeat (first | refine zA ?_ | refine zB ?_ | refine zC rfl rfl rfl ?_ | refine zD ?_ | refine zE ?_ | refine zF ?_ | refine zG rfl ?_ | refine zH rfl ?_ | refine zI rfl rfl rfl ?_ | refine zJ rfl rfl ?_ | refine zK ?_ | refine zL ?_ | refine zM rfl ?_ | refine zN ?_)
    exact Res.one rfl rfl rfl ⟨rfl, hp1.nil'⟩
  | on_ s f ih =>
    intro w hl
    have hl2 : ([40] ++ s ++ [32] ++ textF f ++ [41] : Str).length ≤ 1000000 := hl
    simp only [List.length_append, List.length_cons, List.length_nil] at hl2
    refine enter Tryd.func123 rfl rfl ⟨rfl, rfl⟩ rfl ?_
    repeat (first | refine zA ?_ | refine zB ?_ | refine zC rfl rfl rfl ?_ | refine zD ?_ | refine zE ?_ | refine zF ?_ | refine zG rfl ?_ | refine zH rfl ?_ | refine zI rfl rfl rfl ?_ | refine zJ rfl rfl ?_ | refine zK ?_ | refine zL ?_ | refine zM rfl ?_ | refine zN ?_)
    refine WL.box rfl rfl rfl (fun b w1 h1 => ?_)
    have hp1 : Hp w w1 [Q1b b s f] := (Hp.start w).new h1
    repeat (first | refine zA ?_ | refine zB ?_ | refine zC rfl rfl rfl ?_ | refine zD ?_ | refine zE ?_ | refine zF ?_ | refine zG rfl ?_ | refine zH rfl ?_ | refine zI rfl rfl rfl ?_ | refine zJ rfl rfl ?_ | refine zK ?_ | refine zL ?_ | refine zM rfl ?_ | refine zN ?_)
    refine WC.regQ (fun w' => Hp w w' [Q1b b s f]) mixed (by kernel_rfl) (fun w' hw' => hp1.keep hw') ?_
    repeat (first | refine WQ.pure rfl rfl rfl ?_ | refine WQ.off rfl rfl rfl ?_ | refine WQ.nil ?_)
    refine WQ.load rfl rfl rfl rfl rfl (fun w' h => cell_of_obj (h.obj 0 rfl) (j := 0) rfl) ?_
    refine WQ.sCat (a := [40]) rfl rfl rfl rfl (by simp only [List.length_cons, List.length_nil]; omega) ?_
    refine WQ.sCat (b := [32]) rfl rfl rfl rfl (by simp only [List.length_append, List.length_cons, List.length_nil]; omega) ?_
    repeat (first | refine WQ.pure rfl rfl rfl ?_ | refine WQ.off rfl rfl rfl ?_ | refine WQ.nil ?_)
    refine WQ.load rfl rfl rfl rfl rfl (fun w' h => cell_of_obj (h.obj 0 rfl) (j := 1) rfl) ?_
    refine WQ.callI rfl (congrArg some (fmV_eq f)) rfl (meth_any f) (fun w' h => (ih w' (by omega)).mono fun v w'' hh => ⟨hh.1, h.comb hh.2⟩) ?_
    refine WQ.sCat rfl rfl rfl rfl (by simp only [List.length_append, List.length_cons, List.length_nil]; omega) ?_
    refine WQ.sCat (b := [41]) rfl rfl rfl rfl (by simp only [List.length_append, List.length_cons, List.length_nil]; omega) ?_
    repeat (first | refine WQ.pure rfl rfl rfl ?_ | refine WQ.off rfl rfl rfl ?_ | refine WQ.nil ?_)
    intro w4 hp4
    repeat (first | refine zA ?_ | refine zB ?_ | refine zC rfl rfl rfl ?_ | refine zD ?_ | refine zE ?_ | refine zF ?_ | refine zG rfl ?_ | refine zH rfl ?_ | refine zI rfl rfl rfl ?_ | refine zJ rfl rfl ?_ | refine zK ?_ | refine zL ?_ | refine zM rfl ?_ | refine zN ?_)
    exact Res.one rfl rfl rfl ⟨rfl, hp4.nil'⟩
  | tw_ s f g ihf ihg =>
    intro w hl
    have hl2 : ([40] ++ s ++ [32] ++ textF f ++ [32] ++ textF g ++ [41] : Str).length ≤ 1000000 := hl
    simp only [List.length_append, List.length_cons, List.length_nil] at hl2
    refine enter Tryd.func121 rfl rfl ⟨rfl, rfl⟩ rfl ?_
    repeat (first | refine zA ?_ | refine zB ?_ | refine zC rfl rfl rfl ?_ | refine zD ?_ | refine zE ?_ | refine zF ?_ | refine zG rfl ?_ | refine zH rfl ?_ | refine zI rfl rfl rfl ?_ | refine zJ rfl rfl ?_ | refine zK ?_ | refine zL ?_ | refine zM rfl ?_ | refine zN ?_)
    refine WL.box rfl rfl rfl (fun b w1 h1 => ?_)
    have hp1 : Hp w w1 [Q2b b s f g] := (Hp.start w).new h1
    repeat (first | refine zA ?_ | refine zB ?_ | refine zC rfl rfl rfl ?_ | refine zD ?_ | refine zE ?_ | refine zF ?_ | refine zG rfl ?_ | refine zH rfl ?_ | refine zI rfl rfl rfl ?_ | refine zJ rfl rfl ?_ | refine zK ?_ | refine zL ?_ | refine zM rfl ?_ | refine zN ?_)
    refine WC.regQ (fun w' => Hp w w' [Q2b b s f g]) mixed (by kernel_rfl) (fun w' hw' => hp1.keep hw') ?_
    repeat (first | refine WQ.pure rfl rfl rfl ?_ | refine WQ.off rfl rfl rfl ?_ | refine WQ.nil ?_)
    refine WQ.load rfl rfl rfl rfl rfl (fun w' h => cell_of_obj (h.obj 0 rfl) (j := 0) rfl) ?_
    refine WQ.sCat (a := [40]) rfl rfl rfl rfl (by simp only [List.length_cons, List.length_nil]; omega) ?_
    refine WQ.sCat (b := [32]) rfl rfl rfl rfl (by simp only [List.length_append, List.length_cons, List.length_nil]; omega) ?_
    repeat (first | refine WQ.pure rfl rfl rfl ?_ | refine WQ.off rfl rfl rfl ?_ | refine WQ.nil ?_)
    refine WQ.load rfl rfl rfl rfl rfl (fun w' h => cell_of_obj (h.obj 0 rfl) (j := 1) rfl) ?_
    refine WQ.callI rfl (congrArg some (fmV_eq f)) rfl (meth_any f) (fun w' h => (ihf w' (by omega)).mono fun v w'' hh => ⟨hh.1, h.comb hh.2⟩) ?_
    refine WQ.sCat rfl rfl rfl rfl (by simp only [List.length_append, List.length_cons, List.length_nil]; omega) ?_
    refine WQ.sCat (b := [32]) rfl rfl rfl rfl (by simp only [List.length_append, List.length_cons, List.length_nil]; omega) ?_
    repeat (first | refine WQ.pure rfl rfl rfl ?_ | refine WQ.off rfl rfl rfl ?_ | refine WQ.nil ?_)
    refine WQ.load rfl rfl rfl rfl rfl (fun w' h => cell_of_obj (h.obj 0 rfl) (j := 2) rfl) ?_
    refine WQ.callI rfl (congrArg some (fmV_eq g)) rfl (meth_any g) (fun w' h => (ihg w' (by omega)).mono fun v w'' hh => ⟨hh.1, h.comb hh.2⟩) ?_
    refine WQ.sCat rfl rfl rfl rfl (by simp only [List.length_append, List.length_cons, List.length_nil]; omega) ?_
    refine WQ.sCat (b := [41]) rfl rfl rfl rfl (by simp only [List.length_append, List.length_cons, List.length_nil]; omega) ?_
    repeat (first | refine WQ.pure rfl rfl rfl ?_ | refine WQ.off rfl rfl rfl ?_ | refine WQ.nil ?_)
    intro w4 hp4
    repeat (first | refine zA ?_ | refine zB ?_ | refine zC rfl rfl rfl ?_ | refine zD ?_ | refine zE ?_ | refine zF ?_ | refine zG rfl ?_ | refine zH rfl ?_ | refine zI rfl rfl rfl ?_ | refine zJ rfl rfl ?_ | refine zK ?_ | refine zL ?_ | refine zM rfl ?_ | refine zN ?_)
    exact Res.one rfl rfl rfl ⟨rfl, hp4.nil'⟩
/-- What Push gives. -/
def PushM (s : Str) : Value := match parseM s with
  | some f => .tuple #[st (textF (pushM f false)), .int .i64 0]
  | none => .tuple #[st [], .int .i64 4]
theorem Push_any (s : Str) (hs : s.length ≤ 2000) (w : World) (hG : Gl w) : Ret Tryd.prog 22 [st s] w fun v w' => v = PushM s ∧ Hp w w' [] := by
  refine enter Tryd.func22 rfl rfl ⟨rfl, rfl⟩ rfl ?_
  repeat (first | refine zA ?_ | refine zB ?_ | refine zC rfl rfl rfl ?_ | refine zD ?_ | refine zE ?_ | refine zF ?_ | refine zG rfl ?_ | refine zH rfl ?_ | refine zI rfl rfl rfl ?_ | refine zJ rfl rfl ?_ | refine zK ?_ | refine zL ?_ | refine zM rfl ?_ | refine zN ?_)
  refine WL.call rfl rfl rfl rfl rfl ent48 (parse_any s hs w hG) ?_
  rintro v w1 ⟨⟨f, hf, rfl⟩ | ⟨hf, x, rfl⟩, hp1⟩
  · repeat (first | refine zA ?_ | refine zB ?_ | refine zC rfl rfl rfl ?_ | refine zD ?_ | refine zE ?_ | refine zF ?_ | refine zG rfl ?_ | refine zH rfl ?_ | refine zI rfl rfl rfl ?_ | refine zJ rfl rfl ?_ | refine zK ?_ | refine zL ?_ | refine zM rfl ?_ | refine zN ?_)
    refine WL.call rfl rfl rfl rfl rfl ent53 (push_any f false w1 (hG.hp hp1)) ?_
    rintro v w2 ⟨rfl, hp2⟩
    obtain ⟨h1, h2⟩ := parseM_sz hf
    obtain ⟨h3, h4⟩ := pushM_sh f false h1
    have h5 := textF_len _ h3
    refine WL.callI rfl (congrArg some (fmV_eq (pushM f false))) rfl (meth_any _) (text_any (pushM f false) w2 (by omega)) ?_
    rintro v w3 ⟨rfl, hp3⟩
    repeat (first | refine zA ?_ | refine zB ?_ | refine zC rfl rfl rfl ?_ | refine zD ?_ | refine zE ?_ | refine zF ?_ | refine zG rfl ?_ | refine zH rfl ?_ | refine zI rfl rfl rfl ?_ | refine zJ rfl rfl ?_ | refine zK ?_ | refine zL ?_ | refine zM rfl ?_ | refine zN ?_)
    refine Res.two rfl rfl rfl rfl ⟨?_, (hp1.comb hp2).comb hp3⟩
    unfold PushM
    rw [hf]
  · repeat (first | refine zA ?_ | refine zB ?_ | refine zC rfl rfl rfl ?_ | refine zD ?_ | refine zE ?_ | refine zF ?_ | refine zG rfl ?_ | refine zH rfl ?_ | refine zI rfl rfl rfl ?_ | refine zJ rfl rfl ?_ | refine zK ?_ | refine zL ?_ | refine zM rfl ?_ | refine zN ?_)
    refine Res.two rfl rfl rfl rfl ⟨?_, hp1⟩
    unfold PushM
    rw [hf]
    rfl
end Go.Proofs.YtpbbneclkhfgoaaDoor
end
section
/- ltl, eighth: lists of ints joined; a list searched by a test. -/
namespace Go.W
open Go.RowKit
def zs (xs : List Int) : List Value := xs.map (Value.int .i64)
theorem zs_len (xs : List Int) : (zs xs).length = xs.length := by simp [zs]
theorem zs_at {xs : List Int} {i : Nat} (h : i < xs.length) : (zs xs)[i]? = some (.int .i64 xs[i]) := by simp [zs, h]
theorem zs_app (xs ys : List Int) : zs (xs ++ ys) = zs xs ++ zs ys := by simp [zs]
theorem zs_cells (xs : List Int) : Cells (zs xs) := by
  intro v hv
  obtain ⟨x, _, rfl⟩ := List.mem_map.1 hv
  rfl
section
variable {P : Program} [T : TT P] {ro : Option Nat} {n : Nat} {l0 rest : List Oper} {N : Nor} {Z : Pan} {e : Env} {w w' : World} {ty : TypeId} {pos : String} {aft : Array Edge} {g : Option (Nat × Bool)}
theorem WL.eqNil {d : Nat} {t t2 E : TypeId} {z : Value} {s0 b0 k c : Nat} {x : Operand} {a : Option Addr} (hg : grd l0 e g = some true) (hd : Nat.blt d n = true) (ht : T.ti t = some ⟨.slice E, z, s0, b0⟩) (hx : opv e x = some (.slice a k c))
    (h : WL P ro n l0 N Z rest ((d, .bool a.isNone) :: e) w) : WL P ro n l0 N Z (⟨some d, .binOp .eql t x (.const (.slice none 0 0)) t2, ty, pos, aft, g⟩ :: rest) e w := by
  have hu : P.underlying t = some (.slice E) := (T.ok t _ ht).k
  refine WL.val hg rfl hd ?_ h
  intro ρ hρ d' pos' aft' g'
  have h2 : ρ (.const (.slice none 0 0)) = .slice none 0 0 := hρ _ _ rfl
  simp [execOp, hρ _ _ hx, h2, eqGuard_at_slice, Lib.run_eql_slice_nil w t E a k c 0 0 hu]
theorem newD {w : World} {o : Obj} : NewB w w.heap.size o (w.drew.alloc o) :=
  ⟨rfl, heap_new w.drew o, grownBy_trans (drewB w) (grown_alloc w.drew o)⟩
theorem WL.capS {d : Nat} {x : Operand} {t t2 E : TypeId} {z : Value} {s0 b0 len cap : Nat} {a : Option Addr} (hg : grd l0 e g = some true) (hd : Nat.blt d n = true) (ht : T.ti t = some ⟨.slice E, z, s0, b0⟩) (hx : opv e x = some (.slice a len cap))
    (h : WL P ro n l0 N Z rest ((d, .int .i64 (cap : Nat)) :: e) w) : WL P ro n l0 N Z (⟨some d, .call ⟨.builtin .cap, #[x], #[t]⟩, t2, pos, aft, g⟩ :: rest) e w := by
  have hu : P.underlying t = some (.slice E) := (T.ok t _ ht).k
  refine WL.val hg rfl hd ?_ h
  intro ρ hρ d' pos' aft' g'
  simp [execOp, resolve, invoke, builtin, hρ _ _ hx, Builtin.cap_, run_underlying hu, goInt]
/-- append(nil, make(.., m)..). -/
theorem WL.appendZ0 {d : Nat} {s x : Operand} {t tn E : TypeId} {i : TI} {z z2 : Value} {s0 b0 s2 b2 m : Nat} {k kn : IntKind}
    (hg : grd l0 e g = some true) (hd : Nat.blt d n = true) (ht : T.ti t = some ⟨.slice E, z, s0, b0⟩) (hi : T.ti E = some i) (htn : T.ti tn = some ⟨.int kn, z2, s2, b2⟩)
    (hzs : i.zero.cells.size = i.size) (hsz : 0 < i.size)
    (hsv : opv e s = some (.slice none 0 0)) (hxv : opv e x = some (.int k (m : Nat))) (h0 : 0 < m) (h63 : m ≤ maxLen) (hb : m * i.bytes ≤ 140737488355328)
    (h : ∀ b cap arr w', NewB w b (.cells arr E (0, 0)) w' → arr.size = cap * i.size → m ≤ cap → cap ≤ maxLen → WL P ro n l0 N Z rest ((d, .slice (some ⟨b, 0, none⟩) m cap) :: e) w') :
    WL P ro n l0 N Z (⟨some d, .call ⟨.builtin .append, #[s, x], #[t, tn]⟩, ty, pos, aft, g⟩ :: rest) e w := by
  have hu : P.underlying t = some (.slice E) := (T.ok t _ ht).k
  have hun : P.underlying tn = some (.int kn) := (T.ok tn _ htn).k
  obtain ⟨j, hj, hjj⟩ := Option.map_eq_some_iff.1 (T.ok E i hi).info
  simp only [Prod.mk.injEq] at hjj
  obtain ⟨hj1, hj2, hj3⟩ := hjj
  have hr := Lib.run_append_nil_zeros (P := P) w t tn ty E j i.zero k kn hu hun hj hj1 m h0 (by omega) (by simp only [maxLen] at h63; omega) (by rw [hj3]; omega)
  refine WL.val hg rfl hd ?_ (h _ (grownCap w m 0 E) (Builtin.zeroCells i.zero.cells m ++ Builtin.zeroCells i.zero.cells (grownCap w m 0 E - m)) _ newD ?_ (grownCap_ge _ _ _ _) (grownCap_le_maxLen _ _ _ _ h63))
  · intro ρ hρ d' pos' aft' g'
    simp [execOp, resolve, invoke, builtin, hρ _ _ hsv, hρ _ _ hxv, hr]
  · have := grownCap_ge w m 0 E
    rw [Array.size_append, size_zeroCells, size_zeroCells, hzs, ← Nat.add_mul]
    congr 1
    omega
end
/-- A block read as a row of fewer elements than there is room for. -/
theorem Hp.rowN {w0 w : World} {b n cap s : Nat} {arr : Array Value} {E : TypeId} {L : List Ent} (h : Hp w0 w (.blk b (.cells arr E (0, 0)) :: L)) (hs : arr.size = cap * s) (hn : n ≤ cap) (hm : cap ≤ maxLen) :
    Hp w0 w (.row E s (.slice (some ⟨b, 0, none⟩) n cap) n (arr.toList.take (n * s)) :: L) := by
  have h1 := List.pairwise_cons.1 h.dist
  have h2 := h.sat (.blk b (.cells arr E (0, 0))) (by simp)
  refine ⟨h.below, ?_, List.pairwise_cons.2 ⟨fun y hy k hk => h1.1 y hy k ?_, h1.2⟩⟩
  · intro x hx
    rcases List.mem_cons.1 hx with hx | hx
    · subst hx
      refine ⟨?_, .inr ⟨b, cap, arr, rfl, h2.1, h2.2, hn, hm, hs, rfl⟩⟩
      have : n * s ≤ cap * s := Nat.mul_le_mul_right _ hn
      rw [List.length_take, Array.length_toList, hs]
      omega
    · exact h.sat x (by simp [hx])
  · simp only [Ent.owns, Value.ownBlock] at hk ⊢
    simpa using hk
end Go.W
namespace Go.Proofs.YtpbbneclkhfgoaaDoor
open Go.W Go.Ltl Go.RowKit
set_option maxRecDepth 100000
attribute [local irreducible] WC WL WQ WS WH

/-- A row of ints. -/
abbrev Ri (v : Value) (l : List Int) : Ent := .row 3 1 v l.length (zs l)
theorem Grow_any (n : Nat) (hn : n ≤ 1000000) (w : World) :
    Ret Tryd.prog 69 [.slice none 0 0, .int .i64 (n : Nat)] w fun u w' => ∃ pa pc, u = .slice pa 0 pc ∧ Hp w w' [Ri u []] := by
  refine enter Tryd.func69 rfl rfl ⟨rfl, rfl⟩ rfl ?_
  repeat (first | refine zA ?_ | refine zB ?_ | refine zC rfl rfl rfl ?_ | refine zD ?_ | refine zE ?_ | refine zF ?_ | refine zG rfl ?_ | refine zH rfl ?_ | refine zI rfl rfl rfl ?_ | refine zJ rfl rfl ?_ | refine zK ?_ | refine zL ?_ | refine zM rfl ?_ | refine zN ?_)
  have e1 : IntKind.i64.wrap ((n : Int) - IntKind.i64.wrap (((0 : Nat) : Int) - ((0 : Nat) : Int))) = ((n : Nat) : Int) := by rw [show IntKind.i64.wrap (((0 : Nat) : Int) - ((0 : Nat) : Int)) = 0 from rfl, Int.sub_zero]; exact wrap_mid (by omega) (by omega)
  refine WL.capS rfl rfl rfl rfl ?_
  repeat (first | refine zA ?_ | refine zB ?_ | refine zC rfl rfl rfl ?_ | refine zD ?_ | refine zE ?_ | refine zF ?_ | refine zG rfl ?_ | refine zH rfl ?_ | refine zI rfl rfl rfl ?_ | refine zJ rfl rfl ?_ | refine zK ?_ | refine zL ?_ | refine zM rfl ?_ | refine zN ?_)
  refine WC.known (d := 1) (congrArg (fun z => some (Value.int .i64 z)) e1) ?_
  refine WC.cond rfl (fun hc => ?_) (fun hc => ?_)
  · have h0 : 0 < n := by have := of_decide_eq_true hc; rw [e1] at this; omega
    repeat (first | refine zA ?_ | refine zB ?_ | refine zC rfl rfl rfl ?_ | refine zD ?_ | refine zE ?_ | refine zF ?_ | refine zG rfl ?_ | refine zH rfl ?_ | refine zI rfl rfl rfl ?_ | refine zJ rfl rfl ?_ | refine zK ?_ | refine zL ?_ | refine zM rfl ?_ | refine zN ?_)
    refine WL.capS rfl rfl rfl rfl ?_
    repeat (first | refine zA ?_ | refine zB ?_ | refine zC rfl rfl rfl ?_ | refine zD ?_ | refine zE ?_ | refine zF ?_ | refine zG rfl ?_ | refine zH rfl ?_ | refine zI rfl rfl rfl ?_ | refine zJ rfl rfl ?_ | refine zK ?_ | refine zL ?_ | refine zM rfl ?_ | refine zN ?_)
    refine WL.sliceHi (h := 0) rfl rfl rfl rfl rfl rfl (Nat.le_refl 0) ?_
    repeat (first | refine zA ?_ | refine zB ?_ | refine zC rfl rfl rfl ?_ | refine zD ?_ | refine zE ?_ | refine zF ?_ | refine zG rfl ?_ | refine zH rfl ?_ | refine zI rfl rfl rfl ?_ | refine zJ rfl rfl ?_ | refine zK ?_ | refine zL ?_ | refine zM rfl ?_ | refine zN ?_)
    refine WL.appendZ0 rfl rfl rfl rfl rfl rfl (by decide) rfl rfl h0 (by unfold maxLen; omega) (by show n * 8 ≤ _; omega) ?_
    intro b cap arr w1 hb hsz hc1 hc2
    have hp1 := ((Hp.start w).new hb).rowN (s := 1) hsz (Nat.zero_le cap) hc2
    rw [Nat.zero_mul, List.take_zero] at hp1
    repeat (first | refine zA ?_ | refine zB ?_ | refine zC rfl rfl rfl ?_ | refine zD ?_ | refine zE ?_ | refine zF ?_ | refine zG rfl ?_ | refine zH rfl ?_ | refine zI rfl rfl rfl ?_ | refine zJ rfl rfl ?_ | refine zK ?_ | refine zL ?_ | refine zM rfl ?_ | refine zN ?_)
    refine WL.sliceHi (h := 0) rfl rfl rfl rfl rfl rfl (Nat.zero_le cap) ?_
    repeat (first | refine zA ?_ | refine zB ?_ | refine zC rfl rfl rfl ?_ | refine zD ?_ | refine zE ?_ | refine zF ?_ | refine zG rfl ?_ | refine zH rfl ?_ | refine zI rfl rfl rfl ?_ | refine zJ rfl rfl ?_ | refine zK ?_ | refine zL ?_ | refine zM rfl ?_ | refine zN ?_)
    exact Res.one rfl rfl rfl ⟨_, _, rfl, hp1⟩
  · repeat (first | refine zA ?_ | refine zB ?_ | refine zC rfl rfl rfl ?_ | refine zD ?_ | refine zE ?_ | refine zF ?_ | refine zG rfl ?_ | refine zH rfl ?_ | refine zI rfl rfl rfl ?_ | refine zJ rfl rfl ?_ | refine zK ?_ | refine zL ?_ | refine zM rfl ?_ | refine zN ?_)
    exact Res.one rfl rfl rfl ⟨none, 0, rfl, (Hp.start w).nilrow _ _⟩
/-- Slices laid one behind the other. -/
abbrev Vs := List (Option Addr × Nat × List Int)
def catV (vs : Vs) : List Value := vs.map fun x => .slice x.1 x.2.2.length x.2.1
def catL (vs : Vs) : List Int := vs.flatMap fun x => x.2.2
theorem catL_take (vs : Vs) {i : Nat} (hi : i < vs.length) : catL (vs.take (i + 1)) = catL (vs.take i) ++ vs[i].2.2 := by
  unfold catL
  rw [List.take_succ_eq_append_getElem hi, List.flatMap_append, List.flatMap_singleton]
theorem catL_le (vs : Vs) (i : Nat) : (catL (vs.take i)).length ≤ (catL vs).length := by
  conv => rhs; rw [← List.take_append_drop i vs]
  unfold catL
  rw [List.flatMap_append, List.length_append]
  omega
theorem Concat_any (a : Option Addr) (c : Nat) (vs : Vs) (hlen : vs.length ≤ 1000) (hsum : (catL vs).length ≤ 1000000) (w : World) (hs : Sl w a (catV vs)) (hv : ∀ x ∈ vs, Sl w x.1 (zs x.2.2)) :
    Ret Tryd.prog 43 [.slice a vs.length c] w fun u w' => ∃ pa pc, u = .slice pa (catL vs).length pc ∧ Hp w w' [Ri u (catL vs)] := by
  have hcat : ∀ {i : Nat} (hi : i < vs.length), (catV vs)[i]? = some (.slice vs[i].1 vs[i].2.2.length vs[i].2.1) := by
    intro i hi
    unfold catV
    rw [List.getElem?_map, List.getElem?_eq_getElem hi]
    rfl
  refine enter Tryd.func43 rfl rfl ⟨rfl, rfl⟩ rfl ?_
  repeat (first | refine zA ?_ | refine zB ?_ | refine zC rfl rfl rfl ?_ | refine zD ?_ | refine zE ?_ | refine zF ?_ | refine zG rfl ?_ | refine zH rfl ?_ | refine zI rfl rfl rfl ?_ | refine zJ rfl rfl ?_ | refine zK ?_ | refine zL ?_ | refine zM rfl ?_ | refine zN ?_)
  refine WC.loop Nat (fun i => [(0, .slice a vs.length c), (3, .int .i64 ((catL (vs.take i)).length : Nat)), (9, .slice a vs.length c), (10, .int .i64 (vs.length : Nat)), (11, .int .i64 (i : Nat))])
    (fun i w' => i ≤ vs.length ∧ w = w') (fun i => vs.length - i) 0 ⟨rfl, rfl, rfl, rfl, rfl, rfl⟩ ⟨Nat.zero_le _, rfl⟩ ?_
  rintro i w1 ⟨hi, rfl⟩
  repeat (first | refine zA ?_ | refine zB ?_ | refine zC rfl rfl rfl ?_ | refine zD ?_ | refine zE ?_ | refine zF ?_ | refine zG rfl ?_ | refine zH rfl ?_ | refine zI rfl rfl rfl ?_ | refine zJ rfl rfl ?_ | refine zK ?_ | refine zL ?_ | refine zM rfl ?_ | refine zN ?_)
  refine WC.cond rfl (fun hc => ?_) (fun hc => ?_)
  · have hi : i < vs.length := by have := of_decide_eq_true hc; omega
    have step := wrap_succ hi (by omega)
    have hle := catL_le vs (i + 1)
    have e1 := catL_take vs hi
    have e2 := congrArg List.length e1
    rw [List.length_append] at e2
    have e3 : IntKind.i64.wrap (((catL (vs.take i)).length : Int) + ((vs[i].2.2.length : Nat) : Int)) = (((catL (vs.take (i + 1))).length : Nat) : Int) := by rw [wrap_mid (by omega) (by omega)]; omega
    repeat (first | refine zA ?_ | refine zB ?_ | refine zC rfl rfl rfl ?_ | refine zD ?_ | refine zE ?_ | refine zF ?_ | refine zG rfl ?_ | refine zH rfl ?_ | refine zI rfl rfl rfl ?_ | refine zJ rfl rfl ?_ | refine zK ?_ | refine zL ?_ | refine zM rfl ?_ | refine zN ?_)
    refine WL.ixload rfl (fun _ => rfl) rfl rfl rfl rfl rfl rfl rfl hi rfl rfl hs (hcat hi) ?_
    intro pp
    repeat (first | refine zA ?_ | refine zB ?_ | refine zC rfl rfl rfl ?_ | refine zD ?_ | refine zE ?_ | refine zF ?_ | refine zG rfl ?_ | refine zH rfl ?_ | refine zI rfl rfl rfl ?_ | refine zJ rfl rfl ?_ | refine zK ?_ | refine zL ?_ | refine zM rfl ?_ | refine zN ?_)
    refine WC.known (d := 3) (congrArg (fun z => some (Value.int .i64 z)) e3) ?_
    refine WC.cond rfl (fun hc => by have := of_decide_eq_true hc; rw [e3] at this; omega) (fun hc => ?_)
    repeat (first | refine zA ?_ | refine zB ?_ | refine zC rfl rfl rfl ?_ | refine zD ?_ | refine zE ?_ | refine zF ?_ | refine zG rfl ?_ | refine zH rfl ?_ | refine zI rfl rfl rfl ?_ | refine zJ rfl rfl ?_ | refine zK ?_ | refine zL ?_ | refine zM rfl ?_ | refine zN ?_)
    exact ⟨i + 1, by omega, ⟨rfl, rfl, rfl, rfl, congrArg (fun z => some (Value.int .i64 z)) step, rfl⟩, by omega, rfl⟩
  · obtain rfl : i = vs.length := by have := of_decide_eq_false hc; omega
    rw [List.take_length]
    repeat (first | refine zA ?_ | refine zB ?_ | refine zC rfl rfl rfl ?_ | refine zD ?_ | refine zE ?_ | refine zF ?_ | refine zG rfl ?_ | refine zH rfl ?_ | refine zI rfl rfl rfl ?_ | refine zJ rfl rfl ?_ | refine zK ?_ | refine zL ?_ | refine zM rfl ?_ | refine zN ?_)
    refine WL.call rfl rfl rfl rfl rfl ent69 (Grow_any _ hsum w) ?_
    rintro _ w1 ⟨pa, pc, rfl, hp1⟩
    repeat (first | refine zA ?_ | refine zB ?_ | refine zC rfl rfl rfl ?_ | refine zD ?_ | refine zE ?_ | refine zF ?_ | refine zG rfl ?_ | refine zH rfl ?_ | refine zI rfl rfl rfl ?_ | refine zJ rfl rfl ?_ | refine zK ?_ | refine zL ?_ | refine zM rfl ?_ | refine zN ?_)
    refine WC.loop (Nat × Option Addr × Nat) (fun (i, pa, pc) => [(6, .slice pa (catL (vs.take i)).length pc), (25, .slice a vs.length c), (26, .int .i64 (vs.length : Nat)), (27, .int .i64 (i : Nat))])
      (fun (i, pa, pc) w' => i ≤ vs.length ∧ Hp w w' [Ri (.slice pa (catL (vs.take i)).length pc) (catL (vs.take i))]) (fun (i, _, _) => vs.length - i) (0, pa, pc) ⟨rfl, rfl, rfl, rfl, rfl⟩ ⟨Nat.zero_le _, hp1⟩ ?_
    clear hp1 w1
    rintro ⟨i, pa, pc⟩ w1 ⟨hi, hp1⟩
    repeat (first | refine zA ?_ | refine zB ?_ | refine zC rfl rfl rfl ?_ | refine zD ?_ | refine zE ?_ | refine zF ?_ | refine zG rfl ?_ | refine zH rfl ?_ | refine zI rfl rfl rfl ?_ | refine zJ rfl rfl ?_ | refine zK ?_ | refine zL ?_ | refine zM rfl ?_ | refine zN ?_)
    refine WC.cond rfl (fun hc => ?_) (fun hc => ?_)
    · have hi : i < vs.length := by have := of_decide_eq_true hc; omega
      have step := wrap_succ hi (by omega)
      have hle := catL_le vs (i + 1)
      have e1 := catL_take vs hi
      have e2 := congrArg List.length e1
      rw [List.length_append] at e2
      repeat (first | refine zA ?_ | refine zB ?_ | refine zC rfl rfl rfl ?_ | refine zD ?_ | refine zE ?_ | refine zF ?_ | refine zG rfl ?_ | refine zH rfl ?_ | refine zI rfl rfl rfl ?_ | refine zJ rfl rfl ?_ | refine zK ?_ | refine zL ?_ | refine zM rfl ?_ | refine zN ?_)
      refine WL.ixload rfl (fun _ => rfl) rfl rfl rfl rfl rfl rfl rfl hi rfl rfl (hs.hp hp1) (hcat hi) ?_
      intro pp
      repeat (first | refine zA ?_ | refine zB ?_ | refine zC rfl rfl rfl ?_ | refine zD ?_ | refine zE ?_ | refine zF ?_ | refine zG rfl ?_ | refine zH rfl ?_ | refine zI rfl rfl rfl ?_ | refine zJ rfl rfl ?_ | refine zK ?_ | refine zL ?_ | refine zM rfl ?_ | refine zN ?_)
      refine WL.append 0 hp1 rfl rfl rfl rfl rfl (by decide) rfl rfl rfl (news := zs vs[i].2.2) ((hv _ (List.getElem_mem hi)).hp hp1) (by rw [zs_len]; exact (Nat.mul_one _).symm) (zs_cells _) (by unfold maxLen; omega) (by show ((catL (vs.take i)).length + vs[i].2.2.length) * 8 ≤ _; omega) ?_
      intro ra rc w2 hp2 hg2
      repeat (first | refine zA ?_ | refine zB ?_ | refine zC rfl rfl rfl ?_ | refine zD ?_ | refine zE ?_ | refine zF ?_ | refine zG rfl ?_ | refine zH rfl ?_ | refine zI rfl rfl rfl ?_ | refine zJ rfl rfl ?_ | refine zK ?_ | refine zL ?_ | refine zM rfl ?_ | refine zN ?_)
      refine ⟨(i + 1, ra, rc), (by show vs.length - (i + 1) < vs.length - i; omega), ⟨congrArg (fun z => some (Value.slice ra z rc)) e2.symm, rfl, rfl, congrArg (fun z => some (Value.int .i64 z)) step, rfl⟩, by omega, ?_⟩
      show Hp w w2 [Ri _ _]
      unfold Ri
      rw [e2, e1, zs_app]
      exact hp2
    · obtain rfl : i = vs.length := by have := of_decide_eq_false hc; omega
      rw [List.take_length] at hp1
      repeat (first | refine zA ?_ | refine zB ?_ | refine zC rfl rfl rfl ?_ | refine zD ?_ | refine zE ?_ | refine zF ?_ | refine zG rfl ?_ | refine zH rfl ?_ | refine zI rfl rfl rfl ?_ | refine zJ rfl rfl ?_ | refine zK ?_ | refine zL ?_ | refine zM rfl ?_ | refine zN ?_)
      repeat (first | refine zA ?_ | refine zB ?_ | refine zC rfl rfl rfl ?_ | refine zD ?_ | refine zE ?_ | refine zF ?_ | refine zG rfl ?_ | refine zH rfl ?_ | refine zI rfl rfl rfl ?_ | refine zJ rfl rfl ?_ | refine zK ?_ | refine zL ?_ | refine zM rfl ?_ | refine zN ?_)
      exact Res.one (v := .slice pa (catL vs).length pc) rfl rfl (congrArg (fun z : Nat => some (Value.slice pa z pc)) (by rw [List.take_length])) ⟨pa, pc, rfl, hp1⟩


theorem IndexFunc_any (a : Option Addr) (cap : Nat) (l : List Int) (hl : l.length ≤ 1000000) {f : FuncId} (hE : Ents Tryd.prog f) (p : Int → Bool) (hf : ∀ (z : Int) (w : World), Ret Tryd.prog f [.int .i64 z] w fun v w' => v = .bool (p z) ∧ w' = w) (w : World) (hs : Sl w a (zs l)) :
    Ret Tryd.prog 70 [.slice a l.length cap, .func (.func f) #[] #[]] w fun v w' => (∃ z : Int, v = .int .i64 z ∧ (0 ≤ z ↔ l.any p = true)) ∧ w' = w := by
  refine enter Tryd.func70 rfl rfl ⟨rfl, rfl⟩ rfl ?_
  repeat (first | refine zA ?_ | refine zB ?_ | refine zC rfl rfl rfl ?_ | refine zD ?_ | refine zE ?_ | refine zF ?_ | refine zG rfl ?_ | refine zH rfl ?_ | refine zI rfl rfl rfl ?_ | refine zJ rfl rfl ?_ | refine zK ?_ | refine zL ?_ | refine zM rfl ?_ | refine zN ?_)
  refine WC.loop Nat (fun i => [(0, .slice a l.length cap), (1, .func (.func f) #[] #[]), (7, .int .i64 (l.length : Nat)), (8, .int .i64 (i : Nat))]) (fun i w' => i ≤ l.length ∧ (l.take i).any p = false ∧ w' = w) (fun i => l.length - i) 0 ⟨rfl, rfl, rfl, rfl, rfl⟩ ⟨Nat.zero_le _, by simp, rfl⟩ ?_
  rintro i w1 ⟨hi, hno, rfl⟩
  repeat (first | refine zA ?_ | refine zB ?_ | refine zC rfl rfl rfl ?_ | refine zD ?_ | refine zE ?_ | refine zF ?_ | refine zG rfl ?_ | refine zH rfl ?_ | refine zI rfl rfl rfl ?_ | refine zJ rfl rfl ?_ | refine zK ?_ | refine zL ?_ | refine zM rfl ?_ | refine zN ?_)
  refine WC.cond rfl (fun hc => ?_) (fun hc => ?_)
  · have hi : i < l.length := by have := of_decide_eq_true hc; omega
    have step := wrap_succ (i := i) (n := i + 1) (by omega) (by omega)
    repeat (first | refine zA ?_ | refine zB ?_ | refine zC rfl rfl rfl ?_ | refine zD ?_ | refine zE ?_ | refine zF ?_ | refine zG rfl ?_ | refine zH rfl ?_ | refine zI rfl rfl rfl ?_ | refine zJ rfl rfl ?_ | refine zK ?_ | refine zL ?_ | refine zM rfl ?_ | refine zN ?_)
    refine WL.ixload rfl (fun _ => rfl) rfl rfl rfl rfl rfl rfl rfl hi rfl rfl hs (zs_at hi) ?_
    intro q
    refine WL.call rfl rfl rfl rfl rfl hE (hf l[i] w1) ?_
    rintro v w2 ⟨rfl, rfl⟩
    repeat (first | refine zA ?_ | refine zB ?_ | refine zC rfl rfl rfl ?_ | refine zD ?_ | refine zE ?_ | refine zF ?_ | refine zG rfl ?_ | refine zH rfl ?_ | refine zI rfl rfl rfl ?_ | refine zJ rfl rfl ?_ | refine zK ?_ | refine zL ?_ | refine zM rfl ?_ | refine zN ?_)
    refine WC.cond rfl (fun h1 => ?_) (fun h1 => ?_)
    · repeat (first | refine zA ?_ | refine zB ?_ | refine zC rfl rfl rfl ?_ | refine zD ?_ | refine zE ?_ | refine zF ?_ | refine zG rfl ?_ | refine zH rfl ?_ | refine zI rfl rfl rfl ?_ | refine zJ rfl rfl ?_ | refine zK ?_ | refine zL ?_ | refine zM rfl ?_ | refine zN ?_)
      exact Res.one rfl rfl rfl ⟨⟨_, rfl, ⟨fun _ => List.any_eq_true.2 ⟨_, List.getElem_mem hi, h1⟩, fun _ => by omega⟩⟩, rfl⟩
    · repeat (first | refine zA ?_ | refine zB ?_ | refine zC rfl rfl rfl ?_ | refine zD ?_ | refine zE ?_ | refine zF ?_ | refine zG rfl ?_ | refine zH rfl ?_ | refine zI rfl rfl rfl ?_ | refine zJ rfl rfl ?_ | refine zK ?_ | refine zL ?_ | refine zM rfl ?_ | refine zN ?_)
      refine ⟨i + 1, (by show l.length - (i + 1) < l.length - i; omega), ⟨rfl, rfl, rfl, congrArg (fun z => some (Value.int .i64 z)) step, rfl⟩, by omega, ?_, rfl⟩
      rw [List.take_succ_eq_append_getElem hi, List.any_append, hno, List.any_cons, h1]
      rfl
  · have hi : i = l.length := by have := of_decide_eq_false hc; omega
    repeat (first | refine zA ?_ | refine zB ?_ | refine zC rfl rfl rfl ?_ | refine zD ?_ | refine zE ?_ | refine zF ?_ | refine zG rfl ?_ | refine zH rfl ?_ | refine zI rfl rfl rfl ?_ | refine zJ rfl rfl ?_ | refine zK ?_ | refine zL ?_ | refine zM rfl ?_ | refine zN ?_)
    refine Res.one rfl rfl rfl ⟨⟨_, rfl, ⟨fun h => by omega, fun h => ?_⟩⟩, rfl⟩
    rw [hi, List.take_of_length_le (Nat.le_refl _), h] at hno
    cases hno
theorem ContainsFunc_any (a : Option Addr) (cap : Nat) (l : List Int) (hl : l.length ≤ 1000000) {f : FuncId} (hE : Ents Tryd.prog f) (p : Int → Bool) (hf : ∀ (z : Int) (w : World), Ret Tryd.prog f [.int .i64 z] w fun v w' => v = .bool (p z) ∧ w' = w) (w : World) (hs : Sl w a (zs l)) :
    Ret Tryd.prog 45 [.slice a l.length cap, .func (.func f) #[] #[]] w fun v w' => v = .bool (l.any p) ∧ w' = w := by
  refine enter Tryd.func45 rfl rfl ⟨rfl, rfl⟩ rfl ?_
  repeat (first | refine zA ?_ | refine zB ?_ | refine zC rfl rfl rfl ?_ | refine zD ?_ | refine zE ?_ | refine zF ?_ | refine zG rfl ?_ | refine zH rfl ?_ | refine zI rfl rfl rfl ?_ | refine zJ rfl rfl ?_ | refine zK ?_ | refine zL ?_ | refine zM rfl ?_ | refine zN ?_)
  refine WL.call rfl rfl rfl rfl rfl ent70 (IndexFunc_any a cap l hl hE p hf w hs) ?_
  rintro v w2 ⟨⟨z, rfl, hz⟩, rfl⟩
  repeat (first | refine zA ?_ | refine zB ?_ | refine zC rfl rfl rfl ?_ | refine zD ?_ | refine zE ?_ | refine zF ?_ | refine zG rfl ?_ | refine zH rfl ?_ | refine zI rfl rfl rfl ?_ | refine zJ rfl rfl ?_ | refine zK ?_ | refine zL ?_ | refine zM rfl ?_ | refine zN ?_)
  refine Res.one rfl rfl rfl ⟨?_, rfl⟩
  congr 1
  rw [Bool.eq_iff_iff, decide_eq_true_iff]
  exact hz
def markB (z : Int) : Bool := decide (0 ≤ z) && decide (z ≤ 15)
theorem isMark_any (z : Int) (w : World) : Ret Tryd.prog 47 [.int .i64 z] w fun v w' => v = .bool (markB z) ∧ w' = w := by
  refine enter Tryd.func47 rfl rfl ⟨rfl, rfl⟩ rfl ?_
  repeat (first | refine zA ?_ | refine zB ?_ | refine zC rfl rfl rfl ?_ | refine zD ?_ | refine zE ?_ | refine zF ?_ | refine zG rfl ?_ | refine zH rfl ?_ | refine zI rfl rfl rfl ?_ | refine zJ rfl rfl ?_ | refine zK ?_ | refine zL ?_ | refine zM rfl ?_ | refine zN ?_)
  refine WL.split 5 rfl (fun h1 => ?_) (fun h1 => ?_)
  · repeat (first | refine zA ?_ | refine zB ?_ | refine zC rfl rfl rfl ?_ | refine zD ?_ | refine zE ?_ | refine zF ?_ | refine zG rfl ?_ | refine zH rfl ?_ | refine zI rfl rfl rfl ?_ | refine zJ rfl rfl ?_ | refine zK ?_ | refine zL ?_ | refine zM rfl ?_ | refine zN ?_)
    refine Res.one rfl rfl rfl ⟨?_, rfl⟩
    unfold markB
    rw [h1, Bool.true_and]
  · repeat (first | refine zA ?_ | refine zB ?_ | refine zC rfl rfl rfl ?_ | refine zD ?_ | refine zE ?_ | refine zF ?_ | refine zG rfl ?_ | refine zH rfl ?_ | refine zI rfl rfl rfl ?_ | refine zJ rfl rfl ?_ | refine zK ?_ | refine zL ?_ | refine zM rfl ?_ | refine zN ?_)
    refine Res.one rfl rfl rfl ⟨?_, rfl⟩
    unfold markB
    rw [h1, Bool.false_and]
theorem value1_any (z : Int) (w : World) : Ret Tryd.prog 46 [.int .i64 z] w fun v w' => v = .bool (!markB z) ∧ w' = w := by
  refine enter Tryd.func46 rfl rfl ⟨rfl, rfl⟩ rfl ?_
  repeat (first | refine zA ?_ | refine zB ?_ | refine zC rfl rfl rfl ?_ | refine zD ?_ | refine zE ?_ | refine zF ?_ | refine zG rfl ?_ | refine zH rfl ?_ | refine zI rfl rfl rfl ?_ | refine zJ rfl rfl ?_ | refine zK ?_ | refine zL ?_ | refine zM rfl ?_ | refine zN ?_)
  refine WL.call rfl rfl rfl rfl rfl ent47 (isMark_any z w) ?_
  rintro v w2 ⟨rfl, rfl⟩
  repeat (first | refine zA ?_ | refine zB ?_ | refine zC rfl rfl rfl ?_ | refine zD ?_ | refine zE ?_ | refine zF ?_ | refine zG rfl ?_ | refine zH rfl ?_ | refine zI rfl rfl rfl ?_ | refine zJ rfl rfl ?_ | refine zK ?_ | refine zL ?_ | refine zM rfl ?_ | refine zN ?_)
  exact Res.one rfl rfl rfl ⟨rfl, rfl⟩
theorem struct1_any (z : Int) (w : World) : Ret Tryd.prog 84 [.int .i64 z] w fun v w' => v = .bool (!markB z) ∧ w' = w := by
  refine enter Tryd.func84 rfl rfl ⟨rfl, rfl⟩ rfl ?_
  repeat (first | refine zA ?_ | refine zB ?_ | refine zC rfl rfl rfl ?_ | refine zD ?_ | refine zE ?_ | refine zF ?_ | refine zG rfl ?_ | refine zH rfl ?_ | refine zI rfl rfl rfl ?_ | refine zJ rfl rfl ?_ | refine zK ?_ | refine zL ?_ | refine zM rfl ?_ | refine zN ?_)
  refine WL.call rfl rfl rfl rfl rfl ent47 (isMark_any z w) ?_
  rintro v w2 ⟨rfl, rfl⟩
  repeat (first | refine zA ?_ | refine zB ?_ | refine zC rfl rfl rfl ?_ | refine zD ?_ | refine zE ?_ | refine zF ?_ | refine zG rfl ?_ | refine zH rfl ?_ | refine zI rfl rfl rfl ?_ | refine zJ rfl rfl ?_ | refine zK ?_ | refine zL ?_ | refine zM rfl ?_ | refine zN ?_)
  exact Res.one rfl rfl rfl ⟨rfl, rfl⟩
def lassoB (n m : Nat) : Bool := decide (n ≤ 65536) && decide (1 ≤ m) && decide (m ≤ 65536)
theorem isLasso_any (a1 a2 : Option Addr) (n1 c1 n2 c2 : Nat) (w : World) : Ret Tryd.prog 44 [.slice a1 n1 c1, .slice a2 n2 c2] w fun v w' => v = .bool (lassoB n1 n2) ∧ w' = w := by
  refine enter Tryd.func44 rfl rfl ⟨rfl, rfl⟩ rfl ?_
  repeat (first | refine zA ?_ | refine zB ?_ | refine zC rfl rfl rfl ?_ | refine zD ?_ | refine zE ?_ | refine zF ?_ | refine zG rfl ?_ | refine zH rfl ?_ | refine zI rfl rfl rfl ?_ | refine zJ rfl rfl ?_ | refine zK ?_ | refine zL ?_ | refine zM rfl ?_ | refine zN ?_)
  refine WL.split 8 rfl (fun h1 => ?_) (fun h1 => ?_)
  · have h1 : n1 ≤ 65536 := by have := of_decide_eq_true h1; omega
    repeat (first | refine zA ?_ | refine zB ?_ | refine zC rfl rfl rfl ?_ | refine zD ?_ | refine zE ?_ | refine zF ?_ | refine zG rfl ?_ | refine zH rfl ?_ | refine zI rfl rfl rfl ?_ | refine zJ rfl rfl ?_ | refine zK ?_ | refine zL ?_ | refine zM rfl ?_ | refine zN ?_)
    refine WL.split 13 rfl (fun h2 => ?_) (fun h2 => ?_)
    · have h2 : 1 ≤ n2 := by have := of_decide_eq_true h2; omega
      repeat (first | refine zA ?_ | refine zB ?_ | refine zC rfl rfl rfl ?_ | refine zD ?_ | refine zE ?_ | refine zF ?_ | refine zG rfl ?_ | refine zH rfl ?_ | refine zI rfl rfl rfl ?_ | refine zJ rfl rfl ?_ | refine zK ?_ | refine zL ?_ | refine zM rfl ?_ | refine zN ?_)
      refine Res.one rfl rfl rfl ⟨?_, rfl⟩
      congr 1
      unfold lassoB
      rw [decide_eq_true h1, decide_eq_true h2, Bool.eq_iff_iff]
      simp
      omega
    · have h2 : ¬ 1 ≤ n2 := by have := of_decide_eq_false h2; omega
      repeat (first | refine zA ?_ | refine zB ?_ | refine zC rfl rfl rfl ?_ | refine zD ?_ | refine zE ?_ | refine zF ?_ | refine zG rfl ?_ | refine zH rfl ?_ | refine zI rfl rfl rfl ?_ | refine zJ rfl rfl ?_ | refine zK ?_ | refine zL ?_ | refine zM rfl ?_ | refine zN ?_)
      refine Res.one rfl rfl rfl ⟨?_, rfl⟩
      congr 1
      unfold lassoB
      rw [decide_eq_true h1, decide_eq_false h2]
      rfl
  · have h1 : ¬ n1 ≤ 65536 := by have := of_decide_eq_false h1; omega
    repeat (first | refine zA ?_ | refine zB ?_ | refine zC rfl rfl rfl ?_ | refine zD ?_ | refine zE ?_ | refine zF ?_ | refine zG rfl ?_ | refine zH rfl ?_ | refine zI rfl rfl rfl ?_ | refine zJ rfl rfl ?_ | refine zK ?_ | refine zL ?_ | refine zM rfl ?_ | refine zN ?_)
    refine Res.one rfl rfl rfl ⟨?_, rfl⟩
    congr 1
    unfold lassoB
    rw [decide_eq_false h1]
    rfl
end Go.Proofs.YtpbbneclkhfgoaaDoor
end
