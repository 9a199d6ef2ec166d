/- The table of the types of this seat's program, and that its functions are entered; made by a program of mine (tab.py) out of the dump's rows; each row is a closed fact that the kernel checks. -/
import Derived.Test.YtdnkkflpgebfbaaDoorMW
import Derived.Test.YtdnkkflpgebfbaaDoorProg
namespace Go.Proofs.YtdnkkflpgebfbaaDoor
open Go.W
set_option maxRecDepth 100000
def ti1 : TI := ⟨.func, .nilFunc, 1, 8⟩
theorem tok1 : TIok Tryd.prog 1 ti1 := ⟨⟨_, _, _, Tryd.underlying1⟩, by kernel_rfl⟩
def ti2 : TI := ⟨.int .i64, .int .i64 0, 1, 8⟩
theorem tok2 : TIok Tryd.prog 2 ti2 := ⟨Tryd.underlying2, by kernel_rfl⟩
def ti3 : TI := ⟨.int .i64, .int .i64 0, 1, 8⟩
theorem tok3 : TIok Tryd.prog 3 ti3 := ⟨Tryd.underlying3, by kernel_rfl⟩
def ti4 : TI := ⟨.bool, .bool false, 1, 1⟩
theorem tok4 : TIok Tryd.prog 4 ti4 := ⟨Tryd.underlying4, by kernel_rfl⟩
def ti5 : TI := ⟨.int .u8, .int .u8 0, 1, 1⟩
theorem tok5 : TIok Tryd.prog 5 ti5 := ⟨Tryd.underlying5, by kernel_rfl⟩
def ti6 : TI := ⟨.int .u8, .int .u8 0, 1, 1⟩
theorem tok6 : TIok Tryd.prog 6 ti6 := ⟨Tryd.underlying6, by kernel_rfl⟩
def ti7 : TI := ⟨.struct [(0, 2), (1, 3), (2, 4), (3, 6)], .agg #[.int .i64 0, .int .i64 0, .bool false, .int .u8 0], 4, 24⟩
theorem tok7 : TIok Tryd.prog 7 ti7 := ⟨⟨_, Tryd.underlying7, by kernel_rfl⟩, by kernel_rfl⟩
def ti8 : TI := ⟨.struct [(0, 2), (1, 3), (2, 4), (3, 6)], .agg #[.int .i64 0, .int .i64 0, .bool false, .int .u8 0], 4, 24⟩
theorem tok8 : TIok Tryd.prog 8 ti8 := ⟨⟨_, Tryd.underlying8, by kernel_rfl⟩, by kernel_rfl⟩
def ti9 : TI := ⟨.string, .string ⟨#[]⟩, 1, 16⟩
theorem tok9 : TIok Tryd.prog 9 ti9 := ⟨Tryd.underlying9, by kernel_rfl⟩
def ti10 : TI := ⟨.string, .string ⟨#[]⟩, 1, 16⟩
theorem tok10 : TIok Tryd.prog 10 ti10 := ⟨Tryd.underlying10, by kernel_rfl⟩
def ti11 : TI := ⟨.string, .string ⟨#[]⟩, 1, 16⟩
theorem tok11 : TIok Tryd.prog 11 ti11 := ⟨Tryd.underlying11, by kernel_rfl⟩
def ti12 : TI := ⟨.int .u64, .int .u64 0, 1, 8⟩
theorem tok12 : TIok Tryd.prog 12 ti12 := ⟨Tryd.underlying12, by kernel_rfl⟩
def ti13 : TI := ⟨.struct [(0, 9), (1, 12)], .agg #[.string ⟨#[]⟩, .int .u64 0], 2, 24⟩
theorem tok13 : TIok Tryd.prog 13 ti13 := ⟨⟨_, Tryd.underlying13, by kernel_rfl⟩, by kernel_rfl⟩
def ti14 : TI := ⟨.struct [(0, 9), (1, 12)], .agg #[.string ⟨#[]⟩, .int .u64 0], 2, 24⟩
theorem tok14 : TIok Tryd.prog 14 ti14 := ⟨⟨_, Tryd.underlying14, by kernel_rfl⟩, by kernel_rfl⟩
def ti15 : TI := ⟨.pointer 112, .pointer none, 1, 8⟩
theorem tok15 : TIok Tryd.prog 15 ti15 := ⟨Tryd.underlying15, by kernel_rfl⟩
def ti16 : TI := ⟨.pointer 115, .pointer none, 1, 8⟩
theorem tok16 : TIok Tryd.prog 16 ti16 := ⟨Tryd.underlying16, by kernel_rfl⟩
def ti17 : TI := ⟨.pointer 123, .pointer none, 1, 8⟩
theorem tok17 : TIok Tryd.prog 17 ti17 := ⟨Tryd.underlying17, by kernel_rfl⟩
def ti18 : TI := ⟨.struct [(0, 17)], .agg #[.pointer none], 1, 8⟩
theorem tok18 : TIok Tryd.prog 18 ti18 := ⟨⟨_, Tryd.underlying18, by kernel_rfl⟩, by kernel_rfl⟩
def ti19 : TI := ⟨.struct [(0, 17)], .agg #[.pointer none], 1, 8⟩
theorem tok19 : TIok Tryd.prog 19 ti19 := ⟨⟨_, Tryd.underlying19, by kernel_rfl⟩, by kernel_rfl⟩
def ti20 : TI := ⟨.iface, .nilIface, 1, 16⟩
theorem tok20 : TIok Tryd.prog 20 ti20 := ⟨⟨_, Tryd.underlying20⟩, by kernel_rfl⟩
def ti21 : TI := ⟨.int .i32, .int .i32 0, 1, 4⟩
theorem tok21 : TIok Tryd.prog 21 ti21 := ⟨Tryd.underlying21, by kernel_rfl⟩
def ti22 : TI := ⟨.slice 50, .slice none 0 0, 1, 24⟩
theorem tok22 : TIok Tryd.prog 22 ti22 := ⟨Tryd.underlying22, by kernel_rfl⟩
def ti23 : TI := ⟨.struct [(0, 3), (1, 22)], .agg #[.int .i64 0, .slice none 0 0], 2, 32⟩
theorem tok23 : TIok Tryd.prog 23 ti23 := ⟨⟨_, Tryd.underlying23, by kernel_rfl⟩, by kernel_rfl⟩
def ti24 : TI := ⟨.struct [(0, 3), (1, 22)], .agg #[.int .i64 0, .slice none 0 0], 2, 32⟩
theorem tok24 : TIok Tryd.prog 24 ti24 := ⟨⟨_, Tryd.underlying24, by kernel_rfl⟩, by kernel_rfl⟩
def ti25 : TI := ⟨.func, .nilFunc, 1, 8⟩
theorem tok25 : TIok Tryd.prog 25 ti25 := ⟨⟨_, _, _, Tryd.underlying25⟩, by kernel_rfl⟩
def ti26 : TI := ⟨.int .i64, .int .i64 0, 1, 8⟩
theorem tok26 : TIok Tryd.prog 26 ti26 := ⟨Tryd.underlying26, by kernel_rfl⟩
def ti28 : TI := ⟨.func, .nilFunc, 1, 8⟩
theorem tok28 : TIok Tryd.prog 28 ti28 := ⟨⟨_, _, _, Tryd.underlying28⟩, by kernel_rfl⟩
def ti29 : TI := ⟨.func, .nilFunc, 1, 8⟩
theorem tok29 : TIok Tryd.prog 29 ti29 := ⟨⟨_, _, _, Tryd.underlying29⟩, by kernel_rfl⟩
def ti31 : TI := ⟨.func, .nilFunc, 1, 8⟩
theorem tok31 : TIok Tryd.prog 31 ti31 := ⟨⟨_, _, _, Tryd.underlying31⟩, by kernel_rfl⟩
def ti32 : TI := ⟨.slice 3, .slice none 0 0, 1, 24⟩
theorem tok32 : TIok Tryd.prog 32 ti32 := ⟨Tryd.underlying32, by kernel_rfl⟩
def ti34 : TI := ⟨.func, .nilFunc, 1, 8⟩
theorem tok34 : TIok Tryd.prog 34 ti34 := ⟨⟨_, _, _, Tryd.underlying34⟩, by kernel_rfl⟩
def ti35 : TI := ⟨.func, .nilFunc, 1, 8⟩
theorem tok35 : TIok Tryd.prog 35 ti35 := ⟨⟨_, _, _, Tryd.underlying35⟩, by kernel_rfl⟩
def ti36 : TI := ⟨.func, .nilFunc, 1, 8⟩
theorem tok36 : TIok Tryd.prog 36 ti36 := ⟨⟨_, _, _, Tryd.underlying36⟩, by kernel_rfl⟩
def ti38 : TI := ⟨.func, .nilFunc, 1, 8⟩
theorem tok38 : TIok Tryd.prog 38 ti38 := ⟨⟨_, _, _, Tryd.underlying38⟩, by kernel_rfl⟩
def ti39 : TI := ⟨.func, .nilFunc, 1, 8⟩
theorem tok39 : TIok Tryd.prog 39 ti39 := ⟨⟨_, _, _, Tryd.underlying39⟩, by kernel_rfl⟩
def ti40 : TI := ⟨.func, .nilFunc, 1, 8⟩
theorem tok40 : TIok Tryd.prog 40 ti40 := ⟨⟨_, _, _, Tryd.underlying40⟩, by kernel_rfl⟩
def ti41 : TI := ⟨.func, .nilFunc, 1, 8⟩
theorem tok41 : TIok Tryd.prog 41 ti41 := ⟨⟨_, _, _, Tryd.underlying41⟩, by kernel_rfl⟩
def ti42 : TI := ⟨.func, .nilFunc, 1, 8⟩
theorem tok42 : TIok Tryd.prog 42 ti42 := ⟨⟨_, _, _, Tryd.underlying42⟩, by kernel_rfl⟩
def ti43 : TI := ⟨.func, .nilFunc, 1, 8⟩
theorem tok43 : TIok Tryd.prog 43 ti43 := ⟨⟨_, _, _, Tryd.underlying43⟩, by kernel_rfl⟩
def ti44 : TI := ⟨.slice 32, .slice none 0 0, 1, 24⟩
theorem tok44 : TIok Tryd.prog 44 ti44 := ⟨Tryd.underlying44, by kernel_rfl⟩
def ti45 : TI := ⟨.struct [(0, 44), (1, 22)], .agg #[.slice none 0 0, .slice none 0 0], 2, 48⟩
theorem tok45 : TIok Tryd.prog 45 ti45 := ⟨⟨_, Tryd.underlying45, by kernel_rfl⟩, by kernel_rfl⟩
def ti46 : TI := ⟨.struct [(0, 44), (1, 22)], .agg #[.slice none 0 0, .slice none 0 0], 2, 48⟩
theorem tok46 : TIok Tryd.prog 46 ti46 := ⟨⟨_, Tryd.underlying46, by kernel_rfl⟩, by kernel_rfl⟩
def ti48 : TI := ⟨.func, .nilFunc, 1, 8⟩
theorem tok48 : TIok Tryd.prog 48 ti48 := ⟨⟨_, _, _, Tryd.underlying48⟩, by kernel_rfl⟩
def ti49 : TI := ⟨.func, .nilFunc, 1, 8⟩
theorem tok49 : TIok Tryd.prog 49 ti49 := ⟨⟨_, _, _, Tryd.underlying49⟩, by kernel_rfl⟩
def ti50 : TI := ⟨.array 2 3, .agg #[.int .i64 0, .int .i64 0], 2, 16⟩
theorem tok50 : TIok Tryd.prog 50 ti50 := ⟨Tryd.underlying50, by kernel_rfl⟩
def ti51 : TI := ⟨.func, .nilFunc, 1, 8⟩
theorem tok51 : TIok Tryd.prog 51 ti51 := ⟨⟨_, _, _, Tryd.underlying51⟩, by kernel_rfl⟩
def ti52 : TI := ⟨.array 20 4, .agg #[.bool false, .bool false, .bool false, .bool false, .bool false, .bool false, .bool false, .bool false, .bool false, .bool false, .bool false, .bool false, .bool false, .bool false, .bool false, .bool false, .bool false, .bool false, .bool false, .bool false], 20, 20⟩
theorem tok52 : TIok Tryd.prog 52 ti52 := ⟨Tryd.underlying52, by kernel_rfl⟩
def ti53 : TI := ⟨.array 20 3, .agg #[.int .i64 0, .int .i64 0, .int .i64 0, .int .i64 0, .int .i64 0, .int .i64 0, .int .i64 0, .int .i64 0, .int .i64 0, .int .i64 0, .int .i64 0, .int .i64 0, .int .i64 0, .int .i64 0, .int .i64 0, .int .i64 0, .int .i64 0, .int .i64 0, .int .i64 0, .int .i64 0], 20, 160⟩
theorem tok53 : TIok Tryd.prog 53 ti53 := ⟨Tryd.underlying53, by kernel_rfl⟩
def ti54 : TI := ⟨.func, .nilFunc, 1, 8⟩
theorem tok54 : TIok Tryd.prog 54 ti54 := ⟨⟨_, _, _, Tryd.underlying54⟩, by kernel_rfl⟩
def ti55 : TI := ⟨.func, .nilFunc, 1, 8⟩
theorem tok55 : TIok Tryd.prog 55 ti55 := ⟨⟨_, _, _, Tryd.underlying55⟩, by kernel_rfl⟩
def ti57 : TI := ⟨.func, .nilFunc, 1, 8⟩
theorem tok57 : TIok Tryd.prog 57 ti57 := ⟨⟨_, _, _, Tryd.underlying57⟩, by kernel_rfl⟩
def ti58 : TI := ⟨.func, .nilFunc, 1, 8⟩
theorem tok58 : TIok Tryd.prog 58 ti58 := ⟨⟨_, _, _, Tryd.underlying58⟩, by kernel_rfl⟩
def ti59 : TI := ⟨.func, .nilFunc, 1, 8⟩
theorem tok59 : TIok Tryd.prog 59 ti59 := ⟨⟨_, _, _, Tryd.underlying59⟩, by kernel_rfl⟩
def ti60 : TI := ⟨.func, .nilFunc, 1, 8⟩
theorem tok60 : TIok Tryd.prog 60 ti60 := ⟨⟨_, _, _, Tryd.underlying60⟩, by kernel_rfl⟩
def ti61 : TI := ⟨.func, .nilFunc, 1, 8⟩
theorem tok61 : TIok Tryd.prog 61 ti61 := ⟨⟨_, _, _, Tryd.underlying61⟩, by kernel_rfl⟩
def ti62 : TI := ⟨.func, .nilFunc, 1, 8⟩
theorem tok62 : TIok Tryd.prog 62 ti62 := ⟨⟨_, _, _, Tryd.underlying62⟩, by kernel_rfl⟩
def ti63 : TI := ⟨.func, .nilFunc, 1, 8⟩
theorem tok63 : TIok Tryd.prog 63 ti63 := ⟨⟨_, _, _, Tryd.underlying63⟩, by kernel_rfl⟩
def ti64 : TI := ⟨.func, .nilFunc, 1, 8⟩
theorem tok64 : TIok Tryd.prog 64 ti64 := ⟨⟨_, _, _, Tryd.underlying64⟩, by kernel_rfl⟩
def ti65 : TI := ⟨.func, .nilFunc, 1, 8⟩
theorem tok65 : TIok Tryd.prog 65 ti65 := ⟨⟨_, _, _, Tryd.underlying65⟩, by kernel_rfl⟩
def ti66 : TI := ⟨.func, .nilFunc, 1, 8⟩
theorem tok66 : TIok Tryd.prog 66 ti66 := ⟨⟨_, _, _, Tryd.underlying66⟩, by kernel_rfl⟩
def ti67 : TI := ⟨.slice 76, .slice none 0 0, 1, 24⟩
theorem tok67 : TIok Tryd.prog 67 ti67 := ⟨Tryd.underlying67, by kernel_rfl⟩
def ti68 : TI := ⟨.slice 76, .slice none 0 0, 1, 24⟩
theorem tok68 : TIok Tryd.prog 68 ti68 := ⟨Tryd.underlying68, by kernel_rfl⟩
def ti70 : TI := ⟨.func, .nilFunc, 1, 8⟩
theorem tok70 : TIok Tryd.prog 70 ti70 := ⟨⟨_, _, _, Tryd.underlying70⟩, by kernel_rfl⟩
def ti71 : TI := ⟨.array 15 3, .agg #[.int .i64 0, .int .i64 0, .int .i64 0, .int .i64 0, .int .i64 0, .int .i64 0, .int .i64 0, .int .i64 0, .int .i64 0, .int .i64 0, .int .i64 0, .int .i64 0, .int .i64 0, .int .i64 0, .int .i64 0], 15, 120⟩
theorem tok71 : TIok Tryd.prog 71 ti71 := ⟨Tryd.underlying71, by kernel_rfl⟩
def ti72 : TI := ⟨.array 15 3, .agg #[.int .i64 0, .int .i64 0, .int .i64 0, .int .i64 0, .int .i64 0, .int .i64 0, .int .i64 0, .int .i64 0, .int .i64 0, .int .i64 0, .int .i64 0, .int .i64 0, .int .i64 0, .int .i64 0, .int .i64 0], 15, 120⟩
theorem tok72 : TIok Tryd.prog 72 ti72 := ⟨Tryd.underlying72, by kernel_rfl⟩
def ti73 : TI := ⟨.func, .nilFunc, 1, 8⟩
theorem tok73 : TIok Tryd.prog 73 ti73 := ⟨⟨_, _, _, Tryd.underlying73⟩, by kernel_rfl⟩
def ti74 : TI := ⟨.slice 4, .slice none 0 0, 1, 24⟩
theorem tok74 : TIok Tryd.prog 74 ti74 := ⟨Tryd.underlying74, by kernel_rfl⟩
def ti75 : TI := ⟨.func, .nilFunc, 1, 8⟩
theorem tok75 : TIok Tryd.prog 75 ti75 := ⟨⟨_, _, _, Tryd.underlying75⟩, by kernel_rfl⟩
def ti76 : TI := ⟨.int .i64, .int .i64 0, 1, 8⟩
theorem tok76 : TIok Tryd.prog 76 ti76 := ⟨Tryd.underlying76, by kernel_rfl⟩
def ti77 : TI := ⟨.func, .nilFunc, 1, 8⟩
theorem tok77 : TIok Tryd.prog 77 ti77 := ⟨⟨_, _, _, Tryd.underlying77⟩, by kernel_rfl⟩
def ti78 : TI := ⟨.func, .nilFunc, 1, 8⟩
theorem tok78 : TIok Tryd.prog 78 ti78 := ⟨⟨_, _, _, Tryd.underlying78⟩, by kernel_rfl⟩
def ti79 : TI := ⟨.func, .nilFunc, 1, 8⟩
theorem tok79 : TIok Tryd.prog 79 ti79 := ⟨⟨_, _, _, Tryd.underlying79⟩, by kernel_rfl⟩
def ti80 : TI := ⟨.func, .nilFunc, 1, 8⟩
theorem tok80 : TIok Tryd.prog 80 ti80 := ⟨⟨_, _, _, Tryd.underlying80⟩, by kernel_rfl⟩
def ti81 : TI := ⟨.func, .nilFunc, 1, 8⟩
theorem tok81 : TIok Tryd.prog 81 ti81 := ⟨⟨_, _, _, Tryd.underlying81⟩, by kernel_rfl⟩
def ti82 : TI := ⟨.func, .nilFunc, 1, 8⟩
theorem tok82 : TIok Tryd.prog 82 ti82 := ⟨⟨_, _, _, Tryd.underlying82⟩, by kernel_rfl⟩
def ti83 : TI := ⟨.func, .nilFunc, 1, 8⟩
theorem tok83 : TIok Tryd.prog 83 ti83 := ⟨⟨_, _, _, Tryd.underlying83⟩, by kernel_rfl⟩
def ti84 : TI := ⟨.func, .nilFunc, 1, 8⟩
theorem tok84 : TIok Tryd.prog 84 ti84 := ⟨⟨_, _, _, Tryd.underlying84⟩, by kernel_rfl⟩
def ti85 : TI := ⟨.func, .nilFunc, 1, 8⟩
theorem tok85 : TIok Tryd.prog 85 ti85 := ⟨⟨_, _, _, Tryd.underlying85⟩, by kernel_rfl⟩
def ti87 : TI := ⟨.func, .nilFunc, 1, 8⟩
theorem tok87 : TIok Tryd.prog 87 ti87 := ⟨⟨_, _, _, Tryd.underlying87⟩, by kernel_rfl⟩
def ti88 : TI := ⟨.func, .nilFunc, 1, 8⟩
theorem tok88 : TIok Tryd.prog 88 ti88 := ⟨⟨_, _, _, Tryd.underlying88⟩, by kernel_rfl⟩
def ti89 : TI := ⟨.func, .nilFunc, 1, 8⟩
theorem tok89 : TIok Tryd.prog 89 ti89 := ⟨⟨_, _, _, Tryd.underlying89⟩, by kernel_rfl⟩
def ti90 : TI := ⟨.func, .nilFunc, 1, 8⟩
theorem tok90 : TIok Tryd.prog 90 ti90 := ⟨⟨_, _, _, Tryd.underlying90⟩, by kernel_rfl⟩
def ti91 : TI := ⟨.func, .nilFunc, 1, 8⟩
theorem tok91 : TIok Tryd.prog 91 ti91 := ⟨⟨_, _, _, Tryd.underlying91⟩, by kernel_rfl⟩
def ti92 : TI := ⟨.int .u64, .int .u64 0, 1, 8⟩
theorem tok92 : TIok Tryd.prog 92 ti92 := ⟨Tryd.underlying92, by kernel_rfl⟩
def ti93 : TI := ⟨.func, .nilFunc, 1, 8⟩
theorem tok93 : TIok Tryd.prog 93 ti93 := ⟨⟨_, _, _, Tryd.underlying93⟩, by kernel_rfl⟩
def ti94 : TI := ⟨.func, .nilFunc, 1, 8⟩
theorem tok94 : TIok Tryd.prog 94 ti94 := ⟨⟨_, _, _, Tryd.underlying94⟩, by kernel_rfl⟩
def ti96 : TI := ⟨.func, .nilFunc, 1, 8⟩
theorem tok96 : TIok Tryd.prog 96 ti96 := ⟨⟨_, _, _, Tryd.underlying96⟩, by kernel_rfl⟩
def ti97 : TI := ⟨.func, .nilFunc, 1, 8⟩
theorem tok97 : TIok Tryd.prog 97 ti97 := ⟨⟨_, _, _, Tryd.underlying97⟩, by kernel_rfl⟩
def ti98 : TI := ⟨.map 76 72, .map none, 1, 8⟩
theorem tok98 : TIok Tryd.prog 98 ti98 := ⟨Tryd.underlying98, by kernel_rfl⟩
def ti99 : TI := ⟨.func, .nilFunc, 1, 8⟩
theorem tok99 : TIok Tryd.prog 99 ti99 := ⟨⟨_, _, _, Tryd.underlying99⟩, by kernel_rfl⟩
def ti101 : TI := ⟨.func, .nilFunc, 1, 8⟩
theorem tok101 : TIok Tryd.prog 101 ti101 := ⟨⟨_, _, _, Tryd.underlying101⟩, by kernel_rfl⟩
def ti102 : TI := ⟨.func, .nilFunc, 1, 8⟩
theorem tok102 : TIok Tryd.prog 102 ti102 := ⟨⟨_, _, _, Tryd.underlying102⟩, by kernel_rfl⟩
def ti103 : TI := ⟨.func, .nilFunc, 1, 8⟩
theorem tok103 : TIok Tryd.prog 103 ti103 := ⟨⟨_, _, _, Tryd.underlying103⟩, by kernel_rfl⟩
def ti104 : TI := ⟨.int .u32, .int .u32 0, 1, 4⟩
theorem tok104 : TIok Tryd.prog 104 ti104 := ⟨Tryd.underlying104, by kernel_rfl⟩
def ti105 : TI := ⟨.func, .nilFunc, 1, 8⟩
theorem tok105 : TIok Tryd.prog 105 ti105 := ⟨⟨_, _, _, Tryd.underlying105⟩, by kernel_rfl⟩
def ti106 : TI := ⟨.int .u64, .int .u64 0, 1, 8⟩
theorem tok106 : TIok Tryd.prog 106 ti106 := ⟨Tryd.underlying106, by kernel_rfl⟩
def ti107 : TI := ⟨.func, .nilFunc, 1, 8⟩
theorem tok107 : TIok Tryd.prog 107 ti107 := ⟨⟨_, _, _, Tryd.underlying107⟩, by kernel_rfl⟩
def ti108 : TI := ⟨.array 32 5, .agg #[.int .u8 0, .int .u8 0, .int .u8 0, .int .u8 0, .int .u8 0, .int .u8 0, .int .u8 0, .int .u8 0, .int .u8 0, .int .u8 0, .int .u8 0, .int .u8 0, .int .u8 0, .int .u8 0, .int .u8 0, .int .u8 0, .int .u8 0, .int .u8 0, .int .u8 0, .int .u8 0, .int .u8 0, .int .u8 0, .int .u8 0, .int .u8 0, .int .u8 0, .int .u8 0, .int .u8 0, .int .u8 0, .int .u8 0, .int .u8 0, .int .u8 0, .int .u8 0], 32, 32⟩
theorem tok108 : TIok Tryd.prog 108 ti108 := ⟨Tryd.underlying108, by kernel_rfl⟩
def ti109 : TI := ⟨.array 64 5, .agg #[.int .u8 0, .int .u8 0, .int .u8 0, .int .u8 0, .int .u8 0, .int .u8 0, .int .u8 0, .int .u8 0, .int .u8 0, .int .u8 0, .int .u8 0, .int .u8 0, .int .u8 0, .int .u8 0, .int .u8 0, .int .u8 0, .int .u8 0, .int .u8 0, .int .u8 0, .int .u8 0, .int .u8 0, .int .u8 0, .int .u8 0, .int .u8 0, .int .u8 0, .int .u8 0, .int .u8 0, .int .u8 0, .int .u8 0, .int .u8 0, .int .u8 0, .int .u8 0, .int .u8 0, .int .u8 0, .int .u8 0, .int .u8 0, .int .u8 0, .int .u8 0, .int .u8 0, .int .u8 0, .int .u8 0, .int .u8 0, .int .u8 0, .int .u8 0, .int .u8 0, .int .u8 0, .int .u8 0, .int .u8 0, .int .u8 0, .int .u8 0, .int .u8 0, .int .u8 0, .int .u8 0, .int .u8 0, .int .u8 0, .int .u8 0, .int .u8 0, .int .u8 0, .int .u8 0, .int .u8 0, .int .u8 0, .int .u8 0, .int .u8 0, .int .u8 0], 64, 64⟩
theorem tok109 : TIok Tryd.prog 109 ti109 := ⟨Tryd.underlying109, by kernel_rfl⟩
def ti110 : TI := ⟨.func, .nilFunc, 1, 8⟩
theorem tok110 : TIok Tryd.prog 110 ti110 := ⟨⟨_, _, _, Tryd.underlying110⟩, by kernel_rfl⟩
def ti111 : TI := ⟨.struct [(0, 17), (1, 17), (2, 17), (3, 9)], .agg #[.pointer none, .pointer none, .pointer none, .string ⟨#[]⟩], 4, 40⟩
theorem tok111 : TIok Tryd.prog 111 ti111 := ⟨⟨_, Tryd.underlying111, by kernel_rfl⟩, by kernel_rfl⟩
def ti112 : TI := ⟨.struct [(0, 17), (1, 17), (2, 17), (3, 9)], .agg #[.pointer none, .pointer none, .pointer none, .string ⟨#[]⟩], 4, 40⟩
theorem tok112 : TIok Tryd.prog 112 ti112 := ⟨⟨_, Tryd.underlying112, by kernel_rfl⟩, by kernel_rfl⟩
def ti113 : TI := ⟨.array 0 16, .agg #[], 0, 0⟩
theorem tok113 : TIok Tryd.prog 113 ti113 := ⟨Tryd.underlying113, by kernel_rfl⟩
def ti114 : TI := ⟨.struct [(0, 113)], .agg #[], 0, 0⟩
theorem tok114 : TIok Tryd.prog 114 ti114 := ⟨⟨_, Tryd.underlying114, by kernel_rfl⟩, by kernel_rfl⟩
def ti115 : TI := ⟨.struct [(0, 113)], .agg #[], 0, 0⟩
theorem tok115 : TIok Tryd.prog 115 ti115 := ⟨⟨_, Tryd.underlying115, by kernel_rfl⟩, by kernel_rfl⟩
def ti116 : TI := ⟨.int .u8, .int .u8 0, 1, 1⟩
theorem tok116 : TIok Tryd.prog 116 ti116 := ⟨Tryd.underlying116, by kernel_rfl⟩
def ti117 : TI := ⟨.int .u8, .int .u8 0, 1, 1⟩
theorem tok117 : TIok Tryd.prog 117 ti117 := ⟨Tryd.underlying117, by kernel_rfl⟩
def ti118 : TI := ⟨.func, .nilFunc, 1, 8⟩
theorem tok118 : TIok Tryd.prog 118 ti118 := ⟨⟨_, _, _, Tryd.underlying118⟩, by kernel_rfl⟩
def ti119 : TI := ⟨.pointer 5, .pointer none, 1, 8⟩
theorem tok119 : TIok Tryd.prog 119 ti119 := ⟨Tryd.underlying119, by kernel_rfl⟩
def ti120 : TI := ⟨.int .i32, .int .i32 0, 1, 4⟩
theorem tok120 : TIok Tryd.prog 120 ti120 := ⟨Tryd.underlying120, by kernel_rfl⟩
def ti121 : TI := ⟨.int .i32, .int .i32 0, 1, 4⟩
theorem tok121 : TIok Tryd.prog 121 ti121 := ⟨Tryd.underlying121, by kernel_rfl⟩
def ti122 : TI := ⟨.struct [(0, 12), (1, 12), (2, 104), (3, 116), (4, 5), (5, 5), (6, 117), (7, 118), (8, 119), (9, 120), (10, 121)], .agg #[.int .u64 0, .int .u64 0, .int .u32 0, .int .u8 0, .int .u8 0, .int .u8 0, .int .u8 0, .nilFunc, .pointer none, .int .i32 0, .int .i32 0], 11, 48⟩
theorem tok122 : TIok Tryd.prog 122 ti122 := ⟨⟨_, Tryd.underlying122, by kernel_rfl⟩, by kernel_rfl⟩
def ti123 : TI := ⟨.struct [(0, 12), (1, 12), (2, 104), (3, 116), (4, 5), (5, 5), (6, 117), (7, 118), (8, 119), (9, 120), (10, 121)], .agg #[.int .u64 0, .int .u64 0, .int .u32 0, .int .u8 0, .int .u8 0, .int .u8 0, .int .u8 0, .nilFunc, .pointer none, .int .i32 0, .int .i32 0], 11, 48⟩
theorem tok123 : TIok Tryd.prog 123 ti123 := ⟨⟨_, Tryd.underlying123, by kernel_rfl⟩, by kernel_rfl⟩
def tiAll : Nat → Option TI
  | 1 => some ti1
  | 2 => some ti2
  | 3 => some ti3
  | 4 => some ti4
  | 5 => some ti5
  | 6 => some ti6
  | 7 => some ti7
  | 8 => some ti8
  | 9 => some ti9
  | 10 => some ti10
  | 11 => some ti11
  | 12 => some ti12
  | 13 => some ti13
  | 14 => some ti14
  | 15 => some ti15
  | 16 => some ti16
  | 17 => some ti17
  | 18 => some ti18
  | 19 => some ti19
  | 20 => some ti20
  | 21 => some ti21
  | 22 => some ti22
  | 23 => some ti23
  | 24 => some ti24
  | 25 => some ti25
  | 26 => some ti26
  | 28 => some ti28
  | 29 => some ti29
  | 31 => some ti31
  | 32 => some ti32
  | 34 => some ti34
  | 35 => some ti35
  | 36 => some ti36
  | 38 => some ti38
  | 39 => some ti39
  | 40 => some ti40
  | 41 => some ti41
  | 42 => some ti42
  | 43 => some ti43
  | 44 => some ti44
  | 45 => some ti45
  | 46 => some ti46
  | 48 => some ti48
  | 49 => some ti49
  | 50 => some ti50
  | 51 => some ti51
  | 52 => some ti52
  | 53 => some ti53
  | 54 => some ti54
  | 55 => some ti55
  | 57 => some ti57
  | 58 => some ti58
  | 59 => some ti59
  | 60 => some ti60
  | 61 => some ti61
  | 62 => some ti62
  | 63 => some ti63
  | 64 => some ti64
  | 65 => some ti65
  | 66 => some ti66
  | 67 => some ti67
  | 68 => some ti68
  | 70 => some ti70
  | 71 => some ti71
  | 72 => some ti72
  | 73 => some ti73
  | 74 => some ti74
  | 75 => some ti75
  | 76 => some ti76
  | 77 => some ti77
  | 78 => some ti78
  | 79 => some ti79
  | 80 => some ti80
  | 81 => some ti81
  | 82 => some ti82
  | 83 => some ti83
  | 84 => some ti84
  | 85 => some ti85
  | 87 => some ti87
  | 88 => some ti88
  | 89 => some ti89
  | 90 => some ti90
  | 91 => some ti91
  | 92 => some ti92
  | 93 => some ti93
  | 94 => some ti94
  | 96 => some ti96
  | 97 => some ti97
  | 98 => some ti98
  | 99 => some ti99
  | 101 => some ti101
  | 102 => some ti102
  | 103 => some ti103
  | 104 => some ti104
  | 105 => some ti105
  | 106 => some ti106
  | 107 => some ti107
  | 108 => some ti108
  | 109 => some ti109
  | 110 => some ti110
  | 111 => some ti111
  | 112 => some ti112
  | 113 => some ti113
  | 114 => some ti114
  | 115 => some ti115
  | 116 => some ti116
  | 117 => some ti117
  | 118 => some ti118
  | 119 => some ti119
  | 120 => some ti120
  | 121 => some ti121
  | 122 => some ti122
  | 123 => some ti123
  | _ => none
instance : TT Tryd.prog where
  ti := tiAll
  ok := by
    intro t i h
    unfold tiAll at h
    split at h
    · simp only [Option.some.injEq] at h; rw [← h]; exact tok1
    · simp only [Option.some.injEq] at h; rw [← h]; exact tok2
    · simp only [Option.some.injEq] at h; rw [← h]; exact tok3
    · simp only [Option.some.injEq] at h; rw [← h]; exact tok4
    · simp only [Option.some.injEq] at h; rw [← h]; exact tok5
    · simp only [Option.some.injEq] at h; rw [← h]; exact tok6
    · simp only [Option.some.injEq] at h; rw [← h]; exact tok7
    · simp only [Option.some.injEq] at h; rw [← h]; exact tok8
    · simp only [Option.some.injEq] at h; rw [← h]; exact tok9
    · simp only [Option.some.injEq] at h; rw [← h]; exact tok10
    · simp only [Option.some.injEq] at h; rw [← h]; exact tok11
    · simp only [Option.some.injEq] at h; rw [← h]; exact tok12
    · simp only [Option.some.injEq] at h; rw [← h]; exact tok13
    · simp only [Option.some.injEq] at h; rw [← h]; exact tok14
    · simp only [Option.some.injEq] at h; rw [← h]; exact tok15
    · simp only [Option.some.injEq] at h; rw [← h]; exact tok16
    · simp only [Option.some.injEq] at h; rw [← h]; exact tok17
    · simp only [Option.some.injEq] at h; rw [← h]; exact tok18
    · simp only [Option.some.injEq] at h; rw [← h]; exact tok19
    · simp only [Option.some.injEq] at h; rw [← h]; exact tok20
    · simp only [Option.some.injEq] at h; rw [← h]; exact tok21
    · simp only [Option.some.injEq] at h; rw [← h]; exact tok22
    · simp only [Option.some.injEq] at h; rw [← h]; exact tok23
    · simp only [Option.some.injEq] at h; rw [← h]; exact tok24
    · simp only [Option.some.injEq] at h; rw [← h]; exact tok25
    · simp only [Option.some.injEq] at h; rw [← h]; exact tok26
    · simp only [Option.some.injEq] at h; rw [← h]; exact tok28
    · simp only [Option.some.injEq] at h; rw [← h]; exact tok29
    · simp only [Option.some.injEq] at h; rw [← h]; exact tok31
    · simp only [Option.some.injEq] at h; rw [← h]; exact tok32
    · simp only [Option.some.injEq] at h; rw [← h]; exact tok34
    · simp only [Option.some.injEq] at h; rw [← h]; exact tok35
    · simp only [Option.some.injEq] at h; rw [← h]; exact tok36
    · simp only [Option.some.injEq] at h; rw [← h]; exact tok38
    · simp only [Option.some.injEq] at h; rw [← h]; exact tok39
    · simp only [Option.some.injEq] at h; rw [← h]; exact tok40
    · simp only [Option.some.injEq] at h; rw [← h]; exact tok41
    · simp only [Option.some.injEq] at h; rw [← h]; exact tok42
    · simp only [Option.some.injEq] at h; rw [← h]; exact tok43
    · simp only [Option.some.injEq] at h; rw [← h]; exact tok44
    · simp only [Option.some.injEq] at h; rw [← h]; exact tok45
    · simp only [Option.some.injEq] at h; rw [← h]; exact tok46
    · simp only [Option.some.injEq] at h; rw [← h]; exact tok48
    · simp only [Option.some.injEq] at h; rw [← h]; exact tok49
    · simp only [Option.some.injEq] at h; rw [← h]; exact tok50
    · simp only [Option.some.injEq] at h; rw [← h]; exact tok51
    · simp only [Option.some.injEq] at h; rw [← h]; exact tok52
    · simp only [Option.some.injEq] at h; rw [← h]; exact tok53
    · simp only [Option.some.injEq] at h; rw [← h]; exact tok54
    · simp only [Option.some.injEq] at h; rw [← h]; exact tok55
    · simp only [Option.some.injEq] at h; rw [← h]; exact tok57
    · simp only [Option.some.injEq] at h; rw [← h]; exact tok58
    · simp only [Option.some.injEq] at h; rw [← h]; exact tok59
    · simp only [Option.some.injEq] at h; rw [← h]; exact tok60
    · simp only [Option.some.injEq] at h; rw [← h]; exact tok61
    · simp only [Option.some.injEq] at h; rw [← h]; exact tok62
    · simp only [Option.some.injEq] at h; rw [← h]; exact tok63
    · simp only [Option.some.injEq] at h; rw [← h]; exact tok64
    · simp only [Option.some.injEq] at h; rw [← h]; exact tok65
    · simp only [Option.some.injEq] at h; rw [← h]; exact tok66
    · simp only [Option.some.injEq] at h; rw [← h]; exact tok67
    · simp only [Option.some.injEq] at h; rw [← h]; exact tok68
    · simp only [Option.some.injEq] at h; rw [← h]; exact tok70
    · simp only [Option.some.injEq] at h; rw [← h]; exact tok71
    · simp only [Option.some.injEq] at h; rw [← h]; exact tok72
    · simp only [Option.some.injEq] at h; rw [← h]; exact tok73
    · simp only [Option.some.injEq] at h; rw [← h]; exact tok74
    · simp only [Option.some.injEq] at h; rw [← h]; exact tok75
    · simp only [Option.some.injEq] at h; rw [← h]; exact tok76
    · simp only [Option.some.injEq] at h; rw [← h]; exact tok77
    · simp only [Option.some.injEq] at h; rw [← h]; exact tok78
    · simp only [Option.some.injEq] at h; rw [← h]; exact tok79
    · simp only [Option.some.injEq] at h; rw [← h]; exact tok80
    · simp only [Option.some.injEq] at h; rw [← h]; exact tok81
    · simp only [Option.some.injEq] at h; rw [← h]; exact tok82
    · simp only [Option.some.injEq] at h; rw [← h]; exact tok83
    · simp only [Option.some.injEq] at h; rw [← h]; exact tok84
    · simp only [Option.some.injEq] at h; rw [← h]; exact tok85
    · simp only [Option.some.injEq] at h; rw [← h]; exact tok87
    · simp only [Option.some.injEq] at h; rw [← h]; exact tok88
    · simp only [Option.some.injEq] at h; rw [← h]; exact tok89
    · simp only [Option.some.injEq] at h; rw [← h]; exact tok90
    · simp only [Option.some.injEq] at h; rw [← h]; exact tok91
    · simp only [Option.some.injEq] at h; rw [← h]; exact tok92
    · simp only [Option.some.injEq] at h; rw [← h]; exact tok93
    · simp only [Option.some.injEq] at h; rw [← h]; exact tok94
    · simp only [Option.some.injEq] at h; rw [← h]; exact tok96
    · simp only [Option.some.injEq] at h; rw [← h]; exact tok97
    · simp only [Option.some.injEq] at h; rw [← h]; exact tok98
    · simp only [Option.some.injEq] at h; rw [← h]; exact tok99
    · simp only [Option.some.injEq] at h; rw [← h]; exact tok101
    · simp only [Option.some.injEq] at h; rw [← h]; exact tok102
    · simp only [Option.some.injEq] at h; rw [← h]; exact tok103
    · simp only [Option.some.injEq] at h; rw [← h]; exact tok104
    · simp only [Option.some.injEq] at h; rw [← h]; exact tok105
    · simp only [Option.some.injEq] at h; rw [← h]; exact tok106
    · simp only [Option.some.injEq] at h; rw [← h]; exact tok107
    · simp only [Option.some.injEq] at h; rw [← h]; exact tok108
    · simp only [Option.some.injEq] at h; rw [← h]; exact tok109
    · simp only [Option.some.injEq] at h; rw [← h]; exact tok110
    · simp only [Option.some.injEq] at h; rw [← h]; exact tok111
    · simp only [Option.some.injEq] at h; rw [← h]; exact tok112
    · simp only [Option.some.injEq] at h; rw [← h]; exact tok113
    · simp only [Option.some.injEq] at h; rw [← h]; exact tok114
    · simp only [Option.some.injEq] at h; rw [← h]; exact tok115
    · simp only [Option.some.injEq] at h; rw [← h]; exact tok116
    · simp only [Option.some.injEq] at h; rw [← h]; exact tok117
    · simp only [Option.some.injEq] at h; rw [← h]; exact tok118
    · simp only [Option.some.injEq] at h; rw [← h]; exact tok119
    · simp only [Option.some.injEq] at h; rw [← h]; exact tok120
    · simp only [Option.some.injEq] at h; rw [← h]; exact tok121
    · simp only [Option.some.injEq] at h; rw [← h]; exact tok122
    · simp only [Option.some.injEq] at h; rw [← h]; exact tok123
    · cases h
theorem mixed : Tryd.prog.follows .mixedOrders = true := by kernel_rfl
theorem ent3 : Ents Tryd.prog 3 := enters_of Tryd.func3 (by kernel_rfl) rfl
theorem ent4 : Ents Tryd.prog 4 := enters_of Tryd.func4 (by kernel_rfl) rfl
theorem ent5 : Ents Tryd.prog 5 := enters_of Tryd.func5 (by kernel_rfl) rfl
theorem ent6 : Ents Tryd.prog 6 := enters_of Tryd.func6 (by kernel_rfl) rfl
theorem ent7 : Ents Tryd.prog 7 := enters_of Tryd.func7 (by kernel_rfl) rfl
theorem ent8 : Ents Tryd.prog 8 := enters_of Tryd.func8 (by kernel_rfl) rfl
theorem ent9 : Ents Tryd.prog 9 := enters_of Tryd.func9 (by kernel_rfl) rfl
theorem ent10 : Ents Tryd.prog 10 := enters_of Tryd.func10 (by kernel_rfl) rfl
theorem ent11 : Ents Tryd.prog 11 := enters_of Tryd.func11 (by kernel_rfl) rfl
theorem ent12 : Ents Tryd.prog 12 := enters_of Tryd.func12 (by kernel_rfl) rfl
theorem ent13 : Ents Tryd.prog 13 := enters_of Tryd.func13 (by kernel_rfl) rfl
theorem ent14 : Ents Tryd.prog 14 := enters_of Tryd.func14 (by kernel_rfl) rfl
theorem ent15 : Ents Tryd.prog 15 := enters_of Tryd.func15 (by kernel_rfl) rfl
theorem ent16 : Ents Tryd.prog 16 := enters_of Tryd.func16 (by kernel_rfl) rfl
theorem ent17 : Ents Tryd.prog 17 := enters_of Tryd.func17 (by kernel_rfl) rfl
theorem ent18 : Ents Tryd.prog 18 := enters_of Tryd.func18 (by kernel_rfl) rfl
theorem ent19 : Ents Tryd.prog 19 := enters_of Tryd.func19 (by kernel_rfl) rfl
theorem ent20 : Ents Tryd.prog 20 := enters_of Tryd.func20 (by kernel_rfl) rfl
theorem ent21 : Ents Tryd.prog 21 := enters_of Tryd.func21 (by kernel_rfl) rfl
theorem ent22 : Ents Tryd.prog 22 := enters_of Tryd.func22 (by kernel_rfl) rfl
theorem ent23 : Ents Tryd.prog 23 := enters_of Tryd.func23 (by kernel_rfl) rfl
theorem ent24 : Ents Tryd.prog 24 := enters_of Tryd.func24 (by kernel_rfl) rfl
theorem ent25 : Ents Tryd.prog 25 := enters_of Tryd.func25 (by kernel_rfl) rfl
theorem ent26 : Ents Tryd.prog 26 := enters_of Tryd.func26 (by kernel_rfl) rfl
theorem ent27 : Ents Tryd.prog 27 := enters_of Tryd.func27 (by kernel_rfl) rfl
theorem ent28 : Ents Tryd.prog 28 := enters_of Tryd.func28 (by kernel_rfl) rfl
theorem ent29 : Ents Tryd.prog 29 := enters_of Tryd.func29 (by kernel_rfl) rfl
theorem ent30 : Ents Tryd.prog 30 := enters_of Tryd.func30 (by kernel_rfl) rfl
theorem ent31 : Ents Tryd.prog 31 := enters_of Tryd.func31 (by kernel_rfl) rfl
theorem ent32 : Ents Tryd.prog 32 := enters_of Tryd.func32 (by kernel_rfl) rfl
theorem ent33 : Ents Tryd.prog 33 := enters_of Tryd.func33 (by kernel_rfl) rfl
theorem ent34 : Ents Tryd.prog 34 := enters_of Tryd.func34 (by kernel_rfl) rfl
theorem ent35 : Ents Tryd.prog 35 := enters_of Tryd.func35 (by kernel_rfl) rfl
theorem ent36 : Ents Tryd.prog 36 := enters_of Tryd.func36 (by kernel_rfl) rfl
theorem ent37 : Ents Tryd.prog 37 := enters_of Tryd.func37 (by kernel_rfl) rfl
theorem ent38 : Ents Tryd.prog 38 := enters_of Tryd.func38 (by kernel_rfl) rfl
theorem ent39 : Ents Tryd.prog 39 := enters_of Tryd.func39 (by kernel_rfl) rfl
theorem ent40 : Ents Tryd.prog 40 := enters_of Tryd.func40 (by kernel_rfl) rfl
theorem ent41 : Ents Tryd.prog 41 := enters_of Tryd.func41 (by kernel_rfl) rfl
theorem ent42 : Ents Tryd.prog 42 := enters_of Tryd.func42 (by kernel_rfl) rfl
theorem ent43 : Ents Tryd.prog 43 := enters_of Tryd.func43 (by kernel_rfl) rfl
theorem ent44 : Ents Tryd.prog 44 := enters_of Tryd.func44 (by kernel_rfl) rfl
theorem ent45 : Ents Tryd.prog 45 := enters_of Tryd.func45 (by kernel_rfl) rfl
theorem ent46 : Ents Tryd.prog 46 := enters_of Tryd.func46 (by kernel_rfl) rfl
theorem ent47 : Ents Tryd.prog 47 := enters_of Tryd.func47 (by kernel_rfl) rfl
theorem ent48 : Ents Tryd.prog 48 := enters_of Tryd.func48 (by kernel_rfl) rfl
theorem ent49 : Ents Tryd.prog 49 := enters_of Tryd.func49 (by kernel_rfl) rfl
theorem ent50 : Ents Tryd.prog 50 := enters_of Tryd.func50 (by kernel_rfl) rfl
theorem ent51 : Ents Tryd.prog 51 := enters_of Tryd.func51 (by kernel_rfl) rfl
theorem ent52 : Ents Tryd.prog 52 := enters_of Tryd.func52 (by kernel_rfl) rfl
theorem ent53 : Ents Tryd.prog 53 := enters_of Tryd.func53 (by kernel_rfl) rfl
theorem ent54 : Ents Tryd.prog 54 := enters_of Tryd.func54 (by kernel_rfl) rfl
theorem ent55 : Ents Tryd.prog 55 := enters_of Tryd.func55 (by kernel_rfl) rfl
theorem ent56 : Ents Tryd.prog 56 := enters_of Tryd.func56 (by kernel_rfl) rfl
theorem ent57 : Ents Tryd.prog 57 := enters_of Tryd.func57 (by kernel_rfl) rfl
theorem ent58 : Ents Tryd.prog 58 := enters_of Tryd.func58 (by kernel_rfl) rfl
theorem ent59 : Ents Tryd.prog 59 := enters_of Tryd.func59 (by kernel_rfl) rfl
theorem ent60 : Ents Tryd.prog 60 := enters_of Tryd.func60 (by kernel_rfl) rfl
theorem ent61 : Ents Tryd.prog 61 := enters_of Tryd.func61 (by kernel_rfl) rfl
theorem ent62 : Ents Tryd.prog 62 := enters_of Tryd.func62 (by kernel_rfl) rfl
theorem ent63 : Ents Tryd.prog 63 := enters_of Tryd.func63 (by kernel_rfl) rfl
theorem ent64 : Ents Tryd.prog 64 := enters_of Tryd.func64 (by kernel_rfl) rfl
theorem ent65 : Ents Tryd.prog 65 := enters_of Tryd.func65 (by kernel_rfl) rfl
theorem ent66 : Ents Tryd.prog 66 := enters_of Tryd.func66 (by kernel_rfl) rfl
theorem ent67 : Ents Tryd.prog 67 := enters_of Tryd.func67 (by kernel_rfl) rfl
theorem ent68 : Ents Tryd.prog 68 := enters_of Tryd.func68 (by kernel_rfl) rfl
theorem ent69 : Ents Tryd.prog 69 := enters_of Tryd.func69 (by kernel_rfl) rfl
theorem ent70 : Ents Tryd.prog 70 := enters_of Tryd.func70 (by kernel_rfl) rfl
theorem ent71 : Ents Tryd.prog 71 := enters_of Tryd.func71 (by kernel_rfl) rfl
theorem ent72 : Ents Tryd.prog 72 := enters_of Tryd.func72 (by kernel_rfl) rfl
theorem ent73 : Ents Tryd.prog 73 := enters_of Tryd.func73 (by kernel_rfl) rfl
theorem ent74 : Ents Tryd.prog 74 := enters_of Tryd.func74 (by kernel_rfl) rfl
theorem ent75 : Ents Tryd.prog 75 := enters_of Tryd.func75 (by kernel_rfl) rfl
theorem ent76 : Ents Tryd.prog 76 := enters_of Tryd.func76 (by kernel_rfl) rfl
end Go.Proofs.YtdnkkflpgebfbaaDoor
