/- The table of the types of this seat's program, and that its functions are entered; made by a program of mine (tab.py) out of the dump's rows; each row is a closed fact that the kernel checks. -/
import Derived.Test.YtoghnhbjdnjghaaMW
import Derived.Test.YtoghnhbjdnjghaaProg
namespace Go.Proofs.Ytoghnhbjdnjghaa
open Go.W
set_option maxRecDepth 100000
def ti1 : TI := ⟨.func, .nilFunc, 1, 8⟩
theorem tok1 : TIok Try.prog 1 ti1 := ⟨⟨_, _, _, Try.underlying1⟩, by kernel_rfl⟩
def ti2 : TI := ⟨.int .i64, .int .i64 0, 1, 8⟩
theorem tok2 : TIok Try.prog 2 ti2 := ⟨Try.underlying2, by kernel_rfl⟩
def ti3 : TI := ⟨.int .i64, .int .i64 0, 1, 8⟩
theorem tok3 : TIok Try.prog 3 ti3 := ⟨Try.underlying3, by kernel_rfl⟩
def ti4 : TI := ⟨.bool, .bool false, 1, 1⟩
theorem tok4 : TIok Try.prog 4 ti4 := ⟨Try.underlying4, by kernel_rfl⟩
def ti5 : TI := ⟨.int .u8, .int .u8 0, 1, 1⟩
theorem tok5 : TIok Try.prog 5 ti5 := ⟨Try.underlying5, by kernel_rfl⟩
def ti6 : TI := ⟨.int .u8, .int .u8 0, 1, 1⟩
theorem tok6 : TIok Try.prog 6 ti6 := ⟨Try.underlying6, by kernel_rfl⟩
def ti7 : TI := ⟨.struct [(0, 2), (1, 3), (2, 4), (3, 6)], .agg #[.int .i64 0, .int .i64 0, .bool false, .int .u8 0], 4, 24⟩
theorem tok7 : TIok Try.prog 7 ti7 := ⟨⟨_, Try.underlying7, by kernel_rfl⟩, by kernel_rfl⟩
def ti8 : TI := ⟨.struct [(0, 2), (1, 3), (2, 4), (3, 6)], .agg #[.int .i64 0, .int .i64 0, .bool false, .int .u8 0], 4, 24⟩
theorem tok8 : TIok Try.prog 8 ti8 := ⟨⟨_, Try.underlying8, by kernel_rfl⟩, by kernel_rfl⟩
def ti9 : TI := ⟨.string, .string ⟨#[]⟩, 1, 16⟩
theorem tok9 : TIok Try.prog 9 ti9 := ⟨Try.underlying9, by kernel_rfl⟩
def ti10 : TI := ⟨.string, .string ⟨#[]⟩, 1, 16⟩
theorem tok10 : TIok Try.prog 10 ti10 := ⟨Try.underlying10, by kernel_rfl⟩
def ti11 : TI := ⟨.string, .string ⟨#[]⟩, 1, 16⟩
theorem tok11 : TIok Try.prog 11 ti11 := ⟨Try.underlying11, by kernel_rfl⟩
def ti12 : TI := ⟨.int .u64, .int .u64 0, 1, 8⟩
theorem tok12 : TIok Try.prog 12 ti12 := ⟨Try.underlying12, by kernel_rfl⟩
def ti13 : TI := ⟨.struct [(0, 9), (1, 12)], .agg #[.string ⟨#[]⟩, .int .u64 0], 2, 24⟩
theorem tok13 : TIok Try.prog 13 ti13 := ⟨⟨_, Try.underlying13, by kernel_rfl⟩, by kernel_rfl⟩
def ti14 : TI := ⟨.struct [(0, 9), (1, 12)], .agg #[.string ⟨#[]⟩, .int .u64 0], 2, 24⟩
theorem tok14 : TIok Try.prog 14 ti14 := ⟨⟨_, Try.underlying14, by kernel_rfl⟩, by kernel_rfl⟩
def ti15 : TI := ⟨.pointer 138, .pointer none, 1, 8⟩
theorem tok15 : TIok Try.prog 15 ti15 := ⟨Try.underlying15, by kernel_rfl⟩
def ti16 : TI := ⟨.pointer 141, .pointer none, 1, 8⟩
theorem tok16 : TIok Try.prog 16 ti16 := ⟨Try.underlying16, by kernel_rfl⟩
def ti17 : TI := ⟨.pointer 149, .pointer none, 1, 8⟩
theorem tok17 : TIok Try.prog 17 ti17 := ⟨Try.underlying17, by kernel_rfl⟩
def ti18 : TI := ⟨.struct [(0, 17)], .agg #[.pointer none], 1, 8⟩
theorem tok18 : TIok Try.prog 18 ti18 := ⟨⟨_, Try.underlying18, by kernel_rfl⟩, by kernel_rfl⟩
def ti19 : TI := ⟨.struct [(0, 17)], .agg #[.pointer none], 1, 8⟩
theorem tok19 : TIok Try.prog 19 ti19 := ⟨⟨_, Try.underlying19, by kernel_rfl⟩, by kernel_rfl⟩
def ti20 : TI := ⟨.iface, .nilIface, 1, 16⟩
theorem tok20 : TIok Try.prog 20 ti20 := ⟨⟨_, Try.underlying20⟩, by kernel_rfl⟩
def ti21 : TI := ⟨.int .i32, .int .i32 0, 1, 4⟩
theorem tok21 : TIok Try.prog 21 ti21 := ⟨Try.underlying21, by kernel_rfl⟩
def ti22 : TI := ⟨.slice 38, .slice none 0 0, 1, 24⟩
theorem tok22 : TIok Try.prog 22 ti22 := ⟨Try.underlying22, by kernel_rfl⟩
def ti23 : TI := ⟨.slice 3, .slice none 0 0, 1, 24⟩
theorem tok23 : TIok Try.prog 23 ti23 := ⟨Try.underlying23, by kernel_rfl⟩
def ti24 : TI := ⟨.int .i64, .int .i64 0, 1, 8⟩
theorem tok24 : TIok Try.prog 24 ti24 := ⟨Try.underlying24, by kernel_rfl⟩
def ti26 : TI := ⟨.func, .nilFunc, 1, 8⟩
theorem tok26 : TIok Try.prog 26 ti26 := ⟨⟨_, _, _, Try.underlying26⟩, by kernel_rfl⟩
def ti27 : TI := ⟨.func, .nilFunc, 1, 8⟩
theorem tok27 : TIok Try.prog 27 ti27 := ⟨⟨_, _, _, Try.underlying27⟩, by kernel_rfl⟩
def ti28 : TI := ⟨.func, .nilFunc, 1, 8⟩
theorem tok28 : TIok Try.prog 28 ti28 := ⟨⟨_, _, _, Try.underlying28⟩, by kernel_rfl⟩
def ti29 : TI := ⟨.func, .nilFunc, 1, 8⟩
theorem tok29 : TIok Try.prog 29 ti29 := ⟨⟨_, _, _, Try.underlying29⟩, by kernel_rfl⟩
def ti31 : TI := ⟨.func, .nilFunc, 1, 8⟩
theorem tok31 : TIok Try.prog 31 ti31 := ⟨⟨_, _, _, Try.underlying31⟩, by kernel_rfl⟩
def ti32 : TI := ⟨.func, .nilFunc, 1, 8⟩
theorem tok32 : TIok Try.prog 32 ti32 := ⟨⟨_, _, _, Try.underlying32⟩, by kernel_rfl⟩
def ti34 : TI := ⟨.func, .nilFunc, 1, 8⟩
theorem tok34 : TIok Try.prog 34 ti34 := ⟨⟨_, _, _, Try.underlying34⟩, by kernel_rfl⟩
def ti35 : TI := ⟨.func, .nilFunc, 1, 8⟩
theorem tok35 : TIok Try.prog 35 ti35 := ⟨⟨_, _, _, Try.underlying35⟩, by kernel_rfl⟩
def ti36 : TI := ⟨.func, .nilFunc, 1, 8⟩
theorem tok36 : TIok Try.prog 36 ti36 := ⟨⟨_, _, _, Try.underlying36⟩, by kernel_rfl⟩
def ti37 : TI := ⟨.struct [(0, 9), (1, 9)], .agg #[.string ⟨#[]⟩, .string ⟨#[]⟩], 2, 32⟩
theorem tok37 : TIok Try.prog 37 ti37 := ⟨⟨_, Try.underlying37, by kernel_rfl⟩, by kernel_rfl⟩
def ti38 : TI := ⟨.struct [(0, 9), (1, 9)], .agg #[.string ⟨#[]⟩, .string ⟨#[]⟩], 2, 32⟩
theorem tok38 : TIok Try.prog 38 ti38 := ⟨⟨_, Try.underlying38, by kernel_rfl⟩, by kernel_rfl⟩
def ti40 : TI := ⟨.func, .nilFunc, 1, 8⟩
theorem tok40 : TIok Try.prog 40 ti40 := ⟨⟨_, _, _, Try.underlying40⟩, by kernel_rfl⟩
def ti41 : TI := ⟨.func, .nilFunc, 1, 8⟩
theorem tok41 : TIok Try.prog 41 ti41 := ⟨⟨_, _, _, Try.underlying41⟩, by kernel_rfl⟩
def ti42 : TI := ⟨.array 2 3, .agg #[.int .i64 0, .int .i64 0], 2, 16⟩
theorem tok42 : TIok Try.prog 42 ti42 := ⟨Try.underlying42, by kernel_rfl⟩
def ti43 : TI := ⟨.func, .nilFunc, 1, 8⟩
theorem tok43 : TIok Try.prog 43 ti43 := ⟨⟨_, _, _, Try.underlying43⟩, by kernel_rfl⟩
def ti44 : TI := ⟨.func, .nilFunc, 1, 8⟩
theorem tok44 : TIok Try.prog 44 ti44 := ⟨⟨_, _, _, Try.underlying44⟩, by kernel_rfl⟩
def ti45 : TI := ⟨.func, .nilFunc, 1, 8⟩
theorem tok45 : TIok Try.prog 45 ti45 := ⟨⟨_, _, _, Try.underlying45⟩, by kernel_rfl⟩
def ti47 : TI := ⟨.func, .nilFunc, 1, 8⟩
theorem tok47 : TIok Try.prog 47 ti47 := ⟨⟨_, _, _, Try.underlying47⟩, by kernel_rfl⟩
def ti48 : TI := ⟨.slice 9, .slice none 0 0, 1, 24⟩
theorem tok48 : TIok Try.prog 48 ti48 := ⟨Try.underlying48, by kernel_rfl⟩
def ti49 : TI := ⟨.slice 5, .slice none 0 0, 1, 24⟩
theorem tok49 : TIok Try.prog 49 ti49 := ⟨Try.underlying49, by kernel_rfl⟩
def ti50 : TI := ⟨.func, .nilFunc, 1, 8⟩
theorem tok50 : TIok Try.prog 50 ti50 := ⟨⟨_, _, _, Try.underlying50⟩, by kernel_rfl⟩
def ti52 : TI := ⟨.func, .nilFunc, 1, 8⟩
theorem tok52 : TIok Try.prog 52 ti52 := ⟨⟨_, _, _, Try.underlying52⟩, by kernel_rfl⟩
def ti53 : TI := ⟨.func, .nilFunc, 1, 8⟩
theorem tok53 : TIok Try.prog 53 ti53 := ⟨⟨_, _, _, Try.underlying53⟩, by kernel_rfl⟩
def ti54 : TI := ⟨.func, .nilFunc, 1, 8⟩
theorem tok54 : TIok Try.prog 54 ti54 := ⟨⟨_, _, _, Try.underlying54⟩, by kernel_rfl⟩
def ti56 : TI := ⟨.func, .nilFunc, 1, 8⟩
theorem tok56 : TIok Try.prog 56 ti56 := ⟨⟨_, _, _, Try.underlying56⟩, by kernel_rfl⟩
def ti57 : TI := ⟨.func, .nilFunc, 1, 8⟩
theorem tok57 : TIok Try.prog 57 ti57 := ⟨⟨_, _, _, Try.underlying57⟩, by kernel_rfl⟩
def ti58 : TI := ⟨.func, .nilFunc, 1, 8⟩
theorem tok58 : TIok Try.prog 58 ti58 := ⟨⟨_, _, _, Try.underlying58⟩, by kernel_rfl⟩
def ti60 : TI := ⟨.func, .nilFunc, 1, 8⟩
theorem tok60 : TIok Try.prog 60 ti60 := ⟨⟨_, _, _, Try.underlying60⟩, by kernel_rfl⟩
def ti61 : TI := ⟨.int .u64, .int .u64 0, 1, 8⟩
theorem tok61 : TIok Try.prog 61 ti61 := ⟨Try.underlying61, by kernel_rfl⟩
def ti62 : TI := ⟨.pointer 66, .pointer none, 1, 8⟩
theorem tok62 : TIok Try.prog 62 ti62 := ⟨Try.underlying62, by kernel_rfl⟩
def ti63 : TI := ⟨.func, .nilFunc, 1, 8⟩
theorem tok63 : TIok Try.prog 63 ti63 := ⟨⟨_, _, _, Try.underlying63⟩, by kernel_rfl⟩
def ti64 : TI := ⟨.slice 23, .slice none 0 0, 1, 24⟩
theorem tok64 : TIok Try.prog 64 ti64 := ⟨Try.underlying64, by kernel_rfl⟩
def ti65 : TI := ⟨.struct [(0, 64)], .agg #[.slice none 0 0], 1, 24⟩
theorem tok65 : TIok Try.prog 65 ti65 := ⟨⟨_, Try.underlying65, by kernel_rfl⟩, by kernel_rfl⟩
def ti66 : TI := ⟨.struct [(0, 64)], .agg #[.slice none 0 0], 1, 24⟩
theorem tok66 : TIok Try.prog 66 ti66 := ⟨⟨_, Try.underlying66, by kernel_rfl⟩, by kernel_rfl⟩
def ti68 : TI := ⟨.func, .nilFunc, 1, 8⟩
theorem tok68 : TIok Try.prog 68 ti68 := ⟨⟨_, _, _, Try.underlying68⟩, by kernel_rfl⟩
def ti70 : TI := ⟨.func, .nilFunc, 1, 8⟩
theorem tok70 : TIok Try.prog 70 ti70 := ⟨⟨_, _, _, Try.underlying70⟩, by kernel_rfl⟩
def ti72 : TI := ⟨.func, .nilFunc, 1, 8⟩
theorem tok72 : TIok Try.prog 72 ti72 := ⟨⟨_, _, _, Try.underlying72⟩, by kernel_rfl⟩
def ti73 : TI := ⟨.array 2 9, .agg #[.string ⟨#[]⟩, .string ⟨#[]⟩], 2, 32⟩
theorem tok73 : TIok Try.prog 73 ti73 := ⟨Try.underlying73, by kernel_rfl⟩
def ti74 : TI := ⟨.func, .nilFunc, 1, 8⟩
theorem tok74 : TIok Try.prog 74 ti74 := ⟨⟨_, _, _, Try.underlying74⟩, by kernel_rfl⟩
def ti76 : TI := ⟨.func, .nilFunc, 1, 8⟩
theorem tok76 : TIok Try.prog 76 ti76 := ⟨⟨_, _, _, Try.underlying76⟩, by kernel_rfl⟩
def ti77 : TI := ⟨.func, .nilFunc, 1, 8⟩
theorem tok77 : TIok Try.prog 77 ti77 := ⟨⟨_, _, _, Try.underlying77⟩, by kernel_rfl⟩
def ti78 : TI := ⟨.func, .nilFunc, 1, 8⟩
theorem tok78 : TIok Try.prog 78 ti78 := ⟨⟨_, _, _, Try.underlying78⟩, by kernel_rfl⟩
def ti79 : TI := ⟨.func, .nilFunc, 1, 8⟩
theorem tok79 : TIok Try.prog 79 ti79 := ⟨⟨_, _, _, Try.underlying79⟩, by kernel_rfl⟩
def ti80 : TI := ⟨.func, .nilFunc, 1, 8⟩
theorem tok80 : TIok Try.prog 80 ti80 := ⟨⟨_, _, _, Try.underlying80⟩, by kernel_rfl⟩
def ti82 : TI := ⟨.func, .nilFunc, 1, 8⟩
theorem tok82 : TIok Try.prog 82 ti82 := ⟨⟨_, _, _, Try.underlying82⟩, by kernel_rfl⟩
def ti83 : TI := ⟨.func, .nilFunc, 1, 8⟩
theorem tok83 : TIok Try.prog 83 ti83 := ⟨⟨_, _, _, Try.underlying83⟩, by kernel_rfl⟩
def ti84 : TI := ⟨.map 9 3, .map none, 1, 8⟩
theorem tok84 : TIok Try.prog 84 ti84 := ⟨Try.underlying84, by kernel_rfl⟩
def ti85 : TI := ⟨.func, .nilFunc, 1, 8⟩
theorem tok85 : TIok Try.prog 85 ti85 := ⟨⟨_, _, _, Try.underlying85⟩, by kernel_rfl⟩
def ti86 : TI := ⟨.int .u64, .int .u64 0, 1, 8⟩
theorem tok86 : TIok Try.prog 86 ti86 := ⟨Try.underlying86, by kernel_rfl⟩
def ti88 : TI := ⟨.func, .nilFunc, 1, 8⟩
theorem tok88 : TIok Try.prog 88 ti88 := ⟨⟨_, _, _, Try.underlying88⟩, by kernel_rfl⟩
def ti89 : TI := ⟨.pointer 92, .pointer none, 1, 8⟩
theorem tok89 : TIok Try.prog 89 ti89 := ⟨Try.underlying89, by kernel_rfl⟩
def ti90 : TI := ⟨.map 38 4, .map none, 1, 8⟩
theorem tok90 : TIok Try.prog 90 ti90 := ⟨Try.underlying90, by kernel_rfl⟩
def ti91 : TI := ⟨.struct [(0, 22), (1, 90)], .agg #[.slice none 0 0, .map none], 2, 32⟩
theorem tok91 : TIok Try.prog 91 ti91 := ⟨⟨_, Try.underlying91, by kernel_rfl⟩, by kernel_rfl⟩
def ti92 : TI := ⟨.struct [(0, 22), (1, 90)], .agg #[.slice none 0 0, .map none], 2, 32⟩
theorem tok92 : TIok Try.prog 92 ti92 := ⟨⟨_, Try.underlying92, by kernel_rfl⟩, by kernel_rfl⟩
def ti93 : TI := ⟨.func, .nilFunc, 1, 8⟩
theorem tok93 : TIok Try.prog 93 ti93 := ⟨⟨_, _, _, Try.underlying93⟩, by kernel_rfl⟩
def ti94 : TI := ⟨.func, .nilFunc, 1, 8⟩
theorem tok94 : TIok Try.prog 94 ti94 := ⟨⟨_, _, _, Try.underlying94⟩, by kernel_rfl⟩
def ti95 : TI := ⟨.func, .nilFunc, 1, 8⟩
theorem tok95 : TIok Try.prog 95 ti95 := ⟨⟨_, _, _, Try.underlying95⟩, by kernel_rfl⟩
def ti96 : TI := ⟨.func, .nilFunc, 1, 8⟩
theorem tok96 : TIok Try.prog 96 ti96 := ⟨⟨_, _, _, Try.underlying96⟩, by kernel_rfl⟩
def ti97 : TI := ⟨.func, .nilFunc, 1, 8⟩
theorem tok97 : TIok Try.prog 97 ti97 := ⟨⟨_, _, _, Try.underlying97⟩, by kernel_rfl⟩
def ti98 : TI := ⟨.func, .nilFunc, 1, 8⟩
theorem tok98 : TIok Try.prog 98 ti98 := ⟨⟨_, _, _, Try.underlying98⟩, by kernel_rfl⟩
def ti99 : TI := ⟨.slice 73, .slice none 0 0, 1, 24⟩
theorem tok99 : TIok Try.prog 99 ti99 := ⟨Try.underlying99, by kernel_rfl⟩
def ti100 : TI := ⟨.func, .nilFunc, 1, 8⟩
theorem tok100 : TIok Try.prog 100 ti100 := ⟨⟨_, _, _, Try.underlying100⟩, by kernel_rfl⟩
def ti101 : TI := ⟨.func, .nilFunc, 1, 8⟩
theorem tok101 : TIok Try.prog 101 ti101 := ⟨⟨_, _, _, Try.underlying101⟩, by kernel_rfl⟩
def ti102 : TI := ⟨.func, .nilFunc, 1, 8⟩
theorem tok102 : TIok Try.prog 102 ti102 := ⟨⟨_, _, _, Try.underlying102⟩, by kernel_rfl⟩
def ti103 : TI := ⟨.func, .nilFunc, 1, 8⟩
theorem tok103 : TIok Try.prog 103 ti103 := ⟨⟨_, _, _, Try.underlying103⟩, by kernel_rfl⟩
def ti104 : TI := ⟨.func, .nilFunc, 1, 8⟩
theorem tok104 : TIok Try.prog 104 ti104 := ⟨⟨_, _, _, Try.underlying104⟩, by kernel_rfl⟩
def ti105 : TI := ⟨.func, .nilFunc, 1, 8⟩
theorem tok105 : TIok Try.prog 105 ti105 := ⟨⟨_, _, _, Try.underlying105⟩, by kernel_rfl⟩
def ti106 : TI := ⟨.func, .nilFunc, 1, 8⟩
theorem tok106 : TIok Try.prog 106 ti106 := ⟨⟨_, _, _, Try.underlying106⟩, by kernel_rfl⟩
def ti107 : TI := ⟨.func, .nilFunc, 1, 8⟩
theorem tok107 : TIok Try.prog 107 ti107 := ⟨⟨_, _, _, Try.underlying107⟩, by kernel_rfl⟩
def ti108 : TI := ⟨.func, .nilFunc, 1, 8⟩
theorem tok108 : TIok Try.prog 108 ti108 := ⟨⟨_, _, _, Try.underlying108⟩, by kernel_rfl⟩
def ti109 : TI := ⟨.func, .nilFunc, 1, 8⟩
theorem tok109 : TIok Try.prog 109 ti109 := ⟨⟨_, _, _, Try.underlying109⟩, by kernel_rfl⟩
def ti110 : TI := ⟨.int .i64, .int .i64 0, 1, 8⟩
theorem tok110 : TIok Try.prog 110 ti110 := ⟨Try.underlying110, by kernel_rfl⟩
def ti112 : TI := ⟨.func, .nilFunc, 1, 8⟩
theorem tok112 : TIok Try.prog 112 ti112 := ⟨⟨_, _, _, Try.underlying112⟩, by kernel_rfl⟩
def ti113 : TI := ⟨.func, .nilFunc, 1, 8⟩
theorem tok113 : TIok Try.prog 113 ti113 := ⟨⟨_, _, _, Try.underlying113⟩, by kernel_rfl⟩
def ti114 : TI := ⟨.func, .nilFunc, 1, 8⟩
theorem tok114 : TIok Try.prog 114 ti114 := ⟨⟨_, _, _, Try.underlying114⟩, by kernel_rfl⟩
def ti115 : TI := ⟨.func, .nilFunc, 1, 8⟩
theorem tok115 : TIok Try.prog 115 ti115 := ⟨⟨_, _, _, Try.underlying115⟩, by kernel_rfl⟩
def ti116 : TI := ⟨.func, .nilFunc, 1, 8⟩
theorem tok116 : TIok Try.prog 116 ti116 := ⟨⟨_, _, _, Try.underlying116⟩, by kernel_rfl⟩
def ti117 : TI := ⟨.int .u32, .int .u32 0, 1, 4⟩
theorem tok117 : TIok Try.prog 117 ti117 := ⟨Try.underlying117, by kernel_rfl⟩
def ti118 : TI := ⟨.func, .nilFunc, 1, 8⟩
theorem tok118 : TIok Try.prog 118 ti118 := ⟨⟨_, _, _, Try.underlying118⟩, by kernel_rfl⟩
def ti119 : TI := ⟨.slice 22, .slice none 0 0, 1, 24⟩
theorem tok119 : TIok Try.prog 119 ti119 := ⟨Try.underlying119, by kernel_rfl⟩
def ti120 : TI := ⟨.func, .nilFunc, 1, 8⟩
theorem tok120 : TIok Try.prog 120 ti120 := ⟨⟨_, _, _, Try.underlying120⟩, by kernel_rfl⟩
def ti121 : TI := ⟨.func, .nilFunc, 1, 8⟩
theorem tok121 : TIok Try.prog 121 ti121 := ⟨⟨_, _, _, Try.underlying121⟩, by kernel_rfl⟩
def ti122 : TI := ⟨.int .u64, .int .u64 0, 1, 8⟩
theorem tok122 : TIok Try.prog 122 ti122 := ⟨Try.underlying122, by kernel_rfl⟩
def ti123 : TI := ⟨.func, .nilFunc, 1, 8⟩
theorem tok123 : TIok Try.prog 123 ti123 := ⟨⟨_, _, _, Try.underlying123⟩, by kernel_rfl⟩
def ti124 : TI := ⟨.func, .nilFunc, 1, 8⟩
theorem tok124 : TIok Try.prog 124 ti124 := ⟨⟨_, _, _, Try.underlying124⟩, by kernel_rfl⟩
def ti125 : TI := ⟨.func, .nilFunc, 1, 8⟩
theorem tok125 : TIok Try.prog 125 ti125 := ⟨⟨_, _, _, Try.underlying125⟩, by kernel_rfl⟩
def ti126 : TI := ⟨.pointer 3, .pointer none, 1, 8⟩
theorem tok126 : TIok Try.prog 126 ti126 := ⟨Try.underlying126, by kernel_rfl⟩
def ti127 : TI := ⟨.func, .nilFunc, 1, 8⟩
theorem tok127 : TIok Try.prog 127 ti127 := ⟨⟨_, _, _, Try.underlying127⟩, by kernel_rfl⟩
def ti128 : TI := ⟨.pointer 122, .pointer none, 1, 8⟩
theorem tok128 : TIok Try.prog 128 ti128 := ⟨Try.underlying128, by kernel_rfl⟩
def ti130 : TI := ⟨.func, .nilFunc, 1, 8⟩
theorem tok130 : TIok Try.prog 130 ti130 := ⟨⟨_, _, _, Try.underlying130⟩, by kernel_rfl⟩
def ti131 : TI := ⟨.func, .nilFunc, 1, 8⟩
theorem tok131 : TIok Try.prog 131 ti131 := ⟨⟨_, _, _, Try.underlying131⟩, by kernel_rfl⟩
def ti132 : TI := ⟨.func, .nilFunc, 1, 8⟩
theorem tok132 : TIok Try.prog 132 ti132 := ⟨⟨_, _, _, Try.underlying132⟩, by kernel_rfl⟩
def ti133 : TI := ⟨.func, .nilFunc, 1, 8⟩
theorem tok133 : TIok Try.prog 133 ti133 := ⟨⟨_, _, _, Try.underlying133⟩, by kernel_rfl⟩
def ti135 : TI := ⟨.func, .nilFunc, 1, 8⟩
theorem tok135 : TIok Try.prog 135 ti135 := ⟨⟨_, _, _, Try.underlying135⟩, by kernel_rfl⟩
def ti136 : TI := ⟨.func, .nilFunc, 1, 8⟩
theorem tok136 : TIok Try.prog 136 ti136 := ⟨⟨_, _, _, Try.underlying136⟩, by kernel_rfl⟩
def ti137 : TI := ⟨.struct [(0, 17), (1, 17), (2, 17), (3, 9)], .agg #[.pointer none, .pointer none, .pointer none, .string ⟨#[]⟩], 4, 40⟩
theorem tok137 : TIok Try.prog 137 ti137 := ⟨⟨_, Try.underlying137, by kernel_rfl⟩, by kernel_rfl⟩
def ti138 : TI := ⟨.struct [(0, 17), (1, 17), (2, 17), (3, 9)], .agg #[.pointer none, .pointer none, .pointer none, .string ⟨#[]⟩], 4, 40⟩
theorem tok138 : TIok Try.prog 138 ti138 := ⟨⟨_, Try.underlying138, by kernel_rfl⟩, by kernel_rfl⟩
def ti139 : TI := ⟨.array 0 16, .agg #[], 0, 0⟩
theorem tok139 : TIok Try.prog 139 ti139 := ⟨Try.underlying139, by kernel_rfl⟩
def ti140 : TI := ⟨.struct [(0, 139)], .agg #[], 0, 0⟩
theorem tok140 : TIok Try.prog 140 ti140 := ⟨⟨_, Try.underlying140, by kernel_rfl⟩, by kernel_rfl⟩
def ti141 : TI := ⟨.struct [(0, 139)], .agg #[], 0, 0⟩
theorem tok141 : TIok Try.prog 141 ti141 := ⟨⟨_, Try.underlying141, by kernel_rfl⟩, by kernel_rfl⟩
def ti142 : TI := ⟨.int .u8, .int .u8 0, 1, 1⟩
theorem tok142 : TIok Try.prog 142 ti142 := ⟨Try.underlying142, by kernel_rfl⟩
def ti143 : TI := ⟨.int .u8, .int .u8 0, 1, 1⟩
theorem tok143 : TIok Try.prog 143 ti143 := ⟨Try.underlying143, by kernel_rfl⟩
def ti144 : TI := ⟨.func, .nilFunc, 1, 8⟩
theorem tok144 : TIok Try.prog 144 ti144 := ⟨⟨_, _, _, Try.underlying144⟩, by kernel_rfl⟩
def ti145 : TI := ⟨.pointer 5, .pointer none, 1, 8⟩
theorem tok145 : TIok Try.prog 145 ti145 := ⟨Try.underlying145, by kernel_rfl⟩
def ti146 : TI := ⟨.int .i32, .int .i32 0, 1, 4⟩
theorem tok146 : TIok Try.prog 146 ti146 := ⟨Try.underlying146, by kernel_rfl⟩
def ti147 : TI := ⟨.int .i32, .int .i32 0, 1, 4⟩
theorem tok147 : TIok Try.prog 147 ti147 := ⟨Try.underlying147, by kernel_rfl⟩
def ti148 : TI := ⟨.struct [(0, 12), (1, 12), (2, 117), (3, 142), (4, 5), (5, 5), (6, 143), (7, 144), (8, 145), (9, 146), (10, 147)], .agg #[.int .u64 0, .int .u64 0, .int .u32 0, .int .u8 0, .int .u8 0, .int .u8 0, .int .u8 0, .nilFunc, .pointer none, .int .i32 0, .int .i32 0], 11, 48⟩
theorem tok148 : TIok Try.prog 148 ti148 := ⟨⟨_, Try.underlying148, by kernel_rfl⟩, by kernel_rfl⟩
def ti149 : TI := ⟨.struct [(0, 12), (1, 12), (2, 117), (3, 142), (4, 5), (5, 5), (6, 143), (7, 144), (8, 145), (9, 146), (10, 147)], .agg #[.int .u64 0, .int .u64 0, .int .u32 0, .int .u8 0, .int .u8 0, .int .u8 0, .int .u8 0, .nilFunc, .pointer none, .int .i32 0, .int .i32 0], 11, 48⟩
theorem tok149 : TIok Try.prog 149 ti149 := ⟨⟨_, Try.underlying149, by kernel_rfl⟩, by kernel_rfl⟩
def tiAll : Nat → Option TI
  | 1 => some ti1
  | 2 => some ti2
  | 3 => some ti3
  | 4 => some ti4
  | 5 => some ti5
  | 6 => some ti6
  | 7 => some ti7
  | 8 => some ti8
  | 9 => some ti9
  | 10 => some ti10
  | 11 => some ti11
  | 12 => some ti12
  | 13 => some ti13
  | 14 => some ti14
  | 15 => some ti15
  | 16 => some ti16
  | 17 => some ti17
  | 18 => some ti18
  | 19 => some ti19
  | 20 => some ti20
  | 21 => some ti21
  | 22 => some ti22
  | 23 => some ti23
  | 24 => some ti24
  | 26 => some ti26
  | 27 => some ti27
  | 28 => some ti28
  | 29 => some ti29
  | 31 => some ti31
  | 32 => some ti32
  | 34 => some ti34
  | 35 => some ti35
  | 36 => some ti36
  | 37 => some ti37
  | 38 => some ti38
  | 40 => some ti40
  | 41 => some ti41
  | 42 => some ti42
  | 43 => some ti43
  | 44 => some ti44
  | 45 => some ti45
  | 47 => some ti47
  | 48 => some ti48
  | 49 => some ti49
  | 50 => some ti50
  | 52 => some ti52
  | 53 => some ti53
  | 54 => some ti54
  | 56 => some ti56
  | 57 => some ti57
  | 58 => some ti58
  | 60 => some ti60
  | 61 => some ti61
  | 62 => some ti62
  | 63 => some ti63
  | 64 => some ti64
  | 65 => some ti65
  | 66 => some ti66
  | 68 => some ti68
  | 70 => some ti70
  | 72 => some ti72
  | 73 => some ti73
  | 74 => some ti74
  | 76 => some ti76
  | 77 => some ti77
  | 78 => some ti78
  | 79 => some ti79
  | 80 => some ti80
  | 82 => some ti82
  | 83 => some ti83
  | 84 => some ti84
  | 85 => some ti85
  | 86 => some ti86
  | 88 => some ti88
  | 89 => some ti89
  | 90 => some ti90
  | 91 => some ti91
  | 92 => some ti92
  | 93 => some ti93
  | 94 => some ti94
  | 95 => some ti95
  | 96 => some ti96
  | 97 => some ti97
  | 98 => some ti98
  | 99 => some ti99
  | 100 => some ti100
  | 101 => some ti101
  | 102 => some ti102
  | 103 => some ti103
  | 104 => some ti104
  | 105 => some ti105
  | 106 => some ti106
  | 107 => some ti107
  | 108 => some ti108
  | 109 => some ti109
  | 110 => some ti110
  | 112 => some ti112
  | 113 => some ti113
  | 114 => some ti114
  | 115 => some ti115
  | 116 => some ti116
  | 117 => some ti117
  | 118 => some ti118
  | 119 => some ti119
  | 120 => some ti120
  | 121 => some ti121
  | 122 => some ti122
  | 123 => some ti123
  | 124 => some ti124
  | 125 => some ti125
  | 126 => some ti126
  | 127 => some ti127
  | 128 => some ti128
  | 130 => some ti130
  | 131 => some ti131
  | 132 => some ti132
  | 133 => some ti133
  | 135 => some ti135
  | 136 => some ti136
  | 137 => some ti137
  | 138 => some ti138
  | 139 => some ti139
  | 140 => some ti140
  | 141 => some ti141
  | 142 => some ti142
  | 143 => some ti143
  | 144 => some ti144
  | 145 => some ti145
  | 146 => some ti146
  | 147 => some ti147
  | 148 => some ti148
  | 149 => some ti149
  | _ => none
instance : TT Try.prog where
  ti := tiAll
  ok := by
    intro t i h
    unfold tiAll at h
    split at h
    · simp only [Option.some.injEq] at h; rw [← h]; exact tok1
    · simp only [Option.some.injEq] at h; rw [← h]; exact tok2
    · simp only [Option.some.injEq] at h; rw [← h]; exact tok3
    · simp only [Option.some.injEq] at h; rw [← h]; exact tok4
    · simp only [Option.some.injEq] at h; rw [← h]; exact tok5
    · simp only [Option.some.injEq] at h; rw [← h]; exact tok6
    · simp only [Option.some.injEq] at h; rw [← h]; exact tok7
    · simp only [Option.some.injEq] at h; rw [← h]; exact tok8
    · simp only [Option.some.injEq] at h; rw [← h]; exact tok9
    · simp only [Option.some.injEq] at h; rw [← h]; exact tok10
    · simp only [Option.some.injEq] at h; rw [← h]; exact tok11
    · simp only [Option.some.injEq] at h; rw [← h]; exact tok12
    · simp only [Option.some.injEq] at h; rw [← h]; exact tok13
    · simp only [Option.some.injEq] at h; rw [← h]; exact tok14
    · simp only [Option.some.injEq] at h; rw [← h]; exact tok15
    · simp only [Option.some.injEq] at h; rw [← h]; exact tok16
    · simp only [Option.some.injEq] at h; rw [← h]; exact tok17
    · simp only [Option.some.injEq] at h; rw [← h]; exact tok18
    · simp only [Option.some.injEq] at h; rw [← h]; exact tok19
    · simp only [Option.some.injEq] at h; rw [← h]; exact tok20
    · simp only [Option.some.injEq] at h; rw [← h]; exact tok21
    · simp only [Option.some.injEq] at h; rw [← h]; exact tok22
    · simp only [Option.some.injEq] at h; rw [← h]; exact tok23
    · simp only [Option.some.injEq] at h; rw [← h]; exact tok24
    · simp only [Option.some.injEq] at h; rw [← h]; exact tok26
    · simp only [Option.some.injEq] at h; rw [← h]; exact tok27
    · simp only [Option.some.injEq] at h; rw [← h]; exact tok28
    · simp only [Option.some.injEq] at h; rw [← h]; exact tok29
    · simp only [Option.some.injEq] at h; rw [← h]; exact tok31
    · simp only [Option.some.injEq] at h; rw [← h]; exact tok32
    · simp only [Option.some.injEq] at h; rw [← h]; exact tok34
    · simp only [Option.some.injEq] at h; rw [← h]; exact tok35
    · simp only [Option.some.injEq] at h; rw [← h]; exact tok36
    · simp only [Option.some.injEq] at h; rw [← h]; exact tok37
    · simp only [Option.some.injEq] at h; rw [← h]; exact tok38
    · simp only [Option.some.injEq] at h; rw [← h]; exact tok40
    · simp only [Option.some.injEq] at h; rw [← h]; exact tok41
    · simp only [Option.some.injEq] at h; rw [← h]; exact tok42
    · simp only [Option.some.injEq] at h; rw [← h]; exact tok43
    · simp only [Option.some.injEq] at h; rw [← h]; exact tok44
    · simp only [Option.some.injEq] at h; rw [← h]; exact tok45
    · simp only [Option.some.injEq] at h; rw [← h]; exact tok47
    · simp only [Option.some.injEq] at h; rw [← h]; exact tok48
    · simp only [Option.some.injEq] at h; rw [← h]; exact tok49
    · simp only [Option.some.injEq] at h; rw [← h]; exact tok50
    · simp only [Option.some.injEq] at h; rw [← h]; exact tok52
    · simp only [Option.some.injEq] at h; rw [← h]; exact tok53
    · simp only [Option.some.injEq] at h; rw [← h]; exact tok54
    · simp only [Option.some.injEq] at h; rw [← h]; exact tok56
    · simp only [Option.some.injEq] at h; rw [← h]; exact tok57
    · simp only [Option.some.injEq] at h; rw [← h]; exact tok58
    · simp only [Option.some.injEq] at h; rw [← h]; exact tok60
    · simp only [Option.some.injEq] at h; rw [← h]; exact tok61
    · simp only [Option.some.injEq] at h; rw [← h]; exact tok62
    · simp only [Option.some.injEq] at h; rw [← h]; exact tok63
    · simp only [Option.some.injEq] at h; rw [← h]; exact tok64
    · simp only [Option.some.injEq] at h; rw [← h]; exact tok65
    · simp only [Option.some.injEq] at h; rw [← h]; exact tok66
    · simp only [Option.some.injEq] at h; rw [← h]; exact tok68
    · simp only [Option.some.injEq] at h; rw [← h]; exact tok70
    · simp only [Option.some.injEq] at h; rw [← h]; exact tok72
    · simp only [Option.some.injEq] at h; rw [← h]; exact tok73
    · simp only [Option.some.injEq] at h; rw [← h]; exact tok74
    · simp only [Option.some.injEq] at h; rw [← h]; exact tok76
    · simp only [Option.some.injEq] at h; rw [← h]; exact tok77
    · simp only [Option.some.injEq] at h; rw [← h]; exact tok78
    · simp only [Option.some.injEq] at h; rw [← h]; exact tok79
    · simp only [Option.some.injEq] at h; rw [← h]; exact tok80
    · simp only [Option.some.injEq] at h; rw [← h]; exact tok82
    · simp only [Option.some.injEq] at h; rw [← h]; exact tok83
    · simp only [Option.some.injEq] at h; rw [← h]; exact tok84
    · simp only [Option.some.injEq] at h; rw [← h]; exact tok85
    · simp only [Option.some.injEq] at h; rw [← h]; exact tok86
    · simp only [Option.some.injEq] at h; rw [← h]; exact tok88
    · simp only [Option.some.injEq] at h; rw [← h]; exact tok89
    · simp only [Option.some.injEq] at h; rw [← h]; exact tok90
    · simp only [Option.some.injEq] at h; rw [← h]; exact tok91
    · simp only [Option.some.injEq] at h; rw [← h]; exact tok92
    · simp only [Option.some.injEq] at h; rw [← h]; exact tok93
    · simp only [Option.some.injEq] at h; rw [← h]; exact tok94
    · simp only [Option.some.injEq] at h; rw [← h]; exact tok95
    · simp only [Option.some.injEq] at h; rw [← h]; exact tok96
    · simp only [Option.some.injEq] at h; rw [← h]; exact tok97
    · simp only [Option.some.injEq] at h; rw [← h]; exact tok98
    · simp only [Option.some.injEq] at h; rw [← h]; exact tok99
    · simp only [Option.some.injEq] at h; rw [← h]; exact tok100
    · simp only [Option.some.injEq] at h; rw [← h]; exact tok101
    · simp only [Option.some.injEq] at h; rw [← h]; exact tok102
    · simp only [Option.some.injEq] at h; rw [← h]; exact tok103
    · simp only [Option.some.injEq] at h; rw [← h]; exact tok104
    · simp only [Option.some.injEq] at h; rw [← h]; exact tok105
    · simp only [Option.some.injEq] at h; rw [← h]; exact tok106
    · simp only [Option.some.injEq] at h; rw [← h]; exact tok107
    · simp only [Option.some.injEq] at h; rw [← h]; exact tok108
    · simp only [Option.some.injEq] at h; rw [← h]; exact tok109
    · simp only [Option.some.injEq] at h; rw [← h]; exact tok110
    · simp only [Option.some.injEq] at h; rw [← h]; exact tok112
    · simp only [Option.some.injEq] at h; rw [← h]; exact tok113
    · simp only [Option.some.injEq] at h; rw [← h]; exact tok114
    · simp only [Option.some.injEq] at h; rw [← h]; exact tok115
    · simp only [Option.some.injEq] at h; rw [← h]; exact tok116
    · simp only [Option.some.injEq] at h; rw [← h]; exact tok117
    · simp only [Option.some.injEq] at h; rw [← h]; exact tok118
    · simp only [Option.some.injEq] at h; rw [← h]; exact tok119
    · simp only [Option.some.injEq] at h; rw [← h]; exact tok120
    · simp only [Option.some.injEq] at h; rw [← h]; exact tok121
    · simp only [Option.some.injEq] at h; rw [← h]; exact tok122
    · simp only [Option.some.injEq] at h; rw [← h]; exact tok123
    · simp only [Option.some.injEq] at h; rw [← h]; exact tok124
    · simp only [Option.some.injEq] at h; rw [← h]; exact tok125
    · simp only [Option.some.injEq] at h; rw [← h]; exact tok126
    · simp only [Option.some.injEq] at h; rw [← h]; exact tok127
    · simp only [Option.some.injEq] at h; rw [← h]; exact tok128
    · simp only [Option.some.injEq] at h; rw [← h]; exact tok130
    · simp only [Option.some.injEq] at h; rw [← h]; exact tok131
    · simp only [Option.some.injEq] at h; rw [← h]; exact tok132
    · simp only [Option.some.injEq] at h; rw [← h]; exact tok133
    · simp only [Option.some.injEq] at h; rw [← h]; exact tok135
    · simp only [Option.some.injEq] at h; rw [← h]; exact tok136
    · simp only [Option.some.injEq] at h; rw [← h]; exact tok137
    · simp only [Option.some.injEq] at h; rw [← h]; exact tok138
    · simp only [Option.some.injEq] at h; rw [← h]; exact tok139
    · simp only [Option.some.injEq] at h; rw [← h]; exact tok140
    · simp only [Option.some.injEq] at h; rw [← h]; exact tok141
    · simp only [Option.some.injEq] at h; rw [← h]; exact tok142
    · simp only [Option.some.injEq] at h; rw [← h]; exact tok143
    · simp only [Option.some.injEq] at h; rw [← h]; exact tok144
    · simp only [Option.some.injEq] at h; rw [← h]; exact tok145
    · simp only [Option.some.injEq] at h; rw [← h]; exact tok146
    · simp only [Option.some.injEq] at h; rw [← h]; exact tok147
    · simp only [Option.some.injEq] at h; rw [← h]; exact tok148
    · simp only [Option.some.injEq] at h; rw [← h]; exact tok149
    · cases h
theorem mixed : Try.prog.follows .mixedOrders = true := by kernel_rfl
theorem ent3 : Ents Try.prog 3 := enters_of Try.func3 (by kernel_rfl) rfl
theorem ent4 : Ents Try.prog 4 := enters_of Try.func4 (by kernel_rfl) rfl
theorem ent5 : Ents Try.prog 5 := enters_of Try.func5 (by kernel_rfl) rfl
theorem ent6 : Ents Try.prog 6 := enters_of Try.func6 (by kernel_rfl) rfl
theorem ent7 : Ents Try.prog 7 := enters_of Try.func7 (by kernel_rfl) rfl
theorem ent8 : Ents Try.prog 8 := enters_of Try.func8 (by kernel_rfl) rfl
theorem ent9 : Ents Try.prog 9 := enters_of Try.func9 (by kernel_rfl) rfl
theorem ent10 : Ents Try.prog 10 := enters_of Try.func10 (by kernel_rfl) rfl
theorem ent11 : Ents Try.prog 11 := enters_of Try.func11 (by kernel_rfl) rfl
theorem ent12 : Ents Try.prog 12 := enters_of Try.func12 (by kernel_rfl) rfl
theorem ent13 : Ents Try.prog 13 := enters_of Try.func13 (by kernel_rfl) rfl
theorem ent14 : Ents Try.prog 14 := enters_of Try.func14 (by kernel_rfl) rfl
theorem ent15 : Ents Try.prog 15 := enters_of Try.func15 (by kernel_rfl) rfl
theorem ent16 : Ents Try.prog 16 := enters_of Try.func16 (by kernel_rfl) rfl
theorem ent17 : Ents Try.prog 17 := enters_of Try.func17 (by kernel_rfl) rfl
theorem ent18 : Ents Try.prog 18 := enters_of Try.func18 (by kernel_rfl) rfl
theorem ent19 : Ents Try.prog 19 := enters_of Try.func19 (by kernel_rfl) rfl
theorem ent20 : Ents Try.prog 20 := enters_of Try.func20 (by kernel_rfl) rfl
theorem ent21 : Ents Try.prog 21 := enters_of Try.func21 (by kernel_rfl) rfl
theorem ent22 : Ents Try.prog 22 := enters_of Try.func22 (by kernel_rfl) rfl
theorem ent23 : Ents Try.prog 23 := enters_of Try.func23 (by kernel_rfl) rfl
theorem ent24 : Ents Try.prog 24 := enters_of Try.func24 (by kernel_rfl) rfl
theorem ent25 : Ents Try.prog 25 := enters_of Try.func25 (by kernel_rfl) rfl
theorem ent26 : Ents Try.prog 26 := enters_of Try.func26 (by kernel_rfl) rfl
theorem ent27 : Ents Try.prog 27 := enters_of Try.func27 (by kernel_rfl) rfl
theorem ent28 : Ents Try.prog 28 := enters_of Try.func28 (by kernel_rfl) rfl
theorem ent29 : Ents Try.prog 29 := enters_of Try.func29 (by kernel_rfl) rfl
theorem ent30 : Ents Try.prog 30 := enters_of Try.func30 (by kernel_rfl) rfl
theorem ent31 : Ents Try.prog 31 := enters_of Try.func31 (by kernel_rfl) rfl
theorem ent32 : Ents Try.prog 32 := enters_of Try.func32 (by kernel_rfl) rfl
theorem ent33 : Ents Try.prog 33 := enters_of Try.func33 (by kernel_rfl) rfl
theorem ent34 : Ents Try.prog 34 := enters_of Try.func34 (by kernel_rfl) rfl
theorem ent35 : Ents Try.prog 35 := enters_of Try.func35 (by kernel_rfl) rfl
theorem ent36 : Ents Try.prog 36 := enters_of Try.func36 (by kernel_rfl) rfl
theorem ent37 : Ents Try.prog 37 := enters_of Try.func37 (by kernel_rfl) rfl
theorem ent38 : Ents Try.prog 38 := enters_of Try.func38 (by kernel_rfl) rfl
theorem ent39 : Ents Try.prog 39 := enters_of Try.func39 (by kernel_rfl) rfl
theorem ent40 : Ents Try.prog 40 := enters_of Try.func40 (by kernel_rfl) rfl
theorem ent41 : Ents Try.prog 41 := enters_of Try.func41 (by kernel_rfl) rfl
theorem ent42 : Ents Try.prog 42 := enters_of Try.func42 (by kernel_rfl) rfl
theorem ent43 : Ents Try.prog 43 := enters_of Try.func43 (by kernel_rfl) rfl
theorem ent44 : Ents Try.prog 44 := enters_of Try.func44 (by kernel_rfl) rfl
theorem ent45 : Ents Try.prog 45 := enters_of Try.func45 (by kernel_rfl) rfl
theorem ent46 : Ents Try.prog 46 := enters_of Try.func46 (by kernel_rfl) rfl
theorem ent47 : Ents Try.prog 47 := enters_of Try.func47 (by kernel_rfl) rfl
theorem ent48 : Ents Try.prog 48 := enters_of Try.func48 (by kernel_rfl) rfl
theorem ent49 : Ents Try.prog 49 := enters_of Try.func49 (by kernel_rfl) rfl
theorem ent50 : Ents Try.prog 50 := enters_of Try.func50 (by kernel_rfl) rfl
theorem ent52 : Ents Try.prog 52 := enters_of Try.func52 (by kernel_rfl) rfl
theorem ent53 : Ents Try.prog 53 := enters_of Try.func53 (by kernel_rfl) rfl
theorem ent54 : Ents Try.prog 54 := enters_of Try.func54 (by kernel_rfl) rfl
theorem ent55 : Ents Try.prog 55 := enters_of Try.func55 (by kernel_rfl) rfl
theorem ent56 : Ents Try.prog 56 := enters_of Try.func56 (by kernel_rfl) rfl
theorem ent57 : Ents Try.prog 57 := enters_of Try.func57 (by kernel_rfl) rfl
theorem ent58 : Ents Try.prog 58 := enters_of Try.func58 (by kernel_rfl) rfl
theorem ent59 : Ents Try.prog 59 := enters_of Try.func59 (by kernel_rfl) rfl
theorem ent60 : Ents Try.prog 60 := enters_of Try.func60 (by kernel_rfl) rfl
theorem ent61 : Ents Try.prog 61 := enters_of Try.func61 (by kernel_rfl) rfl
theorem ent62 : Ents Try.prog 62 := enters_of Try.func62 (by kernel_rfl) rfl
theorem ent63 : Ents Try.prog 63 := enters_of Try.func63 (by kernel_rfl) rfl
theorem ent64 : Ents Try.prog 64 := enters_of Try.func64 (by kernel_rfl) rfl
theorem ent65 : Ents Try.prog 65 := enters_of Try.func65 (by kernel_rfl) rfl
theorem ent66 : Ents Try.prog 66 := enters_of Try.func66 (by kernel_rfl) rfl
theorem ent67 : Ents Try.prog 67 := enters_of Try.func67 (by kernel_rfl) rfl
theorem ent68 : Ents Try.prog 68 := enters_of Try.func68 (by kernel_rfl) rfl
theorem ent69 : Ents Try.prog 69 := enters_of Try.func69 (by kernel_rfl) rfl
theorem ent70 : Ents Try.prog 70 := enters_of Try.func70 (by kernel_rfl) rfl
theorem ent71 : Ents Try.prog 71 := enters_of Try.func71 (by kernel_rfl) rfl
theorem ent72 : Ents Try.prog 72 := enters_of Try.func72 (by kernel_rfl) rfl
theorem ent73 : Ents Try.prog 73 := enters_of Try.func73 (by kernel_rfl) rfl
theorem ent74 : Ents Try.prog 74 := enters_of Try.func74 (by kernel_rfl) rfl
theorem ent75 : Ents Try.prog 75 := enters_of Try.func75 (by kernel_rfl) rfl
theorem ent76 : Ents Try.prog 76 := enters_of Try.func76 (by kernel_rfl) rfl
theorem ent77 : Ents Try.prog 77 := enters_of Try.func77 (by kernel_rfl) rfl
theorem ent78 : Ents Try.prog 78 := enters_of Try.func78 (by kernel_rfl) rfl
theorem ent79 : Ents Try.prog 79 := enters_of Try.func79 (by kernel_rfl) rfl
theorem ent80 : Ents Try.prog 80 := enters_of Try.func80 (by kernel_rfl) rfl
theorem ent81 : Ents Try.prog 81 := enters_of Try.func81 (by kernel_rfl) rfl
theorem ent82 : Ents Try.prog 82 := enters_of Try.func82 (by kernel_rfl) rfl
theorem ent83 : Ents Try.prog 83 := enters_of Try.func83 (by kernel_rfl) rfl
theorem ent84 : Ents Try.prog 84 := enters_of Try.func84 (by kernel_rfl) rfl
theorem ent85 : Ents Try.prog 85 := enters_of Try.func85 (by kernel_rfl) rfl
theorem ent86 : Ents Try.prog 86 := enters_of Try.func86 (by kernel_rfl) rfl
theorem ent87 : Ents Try.prog 87 := enters_of Try.func87 (by kernel_rfl) rfl
theorem ent88 : Ents Try.prog 88 := enters_of Try.func88 (by kernel_rfl) rfl
theorem ent89 : Ents Try.prog 89 := enters_of Try.func89 (by kernel_rfl) rfl
theorem ent90 : Ents Try.prog 90 := enters_of Try.func90 (by kernel_rfl) rfl
theorem ent91 : Ents Try.prog 91 := enters_of Try.func91 (by kernel_rfl) rfl
theorem ent92 : Ents Try.prog 92 := enters_of Try.func92 (by kernel_rfl) rfl
theorem ent94 : Ents Try.prog 94 := enters_of Try.func94 (by kernel_rfl) rfl
theorem ent95 : Ents Try.prog 95 := enters_of Try.func95 (by kernel_rfl) rfl
theorem ent97 : Ents Try.prog 97 := enters_of Try.func97 (by kernel_rfl) rfl
theorem ent98 : Ents Try.prog 98 := enters_of Try.func98 (by kernel_rfl) rfl
theorem ent99 : Ents Try.prog 99 := enters_of Try.func99 (by kernel_rfl) rfl
theorem ent100 : Ents Try.prog 100 := enters_of Try.func100 (by kernel_rfl) rfl
theorem ent101 : Ents Try.prog 101 := enters_of Try.func101 (by kernel_rfl) rfl
theorem ent102 : Ents Try.prog 102 := enters_of Try.func102 (by kernel_rfl) rfl
theorem ent103 : Ents Try.prog 103 := enters_of Try.func103 (by kernel_rfl) rfl
theorem ent104 : Ents Try.prog 104 := enters_of Try.func104 (by kernel_rfl) rfl
theorem ent105 : Ents Try.prog 105 := enters_of Try.func105 (by kernel_rfl) rfl
theorem ent106 : Ents Try.prog 106 := enters_of Try.func106 (by kernel_rfl) rfl
theorem ent108 : Ents Try.prog 108 := enters_of Try.func108 (by kernel_rfl) rfl
theorem ent109 : Ents Try.prog 109 := enters_of Try.func109 (by kernel_rfl) rfl
theorem ent111 : Ents Try.prog 111 := enters_of Try.func111 (by kernel_rfl) rfl
end Go.Proofs.Ytoghnhbjdnjghaa
