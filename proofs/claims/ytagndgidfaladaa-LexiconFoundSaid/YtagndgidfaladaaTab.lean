/-
  The types and the functions of this translation, as the engine's tables (printed by a program).
-/
import Derived.Test.YtagndgidfaladaaEngCoreB
import Derived.Test.YtagndgidfaladaaProg
import Derived.KernelRfl
namespace Go.Proofs.Ytagndgidfaladaa
theorem ty1 : Eng.TIok Try.prog 1 ⟨1, .nilFunc, .one⟩ := ⟨by kernel_rfl, by kernel_rfl, by kernel_rfl⟩
theorem ty3 : Eng.TIok Try.prog 3 ⟨1, .int .i64 0, .int .i64⟩ := ⟨by kernel_rfl, by kernel_rfl, by kernel_rfl⟩
theorem ty4 : Eng.TIok Try.prog 4 ⟨1, .bool false, .one⟩ := ⟨by kernel_rfl, by kernel_rfl, by kernel_rfl⟩
theorem ty2 : Eng.TIok Try.prog 2 ⟨1, .int .i64 0, .int .i64⟩ := ⟨by kernel_rfl, by kernel_rfl, by kernel_rfl⟩
theorem ty8 : Eng.TIok Try.prog 8 ⟨4, .agg #[.int .i64 0, .int .i64 0, .bool false, .int .u8 0], .struct [0, 1, 2, 3] [1, 1, 1, 1]⟩ := ⟨by kernel_rfl, by kernel_rfl, by kernel_rfl⟩
theorem ty32 : Eng.TIok Try.prog 32 ⟨1, .slice none 0 0, .slice 38 2 16⟩ := ⟨by kernel_rfl, by kernel_rfl, by kernel_rfl⟩
theorem ty9 : Eng.TIok Try.prog 9 ⟨1, .string ⟨#[]⟩, .str⟩ := ⟨by kernel_rfl, by kernel_rfl, by kernel_rfl⟩
theorem ty44 : Eng.TIok Try.prog 44 ⟨1, .slice none 0 0, .slice 3 1 8⟩ := ⟨by kernel_rfl, by kernel_rfl, by kernel_rfl⟩
theorem ty5 : Eng.TIok Try.prog 5 ⟨1, .int .u8 0, .int .u8⟩ := ⟨by kernel_rfl, by kernel_rfl, by kernel_rfl⟩
theorem ty7 : Eng.TIok Try.prog 7 ⟨4, .agg #[.int .i64 0, .int .i64 0, .bool false, .int .u8 0], .struct [0, 1, 2, 3] [1, 1, 1, 1]⟩ := ⟨by kernel_rfl, by kernel_rfl, by kernel_rfl⟩
theorem ty38 : Eng.TIok Try.prog 38 ⟨2, .agg #[.int .i64 0, .int .i64 0], .struct [0, 1] [1, 1]⟩ := ⟨by kernel_rfl, by kernel_rfl, by kernel_rfl⟩
theorem ty6 : Eng.TIok Try.prog 6 ⟨1, .int .u8 0, .int .u8⟩ := ⟨by kernel_rfl, by kernel_rfl, by kernel_rfl⟩
theorem ty29 : Eng.TIok Try.prog 29 ⟨1, .int .i64 0, .int .i64⟩ := ⟨by kernel_rfl, by kernel_rfl, by kernel_rfl⟩
theorem ty28 : Eng.TIok Try.prog 28 ⟨1, .pointer none, .one⟩ := ⟨by kernel_rfl, by kernel_rfl, by kernel_rfl⟩
theorem ty24 : Eng.TIok Try.prog 24 ⟨4, .agg #[.int .i64 0, .int .i64 0, .int .i64 0, .int .i64 0], .struct [0, 1, 2, 3] [1, 1, 1, 1]⟩ := ⟨by kernel_rfl, by kernel_rfl, by kernel_rfl⟩
theorem ty22 : Eng.TIok Try.prog 22 ⟨1, .slice none 0 0, .slice 9 1 16⟩ := ⟨by kernel_rfl, by kernel_rfl, by kernel_rfl⟩
theorem ty20 : Eng.TIok Try.prog 20 ⟨1, .nilIface, .one⟩ := ⟨by kernel_rfl, by kernel_rfl, by kernel_rfl⟩
theorem ty66 : Eng.TIok Try.prog 66 ⟨1, .nilFunc, .one⟩ := ⟨by kernel_rfl, by kernel_rfl, by kernel_rfl⟩
theorem ty11 : Eng.TIok Try.prog 11 ⟨1, .string ⟨#[]⟩, .str⟩ := ⟨by kernel_rfl, by kernel_rfl, by kernel_rfl⟩
theorem ty56 : Eng.TIok Try.prog 56 ⟨1, .pointer none, .one⟩ := ⟨by kernel_rfl, by kernel_rfl, by kernel_rfl⟩
theorem ty10 : Eng.TIok Try.prog 10 ⟨1, .string ⟨#[]⟩, .str⟩ := ⟨by kernel_rfl, by kernel_rfl, by kernel_rfl⟩
theorem ty16 : Eng.TIok Try.prog 16 ⟨1, .pointer none, .one⟩ := ⟨by kernel_rfl, by kernel_rfl, by kernel_rfl⟩
theorem ty12 : Eng.TIok Try.prog 12 ⟨1, .int .u64 0, .int .u64⟩ := ⟨by kernel_rfl, by kernel_rfl, by kernel_rfl⟩
theorem ty14 : Eng.TIok Try.prog 14 ⟨2, .agg #[.string ⟨#[]⟩, .int .u64 0], .struct [0, 1] [1, 1]⟩ := ⟨by kernel_rfl, by kernel_rfl, by kernel_rfl⟩
theorem ty94 : Eng.TIok Try.prog 94 ⟨1, .int .u64 0, .int .u64⟩ := ⟨by kernel_rfl, by kernel_rfl, by kernel_rfl⟩
theorem ty13 : Eng.TIok Try.prog 13 ⟨2, .agg #[.string ⟨#[]⟩, .int .u64 0], .struct [0, 1] [1, 1]⟩ := ⟨by kernel_rfl, by kernel_rfl, by kernel_rfl⟩
theorem ty118 : Eng.TIok Try.prog 118 ⟨1, .pointer none, .one⟩ := ⟨by kernel_rfl, by kernel_rfl, by kernel_rfl⟩
theorem ty15 : Eng.TIok Try.prog 15 ⟨1, .pointer none, .one⟩ := ⟨by kernel_rfl, by kernel_rfl, by kernel_rfl⟩
theorem ty17 : Eng.TIok Try.prog 17 ⟨1, .pointer none, .one⟩ := ⟨by kernel_rfl, by kernel_rfl, by kernel_rfl⟩
theorem ty98 : Eng.TIok Try.prog 98 ⟨1, .int .i64 0, .int .i64⟩ := ⟨by kernel_rfl, by kernel_rfl, by kernel_rfl⟩
theorem ty114 : Eng.TIok Try.prog 114 ⟨1, .int .u64 0, .int .u64⟩ := ⟨by kernel_rfl, by kernel_rfl, by kernel_rfl⟩
theorem ty34 : Eng.TIok Try.prog 34 ⟨1, .nilFunc, .one⟩ := ⟨by kernel_rfl, by kernel_rfl, by kernel_rfl⟩
theorem ty107 : Eng.TIok Try.prog 107 ⟨1, .int .u64 0, .int .u64⟩ := ⟨by kernel_rfl, by kernel_rfl, by kernel_rfl⟩
theorem ty63 : Eng.TIok Try.prog 63 ⟨2, .agg #[.int .i64 0, .map none], .struct [0, 1] [1, 1]⟩ := ⟨by kernel_rfl, by kernel_rfl, by kernel_rfl⟩
theorem ty72 : Eng.TIok Try.prog 72 ⟨1, .nilFunc, .one⟩ := ⟨by kernel_rfl, by kernel_rfl, by kernel_rfl⟩
theorem ty69 : Eng.TIok Try.prog 69 ⟨1, .nilFunc, .one⟩ := ⟨by kernel_rfl, by kernel_rfl, by kernel_rfl⟩
theorem ty87 : Eng.TIok Try.prog 87 ⟨3, .agg #[.slice none 0 0, .slice none 0 0, .slice none 0 0], .arr 3 44 1⟩ := ⟨by kernel_rfl, by kernel_rfl, by kernel_rfl⟩
theorem ty51 : Eng.TIok Try.prog 51 ⟨1, .nilFunc, .one⟩ := ⟨by kernel_rfl, by kernel_rfl, by kernel_rfl⟩
theorem ty79 : Eng.TIok Try.prog 79 ⟨1, .nilFunc, .one⟩ := ⟨by kernel_rfl, by kernel_rfl, by kernel_rfl⟩
theorem ty111 : Eng.TIok Try.prog 111 ⟨1, .nilFunc, .one⟩ := ⟨by kernel_rfl, by kernel_rfl, by kernel_rfl⟩
theorem ty126 : Eng.TIok Try.prog 126 ⟨1, .nilFunc, .one⟩ := ⟨by kernel_rfl, by kernel_rfl, by kernel_rfl⟩
theorem ty49 : Eng.TIok Try.prog 49 ⟨1, .nilFunc, .one⟩ := ⟨by kernel_rfl, by kernel_rfl, by kernel_rfl⟩
theorem ty71 : Eng.TIok Try.prog 71 ⟨1, .nilFunc, .one⟩ := ⟨by kernel_rfl, by kernel_rfl, by kernel_rfl⟩
theorem ty19 : Eng.TIok Try.prog 19 ⟨1, .agg #[.pointer none], .struct [0] [1]⟩ := ⟨by kernel_rfl, by kernel_rfl, by kernel_rfl⟩
theorem ty77 : Eng.TIok Try.prog 77 ⟨1, .nilFunc, .one⟩ := ⟨by kernel_rfl, by kernel_rfl, by kernel_rfl⟩
theorem ty81 : Eng.TIok Try.prog 81 ⟨1, .nilFunc, .one⟩ := ⟨by kernel_rfl, by kernel_rfl, by kernel_rfl⟩
theorem ty50 : Eng.TIok Try.prog 50 ⟨1, .nilFunc, .one⟩ := ⟨by kernel_rfl, by kernel_rfl, by kernel_rfl⟩
theorem ty31 : Eng.TIok Try.prog 31 ⟨1, .nilFunc, .one⟩ := ⟨by kernel_rfl, by kernel_rfl, by kernel_rfl⟩
theorem ty36 : Eng.TIok Try.prog 36 ⟨1, .nilFunc, .one⟩ := ⟨by kernel_rfl, by kernel_rfl, by kernel_rfl⟩
theorem ty53 : Eng.TIok Try.prog 53 ⟨1, .nilFunc, .one⟩ := ⟨by kernel_rfl, by kernel_rfl, by kernel_rfl⟩
theorem ty61 : Eng.TIok Try.prog 61 ⟨1, .map none, .map 5 56⟩ := ⟨by kernel_rfl, by kernel_rfl, by kernel_rfl⟩
theorem ty25 : Eng.TIok Try.prog 25 ⟨1, .nilFunc, .one⟩ := ⟨by kernel_rfl, by kernel_rfl, by kernel_rfl⟩
theorem ty27 : Eng.TIok Try.prog 27 ⟨1, .nilFunc, .one⟩ := ⟨by kernel_rfl, by kernel_rfl, by kernel_rfl⟩
theorem ty70 : Eng.TIok Try.prog 70 ⟨1, .nilFunc, .one⟩ := ⟨by kernel_rfl, by kernel_rfl, by kernel_rfl⟩
theorem ty75 : Eng.TIok Try.prog 75 ⟨1, .nilFunc, .one⟩ := ⟨by kernel_rfl, by kernel_rfl, by kernel_rfl⟩
theorem ty89 : Eng.TIok Try.prog 89 ⟨1, .pointer none, .one⟩ := ⟨by kernel_rfl, by kernel_rfl, by kernel_rfl⟩
theorem ty105 : Eng.TIok Try.prog 105 ⟨1, .int .u32 0, .int .u32⟩ := ⟨by kernel_rfl, by kernel_rfl, by kernel_rfl⟩
theorem ty23 : Eng.TIok Try.prog 23 ⟨4, .agg #[.int .i64 0, .int .i64 0, .int .i64 0, .int .i64 0], .struct [0, 1, 2, 3] [1, 1, 1, 1]⟩ := ⟨by kernel_rfl, by kernel_rfl, by kernel_rfl⟩
theorem ty40 : Eng.TIok Try.prog 40 ⟨1, .nilFunc, .one⟩ := ⟨by kernel_rfl, by kernel_rfl, by kernel_rfl⟩
theorem ty55 : Eng.TIok Try.prog 55 ⟨1, .nilFunc, .one⟩ := ⟨by kernel_rfl, by kernel_rfl, by kernel_rfl⟩
theorem ty59 : Eng.TIok Try.prog 59 ⟨2, .agg #[.slice none 0 0, .pointer none], .struct [0, 1] [1, 1]⟩ := ⟨by kernel_rfl, by kernel_rfl, by kernel_rfl⟩
theorem ty65 : Eng.TIok Try.prog 65 ⟨1, .nilFunc, .one⟩ := ⟨by kernel_rfl, by kernel_rfl, by kernel_rfl⟩
theorem ty76 : Eng.TIok Try.prog 76 ⟨1, .nilFunc, .one⟩ := ⟨by kernel_rfl, by kernel_rfl, by kernel_rfl⟩
theorem ty108 : Eng.TIok Try.prog 108 ⟨1, .nilFunc, .one⟩ := ⟨by kernel_rfl, by kernel_rfl, by kernel_rfl⟩
theorem ty122 : Eng.TIok Try.prog 122 ⟨1, .pointer none, .one⟩ := ⟨by kernel_rfl, by kernel_rfl, by kernel_rfl⟩
theorem ty18 : Eng.TIok Try.prog 18 ⟨1, .agg #[.pointer none], .struct [0] [1]⟩ := ⟨by kernel_rfl, by kernel_rfl, by kernel_rfl⟩
theorem ty46 : Eng.TIok Try.prog 46 ⟨1, .map none, .map 9 3⟩ := ⟨by kernel_rfl, by kernel_rfl, by kernel_rfl⟩
theorem ty48 : Eng.TIok Try.prog 48 ⟨1, .nilFunc, .one⟩ := ⟨by kernel_rfl, by kernel_rfl, by kernel_rfl⟩
theorem ty92 : Eng.TIok Try.prog 92 ⟨1, .nilFunc, .one⟩ := ⟨by kernel_rfl, by kernel_rfl, by kernel_rfl⟩
theorem ty97 : Eng.TIok Try.prog 97 ⟨1, .nilFunc, .one⟩ := ⟨by kernel_rfl, by kernel_rfl, by kernel_rfl⟩
theorem ty26 : Eng.TIok Try.prog 26 ⟨1, .nilFunc, .one⟩ := ⟨by kernel_rfl, by kernel_rfl, by kernel_rfl⟩
theorem ty39 : Eng.TIok Try.prog 39 ⟨1, .nilFunc, .one⟩ := ⟨by kernel_rfl, by kernel_rfl, by kernel_rfl⟩
theorem ty42 : Eng.TIok Try.prog 42 ⟨1, .nilFunc, .one⟩ := ⟨by kernel_rfl, by kernel_rfl, by kernel_rfl⟩
theorem ty45 : Eng.TIok Try.prog 45 ⟨1, .nilFunc, .one⟩ := ⟨by kernel_rfl, by kernel_rfl, by kernel_rfl⟩
theorem ty54 : Eng.TIok Try.prog 54 ⟨4, .agg #[.int .i64 0, .int .i64 0, .int .i64 0, .int .i64 0], .arr 4 3 1⟩ := ⟨by kernel_rfl, by kernel_rfl, by kernel_rfl⟩
theorem ty57 : Eng.TIok Try.prog 57 ⟨1, .nilFunc, .one⟩ := ⟨by kernel_rfl, by kernel_rfl, by kernel_rfl⟩
theorem ty68 : Eng.TIok Try.prog 68 ⟨1, .nilFunc, .one⟩ := ⟨by kernel_rfl, by kernel_rfl, by kernel_rfl⟩
theorem ty80 : Eng.TIok Try.prog 80 ⟨1, .nilFunc, .one⟩ := ⟨by kernel_rfl, by kernel_rfl, by kernel_rfl⟩
theorem ty96 : Eng.TIok Try.prog 96 ⟨1, .nilFunc, .one⟩ := ⟨by kernel_rfl, by kernel_rfl, by kernel_rfl⟩
theorem ty124 : Eng.TIok Try.prog 124 ⟨1, .nilFunc, .one⟩ := ⟨by kernel_rfl, by kernel_rfl, by kernel_rfl⟩
theorem ty52 : Eng.TIok Try.prog 52 ⟨1, .nilFunc, .one⟩ := ⟨by kernel_rfl, by kernel_rfl, by kernel_rfl⟩
theorem ty73 : Eng.TIok Try.prog 73 ⟨1, .nilFunc, .one⟩ := ⟨by kernel_rfl, by kernel_rfl, by kernel_rfl⟩
theorem ty78 : Eng.TIok Try.prog 78 ⟨1, .nilFunc, .one⟩ := ⟨by kernel_rfl, by kernel_rfl, by kernel_rfl⟩
theorem ty95 : Eng.TIok Try.prog 95 ⟨1, .nilFunc, .one⟩ := ⟨by kernel_rfl, by kernel_rfl, by kernel_rfl⟩
theorem ty110 : Eng.TIok Try.prog 110 ⟨1, .nilFunc, .one⟩ := ⟨by kernel_rfl, by kernel_rfl, by kernel_rfl⟩
theorem ty67 : Eng.TIok Try.prog 67 ⟨1, .nilFunc, .one⟩ := ⟨by kernel_rfl, by kernel_rfl, by kernel_rfl⟩
theorem ty74 : Eng.TIok Try.prog 74 ⟨1, .nilFunc, .one⟩ := ⟨by kernel_rfl, by kernel_rfl, by kernel_rfl⟩
theorem ty82 : Eng.TIok Try.prog 82 ⟨1, .nilFunc, .one⟩ := ⟨by kernel_rfl, by kernel_rfl, by kernel_rfl⟩
theorem ty90 : Eng.TIok Try.prog 90 ⟨1, .nilFunc, .one⟩ := ⟨by kernel_rfl, by kernel_rfl, by kernel_rfl⟩
theorem ty91 : Eng.TIok Try.prog 91 ⟨1, .nilFunc, .one⟩ := ⟨by kernel_rfl, by kernel_rfl, by kernel_rfl⟩
theorem ty93 : Eng.TIok Try.prog 93 ⟨1, .nilFunc, .one⟩ := ⟨by kernel_rfl, by kernel_rfl, by kernel_rfl⟩
theorem ty100 : Eng.TIok Try.prog 100 ⟨1, .nilFunc, .one⟩ := ⟨by kernel_rfl, by kernel_rfl, by kernel_rfl⟩
theorem ty21 : Eng.TIok Try.prog 21 ⟨1, .int .i32 0, .int .i32⟩ := ⟨by kernel_rfl, by kernel_rfl, by kernel_rfl⟩
theorem ty43 : Eng.TIok Try.prog 43 ⟨1, .nilFunc, .one⟩ := ⟨by kernel_rfl, by kernel_rfl, by kernel_rfl⟩
theorem ty83 : Eng.TIok Try.prog 83 ⟨1, .nilFunc, .one⟩ := ⟨by kernel_rfl, by kernel_rfl, by kernel_rfl⟩
theorem ty85 : Eng.TIok Try.prog 85 ⟨1, .nilFunc, .one⟩ := ⟨by kernel_rfl, by kernel_rfl, by kernel_rfl⟩
theorem ty109 : Eng.TIok Try.prog 109 ⟨1, .nilFunc, .one⟩ := ⟨by kernel_rfl, by kernel_rfl, by kernel_rfl⟩
theorem ty125 : Eng.TIok Try.prog 125 ⟨1, .nilFunc, .one⟩ := ⟨by kernel_rfl, by kernel_rfl, by kernel_rfl⟩
theorem ty132 : Eng.TIok Try.prog 132 ⟨1, .nilFunc, .one⟩ := ⟨by kernel_rfl, by kernel_rfl, by kernel_rfl⟩
theorem ty137 : Eng.TIok Try.prog 137 ⟨1, .int .i32 0, .int .i32⟩ := ⟨by kernel_rfl, by kernel_rfl, by kernel_rfl⟩
theorem ty37 : Eng.TIok Try.prog 37 ⟨2, .agg #[.int .i64 0, .int .i64 0], .struct [0, 1] [1, 1]⟩ := ⟨by kernel_rfl, by kernel_rfl, by kernel_rfl⟩
theorem ty62 : Eng.TIok Try.prog 62 ⟨2, .agg #[.int .i64 0, .map none], .struct [0, 1] [1, 1]⟩ := ⟨by kernel_rfl, by kernel_rfl, by kernel_rfl⟩
theorem ty86 : Eng.TIok Try.prog 86 ⟨1, .nilFunc, .one⟩ := ⟨by kernel_rfl, by kernel_rfl, by kernel_rfl⟩
theorem ty101 : Eng.TIok Try.prog 101 ⟨1, .nilFunc, .one⟩ := ⟨by kernel_rfl, by kernel_rfl, by kernel_rfl⟩
theorem ty103 : Eng.TIok Try.prog 103 ⟨1, .nilFunc, .one⟩ := ⟨by kernel_rfl, by kernel_rfl, by kernel_rfl⟩
theorem ty113 : Eng.TIok Try.prog 113 ⟨1, .nilFunc, .one⟩ := ⟨by kernel_rfl, by kernel_rfl, by kernel_rfl⟩
theorem ty115 : Eng.TIok Try.prog 115 ⟨1, .nilFunc, .one⟩ := ⟨by kernel_rfl, by kernel_rfl, by kernel_rfl⟩
theorem ty116 : Eng.TIok Try.prog 116 ⟨1, .nilFunc, .one⟩ := ⟨by kernel_rfl, by kernel_rfl, by kernel_rfl⟩
theorem ty119 : Eng.TIok Try.prog 119 ⟨1, .nilFunc, .one⟩ := ⟨by kernel_rfl, by kernel_rfl, by kernel_rfl⟩
theorem ty120 : Eng.TIok Try.prog 120 ⟨1, .nilFunc, .one⟩ := ⟨by kernel_rfl, by kernel_rfl, by kernel_rfl⟩
theorem ty58 : Eng.TIok Try.prog 58 ⟨2, .agg #[.slice none 0 0, .pointer none], .struct [0, 1] [1, 1]⟩ := ⟨by kernel_rfl, by kernel_rfl, by kernel_rfl⟩
theorem ty88 : Eng.TIok Try.prog 88 ⟨1, .nilFunc, .one⟩ := ⟨by kernel_rfl, by kernel_rfl, by kernel_rfl⟩
theorem ty102 : Eng.TIok Try.prog 102 ⟨1, .nilFunc, .one⟩ := ⟨by kernel_rfl, by kernel_rfl, by kernel_rfl⟩
theorem ty117 : Eng.TIok Try.prog 117 ⟨1, .nilFunc, .one⟩ := ⟨by kernel_rfl, by kernel_rfl, by kernel_rfl⟩
theorem ty121 : Eng.TIok Try.prog 121 ⟨1, .nilFunc, .one⟩ := ⟨by kernel_rfl, by kernel_rfl, by kernel_rfl⟩
theorem ty138 : Eng.TIok Try.prog 138 ⟨1, .int .i32 0, .int .i32⟩ := ⟨by kernel_rfl, by kernel_rfl, by kernel_rfl⟩
theorem ty139 : Eng.TIok Try.prog 139 ⟨11, .agg #[.int .u64 0, .int .u64 0, .int .u32 0, .int .u8 0, .int .u8 0, .int .u8 0, .int .u8 0, .nilFunc, .pointer none, .int .i32 0, .int .i32 0], .struct [0, 1, 2, 3, 4, 5, 6, 7, 8, 9, 10] [1, 1, 1, 1, 1, 1, 1, 1, 1, 1, 1]⟩ := ⟨by kernel_rfl, by kernel_rfl, by kernel_rfl⟩
theorem ty140 : Eng.TIok Try.prog 140 ⟨11, .agg #[.int .u64 0, .int .u64 0, .int .u32 0, .int .u8 0, .int .u8 0, .int .u8 0, .int .u8 0, .nilFunc, .pointer none, .int .i32 0, .int .i32 0], .struct [0, 1, 2, 3, 4, 5, 6, 7, 8, 9, 10] [1, 1, 1, 1, 1, 1, 1, 1, 1, 1, 1]⟩ := ⟨by kernel_rfl, by kernel_rfl, by kernel_rfl⟩
theorem ty64 : Eng.TIok Try.prog 64 ⟨1, .nilFunc, .one⟩ := ⟨by kernel_rfl, by kernel_rfl, by kernel_rfl⟩
theorem ty104 : Eng.TIok Try.prog 104 ⟨1, .nilFunc, .one⟩ := ⟨by kernel_rfl, by kernel_rfl, by kernel_rfl⟩
theorem ty134 : Eng.TIok Try.prog 134 ⟨1, .int .u8 0, .int .u8⟩ := ⟨by kernel_rfl, by kernel_rfl, by kernel_rfl⟩
theorem ty106 : Eng.TIok Try.prog 106 ⟨1, .nilFunc, .one⟩ := ⟨by kernel_rfl, by kernel_rfl, by kernel_rfl⟩
theorem ty127 : Eng.TIok Try.prog 127 ⟨4, .agg #[.pointer none, .pointer none, .pointer none, .string ⟨#[]⟩], .struct [0, 1, 2, 3] [1, 1, 1, 1]⟩ := ⟨by kernel_rfl, by kernel_rfl, by kernel_rfl⟩
theorem ty128 : Eng.TIok Try.prog 128 ⟨4, .agg #[.pointer none, .pointer none, .pointer none, .string ⟨#[]⟩], .struct [0, 1, 2, 3] [1, 1, 1, 1]⟩ := ⟨by kernel_rfl, by kernel_rfl, by kernel_rfl⟩
theorem ty133 : Eng.TIok Try.prog 133 ⟨1, .int .u8 0, .int .u8⟩ := ⟨by kernel_rfl, by kernel_rfl, by kernel_rfl⟩
theorem ty112 : Eng.TIok Try.prog 112 ⟨1, .nilFunc, .one⟩ := ⟨by kernel_rfl, by kernel_rfl, by kernel_rfl⟩
theorem ty135 : Eng.TIok Try.prog 135 ⟨1, .nilFunc, .one⟩ := ⟨by kernel_rfl, by kernel_rfl, by kernel_rfl⟩
theorem ty136 : Eng.TIok Try.prog 136 ⟨1, .pointer none, .one⟩ := ⟨by kernel_rfl, by kernel_rfl, by kernel_rfl⟩
def tab : List (Nat × Eng.TI) := [(1, ⟨1, .nilFunc, .one⟩),
  (3, ⟨1, .int .i64 0, .int .i64⟩),
  (4, ⟨1, .bool false, .one⟩),
  (2, ⟨1, .int .i64 0, .int .i64⟩),
  (8, ⟨4, .agg #[.int .i64 0, .int .i64 0, .bool false, .int .u8 0], .struct [0, 1, 2, 3] [1, 1, 1, 1]⟩),
  (32, ⟨1, .slice none 0 0, .slice 38 2 16⟩),
  (9, ⟨1, .string ⟨#[]⟩, .str⟩),
  (44, ⟨1, .slice none 0 0, .slice 3 1 8⟩),
  (5, ⟨1, .int .u8 0, .int .u8⟩),
  (7, ⟨4, .agg #[.int .i64 0, .int .i64 0, .bool false, .int .u8 0], .struct [0, 1, 2, 3] [1, 1, 1, 1]⟩),
  (38, ⟨2, .agg #[.int .i64 0, .int .i64 0], .struct [0, 1] [1, 1]⟩),
  (6, ⟨1, .int .u8 0, .int .u8⟩),
  (29, ⟨1, .int .i64 0, .int .i64⟩),
  (28, ⟨1, .pointer none, .one⟩),
  (24, ⟨4, .agg #[.int .i64 0, .int .i64 0, .int .i64 0, .int .i64 0], .struct [0, 1, 2, 3] [1, 1, 1, 1]⟩),
  (22, ⟨1, .slice none 0 0, .slice 9 1 16⟩),
  (20, ⟨1, .nilIface, .one⟩),
  (66, ⟨1, .nilFunc, .one⟩),
  (11, ⟨1, .string ⟨#[]⟩, .str⟩),
  (56, ⟨1, .pointer none, .one⟩),
  (10, ⟨1, .string ⟨#[]⟩, .str⟩),
  (16, ⟨1, .pointer none, .one⟩),
  (12, ⟨1, .int .u64 0, .int .u64⟩),
  (14, ⟨2, .agg #[.string ⟨#[]⟩, .int .u64 0], .struct [0, 1] [1, 1]⟩),
  (94, ⟨1, .int .u64 0, .int .u64⟩),
  (13, ⟨2, .agg #[.string ⟨#[]⟩, .int .u64 0], .struct [0, 1] [1, 1]⟩),
  (118, ⟨1, .pointer none, .one⟩),
  (15, ⟨1, .pointer none, .one⟩),
  (17, ⟨1, .pointer none, .one⟩),
  (98, ⟨1, .int .i64 0, .int .i64⟩),
  (114, ⟨1, .int .u64 0, .int .u64⟩),
  (34, ⟨1, .nilFunc, .one⟩),
  (107, ⟨1, .int .u64 0, .int .u64⟩),
  (63, ⟨2, .agg #[.int .i64 0, .map none], .struct [0, 1] [1, 1]⟩),
  (72, ⟨1, .nilFunc, .one⟩),
  (69, ⟨1, .nilFunc, .one⟩),
  (87, ⟨3, .agg #[.slice none 0 0, .slice none 0 0, .slice none 0 0], .arr 3 44 1⟩),
  (51, ⟨1, .nilFunc, .one⟩),
  (79, ⟨1, .nilFunc, .one⟩),
  (111, ⟨1, .nilFunc, .one⟩),
  (126, ⟨1, .nilFunc, .one⟩),
  (49, ⟨1, .nilFunc, .one⟩),
  (71, ⟨1, .nilFunc, .one⟩),
  (19, ⟨1, .agg #[.pointer none], .struct [0] [1]⟩),
  (77, ⟨1, .nilFunc, .one⟩),
  (81, ⟨1, .nilFunc, .one⟩),
  (50, ⟨1, .nilFunc, .one⟩),
  (31, ⟨1, .nilFunc, .one⟩),
  (36, ⟨1, .nilFunc, .one⟩),
  (53, ⟨1, .nilFunc, .one⟩),
  (61, ⟨1, .map none, .map 5 56⟩),
  (25, ⟨1, .nilFunc, .one⟩),
  (27, ⟨1, .nilFunc, .one⟩),
  (70, ⟨1, .nilFunc, .one⟩),
  (75, ⟨1, .nilFunc, .one⟩),
  (89, ⟨1, .pointer none, .one⟩),
  (105, ⟨1, .int .u32 0, .int .u32⟩),
  (23, ⟨4, .agg #[.int .i64 0, .int .i64 0, .int .i64 0, .int .i64 0], .struct [0, 1, 2, 3] [1, 1, 1, 1]⟩),
  (40, ⟨1, .nilFunc, .one⟩),
  (55, ⟨1, .nilFunc, .one⟩),
  (59, ⟨2, .agg #[.slice none 0 0, .pointer none], .struct [0, 1] [1, 1]⟩),
  (65, ⟨1, .nilFunc, .one⟩),
  (76, ⟨1, .nilFunc, .one⟩),
  (108, ⟨1, .nilFunc, .one⟩),
  (122, ⟨1, .pointer none, .one⟩),
  (18, ⟨1, .agg #[.pointer none], .struct [0] [1]⟩),
  (46, ⟨1, .map none, .map 9 3⟩),
  (48, ⟨1, .nilFunc, .one⟩),
  (92, ⟨1, .nilFunc, .one⟩),
  (97, ⟨1, .nilFunc, .one⟩),
  (26, ⟨1, .nilFunc, .one⟩),
  (39, ⟨1, .nilFunc, .one⟩),
  (42, ⟨1, .nilFunc, .one⟩),
  (45, ⟨1, .nilFunc, .one⟩),
  (54, ⟨4, .agg #[.int .i64 0, .int .i64 0, .int .i64 0, .int .i64 0], .arr 4 3 1⟩),
  (57, ⟨1, .nilFunc, .one⟩),
  (68, ⟨1, .nilFunc, .one⟩),
  (80, ⟨1, .nilFunc, .one⟩),
  (96, ⟨1, .nilFunc, .one⟩),
  (124, ⟨1, .nilFunc, .one⟩),
  (52, ⟨1, .nilFunc, .one⟩),
  (73, ⟨1, .nilFunc, .one⟩),
  (78, ⟨1, .nilFunc, .one⟩),
  (95, ⟨1, .nilFunc, .one⟩),
  (110, ⟨1, .nilFunc, .one⟩),
  (67, ⟨1, .nilFunc, .one⟩),
  (74, ⟨1, .nilFunc, .one⟩),
  (82, ⟨1, .nilFunc, .one⟩),
  (90, ⟨1, .nilFunc, .one⟩),
  (91, ⟨1, .nilFunc, .one⟩),
  (93, ⟨1, .nilFunc, .one⟩),
  (100, ⟨1, .nilFunc, .one⟩),
  (21, ⟨1, .int .i32 0, .int .i32⟩),
  (43, ⟨1, .nilFunc, .one⟩),
  (83, ⟨1, .nilFunc, .one⟩),
  (85, ⟨1, .nilFunc, .one⟩),
  (109, ⟨1, .nilFunc, .one⟩),
  (125, ⟨1, .nilFunc, .one⟩),
  (132, ⟨1, .nilFunc, .one⟩),
  (137, ⟨1, .int .i32 0, .int .i32⟩),
  (37, ⟨2, .agg #[.int .i64 0, .int .i64 0], .struct [0, 1] [1, 1]⟩),
  (62, ⟨2, .agg #[.int .i64 0, .map none], .struct [0, 1] [1, 1]⟩),
  (86, ⟨1, .nilFunc, .one⟩),
  (101, ⟨1, .nilFunc, .one⟩),
  (103, ⟨1, .nilFunc, .one⟩),
  (113, ⟨1, .nilFunc, .one⟩),
  (115, ⟨1, .nilFunc, .one⟩),
  (116, ⟨1, .nilFunc, .one⟩),
  (119, ⟨1, .nilFunc, .one⟩),
  (120, ⟨1, .nilFunc, .one⟩),
  (58, ⟨2, .agg #[.slice none 0 0, .pointer none], .struct [0, 1] [1, 1]⟩),
  (88, ⟨1, .nilFunc, .one⟩),
  (102, ⟨1, .nilFunc, .one⟩),
  (117, ⟨1, .nilFunc, .one⟩),
  (121, ⟨1, .nilFunc, .one⟩),
  (138, ⟨1, .int .i32 0, .int .i32⟩),
  (139, ⟨11, .agg #[.int .u64 0, .int .u64 0, .int .u32 0, .int .u8 0, .int .u8 0, .int .u8 0, .int .u8 0, .nilFunc, .pointer none, .int .i32 0, .int .i32 0], .struct [0, 1, 2, 3, 4, 5, 6, 7, 8, 9, 10] [1, 1, 1, 1, 1, 1, 1, 1, 1, 1, 1]⟩),
  (140, ⟨11, .agg #[.int .u64 0, .int .u64 0, .int .u32 0, .int .u8 0, .int .u8 0, .int .u8 0, .int .u8 0, .nilFunc, .pointer none, .int .i32 0, .int .i32 0], .struct [0, 1, 2, 3, 4, 5, 6, 7, 8, 9, 10] [1, 1, 1, 1, 1, 1, 1, 1, 1, 1, 1]⟩),
  (64, ⟨1, .nilFunc, .one⟩),
  (104, ⟨1, .nilFunc, .one⟩),
  (134, ⟨1, .int .u8 0, .int .u8⟩),
  (106, ⟨1, .nilFunc, .one⟩),
  (127, ⟨4, .agg #[.pointer none, .pointer none, .pointer none, .string ⟨#[]⟩], .struct [0, 1, 2, 3] [1, 1, 1, 1]⟩),
  (128, ⟨4, .agg #[.pointer none, .pointer none, .pointer none, .string ⟨#[]⟩], .struct [0, 1, 2, 3] [1, 1, 1, 1]⟩),
  (133, ⟨1, .int .u8 0, .int .u8⟩),
  (112, ⟨1, .nilFunc, .one⟩),
  (135, ⟨1, .nilFunc, .one⟩),
  (136, ⟨1, .pointer none, .one⟩)]
theorem tab_ok : Eng.TabOk Try.prog tab := ⟨ty1, ty3, ty4, ty2, ty8, ty32, ty9, ty44, ty5, ty7, ty38, ty6, ty29, ty28, ty24, ty22, ty20, ty66, ty11, ty56, ty10, ty16, ty12, ty14, ty94, ty13, ty118, ty15, ty17, ty98, ty114, ty34, ty107, ty63, ty72, ty69, ty87, ty51, ty79, ty111, ty126, ty49, ty71, ty19, ty77, ty81, ty50, ty31, ty36, ty53, ty61, ty25, ty27, ty70, ty75, ty89, ty105, ty23, ty40, ty55, ty59, ty65, ty76, ty108, ty122, ty18, ty46, ty48, ty92, ty97, ty26, ty39, ty42, ty45, ty54, ty57, ty68, ty80, ty96, ty124, ty52, ty73, ty78, ty95, ty110, ty67, ty74, ty82, ty90, ty91, ty93, ty100, ty21, ty43, ty83, ty85, ty109, ty125, ty132, ty137, ty37, ty62, ty86, ty101, ty103, ty113, ty115, ty116, ty119, ty120, ty58, ty88, ty102, ty117, ty121, ty138, ty139, ty140, ty64, ty104, ty134, ty106, ty127, ty128, ty133, ty112, ty135, ty136, trivial⟩
def fns : Nat × Nat := (3, 84)
theorem fns_ok : Eng.Callables Try.prog fns := by unfold Eng.Callables; kernel_rfl
theorem mixed : Try.prog.follows .mixedOrders = true := by kernel_rfl
end Go.Proofs.Ytagndgidfaladaa
