/-
  The types and the functions of this translation, as the engine's tables (printed by a program).
-/
import Derived.Test.YthbchbiadcjnkaaEngCoreB
import Derived.Test.YthbchbiadcjnkaaProg
import Derived.KernelRfl
namespace Go.Proofs.Ythbchbiadcjnkaa
theorem ty1 : Eng.TIok Try.prog 1 ⟨1, .nilFunc, .one⟩ := ⟨by kernel_rfl, by kernel_rfl, by kernel_rfl⟩
theorem ty3 : Eng.TIok Try.prog 3 ⟨1, .int .i64 0, .int .i64⟩ := ⟨by kernel_rfl, by kernel_rfl, by kernel_rfl⟩
theorem ty4 : Eng.TIok Try.prog 4 ⟨1, .bool false, .one⟩ := ⟨by kernel_rfl, by kernel_rfl, by kernel_rfl⟩
theorem ty2 : Eng.TIok Try.prog 2 ⟨1, .int .i64 0, .int .i64⟩ := ⟨by kernel_rfl, by kernel_rfl, by kernel_rfl⟩
theorem ty8 : Eng.TIok Try.prog 8 ⟨4, .agg #[.int .i64 0, .int .i64 0, .bool false, .int .u8 0], .struct [0, 1, 2, 3] [1, 1, 1, 1]⟩ := ⟨by kernel_rfl, by kernel_rfl, by kernel_rfl⟩
theorem ty25 : Eng.TIok Try.prog 25 ⟨1, .slice none 0 0, .slice 45 4 32⟩ := ⟨by kernel_rfl, by kernel_rfl, by kernel_rfl⟩
theorem ty5 : Eng.TIok Try.prog 5 ⟨1, .int .u8 0, .int .u8⟩ := ⟨by kernel_rfl, by kernel_rfl, by kernel_rfl⟩
theorem ty45 : Eng.TIok Try.prog 45 ⟨4, .agg #[.int .i64 0, .int .i64 0, .int .i64 0, .int .i64 0], .struct [0, 1, 2, 3] [1, 1, 1, 1]⟩ := ⟨by kernel_rfl, by kernel_rfl, by kernel_rfl⟩
theorem ty36 : Eng.TIok Try.prog 36 ⟨1, .slice none 0 0, .slice 3 1 8⟩ := ⟨by kernel_rfl, by kernel_rfl, by kernel_rfl⟩
theorem ty6 : Eng.TIok Try.prog 6 ⟨1, .int .u8 0, .int .u8⟩ := ⟨by kernel_rfl, by kernel_rfl, by kernel_rfl⟩
theorem ty7 : Eng.TIok Try.prog 7 ⟨4, .agg #[.int .i64 0, .int .i64 0, .bool false, .int .u8 0], .struct [0, 1, 2, 3] [1, 1, 1, 1]⟩ := ⟨by kernel_rfl, by kernel_rfl, by kernel_rfl⟩
theorem ty30 : Eng.TIok Try.prog 30 ⟨1, .int .i64 0, .int .i64⟩ := ⟨by kernel_rfl, by kernel_rfl, by kernel_rfl⟩
theorem ty29 : Eng.TIok Try.prog 29 ⟨1, .slice none 0 0, .slice 51 3 24⟩ := ⟨by kernel_rfl, by kernel_rfl, by kernel_rfl⟩
theorem ty27 : Eng.TIok Try.prog 27 ⟨1, .slice none 0 0, .slice 47 2 16⟩ := ⟨by kernel_rfl, by kernel_rfl, by kernel_rfl⟩
theorem ty51 : Eng.TIok Try.prog 51 ⟨3, .agg #[.int .i64 0, .int .i64 0, .int .i64 0], .struct [0, 1, 2] [1, 1, 1]⟩ := ⟨by kernel_rfl, by kernel_rfl, by kernel_rfl⟩
theorem ty20 : Eng.TIok Try.prog 20 ⟨1, .nilIface, .one⟩ := ⟨by kernel_rfl, by kernel_rfl, by kernel_rfl⟩
theorem ty12 : Eng.TIok Try.prog 12 ⟨1, .int .u64 0, .int .u64⟩ := ⟨by kernel_rfl, by kernel_rfl, by kernel_rfl⟩
theorem ty9 : Eng.TIok Try.prog 9 ⟨1, .string ⟨#[]⟩, .str⟩ := ⟨by kernel_rfl, by kernel_rfl, by kernel_rfl⟩
theorem ty47 : Eng.TIok Try.prog 47 ⟨2, .agg #[.int .i64 0, .int .i64 0], .struct [0, 1] [1, 1]⟩ := ⟨by kernel_rfl, by kernel_rfl, by kernel_rfl⟩
theorem ty10 : Eng.TIok Try.prog 10 ⟨1, .string ⟨#[]⟩, .str⟩ := ⟨by kernel_rfl, by kernel_rfl, by kernel_rfl⟩
theorem ty11 : Eng.TIok Try.prog 11 ⟨1, .string ⟨#[]⟩, .str⟩ := ⟨by kernel_rfl, by kernel_rfl, by kernel_rfl⟩
theorem ty14 : Eng.TIok Try.prog 14 ⟨2, .agg #[.string ⟨#[]⟩, .int .u64 0], .struct [0, 1] [1, 1]⟩ := ⟨by kernel_rfl, by kernel_rfl, by kernel_rfl⟩
theorem ty16 : Eng.TIok Try.prog 16 ⟨1, .pointer none, .one⟩ := ⟨by kernel_rfl, by kernel_rfl, by kernel_rfl⟩
theorem ty15 : Eng.TIok Try.prog 15 ⟨1, .pointer none, .one⟩ := ⟨by kernel_rfl, by kernel_rfl, by kernel_rfl⟩
theorem ty13 : Eng.TIok Try.prog 13 ⟨2, .agg #[.string ⟨#[]⟩, .int .u64 0], .struct [0, 1] [1, 1]⟩ := ⟨by kernel_rfl, by kernel_rfl, by kernel_rfl⟩
theorem ty74 : Eng.TIok Try.prog 74 ⟨1, .nilFunc, .one⟩ := ⟨by kernel_rfl, by kernel_rfl, by kernel_rfl⟩
theorem ty22 : Eng.TIok Try.prog 22 ⟨1, .slice none 0 0, .slice 61 3 3⟩ := ⟨by kernel_rfl, by kernel_rfl, by kernel_rfl⟩
theorem ty81 : Eng.TIok Try.prog 81 ⟨1, .int .u64 0, .int .u64⟩ := ⟨by kernel_rfl, by kernel_rfl, by kernel_rfl⟩
theorem ty17 : Eng.TIok Try.prog 17 ⟨1, .pointer none, .one⟩ := ⟨by kernel_rfl, by kernel_rfl, by kernel_rfl⟩
theorem ty18 : Eng.TIok Try.prog 18 ⟨1, .agg #[.pointer none], .struct [0] [1]⟩ := ⟨by kernel_rfl, by kernel_rfl, by kernel_rfl⟩
theorem ty23 : Eng.TIok Try.prog 23 ⟨1, .slice none 0 0, .slice 55 2 2⟩ := ⟨by kernel_rfl, by kernel_rfl, by kernel_rfl⟩
theorem ty32 : Eng.TIok Try.prog 32 ⟨1, .nilFunc, .one⟩ := ⟨by kernel_rfl, by kernel_rfl, by kernel_rfl⟩
theorem ty24 : Eng.TIok Try.prog 24 ⟨1, .slice none 0 0, .slice 5 1 1⟩ := ⟨by kernel_rfl, by kernel_rfl, by kernel_rfl⟩
theorem ty86 : Eng.TIok Try.prog 86 ⟨1, .int .i64 0, .int .i64⟩ := ⟨by kernel_rfl, by kernel_rfl, by kernel_rfl⟩
theorem ty105 : Eng.TIok Try.prog 105 ⟨1, .pointer none, .one⟩ := ⟨by kernel_rfl, by kernel_rfl, by kernel_rfl⟩
theorem ty101 : Eng.TIok Try.prog 101 ⟨1, .int .u64 0, .int .u64⟩ := ⟨by kernel_rfl, by kernel_rfl, by kernel_rfl⟩
theorem ty21 : Eng.TIok Try.prog 21 ⟨1, .int .i32 0, .int .i32⟩ := ⟨by kernel_rfl, by kernel_rfl, by kernel_rfl⟩
theorem ty37 : Eng.TIok Try.prog 37 ⟨1, .nilFunc, .one⟩ := ⟨by kernel_rfl, by kernel_rfl, by kernel_rfl⟩
theorem ty40 : Eng.TIok Try.prog 40 ⟨1, .nilFunc, .one⟩ := ⟨by kernel_rfl, by kernel_rfl, by kernel_rfl⟩
theorem ty67 : Eng.TIok Try.prog 67 ⟨1, .map none, .map 3 3⟩ := ⟨by kernel_rfl, by kernel_rfl, by kernel_rfl⟩
theorem ty95 : Eng.TIok Try.prog 95 ⟨1, .int .u64 0, .int .u64⟩ := ⟨by kernel_rfl, by kernel_rfl, by kernel_rfl⟩
theorem ty113 : Eng.TIok Try.prog 113 ⟨1, .nilFunc, .one⟩ := ⟨by kernel_rfl, by kernel_rfl, by kernel_rfl⟩
theorem ty19 : Eng.TIok Try.prog 19 ⟨1, .agg #[.pointer none], .struct [0] [1]⟩ := ⟨by kernel_rfl, by kernel_rfl, by kernel_rfl⟩
theorem ty28 : Eng.TIok Try.prog 28 ⟨1, .nilFunc, .one⟩ := ⟨by kernel_rfl, by kernel_rfl, by kernel_rfl⟩
theorem ty55 : Eng.TIok Try.prog 55 ⟨2, .agg #[.int .u8 0, .int .u8 0], .struct [0, 1] [1, 1]⟩ := ⟨by kernel_rfl, by kernel_rfl, by kernel_rfl⟩
theorem ty58 : Eng.TIok Try.prog 58 ⟨1, .int .u32 0, .int .u32⟩ := ⟨by kernel_rfl, by kernel_rfl, by kernel_rfl⟩
theorem ty26 : Eng.TIok Try.prog 26 ⟨1, .nilFunc, .one⟩ := ⟨by kernel_rfl, by kernel_rfl, by kernel_rfl⟩
theorem ty90 : Eng.TIok Try.prog 90 ⟨1, .nilFunc, .one⟩ := ⟨by kernel_rfl, by kernel_rfl, by kernel_rfl⟩
theorem ty43 : Eng.TIok Try.prog 43 ⟨1, .nilFunc, .one⟩ := ⟨by kernel_rfl, by kernel_rfl, by kernel_rfl⟩
theorem ty35 : Eng.TIok Try.prog 35 ⟨1, .nilFunc, .one⟩ := ⟨by kernel_rfl, by kernel_rfl, by kernel_rfl⟩
theorem ty61 : Eng.TIok Try.prog 61 ⟨3, .agg #[.int .u8 0, .int .u8 0, .int .u8 0], .struct [0, 1, 2] [1, 1, 1]⟩ := ⟨by kernel_rfl, by kernel_rfl, by kernel_rfl⟩
theorem ty85 : Eng.TIok Try.prog 85 ⟨1, .nilFunc, .one⟩ := ⟨by kernel_rfl, by kernel_rfl, by kernel_rfl⟩
theorem ty79 : Eng.TIok Try.prog 79 ⟨1, .nilFunc, .one⟩ := ⟨by kernel_rfl, by kernel_rfl, by kernel_rfl⟩
theorem ty109 : Eng.TIok Try.prog 109 ⟨1, .pointer none, .one⟩ := ⟨by kernel_rfl, by kernel_rfl, by kernel_rfl⟩
theorem ty64 : Eng.TIok Try.prog 64 ⟨1, .nilFunc, .one⟩ := ⟨by kernel_rfl, by kernel_rfl, by kernel_rfl⟩
theorem ty66 : Eng.TIok Try.prog 66 ⟨1, .map none, .map 3 45⟩ := ⟨by kernel_rfl, by kernel_rfl, by kernel_rfl⟩
theorem ty82 : Eng.TIok Try.prog 82 ⟨1, .nilFunc, .one⟩ := ⟨by kernel_rfl, by kernel_rfl, by kernel_rfl⟩
theorem ty96 : Eng.TIok Try.prog 96 ⟨1, .nilFunc, .one⟩ := ⟨by kernel_rfl, by kernel_rfl, by kernel_rfl⟩
theorem ty39 : Eng.TIok Try.prog 39 ⟨1, .nilFunc, .one⟩ := ⟨by kernel_rfl, by kernel_rfl, by kernel_rfl⟩
theorem ty52 : Eng.TIok Try.prog 52 ⟨1, .nilFunc, .one⟩ := ⟨by kernel_rfl, by kernel_rfl, by kernel_rfl⟩
theorem ty53 : Eng.TIok Try.prog 53 ⟨1, .nilFunc, .one⟩ := ⟨by kernel_rfl, by kernel_rfl, by kernel_rfl⟩
theorem ty102 : Eng.TIok Try.prog 102 ⟨1, .nilFunc, .one⟩ := ⟨by kernel_rfl, by kernel_rfl, by kernel_rfl⟩
theorem ty103 : Eng.TIok Try.prog 103 ⟨1, .nilFunc, .one⟩ := ⟨by kernel_rfl, by kernel_rfl, by kernel_rfl⟩
theorem ty44 : Eng.TIok Try.prog 44 ⟨4, .agg #[.int .i64 0, .int .i64 0, .int .i64 0, .int .i64 0], .struct [0, 1, 2, 3] [1, 1, 1, 1]⟩ := ⟨by kernel_rfl, by kernel_rfl, by kernel_rfl⟩
theorem ty50 : Eng.TIok Try.prog 50 ⟨3, .agg #[.int .i64 0, .int .i64 0, .int .i64 0], .struct [0, 1, 2] [1, 1, 1]⟩ := ⟨by kernel_rfl, by kernel_rfl, by kernel_rfl⟩
theorem ty63 : Eng.TIok Try.prog 63 ⟨1, .nilFunc, .one⟩ := ⟨by kernel_rfl, by kernel_rfl, by kernel_rfl⟩
theorem ty78 : Eng.TIok Try.prog 78 ⟨1, .nilFunc, .one⟩ := ⟨by kernel_rfl, by kernel_rfl, by kernel_rfl⟩
theorem ty84 : Eng.TIok Try.prog 84 ⟨1, .map none, .map 3 4⟩ := ⟨by kernel_rfl, by kernel_rfl, by kernel_rfl⟩
theorem ty91 : Eng.TIok Try.prog 91 ⟨1, .nilFunc, .one⟩ := ⟨by kernel_rfl, by kernel_rfl, by kernel_rfl⟩
theorem ty48 : Eng.TIok Try.prog 48 ⟨1, .nilFunc, .one⟩ := ⟨by kernel_rfl, by kernel_rfl, by kernel_rfl⟩
theorem ty49 : Eng.TIok Try.prog 49 ⟨1, .nilFunc, .one⟩ := ⟨by kernel_rfl, by kernel_rfl, by kernel_rfl⟩
theorem ty56 : Eng.TIok Try.prog 56 ⟨1, .nilFunc, .one⟩ := ⟨by kernel_rfl, by kernel_rfl, by kernel_rfl⟩
theorem ty62 : Eng.TIok Try.prog 62 ⟨1, .nilFunc, .one⟩ := ⟨by kernel_rfl, by kernel_rfl, by kernel_rfl⟩
theorem ty65 : Eng.TIok Try.prog 65 ⟨1, .nilFunc, .one⟩ := ⟨by kernel_rfl, by kernel_rfl, by kernel_rfl⟩
theorem ty80 : Eng.TIok Try.prog 80 ⟨1, .nilFunc, .one⟩ := ⟨by kernel_rfl, by kernel_rfl, by kernel_rfl⟩
theorem ty83 : Eng.TIok Try.prog 83 ⟨1, .nilFunc, .one⟩ := ⟨by kernel_rfl, by kernel_rfl, by kernel_rfl⟩
theorem ty108 : Eng.TIok Try.prog 108 ⟨1, .nilFunc, .one⟩ := ⟨by kernel_rfl, by kernel_rfl, by kernel_rfl⟩
theorem ty111 : Eng.TIok Try.prog 111 ⟨1, .nilFunc, .one⟩ := ⟨by kernel_rfl, by kernel_rfl, by kernel_rfl⟩
theorem ty33 : Eng.TIok Try.prog 33 ⟨1, .nilFunc, .one⟩ := ⟨by kernel_rfl, by kernel_rfl, by kernel_rfl⟩
theorem ty41 : Eng.TIok Try.prog 41 ⟨1, .nilFunc, .one⟩ := ⟨by kernel_rfl, by kernel_rfl, by kernel_rfl⟩
theorem ty69 : Eng.TIok Try.prog 69 ⟨1, .nilFunc, .one⟩ := ⟨by kernel_rfl, by kernel_rfl, by kernel_rfl⟩
theorem ty70 : Eng.TIok Try.prog 70 ⟨1, .nilFunc, .one⟩ := ⟨by kernel_rfl, by kernel_rfl, by kernel_rfl⟩
theorem ty73 : Eng.TIok Try.prog 73 ⟨1, .nilFunc, .one⟩ := ⟨by kernel_rfl, by kernel_rfl, by kernel_rfl⟩
theorem ty89 : Eng.TIok Try.prog 89 ⟨1, .nilFunc, .one⟩ := ⟨by kernel_rfl, by kernel_rfl, by kernel_rfl⟩
theorem ty93 : Eng.TIok Try.prog 93 ⟨1, .nilFunc, .one⟩ := ⟨by kernel_rfl, by kernel_rfl, by kernel_rfl⟩
theorem ty104 : Eng.TIok Try.prog 104 ⟨1, .nilFunc, .one⟩ := ⟨by kernel_rfl, by kernel_rfl, by kernel_rfl⟩
theorem ty112 : Eng.TIok Try.prog 112 ⟨1, .nilFunc, .one⟩ := ⟨by kernel_rfl, by kernel_rfl, by kernel_rfl⟩
theorem ty121 : Eng.TIok Try.prog 121 ⟨1, .int .u8 0, .int .u8⟩ := ⟨by kernel_rfl, by kernel_rfl, by kernel_rfl⟩
theorem ty46 : Eng.TIok Try.prog 46 ⟨2, .agg #[.int .i64 0, .int .i64 0], .struct [0, 1] [1, 1]⟩ := ⟨by kernel_rfl, by kernel_rfl, by kernel_rfl⟩
theorem ty72 : Eng.TIok Try.prog 72 ⟨1, .nilFunc, .one⟩ := ⟨by kernel_rfl, by kernel_rfl, by kernel_rfl⟩
theorem ty99 : Eng.TIok Try.prog 99 ⟨1, .nilFunc, .one⟩ := ⟨by kernel_rfl, by kernel_rfl, by kernel_rfl⟩
theorem ty100 : Eng.TIok Try.prog 100 ⟨1, .nilFunc, .one⟩ := ⟨by kernel_rfl, by kernel_rfl, by kernel_rfl⟩
theorem ty106 : Eng.TIok Try.prog 106 ⟨1, .nilFunc, .one⟩ := ⟨by kernel_rfl, by kernel_rfl, by kernel_rfl⟩
theorem ty107 : Eng.TIok Try.prog 107 ⟨1, .nilFunc, .one⟩ := ⟨by kernel_rfl, by kernel_rfl, by kernel_rfl⟩
theorem ty114 : Eng.TIok Try.prog 114 ⟨4, .agg #[.pointer none, .pointer none, .pointer none, .string ⟨#[]⟩], .struct [0, 1, 2, 3] [1, 1, 1, 1]⟩ := ⟨by kernel_rfl, by kernel_rfl, by kernel_rfl⟩
theorem ty120 : Eng.TIok Try.prog 120 ⟨1, .int .u8 0, .int .u8⟩ := ⟨by kernel_rfl, by kernel_rfl, by kernel_rfl⟩
theorem ty122 : Eng.TIok Try.prog 122 ⟨1, .nilFunc, .one⟩ := ⟨by kernel_rfl, by kernel_rfl, by kernel_rfl⟩
theorem ty124 : Eng.TIok Try.prog 124 ⟨1, .int .i32 0, .int .i32⟩ := ⟨by kernel_rfl, by kernel_rfl, by kernel_rfl⟩
theorem ty125 : Eng.TIok Try.prog 125 ⟨1, .int .i32 0, .int .i32⟩ := ⟨by kernel_rfl, by kernel_rfl, by kernel_rfl⟩
theorem ty60 : Eng.TIok Try.prog 60 ⟨3, .agg #[.int .u8 0, .int .u8 0, .int .u8 0], .struct [0, 1, 2] [1, 1, 1]⟩ := ⟨by kernel_rfl, by kernel_rfl, by kernel_rfl⟩
theorem ty71 : Eng.TIok Try.prog 71 ⟨1, .nilFunc, .one⟩ := ⟨by kernel_rfl, by kernel_rfl, by kernel_rfl⟩
theorem ty75 : Eng.TIok Try.prog 75 ⟨1, .nilFunc, .one⟩ := ⟨by kernel_rfl, by kernel_rfl, by kernel_rfl⟩
theorem ty76 : Eng.TIok Try.prog 76 ⟨1, .nilFunc, .one⟩ := ⟨by kernel_rfl, by kernel_rfl, by kernel_rfl⟩
theorem ty77 : Eng.TIok Try.prog 77 ⟨1, .nilFunc, .one⟩ := ⟨by kernel_rfl, by kernel_rfl, by kernel_rfl⟩
theorem ty88 : Eng.TIok Try.prog 88 ⟨1, .nilFunc, .one⟩ := ⟨by kernel_rfl, by kernel_rfl, by kernel_rfl⟩
theorem ty92 : Eng.TIok Try.prog 92 ⟨1, .nilFunc, .one⟩ := ⟨by kernel_rfl, by kernel_rfl, by kernel_rfl⟩
theorem ty98 : Eng.TIok Try.prog 98 ⟨1, .nilFunc, .one⟩ := ⟨by kernel_rfl, by kernel_rfl, by kernel_rfl⟩
theorem ty115 : Eng.TIok Try.prog 115 ⟨4, .agg #[.pointer none, .pointer none, .pointer none, .string ⟨#[]⟩], .struct [0, 1, 2, 3] [1, 1, 1, 1]⟩ := ⟨by kernel_rfl, by kernel_rfl, by kernel_rfl⟩
theorem ty119 : Eng.TIok Try.prog 119 ⟨1, .nilFunc, .one⟩ := ⟨by kernel_rfl, by kernel_rfl, by kernel_rfl⟩
theorem ty127 : Eng.TIok Try.prog 127 ⟨11, .agg #[.int .u64 0, .int .u64 0, .int .u32 0, .int .u8 0, .int .u8 0, .int .u8 0, .int .u8 0, .nilFunc, .pointer none, .int .i32 0, .int .i32 0], .struct [0, 1, 2, 3, 4, 5, 6, 7, 8, 9, 10] [1, 1, 1, 1, 1, 1, 1, 1, 1, 1, 1]⟩ := ⟨by kernel_rfl, by kernel_rfl, by kernel_rfl⟩
theorem ty54 : Eng.TIok Try.prog 54 ⟨2, .agg #[.int .u8 0, .int .u8 0], .struct [0, 1] [1, 1]⟩ := ⟨by kernel_rfl, by kernel_rfl, by kernel_rfl⟩
theorem ty57 : Eng.TIok Try.prog 57 ⟨1, .nilFunc, .one⟩ := ⟨by kernel_rfl, by kernel_rfl, by kernel_rfl⟩
theorem ty59 : Eng.TIok Try.prog 59 ⟨1, .nilFunc, .one⟩ := ⟨by kernel_rfl, by kernel_rfl, by kernel_rfl⟩
theorem ty94 : Eng.TIok Try.prog 94 ⟨1, .nilFunc, .one⟩ := ⟨by kernel_rfl, by kernel_rfl, by kernel_rfl⟩
theorem ty97 : Eng.TIok Try.prog 97 ⟨1, .nilFunc, .one⟩ := ⟨by kernel_rfl, by kernel_rfl, by kernel_rfl⟩
theorem ty123 : Eng.TIok Try.prog 123 ⟨1, .pointer none, .one⟩ := ⟨by kernel_rfl, by kernel_rfl, by kernel_rfl⟩
theorem ty126 : Eng.TIok Try.prog 126 ⟨11, .agg #[.int .u64 0, .int .u64 0, .int .u32 0, .int .u8 0, .int .u8 0, .int .u8 0, .int .u8 0, .nilFunc, .pointer none, .int .i32 0, .int .i32 0], .struct [0, 1, 2, 3, 4, 5, 6, 7, 8, 9, 10] [1, 1, 1, 1, 1, 1, 1, 1, 1, 1, 1]⟩ := ⟨by kernel_rfl, by kernel_rfl, by kernel_rfl⟩
def tab : List (Nat × Eng.TI) := [(1, ⟨1, .nilFunc, .one⟩),
  (3, ⟨1, .int .i64 0, .int .i64⟩),
  (4, ⟨1, .bool false, .one⟩),
  (2, ⟨1, .int .i64 0, .int .i64⟩),
  (8, ⟨4, .agg #[.int .i64 0, .int .i64 0, .bool false, .int .u8 0], .struct [0, 1, 2, 3] [1, 1, 1, 1]⟩),
  (25, ⟨1, .slice none 0 0, .slice 45 4 32⟩),
  (5, ⟨1, .int .u8 0, .int .u8⟩),
  (45, ⟨4, .agg #[.int .i64 0, .int .i64 0, .int .i64 0, .int .i64 0], .struct [0, 1, 2, 3] [1, 1, 1, 1]⟩),
  (36, ⟨1, .slice none 0 0, .slice 3 1 8⟩),
  (6, ⟨1, .int .u8 0, .int .u8⟩),
  (7, ⟨4, .agg #[.int .i64 0, .int .i64 0, .bool false, .int .u8 0], .struct [0, 1, 2, 3] [1, 1, 1, 1]⟩),
  (30, ⟨1, .int .i64 0, .int .i64⟩),
  (29, ⟨1, .slice none 0 0, .slice 51 3 24⟩),
  (27, ⟨1, .slice none 0 0, .slice 47 2 16⟩),
  (51, ⟨3, .agg #[.int .i64 0, .int .i64 0, .int .i64 0], .struct [0, 1, 2] [1, 1, 1]⟩),
  (20, ⟨1, .nilIface, .one⟩),
  (12, ⟨1, .int .u64 0, .int .u64⟩),
  (9, ⟨1, .string ⟨#[]⟩, .str⟩),
  (47, ⟨2, .agg #[.int .i64 0, .int .i64 0], .struct [0, 1] [1, 1]⟩),
  (10, ⟨1, .string ⟨#[]⟩, .str⟩),
  (11, ⟨1, .string ⟨#[]⟩, .str⟩),
  (14, ⟨2, .agg #[.string ⟨#[]⟩, .int .u64 0], .struct [0, 1] [1, 1]⟩),
  (16, ⟨1, .pointer none, .one⟩),
  (15, ⟨1, .pointer none, .one⟩),
  (13, ⟨2, .agg #[.string ⟨#[]⟩, .int .u64 0], .struct [0, 1] [1, 1]⟩),
  (74, ⟨1, .nilFunc, .one⟩),
  (22, ⟨1, .slice none 0 0, .slice 61 3 3⟩),
  (81, ⟨1, .int .u64 0, .int .u64⟩),
  (17, ⟨1, .pointer none, .one⟩),
  (18, ⟨1, .agg #[.pointer none], .struct [0] [1]⟩),
  (23, ⟨1, .slice none 0 0, .slice 55 2 2⟩),
  (32, ⟨1, .nilFunc, .one⟩),
  (24, ⟨1, .slice none 0 0, .slice 5 1 1⟩),
  (86, ⟨1, .int .i64 0, .int .i64⟩),
  (105, ⟨1, .pointer none, .one⟩),
  (101, ⟨1, .int .u64 0, .int .u64⟩),
  (21, ⟨1, .int .i32 0, .int .i32⟩),
  (37, ⟨1, .nilFunc, .one⟩),
  (40, ⟨1, .nilFunc, .one⟩),
  (67, ⟨1, .map none, .map 3 3⟩),
  (95, ⟨1, .int .u64 0, .int .u64⟩),
  (113, ⟨1, .nilFunc, .one⟩),
  (19, ⟨1, .agg #[.pointer none], .struct [0] [1]⟩),
  (28, ⟨1, .nilFunc, .one⟩),
  (55, ⟨2, .agg #[.int .u8 0, .int .u8 0], .struct [0, 1] [1, 1]⟩),
  (58, ⟨1, .int .u32 0, .int .u32⟩),
  (26, ⟨1, .nilFunc, .one⟩),
  (90, ⟨1, .nilFunc, .one⟩),
  (43, ⟨1, .nilFunc, .one⟩),
  (35, ⟨1, .nilFunc, .one⟩),
  (61, ⟨3, .agg #[.int .u8 0, .int .u8 0, .int .u8 0], .struct [0, 1, 2] [1, 1, 1]⟩),
  (85, ⟨1, .nilFunc, .one⟩),
  (79, ⟨1, .nilFunc, .one⟩),
  (109, ⟨1, .pointer none, .one⟩),
  (64, ⟨1, .nilFunc, .one⟩),
  (66, ⟨1, .map none, .map 3 45⟩),
  (82, ⟨1, .nilFunc, .one⟩),
  (96, ⟨1, .nilFunc, .one⟩),
  (39, ⟨1, .nilFunc, .one⟩),
  (52, ⟨1, .nilFunc, .one⟩),
  (53, ⟨1, .nilFunc, .one⟩),
  (102, ⟨1, .nilFunc, .one⟩),
  (103, ⟨1, .nilFunc, .one⟩),
  (44, ⟨4, .agg #[.int .i64 0, .int .i64 0, .int .i64 0, .int .i64 0], .struct [0, 1, 2, 3] [1, 1, 1, 1]⟩),
  (50, ⟨3, .agg #[.int .i64 0, .int .i64 0, .int .i64 0], .struct [0, 1, 2] [1, 1, 1]⟩),
  (63, ⟨1, .nilFunc, .one⟩),
  (78, ⟨1, .nilFunc, .one⟩),
  (84, ⟨1, .map none, .map 3 4⟩),
  (91, ⟨1, .nilFunc, .one⟩),
  (48, ⟨1, .nilFunc, .one⟩),
  (49, ⟨1, .nilFunc, .one⟩),
  (56, ⟨1, .nilFunc, .one⟩),
  (62, ⟨1, .nilFunc, .one⟩),
  (65, ⟨1, .nilFunc, .one⟩),
  (80, ⟨1, .nilFunc, .one⟩),
  (83, ⟨1, .nilFunc, .one⟩),
  (108, ⟨1, .nilFunc, .one⟩),
  (111, ⟨1, .nilFunc, .one⟩),
  (33, ⟨1, .nilFunc, .one⟩),
  (41, ⟨1, .nilFunc, .one⟩),
  (69, ⟨1, .nilFunc, .one⟩),
  (70, ⟨1, .nilFunc, .one⟩),
  (73, ⟨1, .nilFunc, .one⟩),
  (89, ⟨1, .nilFunc, .one⟩),
  (93, ⟨1, .nilFunc, .one⟩),
  (104, ⟨1, .nilFunc, .one⟩),
  (112, ⟨1, .nilFunc, .one⟩),
  (121, ⟨1, .int .u8 0, .int .u8⟩),
  (46, ⟨2, .agg #[.int .i64 0, .int .i64 0], .struct [0, 1] [1, 1]⟩),
  (72, ⟨1, .nilFunc, .one⟩),
  (99, ⟨1, .nilFunc, .one⟩),
  (100, ⟨1, .nilFunc, .one⟩),
  (106, ⟨1, .nilFunc, .one⟩),
  (107, ⟨1, .nilFunc, .one⟩),
  (114, ⟨4, .agg #[.pointer none, .pointer none, .pointer none, .string ⟨#[]⟩], .struct [0, 1, 2, 3] [1, 1, 1, 1]⟩),
  (120, ⟨1, .int .u8 0, .int .u8⟩),
  (122, ⟨1, .nilFunc, .one⟩),
  (124, ⟨1, .int .i32 0, .int .i32⟩),
  (125, ⟨1, .int .i32 0, .int .i32⟩),
  (60, ⟨3, .agg #[.int .u8 0, .int .u8 0, .int .u8 0], .struct [0, 1, 2] [1, 1, 1]⟩),
  (71, ⟨1, .nilFunc, .one⟩),
  (75, ⟨1, .nilFunc, .one⟩),
  (76, ⟨1, .nilFunc, .one⟩),
  (77, ⟨1, .nilFunc, .one⟩),
  (88, ⟨1, .nilFunc, .one⟩),
  (92, ⟨1, .nilFunc, .one⟩),
  (98, ⟨1, .nilFunc, .one⟩),
  (115, ⟨4, .agg #[.pointer none, .pointer none, .pointer none, .string ⟨#[]⟩], .struct [0, 1, 2, 3] [1, 1, 1, 1]⟩),
  (119, ⟨1, .nilFunc, .one⟩),
  (127, ⟨11, .agg #[.int .u64 0, .int .u64 0, .int .u32 0, .int .u8 0, .int .u8 0, .int .u8 0, .int .u8 0, .nilFunc, .pointer none, .int .i32 0, .int .i32 0], .struct [0, 1, 2, 3, 4, 5, 6, 7, 8, 9, 10] [1, 1, 1, 1, 1, 1, 1, 1, 1, 1, 1]⟩),
  (54, ⟨2, .agg #[.int .u8 0, .int .u8 0], .struct [0, 1] [1, 1]⟩),
  (57, ⟨1, .nilFunc, .one⟩),
  (59, ⟨1, .nilFunc, .one⟩),
  (94, ⟨1, .nilFunc, .one⟩),
  (97, ⟨1, .nilFunc, .one⟩),
  (123, ⟨1, .pointer none, .one⟩),
  (126, ⟨11, .agg #[.int .u64 0, .int .u64 0, .int .u32 0, .int .u8 0, .int .u8 0, .int .u8 0, .int .u8 0, .nilFunc, .pointer none, .int .i32 0, .int .i32 0], .struct [0, 1, 2, 3, 4, 5, 6, 7, 8, 9, 10] [1, 1, 1, 1, 1, 1, 1, 1, 1, 1, 1]⟩)]
theorem tab_ok : Eng.TabOk Try.prog tab := ⟨ty1, ty3, ty4, ty2, ty8, ty25, ty5, ty45, ty36, ty6, ty7, ty30, ty29, ty27, ty51, ty20, ty12, ty9, ty47, ty10, ty11, ty14, ty16, ty15, ty13, ty74, ty22, ty81, ty17, ty18, ty23, ty32, ty24, ty86, ty105, ty101, ty21, ty37, ty40, ty67, ty95, ty113, ty19, ty28, ty55, ty58, ty26, ty90, ty43, ty35, ty61, ty85, ty79, ty109, ty64, ty66, ty82, ty96, ty39, ty52, ty53, ty102, ty103, ty44, ty50, ty63, ty78, ty84, ty91, ty48, ty49, ty56, ty62, ty65, ty80, ty83, ty108, ty111, ty33, ty41, ty69, ty70, ty73, ty89, ty93, ty104, ty112, ty121, ty46, ty72, ty99, ty100, ty106, ty107, ty114, ty120, ty122, ty124, ty125, ty60, ty71, ty75, ty76, ty77, ty88, ty92, ty98, ty115, ty119, ty127, ty54, ty57, ty59, ty94, ty97, ty123, ty126, trivial⟩
def fns : Nat × Nat := (3, 70)
theorem fns_ok : Eng.Callables Try.prog fns := by unfold Eng.Callables; kernel_rfl
theorem mixed : Try.prog.follows .mixedOrders = true := by kernel_rfl
end Go.Proofs.Ythbchbiadcjnkaa
