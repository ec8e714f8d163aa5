/-
  The types and the functions of this translation, as the engine's tables (printed by a program).
-/
import Derived.Test.YtbejfbekamikpaaEngCoreB
import Derived.Test.YtbejfbekamikpaaProg
import Derived.KernelRfl
namespace Go.Proofs.Ytbejfbekamikpaa
theorem ty1 : Eng.TIok Try.prog 1 ⟨1, .nilFunc, .one⟩ := ⟨by kernel_rfl, by kernel_rfl, by kernel_rfl⟩
theorem ty3 : Eng.TIok Try.prog 3 ⟨1, .int .i64 0, .int .i64⟩ := ⟨by kernel_rfl, by kernel_rfl, by kernel_rfl⟩
theorem ty4 : Eng.TIok Try.prog 4 ⟨1, .bool false, .one⟩ := ⟨by kernel_rfl, by kernel_rfl, by kernel_rfl⟩
theorem ty2 : Eng.TIok Try.prog 2 ⟨1, .int .i64 0, .int .i64⟩ := ⟨by kernel_rfl, by kernel_rfl, by kernel_rfl⟩
theorem ty5 : Eng.TIok Try.prog 5 ⟨1, .int .u8 0, .int .u8⟩ := ⟨by kernel_rfl, by kernel_rfl, by kernel_rfl⟩
theorem ty8 : Eng.TIok Try.prog 8 ⟨4, .agg #[.int .i64 0, .int .i64 0, .bool false, .int .u8 0], .struct [0, 1, 2, 3] [1, 1, 1, 1]⟩ := ⟨by kernel_rfl, by kernel_rfl, by kernel_rfl⟩
theorem ty34 : Eng.TIok Try.prog 34 ⟨1, .slice none 0 0, .slice 3 1 8⟩ := ⟨by kernel_rfl, by kernel_rfl, by kernel_rfl⟩
theorem ty32 : Eng.TIok Try.prog 32 ⟨1, .slice none 0 0, .slice 37 5 40⟩ := ⟨by kernel_rfl, by kernel_rfl, by kernel_rfl⟩
theorem ty37 : Eng.TIok Try.prog 37 ⟨5, .agg #[.int .i64 0, .int .u8 0, .int .i64 0, .int .i64 0, .int .u8 0], .struct [0, 1, 2, 3, 4] [1, 1, 1, 1, 1]⟩ := ⟨by kernel_rfl, by kernel_rfl, by kernel_rfl⟩
theorem ty30 : Eng.TIok Try.prog 30 ⟨4, .agg #[.slice none 0 0, .slice none 0 0, .slice none 0 0, .slice none 0 0], .struct [0, 1, 2, 3] [1, 1, 1, 1]⟩ := ⟨by kernel_rfl, by kernel_rfl, by kernel_rfl⟩
theorem ty6 : Eng.TIok Try.prog 6 ⟨1, .int .u8 0, .int .u8⟩ := ⟨by kernel_rfl, by kernel_rfl, by kernel_rfl⟩
theorem ty47 : Eng.TIok Try.prog 47 ⟨1, .int .i64 0, .int .i64⟩ := ⟨by kernel_rfl, by kernel_rfl, by kernel_rfl⟩
theorem ty7 : Eng.TIok Try.prog 7 ⟨4, .agg #[.int .i64 0, .int .i64 0, .bool false, .int .u8 0], .struct [0, 1, 2, 3] [1, 1, 1, 1]⟩ := ⟨by kernel_rfl, by kernel_rfl, by kernel_rfl⟩
theorem ty9 : Eng.TIok Try.prog 9 ⟨1, .string ⟨#[]⟩, .str⟩ := ⟨by kernel_rfl, by kernel_rfl, by kernel_rfl⟩
theorem ty20 : Eng.TIok Try.prog 20 ⟨1, .nilIface, .one⟩ := ⟨by kernel_rfl, by kernel_rfl, by kernel_rfl⟩
theorem ty39 : Eng.TIok Try.prog 39 ⟨8, .agg #[.int .i64 0, .int .i64 0, .int .i64 0, .int .i64 0, .string ⟨#[]⟩, .string ⟨#[]⟩, .int .i64 0, .int .i64 0], .struct [0, 1, 2, 3, 4, 5, 6, 7] [1, 1, 1, 1, 1, 1, 1, 1]⟩ := ⟨by kernel_rfl, by kernel_rfl, by kernel_rfl⟩
theorem ty12 : Eng.TIok Try.prog 12 ⟨1, .int .u64 0, .int .u64⟩ := ⟨by kernel_rfl, by kernel_rfl, by kernel_rfl⟩
theorem ty28 : Eng.TIok Try.prog 28 ⟨1, .slice none 0 0, .slice 39 8 80⟩ := ⟨by kernel_rfl, by kernel_rfl, by kernel_rfl⟩
theorem ty14 : Eng.TIok Try.prog 14 ⟨2, .agg #[.string ⟨#[]⟩, .int .u64 0], .struct [0, 1] [1, 1]⟩ := ⟨by kernel_rfl, by kernel_rfl, by kernel_rfl⟩
theorem ty10 : Eng.TIok Try.prog 10 ⟨1, .string ⟨#[]⟩, .str⟩ := ⟨by kernel_rfl, by kernel_rfl, by kernel_rfl⟩
theorem ty26 : Eng.TIok Try.prog 26 ⟨1, .slice none 0 0, .slice 126 6 88⟩ := ⟨by kernel_rfl, by kernel_rfl, by kernel_rfl⟩
theorem ty13 : Eng.TIok Try.prog 13 ⟨2, .agg #[.string ⟨#[]⟩, .int .u64 0], .struct [0, 1] [1, 1]⟩ := ⟨by kernel_rfl, by kernel_rfl, by kernel_rfl⟩
theorem ty25 : Eng.TIok Try.prog 25 ⟨1, .slice none 0 0, .slice 122 5 72⟩ := ⟨by kernel_rfl, by kernel_rfl, by kernel_rfl⟩
theorem ty11 : Eng.TIok Try.prog 11 ⟨1, .string ⟨#[]⟩, .str⟩ := ⟨by kernel_rfl, by kernel_rfl, by kernel_rfl⟩
theorem ty24 : Eng.TIok Try.prog 24 ⟨1, .int .u16 0, .int .u16⟩ := ⟨by kernel_rfl, by kernel_rfl, by kernel_rfl⟩
theorem ty15 : Eng.TIok Try.prog 15 ⟨1, .pointer none, .one⟩ := ⟨by kernel_rfl, by kernel_rfl, by kernel_rfl⟩
theorem ty120 : Eng.TIok Try.prog 120 ⟨1, .slice none 0 0, .slice 9 1 16⟩ := ⟨by kernel_rfl, by kernel_rfl, by kernel_rfl⟩
theorem ty126 : Eng.TIok Try.prog 126 ⟨6, .agg #[.int .i64 0, .int .i64 0, .string ⟨#[]⟩, .string ⟨#[]⟩, .string ⟨#[]⟩, .slice none 0 0], .struct [0, 1, 2, 3, 4, 5] [1, 1, 1, 1, 1, 1]⟩ := ⟨by kernel_rfl, by kernel_rfl, by kernel_rfl⟩
theorem ty27 : Eng.TIok Try.prog 27 ⟨1, .slice none 0 0, .slice 130 7 64⟩ := ⟨by kernel_rfl, by kernel_rfl, by kernel_rfl⟩
theorem ty122 : Eng.TIok Try.prog 122 ⟨5, .agg #[.int .i64 0, .int .u8 0, .string ⟨#[]⟩, .string ⟨#[]⟩, .slice none 0 0], .struct [0, 1, 2, 3, 4] [1, 1, 1, 1, 1]⟩ := ⟨by kernel_rfl, by kernel_rfl, by kernel_rfl⟩
theorem ty17 : Eng.TIok Try.prog 17 ⟨1, .pointer none, .one⟩ := ⟨by kernel_rfl, by kernel_rfl, by kernel_rfl⟩
theorem ty16 : Eng.TIok Try.prog 16 ⟨1, .pointer none, .one⟩ := ⟨by kernel_rfl, by kernel_rfl, by kernel_rfl⟩
theorem ty18 : Eng.TIok Try.prog 18 ⟨1, .agg #[.pointer none], .struct [0] [1]⟩ := ⟨by kernel_rfl, by kernel_rfl, by kernel_rfl⟩
theorem ty23 : Eng.TIok Try.prog 23 ⟨1, .slice none 0 0, .slice 5 1 1⟩ := ⟨by kernel_rfl, by kernel_rfl, by kernel_rfl⟩
theorem ty115 : Eng.TIok Try.prog 115 ⟨1, .int .u64 0, .int .u64⟩ := ⟨by kernel_rfl, by kernel_rfl, by kernel_rfl⟩
theorem ty22 : Eng.TIok Try.prog 22 ⟨1, .slice none 0 0, .slice 44 4 4⟩ := ⟨by kernel_rfl, by kernel_rfl, by kernel_rfl⟩
theorem ty44 : Eng.TIok Try.prog 44 ⟨4, .agg #[.int .u8 0, .int .u8 0, .int .u8 0, .int .u8 0], .struct [0, 1, 2, 3] [1, 1, 1, 1]⟩ := ⟨by kernel_rfl, by kernel_rfl, by kernel_rfl⟩
theorem ty40 : Eng.TIok Try.prog 40 ⟨1, .nilFunc, .one⟩ := ⟨by kernel_rfl, by kernel_rfl, by kernel_rfl⟩
theorem ty85 : Eng.TIok Try.prog 85 ⟨13, .agg #[.int .i64 0, .int .i64 0, .int .i64 0, .int .i64 0, .int .i64 0, .int .i64 0, .int .i64 0, .int .i64 0, .int .i64 0, .int .i64 0, .int .i64 0, .int .i64 0, .int .i64 0], .arr 13 3 1⟩ := ⟨by kernel_rfl, by kernel_rfl, by kernel_rfl⟩
theorem ty19 : Eng.TIok Try.prog 19 ⟨1, .agg #[.pointer none], .struct [0] [1]⟩ := ⟨by kernel_rfl, by kernel_rfl, by kernel_rfl⟩
theorem ty72 : Eng.TIok Try.prog 72 ⟨1, .nilFunc, .one⟩ := ⟨by kernel_rfl, by kernel_rfl, by kernel_rfl⟩
theorem ty31 : Eng.TIok Try.prog 31 ⟨1, .nilFunc, .one⟩ := ⟨by kernel_rfl, by kernel_rfl, by kernel_rfl⟩
theorem ty100 : Eng.TIok Try.prog 100 ⟨1, .nilFunc, .one⟩ := ⟨by kernel_rfl, by kernel_rfl, by kernel_rfl⟩
theorem ty141 : Eng.TIok Try.prog 141 ⟨1, .nilFunc, .one⟩ := ⟨by kernel_rfl, by kernel_rfl, by kernel_rfl⟩
theorem ty76 : Eng.TIok Try.prog 76 ⟨1, .map none, .map 3 32⟩ := ⟨by kernel_rfl, by kernel_rfl, by kernel_rfl⟩
theorem ty92 : Eng.TIok Try.prog 92 ⟨1, .nilFunc, .one⟩ := ⟨by kernel_rfl, by kernel_rfl, by kernel_rfl⟩
theorem ty21 : Eng.TIok Try.prog 21 ⟨1, .int .i32 0, .int .i32⟩ := ⟨by kernel_rfl, by kernel_rfl, by kernel_rfl⟩
theorem ty33 : Eng.TIok Try.prog 33 ⟨1, .nilFunc, .one⟩ := ⟨by kernel_rfl, by kernel_rfl, by kernel_rfl⟩
theorem ty152 : Eng.TIok Try.prog 152 ⟨1, .int .u64 0, .int .u64⟩ := ⟨by kernel_rfl, by kernel_rfl, by kernel_rfl⟩
theorem ty160 : Eng.TIok Try.prog 160 ⟨1, .pointer none, .one⟩ := ⟨by kernel_rfl, by kernel_rfl, by kernel_rfl⟩
theorem ty88 : Eng.TIok Try.prog 88 ⟨1, .pointer none, .one⟩ := ⟨by kernel_rfl, by kernel_rfl, by kernel_rfl⟩
theorem ty97 : Eng.TIok Try.prog 97 ⟨1, .nilFunc, .one⟩ := ⟨by kernel_rfl, by kernel_rfl, by kernel_rfl⟩
theorem ty130 : Eng.TIok Try.prog 130 ⟨7, .agg #[.int .i64 0, .int .i64 0, .int .i64 0, .int .i64 0, .int .u8 0, .string ⟨#[]⟩, .int .i64 0], .struct [0, 1, 2, 3, 4, 5, 6] [1, 1, 1, 1, 1, 1, 1]⟩ := ⟨by kernel_rfl, by kernel_rfl, by kernel_rfl⟩
theorem ty156 : Eng.TIok Try.prog 156 ⟨1, .int .u64 0, .int .u64⟩ := ⟨by kernel_rfl, by kernel_rfl, by kernel_rfl⟩
theorem ty84 : Eng.TIok Try.prog 84 ⟨1, .nilFunc, .one⟩ := ⟨by kernel_rfl, by kernel_rfl, by kernel_rfl⟩
theorem ty87 : Eng.TIok Try.prog 87 ⟨1, .nilFunc, .one⟩ := ⟨by kernel_rfl, by kernel_rfl, by kernel_rfl⟩
theorem ty64 : Eng.TIok Try.prog 64 ⟨1, .nilFunc, .one⟩ := ⟨by kernel_rfl, by kernel_rfl, by kernel_rfl⟩
theorem ty79 : Eng.TIok Try.prog 79 ⟨1, .map none, .map 3 39⟩ := ⟨by kernel_rfl, by kernel_rfl, by kernel_rfl⟩
theorem ty150 : Eng.TIok Try.prog 150 ⟨1, .int .u32 0, .int .u32⟩ := ⟨by kernel_rfl, by kernel_rfl, by kernel_rfl⟩
theorem ty165 : Eng.TIok Try.prog 165 ⟨1, .nilFunc, .one⟩ := ⟨by kernel_rfl, by kernel_rfl, by kernel_rfl⟩
theorem ty35 : Eng.TIok Try.prog 35 ⟨1, .nilFunc, .one⟩ := ⟨by kernel_rfl, by kernel_rfl, by kernel_rfl⟩
theorem ty41 : Eng.TIok Try.prog 41 ⟨1, .nilFunc, .one⟩ := ⟨by kernel_rfl, by kernel_rfl, by kernel_rfl⟩
theorem ty81 : Eng.TIok Try.prog 81 ⟨1, .nilFunc, .one⟩ := ⟨by kernel_rfl, by kernel_rfl, by kernel_rfl⟩
theorem ty133 : Eng.TIok Try.prog 133 ⟨1, .nilFunc, .one⟩ := ⟨by kernel_rfl, by kernel_rfl, by kernel_rfl⟩
theorem ty142 : Eng.TIok Try.prog 142 ⟨1, .nilFunc, .one⟩ := ⟨by kernel_rfl, by kernel_rfl, by kernel_rfl⟩
theorem ty143 : Eng.TIok Try.prog 143 ⟨1, .int .i64 0, .int .i64⟩ := ⟨by kernel_rfl, by kernel_rfl, by kernel_rfl⟩
theorem ty51 : Eng.TIok Try.prog 51 ⟨1, .nilFunc, .one⟩ := ⟨by kernel_rfl, by kernel_rfl, by kernel_rfl⟩
theorem ty49 : Eng.TIok Try.prog 49 ⟨1, .nilFunc, .one⟩ := ⟨by kernel_rfl, by kernel_rfl, by kernel_rfl⟩
theorem ty77 : Eng.TIok Try.prog 77 ⟨1, .nilFunc, .one⟩ := ⟨by kernel_rfl, by kernel_rfl, by kernel_rfl⟩
theorem ty86 : Eng.TIok Try.prog 86 ⟨1, .nilFunc, .one⟩ := ⟨by kernel_rfl, by kernel_rfl, by kernel_rfl⟩
theorem ty29 : Eng.TIok Try.prog 29 ⟨4, .agg #[.slice none 0 0, .slice none 0 0, .slice none 0 0, .slice none 0 0], .struct [0, 1, 2, 3] [1, 1, 1, 1]⟩ := ⟨by kernel_rfl, by kernel_rfl, by kernel_rfl⟩
theorem ty82 : Eng.TIok Try.prog 82 ⟨1, .nilFunc, .one⟩ := ⟨by kernel_rfl, by kernel_rfl, by kernel_rfl⟩
theorem ty91 : Eng.TIok Try.prog 91 ⟨1, .nilFunc, .one⟩ := ⟨by kernel_rfl, by kernel_rfl, by kernel_rfl⟩
theorem ty93 : Eng.TIok Try.prog 93 ⟨1, .nilFunc, .one⟩ := ⟨by kernel_rfl, by kernel_rfl, by kernel_rfl⟩
theorem ty110 : Eng.TIok Try.prog 110 ⟨1, .nilFunc, .one⟩ := ⟨by kernel_rfl, by kernel_rfl, by kernel_rfl⟩
theorem ty38 : Eng.TIok Try.prog 38 ⟨8, .agg #[.int .i64 0, .int .i64 0, .int .i64 0, .int .i64 0, .string ⟨#[]⟩, .string ⟨#[]⟩, .int .i64 0, .int .i64 0], .struct [0, 1, 2, 3, 4, 5, 6, 7] [1, 1, 1, 1, 1, 1, 1, 1]⟩ := ⟨by kernel_rfl, by kernel_rfl, by kernel_rfl⟩
theorem ty63 : Eng.TIok Try.prog 63 ⟨1, .nilFunc, .one⟩ := ⟨by kernel_rfl, by kernel_rfl, by kernel_rfl⟩
theorem ty68 : Eng.TIok Try.prog 68 ⟨1, .nilFunc, .one⟩ := ⟨by kernel_rfl, by kernel_rfl, by kernel_rfl⟩
theorem ty80 : Eng.TIok Try.prog 80 ⟨1, .nilFunc, .one⟩ := ⟨by kernel_rfl, by kernel_rfl, by kernel_rfl⟩
theorem ty101 : Eng.TIok Try.prog 101 ⟨1, .nilFunc, .one⟩ := ⟨by kernel_rfl, by kernel_rfl, by kernel_rfl⟩
theorem ty118 : Eng.TIok Try.prog 118 ⟨1, .nilFunc, .one⟩ := ⟨by kernel_rfl, by kernel_rfl, by kernel_rfl⟩
theorem ty131 : Eng.TIok Try.prog 131 ⟨1, .nilFunc, .one⟩ := ⟨by kernel_rfl, by kernel_rfl, by kernel_rfl⟩
theorem ty163 : Eng.TIok Try.prog 163 ⟨1, .pointer none, .one⟩ := ⟨by kernel_rfl, by kernel_rfl, by kernel_rfl⟩
theorem ty67 : Eng.TIok Try.prog 67 ⟨1, .nilFunc, .one⟩ := ⟨by kernel_rfl, by kernel_rfl, by kernel_rfl⟩
theorem ty70 : Eng.TIok Try.prog 70 ⟨1, .nilFunc, .one⟩ := ⟨by kernel_rfl, by kernel_rfl, by kernel_rfl⟩
theorem ty75 : Eng.TIok Try.prog 75 ⟨1, .nilFunc, .one⟩ := ⟨by kernel_rfl, by kernel_rfl, by kernel_rfl⟩
theorem ty96 : Eng.TIok Try.prog 96 ⟨1, .nilFunc, .one⟩ := ⟨by kernel_rfl, by kernel_rfl, by kernel_rfl⟩
theorem ty36 : Eng.TIok Try.prog 36 ⟨5, .agg #[.int .i64 0, .int .u8 0, .int .i64 0, .int .i64 0, .int .u8 0], .struct [0, 1, 2, 3, 4] [1, 1, 1, 1, 1]⟩ := ⟨by kernel_rfl, by kernel_rfl, by kernel_rfl⟩
theorem ty55 : Eng.TIok Try.prog 55 ⟨1, .nilFunc, .one⟩ := ⟨by kernel_rfl, by kernel_rfl, by kernel_rfl⟩
theorem ty106 : Eng.TIok Try.prog 106 ⟨1, .nilFunc, .one⟩ := ⟨by kernel_rfl, by kernel_rfl, by kernel_rfl⟩
theorem ty111 : Eng.TIok Try.prog 111 ⟨1, .nilFunc, .one⟩ := ⟨by kernel_rfl, by kernel_rfl, by kernel_rfl⟩
theorem ty128 : Eng.TIok Try.prog 128 ⟨1, .nilFunc, .one⟩ := ⟨by kernel_rfl, by kernel_rfl, by kernel_rfl⟩
theorem ty42 : Eng.TIok Try.prog 42 ⟨1, .nilFunc, .one⟩ := ⟨by kernel_rfl, by kernel_rfl, by kernel_rfl⟩
theorem ty43 : Eng.TIok Try.prog 43 ⟨4, .agg #[.int .u8 0, .int .u8 0, .int .u8 0, .int .u8 0], .struct [0, 1, 2, 3] [1, 1, 1, 1]⟩ := ⟨by kernel_rfl, by kernel_rfl, by kernel_rfl⟩
theorem ty52 : Eng.TIok Try.prog 52 ⟨1, .nilFunc, .one⟩ := ⟨by kernel_rfl, by kernel_rfl, by kernel_rfl⟩
theorem ty53 : Eng.TIok Try.prog 53 ⟨1, .nilFunc, .one⟩ := ⟨by kernel_rfl, by kernel_rfl, by kernel_rfl⟩
theorem ty65 : Eng.TIok Try.prog 65 ⟨1, .nilFunc, .one⟩ := ⟨by kernel_rfl, by kernel_rfl, by kernel_rfl⟩
theorem ty90 : Eng.TIok Try.prog 90 ⟨1, .nilFunc, .one⟩ := ⟨by kernel_rfl, by kernel_rfl, by kernel_rfl⟩
theorem ty95 : Eng.TIok Try.prog 95 ⟨1, .nilFunc, .one⟩ := ⟨by kernel_rfl, by kernel_rfl, by kernel_rfl⟩
theorem ty98 : Eng.TIok Try.prog 98 ⟨1, .nilFunc, .one⟩ := ⟨by kernel_rfl, by kernel_rfl, by kernel_rfl⟩
theorem ty103 : Eng.TIok Try.prog 103 ⟨1, .nilFunc, .one⟩ := ⟨by kernel_rfl, by kernel_rfl, by kernel_rfl⟩
theorem ty124 : Eng.TIok Try.prog 124 ⟨1, .nilFunc, .one⟩ := ⟨by kernel_rfl, by kernel_rfl, by kernel_rfl⟩
theorem ty138 : Eng.TIok Try.prog 138 ⟨1, .nilFunc, .one⟩ := ⟨by kernel_rfl, by kernel_rfl, by kernel_rfl⟩
theorem ty166 : Eng.TIok Try.prog 166 ⟨4, .agg #[.pointer none, .pointer none, .pointer none, .string ⟨#[]⟩], .struct [0, 1, 2, 3] [1, 1, 1, 1]⟩ := ⟨by kernel_rfl, by kernel_rfl, by kernel_rfl⟩
theorem ty58 : Eng.TIok Try.prog 58 ⟨1, .nilFunc, .one⟩ := ⟨by kernel_rfl, by kernel_rfl, by kernel_rfl⟩
theorem ty60 : Eng.TIok Try.prog 60 ⟨1, .nilFunc, .one⟩ := ⟨by kernel_rfl, by kernel_rfl, by kernel_rfl⟩
theorem ty61 : Eng.TIok Try.prog 61 ⟨1, .nilFunc, .one⟩ := ⟨by kernel_rfl, by kernel_rfl, by kernel_rfl⟩
theorem ty66 : Eng.TIok Try.prog 66 ⟨1, .nilFunc, .one⟩ := ⟨by kernel_rfl, by kernel_rfl, by kernel_rfl⟩
theorem ty73 : Eng.TIok Try.prog 73 ⟨1, .nilFunc, .one⟩ := ⟨by kernel_rfl, by kernel_rfl, by kernel_rfl⟩
theorem ty83 : Eng.TIok Try.prog 83 ⟨1, .nilFunc, .one⟩ := ⟨by kernel_rfl, by kernel_rfl, by kernel_rfl⟩
theorem ty104 : Eng.TIok Try.prog 104 ⟨1, .nilFunc, .one⟩ := ⟨by kernel_rfl, by kernel_rfl, by kernel_rfl⟩
theorem ty108 : Eng.TIok Try.prog 108 ⟨1, .nilFunc, .one⟩ := ⟨by kernel_rfl, by kernel_rfl, by kernel_rfl⟩
theorem ty109 : Eng.TIok Try.prog 109 ⟨1, .nilFunc, .one⟩ := ⟨by kernel_rfl, by kernel_rfl, by kernel_rfl⟩
theorem ty119 : Eng.TIok Try.prog 119 ⟨1, .nilFunc, .one⟩ := ⟨by kernel_rfl, by kernel_rfl, by kernel_rfl⟩
theorem ty123 : Eng.TIok Try.prog 123 ⟨1, .nilFunc, .one⟩ := ⟨by kernel_rfl, by kernel_rfl, by kernel_rfl⟩
theorem ty137 : Eng.TIok Try.prog 137 ⟨1, .nilFunc, .one⟩ := ⟨by kernel_rfl, by kernel_rfl, by kernel_rfl⟩
theorem ty145 : Eng.TIok Try.prog 145 ⟨1, .nilFunc, .one⟩ := ⟨by kernel_rfl, by kernel_rfl, by kernel_rfl⟩
theorem ty154 : Eng.TIok Try.prog 154 ⟨1, .nilFunc, .one⟩ := ⟨by kernel_rfl, by kernel_rfl, by kernel_rfl⟩
theorem ty159 : Eng.TIok Try.prog 159 ⟨1, .nilFunc, .one⟩ := ⟨by kernel_rfl, by kernel_rfl, by kernel_rfl⟩
theorem ty46 : Eng.TIok Try.prog 46 ⟨1, .nilFunc, .one⟩ := ⟨by kernel_rfl, by kernel_rfl, by kernel_rfl⟩
theorem ty59 : Eng.TIok Try.prog 59 ⟨1, .nilFunc, .one⟩ := ⟨by kernel_rfl, by kernel_rfl, by kernel_rfl⟩
theorem ty78 : Eng.TIok Try.prog 78 ⟨1, .nilFunc, .one⟩ := ⟨by kernel_rfl, by kernel_rfl, by kernel_rfl⟩
theorem ty89 : Eng.TIok Try.prog 89 ⟨1, .nilFunc, .one⟩ := ⟨by kernel_rfl, by kernel_rfl, by kernel_rfl⟩
theorem ty99 : Eng.TIok Try.prog 99 ⟨1, .nilFunc, .one⟩ := ⟨by kernel_rfl, by kernel_rfl, by kernel_rfl⟩
theorem ty113 : Eng.TIok Try.prog 113 ⟨1, .nilFunc, .one⟩ := ⟨by kernel_rfl, by kernel_rfl, by kernel_rfl⟩
theorem ty117 : Eng.TIok Try.prog 117 ⟨1, .nilFunc, .one⟩ := ⟨by kernel_rfl, by kernel_rfl, by kernel_rfl⟩
theorem ty132 : Eng.TIok Try.prog 132 ⟨1, .nilFunc, .one⟩ := ⟨by kernel_rfl, by kernel_rfl, by kernel_rfl⟩
theorem ty140 : Eng.TIok Try.prog 140 ⟨1, .nilFunc, .one⟩ := ⟨by kernel_rfl, by kernel_rfl, by kernel_rfl⟩
theorem ty151 : Eng.TIok Try.prog 151 ⟨1, .nilFunc, .one⟩ := ⟨by kernel_rfl, by kernel_rfl, by kernel_rfl⟩
theorem ty153 : Eng.TIok Try.prog 153 ⟨1, .nilFunc, .one⟩ := ⟨by kernel_rfl, by kernel_rfl, by kernel_rfl⟩
theorem ty114 : Eng.TIok Try.prog 114 ⟨1, .nilFunc, .one⟩ := ⟨by kernel_rfl, by kernel_rfl, by kernel_rfl⟩
theorem ty127 : Eng.TIok Try.prog 127 ⟨1, .nilFunc, .one⟩ := ⟨by kernel_rfl, by kernel_rfl, by kernel_rfl⟩
theorem ty149 : Eng.TIok Try.prog 149 ⟨1, .nilFunc, .one⟩ := ⟨by kernel_rfl, by kernel_rfl, by kernel_rfl⟩
theorem ty158 : Eng.TIok Try.prog 158 ⟨1, .nilFunc, .one⟩ := ⟨by kernel_rfl, by kernel_rfl, by kernel_rfl⟩
theorem ty174 : Eng.TIok Try.prog 174 ⟨1, .nilFunc, .one⟩ := ⟨by kernel_rfl, by kernel_rfl, by kernel_rfl⟩
theorem ty176 : Eng.TIok Try.prog 176 ⟨1, .int .i32 0, .int .i32⟩ := ⟨by kernel_rfl, by kernel_rfl, by kernel_rfl⟩
theorem ty177 : Eng.TIok Try.prog 177 ⟨1, .int .i32 0, .int .i32⟩ := ⟨by kernel_rfl, by kernel_rfl, by kernel_rfl⟩
theorem ty45 : Eng.TIok Try.prog 45 ⟨1, .nilFunc, .one⟩ := ⟨by kernel_rfl, by kernel_rfl, by kernel_rfl⟩
theorem ty57 : Eng.TIok Try.prog 57 ⟨1, .nilFunc, .one⟩ := ⟨by kernel_rfl, by kernel_rfl, by kernel_rfl⟩
theorem ty71 : Eng.TIok Try.prog 71 ⟨1, .nilFunc, .one⟩ := ⟨by kernel_rfl, by kernel_rfl, by kernel_rfl⟩
theorem ty129 : Eng.TIok Try.prog 129 ⟨7, .agg #[.int .i64 0, .int .i64 0, .int .i64 0, .int .i64 0, .int .u8 0, .string ⟨#[]⟩, .int .i64 0], .struct [0, 1, 2, 3, 4, 5, 6] [1, 1, 1, 1, 1, 1, 1]⟩ := ⟨by kernel_rfl, by kernel_rfl, by kernel_rfl⟩
theorem ty135 : Eng.TIok Try.prog 135 ⟨1, .nilFunc, .one⟩ := ⟨by kernel_rfl, by kernel_rfl, by kernel_rfl⟩
theorem ty136 : Eng.TIok Try.prog 136 ⟨1, .nilFunc, .one⟩ := ⟨by kernel_rfl, by kernel_rfl, by kernel_rfl⟩
theorem ty162 : Eng.TIok Try.prog 162 ⟨1, .nilFunc, .one⟩ := ⟨by kernel_rfl, by kernel_rfl, by kernel_rfl⟩
theorem ty164 : Eng.TIok Try.prog 164 ⟨1, .nilFunc, .one⟩ := ⟨by kernel_rfl, by kernel_rfl, by kernel_rfl⟩
theorem ty167 : Eng.TIok Try.prog 167 ⟨4, .agg #[.pointer none, .pointer none, .pointer none, .string ⟨#[]⟩], .struct [0, 1, 2, 3] [1, 1, 1, 1]⟩ := ⟨by kernel_rfl, by kernel_rfl, by kernel_rfl⟩
theorem ty171 : Eng.TIok Try.prog 171 ⟨1, .nilFunc, .one⟩ := ⟨by kernel_rfl, by kernel_rfl, by kernel_rfl⟩
theorem ty173 : Eng.TIok Try.prog 173 ⟨1, .int .u8 0, .int .u8⟩ := ⟨by kernel_rfl, by kernel_rfl, by kernel_rfl⟩
theorem ty105 : Eng.TIok Try.prog 105 ⟨1, .nilFunc, .one⟩ := ⟨by kernel_rfl, by kernel_rfl, by kernel_rfl⟩
theorem ty125 : Eng.TIok Try.prog 125 ⟨6, .agg #[.int .i64 0, .int .i64 0, .string ⟨#[]⟩, .string ⟨#[]⟩, .string ⟨#[]⟩, .slice none 0 0], .struct [0, 1, 2, 3, 4, 5] [1, 1, 1, 1, 1, 1]⟩ := ⟨by kernel_rfl, by kernel_rfl, by kernel_rfl⟩
theorem ty139 : Eng.TIok Try.prog 139 ⟨1, .nilFunc, .one⟩ := ⟨by kernel_rfl, by kernel_rfl, by kernel_rfl⟩
theorem ty146 : Eng.TIok Try.prog 146 ⟨1, .nilFunc, .one⟩ := ⟨by kernel_rfl, by kernel_rfl, by kernel_rfl⟩
theorem ty148 : Eng.TIok Try.prog 148 ⟨1, .nilFunc, .one⟩ := ⟨by kernel_rfl, by kernel_rfl, by kernel_rfl⟩
theorem ty155 : Eng.TIok Try.prog 155 ⟨1, .nilFunc, .one⟩ := ⟨by kernel_rfl, by kernel_rfl, by kernel_rfl⟩
theorem ty161 : Eng.TIok Try.prog 161 ⟨1, .nilFunc, .one⟩ := ⟨by kernel_rfl, by kernel_rfl, by kernel_rfl⟩
theorem ty121 : Eng.TIok Try.prog 121 ⟨5, .agg #[.int .i64 0, .int .u8 0, .string ⟨#[]⟩, .string ⟨#[]⟩, .slice none 0 0], .struct [0, 1, 2, 3, 4] [1, 1, 1, 1, 1]⟩ := ⟨by kernel_rfl, by kernel_rfl, by kernel_rfl⟩
theorem ty157 : Eng.TIok Try.prog 157 ⟨1, .nilFunc, .one⟩ := ⟨by kernel_rfl, by kernel_rfl, by kernel_rfl⟩
theorem ty172 : Eng.TIok Try.prog 172 ⟨1, .int .u8 0, .int .u8⟩ := ⟨by kernel_rfl, by kernel_rfl, by kernel_rfl⟩
theorem ty175 : Eng.TIok Try.prog 175 ⟨1, .pointer none, .one⟩ := ⟨by kernel_rfl, by kernel_rfl, by kernel_rfl⟩
theorem ty178 : Eng.TIok Try.prog 178 ⟨11, .agg #[.int .u64 0, .int .u64 0, .int .u32 0, .int .u8 0, .int .u8 0, .int .u8 0, .int .u8 0, .nilFunc, .pointer none, .int .i32 0, .int .i32 0], .struct [0, 1, 2, 3, 4, 5, 6, 7, 8, 9, 10] [1, 1, 1, 1, 1, 1, 1, 1, 1, 1, 1]⟩ := ⟨by kernel_rfl, by kernel_rfl, by kernel_rfl⟩
theorem ty147 : Eng.TIok Try.prog 147 ⟨1, .nilFunc, .one⟩ := ⟨by kernel_rfl, by kernel_rfl, by kernel_rfl⟩
theorem ty179 : Eng.TIok Try.prog 179 ⟨11, .agg #[.int .u64 0, .int .u64 0, .int .u32 0, .int .u8 0, .int .u8 0, .int .u8 0, .int .u8 0, .nilFunc, .pointer none, .int .i32 0, .int .i32 0], .struct [0, 1, 2, 3, 4, 5, 6, 7, 8, 9, 10] [1, 1, 1, 1, 1, 1, 1, 1, 1, 1, 1]⟩ := ⟨by kernel_rfl, by kernel_rfl, by kernel_rfl⟩
def tab : List (Nat × Eng.TI) := [(1, ⟨1, .nilFunc, .one⟩),
  (3, ⟨1, .int .i64 0, .int .i64⟩),
  (4, ⟨1, .bool false, .one⟩),
  (2, ⟨1, .int .i64 0, .int .i64⟩),
  (5, ⟨1, .int .u8 0, .int .u8⟩),
  (8, ⟨4, .agg #[.int .i64 0, .int .i64 0, .bool false, .int .u8 0], .struct [0, 1, 2, 3] [1, 1, 1, 1]⟩),
  (34, ⟨1, .slice none 0 0, .slice 3 1 8⟩),
  (32, ⟨1, .slice none 0 0, .slice 37 5 40⟩),
  (37, ⟨5, .agg #[.int .i64 0, .int .u8 0, .int .i64 0, .int .i64 0, .int .u8 0], .struct [0, 1, 2, 3, 4] [1, 1, 1, 1, 1]⟩),
  (30, ⟨4, .agg #[.slice none 0 0, .slice none 0 0, .slice none 0 0, .slice none 0 0], .struct [0, 1, 2, 3] [1, 1, 1, 1]⟩),
  (6, ⟨1, .int .u8 0, .int .u8⟩),
  (47, ⟨1, .int .i64 0, .int .i64⟩),
  (7, ⟨4, .agg #[.int .i64 0, .int .i64 0, .bool false, .int .u8 0], .struct [0, 1, 2, 3] [1, 1, 1, 1]⟩),
  (9, ⟨1, .string ⟨#[]⟩, .str⟩),
  (20, ⟨1, .nilIface, .one⟩),
  (39, ⟨8, .agg #[.int .i64 0, .int .i64 0, .int .i64 0, .int .i64 0, .string ⟨#[]⟩, .string ⟨#[]⟩, .int .i64 0, .int .i64 0], .struct [0, 1, 2, 3, 4, 5, 6, 7] [1, 1, 1, 1, 1, 1, 1, 1]⟩),
  (12, ⟨1, .int .u64 0, .int .u64⟩),
  (28, ⟨1, .slice none 0 0, .slice 39 8 80⟩),
  (14, ⟨2, .agg #[.string ⟨#[]⟩, .int .u64 0], .struct [0, 1] [1, 1]⟩),
  (10, ⟨1, .string ⟨#[]⟩, .str⟩),
  (26, ⟨1, .slice none 0 0, .slice 126 6 88⟩),
  (13, ⟨2, .agg #[.string ⟨#[]⟩, .int .u64 0], .struct [0, 1] [1, 1]⟩),
  (25, ⟨1, .slice none 0 0, .slice 122 5 72⟩),
  (11, ⟨1, .string ⟨#[]⟩, .str⟩),
  (24, ⟨1, .int .u16 0, .int .u16⟩),
  (15, ⟨1, .pointer none, .one⟩),
  (120, ⟨1, .slice none 0 0, .slice 9 1 16⟩),
  (126, ⟨6, .agg #[.int .i64 0, .int .i64 0, .string ⟨#[]⟩, .string ⟨#[]⟩, .string ⟨#[]⟩, .slice none 0 0], .struct [0, 1, 2, 3, 4, 5] [1, 1, 1, 1, 1, 1]⟩),
  (27, ⟨1, .slice none 0 0, .slice 130 7 64⟩),
  (122, ⟨5, .agg #[.int .i64 0, .int .u8 0, .string ⟨#[]⟩, .string ⟨#[]⟩, .slice none 0 0], .struct [0, 1, 2, 3, 4] [1, 1, 1, 1, 1]⟩),
  (17, ⟨1, .pointer none, .one⟩),
  (16, ⟨1, .pointer none, .one⟩),
  (18, ⟨1, .agg #[.pointer none], .struct [0] [1]⟩),
  (23, ⟨1, .slice none 0 0, .slice 5 1 1⟩),
  (115, ⟨1, .int .u64 0, .int .u64⟩),
  (22, ⟨1, .slice none 0 0, .slice 44 4 4⟩),
  (44, ⟨4, .agg #[.int .u8 0, .int .u8 0, .int .u8 0, .int .u8 0], .struct [0, 1, 2, 3] [1, 1, 1, 1]⟩),
  (40, ⟨1, .nilFunc, .one⟩),
  (85, ⟨13, .agg #[.int .i64 0, .int .i64 0, .int .i64 0, .int .i64 0, .int .i64 0, .int .i64 0, .int .i64 0, .int .i64 0, .int .i64 0, .int .i64 0, .int .i64 0, .int .i64 0, .int .i64 0], .arr 13 3 1⟩),
  (19, ⟨1, .agg #[.pointer none], .struct [0] [1]⟩),
  (72, ⟨1, .nilFunc, .one⟩),
  (31, ⟨1, .nilFunc, .one⟩),
  (100, ⟨1, .nilFunc, .one⟩),
  (141, ⟨1, .nilFunc, .one⟩),
  (76, ⟨1, .map none, .map 3 32⟩),
  (92, ⟨1, .nilFunc, .one⟩),
  (21, ⟨1, .int .i32 0, .int .i32⟩),
  (33, ⟨1, .nilFunc, .one⟩),
  (152, ⟨1, .int .u64 0, .int .u64⟩),
  (160, ⟨1, .pointer none, .one⟩),
  (88, ⟨1, .pointer none, .one⟩),
  (97, ⟨1, .nilFunc, .one⟩),
  (130, ⟨7, .agg #[.int .i64 0, .int .i64 0, .int .i64 0, .int .i64 0, .int .u8 0, .string ⟨#[]⟩, .int .i64 0], .struct [0, 1, 2, 3, 4, 5, 6] [1, 1, 1, 1, 1, 1, 1]⟩),
  (156, ⟨1, .int .u64 0, .int .u64⟩),
  (84, ⟨1, .nilFunc, .one⟩),
  (87, ⟨1, .nilFunc, .one⟩),
  (64, ⟨1, .nilFunc, .one⟩),
  (79, ⟨1, .map none, .map 3 39⟩),
  (150, ⟨1, .int .u32 0, .int .u32⟩),
  (165, ⟨1, .nilFunc, .one⟩),
  (35, ⟨1, .nilFunc, .one⟩),
  (41, ⟨1, .nilFunc, .one⟩),
  (81, ⟨1, .nilFunc, .one⟩),
  (133, ⟨1, .nilFunc, .one⟩),
  (142, ⟨1, .nilFunc, .one⟩),
  (143, ⟨1, .int .i64 0, .int .i64⟩),
  (51, ⟨1, .nilFunc, .one⟩),
  (49, ⟨1, .nilFunc, .one⟩),
  (77, ⟨1, .nilFunc, .one⟩),
  (86, ⟨1, .nilFunc, .one⟩),
  (29, ⟨4, .agg #[.slice none 0 0, .slice none 0 0, .slice none 0 0, .slice none 0 0], .struct [0, 1, 2, 3] [1, 1, 1, 1]⟩),
  (82, ⟨1, .nilFunc, .one⟩),
  (91, ⟨1, .nilFunc, .one⟩),
  (93, ⟨1, .nilFunc, .one⟩),
  (110, ⟨1, .nilFunc, .one⟩),
  (38, ⟨8, .agg #[.int .i64 0, .int .i64 0, .int .i64 0, .int .i64 0, .string ⟨#[]⟩, .string ⟨#[]⟩, .int .i64 0, .int .i64 0], .struct [0, 1, 2, 3, 4, 5, 6, 7] [1, 1, 1, 1, 1, 1, 1, 1]⟩),
  (63, ⟨1, .nilFunc, .one⟩),
  (68, ⟨1, .nilFunc, .one⟩),
  (80, ⟨1, .nilFunc, .one⟩),
  (101, ⟨1, .nilFunc, .one⟩),
  (118, ⟨1, .nilFunc, .one⟩),
  (131, ⟨1, .nilFunc, .one⟩),
  (163, ⟨1, .pointer none, .one⟩),
  (67, ⟨1, .nilFunc, .one⟩),
  (70, ⟨1, .nilFunc, .one⟩),
  (75, ⟨1, .nilFunc, .one⟩),
  (96, ⟨1, .nilFunc, .one⟩),
  (36, ⟨5, .agg #[.int .i64 0, .int .u8 0, .int .i64 0, .int .i64 0, .int .u8 0], .struct [0, 1, 2, 3, 4] [1, 1, 1, 1, 1]⟩),
  (55, ⟨1, .nilFunc, .one⟩),
  (106, ⟨1, .nilFunc, .one⟩),
  (111, ⟨1, .nilFunc, .one⟩),
  (128, ⟨1, .nilFunc, .one⟩),
  (42, ⟨1, .nilFunc, .one⟩),
  (43, ⟨4, .agg #[.int .u8 0, .int .u8 0, .int .u8 0, .int .u8 0], .struct [0, 1, 2, 3] [1, 1, 1, 1]⟩),
  (52, ⟨1, .nilFunc, .one⟩),
  (53, ⟨1, .nilFunc, .one⟩),
  (65, ⟨1, .nilFunc, .one⟩),
  (90, ⟨1, .nilFunc, .one⟩),
  (95, ⟨1, .nilFunc, .one⟩),
  (98, ⟨1, .nilFunc, .one⟩),
  (103, ⟨1, .nilFunc, .one⟩),
  (124, ⟨1, .nilFunc, .one⟩),
  (138, ⟨1, .nilFunc, .one⟩),
  (166, ⟨4, .agg #[.pointer none, .pointer none, .pointer none, .string ⟨#[]⟩], .struct [0, 1, 2, 3] [1, 1, 1, 1]⟩),
  (58, ⟨1, .nilFunc, .one⟩),
  (60, ⟨1, .nilFunc, .one⟩),
  (61, ⟨1, .nilFunc, .one⟩),
  (66, ⟨1, .nilFunc, .one⟩),
  (73, ⟨1, .nilFunc, .one⟩),
  (83, ⟨1, .nilFunc, .one⟩),
  (104, ⟨1, .nilFunc, .one⟩),
  (108, ⟨1, .nilFunc, .one⟩),
  (109, ⟨1, .nilFunc, .one⟩),
  (119, ⟨1, .nilFunc, .one⟩),
  (123, ⟨1, .nilFunc, .one⟩),
  (137, ⟨1, .nilFunc, .one⟩),
  (145, ⟨1, .nilFunc, .one⟩),
  (154, ⟨1, .nilFunc, .one⟩),
  (159, ⟨1, .nilFunc, .one⟩),
  (46, ⟨1, .nilFunc, .one⟩),
  (59, ⟨1, .nilFunc, .one⟩),
  (78, ⟨1, .nilFunc, .one⟩),
  (89, ⟨1, .nilFunc, .one⟩),
  (99, ⟨1, .nilFunc, .one⟩),
  (113, ⟨1, .nilFunc, .one⟩),
  (117, ⟨1, .nilFunc, .one⟩),
  (132, ⟨1, .nilFunc, .one⟩),
  (140, ⟨1, .nilFunc, .one⟩),
  (151, ⟨1, .nilFunc, .one⟩),
  (153, ⟨1, .nilFunc, .one⟩),
  (114, ⟨1, .nilFunc, .one⟩),
  (127, ⟨1, .nilFunc, .one⟩),
  (149, ⟨1, .nilFunc, .one⟩),
  (158, ⟨1, .nilFunc, .one⟩),
  (174, ⟨1, .nilFunc, .one⟩),
  (176, ⟨1, .int .i32 0, .int .i32⟩),
  (177, ⟨1, .int .i32 0, .int .i32⟩),
  (45, ⟨1, .nilFunc, .one⟩),
  (57, ⟨1, .nilFunc, .one⟩),
  (71, ⟨1, .nilFunc, .one⟩),
  (129, ⟨7, .agg #[.int .i64 0, .int .i64 0, .int .i64 0, .int .i64 0, .int .u8 0, .string ⟨#[]⟩, .int .i64 0], .struct [0, 1, 2, 3, 4, 5, 6] [1, 1, 1, 1, 1, 1, 1]⟩),
  (135, ⟨1, .nilFunc, .one⟩),
  (136, ⟨1, .nilFunc, .one⟩),
  (162, ⟨1, .nilFunc, .one⟩),
  (164, ⟨1, .nilFunc, .one⟩),
  (167, ⟨4, .agg #[.pointer none, .pointer none, .pointer none, .string ⟨#[]⟩], .struct [0, 1, 2, 3] [1, 1, 1, 1]⟩),
  (171, ⟨1, .nilFunc, .one⟩),
  (173, ⟨1, .int .u8 0, .int .u8⟩),
  (105, ⟨1, .nilFunc, .one⟩),
  (125, ⟨6, .agg #[.int .i64 0, .int .i64 0, .string ⟨#[]⟩, .string ⟨#[]⟩, .string ⟨#[]⟩, .slice none 0 0], .struct [0, 1, 2, 3, 4, 5] [1, 1, 1, 1, 1, 1]⟩),
  (139, ⟨1, .nilFunc, .one⟩),
  (146, ⟨1, .nilFunc, .one⟩),
  (148, ⟨1, .nilFunc, .one⟩),
  (155, ⟨1, .nilFunc, .one⟩),
  (161, ⟨1, .nilFunc, .one⟩),
  (121, ⟨5, .agg #[.int .i64 0, .int .u8 0, .string ⟨#[]⟩, .string ⟨#[]⟩, .slice none 0 0], .struct [0, 1, 2, 3, 4] [1, 1, 1, 1, 1]⟩),
  (157, ⟨1, .nilFunc, .one⟩),
  (172, ⟨1, .int .u8 0, .int .u8⟩),
  (175, ⟨1, .pointer none, .one⟩),
  (178, ⟨11, .agg #[.int .u64 0, .int .u64 0, .int .u32 0, .int .u8 0, .int .u8 0, .int .u8 0, .int .u8 0, .nilFunc, .pointer none, .int .i32 0, .int .i32 0], .struct [0, 1, 2, 3, 4, 5, 6, 7, 8, 9, 10] [1, 1, 1, 1, 1, 1, 1, 1, 1, 1, 1]⟩),
  (147, ⟨1, .nilFunc, .one⟩),
  (179, ⟨11, .agg #[.int .u64 0, .int .u64 0, .int .u32 0, .int .u8 0, .int .u8 0, .int .u8 0, .int .u8 0, .nilFunc, .pointer none, .int .i32 0, .int .i32 0], .struct [0, 1, 2, 3, 4, 5, 6, 7, 8, 9, 10] [1, 1, 1, 1, 1, 1, 1, 1, 1, 1, 1]⟩)]
theorem tab_ok : Eng.TabOk Try.prog tab := ⟨ty1, ty3, ty4, ty2, ty5, ty8, ty34, ty32, ty37, ty30, ty6, ty47, ty7, ty9, ty20, ty39, ty12, ty28, ty14, ty10, ty26, ty13, ty25, ty11, ty24, ty15, ty120, ty126, ty27, ty122, ty17, ty16, ty18, ty23, ty115, ty22, ty44, ty40, ty85, ty19, ty72, ty31, ty100, ty141, ty76, ty92, ty21, ty33, ty152, ty160, ty88, ty97, ty130, ty156, ty84, ty87, ty64, ty79, ty150, ty165, ty35, ty41, ty81, ty133, ty142, ty143, ty51, ty49, ty77, ty86, ty29, ty82, ty91, ty93, ty110, ty38, ty63, ty68, ty80, ty101, ty118, ty131, ty163, ty67, ty70, ty75, ty96, ty36, ty55, ty106, ty111, ty128, ty42, ty43, ty52, ty53, ty65, ty90, ty95, ty98, ty103, ty124, ty138, ty166, ty58, ty60, ty61, ty66, ty73, ty83, ty104, ty108, ty109, ty119, ty123, ty137, ty145, ty154, ty159, ty46, ty59, ty78, ty89, ty99, ty113, ty117, ty132, ty140, ty151, ty153, ty114, ty127, ty149, ty158, ty174, ty176, ty177, ty45, ty57, ty71, ty129, ty135, ty136, ty162, ty164, ty167, ty171, ty173, ty105, ty125, ty139, ty146, ty148, ty155, ty161, ty121, ty157, ty172, ty175, ty178, ty147, ty179, trivial⟩
def fns : Nat × Nat := (3, 120)
theorem fns_ok : Eng.Callables Try.prog fns := by unfold Eng.Callables; kernel_rfl
theorem mixed : Try.prog.follows .mixedOrders = true := by kernel_rfl
end Go.Proofs.Ytbejfbekamikpaa
