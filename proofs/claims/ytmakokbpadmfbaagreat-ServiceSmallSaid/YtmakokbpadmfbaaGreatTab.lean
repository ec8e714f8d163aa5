/-
  The types and the functions of this translation, as the engine's tables (printed by a program).
-/
import Derived.Test.YtmakokbpadmfbaaGreatEngCoreB
import Derived.Test.YtmakokbpadmfbaaGreatProg
import Derived.KernelRfl
namespace Go.Proofs.YtmakokbpadmfbaaGreat
theorem ty1 : Eng.TIok Tryz.prog 1 ⟨1, .nilFunc, .one⟩ := ⟨by kernel_rfl, by kernel_rfl, by kernel_rfl⟩
theorem ty3 : Eng.TIok Tryz.prog 3 ⟨1, .int .i64 0, .int .i64⟩ := ⟨by kernel_rfl, by kernel_rfl, by kernel_rfl⟩
theorem ty4 : Eng.TIok Tryz.prog 4 ⟨1, .bool false, .one⟩ := ⟨by kernel_rfl, by kernel_rfl, by kernel_rfl⟩
theorem ty2 : Eng.TIok Tryz.prog 2 ⟨1, .int .i64 0, .int .i64⟩ := ⟨by kernel_rfl, by kernel_rfl, by kernel_rfl⟩
theorem ty8 : Eng.TIok Tryz.prog 8 ⟨4, .agg #[.int .i64 0, .int .i64 0, .bool false, .int .u8 0], .struct [0, 1, 2, 3] [1, 1, 1, 1]⟩ := ⟨by kernel_rfl, by kernel_rfl, by kernel_rfl⟩
theorem ty5 : Eng.TIok Tryz.prog 5 ⟨1, .int .u8 0, .int .u8⟩ := ⟨by kernel_rfl, by kernel_rfl, by kernel_rfl⟩
theorem ty53 : Eng.TIok Tryz.prog 53 ⟨1, .slice none 0 0, .slice 92 1 4⟩ := ⟨by kernel_rfl, by kernel_rfl, by kernel_rfl⟩
theorem ty6 : Eng.TIok Tryz.prog 6 ⟨1, .int .u8 0, .int .u8⟩ := ⟨by kernel_rfl, by kernel_rfl, by kernel_rfl⟩
theorem ty31 : Eng.TIok Tryz.prog 31 ⟨1, .int .i64 0, .int .i64⟩ := ⟨by kernel_rfl, by kernel_rfl, by kernel_rfl⟩
theorem ty7 : Eng.TIok Tryz.prog 7 ⟨4, .agg #[.int .i64 0, .int .i64 0, .bool false, .int .u8 0], .struct [0, 1, 2, 3] [1, 1, 1, 1]⟩ := ⟨by kernel_rfl, by kernel_rfl, by kernel_rfl⟩
theorem ty45 : Eng.TIok Tryz.prog 45 ⟨6, .agg #[.int .i64 0, .int .u8 0, .int .i64 0, .int .i64 0, .int .i64 0, .int .i64 0], .struct [0, 1, 2, 3, 4, 5] [1, 1, 1, 1, 1, 1]⟩ := ⟨by kernel_rfl, by kernel_rfl, by kernel_rfl⟩
theorem ty67 : Eng.TIok Tryz.prog 67 ⟨1, .slice none 0 0, .slice 3 1 8⟩ := ⟨by kernel_rfl, by kernel_rfl, by kernel_rfl⟩
theorem ty35 : Eng.TIok Tryz.prog 35 ⟨9, .agg #[.int .u8 0, .int .i64 0, .int .i64 0, .int .i64 0, .int .i64 0, .int .i64 0, .int .i64 0, .int .i64 0, .int .i64 0], .struct [0, 1, 2, 3, 4, 5, 6, 7, 8] [1, 1, 1, 1, 1, 1, 1, 1, 1]⟩ := ⟨by kernel_rfl, by kernel_rfl, by kernel_rfl⟩
theorem ty24 : Eng.TIok Tryz.prog 24 ⟨1, .slice none 0 0, .slice 43 4 32⟩ := ⟨by kernel_rfl, by kernel_rfl, by kernel_rfl⟩
theorem ty25 : Eng.TIok Tryz.prog 25 ⟨1, .slice none 0 0, .slice 45 6 48⟩ := ⟨by kernel_rfl, by kernel_rfl, by kernel_rfl⟩
theorem ty92 : Eng.TIok Tryz.prog 92 ⟨1, .int .u32 0, .int .u32⟩ := ⟨by kernel_rfl, by kernel_rfl, by kernel_rfl⟩
theorem ty9 : Eng.TIok Tryz.prog 9 ⟨1, .string ⟨#[]⟩, .str⟩ := ⟨by kernel_rfl, by kernel_rfl, by kernel_rfl⟩
theorem ty74 : Eng.TIok Tryz.prog 74 ⟨3, .agg #[.int .u8 0, .int .i64 0, .int .i64 0], .struct [0, 1, 2] [1, 1, 1]⟩ := ⟨by kernel_rfl, by kernel_rfl, by kernel_rfl⟩
theorem ty20 : Eng.TIok Tryz.prog 20 ⟨1, .nilIface, .one⟩ := ⟨by kernel_rfl, by kernel_rfl, by kernel_rfl⟩
theorem ty107 : Eng.TIok Tryz.prog 107 ⟨1, .slice none 0 0, .slice 74 3 24⟩ := ⟨by kernel_rfl, by kernel_rfl, by kernel_rfl⟩
theorem ty57 : Eng.TIok Tryz.prog 57 ⟨1, .int .u64 0, .int .u64⟩ := ⟨by kernel_rfl, by kernel_rfl, by kernel_rfl⟩
theorem ty43 : Eng.TIok Tryz.prog 43 ⟨4, .agg #[.int .u8 0, .int .i64 0, .int .i64 0, .int .i64 0], .struct [0, 1, 2, 3] [1, 1, 1, 1]⟩ := ⟨by kernel_rfl, by kernel_rfl, by kernel_rfl⟩
theorem ty10 : Eng.TIok Tryz.prog 10 ⟨1, .string ⟨#[]⟩, .str⟩ := ⟨by kernel_rfl, by kernel_rfl, by kernel_rfl⟩
theorem ty12 : Eng.TIok Tryz.prog 12 ⟨1, .int .u64 0, .int .u64⟩ := ⟨by kernel_rfl, by kernel_rfl, by kernel_rfl⟩
theorem ty11 : Eng.TIok Tryz.prog 11 ⟨1, .string ⟨#[]⟩, .str⟩ := ⟨by kernel_rfl, by kernel_rfl, by kernel_rfl⟩
theorem ty30 : Eng.TIok Tryz.prog 30 ⟨1, .slice none 0 0, .slice 35 9 72⟩ := ⟨by kernel_rfl, by kernel_rfl, by kernel_rfl⟩
theorem ty90 : Eng.TIok Tryz.prog 90 ⟨9, .agg #[.int .u8 0, .int .i64 0, .int .i64 0, .int .i64 0, .int .i64 0, .int .i64 0, .int .i64 0, .int .i64 0, .int .i64 0], .struct [0, 1, 2, 3, 4, 5, 6, 7, 8] [1, 1, 1, 1, 1, 1, 1, 1, 1]⟩ := ⟨by kernel_rfl, by kernel_rfl, by kernel_rfl⟩
theorem ty13 : Eng.TIok Tryz.prog 13 ⟨2, .agg #[.string ⟨#[]⟩, .int .u64 0], .struct [0, 1] [1, 1]⟩ := ⟨by kernel_rfl, by kernel_rfl, by kernel_rfl⟩
theorem ty14 : Eng.TIok Tryz.prog 14 ⟨2, .agg #[.string ⟨#[]⟩, .int .u64 0], .struct [0, 1] [1, 1]⟩ := ⟨by kernel_rfl, by kernel_rfl, by kernel_rfl⟩
theorem ty16 : Eng.TIok Tryz.prog 16 ⟨1, .pointer none, .one⟩ := ⟨by kernel_rfl, by kernel_rfl, by kernel_rfl⟩
theorem ty17 : Eng.TIok Tryz.prog 17 ⟨1, .pointer none, .one⟩ := ⟨by kernel_rfl, by kernel_rfl, by kernel_rfl⟩
theorem ty111 : Eng.TIok Tryz.prog 111 ⟨1, .nilFunc, .one⟩ := ⟨by kernel_rfl, by kernel_rfl, by kernel_rfl⟩
theorem ty15 : Eng.TIok Tryz.prog 15 ⟨1, .pointer none, .one⟩ := ⟨by kernel_rfl, by kernel_rfl, by kernel_rfl⟩
theorem ty22 : Eng.TIok Tryz.prog 22 ⟨1, .slice none 0 0, .slice 41 4 8⟩ := ⟨by kernel_rfl, by kernel_rfl, by kernel_rfl⟩
theorem ty95 : Eng.TIok Tryz.prog 95 ⟨1, .int .u64 0, .int .u64⟩ := ⟨by kernel_rfl, by kernel_rfl, by kernel_rfl⟩
theorem ty99 : Eng.TIok Tryz.prog 99 ⟨1, .slice none 0 0, .slice 90 9 72⟩ := ⟨by kernel_rfl, by kernel_rfl, by kernel_rfl⟩
theorem ty33 : Eng.TIok Tryz.prog 33 ⟨1, .nilFunc, .one⟩ := ⟨by kernel_rfl, by kernel_rfl, by kernel_rfl⟩
theorem ty18 : Eng.TIok Tryz.prog 18 ⟨1, .agg #[.pointer none], .struct [0] [1]⟩ := ⟨by kernel_rfl, by kernel_rfl, by kernel_rfl⟩
theorem ty149 : Eng.TIok Tryz.prog 149 ⟨1, .int .i64 0, .int .i64⟩ := ⟨by kernel_rfl, by kernel_rfl, by kernel_rfl⟩
theorem ty19 : Eng.TIok Tryz.prog 19 ⟨1, .agg #[.pointer none], .struct [0] [1]⟩ := ⟨by kernel_rfl, by kernel_rfl, by kernel_rfl⟩
theorem ty177 : Eng.TIok Tryz.prog 177 ⟨1, .pointer none, .one⟩ := ⟨by kernel_rfl, by kernel_rfl, by kernel_rfl⟩
theorem ty21 : Eng.TIok Tryz.prog 21 ⟨1, .int .i32 0, .int .i32⟩ := ⟨by kernel_rfl, by kernel_rfl, by kernel_rfl⟩
theorem ty29 : Eng.TIok Tryz.prog 29 ⟨1, .nilFunc, .one⟩ := ⟨by kernel_rfl, by kernel_rfl, by kernel_rfl⟩
theorem ty41 : Eng.TIok Tryz.prog 41 ⟨4, .agg #[.int .u8 0, .int .u16 0, .int .u16 0, .bool false], .struct [0, 1, 2, 3] [1, 1, 1, 1]⟩ := ⟨by kernel_rfl, by kernel_rfl, by kernel_rfl⟩
theorem ty108 : Eng.TIok Tryz.prog 108 ⟨1, .pointer none, .one⟩ := ⟨by kernel_rfl, by kernel_rfl, by kernel_rfl⟩
theorem ty68 : Eng.TIok Tryz.prog 68 ⟨1, .nilFunc, .one⟩ := ⟨by kernel_rfl, by kernel_rfl, by kernel_rfl⟩
theorem ty23 : Eng.TIok Tryz.prog 23 ⟨1, .nilFunc, .one⟩ := ⟨by kernel_rfl, by kernel_rfl, by kernel_rfl⟩
theorem ty173 : Eng.TIok Tryz.prog 173 ⟨1, .int .u64 0, .int .u64⟩ := ⟨by kernel_rfl, by kernel_rfl, by kernel_rfl⟩
theorem ty93 : Eng.TIok Tryz.prog 93 ⟨1, .nilFunc, .one⟩ := ⟨by kernel_rfl, by kernel_rfl, by kernel_rfl⟩
theorem ty119 : Eng.TIok Tryz.prog 119 ⟨3, .agg #[.int .i64 0, .int .i64 0, .int .i64 0], .struct [0, 1, 2] [1, 1, 1]⟩ := ⟨by kernel_rfl, by kernel_rfl, by kernel_rfl⟩
theorem ty127 : Eng.TIok Tryz.prog 127 ⟨1, .nilFunc, .one⟩ := ⟨by kernel_rfl, by kernel_rfl, by kernel_rfl⟩
theorem ty34 : Eng.TIok Tryz.prog 34 ⟨9, .agg #[.int .u8 0, .int .i64 0, .int .i64 0, .int .i64 0, .int .i64 0, .int .i64 0, .int .i64 0, .int .i64 0, .int .i64 0], .struct [0, 1, 2, 3, 4, 5, 6, 7, 8] [1, 1, 1, 1, 1, 1, 1, 1, 1]⟩ := ⟨by kernel_rfl, by kernel_rfl, by kernel_rfl⟩
theorem ty27 : Eng.TIok Tryz.prog 27 ⟨1, .nilFunc, .one⟩ := ⟨by kernel_rfl, by kernel_rfl, by kernel_rfl⟩
theorem ty79 : Eng.TIok Tryz.prog 79 ⟨1, .nilFunc, .one⟩ := ⟨by kernel_rfl, by kernel_rfl, by kernel_rfl⟩
theorem ty72 : Eng.TIok Tryz.prog 72 ⟨1, .nilFunc, .one⟩ := ⟨by kernel_rfl, by kernel_rfl, by kernel_rfl⟩
theorem ty80 : Eng.TIok Tryz.prog 80 ⟨1, .nilFunc, .one⟩ := ⟨by kernel_rfl, by kernel_rfl, by kernel_rfl⟩
theorem ty82 : Eng.TIok Tryz.prog 82 ⟨1, .nilFunc, .one⟩ := ⟨by kernel_rfl, by kernel_rfl, by kernel_rfl⟩
theorem ty102 : Eng.TIok Tryz.prog 102 ⟨1, .nilFunc, .one⟩ := ⟨by kernel_rfl, by kernel_rfl, by kernel_rfl⟩
theorem ty28 : Eng.TIok Tryz.prog 28 ⟨1, .nilFunc, .one⟩ := ⟨by kernel_rfl, by kernel_rfl, by kernel_rfl⟩
theorem ty69 : Eng.TIok Tryz.prog 69 ⟨1, .nilFunc, .one⟩ := ⟨by kernel_rfl, by kernel_rfl, by kernel_rfl⟩
theorem ty44 : Eng.TIok Tryz.prog 44 ⟨6, .agg #[.int .i64 0, .int .u8 0, .int .i64 0, .int .i64 0, .int .i64 0, .int .i64 0], .struct [0, 1, 2, 3, 4, 5] [1, 1, 1, 1, 1, 1]⟩ := ⟨by kernel_rfl, by kernel_rfl, by kernel_rfl⟩
theorem ty47 : Eng.TIok Tryz.prog 47 ⟨1, .nilFunc, .one⟩ := ⟨by kernel_rfl, by kernel_rfl, by kernel_rfl⟩
theorem ty51 : Eng.TIok Tryz.prog 51 ⟨1, .nilFunc, .one⟩ := ⟨by kernel_rfl, by kernel_rfl, by kernel_rfl⟩
theorem ty58 : Eng.TIok Tryz.prog 58 ⟨1, .nilFunc, .one⟩ := ⟨by kernel_rfl, by kernel_rfl, by kernel_rfl⟩
theorem ty60 : Eng.TIok Tryz.prog 60 ⟨1, .nilFunc, .one⟩ := ⟨by kernel_rfl, by kernel_rfl, by kernel_rfl⟩
theorem ty70 : Eng.TIok Tryz.prog 70 ⟨8, .agg #[.int .i64 0, .int .u8 0, .int .i64 0, .int .i64 0, .int .i64 0, .int .i64 0, .int .i64 0, .int .u8 0], .struct [0, 6, 7] [6, 1, 1]⟩ := ⟨by kernel_rfl, by kernel_rfl, by kernel_rfl⟩
theorem ty188 : Eng.TIok Tryz.prog 188 ⟨1, .slice none 0 0, .slice 67 1 24⟩ := ⟨by kernel_rfl, by kernel_rfl, by kernel_rfl⟩
theorem ty40 : Eng.TIok Tryz.prog 40 ⟨4, .agg #[.int .u8 0, .int .u16 0, .int .u16 0, .bool false], .struct [0, 1, 2, 3] [1, 1, 1, 1]⟩ := ⟨by kernel_rfl, by kernel_rfl, by kernel_rfl⟩
theorem ty48 : Eng.TIok Tryz.prog 48 ⟨1, .nilFunc, .one⟩ := ⟨by kernel_rfl, by kernel_rfl, by kernel_rfl⟩
theorem ty49 : Eng.TIok Tryz.prog 49 ⟨1, .nilFunc, .one⟩ := ⟨by kernel_rfl, by kernel_rfl, by kernel_rfl⟩
theorem ty76 : Eng.TIok Tryz.prog 76 ⟨1, .nilFunc, .one⟩ := ⟨by kernel_rfl, by kernel_rfl, by kernel_rfl⟩
theorem ty81 : Eng.TIok Tryz.prog 81 ⟨1, .nilFunc, .one⟩ := ⟨by kernel_rfl, by kernel_rfl, by kernel_rfl⟩
theorem ty163 : Eng.TIok Tryz.prog 163 ⟨1, .nilFunc, .one⟩ := ⟨by kernel_rfl, by kernel_rfl, by kernel_rfl⟩
theorem ty168 : Eng.TIok Tryz.prog 168 ⟨1, .nilFunc, .one⟩ := ⟨by kernel_rfl, by kernel_rfl, by kernel_rfl⟩
theorem ty198 : Eng.TIok Tryz.prog 198 ⟨1, .nilFunc, .one⟩ := ⟨by kernel_rfl, by kernel_rfl, by kernel_rfl⟩
theorem ty37 : Eng.TIok Tryz.prog 37 ⟨1, .nilFunc, .one⟩ := ⟨by kernel_rfl, by kernel_rfl, by kernel_rfl⟩
theorem ty75 : Eng.TIok Tryz.prog 75 ⟨1, .nilFunc, .one⟩ := ⟨by kernel_rfl, by kernel_rfl, by kernel_rfl⟩
theorem ty94 : Eng.TIok Tryz.prog 94 ⟨1, .nilFunc, .one⟩ := ⟨by kernel_rfl, by kernel_rfl, by kernel_rfl⟩
theorem ty106 : Eng.TIok Tryz.prog 106 ⟨1, .map none, .map 74 108⟩ := ⟨by kernel_rfl, by kernel_rfl, by kernel_rfl⟩
theorem ty114 : Eng.TIok Tryz.prog 114 ⟨1, .nilFunc, .one⟩ := ⟨by kernel_rfl, by kernel_rfl, by kernel_rfl⟩
theorem ty117 : Eng.TIok Tryz.prog 117 ⟨1, .nilFunc, .one⟩ := ⟨by kernel_rfl, by kernel_rfl, by kernel_rfl⟩
theorem ty42 : Eng.TIok Tryz.prog 42 ⟨4, .agg #[.int .u8 0, .int .i64 0, .int .i64 0, .int .i64 0], .struct [0, 1, 2, 3] [1, 1, 1, 1]⟩ := ⟨by kernel_rfl, by kernel_rfl, by kernel_rfl⟩
theorem ty55 : Eng.TIok Tryz.prog 55 ⟨1, .nilFunc, .one⟩ := ⟨by kernel_rfl, by kernel_rfl, by kernel_rfl⟩
theorem ty56 : Eng.TIok Tryz.prog 56 ⟨1, .nilFunc, .one⟩ := ⟨by kernel_rfl, by kernel_rfl, by kernel_rfl⟩
theorem ty124 : Eng.TIok Tryz.prog 124 ⟨1, .nilFunc, .one⟩ := ⟨by kernel_rfl, by kernel_rfl, by kernel_rfl⟩
theorem ty142 : Eng.TIok Tryz.prog 142 ⟨1, .nilFunc, .one⟩ := ⟨by kernel_rfl, by kernel_rfl, by kernel_rfl⟩
theorem ty91 : Eng.TIok Tryz.prog 91 ⟨1, .nilFunc, .one⟩ := ⟨by kernel_rfl, by kernel_rfl, by kernel_rfl⟩
theorem ty101 : Eng.TIok Tryz.prog 101 ⟨1, .nilFunc, .one⟩ := ⟨by kernel_rfl, by kernel_rfl, by kernel_rfl⟩
theorem ty115 : Eng.TIok Tryz.prog 115 ⟨1, .nilFunc, .one⟩ := ⟨by kernel_rfl, by kernel_rfl, by kernel_rfl⟩
theorem ty141 : Eng.TIok Tryz.prog 141 ⟨1, .nilFunc, .one⟩ := ⟨by kernel_rfl, by kernel_rfl, by kernel_rfl⟩
theorem ty64 : Eng.TIok Tryz.prog 64 ⟨1, .nilFunc, .one⟩ := ⟨by kernel_rfl, by kernel_rfl, by kernel_rfl⟩
theorem ty148 : Eng.TIok Tryz.prog 148 ⟨1, .nilFunc, .one⟩ := ⟨by kernel_rfl, by kernel_rfl, by kernel_rfl⟩
theorem ty159 : Eng.TIok Tryz.prog 159 ⟨1, .nilFunc, .one⟩ := ⟨by kernel_rfl, by kernel_rfl, by kernel_rfl⟩
theorem ty175 : Eng.TIok Tryz.prog 175 ⟨1, .nilFunc, .one⟩ := ⟨by kernel_rfl, by kernel_rfl, by kernel_rfl⟩
theorem ty96 : Eng.TIok Tryz.prog 96 ⟨1, .nilFunc, .one⟩ := ⟨by kernel_rfl, by kernel_rfl, by kernel_rfl⟩
theorem ty121 : Eng.TIok Tryz.prog 121 ⟨1, .nilFunc, .one⟩ := ⟨by kernel_rfl, by kernel_rfl, by kernel_rfl⟩
theorem ty137 : Eng.TIok Tryz.prog 137 ⟨1, .nilFunc, .one⟩ := ⟨by kernel_rfl, by kernel_rfl, by kernel_rfl⟩
theorem ty145 : Eng.TIok Tryz.prog 145 ⟨1, .nilFunc, .one⟩ := ⟨by kernel_rfl, by kernel_rfl, by kernel_rfl⟩
theorem ty160 : Eng.TIok Tryz.prog 160 ⟨1, .nilFunc, .one⟩ := ⟨by kernel_rfl, by kernel_rfl, by kernel_rfl⟩
theorem ty50 : Eng.TIok Tryz.prog 50 ⟨1, .nilFunc, .one⟩ := ⟨by kernel_rfl, by kernel_rfl, by kernel_rfl⟩
theorem ty83 : Eng.TIok Tryz.prog 83 ⟨1, .nilFunc, .one⟩ := ⟨by kernel_rfl, by kernel_rfl, by kernel_rfl⟩
theorem ty89 : Eng.TIok Tryz.prog 89 ⟨1, .nilFunc, .one⟩ := ⟨by kernel_rfl, by kernel_rfl, by kernel_rfl⟩
theorem ty120 : Eng.TIok Tryz.prog 120 ⟨1, .nilFunc, .one⟩ := ⟨by kernel_rfl, by kernel_rfl, by kernel_rfl⟩
theorem ty122 : Eng.TIok Tryz.prog 122 ⟨1, .map none, .map 3 4⟩ := ⟨by kernel_rfl, by kernel_rfl, by kernel_rfl⟩
theorem ty132 : Eng.TIok Tryz.prog 132 ⟨1, .nilFunc, .one⟩ := ⟨by kernel_rfl, by kernel_rfl, by kernel_rfl⟩
theorem ty155 : Eng.TIok Tryz.prog 155 ⟨1, .nilFunc, .one⟩ := ⟨by kernel_rfl, by kernel_rfl, by kernel_rfl⟩
theorem ty191 : Eng.TIok Tryz.prog 191 ⟨1, .pointer none, .one⟩ := ⟨by kernel_rfl, by kernel_rfl, by kernel_rfl⟩
theorem ty52 : Eng.TIok Tryz.prog 52 ⟨5, .agg #[.int .i64 0, .int .i64 0, .int .i64 0, .int .i64 0, .int .i64 0], .arr 5 3 1⟩ := ⟨by kernel_rfl, by kernel_rfl, by kernel_rfl⟩
theorem ty66 : Eng.TIok Tryz.prog 66 ⟨1, .nilFunc, .one⟩ := ⟨by kernel_rfl, by kernel_rfl, by kernel_rfl⟩
theorem ty71 : Eng.TIok Tryz.prog 71 ⟨1, .slice none 0 0, .slice 70 8 64⟩ := ⟨by kernel_rfl, by kernel_rfl, by kernel_rfl⟩
theorem ty73 : Eng.TIok Tryz.prog 73 ⟨3, .agg #[.int .u8 0, .int .i64 0, .int .i64 0], .struct [0, 1, 2] [1, 1, 1]⟩ := ⟨by kernel_rfl, by kernel_rfl, by kernel_rfl⟩
theorem ty77 : Eng.TIok Tryz.prog 77 ⟨1, .nilFunc, .one⟩ := ⟨by kernel_rfl, by kernel_rfl, by kernel_rfl⟩
theorem ty84 : Eng.TIok Tryz.prog 84 ⟨1, .nilFunc, .one⟩ := ⟨by kernel_rfl, by kernel_rfl, by kernel_rfl⟩
theorem ty85 : Eng.TIok Tryz.prog 85 ⟨1, .nilFunc, .one⟩ := ⟨by kernel_rfl, by kernel_rfl, by kernel_rfl⟩
theorem ty98 : Eng.TIok Tryz.prog 98 ⟨1, .nilFunc, .one⟩ := ⟨by kernel_rfl, by kernel_rfl, by kernel_rfl⟩
theorem ty109 : Eng.TIok Tryz.prog 109 ⟨1, .nilFunc, .one⟩ := ⟨by kernel_rfl, by kernel_rfl, by kernel_rfl⟩
theorem ty116 : Eng.TIok Tryz.prog 116 ⟨1, .nilFunc, .one⟩ := ⟨by kernel_rfl, by kernel_rfl, by kernel_rfl⟩
theorem ty128 : Eng.TIok Tryz.prog 128 ⟨1, .nilFunc, .one⟩ := ⟨by kernel_rfl, by kernel_rfl, by kernel_rfl⟩
theorem ty129 : Eng.TIok Tryz.prog 129 ⟨1, .nilFunc, .one⟩ := ⟨by kernel_rfl, by kernel_rfl, by kernel_rfl⟩
theorem ty144 : Eng.TIok Tryz.prog 144 ⟨1, .nilFunc, .one⟩ := ⟨by kernel_rfl, by kernel_rfl, by kernel_rfl⟩
theorem ty147 : Eng.TIok Tryz.prog 147 ⟨1, .nilFunc, .one⟩ := ⟨by kernel_rfl, by kernel_rfl, by kernel_rfl⟩
theorem ty78 : Eng.TIok Tryz.prog 78 ⟨1, .nilFunc, .one⟩ := ⟨by kernel_rfl, by kernel_rfl, by kernel_rfl⟩
theorem ty88 : Eng.TIok Tryz.prog 88 ⟨1, .nilFunc, .one⟩ := ⟨by kernel_rfl, by kernel_rfl, by kernel_rfl⟩
theorem ty105 : Eng.TIok Tryz.prog 105 ⟨1, .nilFunc, .one⟩ := ⟨by kernel_rfl, by kernel_rfl, by kernel_rfl⟩
theorem ty110 : Eng.TIok Tryz.prog 110 ⟨1, .nilFunc, .one⟩ := ⟨by kernel_rfl, by kernel_rfl, by kernel_rfl⟩
theorem ty125 : Eng.TIok Tryz.prog 125 ⟨1, .nilFunc, .one⟩ := ⟨by kernel_rfl, by kernel_rfl, by kernel_rfl⟩
theorem ty135 : Eng.TIok Tryz.prog 135 ⟨1, .nilFunc, .one⟩ := ⟨by kernel_rfl, by kernel_rfl, by kernel_rfl⟩
theorem ty156 : Eng.TIok Tryz.prog 156 ⟨1, .nilFunc, .one⟩ := ⟨by kernel_rfl, by kernel_rfl, by kernel_rfl⟩
theorem ty39 : Eng.TIok Tryz.prog 39 ⟨1, .int .u16 0, .int .u16⟩ := ⟨by kernel_rfl, by kernel_rfl, by kernel_rfl⟩
theorem ty59 : Eng.TIok Tryz.prog 59 ⟨1, .nilFunc, .one⟩ := ⟨by kernel_rfl, by kernel_rfl, by kernel_rfl⟩
theorem ty61 : Eng.TIok Tryz.prog 61 ⟨1, .nilFunc, .one⟩ := ⟨by kernel_rfl, by kernel_rfl, by kernel_rfl⟩
theorem ty97 : Eng.TIok Tryz.prog 97 ⟨1, .nilFunc, .one⟩ := ⟨by kernel_rfl, by kernel_rfl, by kernel_rfl⟩
theorem ty113 : Eng.TIok Tryz.prog 113 ⟨1, .nilFunc, .one⟩ := ⟨by kernel_rfl, by kernel_rfl, by kernel_rfl⟩
theorem ty126 : Eng.TIok Tryz.prog 126 ⟨1, .nilFunc, .one⟩ := ⟨by kernel_rfl, by kernel_rfl, by kernel_rfl⟩
theorem ty140 : Eng.TIok Tryz.prog 140 ⟨1, .nilFunc, .one⟩ := ⟨by kernel_rfl, by kernel_rfl, by kernel_rfl⟩
theorem ty158 : Eng.TIok Tryz.prog 158 ⟨1, .nilFunc, .one⟩ := ⟨by kernel_rfl, by kernel_rfl, by kernel_rfl⟩
theorem ty164 : Eng.TIok Tryz.prog 164 ⟨1, .nilFunc, .one⟩ := ⟨by kernel_rfl, by kernel_rfl, by kernel_rfl⟩
theorem ty167 : Eng.TIok Tryz.prog 167 ⟨1, .nilFunc, .one⟩ := ⟨by kernel_rfl, by kernel_rfl, by kernel_rfl⟩
theorem ty169 : Eng.TIok Tryz.prog 169 ⟨1, .nilFunc, .one⟩ := ⟨by kernel_rfl, by kernel_rfl, by kernel_rfl⟩
theorem ty179 : Eng.TIok Tryz.prog 179 ⟨1, .nilFunc, .one⟩ := ⟨by kernel_rfl, by kernel_rfl, by kernel_rfl⟩
theorem ty180 : Eng.TIok Tryz.prog 180 ⟨1, .nilFunc, .one⟩ := ⟨by kernel_rfl, by kernel_rfl, by kernel_rfl⟩
theorem ty187 : Eng.TIok Tryz.prog 187 ⟨1, .nilFunc, .one⟩ := ⟨by kernel_rfl, by kernel_rfl, by kernel_rfl⟩
theorem ty65 : Eng.TIok Tryz.prog 65 ⟨1, .nilFunc, .one⟩ := ⟨by kernel_rfl, by kernel_rfl, by kernel_rfl⟩
theorem ty86 : Eng.TIok Tryz.prog 86 ⟨1, .nilFunc, .one⟩ := ⟨by kernel_rfl, by kernel_rfl, by kernel_rfl⟩
theorem ty104 : Eng.TIok Tryz.prog 104 ⟨1, .nilFunc, .one⟩ := ⟨by kernel_rfl, by kernel_rfl, by kernel_rfl⟩
theorem ty112 : Eng.TIok Tryz.prog 112 ⟨1, .nilFunc, .one⟩ := ⟨by kernel_rfl, by kernel_rfl, by kernel_rfl⟩
theorem ty123 : Eng.TIok Tryz.prog 123 ⟨1, .nilFunc, .one⟩ := ⟨by kernel_rfl, by kernel_rfl, by kernel_rfl⟩
theorem ty136 : Eng.TIok Tryz.prog 136 ⟨1, .nilFunc, .one⟩ := ⟨by kernel_rfl, by kernel_rfl, by kernel_rfl⟩
theorem ty138 : Eng.TIok Tryz.prog 138 ⟨1, .slice none 0 0, .slice 119 3 24⟩ := ⟨by kernel_rfl, by kernel_rfl, by kernel_rfl⟩
theorem ty152 : Eng.TIok Tryz.prog 152 ⟨1, .nilFunc, .one⟩ := ⟨by kernel_rfl, by kernel_rfl, by kernel_rfl⟩
theorem ty153 : Eng.TIok Tryz.prog 153 ⟨1, .nilFunc, .one⟩ := ⟨by kernel_rfl, by kernel_rfl, by kernel_rfl⟩
theorem ty162 : Eng.TIok Tryz.prog 162 ⟨1, .nilFunc, .one⟩ := ⟨by kernel_rfl, by kernel_rfl, by kernel_rfl⟩
theorem ty165 : Eng.TIok Tryz.prog 165 ⟨1, .nilFunc, .one⟩ := ⟨by kernel_rfl, by kernel_rfl, by kernel_rfl⟩
theorem ty176 : Eng.TIok Tryz.prog 176 ⟨1, .nilFunc, .one⟩ := ⟨by kernel_rfl, by kernel_rfl, by kernel_rfl⟩
theorem ty178 : Eng.TIok Tryz.prog 178 ⟨1, .nilFunc, .one⟩ := ⟨by kernel_rfl, by kernel_rfl, by kernel_rfl⟩
theorem ty63 : Eng.TIok Tryz.prog 63 ⟨1, .nilFunc, .one⟩ := ⟨by kernel_rfl, by kernel_rfl, by kernel_rfl⟩
theorem ty130 : Eng.TIok Tryz.prog 130 ⟨1, .nilFunc, .one⟩ := ⟨by kernel_rfl, by kernel_rfl, by kernel_rfl⟩
theorem ty131 : Eng.TIok Tryz.prog 131 ⟨1, .nilFunc, .one⟩ := ⟨by kernel_rfl, by kernel_rfl, by kernel_rfl⟩
theorem ty133 : Eng.TIok Tryz.prog 133 ⟨1, .nilFunc, .one⟩ := ⟨by kernel_rfl, by kernel_rfl, by kernel_rfl⟩
theorem ty143 : Eng.TIok Tryz.prog 143 ⟨1, .nilFunc, .one⟩ := ⟨by kernel_rfl, by kernel_rfl, by kernel_rfl⟩
theorem ty146 : Eng.TIok Tryz.prog 146 ⟨1, .nilFunc, .one⟩ := ⟨by kernel_rfl, by kernel_rfl, by kernel_rfl⟩
theorem ty151 : Eng.TIok Tryz.prog 151 ⟨1, .nilFunc, .one⟩ := ⟨by kernel_rfl, by kernel_rfl, by kernel_rfl⟩
theorem ty161 : Eng.TIok Tryz.prog 161 ⟨1, .nilFunc, .one⟩ := ⟨by kernel_rfl, by kernel_rfl, by kernel_rfl⟩
theorem ty171 : Eng.TIok Tryz.prog 171 ⟨1, .nilFunc, .one⟩ := ⟨by kernel_rfl, by kernel_rfl, by kernel_rfl⟩
theorem ty174 : Eng.TIok Tryz.prog 174 ⟨1, .nilFunc, .one⟩ := ⟨by kernel_rfl, by kernel_rfl, by kernel_rfl⟩
theorem ty181 : Eng.TIok Tryz.prog 181 ⟨1, .nilFunc, .one⟩ := ⟨by kernel_rfl, by kernel_rfl, by kernel_rfl⟩
theorem ty183 : Eng.TIok Tryz.prog 183 ⟨1, .nilFunc, .one⟩ := ⟨by kernel_rfl, by kernel_rfl, by kernel_rfl⟩
theorem ty118 : Eng.TIok Tryz.prog 118 ⟨3, .agg #[.int .i64 0, .int .i64 0, .int .i64 0], .struct [0, 1, 2] [1, 1, 1]⟩ := ⟨by kernel_rfl, by kernel_rfl, by kernel_rfl⟩
theorem ty192 : Eng.TIok Tryz.prog 192 ⟨1, .nilFunc, .one⟩ := ⟨by kernel_rfl, by kernel_rfl, by kernel_rfl⟩
theorem ty210 : Eng.TIok Tryz.prog 210 ⟨1, .int .i32 0, .int .i32⟩ := ⟨by kernel_rfl, by kernel_rfl, by kernel_rfl⟩
theorem ty38 : Eng.TIok Tryz.prog 38 ⟨1, .nilFunc, .one⟩ := ⟨by kernel_rfl, by kernel_rfl, by kernel_rfl⟩
theorem ty170 : Eng.TIok Tryz.prog 170 ⟨1, .nilFunc, .one⟩ := ⟨by kernel_rfl, by kernel_rfl, by kernel_rfl⟩
theorem ty172 : Eng.TIok Tryz.prog 172 ⟨1, .nilFunc, .one⟩ := ⟨by kernel_rfl, by kernel_rfl, by kernel_rfl⟩
theorem ty182 : Eng.TIok Tryz.prog 182 ⟨1, .nilFunc, .one⟩ := ⟨by kernel_rfl, by kernel_rfl, by kernel_rfl⟩
theorem ty189 : Eng.TIok Tryz.prog 189 ⟨1, .nilFunc, .one⟩ := ⟨by kernel_rfl, by kernel_rfl, by kernel_rfl⟩
theorem ty190 : Eng.TIok Tryz.prog 190 ⟨1, .nilFunc, .one⟩ := ⟨by kernel_rfl, by kernel_rfl, by kernel_rfl⟩
theorem ty194 : Eng.TIok Tryz.prog 194 ⟨1, .nilFunc, .one⟩ := ⟨by kernel_rfl, by kernel_rfl, by kernel_rfl⟩
theorem ty214 : Eng.TIok Tryz.prog 214 ⟨1, .agg #[.string ⟨#[]⟩], .struct [0] [1]⟩ := ⟨by kernel_rfl, by kernel_rfl, by kernel_rfl⟩
theorem ty62 : Eng.TIok Tryz.prog 62 ⟨1, .nilFunc, .one⟩ := ⟨by kernel_rfl, by kernel_rfl, by kernel_rfl⟩
theorem ty184 : Eng.TIok Tryz.prog 184 ⟨1, .nilFunc, .one⟩ := ⟨by kernel_rfl, by kernel_rfl, by kernel_rfl⟩
theorem ty206 : Eng.TIok Tryz.prog 206 ⟨1, .int .u8 0, .int .u8⟩ := ⟨by kernel_rfl, by kernel_rfl, by kernel_rfl⟩
theorem ty212 : Eng.TIok Tryz.prog 212 ⟨11, .agg #[.int .u64 0, .int .u64 0, .int .u32 0, .int .u8 0, .int .u8 0, .int .u8 0, .int .u8 0, .nilFunc, .pointer none, .int .i32 0, .int .i32 0], .struct [0, 1, 2, 3, 4, 5, 6, 7, 8, 9, 10] [1, 1, 1, 1, 1, 1, 1, 1, 1, 1, 1]⟩ := ⟨by kernel_rfl, by kernel_rfl, by kernel_rfl⟩
theorem ty134 : Eng.TIok Tryz.prog 134 ⟨1, .nilFunc, .one⟩ := ⟨by kernel_rfl, by kernel_rfl, by kernel_rfl⟩
theorem ty193 : Eng.TIok Tryz.prog 193 ⟨1, .nilFunc, .one⟩ := ⟨by kernel_rfl, by kernel_rfl, by kernel_rfl⟩
theorem ty195 : Eng.TIok Tryz.prog 195 ⟨1, .nilIface, .one⟩ := ⟨by kernel_rfl, by kernel_rfl, by kernel_rfl⟩
theorem ty200 : Eng.TIok Tryz.prog 200 ⟨4, .agg #[.pointer none, .pointer none, .pointer none, .string ⟨#[]⟩], .struct [0, 1, 2, 3] [1, 1, 1, 1]⟩ := ⟨by kernel_rfl, by kernel_rfl, by kernel_rfl⟩
theorem ty205 : Eng.TIok Tryz.prog 205 ⟨1, .int .u8 0, .int .u8⟩ := ⟨by kernel_rfl, by kernel_rfl, by kernel_rfl⟩
theorem ty213 : Eng.TIok Tryz.prog 213 ⟨1, .agg #[.string ⟨#[]⟩], .struct [0] [1]⟩ := ⟨by kernel_rfl, by kernel_rfl, by kernel_rfl⟩
theorem ty204 : Eng.TIok Tryz.prog 204 ⟨1, .nilFunc, .one⟩ := ⟨by kernel_rfl, by kernel_rfl, by kernel_rfl⟩
theorem ty209 : Eng.TIok Tryz.prog 209 ⟨1, .int .i32 0, .int .i32⟩ := ⟨by kernel_rfl, by kernel_rfl, by kernel_rfl⟩
theorem ty211 : Eng.TIok Tryz.prog 211 ⟨11, .agg #[.int .u64 0, .int .u64 0, .int .u32 0, .int .u8 0, .int .u8 0, .int .u8 0, .int .u8 0, .nilFunc, .pointer none, .int .i32 0, .int .i32 0], .struct [0, 1, 2, 3, 4, 5, 6, 7, 8, 9, 10] [1, 1, 1, 1, 1, 1, 1, 1, 1, 1, 1]⟩ := ⟨by kernel_rfl, by kernel_rfl, by kernel_rfl⟩
theorem ty185 : Eng.TIok Tryz.prog 185 ⟨1, .nilFunc, .one⟩ := ⟨by kernel_rfl, by kernel_rfl, by kernel_rfl⟩
theorem ty196 : Eng.TIok Tryz.prog 196 ⟨1, .nilIface, .one⟩ := ⟨by kernel_rfl, by kernel_rfl, by kernel_rfl⟩
theorem ty199 : Eng.TIok Tryz.prog 199 ⟨4, .agg #[.pointer none, .pointer none, .pointer none, .string ⟨#[]⟩], .struct [0, 1, 2, 3] [1, 1, 1, 1]⟩ := ⟨by kernel_rfl, by kernel_rfl, by kernel_rfl⟩
theorem ty197 : Eng.TIok Tryz.prog 197 ⟨1, .pointer none, .one⟩ := ⟨by kernel_rfl, by kernel_rfl, by kernel_rfl⟩
theorem ty207 : Eng.TIok Tryz.prog 207 ⟨1, .nilFunc, .one⟩ := ⟨by kernel_rfl, by kernel_rfl, by kernel_rfl⟩
theorem ty208 : Eng.TIok Tryz.prog 208 ⟨1, .pointer none, .one⟩ := ⟨by kernel_rfl, by kernel_rfl, by kernel_rfl⟩
def tab : List (Nat × Eng.TI) := [(1, ⟨1, .nilFunc, .one⟩),
  (3, ⟨1, .int .i64 0, .int .i64⟩),
  (4, ⟨1, .bool false, .one⟩),
  (2, ⟨1, .int .i64 0, .int .i64⟩),
  (8, ⟨4, .agg #[.int .i64 0, .int .i64 0, .bool false, .int .u8 0], .struct [0, 1, 2, 3] [1, 1, 1, 1]⟩),
  (5, ⟨1, .int .u8 0, .int .u8⟩),
  (53, ⟨1, .slice none 0 0, .slice 92 1 4⟩),
  (6, ⟨1, .int .u8 0, .int .u8⟩),
  (31, ⟨1, .int .i64 0, .int .i64⟩),
  (7, ⟨4, .agg #[.int .i64 0, .int .i64 0, .bool false, .int .u8 0], .struct [0, 1, 2, 3] [1, 1, 1, 1]⟩),
  (45, ⟨6, .agg #[.int .i64 0, .int .u8 0, .int .i64 0, .int .i64 0, .int .i64 0, .int .i64 0], .struct [0, 1, 2, 3, 4, 5] [1, 1, 1, 1, 1, 1]⟩),
  (67, ⟨1, .slice none 0 0, .slice 3 1 8⟩),
  (35, ⟨9, .agg #[.int .u8 0, .int .i64 0, .int .i64 0, .int .i64 0, .int .i64 0, .int .i64 0, .int .i64 0, .int .i64 0, .int .i64 0], .struct [0, 1, 2, 3, 4, 5, 6, 7, 8] [1, 1, 1, 1, 1, 1, 1, 1, 1]⟩),
  (24, ⟨1, .slice none 0 0, .slice 43 4 32⟩),
  (25, ⟨1, .slice none 0 0, .slice 45 6 48⟩),
  (92, ⟨1, .int .u32 0, .int .u32⟩),
  (9, ⟨1, .string ⟨#[]⟩, .str⟩),
  (74, ⟨3, .agg #[.int .u8 0, .int .i64 0, .int .i64 0], .struct [0, 1, 2] [1, 1, 1]⟩),
  (20, ⟨1, .nilIface, .one⟩),
  (107, ⟨1, .slice none 0 0, .slice 74 3 24⟩),
  (57, ⟨1, .int .u64 0, .int .u64⟩),
  (43, ⟨4, .agg #[.int .u8 0, .int .i64 0, .int .i64 0, .int .i64 0], .struct [0, 1, 2, 3] [1, 1, 1, 1]⟩),
  (10, ⟨1, .string ⟨#[]⟩, .str⟩),
  (12, ⟨1, .int .u64 0, .int .u64⟩),
  (11, ⟨1, .string ⟨#[]⟩, .str⟩),
  (30, ⟨1, .slice none 0 0, .slice 35 9 72⟩),
  (90, ⟨9, .agg #[.int .u8 0, .int .i64 0, .int .i64 0, .int .i64 0, .int .i64 0, .int .i64 0, .int .i64 0, .int .i64 0, .int .i64 0], .struct [0, 1, 2, 3, 4, 5, 6, 7, 8] [1, 1, 1, 1, 1, 1, 1, 1, 1]⟩),
  (13, ⟨2, .agg #[.string ⟨#[]⟩, .int .u64 0], .struct [0, 1] [1, 1]⟩),
  (14, ⟨2, .agg #[.string ⟨#[]⟩, .int .u64 0], .struct [0, 1] [1, 1]⟩),
  (16, ⟨1, .pointer none, .one⟩),
  (17, ⟨1, .pointer none, .one⟩),
  (111, ⟨1, .nilFunc, .one⟩),
  (15, ⟨1, .pointer none, .one⟩),
  (22, ⟨1, .slice none 0 0, .slice 41 4 8⟩),
  (95, ⟨1, .int .u64 0, .int .u64⟩),
  (99, ⟨1, .slice none 0 0, .slice 90 9 72⟩),
  (33, ⟨1, .nilFunc, .one⟩),
  (18, ⟨1, .agg #[.pointer none], .struct [0] [1]⟩),
  (149, ⟨1, .int .i64 0, .int .i64⟩),
  (19, ⟨1, .agg #[.pointer none], .struct [0] [1]⟩),
  (177, ⟨1, .pointer none, .one⟩),
  (21, ⟨1, .int .i32 0, .int .i32⟩),
  (29, ⟨1, .nilFunc, .one⟩),
  (41, ⟨4, .agg #[.int .u8 0, .int .u16 0, .int .u16 0, .bool false], .struct [0, 1, 2, 3] [1, 1, 1, 1]⟩),
  (108, ⟨1, .pointer none, .one⟩),
  (68, ⟨1, .nilFunc, .one⟩),
  (23, ⟨1, .nilFunc, .one⟩),
  (173, ⟨1, .int .u64 0, .int .u64⟩),
  (93, ⟨1, .nilFunc, .one⟩),
  (119, ⟨3, .agg #[.int .i64 0, .int .i64 0, .int .i64 0], .struct [0, 1, 2] [1, 1, 1]⟩),
  (127, ⟨1, .nilFunc, .one⟩),
  (34, ⟨9, .agg #[.int .u8 0, .int .i64 0, .int .i64 0, .int .i64 0, .int .i64 0, .int .i64 0, .int .i64 0, .int .i64 0, .int .i64 0], .struct [0, 1, 2, 3, 4, 5, 6, 7, 8] [1, 1, 1, 1, 1, 1, 1, 1, 1]⟩),
  (27, ⟨1, .nilFunc, .one⟩),
  (79, ⟨1, .nilFunc, .one⟩),
  (72, ⟨1, .nilFunc, .one⟩),
  (80, ⟨1, .nilFunc, .one⟩),
  (82, ⟨1, .nilFunc, .one⟩),
  (102, ⟨1, .nilFunc, .one⟩),
  (28, ⟨1, .nilFunc, .one⟩),
  (69, ⟨1, .nilFunc, .one⟩),
  (44, ⟨6, .agg #[.int .i64 0, .int .u8 0, .int .i64 0, .int .i64 0, .int .i64 0, .int .i64 0], .struct [0, 1, 2, 3, 4, 5] [1, 1, 1, 1, 1, 1]⟩),
  (47, ⟨1, .nilFunc, .one⟩),
  (51, ⟨1, .nilFunc, .one⟩),
  (58, ⟨1, .nilFunc, .one⟩),
  (60, ⟨1, .nilFunc, .one⟩),
  (70, ⟨8, .agg #[.int .i64 0, .int .u8 0, .int .i64 0, .int .i64 0, .int .i64 0, .int .i64 0, .int .i64 0, .int .u8 0], .struct [0, 6, 7] [6, 1, 1]⟩),
  (188, ⟨1, .slice none 0 0, .slice 67 1 24⟩),
  (40, ⟨4, .agg #[.int .u8 0, .int .u16 0, .int .u16 0, .bool false], .struct [0, 1, 2, 3] [1, 1, 1, 1]⟩),
  (48, ⟨1, .nilFunc, .one⟩),
  (49, ⟨1, .nilFunc, .one⟩),
  (76, ⟨1, .nilFunc, .one⟩),
  (81, ⟨1, .nilFunc, .one⟩),
  (163, ⟨1, .nilFunc, .one⟩),
  (168, ⟨1, .nilFunc, .one⟩),
  (198, ⟨1, .nilFunc, .one⟩),
  (37, ⟨1, .nilFunc, .one⟩),
  (75, ⟨1, .nilFunc, .one⟩),
  (94, ⟨1, .nilFunc, .one⟩),
  (106, ⟨1, .map none, .map 74 108⟩),
  (114, ⟨1, .nilFunc, .one⟩),
  (117, ⟨1, .nilFunc, .one⟩),
  (42, ⟨4, .agg #[.int .u8 0, .int .i64 0, .int .i64 0, .int .i64 0], .struct [0, 1, 2, 3] [1, 1, 1, 1]⟩),
  (55, ⟨1, .nilFunc, .one⟩),
  (56, ⟨1, .nilFunc, .one⟩),
  (124, ⟨1, .nilFunc, .one⟩),
  (142, ⟨1, .nilFunc, .one⟩),
  (91, ⟨1, .nilFunc, .one⟩),
  (101, ⟨1, .nilFunc, .one⟩),
  (115, ⟨1, .nilFunc, .one⟩),
  (141, ⟨1, .nilFunc, .one⟩),
  (64, ⟨1, .nilFunc, .one⟩),
  (148, ⟨1, .nilFunc, .one⟩),
  (159, ⟨1, .nilFunc, .one⟩),
  (175, ⟨1, .nilFunc, .one⟩),
  (96, ⟨1, .nilFunc, .one⟩),
  (121, ⟨1, .nilFunc, .one⟩),
  (137, ⟨1, .nilFunc, .one⟩),
  (145, ⟨1, .nilFunc, .one⟩),
  (160, ⟨1, .nilFunc, .one⟩),
  (50, ⟨1, .nilFunc, .one⟩),
  (83, ⟨1, .nilFunc, .one⟩),
  (89, ⟨1, .nilFunc, .one⟩),
  (120, ⟨1, .nilFunc, .one⟩),
  (122, ⟨1, .map none, .map 3 4⟩),
  (132, ⟨1, .nilFunc, .one⟩),
  (155, ⟨1, .nilFunc, .one⟩),
  (191, ⟨1, .pointer none, .one⟩),
  (52, ⟨5, .agg #[.int .i64 0, .int .i64 0, .int .i64 0, .int .i64 0, .int .i64 0], .arr 5 3 1⟩),
  (66, ⟨1, .nilFunc, .one⟩),
  (71, ⟨1, .slice none 0 0, .slice 70 8 64⟩),
  (73, ⟨3, .agg #[.int .u8 0, .int .i64 0, .int .i64 0], .struct [0, 1, 2] [1, 1, 1]⟩),
  (77, ⟨1, .nilFunc, .one⟩),
  (84, ⟨1, .nilFunc, .one⟩),
  (85, ⟨1, .nilFunc, .one⟩),
  (98, ⟨1, .nilFunc, .one⟩),
  (109, ⟨1, .nilFunc, .one⟩),
  (116, ⟨1, .nilFunc, .one⟩),
  (128, ⟨1, .nilFunc, .one⟩),
  (129, ⟨1, .nilFunc, .one⟩),
  (144, ⟨1, .nilFunc, .one⟩),
  (147, ⟨1, .nilFunc, .one⟩),
  (78, ⟨1, .nilFunc, .one⟩),
  (88, ⟨1, .nilFunc, .one⟩),
  (105, ⟨1, .nilFunc, .one⟩),
  (110, ⟨1, .nilFunc, .one⟩),
  (125, ⟨1, .nilFunc, .one⟩),
  (135, ⟨1, .nilFunc, .one⟩),
  (156, ⟨1, .nilFunc, .one⟩),
  (39, ⟨1, .int .u16 0, .int .u16⟩),
  (59, ⟨1, .nilFunc, .one⟩),
  (61, ⟨1, .nilFunc, .one⟩),
  (97, ⟨1, .nilFunc, .one⟩),
  (113, ⟨1, .nilFunc, .one⟩),
  (126, ⟨1, .nilFunc, .one⟩),
  (140, ⟨1, .nilFunc, .one⟩),
  (158, ⟨1, .nilFunc, .one⟩),
  (164, ⟨1, .nilFunc, .one⟩),
  (167, ⟨1, .nilFunc, .one⟩),
  (169, ⟨1, .nilFunc, .one⟩),
  (179, ⟨1, .nilFunc, .one⟩),
  (180, ⟨1, .nilFunc, .one⟩),
  (187, ⟨1, .nilFunc, .one⟩),
  (65, ⟨1, .nilFunc, .one⟩),
  (86, ⟨1, .nilFunc, .one⟩),
  (104, ⟨1, .nilFunc, .one⟩),
  (112, ⟨1, .nilFunc, .one⟩),
  (123, ⟨1, .nilFunc, .one⟩),
  (136, ⟨1, .nilFunc, .one⟩),
  (138, ⟨1, .slice none 0 0, .slice 119 3 24⟩),
  (152, ⟨1, .nilFunc, .one⟩),
  (153, ⟨1, .nilFunc, .one⟩),
  (162, ⟨1, .nilFunc, .one⟩),
  (165, ⟨1, .nilFunc, .one⟩),
  (176, ⟨1, .nilFunc, .one⟩),
  (178, ⟨1, .nilFunc, .one⟩),
  (63, ⟨1, .nilFunc, .one⟩),
  (130, ⟨1, .nilFunc, .one⟩),
  (131, ⟨1, .nilFunc, .one⟩),
  (133, ⟨1, .nilFunc, .one⟩),
  (143, ⟨1, .nilFunc, .one⟩),
  (146, ⟨1, .nilFunc, .one⟩),
  (151, ⟨1, .nilFunc, .one⟩),
  (161, ⟨1, .nilFunc, .one⟩),
  (171, ⟨1, .nilFunc, .one⟩),
  (174, ⟨1, .nilFunc, .one⟩),
  (181, ⟨1, .nilFunc, .one⟩),
  (183, ⟨1, .nilFunc, .one⟩),
  (118, ⟨3, .agg #[.int .i64 0, .int .i64 0, .int .i64 0], .struct [0, 1, 2] [1, 1, 1]⟩),
  (192, ⟨1, .nilFunc, .one⟩),
  (210, ⟨1, .int .i32 0, .int .i32⟩),
  (38, ⟨1, .nilFunc, .one⟩),
  (170, ⟨1, .nilFunc, .one⟩),
  (172, ⟨1, .nilFunc, .one⟩),
  (182, ⟨1, .nilFunc, .one⟩),
  (189, ⟨1, .nilFunc, .one⟩),
  (190, ⟨1, .nilFunc, .one⟩),
  (194, ⟨1, .nilFunc, .one⟩),
  (214, ⟨1, .agg #[.string ⟨#[]⟩], .struct [0] [1]⟩),
  (62, ⟨1, .nilFunc, .one⟩),
  (184, ⟨1, .nilFunc, .one⟩),
  (206, ⟨1, .int .u8 0, .int .u8⟩),
  (212, ⟨11, .agg #[.int .u64 0, .int .u64 0, .int .u32 0, .int .u8 0, .int .u8 0, .int .u8 0, .int .u8 0, .nilFunc, .pointer none, .int .i32 0, .int .i32 0], .struct [0, 1, 2, 3, 4, 5, 6, 7, 8, 9, 10] [1, 1, 1, 1, 1, 1, 1, 1, 1, 1, 1]⟩),
  (134, ⟨1, .nilFunc, .one⟩),
  (193, ⟨1, .nilFunc, .one⟩),
  (195, ⟨1, .nilIface, .one⟩),
  (200, ⟨4, .agg #[.pointer none, .pointer none, .pointer none, .string ⟨#[]⟩], .struct [0, 1, 2, 3] [1, 1, 1, 1]⟩),
  (205, ⟨1, .int .u8 0, .int .u8⟩),
  (213, ⟨1, .agg #[.string ⟨#[]⟩], .struct [0] [1]⟩),
  (204, ⟨1, .nilFunc, .one⟩),
  (209, ⟨1, .int .i32 0, .int .i32⟩),
  (211, ⟨11, .agg #[.int .u64 0, .int .u64 0, .int .u32 0, .int .u8 0, .int .u8 0, .int .u8 0, .int .u8 0, .nilFunc, .pointer none, .int .i32 0, .int .i32 0], .struct [0, 1, 2, 3, 4, 5, 6, 7, 8, 9, 10] [1, 1, 1, 1, 1, 1, 1, 1, 1, 1, 1]⟩),
  (185, ⟨1, .nilFunc, .one⟩),
  (196, ⟨1, .nilIface, .one⟩),
  (199, ⟨4, .agg #[.pointer none, .pointer none, .pointer none, .string ⟨#[]⟩], .struct [0, 1, 2, 3] [1, 1, 1, 1]⟩),
  (197, ⟨1, .pointer none, .one⟩),
  (207, ⟨1, .nilFunc, .one⟩),
  (208, ⟨1, .pointer none, .one⟩)]
theorem tab_ok : Eng.TabOk Tryz.prog tab := ⟨ty1, ty3, ty4, ty2, ty8, ty5, ty53, ty6, ty31, ty7, ty45, ty67, ty35, ty24, ty25, ty92, ty9, ty74, ty20, ty107, ty57, ty43, ty10, ty12, ty11, ty30, ty90, ty13, ty14, ty16, ty17, ty111, ty15, ty22, ty95, ty99, ty33, ty18, ty149, ty19, ty177, ty21, ty29, ty41, ty108, ty68, ty23, ty173, ty93, ty119, ty127, ty34, ty27, ty79, ty72, ty80, ty82, ty102, ty28, ty69, ty44, ty47, ty51, ty58, ty60, ty70, ty188, ty40, ty48, ty49, ty76, ty81, ty163, ty168, ty198, ty37, ty75, ty94, ty106, ty114, ty117, ty42, ty55, ty56, ty124, ty142, ty91, ty101, ty115, ty141, ty64, ty148, ty159, ty175, ty96, ty121, ty137, ty145, ty160, ty50, ty83, ty89, ty120, ty122, ty132, ty155, ty191, ty52, ty66, ty71, ty73, ty77, ty84, ty85, ty98, ty109, ty116, ty128, ty129, ty144, ty147, ty78, ty88, ty105, ty110, ty125, ty135, ty156, ty39, ty59, ty61, ty97, ty113, ty126, ty140, ty158, ty164, ty167, ty169, ty179, ty180, ty187, ty65, ty86, ty104, ty112, ty123, ty136, ty138, ty152, ty153, ty162, ty165, ty176, ty178, ty63, ty130, ty131, ty133, ty143, ty146, ty151, ty161, ty171, ty174, ty181, ty183, ty118, ty192, ty210, ty38, ty170, ty172, ty182, ty189, ty190, ty194, ty214, ty62, ty184, ty206, ty212, ty134, ty193, ty195, ty200, ty205, ty213, ty204, ty209, ty211, ty185, ty196, ty199, ty197, ty207, ty208, trivial⟩
def fns : Nat × Nat := (3, 160)
theorem fns_ok : Eng.Callables Tryz.prog fns := by unfold Eng.Callables; kernel_rfl
theorem mixed : Tryz.prog.follows .mixedOrders = true := by kernel_rfl
end Go.Proofs.YtmakokbpadmfbaaGreat
