/-
  What the engine asks of this seat's types, proved type by type (written by mktys.py).
-/
import Derived.Test.YtaclpbkbjmbceaaEngS
import Derived.Test.YtaclpbkbjmbceaaProg
import Derived.KernelRfl
namespace Go.Proofs.Ytaclpbkbjmbceaa
open Go.Eng
set_option maxRecDepth 100000
set_option linter.unusedSimpArgs false
set_option linter.unusedVariables false
abbrev ty1 : TyI := ⟨.func, 1, 8, [.nilFunc], []⟩
theorem tyok1 : TyOK Try.prog 1 ty1 := ⟨⟨_, Try.underlying1, rfl⟩, info_mk (by kernel_rfl), fun k o s h => by simp [ty1] at h, fun h => by cases h⟩
abbrev ty2 : TyI := ⟨.int .i64, 1, 8, [.int .i64 0], []⟩
theorem tyok2 : TyOK Try.prog 2 ty2 := ⟨⟨_, Try.underlying2, rfl⟩, info_mk (by kernel_rfl), fun k o s h => by simp [ty2] at h, fun h => by cases h⟩
abbrev ty3 : TyI := ⟨.int .i64, 1, 8, [.int .i64 0], []⟩
theorem tyok3 : TyOK Try.prog 3 ty3 := ⟨⟨_, Try.underlying3, rfl⟩, info_mk (by kernel_rfl), fun k o s h => by simp [ty3] at h, fun h => by cases h⟩
abbrev ty4 : TyI := ⟨.bool, 1, 1, [.bool false], []⟩
theorem tyok4 : TyOK Try.prog 4 ty4 := ⟨⟨_, Try.underlying4, rfl⟩, info_mk (by kernel_rfl), fun k o s h => by simp [ty4] at h, fun h => by cases h⟩
abbrev ty5 : TyI := ⟨.int .u8, 1, 1, [.int .u8 0], []⟩
theorem tyok5 : TyOK Try.prog 5 ty5 := ⟨⟨_, Try.underlying5, rfl⟩, info_mk (by kernel_rfl), fun k o s h => by simp [ty5] at h, fun h => by cases h⟩
abbrev ty6 : TyI := ⟨.int .u8, 1, 1, [.int .u8 0], []⟩
theorem tyok6 : TyOK Try.prog 6 ty6 := ⟨⟨_, Try.underlying6, rfl⟩, info_mk (by kernel_rfl), fun k o s h => by simp [ty6] at h, fun h => by cases h⟩
abbrev ty7 : TyI := ⟨.struct, 4, 24, [.int .i64 0, .int .i64 0, .bool false, .int .u8 0], [(0, 1), (1, 1), (2, 1), (3, 1)]⟩
theorem fl7_0 (a : Addr) (w : World) : (Instr.fieldAt 7 (.pointer (some a)) 0).run Try.prog w = .ok (.pointer (some (a.add 0))) w := by kernel_rfl
theorem fl7_1 (a : Addr) (w : World) : (Instr.fieldAt 7 (.pointer (some a)) 1).run Try.prog w = .ok (.pointer (some (a.add 1))) w := by kernel_rfl
theorem fl7_2 (a : Addr) (w : World) : (Instr.fieldAt 7 (.pointer (some a)) 2).run Try.prog w = .ok (.pointer (some (a.add 2))) w := by kernel_rfl
theorem fl7_3 (a : Addr) (w : World) : (Instr.fieldAt 7 (.pointer (some a)) 3).run Try.prog w = .ok (.pointer (some (a.add 3))) w := by kernel_rfl
theorem tyok7 : TyOK Try.prog 7 ty7 := ⟨⟨_, Try.underlying7, rfl⟩, info_mk (by kernel_rfl), fun k o s h a w => by
    match k, h with
    | 0, h => cases h; exact fl7_0 a w
    | 1, h => cases h; exact fl7_1 a w
    | 2, h => cases h; exact fl7_2 a w
    | 3, h => cases h; exact fl7_3 a w
    | k + 4, h => simp [ty7] at h
  , fun _ => ⟨_, Try.underlying7, fun w => by kernel_rfl⟩⟩
abbrev ty8 : TyI := ⟨.struct, 4, 24, [.int .i64 0, .int .i64 0, .bool false, .int .u8 0], [(0, 1), (1, 1), (2, 1), (3, 1)]⟩
theorem fl8_0 (a : Addr) (w : World) : (Instr.fieldAt 8 (.pointer (some a)) 0).run Try.prog w = .ok (.pointer (some (a.add 0))) w := by kernel_rfl
theorem fl8_1 (a : Addr) (w : World) : (Instr.fieldAt 8 (.pointer (some a)) 1).run Try.prog w = .ok (.pointer (some (a.add 1))) w := by kernel_rfl
theorem fl8_2 (a : Addr) (w : World) : (Instr.fieldAt 8 (.pointer (some a)) 2).run Try.prog w = .ok (.pointer (some (a.add 2))) w := by kernel_rfl
theorem fl8_3 (a : Addr) (w : World) : (Instr.fieldAt 8 (.pointer (some a)) 3).run Try.prog w = .ok (.pointer (some (a.add 3))) w := by kernel_rfl
theorem tyok8 : TyOK Try.prog 8 ty8 := ⟨⟨_, Try.underlying8, rfl⟩, info_mk (by kernel_rfl), fun k o s h a w => by
    match k, h with
    | 0, h => cases h; exact fl8_0 a w
    | 1, h => cases h; exact fl8_1 a w
    | 2, h => cases h; exact fl8_2 a w
    | 3, h => cases h; exact fl8_3 a w
    | k + 4, h => simp [ty8] at h
  , fun _ => ⟨_, Try.underlying8, fun w => by kernel_rfl⟩⟩
abbrev ty9 : TyI := ⟨.string, 1, 16, [.string ⟨#[]⟩], []⟩
theorem tyok9 : TyOK Try.prog 9 ty9 := ⟨⟨_, Try.underlying9, rfl⟩, info_mk (by kernel_rfl), fun k o s h => by simp [ty9] at h, fun h => by cases h⟩
abbrev ty10 : TyI := ⟨.string, 1, 16, [.string ⟨#[]⟩], []⟩
theorem tyok10 : TyOK Try.prog 10 ty10 := ⟨⟨_, Try.underlying10, rfl⟩, info_mk (by kernel_rfl), fun k o s h => by simp [ty10] at h, fun h => by cases h⟩
abbrev ty11 : TyI := ⟨.string, 1, 16, [.string ⟨#[]⟩], []⟩
theorem tyok11 : TyOK Try.prog 11 ty11 := ⟨⟨_, Try.underlying11, rfl⟩, info_mk (by kernel_rfl), fun k o s h => by simp [ty11] at h, fun h => by cases h⟩
abbrev ty12 : TyI := ⟨.int .u64, 1, 8, [.int .u64 0], []⟩
theorem tyok12 : TyOK Try.prog 12 ty12 := ⟨⟨_, Try.underlying12, rfl⟩, info_mk (by kernel_rfl), fun k o s h => by simp [ty12] at h, fun h => by cases h⟩
abbrev ty13 : TyI := ⟨.struct, 2, 24, [.string ⟨#[]⟩, .int .u64 0], [(0, 1), (1, 1)]⟩
theorem fl13_0 (a : Addr) (w : World) : (Instr.fieldAt 13 (.pointer (some a)) 0).run Try.prog w = .ok (.pointer (some (a.add 0))) w := by kernel_rfl
theorem fl13_1 (a : Addr) (w : World) : (Instr.fieldAt 13 (.pointer (some a)) 1).run Try.prog w = .ok (.pointer (some (a.add 1))) w := by kernel_rfl
theorem tyok13 : TyOK Try.prog 13 ty13 := ⟨⟨_, Try.underlying13, rfl⟩, info_mk (by kernel_rfl), fun k o s h a w => by
    match k, h with
    | 0, h => cases h; exact fl13_0 a w
    | 1, h => cases h; exact fl13_1 a w
    | k + 2, h => simp [ty13] at h
  , fun _ => ⟨_, Try.underlying13, fun w => by kernel_rfl⟩⟩
abbrev ty14 : TyI := ⟨.struct, 2, 24, [.string ⟨#[]⟩, .int .u64 0], [(0, 1), (1, 1)]⟩
theorem fl14_0 (a : Addr) (w : World) : (Instr.fieldAt 14 (.pointer (some a)) 0).run Try.prog w = .ok (.pointer (some (a.add 0))) w := by kernel_rfl
theorem fl14_1 (a : Addr) (w : World) : (Instr.fieldAt 14 (.pointer (some a)) 1).run Try.prog w = .ok (.pointer (some (a.add 1))) w := by kernel_rfl
theorem tyok14 : TyOK Try.prog 14 ty14 := ⟨⟨_, Try.underlying14, rfl⟩, info_mk (by kernel_rfl), fun k o s h a w => by
    match k, h with
    | 0, h => cases h; exact fl14_0 a w
    | 1, h => cases h; exact fl14_1 a w
    | k + 2, h => simp [ty14] at h
  , fun _ => ⟨_, Try.underlying14, fun w => by kernel_rfl⟩⟩
abbrev ty15 : TyI := ⟨.pointer, 1, 8, [.pointer none], []⟩
theorem tyok15 : TyOK Try.prog 15 ty15 := ⟨⟨_, Try.underlying15, rfl⟩, info_mk (by kernel_rfl), fun k o s h => by simp [ty15] at h, fun h => by cases h⟩
abbrev ty16 : TyI := ⟨.pointer, 1, 8, [.pointer none], []⟩
theorem tyok16 : TyOK Try.prog 16 ty16 := ⟨⟨_, Try.underlying16, rfl⟩, info_mk (by kernel_rfl), fun k o s h => by simp [ty16] at h, fun h => by cases h⟩
abbrev ty17 : TyI := ⟨.pointer, 1, 8, [.pointer none], []⟩
theorem tyok17 : TyOK Try.prog 17 ty17 := ⟨⟨_, Try.underlying17, rfl⟩, info_mk (by kernel_rfl), fun k o s h => by simp [ty17] at h, fun h => by cases h⟩
abbrev ty18 : TyI := ⟨.struct, 1, 8, [.pointer none], [(0, 1)]⟩
theorem fl18_0 (a : Addr) (w : World) : (Instr.fieldAt 18 (.pointer (some a)) 0).run Try.prog w = .ok (.pointer (some (a.add 0))) w := by kernel_rfl
theorem tyok18 : TyOK Try.prog 18 ty18 := ⟨⟨_, Try.underlying18, rfl⟩, info_mk (by kernel_rfl), fun k o s h a w => by
    match k, h with
    | 0, h => cases h; exact fl18_0 a w
    | k + 1, h => simp [ty18] at h
  , fun _ => ⟨_, Try.underlying18, fun w => by kernel_rfl⟩⟩
abbrev ty19 : TyI := ⟨.struct, 1, 8, [.pointer none], [(0, 1)]⟩
theorem fl19_0 (a : Addr) (w : World) : (Instr.fieldAt 19 (.pointer (some a)) 0).run Try.prog w = .ok (.pointer (some (a.add 0))) w := by kernel_rfl
theorem tyok19 : TyOK Try.prog 19 ty19 := ⟨⟨_, Try.underlying19, rfl⟩, info_mk (by kernel_rfl), fun k o s h a w => by
    match k, h with
    | 0, h => cases h; exact fl19_0 a w
    | k + 1, h => simp [ty19] at h
  , fun _ => ⟨_, Try.underlying19, fun w => by kernel_rfl⟩⟩
abbrev ty21 : TyI := ⟨.int .i32, 1, 4, [.int .i32 0], []⟩
theorem tyok21 : TyOK Try.prog 21 ty21 := ⟨⟨_, Try.underlying21, rfl⟩, info_mk (by kernel_rfl), fun k o s h => by simp [ty21] at h, fun h => by cases h⟩
abbrev ty22 : TyI := ⟨.slice 25, 1, 24, [.slice none 0 0], []⟩
theorem tyok22 : TyOK Try.prog 22 ty22 := ⟨⟨_, Try.underlying22, rfl⟩, info_mk (by kernel_rfl), fun k o s h => by simp [ty22] at h, fun h => by cases h⟩
abbrev ty23 : TyI := ⟨.int .u64, 1, 8, [.int .u64 0], []⟩
theorem tyok23 : TyOK Try.prog 23 ty23 := ⟨⟨_, Try.underlying23, rfl⟩, info_mk (by kernel_rfl), fun k o s h => by simp [ty23] at h, fun h => by cases h⟩
abbrev ty24 : TyI := ⟨.struct, 3, 24, [.int .i64 0, .int .i64 0, .int .u64 0], [(0, 1), (1, 1), (2, 1)]⟩
theorem fl24_0 (a : Addr) (w : World) : (Instr.fieldAt 24 (.pointer (some a)) 0).run Try.prog w = .ok (.pointer (some (a.add 0))) w := by kernel_rfl
theorem fl24_1 (a : Addr) (w : World) : (Instr.fieldAt 24 (.pointer (some a)) 1).run Try.prog w = .ok (.pointer (some (a.add 1))) w := by kernel_rfl
theorem fl24_2 (a : Addr) (w : World) : (Instr.fieldAt 24 (.pointer (some a)) 2).run Try.prog w = .ok (.pointer (some (a.add 2))) w := by kernel_rfl
theorem tyok24 : TyOK Try.prog 24 ty24 := ⟨⟨_, Try.underlying24, rfl⟩, info_mk (by kernel_rfl), fun k o s h a w => by
    match k, h with
    | 0, h => cases h; exact fl24_0 a w
    | 1, h => cases h; exact fl24_1 a w
    | 2, h => cases h; exact fl24_2 a w
    | k + 3, h => simp [ty24] at h
  , fun _ => ⟨_, Try.underlying24, fun w => by kernel_rfl⟩⟩
abbrev ty25 : TyI := ⟨.struct, 3, 24, [.int .i64 0, .int .i64 0, .int .u64 0], [(0, 1), (1, 1), (2, 1)]⟩
theorem fl25_0 (a : Addr) (w : World) : (Instr.fieldAt 25 (.pointer (some a)) 0).run Try.prog w = .ok (.pointer (some (a.add 0))) w := by kernel_rfl
theorem fl25_1 (a : Addr) (w : World) : (Instr.fieldAt 25 (.pointer (some a)) 1).run Try.prog w = .ok (.pointer (some (a.add 1))) w := by kernel_rfl
theorem fl25_2 (a : Addr) (w : World) : (Instr.fieldAt 25 (.pointer (some a)) 2).run Try.prog w = .ok (.pointer (some (a.add 2))) w := by kernel_rfl
theorem tyok25 : TyOK Try.prog 25 ty25 := ⟨⟨_, Try.underlying25, rfl⟩, info_mk (by kernel_rfl), fun k o s h a w => by
    match k, h with
    | 0, h => cases h; exact fl25_0 a w
    | 1, h => cases h; exact fl25_1 a w
    | 2, h => cases h; exact fl25_2 a w
    | k + 3, h => simp [ty25] at h
  , fun _ => ⟨_, Try.underlying25, fun w => by kernel_rfl⟩⟩
abbrev ty26 : TyI := ⟨.slice 68, 1, 24, [.slice none 0 0], []⟩
theorem tyok26 : TyOK Try.prog 26 ty26 := ⟨⟨_, Try.underlying26, rfl⟩, info_mk (by kernel_rfl), fun k o s h => by simp [ty26] at h, fun h => by cases h⟩
abbrev ty27 : TyI := ⟨.struct, 3, 40, [.int .i64 0, .int .i64 0, .slice none 0 0], [(0, 1), (1, 1), (2, 1)]⟩
theorem fl27_0 (a : Addr) (w : World) : (Instr.fieldAt 27 (.pointer (some a)) 0).run Try.prog w = .ok (.pointer (some (a.add 0))) w := by kernel_rfl
theorem fl27_1 (a : Addr) (w : World) : (Instr.fieldAt 27 (.pointer (some a)) 1).run Try.prog w = .ok (.pointer (some (a.add 1))) w := by kernel_rfl
theorem fl27_2 (a : Addr) (w : World) : (Instr.fieldAt 27 (.pointer (some a)) 2).run Try.prog w = .ok (.pointer (some (a.add 2))) w := by kernel_rfl
theorem tyok27 : TyOK Try.prog 27 ty27 := ⟨⟨_, Try.underlying27, rfl⟩, info_mk (by kernel_rfl), fun k o s h a w => by
    match k, h with
    | 0, h => cases h; exact fl27_0 a w
    | 1, h => cases h; exact fl27_1 a w
    | 2, h => cases h; exact fl27_2 a w
    | k + 3, h => simp [ty27] at h
  , fun _ => ⟨_, Try.underlying27, fun w => by kernel_rfl⟩⟩
abbrev ty28 : TyI := ⟨.struct, 3, 40, [.int .i64 0, .int .i64 0, .slice none 0 0], [(0, 1), (1, 1), (2, 1)]⟩
theorem fl28_0 (a : Addr) (w : World) : (Instr.fieldAt 28 (.pointer (some a)) 0).run Try.prog w = .ok (.pointer (some (a.add 0))) w := by kernel_rfl
theorem fl28_1 (a : Addr) (w : World) : (Instr.fieldAt 28 (.pointer (some a)) 1).run Try.prog w = .ok (.pointer (some (a.add 1))) w := by kernel_rfl
theorem fl28_2 (a : Addr) (w : World) : (Instr.fieldAt 28 (.pointer (some a)) 2).run Try.prog w = .ok (.pointer (some (a.add 2))) w := by kernel_rfl
theorem tyok28 : TyOK Try.prog 28 ty28 := ⟨⟨_, Try.underlying28, rfl⟩, info_mk (by kernel_rfl), fun k o s h a w => by
    match k, h with
    | 0, h => cases h; exact fl28_0 a w
    | 1, h => cases h; exact fl28_1 a w
    | 2, h => cases h; exact fl28_2 a w
    | k + 3, h => simp [ty28] at h
  , fun _ => ⟨_, Try.underlying28, fun w => by kernel_rfl⟩⟩
abbrev ty29 : TyI := ⟨.slice 3, 1, 24, [.slice none 0 0], []⟩
theorem tyok29 : TyOK Try.prog 29 ty29 := ⟨⟨_, Try.underlying29, rfl⟩, info_mk (by kernel_rfl), fun k o s h => by simp [ty29] at h, fun h => by cases h⟩
abbrev ty30 : TyI := ⟨.slice 57, 1, 24, [.slice none 0 0], []⟩
theorem tyok30 : TyOK Try.prog 30 ty30 := ⟨⟨_, Try.underlying30, rfl⟩, info_mk (by kernel_rfl), fun k o s h => by simp [ty30] at h, fun h => by cases h⟩
abbrev ty31 : TyI := ⟨.struct, 22, 288, [.int .i64 0, .int .i64 0, .int .i64 0, .int .i64 0, .int .i64 0, .int .i64 0, .int .i64 0, .int .i64 0, .slice none 0 0, .string ⟨#[]⟩, .int .i64 0, .int .i64 0, .int .i64 0, .int .u64 0, .slice none 0 0, .slice none 0 0, .slice none 0 0, .slice none 0 0, .int .i64 0, .slice none 0 0, .string ⟨#[]⟩, .int .i64 0], [(0, 1), (1, 1), (2, 1), (3, 1), (4, 1), (5, 1), (6, 3), (9, 1), (10, 1), (11, 1), (12, 1), (13, 1), (14, 1), (15, 1), (16, 1), (17, 1), (18, 1), (19, 1), (20, 1), (21, 1)]⟩
theorem fl31_0 (a : Addr) (w : World) : (Instr.fieldAt 31 (.pointer (some a)) 0).run Try.prog w = .ok (.pointer (some (a.add 0))) w := by kernel_rfl
theorem fl31_1 (a : Addr) (w : World) : (Instr.fieldAt 31 (.pointer (some a)) 1).run Try.prog w = .ok (.pointer (some (a.add 1))) w := by kernel_rfl
theorem fl31_2 (a : Addr) (w : World) : (Instr.fieldAt 31 (.pointer (some a)) 2).run Try.prog w = .ok (.pointer (some (a.add 2))) w := by kernel_rfl
theorem fl31_3 (a : Addr) (w : World) : (Instr.fieldAt 31 (.pointer (some a)) 3).run Try.prog w = .ok (.pointer (some (a.add 3))) w := by kernel_rfl
theorem fl31_4 (a : Addr) (w : World) : (Instr.fieldAt 31 (.pointer (some a)) 4).run Try.prog w = .ok (.pointer (some (a.add 4))) w := by kernel_rfl
theorem fl31_5 (a : Addr) (w : World) : (Instr.fieldAt 31 (.pointer (some a)) 5).run Try.prog w = .ok (.pointer (some (a.add 5))) w := by kernel_rfl
theorem fl31_6 (a : Addr) (w : World) : (Instr.fieldAt 31 (.pointer (some a)) 6).run Try.prog w = .ok (.pointer (some (a.add 6))) w := by kernel_rfl
theorem fl31_7 (a : Addr) (w : World) : (Instr.fieldAt 31 (.pointer (some a)) 7).run Try.prog w = .ok (.pointer (some (a.add 9))) w := by kernel_rfl
theorem fl31_8 (a : Addr) (w : World) : (Instr.fieldAt 31 (.pointer (some a)) 8).run Try.prog w = .ok (.pointer (some (a.add 10))) w := by kernel_rfl
theorem fl31_9 (a : Addr) (w : World) : (Instr.fieldAt 31 (.pointer (some a)) 9).run Try.prog w = .ok (.pointer (some (a.add 11))) w := by kernel_rfl
theorem fl31_10 (a : Addr) (w : World) : (Instr.fieldAt 31 (.pointer (some a)) 10).run Try.prog w = .ok (.pointer (some (a.add 12))) w := by kernel_rfl
theorem fl31_11 (a : Addr) (w : World) : (Instr.fieldAt 31 (.pointer (some a)) 11).run Try.prog w = .ok (.pointer (some (a.add 13))) w := by kernel_rfl
theorem fl31_12 (a : Addr) (w : World) : (Instr.fieldAt 31 (.pointer (some a)) 12).run Try.prog w = .ok (.pointer (some (a.add 14))) w := by kernel_rfl
theorem fl31_13 (a : Addr) (w : World) : (Instr.fieldAt 31 (.pointer (some a)) 13).run Try.prog w = .ok (.pointer (some (a.add 15))) w := by kernel_rfl
theorem fl31_14 (a : Addr) (w : World) : (Instr.fieldAt 31 (.pointer (some a)) 14).run Try.prog w = .ok (.pointer (some (a.add 16))) w := by kernel_rfl
theorem fl31_15 (a : Addr) (w : World) : (Instr.fieldAt 31 (.pointer (some a)) 15).run Try.prog w = .ok (.pointer (some (a.add 17))) w := by kernel_rfl
theorem fl31_16 (a : Addr) (w : World) : (Instr.fieldAt 31 (.pointer (some a)) 16).run Try.prog w = .ok (.pointer (some (a.add 18))) w := by kernel_rfl
theorem fl31_17 (a : Addr) (w : World) : (Instr.fieldAt 31 (.pointer (some a)) 17).run Try.prog w = .ok (.pointer (some (a.add 19))) w := by kernel_rfl
theorem fl31_18 (a : Addr) (w : World) : (Instr.fieldAt 31 (.pointer (some a)) 18).run Try.prog w = .ok (.pointer (some (a.add 20))) w := by kernel_rfl
theorem fl31_19 (a : Addr) (w : World) : (Instr.fieldAt 31 (.pointer (some a)) 19).run Try.prog w = .ok (.pointer (some (a.add 21))) w := by kernel_rfl
theorem tyok31 : TyOK Try.prog 31 ty31 := ⟨⟨_, Try.underlying31, rfl⟩, info_mk (by kernel_rfl), fun k o s h a w => by
    match k, h with
    | 0, h => cases h; exact fl31_0 a w
    | 1, h => cases h; exact fl31_1 a w
    | 2, h => cases h; exact fl31_2 a w
    | 3, h => cases h; exact fl31_3 a w
    | 4, h => cases h; exact fl31_4 a w
    | 5, h => cases h; exact fl31_5 a w
    | 6, h => cases h; exact fl31_6 a w
    | 7, h => cases h; exact fl31_7 a w
    | 8, h => cases h; exact fl31_8 a w
    | 9, h => cases h; exact fl31_9 a w
    | 10, h => cases h; exact fl31_10 a w
    | 11, h => cases h; exact fl31_11 a w
    | 12, h => cases h; exact fl31_12 a w
    | 13, h => cases h; exact fl31_13 a w
    | 14, h => cases h; exact fl31_14 a w
    | 15, h => cases h; exact fl31_15 a w
    | 16, h => cases h; exact fl31_16 a w
    | 17, h => cases h; exact fl31_17 a w
    | 18, h => cases h; exact fl31_18 a w
    | 19, h => cases h; exact fl31_19 a w
    | k + 20, h => simp [ty31] at h
  , fun _ => ⟨_, Try.underlying31, fun w => by kernel_rfl⟩⟩
abbrev ty32 : TyI := ⟨.struct, 22, 288, [.int .i64 0, .int .i64 0, .int .i64 0, .int .i64 0, .int .i64 0, .int .i64 0, .int .i64 0, .int .i64 0, .slice none 0 0, .string ⟨#[]⟩, .int .i64 0, .int .i64 0, .int .i64 0, .int .u64 0, .slice none 0 0, .slice none 0 0, .slice none 0 0, .slice none 0 0, .int .i64 0, .slice none 0 0, .string ⟨#[]⟩, .int .i64 0], [(0, 1), (1, 1), (2, 1), (3, 1), (4, 1), (5, 1), (6, 3), (9, 1), (10, 1), (11, 1), (12, 1), (13, 1), (14, 1), (15, 1), (16, 1), (17, 1), (18, 1), (19, 1), (20, 1), (21, 1)]⟩
theorem fl32_0 (a : Addr) (w : World) : (Instr.fieldAt 32 (.pointer (some a)) 0).run Try.prog w = .ok (.pointer (some (a.add 0))) w := by kernel_rfl
theorem fl32_1 (a : Addr) (w : World) : (Instr.fieldAt 32 (.pointer (some a)) 1).run Try.prog w = .ok (.pointer (some (a.add 1))) w := by kernel_rfl
theorem fl32_2 (a : Addr) (w : World) : (Instr.fieldAt 32 (.pointer (some a)) 2).run Try.prog w = .ok (.pointer (some (a.add 2))) w := by kernel_rfl
theorem fl32_3 (a : Addr) (w : World) : (Instr.fieldAt 32 (.pointer (some a)) 3).run Try.prog w = .ok (.pointer (some (a.add 3))) w := by kernel_rfl
theorem fl32_4 (a : Addr) (w : World) : (Instr.fieldAt 32 (.pointer (some a)) 4).run Try.prog w = .ok (.pointer (some (a.add 4))) w := by kernel_rfl
theorem fl32_5 (a : Addr) (w : World) : (Instr.fieldAt 32 (.pointer (some a)) 5).run Try.prog w = .ok (.pointer (some (a.add 5))) w := by kernel_rfl
theorem fl32_6 (a : Addr) (w : World) : (Instr.fieldAt 32 (.pointer (some a)) 6).run Try.prog w = .ok (.pointer (some (a.add 6))) w := by kernel_rfl
theorem fl32_7 (a : Addr) (w : World) : (Instr.fieldAt 32 (.pointer (some a)) 7).run Try.prog w = .ok (.pointer (some (a.add 9))) w := by kernel_rfl
theorem fl32_8 (a : Addr) (w : World) : (Instr.fieldAt 32 (.pointer (some a)) 8).run Try.prog w = .ok (.pointer (some (a.add 10))) w := by kernel_rfl
theorem fl32_9 (a : Addr) (w : World) : (Instr.fieldAt 32 (.pointer (some a)) 9).run Try.prog w = .ok (.pointer (some (a.add 11))) w := by kernel_rfl
theorem fl32_10 (a : Addr) (w : World) : (Instr.fieldAt 32 (.pointer (some a)) 10).run Try.prog w = .ok (.pointer (some (a.add 12))) w := by kernel_rfl
theorem fl32_11 (a : Addr) (w : World) : (Instr.fieldAt 32 (.pointer (some a)) 11).run Try.prog w = .ok (.pointer (some (a.add 13))) w := by kernel_rfl
theorem fl32_12 (a : Addr) (w : World) : (Instr.fieldAt 32 (.pointer (some a)) 12).run Try.prog w = .ok (.pointer (some (a.add 14))) w := by kernel_rfl
theorem fl32_13 (a : Addr) (w : World) : (Instr.fieldAt 32 (.pointer (some a)) 13).run Try.prog w = .ok (.pointer (some (a.add 15))) w := by kernel_rfl
theorem fl32_14 (a : Addr) (w : World) : (Instr.fieldAt 32 (.pointer (some a)) 14).run Try.prog w = .ok (.pointer (some (a.add 16))) w := by kernel_rfl
theorem fl32_15 (a : Addr) (w : World) : (Instr.fieldAt 32 (.pointer (some a)) 15).run Try.prog w = .ok (.pointer (some (a.add 17))) w := by kernel_rfl
theorem fl32_16 (a : Addr) (w : World) : (Instr.fieldAt 32 (.pointer (some a)) 16).run Try.prog w = .ok (.pointer (some (a.add 18))) w := by kernel_rfl
theorem fl32_17 (a : Addr) (w : World) : (Instr.fieldAt 32 (.pointer (some a)) 17).run Try.prog w = .ok (.pointer (some (a.add 19))) w := by kernel_rfl
theorem fl32_18 (a : Addr) (w : World) : (Instr.fieldAt 32 (.pointer (some a)) 18).run Try.prog w = .ok (.pointer (some (a.add 20))) w := by kernel_rfl
theorem fl32_19 (a : Addr) (w : World) : (Instr.fieldAt 32 (.pointer (some a)) 19).run Try.prog w = .ok (.pointer (some (a.add 21))) w := by kernel_rfl
theorem tyok32 : TyOK Try.prog 32 ty32 := ⟨⟨_, Try.underlying32, rfl⟩, info_mk (by kernel_rfl), fun k o s h a w => by
    match k, h with
    | 0, h => cases h; exact fl32_0 a w
    | 1, h => cases h; exact fl32_1 a w
    | 2, h => cases h; exact fl32_2 a w
    | 3, h => cases h; exact fl32_3 a w
    | 4, h => cases h; exact fl32_4 a w
    | 5, h => cases h; exact fl32_5 a w
    | 6, h => cases h; exact fl32_6 a w
    | 7, h => cases h; exact fl32_7 a w
    | 8, h => cases h; exact fl32_8 a w
    | 9, h => cases h; exact fl32_9 a w
    | 10, h => cases h; exact fl32_10 a w
    | 11, h => cases h; exact fl32_11 a w
    | 12, h => cases h; exact fl32_12 a w
    | 13, h => cases h; exact fl32_13 a w
    | 14, h => cases h; exact fl32_14 a w
    | 15, h => cases h; exact fl32_15 a w
    | 16, h => cases h; exact fl32_16 a w
    | 17, h => cases h; exact fl32_17 a w
    | 18, h => cases h; exact fl32_18 a w
    | 19, h => cases h; exact fl32_19 a w
    | k + 20, h => simp [ty32] at h
  , fun _ => ⟨_, Try.underlying32, fun w => by kernel_rfl⟩⟩
abbrev ty33 : TyI := ⟨.func, 1, 8, [.nilFunc], []⟩
theorem tyok33 : TyOK Try.prog 33 ty33 := ⟨⟨_, Try.underlying33, rfl⟩, info_mk (by kernel_rfl), fun k o s h => by simp [ty33] at h, fun h => by cases h⟩
abbrev ty34 : TyI := ⟨.int .i64, 1, 8, [.int .i64 0], []⟩
theorem tyok34 : TyOK Try.prog 34 ty34 := ⟨⟨_, Try.underlying34, rfl⟩, info_mk (by kernel_rfl), fun k o s h => by simp [ty34] at h, fun h => by cases h⟩
abbrev ty36 : TyI := ⟨.func, 1, 8, [.nilFunc], []⟩
theorem tyok36 : TyOK Try.prog 36 ty36 := ⟨⟨_, Try.underlying36, rfl⟩, info_mk (by kernel_rfl), fun k o s h => by simp [ty36] at h, fun h => by cases h⟩
abbrev ty37 : TyI := ⟨.func, 1, 8, [.nilFunc], []⟩
theorem tyok37 : TyOK Try.prog 37 ty37 := ⟨⟨_, Try.underlying37, rfl⟩, info_mk (by kernel_rfl), fun k o s h => by simp [ty37] at h, fun h => by cases h⟩
abbrev ty38 : TyI := ⟨.func, 1, 8, [.nilFunc], []⟩
theorem tyok38 : TyOK Try.prog 38 ty38 := ⟨⟨_, Try.underlying38, rfl⟩, info_mk (by kernel_rfl), fun k o s h => by simp [ty38] at h, fun h => by cases h⟩
abbrev ty39 : TyI := ⟨.func, 1, 8, [.nilFunc], []⟩
theorem tyok39 : TyOK Try.prog 39 ty39 := ⟨⟨_, Try.underlying39, rfl⟩, info_mk (by kernel_rfl), fun k o s h => by simp [ty39] at h, fun h => by cases h⟩
abbrev ty40 : TyI := ⟨.func, 1, 8, [.nilFunc], []⟩
theorem tyok40 : TyOK Try.prog 40 ty40 := ⟨⟨_, Try.underlying40, rfl⟩, info_mk (by kernel_rfl), fun k o s h => by simp [ty40] at h, fun h => by cases h⟩
abbrev ty41 : TyI := ⟨.pointer, 1, 8, [.pointer none], []⟩
theorem tyok41 : TyOK Try.prog 41 ty41 := ⟨⟨_, Try.underlying41, rfl⟩, info_mk (by kernel_rfl), fun k o s h => by simp [ty41] at h, fun h => by cases h⟩
abbrev ty42 : TyI := ⟨.slice 78, 1, 24, [.slice none 0 0], []⟩
theorem tyok42 : TyOK Try.prog 42 ty42 := ⟨⟨_, Try.underlying42, rfl⟩, info_mk (by kernel_rfl), fun k o s h => by simp [ty42] at h, fun h => by cases h⟩
abbrev ty43 : TyI := ⟨.struct, 23, 312, [.int .i64 0, .int .i64 0, .int .i64 0, .int .i64 0, .int .i64 0, .int .i64 0, .int .i64 0, .int .i64 0, .slice none 0 0, .string ⟨#[]⟩, .int .i64 0, .int .i64 0, .int .i64 0, .int .u64 0, .slice none 0 0, .slice none 0 0, .slice none 0 0, .slice none 0 0, .int .i64 0, .slice none 0 0, .string ⟨#[]⟩, .int .i64 0, .slice none 0 0], [(0, 22), (22, 1)]⟩
theorem fl43_0 (a : Addr) (w : World) : (Instr.fieldAt 43 (.pointer (some a)) 0).run Try.prog w = .ok (.pointer (some (a.add 0))) w := by kernel_rfl
theorem fl43_1 (a : Addr) (w : World) : (Instr.fieldAt 43 (.pointer (some a)) 1).run Try.prog w = .ok (.pointer (some (a.add 22))) w := by kernel_rfl
theorem tyok43 : TyOK Try.prog 43 ty43 := ⟨⟨_, Try.underlying43, rfl⟩, info_mk (by kernel_rfl), fun k o s h a w => by
    match k, h with
    | 0, h => cases h; exact fl43_0 a w
    | 1, h => cases h; exact fl43_1 a w
    | k + 2, h => simp [ty43] at h
  , fun _ => ⟨_, Try.underlying43, fun w => by kernel_rfl⟩⟩
abbrev ty44 : TyI := ⟨.struct, 23, 312, [.int .i64 0, .int .i64 0, .int .i64 0, .int .i64 0, .int .i64 0, .int .i64 0, .int .i64 0, .int .i64 0, .slice none 0 0, .string ⟨#[]⟩, .int .i64 0, .int .i64 0, .int .i64 0, .int .u64 0, .slice none 0 0, .slice none 0 0, .slice none 0 0, .slice none 0 0, .int .i64 0, .slice none 0 0, .string ⟨#[]⟩, .int .i64 0, .slice none 0 0], [(0, 22), (22, 1)]⟩
theorem fl44_0 (a : Addr) (w : World) : (Instr.fieldAt 44 (.pointer (some a)) 0).run Try.prog w = .ok (.pointer (some (a.add 0))) w := by kernel_rfl
theorem fl44_1 (a : Addr) (w : World) : (Instr.fieldAt 44 (.pointer (some a)) 1).run Try.prog w = .ok (.pointer (some (a.add 22))) w := by kernel_rfl
theorem tyok44 : TyOK Try.prog 44 ty44 := ⟨⟨_, Try.underlying44, rfl⟩, info_mk (by kernel_rfl), fun k o s h a w => by
    match k, h with
    | 0, h => cases h; exact fl44_0 a w
    | 1, h => cases h; exact fl44_1 a w
    | k + 2, h => simp [ty44] at h
  , fun _ => ⟨_, Try.underlying44, fun w => by kernel_rfl⟩⟩
abbrev ty45 : TyI := ⟨.pointer, 1, 8, [.pointer none], []⟩
theorem tyok45 : TyOK Try.prog 45 ty45 := ⟨⟨_, Try.underlying45, rfl⟩, info_mk (by kernel_rfl), fun k o s h => by simp [ty45] at h, fun h => by cases h⟩
abbrev ty46 : TyI := ⟨.struct, 22, 288, [.int .i64 0, .int .i64 0, .int .i64 0, .int .i64 0, .int .i64 0, .int .i64 0, .int .i64 0, .int .i64 0, .slice none 0 0, .string ⟨#[]⟩, .int .i64 0, .int .i64 0, .int .i64 0, .int .u64 0, .slice none 0 0, .slice none 0 0, .slice none 0 0, .slice none 0 0, .int .i64 0, .slice none 0 0, .string ⟨#[]⟩, .int .i64 0], [(0, 22)]⟩
theorem fl46_0 (a : Addr) (w : World) : (Instr.fieldAt 46 (.pointer (some a)) 0).run Try.prog w = .ok (.pointer (some (a.add 0))) w := by kernel_rfl
theorem tyok46 : TyOK Try.prog 46 ty46 := ⟨⟨_, Try.underlying46, rfl⟩, info_mk (by kernel_rfl), fun k o s h a w => by
    match k, h with
    | 0, h => cases h; exact fl46_0 a w
    | k + 1, h => simp [ty46] at h
  , fun _ => ⟨_, Try.underlying46, fun w => by kernel_rfl⟩⟩
abbrev ty47 : TyI := ⟨.struct, 22, 288, [.int .i64 0, .int .i64 0, .int .i64 0, .int .i64 0, .int .i64 0, .int .i64 0, .int .i64 0, .int .i64 0, .slice none 0 0, .string ⟨#[]⟩, .int .i64 0, .int .i64 0, .int .i64 0, .int .u64 0, .slice none 0 0, .slice none 0 0, .slice none 0 0, .slice none 0 0, .int .i64 0, .slice none 0 0, .string ⟨#[]⟩, .int .i64 0], [(0, 22)]⟩
theorem fl47_0 (a : Addr) (w : World) : (Instr.fieldAt 47 (.pointer (some a)) 0).run Try.prog w = .ok (.pointer (some (a.add 0))) w := by kernel_rfl
theorem tyok47 : TyOK Try.prog 47 ty47 := ⟨⟨_, Try.underlying47, rfl⟩, info_mk (by kernel_rfl), fun k o s h a w => by
    match k, h with
    | 0, h => cases h; exact fl47_0 a w
    | k + 1, h => simp [ty47] at h
  , fun _ => ⟨_, Try.underlying47, fun w => by kernel_rfl⟩⟩
abbrev ty48 : TyI := ⟨.func, 1, 8, [.nilFunc], []⟩
theorem tyok48 : TyOK Try.prog 48 ty48 := ⟨⟨_, Try.underlying48, rfl⟩, info_mk (by kernel_rfl), fun k o s h => by simp [ty48] at h, fun h => by cases h⟩
abbrev ty49 : TyI := ⟨.func, 1, 8, [.nilFunc], []⟩
theorem tyok49 : TyOK Try.prog 49 ty49 := ⟨⟨_, Try.underlying49, rfl⟩, info_mk (by kernel_rfl), fun k o s h => by simp [ty49] at h, fun h => by cases h⟩
abbrev ty50 : TyI := ⟨.func, 1, 8, [.nilFunc], []⟩
theorem tyok50 : TyOK Try.prog 50 ty50 := ⟨⟨_, Try.underlying50, rfl⟩, info_mk (by kernel_rfl), fun k o s h => by simp [ty50] at h, fun h => by cases h⟩
abbrev ty52 : TyI := ⟨.func, 1, 8, [.nilFunc], []⟩
theorem tyok52 : TyOK Try.prog 52 ty52 := ⟨⟨_, Try.underlying52, rfl⟩, info_mk (by kernel_rfl), fun k o s h => by simp [ty52] at h, fun h => by cases h⟩
abbrev ty53 : TyI := ⟨.func, 1, 8, [.nilFunc], []⟩
theorem tyok53 : TyOK Try.prog 53 ty53 := ⟨⟨_, Try.underlying53, rfl⟩, info_mk (by kernel_rfl), fun k o s h => by simp [ty53] at h, fun h => by cases h⟩
abbrev ty54 : TyI := ⟨.func, 1, 8, [.nilFunc], []⟩
theorem tyok54 : TyOK Try.prog 54 ty54 := ⟨⟨_, Try.underlying54, rfl⟩, info_mk (by kernel_rfl), fun k o s h => by simp [ty54] at h, fun h => by cases h⟩
abbrev ty55 : TyI := ⟨.func, 1, 8, [.nilFunc], []⟩
theorem tyok55 : TyOK Try.prog 55 ty55 := ⟨⟨_, Try.underlying55, rfl⟩, info_mk (by kernel_rfl), fun k o s h => by simp [ty55] at h, fun h => by cases h⟩
abbrev ty56 : TyI := ⟨.struct, 4, 48, [.int .i64 0, .int .i64 0, .int .i64 0, .slice none 0 0], [(0, 1), (1, 1), (2, 1), (3, 1)]⟩
theorem fl56_0 (a : Addr) (w : World) : (Instr.fieldAt 56 (.pointer (some a)) 0).run Try.prog w = .ok (.pointer (some (a.add 0))) w := by kernel_rfl
theorem fl56_1 (a : Addr) (w : World) : (Instr.fieldAt 56 (.pointer (some a)) 1).run Try.prog w = .ok (.pointer (some (a.add 1))) w := by kernel_rfl
theorem fl56_2 (a : Addr) (w : World) : (Instr.fieldAt 56 (.pointer (some a)) 2).run Try.prog w = .ok (.pointer (some (a.add 2))) w := by kernel_rfl
theorem fl56_3 (a : Addr) (w : World) : (Instr.fieldAt 56 (.pointer (some a)) 3).run Try.prog w = .ok (.pointer (some (a.add 3))) w := by kernel_rfl
theorem tyok56 : TyOK Try.prog 56 ty56 := ⟨⟨_, Try.underlying56, rfl⟩, info_mk (by kernel_rfl), fun k o s h a w => by
    match k, h with
    | 0, h => cases h; exact fl56_0 a w
    | 1, h => cases h; exact fl56_1 a w
    | 2, h => cases h; exact fl56_2 a w
    | 3, h => cases h; exact fl56_3 a w
    | k + 4, h => simp [ty56] at h
  , fun _ => ⟨_, Try.underlying56, fun w => by kernel_rfl⟩⟩
abbrev ty57 : TyI := ⟨.struct, 4, 48, [.int .i64 0, .int .i64 0, .int .i64 0, .slice none 0 0], [(0, 1), (1, 1), (2, 1), (3, 1)]⟩
theorem fl57_0 (a : Addr) (w : World) : (Instr.fieldAt 57 (.pointer (some a)) 0).run Try.prog w = .ok (.pointer (some (a.add 0))) w := by kernel_rfl
theorem fl57_1 (a : Addr) (w : World) : (Instr.fieldAt 57 (.pointer (some a)) 1).run Try.prog w = .ok (.pointer (some (a.add 1))) w := by kernel_rfl
theorem fl57_2 (a : Addr) (w : World) : (Instr.fieldAt 57 (.pointer (some a)) 2).run Try.prog w = .ok (.pointer (some (a.add 2))) w := by kernel_rfl
theorem fl57_3 (a : Addr) (w : World) : (Instr.fieldAt 57 (.pointer (some a)) 3).run Try.prog w = .ok (.pointer (some (a.add 3))) w := by kernel_rfl
theorem tyok57 : TyOK Try.prog 57 ty57 := ⟨⟨_, Try.underlying57, rfl⟩, info_mk (by kernel_rfl), fun k o s h a w => by
    match k, h with
    | 0, h => cases h; exact fl57_0 a w
    | 1, h => cases h; exact fl57_1 a w
    | 2, h => cases h; exact fl57_2 a w
    | 3, h => cases h; exact fl57_3 a w
    | k + 4, h => simp [ty57] at h
  , fun _ => ⟨_, Try.underlying57, fun w => by kernel_rfl⟩⟩
abbrev ty58 : TyI := ⟨.func, 1, 8, [.nilFunc], []⟩
theorem tyok58 : TyOK Try.prog 58 ty58 := ⟨⟨_, Try.underlying58, rfl⟩, info_mk (by kernel_rfl), fun k o s h => by simp [ty58] at h, fun h => by cases h⟩
abbrev ty59 : TyI := ⟨.pointer, 1, 8, [.pointer none], []⟩
theorem tyok59 : TyOK Try.prog 59 ty59 := ⟨⟨_, Try.underlying59, rfl⟩, info_mk (by kernel_rfl), fun k o s h => by simp [ty59] at h, fun h => by cases h⟩
abbrev ty60 : TyI := ⟨.func, 1, 8, [.nilFunc], []⟩
theorem tyok60 : TyOK Try.prog 60 ty60 := ⟨⟨_, Try.underlying60, rfl⟩, info_mk (by kernel_rfl), fun k o s h => by simp [ty60] at h, fun h => by cases h⟩
abbrev ty61 : TyI := ⟨.struct, 23, 312, [.int .i64 0, .int .i64 0, .int .i64 0, .int .i64 0, .int .i64 0, .int .i64 0, .int .i64 0, .int .i64 0, .slice none 0 0, .string ⟨#[]⟩, .int .i64 0, .int .i64 0, .int .i64 0, .int .u64 0, .slice none 0 0, .slice none 0 0, .slice none 0 0, .slice none 0 0, .int .i64 0, .slice none 0 0, .string ⟨#[]⟩, .int .i64 0, .slice none 0 0], [(0, 22), (22, 1)]⟩
theorem fl61_0 (a : Addr) (w : World) : (Instr.fieldAt 61 (.pointer (some a)) 0).run Try.prog w = .ok (.pointer (some (a.add 0))) w := by kernel_rfl
theorem fl61_1 (a : Addr) (w : World) : (Instr.fieldAt 61 (.pointer (some a)) 1).run Try.prog w = .ok (.pointer (some (a.add 22))) w := by kernel_rfl
theorem tyok61 : TyOK Try.prog 61 ty61 := ⟨⟨_, Try.underlying61, rfl⟩, info_mk (by kernel_rfl), fun k o s h a w => by
    match k, h with
    | 0, h => cases h; exact fl61_0 a w
    | 1, h => cases h; exact fl61_1 a w
    | k + 2, h => simp [ty61] at h
  , fun _ => ⟨_, Try.underlying61, fun w => by kernel_rfl⟩⟩
abbrev ty62 : TyI := ⟨.struct, 23, 312, [.int .i64 0, .int .i64 0, .int .i64 0, .int .i64 0, .int .i64 0, .int .i64 0, .int .i64 0, .int .i64 0, .slice none 0 0, .string ⟨#[]⟩, .int .i64 0, .int .i64 0, .int .i64 0, .int .u64 0, .slice none 0 0, .slice none 0 0, .slice none 0 0, .slice none 0 0, .int .i64 0, .slice none 0 0, .string ⟨#[]⟩, .int .i64 0, .slice none 0 0], [(0, 22), (22, 1)]⟩
theorem fl62_0 (a : Addr) (w : World) : (Instr.fieldAt 62 (.pointer (some a)) 0).run Try.prog w = .ok (.pointer (some (a.add 0))) w := by kernel_rfl
theorem fl62_1 (a : Addr) (w : World) : (Instr.fieldAt 62 (.pointer (some a)) 1).run Try.prog w = .ok (.pointer (some (a.add 22))) w := by kernel_rfl
theorem tyok62 : TyOK Try.prog 62 ty62 := ⟨⟨_, Try.underlying62, rfl⟩, info_mk (by kernel_rfl), fun k o s h a w => by
    match k, h with
    | 0, h => cases h; exact fl62_0 a w
    | 1, h => cases h; exact fl62_1 a w
    | k + 2, h => simp [ty62] at h
  , fun _ => ⟨_, Try.underlying62, fun w => by kernel_rfl⟩⟩
abbrev ty63 : TyI := ⟨.func, 1, 8, [.nilFunc], []⟩
theorem tyok63 : TyOK Try.prog 63 ty63 := ⟨⟨_, Try.underlying63, rfl⟩, info_mk (by kernel_rfl), fun k o s h => by simp [ty63] at h, fun h => by cases h⟩
abbrev ty64 : TyI := ⟨.func, 1, 8, [.nilFunc], []⟩
theorem tyok64 : TyOK Try.prog 64 ty64 := ⟨⟨_, Try.underlying64, rfl⟩, info_mk (by kernel_rfl), fun k o s h => by simp [ty64] at h, fun h => by cases h⟩
abbrev ty65 : TyI := ⟨.func, 1, 8, [.nilFunc], []⟩
theorem tyok65 : TyOK Try.prog 65 ty65 := ⟨⟨_, Try.underlying65, rfl⟩, info_mk (by kernel_rfl), fun k o s h => by simp [ty65] at h, fun h => by cases h⟩
abbrev ty66 : TyI := ⟨.int .u64, 1, 8, [.int .u64 0], []⟩
theorem tyok66 : TyOK Try.prog 66 ty66 := ⟨⟨_, Try.underlying66, rfl⟩, info_mk (by kernel_rfl), fun k o s h => by simp [ty66] at h, fun h => by cases h⟩
abbrev ty67 : TyI := ⟨.struct, 3, 32, [.int .i64 0, .int .i64 0, .string ⟨#[]⟩], [(0, 1), (1, 1), (2, 1)]⟩
theorem fl67_0 (a : Addr) (w : World) : (Instr.fieldAt 67 (.pointer (some a)) 0).run Try.prog w = .ok (.pointer (some (a.add 0))) w := by kernel_rfl
theorem fl67_1 (a : Addr) (w : World) : (Instr.fieldAt 67 (.pointer (some a)) 1).run Try.prog w = .ok (.pointer (some (a.add 1))) w := by kernel_rfl
theorem fl67_2 (a : Addr) (w : World) : (Instr.fieldAt 67 (.pointer (some a)) 2).run Try.prog w = .ok (.pointer (some (a.add 2))) w := by kernel_rfl
theorem tyok67 : TyOK Try.prog 67 ty67 := ⟨⟨_, Try.underlying67, rfl⟩, info_mk (by kernel_rfl), fun k o s h a w => by
    match k, h with
    | 0, h => cases h; exact fl67_0 a w
    | 1, h => cases h; exact fl67_1 a w
    | 2, h => cases h; exact fl67_2 a w
    | k + 3, h => simp [ty67] at h
  , fun _ => ⟨_, Try.underlying67, fun w => by kernel_rfl⟩⟩
abbrev ty68 : TyI := ⟨.struct, 3, 32, [.int .i64 0, .int .i64 0, .string ⟨#[]⟩], [(0, 1), (1, 1), (2, 1)]⟩
theorem fl68_0 (a : Addr) (w : World) : (Instr.fieldAt 68 (.pointer (some a)) 0).run Try.prog w = .ok (.pointer (some (a.add 0))) w := by kernel_rfl
theorem fl68_1 (a : Addr) (w : World) : (Instr.fieldAt 68 (.pointer (some a)) 1).run Try.prog w = .ok (.pointer (some (a.add 1))) w := by kernel_rfl
theorem fl68_2 (a : Addr) (w : World) : (Instr.fieldAt 68 (.pointer (some a)) 2).run Try.prog w = .ok (.pointer (some (a.add 2))) w := by kernel_rfl
theorem tyok68 : TyOK Try.prog 68 ty68 := ⟨⟨_, Try.underlying68, rfl⟩, info_mk (by kernel_rfl), fun k o s h a w => by
    match k, h with
    | 0, h => cases h; exact fl68_0 a w
    | 1, h => cases h; exact fl68_1 a w
    | 2, h => cases h; exact fl68_2 a w
    | k + 3, h => simp [ty68] at h
  , fun _ => ⟨_, Try.underlying68, fun w => by kernel_rfl⟩⟩
abbrev ty70 : TyI := ⟨.func, 1, 8, [.nilFunc], []⟩
theorem tyok70 : TyOK Try.prog 70 ty70 := ⟨⟨_, Try.underlying70, rfl⟩, info_mk (by kernel_rfl), fun k o s h => by simp [ty70] at h, fun h => by cases h⟩
abbrev ty71 : TyI := ⟨.func, 1, 8, [.nilFunc], []⟩
theorem tyok71 : TyOK Try.prog 71 ty71 := ⟨⟨_, Try.underlying71, rfl⟩, info_mk (by kernel_rfl), fun k o s h => by simp [ty71] at h, fun h => by cases h⟩
abbrev ty72 : TyI := ⟨.func, 1, 8, [.nilFunc], []⟩
theorem tyok72 : TyOK Try.prog 72 ty72 := ⟨⟨_, Try.underlying72, rfl⟩, info_mk (by kernel_rfl), fun k o s h => by simp [ty72] at h, fun h => by cases h⟩
abbrev ty73 : TyI := ⟨.func, 1, 8, [.nilFunc], []⟩
theorem tyok73 : TyOK Try.prog 73 ty73 := ⟨⟨_, Try.underlying73, rfl⟩, info_mk (by kernel_rfl), fun k o s h => by simp [ty73] at h, fun h => by cases h⟩
abbrev ty74 : TyI := ⟨.func, 1, 8, [.nilFunc], []⟩
theorem tyok74 : TyOK Try.prog 74 ty74 := ⟨⟨_, Try.underlying74, rfl⟩, info_mk (by kernel_rfl), fun k o s h => by simp [ty74] at h, fun h => by cases h⟩
abbrev ty75 : TyI := ⟨.func, 1, 8, [.nilFunc], []⟩
theorem tyok75 : TyOK Try.prog 75 ty75 := ⟨⟨_, Try.underlying75, rfl⟩, info_mk (by kernel_rfl), fun k o s h => by simp [ty75] at h, fun h => by cases h⟩
abbrev ty76 : TyI := ⟨.func, 1, 8, [.nilFunc], []⟩
theorem tyok76 : TyOK Try.prog 76 ty76 := ⟨⟨_, Try.underlying76, rfl⟩, info_mk (by kernel_rfl), fun k o s h => by simp [ty76] at h, fun h => by cases h⟩
abbrev ty77 : TyI := ⟨.struct, 13, 128, [.int .i64 0, .int .i64 0, .int .i64 0, .int .i64 0, .int .i64 0, .int .i64 0, .int .i64 0, .int .i64 0, .bool false, .slice none 0 0, .int .i64 0, .string ⟨#[]⟩, .bool false], [(0, 1), (1, 1), (2, 1), (3, 1), (4, 1), (5, 1), (6, 1), (7, 1), (8, 1), (9, 1), (10, 1), (11, 1), (12, 1)]⟩
theorem fl77_0 (a : Addr) (w : World) : (Instr.fieldAt 77 (.pointer (some a)) 0).run Try.prog w = .ok (.pointer (some (a.add 0))) w := by kernel_rfl
theorem fl77_1 (a : Addr) (w : World) : (Instr.fieldAt 77 (.pointer (some a)) 1).run Try.prog w = .ok (.pointer (some (a.add 1))) w := by kernel_rfl
theorem fl77_2 (a : Addr) (w : World) : (Instr.fieldAt 77 (.pointer (some a)) 2).run Try.prog w = .ok (.pointer (some (a.add 2))) w := by kernel_rfl
theorem fl77_3 (a : Addr) (w : World) : (Instr.fieldAt 77 (.pointer (some a)) 3).run Try.prog w = .ok (.pointer (some (a.add 3))) w := by kernel_rfl
theorem fl77_4 (a : Addr) (w : World) : (Instr.fieldAt 77 (.pointer (some a)) 4).run Try.prog w = .ok (.pointer (some (a.add 4))) w := by kernel_rfl
theorem fl77_5 (a : Addr) (w : World) : (Instr.fieldAt 77 (.pointer (some a)) 5).run Try.prog w = .ok (.pointer (some (a.add 5))) w := by kernel_rfl
theorem fl77_6 (a : Addr) (w : World) : (Instr.fieldAt 77 (.pointer (some a)) 6).run Try.prog w = .ok (.pointer (some (a.add 6))) w := by kernel_rfl
theorem fl77_7 (a : Addr) (w : World) : (Instr.fieldAt 77 (.pointer (some a)) 7).run Try.prog w = .ok (.pointer (some (a.add 7))) w := by kernel_rfl
theorem fl77_8 (a : Addr) (w : World) : (Instr.fieldAt 77 (.pointer (some a)) 8).run Try.prog w = .ok (.pointer (some (a.add 8))) w := by kernel_rfl
theorem fl77_9 (a : Addr) (w : World) : (Instr.fieldAt 77 (.pointer (some a)) 9).run Try.prog w = .ok (.pointer (some (a.add 9))) w := by kernel_rfl
theorem fl77_10 (a : Addr) (w : World) : (Instr.fieldAt 77 (.pointer (some a)) 10).run Try.prog w = .ok (.pointer (some (a.add 10))) w := by kernel_rfl
theorem fl77_11 (a : Addr) (w : World) : (Instr.fieldAt 77 (.pointer (some a)) 11).run Try.prog w = .ok (.pointer (some (a.add 11))) w := by kernel_rfl
theorem fl77_12 (a : Addr) (w : World) : (Instr.fieldAt 77 (.pointer (some a)) 12).run Try.prog w = .ok (.pointer (some (a.add 12))) w := by kernel_rfl
theorem tyok77 : TyOK Try.prog 77 ty77 := ⟨⟨_, Try.underlying77, rfl⟩, info_mk (by kernel_rfl), fun k o s h a w => by
    match k, h with
    | 0, h => cases h; exact fl77_0 a w
    | 1, h => cases h; exact fl77_1 a w
    | 2, h => cases h; exact fl77_2 a w
    | 3, h => cases h; exact fl77_3 a w
    | 4, h => cases h; exact fl77_4 a w
    | 5, h => cases h; exact fl77_5 a w
    | 6, h => cases h; exact fl77_6 a w
    | 7, h => cases h; exact fl77_7 a w
    | 8, h => cases h; exact fl77_8 a w
    | 9, h => cases h; exact fl77_9 a w
    | 10, h => cases h; exact fl77_10 a w
    | 11, h => cases h; exact fl77_11 a w
    | 12, h => cases h; exact fl77_12 a w
    | k + 13, h => simp [ty77] at h
  , fun _ => ⟨_, Try.underlying77, fun w => by kernel_rfl⟩⟩
abbrev ty78 : TyI := ⟨.struct, 13, 128, [.int .i64 0, .int .i64 0, .int .i64 0, .int .i64 0, .int .i64 0, .int .i64 0, .int .i64 0, .int .i64 0, .bool false, .slice none 0 0, .int .i64 0, .string ⟨#[]⟩, .bool false], [(0, 1), (1, 1), (2, 1), (3, 1), (4, 1), (5, 1), (6, 1), (7, 1), (8, 1), (9, 1), (10, 1), (11, 1), (12, 1)]⟩
theorem fl78_0 (a : Addr) (w : World) : (Instr.fieldAt 78 (.pointer (some a)) 0).run Try.prog w = .ok (.pointer (some (a.add 0))) w := by kernel_rfl
theorem fl78_1 (a : Addr) (w : World) : (Instr.fieldAt 78 (.pointer (some a)) 1).run Try.prog w = .ok (.pointer (some (a.add 1))) w := by kernel_rfl
theorem fl78_2 (a : Addr) (w : World) : (Instr.fieldAt 78 (.pointer (some a)) 2).run Try.prog w = .ok (.pointer (some (a.add 2))) w := by kernel_rfl
theorem fl78_3 (a : Addr) (w : World) : (Instr.fieldAt 78 (.pointer (some a)) 3).run Try.prog w = .ok (.pointer (some (a.add 3))) w := by kernel_rfl
theorem fl78_4 (a : Addr) (w : World) : (Instr.fieldAt 78 (.pointer (some a)) 4).run Try.prog w = .ok (.pointer (some (a.add 4))) w := by kernel_rfl
theorem fl78_5 (a : Addr) (w : World) : (Instr.fieldAt 78 (.pointer (some a)) 5).run Try.prog w = .ok (.pointer (some (a.add 5))) w := by kernel_rfl
theorem fl78_6 (a : Addr) (w : World) : (Instr.fieldAt 78 (.pointer (some a)) 6).run Try.prog w = .ok (.pointer (some (a.add 6))) w := by kernel_rfl
theorem fl78_7 (a : Addr) (w : World) : (Instr.fieldAt 78 (.pointer (some a)) 7).run Try.prog w = .ok (.pointer (some (a.add 7))) w := by kernel_rfl
theorem fl78_8 (a : Addr) (w : World) : (Instr.fieldAt 78 (.pointer (some a)) 8).run Try.prog w = .ok (.pointer (some (a.add 8))) w := by kernel_rfl
theorem fl78_9 (a : Addr) (w : World) : (Instr.fieldAt 78 (.pointer (some a)) 9).run Try.prog w = .ok (.pointer (some (a.add 9))) w := by kernel_rfl
theorem fl78_10 (a : Addr) (w : World) : (Instr.fieldAt 78 (.pointer (some a)) 10).run Try.prog w = .ok (.pointer (some (a.add 10))) w := by kernel_rfl
theorem fl78_11 (a : Addr) (w : World) : (Instr.fieldAt 78 (.pointer (some a)) 11).run Try.prog w = .ok (.pointer (some (a.add 11))) w := by kernel_rfl
theorem fl78_12 (a : Addr) (w : World) : (Instr.fieldAt 78 (.pointer (some a)) 12).run Try.prog w = .ok (.pointer (some (a.add 12))) w := by kernel_rfl
theorem tyok78 : TyOK Try.prog 78 ty78 := ⟨⟨_, Try.underlying78, rfl⟩, info_mk (by kernel_rfl), fun k o s h a w => by
    match k, h with
    | 0, h => cases h; exact fl78_0 a w
    | 1, h => cases h; exact fl78_1 a w
    | 2, h => cases h; exact fl78_2 a w
    | 3, h => cases h; exact fl78_3 a w
    | 4, h => cases h; exact fl78_4 a w
    | 5, h => cases h; exact fl78_5 a w
    | 6, h => cases h; exact fl78_6 a w
    | 7, h => cases h; exact fl78_7 a w
    | 8, h => cases h; exact fl78_8 a w
    | 9, h => cases h; exact fl78_9 a w
    | 10, h => cases h; exact fl78_10 a w
    | 11, h => cases h; exact fl78_11 a w
    | 12, h => cases h; exact fl78_12 a w
    | k + 13, h => simp [ty78] at h
  , fun _ => ⟨_, Try.underlying78, fun w => by kernel_rfl⟩⟩
abbrev ty80 : TyI := ⟨.func, 1, 8, [.nilFunc], []⟩
theorem tyok80 : TyOK Try.prog 80 ty80 := ⟨⟨_, Try.underlying80, rfl⟩, info_mk (by kernel_rfl), fun k o s h => by simp [ty80] at h, fun h => by cases h⟩
abbrev ty81 : TyI := ⟨.func, 1, 8, [.nilFunc], []⟩
theorem tyok81 : TyOK Try.prog 81 ty81 := ⟨⟨_, Try.underlying81, rfl⟩, info_mk (by kernel_rfl), fun k o s h => by simp [ty81] at h, fun h => by cases h⟩
abbrev ty82 : TyI := ⟨.func, 1, 8, [.nilFunc], []⟩
theorem tyok82 : TyOK Try.prog 82 ty82 := ⟨⟨_, Try.underlying82, rfl⟩, info_mk (by kernel_rfl), fun k o s h => by simp [ty82] at h, fun h => by cases h⟩
abbrev ty83 : TyI := ⟨.func, 1, 8, [.nilFunc], []⟩
theorem tyok83 : TyOK Try.prog 83 ty83 := ⟨⟨_, Try.underlying83, rfl⟩, info_mk (by kernel_rfl), fun k o s h => by simp [ty83] at h, fun h => by cases h⟩
abbrev ty84 : TyI := ⟨.func, 1, 8, [.nilFunc], []⟩
theorem tyok84 : TyOK Try.prog 84 ty84 := ⟨⟨_, Try.underlying84, rfl⟩, info_mk (by kernel_rfl), fun k o s h => by simp [ty84] at h, fun h => by cases h⟩
abbrev ty85 : TyI := ⟨.pointer, 1, 8, [.pointer none], []⟩
theorem tyok85 : TyOK Try.prog 85 ty85 := ⟨⟨_, Try.underlying85, rfl⟩, info_mk (by kernel_rfl), fun k o s h => by simp [ty85] at h, fun h => by cases h⟩
abbrev ty86 : TyI := ⟨.slice 85, 1, 24, [.slice none 0 0], []⟩
theorem tyok86 : TyOK Try.prog 86 ty86 := ⟨⟨_, Try.underlying86, rfl⟩, info_mk (by kernel_rfl), fun k o s h => by simp [ty86] at h, fun h => by cases h⟩
abbrev ty87 : TyI := ⟨.func, 1, 8, [.nilFunc], []⟩
theorem tyok87 : TyOK Try.prog 87 ty87 := ⟨⟨_, Try.underlying87, rfl⟩, info_mk (by kernel_rfl), fun k o s h => by simp [ty87] at h, fun h => by cases h⟩
abbrev ty88 : TyI := ⟨.func, 1, 8, [.nilFunc], []⟩
theorem tyok88 : TyOK Try.prog 88 ty88 := ⟨⟨_, Try.underlying88, rfl⟩, info_mk (by kernel_rfl), fun k o s h => by simp [ty88] at h, fun h => by cases h⟩
abbrev ty89 : TyI := ⟨.func, 1, 8, [.nilFunc], []⟩
theorem tyok89 : TyOK Try.prog 89 ty89 := ⟨⟨_, Try.underlying89, rfl⟩, info_mk (by kernel_rfl), fun k o s h => by simp [ty89] at h, fun h => by cases h⟩
abbrev ty90 : TyI := ⟨.func, 1, 8, [.nilFunc], []⟩
theorem tyok90 : TyOK Try.prog 90 ty90 := ⟨⟨_, Try.underlying90, rfl⟩, info_mk (by kernel_rfl), fun k o s h => by simp [ty90] at h, fun h => by cases h⟩
abbrev ty91 : TyI := ⟨.func, 1, 8, [.nilFunc], []⟩
theorem tyok91 : TyOK Try.prog 91 ty91 := ⟨⟨_, Try.underlying91, rfl⟩, info_mk (by kernel_rfl), fun k o s h => by simp [ty91] at h, fun h => by cases h⟩
abbrev ty92 : TyI := ⟨.func, 1, 8, [.nilFunc], []⟩
theorem tyok92 : TyOK Try.prog 92 ty92 := ⟨⟨_, Try.underlying92, rfl⟩, info_mk (by kernel_rfl), fun k o s h => by simp [ty92] at h, fun h => by cases h⟩
abbrev ty93 : TyI := ⟨.func, 1, 8, [.nilFunc], []⟩
theorem tyok93 : TyOK Try.prog 93 ty93 := ⟨⟨_, Try.underlying93, rfl⟩, info_mk (by kernel_rfl), fun k o s h => by simp [ty93] at h, fun h => by cases h⟩
abbrev ty94 : TyI := ⟨.slice 26, 1, 24, [.slice none 0 0], []⟩
theorem tyok94 : TyOK Try.prog 94 ty94 := ⟨⟨_, Try.underlying94, rfl⟩, info_mk (by kernel_rfl), fun k o s h => by simp [ty94] at h, fun h => by cases h⟩
abbrev ty95 : TyI := ⟨.func, 1, 8, [.nilFunc], []⟩
theorem tyok95 : TyOK Try.prog 95 ty95 := ⟨⟨_, Try.underlying95, rfl⟩, info_mk (by kernel_rfl), fun k o s h => by simp [ty95] at h, fun h => by cases h⟩
abbrev ty96 : TyI := ⟨.func, 1, 8, [.nilFunc], []⟩
theorem tyok96 : TyOK Try.prog 96 ty96 := ⟨⟨_, Try.underlying96, rfl⟩, info_mk (by kernel_rfl), fun k o s h => by simp [ty96] at h, fun h => by cases h⟩
abbrev ty98 : TyI := ⟨.func, 1, 8, [.nilFunc], []⟩
theorem tyok98 : TyOK Try.prog 98 ty98 := ⟨⟨_, Try.underlying98, rfl⟩, info_mk (by kernel_rfl), fun k o s h => by simp [ty98] at h, fun h => by cases h⟩
abbrev ty99 : TyI := ⟨.func, 1, 8, [.nilFunc], []⟩
theorem tyok99 : TyOK Try.prog 99 ty99 := ⟨⟨_, Try.underlying99, rfl⟩, info_mk (by kernel_rfl), fun k o s h => by simp [ty99] at h, fun h => by cases h⟩
abbrev ty100 : TyI := ⟨.func, 1, 8, [.nilFunc], []⟩
theorem tyok100 : TyOK Try.prog 100 ty100 := ⟨⟨_, Try.underlying100, rfl⟩, info_mk (by kernel_rfl), fun k o s h => by simp [ty100] at h, fun h => by cases h⟩
abbrev ty101 : TyI := ⟨.int .u32, 1, 4, [.int .u32 0], []⟩
theorem tyok101 : TyOK Try.prog 101 ty101 := ⟨⟨_, Try.underlying101, rfl⟩, info_mk (by kernel_rfl), fun k o s h => by simp [ty101] at h, fun h => by cases h⟩
abbrev ty103 : TyI := ⟨.func, 1, 8, [.nilFunc], []⟩
theorem tyok103 : TyOK Try.prog 103 ty103 := ⟨⟨_, Try.underlying103, rfl⟩, info_mk (by kernel_rfl), fun k o s h => by simp [ty103] at h, fun h => by cases h⟩
abbrev ty105 : TyI := ⟨.func, 1, 8, [.nilFunc], []⟩
theorem tyok105 : TyOK Try.prog 105 ty105 := ⟨⟨_, Try.underlying105, rfl⟩, info_mk (by kernel_rfl), fun k o s h => by simp [ty105] at h, fun h => by cases h⟩
abbrev ty106 : TyI := ⟨.func, 1, 8, [.nilFunc], []⟩
theorem tyok106 : TyOK Try.prog 106 ty106 := ⟨⟨_, Try.underlying106, rfl⟩, info_mk (by kernel_rfl), fun k o s h => by simp [ty106] at h, fun h => by cases h⟩
abbrev ty107 : TyI := ⟨.func, 1, 8, [.nilFunc], []⟩
theorem tyok107 : TyOK Try.prog 107 ty107 := ⟨⟨_, Try.underlying107, rfl⟩, info_mk (by kernel_rfl), fun k o s h => by simp [ty107] at h, fun h => by cases h⟩
abbrev ty108 : TyI := ⟨.func, 1, 8, [.nilFunc], []⟩
theorem tyok108 : TyOK Try.prog 108 ty108 := ⟨⟨_, Try.underlying108, rfl⟩, info_mk (by kernel_rfl), fun k o s h => by simp [ty108] at h, fun h => by cases h⟩
abbrev ty109 : TyI := ⟨.func, 1, 8, [.nilFunc], []⟩
theorem tyok109 : TyOK Try.prog 109 ty109 := ⟨⟨_, Try.underlying109, rfl⟩, info_mk (by kernel_rfl), fun k o s h => by simp [ty109] at h, fun h => by cases h⟩
abbrev ty110 : TyI := ⟨.func, 1, 8, [.nilFunc], []⟩
theorem tyok110 : TyOK Try.prog 110 ty110 := ⟨⟨_, Try.underlying110, rfl⟩, info_mk (by kernel_rfl), fun k o s h => by simp [ty110] at h, fun h => by cases h⟩
abbrev ty111 : TyI := ⟨.func, 1, 8, [.nilFunc], []⟩
theorem tyok111 : TyOK Try.prog 111 ty111 := ⟨⟨_, Try.underlying111, rfl⟩, info_mk (by kernel_rfl), fun k o s h => by simp [ty111] at h, fun h => by cases h⟩
abbrev ty112 : TyI := ⟨.func, 1, 8, [.nilFunc], []⟩
theorem tyok112 : TyOK Try.prog 112 ty112 := ⟨⟨_, Try.underlying112, rfl⟩, info_mk (by kernel_rfl), fun k o s h => by simp [ty112] at h, fun h => by cases h⟩
abbrev ty113 : TyI := ⟨.func, 1, 8, [.nilFunc], []⟩
theorem tyok113 : TyOK Try.prog 113 ty113 := ⟨⟨_, Try.underlying113, rfl⟩, info_mk (by kernel_rfl), fun k o s h => by simp [ty113] at h, fun h => by cases h⟩
abbrev ty114 : TyI := ⟨.func, 1, 8, [.nilFunc], []⟩
theorem tyok114 : TyOK Try.prog 114 ty114 := ⟨⟨_, Try.underlying114, rfl⟩, info_mk (by kernel_rfl), fun k o s h => by simp [ty114] at h, fun h => by cases h⟩
abbrev ty115 : TyI := ⟨.int .i64, 1, 8, [.int .i64 0], []⟩
theorem tyok115 : TyOK Try.prog 115 ty115 := ⟨⟨_, Try.underlying115, rfl⟩, info_mk (by kernel_rfl), fun k o s h => by simp [ty115] at h, fun h => by cases h⟩
abbrev ty117 : TyI := ⟨.func, 1, 8, [.nilFunc], []⟩
theorem tyok117 : TyOK Try.prog 117 ty117 := ⟨⟨_, Try.underlying117, rfl⟩, info_mk (by kernel_rfl), fun k o s h => by simp [ty117] at h, fun h => by cases h⟩
abbrev ty118 : TyI := ⟨.func, 1, 8, [.nilFunc], []⟩
theorem tyok118 : TyOK Try.prog 118 ty118 := ⟨⟨_, Try.underlying118, rfl⟩, info_mk (by kernel_rfl), fun k o s h => by simp [ty118] at h, fun h => by cases h⟩
abbrev ty119 : TyI := ⟨.func, 1, 8, [.nilFunc], []⟩
theorem tyok119 : TyOK Try.prog 119 ty119 := ⟨⟨_, Try.underlying119, rfl⟩, info_mk (by kernel_rfl), fun k o s h => by simp [ty119] at h, fun h => by cases h⟩
abbrev ty120 : TyI := ⟨.func, 1, 8, [.nilFunc], []⟩
theorem tyok120 : TyOK Try.prog 120 ty120 := ⟨⟨_, Try.underlying120, rfl⟩, info_mk (by kernel_rfl), fun k o s h => by simp [ty120] at h, fun h => by cases h⟩
abbrev ty121 : TyI := ⟨.func, 1, 8, [.nilFunc], []⟩
theorem tyok121 : TyOK Try.prog 121 ty121 := ⟨⟨_, Try.underlying121, rfl⟩, info_mk (by kernel_rfl), fun k o s h => by simp [ty121] at h, fun h => by cases h⟩
abbrev ty122 : TyI := ⟨.func, 1, 8, [.nilFunc], []⟩
theorem tyok122 : TyOK Try.prog 122 ty122 := ⟨⟨_, Try.underlying122, rfl⟩, info_mk (by kernel_rfl), fun k o s h => by simp [ty122] at h, fun h => by cases h⟩
abbrev ty123 : TyI := ⟨.func, 1, 8, [.nilFunc], []⟩
theorem tyok123 : TyOK Try.prog 123 ty123 := ⟨⟨_, Try.underlying123, rfl⟩, info_mk (by kernel_rfl), fun k o s h => by simp [ty123] at h, fun h => by cases h⟩
abbrev ty124 : TyI := ⟨.int .u64, 1, 8, [.int .u64 0], []⟩
theorem tyok124 : TyOK Try.prog 124 ty124 := ⟨⟨_, Try.underlying124, rfl⟩, info_mk (by kernel_rfl), fun k o s h => by simp [ty124] at h, fun h => by cases h⟩
abbrev ty125 : TyI := ⟨.func, 1, 8, [.nilFunc], []⟩
theorem tyok125 : TyOK Try.prog 125 ty125 := ⟨⟨_, Try.underlying125, rfl⟩, info_mk (by kernel_rfl), fun k o s h => by simp [ty125] at h, fun h => by cases h⟩
abbrev ty126 : TyI := ⟨.func, 1, 8, [.nilFunc], []⟩
theorem tyok126 : TyOK Try.prog 126 ty126 := ⟨⟨_, Try.underlying126, rfl⟩, info_mk (by kernel_rfl), fun k o s h => by simp [ty126] at h, fun h => by cases h⟩
abbrev ty127 : TyI := ⟨.func, 1, 8, [.nilFunc], []⟩
theorem tyok127 : TyOK Try.prog 127 ty127 := ⟨⟨_, Try.underlying127, rfl⟩, info_mk (by kernel_rfl), fun k o s h => by simp [ty127] at h, fun h => by cases h⟩
abbrev ty128 : TyI := ⟨.pointer, 1, 8, [.pointer none], []⟩
theorem tyok128 : TyOK Try.prog 128 ty128 := ⟨⟨_, Try.underlying128, rfl⟩, info_mk (by kernel_rfl), fun k o s h => by simp [ty128] at h, fun h => by cases h⟩
abbrev ty129 : TyI := ⟨.func, 1, 8, [.nilFunc], []⟩
theorem tyok129 : TyOK Try.prog 129 ty129 := ⟨⟨_, Try.underlying129, rfl⟩, info_mk (by kernel_rfl), fun k o s h => by simp [ty129] at h, fun h => by cases h⟩
abbrev ty130 : TyI := ⟨.pointer, 1, 8, [.pointer none], []⟩
theorem tyok130 : TyOK Try.prog 130 ty130 := ⟨⟨_, Try.underlying130, rfl⟩, info_mk (by kernel_rfl), fun k o s h => by simp [ty130] at h, fun h => by cases h⟩
abbrev ty131 : TyI := ⟨.func, 1, 8, [.nilFunc], []⟩
theorem tyok131 : TyOK Try.prog 131 ty131 := ⟨⟨_, Try.underlying131, rfl⟩, info_mk (by kernel_rfl), fun k o s h => by simp [ty131] at h, fun h => by cases h⟩
abbrev ty132 : TyI := ⟨.func, 1, 8, [.nilFunc], []⟩
theorem tyok132 : TyOK Try.prog 132 ty132 := ⟨⟨_, Try.underlying132, rfl⟩, info_mk (by kernel_rfl), fun k o s h => by simp [ty132] at h, fun h => by cases h⟩
abbrev ty133 : TyI := ⟨.struct, 4, 40, [.pointer none, .pointer none, .pointer none, .string ⟨#[]⟩], [(0, 1), (1, 1), (2, 1), (3, 1)]⟩
theorem fl133_0 (a : Addr) (w : World) : (Instr.fieldAt 133 (.pointer (some a)) 0).run Try.prog w = .ok (.pointer (some (a.add 0))) w := by kernel_rfl
theorem fl133_1 (a : Addr) (w : World) : (Instr.fieldAt 133 (.pointer (some a)) 1).run Try.prog w = .ok (.pointer (some (a.add 1))) w := by kernel_rfl
theorem fl133_2 (a : Addr) (w : World) : (Instr.fieldAt 133 (.pointer (some a)) 2).run Try.prog w = .ok (.pointer (some (a.add 2))) w := by kernel_rfl
theorem fl133_3 (a : Addr) (w : World) : (Instr.fieldAt 133 (.pointer (some a)) 3).run Try.prog w = .ok (.pointer (some (a.add 3))) w := by kernel_rfl
theorem tyok133 : TyOK Try.prog 133 ty133 := ⟨⟨_, Try.underlying133, rfl⟩, info_mk (by kernel_rfl), fun k o s h a w => by
    match k, h with
    | 0, h => cases h; exact fl133_0 a w
    | 1, h => cases h; exact fl133_1 a w
    | 2, h => cases h; exact fl133_2 a w
    | 3, h => cases h; exact fl133_3 a w
    | k + 4, h => simp [ty133] at h
  , fun _ => ⟨_, Try.underlying133, fun w => by kernel_rfl⟩⟩
abbrev ty134 : TyI := ⟨.struct, 4, 40, [.pointer none, .pointer none, .pointer none, .string ⟨#[]⟩], [(0, 1), (1, 1), (2, 1), (3, 1)]⟩
theorem fl134_0 (a : Addr) (w : World) : (Instr.fieldAt 134 (.pointer (some a)) 0).run Try.prog w = .ok (.pointer (some (a.add 0))) w := by kernel_rfl
theorem fl134_1 (a : Addr) (w : World) : (Instr.fieldAt 134 (.pointer (some a)) 1).run Try.prog w = .ok (.pointer (some (a.add 1))) w := by kernel_rfl
theorem fl134_2 (a : Addr) (w : World) : (Instr.fieldAt 134 (.pointer (some a)) 2).run Try.prog w = .ok (.pointer (some (a.add 2))) w := by kernel_rfl
theorem fl134_3 (a : Addr) (w : World) : (Instr.fieldAt 134 (.pointer (some a)) 3).run Try.prog w = .ok (.pointer (some (a.add 3))) w := by kernel_rfl
theorem tyok134 : TyOK Try.prog 134 ty134 := ⟨⟨_, Try.underlying134, rfl⟩, info_mk (by kernel_rfl), fun k o s h a w => by
    match k, h with
    | 0, h => cases h; exact fl134_0 a w
    | 1, h => cases h; exact fl134_1 a w
    | 2, h => cases h; exact fl134_2 a w
    | 3, h => cases h; exact fl134_3 a w
    | k + 4, h => simp [ty134] at h
  , fun _ => ⟨_, Try.underlying134, fun w => by kernel_rfl⟩⟩
abbrev ty138 : TyI := ⟨.func, 1, 8, [.nilFunc], []⟩
theorem tyok138 : TyOK Try.prog 138 ty138 := ⟨⟨_, Try.underlying138, rfl⟩, info_mk (by kernel_rfl), fun k o s h => by simp [ty138] at h, fun h => by cases h⟩
abbrev ty139 : TyI := ⟨.int .u8, 1, 1, [.int .u8 0], []⟩
theorem tyok139 : TyOK Try.prog 139 ty139 := ⟨⟨_, Try.underlying139, rfl⟩, info_mk (by kernel_rfl), fun k o s h => by simp [ty139] at h, fun h => by cases h⟩
abbrev ty140 : TyI := ⟨.int .u8, 1, 1, [.int .u8 0], []⟩
theorem tyok140 : TyOK Try.prog 140 ty140 := ⟨⟨_, Try.underlying140, rfl⟩, info_mk (by kernel_rfl), fun k o s h => by simp [ty140] at h, fun h => by cases h⟩
abbrev ty141 : TyI := ⟨.func, 1, 8, [.nilFunc], []⟩
theorem tyok141 : TyOK Try.prog 141 ty141 := ⟨⟨_, Try.underlying141, rfl⟩, info_mk (by kernel_rfl), fun k o s h => by simp [ty141] at h, fun h => by cases h⟩
abbrev ty142 : TyI := ⟨.pointer, 1, 8, [.pointer none], []⟩
theorem tyok142 : TyOK Try.prog 142 ty142 := ⟨⟨_, Try.underlying142, rfl⟩, info_mk (by kernel_rfl), fun k o s h => by simp [ty142] at h, fun h => by cases h⟩
abbrev ty143 : TyI := ⟨.int .i32, 1, 4, [.int .i32 0], []⟩
theorem tyok143 : TyOK Try.prog 143 ty143 := ⟨⟨_, Try.underlying143, rfl⟩, info_mk (by kernel_rfl), fun k o s h => by simp [ty143] at h, fun h => by cases h⟩
abbrev ty144 : TyI := ⟨.int .i32, 1, 4, [.int .i32 0], []⟩
theorem tyok144 : TyOK Try.prog 144 ty144 := ⟨⟨_, Try.underlying144, rfl⟩, info_mk (by kernel_rfl), fun k o s h => by simp [ty144] at h, fun h => by cases h⟩
abbrev ty145 : TyI := ⟨.struct, 11, 48, [.int .u64 0, .int .u64 0, .int .u32 0, .int .u8 0, .int .u8 0, .int .u8 0, .int .u8 0, .nilFunc, .pointer none, .int .i32 0, .int .i32 0], [(0, 1), (1, 1), (2, 1), (3, 1), (4, 1), (5, 1), (6, 1), (7, 1), (8, 1), (9, 1), (10, 1)]⟩
theorem fl145_0 (a : Addr) (w : World) : (Instr.fieldAt 145 (.pointer (some a)) 0).run Try.prog w = .ok (.pointer (some (a.add 0))) w := by kernel_rfl
theorem fl145_1 (a : Addr) (w : World) : (Instr.fieldAt 145 (.pointer (some a)) 1).run Try.prog w = .ok (.pointer (some (a.add 1))) w := by kernel_rfl
theorem fl145_2 (a : Addr) (w : World) : (Instr.fieldAt 145 (.pointer (some a)) 2).run Try.prog w = .ok (.pointer (some (a.add 2))) w := by kernel_rfl
theorem fl145_3 (a : Addr) (w : World) : (Instr.fieldAt 145 (.pointer (some a)) 3).run Try.prog w = .ok (.pointer (some (a.add 3))) w := by kernel_rfl
theorem fl145_4 (a : Addr) (w : World) : (Instr.fieldAt 145 (.pointer (some a)) 4).run Try.prog w = .ok (.pointer (some (a.add 4))) w := by kernel_rfl
theorem fl145_5 (a : Addr) (w : World) : (Instr.fieldAt 145 (.pointer (some a)) 5).run Try.prog w = .ok (.pointer (some (a.add 5))) w := by kernel_rfl
theorem fl145_6 (a : Addr) (w : World) : (Instr.fieldAt 145 (.pointer (some a)) 6).run Try.prog w = .ok (.pointer (some (a.add 6))) w := by kernel_rfl
theorem fl145_7 (a : Addr) (w : World) : (Instr.fieldAt 145 (.pointer (some a)) 7).run Try.prog w = .ok (.pointer (some (a.add 7))) w := by kernel_rfl
theorem fl145_8 (a : Addr) (w : World) : (Instr.fieldAt 145 (.pointer (some a)) 8).run Try.prog w = .ok (.pointer (some (a.add 8))) w := by kernel_rfl
theorem fl145_9 (a : Addr) (w : World) : (Instr.fieldAt 145 (.pointer (some a)) 9).run Try.prog w = .ok (.pointer (some (a.add 9))) w := by kernel_rfl
theorem fl145_10 (a : Addr) (w : World) : (Instr.fieldAt 145 (.pointer (some a)) 10).run Try.prog w = .ok (.pointer (some (a.add 10))) w := by kernel_rfl
theorem tyok145 : TyOK Try.prog 145 ty145 := ⟨⟨_, Try.underlying145, rfl⟩, info_mk (by kernel_rfl), fun k o s h a w => by
    match k, h with
    | 0, h => cases h; exact fl145_0 a w
    | 1, h => cases h; exact fl145_1 a w
    | 2, h => cases h; exact fl145_2 a w
    | 3, h => cases h; exact fl145_3 a w
    | 4, h => cases h; exact fl145_4 a w
    | 5, h => cases h; exact fl145_5 a w
    | 6, h => cases h; exact fl145_6 a w
    | 7, h => cases h; exact fl145_7 a w
    | 8, h => cases h; exact fl145_8 a w
    | 9, h => cases h; exact fl145_9 a w
    | 10, h => cases h; exact fl145_10 a w
    | k + 11, h => simp [ty145] at h
  , fun _ => ⟨_, Try.underlying145, fun w => by kernel_rfl⟩⟩
abbrev ty146 : TyI := ⟨.struct, 11, 48, [.int .u64 0, .int .u64 0, .int .u32 0, .int .u8 0, .int .u8 0, .int .u8 0, .int .u8 0, .nilFunc, .pointer none, .int .i32 0, .int .i32 0], [(0, 1), (1, 1), (2, 1), (3, 1), (4, 1), (5, 1), (6, 1), (7, 1), (8, 1), (9, 1), (10, 1)]⟩
theorem fl146_0 (a : Addr) (w : World) : (Instr.fieldAt 146 (.pointer (some a)) 0).run Try.prog w = .ok (.pointer (some (a.add 0))) w := by kernel_rfl
theorem fl146_1 (a : Addr) (w : World) : (Instr.fieldAt 146 (.pointer (some a)) 1).run Try.prog w = .ok (.pointer (some (a.add 1))) w := by kernel_rfl
theorem fl146_2 (a : Addr) (w : World) : (Instr.fieldAt 146 (.pointer (some a)) 2).run Try.prog w = .ok (.pointer (some (a.add 2))) w := by kernel_rfl
theorem fl146_3 (a : Addr) (w : World) : (Instr.fieldAt 146 (.pointer (some a)) 3).run Try.prog w = .ok (.pointer (some (a.add 3))) w := by kernel_rfl
theorem fl146_4 (a : Addr) (w : World) : (Instr.fieldAt 146 (.pointer (some a)) 4).run Try.prog w = .ok (.pointer (some (a.add 4))) w := by kernel_rfl
theorem fl146_5 (a : Addr) (w : World) : (Instr.fieldAt 146 (.pointer (some a)) 5).run Try.prog w = .ok (.pointer (some (a.add 5))) w := by kernel_rfl
theorem fl146_6 (a : Addr) (w : World) : (Instr.fieldAt 146 (.pointer (some a)) 6).run Try.prog w = .ok (.pointer (some (a.add 6))) w := by kernel_rfl
theorem fl146_7 (a : Addr) (w : World) : (Instr.fieldAt 146 (.pointer (some a)) 7).run Try.prog w = .ok (.pointer (some (a.add 7))) w := by kernel_rfl
theorem fl146_8 (a : Addr) (w : World) : (Instr.fieldAt 146 (.pointer (some a)) 8).run Try.prog w = .ok (.pointer (some (a.add 8))) w := by kernel_rfl
theorem fl146_9 (a : Addr) (w : World) : (Instr.fieldAt 146 (.pointer (some a)) 9).run Try.prog w = .ok (.pointer (some (a.add 9))) w := by kernel_rfl
theorem fl146_10 (a : Addr) (w : World) : (Instr.fieldAt 146 (.pointer (some a)) 10).run Try.prog w = .ok (.pointer (some (a.add 10))) w := by kernel_rfl
theorem tyok146 : TyOK Try.prog 146 ty146 := ⟨⟨_, Try.underlying146, rfl⟩, info_mk (by kernel_rfl), fun k o s h a w => by
    match k, h with
    | 0, h => cases h; exact fl146_0 a w
    | 1, h => cases h; exact fl146_1 a w
    | 2, h => cases h; exact fl146_2 a w
    | 3, h => cases h; exact fl146_3 a w
    | 4, h => cases h; exact fl146_4 a w
    | 5, h => cases h; exact fl146_5 a w
    | 6, h => cases h; exact fl146_6 a w
    | 7, h => cases h; exact fl146_7 a w
    | 8, h => cases h; exact fl146_8 a w
    | 9, h => cases h; exact fl146_9 a w
    | 10, h => cases h; exact fl146_10 a w
    | k + 11, h => simp [ty146] at h
  , fun _ => ⟨_, Try.underlying146, fun w => by kernel_rfl⟩⟩
def tys : List (Nat × TyI) := [(1, ty1), (2, ty2), (3, ty3), (4, ty4), (5, ty5), (6, ty6), (7, ty7), (8, ty8), (9, ty9), (10, ty10), (11, ty11), (12, ty12), (13, ty13), (14, ty14), (15, ty15), (16, ty16), (17, ty17), (18, ty18), (19, ty19), (21, ty21), (22, ty22), (23, ty23), (24, ty24), (25, ty25), (26, ty26), (27, ty27), (28, ty28), (29, ty29), (30, ty30), (31, ty31), (32, ty32), (33, ty33), (34, ty34), (36, ty36), (37, ty37), (38, ty38), (39, ty39), (40, ty40), (41, ty41), (42, ty42), (43, ty43), (44, ty44), (45, ty45), (46, ty46), (47, ty47), (48, ty48), (49, ty49), (50, ty50), (52, ty52), (53, ty53), (54, ty54), (55, ty55), (56, ty56), (57, ty57), (58, ty58), (59, ty59), (60, ty60), (61, ty61), (62, ty62), (63, ty63), (64, ty64), (65, ty65), (66, ty66), (67, ty67), (68, ty68), (70, ty70), (71, ty71), (72, ty72), (73, ty73), (74, ty74), (75, ty75), (76, ty76), (77, ty77), (78, ty78), (80, ty80), (81, ty81), (82, ty82), (83, ty83), (84, ty84), (85, ty85), (86, ty86), (87, ty87), (88, ty88), (89, ty89), (90, ty90), (91, ty91), (92, ty92), (93, ty93), (94, ty94), (95, ty95), (96, ty96), (98, ty98), (99, ty99), (100, ty100), (101, ty101), (103, ty103), (105, ty105), (106, ty106), (107, ty107), (108, ty108), (109, ty109), (110, ty110), (111, ty111), (112, ty112), (113, ty113), (114, ty114), (115, ty115), (117, ty117), (118, ty118), (119, ty119), (120, ty120), (121, ty121), (122, ty122), (123, ty123), (124, ty124), (125, ty125), (126, ty126), (127, ty127), (128, ty128), (129, ty129), (130, ty130), (131, ty131), (132, ty132), (133, ty133), (134, ty134), (138, ty138), (139, ty139), (140, ty140), (141, ty141), (142, ty142), (143, ty143), (144, ty144), (145, ty145), (146, ty146)]
theorem tysOK : TysOK Try.prog tys := by
  unfold tys
  exact TysOK.cons tyok1 (TysOK.cons tyok2 (TysOK.cons tyok3 (TysOK.cons tyok4 (TysOK.cons tyok5 (TysOK.cons tyok6 (TysOK.cons tyok7 (TysOK.cons tyok8 (TysOK.cons tyok9 (TysOK.cons tyok10 (TysOK.cons tyok11 (TysOK.cons tyok12 (TysOK.cons tyok13 (TysOK.cons tyok14 (TysOK.cons tyok15 (TysOK.cons tyok16 (TysOK.cons tyok17 (TysOK.cons tyok18 (TysOK.cons tyok19 (TysOK.cons tyok21 (TysOK.cons tyok22 (TysOK.cons tyok23 (TysOK.cons tyok24 (TysOK.cons tyok25 (TysOK.cons tyok26 (TysOK.cons tyok27 (TysOK.cons tyok28 (TysOK.cons tyok29 (TysOK.cons tyok30 (TysOK.cons tyok31 (TysOK.cons tyok32 (TysOK.cons tyok33 (TysOK.cons tyok34 (TysOK.cons tyok36 (TysOK.cons tyok37 (TysOK.cons tyok38 (TysOK.cons tyok39 (TysOK.cons tyok40 (TysOK.cons tyok41 (TysOK.cons tyok42 (TysOK.cons tyok43 (TysOK.cons tyok44 (TysOK.cons tyok45 (TysOK.cons tyok46 (TysOK.cons tyok47 (TysOK.cons tyok48 (TysOK.cons tyok49 (TysOK.cons tyok50 (TysOK.cons tyok52 (TysOK.cons tyok53 (TysOK.cons tyok54 (TysOK.cons tyok55 (TysOK.cons tyok56 (TysOK.cons tyok57 (TysOK.cons tyok58 (TysOK.cons tyok59 (TysOK.cons tyok60 (TysOK.cons tyok61 (TysOK.cons tyok62 (TysOK.cons tyok63 (TysOK.cons tyok64 (TysOK.cons tyok65 (TysOK.cons tyok66 (TysOK.cons tyok67 (TysOK.cons tyok68 (TysOK.cons tyok70 (TysOK.cons tyok71 (TysOK.cons tyok72 (TysOK.cons tyok73 (TysOK.cons tyok74 (TysOK.cons tyok75 (TysOK.cons tyok76 (TysOK.cons tyok77 (TysOK.cons tyok78 (TysOK.cons tyok80 (TysOK.cons tyok81 (TysOK.cons tyok82 (TysOK.cons tyok83 (TysOK.cons tyok84 (TysOK.cons tyok85 (TysOK.cons tyok86 (TysOK.cons tyok87 (TysOK.cons tyok88 (TysOK.cons tyok89 (TysOK.cons tyok90 (TysOK.cons tyok91 (TysOK.cons tyok92 (TysOK.cons tyok93 (TysOK.cons tyok94 (TysOK.cons tyok95 (TysOK.cons tyok96 (TysOK.cons tyok98 (TysOK.cons tyok99 (TysOK.cons tyok100 (TysOK.cons tyok101 (TysOK.cons tyok103 (TysOK.cons tyok105 (TysOK.cons tyok106 (TysOK.cons tyok107 (TysOK.cons tyok108 (TysOK.cons tyok109 (TysOK.cons tyok110 (TysOK.cons tyok111 (TysOK.cons tyok112 (TysOK.cons tyok113 (TysOK.cons tyok114 (TysOK.cons tyok115 (TysOK.cons tyok117 (TysOK.cons tyok118 (TysOK.cons tyok119 (TysOK.cons tyok120 (TysOK.cons tyok121 (TysOK.cons tyok122 (TysOK.cons tyok123 (TysOK.cons tyok124 (TysOK.cons tyok125 (TysOK.cons tyok126 (TysOK.cons tyok127 (TysOK.cons tyok128 (TysOK.cons tyok129 (TysOK.cons tyok130 (TysOK.cons tyok131 (TysOK.cons tyok132 (TysOK.cons tyok133 (TysOK.cons tyok134 (TysOK.cons tyok138 (TysOK.cons tyok139 (TysOK.cons tyok140 (TysOK.cons tyok141 (TysOK.cons tyok142 (TysOK.cons tyok143 (TysOK.cons tyok144 (TysOK.cons tyok145 (TysOK.cons tyok146 (TysOK.nil))))))))))))))))))))))))))))))))))))))))))))))))))))))))))))))))))))))))))))))))))))))))))))))))))))))))))))))))))))))))))))))))))))))
theorem mixed : Try.prog.follows .mixedOrders = true := by kernel_rfl
instance mixc : MixC Try.prog := ⟨mixed⟩
instance ok3 : OkC Try.prog 3 := ⟨by kernel_rfl⟩
instance ok4 : OkC Try.prog 4 := ⟨by kernel_rfl⟩
instance ok5 : OkC Try.prog 5 := ⟨by kernel_rfl⟩
instance ok6 : OkC Try.prog 6 := ⟨by kernel_rfl⟩
instance ok7 : OkC Try.prog 7 := ⟨by kernel_rfl⟩
instance ok8 : OkC Try.prog 8 := ⟨by kernel_rfl⟩
instance ok9 : OkC Try.prog 9 := ⟨by kernel_rfl⟩
instance ok10 : OkC Try.prog 10 := ⟨by kernel_rfl⟩
instance ok11 : OkC Try.prog 11 := ⟨by kernel_rfl⟩
instance ok12 : OkC Try.prog 12 := ⟨by kernel_rfl⟩
instance ok13 : OkC Try.prog 13 := ⟨by kernel_rfl⟩
instance ok14 : OkC Try.prog 14 := ⟨by kernel_rfl⟩
instance ok15 : OkC Try.prog 15 := ⟨by kernel_rfl⟩
instance ok16 : OkC Try.prog 16 := ⟨by kernel_rfl⟩
instance ok17 : OkC Try.prog 17 := ⟨by kernel_rfl⟩
instance ok18 : OkC Try.prog 18 := ⟨by kernel_rfl⟩
instance ok19 : OkC Try.prog 19 := ⟨by kernel_rfl⟩
instance ok20 : OkC Try.prog 20 := ⟨by kernel_rfl⟩
instance ok21 : OkC Try.prog 21 := ⟨by kernel_rfl⟩
instance ok22 : OkC Try.prog 22 := ⟨by kernel_rfl⟩
instance ok23 : OkC Try.prog 23 := ⟨by kernel_rfl⟩
instance ok24 : OkC Try.prog 24 := ⟨by kernel_rfl⟩
instance ok25 : OkC Try.prog 25 := ⟨by kernel_rfl⟩
instance ok26 : OkC Try.prog 26 := ⟨by kernel_rfl⟩
instance ok27 : OkC Try.prog 27 := ⟨by kernel_rfl⟩
instance ok28 : OkC Try.prog 28 := ⟨by kernel_rfl⟩
instance ok29 : OkC Try.prog 29 := ⟨by kernel_rfl⟩
instance ok30 : OkC Try.prog 30 := ⟨by kernel_rfl⟩
instance ok31 : OkC Try.prog 31 := ⟨by kernel_rfl⟩
instance ok32 : OkC Try.prog 32 := ⟨by kernel_rfl⟩
instance ok33 : OkC Try.prog 33 := ⟨by kernel_rfl⟩
instance ok34 : OkC Try.prog 34 := ⟨by kernel_rfl⟩
instance ok35 : OkC Try.prog 35 := ⟨by kernel_rfl⟩
instance ok36 : OkC Try.prog 36 := ⟨by kernel_rfl⟩
instance ok37 : OkC Try.prog 37 := ⟨by kernel_rfl⟩
instance ok38 : OkC Try.prog 38 := ⟨by kernel_rfl⟩
instance ok39 : OkC Try.prog 39 := ⟨by kernel_rfl⟩
instance ok40 : OkC Try.prog 40 := ⟨by kernel_rfl⟩
instance ok41 : OkC Try.prog 41 := ⟨by kernel_rfl⟩
instance ok42 : OkC Try.prog 42 := ⟨by kernel_rfl⟩
instance ok43 : OkC Try.prog 43 := ⟨by kernel_rfl⟩
instance ok44 : OkC Try.prog 44 := ⟨by kernel_rfl⟩
instance ok45 : OkC Try.prog 45 := ⟨by kernel_rfl⟩
instance ok46 : OkC Try.prog 46 := ⟨by kernel_rfl⟩
instance ok47 : OkC Try.prog 47 := ⟨by kernel_rfl⟩
instance ok48 : OkC Try.prog 48 := ⟨by kernel_rfl⟩
instance ok49 : OkC Try.prog 49 := ⟨by kernel_rfl⟩
instance ok50 : OkC Try.prog 50 := ⟨by kernel_rfl⟩
instance ok51 : OkC Try.prog 51 := ⟨by kernel_rfl⟩
instance ok52 : OkC Try.prog 52 := ⟨by kernel_rfl⟩
instance ok53 : OkC Try.prog 53 := ⟨by kernel_rfl⟩
instance ok54 : OkC Try.prog 54 := ⟨by kernel_rfl⟩
instance ok55 : OkC Try.prog 55 := ⟨by kernel_rfl⟩
instance ok56 : OkC Try.prog 56 := ⟨by kernel_rfl⟩
instance ok57 : OkC Try.prog 57 := ⟨by kernel_rfl⟩
instance ok58 : OkC Try.prog 58 := ⟨by kernel_rfl⟩
instance ok59 : OkC Try.prog 59 := ⟨by kernel_rfl⟩
instance ok60 : OkC Try.prog 60 := ⟨by kernel_rfl⟩
instance ok61 : OkC Try.prog 61 := ⟨by kernel_rfl⟩
instance ok62 : OkC Try.prog 62 := ⟨by kernel_rfl⟩
instance ok63 : OkC Try.prog 63 := ⟨by kernel_rfl⟩
instance ok64 : OkC Try.prog 64 := ⟨by kernel_rfl⟩
instance ok65 : OkC Try.prog 65 := ⟨by kernel_rfl⟩
instance ok66 : OkC Try.prog 66 := ⟨by kernel_rfl⟩
instance ok67 : OkC Try.prog 67 := ⟨by kernel_rfl⟩
instance ok68 : OkC Try.prog 68 := ⟨by kernel_rfl⟩
instance ok69 : OkC Try.prog 69 := ⟨by kernel_rfl⟩
instance ok70 : OkC Try.prog 70 := ⟨by kernel_rfl⟩
instance ok71 : OkC Try.prog 71 := ⟨by kernel_rfl⟩
instance ok72 : OkC Try.prog 72 := ⟨by kernel_rfl⟩
instance ok73 : OkC Try.prog 73 := ⟨by kernel_rfl⟩
instance ok74 : OkC Try.prog 74 := ⟨by kernel_rfl⟩
instance ok75 : OkC Try.prog 75 := ⟨by kernel_rfl⟩
instance ok76 : OkC Try.prog 76 := ⟨by kernel_rfl⟩
instance ok77 : OkC Try.prog 77 := ⟨by kernel_rfl⟩
instance ok78 : OkC Try.prog 78 := ⟨by kernel_rfl⟩
instance ok79 : OkC Try.prog 79 := ⟨by kernel_rfl⟩
instance ok80 : OkC Try.prog 80 := ⟨by kernel_rfl⟩
instance ok81 : OkC Try.prog 81 := ⟨by kernel_rfl⟩
instance ok82 : OkC Try.prog 82 := ⟨by kernel_rfl⟩
instance ok83 : OkC Try.prog 83 := ⟨by kernel_rfl⟩
instance ok84 : OkC Try.prog 84 := ⟨by kernel_rfl⟩
instance ok85 : OkC Try.prog 85 := ⟨by kernel_rfl⟩
end Go.Proofs.Ytaclpbkbjmbceaa
