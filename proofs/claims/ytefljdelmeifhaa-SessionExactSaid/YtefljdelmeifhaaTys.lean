/-
  What the engine asks of this seat's types, proved type by type (written by mktys.py).
-/
import Derived.Test.YtefljdelmeifhaaEngD
import Derived.Test.YtefljdelmeifhaaProg
import Derived.KernelRfl
namespace Go.Proofs.Ytefljdelmeifhaa
open Go.Eng
set_option maxRecDepth 100000
def ty1 : TyI := ⟨.func, 1, 8, [.nilFunc], []⟩
theorem tyok1 : TyOK Try.prog 1 ty1 := ⟨⟨_, Try.underlying1, rfl⟩, info_mk (by kernel_rfl), fun k o s h => by simp [ty1] at h, fun h => by cases h⟩
def ty2 : TyI := ⟨.int .i64, 1, 8, [.int .i64 0], []⟩
theorem tyok2 : TyOK Try.prog 2 ty2 := ⟨⟨_, Try.underlying2, rfl⟩, info_mk (by kernel_rfl), fun k o s h => by simp [ty2] at h, fun h => by cases h⟩
def ty3 : TyI := ⟨.int .i64, 1, 8, [.int .i64 0], []⟩
theorem tyok3 : TyOK Try.prog 3 ty3 := ⟨⟨_, Try.underlying3, rfl⟩, info_mk (by kernel_rfl), fun k o s h => by simp [ty3] at h, fun h => by cases h⟩
def ty4 : TyI := ⟨.bool, 1, 1, [.bool false], []⟩
theorem tyok4 : TyOK Try.prog 4 ty4 := ⟨⟨_, Try.underlying4, rfl⟩, info_mk (by kernel_rfl), fun k o s h => by simp [ty4] at h, fun h => by cases h⟩
def ty5 : TyI := ⟨.int .u8, 1, 1, [.int .u8 0], []⟩
theorem tyok5 : TyOK Try.prog 5 ty5 := ⟨⟨_, Try.underlying5, rfl⟩, info_mk (by kernel_rfl), fun k o s h => by simp [ty5] at h, fun h => by cases h⟩
def ty6 : TyI := ⟨.int .u8, 1, 1, [.int .u8 0], []⟩
theorem tyok6 : TyOK Try.prog 6 ty6 := ⟨⟨_, Try.underlying6, rfl⟩, info_mk (by kernel_rfl), fun k o s h => by simp [ty6] at h, fun h => by cases h⟩
def ty7 : TyI := ⟨.struct, 4, 24, [.int .i64 0, .int .i64 0, .bool false, .int .u8 0], [(0, 1), (1, 1), (2, 1), (3, 1)]⟩
theorem fl7_0 (a : Addr) (w : World) : (Instr.fieldAt 7 (.pointer (some a)) 0).run Try.prog w = .ok (.pointer (some (a.add 0))) w := by kernel_rfl
theorem fl7_1 (a : Addr) (w : World) : (Instr.fieldAt 7 (.pointer (some a)) 1).run Try.prog w = .ok (.pointer (some (a.add 1))) w := by kernel_rfl
theorem fl7_2 (a : Addr) (w : World) : (Instr.fieldAt 7 (.pointer (some a)) 2).run Try.prog w = .ok (.pointer (some (a.add 2))) w := by kernel_rfl
theorem fl7_3 (a : Addr) (w : World) : (Instr.fieldAt 7 (.pointer (some a)) 3).run Try.prog w = .ok (.pointer (some (a.add 3))) w := by kernel_rfl
theorem tyok7 : TyOK Try.prog 7 ty7 := ⟨⟨_, Try.underlying7, rfl⟩, info_mk (by kernel_rfl), fun k o s h a w => by
    match k, h with
    | 0, h => cases h; exact fl7_0 a w
    | 1, h => cases h; exact fl7_1 a w
    | 2, h => cases h; exact fl7_2 a w
    | 3, h => cases h; exact fl7_3 a w
    | k + 4, h => simp [ty7] at h
  , fun _ => ⟨_, Try.underlying7, fun w => by kernel_rfl⟩⟩
def ty8 : TyI := ⟨.struct, 4, 24, [.int .i64 0, .int .i64 0, .bool false, .int .u8 0], [(0, 1), (1, 1), (2, 1), (3, 1)]⟩
theorem fl8_0 (a : Addr) (w : World) : (Instr.fieldAt 8 (.pointer (some a)) 0).run Try.prog w = .ok (.pointer (some (a.add 0))) w := by kernel_rfl
theorem fl8_1 (a : Addr) (w : World) : (Instr.fieldAt 8 (.pointer (some a)) 1).run Try.prog w = .ok (.pointer (some (a.add 1))) w := by kernel_rfl
theorem fl8_2 (a : Addr) (w : World) : (Instr.fieldAt 8 (.pointer (some a)) 2).run Try.prog w = .ok (.pointer (some (a.add 2))) w := by kernel_rfl
theorem fl8_3 (a : Addr) (w : World) : (Instr.fieldAt 8 (.pointer (some a)) 3).run Try.prog w = .ok (.pointer (some (a.add 3))) w := by kernel_rfl
theorem tyok8 : TyOK Try.prog 8 ty8 := ⟨⟨_, Try.underlying8, rfl⟩, info_mk (by kernel_rfl), fun k o s h a w => by
    match k, h with
    | 0, h => cases h; exact fl8_0 a w
    | 1, h => cases h; exact fl8_1 a w
    | 2, h => cases h; exact fl8_2 a w
    | 3, h => cases h; exact fl8_3 a w
    | k + 4, h => simp [ty8] at h
  , fun _ => ⟨_, Try.underlying8, fun w => by kernel_rfl⟩⟩
def ty9 : TyI := ⟨.string, 1, 16, [.string ⟨#[]⟩], []⟩
theorem tyok9 : TyOK Try.prog 9 ty9 := ⟨⟨_, Try.underlying9, rfl⟩, info_mk (by kernel_rfl), fun k o s h => by simp [ty9] at h, fun h => by cases h⟩
def ty10 : TyI := ⟨.string, 1, 16, [.string ⟨#[]⟩], []⟩
theorem tyok10 : TyOK Try.prog 10 ty10 := ⟨⟨_, Try.underlying10, rfl⟩, info_mk (by kernel_rfl), fun k o s h => by simp [ty10] at h, fun h => by cases h⟩
def ty11 : TyI := ⟨.string, 1, 16, [.string ⟨#[]⟩], []⟩
theorem tyok11 : TyOK Try.prog 11 ty11 := ⟨⟨_, Try.underlying11, rfl⟩, info_mk (by kernel_rfl), fun k o s h => by simp [ty11] at h, fun h => by cases h⟩
def ty12 : TyI := ⟨.int .u64, 1, 8, [.int .u64 0], []⟩
theorem tyok12 : TyOK Try.prog 12 ty12 := ⟨⟨_, Try.underlying12, rfl⟩, info_mk (by kernel_rfl), fun k o s h => by simp [ty12] at h, fun h => by cases h⟩
def ty13 : TyI := ⟨.struct, 2, 24, [.string ⟨#[]⟩, .int .u64 0], [(0, 1), (1, 1)]⟩
theorem fl13_0 (a : Addr) (w : World) : (Instr.fieldAt 13 (.pointer (some a)) 0).run Try.prog w = .ok (.pointer (some (a.add 0))) w := by kernel_rfl
theorem fl13_1 (a : Addr) (w : World) : (Instr.fieldAt 13 (.pointer (some a)) 1).run Try.prog w = .ok (.pointer (some (a.add 1))) w := by kernel_rfl
theorem tyok13 : TyOK Try.prog 13 ty13 := ⟨⟨_, Try.underlying13, rfl⟩, info_mk (by kernel_rfl), fun k o s h a w => by
    match k, h with
    | 0, h => cases h; exact fl13_0 a w
    | 1, h => cases h; exact fl13_1 a w
    | k + 2, h => simp [ty13] at h
  , fun _ => ⟨_, Try.underlying13, fun w => by kernel_rfl⟩⟩
def ty14 : TyI := ⟨.struct, 2, 24, [.string ⟨#[]⟩, .int .u64 0], [(0, 1), (1, 1)]⟩
theorem fl14_0 (a : Addr) (w : World) : (Instr.fieldAt 14 (.pointer (some a)) 0).run Try.prog w = .ok (.pointer (some (a.add 0))) w := by kernel_rfl
theorem fl14_1 (a : Addr) (w : World) : (Instr.fieldAt 14 (.pointer (some a)) 1).run Try.prog w = .ok (.pointer (some (a.add 1))) w := by kernel_rfl
theorem tyok14 : TyOK Try.prog 14 ty14 := ⟨⟨_, Try.underlying14, rfl⟩, info_mk (by kernel_rfl), fun k o s h a w => by
    match k, h with
    | 0, h => cases h; exact fl14_0 a w
    | 1, h => cases h; exact fl14_1 a w
    | k + 2, h => simp [ty14] at h
  , fun _ => ⟨_, Try.underlying14, fun w => by kernel_rfl⟩⟩
def ty15 : TyI := ⟨.pointer, 1, 8, [.pointer none], []⟩
theorem tyok15 : TyOK Try.prog 15 ty15 := ⟨⟨_, Try.underlying15, rfl⟩, info_mk (by kernel_rfl), fun k o s h => by simp [ty15] at h, fun h => by cases h⟩
def ty16 : TyI := ⟨.pointer, 1, 8, [.pointer none], []⟩
theorem tyok16 : TyOK Try.prog 16 ty16 := ⟨⟨_, Try.underlying16, rfl⟩, info_mk (by kernel_rfl), fun k o s h => by simp [ty16] at h, fun h => by cases h⟩
def ty17 : TyI := ⟨.pointer, 1, 8, [.pointer none], []⟩
theorem tyok17 : TyOK Try.prog 17 ty17 := ⟨⟨_, Try.underlying17, rfl⟩, info_mk (by kernel_rfl), fun k o s h => by simp [ty17] at h, fun h => by cases h⟩
def ty18 : TyI := ⟨.struct, 1, 8, [.pointer none], [(0, 1)]⟩
theorem fl18_0 (a : Addr) (w : World) : (Instr.fieldAt 18 (.pointer (some a)) 0).run Try.prog w = .ok (.pointer (some (a.add 0))) w := by kernel_rfl
theorem tyok18 : TyOK Try.prog 18 ty18 := ⟨⟨_, Try.underlying18, rfl⟩, info_mk (by kernel_rfl), fun k o s h a w => by
    match k, h with
    | 0, h => cases h; exact fl18_0 a w
    | k + 1, h => simp [ty18] at h
  , fun _ => ⟨_, Try.underlying18, fun w => by kernel_rfl⟩⟩
def ty19 : TyI := ⟨.struct, 1, 8, [.pointer none], [(0, 1)]⟩
theorem fl19_0 (a : Addr) (w : World) : (Instr.fieldAt 19 (.pointer (some a)) 0).run Try.prog w = .ok (.pointer (some (a.add 0))) w := by kernel_rfl
theorem tyok19 : TyOK Try.prog 19 ty19 := ⟨⟨_, Try.underlying19, rfl⟩, info_mk (by kernel_rfl), fun k o s h a w => by
    match k, h with
    | 0, h => cases h; exact fl19_0 a w
    | k + 1, h => simp [ty19] at h
  , fun _ => ⟨_, Try.underlying19, fun w => by kernel_rfl⟩⟩
def ty21 : TyI := ⟨.int .i32, 1, 4, [.int .i32 0], []⟩
theorem tyok21 : TyOK Try.prog 21 ty21 := ⟨⟨_, Try.underlying21, rfl⟩, info_mk (by kernel_rfl), fun k o s h => by simp [ty21] at h, fun h => by cases h⟩
def ty22 : TyI := ⟨.slice 56, 1, 24, [.slice none 0 0], []⟩
theorem tyok22 : TyOK Try.prog 22 ty22 := ⟨⟨_, Try.underlying22, rfl⟩, info_mk (by kernel_rfl), fun k o s h => by simp [ty22] at h, fun h => by cases h⟩
def ty23 : TyI := ⟨.slice 33, 1, 24, [.slice none 0 0], []⟩
theorem tyok23 : TyOK Try.prog 23 ty23 := ⟨⟨_, Try.underlying23, rfl⟩, info_mk (by kernel_rfl), fun k o s h => by simp [ty23] at h, fun h => by cases h⟩
def ty24 : TyI := ⟨.struct, 2, 48, [.slice none 0 0, .slice none 0 0], [(0, 1), (1, 1)]⟩
theorem fl24_0 (a : Addr) (w : World) : (Instr.fieldAt 24 (.pointer (some a)) 0).run Try.prog w = .ok (.pointer (some (a.add 0))) w := by kernel_rfl
theorem fl24_1 (a : Addr) (w : World) : (Instr.fieldAt 24 (.pointer (some a)) 1).run Try.prog w = .ok (.pointer (some (a.add 1))) w := by kernel_rfl
theorem tyok24 : TyOK Try.prog 24 ty24 := ⟨⟨_, Try.underlying24, rfl⟩, info_mk (by kernel_rfl), fun k o s h a w => by
    match k, h with
    | 0, h => cases h; exact fl24_0 a w
    | 1, h => cases h; exact fl24_1 a w
    | k + 2, h => simp [ty24] at h
  , fun _ => ⟨_, Try.underlying24, fun w => by kernel_rfl⟩⟩
def ty25 : TyI := ⟨.struct, 2, 48, [.slice none 0 0, .slice none 0 0], [(0, 1), (1, 1)]⟩
theorem fl25_0 (a : Addr) (w : World) : (Instr.fieldAt 25 (.pointer (some a)) 0).run Try.prog w = .ok (.pointer (some (a.add 0))) w := by kernel_rfl
theorem fl25_1 (a : Addr) (w : World) : (Instr.fieldAt 25 (.pointer (some a)) 1).run Try.prog w = .ok (.pointer (some (a.add 1))) w := by kernel_rfl
theorem tyok25 : TyOK Try.prog 25 ty25 := ⟨⟨_, Try.underlying25, rfl⟩, info_mk (by kernel_rfl), fun k o s h a w => by
    match k, h with
    | 0, h => cases h; exact fl25_0 a w
    | 1, h => cases h; exact fl25_1 a w
    | k + 2, h => simp [ty25] at h
  , fun _ => ⟨_, Try.underlying25, fun w => by kernel_rfl⟩⟩
def ty26 : TyI := ⟨.func, 1, 8, [.nilFunc], []⟩
theorem tyok26 : TyOK Try.prog 26 ty26 := ⟨⟨_, Try.underlying26, rfl⟩, info_mk (by kernel_rfl), fun k o s h => by simp [ty26] at h, fun h => by cases h⟩
def ty27 : TyI := ⟨.func, 1, 8, [.nilFunc], []⟩
theorem tyok27 : TyOK Try.prog 27 ty27 := ⟨⟨_, Try.underlying27, rfl⟩, info_mk (by kernel_rfl), fun k o s h => by simp [ty27] at h, fun h => by cases h⟩
def ty28 : TyI := ⟨.int .i64, 1, 8, [.int .i64 0], []⟩
theorem tyok28 : TyOK Try.prog 28 ty28 := ⟨⟨_, Try.underlying28, rfl⟩, info_mk (by kernel_rfl), fun k o s h => by simp [ty28] at h, fun h => by cases h⟩
def ty29 : TyI := ⟨.slice 74, 1, 24, [.slice none 0 0], []⟩
theorem tyok29 : TyOK Try.prog 29 ty29 := ⟨⟨_, Try.underlying29, rfl⟩, info_mk (by kernel_rfl), fun k o s h => by simp [ty29] at h, fun h => by cases h⟩
def ty30 : TyI := ⟨.struct, 3, 40, [.int .i64 0, .int .i64 0, .slice none 0 0], [(0, 1), (1, 1), (2, 1)]⟩
theorem fl30_0 (a : Addr) (w : World) : (Instr.fieldAt 30 (.pointer (some a)) 0).run Try.prog w = .ok (.pointer (some (a.add 0))) w := by kernel_rfl
theorem fl30_1 (a : Addr) (w : World) : (Instr.fieldAt 30 (.pointer (some a)) 1).run Try.prog w = .ok (.pointer (some (a.add 1))) w := by kernel_rfl
theorem fl30_2 (a : Addr) (w : World) : (Instr.fieldAt 30 (.pointer (some a)) 2).run Try.prog w = .ok (.pointer (some (a.add 2))) w := by kernel_rfl
theorem tyok30 : TyOK Try.prog 30 ty30 := ⟨⟨_, Try.underlying30, rfl⟩, info_mk (by kernel_rfl), fun k o s h a w => by
    match k, h with
    | 0, h => cases h; exact fl30_0 a w
    | 1, h => cases h; exact fl30_1 a w
    | 2, h => cases h; exact fl30_2 a w
    | k + 3, h => simp [ty30] at h
  , fun _ => ⟨_, Try.underlying30, fun w => by kernel_rfl⟩⟩
def ty31 : TyI := ⟨.struct, 3, 40, [.int .i64 0, .int .i64 0, .slice none 0 0], [(0, 1), (1, 1), (2, 1)]⟩
theorem fl31_0 (a : Addr) (w : World) : (Instr.fieldAt 31 (.pointer (some a)) 0).run Try.prog w = .ok (.pointer (some (a.add 0))) w := by kernel_rfl
theorem fl31_1 (a : Addr) (w : World) : (Instr.fieldAt 31 (.pointer (some a)) 1).run Try.prog w = .ok (.pointer (some (a.add 1))) w := by kernel_rfl
theorem fl31_2 (a : Addr) (w : World) : (Instr.fieldAt 31 (.pointer (some a)) 2).run Try.prog w = .ok (.pointer (some (a.add 2))) w := by kernel_rfl
theorem tyok31 : TyOK Try.prog 31 ty31 := ⟨⟨_, Try.underlying31, rfl⟩, info_mk (by kernel_rfl), fun k o s h a w => by
    match k, h with
    | 0, h => cases h; exact fl31_0 a w
    | 1, h => cases h; exact fl31_1 a w
    | 2, h => cases h; exact fl31_2 a w
    | k + 3, h => simp [ty31] at h
  , fun _ => ⟨_, Try.underlying31, fun w => by kernel_rfl⟩⟩
def ty32 : TyI := ⟨.struct, 7, 72, [.int .i64 0, .int .i64 0, .int .i64 0, .int .i64 0, .int .i64 0, .int .i64 0, .slice none 0 0], [(0, 1), (1, 1), (2, 1), (3, 1), (4, 3)]⟩
theorem fl32_0 (a : Addr) (w : World) : (Instr.fieldAt 32 (.pointer (some a)) 0).run Try.prog w = .ok (.pointer (some (a.add 0))) w := by kernel_rfl
theorem fl32_1 (a : Addr) (w : World) : (Instr.fieldAt 32 (.pointer (some a)) 1).run Try.prog w = .ok (.pointer (some (a.add 1))) w := by kernel_rfl
theorem fl32_2 (a : Addr) (w : World) : (Instr.fieldAt 32 (.pointer (some a)) 2).run Try.prog w = .ok (.pointer (some (a.add 2))) w := by kernel_rfl
theorem fl32_3 (a : Addr) (w : World) : (Instr.fieldAt 32 (.pointer (some a)) 3).run Try.prog w = .ok (.pointer (some (a.add 3))) w := by kernel_rfl
theorem fl32_4 (a : Addr) (w : World) : (Instr.fieldAt 32 (.pointer (some a)) 4).run Try.prog w = .ok (.pointer (some (a.add 4))) w := by kernel_rfl
theorem tyok32 : TyOK Try.prog 32 ty32 := ⟨⟨_, Try.underlying32, rfl⟩, info_mk (by kernel_rfl), fun k o s h a w => by
    match k, h with
    | 0, h => cases h; exact fl32_0 a w
    | 1, h => cases h; exact fl32_1 a w
    | 2, h => cases h; exact fl32_2 a w
    | 3, h => cases h; exact fl32_3 a w
    | 4, h => cases h; exact fl32_4 a w
    | k + 5, h => simp [ty32] at h
  , fun _ => ⟨_, Try.underlying32, fun w => by kernel_rfl⟩⟩
def ty33 : TyI := ⟨.struct, 7, 72, [.int .i64 0, .int .i64 0, .int .i64 0, .int .i64 0, .int .i64 0, .int .i64 0, .slice none 0 0], [(0, 1), (1, 1), (2, 1), (3, 1), (4, 3)]⟩
theorem fl33_0 (a : Addr) (w : World) : (Instr.fieldAt 33 (.pointer (some a)) 0).run Try.prog w = .ok (.pointer (some (a.add 0))) w := by kernel_rfl
theorem fl33_1 (a : Addr) (w : World) : (Instr.fieldAt 33 (.pointer (some a)) 1).run Try.prog w = .ok (.pointer (some (a.add 1))) w := by kernel_rfl
theorem fl33_2 (a : Addr) (w : World) : (Instr.fieldAt 33 (.pointer (some a)) 2).run Try.prog w = .ok (.pointer (some (a.add 2))) w := by kernel_rfl
theorem fl33_3 (a : Addr) (w : World) : (Instr.fieldAt 33 (.pointer (some a)) 3).run Try.prog w = .ok (.pointer (some (a.add 3))) w := by kernel_rfl
theorem fl33_4 (a : Addr) (w : World) : (Instr.fieldAt 33 (.pointer (some a)) 4).run Try.prog w = .ok (.pointer (some (a.add 4))) w := by kernel_rfl
theorem tyok33 : TyOK Try.prog 33 ty33 := ⟨⟨_, Try.underlying33, rfl⟩, info_mk (by kernel_rfl), fun k o s h a w => by
    match k, h with
    | 0, h => cases h; exact fl33_0 a w
    | 1, h => cases h; exact fl33_1 a w
    | 2, h => cases h; exact fl33_2 a w
    | 3, h => cases h; exact fl33_3 a w
    | 4, h => cases h; exact fl33_4 a w
    | k + 5, h => simp [ty33] at h
  , fun _ => ⟨_, Try.underlying33, fun w => by kernel_rfl⟩⟩
def ty34 : TyI := ⟨.func, 1, 8, [.nilFunc], []⟩
theorem tyok34 : TyOK Try.prog 34 ty34 := ⟨⟨_, Try.underlying34, rfl⟩, info_mk (by kernel_rfl), fun k o s h => by simp [ty34] at h, fun h => by cases h⟩
def ty35 : TyI := ⟨.func, 1, 8, [.nilFunc], []⟩
theorem tyok35 : TyOK Try.prog 35 ty35 := ⟨⟨_, Try.underlying35, rfl⟩, info_mk (by kernel_rfl), fun k o s h => by simp [ty35] at h, fun h => by cases h⟩
def ty36 : TyI := ⟨.func, 1, 8, [.nilFunc], []⟩
theorem tyok36 : TyOK Try.prog 36 ty36 := ⟨⟨_, Try.underlying36, rfl⟩, info_mk (by kernel_rfl), fun k o s h => by simp [ty36] at h, fun h => by cases h⟩
def ty37 : TyI := ⟨.func, 1, 8, [.nilFunc], []⟩
theorem tyok37 : TyOK Try.prog 37 ty37 := ⟨⟨_, Try.underlying37, rfl⟩, info_mk (by kernel_rfl), fun k o s h => by simp [ty37] at h, fun h => by cases h⟩
def ty39 : TyI := ⟨.func, 1, 8, [.nilFunc], []⟩
theorem tyok39 : TyOK Try.prog 39 ty39 := ⟨⟨_, Try.underlying39, rfl⟩, info_mk (by kernel_rfl), fun k o s h => by simp [ty39] at h, fun h => by cases h⟩
def ty41 : TyI := ⟨.func, 1, 8, [.nilFunc], []⟩
theorem tyok41 : TyOK Try.prog 41 ty41 := ⟨⟨_, Try.underlying41, rfl⟩, info_mk (by kernel_rfl), fun k o s h => by simp [ty41] at h, fun h => by cases h⟩
def ty42 : TyI := ⟨.func, 1, 8, [.nilFunc], []⟩
theorem tyok42 : TyOK Try.prog 42 ty42 := ⟨⟨_, Try.underlying42, rfl⟩, info_mk (by kernel_rfl), fun k o s h => by simp [ty42] at h, fun h => by cases h⟩
def ty43 : TyI := ⟨.func, 1, 8, [.nilFunc], []⟩
theorem tyok43 : TyOK Try.prog 43 ty43 := ⟨⟨_, Try.underlying43, rfl⟩, info_mk (by kernel_rfl), fun k o s h => by simp [ty43] at h, fun h => by cases h⟩
def ty45 : TyI := ⟨.func, 1, 8, [.nilFunc], []⟩
theorem tyok45 : TyOK Try.prog 45 ty45 := ⟨⟨_, Try.underlying45, rfl⟩, info_mk (by kernel_rfl), fun k o s h => by simp [ty45] at h, fun h => by cases h⟩
def ty47 : TyI := ⟨.func, 1, 8, [.nilFunc], []⟩
theorem tyok47 : TyOK Try.prog 47 ty47 := ⟨⟨_, Try.underlying47, rfl⟩, info_mk (by kernel_rfl), fun k o s h => by simp [ty47] at h, fun h => by cases h⟩
def ty48 : TyI := ⟨.func, 1, 8, [.nilFunc], []⟩
theorem tyok48 : TyOK Try.prog 48 ty48 := ⟨⟨_, Try.underlying48, rfl⟩, info_mk (by kernel_rfl), fun k o s h => by simp [ty48] at h, fun h => by cases h⟩
def ty49 : TyI := ⟨.func, 1, 8, [.nilFunc], []⟩
theorem tyok49 : TyOK Try.prog 49 ty49 := ⟨⟨_, Try.underlying49, rfl⟩, info_mk (by kernel_rfl), fun k o s h => by simp [ty49] at h, fun h => by cases h⟩
def ty50 : TyI := ⟨.func, 1, 8, [.nilFunc], []⟩
theorem tyok50 : TyOK Try.prog 50 ty50 := ⟨⟨_, Try.underlying50, rfl⟩, info_mk (by kernel_rfl), fun k o s h => by simp [ty50] at h, fun h => by cases h⟩
def ty51 : TyI := ⟨.func, 1, 8, [.nilFunc], []⟩
theorem tyok51 : TyOK Try.prog 51 ty51 := ⟨⟨_, Try.underlying51, rfl⟩, info_mk (by kernel_rfl), fun k o s h => by simp [ty51] at h, fun h => by cases h⟩
def ty52 : TyI := ⟨.func, 1, 8, [.nilFunc], []⟩
theorem tyok52 : TyOK Try.prog 52 ty52 := ⟨⟨_, Try.underlying52, rfl⟩, info_mk (by kernel_rfl), fun k o s h => by simp [ty52] at h, fun h => by cases h⟩
def ty53 : TyI := ⟨.func, 1, 8, [.nilFunc], []⟩
theorem tyok53 : TyOK Try.prog 53 ty53 := ⟨⟨_, Try.underlying53, rfl⟩, info_mk (by kernel_rfl), fun k o s h => by simp [ty53] at h, fun h => by cases h⟩
def ty54 : TyI := ⟨.func, 1, 8, [.nilFunc], []⟩
theorem tyok54 : TyOK Try.prog 54 ty54 := ⟨⟨_, Try.underlying54, rfl⟩, info_mk (by kernel_rfl), fun k o s h => by simp [ty54] at h, fun h => by cases h⟩
def ty55 : TyI := ⟨.struct, 6, 64, [.int .i64 0, .int .i64 0, .int .i64 0, .int .i64 0, .slice none 0 0, .int .i64 0], [(0, 1), (1, 1), (2, 3), (5, 1)]⟩
theorem fl55_0 (a : Addr) (w : World) : (Instr.fieldAt 55 (.pointer (some a)) 0).run Try.prog w = .ok (.pointer (some (a.add 0))) w := by kernel_rfl
theorem fl55_1 (a : Addr) (w : World) : (Instr.fieldAt 55 (.pointer (some a)) 1).run Try.prog w = .ok (.pointer (some (a.add 1))) w := by kernel_rfl
theorem fl55_2 (a : Addr) (w : World) : (Instr.fieldAt 55 (.pointer (some a)) 2).run Try.prog w = .ok (.pointer (some (a.add 2))) w := by kernel_rfl
theorem fl55_3 (a : Addr) (w : World) : (Instr.fieldAt 55 (.pointer (some a)) 3).run Try.prog w = .ok (.pointer (some (a.add 5))) w := by kernel_rfl
theorem tyok55 : TyOK Try.prog 55 ty55 := ⟨⟨_, Try.underlying55, rfl⟩, info_mk (by kernel_rfl), fun k o s h a w => by
    match k, h with
    | 0, h => cases h; exact fl55_0 a w
    | 1, h => cases h; exact fl55_1 a w
    | 2, h => cases h; exact fl55_2 a w
    | 3, h => cases h; exact fl55_3 a w
    | k + 4, h => simp [ty55] at h
  , fun _ => ⟨_, Try.underlying55, fun w => by kernel_rfl⟩⟩
def ty56 : TyI := ⟨.struct, 6, 64, [.int .i64 0, .int .i64 0, .int .i64 0, .int .i64 0, .slice none 0 0, .int .i64 0], [(0, 1), (1, 1), (2, 3), (5, 1)]⟩
theorem fl56_0 (a : Addr) (w : World) : (Instr.fieldAt 56 (.pointer (some a)) 0).run Try.prog w = .ok (.pointer (some (a.add 0))) w := by kernel_rfl
theorem fl56_1 (a : Addr) (w : World) : (Instr.fieldAt 56 (.pointer (some a)) 1).run Try.prog w = .ok (.pointer (some (a.add 1))) w := by kernel_rfl
theorem fl56_2 (a : Addr) (w : World) : (Instr.fieldAt 56 (.pointer (some a)) 2).run Try.prog w = .ok (.pointer (some (a.add 2))) w := by kernel_rfl
theorem fl56_3 (a : Addr) (w : World) : (Instr.fieldAt 56 (.pointer (some a)) 3).run Try.prog w = .ok (.pointer (some (a.add 5))) w := by kernel_rfl
theorem tyok56 : TyOK Try.prog 56 ty56 := ⟨⟨_, Try.underlying56, rfl⟩, info_mk (by kernel_rfl), fun k o s h a w => by
    match k, h with
    | 0, h => cases h; exact fl56_0 a w
    | 1, h => cases h; exact fl56_1 a w
    | 2, h => cases h; exact fl56_2 a w
    | 3, h => cases h; exact fl56_3 a w
    | k + 4, h => simp [ty56] at h
  , fun _ => ⟨_, Try.underlying56, fun w => by kernel_rfl⟩⟩
def ty57 : TyI := ⟨.func, 1, 8, [.nilFunc], []⟩
theorem tyok57 : TyOK Try.prog 57 ty57 := ⟨⟨_, Try.underlying57, rfl⟩, info_mk (by kernel_rfl), fun k o s h => by simp [ty57] at h, fun h => by cases h⟩
def ty58 : TyI := ⟨.func, 1, 8, [.nilFunc], []⟩
theorem tyok58 : TyOK Try.prog 58 ty58 := ⟨⟨_, Try.underlying58, rfl⟩, info_mk (by kernel_rfl), fun k o s h => by simp [ty58] at h, fun h => by cases h⟩
def ty59 : TyI := ⟨.func, 1, 8, [.nilFunc], []⟩
theorem tyok59 : TyOK Try.prog 59 ty59 := ⟨⟨_, Try.underlying59, rfl⟩, info_mk (by kernel_rfl), fun k o s h => by simp [ty59] at h, fun h => by cases h⟩
def ty60 : TyI := ⟨.int .u64, 1, 8, [.int .u64 0], []⟩
theorem tyok60 : TyOK Try.prog 60 ty60 := ⟨⟨_, Try.underlying60, rfl⟩, info_mk (by kernel_rfl), fun k o s h => by simp [ty60] at h, fun h => by cases h⟩
def ty61 : TyI := ⟨.func, 1, 8, [.nilFunc], []⟩
theorem tyok61 : TyOK Try.prog 61 ty61 := ⟨⟨_, Try.underlying61, rfl⟩, info_mk (by kernel_rfl), fun k o s h => by simp [ty61] at h, fun h => by cases h⟩
def ty62 : TyI := ⟨.func, 1, 8, [.nilFunc], []⟩
theorem tyok62 : TyOK Try.prog 62 ty62 := ⟨⟨_, Try.underlying62, rfl⟩, info_mk (by kernel_rfl), fun k o s h => by simp [ty62] at h, fun h => by cases h⟩
def ty64 : TyI := ⟨.func, 1, 8, [.nilFunc], []⟩
theorem tyok64 : TyOK Try.prog 64 ty64 := ⟨⟨_, Try.underlying64, rfl⟩, info_mk (by kernel_rfl), fun k o s h => by simp [ty64] at h, fun h => by cases h⟩
def ty65 : TyI := ⟨.func, 1, 8, [.nilFunc], []⟩
theorem tyok65 : TyOK Try.prog 65 ty65 := ⟨⟨_, Try.underlying65, rfl⟩, info_mk (by kernel_rfl), fun k o s h => by simp [ty65] at h, fun h => by cases h⟩
def ty66 : TyI := ⟨.func, 1, 8, [.nilFunc], []⟩
theorem tyok66 : TyOK Try.prog 66 ty66 := ⟨⟨_, Try.underlying66, rfl⟩, info_mk (by kernel_rfl), fun k o s h => by simp [ty66] at h, fun h => by cases h⟩
def ty67 : TyI := ⟨.func, 1, 8, [.nilFunc], []⟩
theorem tyok67 : TyOK Try.prog 67 ty67 := ⟨⟨_, Try.underlying67, rfl⟩, info_mk (by kernel_rfl), fun k o s h => by simp [ty67] at h, fun h => by cases h⟩
def ty68 : TyI := ⟨.func, 1, 8, [.nilFunc], []⟩
theorem tyok68 : TyOK Try.prog 68 ty68 := ⟨⟨_, Try.underlying68, rfl⟩, info_mk (by kernel_rfl), fun k o s h => by simp [ty68] at h, fun h => by cases h⟩
def ty69 : TyI := ⟨.func, 1, 8, [.nilFunc], []⟩
theorem tyok69 : TyOK Try.prog 69 ty69 := ⟨⟨_, Try.underlying69, rfl⟩, info_mk (by kernel_rfl), fun k o s h => by simp [ty69] at h, fun h => by cases h⟩
def ty70 : TyI := ⟨.func, 1, 8, [.nilFunc], []⟩
theorem tyok70 : TyOK Try.prog 70 ty70 := ⟨⟨_, Try.underlying70, rfl⟩, info_mk (by kernel_rfl), fun k o s h => by simp [ty70] at h, fun h => by cases h⟩
def ty71 : TyI := ⟨.func, 1, 8, [.nilFunc], []⟩
theorem tyok71 : TyOK Try.prog 71 ty71 := ⟨⟨_, Try.underlying71, rfl⟩, info_mk (by kernel_rfl), fun k o s h => by simp [ty71] at h, fun h => by cases h⟩
def ty72 : TyI := ⟨.func, 1, 8, [.nilFunc], []⟩
theorem tyok72 : TyOK Try.prog 72 ty72 := ⟨⟨_, Try.underlying72, rfl⟩, info_mk (by kernel_rfl), fun k o s h => by simp [ty72] at h, fun h => by cases h⟩
def ty73 : TyI := ⟨.struct, 2, 24, [.string ⟨#[]⟩, .int .i64 0], [(0, 1), (1, 1)]⟩
theorem fl73_0 (a : Addr) (w : World) : (Instr.fieldAt 73 (.pointer (some a)) 0).run Try.prog w = .ok (.pointer (some (a.add 0))) w := by kernel_rfl
theorem fl73_1 (a : Addr) (w : World) : (Instr.fieldAt 73 (.pointer (some a)) 1).run Try.prog w = .ok (.pointer (some (a.add 1))) w := by kernel_rfl
theorem tyok73 : TyOK Try.prog 73 ty73 := ⟨⟨_, Try.underlying73, rfl⟩, info_mk (by kernel_rfl), fun k o s h a w => by
    match k, h with
    | 0, h => cases h; exact fl73_0 a w
    | 1, h => cases h; exact fl73_1 a w
    | k + 2, h => simp [ty73] at h
  , fun _ => ⟨_, Try.underlying73, fun w => by kernel_rfl⟩⟩
def ty74 : TyI := ⟨.struct, 2, 24, [.string ⟨#[]⟩, .int .i64 0], [(0, 1), (1, 1)]⟩
theorem fl74_0 (a : Addr) (w : World) : (Instr.fieldAt 74 (.pointer (some a)) 0).run Try.prog w = .ok (.pointer (some (a.add 0))) w := by kernel_rfl
theorem fl74_1 (a : Addr) (w : World) : (Instr.fieldAt 74 (.pointer (some a)) 1).run Try.prog w = .ok (.pointer (some (a.add 1))) w := by kernel_rfl
theorem tyok74 : TyOK Try.prog 74 ty74 := ⟨⟨_, Try.underlying74, rfl⟩, info_mk (by kernel_rfl), fun k o s h a w => by
    match k, h with
    | 0, h => cases h; exact fl74_0 a w
    | 1, h => cases h; exact fl74_1 a w
    | k + 2, h => simp [ty74] at h
  , fun _ => ⟨_, Try.underlying74, fun w => by kernel_rfl⟩⟩
def ty75 : TyI := ⟨.func, 1, 8, [.nilFunc], []⟩
theorem tyok75 : TyOK Try.prog 75 ty75 := ⟨⟨_, Try.underlying75, rfl⟩, info_mk (by kernel_rfl), fun k o s h => by simp [ty75] at h, fun h => by cases h⟩
def ty76 : TyI := ⟨.func, 1, 8, [.nilFunc], []⟩
theorem tyok76 : TyOK Try.prog 76 ty76 := ⟨⟨_, Try.underlying76, rfl⟩, info_mk (by kernel_rfl), fun k o s h => by simp [ty76] at h, fun h => by cases h⟩
def ty77 : TyI := ⟨.func, 1, 8, [.nilFunc], []⟩
theorem tyok77 : TyOK Try.prog 77 ty77 := ⟨⟨_, Try.underlying77, rfl⟩, info_mk (by kernel_rfl), fun k o s h => by simp [ty77] at h, fun h => by cases h⟩
def ty78 : TyI := ⟨.struct, 4, 40, [.pointer none, .pointer none, .pointer none, .string ⟨#[]⟩], [(0, 1), (1, 1), (2, 1), (3, 1)]⟩
theorem fl78_0 (a : Addr) (w : World) : (Instr.fieldAt 78 (.pointer (some a)) 0).run Try.prog w = .ok (.pointer (some (a.add 0))) w := by kernel_rfl
theorem fl78_1 (a : Addr) (w : World) : (Instr.fieldAt 78 (.pointer (some a)) 1).run Try.prog w = .ok (.pointer (some (a.add 1))) w := by kernel_rfl
theorem fl78_2 (a : Addr) (w : World) : (Instr.fieldAt 78 (.pointer (some a)) 2).run Try.prog w = .ok (.pointer (some (a.add 2))) w := by kernel_rfl
theorem fl78_3 (a : Addr) (w : World) : (Instr.fieldAt 78 (.pointer (some a)) 3).run Try.prog w = .ok (.pointer (some (a.add 3))) w := by kernel_rfl
theorem tyok78 : TyOK Try.prog 78 ty78 := ⟨⟨_, Try.underlying78, rfl⟩, info_mk (by kernel_rfl), fun k o s h a w => by
    match k, h with
    | 0, h => cases h; exact fl78_0 a w
    | 1, h => cases h; exact fl78_1 a w
    | 2, h => cases h; exact fl78_2 a w
    | 3, h => cases h; exact fl78_3 a w
    | k + 4, h => simp [ty78] at h
  , fun _ => ⟨_, Try.underlying78, fun w => by kernel_rfl⟩⟩
def ty79 : TyI := ⟨.struct, 4, 40, [.pointer none, .pointer none, .pointer none, .string ⟨#[]⟩], [(0, 1), (1, 1), (2, 1), (3, 1)]⟩
theorem fl79_0 (a : Addr) (w : World) : (Instr.fieldAt 79 (.pointer (some a)) 0).run Try.prog w = .ok (.pointer (some (a.add 0))) w := by kernel_rfl
theorem fl79_1 (a : Addr) (w : World) : (Instr.fieldAt 79 (.pointer (some a)) 1).run Try.prog w = .ok (.pointer (some (a.add 1))) w := by kernel_rfl
theorem fl79_2 (a : Addr) (w : World) : (Instr.fieldAt 79 (.pointer (some a)) 2).run Try.prog w = .ok (.pointer (some (a.add 2))) w := by kernel_rfl
theorem fl79_3 (a : Addr) (w : World) : (Instr.fieldAt 79 (.pointer (some a)) 3).run Try.prog w = .ok (.pointer (some (a.add 3))) w := by kernel_rfl
theorem tyok79 : TyOK Try.prog 79 ty79 := ⟨⟨_, Try.underlying79, rfl⟩, info_mk (by kernel_rfl), fun k o s h a w => by
    match k, h with
    | 0, h => cases h; exact fl79_0 a w
    | 1, h => cases h; exact fl79_1 a w
    | 2, h => cases h; exact fl79_2 a w
    | 3, h => cases h; exact fl79_3 a w
    | k + 4, h => simp [ty79] at h
  , fun _ => ⟨_, Try.underlying79, fun w => by kernel_rfl⟩⟩
def ty83 : TyI := ⟨.func, 1, 8, [.nilFunc], []⟩
theorem tyok83 : TyOK Try.prog 83 ty83 := ⟨⟨_, Try.underlying83, rfl⟩, info_mk (by kernel_rfl), fun k o s h => by simp [ty83] at h, fun h => by cases h⟩
def ty84 : TyI := ⟨.int .u32, 1, 4, [.int .u32 0], []⟩
theorem tyok84 : TyOK Try.prog 84 ty84 := ⟨⟨_, Try.underlying84, rfl⟩, info_mk (by kernel_rfl), fun k o s h => by simp [ty84] at h, fun h => by cases h⟩
def ty85 : TyI := ⟨.int .u8, 1, 1, [.int .u8 0], []⟩
theorem tyok85 : TyOK Try.prog 85 ty85 := ⟨⟨_, Try.underlying85, rfl⟩, info_mk (by kernel_rfl), fun k o s h => by simp [ty85] at h, fun h => by cases h⟩
def ty86 : TyI := ⟨.int .u8, 1, 1, [.int .u8 0], []⟩
theorem tyok86 : TyOK Try.prog 86 ty86 := ⟨⟨_, Try.underlying86, rfl⟩, info_mk (by kernel_rfl), fun k o s h => by simp [ty86] at h, fun h => by cases h⟩
def ty87 : TyI := ⟨.func, 1, 8, [.nilFunc], []⟩
theorem tyok87 : TyOK Try.prog 87 ty87 := ⟨⟨_, Try.underlying87, rfl⟩, info_mk (by kernel_rfl), fun k o s h => by simp [ty87] at h, fun h => by cases h⟩
def ty88 : TyI := ⟨.pointer, 1, 8, [.pointer none], []⟩
theorem tyok88 : TyOK Try.prog 88 ty88 := ⟨⟨_, Try.underlying88, rfl⟩, info_mk (by kernel_rfl), fun k o s h => by simp [ty88] at h, fun h => by cases h⟩
def ty89 : TyI := ⟨.int .i32, 1, 4, [.int .i32 0], []⟩
theorem tyok89 : TyOK Try.prog 89 ty89 := ⟨⟨_, Try.underlying89, rfl⟩, info_mk (by kernel_rfl), fun k o s h => by simp [ty89] at h, fun h => by cases h⟩
def ty90 : TyI := ⟨.int .i32, 1, 4, [.int .i32 0], []⟩
theorem tyok90 : TyOK Try.prog 90 ty90 := ⟨⟨_, Try.underlying90, rfl⟩, info_mk (by kernel_rfl), fun k o s h => by simp [ty90] at h, fun h => by cases h⟩
def ty91 : TyI := ⟨.struct, 11, 48, [.int .u64 0, .int .u64 0, .int .u32 0, .int .u8 0, .int .u8 0, .int .u8 0, .int .u8 0, .nilFunc, .pointer none, .int .i32 0, .int .i32 0], [(0, 1), (1, 1), (2, 1), (3, 1), (4, 1), (5, 1), (6, 1), (7, 1), (8, 1), (9, 1), (10, 1)]⟩
theorem fl91_0 (a : Addr) (w : World) : (Instr.fieldAt 91 (.pointer (some a)) 0).run Try.prog w = .ok (.pointer (some (a.add 0))) w := by kernel_rfl
theorem fl91_1 (a : Addr) (w : World) : (Instr.fieldAt 91 (.pointer (some a)) 1).run Try.prog w = .ok (.pointer (some (a.add 1))) w := by kernel_rfl
theorem fl91_2 (a : Addr) (w : World) : (Instr.fieldAt 91 (.pointer (some a)) 2).run Try.prog w = .ok (.pointer (some (a.add 2))) w := by kernel_rfl
theorem fl91_3 (a : Addr) (w : World) : (Instr.fieldAt 91 (.pointer (some a)) 3).run Try.prog w = .ok (.pointer (some (a.add 3))) w := by kernel_rfl
theorem fl91_4 (a : Addr) (w : World) : (Instr.fieldAt 91 (.pointer (some a)) 4).run Try.prog w = .ok (.pointer (some (a.add 4))) w := by kernel_rfl
theorem fl91_5 (a : Addr) (w : World) : (Instr.fieldAt 91 (.pointer (some a)) 5).run Try.prog w = .ok (.pointer (some (a.add 5))) w := by kernel_rfl
theorem fl91_6 (a : Addr) (w : World) : (Instr.fieldAt 91 (.pointer (some a)) 6).run Try.prog w = .ok (.pointer (some (a.add 6))) w := by kernel_rfl
theorem fl91_7 (a : Addr) (w : World) : (Instr.fieldAt 91 (.pointer (some a)) 7).run Try.prog w = .ok (.pointer (some (a.add 7))) w := by kernel_rfl
theorem fl91_8 (a : Addr) (w : World) : (Instr.fieldAt 91 (.pointer (some a)) 8).run Try.prog w = .ok (.pointer (some (a.add 8))) w := by kernel_rfl
theorem fl91_9 (a : Addr) (w : World) : (Instr.fieldAt 91 (.pointer (some a)) 9).run Try.prog w = .ok (.pointer (some (a.add 9))) w := by kernel_rfl
theorem fl91_10 (a : Addr) (w : World) : (Instr.fieldAt 91 (.pointer (some a)) 10).run Try.prog w = .ok (.pointer (some (a.add 10))) w := by kernel_rfl
theorem tyok91 : TyOK Try.prog 91 ty91 := ⟨⟨_, Try.underlying91, rfl⟩, info_mk (by kernel_rfl), fun k o s h a w => by
    match k, h with
    | 0, h => cases h; exact fl91_0 a w
    | 1, h => cases h; exact fl91_1 a w
    | 2, h => cases h; exact fl91_2 a w
    | 3, h => cases h; exact fl91_3 a w
    | 4, h => cases h; exact fl91_4 a w
    | 5, h => cases h; exact fl91_5 a w
    | 6, h => cases h; exact fl91_6 a w
    | 7, h => cases h; exact fl91_7 a w
    | 8, h => cases h; exact fl91_8 a w
    | 9, h => cases h; exact fl91_9 a w
    | 10, h => cases h; exact fl91_10 a w
    | k + 11, h => simp [ty91] at h
  , fun _ => ⟨_, Try.underlying91, fun w => by kernel_rfl⟩⟩
def ty92 : TyI := ⟨.struct, 11, 48, [.int .u64 0, .int .u64 0, .int .u32 0, .int .u8 0, .int .u8 0, .int .u8 0, .int .u8 0, .nilFunc, .pointer none, .int .i32 0, .int .i32 0], [(0, 1), (1, 1), (2, 1), (3, 1), (4, 1), (5, 1), (6, 1), (7, 1), (8, 1), (9, 1), (10, 1)]⟩
theorem fl92_0 (a : Addr) (w : World) : (Instr.fieldAt 92 (.pointer (some a)) 0).run Try.prog w = .ok (.pointer (some (a.add 0))) w := by kernel_rfl
theorem fl92_1 (a : Addr) (w : World) : (Instr.fieldAt 92 (.pointer (some a)) 1).run Try.prog w = .ok (.pointer (some (a.add 1))) w := by kernel_rfl
theorem fl92_2 (a : Addr) (w : World) : (Instr.fieldAt 92 (.pointer (some a)) 2).run Try.prog w = .ok (.pointer (some (a.add 2))) w := by kernel_rfl
theorem fl92_3 (a : Addr) (w : World) : (Instr.fieldAt 92 (.pointer (some a)) 3).run Try.prog w = .ok (.pointer (some (a.add 3))) w := by kernel_rfl
theorem fl92_4 (a : Addr) (w : World) : (Instr.fieldAt 92 (.pointer (some a)) 4).run Try.prog w = .ok (.pointer (some (a.add 4))) w := by kernel_rfl
theorem fl92_5 (a : Addr) (w : World) : (Instr.fieldAt 92 (.pointer (some a)) 5).run Try.prog w = .ok (.pointer (some (a.add 5))) w := by kernel_rfl
theorem fl92_6 (a : Addr) (w : World) : (Instr.fieldAt 92 (.pointer (some a)) 6).run Try.prog w = .ok (.pointer (some (a.add 6))) w := by kernel_rfl
theorem fl92_7 (a : Addr) (w : World) : (Instr.fieldAt 92 (.pointer (some a)) 7).run Try.prog w = .ok (.pointer (some (a.add 7))) w := by kernel_rfl
theorem fl92_8 (a : Addr) (w : World) : (Instr.fieldAt 92 (.pointer (some a)) 8).run Try.prog w = .ok (.pointer (some (a.add 8))) w := by kernel_rfl
theorem fl92_9 (a : Addr) (w : World) : (Instr.fieldAt 92 (.pointer (some a)) 9).run Try.prog w = .ok (.pointer (some (a.add 9))) w := by kernel_rfl
theorem fl92_10 (a : Addr) (w : World) : (Instr.fieldAt 92 (.pointer (some a)) 10).run Try.prog w = .ok (.pointer (some (a.add 10))) w := by kernel_rfl
theorem tyok92 : TyOK Try.prog 92 ty92 := ⟨⟨_, Try.underlying92, rfl⟩, info_mk (by kernel_rfl), fun k o s h a w => by
    match k, h with
    | 0, h => cases h; exact fl92_0 a w
    | 1, h => cases h; exact fl92_1 a w
    | 2, h => cases h; exact fl92_2 a w
    | 3, h => cases h; exact fl92_3 a w
    | 4, h => cases h; exact fl92_4 a w
    | 5, h => cases h; exact fl92_5 a w
    | 6, h => cases h; exact fl92_6 a w
    | 7, h => cases h; exact fl92_7 a w
    | 8, h => cases h; exact fl92_8 a w
    | 9, h => cases h; exact fl92_9 a w
    | 10, h => cases h; exact fl92_10 a w
    | k + 11, h => simp [ty92] at h
  , fun _ => ⟨_, Try.underlying92, fun w => by kernel_rfl⟩⟩
def tys : List (Nat × TyI) := [(1, ty1), (2, ty2), (3, ty3), (4, ty4), (5, ty5), (6, ty6), (7, ty7), (8, ty8), (9, ty9), (10, ty10), (11, ty11), (12, ty12), (13, ty13), (14, ty14), (15, ty15), (16, ty16), (17, ty17), (18, ty18), (19, ty19), (21, ty21), (22, ty22), (23, ty23), (24, ty24), (25, ty25), (26, ty26), (27, ty27), (28, ty28), (29, ty29), (30, ty30), (31, ty31), (32, ty32), (33, ty33), (34, ty34), (35, ty35), (36, ty36), (37, ty37), (39, ty39), (41, ty41), (42, ty42), (43, ty43), (45, ty45), (47, ty47), (48, ty48), (49, ty49), (50, ty50), (51, ty51), (52, ty52), (53, ty53), (54, ty54), (55, ty55), (56, ty56), (57, ty57), (58, ty58), (59, ty59), (60, ty60), (61, ty61), (62, ty62), (64, ty64), (65, ty65), (66, ty66), (67, ty67), (68, ty68), (69, ty69), (70, ty70), (71, ty71), (72, ty72), (73, ty73), (74, ty74), (75, ty75), (76, ty76), (77, ty77), (78, ty78), (79, ty79), (83, ty83), (84, ty84), (85, ty85), (86, ty86), (87, ty87), (88, ty88), (89, ty89), (90, ty90), (91, ty91), (92, ty92)]
theorem tysOK : TysOK Try.prog tys := by
  unfold tys
  exact TysOK.cons tyok1 (TysOK.cons tyok2 (TysOK.cons tyok3 (TysOK.cons tyok4 (TysOK.cons tyok5 (TysOK.cons tyok6 (TysOK.cons tyok7 (TysOK.cons tyok8 (TysOK.cons tyok9 (TysOK.cons tyok10 (TysOK.cons tyok11 (TysOK.cons tyok12 (TysOK.cons tyok13 (TysOK.cons tyok14 (TysOK.cons tyok15 (TysOK.cons tyok16 (TysOK.cons tyok17 (TysOK.cons tyok18 (TysOK.cons tyok19 (TysOK.cons tyok21 (TysOK.cons tyok22 (TysOK.cons tyok23 (TysOK.cons tyok24 (TysOK.cons tyok25 (TysOK.cons tyok26 (TysOK.cons tyok27 (TysOK.cons tyok28 (TysOK.cons tyok29 (TysOK.cons tyok30 (TysOK.cons tyok31 (TysOK.cons tyok32 (TysOK.cons tyok33 (TysOK.cons tyok34 (TysOK.cons tyok35 (TysOK.cons tyok36 (TysOK.cons tyok37 (TysOK.cons tyok39 (TysOK.cons tyok41 (TysOK.cons tyok42 (TysOK.cons tyok43 (TysOK.cons tyok45 (TysOK.cons tyok47 (TysOK.cons tyok48 (TysOK.cons tyok49 (TysOK.cons tyok50 (TysOK.cons tyok51 (TysOK.cons tyok52 (TysOK.cons tyok53 (TysOK.cons tyok54 (TysOK.cons tyok55 (TysOK.cons tyok56 (TysOK.cons tyok57 (TysOK.cons tyok58 (TysOK.cons tyok59 (TysOK.cons tyok60 (TysOK.cons tyok61 (TysOK.cons tyok62 (TysOK.cons tyok64 (TysOK.cons tyok65 (TysOK.cons tyok66 (TysOK.cons tyok67 (TysOK.cons tyok68 (TysOK.cons tyok69 (TysOK.cons tyok70 (TysOK.cons tyok71 (TysOK.cons tyok72 (TysOK.cons tyok73 (TysOK.cons tyok74 (TysOK.cons tyok75 (TysOK.cons tyok76 (TysOK.cons tyok77 (TysOK.cons tyok78 (TysOK.cons tyok79 (TysOK.cons tyok83 (TysOK.cons tyok84 (TysOK.cons tyok85 (TysOK.cons tyok86 (TysOK.cons tyok87 (TysOK.cons tyok88 (TysOK.cons tyok89 (TysOK.cons tyok90 (TysOK.cons tyok91 (TysOK.cons tyok92 (TysOK.nil)))))))))))))))))))))))))))))))))))))))))))))))))))))))))))))))))))))))))))))))))))
theorem mixed : Try.prog.follows .mixedOrders = true := by kernel_rfl
theorem ok3 : okCall Try.prog 3 = true := by kernel_rfl
theorem ok4 : okCall Try.prog 4 = true := by kernel_rfl
theorem ok5 : okCall Try.prog 5 = true := by kernel_rfl
theorem ok6 : okCall Try.prog 6 = true := by kernel_rfl
theorem ok7 : okCall Try.prog 7 = true := by kernel_rfl
theorem ok8 : okCall Try.prog 8 = true := by kernel_rfl
theorem ok9 : okCall Try.prog 9 = true := by kernel_rfl
theorem ok10 : okCall Try.prog 10 = true := by kernel_rfl
theorem ok11 : okCall Try.prog 11 = true := by kernel_rfl
theorem ok12 : okCall Try.prog 12 = true := by kernel_rfl
theorem ok13 : okCall Try.prog 13 = true := by kernel_rfl
theorem ok14 : okCall Try.prog 14 = true := by kernel_rfl
theorem ok15 : okCall Try.prog 15 = true := by kernel_rfl
theorem ok16 : okCall Try.prog 16 = true := by kernel_rfl
theorem ok17 : okCall Try.prog 17 = true := by kernel_rfl
theorem ok18 : okCall Try.prog 18 = true := by kernel_rfl
theorem ok19 : okCall Try.prog 19 = true := by kernel_rfl
theorem ok20 : okCall Try.prog 20 = true := by kernel_rfl
theorem ok21 : okCall Try.prog 21 = true := by kernel_rfl
theorem ok22 : okCall Try.prog 22 = true := by kernel_rfl
theorem ok23 : okCall Try.prog 23 = true := by kernel_rfl
theorem ok24 : okCall Try.prog 24 = true := by kernel_rfl
theorem ok25 : okCall Try.prog 25 = true := by kernel_rfl
theorem ok26 : okCall Try.prog 26 = true := by kernel_rfl
theorem ok27 : okCall Try.prog 27 = true := by kernel_rfl
theorem ok28 : okCall Try.prog 28 = true := by kernel_rfl
theorem ok29 : okCall Try.prog 29 = true := by kernel_rfl
theorem ok30 : okCall Try.prog 30 = true := by kernel_rfl
theorem ok31 : okCall Try.prog 31 = true := by kernel_rfl
theorem ok32 : okCall Try.prog 32 = true := by kernel_rfl
theorem ok33 : okCall Try.prog 33 = true := by kernel_rfl
theorem ok34 : okCall Try.prog 34 = true := by kernel_rfl
theorem ok35 : okCall Try.prog 35 = true := by kernel_rfl
theorem ok36 : okCall Try.prog 36 = true := by kernel_rfl
theorem ok37 : okCall Try.prog 37 = true := by kernel_rfl
theorem ok38 : okCall Try.prog 38 = true := by kernel_rfl
theorem ok39 : okCall Try.prog 39 = true := by kernel_rfl
theorem ok40 : okCall Try.prog 40 = true := by kernel_rfl
theorem ok41 : okCall Try.prog 41 = true := by kernel_rfl
theorem ok42 : okCall Try.prog 42 = true := by kernel_rfl
theorem ok43 : okCall Try.prog 43 = true := by kernel_rfl
theorem ok44 : okCall Try.prog 44 = true := by kernel_rfl
theorem ok45 : okCall Try.prog 45 = true := by kernel_rfl
theorem ok47 : okCall Try.prog 47 = true := by kernel_rfl
theorem ok48 : okCall Try.prog 48 = true := by kernel_rfl
theorem ok49 : okCall Try.prog 49 = true := by kernel_rfl
theorem ok50 : okCall Try.prog 50 = true := by kernel_rfl
end Go.Proofs.Ytefljdelmeifhaa
