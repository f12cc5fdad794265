/- Words and contracts of calls that the law needs (RefTB): merged by wip/gen/zmerge.py. No condition but those that each theorem names. -/
import Derived.Test.YtocepiogpeafoaaGreatDoorProg
import Derived.Test.YtocepiogpeafoaaGreatDoorH02
set_option linter.unusedVariables false
/- rotaref06.table, row by row. Printed by wip/gen/zref6.py. -/
namespace Go.Proofs.YtocepiogpeafoaaGreatDoor
open Go.RowKit
set_option linter.unusedVariables false
theorem rt_1 (w : World) : Calls Tryz.prog 320 #[.int .i64 1] w (Ret (.tuple #[.agg #[.string ⟨#[110, 111, 112]⟩, .int .i64 0, .int .i64 1, .string ⟨#[]⟩, .string ⟨#[]⟩], .bool true]) E0 w) := by
  go_enter Tryz.func320, Tryz.ntmps320
  go_wp2
  exact bodyPost_ret (v := .tuple #[.agg #[.string ⟨#[110, 111, 112]⟩, .int .i64 0, .int .i64 1, .string ⟨#[]⟩, .string ⟨#[]⟩], .bool true]) (by simp [results, Tryz.results320, go_sem]) rfl ⟨rfl, (Fr.refl.alloc _)⟩
theorem rt_2 (w : World) : Calls Tryz.prog 320 #[.int .i64 2] w (Ret (.tuple #[.agg #[.string ⟨#[115, 101, 116]⟩, .int .i64 6, .int .i64 1, .string ⟨#[]⟩, .string ⟨#[97]⟩], .bool true]) E0 w) := by
  go_enter Tryz.func320, Tryz.ntmps320
  go_wp2
  exact bodyPost_ret (v := .tuple #[.agg #[.string ⟨#[115, 101, 116]⟩, .int .i64 6, .int .i64 1, .string ⟨#[]⟩, .string ⟨#[97]⟩], .bool true]) (by simp [results, Tryz.results320, go_sem]) rfl ⟨rfl, (Fr.refl.alloc _)⟩
theorem rt_3 (w : World) : Calls Tryz.prog 320 #[.int .i64 3] w (Ret (.tuple #[.agg #[.string ⟨#[104, 105, 103, 104]⟩, .int .i64 5, .int .i64 1, .string ⟨#[97]⟩, .string ⟨#[97]⟩], .bool true]) E0 w) := by
  go_enter Tryz.func320, Tryz.ntmps320
  go_wp2
  exact bodyPost_ret (v := .tuple #[.agg #[.string ⟨#[104, 105, 103, 104]⟩, .int .i64 5, .int .i64 1, .string ⟨#[97]⟩, .string ⟨#[97]⟩], .bool true]) (by simp [results, Tryz.results320, go_sem]) rfl ⟨rfl, (Fr.refl.alloc _)⟩
theorem rt_4 (w : World) : Calls Tryz.prog 320 #[.int .i64 4] w (Ret (.tuple #[.agg #[.string ⟨#[109, 111, 118, 101]⟩, .int .i64 2, .int .i64 1, .string ⟨#[98]⟩, .string ⟨#[97]⟩], .bool true]) E0 w) := by
  go_enter Tryz.func320, Tryz.ntmps320
  go_wp2
  exact bodyPost_ret (v := .tuple #[.agg #[.string ⟨#[109, 111, 118, 101]⟩, .int .i64 2, .int .i64 1, .string ⟨#[98]⟩, .string ⟨#[97]⟩], .bool true]) (by simp [results, Tryz.results320, go_sem]) rfl ⟨rfl, (Fr.refl.alloc _)⟩
theorem rt_5 (w : World) : Calls Tryz.prog 320 #[.int .i64 5] w (Ret (.tuple #[.agg #[.string ⟨#[97, 100, 100]⟩, .int .i64 3, .int .i64 1, .string ⟨#[98, 99]⟩, .string ⟨#[97]⟩], .bool true]) E0 w) := by
  go_enter Tryz.func320, Tryz.ntmps320
  go_wp2
  exact bodyPost_ret (v := .tuple #[.agg #[.string ⟨#[97, 100, 100]⟩, .int .i64 3, .int .i64 1, .string ⟨#[98, 99]⟩, .string ⟨#[97]⟩], .bool true]) (by simp [results, Tryz.results320, go_sem]) rfl ⟨rfl, (Fr.refl.alloc _)⟩
theorem rt_6 (w : World) : Calls Tryz.prog 320 #[.int .i64 6] w (Ret (.tuple #[.agg #[.string ⟨#[115, 117, 98]⟩, .int .i64 3, .int .i64 1, .string ⟨#[98, 99]⟩, .string ⟨#[97]⟩], .bool true]) E0 w) := by
  go_enter Tryz.func320, Tryz.ntmps320
  go_wp2
  exact bodyPost_ret (v := .tuple #[.agg #[.string ⟨#[115, 117, 98]⟩, .int .i64 3, .int .i64 1, .string ⟨#[98, 99]⟩, .string ⟨#[97]⟩], .bool true]) (by simp [results, Tryz.results320, go_sem]) rfl ⟨rfl, (Fr.refl.alloc _)⟩
theorem rt_7 (w : World) : Calls Tryz.prog 320 #[.int .i64 7] w (Ret (.tuple #[.agg #[.string ⟨#[109, 117, 108]⟩, .int .i64 3, .int .i64 3, .string ⟨#[98, 99]⟩, .string ⟨#[97]⟩], .bool true]) E0 w) := by
  go_enter Tryz.func320, Tryz.ntmps320
  go_wp2
  exact bodyPost_ret (v := .tuple #[.agg #[.string ⟨#[109, 117, 108]⟩, .int .i64 3, .int .i64 3, .string ⟨#[98, 99]⟩, .string ⟨#[97]⟩], .bool true]) (by simp [results, Tryz.results320, go_sem]) rfl ⟨rfl, (Fr.refl.alloc _)⟩
theorem rt_8 (w : World) : Calls Tryz.prog 320 #[.int .i64 8] w (Ret (.tuple #[.agg #[.string ⟨#[100, 105, 118]⟩, .int .i64 3, .int .i64 8, .string ⟨#[98, 99]⟩, .string ⟨#[97]⟩], .bool true]) E0 w) := by
  go_enter Tryz.func320, Tryz.ntmps320
  go_wp2
  exact bodyPost_ret (v := .tuple #[.agg #[.string ⟨#[100, 105, 118]⟩, .int .i64 3, .int .i64 8, .string ⟨#[98, 99]⟩, .string ⟨#[97]⟩], .bool true]) (by simp [results, Tryz.results320, go_sem]) rfl ⟨rfl, (Fr.refl.alloc _)⟩
theorem rt_9 (w : World) : Calls Tryz.prog 320 #[.int .i64 9] w (Ret (.tuple #[.agg #[.string ⟨#[114, 101, 109]⟩, .int .i64 3, .int .i64 8, .string ⟨#[98, 99]⟩, .string ⟨#[97]⟩], .bool true]) E0 w) := by
  go_enter Tryz.func320, Tryz.ntmps320
  go_wp2
  exact bodyPost_ret (v := .tuple #[.agg #[.string ⟨#[114, 101, 109]⟩, .int .i64 3, .int .i64 8, .string ⟨#[98, 99]⟩, .string ⟨#[97]⟩], .bool true]) (by simp [results, Tryz.results320, go_sem]) rfl ⟨rfl, (Fr.refl.alloc _)⟩
theorem rt_10 (w : World) : Calls Tryz.prog 320 #[.int .i64 10] w (Ret (.tuple #[.agg #[.string ⟨#[97, 110, 100]⟩, .int .i64 3, .int .i64 1, .string ⟨#[98, 99]⟩, .string ⟨#[97]⟩], .bool true]) E0 w) := by
  go_enter Tryz.func320, Tryz.ntmps320
  go_wp2
  exact bodyPost_ret (v := .tuple #[.agg #[.string ⟨#[97, 110, 100]⟩, .int .i64 3, .int .i64 1, .string ⟨#[98, 99]⟩, .string ⟨#[97]⟩], .bool true]) (by simp [results, Tryz.results320, go_sem]) rfl ⟨rfl, (Fr.refl.alloc _)⟩
theorem rt_11 (w : World) : Calls Tryz.prog 320 #[.int .i64 11] w (Ret (.tuple #[.agg #[.string ⟨#[111, 114]⟩, .int .i64 3, .int .i64 1, .string ⟨#[98, 99]⟩, .string ⟨#[97]⟩], .bool true]) E0 w) := by
  go_enter Tryz.func320, Tryz.ntmps320
  go_wp2
  exact bodyPost_ret (v := .tuple #[.agg #[.string ⟨#[111, 114]⟩, .int .i64 3, .int .i64 1, .string ⟨#[98, 99]⟩, .string ⟨#[97]⟩], .bool true]) (by simp [results, Tryz.results320, go_sem]) rfl ⟨rfl, (Fr.refl.alloc _)⟩
theorem rt_12 (w : World) : Calls Tryz.prog 320 #[.int .i64 12] w (Ret (.tuple #[.agg #[.string ⟨#[120, 111, 114]⟩, .int .i64 3, .int .i64 1, .string ⟨#[98, 99]⟩, .string ⟨#[97]⟩], .bool true]) E0 w) := by
  go_enter Tryz.func320, Tryz.ntmps320
  go_wp2
  exact bodyPost_ret (v := .tuple #[.agg #[.string ⟨#[120, 111, 114]⟩, .int .i64 3, .int .i64 1, .string ⟨#[98, 99]⟩, .string ⟨#[97]⟩], .bool true]) (by simp [results, Tryz.results320, go_sem]) rfl ⟨rfl, (Fr.refl.alloc _)⟩
theorem rt_13 (w : World) : Calls Tryz.prog 320 #[.int .i64 13] w (Ret (.tuple #[.agg #[.string ⟨#[115, 104, 108]⟩, .int .i64 3, .int .i64 1, .string ⟨#[98, 99]⟩, .string ⟨#[97]⟩], .bool true]) E0 w) := by
  go_enter Tryz.func320, Tryz.ntmps320
  go_wp2
  exact bodyPost_ret (v := .tuple #[.agg #[.string ⟨#[115, 104, 108]⟩, .int .i64 3, .int .i64 1, .string ⟨#[98, 99]⟩, .string ⟨#[97]⟩], .bool true]) (by simp [results, Tryz.results320, go_sem]) rfl ⟨rfl, (Fr.refl.alloc _)⟩
theorem rt_14 (w : World) : Calls Tryz.prog 320 #[.int .i64 14] w (Ret (.tuple #[.agg #[.string ⟨#[115, 104, 114]⟩, .int .i64 3, .int .i64 1, .string ⟨#[98, 99]⟩, .string ⟨#[97]⟩], .bool true]) E0 w) := by
  go_enter Tryz.func320, Tryz.ntmps320
  go_wp2
  exact bodyPost_ret (v := .tuple #[.agg #[.string ⟨#[115, 104, 114]⟩, .int .i64 3, .int .i64 1, .string ⟨#[98, 99]⟩, .string ⟨#[97]⟩], .bool true]) (by simp [results, Tryz.results320, go_sem]) rfl ⟨rfl, (Fr.refl.alloc _)⟩
theorem rt_15 (w : World) : Calls Tryz.prog 320 #[.int .i64 15] w (Ret (.tuple #[.agg #[.string ⟨#[108, 101, 115, 115]⟩, .int .i64 3, .int .i64 1, .string ⟨#[98, 99]⟩, .string ⟨#[97]⟩], .bool true]) E0 w) := by
  go_enter Tryz.func320, Tryz.ntmps320
  go_wp2
  exact bodyPost_ret (v := .tuple #[.agg #[.string ⟨#[108, 101, 115, 115]⟩, .int .i64 3, .int .i64 1, .string ⟨#[98, 99]⟩, .string ⟨#[97]⟩], .bool true]) (by simp [results, Tryz.results320, go_sem]) rfl ⟨rfl, (Fr.refl.alloc _)⟩
theorem rt_16 (w : World) : Calls Tryz.prog 320 #[.int .i64 16] w (Ret (.tuple #[.agg #[.string ⟨#[101, 113, 117, 97, 108]⟩, .int .i64 3, .int .i64 1, .string ⟨#[98, 99]⟩, .string ⟨#[97]⟩], .bool true]) E0 w) := by
  go_enter Tryz.func320, Tryz.ntmps320
  go_wp2
  exact bodyPost_ret (v := .tuple #[.agg #[.string ⟨#[101, 113, 117, 97, 108]⟩, .int .i64 3, .int .i64 1, .string ⟨#[98, 99]⟩, .string ⟨#[97]⟩], .bool true]) (by simp [results, Tryz.results320, go_sem]) rfl ⟨rfl, (Fr.refl.alloc _)⟩
theorem rt_17 (w : World) : Calls Tryz.prog 320 #[.int .i64 17] w (Ret (.tuple #[.agg #[.string ⟨#[106, 117, 109, 112]⟩, .int .i64 4, .int .i64 1, .string ⟨#[]⟩, .string ⟨#[]⟩], .bool true]) E0 w) := by
  go_enter Tryz.func320, Tryz.ntmps320
  go_wp2
  exact bodyPost_ret (v := .tuple #[.agg #[.string ⟨#[106, 117, 109, 112]⟩, .int .i64 4, .int .i64 1, .string ⟨#[]⟩, .string ⟨#[]⟩], .bool true]) (by simp [results, Tryz.results320, go_sem]) rfl ⟨rfl, (Fr.refl.alloc _)⟩
theorem rt_18 (w : World) : Calls Tryz.prog 320 #[.int .i64 18] w (Ret (.tuple #[.agg #[.string ⟨#[122, 101, 114, 111]⟩, .int .i64 5, .int .i64 1, .string ⟨#[97]⟩, .string ⟨#[]⟩], .bool true]) E0 w) := by
  go_enter Tryz.func320, Tryz.ntmps320
  go_wp2
  exact bodyPost_ret (v := .tuple #[.agg #[.string ⟨#[122, 101, 114, 111]⟩, .int .i64 5, .int .i64 1, .string ⟨#[97]⟩, .string ⟨#[]⟩], .bool true]) (by simp [results, Tryz.results320, go_sem]) rfl ⟨rfl, (Fr.refl.alloc _)⟩
theorem rt_19 (w : World) : Calls Tryz.prog 320 #[.int .i64 19] w (Ret (.tuple #[.agg #[.string ⟨#[115, 111, 109, 101]⟩, .int .i64 5, .int .i64 1, .string ⟨#[97]⟩, .string ⟨#[]⟩], .bool true]) E0 w) := by
  go_enter Tryz.func320, Tryz.ntmps320
  go_wp2
  exact bodyPost_ret (v := .tuple #[.agg #[.string ⟨#[115, 111, 109, 101]⟩, .int .i64 5, .int .i64 1, .string ⟨#[97]⟩, .string ⟨#[]⟩], .bool true]) (by simp [results, Tryz.results320, go_sem]) rfl ⟨rfl, (Fr.refl.alloc _)⟩
theorem rt_20 (w : World) : Calls Tryz.prog 320 #[.int .i64 20] w (Ret (.tuple #[.agg #[.string ⟨#[99, 97, 108, 108]⟩, .int .i64 4, .int .i64 2, .string ⟨#[]⟩, .string ⟨#[]⟩], .bool true]) E0 w) := by
  go_enter Tryz.func320, Tryz.ntmps320
  go_wp2
  exact bodyPost_ret (v := .tuple #[.agg #[.string ⟨#[99, 97, 108, 108]⟩, .int .i64 4, .int .i64 2, .string ⟨#[]⟩, .string ⟨#[]⟩], .bool true]) (by simp [results, Tryz.results320, go_sem]) rfl ⟨rfl, (Fr.refl.alloc _)⟩
theorem rt_21 (w : World) : Calls Tryz.prog 320 #[.int .i64 21] w (Ret (.tuple #[.agg #[.string ⟨#[114, 101, 116]⟩, .int .i64 0, .int .i64 2, .string ⟨#[]⟩, .string ⟨#[]⟩], .bool true]) E0 w) := by
  go_enter Tryz.func320, Tryz.ntmps320
  go_wp2
  exact bodyPost_ret (v := .tuple #[.agg #[.string ⟨#[114, 101, 116]⟩, .int .i64 0, .int .i64 2, .string ⟨#[]⟩, .string ⟨#[]⟩], .bool true]) (by simp [results, Tryz.results320, go_sem]) rfl ⟨rfl, (Fr.refl.alloc _)⟩
theorem rt_22 (w : World) : Calls Tryz.prog 320 #[.int .i64 22] w (Ret (.tuple #[.agg #[.string ⟨#[115, 112, 97, 119, 110]⟩, .int .i64 5, .int .i64 4, .string ⟨#[42]⟩, .string ⟨#[97]⟩], .bool true]) E0 w) := by
  go_enter Tryz.func320, Tryz.ntmps320
  go_wp2
  exact bodyPost_ret (v := .tuple #[.agg #[.string ⟨#[115, 112, 97, 119, 110]⟩, .int .i64 5, .int .i64 4, .string ⟨#[42]⟩, .string ⟨#[97]⟩], .bool true]) (by simp [results, Tryz.results320, go_sem]) rfl ⟨rfl, (Fr.refl.alloc _)⟩
theorem rt_23 (w : World) : Calls Tryz.prog 320 #[.int .i64 23] w (Ret (.tuple #[.agg #[.string ⟨#[121, 105, 101, 108, 100]⟩, .int .i64 0, .int .i64 1, .string ⟨#[]⟩, .string ⟨#[]⟩], .bool true]) E0 w) := by
  go_enter Tryz.func320, Tryz.ntmps320
  go_wp2
  exact bodyPost_ret (v := .tuple #[.agg #[.string ⟨#[121, 105, 101, 108, 100]⟩, .int .i64 0, .int .i64 1, .string ⟨#[]⟩, .string ⟨#[]⟩], .bool true]) (by simp [results, Tryz.results320, go_sem]) rfl ⟨rfl, (Fr.refl.alloc _)⟩
theorem rt_24 (w : World) : Calls Tryz.prog 320 #[.int .i64 24] w (Ret (.tuple #[.agg #[.string ⟨#[101, 120, 105, 116]⟩, .int .i64 0, .int .i64 1, .string ⟨#[]⟩, .string ⟨#[]⟩], .bool true]) E0 w) := by
  go_enter Tryz.func320, Tryz.ntmps320
  go_wp2
  exact bodyPost_ret (v := .tuple #[.agg #[.string ⟨#[101, 120, 105, 116]⟩, .int .i64 0, .int .i64 1, .string ⟨#[]⟩, .string ⟨#[]⟩], .bool true]) (by simp [results, Tryz.results320, go_sem]) rfl ⟨rfl, (Fr.refl.alloc _)⟩
theorem rt_25 (w : World) : Calls Tryz.prog 320 #[.int .i64 25] w (Ret (.tuple #[.agg #[.string ⟨#[115, 101, 108, 102]⟩, .int .i64 1, .int .i64 1, .string ⟨#[]⟩, .string ⟨#[97]⟩], .bool true]) E0 w) := by
  go_enter Tryz.func320, Tryz.ntmps320
  go_wp2
  exact bodyPost_ret (v := .tuple #[.agg #[.string ⟨#[115, 101, 108, 102]⟩, .int .i64 1, .int .i64 1, .string ⟨#[]⟩, .string ⟨#[97]⟩], .bool true]) (by simp [results, Tryz.results320, go_sem]) rfl ⟨rfl, (Fr.refl.alloc _)⟩
theorem rt_26 (w : World) : Calls Tryz.prog 320 #[.int .i64 26] w (Ret (.tuple #[.agg #[.string ⟨#[110, 111, 119]⟩, .int .i64 1, .int .i64 1, .string ⟨#[]⟩, .string ⟨#[97]⟩], .bool true]) E0 w) := by
  go_enter Tryz.func320, Tryz.ntmps320
  go_wp2
  exact bodyPost_ret (v := .tuple #[.agg #[.string ⟨#[110, 111, 119]⟩, .int .i64 1, .int .i64 1, .string ⟨#[]⟩, .string ⟨#[97]⟩], .bool true]) (by simp [results, Tryz.results320, go_sem]) rfl ⟨rfl, (Fr.refl.alloc _)⟩
theorem rt_27 (w : World) : Calls Tryz.prog 320 #[.int .i64 27] w (Ret (.tuple #[.agg #[.string ⟨#[115, 108, 101, 101, 112]⟩, .int .i64 1, .int .i64 1, .string ⟨#[97]⟩, .string ⟨#[]⟩], .bool true]) E0 w) := by
  go_enter Tryz.func320, Tryz.ntmps320
  go_wp2
  exact bodyPost_ret (v := .tuple #[.agg #[.string ⟨#[115, 108, 101, 101, 112]⟩, .int .i64 1, .int .i64 1, .string ⟨#[97]⟩, .string ⟨#[]⟩], .bool true]) (by simp [results, Tryz.results320, go_sem]) rfl ⟨rfl, (Fr.refl.alloc _)⟩
theorem rt_28 (w : World) : Calls Tryz.prog 320 #[.int .i64 28] w (Ret (.tuple #[.agg #[.string ⟨#[109, 97, 107, 101]⟩, .int .i64 2, .int .i64 4, .string ⟨#[98]⟩, .string ⟨#[97]⟩], .bool true]) E0 w) := by
  go_enter Tryz.func320, Tryz.ntmps320
  go_wp2
  exact bodyPost_ret (v := .tuple #[.agg #[.string ⟨#[109, 97, 107, 101]⟩, .int .i64 2, .int .i64 4, .string ⟨#[98]⟩, .string ⟨#[97]⟩], .bool true]) (by simp [results, Tryz.results320, go_sem]) rfl ⟨rfl, (Fr.refl.alloc _)⟩
theorem rt_29 (w : World) : Calls Tryz.prog 320 #[.int .i64 29] w (Ret (.tuple #[.agg #[.string ⟨#[115, 101, 110, 100]⟩, .int .i64 2, .int .i64 2, .string ⟨#[97, 98]⟩, .string ⟨#[]⟩], .bool true]) E0 w) := by
  go_enter Tryz.func320, Tryz.ntmps320
  go_wp2
  exact bodyPost_ret (v := .tuple #[.agg #[.string ⟨#[115, 101, 110, 100]⟩, .int .i64 2, .int .i64 2, .string ⟨#[97, 98]⟩, .string ⟨#[]⟩], .bool true]) (by simp [results, Tryz.results320, go_sem]) rfl ⟨rfl, (Fr.refl.alloc _)⟩
end Go.Proofs.YtocepiogpeafoaaGreatDoor
