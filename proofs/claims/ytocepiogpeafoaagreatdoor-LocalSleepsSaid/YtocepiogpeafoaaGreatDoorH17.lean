/- Words and contracts of calls that the law needs (RefTA): merged by wip/gen/zmerge.py. No condition but those that each theorem names. -/
import Derived.Test.YtocepiogpeafoaaGreatDoorProg
import Derived.Test.YtocepiogpeafoaaGreatDoorH02
set_option linter.unusedVariables false
/- rotaref06.later, row by row. Printed by wip/gen/zref6.py. -/
namespace Go.Proofs.YtocepiogpeafoaaGreatDoor
open Go.RowKit
set_option linter.unusedVariables false
theorem rl_30 (w : World) : Calls Tryz.prog 386 #[.int .i64 30] w (Ret (.tuple #[.agg #[.string ⟨#[114, 101, 99, 118]⟩, .int .i64 3, .int .i64 2, .string ⟨#[99]⟩, .string ⟨#[97, 98]⟩], .bool true]) E0 w) := by
  go_enter Tryz.func386, Tryz.ntmps386
  go_wp2
  exact bodyPost_ret (v := .tuple #[.agg #[.string ⟨#[114, 101, 99, 118]⟩, .int .i64 3, .int .i64 2, .string ⟨#[99]⟩, .string ⟨#[97, 98]⟩], .bool true]) (by simp [results, Tryz.results386, go_sem]) rfl ⟨rfl, (Fr.refl.alloc _)⟩
theorem rl_31 (w : World) : Calls Tryz.prog 386 #[.int .i64 31] w (Ret (.tuple #[.agg #[.string ⟨#[99, 108, 111, 115, 101]⟩, .int .i64 1, .int .i64 2, .string ⟨#[97]⟩, .string ⟨#[]⟩], .bool true]) E0 w) := by
  go_enter Tryz.func386, Tryz.ntmps386
  go_wp2
  exact bodyPost_ret (v := .tuple #[.agg #[.string ⟨#[99, 108, 111, 115, 101]⟩, .int .i64 1, .int .i64 2, .string ⟨#[97]⟩, .string ⟨#[]⟩], .bool true]) (by simp [results, Tryz.results386, go_sem]) rfl ⟨rfl, (Fr.refl.alloc _)⟩
theorem rl_32 (w : World) : Calls Tryz.prog 386 #[.int .i64 32] w (Ret (.tuple #[.agg #[.string ⟨#[108, 101, 110]⟩, .int .i64 2, .int .i64 1, .string ⟨#[98]⟩, .string ⟨#[97]⟩], .bool true]) E0 w) := by
  go_enter Tryz.func386, Tryz.ntmps386
  go_wp2
  exact bodyPost_ret (v := .tuple #[.agg #[.string ⟨#[108, 101, 110]⟩, .int .i64 2, .int .i64 1, .string ⟨#[98]⟩, .string ⟨#[97]⟩], .bool true]) (by simp [results, Tryz.results386, go_sem]) rfl ⟨rfl, (Fr.refl.alloc _)⟩
theorem rl_33 (w : World) : Calls Tryz.prog 386 #[.int .i64 33] w (Ret (.tuple #[.agg #[.string ⟨#[99, 97, 112]⟩, .int .i64 2, .int .i64 1, .string ⟨#[98]⟩, .string ⟨#[97]⟩], .bool true]) E0 w) := by
  go_enter Tryz.func386, Tryz.ntmps386
  go_wp2
  exact bodyPost_ret (v := .tuple #[.agg #[.string ⟨#[99, 97, 112]⟩, .int .i64 2, .int .i64 1, .string ⟨#[98]⟩, .string ⟨#[97]⟩], .bool true]) (by simp [results, Tryz.results386, go_sem]) rfl ⟨rfl, (Fr.refl.alloc _)⟩
theorem rl_34 (w : World) : Calls Tryz.prog 386 #[.int .i64 34] w (Ret (.tuple #[.agg #[.string ⟨#[115, 101, 108, 101, 99, 116]⟩, .int .i64 5, .int .i64 4, .string ⟨#[42]⟩, .string ⟨#[42]⟩], .bool true]) E0 w) := by
  go_enter Tryz.func386, Tryz.ntmps386
  go_wp2
  exact bodyPost_ret (v := .tuple #[.agg #[.string ⟨#[115, 101, 108, 101, 99, 116]⟩, .int .i64 5, .int .i64 4, .string ⟨#[42]⟩, .string ⟨#[42]⟩], .bool true]) (by simp [results, Tryz.results386, go_sem]) rfl ⟨rfl, (Fr.refl.alloc _)⟩
theorem rl_35 (w : World) : Calls Tryz.prog 386 #[.int .i64 35] w (Ret (.tuple #[.agg #[.string ⟨#[108, 111, 99, 107]⟩, .int .i64 1, .int .i64 2, .string ⟨#[97]⟩, .string ⟨#[]⟩], .bool true]) E0 w) := by
  go_enter Tryz.func386, Tryz.ntmps386
  go_wp2
  exact bodyPost_ret (v := .tuple #[.agg #[.string ⟨#[108, 111, 99, 107]⟩, .int .i64 1, .int .i64 2, .string ⟨#[97]⟩, .string ⟨#[]⟩], .bool true]) (by simp [results, Tryz.results386, go_sem]) rfl ⟨rfl, (Fr.refl.alloc _)⟩
theorem rl_36 (w : World) : Calls Tryz.prog 386 #[.int .i64 36] w (Ret (.tuple #[.agg #[.string ⟨#[117, 110, 108, 111, 99, 107]⟩, .int .i64 1, .int .i64 2, .string ⟨#[97]⟩, .string ⟨#[]⟩], .bool true]) E0 w) := by
  go_enter Tryz.func386, Tryz.ntmps386
  go_wp2
  exact bodyPost_ret (v := .tuple #[.agg #[.string ⟨#[117, 110, 108, 111, 99, 107]⟩, .int .i64 1, .int .i64 2, .string ⟨#[97]⟩, .string ⟨#[]⟩], .bool true]) (by simp [results, Tryz.results386, go_sem]) rfl ⟨rfl, (Fr.refl.alloc _)⟩
theorem rl_37 (w : World) : Calls Tryz.prog 386 #[.int .i64 37] w (Ret (.tuple #[.agg #[.string ⟨#[114, 108, 111, 99, 107]⟩, .int .i64 1, .int .i64 2, .string ⟨#[97]⟩, .string ⟨#[]⟩], .bool true]) E0 w) := by
  go_enter Tryz.func386, Tryz.ntmps386
  go_wp2
  exact bodyPost_ret (v := .tuple #[.agg #[.string ⟨#[114, 108, 111, 99, 107]⟩, .int .i64 1, .int .i64 2, .string ⟨#[97]⟩, .string ⟨#[]⟩], .bool true]) (by simp [results, Tryz.results386, go_sem]) rfl ⟨rfl, (Fr.refl.alloc _)⟩
theorem rl_38 (w : World) : Calls Tryz.prog 386 #[.int .i64 38] w (Ret (.tuple #[.agg #[.string ⟨#[114, 117, 110, 108, 111, 99, 107]⟩, .int .i64 1, .int .i64 2, .string ⟨#[97]⟩, .string ⟨#[]⟩], .bool true]) E0 w) := by
  go_enter Tryz.func386, Tryz.ntmps386
  go_wp2
  exact bodyPost_ret (v := .tuple #[.agg #[.string ⟨#[114, 117, 110, 108, 111, 99, 107]⟩, .int .i64 1, .int .i64 2, .string ⟨#[97]⟩, .string ⟨#[]⟩], .bool true]) (by simp [results, Tryz.results386, go_sem]) rfl ⟨rfl, (Fr.refl.alloc _)⟩
theorem rl_39 (w : World) : Calls Tryz.prog 386 #[.int .i64 39] w (Ret (.tuple #[.agg #[.string ⟨#[119, 97, 100, 100]⟩, .int .i64 2, .int .i64 2, .string ⟨#[97, 98]⟩, .string ⟨#[]⟩], .bool true]) E0 w) := by
  go_enter Tryz.func386, Tryz.ntmps386
  go_wp2
  exact bodyPost_ret (v := .tuple #[.agg #[.string ⟨#[119, 97, 100, 100]⟩, .int .i64 2, .int .i64 2, .string ⟨#[97, 98]⟩, .string ⟨#[]⟩], .bool true]) (by simp [results, Tryz.results386, go_sem]) rfl ⟨rfl, (Fr.refl.alloc _)⟩
theorem rl_40 (w : World) : Calls Tryz.prog 386 #[.int .i64 40] w (Ret (.tuple #[.agg #[.string ⟨#[119, 100, 111, 110, 101]⟩, .int .i64 1, .int .i64 2, .string ⟨#[97]⟩, .string ⟨#[]⟩], .bool true]) E0 w) := by
  go_enter Tryz.func386, Tryz.ntmps386
  go_wp2
  exact bodyPost_ret (v := .tuple #[.agg #[.string ⟨#[119, 100, 111, 110, 101]⟩, .int .i64 1, .int .i64 2, .string ⟨#[97]⟩, .string ⟨#[]⟩], .bool true]) (by simp [results, Tryz.results386, go_sem]) rfl ⟨rfl, (Fr.refl.alloc _)⟩
theorem rl_41 (w : World) : Calls Tryz.prog 386 #[.int .i64 41] w (Ret (.tuple #[.agg #[.string ⟨#[119, 119, 97, 105, 116]⟩, .int .i64 1, .int .i64 2, .string ⟨#[97]⟩, .string ⟨#[]⟩], .bool true]) E0 w) := by
  go_enter Tryz.func386, Tryz.ntmps386
  go_wp2
  exact bodyPost_ret (v := .tuple #[.agg #[.string ⟨#[119, 119, 97, 105, 116]⟩, .int .i64 1, .int .i64 2, .string ⟨#[97]⟩, .string ⟨#[]⟩], .bool true]) (by simp [results, Tryz.results386, go_sem]) rfl ⟨rfl, (Fr.refl.alloc _)⟩
theorem rl_42 (w : World) : Calls Tryz.prog 386 #[.int .i64 42] w (Ret (.tuple #[.agg #[.string ⟨#[99, 119, 97, 105, 116]⟩, .int .i64 2, .int .i64 3, .string ⟨#[97, 98]⟩, .string ⟨#[]⟩], .bool true]) E0 w) := by
  go_enter Tryz.func386, Tryz.ntmps386
  go_wp2
  exact bodyPost_ret (v := .tuple #[.agg #[.string ⟨#[99, 119, 97, 105, 116]⟩, .int .i64 2, .int .i64 3, .string ⟨#[97, 98]⟩, .string ⟨#[]⟩], .bool true]) (by simp [results, Tryz.results386, go_sem]) rfl ⟨rfl, (Fr.refl.alloc _)⟩
theorem rl_43 (w : World) : Calls Tryz.prog 386 #[.int .i64 43] w (Ret (.tuple #[.agg #[.string ⟨#[115, 105, 103, 110, 97, 108]⟩, .int .i64 1, .int .i64 2, .string ⟨#[97]⟩, .string ⟨#[]⟩], .bool true]) E0 w) := by
  go_enter Tryz.func386, Tryz.ntmps386
  go_wp2
  exact bodyPost_ret (v := .tuple #[.agg #[.string ⟨#[115, 105, 103, 110, 97, 108]⟩, .int .i64 1, .int .i64 2, .string ⟨#[97]⟩, .string ⟨#[]⟩], .bool true]) (by simp [results, Tryz.results386, go_sem]) rfl ⟨rfl, (Fr.refl.alloc _)⟩
theorem rl_44 (w : World) : Calls Tryz.prog 386 #[.int .i64 44] w (Ret (.tuple #[.agg #[.string ⟨#[98, 114, 111, 97, 100, 99, 97, 115, 116]⟩, .int .i64 1, .int .i64 3, .string ⟨#[97]⟩, .string ⟨#[]⟩], .bool true]) E0 w) := by
  go_enter Tryz.func386, Tryz.ntmps386
  go_wp2
  exact bodyPost_ret (v := .tuple #[.agg #[.string ⟨#[98, 114, 111, 97, 100, 99, 97, 115, 116]⟩, .int .i64 1, .int .i64 3, .string ⟨#[97]⟩, .string ⟨#[]⟩], .bool true]) (by simp [results, Tryz.results386, go_sem]) rfl ⟨rfl, (Fr.refl.alloc _)⟩
theorem rl_45 (w : World) : Calls Tryz.prog 386 #[.int .i64 45] w (Ret (.tuple #[.agg #[.string ⟨#[97, 99, 113, 117, 105, 114, 101]⟩, .int .i64 1, .int .i64 2, .string ⟨#[97]⟩, .string ⟨#[]⟩], .bool true]) E0 w) := by
  go_enter Tryz.func386, Tryz.ntmps386
  go_wp2
  exact bodyPost_ret (v := .tuple #[.agg #[.string ⟨#[97, 99, 113, 117, 105, 114, 101]⟩, .int .i64 1, .int .i64 2, .string ⟨#[97]⟩, .string ⟨#[]⟩], .bool true]) (by simp [results, Tryz.results386, go_sem]) rfl ⟨rfl, (Fr.refl.alloc _)⟩
theorem rl_46 (w : World) : Calls Tryz.prog 386 #[.int .i64 46] w (Ret (.tuple #[.agg #[.string ⟨#[114, 101, 108, 101, 97, 115, 101]⟩, .int .i64 1, .int .i64 2, .string ⟨#[97]⟩, .string ⟨#[]⟩], .bool true]) E0 w) := by
  go_enter Tryz.func386, Tryz.ntmps386
  go_wp2
  exact bodyPost_ret (v := .tuple #[.agg #[.string ⟨#[114, 101, 108, 101, 97, 115, 101]⟩, .int .i64 1, .int .i64 2, .string ⟨#[97]⟩, .string ⟨#[]⟩], .bool true]) (by simp [results, Tryz.results386, go_sem]) rfl ⟨rfl, (Fr.refl.alloc _)⟩
theorem rl_47 (w : World) : Calls Tryz.prog 386 #[.int .i64 47] w (Ret (.tuple #[.agg #[.string ⟨#[108, 111, 97, 100]⟩, .int .i64 2, .int .i64 2, .string ⟨#[98]⟩, .string ⟨#[97]⟩], .bool true]) E0 w) := by
  go_enter Tryz.func386, Tryz.ntmps386
  go_wp2
  exact bodyPost_ret (v := .tuple #[.agg #[.string ⟨#[108, 111, 97, 100]⟩, .int .i64 2, .int .i64 2, .string ⟨#[98]⟩, .string ⟨#[97]⟩], .bool true]) (by simp [results, Tryz.results386, go_sem]) rfl ⟨rfl, (Fr.refl.alloc _)⟩
theorem rl_48 (w : World) : Calls Tryz.prog 386 #[.int .i64 48] w (Ret (.tuple #[.agg #[.string ⟨#[115, 116, 111, 114, 101]⟩, .int .i64 2, .int .i64 2, .string ⟨#[97, 98]⟩, .string ⟨#[]⟩], .bool true]) E0 w) := by
  go_enter Tryz.func386, Tryz.ntmps386
  go_wp2
  exact bodyPost_ret (v := .tuple #[.agg #[.string ⟨#[115, 116, 111, 114, 101]⟩, .int .i64 2, .int .i64 2, .string ⟨#[97, 98]⟩, .string ⟨#[]⟩], .bool true]) (by simp [results, Tryz.results386, go_sem]) rfl ⟨rfl, (Fr.refl.alloc _)⟩
theorem rl_49 (w : World) : Calls Tryz.prog 386 #[.int .i64 49] w (Ret (.tuple #[.agg #[.string ⟨#[115, 119, 97, 112]⟩, .int .i64 3, .int .i64 3, .string ⟨#[97, 98, 99]⟩, .string ⟨#[97]⟩], .bool true]) E0 w) := by
  go_enter Tryz.func386, Tryz.ntmps386
  go_wp2
  exact bodyPost_ret (v := .tuple #[.agg #[.string ⟨#[115, 119, 97, 112]⟩, .int .i64 3, .int .i64 3, .string ⟨#[97, 98, 99]⟩, .string ⟨#[97]⟩], .bool true]) (by simp [results, Tryz.results386, go_sem]) rfl ⟨rfl, (Fr.refl.alloc _)⟩
theorem rl_50 (w : World) : Calls Tryz.prog 386 #[.int .i64 50] w (Ret (.tuple #[.agg #[.string ⟨#[102, 101, 116, 99, 104]⟩, .int .i64 3, .int .i64 3, .string ⟨#[98, 99]⟩, .string ⟨#[97]⟩], .bool true]) E0 w) := by
  go_enter Tryz.func386, Tryz.ntmps386
  go_wp2
  exact bodyPost_ret (v := .tuple #[.agg #[.string ⟨#[102, 101, 116, 99, 104]⟩, .int .i64 3, .int .i64 3, .string ⟨#[98, 99]⟩, .string ⟨#[97]⟩], .bool true]) (by simp [results, Tryz.results386, go_sem]) rfl ⟨rfl, (Fr.refl.alloc _)⟩
theorem rl_51 (w : World) : Calls Tryz.prog 386 #[.int .i64 51] w (Ret (.tuple #[.agg #[.string ⟨#[105, 110, 112, 117, 116]⟩, .int .i64 2, .int .i64 2, .string ⟨#[]⟩, .string ⟨#[97, 98]⟩], .bool true]) E0 w) := by
  go_enter Tryz.func386, Tryz.ntmps386
  go_wp2
  exact bodyPost_ret (v := .tuple #[.agg #[.string ⟨#[105, 110, 112, 117, 116]⟩, .int .i64 2, .int .i64 2, .string ⟨#[]⟩, .string ⟨#[97, 98]⟩], .bool true]) (by simp [results, Tryz.results386, go_sem]) rfl ⟨rfl, (Fr.refl.alloc _)⟩
theorem rl_52 (w : World) : Calls Tryz.prog 386 #[.int .i64 52] w (Ret (.tuple #[.agg #[.string ⟨#[111, 117, 116, 112, 117, 116]⟩, .int .i64 1, .int .i64 2, .string ⟨#[97]⟩, .string ⟨#[]⟩], .bool true]) E0 w) := by
  go_enter Tryz.func386, Tryz.ntmps386
  go_wp2
  exact bodyPost_ret (v := .tuple #[.agg #[.string ⟨#[111, 117, 116, 112, 117, 116]⟩, .int .i64 1, .int .i64 2, .string ⟨#[97]⟩, .string ⟨#[]⟩], .bool true]) (by simp [results, Tryz.results386, go_sem]) rfl ⟨rfl, (Fr.refl.alloc _)⟩
theorem rl_53 (w : World) : Calls Tryz.prog 386 #[.int .i64 53] w (Ret (.tuple #[.agg #[.string ⟨#[112, 117, 116]⟩, .int .i64 3, .int .i64 2, .string ⟨#[97, 98]⟩, .string ⟨#[99]⟩], .bool true]) E0 w) := by
  go_enter Tryz.func386, Tryz.ntmps386
  go_wp2
  exact bodyPost_ret (v := .tuple #[.agg #[.string ⟨#[112, 117, 116]⟩, .int .i64 3, .int .i64 2, .string ⟨#[97, 98]⟩, .string ⟨#[99]⟩], .bool true]) (by simp [results, Tryz.results386, go_sem]) rfl ⟨rfl, (Fr.refl.alloc _)⟩
theorem rl_54 (w : World) : Calls Tryz.prog 386 #[.int .i64 54] w (Ret (.tuple #[.agg #[.string ⟨#[103, 101, 116]⟩, .int .i64 3, .int .i64 2, .string ⟨#[99]⟩, .string ⟨#[97, 98]⟩], .bool true]) E0 w) := by
  go_enter Tryz.func386, Tryz.ntmps386
  go_wp2
  exact bodyPost_ret (v := .tuple #[.agg #[.string ⟨#[103, 101, 116]⟩, .int .i64 3, .int .i64 2, .string ⟨#[99]⟩, .string ⟨#[97, 98]⟩], .bool true]) (by simp [results, Tryz.results386, go_sem]) rfl ⟨rfl, (Fr.refl.alloc _)⟩
theorem rl_55 (w : World) : Calls Tryz.prog 386 #[.int .i64 55] w (Ret (.tuple #[.agg #[.string ⟨#[97, 102, 116, 101, 114]⟩, .int .i64 3, .int .i64 3, .string ⟨#[98, 99]⟩, .string ⟨#[97]⟩], .bool true]) E0 w) := by
  go_enter Tryz.func386, Tryz.ntmps386
  go_wp2
  exact bodyPost_ret (v := .tuple #[.agg #[.string ⟨#[97, 102, 116, 101, 114]⟩, .int .i64 3, .int .i64 3, .string ⟨#[98, 99]⟩, .string ⟨#[97]⟩], .bool true]) (by simp [results, Tryz.results386, go_sem]) rfl ⟨rfl, (Fr.refl.alloc _)⟩
theorem rl_56 (w : World) : Calls Tryz.prog 386 #[.int .i64 56] w (Ret (.tuple #[.agg #[.string ⟨#[101, 118, 101, 114, 121]⟩, .int .i64 3, .int .i64 3, .string ⟨#[98, 99]⟩, .string ⟨#[97]⟩], .bool true]) E0 w) := by
  go_enter Tryz.func386, Tryz.ntmps386
  go_wp2
  exact bodyPost_ret (v := .tuple #[.agg #[.string ⟨#[101, 118, 101, 114, 121]⟩, .int .i64 3, .int .i64 3, .string ⟨#[98, 99]⟩, .string ⟨#[97]⟩], .bool true]) (by simp [results, Tryz.results386, go_sem]) rfl ⟨rfl, (Fr.refl.alloc _)⟩
theorem rl_57 (w : World) : Calls Tryz.prog 386 #[.int .i64 57] w (Ret (.tuple #[.agg #[.string ⟨#[115, 116, 111, 112]⟩, .int .i64 2, .int .i64 2, .string ⟨#[98]⟩, .string ⟨#[97]⟩], .bool true]) E0 w) := by
  go_enter Tryz.func386, Tryz.ntmps386
  go_wp2
  exact bodyPost_ret (v := .tuple #[.agg #[.string ⟨#[115, 116, 111, 112]⟩, .int .i64 2, .int .i64 2, .string ⟨#[98]⟩, .string ⟨#[97]⟩], .bool true]) (by simp [results, Tryz.results386, go_sem]) rfl ⟨rfl, (Fr.refl.alloc _)⟩
theorem rl_58 (w : World) : Calls Tryz.prog 386 #[.int .i64 58] w (Ret (.tuple #[.agg #[.string ⟨#[116, 114, 97, 112]⟩, .int .i64 4, .int .i64 1, .string ⟨#[]⟩, .string ⟨#[]⟩], .bool true]) E0 w) := by
  go_enter Tryz.func386, Tryz.ntmps386
  go_wp2
  exact bodyPost_ret (v := .tuple #[.agg #[.string ⟨#[116, 114, 97, 112]⟩, .int .i64 4, .int .i64 1, .string ⟨#[]⟩, .string ⟨#[]⟩], .bool true]) (by simp [results, Tryz.results386, go_sem]) rfl ⟨rfl, (Fr.refl.alloc _)⟩
end Go.Proofs.YtocepiogpeafoaaGreatDoor
