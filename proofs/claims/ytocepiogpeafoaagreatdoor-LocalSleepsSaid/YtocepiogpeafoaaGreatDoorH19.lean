/- Words and contracts of calls that the law needs (RefT): merged by wip/gen/zmerge.py. No condition but those that each theorem names. -/
import Derived.Test.YtocepiogpeafoaaGreatDoorH17
import Derived.Test.YtocepiogpeafoaaGreatDoorH18
set_option linter.unusedVariables false
/- rotaref06.table at any operation. Printed by wip/gen/zref6.py. -/
namespace Go.Proofs.YtocepiogpeafoaaGreatDoor
open Go.RowKit
set_option linter.unusedVariables false
theorem rl_hi (op : Int) (h : 59 ≤ op) (w : World) : Calls Tryz.prog 386 #[.int .i64 op] w (Ret (.tuple #[.agg #[.string ⟨#[]⟩, .int .i64 0, .int .i64 0, .string ⟨#[]⟩, .string ⟨#[]⟩], .bool false]) E0 w) := by
  go_enter Tryz.func386, Tryz.ntmps386
  go_wp2
  exact bodyPost_ret (v := .tuple #[.agg #[.string ⟨#[]⟩, .int .i64 0, .int .i64 0, .string ⟨#[]⟩, .string ⟨#[]⟩], .bool false]) (by simp [results, Tryz.results386, go_sem]) rfl ⟨rfl, (Fr.refl.alloc _)⟩
theorem rl_lo (op : Int) (h : op ≤ 0) (w : World) : Calls Tryz.prog 386 #[.int .i64 op] w (Ret (.tuple #[.agg #[.string ⟨#[]⟩, .int .i64 0, .int .i64 0, .string ⟨#[]⟩, .string ⟨#[]⟩], .bool false]) E0 w) := by
  go_enter Tryz.func386, Tryz.ntmps386
  go_wp2
  exact bodyPost_ret (v := .tuple #[.agg #[.string ⟨#[]⟩, .int .i64 0, .int .i64 0, .string ⟨#[]⟩, .string ⟨#[]⟩], .bool false]) (by simp [results, Tryz.results386, go_sem]) rfl ⟨rfl, (Fr.refl.alloc _)⟩
theorem rt_late (op : Int) (h : 30 ≤ op) (nm rd wr : ByteArray) (s co : Int) (b : Bool) (hl : ∀ w, Calls Tryz.prog 386 #[.int .i64 op] w (Ret (.tuple #[.agg #[.string nm, .int .i64 s, .int .i64 co, .string rd, .string wr], .bool b]) E0 w)) (w : World) :
    Calls Tryz.prog 320 #[.int .i64 op] w (Ret (.tuple #[.agg #[.string nm, .int .i64 s, .int .i64 co, .string rd, .string wr], .bool b]) E0 w) := by
  have HL := hid hl
  clear hl
  go_enter Tryz.func320, Tryz.ntmps320
  go_wp2_with fail
  refine (HL.out _).mono ?_
  rintro e w1 ⟨rfl, hf⟩
  obtain ⟨f1, f2, f3⟩ := fcell hf
  have HF := hid hf
  have hz : w.heap.size < w1.heap.size := by simp at f3; omega
  clear hf f3
  go_wp2
  exact bodyPost_ret (v := .tuple #[.agg #[.string nm, .int .i64 s, .int .i64 co, .string rd, .string wr], .bool b]) (by simp [results, Tryz.results320, go_sem, f1]) rfl ⟨rfl, by repeat (with_reducible first | exact Fr.refl | refine Fr.alloc ?_ _ | refine Fr.setNew ?_ _ (by simp) | refine Fr.trans ?_ HF.out)⟩
theorem rt_early (op : Int) (h : op ≤ 0) (nm rd wr : ByteArray) (s co : Int) (b : Bool) (hl : ∀ w, Calls Tryz.prog 386 #[.int .i64 op] w (Ret (.tuple #[.agg #[.string nm, .int .i64 s, .int .i64 co, .string rd, .string wr], .bool b]) E0 w)) (w : World) :
    Calls Tryz.prog 320 #[.int .i64 op] w (Ret (.tuple #[.agg #[.string nm, .int .i64 s, .int .i64 co, .string rd, .string wr], .bool b]) E0 w) := by
  have HL := hid hl
  clear hl
  go_enter Tryz.func320, Tryz.ntmps320
  go_wp2_with fail
  refine (HL.out _).mono ?_
  rintro e w1 ⟨rfl, hf⟩
  obtain ⟨f1, f2, f3⟩ := fcell hf
  have HF := hid hf
  have hz : w.heap.size < w1.heap.size := by simp at f3; omega
  clear hf f3
  go_wp2
  exact bodyPost_ret (v := .tuple #[.agg #[.string nm, .int .i64 s, .int .i64 co, .string rd, .string wr], .bool b]) (by simp [results, Tryz.results320, go_sem, f1]) rfl ⟨rfl, by repeat (with_reducible first | exact Fr.refl | refine Fr.alloc ?_ _ | refine Fr.setNew ?_ _ (by simp) | refine Fr.trans ?_ HF.out)⟩
theorem rt_no (op : Int) (h : op ≤ 0 ∨ 59 ≤ op) (w : World) : Calls Tryz.prog 320 #[.int .i64 op] w (Ret (.tuple #[.agg #[.string ⟨#[]⟩, .int .i64 0, .int .i64 0, .string ⟨#[]⟩, .string ⟨#[]⟩], .bool false]) E0 w) := by
  rcases h with h | h
  · exact rt_early op h _ _ _ _ _ _ (rl_lo op h) w
  · exact rt_late op (by omega) _ _ _ _ _ _ (rl_hi op h) w
def RtPost (s : Int) (w : World) (e : Ending) (w' : World) : Prop := ∃ nm co rd wr, e = .returned (.tuple #[.agg #[.string nm, .int .i64 s, .int .i64 co, .string rd, .string wr], .bool true]) ∧ Fr E0 w w'
theorem rt_ok (op s : Int) (h1 : 1 ≤ op) (h2 : op ≤ 58) (hs : shp op = s) (w : World) : Calls Tryz.prog 320 #[.int .i64 op] w (RtPost s w) := by
  subst hs
  · by_cases h_1_58 : op ≤ 29
    · by_cases h_1_29 : op ≤ 15
      · by_cases h_1_15 : op ≤ 8
        · by_cases h_1_8 : op ≤ 4
          · by_cases h_1_4 : op ≤ 2
            · by_cases h_1_2 : op ≤ 1
              · obtain rfl : op = 1 := by omega
                exact (rt_1 w).mono fun e w' ⟨he, hf⟩ => ⟨_, _, _, _, he, hf⟩
              · obtain rfl : op = 2 := by omega
                exact (rt_2 w).mono fun e w' ⟨he, hf⟩ => ⟨_, _, _, _, he, hf⟩
            · by_cases h_3_4 : op ≤ 3
              · obtain rfl : op = 3 := by omega
                exact (rt_3 w).mono fun e w' ⟨he, hf⟩ => ⟨_, _, _, _, he, hf⟩
              · obtain rfl : op = 4 := by omega
                exact (rt_4 w).mono fun e w' ⟨he, hf⟩ => ⟨_, _, _, _, he, hf⟩
          · by_cases h_5_8 : op ≤ 6
            · by_cases h_5_6 : op ≤ 5
              · obtain rfl : op = 5 := by omega
                exact (rt_5 w).mono fun e w' ⟨he, hf⟩ => ⟨_, _, _, _, he, hf⟩
              · obtain rfl : op = 6 := by omega
                exact (rt_6 w).mono fun e w' ⟨he, hf⟩ => ⟨_, _, _, _, he, hf⟩
            · by_cases h_7_8 : op ≤ 7
              · obtain rfl : op = 7 := by omega
                exact (rt_7 w).mono fun e w' ⟨he, hf⟩ => ⟨_, _, _, _, he, hf⟩
              · obtain rfl : op = 8 := by omega
                exact (rt_8 w).mono fun e w' ⟨he, hf⟩ => ⟨_, _, _, _, he, hf⟩
        · by_cases h_9_15 : op ≤ 12
          · by_cases h_9_12 : op ≤ 10
            · by_cases h_9_10 : op ≤ 9
              · obtain rfl : op = 9 := by omega
                exact (rt_9 w).mono fun e w' ⟨he, hf⟩ => ⟨_, _, _, _, he, hf⟩
              · obtain rfl : op = 10 := by omega
                exact (rt_10 w).mono fun e w' ⟨he, hf⟩ => ⟨_, _, _, _, he, hf⟩
            · by_cases h_11_12 : op ≤ 11
              · obtain rfl : op = 11 := by omega
                exact (rt_11 w).mono fun e w' ⟨he, hf⟩ => ⟨_, _, _, _, he, hf⟩
              · obtain rfl : op = 12 := by omega
                exact (rt_12 w).mono fun e w' ⟨he, hf⟩ => ⟨_, _, _, _, he, hf⟩
          · by_cases h_13_15 : op ≤ 14
            · by_cases h_13_14 : op ≤ 13
              · obtain rfl : op = 13 := by omega
                exact (rt_13 w).mono fun e w' ⟨he, hf⟩ => ⟨_, _, _, _, he, hf⟩
              · obtain rfl : op = 14 := by omega
                exact (rt_14 w).mono fun e w' ⟨he, hf⟩ => ⟨_, _, _, _, he, hf⟩
            · obtain rfl : op = 15 := by omega
              exact (rt_15 w).mono fun e w' ⟨he, hf⟩ => ⟨_, _, _, _, he, hf⟩
      · by_cases h_16_29 : op ≤ 22
        · by_cases h_16_22 : op ≤ 19
          · by_cases h_16_19 : op ≤ 17
            · by_cases h_16_17 : op ≤ 16
              · obtain rfl : op = 16 := by omega
                exact (rt_16 w).mono fun e w' ⟨he, hf⟩ => ⟨_, _, _, _, he, hf⟩
              · obtain rfl : op = 17 := by omega
                exact (rt_17 w).mono fun e w' ⟨he, hf⟩ => ⟨_, _, _, _, he, hf⟩
            · by_cases h_18_19 : op ≤ 18
              · obtain rfl : op = 18 := by omega
                exact (rt_18 w).mono fun e w' ⟨he, hf⟩ => ⟨_, _, _, _, he, hf⟩
              · obtain rfl : op = 19 := by omega
                exact (rt_19 w).mono fun e w' ⟨he, hf⟩ => ⟨_, _, _, _, he, hf⟩
          · by_cases h_20_22 : op ≤ 21
            · by_cases h_20_21 : op ≤ 20
              · obtain rfl : op = 20 := by omega
                exact (rt_20 w).mono fun e w' ⟨he, hf⟩ => ⟨_, _, _, _, he, hf⟩
              · obtain rfl : op = 21 := by omega
                exact (rt_21 w).mono fun e w' ⟨he, hf⟩ => ⟨_, _, _, _, he, hf⟩
            · obtain rfl : op = 22 := by omega
              exact (rt_22 w).mono fun e w' ⟨he, hf⟩ => ⟨_, _, _, _, he, hf⟩
        · by_cases h_23_29 : op ≤ 26
          · by_cases h_23_26 : op ≤ 24
            · by_cases h_23_24 : op ≤ 23
              · obtain rfl : op = 23 := by omega
                exact (rt_23 w).mono fun e w' ⟨he, hf⟩ => ⟨_, _, _, _, he, hf⟩
              · obtain rfl : op = 24 := by omega
                exact (rt_24 w).mono fun e w' ⟨he, hf⟩ => ⟨_, _, _, _, he, hf⟩
            · by_cases h_25_26 : op ≤ 25
              · obtain rfl : op = 25 := by omega
                exact (rt_25 w).mono fun e w' ⟨he, hf⟩ => ⟨_, _, _, _, he, hf⟩
              · obtain rfl : op = 26 := by omega
                exact (rt_26 w).mono fun e w' ⟨he, hf⟩ => ⟨_, _, _, _, he, hf⟩
          · by_cases h_27_29 : op ≤ 28
            · by_cases h_27_28 : op ≤ 27
              · obtain rfl : op = 27 := by omega
                exact (rt_27 w).mono fun e w' ⟨he, hf⟩ => ⟨_, _, _, _, he, hf⟩
              · obtain rfl : op = 28 := by omega
                exact (rt_28 w).mono fun e w' ⟨he, hf⟩ => ⟨_, _, _, _, he, hf⟩
            · obtain rfl : op = 29 := by omega
              exact (rt_29 w).mono fun e w' ⟨he, hf⟩ => ⟨_, _, _, _, he, hf⟩
    · by_cases h_30_58 : op ≤ 44
      · by_cases h_30_44 : op ≤ 37
        · by_cases h_30_37 : op ≤ 33
          · by_cases h_30_33 : op ≤ 31
            · by_cases h_30_31 : op ≤ 30
              · obtain rfl : op = 30 := by omega
                exact (rt_late 30 (by decide) _ _ _ _ _ _ rl_30 w).mono fun e w' ⟨he, hf⟩ => ⟨_, _, _, _, he, hf⟩
              · obtain rfl : op = 31 := by omega
                exact (rt_late 31 (by decide) _ _ _ _ _ _ rl_31 w).mono fun e w' ⟨he, hf⟩ => ⟨_, _, _, _, he, hf⟩
            · by_cases h_32_33 : op ≤ 32
              · obtain rfl : op = 32 := by omega
                exact (rt_late 32 (by decide) _ _ _ _ _ _ rl_32 w).mono fun e w' ⟨he, hf⟩ => ⟨_, _, _, _, he, hf⟩
              · obtain rfl : op = 33 := by omega
                exact (rt_late 33 (by decide) _ _ _ _ _ _ rl_33 w).mono fun e w' ⟨he, hf⟩ => ⟨_, _, _, _, he, hf⟩
          · by_cases h_34_37 : op ≤ 35
            · by_cases h_34_35 : op ≤ 34
              · obtain rfl : op = 34 := by omega
                exact (rt_late 34 (by decide) _ _ _ _ _ _ rl_34 w).mono fun e w' ⟨he, hf⟩ => ⟨_, _, _, _, he, hf⟩
              · obtain rfl : op = 35 := by omega
                exact (rt_late 35 (by decide) _ _ _ _ _ _ rl_35 w).mono fun e w' ⟨he, hf⟩ => ⟨_, _, _, _, he, hf⟩
            · by_cases h_36_37 : op ≤ 36
              · obtain rfl : op = 36 := by omega
                exact (rt_late 36 (by decide) _ _ _ _ _ _ rl_36 w).mono fun e w' ⟨he, hf⟩ => ⟨_, _, _, _, he, hf⟩
              · obtain rfl : op = 37 := by omega
                exact (rt_late 37 (by decide) _ _ _ _ _ _ rl_37 w).mono fun e w' ⟨he, hf⟩ => ⟨_, _, _, _, he, hf⟩
        · by_cases h_38_44 : op ≤ 41
          · by_cases h_38_41 : op ≤ 39
            · by_cases h_38_39 : op ≤ 38
              · obtain rfl : op = 38 := by omega
                exact (rt_late 38 (by decide) _ _ _ _ _ _ rl_38 w).mono fun e w' ⟨he, hf⟩ => ⟨_, _, _, _, he, hf⟩
              · obtain rfl : op = 39 := by omega
                exact (rt_late 39 (by decide) _ _ _ _ _ _ rl_39 w).mono fun e w' ⟨he, hf⟩ => ⟨_, _, _, _, he, hf⟩
            · by_cases h_40_41 : op ≤ 40
              · obtain rfl : op = 40 := by omega
                exact (rt_late 40 (by decide) _ _ _ _ _ _ rl_40 w).mono fun e w' ⟨he, hf⟩ => ⟨_, _, _, _, he, hf⟩
              · obtain rfl : op = 41 := by omega
                exact (rt_late 41 (by decide) _ _ _ _ _ _ rl_41 w).mono fun e w' ⟨he, hf⟩ => ⟨_, _, _, _, he, hf⟩
          · by_cases h_42_44 : op ≤ 43
            · by_cases h_42_43 : op ≤ 42
              · obtain rfl : op = 42 := by omega
                exact (rt_late 42 (by decide) _ _ _ _ _ _ rl_42 w).mono fun e w' ⟨he, hf⟩ => ⟨_, _, _, _, he, hf⟩
              · obtain rfl : op = 43 := by omega
                exact (rt_late 43 (by decide) _ _ _ _ _ _ rl_43 w).mono fun e w' ⟨he, hf⟩ => ⟨_, _, _, _, he, hf⟩
            · obtain rfl : op = 44 := by omega
              exact (rt_late 44 (by decide) _ _ _ _ _ _ rl_44 w).mono fun e w' ⟨he, hf⟩ => ⟨_, _, _, _, he, hf⟩
      · by_cases h_45_58 : op ≤ 51
        · by_cases h_45_51 : op ≤ 48
          · by_cases h_45_48 : op ≤ 46
            · by_cases h_45_46 : op ≤ 45
              · obtain rfl : op = 45 := by omega
                exact (rt_late 45 (by decide) _ _ _ _ _ _ rl_45 w).mono fun e w' ⟨he, hf⟩ => ⟨_, _, _, _, he, hf⟩
              · obtain rfl : op = 46 := by omega
                exact (rt_late 46 (by decide) _ _ _ _ _ _ rl_46 w).mono fun e w' ⟨he, hf⟩ => ⟨_, _, _, _, he, hf⟩
            · by_cases h_47_48 : op ≤ 47
              · obtain rfl : op = 47 := by omega
                exact (rt_late 47 (by decide) _ _ _ _ _ _ rl_47 w).mono fun e w' ⟨he, hf⟩ => ⟨_, _, _, _, he, hf⟩
              · obtain rfl : op = 48 := by omega
                exact (rt_late 48 (by decide) _ _ _ _ _ _ rl_48 w).mono fun e w' ⟨he, hf⟩ => ⟨_, _, _, _, he, hf⟩
          · by_cases h_49_51 : op ≤ 50
            · by_cases h_49_50 : op ≤ 49
              · obtain rfl : op = 49 := by omega
                exact (rt_late 49 (by decide) _ _ _ _ _ _ rl_49 w).mono fun e w' ⟨he, hf⟩ => ⟨_, _, _, _, he, hf⟩
              · obtain rfl : op = 50 := by omega
                exact (rt_late 50 (by decide) _ _ _ _ _ _ rl_50 w).mono fun e w' ⟨he, hf⟩ => ⟨_, _, _, _, he, hf⟩
            · obtain rfl : op = 51 := by omega
              exact (rt_late 51 (by decide) _ _ _ _ _ _ rl_51 w).mono fun e w' ⟨he, hf⟩ => ⟨_, _, _, _, he, hf⟩
        · by_cases h_52_58 : op ≤ 55
          · by_cases h_52_55 : op ≤ 53
            · by_cases h_52_53 : op ≤ 52
              · obtain rfl : op = 52 := by omega
                exact (rt_late 52 (by decide) _ _ _ _ _ _ rl_52 w).mono fun e w' ⟨he, hf⟩ => ⟨_, _, _, _, he, hf⟩
              · obtain rfl : op = 53 := by omega
                exact (rt_late 53 (by decide) _ _ _ _ _ _ rl_53 w).mono fun e w' ⟨he, hf⟩ => ⟨_, _, _, _, he, hf⟩
            · by_cases h_54_55 : op ≤ 54
              · obtain rfl : op = 54 := by omega
                exact (rt_late 54 (by decide) _ _ _ _ _ _ rl_54 w).mono fun e w' ⟨he, hf⟩ => ⟨_, _, _, _, he, hf⟩
              · obtain rfl : op = 55 := by omega
                exact (rt_late 55 (by decide) _ _ _ _ _ _ rl_55 w).mono fun e w' ⟨he, hf⟩ => ⟨_, _, _, _, he, hf⟩
          · by_cases h_56_58 : op ≤ 57
            · by_cases h_56_57 : op ≤ 56
              · obtain rfl : op = 56 := by omega
                exact (rt_late 56 (by decide) _ _ _ _ _ _ rl_56 w).mono fun e w' ⟨he, hf⟩ => ⟨_, _, _, _, he, hf⟩
              · obtain rfl : op = 57 := by omega
                exact (rt_late 57 (by decide) _ _ _ _ _ _ rl_57 w).mono fun e w' ⟨he, hf⟩ => ⟨_, _, _, _, he, hf⟩
            · obtain rfl : op = 58 := by omega
              exact (rt_late 58 (by decide) _ _ _ _ _ _ rl_58 w).mono fun e w' ⟨he, hf⟩ => ⟨_, _, _, _, he, hf⟩
end Go.Proofs.YtocepiogpeafoaaGreatDoor
