/- Words and contracts of calls that the law needs (Fits): merged by wip/gen/zmerge.py. No condition but those that each theorem names. -/
import Derived.Test.YtocepiogpeafoaaGreatDoorH05
set_option linter.unusedVariables false
/- word.fits: the walks. -/
namespace Go.Proofs.YtocepiogpeafoaaGreatDoor
open Go.RowKit
set_option linter.unusedVariables false
theorem reg_in (n : Int) (w : World) (h0 : 0 ≤ n) (h1 : n < 16) : Calls Tryz.prog 250 #[.int .i64 n] w fun e w' => e = .returned (.bool true) ∧ w = w' := by
  go_enter Tryz.func250, Tryz.ntmps250
  go_wp2
  go_ret
  exact ⟨rfl, rfl⟩
set_option maxHeartbeats 4000000 in
theorem fits0 (i : Ins) (w : World) : Calls Tryz.prog 156 #[i.val, .int .i64 0] w (Ret (.bool (fitsI i 0)) E0 w) := by
  obtain ⟨o, a, b, c, m⟩ := i
  simp only [fitsI, Ins.val, if_true]
  go_enter Tryz.func156, Tryz.ntmps156
  go_wp2
  all_goals (go_ret; exact ⟨by simp_all, by (repeat refine Fr.setCell ?_ _ (.inr (by simp))); exact (Fr.refl.alloc _).alloc _⟩)
set_option maxHeartbeats 4000000 in
theorem fits1 (i : Ins) (w : World) (ha : 0 ≤ i.a ∧ i.a < 16) : Calls Tryz.prog 156 #[i.val, .int .i64 1] w (Ret (.bool (fitsI i 1)) E0 w) := by
  obtain ⟨o, a, b, c, m⟩ := i
  obtain ⟨ha0, ha1⟩ := ha
  simp only at ha0 ha1
  simp only [Ins.val]
  by_cases h1 : b = 0
  · subst h1
    by_cases h2 : c = 0
    · subst h2
      by_cases h3 : m = 0
      · subst h3
        go_enter Tryz.func156, Tryz.ntmps156
        go_wp2_with (go_at_call 250; refine (reg_in _ _ (by omega) (by omega)).mono ?_; rintro e w1 ⟨rfl, rfl⟩)
        all_goals (go_ret; exact ⟨by simp_all [fitsI], by (repeat refine Fr.setCell ?_ _ (.inr (by simp))); exact (Fr.refl.alloc _).alloc _⟩)
      · have h3b : ((m == 0) : Bool) = false := by simp [h3]
        have h3c : ((m != 0) : Bool) = true := by simp [h3]
        go_enter Tryz.func156, Tryz.ntmps156
        go_wp2_with (go_at_call 250; refine (reg_in _ _ (by omega) (by omega)).mono ?_; rintro e w1 ⟨rfl, rfl⟩)
        all_goals (go_ret; exact ⟨by simp_all [fitsI], by (repeat refine Fr.setCell ?_ _ (.inr (by simp))); exact (Fr.refl.alloc _).alloc _⟩)
    · have h2b : ((c == 0) : Bool) = false := by simp [h2]
      have h2c : ((c != 0) : Bool) = true := by simp [h2]
      go_enter Tryz.func156, Tryz.ntmps156
      go_wp2_with (go_at_call 250; refine (reg_in _ _ (by omega) (by omega)).mono ?_; rintro e w1 ⟨rfl, rfl⟩)
      all_goals (go_ret; exact ⟨by simp_all [fitsI], by (repeat refine Fr.setCell ?_ _ (.inr (by simp))); exact (Fr.refl.alloc _).alloc _⟩)
  · have h1b : ((b == 0) : Bool) = false := by simp [h1]
    have h1c : ((b != 0) : Bool) = true := by simp [h1]
    go_enter Tryz.func156, Tryz.ntmps156
    go_wp2_with (go_at_call 250; refine (reg_in _ _ (by omega) (by omega)).mono ?_; rintro e w1 ⟨rfl, rfl⟩)
    all_goals (go_ret; exact ⟨by simp_all [fitsI], by (repeat refine Fr.setCell ?_ _ (.inr (by simp))); exact (Fr.refl.alloc _).alloc _⟩)
set_option maxHeartbeats 4000000 in
theorem fits2 (i : Ins) (w : World) (ha : 0 ≤ i.a ∧ i.a < 16) (hb : 0 ≤ i.b ∧ i.b < 16) : Calls Tryz.prog 156 #[i.val, .int .i64 2] w (Ret (.bool (fitsI i 2)) E0 w) := by
  obtain ⟨o, a, b, c, m⟩ := i
  obtain ⟨ha0, ha1⟩ := ha
  obtain ⟨hb0, hb1⟩ := hb
  simp only at ha0 ha1 hb0 hb1
  simp only [Ins.val]
  by_cases h1 : c = 0
  · subst h1
    by_cases h2 : m = 0
    · subst h2
      go_enter Tryz.func156, Tryz.ntmps156
      go_wp2_with (go_at_call 250; refine (reg_in _ _ (by omega) (by omega)).mono ?_; rintro e w1 ⟨rfl, rfl⟩)
      all_goals (go_ret; exact ⟨by simp_all [fitsI], by (repeat refine Fr.setCell ?_ _ (.inr (by simp))); exact (Fr.refl.alloc _).alloc _⟩)
    · have h2b : ((m == 0) : Bool) = false := by simp [h2]
      have h2c : ((m != 0) : Bool) = true := by simp [h2]
      go_enter Tryz.func156, Tryz.ntmps156
      go_wp2_with (go_at_call 250; refine (reg_in _ _ (by omega) (by omega)).mono ?_; rintro e w1 ⟨rfl, rfl⟩)
      all_goals (go_ret; exact ⟨by simp_all [fitsI], by (repeat refine Fr.setCell ?_ _ (.inr (by simp))); exact (Fr.refl.alloc _).alloc _⟩)
  · have h1b : ((c == 0) : Bool) = false := by simp [h1]
    have h1c : ((c != 0) : Bool) = true := by simp [h1]
    go_enter Tryz.func156, Tryz.ntmps156
    go_wp2_with (go_at_call 250; refine (reg_in _ _ (by omega) (by omega)).mono ?_; rintro e w1 ⟨rfl, rfl⟩)
    all_goals (go_ret; exact ⟨by simp_all [fitsI], by (repeat refine Fr.setCell ?_ _ (.inr (by simp))); exact (Fr.refl.alloc _).alloc _⟩)
set_option maxHeartbeats 4000000 in
theorem fits3 (i : Ins) (w : World) (ha : 0 ≤ i.a ∧ i.a < 16) (hb : 0 ≤ i.b ∧ i.b < 16) (hc : 0 ≤ i.c ∧ i.c < 16) : Calls Tryz.prog 156 #[i.val, .int .i64 3] w (Ret (.bool (fitsI i 3)) E0 w) := by
  obtain ⟨o, a, b, c, m⟩ := i
  obtain ⟨ha0, ha1⟩ := ha
  obtain ⟨hb0, hb1⟩ := hb
  obtain ⟨hc0, hc1⟩ := hc
  simp only at ha0 ha1 hb0 hb1 hc0 hc1
  simp only [Ins.val]
  by_cases h1 : m = 0
  · subst h1
    go_enter Tryz.func156, Tryz.ntmps156
    go_wp2_with (go_at_call 250; refine (reg_in _ _ (by omega) (by omega)).mono ?_; rintro e w1 ⟨rfl, rfl⟩)
    all_goals (go_ret; exact ⟨by simp_all [fitsI], by (repeat refine Fr.setCell ?_ _ (.inr (by simp))); exact (Fr.refl.alloc _).alloc _⟩)
  · have h1b : ((m == 0) : Bool) = false := by simp [h1]
    have h1c : ((m != 0) : Bool) = true := by simp [h1]
    go_enter Tryz.func156, Tryz.ntmps156
    go_wp2_with (go_at_call 250; refine (reg_in _ _ (by omega) (by omega)).mono ?_; rintro e w1 ⟨rfl, rfl⟩)
    all_goals (go_ret; exact ⟨by simp_all [fitsI], by (repeat refine Fr.setCell ?_ _ (.inr (by simp))); exact (Fr.refl.alloc _).alloc _⟩)
set_option maxHeartbeats 4000000 in
theorem fits4 (i : Ins) (w : World) (ha : 0 ≤ i.a ∧ i.a < 16) (hm : 0 ≤ i.imm ∧ i.imm < 65536) : Calls Tryz.prog 156 #[i.val, .int .i64 4] w (Ret (.bool (fitsI i 4)) E0 w) := by
  obtain ⟨o, a, b, c, m⟩ := i
  obtain ⟨ha0, ha1⟩ := ha
  obtain ⟨hm0, hm1⟩ := hm
  simp only at ha0 ha1 hm0 hm1
  simp only [Ins.val]
  by_cases h1 : a = 0
  · subst h1
    by_cases h2 : b = 0
    · subst h2
      by_cases h3 : c = 0
      · subst h3
        go_enter Tryz.func156, Tryz.ntmps156
        go_wp2_with (go_at_call 250; refine (reg_in _ _ (by omega) (by omega)).mono ?_; rintro e w1 ⟨rfl, rfl⟩)
        all_goals (go_ret; exact ⟨by simp_all [fitsI], by (repeat refine Fr.setCell ?_ _ (.inr (by simp))); exact (Fr.refl.alloc _).alloc _⟩)
      · have h3b : ((c == 0) : Bool) = false := by simp [h3]
        have h3c : ((c != 0) : Bool) = true := by simp [h3]
        go_enter Tryz.func156, Tryz.ntmps156
        go_wp2_with (go_at_call 250; refine (reg_in _ _ (by omega) (by omega)).mono ?_; rintro e w1 ⟨rfl, rfl⟩)
        all_goals (go_ret; exact ⟨by simp_all [fitsI], by (repeat refine Fr.setCell ?_ _ (.inr (by simp))); exact (Fr.refl.alloc _).alloc _⟩)
    · have h2b : ((b == 0) : Bool) = false := by simp [h2]
      have h2c : ((b != 0) : Bool) = true := by simp [h2]
      go_enter Tryz.func156, Tryz.ntmps156
      go_wp2_with (go_at_call 250; refine (reg_in _ _ (by omega) (by omega)).mono ?_; rintro e w1 ⟨rfl, rfl⟩)
      all_goals (go_ret; exact ⟨by simp_all [fitsI], by (repeat refine Fr.setCell ?_ _ (.inr (by simp))); exact (Fr.refl.alloc _).alloc _⟩)
  · have h1b : ((a == 0) : Bool) = false := by simp [h1]
    have h1c : ((a != 0) : Bool) = true := by simp [h1]
    go_enter Tryz.func156, Tryz.ntmps156
    go_wp2_with (go_at_call 250; refine (reg_in _ _ (by omega) (by omega)).mono ?_; rintro e w1 ⟨rfl, rfl⟩)
    all_goals (go_ret; exact ⟨by simp_all [fitsI], by (repeat refine Fr.setCell ?_ _ (.inr (by simp))); exact (Fr.refl.alloc _).alloc _⟩)
set_option maxHeartbeats 4000000 in
theorem fits5 (i : Ins) (w : World) (ha : 0 ≤ i.a ∧ i.a < 16) (hm : 0 ≤ i.imm ∧ i.imm < 65536) : Calls Tryz.prog 156 #[i.val, .int .i64 5] w (Ret (.bool (fitsI i 5)) E0 w) := by
  obtain ⟨o, a, b, c, m⟩ := i
  obtain ⟨ha0, ha1⟩ := ha
  obtain ⟨hm0, hm1⟩ := hm
  simp only at ha0 ha1 hm0 hm1
  simp only [Ins.val]
  by_cases h1 : b = 0
  · subst h1
    by_cases h2 : c = 0
    · subst h2
      go_enter Tryz.func156, Tryz.ntmps156
      go_wp2
      go_region
      all_goals
        go_wp2_with (go_at_call 250; refine (reg_in _ _ (by omega) (by omega)).mono ?_; rintro e w1 ⟨rfl, rfl⟩)
        (go_ret; exact ⟨by simp_all [fitsI], by repeat first | exact Fr.refl | refine Fr.alloc ?_ _ | refine Fr.setCell ?_ _ (.inr (by simp)) | refine Fr.drew ?_ | refine Fr.drewN ?_ _⟩)
    · have h2b : ((c == 0) : Bool) = false := by simp [h2]
      have h2c : ((c != 0) : Bool) = true := by simp [h2]
      go_enter Tryz.func156, Tryz.ntmps156
      go_wp2
      go_region
      all_goals
        go_wp2_with (go_at_call 250; refine (reg_in _ _ (by omega) (by omega)).mono ?_; rintro e w1 ⟨rfl, rfl⟩)
        (go_ret; exact ⟨by simp_all [fitsI], by repeat first | exact Fr.refl | refine Fr.alloc ?_ _ | refine Fr.setCell ?_ _ (.inr (by simp)) | refine Fr.drew ?_ | refine Fr.drewN ?_ _⟩)
  · have h1b : ((b == 0) : Bool) = false := by simp [h1]
    have h1c : ((b != 0) : Bool) = true := by simp [h1]
    go_enter Tryz.func156, Tryz.ntmps156
    go_wp2
    go_region
    all_goals
      go_wp2_with (go_at_call 250; refine (reg_in _ _ (by omega) (by omega)).mono ?_; rintro e w1 ⟨rfl, rfl⟩)
      (go_ret; exact ⟨by simp_all [fitsI], by repeat first | exact Fr.refl | refine Fr.alloc ?_ _ | refine Fr.setCell ?_ _ (.inr (by simp)) | refine Fr.drew ?_ | refine Fr.drewN ?_ _⟩)
set_option maxHeartbeats 4000000 in
theorem fits6 (i : Ins) (w : World) (ha : 0 ≤ i.a ∧ i.a < 16) (hm : -32768 ≤ i.imm ∧ i.imm < 32768) : Calls Tryz.prog 156 #[i.val, .int .i64 6] w (Ret (.bool (fitsI i 6)) E0 w) := by
  obtain ⟨o, a, b, c, m⟩ := i
  obtain ⟨ha0, ha1⟩ := ha
  obtain ⟨hm0, hm1⟩ := hm
  simp only at ha0 ha1 hm0 hm1
  simp only [Ins.val]
  by_cases h1 : b = 0
  · subst h1
    by_cases h2 : c = 0
    · subst h2
      go_enter Tryz.func156, Tryz.ntmps156
      go_wp2
      go_region
      all_goals
        go_wp2_with (go_at_call 250; refine (reg_in _ _ (by omega) (by omega)).mono ?_; rintro e w1 ⟨rfl, rfl⟩)
        (go_ret; exact ⟨by simp_all [fitsI], by repeat first | exact Fr.refl | refine Fr.alloc ?_ _ | refine Fr.setCell ?_ _ (.inr (by simp)) | refine Fr.drew ?_ | refine Fr.drewN ?_ _⟩)
    · have h2b : ((c == 0) : Bool) = false := by simp [h2]
      have h2c : ((c != 0) : Bool) = true := by simp [h2]
      go_enter Tryz.func156, Tryz.ntmps156
      go_wp2
      go_region
      all_goals
        go_wp2_with (go_at_call 250; refine (reg_in _ _ (by omega) (by omega)).mono ?_; rintro e w1 ⟨rfl, rfl⟩)
        (go_ret; exact ⟨by simp_all [fitsI], by repeat first | exact Fr.refl | refine Fr.alloc ?_ _ | refine Fr.setCell ?_ _ (.inr (by simp)) | refine Fr.drew ?_ | refine Fr.drewN ?_ _⟩)
  · have h1b : ((b == 0) : Bool) = false := by simp [h1]
    have h1c : ((b != 0) : Bool) = true := by simp [h1]
    go_enter Tryz.func156, Tryz.ntmps156
    go_wp2
    go_region
    all_goals
      go_wp2_with (go_at_call 250; refine (reg_in _ _ (by omega) (by omega)).mono ?_; rintro e w1 ⟨rfl, rfl⟩)
      (go_ret; exact ⟨by simp_all [fitsI], by repeat first | exact Fr.refl | refine Fr.alloc ?_ _ | refine Fr.setCell ?_ _ (.inr (by simp)) | refine Fr.drew ?_ | refine Fr.drewN ?_ _⟩)
end Go.Proofs.YtocepiogpeafoaaGreatDoor
