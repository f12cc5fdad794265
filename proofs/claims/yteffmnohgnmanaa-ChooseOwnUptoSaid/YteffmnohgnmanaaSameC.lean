/- rotalaw12.sameInts, sameDraws: are two rows the same? Printed by wip/gen/same.py. -/
import Derived.Test.YteffmnohgnmanaaS5ChooseSelects
namespace Go.Proofs.Yteffmnohgnmanaa
open Go.RowKit
theorem take_step {a b : List Int} {k : Nat} {x : Int} (h : a.take k = b.take k) (ha : a[k]? = some x) (hb : b[k]? = some x) : a.take (k + 1) = b.take (k + 1) := by
  rw [List.take_add_one, List.take_add_one, h, ha, hb]
theorem us_len (l : List Int) : (us l).length = l.length * 1 := by simp [us]
set_option maxHeartbeats 1000000 in
theorem same_ints (a b : List Int) (va vb : Value) (w : World) (ha : RdV w va 1 (ints a)) (hb : RdV w vb 1 (ints b)) : Calls Try.prog 36 #[va, vb] w (Ret (.bool (decide (a = b))) E0 w) := by
  obtain ⟨A, n, c, rfl, hl, hnc, hcm, hr⟩ := ha
  obtain ⟨B, m, d, rfl, hm, hmd, hdm, hs⟩ := hb
  obtain rfl : a.length = n := by simpa [ints] using hl
  obtain rfl : b.length = m := by simpa [ints] using hm
  have hmax : a.length ≤ 9223372036854775807 := by unfold maxLen at hcm; omega
  have HR := hid hr
  have HS := hid hs
  clear hr hs hl hm hnc hcm hmd hdm
  by_cases hne : a.length = b.length
  · have HE := hid hne
    clear hne
    have heq : ((a.length : Int) == (b.length : Int)) = true := by rw [HE.out]; simp
    have heq2 : ((a.length : Int) != (b.length : Int)) = false := by rw [HE.out]; simp
    go_enter Try.func36, Try.ntmps36
    go_wp2_with fail
    go_loopw [5] (fun i wr => ∃ k : Nat, i = .int .i64 k ∧ k ≤ a.length ∧ a.take k = b.take k ∧ Fr E0 w wr) (fun i _ => a.length - (intOf i).toNat)
    case atStart => exact ⟨0, rfl, Nat.zero_le _, rfl, Fr.refl⟩
    case round =>
      obtain ⟨k, rfl, hk, ht, hf⟩ := hrel
      have HT := hid ht
      have HF := hid hf
      clear ht hf
      by_cases hlt : k < a.length
      · have hlb : k < b.length := by have := HE.out; omega
        obtain ⟨x, hx⟩ : ∃ x, a[k]? = some x := ⟨_, List.getElem?_eq_getElem hlt⟩
        obtain ⟨y, hy⟩ : ∃ y, b[k]? = some y := ⟨_, List.getElem?_eq_getElem hlb⟩
        obtain ⟨b1, o1, rfl, r1⟩ := HR.out.at (fun e => by have := congrArg List.length e; simp [ints] at this; subst this; simp at hlt)
        obtain ⟨b2, o2, rfl, r2⟩ := HS.out.at (fun e => by have := congrArg List.length e; simp [ints] at this; subst this; simp at hlb)
        have y1 := r1.fr HF.out (fun x => x) k (.int .i64 x) (by simp [ints, hx])
        have y2 := r2.fr HF.out (fun x => x) k (.int .i64 y) (by simp [ints, hy])
        have HX := hid hx
        have HY := hid hy
        clear r1 r2 hx hy
        by_cases hxy : x = y
        · subst hxy
          have z1 : ((x == x) : Bool) = true := by simp
          go_wp2_with (go_quiet (fail))
          all_goals
            go_roundw
            case rel => exact ⟨k + 1, by simp, by omega, take_step HT.out HX.out HY.out, HF.out.drewN nq⟩
            case measure => simp [intOf]; omega
        · have z1 : ((x == y) : Bool) = false := by simpa using hxy
          have z2 : ((x != y) : Bool) = true := by simpa using hxy
          have HN := hid (show decide (a = b) = false by
            rw [decide_eq_false_iff_not]; intro e; have h1 := HX.out; rw [e, HY.out] at h1; injection h1 with h1; exact hxy h1.symm)
          clear hxy
          go_wp2_with (go_quiet (fail))
          all_goals
            go_ret
            exact ⟨by rw [HN.out]; rfl, HF.out.drewN nq⟩
      · obtain rfl : k = a.length := by omega
        have HN := hid (show decide (a = b) = true by
          have h1 := HT.out; rw [List.take_length, HE.out, List.take_length] at h1; simpa using h1)
        clear hlt hk
        go_wp2_with fail
        go_ret
        exact ⟨by rw [HN.out]; rfl, HF.out⟩
  · have HN := hid (show decide (a = b) = false by rw [decide_eq_false_iff_not]; intro e; exact hne (by rw [e]))
    have heq : ((a.length : Int) == (b.length : Int)) = false := by simpa using (by omega : ¬ (a.length : Int) = b.length)
    have heq2 : ((a.length : Int) != (b.length : Int)) = true := by simpa using (by omega : ¬ (a.length : Int) = b.length)
    clear hne
    go_enter Try.func36, Try.ntmps36
    go_wp2_with fail
    go_ret
    exact ⟨by rw [HN.out]; rfl, Fr.refl⟩
set_option maxHeartbeats 1000000 in
theorem same_draws (a b : List Int) (va vb : Value) (w : World) (ha : RdV w va 1 (us a)) (hb : RdV w vb 1 (us b)) : Calls Try.prog 38 #[va, vb] w (Ret (.bool (decide (a = b))) E0 w) := by
  obtain ⟨A, n, c, rfl, hl, hnc, hcm, hr⟩ := ha
  obtain ⟨B, m, d, rfl, hm, hmd, hdm, hs⟩ := hb
  obtain rfl : a.length = n := by simpa [us] using hl
  obtain rfl : b.length = m := by simpa [us] using hm
  have hmax : a.length ≤ 9223372036854775807 := by unfold maxLen at hcm; omega
  have HR := hid hr
  have HS := hid hs
  clear hr hs hl hm hnc hcm hmd hdm
  by_cases hne : a.length = b.length
  · have HE := hid hne
    clear hne
    have heq : ((a.length : Int) == (b.length : Int)) = true := by rw [HE.out]; simp
    have heq2 : ((a.length : Int) != (b.length : Int)) = false := by rw [HE.out]; simp
    go_enter Try.func38, Try.ntmps38
    go_wp2_with fail
    go_loopw [5] (fun i wr => ∃ k : Nat, i = .int .i64 k ∧ k ≤ a.length ∧ a.take k = b.take k ∧ Fr E0 w wr) (fun i _ => a.length - (intOf i).toNat)
    case atStart => exact ⟨0, rfl, Nat.zero_le _, rfl, Fr.refl⟩
    case round =>
      obtain ⟨k, rfl, hk, ht, hf⟩ := hrel
      have HT := hid ht
      have HF := hid hf
      clear ht hf
      by_cases hlt : k < a.length
      · have hlb : k < b.length := by have := HE.out; omega
        obtain ⟨x, hx⟩ : ∃ x, a[k]? = some x := ⟨_, List.getElem?_eq_getElem hlt⟩
        obtain ⟨y, hy⟩ : ∃ y, b[k]? = some y := ⟨_, List.getElem?_eq_getElem hlb⟩
        obtain ⟨b1, o1, rfl, r1⟩ := HR.out.at (fun e => by have := congrArg List.length e; simp [us] at this; subst this; simp at hlt)
        obtain ⟨b2, o2, rfl, r2⟩ := HS.out.at (fun e => by have := congrArg List.length e; simp [us] at this; subst this; simp at hlb)
        have y1 := r1.fr HF.out (fun x => x) k (.int .u64 x) (by simp [us, hx])
        have y2 := r2.fr HF.out (fun x => x) k (.int .u64 y) (by simp [us, hy])
        have HX := hid hx
        have HY := hid hy
        clear r1 r2 hx hy
        by_cases hxy : x = y
        · subst hxy
          have z1 : ((x == x) : Bool) = true := by simp
          go_wp2_with (go_quiet (fail))
          all_goals
            go_roundw
            case rel => exact ⟨k + 1, by simp, by omega, take_step HT.out HX.out HY.out, HF.out.drewN nq⟩
            case measure => simp [intOf]; omega
        · have z1 : ((x == y) : Bool) = false := by simpa using hxy
          have z2 : ((x != y) : Bool) = true := by simpa using hxy
          have HN := hid (show decide (a = b) = false by
            rw [decide_eq_false_iff_not]; intro e; have h1 := HX.out; rw [e, HY.out] at h1; injection h1 with h1; exact hxy h1.symm)
          clear hxy
          go_wp2_with (go_quiet (fail))
          all_goals
            go_ret
            exact ⟨by rw [HN.out]; rfl, HF.out.drewN nq⟩
      · obtain rfl : k = a.length := by omega
        have HN := hid (show decide (a = b) = true by
          have h1 := HT.out; rw [List.take_length, HE.out, List.take_length] at h1; simpa using h1)
        clear hlt hk
        go_wp2_with fail
        go_ret
        exact ⟨by rw [HN.out]; rfl, HF.out⟩
  · have HN := hid (show decide (a = b) = false by rw [decide_eq_false_iff_not]; intro e; exact hne (by rw [e]))
    have heq : ((a.length : Int) == (b.length : Int)) = false := by simpa using (by omega : ¬ (a.length : Int) = b.length)
    have heq2 : ((a.length : Int) != (b.length : Int)) = true := by simpa using (by omega : ¬ (a.length : Int) = b.length)
    clear hne
    go_enter Try.func38, Try.ntmps38
    go_wp2_with fail
    go_ret
    exact ⟨by rw [HN.out]; rfl, Fr.refl⟩
end Go.Proofs.Yteffmnohgnmanaa
