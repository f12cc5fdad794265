/- slices.Delete(s, 0, 1) over int64s, on a row that is owned. -/
import Derived.Test.YteffmnohgnmanaaMem
import Derived.Test.YteffmnohgnmanaaProg
import Derived.Deep.RegionLaw
import Derived.Deep.LoopGhost
namespace Go.Proofs.Yteffmnohgnmanaa
open Go.RowKit
def over : List Value → Nat → List Value → List Value
  | xs, _, [] => xs
  | xs, o, y :: ys => over (xs.set o y) (o + 1) ys
theorem over_len : ∀ (ys xs : List Value) (o : Nat), (over xs o ys).length = xs.length
  | [], xs, o => rfl
  | y :: ys, xs, o => by rw [over, over_len ys]; simp
theorem over_take : ∀ (ys xs : List Value) (o : Nat), o + ys.length ≤ xs.length → (over xs o ys).take (o + ys.length) = xs.take o ++ ys
  | [], xs, o, _ => by simp [over]
  | y :: ys, xs, o, h => by
    simp only [List.length_cons] at h
    have := over_take ys (xs.set o y) (o + 1) (by simp; omega)
    rw [over, List.length_cons, show o + (ys.length + 1) = o + 1 + ys.length from by omega, this]
    rw [List.take_add_one, List.getElem?_set_self (by omega), List.take_set_of_le (Nat.le_refl _)]
    simp
theorem RowF.setCells {F : Nat → Prop} {e sz g n c : Nat} : ∀ (ys xs : List Value) (o : Nat) (w : World), RowF w F e sz (.slice (some ⟨g, 0, none⟩) n c) xs → o + ys.length ≤ xs.length → RowF (w.setCells g o ys) F e sz (.slice (some ⟨g, 0, none⟩) n c) (over xs o ys)
  | [], xs, o, w, h, _ => h
  | y :: ys, xs, o, w, h, hl => by
    simp only [List.length_cons] at hl
    exact RowF.setCells ys (xs.set o y) (o + 1) _ (h.stored (by omega)) (by simp; omega)
theorem zero2 (w : World) : (zeroValue 2).run Try.prog w = .ok (.int .i64 0) w := by kernel_rfl
theorem info2 : (Try.prog.info? 2).map (fun i => (i.zero, i.size, i.bytes)) = some (some (.int .i64 0), 1, 8) := by kernel_rfl
theorem ints_get (l : List Int) (j : Nat) : (ints l)[j]? = (l[j]?).map (Value.int .i64) := by simp [ints]
def Del01 (g c : Nat) (l : List Int) (w : World) (F : Nat → Prop) (e : Ending) (w' : World) : Prop :=
  e = .returned (.slice (some ⟨g, 0, none⟩) l.length c) ∧ RowF w' F 2 1 (.slice (some ⟨g, 0, none⟩) l.length c) (ints l) ∧ Fr (fun k => k = g) w w'
set_option maxHeartbeats 800000 in
theorem delete01 (g c n : Nat) (x : Int) (l : List Int) (w : World) (F : Nat → Prop) (hn : n = l.length + 1) (hrow : RowF w F 2 1 (.slice (some ⟨g, 0, none⟩) n c) (ints (x :: l))) :
    Calls Try.prog 56 #[.slice (some ⟨g, 0, none⟩) n c, .int .i64 0, .int .i64 1] w (Del01 g c l w F) := by
  subst hn
  obtain ⟨i0, hi0, hz0, hz1, hz2⟩ := info_parts info2
  have hlen : (ints (x :: l)).length = (l.length + 1) * 1 := ints_len _
  rcases hrow.form (by decide) hlen with ⟨hh, _⟩ | ⟨g', c', hv, hFg, hg, hnc, hcm, hr, hfz⟩
  · cases hh
  injection hv with e1 e2 e3
  injection e1 with e1; injection e1 with e1; subst e1 e3
  clear e2
  have hcm' : c ≤ 2 ^ 63 - 1 := hcm
  obtain ⟨A, hA, hsrc⟩ : ∃ A : Addr, (if c = 1 then some (⟨g, 0, none⟩ : Addr) else some ⟨g, 1, none⟩) = some A ∧ Hid (∀ t u, (ints l)[t]? = some u → w.drew.cell? (A.add t) = some u) := by
    by_cases h : c = 1
    · refine ⟨⟨g, 0, none⟩, by simp [h], fun t u hu => ?_⟩
      have h0 : l = [] := List.eq_nil_of_length_eq_zero (by omega)
      subst h0; simp [ints] at hu
    · refine ⟨⟨g, 1, none⟩, by simp [h], fun t u hu => ?_⟩
      have := hr (t + 1) u (by simpa [ints] using hu)
      rw [Addr.add_lit, show 1 + t = 0 + (t + 1) from by omega]; exact this
  have s1 : Hid ((ints l).length = l.length * 1) := ints_len l
  have s2 : Hid (∀ u ∈ ints l, u.oneCell' = true) := ints_oneCell _ _
  have s3 : Hid (∀ t, t < (ints l).length → (w.drew.cell? ⟨g, 0 + 0 * 1 + t, none⟩).isSome = true ∧ w.drew.frozen? ⟨g, 0 + 0 * 1 + t, none⟩ = false) := by
    intro t ht
    rw [show 0 + 0 * 1 + t = t from by omega]
    have ht' : t < (ints (x :: l)).length := by rw [s1.out] at ht; rw [hlen]; omega
    exact ⟨hrow.isCell ht', hfz t⟩
  obtain ⟨W1, hW1⟩ : ∃ W1, W1 = w.drew.setCells g (0 + 0 * 1) (ints l) := ⟨_, rfl⟩
  have hR1 : RowF W1 F 2 1 (.slice (some ⟨g, 0, none⟩) (l.length + 1) c) (over (ints (x :: l)) 0 (ints l)) := by
    rw [hW1, show 0 + 0 * 1 = 0 from rfl]; exact RowF.setCells _ _ 0 w.drew hrow (by rw [hlen, s1.out]; omega)
  have hF1 : Fr (fun k => k = g) w W1 := by rw [hW1]; exact Fr.setCells (S := fun k => k = g) (Fr.refl.drew) (b := g) (.inl rfl) _ _
  obtain ⟨zs, hcl⟩ := run_clear_row (P := Try.prog) (t := 22) (sz := 1) (z := .int .i64 0) (i := l.length) Try.underlying22 zero2 rfl (by simp [Value.cells, Value.oneCell']) (by decide) hR1 (by rw [over_len, hlen]) (by omega) 0 (c - l.length)
  have hcut := hR1.cut (i := l.length) (by omega) zs
  rw [Nat.mul_one] at hcl hcut
  have hov : (over (ints (x :: l)) 0 (ints l)).take l.length = ints l := by
    have := over_take (ints l) (ints (x :: l)) 0 (by rw [hlen, s1.out]; omega)
    rw [s1.out] at this; simpa using this
  rw [hov] at hcut
  have H2 := hid hcut
  have H3 := hid (Fr.setCells (S := fun k => k = g) hF1 (b := g) (.inl rfl) zs l.length)
  have hW := hid hW1
  have e1 : l.length + 1 - l.length = 1 := by omega
  rw [e1] at hcl
  clear hcut hov hF1 hR1 hr hfz hlen hrow hW1 e1
  have hX := hid hnc
  have hb1 : (1 : Int) ≤ (l.length : Int) + 1 := by omega
  go_enter Try.func56, Try.ntmps56
  go_wp2_with fail
  go_region_law (refine step_append_room rfl (.tmp 22) (.tmp 25) 22 rfl 2 i0 1 Try.underlying22 hi0 hz1 g 0 0 c (by simp [Act.eval, Act.put]) A l.length (c - 1) (ints l) (by simp [Act.eval, Act.put]) s1.out hsrc.out s2.out (by omega) s3.out ?_; rw [← hW.out])
  go_wp2_with fail
  go_ret
  exact ⟨rfl, H2.out, H3.out⟩
end Go.Proofs.Yteffmnohgnmanaa
