/- slices.Clone over int64s and over waiters. -/
import Derived.Test.YteffmnohgnmanaaChs
import Derived.Test.YteffmnohgnmanaaProg
import Derived.WalkSpells
import Derived.Maps.AppendAt
namespace Go.Proofs.Yteffmnohgnmanaa
open Go.RowKit
/-- Blocks that are new since w. -/
def New (w : World) : Nat → Prop := fun k => w.heap.size ≤ k
theorem info2' : (Try.prog.info? 2).map (fun i => (i.zero, i.size, i.bytes)) = some (some (.int .i64 0), 1, 8) := by kernel_rfl
theorem info114 : (Try.prog.info? 114).map (fun i => (i.zero, i.size, i.bytes)) = some (some (.agg #[.int .i64 0, .int .i64 0, .int .i64 0, .int .i64 0]), 4, 32) := by kernel_rfl
theorem wts_oneCell (l : List Wt) : ∀ u ∈ wts l, u.oneCell' = true := by
  intro u hu
  obtain ⟨x, _, hx⟩ := List.mem_flatMap.1 hu
  simp only [Wt.cells, List.mem_cons, List.not_mem_nil, or_false] at hx
  rcases hx with rfl | rfl | rfl | rfl <;> rfl
/-- A call that makes a row. -/
def Made (e sz : Nat) (xs : List Value) (w : World) (en : Ending) (w' : World) : Prop := ∃ v, en = .returned v ∧ RowF w' (New w) e sz v xs ∧ Fr E0 w w'
theorem rowF_empty (w : World) (e : Nat) (sz : Nat) : RowF (w.alloc (.cells #[] e)) (New w) e sz (.slice (some ⟨w.heap.size, 0, none⟩) 0 0) [] :=
  ⟨⟨0, World.ownsRow_made w #[] 0 (Nat.zero_le _) (Nat.zero_le _) (by simp)⟩, fun g hg => by simp [Value.ownBlock] at hg; subst hg; exact Nat.le_refl _⟩
theorem RowF.appended {w w1 : World} {F : Nat → Prop} {e sz n : Nat} {v v' : Value} {xs : List Value} (hown : w1.ownsRow 0 e sz v' n xs) (hat : v'.ownBlock = v.ownBlock ∨ v'.ownBlock = some w.heap.size)
    (h1 : ∀ g, v.ownBlock = some g → F g) (h2 : F w.heap.size) : RowF w1 F e sz v' xs := by
  refine ⟨⟨n, hown⟩, fun g hg => ?_⟩
  rcases hat with h | h
  · exact h1 g (h ▸ hg)
  · rw [h] at hg; injection hg with hg; exact hg ▸ h2
set_option maxHeartbeats 400000 in
theorem cloneI (l : List Int) (v : Value) (w : World) (hv : RdV w v 1 (ints l)) (hsz : l.length * 8 ≤ 140737488355328) : Calls Try.prog 85 #[v] w (Made 2 1 (ints l) w) := by
  obtain ⟨A, n, c, rfl, hl, hnc, hcm, hr⟩ := hv
  have hl' : l.length = n := by rw [ints_len] at hl; omega
  obtain ⟨i0, hi0, hz0, hz1, hz2⟩ := info_parts info2'
  rcases A with _ | ad
  · have h0 : ints l = [] := by
      rcases hr with h | ⟨b, o, h, _⟩
      · exact h
      · cases h
    have HH := hid (show RowF w (New w) 2 1 (.slice none 0 0) (ints l) by rw [h0]; exact RowF.nil)
    clear hr hl hl' hi0 hz0 hz1 hz2 h0
    have hq := Lib.run_eql_slice_nil (P := Try.prog) w 22 2 none n c 0 0 Try.underlying22
    go_enter Try.func85, Try.ntmps85
    go_wp2
    go_ret
    exact ⟨_, rfl, HH.out, Fr.refl⟩
  · have hq := Lib.run_eql_slice_nil (P := Try.prog) w 22 2 (some ad) n c 0 0 Try.underlying22
    have hrow := rowF_empty w 2 1
    have hbl : New w w.heap.size := Nat.le_refl _
    by_cases hn : n = 0
    · subst hn
      have h0 : ints l = [] := List.eq_nil_of_length_eq_zero (by simpa using hl)
      rw [h0]
      have HH := hid hrow
      clear hr hl hl' hi0 hz0 hz1 hz2 h0 hrow
      go_enter Try.func85, Try.ntmps85
      go_wp2
      go_ret
      exact ⟨_, rfl, HH.out, Fr.refl.alloc _⟩
    · obtain ⟨b, o, he, hrd⟩ := hr.at (fun e => by rw [e] at hl; simp at hl; omega)
      cases he
      have hsrc : Hid (∀ j u, (ints l)[j]? = some u → (w.alloc (.cells #[] 2)).cell? ((⟨b, o, none⟩ : Addr).add j) = some u) := fun j u hu => by
        rw [Addr.add_lit]
        exact Fr.cell (Fr.refl (S := E0) |>.alloc (.cells #[] 2)) (hrd j u hu) (fun x => x)
      have h1 := hid (ints_oneCell .i64 l)
      have hL := hid hl
      have HH := hid hrow
      clear hr hl hrd hrow
      go_enter Try.func85, Try.ntmps85
      go_wp2_with (at_builtin; refine wpList_append_own_at _ rfl (.tmp 5) (.tmp 6) 22 rfl 0 2 i0 (.int .i64 0) 1 8 Try.underlying22 hi0 hz0 hz1 hz2 rfl (by decide) (.slice (some ⟨w.heap.size, 0, none⟩) 0 0) 0 [] rfl (HH.out.own (by decide) rfl) ⟨b, o, none⟩ n c (ints l) rfl hL.out hsrc.out h1.out (by unfold maxLen; omega) (by omega) (Nat.zero_le _) ?_; intro v' w1 hown hgrow hnil hat)
      have HR := hid (RowF.appended (F := New w) hown hat (fun g hg => by simp [Value.ownBlock] at hg; subst hg; exact Nat.le_refl _) (by simp [New]))
      have HF := hid ((Fr.refl (S := E0) |>.alloc (.cells #[] 2)).grown hgrow (fun k hk => by simp [Value.ownBlock] at hk; subst hk; exact .inr (Nat.le_refl _)))
      rw [List.nil_append] at HR
      clear hown hgrow hnil hat
      go_ret
      exact ⟨_, rfl, HR.out, HF.out⟩
set_option maxHeartbeats 400000 in
theorem cloneW (l : List Wt) (v : Value) (w : World) (hv : RdV w v 4 (wts l)) (hsz : l.length * 32 ≤ 140737488355328) : Calls Try.prog 86 #[v] w (Made 114 4 (wts l) w) := by
  obtain ⟨A, n, c, rfl, hl, hnc, hcm, hr⟩ := hv
  have hl' : l.length = n := by rw [wts_len] at hl; omega
  obtain ⟨i0, hi0, hz0, hz1, hz2⟩ := info_parts info114
  rcases A with _ | ad
  · have h0 : wts l = [] := by
      rcases hr with h | ⟨b, o, h, _⟩
      · exact h
      · cases h
    have HH := hid (show RowF w (New w) 114 4 (.slice none 0 0) (wts l) by rw [h0]; exact RowF.nil)
    clear hr hl hl' hi0 hz0 hz1 hz2 h0
    have hq := Lib.run_eql_slice_nil (P := Try.prog) w 65 114 none n c 0 0 Try.underlying65
    go_enter Try.func86, Try.ntmps86
    go_wp2
    go_ret
    exact ⟨_, rfl, HH.out, Fr.refl⟩
  · have hq := Lib.run_eql_slice_nil (P := Try.prog) w 65 114 (some ad) n c 0 0 Try.underlying65
    have hrow := rowF_empty w 114 4
    have hbl : New w w.heap.size := Nat.le_refl _
    by_cases hn : n = 0
    · subst hn
      have h0 : wts l = [] := List.eq_nil_of_length_eq_zero (by simpa using hl)
      rw [h0]
      have HH := hid hrow
      clear hr hl hl' hi0 hz0 hz1 hz2 h0 hrow
      go_enter Try.func86, Try.ntmps86
      go_wp2
      go_ret
      exact ⟨_, rfl, HH.out, Fr.refl.alloc _⟩
    · obtain ⟨b, o, he, hrd⟩ := hr.at (fun e => by rw [e] at hl; simp at hl; omega)
      cases he
      have hsrc : Hid (∀ j u, (wts l)[j]? = some u → (w.alloc (.cells #[] 114)).cell? ((⟨b, o, none⟩ : Addr).add j) = some u) := fun j u hu => by
        rw [Addr.add_lit]
        exact Fr.cell (Fr.refl (S := E0) |>.alloc (.cells #[] 114)) (hrd j u hu) (fun x => x)
      have h1 := hid (wts_oneCell l)
      have hL := hid hl
      have HH := hid hrow
      clear hr hl hrd hrow
      go_enter Try.func86, Try.ntmps86
      go_wp2_with (at_builtin; refine wpList_append_own_at _ rfl (.tmp 5) (.tmp 6) 65 rfl 0 114 i0 (.agg #[.int .i64 0, .int .i64 0, .int .i64 0, .int .i64 0]) 4 32 Try.underlying65 hi0 hz0 hz1 hz2 rfl (by decide) (.slice (some ⟨w.heap.size, 0, none⟩) 0 0) 0 [] rfl (HH.out.own (by decide) rfl) ⟨b, o, none⟩ n c (wts l) rfl hL.out hsrc.out h1.out (by unfold maxLen; omega) (by omega) (Nat.zero_le _) ?_; intro v' w1 hown hgrow hnil hat)
      have HR := hid (RowF.appended (F := New w) hown hat (fun g hg => by simp [Value.ownBlock] at hg; subst hg; exact Nat.le_refl _) (by simp [New]))
      have HF := hid ((Fr.refl (S := E0) |>.alloc (.cells #[] 114)).grown hgrow (fun k hk => by simp [Value.ownBlock] at hk; subst hk; exact .inr (Nat.le_refl _)))
      rw [List.nil_append] at HR
      clear hown hgrow hnil hat
      go_ret
      exact ⟨_, rfl, HR.out, HF.out⟩
end Go.Proofs.Yteffmnohgnmanaa
