/- Words and contracts of calls that the law needs (Clone): merged by wip/gen/zmerge.py. No condition but those that each theorem names. -/
import Derived.Test.YtocepiogpeafoaaGreatDoorProg
import Derived.WalkSpells
import Derived.Maps.AppendAt
import Derived.ProofKit
import Derived.Test.YtocepiogpeafoaaGreatDoorH02
import Derived.Test.YtocepiogpeafoaaGreatDoorH04
set_option linter.unusedVariables false
/- slices.Clone at the types that local.New copies. Printed by wip/gen/zclone.py. -/
namespace Go.Proofs.YtocepiogpeafoaaGreatDoor
open Go.RowKit
set_option linter.unusedVariables false
theorem infoU : (Tryz.prog.info? 37).map (fun i => (i.zero, i.size, i.bytes)) = some (some (.int .u32 0), 1, 4) := by kernel_rfl
set_option maxHeartbeats 400000 in
theorem cloneU (xs : List Value) (v : Value) (w : World) (m : Nat) (hv : Rd w v 1 xs) (hm : xs.length = m * 1) (h1 : ∀ u ∈ xs, u.oneCell' = true) (hsz : m * 4 ≤ 140737488355328) : Calls Tryz.prog 142 #[v] w (Made 37 1 xs w) := by
  obtain ⟨A, c, rfl, hnc, hcm, hr⟩ := hv.len (by decide) hm
  obtain ⟨i0, hi0, hz0, hz1, hz2⟩ := info_parts infoU
  rcases A with _ | ad
  · have h0 : xs = [] := by
      rcases hr with h | ⟨b, o, h, _⟩
      · exact h
      · cases h
    have HH := hid (show RowF w (New w) 37 1 (.slice none 0 0) xs by rw [h0]; exact RowF.nil)
    clear hr hm hv h1 hi0 hz0 hz1 hz2 h0
    have hq := Lib.run_eql_slice_nil (P := Tryz.prog) w 25 37 none m c 0 0 Tryz.underlying25
    go_enter Tryz.func142, Tryz.ntmps142
    go_wp2
    go_ret
    exact ⟨_, rfl, HH.out, Fr.refl⟩
  · have hq := Lib.run_eql_slice_nil (P := Tryz.prog) w 25 37 (some ad) m c 0 0 Tryz.underlying25
    have hrow := rowF_empty w 37 1
    by_cases hn : m = 0
    · subst hn
      have h0 : xs = [] := List.eq_nil_of_length_eq_zero (by simpa using hm)
      rw [h0]
      have HH := hid hrow
      clear hr hm hv h1 hi0 hz0 hz1 hz2 h0 hrow
      go_enter Tryz.func142, Tryz.ntmps142
      go_wp2
      go_ret
      exact ⟨_, rfl, HH.out, Fr.refl.alloc _⟩
    · obtain ⟨b, o, he, hrd⟩ := hr.at (fun e => by rw [e] at hm; simp at hm; omega)
      cases he
      have hsrc : Hid (∀ j u, xs[j]? = some u → (w.alloc (.cells #[] 37)).cell? ((⟨b, o, none⟩ : Addr).add j) = some u) := fun j u hu => by
        rw [Addr.add_lit]
        exact Fr.cell (Fr.refl (S := E0) |>.alloc (.cells #[] 37)) (hrd j u hu) (fun x => x)
      have H1 := hid h1
      have hL := hid hm
      have HH := hid hrow
      clear hr hm hv hrd hrow h1
      go_enter Tryz.func142, Tryz.ntmps142
      go_wp2_with (at_builtin; refine wpList_append_own_at _ rfl (.tmp 5) (.tmp 6) 25 rfl 0 37 i0 (.int .u32 0) 1 4 Tryz.underlying25 hi0 hz0 hz1 hz2 rfl (by decide) (.slice (some ⟨w.heap.size, 0, none⟩) 0 0) 0 [] rfl (HH.out.own (by decide) rfl) ⟨b, o, none⟩ m c xs rfl hL.out hsrc.out H1.out (by unfold maxLen; omega) (by omega) (Nat.zero_le _) ?_; intro v' w1 hown hgrow hnil hat)
      have HR := hid (RowF.appended (F := New w) hown hat (fun g hg => by simp [Value.ownBlock] at hg; subst hg; exact Nat.le_refl _) (by simp [New]))
      have HF := hid ((Fr.refl (S := E0) |>.alloc (.cells #[] 37)).grown hgrow (fun k hk => by simp [Value.ownBlock] at hk; subst hk; exact .inr (Nat.le_refl _)))
      rw [List.nil_append] at HR
      clear hown hgrow hnil hat
      go_ret
      exact ⟨_, rfl, HR.out, HF.out⟩
theorem infoF : (Tryz.prog.info? 39).map (fun i => (i.zero, i.size, i.bytes)) = some (some (.agg #[.int .i64 0, .int .i64 0]), 2, 16) := by kernel_rfl
set_option maxHeartbeats 400000 in
theorem cloneF (xs : List Value) (v : Value) (w : World) (m : Nat) (hv : Rd w v 2 xs) (hm : xs.length = m * 2) (h1 : ∀ u ∈ xs, u.oneCell' = true) (hsz : m * 16 ≤ 140737488355328) : Calls Tryz.prog 143 #[v] w (Made 39 2 xs w) := by
  obtain ⟨A, c, rfl, hnc, hcm, hr⟩ := hv.len (by decide) hm
  obtain ⟨i0, hi0, hz0, hz1, hz2⟩ := info_parts infoF
  rcases A with _ | ad
  · have h0 : xs = [] := by
      rcases hr with h | ⟨b, o, h, _⟩
      · exact h
      · cases h
    have HH := hid (show RowF w (New w) 39 2 (.slice none 0 0) xs by rw [h0]; exact RowF.nil)
    clear hr hm hv h1 hi0 hz0 hz1 hz2 h0
    have hq := Lib.run_eql_slice_nil (P := Tryz.prog) w 26 39 none m c 0 0 Tryz.underlying26
    go_enter Tryz.func143, Tryz.ntmps143
    go_wp2
    go_ret
    exact ⟨_, rfl, HH.out, Fr.refl⟩
  · have hq := Lib.run_eql_slice_nil (P := Tryz.prog) w 26 39 (some ad) m c 0 0 Tryz.underlying26
    have hrow := rowF_empty w 39 2
    by_cases hn : m = 0
    · subst hn
      have h0 : xs = [] := List.eq_nil_of_length_eq_zero (by simpa using hm)
      rw [h0]
      have HH := hid hrow
      clear hr hm hv h1 hi0 hz0 hz1 hz2 h0 hrow
      go_enter Tryz.func143, Tryz.ntmps143
      go_wp2
      go_ret
      exact ⟨_, rfl, HH.out, Fr.refl.alloc _⟩
    · obtain ⟨b, o, he, hrd⟩ := hr.at (fun e => by rw [e] at hm; simp at hm; omega)
      cases he
      have hsrc : Hid (∀ j u, xs[j]? = some u → (w.alloc (.cells #[] 39)).cell? ((⟨b, o, none⟩ : Addr).add j) = some u) := fun j u hu => by
        rw [Addr.add_lit]
        exact Fr.cell (Fr.refl (S := E0) |>.alloc (.cells #[] 39)) (hrd j u hu) (fun x => x)
      have H1 := hid h1
      have hL := hid hm
      have HH := hid hrow
      clear hr hm hv hrd hrow h1
      go_enter Tryz.func143, Tryz.ntmps143
      go_wp2_with (at_builtin; refine wpList_append_own_at _ rfl (.tmp 5) (.tmp 6) 26 rfl 0 39 i0 (.agg #[.int .i64 0, .int .i64 0]) 2 16 Tryz.underlying26 hi0 hz0 hz1 hz2 rfl (by decide) (.slice (some ⟨w.heap.size, 0, none⟩) 0 0) 0 [] rfl (HH.out.own (by decide) rfl) ⟨b, o, none⟩ m c xs rfl hL.out hsrc.out H1.out (by unfold maxLen; omega) (by omega) (Nat.zero_le _) ?_; intro v' w1 hown hgrow hnil hat)
      have HR := hid (RowF.appended (F := New w) hown hat (fun g hg => by simp [Value.ownBlock] at hg; subst hg; exact Nat.le_refl _) (by simp [New]))
      have HF := hid ((Fr.refl (S := E0) |>.alloc (.cells #[] 39)).grown hgrow (fun k hk => by simp [Value.ownBlock] at hk; subst hk; exact .inr (Nat.le_refl _)))
      rw [List.nil_append] at HR
      clear hown hgrow hnil hat
      go_ret
      exact ⟨_, rfl, HR.out, HF.out⟩
theorem infoC : (Tryz.prog.info? 235).map (fun i => (i.zero, i.size, i.bytes)) = some (some (.agg #[.bool false, .int .i64 0, .int .i64 0, .int .i64 0]), 4, 32) := by kernel_rfl
set_option maxHeartbeats 400000 in
theorem cloneC (xs : List Value) (v : Value) (w : World) (m : Nat) (hv : Rd w v 4 xs) (hm : xs.length = m * 4) (h1 : ∀ u ∈ xs, u.oneCell' = true) (hsz : m * 32 ≤ 140737488355328) : Calls Tryz.prog 144 #[v] w (Made 235 4 xs w) := by
  obtain ⟨A, c, rfl, hnc, hcm, hr⟩ := hv.len (by decide) hm
  obtain ⟨i0, hi0, hz0, hz1, hz2⟩ := info_parts infoC
  rcases A with _ | ad
  · have h0 : xs = [] := by
      rcases hr with h | ⟨b, o, h, _⟩
      · exact h
      · cases h
    have HH := hid (show RowF w (New w) 235 4 (.slice none 0 0) xs by rw [h0]; exact RowF.nil)
    clear hr hm hv h1 hi0 hz0 hz1 hz2 h0
    have hq := Lib.run_eql_slice_nil (P := Tryz.prog) w 195 235 none m c 0 0 Tryz.underlying195
    go_enter Tryz.func144, Tryz.ntmps144
    go_wp2
    go_ret
    exact ⟨_, rfl, HH.out, Fr.refl⟩
  · have hq := Lib.run_eql_slice_nil (P := Tryz.prog) w 195 235 (some ad) m c 0 0 Tryz.underlying195
    have hrow := rowF_empty w 235 4
    by_cases hn : m = 0
    · subst hn
      have h0 : xs = [] := List.eq_nil_of_length_eq_zero (by simpa using hm)
      rw [h0]
      have HH := hid hrow
      clear hr hm hv h1 hi0 hz0 hz1 hz2 h0 hrow
      go_enter Tryz.func144, Tryz.ntmps144
      go_wp2
      go_ret
      exact ⟨_, rfl, HH.out, Fr.refl.alloc _⟩
    · obtain ⟨b, o, he, hrd⟩ := hr.at (fun e => by rw [e] at hm; simp at hm; omega)
      cases he
      have hsrc : Hid (∀ j u, xs[j]? = some u → (w.alloc (.cells #[] 235)).cell? ((⟨b, o, none⟩ : Addr).add j) = some u) := fun j u hu => by
        rw [Addr.add_lit]
        exact Fr.cell (Fr.refl (S := E0) |>.alloc (.cells #[] 235)) (hrd j u hu) (fun x => x)
      have H1 := hid h1
      have hL := hid hm
      have HH := hid hrow
      clear hr hm hv hrd hrow h1
      go_enter Tryz.func144, Tryz.ntmps144
      go_wp2_with (at_builtin; refine wpList_append_own_at _ rfl (.tmp 5) (.tmp 6) 195 rfl 0 235 i0 (.agg #[.bool false, .int .i64 0, .int .i64 0, .int .i64 0]) 4 32 Tryz.underlying195 hi0 hz0 hz1 hz2 rfl (by decide) (.slice (some ⟨w.heap.size, 0, none⟩) 0 0) 0 [] rfl (HH.out.own (by decide) rfl) ⟨b, o, none⟩ m c xs rfl hL.out hsrc.out H1.out (by unfold maxLen; omega) (by omega) (Nat.zero_le _) ?_; intro v' w1 hown hgrow hnil hat)
      have HR := hid (RowF.appended (F := New w) hown hat (fun g hg => by simp [Value.ownBlock] at hg; subst hg; exact Nat.le_refl _) (by simp [New]))
      have HF := hid ((Fr.refl (S := E0) |>.alloc (.cells #[] 235)).grown hgrow (fun k hk => by simp [Value.ownBlock] at hk; subst hk; exact .inr (Nat.le_refl _)))
      rw [List.nil_append] at HR
      clear hown hgrow hnil hat
      go_ret
      exact ⟨_, rfl, HR.out, HF.out⟩
theorem infoL : (Tryz.prog.info? 179).map (fun i => (i.zero, i.size, i.bytes)) = some (some (.agg #[.int .i64 0, .int .i64 0, .bool false, .int .i64 0]), 4, 32) := by kernel_rfl
set_option maxHeartbeats 400000 in
theorem cloneL (xs : List Value) (v : Value) (w : World) (m : Nat) (hv : Rd w v 4 xs) (hm : xs.length = m * 4) (h1 : ∀ u ∈ xs, u.oneCell' = true) (hsz : m * 32 ≤ 140737488355328) : Calls Tryz.prog 47 #[v] w (Made 179 4 xs w) := by
  obtain ⟨A, c, rfl, hnc, hcm, hr⟩ := hv.len (by decide) hm
  obtain ⟨i0, hi0, hz0, hz1, hz2⟩ := info_parts infoL
  rcases A with _ | ad
  · have h0 : xs = [] := by
      rcases hr with h | ⟨b, o, h, _⟩
      · exact h
      · cases h
    have HH := hid (show RowF w (New w) 179 4 (.slice none 0 0) xs by rw [h0]; exact RowF.nil)
    clear hr hm hv h1 hi0 hz0 hz1 hz2 h0
    have hq := Lib.run_eql_slice_nil (P := Tryz.prog) w 32 179 none m c 0 0 Tryz.underlying32
    go_enter Tryz.func47, Tryz.ntmps47
    go_wp2
    go_ret
    exact ⟨_, rfl, HH.out, Fr.refl⟩
  · have hq := Lib.run_eql_slice_nil (P := Tryz.prog) w 32 179 (some ad) m c 0 0 Tryz.underlying32
    have hrow := rowF_empty w 179 4
    by_cases hn : m = 0
    · subst hn
      have h0 : xs = [] := List.eq_nil_of_length_eq_zero (by simpa using hm)
      rw [h0]
      have HH := hid hrow
      clear hr hm hv h1 hi0 hz0 hz1 hz2 h0 hrow
      go_enter Tryz.func47, Tryz.ntmps47
      go_wp2
      go_ret
      exact ⟨_, rfl, HH.out, Fr.refl.alloc _⟩
    · obtain ⟨b, o, he, hrd⟩ := hr.at (fun e => by rw [e] at hm; simp at hm; omega)
      cases he
      have hsrc : Hid (∀ j u, xs[j]? = some u → (w.alloc (.cells #[] 179)).cell? ((⟨b, o, none⟩ : Addr).add j) = some u) := fun j u hu => by
        rw [Addr.add_lit]
        exact Fr.cell (Fr.refl (S := E0) |>.alloc (.cells #[] 179)) (hrd j u hu) (fun x => x)
      have H1 := hid h1
      have hL := hid hm
      have HH := hid hrow
      clear hr hm hv hrd hrow h1
      go_enter Tryz.func47, Tryz.ntmps47
      go_wp2_with (at_builtin; refine wpList_append_own_at _ rfl (.tmp 5) (.tmp 6) 32 rfl 0 179 i0 (.agg #[.int .i64 0, .int .i64 0, .bool false, .int .i64 0]) 4 32 Tryz.underlying32 hi0 hz0 hz1 hz2 rfl (by decide) (.slice (some ⟨w.heap.size, 0, none⟩) 0 0) 0 [] rfl (HH.out.own (by decide) rfl) ⟨b, o, none⟩ m c xs rfl hL.out hsrc.out H1.out (by unfold maxLen; omega) (by omega) (Nat.zero_le _) ?_; intro v' w1 hown hgrow hnil hat)
      have HR := hid (RowF.appended (F := New w) hown hat (fun g hg => by simp [Value.ownBlock] at hg; subst hg; exact Nat.le_refl _) (by simp [New]))
      have HF := hid ((Fr.refl (S := E0) |>.alloc (.cells #[] 179)).grown hgrow (fun k hk => by simp [Value.ownBlock] at hk; subst hk; exact .inr (Nat.le_refl _)))
      rw [List.nil_append] at HR
      clear hown hgrow hnil hat
      go_ret
      exact ⟨_, rfl, HR.out, HF.out⟩
theorem infoI : (Tryz.prog.info? 2).map (fun i => (i.zero, i.size, i.bytes)) = some (some (.int .i64 0), 1, 8) := by kernel_rfl
set_option maxHeartbeats 400000 in
theorem cloneI (xs : List Value) (v : Value) (w : World) (m : Nat) (hv : Rd w v 1 xs) (hm : xs.length = m * 1) (h1 : ∀ u ∈ xs, u.oneCell' = true) (hsz : m * 8 ≤ 140737488355328) : Calls Tryz.prog 48 #[v] w (Made 2 1 xs w) := by
  obtain ⟨A, c, rfl, hnc, hcm, hr⟩ := hv.len (by decide) hm
  obtain ⟨i0, hi0, hz0, hz1, hz2⟩ := info_parts infoI
  rcases A with _ | ad
  · have h0 : xs = [] := by
      rcases hr with h | ⟨b, o, h, _⟩
      · exact h
      · cases h
    have HH := hid (show RowF w (New w) 2 1 (.slice none 0 0) xs by rw [h0]; exact RowF.nil)
    clear hr hm hv h1 hi0 hz0 hz1 hz2 h0
    have hq := Lib.run_eql_slice_nil (P := Tryz.prog) w 33 2 none m c 0 0 Tryz.underlying33
    go_enter Tryz.func48, Tryz.ntmps48
    go_wp2
    go_ret
    exact ⟨_, rfl, HH.out, Fr.refl⟩
  · have hq := Lib.run_eql_slice_nil (P := Tryz.prog) w 33 2 (some ad) m c 0 0 Tryz.underlying33
    have hrow := rowF_empty w 2 1
    by_cases hn : m = 0
    · subst hn
      have h0 : xs = [] := List.eq_nil_of_length_eq_zero (by simpa using hm)
      rw [h0]
      have HH := hid hrow
      clear hr hm hv h1 hi0 hz0 hz1 hz2 h0 hrow
      go_enter Tryz.func48, Tryz.ntmps48
      go_wp2
      go_ret
      exact ⟨_, rfl, HH.out, Fr.refl.alloc _⟩
    · obtain ⟨b, o, he, hrd⟩ := hr.at (fun e => by rw [e] at hm; simp at hm; omega)
      cases he
      have hsrc : Hid (∀ j u, xs[j]? = some u → (w.alloc (.cells #[] 2)).cell? ((⟨b, o, none⟩ : Addr).add j) = some u) := fun j u hu => by
        rw [Addr.add_lit]
        exact Fr.cell (Fr.refl (S := E0) |>.alloc (.cells #[] 2)) (hrd j u hu) (fun x => x)
      have H1 := hid h1
      have hL := hid hm
      have HH := hid hrow
      clear hr hm hv hrd hrow h1
      go_enter Tryz.func48, Tryz.ntmps48
      go_wp2_with (at_builtin; refine wpList_append_own_at _ rfl (.tmp 5) (.tmp 6) 33 rfl 0 2 i0 (.int .i64 0) 1 8 Tryz.underlying33 hi0 hz0 hz1 hz2 rfl (by decide) (.slice (some ⟨w.heap.size, 0, none⟩) 0 0) 0 [] rfl (HH.out.own (by decide) rfl) ⟨b, o, none⟩ m c xs rfl hL.out hsrc.out H1.out (by unfold maxLen; omega) (by omega) (Nat.zero_le _) ?_; intro v' w1 hown hgrow hnil hat)
      have HR := hid (RowF.appended (F := New w) hown hat (fun g hg => by simp [Value.ownBlock] at hg; subst hg; exact Nat.le_refl _) (by simp [New]))
      have HF := hid ((Fr.refl (S := E0) |>.alloc (.cells #[] 2)).grown hgrow (fun k hk => by simp [Value.ownBlock] at hk; subst hk; exact .inr (Nat.le_refl _)))
      rw [List.nil_append] at HR
      clear hown hgrow hnil hat
      go_ret
      exact ⟨_, rfl, HR.out, HF.out⟩
theorem codeC_one (l : List Int) : ∀ u ∈ codeC l, u.oneCell' = true := fun u hu => by
  obtain ⟨x, _, rfl⟩ := List.mem_map.1 hu; rfl
theorem fnC_one (l : List Fn) : ∀ u ∈ fnC l, u.oneCell' = true := fun u hu => by
  obtain ⟨x, _, hx⟩ := List.mem_flatMap.1 hu
  simp only [Fn.cells, List.mem_cons, List.not_mem_nil, or_false] at hx
  rcases hx with rfl | rfl <;> rfl
theorem csC_one (l : List Cs) : ∀ u ∈ csC l, u.oneCell' = true := fun u hu => by
  obtain ⟨x, _, hx⟩ := List.mem_flatMap.1 hu
  simp only [Cs.cells, List.mem_cons, List.not_mem_nil, or_false] at hx
  rcases hx with rfl | rfl | rfl | rfl <;> rfl
end Go.Proofs.YtocepiogpeafoaaGreatDoor
