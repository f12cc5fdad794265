/- ChooseFair: the walk. -/
import Derived.Test.YteffmnohgnmanaaFairP
namespace Go.Proofs.Yteffmnohgnmanaa
open Go.RowKit
theorem info78 : (Try.prog.info? 78).map (fun i => (i.zero, i.size, i.bytes)) = some (some (.agg #[.bool false, .int .i64 0, .int .i64 0]), 3, 24) := by kernel_rfl
set_option maxRecDepth 8000 in
set_option maxHeartbeats 4000000 in
theorem fair_walk (n f gs gg : Int) (hn : 0 ≤ n ∧ n ≤ 255) (hf : 0 ≤ f ∧ f ≤ 255) (w : World) : Calls Try.prog 10 #[.int .u8 n, .int .u8 f, .agg #[.int .i64 gs, .int .i64 gg]] w (Ret (.bool true) E0 w) := by
  obtain ⟨M, hM⟩ : ∃ M : Nat, n % 16 + 1 = (M : Int) := ⟨(n % 16 + 1).toNat, by omega⟩
  have hM1 : 1 ≤ M := by omega
  have hM16 : M ≤ 16 := by omega
  obtain ⟨W, hW⟩ : ∃ W : Nat, f % (M : Int) = (W : Int) := ⟨(f % (M : Int)).toNat, by have := Int.emod_nonneg f (b := (M : Int)) (by omega); omega⟩
  have hWM : W < M := by have := Int.emod_lt_of_pos f (b := (M : Int)) (by omega); omega
  obtain ⟨hn0, hn1⟩ := hn
  obtain ⟨hf0, hf1⟩ := hf
  have HM := hid hM
  have HW := hid hW
  obtain ⟨l', hsel⟩ := fair_sel W M hWM hM16 gs gg
  have HS := hid hsel
  have HFO := hid (fairO_ord W M hWM)
  have HFL := hid (fairO_len W M hWM)
  clear hsel hM hW
  obtain ⟨i0, hi0, hz0, hz1, hz2⟩ := info_parts info78
  obtain ⟨i1, ji0, jz0, jz1, jz2⟩ := info_parts info3
  go_enter Try.func10, Try.ntmps10
  go_wp2_with fail
  have G0 := hid (heap_alloc_new w (.cells #[.int .i64 gs, .int .i64 gg] 37))
  have FA := hid ((Fr.refl (S := E0) (w := w)).alloc (.cells #[.int .i64 gs, .int .i64 gg] 37))
  have hgw := hid (show w.heap.size < (w.alloc (.cells #[.int .i64 gs, .int .i64 gg] 37)).heap.size by simp)
  generalize hW0 : w.alloc (.cells #[.int .i64 gs, .int .i64 gg] 37) = W0 at *
  clear hW0
  refine (new_ok W0).mono ?_
  rintro e w1 ⟨g, rfl, hi, hf⟩
  have B1 := hid (Beside.start (e := 78) (sz := 3) (Mine.mine_new hi hf))
  clear hi hf
  go_wp2_with fail
  simp only [HM.out]
  go_loopw [9, 11] (fun lv i wr => ∃ (k : Nat) (F : Nat → Prop), i = .int .i64 k ∧ k ≤ M ∧ Beside W0 wr F g (List.replicate k (newCh 1)) 78 3 lv (pks (fairL k))) (fun _ i _ => M - (intOf i).toNat)
  case atStart => exact ⟨0, _, rfl, Nat.zero_le _, B1.out⟩
  case round =>
    obtain ⟨k, F, rfl, hk, hb⟩ := hrel
    have HB := hid hb
    clear hb
    by_cases hlt : k < M
    · go_wp2_with fail
      refine (make_all HB.out.m.is (rep_ok k (by omega)) 1 (by simp [makeNo]; omega)).mono ?_
      rintro e w2 ⟨rfl, hs2⟩
      rw [rep_succ] at hs2
      obtain ⟨F2, b2, _⟩ := HB.out.step hs2
      have B2 := hid b2
      have hlen : (List.replicate k (newCh 1)).length = k := by simp
      rw [hlen]
      have WR := hid ((B2.out.row.fr ((Fr.refl (S := E0)).alloc (.cells #[.bool true, .int .i64 ((k : Int) + 1), .int .i64 (k : Int)] 78)) (fun _ _ x => x)))
      clear hs2 b2 hlen
      simp only [tup2]
      go_wp2_with (at_builtin; (refine wpList_append_lies _ rfl (.tmp 35) (.tmp 39) 42 rfl 0 78 i0 (.agg #[.bool false, .int .i64 0, .int .i64 0]) 3 24 Try.underlying42 hi0 hz0 hz1 hz2 rfl (by decide) _ k (pks (fairL k)) rfl (WR.out.own (by decide) (by rw [pks_len, fairL_len])) ⟨w2.heap.size, 0, none⟩ 1 1 [.bool true, .int .i64 ((k : Int) + 1), .int .i64 (k : Int)] rfl rfl (World.news_of_block (heap_alloc_new w2 _)) (by simp [Value.oneCell']) (by decide) (by unfold maxLen; omega) (by omega) (Nat.zero_le _) (w2.heap.size + 1) (by simp) ?_); intro gb cp w3 hown3 hgrow3 hat3 hlt3; have B3 := hid (B2.out.app hown3 hgrow3 hat3); clear hown3 hgrow3 hat3 hlt3)
      rw [show [Value.bool true, .int .i64 ((k : Int) + 1), .int .i64 (k : Int)] = Pk.cells ⟨true, (k : Int) + 1, k⟩ from rfl, pks_push, ← fairL_succ] at B3
      go_roundw
      case rel => exact ⟨k + 1, F2, by simp, by omega, B3.out⟩
      case measure => simp [intOf]; omega
    · obtain rfl : k = M := by omega
      clear hlt hk
      obtain ⟨LA, Lc, rfl, _, _, _⟩ := HB.out.row.read (n := k) (by decide) (by rw [pks_len, fairL_len])
      have hk0 : (0 : Int) < (k : Int) := by omega
      have hkne : ((k : Int) == 0) = false := by simp; omega
      have O0 := hid (show Beside W0 wr F g (List.replicate k (newCh 1)) 3 1 (.slice none 0 0) [] from Beside.start HB.out.m)
      have WR := hid (O0.out.e0 ((Fr.refl (S := E0)).alloc (.cells #[.int .i64 (W : Int)] 3)))
      have hW := HW.out
      go_wp2_with (at_builtin; (refine wpList_append_lies _ rfl (.tmp 45) (.tmp 47) 70 rfl 0 3 i1 (.int .i64 0) 1 8 Try.underlying70 ji0 jz0 jz1 jz2 rfl (by decide) _ 0 [] rfl (WR.out.row.own (by decide) rfl) ⟨wr.heap.size, 0, none⟩ 1 1 [.int .i64 (W : Int)] rfl rfl (World.news_of_block (heap_alloc_new wr _)) (by simp [Value.oneCell']) (by decide) (by unfold maxLen; omega) (by omega) (Nat.zero_le _) (wr.heap.size + 1) (by simp) ?_); intro gb cp w3 hown3 hgrow3 hat3 hlt3; have B3 := hid (O0.out.app hown3 hgrow3 hat3); have L3 := hid (HB.out.other O0.out (by decide) hgrow3); clear hown3 hgrow3 hat3 hlt3)
      clear hW
      go_loopw [10, 15] (fun ov i wr => ∃ q : Nat, i = .int .i64 q ∧ q ≤ k ∧ Beside W0 wr F g (List.replicate k (newCh 1)) 78 3 (.slice LA k Lc) (pks (fairL k)) ∧ Beside W0 wr F g (List.replicate k (newCh 1)) 3 1 ov (ints (fairO W q))) (fun _ i _ => k - (intOf i).toNat)
      case atStart => exact ⟨0, rfl, Nat.zero_le _, L3.out, B3.out⟩
      case round =>
        obtain ⟨q, rfl, hq, hl, ho⟩ := hrel
        have HL := hid hl
        have HO := hid ho
        clear hl ho
        by_cases hlt : q < k
        · obtain ⟨N, hN⟩ : ∃ N, N = (fairO W q).length := ⟨_, rfl⟩
          obtain ⟨OA, Oc, rfl, _, _, _⟩ := HO.out.row.read (n := N) (by decide) (by rw [ints_len, hN])
          have hNb : N ≤ q + 1 := by
            rw [hN]; simp only [fairO, List.length_cons, List.length_map]
            have := List.length_filter_le (fun i => decide (i ≠ W)) (List.range q)
            rw [List.length_range] at this; omega
          by_cases hqW : q = W
          · subst hqW
            have hs := hid (fairO_succ q q)
            clear hN
            go_wp2_with fail
            go_roundw
            case rel => exact ⟨q + 1, by simp, by omega, HL.out, by rw [hs.out, if_pos rfl]; exact HO.out⟩
            case measure => simp [intOf]; omega
          · have hqW' : ¬ (q : Int) = (W : Int) := by omega
            have hb1 : (((q : Int) == (W : Int)) : Bool) = false := by simpa using hqW'
            have hb2 : (((q : Int) != (W : Int)) : Bool) = true := by simpa using hqW'
            have hs := fairO_succ W q
            rw [if_neg hqW] at hs
            have HSQ := hid hs
            have WR2 := hid (HO.out.e0 ((Fr.refl (S := E0)).alloc (.cells #[.int .i64 (q : Int)] 3)))
            have HN := hid hN
            clear hs hqW hqW' hN
            go_wp2_with (at_builtin; (refine wpList_append_lies _ rfl (.tmp 57) (.tmp 59) 70 rfl 0 3 i1 (.int .i64 0) 1 8 Try.underlying70 ji0 jz0 jz1 jz2 rfl (by decide) _ N (ints (fairO W q)) rfl (WR2.out.row.own (by decide) (by rw [ints_len, HN.out])) ⟨wr.heap.size, 0, none⟩ 1 1 [.int .i64 (q : Int)] rfl rfl (World.news_of_block (heap_alloc_new wr _)) (by simp [Value.oneCell']) (by decide) (by unfold maxLen; omega) (by omega) (Nat.zero_le _) (wr.heap.size + 1) (by simp) ?_); intro gb cp w3 hown3 hgrow3 hat3 hlt3; have B4 := hid (HO.out.app hown3 hgrow3 hat3); have L4 := hid (HL.out.other HO.out (by decide) hgrow3); clear hown3 hgrow3 hat3 hlt3)
            rw [ints_push, ← HSQ.out] at B4
            go_roundw
            case rel => exact ⟨q + 1, by simp, by omega, L4.out, B4.out⟩
            case measure => simp [intOf]; omega
        · obtain rfl : q = k := by omega
          clear hlt hq
          obtain ⟨OA, Oc, rfl, _, _, _⟩ := HO.out.row.read (n := q) (by decide) (by rw [ints_len, HFL.out])
          have HDL := hid (show drawsL (fairO W q) = (drawsR q (fairO W q), 0) by
            unfold drawsL; rw [if_neg (by have := HFL.out; omega), if_neg (by rw [HFO.out]; simp), HFL.out])
          have HDU := hid (u64_small (l := drawsR q (fairO W q)) (by rw [drawsR_len]; exact hM16) (drawsR_small (by have := isOrd_iff.1 HFO.out; rwa [HFL.out] at this)))
          go_wp2_with fail
          refine (draws_ok (fairO W q) _ wr (CM.Own.rdv (by decide) HO.out.row (ints_len _))).mono ?_
          rw [HDL.out]
          rintro e w5 ⟨dv, rfl, hr5, hf5⟩
          obtain ⟨DA, dn, dc, rfl⟩ := hr5.shape
          have R5 := hid hr5.rdU
          have L5 := hid (HL.out.e0 hf5)
          have G5 := hid (L5.out.m.fr.heapAt G0.out (fun x => x))
          have g0 := cell_of_row w5 _ 0 _ _ _ G5.out
          have g1 := cell_of_row w5 _ 1 _ _ _ G5.out
          clear hr5 hf5
          simp only [tup2]
          go_wp2_with fail
          refine (sel_all L5.out.m.is (rep_ok q hM16) (by decide) gs gg (fairL q) _ true (drawsR q (fairO W q)) _ (L5.out.out (by decide) (by rw [pks_len, fairL_len])) (by rw [fairL_len]; omega) R5.out HDU.out l' ⟨W, false, { ok := true }⟩ 0 HS.out).mono ?_
          rintro e w6 ⟨wv, rfl, hr6, hs6⟩
          obtain ⟨F6, m6, _, _⟩ := L5.out.m.step hs6
          obtain ⟨A6, n6, c6, rfl⟩ := hr6.shape
          have FZ := hid (FA.out.trans (m6.fr.alloc (.cells #[.int .i64 (W : Int), .bool false, .bool false, .int .i64 0, .bool true, .int .i64 0, .slice A6 n6 c6] 47)))
          obtain ⟨⟨y0, y1, _, _, y4, _, _⟩, _⟩ := blk7 (heap_alloc_new w6 (.cells #[.int .i64 (W : Int), .bool false, .bool false, .int .i64 0, .bool true, .int .i64 0, .slice A6 n6 c6] 47))
          clear hr6 hs6 m6
          simp only [tup2, Cho.val]
          have zw : (((W : Int) == (W : Int)) : Bool) = true := by simp
          go_wp2
          go_ret
          exact ⟨rfl, FZ.out⟩
end Go.Proofs.Yteffmnohgnmanaa
