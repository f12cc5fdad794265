/- ChooseOther: the walk. -/
import Derived.Test.YteffmnohgnmanaaBack
namespace Go.Proofs.Yteffmnohgnmanaa
open Go.RowKit
/-- Two rows of one's own, in different blocks. -/
structure Duo (w0 w : World) (v u : Value) (x y : List Int) : Prop where
  a : RowF w (New w0) 75 1 v (us x)
  b : RowF w (New w0) 75 1 u (us y)
  ne : ∀ g, v.ownBlock = some g → u.ownBlock ≠ some g
  f : Fr E0 w0 w
theorem Duo.swap {w0 w : World} {v u : Value} {x y : List Int} (h : Duo w0 w v u x y) : Duo w0 w u v y x := ⟨h.b, h.a, fun g h1 h2 => h.ne g h2 h1, h.f⟩
theorem Duo.push {w0 w w1 : World} {v u : Value} {x y : List Int} {d : Int} {n gb cp : Nat} {o : Obj} (h : Duo w0 w v u x y) (hown : w1.ownsRow 0 75 1 (.slice (some ⟨gb, 0, none⟩) n cp) n (us x ++ [.int .u64 d])) (hg : (w.alloc o).grownBy w1 v.ownBlock)
    (hat : v.ownBlock = some gb ∨ gb = w.heap.size + 1) : Duo w0 w1 (.slice (some ⟨gb, 0, none⟩) n cp) u (x ++ [d]) y := by
  obtain ⟨h1, h2⟩ := pushed h.f h.a hown hg hat
  rw [us_push] at h1
  have hfr : Fr (fun q => v.ownBlock = some q) w w1 := ((Fr.refl (S := fun q => v.ownBlock = some q)).alloc o).grown hg (fun q hq => .inl hq)
  refine ⟨h1, h.b.fr hfr (fun g hg e => h.ne g e hg), fun g e e2 => ?_, h2⟩
  simp [Value.ownBlock] at e; subst e
  rcases hat with h3 | h3
  · exact h.ne _ h3 e2
  · have := h.b.lt e2; omega
set_option maxRecDepth 8000 in
set_option maxHeartbeats 4000000 in
theorem other_walk (da db : List Int) (va vb : Value) (w : World) (ha : RdV w va 1 (us da)) (hb : RdV w vb 1 (us db)) (haw : ∀ d ∈ da, 0 ≤ d ∧ d < 18446744073709551616) (hbw : ∀ d ∈ db, 0 ≤ d ∧ d < 18446744073709551616) : Calls Try.prog 9 #[va, vb] w (Ret (.bool true) E0 w) := by
  have HAW := hid haw
  have HBW := hid hbw
  obtain ⟨A, n, c, rfl, hl, _, hcm, hra⟩ := ha
  obtain rfl : da.length = n := by simpa [us] using hl
  obtain ⟨B, n2, c2, rfl, hl2, _, hcm2, hrb⟩ := hb
  obtain rfl : db.length = n2 := by simpa [us] using hl2
  have HRA := hid hra
  have HRB := hid hrb
  have hmax : da.length ≤ 9223372036854775807 := by unfold maxLen at hcm; omega
  have hmax2 : db.length ≤ 9223372036854775807 := by unfold maxLen at hcm2; omega
  clear hl hl2 haw hbw hcm hcm2 hra hrb
  obtain ⟨i0, hi0, hz0, hz1, hz2⟩ := info_parts info75
  go_enter Try.func9, Try.ntmps9
  go_wp2_with fail
  go_loopw [5, 6, 7] (fun xv yv ix wr => ∃ k : Nat, ix = .int .i64 k ∧ k ≤ da.length ∧ k ≤ db.length ∧ k ≤ 16 ∧ Duo w wr xv yv (smallN da k) (smallN db k)) (fun _ _ ix _ => 16 - (intOf ix).toNat)
  case atStart => exact ⟨0, rfl, Nat.zero_le _, Nat.zero_le _, by omega, RowF.nil, RowF.nil, fun g h => by simp [Value.ownBlock] at h, Fr.refl⟩
  case round =>
    obtain ⟨k, rfl, hk1, hk2, hk3, hduo⟩ := hrel
    have HD := hid hduo
    clear hduo
    obtain ⟨A5, n5, c5, rfl⟩ := HD.out.a.shape
    obtain ⟨_, _, e5, _, _, _⟩ := HD.out.a.read (n := k) (by decide) (by rw [us_len, smallN_len])
    cases e5
    obtain ⟨B5, m5, d5, rfl⟩ := HD.out.b.shape
    obtain ⟨_, _, e5, _, _, _⟩ := HD.out.b.read (n := k) (by decide) (by rw [us_len, smallN_len])
    cases e5
    by_cases hlt : k < da.length ∧ k < db.length ∧ k < 16
    · obtain ⟨hla, hlb, h16⟩ := hlt
      obtain ⟨p, hp⟩ : ∃ p, da[k]? = some p := ⟨da[k], List.getElem?_eq_getElem hla⟩
      obtain ⟨q, hq⟩ : ∃ q, db[k]? = some q := ⟨db[k], List.getElem?_eq_getElem hlb⟩
      obtain ⟨b1, o1, rfl, r1⟩ := HRA.out.at (fun e => by have := congrArg List.length e; rw [us_len, List.length_nil] at this; omega)
      obtain ⟨b2, o2, rfl, r2⟩ := HRB.out.at (fun e => by have := congrArg List.length e; rw [us_len, List.length_nil] at this; omega)
      have y1 := r1.fr HD.out.f (fun x => x) k (.int .u64 p) (by simp only [us, List.getElem?_map, hp, Option.map_some])
      have hp0 := HAW.out p (List.mem_of_getElem? hp)
      have hq0 := HBW.out q (List.mem_of_getElem? hq)
      have HSA := hid (show smallN da (k + 1) = smallN da k ++ [p % ((k : Int) + 1)] by rw [smallN_succ, List.getD_eq_getElem?_getD, hp]; rfl)
      have HSB := hid (show smallN db (k + 1) = smallN db k ++ [q % ((k : Int) + 1)] by rw [smallN_succ, List.getD_eq_getElem?_getD, hq]; rfl)
      obtain ⟨i, hi, hik⟩ := emod_nat p k
      obtain ⟨j, hj, hjk⟩ := emod_nat q k
      rw [hi] at HSA
      rw [hj] at HSB
      have WR := hid (HD.out.a.fr ((Fr.refl (S := E0)).alloc (.cells #[.int .u64 (i : Int)] 75)) (fun _ _ x => x))
      have HQ := hid (show (us db)[k]? = some (.int .u64 q) by simp only [us, List.getElem?_map, hq, Option.map_some])
      have R2 := hid r2
      clear r1 r2 hp hq
      go_wp2_with (first
        | (at_builtin; (refine wpList_append_lies _ rfl (.tmp 28) (.tmp 37) 43 rfl 0 75 i0 (.int .u64 0) 1 8 Try.underlying43 hi0 hz0 hz1 hz2 rfl (by decide) _ k (us (smallN da k)) rfl (WR.out.own (by decide) (by rw [us_len, smallN_len])) ⟨wr.heap.size, 0, none⟩ 1 1 [.int .u64 (i : Int)] rfl rfl (World.news_of_block (heap_alloc_new wr _)) (by simp [Value.oneCell']) (by decide) (by unfold maxLen; omega) (by omega) (Nat.zero_le _) (wr.heap.size + 1) (by simp) ?_); intro gb cp w1 hown1 hgrow1 hat1 hlt1; have HP1 := hid (HD.out.push hown1 hgrow1 hat1); clear hown1 hgrow1 hat1 hlt1; have y2 := R2.out.fr HP1.out.f (fun x => x) k (.int .u64 q) HQ.out; have WR2 := hid (HP1.out.b.fr ((Fr.refl (S := E0)).alloc (.cells #[.int .u64 (j : Int)] 75)) (fun _ _ x => x)))
        | (at_builtin; (refine wpList_append_lies _ rfl (.tmp 39) (.tmp 48) 43 rfl 0 75 i0 (.int .u64 0) 1 8 Try.underlying43 hi0 hz0 hz1 hz2 rfl (by decide) _ k (us (smallN db k)) rfl (WR2.out.own (by decide) (by rw [us_len, smallN_len])) ⟨w1.heap.size, 0, none⟩ 1 1 [.int .u64 (j : Int)] rfl rfl (World.news_of_block (heap_alloc_new w1 _)) (by simp [Value.oneCell']) (by decide) (by unfold maxLen; omega) (by omega) (Nat.zero_le _) (w1.heap.size + 1) (by simp) ?_); intro gb2 cp2 w2 hown2 hgrow2 hat2 hlt2; have HP2 := hid (HP1.out.swap.push hown2 hgrow2 hat2).swap; clear hown2 hgrow2 hat2 hlt2))
      rw [← HSA.out, ← HSB.out] at HP2
      go_roundw
      case rel => exact ⟨k + 1, by simp, by omega, by omega, by omega, HP2.out⟩
      case measure => simp [intOf]; omega
    · obtain ⟨x, hx⟩ : ∃ x, x = smallN da k := ⟨_, rfl⟩
      obtain ⟨y, hy⟩ : ∃ y, y = smallN db k := ⟨_, rfl⟩
      have hxl : x.length = k := by rw [hx, smallN_len]
      have hyl : y.length = k := by rw [hy, smallN_len]
      have hsx := smallN_small da k
      have hsy := smallN_small db k
      rw [← hx] at HD hsx
      rw [← hy] at HD hsy
      have hxk : x.length ≤ 16 := by omega
      have hyk : y.length ≤ 16 := by omega
      have hox := orderL_small hxk
      have hoy := orderL_small hyk
      have hdx := drawsL_small hsx hxk
      have hdy := drawsL_small hsy hyk
      rw [hyl] at hoy hdy
      rw [hxl] at hox hdx
      have heq : decide (ordN k x k = ordN k y k) = decide (x = y) := by
        by_cases e : x = y
        · rw [e]; simp
        · have : ¬ ordN k x k = ordN k y k := fun e2 => by rw [e2, hdy] at hdx; injection hdx with hdx _; exact e hdx.symm
          simp [e, this]
      have HOX := hid hox
      have HOY := hid hoy
      have HEQ := hid heq
      have HXU := hid (u64_small hxk hsx)
      have HYU := hid (u64_small hyk hsy)
      have hstop : (¬ k < da.length) ∨ (k < da.length ∧ ¬ k < db.length) ∨ (k < da.length ∧ k < db.length ∧ ¬ k < 16) := by omega
      clear hx hy hsx hsy hox hoy hdx hdy heq hlt hxl hyl hxk hyk
      rcases hstop with hs1 | ⟨hs1, hs2⟩ | ⟨hs1, hs2, hs3⟩
      all_goals
        go_wp2_with fail
        refine (order_ok k x _ wr HD.out.a.rdU HXU.out).mono ?_
        rw [HOX.out]
        rintro e w6 ⟨v6, rfl, hr6, hf6⟩
        obtain ⟨A6, n6, c6, rfl⟩ := hr6.shape
        have R6 := hid hr6.rdI
        have F6 := hid (HD.out.f.trans hf6)
        have X6 := hid (HD.out.a.rdU.fr hf6)
        have Y6 := hid (HD.out.b.rdU.fr hf6)
        clear hr6 hf6
        simp only [tup2]
        go_wp2_with fail
        refine (order_ok k y _ w6 Y6.out HYU.out).mono ?_
        rw [HOY.out]
        rintro e w7 ⟨v7, rfl, hr7, hf7⟩
        obtain ⟨A7, n7, c7, rfl⟩ := hr7.shape
        have R7 := hid hr7.rdI
        have R6' := hid (R6.out.fr hf7)
        have F7 := hid (F6.out.trans hf7)
        have X7 := hid (X6.out.fr hf7)
        have Y7 := hid (Y6.out.fr hf7)
        clear hr7 hf7
        simp only [tup2]
        go_wp2_with fail
        refine (same_ints _ _ _ _ w7 R6'.out R7.out).mono ?_
        rintro e w8 ⟨rfl, hf8⟩
        rw [HEQ.out]
        have F8 := hid (F7.out.trans hf8)
        have X8 := hid (X7.out.fr hf8)
        have Y8 := hid (Y7.out.fr hf8)
        clear hf8
        generalize hB : decide (x = y) = B
        have HB := hid hB
        clear hB
        have z1 : ((B == B) : Bool) = true := by simp
        go_wp2_with fail
        refine (same_draws x y _ _ w8 X8.out Y8.out).mono ?_
        rintro e w9 ⟨rfl, hf9⟩
        rw [HB.out]
        have F9 := hid (F8.out.trans hf9)
        clear hf9
        go_wp2_with fail
        refine (awake_ok w9).mono ?_
        rintro e w10 ⟨rfl, hf10⟩
        have F10 := hid (F9.out.trans hf10)
        clear hf10
        go_wp2_with fail
        go_ret
        exact ⟨rfl, F10.out⟩
end Go.Proofs.Yteffmnohgnmanaa
