/- ChooseDraws, ChooseBack, ChooseOther: the walks. -/
import Derived.Test.YteffmnohgnmanaaOrds
import Derived.Test.YteffmnohgnmanaaDraw2
namespace Go.Proofs.Yteffmnohgnmanaa
open Go.RowKit
set_option maxHeartbeats 1000000 in
theorem draws_walk (o : List Int) (v : Value) (w : World) (hv : RdV w v 1 (ints o)) : Calls Try.prog 14 #[v] w (Ret (.bool true) E0 w) := by
  have HV := hid hv
  clear hv
  obtain ⟨l, er, hl⟩ : ∃ l er, drawsL o = (l, er) := ⟨_, _, rfl⟩
  have HL := hid hl
  clear hl
  go_enter Try.func14, Try.ntmps14
  go_wp2_with fail
  refine (draws_ok o v w HV.out).mono ?_
  rw [HL.out]
  rintro e w1 ⟨v1, rfl, hr1, hf1⟩
  obtain ⟨A1, n1, c1, rfl⟩ := hr1.shape
  have R1 := hid hr1.rdU
  have F1 := hid hf1
  clear hr1 hf1
  simp only [tup2]
  go_wp2_with fail
  refine (draws2_ok o v w1 (HV.out.fr F1.out)).mono ?_
  rw [HL.out]
  rintro e w2 ⟨v2, rfl, hr2, hf2⟩
  obtain ⟨A2, n2, c2, rfl⟩ := hr2.shape
  have R2 := hid hr2.rdU
  have R1' := hid (R1.out.fr hf2)
  have F2 := hid (F1.out.trans hf2)
  clear hr2 hf2
  simp only [tup2]
  have z1 : ((er == er) : Bool) = true := by simp
  go_wp2_with fail
  refine (same_draws l l _ _ w2 R1'.out R2.out).mono ?_
  rintro e w3 ⟨rfl, hf3⟩
  rw [show decide (l = l) = true from by simp]
  have F3 := hid (F2.out.trans hf3)
  clear hf3
  go_wp2_with fail
  refine (awake_ok w3).mono ?_
  rintro e w4 ⟨rfl, hf4⟩
  have F4 := hid (F3.out.trans hf4)
  clear hf4
  go_wp2_with fail
  go_ret
  exact ⟨rfl, F4.out⟩
/-! ### small numbers -/
def smallN (draws : List Int) (k : Nat) : List Int := (List.range k).map (fun i => draws.getD i 0 % ((i : Int) + 1))
theorem smallN_len (draws : List Int) (k : Nat) : (smallN draws k).length = k := by simp [smallN]
theorem smallN_succ (draws : List Int) (k : Nat) : smallN draws (k + 1) = smallN draws k ++ [draws.getD k 0 % ((k : Int) + 1)] := by simp [smallN, List.range_succ]
theorem smallN_small (draws : List Int) (k : Nat) : ∀ (i : Nat) (d : Int), (smallN draws k)[i]? = some d → 0 ≤ d ∧ d ≤ i := by
  intro i d h
  have hi := lt_of_get h
  rw [smallN_len] at hi
  unfold smallN at h
  rw [List.getElem?_map, List.getElem?_range hi] at h
  simp at h
  have h1 := Int.emod_nonneg (draws.getD i 0) (b := (i : Int) + 1) (by omega)
  have h2 := Int.emod_lt_of_pos (draws.getD i 0) (b := (i : Int) + 1) (by omega)
  simp only [List.getD_eq_getElem?_getD] at h1 h2
  omega
theorem orderL_small {x : List Int} (hn : x.length ≤ 16) : orderL x.length x = (ordN x.length x x.length, 0) := by
  unfold orderL; rw [if_neg (by omega), if_neg (by omega)]; simp
theorem drawsL_small {x : List Int} (hx : ∀ (i : Nat) (d : Int), x[i]? = some d → 0 ≤ d ∧ d ≤ i) (hn : x.length ≤ 16) : drawsL (ordN x.length x x.length) = (x, 0) := by
  have hl := ordN_len x.length x x.length
  have hp := ordN_perm x.length x x.length (Nat.le_refl _)
  unfold drawsL
  rw [if_neg (by omega), if_neg (by rw [isOrd_iff.2 (hl.symm ▸ hp)]; simp), hl, draws_back x.length x hx rfl x.length (Nat.le_refl _), List.take_length]
theorem orderL_draws {o : List Int} (hn : o.length ≤ 16) (h : isOrd o = true) : orderL o.length (drawsR o.length o) = (o, 0) := by
  have hp := isOrd_iff.1 h
  unfold orderL
  rw [if_neg (by omega), if_neg (by rw [drawsR_len]; omega)]
  congr 1
  rw [Int.toNat_natCast]
  apply List.ext_getElem?
  intro p
  rcases Nat.lt_or_ge p o.length with h1 | h1
  · have := order_back o.length o.length o [] hp rfl p h1
    rwa [List.append_nil] at this
  · rw [List.getElem?_eq_none h1, List.getElem?_eq_none (by rw [ordN_len]; exact h1)]
theorem u64_small {l : List Int} (hl : l.length ≤ 16) (h : ∀ (i : Nat) (d : Int), l[i]? = some d → 0 ≤ d ∧ d ≤ i) : ∀ d ∈ l, 0 ≤ d ∧ d < 18446744073709551616 := by
  intro d hd
  obtain ⟨i, hi⟩ := List.getElem?_of_mem hd
  have := h i d hi
  have := lt_of_get hi
  omega
/-- Something more behind a row of one's own. -/
theorem pushed {w wr w1 : World} {v : Value} {e sz n gb cp : Nat} {xs news : List Value} {o : Obj} (hf : Fr E0 w wr) (hr : RowF wr (New w) e sz v xs) (hown : w1.ownsRow 0 e sz (.slice (some ⟨gb, 0, none⟩) n cp) n (xs ++ news)) (hg : (wr.alloc o).grownBy w1 v.ownBlock)
    (hat : v.ownBlock = some gb ∨ gb = wr.heap.size + 1) : RowF w1 (New w) e sz (.slice (some ⟨gb, 0, none⟩) n cp) (xs ++ news) ∧ Fr E0 w w1 := by
  refine ⟨⟨⟨_, hown⟩, fun q hq => ?_⟩, ?_⟩
  · simp [Value.ownBlock] at hq; subst hq
    rcases hat with h | h
    · exact hr.2 _ h
    · subst h; have := hf.size; unfold New; omega
  · have h1 : Fr (New w) w w1 := ((hf.e0 (S := New w)).alloc _).grown hg (fun q hq => .inl (hr.2 q hq))
    exact ⟨h1.os, h1.tape, h1.output, h1.size, fun q hq _ => h1.block q hq (fun x => by unfold New at x; omega)⟩
theorem us_push (l : List Int) (x : Int) : us l ++ [.int .u64 x] = us (l ++ [x]) := by simp [us]
set_option maxRecDepth 8000 in
set_option maxHeartbeats 4000000 in
theorem back_walk (o draws : List Int) (v dv : Value) (w : World) (hv : RdV w v 1 (ints o)) (hd : RdV w dv 1 (us draws)) (hdw : ∀ d ∈ draws, 0 ≤ d ∧ d < 18446744073709551616) : Calls Try.prog 15 #[v, dv] w (Ret (.bool true) E0 w) := by
  have HV := hid hv
  have HD := hid hd
  have HDW := hid hdw
  obtain ⟨A, n, c, rfl, hl, _, hcm, _⟩ := hv
  obtain rfl : o.length = n := by simpa [ints] using hl
  obtain ⟨B, n2, c2, rfl, hl2, _, hcm2, hrd⟩ := hd
  obtain rfl : draws.length = n2 := by simpa [us] using hl2
  have HRD := hid hrd
  have hmax : o.length ≤ 9223372036854775807 := by unfold maxLen at hcm; omega
  have hmax2 : draws.length ≤ 9223372036854775807 := by unfold maxLen at hcm2; omega
  clear hl hl2 hdw hcm hcm2 hrd
  obtain ⟨l, er, hl⟩ : ∃ l er, drawsL o = (l, er) := ⟨_, _, rfl⟩
  have HL := hid hl
  clear hl
  obtain ⟨i0, hi0, hz0, hz1, hz2⟩ := info_parts info75
  go_enter Try.func15, Try.ntmps15
  go_wp2_with fail
  refine (draws_ok o _ w HV.out).mono ?_
  rw [HL.out]
  rintro e w1 ⟨v1, rfl, hr1, hf1⟩
  obtain ⟨A1, n1, c1, rfl⟩ := hr1.shape
  have R1 := hid hr1
  have F1 := hid hf1
  clear hr1 hf1
  simp only [tup2]
  by_cases he : er = 0
  · subst he
    have ho : o.length ≤ 16 ∧ isOrd o = true ∧ l = drawsR o.length o := by
      have := HL.out
      unfold drawsL at this
      split at this
      · simp at this
      · split at this
        · simp at this
        · rename_i h1 h2
          simp only [Prod.mk.injEq, and_true] at this
          exact ⟨by omega, by simpa using h2, this.symm⟩
    obtain ⟨ho1, ho2, ho3⟩ := ho
    have HO := hid (orderL_draws ho1 ho2)
    have HU := hid (u64_small (by rw [ho3, drawsR_len]; exact ho1) (ho3 ▸ drawsR_small (isOrd_iff.1 ho2)))
    rw [← ho3] at HO
    clear ho2 ho3
    go_wp2_with fail
    refine (order_ok o.length l _ w1 R1.out.rdU HU.out).mono ?_
    rw [HO.out]
    rintro e w2 ⟨v2, rfl, hr2, hf2⟩
    obtain ⟨A2, n2, c3, rfl⟩ := hr2.shape
    have R2 := hid hr2.rdI
    have F2 := hid (F1.out.trans hf2)
    have V2 := hid (HV.out.fr F2.out)
    clear hr2 hf2
    simp only [tup2]
    go_wp2_with fail
    refine (same_ints o o _ _ w2 R2.out V2.out).mono ?_
    rintro e w3 ⟨rfl, hf3⟩
    rw [show decide (o = o) = true from by simp]
    have FW := hid (F2.out.trans hf3)
    clear hf3
    go_wp2_with fail
    go_loopw [9, 10] (fun sv ix wr => ∃ k : Nat, ix = .int .i64 k ∧ k ≤ draws.length ∧ k ≤ 16 ∧ RowF wr (New w) 75 1 sv (us (smallN draws k)) ∧ Fr E0 w wr) (fun _ ix _ => 16 - (intOf ix).toNat)
    case atStart => exact ⟨0, rfl, Nat.zero_le _, by omega, RowF.nil, FW.out⟩
    case round =>
      obtain ⟨k, rfl, hk1, hk2, hrow, hf⟩ := hrel
      have HW := hid hrow
      have HF := hid hf
      clear hrow hf
      obtain ⟨A5, n5, c5, rfl⟩ := HW.out.shape
      obtain ⟨_, _, e5, _, _, _⟩ := HW.out.read (n := k) (by decide) (by rw [us_len, smallN_len])
      cases e5
      by_cases hlt : k < draws.length ∧ k < 16
      · obtain ⟨hlt, h16⟩ := hlt
        obtain ⟨d, hdk⟩ : ∃ d, draws[k]? = some d := ⟨draws[k], List.getElem?_eq_getElem hlt⟩
        obtain ⟨b, o2, rfl, r⟩ := HRD.out.at (fun e => by have := congrArg List.length e; rw [us_len, List.length_nil] at this; omega)
        have y1 := r.fr HF.out (fun x => x) k (.int .u64 d) (by simp only [us, List.getElem?_map, hdk, Option.map_some])
        have hd0 := HDW.out d (List.mem_of_getElem? hdk)
        have HSM := hid (show smallN draws (k + 1) = smallN draws k ++ [d % ((k : Int) + 1)] by rw [smallN_succ, List.getD_eq_getElem?_getD, hdk]; rfl)
        obtain ⟨j, hj, hjk⟩ := emod_nat d k
        rw [hj] at HSM
        have WR := hid (HW.out.fr ((Fr.refl (S := E0)).alloc (.cells #[.int .u64 (j : Int)] 75)) (fun _ _ x => x))
        clear r hdk
        go_wp2_with (at_builtin; (refine wpList_append_lies _ rfl (.tmp 47) (.tmp 56) 43 rfl 0 75 i0 (.int .u64 0) 1 8 Try.underlying43 hi0 hz0 hz1 hz2 rfl (by decide) _ k (us (smallN draws k)) rfl (WR.out.own (by decide) (by rw [us_len, smallN_len])) ⟨wr.heap.size, 0, none⟩ 1 1 [.int .u64 (j : Int)] rfl rfl (World.news_of_block (heap_alloc_new wr _)) (by simp [Value.oneCell']) (by decide) (by unfold maxLen; omega) (by omega) (Nat.zero_le _) (wr.heap.size + 1) (by simp) ?_); intro gb cp w1 hown1 hgrow1 hat1 hlt1; have HP := hid (pushed HF.out HW.out hown1 hgrow1 hat1); clear hown1 hgrow1 hat1 hlt1)
        rw [us_push, ← HSM.out] at HP
        go_roundw
        case rel => exact ⟨k + 1, by simp, by omega, by omega, HP.out.1, HP.out.2⟩
        case measure => simp [intOf]; omega
      · obtain ⟨x, hx⟩ : ∃ x, x = smallN draws k := ⟨_, rfl⟩
        have hxl : x.length = k := by rw [hx, smallN_len]
        have hsm := smallN_small draws k
        rw [← hx] at HW hsm
        obtain rfl := hxl
        have HO1 := hid (orderL_small hk2)
        have HD1 := hid (drawsL_small hsm hk2)
        have HS := hid hsm
        clear hx hsm
        have hstop : (¬ x.length < draws.length) ∨ (x.length < draws.length ∧ ¬ x.length < 16) := by omega
        clear hlt
        rcases hstop with hs1 | ⟨hs1, hs2⟩
        all_goals
          go_wp2_with fail
          refine (order_ok x.length x _ wr HW.out.rdU (u64_small hk2 HS.out)).mono ?_
          rw [HO1.out]
          rintro e w6 ⟨v6, rfl, hr6, hf6⟩
          obtain ⟨A6, n6, c6, rfl⟩ := hr6.shape
          have R6 := hid hr6.rdI
          have F6 := hid (HF.out.trans hf6)
          have W6 := hid (HW.out.rdU.fr hf6)
          clear hr6 hf6
          simp only [tup2]
          go_wp2_with fail
          refine (draws_ok _ _ w6 R6.out).mono ?_
          rw [HD1.out]
          rintro e w7 ⟨v7, rfl, hr7, hf7⟩
          obtain ⟨A7, n7, c7, rfl⟩ := hr7.shape
          have R7 := hid hr7.rdU
          have F7 := hid (F6.out.trans hf7)
          have W7 := hid (W6.out.fr hf7)
          clear hr7 hf7
          simp only [tup2]
          go_wp2_with fail
          refine (same_draws x x _ _ w7 R7.out W7.out).mono ?_
          rintro e w8 ⟨rfl, hf8⟩
          rw [show decide (x = x) = true from by simp]
          have F8 := hid (F7.out.trans hf8)
          clear hf8
          go_wp2_with fail
          refine (awake_ok w8).mono ?_
          rintro e w9 ⟨rfl, hf9⟩
          have F9 := hid (F8.out.trans hf9)
          clear hf9
          go_wp2_with fail
          go_ret
          exact ⟨rfl, F9.out⟩
  · have hb : ((er == 0) : Bool) = false := by simpa using he
    have FW := F1
    clear he
    go_wp2_with fail
    go_loopw [9, 10] (fun sv ix wr => ∃ k : Nat, ix = .int .i64 k ∧ k ≤ draws.length ∧ k ≤ 16 ∧ RowF wr (New w) 75 1 sv (us (smallN draws k)) ∧ Fr E0 w wr) (fun _ ix _ => 16 - (intOf ix).toNat)
    case atStart => exact ⟨0, rfl, Nat.zero_le _, by omega, RowF.nil, FW.out⟩
    case round =>
      obtain ⟨k, rfl, hk1, hk2, hrow, hf⟩ := hrel
      have HW := hid hrow
      have HF := hid hf
      clear hrow hf
      obtain ⟨A5, n5, c5, rfl⟩ := HW.out.shape
      obtain ⟨_, _, e5, _, _, _⟩ := HW.out.read (n := k) (by decide) (by rw [us_len, smallN_len])
      cases e5
      by_cases hlt : k < draws.length ∧ k < 16
      · obtain ⟨hlt, h16⟩ := hlt
        obtain ⟨d, hdk⟩ : ∃ d, draws[k]? = some d := ⟨draws[k], List.getElem?_eq_getElem hlt⟩
        obtain ⟨b, o2, rfl, r⟩ := HRD.out.at (fun e => by have := congrArg List.length e; rw [us_len, List.length_nil] at this; omega)
        have y1 := r.fr HF.out (fun x => x) k (.int .u64 d) (by simp only [us, List.getElem?_map, hdk, Option.map_some])
        have hd0 := HDW.out d (List.mem_of_getElem? hdk)
        have HSM := hid (show smallN draws (k + 1) = smallN draws k ++ [d % ((k : Int) + 1)] by rw [smallN_succ, List.getD_eq_getElem?_getD, hdk]; rfl)
        obtain ⟨j, hj, hjk⟩ := emod_nat d k
        rw [hj] at HSM
        have WR := hid (HW.out.fr ((Fr.refl (S := E0)).alloc (.cells #[.int .u64 (j : Int)] 75)) (fun _ _ x => x))
        clear r hdk
        go_wp2_with (at_builtin; (refine wpList_append_lies _ rfl (.tmp 47) (.tmp 56) 43 rfl 0 75 i0 (.int .u64 0) 1 8 Try.underlying43 hi0 hz0 hz1 hz2 rfl (by decide) _ k (us (smallN draws k)) rfl (WR.out.own (by decide) (by rw [us_len, smallN_len])) ⟨wr.heap.size, 0, none⟩ 1 1 [.int .u64 (j : Int)] rfl rfl (World.news_of_block (heap_alloc_new wr _)) (by simp [Value.oneCell']) (by decide) (by unfold maxLen; omega) (by omega) (Nat.zero_le _) (wr.heap.size + 1) (by simp) ?_); intro gb cp w1 hown1 hgrow1 hat1 hlt1; have HP := hid (pushed HF.out HW.out hown1 hgrow1 hat1); clear hown1 hgrow1 hat1 hlt1)
        rw [us_push, ← HSM.out] at HP
        go_roundw
        case rel => exact ⟨k + 1, by simp, by omega, by omega, HP.out.1, HP.out.2⟩
        case measure => simp [intOf]; omega
      · obtain ⟨x, hx⟩ : ∃ x, x = smallN draws k := ⟨_, rfl⟩
        have hxl : x.length = k := by rw [hx, smallN_len]
        have hsm := smallN_small draws k
        rw [← hx] at HW hsm
        obtain rfl := hxl
        have HO1 := hid (orderL_small hk2)
        have HD1 := hid (drawsL_small hsm hk2)
        have HS := hid hsm
        clear hx hsm
        have hstop : (¬ x.length < draws.length) ∨ (x.length < draws.length ∧ ¬ x.length < 16) := by omega
        clear hlt
        rcases hstop with hs1 | ⟨hs1, hs2⟩
        all_goals
          go_wp2_with fail
          refine (order_ok x.length x _ wr HW.out.rdU (u64_small hk2 HS.out)).mono ?_
          rw [HO1.out]
          rintro e w6 ⟨v6, rfl, hr6, hf6⟩
          obtain ⟨A6, n6, c6, rfl⟩ := hr6.shape
          have R6 := hid hr6.rdI
          have F6 := hid (HF.out.trans hf6)
          have W6 := hid (HW.out.rdU.fr hf6)
          clear hr6 hf6
          simp only [tup2]
          go_wp2_with fail
          refine (draws_ok _ _ w6 R6.out).mono ?_
          rw [HD1.out]
          rintro e w7 ⟨v7, rfl, hr7, hf7⟩
          obtain ⟨A7, n7, c7, rfl⟩ := hr7.shape
          have R7 := hid hr7.rdU
          have F7 := hid (F6.out.trans hf7)
          have W7 := hid (W6.out.fr hf7)
          clear hr7 hf7
          simp only [tup2]
          go_wp2_with fail
          refine (same_draws x x _ _ w7 R7.out W7.out).mono ?_
          rintro e w8 ⟨rfl, hf8⟩
          rw [show decide (x = x) = true from by simp]
          have F8 := hid (F7.out.trans hf8)
          clear hf8
          go_wp2_with fail
          refine (awake_ok w8).mono ?_
          rintro e w9 ⟨rfl, hf9⟩
          have F9 := hid (F8.out.trans hf9)
          clear hf9
          go_wp2_with fail
          go_ret
          exact ⟨rfl, F9.out⟩
end Go.Proofs.Yteffmnohgnmanaa
