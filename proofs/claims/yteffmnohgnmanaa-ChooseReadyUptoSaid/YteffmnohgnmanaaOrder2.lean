/- rotaref12.Order. -/
import Derived.Test.YteffmnohgnmanaaOrder
namespace Go.Proofs.Yteffmnohgnmanaa
open Go.RowKit
/-- The document's step, on the list as far as it is. -/
theorem ordAt_take (l : List Int) (k : Nat) (d : Int) (hk : k < l.length) (hj : (d % ((k : Int) + 1)).toNat ≤ k) :
    (((l.take k ++ [(k : Int)]).set k ((l.take k ++ [(k : Int)]).getD (d % ((k : Int) + 1)).toNat 0)).set (d % ((k : Int) + 1)).toNat k) = (ordAt l k d).take (k + 1) := by
  unfold ordAt
  generalize (d % ((k : Int) + 1)).toNat = j at *
  apply List.ext_getElem?
  intro i
  have hlen : (l.take k).length = k := by simp; omega
  simp only [List.getElem?_set, List.getElem?_take, List.length_set, List.length_append, hlen, List.length_cons, List.length_nil]
  by_cases hij : j = i
  · subst hij
    simp only [if_true]
    rw [if_pos (by omega), if_pos (by omega), if_pos (by omega)]
  · rw [if_neg hij]
    by_cases hik : k = i
    · subst hik
      simp only [if_true]
      rw [if_pos (by omega), if_pos (by omega), if_neg hij, if_pos hk]
      rw [List.getD_eq_getElem?_getD, List.getD_eq_getElem?_getD, List.getElem?_append_left (by omega), List.getElem?_take, if_pos (by omega)]
    · rw [if_neg hik]
      by_cases hlt : i < k
      · rw [List.getElem?_append_left (by omega), List.getElem?_take, if_pos hlt, if_pos (by omega), if_neg hij, if_neg hik]
      · rw [List.getElem?_append_right (by omega), if_neg (by omega), hlen, List.getElem?_eq_none (by simp; omega)]
/-- One number more behind a row of one's own. -/
theorem pushed3 {w wr w1 : World} {v : Value} {l : List Int} {k gb cp : Nat} (hf : Fr E0 w wr) (hr : RowF wr (New w) 3 1 v (ints l)) (hown : w1.ownsRow 0 3 1 (.slice (some ⟨gb, 0, none⟩) (k + 1) cp) (k + 1) (ints l ++ [.int .i64 (k : Int)])) (hg : (wr.alloc (.cells #[.int .i64 (k : Int)] 3)).grownBy w1 v.ownBlock)
    (hat : v.ownBlock = some gb ∨ gb = wr.heap.size + 1) (_hl : l.length = k) : RowF w1 (New w) 3 1 (.slice (some ⟨gb, 0, none⟩) (k + 1) cp) (ints (l ++ [(k : Int)])) ∧ Fr E0 w w1 := by
  refine ⟨⟨⟨_, by simpa [ints] using hown⟩, fun q hq => ?_⟩, ?_⟩
  · simp [Value.ownBlock] at hq; subst hq
    rcases hat with h | h
    · exact hr.2 _ h
    · subst h; have := hf.size; unfold New; omega
  · have h1 : Fr (New w) w w1 := ((hf.e0 (S := New w)).alloc _).grown hg (fun q hq => .inl (hr.2 q hq))
    exact ⟨h1.os, h1.tape, h1.output, h1.size, fun q hq _ => h1.block q hq (fun x => by unfold New at x; omega)⟩
/-- 'l[k] = l[j]; l[j] = k' on a row of one's own. -/
theorem steps3 {w w1 : World} {l : List Int} {k j gb cp : Nat} (hr : RowF w1 (New w) 3 1 (.slice (some ⟨gb, 0, none⟩) (k + 1) cp) (ints (l ++ [(k : Int)]))) (hf : Fr E0 w w1) (hl : l.length = k) (hj : j ≤ k) :
    ∃ x, Hid ((l ++ [(k : Int)])[j]? = some x) ∧ Hid (RowF ((w1.setCell ⟨gb, k, none⟩ (.int .i64 x)).setCell ⟨gb, j, none⟩ (.int .i64 (k : Int))) (New w) 3 1 (.slice (some ⟨gb, 0, none⟩) (k + 1) cp) (ints (((l ++ [(k : Int)]).set k x).set j (k : Int)))) ∧
      Hid (Fr E0 w ((w1.setCell ⟨gb, k, none⟩ (.int .i64 x)).setCell ⟨gb, j, none⟩ (.int .i64 (k : Int)))) ∧ w1.cell? ⟨gb, j, none⟩ = some (.int .i64 x) ∧ w1.cell? ⟨gb, k, none⟩ = some (.int .i64 (k : Int)) ∧ w1.frozen? ⟨gb, j, none⟩ = false ∧ w1.frozen? ⟨gb, k, none⟩ = false ∧
      ∃ y, (w1.setCell ⟨gb, k, none⟩ (.int .i64 x)).cell? ⟨gb, j, none⟩ = some y := by
  have hlen : (l ++ [(k : Int)]).length = k + 1 := by simp [hl]
  have hil : (ints (l ++ [(k : Int)])).length = k + 1 := by rw [ints_len, hlen, Nat.mul_one]
  obtain ⟨x, hx⟩ : ∃ x, (l ++ [(k : Int)])[j]? = some x := ⟨_, List.getElem?_eq_getElem (by omega)⟩
  have hk : (l ++ [(k : Int)])[k]? = some (k : Int) := by rw [List.getElem?_append_right (by omega), hl]; simp
  obtain ⟨A, c, he, _, _, hrd⟩ := hr.read (n := k + 1) (by decide) (by rw [hil, Nat.mul_one])
  cases he
  obtain ⟨b, o, he, hrd⟩ := hrd.at (fun e => by rw [e] at hil; simp at hil)
  cases he
  have z1 := hrd j (.int .i64 x) (by simp only [ints, List.getElem?_map, hx, Option.map_some])
  have z2 := hrd k (.int .i64 (k : Int)) (by simp only [ints, List.getElem?_map, hk, Option.map_some])
  simp only [Nat.zero_add] at z1 z2
  have hr1 := hr.stored (j := k) (u := .int .i64 x) (by omega)
  have hr2 := hr1.stored (j := j) (u := .int .i64 (k : Int)) (by rw [List.length_set]; omega)
  have hc := hr1.isCell (j := j) (by rw [List.length_set]; omega)
  have hb : w.heap.size ≤ gb := hr.2 gb rfl
  refine ⟨x, hid hx, hid ?_, hid ((hf.setCell (p := ⟨gb, k, none⟩) _ (.inr hb)).setCell (p := ⟨gb, j, none⟩) _ (.inr hb)), z1, z2, hr.free rfl j, hr.free rfl k, Option.isSome_iff_exists.1 hc⟩
  rw [ints_set, ints_set] at hr2
  exact hr2
set_option maxRecDepth 8000 in
set_option maxHeartbeats 1000000 in
theorem order2_ok (n : Int) (draws : List Int) (v : Value) (w : World) (hv : RdV w v 1 (us draws)) (hd : ∀ d ∈ draws, 0 ≤ d ∧ d < 18446744073709551616) :
    Calls Try.prog 35 #[.int .i64 n, v] w (OrderPost w (orderL n draws).1 (orderL n draws).2) := by
  obtain ⟨A, m, c, rfl, hl, _, _, hr⟩ := hv
  obtain rfl : draws.length = m := by simpa [us] using hl
  by_cases h1 : n < 0
  · have e : orderL n draws = ([], 1) := by unfold orderL; rw [if_pos (.inl h1)]
    rw [e]
    clear e hr hl
    go_enter Try.func35, Try.ntmps35
    go_wp2
    go_ret2
    exact ⟨_, rfl, RowF.nil, Fr.refl⟩
  by_cases h2 : 16 < n
  · have e : orderL n draws = ([], 1) := by unfold orderL; rw [if_pos (.inr h2)]
    rw [e]
    clear e hr hl
    go_enter Try.func35, Try.ntmps35
    go_wp2
    go_ret2
    exact ⟨_, rfl, RowF.nil, Fr.refl⟩
  by_cases h3 : (draws.length : Int) < n
  · have e : orderL n draws = ([], 120) := by unfold orderL; rw [if_neg (by omega), if_pos h3]
    rw [e]
    clear e hr hl
    go_enter Try.func35, Try.ntmps35
    go_wp2
    go_ret2
    exact ⟨_, rfl, RowF.nil, Fr.refl⟩
  obtain ⟨N, rfl⟩ : ∃ N : Nat, n = N := ⟨n.toNat, by omega⟩
  have e : orderL N draws = (ordN N draws N, 0) := by unfold orderL; rw [if_neg (by omega), if_neg h3]; simp
  rw [e]
  have HR := hid hr
  have HD := hid hd
  clear e hr hl hd
  obtain ⟨i0, hi0, hz0, hz1, hz2⟩ := info_parts info3
  go_enter Try.func35, Try.ntmps35
  go_wp2_with fail
  go_loopw [6, 7] (fun v i wr => ∃ k : Nat, i = .int .i64 k ∧ k ≤ N ∧ RowF wr (New w) 3 1 v (ints ((ordN N draws k).take k)) ∧ Fr E0 w wr) (fun _ i _ => N - (intOf i).toNat)
  case atStart => exact ⟨0, rfl, Nat.zero_le _, RowF.nil, Fr.refl⟩
  case round =>
    obtain ⟨k, rfl, hk, hrow, hf⟩ := hrel
    have HW := hid hrow
    have HF := hid hf
    clear hrow hf
    by_cases hlt : k < N
    · have hkd : k < draws.length := by omega
      obtain ⟨d, hdk⟩ : ∃ d, draws[k]? = some d := ⟨draws[k], List.getElem?_eq_getElem hkd⟩
      obtain ⟨b, o, rfl, r⟩ := HR.out.at (fun e => by have := congrArg List.length e; simp [us] at this; subst this; simp at hkd)
      have y1 := r.fr HF.out (fun x => x) k (.int .u64 d) (by simp [us, hdk])
      have hd0 := HD.out d (List.mem_of_getElem? hdk)
      have HK := hid hdk
      obtain ⟨j, hj⟩ : ∃ j : Nat, d % ((k : Int) + 1) = j := ⟨(d % ((k : Int) + 1)).toNat, by have := Int.emod_nonneg d (b := (k : Int) + 1) (by omega); omega⟩
      have hjk : j ≤ k := by have := Int.emod_lt_of_pos d (b := (k : Int) + 1) (by omega); omega
      have hj0 : (0 : Int) ≤ (j : Int) := by omega
      have hjl : (j : Int) < (k : Int) + 1 := by omega
      have hlen : ((ordN N draws k).take k).length = k := by rw [List.length_take, ordN_len]; omega
      have HLN := hid hlen
      have WR := hid (HW.out.fr ((Fr.refl (S := E0)).alloc (.cells #[.int .i64 (k : Int)] 3)) (fun _ _ x => x))
      have hsz := HF.out.size
      clear r hdk hlen
      go_wp2_with (at_builtin; (refine wpList_append_lies _ rfl (.tmp 33) (.tmp 35) 70 rfl 0 3 i0 (.int .i64 0) 1 8 Try.underlying70 hi0 hz0 hz1 hz2 rfl (by decide) u6 k (ints ((ordN N draws k).take k)) rfl (WR.out.own (by decide) (by rw [ints_len, HLN.out])) ⟨wr.heap.size, 0, none⟩ 1 1 [.int .i64 (k : Int)] rfl rfl (World.news_of_block (heap_alloc_new wr _)) (by simp [Value.oneCell']) (by decide) (by unfold maxLen; omega) (by omega) (Nat.zero_le _) (wr.heap.size + 1) (by simp) ?_); intro gb cp w1 hown1 hgrow1 hat1 hlt1; have HP := hid (pushed3 HF.out HW.out hown1 hgrow1 hat1 HLN.out); clear hown1 hgrow1 hat1; obtain ⟨x, HX, HW2, HF2, z1, z2, f1, f2, y', c1⟩ := steps3 HP.out.1 HP.out.2 HLN.out hjk; clear HP)
      have HE := hid (show ((((ordN N draws k).take k ++ [(k : Int)]).set k x).set j (k : Int)) = (ordN N draws (k + 1)).take (k + 1) by
        have h1 := ordAt_take (ordN N draws k) k d (by rw [ordN_len]; exact hlt) (by rw [hj]; omega)
        rw [ordN, show draws.getD k 0 = d from by rw [List.getD_eq_getElem?_getD, HK.out]; rfl, ← h1, hj, Int.toNat_natCast, List.getD_eq_getElem?_getD, HX.out]; rfl)
      go_roundw
      case rel => exact ⟨k + 1, by simp, by omega, by rw [← HE.out]; exact HW2.out, HF2.out⟩
      case measure => simp [intOf]; omega
    · obtain rfl : k = N := by omega
      clear hlt hk
      go_wp2_with fail
      go_ret2
      exact ⟨_, rfl, by have := HW.out; rw [List.take_of_length_le (by rw [ordN_len]; exact Nat.le_refl _)] at this; exact this, HF.out⟩
end Go.Proofs.Yteffmnohgnmanaa
