/- ChooseReady: the walk. -/
import Derived.Test.YteffmnohgnmanaaReadyP
import Derived.Test.YteffmnohgnmanaaLoad
import Derived.Test.YteffmnohgnmanaaFair
import Derived.Test.YteffmnohgnmanaaAwake
namespace Go.Proofs.Yteffmnohgnmanaa
open Go.RowKit
attribute [local go_sem ↓] Go.wp_at_zero Go.wp_at_succ
theorem ok_load {l : List Ch} {N : Nat} (h : loadNo l = false) (hN : ∀ c ∈ l, c.snd.length + c.rcv.length ≤ N) : Ok N l := by
  unfold loadNo at h
  rw [Bool.or_eq_false_iff, decide_eq_false_iff_not] at h
  have ha : ∀ c ∈ l, mayC c = true := by simpa using h.2
  have hb : ∀ c ∈ l, ¬ c.cap < 0 ∧ ¬ 1024 < c.cap ∧ ¬ c.cap < c.vals.length := fun c hc => by
    have := ha c hc
    unfold mayC at this
    rw [Bool.and_eq_true] at this
    have := this.1
    unfold mayA at this
    simp only [Bool.not_eq_true', Bool.or_eq_false_iff, decide_eq_false_iff_not] at this
    exact ⟨this.1.1, this.1.2, this.2⟩
  exact ⟨by omega, fun c hc => by have := hb c hc; omega, fun c hc => by have := hb c hc; omega, hN⟩
def bs (l : List Bool) : List Value := l.map Value.bool
theorem bs_len (l : List Bool) : (bs l).length = l.length * 1 := by simp [bs]
theorem info4' : (Try.prog.info? 4).map (fun i => (i.zero, i.size, i.bytes)) = some (some (.bool false), 1, 1) := by kernel_rfl
def couldL (l : List Ch) (cs : List Pk) : List Bool := cs.map (fun p => goesL l p.ch p.send)
def badL (l : List Ch) (cs : List Pk) : Bool := cs.any (fun p => decide (trapC l p.ch ≠ 0))
theorem couldL_push {l : List Ch} {cs : List Pk} {k : Nat} {p : Pk} (hp : cs[k]? = some p) : bs (couldL l (cs.take k)) ++ [.bool (goesL l p.ch p.send)] = bs (couldL l (cs.take (k + 1))) := by
  rw [List.take_add_one, hp]; simp [bs, couldL]
theorem badL_push {l : List Ch} {cs : List Pk} {k : Nat} {p : Pk} (hp : cs[k]? = some p) : badL l (cs.take (k + 1)) = (badL l (cs.take k) || decide (trapC l p.ch ≠ 0)) := by
  rw [List.take_add_one, hp]; simp [badL]
/-- The ask's box, and a case of it. -/
theorem keepA {w0 wr : World} {B n c b o k : Nat} {cs : List Pk} {p : Pk} {gs gg : Int} {dft : Bool} {dv : Value} (hG : w0.heap[B]? = some (.cells #[.int .i64 gs, .int .i64 gg, .slice (some ⟨b, o, none⟩) n c, .bool dft, dv] 45 (0, 0))) (hr : RdL w0 b o (pks cs)) (hp : cs[k]? = some p) (hf : Fr E0 w0 wr) :
    ∀ W, Fr E0 wr W → (W.cell? ⟨B, 2, none⟩ = some (.slice (some ⟨b, o, none⟩) n c) ∧ W.cell? ⟨b, o + k * 3, none⟩ = some (.bool p.send) ∧ W.cell? ⟨b, o + k * 3 + 1, none⟩ = some (.int .i64 p.ch)) := by
  intro W hW
  have hf2 := hf.trans hW
  obtain ⟨c0, c1, _⟩ := pk_at (hr.fr hf2 (fun x => x)) hp
  exact ⟨cell_of_row W _ 2 _ _ _ (hf2.heapAt hG (fun x => x)), c0, c1⟩
set_option maxRecDepth 8000 in
set_option maxHeartbeats 8000000 in
theorem ready_walk (v : Value) (ms : List CM) (x : Ask) (w : World) (h : RdCs w v ms) (hfit : ∀ m ∈ ms, m.ch.Fit) (hN : ∀ c ∈ chs ms, c.snd.length + c.rcv.length ≤ 1048576) (hx : x.Ok w) (hn : x.cases.length ≤ 1048576) :
    Calls Try.prog 16 #[v, .agg #[.int .i64 x.gs, .int .i64 x.gg, x.cv, .bool x.deflt, x.dv]] w (Ret (.bool true) E0 w) := by
  obtain ⟨gs, gg, cv, cs, dft, dv, draws⟩ := x
  obtain ⟨_, hc, _, hd, hdw⟩ := hx
  simp only at *
  obtain ⟨CA, cn, cc, rfl, hcl, hcn, hcm, hcr⟩ := hc
  obtain rfl : cs.length = cn := by rw [pks_len] at hcl; omega
  have hd0 := hid hd
  obtain ⟨DA, dn, dc, rfl, hdl, hdn, hdm, hdr⟩ := hd
  obtain rfl : draws.length = dn := by simp at hdl; omega
  obtain ⟨A, n, c, hv, _⟩ := h.row
  subst hv
  have H0 := hid h
  have HC := hid (show RdV w (.slice CA cs.length cc) 3 (pks cs) from ⟨CA, cs.length, cc, rfl, by rw [pks_len], hcn, hcm, hcr⟩)
  have HDW := hid (show ∀ d ∈ draws, 0 ≤ d ∧ d < 18446744073709551616 from fun d hd => wf_u64 (hdw d hd))
  have hdm' : draws.length ≤ 2 ^ 63 - 1 := Nat.le_trans hdn hdm
  have HRA := hid hcr
  clear h hcl hcn hcm hcr hdl hdn hdm hdr hdw
  obtain ⟨i0, hi0, hz0, hz1, hz2⟩ := info_parts info4'
  go_enter Try.func16, Try.ntmps16
  go_wp2_with fail
  have G0 := hid (heap_alloc_new w (.cells #[.int .i64 gs, .int .i64 gg, .slice CA cs.length cc, .bool dft, .slice DA draws.length dc] 45))
  have FA := hid ((Fr.refl (S := E0) (w := w)).alloc (.cells #[.int .i64 gs, .int .i64 gg, .slice CA cs.length cc, .bool dft, .slice DA draws.length dc] 45))
  have hgw := hid (show w.heap.size < (w.alloc (.cells #[.int .i64 gs, .int .i64 gg, .slice CA cs.length cc, .bool dft, .slice DA draws.length dc] 45)).heap.size by simp)
  generalize hW0 : w.alloc (.cells #[.int .i64 gs, .int .i64 gg, .slice CA cs.length cc, .bool dft, .slice DA draws.length dc] 45) = W0 at *
  clear hW0
  refine (load_ok _ ms W0 (H0.out.fr FA.out) hfit).mono ?_
  rintro e w1 ⟨hf1, ⟨_, rfl⟩ | ⟨hno, g, F, rfl, his, hnew⟩⟩
  · have F1 := hid (FA.out.trans hf1)
    clear hf1
    simp only [tup2]
    go_wp2_with fail
    refine (awake_ok _).mono ?_
    rintro e w2 ⟨rfl, hf2⟩
    have F2 := hid (F1.out.trans hf2)
    clear hf2
    go_wp2
    go_ret
    exact ⟨rfl, F2.out⟩
  · have HOK := hid (ok_load hno hN)
    have B1 := hid (show Beside W0 w1 F g (chs ms) 4 1 (.slice none 0 0) [] from Beside.start ⟨his, hnew, hf1⟩)
    clear his hnew hf1 hno hfit hN H0
    generalize chs ms = l at *
    simp only [tup2]
    go_wp2_with fail
    go_loopw [7, 8, 9] (fun cv bv iv wr => ∃ k : Nat, iv = .int .i64 k ∧ k ≤ cs.length ∧ bv = .bool (badL l (cs.take k)) ∧ Beside W0 wr F g l 4 1 cv (bs (couldL l (cs.take k)))) (fun _ _ i _ => cs.length - (intOf i).toNat)
    case atStart => exact ⟨0, rfl, Nat.zero_le _, rfl, B1.out⟩
    case round =>
      obtain ⟨k, rfl, hk, rfl, hb⟩ := hrel
      have HB := hid hb
      have G1 := hid (hb.m.fr.heapAt G0.out (fun x => x))
      obtain ⟨⟨a0, a1, a2, a3, a4⟩, _⟩ := blk5 G1.out
      clear hb
      by_cases hlt : k < cs.length
      · obtain ⟨wo, hwo⟩ : ∃ wo : World, wo = wr := ⟨_, rfl⟩
        subst hwo
        obtain ⟨p, hp⟩ : ∃ p, cs[k]? = some p := ⟨cs[k], List.getElem?_eq_getElem hlt⟩
        obtain ⟨b, o, rfl, r⟩ := (HRA.out.fr FA.out).at (fun e => by have := congrArg List.length e; rw [pks_len, List.length_nil] at this; omega)
        have KC := hid (keepA G0.out r hp HB.out.m.fr)
        cases hbd : badL l (cs.take k)
        all_goals
         have HBD := hid hbd
         clear hbd
         have HP := hid hp
         obtain ⟨cA, cp, rfl, _, _, _⟩ := HB.out.row.read (n := k) (by decide) (by rw [bs_len]; simp [couldL]; omega)
         clear r hp a0 a1 a3 a4
         have S0 := hid (KC.out _ Fr.refl.drew)
         go_upto_region 9 with fail
         go_region_held3 (fun w' => w'.cell? ⟨w.heap.size, 2, none⟩ = some (.slice (some ⟨b, o, none⟩) cs.length cc) ∧ w'.cell? ⟨b, o + k * 3, none⟩ = some (.bool p.send) ∧ w'.cell? ⟨b, o + k * 3 + 1, none⟩ = some (.int .i64 p.ch)) (with_reducible first | exact S0.out | exact S1.out) (first
           | (go_at_call 46; ((with_reducible refine (goes_all (HB.out.m.is.fr (Fr.refl (S := E0)).drew (fun _ _ x => x)) p.ch p.send).mono ?_); rintro e w2 ⟨rfl, hf2⟩); simp only [tup2]; have F2 := hid ((Fr.refl (S := E0)).drew.trans hf2); have S1 := hid (KC.out _ F2.out); clear hf2))
         all_goals
           have B2 := hid (HB.out.e0 F2.out)
           have WR := hid (B2.out.e0 ((Fr.refl (S := E0)).alloc (.cells #[.bool (goesL l p.ch p.send)] 4)))
           go_wp2_with (at_builtin; (refine wpList_append_lies _ rfl (.tmp 49) (.tmp 51) 23 rfl 0 4 i0 (.bool false) 1 1 Try.underlying23 hi0 hz0 hz1 hz2 rfl (by decide) _ k (bs (couldL l (cs.take k))) rfl (WR.out.row.own (by decide) (by rw [bs_len]; simp [couldL]; omega)) ⟨w2.heap.size, 0, none⟩ 1 1 [.bool (goesL l p.ch p.send)] rfl rfl (World.news_of_block (heap_alloc_new w2 _)) (by simp [Value.oneCell']) (by decide) (by unfold maxLen; omega) (by omega) (Nat.zero_le _) (w2.heap.size + 1) (by simp) ?_); intro gb cp3 w3 hown3 hgrow3 hat3 hlt3; have B3 := hid (B2.out.app hown3 hgrow3 hat3); clear hown3 hgrow3 hat3 hlt3)
           rw [couldL_push HP.out] at B3
           go_roundw
           case rel => exact ⟨k + 1, by simp, by omega, by rw [badL_push HP.out, HBD.out]; cases hq : (trapC l p.ch != 0) <;> simp_all, B3.out⟩
           case measure => simp [intOf]; omega
      · obtain rfl : k = cs.length := by omega
        rw [List.take_length] at HB
        clear hlt hk
        obtain ⟨LA, Lc, rfl, _, hLc, _⟩ := HB.out.row.read (n := cs.length) (by decide) (by rw [bs_len]; simp [couldL])
        rw [List.take_length]
        go_wp2_with fail
        refine (waits_all HB.out.m.is gs gg).mono ?_
        rintro e w3 ⟨rfl, hf3⟩
        have B3 := hid (HB.out.e0 hf3)
        clear hf3 a0 a1 a2 a3 a4 G1
        obtain ⟨⟨a0, a1, a2, a3, a4⟩, _⟩ := blk5 (B3.out.m.fr.heapAt G0.out (fun x => x))
        have RO := hid (show RdOut F w3 (.slice CA cs.length cc) 3 (pks cs) from HC.out.old (FA.out.trans B3.out.m.fr) (fun q hq => Nat.le_of_lt (Nat.lt_of_lt_of_le hgw.out (B3.out.m.new q hq))))
        have RDW := hid (show RdV w3 (.slice DA draws.length dc) 1 (us draws) from hd0.out.fr (FA.out.trans B3.out.m.fr))
        have READY := ready_all l gs gg cs dft draws
        rcases READY with ⟨err, h1, h2, h3⟩ | ⟨⟨h01, h02, h03⟩, h1, h3⟩ | ⟨⟨h01, h02, h03⟩, h1, kk, p, hk, hg, l', m, hm, hl, h3⟩ | ⟨⟨h01, h02, h03⟩, h1, hg, l', hl, h3⟩
        · have H3 := hid h3
          have he : (err != 0) = true := by simpa using h2
          clear h3 h2
          go_wp2_with fail
          refine (sel_all B3.out.m.is HOK.out (by decide) gs gg cs _ dft draws _ RO.out hn RDW.out HDW.out l ⟨-1, false, {}⟩ err H3.out).mono ?_
          rintro e w6 ⟨wv, rfl, hr6, hs6⟩
          obtain ⟨F6, b6, _⟩ := B3.out.step hs6
          obtain ⟨A6, n6, c6, rfl⟩ := hr6.shape
          have B6 := hid b6
          obtain ⟨⟨x0, x1, x2, x3, x4⟩, _⟩ := blk5 (b6.m.fr.heapAt G0.out (fun x => x))
          have hw6 : w.heap.size < w6.heap.size := Nat.lt_of_lt_of_le hgw.out b6.m.fr.size
          have O7 := hid (heap_alloc_new w6 (.cells #[.int .i64 (-1), .bool false, .bool false, .int .i64 0, .bool false, .int .i64 0, .slice A6 n6 c6] 47))
          obtain ⟨⟨y0, y1, y2, y3, y4, y5, y6⟩, _⟩ := blk7 O7.out
          have FZ := hid (FA.out.trans (b6.m.fr.alloc (.cells #[.int .i64 (-1), .bool false, .bool false, .int .i64 0, .bool false, .int .i64 0, .slice A6 n6 c6] 47)))
          clear hr6 hs6 b6
          simp only [tup2, Cho.val]
          rcases h1 with (h1 | h1) | h1
          · have h1' : (16 : Int) < (cs.length : Int) := by omega
            go_wp2_with fail
            all_goals (go_ret; exact ⟨rfl, FZ.out⟩)
          · have h1' : (draws.length : Int) < (cs.length : Int) := by omega
            go_wp2_with fail
            all_goals (go_ret; exact ⟨rfl, FZ.out⟩)
          · rw [h1]
            go_wp2_with fail
            all_goals (go_ret; exact ⟨rfl, FZ.out⟩)
        · have H3 := hid h3
          have hbd : badL l cs = true := by
            cases hq : badL l cs with
            | true => rfl
            | false => exact absurd (fun p hp => by unfold badL at hq; rw [List.any_eq_false] at hq; simpa using hq p hp) h1
          rw [hbd, h03]
          have z1 : ¬ (16 : Int) < (cs.length : Int) := by omega
          have z2 : ¬ (draws.length : Int) < (cs.length : Int) := by omega
          clear h3 h1 hbd h03 h01 h02
          go_wp2_with fail
          refine (sel_all B3.out.m.is HOK.out (by decide) gs gg cs _ dft draws _ RO.out hn RDW.out HDW.out l ⟨-1, false, { trap := 4 }⟩ 0 H3.out).mono ?_
          rintro e w6 ⟨wv, rfl, hr6, hs6⟩
          obtain ⟨F6, b6, _⟩ := B3.out.step hs6
          obtain ⟨A6, n6, c6, rfl⟩ := hr6.shape
          have B6 := hid b6
          obtain ⟨⟨x0, x1, x2, x3, x4⟩, _⟩ := blk5 (b6.m.fr.heapAt G0.out (fun x => x))
          have hw6 : w.heap.size < w6.heap.size := Nat.lt_of_lt_of_le hgw.out b6.m.fr.size
          have O7 := hid (heap_alloc_new w6 (.cells #[.int .i64 (-1), .bool false, .bool false, .int .i64 0, .bool false, .int .i64 4, .slice A6 n6 c6] 47))
          obtain ⟨⟨y0, y1, y2, y3, y4, y5, y6⟩, _⟩ := blk7 O7.out
          have FZ := hid (FA.out.trans (b6.m.fr.alloc (.cells #[.int .i64 (-1), .bool false, .bool false, .int .i64 0, .bool false, .int .i64 4, .slice A6 n6 c6] 47)))
          clear hr6 hs6 b6
          simp only [tup2, Cho.val]
          have z3 : ¬ (cs.length : Int) ≤ -1 := by omega
          go_wp2_with fail
          all_goals (go_ret; exact ⟨rfl, FZ.out⟩)
        · obtain ⟨mw, mv, mo, mt, mk⟩ := m
          simp only at hm
          subst hm
          have H3 := hid h3
          have HL := hid hl
          have hbd : badL l cs = false := by unfold badL; rw [List.any_eq_false]; intro p hp; simp [h1 p hp]
          rw [hbd, h03]
          have z1 : ¬ (16 : Int) < (cs.length : Int) := by omega
          have z2 : ¬ (draws.length : Int) < (cs.length : Int) := by omega
          have hkl := (List.getElem?_eq_some_iff.1 hk).1
          have hcg : (bs (couldL l cs))[kk]? = some (.bool true) := by simp [bs, couldL, hk, hg]
          clear h3 h1 hbd h03 h01 h02 hl hk hg
          go_wp2_with fail
          refine (sel_all B3.out.m.is HOK.out (by decide) gs gg cs _ dft draws _ RO.out hn RDW.out HDW.out l' ⟨(kk : Int), false, ⟨false, mv, mo, mt, mk⟩⟩ 0 H3.out).mono ?_
          rintro e w6 ⟨wv, rfl, hr6, hs6⟩
          obtain ⟨F6, b6, _⟩ := B3.out.step hs6
          obtain ⟨A6, n6, c6, rfl⟩ := hr6.shape
          have B6 := hid b6
          obtain ⟨⟨x0, x1, x2, x3, x4⟩, _⟩ := blk5 (b6.m.fr.heapAt G0.out (fun x => x))
          have hw6 : w.heap.size < w6.heap.size := Nat.lt_of_lt_of_le hgw.out b6.m.fr.size
          have O7 := hid (heap_alloc_new w6 (.cells #[.int .i64 (kk : Int), .bool false, .bool false, .int .i64 mv, .bool mo, .int .i64 mt, .slice A6 n6 c6] 47))
          obtain ⟨⟨y0, y1, y2, y3, y4, y5, y6⟩, _⟩ := blk7 O7.out
          have FZ := hid (FA.out.trans (b6.m.fr.alloc (.cells #[.int .i64 (kk : Int), .bool false, .bool false, .int .i64 mv, .bool mo, .int .i64 mt, .slice A6 n6 c6] 47)))
          clear hr6 hs6 b6
          simp only [tup2, Cho.val]
          have z3 : ¬ (cs.length : Int) ≤ (kk : Int) := by omega
          have z4 : ¬ (kk : Int) < -1 := by omega
          have z5 : (0 : Int) ≤ (kk : Int) := by omega
          rcases B6.out.row.form (n := cs.length) (by decide) (by rw [bs_len]; simp [couldL]) with ⟨_, h0, _⟩ | ⟨gb, cq, ev, _, hgl, _, _, hrd, _⟩
          · omega
          cases ev
          have yk := hrd kk _ hcg
          simp only [Nat.zero_add] at yk
          clear hcg hrd
          go_wp2_with fail
          refine (waits_all (B6.out.m.is.fr ((Fr.refl (S := E0)).alloc _) (fun _ _ x => x)) gs gg).mono ?_
          rintro e w8 ⟨rfl, hf8⟩
          rw [HL.out]
          have FY := hid (FZ.out.trans hf8)
          clear hf8
          go_wp2_with fail
          all_goals (go_ret; exact ⟨rfl, FY.out⟩)
        · have H3 := hid h3
          have HL := hid hl
          have hbd : badL l cs = false := by unfold badL; rw [List.any_eq_false]; intro p hp; simp [h1 p hp]
          have HG := hid (show ∀ (k : Nat) (p : Pk), cs[k]? = some p → (bs (couldL l cs))[k]? = some (.bool false) from fun k p hp => by simp [bs, couldL, hp, hg p (List.mem_of_getElem? hp)])
          rw [hbd, h03]
          have z1 : ¬ (16 : Int) < (cs.length : Int) := by omega
          have z2 : ¬ (draws.length : Int) < (cs.length : Int) := by omega
          clear h3 h1 hbd h03 h01 h02 hl hg
          go_wp2_with fail
          refine (sel_all B3.out.m.is HOK.out (by decide) gs gg cs _ dft draws _ RO.out hn RDW.out HDW.out l' ⟨-1, dft, { waits := !dft }⟩ 0 H3.out).mono ?_
          rintro e w6 ⟨wv, rfl, hr6, hs6⟩
          obtain ⟨F6, b6, _⟩ := B3.out.step hs6
          obtain ⟨A6, n6, c6, rfl⟩ := hr6.shape
          have B6 := hid b6
          obtain ⟨⟨x0, x1, x2, x3, x4⟩, _⟩ := blk5 (b6.m.fr.heapAt G0.out (fun x => x))
          have hw6 : w.heap.size < w6.heap.size := Nat.lt_of_lt_of_le hgw.out b6.m.fr.size
          have O7 := hid (heap_alloc_new w6 (.cells #[.int .i64 (-1), .bool dft, .bool (!dft), .int .i64 0, .bool false, .int .i64 0, .slice A6 n6 c6] 47))
          obtain ⟨⟨y0, y1, y2, y3, y4, y5, y6⟩, _⟩ := blk7 O7.out
          have FZ := hid (FA.out.trans (b6.m.fr.alloc (.cells #[.int .i64 (-1), .bool dft, .bool (!dft), .int .i64 0, .bool false, .int .i64 0, .slice A6 n6 c6] 47)))
          clear hr6 hs6 b6
          simp only [tup2, Cho.val]
          have z3 : ¬ (cs.length : Int) ≤ -1 := by omega
          obtain ⟨_, _, ev, _, _, hra⟩ := B6.out.row.read (n := cs.length) (by decide) (by rw [bs_len]; simp [couldL])
          cases ev
          have RC := hid (hra.fr ((Fr.refl (S := E0) (w := w6)).alloc (.cells #[.int .i64 (-1), .bool dft, .bool (!dft), .int .i64 0, .bool false, .int .i64 0, .slice A6 n6 c6] 47)))
          have BX := hid (((Fr.refl (S := E0) (w := w6)).alloc (.cells #[.int .i64 (-1), .bool dft, .bool (!dft), .int .i64 0, .bool false, .int .i64 0, .slice A6 n6 c6] 47)).heapAt (B6.out.m.fr.heapAt G0.out (fun x => x)) (fun x => x))
          have RCS := hid ((HRA.out.fr FA.out).fr (B6.out.m.fr.alloc (.cells #[.int .i64 (-1), .bool dft, .bool (!dft), .int .i64 0, .bool false, .int .i64 0, .slice A6 n6 c6] 47)))
          have B7 := hid (B6.out.e0 ((Fr.refl (S := E0)).alloc (.cells #[.int .i64 (-1), .bool dft, .bool (!dft), .int .i64 0, .bool false, .int .i64 0, .slice A6 n6 c6] 47)))
          clear hra
          go_upto_region 22 with fail
          generalize w6.alloc (.cells #[.int .i64 (-1), .bool dft, .bool (!dft), .int .i64 0, .bool false, .int .i64 0, .slice A6 n6 c6] 47) = W7 at *
          clear x0 x1 x2 x3 x4 y0 y1 y2 y3 y4 y5 y6
          go_wp2_with fail
          go_loopw [15, 16] (fun nv iv wr => ∃ k : Nat, iv = .int .i64 k ∧ k ≤ cs.length ∧ nv = .bool ((cs.take k).any (fun p => decide (p.ch ≠ 0))) ∧ Fr E0 W7 wr) (fun _ i _ => cs.length - (intOf i).toNat)
          case atStart => exact ⟨0, rfl, Nat.zero_le _, rfl, Fr.refl⟩
          case round =>
            obtain ⟨k, rfl, hk, rfl, hf⟩ := hrel
            have HF := hid hf
            obtain ⟨⟨a0, a1, a2, a3, a4⟩, _⟩ := blk5 (hf.heapAt BX.out (fun x => x))
            clear hf
            by_cases hlt : k < cs.length
            · obtain ⟨p, hp⟩ : ∃ p, cs[k]? = some p := ⟨cs[k], List.getElem?_eq_getElem hlt⟩
              obtain ⟨b, o, rfl, r⟩ := (RCS.out.fr HF.out).at (fun e => by have := congrArg List.length e; rw [pks_len, List.length_nil] at this; omega)
              obtain ⟨c0, c1, _⟩ := pk_at r hp
              obtain ⟨gb, og, rfl, r2⟩ := (RC.out.fr HF.out).at (fun e => by have := congrArg List.length e; rw [bs_len, List.length_nil, couldL, List.length_map] at this; omega)
              have yk := r2 k _ (HG.out k p hp)
              have hnx : (cs.take (k + 1)).any (fun p => decide (p.ch ≠ 0)) = ((cs.take k).any (fun p => decide (p.ch ≠ 0)) || decide (p.ch ≠ 0)) := by rw [List.take_add_one, hp]; simp
              have HNX := hid hnx
              clear r r2 hp hnx
              cases hbd : (cs.take k).any (fun p => decide (p.ch ≠ 0))
              all_goals
                have HBD := hid hbd
                clear hbd
                go_wp2_with fail
                go_roundw
                case rel => exact ⟨k + 1, by simp, by omega, by rw [HNX.out, HBD.out]; cases hq : (p.ch != 0) <;> simp_all, HF.out⟩
                case measure => simp [intOf]; omega
            · obtain rfl : k = cs.length := by omega
              rw [List.take_length]
              clear hlt hk
              obtain ⟨⟨y0, y1, y2, y3, y4, y5, y6⟩, _⟩ := blk7 (HF.out.heapAt O7.out (fun x => x))
              have FX := hid (FZ.out.trans HF.out)
              cases hnm : cs.any (fun p => decide (p.ch ≠ 0))
              all_goals
                rw [hnm] at HL
                clear hnm
                cases dft
                all_goals
                  simp only [Bool.not_true, Bool.not_false, Bool.and_true, Bool.and_false] at *
                  go_wp2_with fail
                  refine (waits_all (B7.out.m.is.fr HF.out (fun _ _ x => x)) gs gg).mono ?_
                  rintro e w8 ⟨rfl, hf8⟩
                  rw [HL.out]
                  have FY := hid (FX.out.trans hf8)
                  obtain ⟨⟨d0, d1, d2, d3, d4⟩, _⟩ := blk5 (hf8.heapAt (HF.out.heapAt BX.out (fun x => x)) (fun x => x))
                  clear hf8
                  go_wp2_with fail
                  all_goals (go_ret; exact ⟨rfl, FY.out⟩)
end Go.Proofs.Yteffmnohgnmanaa
