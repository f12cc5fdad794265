/- rotalaw11.spoil: the walk. Printed by wip/gen/spoil.py. -/
import Derived.Test.YteffmnohgnmanaaSpoilPC
namespace Go.Proofs.Yteffmnohgnmanaa
open Go.RowKit
set_option linter.unusedVariables false
attribute [local go_sem ↓] Go.wp_at_zero Go.wp_at_succ
theorem newsAt (w : World) (L o : Nat) (u : Value) (cs : Array Value) (t : TypeId) : ((w.setCell ⟨L, o, none⟩ u).alloc (.cells cs t)).heap[w.heap.size]? = some (.cells cs t (0, 0)) := by
  have h := heap_alloc_new (w.setCell ⟨L, o, none⟩ u) (.cells cs t)
  simpa using h
def SpoilPost (F : Nat → Prop) (w : World) (e : Ending) (w' : World) : Prop := e = .returned (.tuple #[]) ∧ Fr F w w'
set_option maxRecDepth 8000 in
set_option maxHeartbeats 8000000 in
theorem spoil_ok {w : World} {F : Nat → Prop} {v : Value} {ms : List CM} {B : Nat} (h : OwnCs w F v ms) (hb : ∀ q ∈ ms, BigN B q) (hB : B ≤ 8388608) (hn : ms.length ≤ 1572864) : Calls Try.prog 44 #[v] w (SpoilPost F w) := by
  have S0 := hid (Sp.start h hb)
  obtain ⟨A, c, rfl, _⟩ := h.row.read (n := ms.length) (by decide) (cms_len ms)
  obtain ⟨N, hN⟩ : ∃ N, N = ms.length := ⟨_, rfl⟩
  rw [← hN] at S0 hn ⊢
  clear hN h hb
  obtain ⟨i0, hi0, hz0, hz1, hz2⟩ := info_parts info2'
  obtain ⟨i1, ji0, jz0, jz1, jz2⟩ := info_parts info114
  go_enter Try.func44, Try.ntmps44
  go_wp2_with fail
  go_loopw [2] (fun i wr => ∃ (k : Nat) (ms1 : List CM), i = .int .i64 k ∧ k ≤ N ∧ Sp w F (.slice A N c) N B k wr ms1) (fun i _ => N - (intOf i).toNat)
  case atStart => exact ⟨0, ms, rfl, Nat.zero_le _, S0.out⟩
  case round =>
    obtain ⟨k, ms1, rfl, hk, hs⟩ := hrel
    have S1 := hid hs
    clear hs S0
    by_cases hlt : k < N
    · obtain ⟨m1, hm1⟩ := S1.out.get hlt
      obtain ⟨L, cp, e1, _, c1, c2, c3⟩ := S1.out.at hm1
      cases e1
      obtain ⟨KA, kc, ek⟩ := S1.out.hdV hm1
      rw [ek] at c1
      have HK1 := hid hm1
      have EK := hid ek
      have HB1 := hid (S1.out.big k m1 hm1 (Nat.le_refl _))
      have hb1 := HB1.out.1
      generalize m1.ch.vals.length = n1 at *
      clear hm1 ek
      go_wp2_with fail
      obtain ⟨w1, hw1⟩ : ∃ w1 : World, w1 = wr := ⟨_, rfl⟩
      subst hw1
      go_loopw [3] (fun i wr => ∃ (t : Nat) (ms2 : List CM) (m2 : CM), i = .int .i64 t ∧ t ≤ n1 ∧ Sp w F (.slice (some ⟨L, 0, none⟩) N c) N B k wr ms2 ∧ ms2[k]? = some m2 ∧ m2.vv = .slice KA n1 kc) (fun i _ => n1 - (intOf i).toNat)
      case atStart => exact ⟨0, ms1, m1, rfl, Nat.zero_le _, S1.out, HK1.out, EK.out⟩
      case round =>
        obtain ⟨t, ms2, m2, rfl, ht, hs, hm, hv⟩ := hrel
        have S2 := hid hs
        have HK2 := hid hm
        have EV := hid hv
        clear hs hm hv c1 c2 c3
        obtain ⟨_, _, e1, _, c1, c2, c3⟩ := S2.out.at HK2.out
        cases e1
        rw [EV.out] at c1
        by_cases htl : t < n1
        · obtain ⟨hl, hA⟩ := S2.out.lnV HK2.out EV.out
          obtain ⟨g, rfl⟩ := hA (by omega)
          obtain ⟨⟨x, cx⟩, fx, m9, s9, k9, v9⟩ := S2.out.stV HK2.out EV.out (j := t) (by rw [hl]; exact htl)
          have S9 := hid s9
          have K9 := hid k9
          have V9 := hid (v9.trans EV.out)
          clear s9 k9 v9 hA hl
          go_wp2_with fail
          go_roundw
          case rel => exact ⟨t + 1, _, m9, by simp, by omega, S9.out, K9.out, V9.out⟩
          case measure => simp [intOf]; omega
        · obtain rfl : t = n1 := by omega
          clear htl ht
          obtain ⟨TA, tc, et⟩ := S2.out.hdS HK2.out
          have HB2 := hid (S2.out.big k m2 HK2.out (Nat.le_refl _))
          have hb2 := HB2.out.2.1
          have ET := hid et
          obtain ⟨_, _, e1, _, c1, c2, c3⟩ := S2.out.at HK2.out
          cases e1
          rw [et] at c2
          generalize m2.ch.snd.length = n2 at *
          clear et
          clear EK
          have EK := ET
          clear ET
          obtain ⟨KA, hKA⟩ : ∃ KA, KA = TA := ⟨_, rfl⟩
          subst hKA
          obtain ⟨kc, hkc⟩ : ∃ kc, kc = tc := ⟨_, rfl⟩
          subst hkc
          go_wp2_with fail
          obtain ⟨w2, hw2⟩ : ∃ w2 : World, w2 = wr := ⟨_, rfl⟩
          subst hw2
          go_loopw [4] (fun i wr => ∃ (t : Nat) (ms2 : List CM) (m2 : CM), i = .int .i64 t ∧ t ≤ n2 ∧ Sp w F (.slice (some ⟨L, 0, none⟩) N c) N B k wr ms2 ∧ ms2[k]? = some m2 ∧ m2.sv = .slice KA n2 kc) (fun i _ => n2 - (intOf i).toNat)
          case atStart => exact ⟨0, ms2, m2, rfl, Nat.zero_le _, S2.out, HK2.out, EK.out⟩
          case round =>
            obtain ⟨t, ms3, m3, rfl, ht, hs, hm, hv⟩ := hrel
            have S3 := hid hs
            have HK3 := hid hm
            have EV := hid hv
            clear hs hm hv c1 c2 c3
            obtain ⟨_, _, e1, _, c1, c2, c3⟩ := S3.out.at HK3.out
            cases e1
            rw [EV.out] at c2
            by_cases htl : t < n2
            · obtain ⟨hl, hA⟩ := S3.out.lnS HK3.out EV.out
              obtain ⟨g, rfl⟩ := hA (by omega)
              obtain ⟨⟨x, cx⟩, fx, m9, s9, k9, v9⟩ := S3.out.stS HK3.out EV.out (j := t) (by rw [hl]; exact htl)
              have S9 := hid s9
              have K9 := hid k9
              have V9 := hid (v9.trans EV.out)
              clear s9 k9 v9 hA hl
              go_wp2_with fail
              go_roundw
              case rel => exact ⟨t + 1, _, m9, by simp, by omega, S9.out, K9.out, V9.out⟩
              case measure => simp [intOf]; omega
            · obtain rfl : t = n2 := by omega
              clear htl ht
              obtain ⟨TA, tc, et⟩ := S3.out.hdR HK3.out
              have HB3 := hid (S3.out.big k m3 HK3.out (Nat.le_refl _))
              have hb3 := HB3.out.2.2
              have ET := hid et
              obtain ⟨_, _, e1, _, c1, c2, c3⟩ := S3.out.at HK3.out
              cases e1
              rw [et] at c3
              generalize m3.ch.rcv.length = n3 at *
              clear et
              clear EK
              have EK := ET
              clear ET
              obtain ⟨KA, hKA⟩ : ∃ KA, KA = TA := ⟨_, rfl⟩
              subst hKA
              obtain ⟨kc, hkc⟩ : ∃ kc, kc = tc := ⟨_, rfl⟩
              subst hkc
              go_wp2_with fail
              obtain ⟨w3, hw3⟩ : ∃ w3 : World, w3 = wr := ⟨_, rfl⟩
              subst hw3
              go_loopw [5] (fun i wr => ∃ (t : Nat) (ms2 : List CM) (m2 : CM), i = .int .i64 t ∧ t ≤ n3 ∧ Sp w F (.slice (some ⟨L, 0, none⟩) N c) N B k wr ms2 ∧ ms2[k]? = some m2 ∧ m2.rv = .slice KA n3 kc) (fun i _ => n3 - (intOf i).toNat)
              case atStart => exact ⟨0, ms3, m3, rfl, Nat.zero_le _, S3.out, HK3.out, EK.out⟩
              case round =>
                obtain ⟨t, ms4, m4, rfl, ht, hs, hm, hv⟩ := hrel
                have S4 := hid hs
                have HK4 := hid hm
                have EV := hid hv
                clear hs hm hv c1 c2 c3
                obtain ⟨_, _, e1, _, c1, c2, c3⟩ := S4.out.at HK4.out
                cases e1
                rw [EV.out] at c3
                by_cases htl : t < n3
                · obtain ⟨hl, hA⟩ := S4.out.lnR HK4.out EV.out
                  obtain ⟨g, rfl⟩ := hA (by omega)
                  obtain ⟨⟨x, cx⟩, fx, m9, s9, k9, v9⟩ := S4.out.stR HK4.out EV.out (j := t) (by rw [hl]; exact htl)
                  have S9 := hid s9
                  have K9 := hid k9
                  have V9 := hid (v9.trans EV.out)
                  clear s9 k9 v9 hA hl
                  go_wp2_with fail
                  go_roundw
                  case rel => exact ⟨t + 1, _, m9, by simp, by omega, S9.out, K9.out, V9.out⟩
                  case measure => simp [intOf]; omega
                · obtain rfl : t = n3 := by omega
                  clear htl ht
                  have HB4 := hid (S4.out.big k m4 HK4.out (Nat.le_refl _))
                  go_wp2_with fail
                  obtain ⟨w4, hw4⟩ : ∃ w4 : World, w4 = wr := ⟨_, rfl⟩
                  subst hw4
                  go_loopw [6] (fun i wr => ∃ (t : Nat) (ms2 : List CM) (m2 : CM), i = .int .i64 t ∧ t ≤ 8 ∧ Sp w F (.slice (some ⟨L, 0, none⟩) N c) N B (k + 1) wr ms2 ∧ ms2[k]? = some m2 ∧ BigN (B + t) m2) (fun i _ => 8 - (intOf i).toNat)
                  case atStart => exact ⟨0, ms4, m4, rfl, by omega, S4.out.next, HK4.out, HB4.out⟩
                  case round =>
                    obtain ⟨t, ms5, m5, rfl, ht, hs, hm, hb⟩ := hrel
                    have S5 := hid hs
                    clear c1 c2 c3 S4 HK4 HB4 EV EK S1 HK1 HB1 S2 S3 HB2 HB3 HK2 HK3
                    by_cases htl : t < 8
                    · obtain ⟨VA, vc, ev⟩ := hs.hdV hm
                      obtain ⟨SA, sc, es⟩ := hs.hdS hm
                      obtain ⟨RA, rc, er⟩ := hs.hdR hm
                      obtain ⟨⟨cap, vals, snd, rcv, cl⟩, vv, sv, rv⟩ := m5
                      simp only at ev es er
                      subst ev es er
                      have HM := hid hm
                      obtain ⟨b1, b2, b3⟩ := hb
                      simp only at b1 b2 b3
                      obtain ⟨_, _, e1, _, c1, c2, c3⟩ := hs.at hm
                      cases e1
                      simp only at c1 c2 c3
                      have OV := hid (((hs.own.each _ (List.mem_of_getElem? hm)).vals.fr ((Fr.refl (S := E0)).alloc (.cells #[.int .i64 (-78)] 2)) (fun _ _ x => x)).own (n := vals.length) (by decide) (ints_len _))
                      clear hs hm
                      go_wp2_with (at_builtin; first
                        | ((refine wpList_append_lies _ rfl (.tmp 76) (.tmp 77) 22 rfl 0 2 i0 (.int .i64 0) 1 8 Try.underlying22 hi0 hz0 hz1 hz2 rfl (by decide) (.slice VA vals.length vc) vals.length (ints vals) rfl OV.out ⟨wr.heap.size, 0, none⟩ 1 1 [.int .i64 (-78)] rfl rfl (World.news_of_block (heap_alloc_new wr _)) (by simp [Value.oneCell']) (by decide) (by unfold maxLen; omega) (by omega) (Nat.zero_le _) (wr.heap.size + 1) (by simp) ?_); intro gb1 cp1 w5 hown1 hgrow1 hat1 hlt1; obtain ⟨S6, x1, x2, x3, x4⟩ := S5.out.apV HM.out hown1 hgrow1 hat1; simp only at x1 x2 x3; clear hown1 hgrow1 hat1 hlt1 c1 c2 c3; have HM6 := hid (List.getElem?_set_self (a := CM.setV ⟨⟨cap, vals, snd, rcv, cl⟩, .slice VA vals.length vc, .slice SA snd.length sc, .slice RA rcv.length rc⟩ (.slice (some ⟨gb1, 0, none⟩) (vals.length + 1) cp1) (vals ++ [-78])) (lt_of_get HM.out)); have OS := hid (((S6.out.own.each _ (List.mem_of_getElem? HM6.out)).snd.fr ((Fr.refl (S := E0)).alloc (.cells #[.int .i64 0, .int .i64 0, .int .i64 (-78), .int .i64 0] 114)) (fun _ _ x => x)).own (n := snd.length) (by decide) (wts_len _)))
                        | ((refine wpList_append_lies _ rfl (.tmp 87) (.tmp 89) 65 rfl 0 114 i1 (.agg #[.int .i64 0, .int .i64 0, .int .i64 0, .int .i64 0]) 4 32 Try.underlying65 ji0 jz0 jz1 jz2 rfl (by decide) (.slice SA snd.length sc) snd.length (wts snd) rfl OS.out ⟨w5.heap.size, 0, none⟩ 1 1 [.int .i64 0, .int .i64 0, .int .i64 (-78), .int .i64 0] rfl rfl (World.news_of_block (newsAt w5 _ _ _ _ _)) (by simp [Value.oneCell']) (by decide) (by unfold maxLen; omega) (by omega) (Nat.zero_le _) (w5.heap.size + 1) (by simp) ?_); intro gb2 cp2 w6 hown1 hgrow1 hat1 hlt1; obtain ⟨S7, y1, y2, y3, y4⟩ := S6.out.apS HM6.out hown1 hgrow1 (hat1.imp (fun e => e) (fun e => e.trans (by simp))); simp only [CM.setV] at y1 y2 y3; clear hown1 hgrow1 hat1 hlt1 x1 x2 x3 x4; obtain ⟨x1, x2, x3, x4⟩ := (show _ ∧ _ ∧ _ ∧ _ from ⟨y1, y2, y3, y4⟩); clear y1 y2 y3 y4; have HM7 := hid (List.getElem?_set_self (a := CM.setS (CM.setV ⟨⟨cap, vals, snd, rcv, cl⟩, .slice VA vals.length vc, .slice SA snd.length sc, .slice RA rcv.length rc⟩ (.slice (some ⟨gb1, 0, none⟩) (vals.length + 1) cp1) (vals ++ [-78])) (.slice (some ⟨gb2, 0, none⟩) (snd.length + 1) cp2) (snd ++ [⟨0, 0, -78, 0⟩])) (lt_of_get HM6.out)); have OR := hid (((S7.out.own.each _ (List.mem_of_getElem? HM7.out)).rcv.fr ((Fr.refl (S := E0)).alloc (.cells #[.int .i64 0, .int .i64 0, .int .i64 (-78), .int .i64 0] 114)) (fun _ _ x => x)).own (n := rcv.length) (by decide) (wts_len _)))
                        | ((refine wpList_append_lies _ rfl (.tmp 99) (.tmp 101) 65 rfl 0 114 i1 (.agg #[.int .i64 0, .int .i64 0, .int .i64 0, .int .i64 0]) 4 32 Try.underlying65 ji0 jz0 jz1 jz2 rfl (by decide) (.slice RA rcv.length rc) rcv.length (wts rcv) rfl OR.out ⟨w6.heap.size, 0, none⟩ 1 1 [.int .i64 0, .int .i64 0, .int .i64 (-78), .int .i64 0] rfl rfl (World.news_of_block (newsAt w6 _ _ _ _ _)) (by simp [Value.oneCell']) (by decide) (by unfold maxLen; omega) (by omega) (Nat.zero_le _) (w6.heap.size + 1) (by simp) ?_); intro gb3 cp3 w7 hown1 hgrow1 hat1 hlt1; obtain ⟨S8, y1, y2, y3, y4⟩ := S7.out.apR HM7.out hown1 hgrow1 (hat1.imp (fun e => e) (fun e => e.trans (by simp))); simp only [CM.setV, CM.setS] at y1 y2 y3; clear hown1 hgrow1 hat1 hlt1 x1 x2 x3 x4; obtain ⟨x1, x2, x3, x4⟩ := (show _ ∧ _ ∧ _ ∧ _ from ⟨y1, y2, y3, y4⟩); clear y1 y2 y3 y4; have HM8 := hid (List.getElem?_set_self (a := CM.setR (CM.setS (CM.setV ⟨⟨cap, vals, snd, rcv, cl⟩, .slice VA vals.length vc, .slice SA snd.length sc, .slice RA rcv.length rc⟩ (.slice (some ⟨gb1, 0, none⟩) (vals.length + 1) cp1) (vals ++ [-78])) (.slice (some ⟨gb2, 0, none⟩) (snd.length + 1) cp2) (snd ++ [⟨0, 0, -78, 0⟩])) (.slice (some ⟨gb3, 0, none⟩) (rcv.length + 1) cp3) (rcv ++ [⟨0, 0, -78, 0⟩])) (lt_of_get HM7.out))))
                      go_roundw
                      case rel => exact ⟨t + 1, _, _, by simp, by omega, S8.out, HM8.out, by simp [CM.setV, CM.setS, CM.setR]; omega, by simp [CM.setV, CM.setS, CM.setR]; omega, by simp [CM.setV, CM.setS, CM.setR]; omega⟩
                      case measure => simp [intOf]; omega
                    · obtain rfl : t = 8 := by omega
                      go_wp2_with fail
                      go_roundw
                      case rel => exact ⟨k + 1, ms5, by simp, by omega, S5.out⟩
                      case measure => simp [intOf]; omega
    · obtain rfl : k = N := by omega
      go_wp2_with fail
      go_end0
      exact ⟨rfl, S1.out.fr⟩
end Go.Proofs.Yteffmnohgnmanaa

