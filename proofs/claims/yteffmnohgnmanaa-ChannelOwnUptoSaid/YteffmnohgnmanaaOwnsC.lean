/- ChannelOwn: the walk. -/
import Derived.Test.YteffmnohgnmanaaSpoilC
import Derived.Test.YteffmnohgnmanaaLoadsC
namespace Go.Proofs.Yteffmnohgnmanaa
open Go.RowKit
set_option linter.unusedVariables false
attribute [local go_sem ↓] Go.wp_at_zero Go.wp_at_succ
theorem Play.off {w0 w w' : World} {F G S : Nat → Prop} {g N : Nat} {v : Value} {l : List Ch} (h : Play w0 w F G g v l N) (hf : Fr S w w') (h1 : ∀ k, F k → ¬ S k) (h2 : ∀ k, G k → ¬ S k) (h3 : ∀ k, S k → w0.heap.size ≤ k) : Play w0 w' F G g v l N :=
  ⟨h.both.far hf h1 h2, h.newF, h.newG, h.fr.trans' hf (fun k hk => .inr (h3 k hk)), h.ok⟩
theorem bigN_of {ms : List CM} {l : List Ch} (hc : chs ms = l) (hb : ∀ c ∈ l, BigC c) : ∀ q ∈ ms, BigN 4194304 q := fun q hq => hb q.ch (by rw [← hc]; exact List.mem_map.2 ⟨q, hq, rfl⟩)
set_option maxRecDepth 8000 in
set_option maxHeartbeats 8000000 in
theorem owns_walk (v sv : Value) (ms : List CM) (acts : List ActD) (w : World) (h : RdCs w v ms) (hn : ms.length ≤ 1572864) (hfit : ∀ c ∈ chs ms, BigC c) (hN : ∀ c ∈ chs ms, c.snd.length + c.rcv.length ≤ 1048576) (hs : RdV w sv 7 (actsV acts)) (hsz : acts.length ≤ 1048576) :
    Calls Try.prog 13 #[v, sv] w (Ret (.bool true) E0 w) := by
  obtain ⟨A, n, c, rfl, hl, _, _, hr⟩ := hs
  obtain rfl : acts.length = n := by rw [actsV_len] at hl; omega
  have HR := hid hr
  have H0 := hid h
  have HB := hid hfit
  have HN := hid hN
  obtain ⟨A0, n0, c0, hv, _⟩ := h.row
  subst hv
  clear hl hr h hfit hN
  go_enter Try.func13, Try.ntmps13
  go_wp2_with fail
  refine (copy_ok ms _ w H0.out hn (fun m hm => HB.out m.ch (List.mem_map.2 ⟨m, hm, rfl⟩))).mono ?_
  rintro e w1 ⟨v5, ms5, rfl, hc5, ho5, hf1⟩
  obtain ⟨A5, n5, c5, rfl⟩ := ho5.row.shape
  have O1 := hid ho5.restrict
  have C5 := hid hc5
  have F1 := hid hf1
  have B5 := hid (bigN_of hc5 HB.out)
  have N5 := hid (show ms5.length ≤ 1572864 by have := congrArg List.length hc5; simp only [chs_len] at this; omega)
  have key := hid (show Calls Try.prog 40 #[.slice A5 n5 c5] w1 (LoadPost (chs ms) w1) from hc5 ▸ load_ok _ ms5 w1 ho5.rd (fun m hm => by
    obtain ⟨h1, h2, h3⟩ := B5.out m hm
    exact ⟨by omega, by omega, by omega⟩))
  clear hc5 ho5 hf1
  go_wp2_with fail
  refine key.out.mono ?_
  clear key
  rintro e w2 ⟨hf2, ⟨hno, rfl⟩ | ⟨hno, g, F, rfl, his, hnew⟩⟩
  · have F2 := hid (F1.out.trans hf2)
    have O2 := hid (O1.out.fr hf2 (fun _ _ x => x))
    have HNO := hid hno
    clear hf2 hno
    simp only [tup2]
    go_wp2_with fail
    refine (rload_ok (H0.out.fr F2.out) HB.out).mono ?_
    rintro e w3 ⟨hf3, ⟨_, rfl⟩ | ⟨hno3, _⟩⟩
    · have F3 := hid (F2.out.trans hf3)
      have O3 := hid (O2.out.fr hf3 (fun _ _ x => x))
      clear hf3
      simp only [tup2]
      go_wp2_with fail
      refine (same_cs (chs ms) ms5 ms _ _ w3 O3.out.rd (H0.out.fr F3.out) C5.out rfl).mono ?_
      rintro e w4 ⟨rfl, hf4⟩
      have F4 := hid (F3.out.trans hf4)
      clear hf4
      go_wp2_with fail
      refine (lives_ok w4).mono ?_
      rintro e w5 ⟨rfl, hf5⟩
      have F5 := hid (F4.out.trans hf5)
      clear hf5
      go_wp2_with fail
      go_ret
      exact ⟨rfl, F5.out⟩
    · rw [HNO.out] at hno3; cases hno3
  · have F2 := hid (F1.out.trans hf2)
    have O2 := hid (O1.out.fr hf2 (fun _ _ x => x))
    have HNO := hid hno
    have IS := hid his
    have NEW := hid hnew
    have Z12 := hid hf2.size
    clear hf2 hno his hnew
    simp only [tup2]
    go_wp2_with fail
    refine (rload_ok (H0.out.fr F2.out) HB.out).mono ?_
    rintro e w3 ⟨hf3, ⟨hno3, _⟩ | ⟨_, v3, ms3, rfl, hc3, ho3⟩⟩
    · rw [HNO.out] at hno3; cases hno3
    have P3 := hid (Play.load IS.out (fun k hk => Nat.le_trans F1.out.size (NEW.out k hk)) F2.out hc3 ho3 hf3 (ok_loaded HNO.out HN.out))
    have O3 := hid (O2.out.fr hf3 (fun _ _ x => x))
    clear hf3 hc3 ho3
    simp only [tup2]
    go_wp2_with fail
    refine (same_cs (chs ms) ms5 ms _ _ w3 O3.out.rd (H0.out.fr P3.out.fr) C5.out rfl).mono ?_
    rintro e w4 ⟨rfl, hf4⟩
    have P4 := hid (P3.out.e0 hf4)
    have O4 := hid (O3.out.fr hf4 (fun _ _ x => x))
    clear hf4
    go_wp2_with fail
    refine (lives_ok w4).mono ?_
    rintro e w5 ⟨rfl, hf5⟩
    have P5 := hid (P4.out.e0 hf5)
    have O5 := hid (O4.out.fr hf5 (fun _ _ x => x))
    clear hf5
    go_wp2_with fail
    refine (spoil_ok O5.out B5.out (by decide) N5.out).mono ?_
    rintro e w6 ⟨rfl, hf6⟩
    have P6 := hid (P5.out.off hf6 (fun k hk hx => by have h1 := NEW.out k hk; have h2 := hx.2; omega) (fun k hk hx => by have h1 := hk.1; have h2 := hx.2; have h3 := Z12.out; omega) (fun k hx => hx.1))
    clear hf6
    go_wp2_with fail
    go_loopw [8, 10, 11] (fun v ok i wr => ∃ (k : Nat) (F G : Nat → Prop) (l : List Ch), i = .int .i64 k ∧ ok = .bool true ∧ k ≤ acts.length ∧ Play w wr F G g v l (1048576 + k)) (fun _ _ i _ => acts.length - (intOf i).toNat)
    case atStart => exact ⟨0, _, _, _, rfl, rfl, Nat.zero_le _, P6.out⟩
    case round =>
      obtain ⟨k, F', G', l, rfl, rfl, hk, hp⟩ := hrel
      have HP := hid hp
      clear hp
      by_cases hlt : k < acts.length
      · obtain ⟨x, hx⟩ : ∃ x, acts[k]? = some x := ⟨acts[k], List.getElem?_eq_getElem hlt⟩
        obtain ⟨b, o, rfl, r⟩ := HR.out.actAt hx
        obtain ⟨c0, c1, c2, c3, c4, c5, c6⟩ := (r.fr HP.out.fr (fun x => x)).act hx
        clear r hx
        go_wp2_with fail
        refine (play_does7 HP.out (by omega) x).mono ?_
        rintro e w4 ⟨v4, F4, G4, rfl, hp4, _, _, _⟩
        have HP4 := hid hp4
        clear hp4 c0 c1 c2 c3 c4 c5 c6
        go_wp2_with fail
        go_roundw
        case rel => exact ⟨k + 1, F4, G4, _, by simp, rfl, by omega, HP4.out⟩
        case measure => simp [intOf]; omega
      · obtain rfl : k = acts.length := by omega
        clear hlt hk
        go_wp2_with fail
        refine (state_play HP.out (by omega)).mono ?_
        rintro e wA ⟨vA, msA, rfl, hcA, hoA, hfA⟩
        have PA := hid (HP.out.e0 hfA)
        have CA := hid hcA
        have OA := hid hoA.restrict
        have LF := hid HP.out.both.is.lt
        have LG := hid HP.out.both.glt
        have BA := hid (bigN_of hcA (PA.out.ok.big (by omega)))
        have NA := hid (show msA.length ≤ 1572864 by have h1 := congrArg List.length hcA; have h2 := PA.out.ok.len; simp only [chs_len] at h1; omega)
        obtain ⟨AA, nA, cA, rfl⟩ := hoA.row.shape
        clear hfA hcA hoA
        go_wp2_with fail
        refine (state_play PA.out (by omega)).mono ?_
        rintro e wB ⟨vB, msB, rfl, hcB, hoB, hfB⟩
        have PB := hid (PA.out.e0 hfB)
        have OA2 := hid (OA.out.fr hfB (fun _ _ x => x))
        have CB := hid hcB
        have OB := hid hoB
        obtain ⟨AB, nB, cB, rfl⟩ := hoB.row.shape
        clear hfB hcB hoB
        go_wp2_with fail
        refine (same_play PB.out CA.out OA2.out.rd).mono ?_
        rintro e wC ⟨rfl, hfC⟩
        have PC := hid (PB.out.e0 hfC)
        have OA3 := hid (OA2.out.fr hfC (fun _ _ x => x))
        have OB2 := hid (OB.out.fr hfC (fun _ _ x => x))
        clear hfC
        go_wp2_with fail
        refine (same_play PC.out CB.out OB2.out.rd).mono ?_
        rintro e wD ⟨rfl, hfD⟩
        have PD := hid (PC.out.e0 hfD)
        have OA4 := hid (OA3.out.fr hfD (fun _ _ x => x))
        have OB3 := hid (OB2.out.fr hfD (fun _ _ x => x))
        clear hfD
        go_wp2_with fail
        refine (spoil_ok OA4.out BA.out (by decide) NA.out).mono ?_
        rintro e wE ⟨rfl, hfE⟩
        have PE := hid (PD.out.off hfE (fun k hk hx => by have h1 := LF.out k hk; have h2 := hx.1; unfold New at h2; omega) (fun k hk hx => by have h1 := LG.out k hk; have h2 := hx.1; unfold New at h2; omega) (fun k hx => Nat.le_trans HP.out.fr.size hx.1))
        have OB4 := hid (OB3.out.fr hfE (fun k hk hx => by have h1 := hx.2; unfold New at hk; omega))
        clear hfE
        go_wp2_with fail
        refine (same_play PE.out CB.out OB4.out.rd).mono ?_
        rintro e wF ⟨rfl, hfF⟩
        have PF := hid (PE.out.e0 hfF)
        clear hfF
        go_wp2_with fail
        refine (state_play PF.out (by omega)).mono ?_
        rintro e wG ⟨vG, msG, rfl, hcG, hoG, hfG⟩
        have PG := hid (PF.out.e0 hfG)
        have CG := hid hcG
        have OG := hid hoG
        obtain ⟨AG, nG, cG, rfl⟩ := hoG.row.shape
        clear hfG hcG hoG
        go_wp2_with fail
        refine (same_play PG.out CG.out OG.out.rd).mono ?_
        rintro e wH ⟨rfl, hfH⟩
        have FH := hid (PG.out.fr.trans hfH)
        clear hfH
        go_wp2_with fail
        go_ret
        exact ⟨rfl, FH.out⟩
end Go.Proofs.Yteffmnohgnmanaa
