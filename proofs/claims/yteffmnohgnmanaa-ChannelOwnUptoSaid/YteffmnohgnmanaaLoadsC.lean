/- ChannelLoads: the walk. -/
import Derived.Test.YteffmnohgnmanaaB4ChannelPlays
namespace Go.Proofs.Yteffmnohgnmanaa
open Go.RowKit
set_option linter.unusedVariables false
theorem ok_loaded {l : List Ch} {N : Nat} (h : loadNo l = false) (hN : ∀ c ∈ l, c.snd.length + c.rcv.length ≤ N) : Ok N l := by
  unfold loadNo at h
  rw [Bool.or_eq_false_iff, decide_eq_false_iff_not] at h
  have ha : ∀ c ∈ l, mayC c = true := by simpa using h.2
  have hb : ∀ c ∈ l, ¬ c.cap < 0 ∧ ¬ 1024 < c.cap ∧ ¬ c.cap < c.vals.length := fun c hc => by
    have := ha c hc
    unfold mayC at this
    rw [Bool.and_eq_true] at this
    have := this.1
    unfold mayA at this
    simp only [Bool.not_eq_true', Bool.or_eq_false_iff, decide_eq_false_iff_not] at this
    exact ⟨this.1.1, this.1.2, this.2⟩
  exact ⟨by omega, fun c hc => by have := hb c hc; omega, fun c hc => by have := hb c hc; omega, hN⟩
/-- The beginning: channels that were loaded on both sides. -/
theorem Play.load {w w1 w2 : World} {F : Nat → Prop} {g N : Nat} {l : List Ch} {v : Value} {ms : List CM} (his : IsCh w1 F g l) (hF : ∀ k, F k → w.heap.size ≤ k) (hf1 : Fr E0 w w1) (hc : chs ms = l) (ho : OwnCs w2 (New w1) v ms) (hf2 : Fr E0 w1 w2) (hok : Ok N l) :
    Play w w2 F (fun k => w1.heap.size ≤ k ∧ k < w2.heap.size) g v l N := by
  refine ⟨⟨his.fr hf2 (fun _ _ x => x), ⟨ms, ho.restrict.mono (fun k hk => ⟨hk.1, hk.2⟩), hc⟩, fun k hk => hk.2, fun k hk hF' => ?_⟩, hF, fun k hk => ?_, hf1.trans hf2, hok⟩
  · have := his.lt k hF'; omega
  · have := hf1.size; omega
theorem state_play {w0 w : World} {F G : Nat → Prop} {g N : Nat} {v : Value} {l : List Ch} (h : Play w0 w F G g v l N) (hN : N ≤ 4194304) : Calls Try.prog 29 #[.pointer (some ⟨g, 0, none⟩)] w (MadeCs l w) := state_all h.both.is h.ok (by omega)
theorem same_play {w0 w1 : World} {F G : Nat → Prop} {g N : Nat} {v v1 : Value} {l : List Ch} {ms1 : List CM} (h : Play w0 w1 F G g v l N) (hc : chs ms1 = l) (ho : RdCs w1 v1 ms1) : Calls Try.prog 42 #[v1, v] w1 (Ret (.bool true) E0 w1) := by
  obtain ⟨ms, h1, h2⟩ := h.both.rd
  exact same_cs l ms1 ms v1 v w1 ho h1 hc h2
set_option maxRecDepth 8000 in
set_option maxHeartbeats 4000000 in
theorem loads_walk (v sv : Value) (ms : List CM) (acts : List ActD) (w : World) (h : RdCs w v ms) (hfit : ∀ c ∈ chs ms, BigC c) (hN : ∀ c ∈ chs ms, c.snd.length + c.rcv.length ≤ 1048576) (hs : RdV w sv 7 (actsV acts)) (hsz : acts.length ≤ 1048576) :
    Calls Try.prog 11 #[v, sv] w (Ret (.bool true) E0 w) := by
  obtain ⟨A, n, c, rfl, hl, _, _, hr⟩ := hs
  obtain rfl : acts.length = n := by rw [actsV_len] at hl; omega
  have HR := hid hr
  have H0 := hid h
  have HB := hid hfit
  have HN := hid hN
  obtain ⟨A0, n0, c0, hv, _⟩ := h.row
  subst hv
  clear hl hr h hfit hN
  go_enter Try.func11, Try.ntmps11
  go_wp2_with fail
  refine (load_ok _ ms w H0.out (fun m hm => by
    obtain ⟨h1, h2, h3⟩ := HB.out m.ch (List.mem_map.2 ⟨m, hm, rfl⟩)
    exact ⟨by omega, by omega, by omega⟩)).mono ?_
  rintro e w1 ⟨hf1, ⟨hno, rfl⟩ | ⟨hno, g, F, rfl, his, hnew⟩⟩
  · have F1 := hid hf1
    have HNO := hid hno
    clear hf1 hno
    simp only [tup2]
    go_wp2_with fail
    refine (rload_ok (H0.out.fr F1.out) HB.out).mono ?_
    rintro e w2 ⟨hf2, ⟨_, rfl⟩ | ⟨hno2, _⟩⟩
    · have F2 := hid (F1.out.trans hf2)
      clear hf2
      simp only [tup2]
      go_wp2_with fail
      refine (lives_ok w2).mono ?_
      rintro e w3 ⟨rfl, hf3⟩
      have F3 := hid (F2.out.trans hf3)
      clear hf3
      go_wp2_with fail
      go_ret
      exact ⟨rfl, F3.out⟩
    · rw [HNO.out] at hno2; cases hno2
  · have F1 := hid hf1
    have HNO := hid hno
    have IS := hid his
    have NEW := hid hnew
    clear hf1 hno his hnew
    simp only [tup2]
    go_wp2_with fail
    refine (rload_ok (H0.out.fr F1.out) HB.out).mono ?_
    rintro e w2 ⟨hf2, ⟨hno2, _⟩ | ⟨_, v2, ms2, rfl, hc2, ho2⟩⟩
    · rw [HNO.out] at hno2; cases hno2
    have P2 := hid (Play.load IS.out NEW.out F1.out hc2 ho2 hf2 (ok_loaded HNO.out HN.out))
    clear hf2 hc2 ho2
    simp only [tup2]
    go_wp2_with fail
    refine (lives_ok w2).mono ?_
    rintro e w3 ⟨rfl, hf3⟩
    have P3 := hid (P2.out.e0 hf3)
    clear hf3
    go_wp2_with fail
    refine (state_play P3.out (by omega)).mono ?_
    rintro e w4 ⟨v4, ms4, rfl, hc4, ho4, hf4⟩
    have P4 := hid (P3.out.e0 hf4)
    have C4 := hid hc4
    have O4 := hid ho4.rd
    clear hf4 hc4 ho4
    go_wp2_with fail
    refine (same_play P4.out C4.out O4.out).mono ?_
    rintro e w5 ⟨rfl, hf5⟩
    have P5 := hid (P4.out.e0 hf5)
    clear hf5
    go_wp2_with fail
    go_loopw [7, 9, 10] (fun v ok i wr => ∃ (k : Nat) (F G : Nat → Prop) (l : List Ch), i = .int .i64 k ∧ ok = .bool true ∧ k ≤ acts.length ∧ Play w wr F G g v l (1048576 + k)) (fun _ _ i _ => acts.length - (intOf i).toNat)
    case atStart => exact ⟨0, _, _, _, rfl, rfl, Nat.zero_le _, P5.out⟩
    case round =>
      obtain ⟨k, F, G, l, rfl, rfl, hk, hp⟩ := hrel
      have HP := hid hp
      clear hp
      by_cases hlt : k < acts.length
      · obtain ⟨x, hx⟩ : ∃ x, acts[k]? = some x := ⟨acts[k], List.getElem?_eq_getElem hlt⟩
        obtain ⟨b, o, rfl, r⟩ := HR.out.actAt hx
        obtain ⟨c0, c1, c2, c3, c4, c5, c6⟩ := (r.fr HP.out.fr (fun x => x)).act hx
        clear r hx
        go_wp2_with fail
        refine (play_does7 HP.out (by omega) x).mono ?_
        rintro e w4 ⟨v4, F4, G4, rfl, hp4, _, _, _⟩
        have HP4 := hid hp4
        clear hp4 c0 c1 c2 c3 c4 c5 c6
        go_wp2_with fail
        go_roundw
        case rel => exact ⟨k + 1, F4, G4, _, by simp, rfl, by omega, HP4.out⟩
        case measure => simp [intOf]; omega
      · obtain rfl : k = acts.length := by omega
        clear hlt hk
        go_wp2_with fail
        refine (state_play HP.out (by omega)).mono ?_
        rintro e w6 ⟨v6, ms6, rfl, hc6, ho6, hf6⟩
        have P6 := hid (HP.out.e0 hf6)
        have C6 := hid hc6
        have O6 := hid ho6.rd
        clear hf6 hc6 ho6
        go_wp2_with fail
        refine (same_play P6.out C6.out O6.out).mono ?_
        rintro e w7 ⟨rfl, hf7⟩
        have F7 := hid (P6.out.fr.trans hf7)
        clear hf7
        go_wp2_with fail
        go_ret
        exact ⟨rfl, F7.out⟩
end Go.Proofs.Yteffmnohgnmanaa
