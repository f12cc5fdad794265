/- ChannelSettled: the walk. -/
import Derived.Test.YteffmnohgnmanaaSettledPC
import Derived.Test.YteffmnohgnmanaaLoadsC
namespace Go.Proofs.Yteffmnohgnmanaa
open Go.RowKit
set_option linter.unusedVariables false
def SettledPost (w : World) (e : Ending) (w' : World) : Prop := ∃ g, e = .returned (.tuple #[.pointer (some ⟨g, 0, none⟩), .int .i64 0]) ∧ Fr E0 w w'
theorem load_settled {w : World} {v : Value} {ms : List CM} {l : List Ch} {N : Nat} (hc : chs ms = l) (h : RdCs w v ms) (hok : Ok N l) (hN : N ≤ 4194304) (hp : AllP l) : Calls Try.prog 40 #[v] w (SettledPost w) := by
  have hb := hok.big hN
  refine (load_ok v ms w h (fun m hm => by
    obtain ⟨h1, h2, h3⟩ := hb m.ch (by rw [← hc]; exact List.mem_map.2 ⟨m, hm, rfl⟩)
    exact ⟨by omega, by omega, by omega⟩)).mono ?_
  rintro e w1 ⟨hf1, ⟨hno, _⟩ | ⟨hno, g, F, he, his, hnew⟩⟩
  · rw [hc, hp.load hok.len] at hno; cases hno
  · exact ⟨g, he, hf1⟩
set_option maxRecDepth 8000 in
set_option maxHeartbeats 4000000 in
theorem settled_walk (acts : List ActD) (sv : Value) (w : World) (hs : RdV w sv 7 (actsV acts)) (hsz : acts.length ≤ 1048576) : Calls Try.prog 12 #[sv] w (Ret (.bool true) E0 w) := by
  obtain ⟨A, n, c, rfl, hl, _, _, hr⟩ := hs
  obtain rfl : acts.length = n := by rw [actsV_len] at hl; omega
  have HR := hid hr
  clear hl hr
  go_enter Try.func12, Try.ntmps12
  go_wp2_with fail
  refine (new_ok w).mono ?_
  rintro e w1 ⟨g, rfl, hi, hf⟩
  have M1 := hid (Mine.mine_new hi hf)
  clear hi hf
  go_wp2_with fail
  refine (lives_ok w1).mono ?_
  rintro e w2 ⟨rfl, hf⟩
  have P0 := hid (Play.start (M1.out.e0 hf))
  clear hf
  go_wp2_with fail
  generalize hW3 : w2.alloc (.cells #[] 67) = w3 at *
  clear hW3
  go_loopw [4, 5, 6] (fun v ok i wr => ∃ (k : Nat) (F G : Nat → Prop) (l : List Ch), i = .int .i64 k ∧ ok = .bool true ∧ k ≤ acts.length ∧ Play w wr F G g v l k ∧ AllP l) (fun _ _ i _ => acts.length - (intOf i).toNat)
  case atStart => exact ⟨0, _, _, [], rfl, rfl, Nat.zero_le _, P0.out, fun c hc => by simp at hc⟩
  case round =>
    obtain ⟨k, F, G, l, rfl, rfl, hk, hp, hap⟩ := hrel
    have HP := hid hp
    have HA := hid hap
    clear hp hap
    by_cases hlt : k < acts.length
    · obtain ⟨x, hx⟩ : ∃ x, acts[k]? = some x := ⟨acts[k], List.getElem?_eq_getElem hlt⟩
      obtain ⟨b, o, rfl, r⟩ := HR.out.actAt hx
      obtain ⟨c0, c1, c2, c3, c4, c5, c6⟩ := (r.fr HP.out.fr (fun x => x)).act hx
      clear r hx
      go_wp2_with fail
      refine (play_does7 HP.out (by omega) x).mono ?_
      rintro e w4 ⟨v4, F4, G4, rfl, hp4, _, _, _⟩
      have HP4 := hid hp4
      have HA4 := hid (HA.out.act x)
      clear hp4 c0 c1 c2 c3 c4 c5 c6
      go_wp2_with fail
      refine (state_play HP4.out (by omega)).mono ?_
      rintro e w6 ⟨v6, ms6, rfl, hc6, ho6, hf6⟩
      have P6 := hid (HP4.out.e0 hf6)
      have C6 := hid hc6
      have O6 := hid ho6.rd
      clear hf6 hc6 ho6
      go_wp2_with fail
      refine (load_settled C6.out O6.out P6.out.ok (by omega) HA4.out).mono ?_
      rintro e w7 ⟨g7, rfl, hf7⟩
      have P7 := hid (P6.out.e0 hf7)
      clear hf7
      go_wp2_with fail
      go_roundw
      case rel => exact ⟨k + 1, F4, G4, _, by simp, rfl, by omega, P7.out, HA4.out⟩
      case measure => simp [intOf]; omega
    · obtain rfl : k = acts.length := by omega
      clear hlt hk
      go_wp2_with fail
      go_ret
      exact ⟨rfl, HP.out.fr⟩
end Go.Proofs.Yteffmnohgnmanaa
