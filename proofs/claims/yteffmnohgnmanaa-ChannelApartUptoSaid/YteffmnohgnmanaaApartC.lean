/- ChannelApart: the walk. -/
import Derived.Test.YteffmnohgnmanaaB4ChannelPlays
namespace Go.Proofs.Yteffmnohgnmanaa
open Go.RowKit
set_option linter.unusedVariables false
theorem Ok.up {N M : Nat} {l : List Ch} (h : Ok N l) (hNM : N ≤ M) : Ok M l := h.mono hNM
theorem Play.up {w0 w : World} {F G : Nat → Prop} {g N M : Nat} {v : Value} {l : List Ch} (h : Play w0 w F G g v l N) (hNM : N ≤ M) : Play w0 w F G g v l M := ⟨h.both, h.newF, h.newG, h.fr, h.ok.mono hNM⟩
/-- Two domains: what the one has the other has not. -/
structure Doms (w0 w : World) (F1 G1 : Nat → Prop) (g1 : Nat) (v1 : Value) (l1 : List Ch) (F2 G2 : Nat → Prop) (g2 : Nat) (v2 : Value) (l2 : List Ch) (N : Nat) : Prop where
  one : Play w0 w F1 G1 g1 v1 l1 N
  two : Play w0 w F2 G2 g2 v2 l2 N
  ff : ∀ k, F1 k → ¬ F2 k
  fg : ∀ k, F1 k → ¬ G2 k
  gf : ∀ k, G1 k → ¬ F2 k
  gg : ∀ k, G1 k → ¬ G2 k
namespace Doms
variable {w0 w w' : World} {F1 G1 F2 G2 F' G' : Nat → Prop} {g1 g2 N M : Nat} {v1 v2 v' : Value} {l1 l2 l' : List Ch}
theorem swap (h : Doms w0 w F1 G1 g1 v1 l1 F2 G2 g2 v2 l2 N) : Doms w0 w F2 G2 g2 v2 l2 F1 G1 g1 v1 l1 N := ⟨h.two, h.one, fun k a b => h.ff k b a, fun k a b => h.gf k b a, fun k a b => h.fg k b a, fun k a b => h.gg k b a⟩
theorem up (h : Doms w0 w F1 G1 g1 v1 l1 F2 G2 g2 v2 l2 N) (hNM : N ≤ M) : Doms w0 w F1 G1 g1 v1 l1 F2 G2 g2 v2 l2 M := ⟨h.one.up hNM, h.two.up hNM, h.ff, h.fg, h.gf, h.gg⟩
theorem e0 (h : Doms w0 w F1 G1 g1 v1 l1 F2 G2 g2 v2 l2 N) (hf : Fr E0 w w') : Doms w0 w' F1 G1 g1 v1 l1 F2 G2 g2 v2 l2 N := ⟨h.one.e0 hf, h.two.e0 hf, h.ff, h.fg, h.gf, h.gg⟩
theorem step (h : Doms w0 w F1 G1 g1 v1 l1 F2 G2 g2 v2 l2 N) (hp : Play w0 w' F' G' g1 v' l' M) (hF : ∀ k, F' k → F1 k ∨ w.heap.size ≤ k) (hG : ∀ k, G' k → G1 k ∨ w.heap.size ≤ k) (hf : Fr F1 w w') (hNM : N ≤ M) : Doms w0 w' F' G' g1 v' l' F2 G2 g2 v2 l2 M := by
  have lt2 := h.two.both.is.lt
  have gl2 := h.two.both.glt
  refine ⟨hp, ⟨h.two.both.far hf (fun k a b => h.ff k b a) (fun k a b => h.fg k b a), h.two.newF, h.two.newG, h.two.fr.trans' hf (fun k hk => .inr (h.one.newF k hk)), h.two.ok.mono hNM⟩, ?_, ?_, ?_, ?_⟩
  · intro k hk h2; rcases hF k hk with hx | hx
    · exact h.ff k hx h2
    · have := lt2 k h2; omega
  · intro k hk h2; rcases hF k hk with hx | hx
    · exact h.fg k hx h2
    · have := gl2 k h2; omega
  · intro k hk h2; rcases hG k hk with hx | hx
    · exact h.gf k hx h2
    · have := lt2 k h2; omega
  · intro k hk h2; rcases hG k hk with hx | hx
    · exact h.gg k hx h2
    · have := gl2 k h2; omega
end Doms
def DomsPost (w0 : World) (g1 : Nat) (l1 : List Ch) (F2 G2 : Nat → Prop) (g2 : Nat) (v2 : Value) (l2 : List Ch) (N : Nat) (e : Ending) (w' : World) : Prop :=
  ∃ v' F' G', e = .returned (.tuple #[v', .bool true]) ∧ Doms w0 w' F' G' g1 v' l1 F2 G2 g2 v2 l2 N
theorem doms_does {w0 w : World} {F1 G1 F2 G2 : Nat → Prop} {g1 g2 N : Nat} {v1 v2 : Value} {l1 l2 : List Ch} (h : Doms w0 w F1 G1 g1 v1 l1 F2 G2 g2 v2 l2 N) (hN : N + 1 ≤ 4194304) (x : ActD) :
    Calls Try.prog 27 #[.pointer (some ⟨g1, 0, none⟩), v1, .agg #[.int .i64 x.kind, .int .i64 x.ch, .int .i64 x.s, .int .i64 x.g, .int .i64 x.v, .int .i64 x.c, .bool x.send]] w (DomsPost w0 g1 (actL l1 x) F2 G2 g2 v2 l2 (N + 1)) := by
  refine (play_does7 h.one hN x).mono ?_
  rintro e w' ⟨v', F', G', he, hp, hF, hG, hf⟩
  exact ⟨v', F', G', he, h.step hp hF hG hf (Nat.le_succ N)⟩
theorem Mine.far {w0 w w' : World} {F S : Nat → Prop} {g : Nat} {l : List Ch} (h : Mine w0 w F g l) (hf : Fr E0 w w') : Mine w0 w' F g l := h.e0 hf
theorem Doms.start {w0 wA wB w : World} {F1 F2 : Nat → Prop} {g1 g2 : Nat} (h1 : Mine w0 w F1 g1 []) (h2 : Mine w0 w F2 g2 []) (hff : ∀ k, F1 k → ¬ F2 k) :
    Doms w0 ((w.alloc (.cells #[] 67)).alloc (.cells #[] 67)) F1 (fun k => k = w.heap.size) g1 (.slice (some ⟨w.heap.size, 0, none⟩) 0 0) [] F2 (fun k => k = w.heap.size + 1) g2 (.slice (some ⟨w.heap.size + 1, 0, none⟩) 0 0) [] 0 := by
  have f1 : Fr E0 w (w.alloc (.cells #[] 67)) := Fr.refl.alloc _
  have f2 : Fr E0 (w.alloc (.cells #[] 67)) ((w.alloc (.cells #[] 67)).alloc (.cells #[] 67)) := Fr.refl.alloc _
  have s1 : (w.alloc (.cells #[] 67)).heap.size = w.heap.size + 1 := by simp
  have s2 : ((w.alloc (.cells #[] 67)).alloc (.cells #[] 67)).heap.size = w.heap.size + 2 := by simp
  have r1 : RowF ((w.alloc (.cells #[] 67)).alloc (.cells #[] 67)) (fun k => k = w.heap.size) 67 5 (.slice (some ⟨w.heap.size, 0, none⟩) 0 0) [] :=
    ⟨((rowF_empty w 67 5).fr f2 (fun _ _ x => x)).1, fun q hq => by simp [Value.ownBlock] at hq; exact hq.symm⟩
  have r2 : RowF ((w.alloc (.cells #[] 67)).alloc (.cells #[] 67)) (fun k => k = w.heap.size + 1) 67 5 (.slice (some ⟨w.heap.size + 1, 0, none⟩) 0 0) [] := by
    have h := rowF_empty (w.alloc (.cells #[] 67)) 67 5
    rw [s1] at h
    exact ⟨h.1, fun q hq => by simp [Value.ownBlock] at hq; exact hq.symm⟩
  have hs := h1.fr.size
  refine ⟨⟨⟨h1.is.fr (f1.trans f2) (fun _ _ x => x), ⟨[], ⟨r1, fun m hm => by simp at hm, by simp⟩, rfl⟩, fun k hk => by omega, fun k hk hF => ?_⟩, h1.new, fun k hk => by omega, (h1.fr.trans f1).trans f2, ok_nil⟩,
    ⟨⟨h2.is.fr (f1.trans f2) (fun _ _ x => x), ⟨[], ⟨r2, fun m hm => by simp at hm, by simp⟩, rfl⟩, fun k hk => by omega, fun k hk hF => ?_⟩, h2.new, fun k hk => by omega, (h2.fr.trans f1).trans f2, ok_nil⟩, hff, fun k hk hk' => ?_, fun k hk hk' => ?_, fun k hk hk' => ?_⟩
  · have := h1.lt k hF; omega
  · have := h2.lt k hF; omega
  · have := h1.lt k hk; omega
  · have := h2.lt k hk'; omega
  · omega
set_option maxRecDepth 8000 in
set_option maxHeartbeats 8000000 in
theorem apart_walk (a1 a2 : List ActD) (s1 s2 : Value) (w : World) (h1 : RdV w s1 7 (actsV a1)) (h2 : RdV w s2 7 (actsV a2)) (z1 : a1.length ≤ 1048576) (z2 : a2.length ≤ 1048576) : Calls Try.prog 7 #[s1, s2] w (Ret (.bool true) E0 w) := by
  obtain ⟨A1, n1, c1, rfl, hl1, _, _, r1⟩ := h1
  obtain ⟨A2, n2, c2, rfl, hl2, _, _, r2⟩ := h2
  obtain rfl : a1.length = n1 := by rw [actsV_len] at hl1; omega
  obtain rfl : a2.length = n2 := by rw [actsV_len] at hl2; omega
  have R1 := hid r1
  have R2 := hid r2
  clear hl1 hl2 r1 r2
  go_enter Try.func7, Try.ntmps7
  go_wp2_with fail
  refine (new_ok w).mono ?_
  rintro e w1 ⟨g1, rfl, hi, hf⟩
  have M1 := hid (Mine.mine_new hi hf)
  clear hi hf
  go_wp2_with fail
  refine (new_ok w1).mono ?_
  rintro e w2 ⟨g2, rfl, hi, hf⟩
  have M2 := hid (Mine.mine_new hi hf)
  have N1 := hid (M1.out.e0 hf)
  have FF := hid (show ∀ k, (w.heap.size ≤ k ∧ k < w1.heap.size) → ¬ (w1.heap.size ≤ k ∧ k < w2.heap.size) from fun k a b => by omega)
  have N2 := hid (show Mine w w2 (fun k => w1.heap.size ≤ k ∧ k < w2.heap.size) g2 [] from ⟨M2.out.is, fun k hk => Nat.le_trans M1.out.fr.size hk.1, M1.out.fr.trans M2.out.fr⟩)
  clear hi hf
  go_wp2_with fail
  refine (lives_ok w2).mono ?_
  rintro e w3 ⟨rfl, hf⟩
  have P0 := hid (Doms.start (wA := w) (wB := w) (N1.out.e0 hf) (N2.out.e0 hf) FF.out)
  clear hf
  go_wp2_with fail
  generalize hW4 : (w3.alloc (.cells #[] 67)).alloc (.cells #[] 67) = w4 at *
  clear hW4
  go_loopw [7, 8, 9, 10] (fun v1 v2 ok i wr => ∃ (k : Nat) (F1 G1 F2 G2 : Nat → Prop) (l1 l2 : List Ch), i = .int .i64 k ∧ ok = .bool true ∧ (k ≤ a1.length ∨ k ≤ a2.length) ∧ Doms w wr F1 G1 g1 v1 l1 F2 G2 g2 v2 l2 (2 * k)) (fun _ _ _ i _ => (a1.length + a2.length) - (intOf i).toNat)
  case atStart => exact ⟨0, _, _, _, _, [], [], rfl, rfl, .inl (Nat.zero_le _), P0.out⟩
  case round =>
    obtain ⟨k, F1, G1, F2, G2, l1, l2, rfl, rfl, hk, hp⟩ := hrel
    have HP := hid hp
    clear hp
    have hkb : k ≤ 1048576 := by omega
    by_cases q1 : k < a1.length
    · obtain ⟨x, hx⟩ : ∃ x, a1[k]? = some x := ⟨a1[k], List.getElem?_eq_getElem q1⟩
      obtain ⟨b, o, rfl, r⟩ := R1.out.actAt hx
      obtain ⟨c0, c1, c2, c3, c4, c5, c6⟩ := (r.fr HP.out.one.fr (fun x => x)).act hx
      clear r hx
      have HK := hid hk
      clear hk
      go_wp2_with fail
      refine (doms_does HP.out (by omega) x).mono ?_
      rintro e w5 ⟨v5, F5, G5, rfl, hp5⟩
      have HP5 := hid hp5
      clear hp5 c0 c1 c2 c3 c4 c5 c6
      by_cases q2 : k < a2.length
      · obtain ⟨y, hy⟩ : ∃ y, a2[k]? = some y := ⟨a2[k], List.getElem?_eq_getElem q2⟩
        obtain ⟨b2, o2, rfl, r⟩ := R2.out.actAt hy
        obtain ⟨c0, c1, c2, c3, c4, c5, c6⟩ := (r.fr HP5.out.one.fr (fun x => x)).act hy
        clear r hy
        go_wp2_with fail
        refine (doms_does HP5.out.swap (by omega) y).mono ?_
        rintro e w6 ⟨v6, F6, G6, rfl, hp6⟩
        have HP6 := hid hp6.swap
        clear hp6 c0 c1 c2 c3 c4 c5 c6
        go_wp2_with fail
        go_roundw
        case rel => exact ⟨k + 1, F5, G5, F6, G6, _, _, by simp, rfl, by omega, HP6.out.up (by omega)⟩
        case measure => simp [intOf]; omega
      · go_wp2_with fail
        go_roundw
        case rel => exact ⟨k + 1, F5, G5, F2, G2, _, _, by simp, rfl, by omega, HP5.out.up (by omega)⟩
        case measure => simp [intOf]; omega
    · by_cases q2 : k < a2.length
      · obtain ⟨y, hy⟩ : ∃ y, a2[k]? = some y := ⟨a2[k], List.getElem?_eq_getElem q2⟩
        obtain ⟨b2, o2, rfl, r⟩ := R2.out.actAt hy
        obtain ⟨c0, c1, c2, c3, c4, c5, c6⟩ := (r.fr HP.out.one.fr (fun x => x)).act hy
        clear r hy
        have HK := hid hk
        clear hk
        go_wp2_with fail
        refine (doms_does HP.out.swap (by omega) y).mono ?_
        rintro e w6 ⟨v6, F6, G6, rfl, hp6⟩
        have HP6 := hid hp6.swap
        clear hp6 c0 c1 c2 c3 c4 c5 c6
        go_wp2_with fail
        go_roundw
        case rel => exact ⟨k + 1, F1, G1, F6, G6, _, _, by simp, rfl, by omega, HP6.out.up (by omega)⟩
        case measure => simp [intOf]; omega
      · have HK := hid hk
        clear hk
        go_wp2_with fail
        refine (told7 HP.out.one (by omega) 0 1 0 0 0 0 false).mono ?_
        rintro e w5 ⟨rfl, hf5⟩
        have HP5 := hid (HP.out.e0 hf5)
        clear hf5
        go_wp2_with fail
        refine (told7 HP5.out.two (by omega) 0 1 0 0 0 0 false).mono ?_
        rintro e w6 ⟨rfl, hf6⟩
        have F6 := hid (HP5.out.one.fr.trans hf6)
        clear hf6
        go_wp2_with fail
        go_ret
        exact ⟨rfl, F6.out⟩
end Go.Proofs.Yteffmnohgnmanaa
