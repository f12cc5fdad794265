/- ChannelWakes: the walk. -/
import Derived.Test.YteffmnohgnmanaaWakesPC
import Derived.Test.YteffmnohgnmanaaLoadsC
import Derived.Deep.CutBlock
namespace Go.Proofs.Yteffmnohgnmanaa
open Go.RowKit
set_option linter.unusedVariables false
attribute [local go_sem ↓] Go.wp_at_zero Go.wp_at_succ
set_option maxRecDepth 8000 in
set_option maxHeartbeats 4000000 in
/-- A list begins with another one. -/
theorem begins_ok (l r : List Wt) (hr1 : r.length ≤ 1) (v1 v2 : Value) (w : World) (h1 : RdV w v1 4 (wts (l ++ r))) (h2 : RdV w v2 4 (wts l)) (hl : l.length ≤ 4194304) : Calls Try.prog 33 #[v1, v2] w (Ret (.bool true) E0 w) := by
  obtain ⟨A1, n1, c1, rfl, hl1, _, _, r1⟩ := h1
  obtain ⟨A2, n, c2, rfl, hl2, hc2, hm2, r2⟩ := h2
  have hl2' : l.length = n := by rw [wts_len] at hl2; omega
  have hl1' : n1 = n + r.length := by rw [wts_len, List.length_append] at hl1; omega
  have HL := hid hl2'
  have R1 := hid r1
  have R2 := hid r2
  have hn : n ≤ 4194304 := by omega
  have b1 : ¬ (n1 : Int) < (n : Int) := by omega
  have b2 : ¬ (n : Int) + 1 < (n1 : Int) := by omega
  have hn1 : n1 ≤ 4194305 := by omega
  clear hl1 hl2 r1 r2 hl1' hl2' hl hr1
  go_enter Try.func33, Try.ntmps33
  go_wp2_with fail
  go_loopw [5] (fun i wr => ∃ k : Nat, i = .int .i64 k ∧ k ≤ n ∧ Fr E0 w wr) (fun i _ => n - (intOf i).toNat)
  case atStart => exact ⟨0, rfl, Nat.zero_le _, Fr.refl⟩
  case round =>
    obtain ⟨k, rfl, hk, hf⟩ := hrel
    have HF := hid hf
    clear hf
    by_cases hlt : k < n
    · obtain ⟨x, hx⟩ : ∃ x, l[k]? = some x := ⟨l[k]'(by have := HL.out; omega), List.getElem?_eq_getElem _⟩
      have hx1 : (l ++ r)[k]? = some x := by rw [List.getElem?_append_left (lt_of_get hx)]; exact hx
      obtain ⟨b1', o1, rfl, q1⟩ := R1.out.wtAt hx1
      obtain ⟨b2', o2, rfl, q2⟩ := R2.out.wtAt hx
      obtain ⟨d0, d1, d2, d3⟩ := (q1.fr HF.out (fun x => x)).wt hx1
      obtain ⟨e0, e1, e2, e3⟩ := (q2.fr HF.out (fun x => x)).wt hx
      have hk1 : k < n1 := by omega
      clear q1 q2 hx hx1
      go_wp2_with (go_quiet (fail))
      all_goals
        go_roundw
        case rel => exact ⟨k + 1, by simp, by omega, HF.out.drewN nq⟩
        case measure => simp [intOf]; omega
    · obtain rfl : k = n := by omega
      go_wp2_with fail
      go_ret
      exact ⟨rfl, HF.out⟩
theorem begins_any (c c' : Ch) {f : Ch → List Wt} (h : ∃ r, f c' = f c ++ r ∧ r.length ≤ 1) (v1 v2 : Value) (w : World) (h1 : RdV w v1 4 (wts (f c'))) (h2 : RdV w v2 4 (wts (f c))) (hl : (f c).length ≤ 4194304) : Calls Try.prog 33 #[v1, v2] w (Ret (.bool true) E0 w) := by
  obtain ⟨r, hr, hr1⟩ := h
  rw [hr] at h1
  exact begins_ok (f c) r hr1 v1 v2 w h1 h2 hl
theorem ok_leaves {N : Nat} {ws : List Wk} : ∀ {l : List Ch}, Ok N l → Ok N (leavesL ws l) := by
  induction ws with
  | nil => intro l h; exact h
  | cons w r ih => intro l h; exact ih h.leave
theorem leavesL_step {l : List Ch} {ws : List Wk} {k : Nat} {x : Wk} (hx : ws[k]? = some x) : leavesL (ws.take (k + 1)) l = leaveL x.s x.g (leavesL (ws.take k) l) := by
  rw [List.take_add_one, hx]; simp [leavesL]
/-- Behind the call: the channels at g are l' now; the block M tells what it did. -/
structure Woke (w0 w : World) (F : Nat → Prop) (g : Nat) (l l' : List Ch) (m : Mv) (M : Nat) (wv v : Value) (N : Nat) : Prop where
  is : IsCh w F g l'
  fr : Fr E0 w0 w
  ok : Ok N l'
  okl : Ok N l
  laws : WakesOK l l' m.woken
  cell : w.heap[M]? = some (.cells #[.bool m.waits, .int .i64 m.value, .bool m.ok, .int .i64 m.trap, wv] 32 (0, 0))
  row : RowF w (fun _ => True) 39 6 wv (wks m.woken)
  was : ∃ ms, RdCs w v ms ∧ chs ms = l
theorem Woke.e0 {w0 w w' : World} {F : Nat → Prop} {g M N : Nat} {l l' : List Ch} {m : Mv} {wv v : Value} (h : Woke w0 w F g l l' m M wv v N) (hf : Fr E0 w w') : Woke w0 w' F g l l' m M wv v N := by
  obtain ⟨ms, h1, h2⟩ := h.was
  exact ⟨h.is.fr hf (fun _ _ x => x), h.fr.trans hf, h.ok, h.okl, h.laws, hf.heapAt h.cell (fun x => x), h.row.fr hf (fun _ _ x => x), ⟨ms, h1.fr hf, h2⟩⟩
def CutWk (w0 : World) (g : Nat) (M : Nat) (v : Value) (N : Nat) (wx : World) : Prop := ∃ F l l' m wv, Woke w0 wx F g l l' m M wv v N
/-- The call's end, put into the block M. -/
theorem woke_put {w0 w w2 : World} {F G : Nat → Prop} {g M N : Nat} {l l' : List Ch} {m : Mv} {wv v : Value} {H : Nat → Prop} {ms : List CM} {cs : Array Value} (hsz : cs.size = 5)
    (hF : ∀ k, F k → k < M) (hG : ∀ k, G k → ¬ F k) (hnew : ∀ k, F k → w0.heap.size ≤ k) (hM : w0.heap.size ≤ M) (hfr0 : Fr E0 w0 w) (hown : OwnCs w G v ms) (hc : chs ms = l) (hcell : w.heap[M]? = some (.cells cs 32 (0, 0))) (okl : Ok N l) (okl' : Ok N l') (hlaw : WakesOK l l' m.woken)
    (hs : Step F g w l' w2) (hr : RowF w2 H 39 6 wv (wks m.woken)) : ∃ F', Woke w0 (set5 w2 M (.bool m.waits) (.int .i64 m.value) (.bool m.ok) (.int .i64 m.trap) wv) F' g l l' m M wv v N := by
  obtain ⟨F', h1, h2, h3⟩ := hs
  have hMl := heap_lt hcell
  have cell2 := h3.heapAt hcell (fun hx => by have := hF _ hx; omega)
  have own2 : OwnCs w2 G v ms := hown.fr h3 hG
  obtain ⟨x0, x1, x2, x3, x4, rfl⟩ : ∃ x0 x1 x2 x3 x4, cs = #[x0, x1, x2, x3, x4] := by
    obtain ⟨l5⟩ := cs
    match l5, hsz with
    | [a, b, c, d, e], _ => exact ⟨a, b, c, d, e, rfl⟩
  have hMF : ¬ F' M := fun hx => by
    rcases h2 M hx with hy | hy
    · have := hF _ hy; omega
    · omega
  have fs : Fr (fun k => k = M) w2 (set5 w2 M (.bool m.waits) (.int .i64 m.value) (.bool m.ok) (.int .i64 m.trap) wv) := set5_fr (S := fun k => k = M) rfl _ _ _ _ _
  refine ⟨F', h1.fr fs (fun k hk e => hMF (e ▸ hk)), ?_, okl', okl, hlaw, set5_heap cell2 _ _ _ _ _, (hr.off5 cell2 (by decide)).mono (fun _ _ => trivial), ⟨ms, (own2.set5 cell2 _ _ _ _ _).rd, hc⟩⟩
  exact (hfr0.trans' h3 (fun k hk => .inr (hnew k hk))).trans' fs (fun k hk => .inr (by subst hk; exact hM))
theorem keepX {wo : World} {b1 o1 b2 o2 q : Nat} {ms1 ms2 : List CM} {m1 m2 : CM} (r1 : RdL wo b1 o1 (ms1.flatMap CM.cells)) (x1 : ms1[q]? = some m1) (r2 : RdL wo b2 o2 (ms2.flatMap CM.cells)) (x2 : ms2[q]? = some m2) :
    ∀ W, Fr E0 wo W → (Fr E0 wo W ∧ W.cell? ⟨b1, o1 + q * 5 + 2, none⟩ = some m1.sv ∧ W.cell? ⟨b2, o2 + q * 5 + 2, none⟩ = some m2.sv ∧ W.cell? ⟨b1, o1 + q * 5 + 3, none⟩ = some m1.rv ∧ W.cell? ⟨b2, o2 + q * 5 + 3, none⟩ = some m2.rv) := fun W hW => by
  obtain ⟨_, _, d2, d3, _⟩ := (r1.fr hW (fun x => x)).cm x1
  obtain ⟨_, _, e2, e3, _⟩ := (r2.fr hW (fun x => x)).cm x2
  exact ⟨hW, d2, e2, d3, e3⟩
set_option maxRecDepth 8000 in
set_option maxHeartbeats 8000000 in
theorem wakes_walk (acts : List ActD) (sv : Value) (a : ActD) (w : World) (hs : RdV w sv 7 (actsV acts)) (hsz : acts.length ≤ 1048576) : Calls Try.prog 6 #[sv, a.val] w (Ret (.bool true) E0 w) := by
  obtain ⟨A, n, c, rfl, hl, _, _, hr⟩ := hs
  obtain rfl : acts.length = n := by rw [actsV_len] at hl; omega
  obtain ⟨kind, ch, s, gn, av, ca, send⟩ := a
  have HR := hid hr
  have FA := hid ((Fr.refl (S := E0) (w := w)).alloc (.cells #[.int .i64 kind, .int .i64 ch, .int .i64 s, .int .i64 gn, .int .i64 av, .int .i64 ca, .bool send] 56))
  have G0 := hid (heap_alloc_new w (.cells #[.int .i64 kind, .int .i64 ch, .int .i64 s, .int .i64 gn, .int .i64 av, .int .i64 ca, .bool send] 56))
  clear hl hr
  simp only [ActD.val]
  go_enter Try.func6, Try.ntmps6
  go_wp2_with fail
  generalize w.alloc _ = W at *
  refine (new_ok W).mono ?_
  rintro e w1 ⟨g, rfl, hi, hf⟩
  have M1 := hid (Mine.mine_new hi hf)
  clear hi hf
  go_wp2_with fail
  refine (lives_ok w1).mono ?_
  rintro e w2 ⟨rfl, hf⟩
  have P0 := hid (Play.start (M1.out.e0 hf))
  clear hf
  go_wp2_with fail
  generalize hW3 : w2.alloc (.cells #[] 67) = w3 at *
  clear hW3
  go_loopw [6, 7, 8] (fun v ok i wr => ∃ (k : Nat) (F G : Nat → Prop) (l : List Ch), i = .int .i64 k ∧ ok = .bool true ∧ k ≤ acts.length ∧ Play W wr F G g v l k) (fun _ _ i _ => acts.length - (intOf i).toNat)
  case atStart => exact ⟨0, _, _, [], rfl, rfl, Nat.zero_le _, P0.out⟩
  case round =>
    obtain ⟨k, F, G, l, rfl, rfl, hk, hp⟩ := hrel
    have HP := hid hp
    clear hp
    by_cases hlt : k < acts.length
    · obtain ⟨x, hx⟩ : ∃ x, acts[k]? = some x := ⟨acts[k], List.getElem?_eq_getElem hlt⟩
      obtain ⟨b, o, rfl, r⟩ := HR.out.actAt hx
      obtain ⟨c0, c1, c2, c3, c4, c5, c6⟩ := (r.fr (FA.out.trans HP.out.fr) (fun x => x)).act hx
      clear r hx
      go_wp2_with fail
      refine (play_does7 HP.out (by omega) x).mono ?_
      rintro e w4 ⟨v4, F4, G4, rfl, hp4, _, _, _⟩
      have HP4 := hid hp4
      clear hp4 c0 c1 c2 c3 c4 c5 c6
      go_wp2_with fail
      go_roundw
      case rel => exact ⟨k + 1, F4, G4, _, by simp, rfl, by omega, HP4.out⟩
      case measure => simp [intOf]; omega
    · obtain rfl : k = acts.length := by omega
      clear hlt hk
      go_wp2_with fail
      refine (state_play HP.out (by omega)).mono ?_
      rintro e w5 ⟨v5, ms5, rfl, hc5, ho5, hf5⟩
      obtain ⟨A5, n5, c5, rfl⟩ := ho5.row.shape
      have P5 := hid (HP.out.e0 hf5)
      have C5 := hid hc5
      have O5 := hid ho5
      have hn5 : n5 ≤ 1024 := by
        obtain ⟨_, _, e, _⟩ := ho5.row.read (by decide) (cms_len ms5)
        have h1 : n5 = ms5.length := by cases e; rfl
        have h2 := HP.out.ok.len
        rw [← hc5, chs_len] at h2
        omega
      have HFl := hid HP.out.both.is.lt
      have hws := hf5.size
      clear hf5 hc5 ho5
      go_upto_region 14 with fail
      have MC := hid (heap_alloc_new w5 (.cells #[.bool false, .int .i64 0, .bool false, .int .i64 0, .slice none 0 0] 32))
      have FX := hid ((Fr.refl (S := E0) (w := w5)).alloc (.cells #[.bool false, .int .i64 0, .bool false, .int .i64 0, .slice none 0 0] 32))
      have P6 := hid (P5.out.e0 FX.out)
      have G6 := hid (P6.out.fr.heapAt G0.out (fun x => x))
      have O6 := hid (O5.out.fr FX.out (fun _ _ x => x))
      have hMw : W.heap.size ≤ w5.heap.size := P5.out.fr.size
      have OKl := hid P6.out.ok
      generalize w5.alloc _ = w6 at *
      obtain ⟨⟨a0, a1, a2, a3, a4, a5, a6⟩, _⟩ := blk7 G6.out
      go_upto_block 2 with fail
      go_cut [] from 49 to 72 (fun wx => CutWk W g w5.heap.size (.slice A5 n5 c5) (acts.length + 1) wx)
      case first =>
        have HF1 := hid (show ∀ k, F k → k < w5.heap.size from fun k hk => Nat.lt_of_lt_of_le (HFl.out k hk) hws)
        have HG1 := hid (show ∀ k, New wr k → ¬ F k from fun k hk hF => by have h1 := HFl.out k hF; have h2 : wr.heap.size ≤ k := hk; omega)
        by_cases hk1 : kind = 1
        · subst hk1
          go_wp2_with fail
          obtain ⟨l', ⟨mw, mv, mo, mt, mk⟩, err, hL⟩ : ∃ l' m err, sendL l ch s gn av = (l', m, err) := ⟨_, _, _, rfl⟩
          have HL := hid hL
          refine (send_all P6.out.both.is OKl.out (by omega) ch s gn av).mono ?_
          rw [HL.out]
          rintro e w7 ⟨wv, rfl, hr7, hs7⟩
          simp only at hr7 hs7
          obtain ⟨A7, n7, c7, rfl⟩ := hr7.shape
          have HR7 := hid hr7
          have HS7 := hid hs7
          obtain ⟨_, _, _, hfr7⟩ := hs7
          have MC7 := hid (hfr7.heapAt MC.out (fun hx => Nat.lt_irrefl _ (HF1.out _ hx)))
          obtain ⟨⟨b0, b1, b2, b3, b4⟩, z0, z1, z2, z3, z4⟩ := blk5 MC7.out
          clear hr7 hfr7 a0 a1 a2 a3 a4 a5 a6 hL
          simp only [tup2, Mv.val]
          go_wp2_with fail
          go_meet
          obtain ⟨F', hw⟩ := woke_put (m := ⟨mw, mv, mo, mt, mk⟩) (N := acts.length + 1) rfl HF1.out HG1.out P6.out.newF hMw P6.out.fr O6.out C5.out MC.out (OKl.out.mono (Nat.le_succ _)) (by have h := OKl.out.send ch s gn av; rw [HL.out] at h; exact h) (by have h := wakes_send l ch s gn av; rw [HL.out] at h; exact h) HS7.out HR7.out
          exact ⟨F', l, l', _, _, hw⟩
        · by_cases hk2 : kind = 2
          · subst hk2
            clear hk1
            go_wp2_with fail
            obtain ⟨l', ⟨mw, mv, mo, mt, mk⟩, err, hL⟩ : ∃ l' m err, recvL l ch s gn = (l', m, err) := ⟨_, _, _, rfl⟩
            have HL := hid hL
            refine (recv_all P6.out.both.is OKl.out (by omega) ch s gn).mono ?_
            rw [HL.out]
            rintro e w7 ⟨wv, rfl, hr7, hs7⟩
            simp only at hr7 hs7
            obtain ⟨A7, n7, c7, rfl⟩ := hr7.shape
            have HR7 := hid hr7
            have HS7 := hid hs7
            obtain ⟨_, _, _, hfr7⟩ := hs7
            have MC7 := hid (hfr7.heapAt MC.out (fun hx => Nat.lt_irrefl _ (HF1.out _ hx)))
            obtain ⟨⟨b0, b1, b2, b3, b4⟩, z0, z1, z2, z3, z4⟩ := blk5 MC7.out
            clear hr7 hfr7 a0 a1 a2 a3 a4 a5 a6 hL
            simp only [tup2, Mv.val]
            go_wp2_with fail
            go_meet
            obtain ⟨F', hw⟩ := woke_put (m := ⟨mw, mv, mo, mt, mk⟩) (N := acts.length + 1) rfl HF1.out HG1.out P6.out.newF hMw P6.out.fr O6.out C5.out MC.out (OKl.out.mono (Nat.le_succ _)) (by have h := OKl.out.recv ch s gn; rw [HL.out] at h; exact h) (by have h := wakes_recv l ch s gn; rw [HL.out] at h; exact h) HS7.out HR7.out
            exact ⟨F', l, l', _, _, hw⟩
          · have t1 : ((kind == 1) : Bool) = false := by simpa using hk1
            have t2 : ((kind == 2) : Bool) = false := by simpa using hk2
            clear hk1 hk2
            go_wp2_with fail
            obtain ⟨l', ⟨mw, mv, mo, mt, mk⟩, hL⟩ : ∃ l' m, closeL l ch = (l', m) := ⟨_, _, rfl⟩
            have HL := hid hL
            refine (close_all P6.out.both.is OKl.out (by omega) ch).mono ?_
            rw [HL.out]
            rintro e w7 ⟨wv, rfl, ⟨H7, hr7⟩, hs7⟩
            simp only at hr7 hs7
            obtain ⟨A7, n7, c7, rfl⟩ := hr7.shape
            have HR7 := hid hr7
            have HS7 := hid hs7
            obtain ⟨_, _, _, hfr7⟩ := hs7
            have MC7 := hid (hfr7.heapAt MC.out (fun hx => Nat.lt_irrefl _ (HF1.out _ hx)))
            obtain ⟨⟨b0, b1, b2, b3, b4⟩, z0, z1, z2, z3, z4⟩ := blk5 MC7.out
            clear hr7 hfr7 a0 a1 a2 a3 a4 a5 a6 hL
            simp only [Mv.val]
            go_wp2_with fail
            go_meet
            obtain ⟨F', hw⟩ := woke_put (m := ⟨mw, mv, mo, mt, mk⟩) (N := acts.length + 1) rfl HF1.out HG1.out P6.out.newF hMw P6.out.fr O6.out C5.out MC.out (OKl.out.mono (Nat.le_succ _)) (by have h := (OKl.out.mono (Nat.le_succ _)).close ch; rw [HL.out] at h; exact h) (by have h := wakes_close l ch; rw [HL.out] at h; exact h) HS7.out HR7.out
            exact ⟨F', l, l', _, _, hw⟩
      case rest =>
        obtain ⟨F9, l, l', ⟨mw, mv, mo, mt, mk⟩, wv, hwk⟩ := hcut
        have HW := hid hwk
        clear hwk P0 M1 P5 C5 O5 HFl MC FX P6 G6 O6 OKl HP a0 a1 a2 a3 a4 a5 a6
        obtain ⟨ms9, hrd9, hms9⟩ := HW.out.was
        have hln9 : n5 = l.length := by
          obtain ⟨_, _, e, _⟩ := hrd9.form
          have h1 : n5 = ms9.length := by cases e; rfl
          rw [h1, ← hms9, chs_len]
        subst hln9
        have HRD9 := hid hrd9
        have HMS9 := hid hms9
        clear hrd9 hms9
        go_wp2_with fail
        refine (state_all HW.out.is HW.out.ok (by omega)).mono ?_
        rintro e w8 ⟨v8, ms8, rfl, hc8, ho8, hf8⟩
        obtain ⟨A8, c8, ev8, _, _, _⟩ := ho8.row.read (by decide) (cms_len ms8)
        have hl8 : ms8.length = l.length := by rw [← chs_len, hc8]; exact HW.out.laws.len
        rw [hl8] at ev8
        subst ev8
        have W8 := hid (HW.out.e0 hf8)
        have O8 := hid ho8.rd
        have C8 := hid hc8
        have HL8 := hid hl8
        have R9 := hid (HRD9.out.fr hf8)
        clear hf8 ho8 hc8 hl8
        go_wp2_with fail
        go_loopw [9, 12] (fun v i wx => ∃ (k : Nat) (ms : List CM), i = .int .i64 k ∧ k ≤ mk.length ∧ RdCs wx v ms ∧ chs ms = leavesL (mk.take k) l ∧ Fr E0 w8 wx) (fun _ i _ => mk.length - (intOf i).toNat)
        case atStart => exact ⟨0, ms9, rfl, Nat.zero_le _, R9.out, HMS9.out, Fr.refl⟩
        case round =>
          obtain ⟨k, ms, rfl, hk, hrd, hms, hf⟩ := hrel
          have HRD := hid hrd
          have HMS := hid hms
          have HF := hid hf
          have WX := hid (W8.out.e0 hf)
          clear hrd hms hf
          obtain ⟨WA, wc, ew, hwc, hwm, hwr⟩ := WX.out.row.read (by decide) (wks_len _)
          have hwl := Nat.le_trans hwc hwm
          simp only at ew hwl
          unfold maxLen at hwl
          subst ew
          obtain ⟨⟨_, _, _, _, i4⟩, _⟩ := blk5 WX.out.cell
          have HWR := hid hwr
          clear hwc hwm hwr
          by_cases hlt : k < mk.length
          · obtain ⟨x, hx⟩ : ∃ x, mk[k]? = some x := ⟨mk[k], List.getElem?_eq_getElem hlt⟩
            obtain ⟨b, o, rfl, r⟩ := HWR.out.wkAt hx
            obtain ⟨d0, d1, d2, d3, d4, d5⟩ := r.wk hx
            have HX := hid hx
            have RK := hid r
            clear r hx d2 d3 d4 d5
            go_wp2_with fail
            refine (waits_all WX.out.is x.s x.g).mono ?_
            rw [W8.out.laws.waits x (List.mem_of_getElem? HX.out)]
            rintro e w9 ⟨rfl, hf9⟩
            clear d0 d1 i4
            obtain ⟨d0, d1, d2, d3, d4, d5⟩ := (RK.out.fr hf9 (fun x => x)).wk HX.out
            obtain ⟨⟨_, _, _, _, i4⟩, _⟩ := blk5 (hf9.heapAt WX.out.cell (fun x => x))
            have F9' := hid hf9
            clear hf9 d2 d3 d4 d5
            go_wp2_with fail
            refine (leave2_ok ms _ x.s x.g w9 (HRD.out.fr F9'.out) (by
              have h1 := congrArg List.length HMS.out
              rw [chs_len, leavesL_len] at h1
              have h2 := W8.out.okl.len
              omega) (by rw [HMS.out]; exact (ok_leaves W8.out.okl).big (by omega))).mono ?_
            rintro e w10 ⟨v10, ms10, rfl, hc10, ho10, hf10⟩
            have R10 := hid ho10.rd
            have C10 := hid hc10
            have F10 := hid ((HF.out.trans F9'.out).trans hf10)
            clear hc10 ho10 hf10 d0 d1 i4
            simp only [tup2]
            go_wp2_with fail
            go_roundw
            case rel => exact ⟨k + 1, ms10, by simp, by omega, R10.out, by rw [C10.out, HMS.out, leavesL_step HX.out], F10.out⟩
            case measure => simp [intOf]; omega
          · obtain rfl : k = mk.length := by omega
            have HMS2 := hid (show chs ms = leavesL mk l by rw [HMS.out, List.take_length])
            have hl2 : ms.length = l.length := by rw [← chs_len, HMS2.out, leavesL_len]
            obtain ⟨A2, c2, ev2, _, hr2, he2⟩ := HRD.out.form
            rw [hl2] at ev2
            subst ev2
            have R2 := hid hr2
            have E2 := hid he2
            obtain ⟨_, _, ev3, hm3, hr3, he3⟩ := O8.out.form
            have hlb := W8.out.okl.len
            have R3 := hid (show RdA w8 A8 (ms8.flatMap CM.cells) by rw [HL8.out] at ev3; cases ev3; exact hr3)
            have E3 := hid he3
            have HL2 := hid hl2
            clear hlt hk hr2 he2 hr3 he3 ev3 hm3 hl2
            go_wp2_with fail
            go_loopw [13] (fun i wy => ∃ q : Nat, i = .int .i64 q ∧ q ≤ l.length ∧ Fr E0 wr wy) (fun i _ => l.length - (intOf i).toNat)
            case atStart => exact ⟨0, rfl, Nat.zero_le _, Fr.refl⟩
            case round =>
              obtain ⟨q, rfl, hq, hf⟩ := hrel
              have HG := hid hf
              clear hf
              by_cases hql : q < l.length
              · obtain ⟨m1, x1⟩ : ∃ m1, ms8[q]? = some m1 := ⟨ms8[q]'(by have := HL8.out; omega), List.getElem?_eq_getElem _⟩
                obtain ⟨m2, x2⟩ : ∃ m2, ms[q]? = some m2 := ⟨ms[q]'(by have := HL2.out; omega), List.getElem?_eq_getElem _⟩
                have hbeg := W8.out.laws.beg q m2.ch m1.ch (by rw [← HMS2.out]; exact chs_get x2) (by rw [← C8.out]; exact chs_get x1)
                obtain ⟨b1, o1, rfl, q1⟩ := R3.out.cmAt x1
                obtain ⟨b2, o2, rfl, q2⟩ := R2.out.cmAt x2
                obtain ⟨_, _, d2, d3, _⟩ := (q1.fr (HF.out.trans HG.out) (fun x => x)).cm x1
                obtain ⟨_, _, e2, e3, _⟩ := (q2.fr HG.out (fun x => x)).cm x2
                have Q1 := hid q1
                have Q2 := hid q2
                have X1 := hid x1
                have X2 := hid x2
                have HB := hid hbeg
                have D1 := hid ((E3.out m1 (List.mem_of_getElem? x1)).fr (HF.out.trans HG.out))
                have D2 := hid ((E2.out m2 (List.mem_of_getElem? x2)).fr HG.out)
                have HBG := hid ((ok_leaves W8.out.okl (ws := mk)).big (by omega) m2.ch (by rw [← HMS2.out]; exact List.mem_map.2 ⟨m2, List.mem_of_getElem? x2, rfl⟩))
                clear q1 q2 x1 x2 hbeg
                have HG2 := hid (show m2.ch.snd.length ≤ 4194304 from HBG.out.2.1)
                have HG3 := hid (show m2.ch.rcv.length ≤ 4194304 from HBG.out.2.2)
                have HBS := hid (show ∃ r, Ch.snd m1.ch = Ch.snd m2.ch ++ r ∧ r.length ≤ 1 from HB.out.1)
                have HBR := hid (show ∃ r, Ch.rcv m1.ch = Ch.rcv m2.ch ++ r ∧ r.length ≤ 1 from HB.out.2)
                obtain ⟨wo, hwo⟩ : ∃ wo : World, wo = wr := ⟨_, rfl⟩
                subst hwo
                have KC := hid (keepX (Q1.out.fr (HF.out.trans HG.out) (fun x => x)) X1.out (Q2.out.fr HG.out (fun x => x)) X2.out)
                have S0 := hid (KC.out _ (Fr.refl (S := E0)).drew)
                go_upto_region 32 with fail
                go_region_held3 (fun w' => Fr E0 wo w' ∧ w'.cell? ⟨b1, o1 + q * 5 + 2, none⟩ = some m1.sv ∧ w'.cell? ⟨b2, o2 + q * 5 + 2, none⟩ = some m2.sv ∧ w'.cell? ⟨b1, o1 + q * 5 + 3, none⟩ = some m1.rv ∧ w'.cell? ⟨b2, o2 + q * 5 + 3, none⟩ = some m2.rv)
                  (with_reducible first | exact S0.out | exact k1.out | exact k2.out)
                  (first
                    | (go_at_call 33; ((with_reducible refine (begins_any m2.ch m1.ch (f := Ch.snd) HBS.out m1.sv m2.sv _ (D1.out.snd.fr (by exact (‹Fr E0 wo _ ∧ _›).1)) (D2.out.snd.fr (by exact (‹Fr E0 wo _ ∧ _›).1)) HG2.out).mono ?_); rintro e w9 ⟨rfl, hf9⟩); have k1 := hid (KC.out _ (((by exact (‹Fr E0 wo _ ∧ _›).1) : Fr E0 wo _).trans hf9)); clear hf9)
                    | (go_at_call 33; ((with_reducible refine (begins_any m2.ch m1.ch (f := Ch.rcv) HBR.out m1.rv m2.rv _ (D1.out.rcv.fr (by exact (‹Fr E0 wo _ ∧ _›).1)) (D2.out.rcv.fr (by exact (‹Fr E0 wo _ ∧ _›).1)) HG3.out).mono ?_); rintro e w10 ⟨rfl, hf10⟩); have k2 := hid (KC.out _ (((by exact (‹Fr E0 wo _ ∧ _›).1) : Fr E0 wo _).trans hf10)); clear hf10))
                all_goals
                  go_wp2_with fail
                  go_roundw
                  case rel => exact ⟨q + 1, by simp, by omega, HG.out.trans k2.out.1⟩
                  case measure => simp [intOf]; omega
              · obtain rfl : q = l.length := by omega
                go_wp2_with fail
                go_ret
                exact ⟨rfl, FA.out.trans ((W8.out.fr.trans HF.out).trans HG.out)⟩
end Go.Proofs.Yteffmnohgnmanaa
