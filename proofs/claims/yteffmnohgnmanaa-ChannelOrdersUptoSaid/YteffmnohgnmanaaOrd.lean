/- ChannelOrders, the walk. -/
import Derived.Test.YteffmnohgnmanaaLives
import Derived.Test.YteffmnohgnmanaaOrdP
import Derived.Test.YteffmnohgnmanaaArgs
namespace Go.Proofs.Yteffmnohgnmanaa
open Go.RowKit
/-- What is so at the head of each round: one channel; what came out. -/
structure OrdRel (w0 w : World) (F : Nat → Prop) (g : Nat) (cap : Int) (sends : List Int) (i sent : Nat) (got : List Int) (gv : Value) (c : Ch) : Prop where
  m : Mine w0 w F g [c]
  row : RowF w (fun q => w0.heap.size ≤ q ∧ ¬ F q) 2 1 gv (ints got)
  inv : OInv cap sends i sent got c
/-- The like, without the law. -/
structure OrdMem (w0 w : World) (F : Nat → Prop) (g : Nat) (l : List Ch) (got : List Int) (gv : Value) : Prop where
  m : Mine w0 w F g l
  row : RowF w (fun q => w0.heap.size ≤ q ∧ ¬ F q) 2 1 gv (ints got)
namespace OrdMem
variable {w0 w w' : World} {F : Nat → Prop} {g : Nat} {l l' : List Ch} {got : List Int} {gv : Value}
theorem step (h : OrdMem w0 w F g l got gv) (hs : Step F g w l' w') : ∃ F', OrdMem w0 w' F' g l' got gv ∧ Fr F w w' := by
  obtain ⟨F', m', h1, h2⟩ := h.m.step hs
  refine ⟨F', ⟨m', (h.row.fr h2 (fun q hq => (h.row.2 q hq).2)).1, fun q hq => ⟨(h.row.2 q hq).1, fun hx => ?_⟩⟩, h2⟩
  rcases h1 q hx with hx | hx
  · exact (h.row.2 q hq).2 hx
  · have := h.row.lt hq; omega
theorem e0 (h : OrdMem w0 w F g l got gv) (hf : Fr E0 w w') : OrdMem w0 w' F g l got gv := ⟨h.m.e0 hf, h.row.fr hf (fun _ _ x => x)⟩
theorem app (h : OrdMem w0 w F g l got gv) {gg cap nn H : Nat} {x : Int} (hown : w'.ownsRow 0 2 1 (.slice (some ⟨gg, 0, none⟩) nn cap) nn (ints got ++ [.int .i64 x])) (hgrow : w.grownBy w' gv.ownBlock) (hat : gv.ownBlock = some gg ∨ gg = H) (hH : H = w.heap.size) :
    OrdMem w0 w' F g l (got ++ [x]) (.slice (some ⟨gg, 0, none⟩) nn cap) := by
  subst hH
  have hf : Fr (fun q => gv.ownBlock = some q) w w' := Fr.refl.grown hgrow (fun q hq => .inl hq)
  refine ⟨⟨h.m.is.fr hf (fun q hq e => (h.row.2 q e).2 hq), h.m.new, h.m.fr.trans' hf (fun q hq => .inr (h.row.2 q hq).1)⟩, ⟨nn, by simpa [ints] using hown⟩, fun q hq => ?_⟩
  simp [Value.ownBlock] at hq; subst hq
  rcases hat with e | e
  · exact h.row.2 _ e
  · subst e
    exact ⟨h.m.fr.size, fun hx => absurd (h.m.lt _ hx) (by omega)⟩
end OrdMem
/-- Inside a round: what the send did lies in block M, whom it woke in wv's. -/
structure WokMem (w0 w : World) (F : Nat → Prop) (g : Nat) (l : List Ch) (got : List Int) (gv : Value) (M : Nat) (o : Array Value) (wv : Value) (wok : List Wk) : Prop where
  mem : OrdMem w0 w F g l got gv
  cell : w.heap[M]? = some (.cells o 32 (0, 0))
  wk : RowF w (fun _ => True) 39 6 wv (wks wok)
theorem WokMem.e0 {w0 w w' : World} {F : Nat → Prop} {g M : Nat} {l : List Ch} {got : List Int} {gv wv : Value} {o : Array Value} {wok : List Wk} (h : WokMem w0 w F g l got gv M o wv wok) (hf : Fr E0 w w') : WokMem w0 w' F g l got gv M o wv wok :=
  ⟨h.mem.e0 hf, hf.heapAt h.cell (fun x => x), h.wk.fr hf (fun _ _ x => x)⟩
theorem WokMem.app {w0 w w' : World} {F : Nat → Prop} {g M : Nat} {l : List Ch} {got : List Int} {gv wv : Value} {o : Array Value} {wok : List Wk} (h : WokMem w0 w F g l got gv M o wv wok) {gg cap nn H : Nat} {x : Int}
    (hown : w'.ownsRow 0 2 1 (.slice (some ⟨gg, 0, none⟩) nn cap) nn (ints got ++ [.int .i64 x])) (hgrow : w.grownBy w' gv.ownBlock) (hat : gv.ownBlock = some gg ∨ gg = H) (hH : H = w.heap.size) :
    WokMem w0 w' F g l (got ++ [x]) (.slice (some ⟨gg, 0, none⟩) nn cap) M o wv wok := by
  have hf : Fr (fun q => gv.ownBlock = some q) w w' := Fr.refl.grown hgrow (fun q hq => .inl hq)
  refine ⟨h.mem.app hown hgrow hat hH, hf.heapAt h.cell (fun e => ?_), h.wk.fr hf (fun q hq e => ?_)⟩
  · obtain ⟨cur, hc⟩ := h.mem.row.heap e
    rw [h.cell] at hc; injection hc with hc; injection hc with _ hc _; exact absurd hc (by decide)
  · exact h.wk.ne_type h.mem.row (by decide) hq e
theorem WokMem.c34 {w0 w : World} {F : Nat → Prop} {g M : Nat} {l : List Ch} {got : List Int} {gv wv a b c d e : Value} {wok : List Wk} (h : WokMem w0 w F g l got gv M #[a, b, c, d, e] wv wok) : w.cell? ⟨M, 3, none⟩ = some d ∧ w.cell? ⟨M, 4, none⟩ = some e :=
  ⟨(blk5 h.cell).1.2.2.2.1, (blk5 h.cell).1.2.2.2.2⟩
theorem wks_at {l : List Wk} {k : Nat} {x : Wk} (h : l[k]? = some x) {j : Nat} {u : Value} (hu : x.cells[j]? = some u) (hj : j < 6) : (wks l)[k * 6 + j]? = some u :=
  (flat_get (f := Wk.cells) (sz := 6) (fun _ => rfl) l k j x h hj).trans hu
theorem bools_get {l : List Bool} {j : Nat} {b : Bool} (h : l[j]? = some b) : (bools l)[j]? = some (.bool b) := by simp [bools, h]
theorem ord_make {w : World} {F : Nat → Prop} {g : Nat} (h : IsCh w F g []) {cap : Int} (hc : 0 ≤ cap ∧ cap ≤ 255) :
    Calls Try.prog 22 #[.pointer (some ⟨g, 0, none⟩), .int .i64 cap] w fun e w' => e = .returned (tup2 (.int .i64 1) (.int .i64 0)) ∧ Step F g w [newCh cap] w' :=
  (make_all h ok_nil cap (by simp [makeNo]; omega)).mono fun _ _ h => h
set_option maxRecDepth 8000 in
set_option maxHeartbeats 8000000 in
theorem ord_walk (cap : Int) (hcap : 0 ≤ cap ∧ cap ≤ 255) (sends : List Int) (turns : List Bool) (sv tv : Value) (w : World) (hs : RdV w sv 1 (ints sends)) (ht : RdV w tv 1 (bools turns)) (hsz : turns.length ≤ 1048576) (hss : sends.length ≤ 1048576) :
    Calls Try.prog 3 #[.int .u8 cap, sv, tv] w (Ret (.bool true) E0 w) := by
  obtain ⟨As, ns, cs, rfl, hls, _, _, hrs⟩ := hs
  obtain ⟨At, nt, ct, rfl, hlt, _, _, hrt⟩ := ht
  obtain rfl : sends.length = ns := by simpa [ints] using hls
  obtain rfl : turns.length = nt := by simpa [bools] using hlt
  have HB := hid hss
  have HS := hid hrs
  have HT := hid hrt
  have HC := hid hcap
  clear hls hlt hrs hrt hcap hss
  have hwr : wrap64 cap = cap := IntWalk.wrap64_in cap (by have := HC.out; omega)
  go_enter Try.func3, Try.ntmps3
  go_wp2_with fail
  refine (new_ok w).mono ?_
  rintro e w1 ⟨g, rfl, hi, hf⟩
  have M1 := hid (Mine.mine_new hi hf)
  clear hi hf
  go_wp2_with fail
  refine (lives_ok w1).mono ?_
  rintro e w2 ⟨rfl, hf⟩
  have M2 := hid (M1.out.e0 hf)
  clear hf
  go_wp2_with fail
  refine (ord_make M2.out.is HC.out).mono ?_
  rintro e w3 ⟨rfl, hs3⟩
  obtain ⟨F3, m3, _, _⟩ := M2.out.step hs3
  have M3 := hid m3
  clear m3 hs3
  simp only [tup2]
  obtain ⟨i0, hi0, hz0, hz1, hz2⟩ := info_parts info2'
  go_wp2_with fail
  have MM := hid (show OrdMem w (w3.alloc (.cells #[] 2)) F3 g [newCh cap] [] (.slice (some ⟨w3.heap.size, 0, none⟩) 0 0) from
    ⟨M3.out.e0 (Fr.refl.alloc _), ⟨(rowF_empty w3 2 1).1, fun q hq => by
      simp [Value.ownBlock] at hq; subst hq
      exact ⟨M3.out.fr.size, fun hx => absurd (M3.out.lt _ hx) (by omega)⟩⟩⟩)
  simp only [hwr]
  go_loopw [10, 11, 12] (fun s gv i wr => ∃ (si ii : Nat) (got : List Int) (F : Nat → Prop) (c : Ch), s = .int .i64 si ∧ i = .int .i64 ii ∧ ii ≤ turns.length ∧ OrdMem w wr F g [c] got gv ∧ OInv cap sends ii si got c) (fun _ _ i _ => turns.length - (intOf i).toNat)
  case atStart => exact ⟨0, 0, [], F3, newCh cap, rfl, rfl, Nat.zero_le _, MM.out, OInv.start HC.out sends⟩
  case round =>
    obtain ⟨si, ii, got, F, c, rfl, rfl, hii, hmem, hinv⟩ := hrel
    have H0 := hid hmem
    have I0 := hid hinv
    clear hmem hinv
    by_cases hlt : ii < turns.length
    · obtain ⟨b, hb⟩ : ∃ b, turns[ii]? = some b := ⟨turns[ii], List.getElem?_eq_getElem hlt⟩
      obtain ⟨bt, ot, rfl, rt⟩ := HT.out.at (fun e => by have := congrArg List.length e; simp [bools] at this; subst this; simp at hlt)
      have tc := (rt.fr H0.out.m.fr (fun x => x)) ii (.bool b) (bools_get hb)
      have RT := hid rt
      have HTB := hid (bools_get hb)
      clear rt hb
      cases b with
      | true =>
        by_cases hl2 : si < sends.length
        · obtain ⟨v, hv⟩ : ∃ v, sends[si]? = some v := ⟨sends[si], List.getElem?_eq_getElem hl2⟩
          obtain ⟨bs, os, rfl, rs⟩ := HS.out.at (fun e => by have := congrArg List.length e; simp [ints] at this; subst this; simp at hl2)
          have sc := (rs.fr H0.out.m.fr (fun x => x)) si (.int .i64 v) (by simp [ints, hv])
          have hb2 : si < 1048576 := Nat.lt_of_lt_of_le hl2 HB.out
          have HV := hid hv
          clear rs hv
          go_wp2_with fail
          refine (send_all H0.out.m.is I0.out.ok (by omega) 1 (2 * ii + 1) 0 v).mono ?_
          rintro e w4 ⟨wv, rfl, hr4, hs4⟩
          obtain ⟨c', ⟨mw, mval, mok, mtrap, mwk⟩, hsend, htr, hwl, hinv'⟩ := I0.out.send HV.out
          simp only at htr hwl hinv'
          subst htr
          rw [hsend] at hr4 hs4 ⊢
          simp only at hr4 hs4 ⊢
          obtain ⟨F4, H4, hf4⟩ := H0.out.step hs4
          obtain ⟨A4, c4, rfl, hcc, _, hr5⟩ := hr4.read (n := mwk.length) (by decide) (wks_len _)
          have I4 := hid hinv'
          have W4 : Hid (WokMem w (w4.alloc (.cells #[.bool mw, .int .i64 mval, .bool mok, .int .i64 0, .slice A4 mwk.length c4] 32)) F4 g [c'] got u11 w4.heap.size #[.bool mw, .int .i64 mval, .bool mok, .int .i64 0, .slice A4 mwk.length c4] (.slice A4 mwk.length c4) mwk) :=
            ⟨H4.e0 (Fr.refl.alloc _), heap_alloc_new _ _, (hr4.mono (fun _ _ => trivial)).fr ((Fr.refl (S := E0)).alloc _) (fun _ _ x => x)⟩
          clear hsend hs4 hr4 hr5 hinv' H4 tc sc
          obtain ⟨x3, x4⟩ := W4.out.c34
          simp only [tup2, Mv.val]
          go_wp2_with fail
          go_loopw [11, 15] (fun gv k wr' => ∃ kk : Nat, k = .int .i64 kk ∧ kk ≤ mwk.length ∧ WokMem w wr' F4 g [c'] (got ++ (mwk.take kk).map (·.v)) gv w4.heap.size #[.bool mw, .int .i64 mval, .bool mok, .int .i64 0, .slice A4 mwk.length c4] (.slice A4 mwk.length c4) mwk) (fun _ k _ => mwk.length - (intOf k).toNat)
          case atStart => exact ⟨0, rfl, Nat.zero_le _, by simpa using W4.out⟩
          case round =>
            obtain ⟨kk, rfl, hkk, hwm⟩ := hrel
            have W5 := hid hwm
            clear hwm x3 x4
            obtain ⟨_, x4⟩ := W5.out.c34
            by_cases hlk : kk < mwk.length
            · obtain ⟨x, hx⟩ : ∃ x, mwk[kk]? = some x := ⟨mwk[kk], List.getElem?_eq_getElem hlk⟩
              rcases W5.out.wk.form (by decide) (wks_len _) with ⟨_, h0, _⟩ | ⟨b3, p3, hv3, _, hb3, hn3, _, hr3, _⟩
              · omega
              cases hv3
              have y3 := hr3 (kk * 6 + 3) (.int .i64 x.v) (wks_at hx rfl (by omega))
              simp only [Nat.zero_add] at y3
              have HX := hid hx
              have W6 := hid (W5.out.e0 ((Fr.refl (S := E0)).alloc (.cells #[.int .i64 x.v] 2)))
              have hG : got.length + 1 ≤ 1048576 := by have := I0.out.got_le; omega
              have hGL : (got ++ (mwk.take kk).map (·.v)).length ≤ 1048576 := by simp; omega
              clear hr3 hx hb3
              go_wp2_with (at_builtin; refine wpList_append_lies _ rfl (.tmp 84) (.tmp 91) 22 rfl 0 2 i0 (.int .i64 0) 1 8 Try.underlying22 hi0 hz0 hz1 hz2 rfl (by decide) _ (got ++ (mwk.take kk).map (·.v)).length (ints (got ++ (mwk.take kk).map (·.v))) rfl (W6.out.mem.row.own (by decide) (by simp [ints])) ⟨_, 0, none⟩ 1 1 [.int .i64 x.v] rfl rfl (World.news_of_block (heap_alloc_new _ _)) (by simp [Value.oneCell']) (by decide) (by unfold maxLen; omega) (by omega) (Nat.zero_le _) _ rfl ?_; intro gb cap7 w7 hown7 hgrow7 hat7 hlt7)
              have W7 := hid (W6.out.app hown7 hgrow7 hat7 rfl)
              clear hown7 hgrow7 hat7
              go_wp2_with fail
              go_roundw
              case rel => exact ⟨kk + 1, by simp, by omega, by have h7 := W7.out; simp [List.take_add_one, HX.out, Nat.min_eq_left hkk] at h7 ⊢; exact h7⟩
              case measure => simp [intOf]; omega
            · obtain rfl : kk = mwk.length := by omega
              clear hlk hkk
              have IG := I4.out
              have MG := W5.out.mem
              rw [List.take_length] at MG
              generalize got ++ mwk.map (·.v) = G at IG MG
              have M5 := hid MG
              have I5 := hid IG
              clear IG MG
              obtain ⟨A5, cp5, rfl, _, _, _⟩ := M5.out.row.read (n := G.length) (by decide) (by simp [ints])
              have tc := (RT.out.fr M5.out.m.fr (fun x => x)) ii (.bool true) HTB.out
              have hfit : (c'.vals.length : Int) ≤ cap := I5.out.fit
              have hgl : G.length ≤ si + 1 := I5.out.got_le
              go_wp2_with fail
              refine (len_all M5.out.m.is 1).mono ?_
              rintro e w8 ⟨rfl, rfl⟩
              simp only [tup2, show lenL [c'] 1 = c'.vals.length from rfl, show trapC [c'] 1 = 0 from rfl]
              go_wp2_with fail
              go_roundw
              case rel => exact ⟨si + 1, ii + 1, G, F4, c', by simp, by simp, by omega, M5.out, I5.out⟩
              case measure => simp [intOf]; omega
        · have M5 := H0
          have I5 := hid I0.out.up
          have hl3 : si = sends.length := by have := I0.out.le; omega
          have hb3 : si ≤ 1048576 := by have := HB.out; omega
          have HI := I0
          clear H0 I0
          have hl2' : ¬ ((si : Int) < sends.length) := by omega
          obtain ⟨G, hG⟩ : ∃ G, G = got := ⟨_, rfl⟩
          subst hG
          obtain ⟨c', hc'⟩ : ∃ c', c' = c := ⟨_, rfl⟩
          subst hc'
          obtain ⟨A5, cp5, rfl, _, _, _⟩ := M5.out.row.read (n := G.length) (by decide) (by simp [ints])
          have tc := (RT.out.fr M5.out.m.fr (fun x => x)) ii (.bool true) HTB.out
          have hfit : (c'.vals.length : Int) ≤ cap := I5.out.fit
          have hgl : G.length ≤ si := I5.out.got_le
          go_wp2_with fail
          refine (len_all M5.out.m.is 1).mono ?_
          rintro e w8 ⟨rfl, rfl⟩
          simp only [tup2, show lenL [c'] 1 = c'.vals.length from rfl, show trapC [c'] 1 = 0 from rfl]
          go_wp2_with fail
          go_roundw
          case rel => exact ⟨si, ii + 1, G, F, c', by rw [hl3], by simp, by omega, M5.out, I5.out⟩
          case measure => simp [intOf]; omega
      | false =>
        go_wp2_with fail
        refine (recv_all H0.out.m.is I0.out.ok (by omega) 1 (2 * ii) 0).mono ?_
        rintro e w4 ⟨wv, rfl, hr4, hs4⟩
        obtain ⟨c', ⟨mw, mval, mok, mtrap, mwk⟩, hrecv, htr, hinv'⟩ := I0.out.recv
        simp only at htr hinv'
        subst htr
        rw [hrecv] at hr4 hs4 ⊢
        simp only at hr4 hs4 ⊢
        obtain ⟨F4, H4, hf4⟩ := H0.out.step hs4
        obtain ⟨A4, n4, c4, rfl⟩ := hr4.shape
        have H5 := hid (H4.e0 (Fr.refl.alloc (.cells #[.bool mw, .int .i64 mval, .bool mok, .int .i64 0, .slice A4 n4 c4] 32)))
        obtain ⟨⟨x0, x1, _, x3, _⟩, _⟩ := blk5 (t := 32) (heap_alloc_new w4 (.cells #[.bool mw, .int .i64 mval, .bool mok, .int .i64 0, .slice A4 n4 c4] 32))
        have HS1 := hid I0.out.got_le
        have HS2 := hid I0.out.le
        clear hrecv hs4 hr4 hf4 H4 tc
        simp only [tup2, Mv.val]
        cases mw with
        | true =>
          rw [if_pos rfl] at hinv'
          have I5 := hid hinv'
          have M5 := H5
          clear hinv' H5
          obtain ⟨G, hG⟩ : ∃ G, G = got := ⟨_, rfl⟩
          subst hG
          obtain ⟨A5, cp5, rfl, _, _, _⟩ := M5.out.row.read (n := G.length) (by decide) (by simp [ints])
          have tc := (RT.out.fr M5.out.m.fr (fun x => x)) ii (.bool false) HTB.out
          have hfit : (c'.vals.length : Int) ≤ cap := I5.out.fit
          have hgl : G.length ≤ si := I5.out.got_le
          go_wp2_with fail
          refine (len_all M5.out.m.is 1).mono ?_
          rintro e w8 ⟨rfl, rfl⟩
          simp only [tup2, show lenL [c'] 1 = c'.vals.length from rfl, show trapC [c'] 1 = 0 from rfl]
          go_wp2_with fail
          go_roundw
          case rel => exact ⟨si, ii + 1, G, F4, c', by simp, by simp, by omega, M5.out, I5.out⟩
          case measure => simp [intOf]; omega
        | false =>
          rw [if_neg (by simp)] at hinv'
          have I6 := hid hinv'
          have W6 := hid (H5.out.e0 ((Fr.refl (S := E0)).alloc (.cells #[.int .i64 mval] 2)))
          have HN1 : Hid (((w4.alloc (.cells #[.bool false, .int .i64 mval, .bool mok, .int .i64 0, .slice A4 n4 c4] 32)).alloc (.cells #[.int .i64 mval] 2)).heap[w4.heap.size + 1]? = some (.cells #[.int .i64 mval] 2 (0, 0))) := by
            have := heap_alloc_new (w4.alloc (.cells #[.bool false, .int .i64 mval, .bool mok, .int .i64 0, .slice A4 n4 c4] 32)) (.cells #[.int .i64 mval] 2)
            refine hid ?_
            simpa using this
          have hG : got.length + 1 ≤ 1048577 := by have := HS1.out; have := HS2.out; have := HB.out; omega
          clear hinv'
          go_wp2_with (at_builtin; refine wpList_append_lies _ rfl (.tmp 117) (.tmp 120) 22 rfl 0 2 i0 (.int .i64 0) 1 8 Try.underlying22 hi0 hz0 hz1 hz2 rfl (by decide) _ got.length (ints got) rfl (W6.out.row.own (by decide) (by simp [ints])) ⟨w4.heap.size + 1, 0, none⟩ 1 1 [.int .i64 mval] rfl rfl (World.news_of_block HN1.out) (by simp [Value.oneCell']) (by decide) (by unfold maxLen; omega) (by omega) (Nat.zero_le _) (w4.heap.size + 1 + 1) (by simp) ?_; intro gb cap7 w7 hown7 hgrow7 hat7 hlt7)
          have MG := W6.out.app hown7 hgrow7 hat7 (by simp)
          have IG := I6.out
          have hGL : (got ++ [mval]).length = got.length + 1 := by simp
          generalize got ++ [mval] = G at MG IG hGL
          have M5 := hid MG
          have I5 := hid IG
          rw [← hGL] at M5 ⊢
          clear MG IG hown7 hgrow7 hat7 hGL
          have tc := (RT.out.fr M5.out.m.fr (fun x => x)) ii (.bool false) HTB.out
          have hfit : (c'.vals.length : Int) ≤ cap := I5.out.fit
          have hgl : G.length ≤ si := I5.out.got_le
          go_wp2_with fail
          refine (len_all M5.out.m.is 1).mono ?_
          rintro e w8 ⟨rfl, rfl⟩
          simp only [tup2, show lenL [c'] 1 = c'.vals.length from rfl, show trapC [c'] 1 = 0 from rfl]
          go_wp2_with fail
          go_roundw
          case rel => exact ⟨si, ii + 1, G, F4, c', by simp, by simp, by omega, M5.out, I5.out⟩
          case measure => simp [intOf]; omega
    · obtain rfl : ii = turns.length := by omega
      clear hlt hii
      obtain ⟨A, cp, rfl, _, _, hrd⟩ := H0.out.row.read (n := got.length) (by decide) (by simp [ints])
      have HR := hid hrd
      clear hrd
      go_wp2_with fail
      go_loopw [20] (fun i w2 => ∃ j : Nat, i = .int .i64 j ∧ j ≤ got.length ∧ Fr E0 wr w2) (fun i _ => got.length - (intOf i).toNat)
      case atStart => exact ⟨0, rfl, Nat.zero_le _, Fr.refl⟩
      case round =>
        obtain ⟨j, rfl, hj, hf⟩ := hrel
        have HF := hid hf
        clear hf
        by_cases hlt : j < got.length
        · have hgs := I0.out.got_at hlt
          obtain ⟨x, hx⟩ : ∃ x, got[j]? = some x := ⟨got[j], List.getElem?_eq_getElem hlt⟩
          have hx2 : sends[j]? = some x := hgs ▸ hx
          have hlt2 : j < sends.length := by have := I0.out.got_le; have := I0.out.le; omega
          obtain ⟨b1, o1, rfl, r1⟩ := HR.out.at (fun e => by have := congrArg List.length e; simp [ints] at this; subst this; simp at hlt)
          obtain ⟨b2, o2, rfl, r2⟩ := HS.out.at (fun e => by have := congrArg List.length e; simp [ints] at this; subst this; simp at hlt2)
          have y1 := r1.fr HF.out (fun x => x) j (.int .i64 x) (by simp [ints, hx])
          have y2 := (r2.fr H0.out.m.fr (fun x => x)).fr HF.out (fun x => x) j (.int .i64 x) (by simp [ints, hx2])
          have z1 : ((x == x) : Bool) = true := by simp
          clear r1 r2 hgs hx hx2
          have hb : j < 1048576 := Nat.lt_of_lt_of_le hlt2 HB.out
          go_wp2_with (go_quiet (fail))
          all_goals
            go_roundw
            case rel => exact ⟨j + 1, by simp, by omega, HF.out.drewN nq⟩
            case measure => simp [intOf]; omega
        · obtain rfl : j = got.length := by omega
          clear hlt hj
          go_wp2_with fail
          go_ret
          exact ⟨rfl, H0.out.m.fr.trans HF.out⟩
end Go.Proofs.Yteffmnohgnmanaa
