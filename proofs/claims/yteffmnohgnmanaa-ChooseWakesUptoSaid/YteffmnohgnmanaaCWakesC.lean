/- ChooseWakes: the walk. Printed by wip/gen/cwakes.py. -/
import Derived.Test.YteffmnohgnmanaaS5ChooseSelects
import Derived.Test.YteffmnohgnmanaaWakesPC
namespace Go.Proofs.Yteffmnohgnmanaa
open Go.RowKit
set_option linter.unusedVariables false
attribute [local go_sem ↓] Go.wp_at_zero Go.wp_at_succ
/-- Another one's call. -/
structure ThenD where
  s : Int
  g : Int
  send : Bool
  ch : Int
  v : Int
def ThenD.cells (x : ThenD) : List Value := [.int .i64 x.s, .int .i64 x.g, .bool x.send, .int .i64 x.ch, .int .i64 x.v]
def thensV (l : List ThenD) : List Value := l.flatMap ThenD.cells
theorem thensV_len (l : List ThenD) : (thensV l).length = l.length * 5 := flat_len (f := ThenD.cells) (sz := 5) (fun _ => rfl) l
theorem RdL.thn {w : World} {b o k : Nat} {l : List ThenD} {x : ThenD} (h : RdL w b o (thensV l)) (hx : l[k]? = some x) :
    w.cell? ⟨b, o + k * 5, none⟩ = some (.int .i64 x.s) ∧ w.cell? ⟨b, o + k * 5 + 1, none⟩ = some (.int .i64 x.g) ∧ w.cell? ⟨b, o + k * 5 + 2, none⟩ = some (.bool x.send) ∧ w.cell? ⟨b, o + k * 5 + 3, none⟩ = some (.int .i64 x.ch) ∧ w.cell? ⟨b, o + k * 5 + 4, none⟩ = some (.int .i64 x.v) := by
  have hg : ∀ j (u : Value), x.cells[j]? = some u → j < 5 → w.cell? ⟨b, o + (k * 5 + j), none⟩ = some u := fun j u hu hj => h _ _ ((flat_get (f := ThenD.cells) (sz := 5) (fun _ => rfl) l k j x hx hj).trans hu)
  refine ⟨hg 0 _ rfl (by omega), ?_, ?_, ?_, ?_⟩ <;> rw [Nat.add_assoc]
  · exact hg 1 _ rfl (by omega)
  · exact hg 2 _ rfl (by omega)
  · exact hg 3 _ rfl (by omega)
  · exact hg 4 _ rfl (by omega)
theorem RdA.thnAt {w : World} {A : Option Addr} {l : List ThenD} {k : Nat} {x : ThenD} (h : RdA w A (thensV l)) (hx : l[k]? = some x) : ∃ b o, A = some ⟨b, o, none⟩ ∧ RdL w b o (thensV l) := by
  rcases h with h | h
  · have h2 := congrArg List.length h
    have h3 := lt_of_get hx
    rw [thensV_len] at h2
    have h4 : l.length * 5 = 0 := h2
    omega
  · exact h
theorem keepB5 {w W : World} {B : Nat} {a b c d e : Value} (hB : w.heap[B]? = some (.cells #[a, b, c, d, e] 45 (0, 0))) (hf : Fr E0 w W) : Fr E0 w W ∧ W.cell? ⟨B, 0, none⟩ = some a ∧ W.cell? ⟨B, 1, none⟩ = some b := by
  have h := hf.heapAt hB (fun x => x)
  exact ⟨hf, cell_of_row W _ 0 _ _ _ h, cell_of_row W _ 1 _ _ _ h⟩
theorem keepQ {w : World} {M B b o q : Nat} {m0 m1 m2 m3 m4 gs gg c d e : Value} {l : List Wk} {x : Wk} (hM : w.heap[M]? = some (.cells #[m0, m1, m2, m3, m4] 32 (0, 0))) (hB : w.heap[B]? = some (.cells #[gs, gg, c, d, e] 45 (0, 0))) (r : RdL w b o (wks l)) (hx : l[q]? = some x) :
    ∀ W, Fr E0 w W → (Fr E0 w W ∧ W.cell? ⟨M, 4, none⟩ = some m4 ∧ W.cell? ⟨b, o + q * 6, none⟩ = some (.int .i64 x.s) ∧ W.cell? ⟨b, o + q * 6 + 1, none⟩ = some (.int .i64 x.g) ∧ W.cell? ⟨B, 0, none⟩ = some gs ∧ W.cell? ⟨B, 1, none⟩ = some gg) := fun W hW => by
  have h1 := hW.heapAt hM (fun x => x)
  have h2 := hW.heapAt hB (fun x => x)
  obtain ⟨d0, d1, _⟩ := (r.fr hW (fun x => x)).wk hx
  exact ⟨hW, cell_of_row W _ 4 _ _ _ h1, d0, d1, cell_of_row W _ 0 _ _ _ h2, cell_of_row W _ 1 _ _ _ h2⟩
theorem Both.far1 {w w' : World} {F G : Nat → Prop} {g B : Nat} {l l2 : List Ch} {v : Value} (h : Both w F G g l v l2) (hf : Fr (fun k => k = B) w w') (h1 : ¬ F B) (h2 : ¬ G B) : Both w' F G g l v l2 :=
  h.far hf (fun k hk e => h1 (e ▸ hk)) (fun k hk e => h2 (e ▸ hk))
theorem set5_fr1 {w : World} {B : Nat} (a b c d e : Value) : Fr (fun k => k = B) w (set5 w B a b c d e) := set5_fr (S := fun k => k = B) rfl a b c d e
set_option maxRecDepth 8000 in
set_option maxHeartbeats 8000000 in
theorem cwakes_walk (v : Value) (ms : List CM) (x : Ask) (w : World) (h : RdCs w v ms) (hfit : ∀ c ∈ chs ms, BigC c) (hN : ∀ c ∈ chs ms, c.snd.length + c.rcv.length ≤ 1048576) (hx : x.Ok w) (hn : x.cases.length ≤ 1048576) (thn : List ThenD) (tv0 : Value) (ht : RdV w tv0 5 (thensV thn)) (hnt : thn.length ≤ 1048576) :
    Calls Try.prog 18 #[v, .agg #[.int .i64 x.gs, .int .i64 x.gg, x.cv, .bool x.deflt, x.dv], tv0] w (Ret (.bool true) E0 w) := by
  obtain ⟨gs, gg, cv, cs, dft, dv, draws⟩ := x
  obtain ⟨_, hc, _, hd, hdw⟩ := hx
  simp only at *
  have HC := hid hc
  have HD := hid hd
  have HDW := hid (show ∀ d ∈ draws, 0 ≤ d ∧ d < 18446744073709551616 from fun d hd => wf64 (hdw d hd))
  obtain ⟨CA, cn, cc, rfl, hcl, _, _, _⟩ := hc
  obtain rfl : cs.length = cn := by rw [pks_len] at hcl; omega
  obtain ⟨DA, dn, dc, rfl, _⟩ := hd
  obtain ⟨A, n, c, hv, _⟩ := h.row
  subst hv
  obtain ⟨TA, tn, tc, rfl, htl, _, _, htr⟩ := ht
  obtain rfl : thn.length = tn := by rw [thensV_len] at htl; omega
  have HTH := hid htr
  have H0 := hid h
  have HB := hid hfit
  have HN := hid hN
  clear h hcl hdw hfit hN htl htr
  go_enter Try.func18, Try.ntmps18
  go_wp2_with fail
  have G0 := hid (heap_alloc_new w (.cells #[.int .i64 gs, .int .i64 gg, .slice CA cs.length cc, .bool dft, .slice DA dn dc] 45))
  have FA := hid ((Fr.refl (S := E0) (w := w)).alloc (.cells #[.int .i64 gs, .int .i64 gg, .slice CA cs.length cc, .bool dft, .slice DA dn dc] 45))
  have HGW := hid (show w.heap.size < (w.alloc (.cells #[.int .i64 gs, .int .i64 gg, .slice CA cs.length cc, .bool dft, .slice DA dn dc] 45)).heap.size by simp)
  generalize w.alloc (.cells #[.int .i64 gs, .int .i64 gg, .slice CA cs.length cc, .bool dft, .slice DA dn dc] 45) = W0 at *
  refine (load_ok _ ms W0 (H0.out.fr FA.out) (fun m hm => by
    obtain ⟨h1, h2, h3⟩ := HB.out m.ch (List.mem_map.2 ⟨m, hm, rfl⟩)
    exact ⟨by omega, by omega, by omega⟩)).mono ?_
  rintro e w1 ⟨hf1, ⟨hno, rfl⟩ | ⟨hno, g, F, rfl, his, hnew⟩⟩
  · have F1 := hid hf1
    have HNO := hid hno
    clear hf1 hno
    simp only [tup2]
    go_wp2_with fail
    refine (rload_ok (H0.out.fr (FA.out.trans F1.out)) HB.out).mono ?_
    rintro e w2 ⟨hf2, ⟨_, rfl⟩ | ⟨hno2, _⟩⟩
    · have F2 := hid ((FA.out.trans F1.out).trans hf2)
      clear hf2
      simp only [tup2]
      go_wp2_with fail
      refine (awake_ok w2).mono ?_
      rintro e w3 ⟨rfl, hf3⟩
      have F3 := hid (F2.out.trans hf3)
      clear hf3
      go_wp2_with fail
      go_ret
      exact ⟨rfl, F3.out⟩
    · rw [HNO.out] at hno2; cases hno2
  · have F1 := hid hf1
    have HNO := hid hno
    have IS := hid his
    have NEW := hid hnew
    clear hf1 hno his hnew
    simp only [tup2]
    go_wp2_with fail
    refine (rload_ok (H0.out.fr (FA.out.trans F1.out)) HB.out).mono ?_
    rintro e w2 ⟨hf2, ⟨hno2, _⟩ | ⟨_, v2, ms2, rfl, hc2, ho2⟩⟩
    · rw [HNO.out] at hno2; cases hno2
    have P2 := hid (Play.load IS.out NEW.out F1.out hc2 ho2 hf2 (ok_loaded HNO.out HN.out))
    clear hf2 hc2 ho2
    simp only [tup2]
    have G2 := hid (P2.out.fr.heapAt G0.out (fun x => x))
    obtain ⟨⟨a0, a1, a2, a3, a4⟩, _⟩ := blk5 G2.out
    obtain ⟨l', ⟨rc, rdf, ⟨mw, mv, mo, mt, mk⟩⟩, err, hS⟩ : ∃ l' r err, selL (chs ms) gs gg cs dft draws = (l', r, err) := ⟨_, _, _, rfl⟩
    have HS := hid hS
    have HF0 := hid (FA.out.trans P2.out.fr)
    have HNF := hid (show ∀ k, F k → w.heap.size < k + 1 from fun k hk => by have h1 := P2.out.newF k hk; have h2 := HGW.out; omega)
    clear hS
    go_wp2_with fail
    refine (sel_all P2.out.both.is P2.out.ok (by decide) gs gg cs _ dft draws _ (HC.out.old HF0.out (fun q hq => by have h1 := HNF.out q hq; omega)) hn (HD.out.fr HF0.out) HDW.out l' ⟨rc, rdf, ⟨mw, mv, mo, mt, mk⟩⟩ err HS.out).mono ?_
    rintro e w3 ⟨wv3, rfl, hr3, hs3⟩
    simp only at hr3
    obtain ⟨F', t3, hf3, hfr⟩ := P2.out.both.step hs3
    obtain ⟨A3, n3, c3, rfl⟩ := hr3.shape
    have T3 := hid t3
    have HF3 := hid hf3
    have R3 := hid hr3
    have F3 := hid (P2.out.fr.trans' hfr (fun q hq => .inr (P2.out.newF q hq)))
    have G3 := hid (F3.out.heapAt G0.out (fun x => x))
    have hb3 := heap_lt G3.out
    clear hs3 hr3 t3 hf3 hfr a0 a1 a2 a3 a4
    obtain ⟨⟨a0, a1, a2, a3, a4⟩, _⟩ := blk5 G3.out
    simp only [tup2, Cho.val]
    go_wp2_with fail
    have X4 := hid (heap_alloc_new w3 (.cells #[.int .i64 rc, .bool rdf, .bool mw, .int .i64 mv, .bool mo, .int .i64 mt, .slice A3 n3 c3] 47))
    have FX := hid ((Fr.refl (S := E0) (w := w3)).alloc (.cells #[.int .i64 rc, .bool rdf, .bool mw, .int .i64 mv, .bool mo, .int .i64 mt, .slice A3 n3 c3] 47))
    have T4 := hid (T3.out.e0 FX.out)
    have R4 := hid (R3.out.fr FX.out (fun _ _ x => x))
    have F4 := hid (F3.out.trans FX.out)
    obtain ⟨ms4, hrd4, hms4⟩ := T4.out.rd
    have RD4 := hid hrd4
    have MS4 := hid hms4
    have OK4 := hid (show Ok 1048576 (chs ms4) by rw [hms4]; exact P2.out.ok)
    clear hrd4 hms4 a0 a1 a2 a3 a4
    generalize w3.alloc _ = w4 at *
    refine (rsel_all RD4.out OK4.out (by decide) gs gg cs _ dft draws _ (HC.out.fr (FA.out.trans F4.out)) hn (HD.out.fr (FA.out.trans F4.out)) HDW.out l' ⟨rc, rdf, ⟨mw, mv, mo, mt, mk⟩⟩ err (by rw [MS4.out]; exact HS.out)).mono ?_
    rintro e w5 ⟨v5, wv5, rfl, ho5, hr5, hf5⟩
    simp only at hr5
    rw [MS4.out] at ho5
    obtain ⟨G', t5, hg5⟩ := T4.out.outR hf5 ho5
    obtain ⟨A5, n5, c5, rfl⟩ := hr5.shape
    have X5 := hid (hf5.heapAt X4.out (fun x => x))
    have T5 := hid t5
    have HG5 := hid hg5
    have R5 := hid hr5
    have R5' := hid (R4.out.fr hf5 (fun _ _ x => x))
    have F5 := hid (F4.out.trans hf5)
    have OK5 := hid (ok_select P2.out.ok gs gg cs dft draws l' _ err HS.out)
    have PL := hid (show Play W0 w5 F' G' g v5 l' (1048576 + 17) from ⟨T5.out, fun k hk => by
      rcases HF3.out k hk with h1 | h1
      · exact P2.out.newF k h1
      · exact Nat.le_trans P2.out.fr.size h1, fun k hk => by
      rcases HG5.out k hk with h1 | h1
      · have := F1.out.size; omega
      · exact Nat.le_trans F4.out.size h1, F5.out, OK5.out⟩)
    have hX5 := heap_lt X5.out
    clear t5 hg5 hr5 hf5 ho5
    obtain ⟨⟨x0, x1, x2, x3, x4, x5, x6⟩, _⟩ := blk7 X5.out
    have zerr : ((err == err) : Bool) = true := by simp
    simp only [tup3, Cho.val]
    go_wp2_with fail
    have FY := hid ((Fr.refl (S := E0) (w := w5)).alloc (.cells #[.int .i64 rc, .bool rdf, .bool mw, .int .i64 mv, .bool mo, .int .i64 mt, .slice A5 n5 c5] 47))
    have P6 := hid (PL.out.e0 FY.out)
    have R6 := hid (R5.out.fr FY.out (fun _ _ x => x))
    have R6' := hid (R5'.out.fr FY.out (fun _ _ x => x))
    clear x0 x1 x2 x3 x4 x5 x6
    generalize w5.alloc _ = w6 at *
    refine (same_cho7 rc rdf mw mv mo mt mk A3 n3 c3 A5 n5 c5 w6 R6'.out R6.out).mono ?_
    rintro e w7 ⟨rfl, hf7⟩
    have P7 := hid (P6.out.e0 hf7)
    clear hf7
    have XB7 := hid (P7.out.fr.heapAt G0.out (fun x => x))
    go_wp2_with fail
    go_loopw [9, 15] (fun v i wr => ∃ (k : Nat) (F G : Nat → Prop) (l : List Ch), i = .int .i64 k ∧ k ≤ thn.length ∧ Play W0 wr F G g v l (1048593 + k)) (fun _ i _ => thn.length - (intOf i).toNat)
    case atStart => exact ⟨0, _, _, _, rfl, Nat.zero_le _, P7.out⟩
    case round =>
      obtain ⟨k, F, G, l, rfl, hk, hp⟩ := hrel
      have HP := hid hp
      clear hp
      by_cases hlt : k < thn.length
      · obtain ⟨wq, hwq⟩ : ∃ wq : World, wq = wr := ⟨_, rfl⟩
        subst hwq
        obtain ⟨⟨ts, tg, tsend, tch, tv⟩, hx⟩ : ∃ x, thn[k]? = some x := ⟨thn[k], List.getElem?_eq_getElem hlt⟩
        obtain ⟨b, o, rfl, r⟩ := HTH.out.thnAt hx
        obtain ⟨c0, c1, c2, c3, c4⟩ := (r.fr (FA.out.trans HP.out.fr) (fun x => x)).thn hx
        simp only at c0 c1 c2 c3 c4
        have TZ := hid (heapT3 wq (.cells #[.int .i64 ts, .int .i64 tg, .bool tsend, .int .i64 tch, .int .i64 tv] 100) (.cells #[.bool false, .int .i64 0, .bool false, .int .i64 0, .slice none 0 0] 32) (.cells #[.bool false, .int .i64 0, .bool false, .int .i64 0, .slice none 0 0] 32))
        have FB := hid ((((Fr.refl (S := E0) (w := wq)).alloc (.cells #[.int .i64 ts, .int .i64 tg, .bool tsend, .int .i64 tch, .int .i64 tv] 100)).alloc (.cells #[.bool false, .int .i64 0, .bool false, .int .i64 0, .slice none 0 0] 32)).alloc (.cells #[.bool false, .int .i64 0, .bool false, .int .i64 0, .slice none 0 0] 32))
        have W6s := hid (show (((wq.alloc (.cells #[.int .i64 ts, .int .i64 tg, .bool tsend, .int .i64 tch, .int .i64 tv] 100)).alloc (.cells #[.bool false, .int .i64 0, .bool false, .int .i64 0, .slice none 0 0] 32)).alloc (.cells #[.bool false, .int .i64 0, .bool false, .int .i64 0, .slice none 0 0] 32)).heap.size = wq.heap.size + 3 by simp)
        have HFl := hid HP.out.both.is.lt
        have HGl := hid HP.out.both.glt
        clear r hx
        go_upto_region 17 with fail
        have TBB := hid TZ.out.1.1
        have MA := hid TZ.out.1.2
        have MB := hid TZ.out.2
        have P6 := hid (HP.out.e0 FB.out)
        clear TZ c0 c1 c2 c3 c4
        generalize (((wq.alloc _).alloc _).alloc _) = w6 at *
        obtain ⟨⟨b0, b1, b2, b3, b4⟩, _⟩ := blk5 TBB.out
        cases tsend with
        | true =>
          obtain ⟨l3, ⟨pw, pv, po, pt, pk⟩, er, hL⟩ : ∃ l3 m er, sendL l tch ts tg tv = (l3, m, er) := ⟨_, _, _, rfl⟩
          have HL := hid hL
          have HWK := hid (show WakesOK l l3 pk by have h := wakes_send l tch ts tg tv; rw [hL] at h; exact h)
          have OK3 := hid (show Ok (1048593 + k + 1) l3 by have h := P6.out.ok.send tch ts tg tv; rw [hL] at h; exact h)
          clear hL
          go_wp2_with fail
          refine (send_all P6.out.both.is P6.out.ok (by omega) tch ts tg tv).mono ?_
          rw [HL.out]
          rintro e w7 ⟨wv7, rfl, hr7, hs7⟩
          simp only at hr7 hs7
          obtain ⟨F7, t7, hf7, hfr7⟩ := P6.out.both.step hs7
          obtain ⟨A7, n7, c7, rfl⟩ := hr7.shape
          have ROW7 := hid hr7
          have T7 := hid t7
          have HF7 := hid hf7
          have HFR7 := hid hfr7
          have TB7 := hid (hfr7.heapAt TBB.out (fun hq => by have h1 := HFl.out _ hq; omega))
          have MA7 := hid (hfr7.heapAt MA.out (fun hq => by have h1 := HFl.out _ hq; omega))
          have MB7 := hid (hfr7.heapAt MB.out (fun hq => by have h1 := HFl.out _ hq; omega))
          have W7s := hid hfr7.size
          clear hs7 hr7 t7 hf7 hfr7 b0 b1 b2 b3 b4
          obtain ⟨⟨u0, u1, u2, u3, u4⟩, s0, s1, s2, s3, s4⟩ := blk5 MA7.out
          have hA7 := heap_lt MA7.out
          have hB7 := heap_lt MB7.out
          have hT7 := heap_lt TB7.out
          obtain ⟨⟨b0, b1, b2, b3, b4⟩, _⟩ := blk5 TB7.out
          simp only [tup2, Mv.val]
          go_wp2_with fail
          have f8 := hid (set5_fr1 (w := w7) (B := wq.heap.size + 1) (.bool pw) (.int .i64 pv) (.bool po) (.int .i64 pt) (.slice A7 n7 c7))
          have MA8 := hid (set5_heap MA7.out (.bool pw) (.int .i64 pv) (.bool po) (.int .i64 pt) (.slice A7 n7 c7))
          unfold set5 at f8 MA8
          clear b0 b1 b2 b3 b4 u0 u1 u2 u3 u4 s0 s1 s2 s3 s4
          generalize ((((World.setCell w7 _ _).setCell _ _).setCell _ _).setCell _ _).setCell _ _ = w8 at *
          have MB8 := hid (f8.out.heapAt MB7.out (by omega))
          have T8 := hid (T7.out.far1 f8.out (fun hq => by
            rcases HF7.out _ hq with h1 | h1
            · have h2 := HFl.out _ h1; omega
            · have h2 := W6s.out; omega) (fun hq => by have h2 := HGl.out _ hq; omega))
          have ROW8 := hid (ROW7.out.fr1 f8.out MA7.out (by decide))
          obtain ⟨ms8, hrd8, hms8⟩ := T8.out.rd
          have RD8 := hid hrd8
          have MS8 := hid hms8
          have OK8 := hid (show Ok (1048593 + k) (chs ms8) by rw [hms8]; exact P6.out.ok)
          have W8s := hid f8.out.size
          clear hrd8 hms8
          refine (rsend_all RD8.out (by rw [← chs_len]; exact OK8.out.len) (OK8.out.big (by omega)) tch ts tg tv).mono ?_
          rw [MS8.out, HL.out]
          rintro e w9 ⟨v9, wv9, rfl, ho9, hr9, hf9⟩
          simp only at ho9 hr9
          obtain ⟨G9, t9, hg9⟩ := T8.out.outR hf9 ho9
          obtain ⟨A9, n9, c9, rfl⟩ := hr9.shape
          have ROW9 := hid hr9
          have T9 := hid t9
          have HG9 := hid hg9
          have MA9 := hid (hf9.heapAt MA8.out (fun x => x))
          have MB9 := hid (hf9.heapAt MB8.out (fun x => x))
          have ROW9' := hid (ROW8.out.fr hf9 (fun _ _ x => x))
          have F9 := hid hf9
          clear ho9 hr9 t9 hg9 hf9
          obtain ⟨⟨u0, u1, u2, u3, u4⟩, s0, s1, s2, s3, s4⟩ := blk5 MB9.out
          obtain ⟨⟨b0, b1, b2, b3, b4⟩, _⟩ := blk5 MA9.out
          have hA9 := heap_lt MA9.out
          have zer : ((er == er) : Bool) = true := by simp
          simp only [tup3, Mv.val]
          go_wp2_with fail
          have f10 := hid (set5_fr1 (w := w9) (B := wq.heap.size + 2) (.bool pw) (.int .i64 pv) (.bool po) (.int .i64 pt) (.slice A9 n9 c9))
          unfold set5 at f10
          clear b0 b1 b2 b3 b4 u0 u1 u2 u3 u4 s0 s1 s2 s3 s4
          generalize ((((World.setCell w9 _ _).setCell _ _).setCell _ _).setCell _ _).setCell _ _ = w10 at *
          have MA10 := hid (f10.out.heapAt MA9.out (by omega))
          have T10 := hid (T9.out.far1 f10.out (fun hq => by
            rcases HF7.out _ hq with h1 | h1
            · have h2 := HFl.out _ h1; omega
            · have h2 := W6s.out; omega) (fun hq => by
            rcases HG9.out _ hq with h1 | h1
            · have h2 := HGl.out _ h1; omega
            · have h2 := W8s.out; have h3 := W7s.out; have h4 := W6s.out; omega))
          have ROWA := hid (ROW9'.out.fr1 f10.out MB9.out (by decide))
          have ROWB := hid (ROW9.out.fr1 f10.out MB9.out (by decide))
          have P10 := hid (show Play W0 w10 F7 G9 g v9 l3 (1048593 + k + 1) from ⟨T10.out, fun q hq => by
            rcases HF7.out q hq with h1 | h1
            · exact P6.out.newF q h1
            · exact Nat.le_trans P6.out.fr.size h1, fun q hq => by
            rcases HG9.out q hq with h1 | h1
            · exact P6.out.newG q h1
            · have h2 := P6.out.fr.size; have h3 := W7s.out; have h4 := W8s.out; omega,
            ((((P6.out.fr.trans' HFR7.out (fun q hq => .inr (P6.out.newF q hq))).trans' f8.out (fun q hq => .inr (by subst hq; have h2 := P6.out.fr.size; have h3 := HP.out.fr.size; omega))).trans F9.out).trans' f10.out (fun q hq => .inr (by subst hq; have h3 := HP.out.fr.size; omega))), OK3.out⟩)
          refine (same_agg pw pv po pt pk A7 n7 c7 A9 n9 c9 w10 ROWA.out ROWB.out).mono ?_
          rintro e w11 ⟨rfl, hf11⟩
          have P11 := hid (P10.out.e0 hf11)
          have MA11 := hid (hf11.heapAt MA10.out (fun x => x))
          have ROW11 := hid (ROWA.out.fr hf11 (fun _ _ x => x))
          clear hf11
          go_wp2_with fail
          refine (state_play P11.out (by omega)).mono ?_
          rintro e w12 ⟨v12, ms12, rfl, hc12, ho12, hf12⟩
          have P12 := hid (P11.out.e0 hf12)
          have C12 := hid hc12
          have O12 := hid ho12.rd
          have MA12 := hid (hf12.heapAt MA11.out (fun x => x))
          have ROW12 := hid (ROW11.out.fr hf12 (fun _ _ x => x))
          clear hf12 hc12 ho12
          go_wp2_with fail
          refine (same_play P12.out C12.out O12.out).mono ?_
          rintro e w13 ⟨rfl, hf13⟩
          have P13 := hid (P12.out.e0 hf13)
          have MA13 := hid (hf13.heapAt MA12.out (fun x => x))
          have ROW13 := hid (ROW12.out.fr hf13 (fun _ _ x => x))
          have XB13 := hid (P13.out.fr.heapAt G0.out (fun x => x))
          clear hf13
          obtain ⟨WA, wc, ew, hwc, hwm, hwr⟩ := ROW13.out.read (by decide) (wks_len _)
          cases ew
          have hwl := Nat.le_trans hwc hwm
          unfold maxLen at hwl
          have HWR := hid hwr
          clear hwc hwm hwr
          go_wp2_with fail
          go_loopw [21] (fun i wx => ∃ q : Nat, i = .int .i64 q ∧ q ≤ pk.length ∧ Fr E0 w13 wx) (fun i _ => pk.length - (intOf i).toNat)
          case atStart => exact ⟨0, rfl, Nat.zero_le _, Fr.refl⟩
          case round =>
            obtain ⟨q, rfl, hq, hf⟩ := hrel
            have HF := hid hf
            obtain ⟨⟨_, _, _, _, i4⟩, _⟩ := blk5 (hf.heapAt MA13.out (fun x => x))
            clear hf
            by_cases hlq : q < pk.length
            · obtain ⟨wo, hwo⟩ : ∃ wo : World, wo = wr := ⟨_, rfl⟩
              subst hwo
              obtain ⟨y, hy⟩ : ∃ y, pk[q]? = some y := ⟨pk[q], List.getElem?_eq_getElem hlq⟩
              obtain ⟨b, o, rfl, r⟩ := HWR.out.wkAt hy
              have KC := hid (keepQ (HF.out.heapAt MA13.out (fun x => x)) (HF.out.heapAt XB13.out (fun x => x)) (r.fr HF.out (fun x => x)) hy)
              have WN := hid (HWK.out.waits y (List.mem_of_getElem? hy))
              have IS := hid (P13.out.both.is.fr HF.out (fun _ _ x => x))
              have S0 := hid (KC.out _ (Fr.refl (S := E0)).drew)
              clear r hy
              by_cases hg : y.s = gs ∧ y.g = gg
              · obtain ⟨e1, e2⟩ := hg
                rw [e1, e2] at WN KC S0
                clear e1 e2
                go_upto_region 27 with fail
                clear i4
                have q1 : ((gs == gs) : Bool) = true := by simp
                have q2 : ((gg == gg) : Bool) = true := by simp
                go_region_held3 (fun w' => Fr E0 wo w' ∧ w'.cell? ⟨wq.heap.size + 1, 4, none⟩ = some (.slice (some ⟨b, o, none⟩) pk.length c7) ∧ w'.cell? ⟨b, o + q * 6, none⟩ = some (.int .i64 gs) ∧ w'.cell? ⟨b, o + q * 6 + 1, none⟩ = some (.int .i64 gg) ∧ w'.cell? ⟨w.heap.size, 0, none⟩ = some (.int .i64 gs) ∧ w'.cell? ⟨w.heap.size, 1, none⟩ = some (.int .i64 gg))
                  (with_reducible first | exact S0.out | exact k1.out)
                  (first
                    | (go_at_call 31; ((with_reducible refine (waits_all (IS.out.fr (S := E0) (Fr.refl (S := E0)).drew (fun _ _ x => x)) gs gg).mono ?_); rintro e w14 ⟨rfl, hf14⟩); have f14 := hid ((Fr.refl (S := E0)).drew.trans hf14); have k1 := hid (KC.out _ f14.out); rw [WN.out]; clear hf14))
                all_goals
                  go_wp2_with fail
                  go_roundw
                  case rel => exact ⟨q + 1, by simp, by omega, HF.out.trans f14.out⟩
                  case measure => simp [intOf]; omega
              · have hg2 : (¬ y.s = gs) ∨ (y.s = gs ∧ ¬ y.g = gg) := by omega
                clear hg WN
                have K0 := KC.out wo Fr.refl
                obtain ⟨_, j0, j1, j2, j3, j4⟩ := K0
                rcases hg2 with e1 | ⟨e1, e2⟩
                all_goals
                  first
                    | (have z1 : ((y.s == gs) : Bool) = false := by simpa using e1)
                    | (have z1 : ((y.s == gs) : Bool) = true := by simpa using e1
                       have z2 : ((y.g == gg) : Bool) = false := by simpa using e2
                       clear e1)
                  clear S0
                  go_wp2_with (go_quiet (fail))
                  all_goals
                    go_roundw
                    case rel => exact ⟨q + 1, by simp, by omega, HF.out.drewN nq⟩
                    case measure => simp [intOf]; omega
            · obtain rfl : q = pk.length := by omega
              go_wp2_with fail
              go_roundw
              case rel => exact ⟨k + 1, F7, G9, l3, by simp, by omega, (P13.out.e0 HF.out)⟩
              case measure => simp [intOf]; omega
        | false =>
          obtain ⟨l3, ⟨pw, pv, po, pt, pk⟩, er, hL⟩ : ∃ l3 m er, recvL l tch ts tg = (l3, m, er) := ⟨_, _, _, rfl⟩
          have HL := hid hL
          have HWK := hid (show WakesOK l l3 pk by have h := wakes_recv l tch ts tg; rw [hL] at h; exact h)
          have OK3 := hid (show Ok (1048593 + k + 1) l3 by have h := P6.out.ok.recv tch ts tg; rw [hL] at h; exact h)
          clear hL
          go_wp2_with fail
          refine (recv_all P6.out.both.is P6.out.ok (by omega) tch ts tg).mono ?_
          rw [HL.out]
          rintro e w7 ⟨wv7, rfl, hr7, hs7⟩
          simp only at hr7 hs7
          obtain ⟨F7, t7, hf7, hfr7⟩ := P6.out.both.step hs7
          obtain ⟨A7, n7, c7, rfl⟩ := hr7.shape
          have ROW7 := hid hr7
          have T7 := hid t7
          have HF7 := hid hf7
          have HFR7 := hid hfr7
          have TB7 := hid (hfr7.heapAt TBB.out (fun hq => by have h1 := HFl.out _ hq; omega))
          have MA7 := hid (hfr7.heapAt MA.out (fun hq => by have h1 := HFl.out _ hq; omega))
          have MB7 := hid (hfr7.heapAt MB.out (fun hq => by have h1 := HFl.out _ hq; omega))
          have W7s := hid hfr7.size
          clear hs7 hr7 t7 hf7 hfr7 b0 b1 b2 b3 b4
          obtain ⟨⟨u0, u1, u2, u3, u4⟩, s0, s1, s2, s3, s4⟩ := blk5 MA7.out
          have hA7 := heap_lt MA7.out
          have hB7 := heap_lt MB7.out
          have hT7 := heap_lt TB7.out
          obtain ⟨⟨b0, b1, b2, b3, b4⟩, _⟩ := blk5 TB7.out
          simp only [tup2, Mv.val]
          go_wp2_with fail
          have f8 := hid (set5_fr1 (w := w7) (B := wq.heap.size + 1) (.bool pw) (.int .i64 pv) (.bool po) (.int .i64 pt) (.slice A7 n7 c7))
          have MA8 := hid (set5_heap MA7.out (.bool pw) (.int .i64 pv) (.bool po) (.int .i64 pt) (.slice A7 n7 c7))
          unfold set5 at f8 MA8
          clear b0 b1 b2 b3 b4 u0 u1 u2 u3 u4 s0 s1 s2 s3 s4
          generalize ((((World.setCell w7 _ _).setCell _ _).setCell _ _).setCell _ _).setCell _ _ = w8 at *
          have MB8 := hid (f8.out.heapAt MB7.out (by omega))
          have T8 := hid (T7.out.far1 f8.out (fun hq => by
            rcases HF7.out _ hq with h1 | h1
            · have h2 := HFl.out _ h1; omega
            · have h2 := W6s.out; omega) (fun hq => by have h2 := HGl.out _ hq; omega))
          have ROW8 := hid (ROW7.out.fr1 f8.out MA7.out (by decide))
          obtain ⟨ms8, hrd8, hms8⟩ := T8.out.rd
          have RD8 := hid hrd8
          have MS8 := hid hms8
          have OK8 := hid (show Ok (1048593 + k) (chs ms8) by rw [hms8]; exact P6.out.ok)
          have W8s := hid f8.out.size
          clear hrd8 hms8
          refine (rrecv_all RD8.out (by rw [← chs_len]; exact OK8.out.len) (OK8.out.big (by omega)) tch ts tg).mono ?_
          rw [MS8.out, HL.out]
          rintro e w9 ⟨v9, wv9, rfl, ho9, hr9, hf9⟩
          simp only at ho9 hr9
          obtain ⟨G9, t9, hg9⟩ := T8.out.outR hf9 ho9
          obtain ⟨A9, n9, c9, rfl⟩ := hr9.shape
          have ROW9 := hid hr9
          have T9 := hid t9
          have HG9 := hid hg9
          have MA9 := hid (hf9.heapAt MA8.out (fun x => x))
          have MB9 := hid (hf9.heapAt MB8.out (fun x => x))
          have ROW9' := hid (ROW8.out.fr hf9 (fun _ _ x => x))
          have F9 := hid hf9
          clear ho9 hr9 t9 hg9 hf9
          obtain ⟨⟨u0, u1, u2, u3, u4⟩, s0, s1, s2, s3, s4⟩ := blk5 MB9.out
          obtain ⟨⟨b0, b1, b2, b3, b4⟩, _⟩ := blk5 MA9.out
          have hA9 := heap_lt MA9.out
          have zer : ((er == er) : Bool) = true := by simp
          simp only [tup3, Mv.val]
          go_wp2_with fail
          have f10 := hid (set5_fr1 (w := w9) (B := wq.heap.size + 2) (.bool pw) (.int .i64 pv) (.bool po) (.int .i64 pt) (.slice A9 n9 c9))
          unfold set5 at f10
          clear b0 b1 b2 b3 b4 u0 u1 u2 u3 u4 s0 s1 s2 s3 s4
          generalize ((((World.setCell w9 _ _).setCell _ _).setCell _ _).setCell _ _).setCell _ _ = w10 at *
          have MA10 := hid (f10.out.heapAt MA9.out (by omega))
          have T10 := hid (T9.out.far1 f10.out (fun hq => by
            rcases HF7.out _ hq with h1 | h1
            · have h2 := HFl.out _ h1; omega
            · have h2 := W6s.out; omega) (fun hq => by
            rcases HG9.out _ hq with h1 | h1
            · have h2 := HGl.out _ h1; omega
            · have h2 := W8s.out; have h3 := W7s.out; have h4 := W6s.out; omega))
          have ROWA := hid (ROW9'.out.fr1 f10.out MB9.out (by decide))
          have ROWB := hid (ROW9.out.fr1 f10.out MB9.out (by decide))
          have P10 := hid (show Play W0 w10 F7 G9 g v9 l3 (1048593 + k + 1) from ⟨T10.out, fun q hq => by
            rcases HF7.out q hq with h1 | h1
            · exact P6.out.newF q h1
            · exact Nat.le_trans P6.out.fr.size h1, fun q hq => by
            rcases HG9.out q hq with h1 | h1
            · exact P6.out.newG q h1
            · have h2 := P6.out.fr.size; have h3 := W7s.out; have h4 := W8s.out; omega,
            ((((P6.out.fr.trans' HFR7.out (fun q hq => .inr (P6.out.newF q hq))).trans' f8.out (fun q hq => .inr (by subst hq; have h2 := P6.out.fr.size; have h3 := HP.out.fr.size; omega))).trans F9.out).trans' f10.out (fun q hq => .inr (by subst hq; have h3 := HP.out.fr.size; omega))), OK3.out⟩)
          refine (same_agg pw pv po pt pk A7 n7 c7 A9 n9 c9 w10 ROWA.out ROWB.out).mono ?_
          rintro e w11 ⟨rfl, hf11⟩
          have P11 := hid (P10.out.e0 hf11)
          have MA11 := hid (hf11.heapAt MA10.out (fun x => x))
          have ROW11 := hid (ROWA.out.fr hf11 (fun _ _ x => x))
          clear hf11
          go_wp2_with fail
          refine (state_play P11.out (by omega)).mono ?_
          rintro e w12 ⟨v12, ms12, rfl, hc12, ho12, hf12⟩
          have P12 := hid (P11.out.e0 hf12)
          have C12 := hid hc12
          have O12 := hid ho12.rd
          have MA12 := hid (hf12.heapAt MA11.out (fun x => x))
          have ROW12 := hid (ROW11.out.fr hf12 (fun _ _ x => x))
          clear hf12 hc12 ho12
          go_wp2_with fail
          refine (same_play P12.out C12.out O12.out).mono ?_
          rintro e w13 ⟨rfl, hf13⟩
          have P13 := hid (P12.out.e0 hf13)
          have MA13 := hid (hf13.heapAt MA12.out (fun x => x))
          have ROW13 := hid (ROW12.out.fr hf13 (fun _ _ x => x))
          have XB13 := hid (P13.out.fr.heapAt G0.out (fun x => x))
          clear hf13
          obtain ⟨WA, wc, ew, hwc, hwm, hwr⟩ := ROW13.out.read (by decide) (wks_len _)
          cases ew
          have hwl := Nat.le_trans hwc hwm
          unfold maxLen at hwl
          have HWR := hid hwr
          clear hwc hwm hwr
          go_wp2_with fail
          go_loopw [21] (fun i wx => ∃ q : Nat, i = .int .i64 q ∧ q ≤ pk.length ∧ Fr E0 w13 wx) (fun i _ => pk.length - (intOf i).toNat)
          case atStart => exact ⟨0, rfl, Nat.zero_le _, Fr.refl⟩
          case round =>
            obtain ⟨q, rfl, hq, hf⟩ := hrel
            have HF := hid hf
            obtain ⟨⟨_, _, _, _, i4⟩, _⟩ := blk5 (hf.heapAt MA13.out (fun x => x))
            clear hf
            by_cases hlq : q < pk.length
            · obtain ⟨wo, hwo⟩ : ∃ wo : World, wo = wr := ⟨_, rfl⟩
              subst hwo
              obtain ⟨y, hy⟩ : ∃ y, pk[q]? = some y := ⟨pk[q], List.getElem?_eq_getElem hlq⟩
              obtain ⟨b, o, rfl, r⟩ := HWR.out.wkAt hy
              have KC := hid (keepQ (HF.out.heapAt MA13.out (fun x => x)) (HF.out.heapAt XB13.out (fun x => x)) (r.fr HF.out (fun x => x)) hy)
              have WN := hid (HWK.out.waits y (List.mem_of_getElem? hy))
              have IS := hid (P13.out.both.is.fr HF.out (fun _ _ x => x))
              have S0 := hid (KC.out _ (Fr.refl (S := E0)).drew)
              clear r hy
              by_cases hg : y.s = gs ∧ y.g = gg
              · obtain ⟨e1, e2⟩ := hg
                rw [e1, e2] at WN KC S0
                clear e1 e2
                go_upto_region 27 with fail
                clear i4
                have q1 : ((gs == gs) : Bool) = true := by simp
                have q2 : ((gg == gg) : Bool) = true := by simp
                go_region_held3 (fun w' => Fr E0 wo w' ∧ w'.cell? ⟨wq.heap.size + 1, 4, none⟩ = some (.slice (some ⟨b, o, none⟩) pk.length c7) ∧ w'.cell? ⟨b, o + q * 6, none⟩ = some (.int .i64 gs) ∧ w'.cell? ⟨b, o + q * 6 + 1, none⟩ = some (.int .i64 gg) ∧ w'.cell? ⟨w.heap.size, 0, none⟩ = some (.int .i64 gs) ∧ w'.cell? ⟨w.heap.size, 1, none⟩ = some (.int .i64 gg))
                  (with_reducible first | exact S0.out | exact k1.out)
                  (first
                    | (go_at_call 31; ((with_reducible refine (waits_all (IS.out.fr (S := E0) (Fr.refl (S := E0)).drew (fun _ _ x => x)) gs gg).mono ?_); rintro e w14 ⟨rfl, hf14⟩); have f14 := hid ((Fr.refl (S := E0)).drew.trans hf14); have k1 := hid (KC.out _ f14.out); rw [WN.out]; clear hf14))
                all_goals
                  go_wp2_with fail
                  go_roundw
                  case rel => exact ⟨q + 1, by simp, by omega, HF.out.trans f14.out⟩
                  case measure => simp [intOf]; omega
              · have hg2 : (¬ y.s = gs) ∨ (y.s = gs ∧ ¬ y.g = gg) := by omega
                clear hg WN
                have K0 := KC.out wo Fr.refl
                obtain ⟨_, j0, j1, j2, j3, j4⟩ := K0
                rcases hg2 with e1 | ⟨e1, e2⟩
                all_goals
                  first
                    | (have z1 : ((y.s == gs) : Bool) = false := by simpa using e1)
                    | (have z1 : ((y.s == gs) : Bool) = true := by simpa using e1
                       have z2 : ((y.g == gg) : Bool) = false := by simpa using e2
                       clear e1)
                  clear S0
                  go_wp2_with (go_quiet (fail))
                  all_goals
                    go_roundw
                    case rel => exact ⟨q + 1, by simp, by omega, HF.out.drewN nq⟩
                    case measure => simp [intOf]; omega
            · obtain rfl : q = pk.length := by omega
              go_wp2_with fail
              go_roundw
              case rel => exact ⟨k + 1, F7, G9, l3, by simp, by omega, (P13.out.e0 HF.out)⟩
              case measure => simp [intOf]; omega
      · obtain rfl : k = thn.length := by omega
        clear hlt hk
        have XB := hid (HP.out.fr.heapAt G0.out (fun x => x))
        have S0 := hid (keepB5 XB.out (Fr.refl (S := E0)).drew)
        obtain ⟨ms20, hrd20, hms20⟩ := HP.out.both.rd
        have RD20 := hid hrd20
        have MS20 := hid hms20
        have OK20 := hid (show Ok (1048593 + thn.length) (chs ms20) by rw [hms20]; exact HP.out.ok)
        have L20 := hid (show ms20.length ≤ 1572864 by have h1 := OK20.out.len; rw [chs_len] at h1; omega)
        have B20 := hid (OK20.out.big (by omega))
        obtain ⟨wo, hwo⟩ : ∃ wo : World, wo = wr := ⟨_, rfl⟩
        subst hwo
        clear hrd20 hms20
        go_upto_region 29 with fail
        go_region_held3 (fun w' => Fr E0 wo w' ∧ w'.cell? ⟨w.heap.size, 0, none⟩ = some (.int .i64 gs) ∧ w'.cell? ⟨w.heap.size, 1, none⟩ = some (.int .i64 gg))
          (with_reducible first | exact S0.out | exact k1.out | exact k2.out)
          (first
            | (go_at_call 31; ((with_reducible refine (waits_all (HP.out.both.is.fr (S := E0) (by exact (‹Fr E0 wo _ ∧ _›).1) (fun _ _ x => x)) gs gg).mono ?_); rintro e w21 ⟨rfl, hf21⟩); have k1 := hid (keepB5 XB.out (((by exact (‹Fr E0 wo _ ∧ _›).1) : Fr E0 wo _).trans hf21)); clear hf21)
            | (go_at_call 52; ((with_reducible refine (waits2_ok ms20 _ gs gg _ (RD20.out.fr (by exact (‹Fr E0 wo _ ∧ _›).1)) L20.out B20.out).mono ?_); rintro e w22 ⟨rfl, hf22⟩); have k2 := hid (keepB5 XB.out (((by exact (‹Fr E0 wo _ ∧ _›).1) : Fr E0 wo _).trans hf22)); rw [MS20.out]; clear hf22))
        all_goals
          go_wp2_with fail
          go_ret
          exact ⟨by first | rfl | simp, FA.out.trans (HP.out.fr.trans k2.out.1)⟩
end Go.Proofs.Yteffmnohgnmanaa

