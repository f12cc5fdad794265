/- ChooseOwn: the walk. Printed by wip/gen/own.py. -/
import Derived.Test.YteffmnohgnmanaaS5ChooseSelects
import Derived.Test.YteffmnohgnmanaaAppAnyC
import Derived.Test.YteffmnohgnmanaaSameC
namespace Go.Proofs.Yteffmnohgnmanaa
open Go.RowKit
set_option linter.unusedVariables false
attribute [local go_sem ↓] Go.wp_at_zero Go.wp_at_succ
theorem pks_oneCell (l : List Pk) : ∀ u ∈ pks l, u.oneCell' = true := by
  intro u hu
  obtain ⟨x, _, hx⟩ := List.mem_flatMap.1 hu
  simp only [Pk.cells, List.mem_cons, List.not_mem_nil, or_false] at hx
  rcases hx with rfl | rfl | rfl <;> rfl
theorem us_oneCell (l : List Int) : ∀ u ∈ us l, u.oneCell' = true := by
  intro u hu
  obtain ⟨x, _, rfl⟩ := List.mem_map.1 hu
  rfl
theorem RdV.rdA {w : World} {A : Option Addr} {n c sz : Nat} {xs : List Value} (h : RdV w (.slice A n c) sz xs) : xs.length = n * sz ∧ RdA w A xs := by
  obtain ⟨A', n', c', he, hl, _, _, hr⟩ := h
  cases he
  exact ⟨hl, hr⟩
theorem Play.far {w0 w w' : World} {F G S : Nat → Prop} {g N : Nat} {v : Value} {l : List Ch} (h : Play w0 w F G g v l N) (hf : Fr S w w') (h1 : ∀ k, F k → ¬ S k) (h2 : ∀ k, G k → ¬ S k) (h3 : ∀ k, S k → w0.heap.size ≤ k) : Play w0 w' F G g v l N :=
  ⟨h.both.far hf h1 h2, h.newF, h.newG, h.fr.trans' hf (fun k hk => .inr (h3 k hk)), h.ok⟩
theorem infoK78 : (Try.prog.info? 78).map (fun i => (i.zero, i.size, i.bytes)) = some (some (.agg #[.bool false, .int .i64 0, .int .i64 0]), 3, 24) := by kernel_rfl
theorem infoK75 : (Try.prog.info? 75).map (fun i => (i.zero, i.size, i.bytes)) = some (some (.int .u64 0), 1, 8) := by kernel_rfl
theorem RowF.atIo {w : World} {F : Nat → Prop} {e g n c j : Nat} {l : List Int} {x : Int} (h : RowF w F e 1 (.slice (some ⟨g, 0, none⟩) n c) (ints l)) (hn : l.length = n) (hx : l[j]? = some x) : w.cell? ⟨g, j, none⟩ = some (.int .i64 x) ∧ w.frozen? ⟨g, j, none⟩ = false := by
  obtain ⟨A, c', he, _, _, hrd⟩ := h.read (n := n) (by decide) (by rw [ints_len, hn])
  cases he
  obtain ⟨b, o, he, hrd⟩ := hrd.at (fun e => by have := congrArg List.length e; rw [ints_len, List.length_nil] at this; have := lt_of_get hx; omega)
  cases he
  have := hrd j (.int .i64 x) (by simp only [ints, List.getElem?_map, hx, Option.map_some])
  rw [Nat.zero_add] at this
  exact ⟨this, h.free rfl j⟩
theorem RowF.setIo {w : World} {F : Nat → Prop} {e g n c j : Nat} {l : List Int} {x : Int} (h : RowF w F e 1 (.slice (some ⟨g, 0, none⟩) n c) (ints l)) (hj : j < l.length) : RowF (w.setCell ⟨g, j, none⟩ (.int .i64 x)) F e 1 (.slice (some ⟨g, 0, none⟩) n c) (ints (l.set j x)) := by
  have := h.stored (j := j) (u := .int .i64 x) (by rw [ints_len]; omega)
  rwa [ints_set] at this
theorem RowF.rdUo {w : World} {F : Nat → Prop} {e : Nat} {v : Value} {l : List Int} (h : RowF w F e 1 v (us l)) : RdV w v 1 (us l) := CM.Own.rdv (by decide) h (us_len l)
/-- The cases, k of them spoiled. -/
def spoilP (cs : List Pk) (k : Nat) : List Pk := List.replicate k ⟨false, 99, 77⟩ ++ cs.drop k
theorem spoilP_len {cs : List Pk} {k : Nat} (hk : k ≤ cs.length) : (spoilP cs k).length = cs.length := by simp [spoilP]; omega
theorem spoilP_get {cs : List Pk} {k : Nat} (_hk : k < cs.length) : (spoilP cs k)[k]? = cs[k]? := by
  unfold spoilP
  rw [List.getElem?_append_right (by simp)]
  simp
theorem spoilP_set {cs : List Pk} {k : Nat} (hk : k < cs.length) : (spoilP cs k).set k ⟨false, 99, 77⟩ = spoilP cs (k + 1) := by
  apply List.ext_getElem?
  intro i
  simp only [spoilP, List.getElem?_set, List.getElem?_append, List.length_replicate, List.getElem?_replicate, List.getElem?_drop, List.length_append, List.length_drop]
  by_cases h1 : k = i
  · subst h1
    rw [if_pos rfl, if_pos (by omega), if_pos (by omega), if_pos (by omega)]
  · rw [if_neg h1]
    by_cases h2 : i < k
    · rw [if_pos h2, if_pos h2, if_pos (by omega), if_pos (by omega)]
    · rw [if_neg h2, if_neg (by omega)]
      congr 1
      omega
/-- Three cells of an owned row of cases are stored. -/
theorem RowF.put3 {w : World} {F : Nat → Prop} {g n c i : Nat} {q : List Pk} {x : Pk} (h : RowF w F 78 3 (.slice (some ⟨g, 0, none⟩) n c) (pks q)) (hi : i < q.length) :
    RowF (((w.setCell ⟨g, i * 3, none⟩ (.bool x.send)).setCell ⟨g, i * 3 + 1, none⟩ (.int .i64 x.ch)).setCell ⟨g, i * 3 + 2, none⟩ (.int .i64 x.v)) F 78 3 (.slice (some ⟨g, 0, none⟩) n c) (pks (q.set i x)) := by
  have hq := List.getElem?_eq_getElem hi
  generalize q[i] = y at hq
  have hl : ∀ m : List Pk, (pks m).length = m.length * 3 := pks_len
  have s1 := h.stored (j := i * 3 + 0) (u := .bool x.send) (by rw [hl]; omega)
  have f1 := flat_set (f := Pk.cells) (sz := 3) (fun _ => rfl) q i 0 y ⟨x.send, y.ch, y.v⟩ (.bool x.send) hq (by omega) rfl
  change (pks q).set _ _ = pks _ at f1
  rw [f1] at s1
  have s2 := s1.stored (j := i * 3 + 1) (u := .int .i64 x.ch) (by rw [hl, List.length_set]; omega)
  have f2 := flat_set (f := Pk.cells) (sz := 3) (fun _ => rfl) (q.set i ⟨x.send, y.ch, y.v⟩) i 1 _ ⟨x.send, x.ch, y.v⟩ (.int .i64 x.ch) (List.getElem?_set_self (by omega)) (by omega) rfl
  change (pks _).set _ _ = pks _ at f2
  rw [f2] at s2
  have s3 := s2.stored (j := i * 3 + 2) (u := .int .i64 x.v) (by rw [hl, List.length_set, List.length_set]; omega)
  have f3 := flat_set (f := Pk.cells) (sz := 3) (fun _ => rfl) ((q.set i ⟨x.send, y.ch, y.v⟩).set i ⟨x.send, x.ch, y.v⟩) i 2 _ ⟨x.send, x.ch, x.v⟩ (.int .i64 x.v) (List.getElem?_set_self (by rw [List.length_set]; omega)) (by omega) rfl
  change (pks _).set _ _ = pks _ at f3
  rw [f3] at s3
  simpa only [List.set_set, Nat.add_zero] using s3
set_option maxRecDepth 8000 in
set_option maxHeartbeats 8000000 in
theorem own_walk (v : Value) (ms : List CM) (x : Ask) (w : World) (h : RdCs w v ms) (hfit : ∀ c ∈ chs ms, BigC c) (hN : ∀ c ∈ chs ms, c.snd.length + c.rcv.length ≤ 1048576) (hx : x.Ok w) (hn : x.cases.length ≤ 1048576) (hnd : x.draws.length ≤ 1048576) :
    Calls Try.prog 19 #[v, .agg #[.int .i64 x.gs, .int .i64 x.gg, x.cv, .bool x.deflt, x.dv]] w (Ret (.bool true) E0 w) := by
  obtain ⟨gs, gg, cv, cs, dft, dv, draws⟩ := x
  obtain ⟨_, hc, _, hd, hdw⟩ := hx
  simp only at *
  have HC := hid hc
  have HD := hid hd
  have HDW := hid (show ∀ d ∈ draws, 0 ≤ d ∧ d < 18446744073709551616 from fun d hd => wf64 (hdw d hd))
  obtain ⟨CA, cn, cc, rfl, hcl, _, _, _⟩ := hc
  obtain rfl : cs.length = cn := by rw [pks_len] at hcl; omega
  obtain ⟨DA, dn, dc, rfl, _⟩ := hd
  obtain ⟨A, n, c, hv, _⟩ := h.row
  subst hv
  have H0 := hid h
  have HB := hid hfit
  have HN := hid hN
  clear h hcl hdw hfit hN
  go_enter Try.func19, Try.ntmps19
  go_wp2_with fail
  have G0 := hid (heap_alloc_new w (.cells #[.int .i64 gs, .int .i64 gg, .slice CA cs.length cc, .bool dft, .slice DA dn dc] 45))
  have FA := hid ((Fr.refl (S := E0) (w := w)).alloc (.cells #[.int .i64 gs, .int .i64 gg, .slice CA cs.length cc, .bool dft, .slice DA dn dc] 45))
  have HGW := hid (show w.heap.size < (w.alloc (.cells #[.int .i64 gs, .int .i64 gg, .slice CA cs.length cc, .bool dft, .slice DA dn dc] 45)).heap.size by simp)
  generalize w.alloc (.cells #[.int .i64 gs, .int .i64 gg, .slice CA cs.length cc, .bool dft, .slice DA dn dc] 45) = W0 at *
  refine (load_ok _ ms W0 (H0.out.fr FA.out) (fun m hm => by
    obtain ⟨h1, h2, h3⟩ := HB.out m.ch (List.mem_map.2 ⟨m, hm, rfl⟩)
    exact ⟨by omega, by omega, by omega⟩)).mono ?_
  rintro e w1 ⟨hf1, ⟨hno, rfl⟩ | ⟨hno, g, F, rfl, his, hnew⟩⟩
  · have F1 := hid hf1
    have HNO := hid hno
    clear hf1 hno
    simp only [tup2]
    go_wp2_with fail
    refine (rload_ok (H0.out.fr (FA.out.trans F1.out)) HB.out).mono ?_
    rintro e w2 ⟨hf2, ⟨_, rfl⟩ | ⟨hno2, _⟩⟩
    · have F2 := hid ((FA.out.trans F1.out).trans hf2)
      clear hf2
      simp only [tup2]
      go_wp2_with fail
      refine (awake_ok w2).mono ?_
      rintro e w3 ⟨rfl, hf3⟩
      have F3 := hid (F2.out.trans hf3)
      clear hf3
      go_wp2_with fail
      go_ret
      exact ⟨rfl, F3.out⟩
    · rw [HNO.out] at hno2; cases hno2
  · have F1 := hid hf1
    have HNO := hid hno
    have IS := hid his
    have NEW := hid hnew
    clear hf1 hno his hnew
    simp only [tup2]
    go_wp2_with fail
    refine (rload_ok (H0.out.fr (FA.out.trans F1.out)) HB.out).mono ?_
    rintro e w2 ⟨hf2, ⟨hno2, _⟩ | ⟨_, v2, ms2, rfl, hc2, ho2⟩⟩
    · rw [HNO.out] at hno2; cases hno2
    have P2 := hid (Play.load IS.out NEW.out F1.out hc2 ho2 hf2 (ok_loaded HNO.out HN.out))
    clear hf2 hc2 ho2
    simp only [tup2]
    have G2 := hid (P2.out.fr.heapAt G0.out (fun x => x))
    obtain ⟨⟨a0, a1, a2, a3, a4⟩, _⟩ := blk5 G2.out
    obtain ⟨i0, hi0, hz0, hz1, hz2⟩ := info_parts infoK78
    obtain ⟨i1, ji0, jz0, jz1, jz2⟩ := info_parts infoK75
    obtain rfl : draws.length = dn := by have h1 := HD.out.rdA.1; simpa using h1
    have HA2 := hid (HC.out.fr (FA.out.trans P2.out.fr)).rdA
    have O1 := hid (pks_oneCell cs)
    have O2 := hid (us_oneCell draws)
    go_wp2_with (at_builtin; first | ((refine wpList_copy rfl (.tmp 42) (.tmp 44) 42 rfl 78 i0 (.agg #[.bool false, .int .i64 0, .int .i64 0]) 3 24 Try.underlying42 hi0 hz0 hz1 hz2 rfl (by decide) rfl CA cs.length cc (pks cs) rfl HA2.out.1 HA2.out.2 O1.out (by unfold maxLen; omega) (by omega) ?_); intro xA xc wa hxa hfa; have XA := hid hxa; have FC1 := hid hfa; clear hxa hfa; have GA := hid (FC1.out.heapAt G2.out (fun x => x)); clear a0 a1 a2 a3 a4; obtain ⟨⟨a0, a1, a2, a3, a4⟩, _⟩ := blk5 GA.out; have HD3 := hid (HD.out.fr ((FA.out.trans P2.out.fr).trans FC1.out)).rdA) | ((refine wpList_copy rfl (.tmp 46) (.tmp 48) 43 rfl 75 i1 (.int .u64 0) 1 8 Try.underlying43 ji0 jz0 jz1 jz2 rfl (by decide) rfl DA draws.length dc (us draws) rfl HD3.out.1 HD3.out.2 O2.out (by unfold maxLen; omega) (by omega) ?_); intro dA dc' wb hxb hfb; have DB := hid hxb; have FC2 := hid hfb; clear hxb hfb))
    have XB := hid (XA.out.fr FC2.out (fun _ _ x => x))
    refine (order_ok (cs.length : Int) draws _ wb DB.out.rdUo HDW.out).mono ?_
    rintro e wo ⟨ov, rfl, hro, hfo⟩
    generalize (orderL (cs.length : Int) draws).1 = ol at hro
    generalize (orderL (cs.length : Int) draws).2 = oe
    have FO := hid hfo
    have ORO := hid hro
    obtain ⟨oA, oc, rfl, hoc, hom, _⟩ := hro.read (n := ol.length) (by decide) (by rw [ints_len])
    have hol : ol.length ≤ 9223372036854775807 := by unfold maxLen at hom; omega
    clear hoc hom
    clear hro hfo hi0 hz0 hz1 hz2 ji0 jz0 jz1 jz2 a0 a1 a2 a3 a4
    simp only [tup2]
    go_wp2_with fail
    go_loopw [13] (fun i wr => ∃ (k : Nat) (l2 : List Int), i = .int .i64 k ∧ k ≤ ol.length ∧ l2.length = ol.length ∧ RowF wr (New wb) 3 1 (.slice oA ol.length oc) (ints l2) ∧ Fr E0 wb wr) (fun i _ => ol.length - (intOf i).toNat)
    case atStart => exact ⟨0, ol, rfl, Nat.zero_le _, rfl, ORO.out, FO.out⟩
    case round =>
      obtain ⟨k, l2, rfl, hk, hl2, hrow, hf⟩ := hrel
      have HL2 := hid hl2
      have RW := hid hrow
      have HF := hid hf
      clear hl2 hrow hf
      by_cases hlt : k < ol.length
      · obtain ⟨x, hx⟩ : ∃ x, l2[k]? = some x := ⟨_, List.getElem?_eq_getElem (by have := HL2.out; omega)⟩
        rcases RW.out.form (n := ol.length) (by decide) (by rw [ints_len, HL2.out]) with ⟨_, h0, _⟩ | ⟨q, qc, he, hq, _⟩
        · omega
        cases he
        obtain ⟨c1, f1⟩ := RW.out.atIo HL2.out hx
        have RN := hid (RW.out.setIo (j := k) (x := 77) (by have := HL2.out; omega))
        have FN := hid (HF.out.setCell (p := ⟨q, k, none⟩) (.int .i64 77) (.inr hq))
        clear hx hq
        go_wp2_with fail
        go_roundw
        case rel => exact ⟨k + 1, _, by simp, by omega, by rw [List.length_set]; exact HL2.out, RN.out, FN.out⟩
        case measure => simp [intOf]; omega
      · obtain rfl : k = ol.length := by omega
        obtain ⟨wz, hz⟩ : ∃ wz : World, wz = wr := ⟨_, rfl⟩
        subst hz
        clear hlt hk RW HL2 ORO FO
        have PZ := hid (P2.out.e0 (FC1.out.trans (FC2.out.trans HF.out)))
        have DZ := hid (DB.out.fr HF.out (fun _ _ x => x))
        have XZ := hid (XB.out.fr HF.out (fun _ _ x => x))
        have HLT := hid P2.out.both.is.lt
        have HSA := hid FC1.out.size
        have HXO := hid (show ∀ q, (Value.slice xA cs.length xc).ownBlock = some q → ¬ F q from fun q hq hF => by have h1 := XZ.out.2 q hq; have h2 := HLT.out q hF; unfold New at h1; omega)
        have HDO := hid (show ∀ q, (Value.slice dA draws.length dc').ownBlock = some q → ¬ F q from fun q hq hF => by have h1 := DZ.out.2 q hq; have h2 := HLT.out q hF; have h3 := HSA.out; unfold New at h1; omega)
        have XO := hid (show RdOut F wz (.slice xA cs.length xc) 3 (pks cs) from fun w' hw => (XZ.out.fr hw HXO.out).rd (by decide) (pks_len cs))
        have GZ := hid (PZ.out.fr.heapAt G0.out (fun x => x))
        obtain ⟨⟨a0, a1, a2, a3, a4⟩, _⟩ := blk5 GZ.out
        obtain ⟨l', ⟨rc, rdf, ⟨mw, mv, mo, mt, mk⟩⟩, err, hS⟩ : ∃ l' r err, selL (chs ms) gs gg cs dft draws = (l', r, err) := ⟨_, _, _, rfl⟩
        have HS := hid hS
        have HF0 := hid (FA.out.trans PZ.out.fr)
        have HNF := hid (show ∀ k, F k → w.heap.size < k + 1 from fun k hk => by have h1 := PZ.out.newF k hk; have h2 := HGW.out; omega)
        clear hS
        go_wp2_with fail
        refine (sel_all PZ.out.both.is PZ.out.ok (by decide) gs gg cs _ dft draws _ XO.out hn DZ.out.rdUo HDW.out l' ⟨rc, rdf, ⟨mw, mv, mo, mt, mk⟩⟩ err HS.out).mono ?_
        rintro e w3 ⟨wv3, rfl, hr3, hs3⟩
        simp only at hr3
        obtain ⟨F', t3, hf3, hfr⟩ := PZ.out.both.step hs3
        obtain ⟨A3, n3, c3, rfl⟩ := hr3.shape
        have T3 := hid t3
        have HF3 := hid hf3
        have R3 := hid hr3
        have XQ3 := hid (XZ.out.fr hfr HXO.out)
        have DQ3 := hid (DZ.out.fr hfr HDO.out)
        have F3 := hid (PZ.out.fr.trans' hfr (fun q hq => .inr (PZ.out.newF q hq)))
        have G3 := hid (F3.out.heapAt G0.out (fun x => x))
        have hb3 := heap_lt G3.out
        clear hs3 hr3 t3 hf3 hfr a0 a1 a2 a3 a4
        obtain ⟨⟨a0, a1, a2, a3, a4⟩, _⟩ := blk5 G3.out
        simp only [tup2, Cho.val]
        go_wp2_with fail
        have X4 := hid (heap_alloc_new w3 (.cells #[.int .i64 rc, .bool rdf, .bool mw, .int .i64 mv, .bool mo, .int .i64 mt, .slice A3 n3 c3] 47))
        have FX := hid ((Fr.refl (S := E0) (w := w3)).alloc (.cells #[.int .i64 rc, .bool rdf, .bool mw, .int .i64 mv, .bool mo, .int .i64 mt, .slice A3 n3 c3] 47))
        have T4 := hid (T3.out.e0 FX.out)
        have R4 := hid (R3.out.fr FX.out (fun _ _ x => x))
        have XQ4 := hid (XQ3.out.fr FX.out (fun _ _ x => x))
        have DQ4 := hid (DQ3.out.fr FX.out (fun _ _ x => x))
        have F4 := hid (F3.out.trans FX.out)
        obtain ⟨ms4, hrd4, hms4⟩ := T4.out.rd
        have RD4 := hid hrd4
        have MS4 := hid hms4
        have OK4 := hid (show Ok 1048576 (chs ms4) by rw [hms4]; exact PZ.out.ok)
        clear hrd4 hms4 a0 a1 a2 a3 a4
        generalize w3.alloc _ = w4 at *
        refine (rsel_all RD4.out OK4.out (by decide) gs gg cs _ dft draws _ (HC.out.fr (FA.out.trans F4.out)) hn (HD.out.fr (FA.out.trans F4.out)) HDW.out l' ⟨rc, rdf, ⟨mw, mv, mo, mt, mk⟩⟩ err (by rw [MS4.out]; exact HS.out)).mono ?_
        rintro e w5 ⟨v5, wv5, rfl, ho5, hr5, hf5⟩
        simp only at hr5
        rw [MS4.out] at ho5
        obtain ⟨G', t5, hg5⟩ := T4.out.outR hf5 ho5
        obtain ⟨A5, n5, c5, rfl⟩ := hr5.shape
        have X5 := hid (hf5.heapAt X4.out (fun x => x))
        have T5 := hid t5
        have HG5 := hid hg5
        have R5 := hid hr5
        have XQ5 := hid (XQ4.out.fr hf5 (fun _ _ x => x))
        have DQ5 := hid (DQ4.out.fr hf5 (fun _ _ x => x))
        have R5' := hid (R4.out.fr hf5 (fun _ _ x => x))
        have F5 := hid (F4.out.trans hf5)
        have OK5 := hid (ok_select PZ.out.ok gs gg cs dft draws l' _ err HS.out)
        have PL := hid (show Play W0 w5 F' G' g v5 l' (1048576 + 17) from ⟨T5.out, fun k hk => by
          rcases HF3.out k hk with h1 | h1
          · exact PZ.out.newF k h1
          · exact Nat.le_trans PZ.out.fr.size h1, fun k hk => by
          rcases HG5.out k hk with h1 | h1
          · have := F1.out.size; omega
          · exact Nat.le_trans F4.out.size h1, F5.out, OK5.out⟩)
        have hX5 := heap_lt X5.out
        clear t5 hg5 hr5 hf5 ho5
        obtain ⟨⟨x0, x1, x2, x3, x4, x5, x6⟩, _⟩ := blk7 X5.out
        have zerr : ((err == err) : Bool) = true := by simp
        simp only [tup3, Cho.val]
        go_wp2_with fail
        have FY := hid ((Fr.refl (S := E0) (w := w5)).alloc (.cells #[.int .i64 rc, .bool rdf, .bool mw, .int .i64 mv, .bool mo, .int .i64 mt, .slice A5 n5 c5] 47))
        have P6 := hid (PL.out.e0 FY.out)
        have R6 := hid (R5.out.fr FY.out (fun _ _ x => x))
        have XQ6 := hid (XQ5.out.fr FY.out (fun _ _ x => x))
        have DQ6 := hid (DQ5.out.fr FY.out (fun _ _ x => x))
        have R6' := hid (R5'.out.fr FY.out (fun _ _ x => x))
        clear x0 x1 x2 x3 x4 x5 x6
        generalize w5.alloc _ = w6 at *
        refine (same_cho7 rc rdf mw mv mo mt mk A3 n3 c3 A5 n5 c5 w6 R6'.out R6.out).mono ?_
        rintro e w7 ⟨rfl, hf7⟩
        have P7 := hid (P6.out.e0 hf7)
        have XQ7 := hid (XQ6.out.fr hf7 (fun _ _ x => x))
        have DQ7 := hid (DQ6.out.fr hf7 (fun _ _ x => x))
        clear hf7
        have B7 := hid (P7.out.fr.heapAt G0.out (fun x => x))
        obtain ⟨⟨a0, a1, a2, a3, a4⟩, _⟩ := blk5 B7.out
        go_wp2_with fail
        refine (same_draws draws draws _ _ w7 DQ7.out.rdUo (HD.out.fr (FA.out.trans P7.out.fr))).mono ?_
        rintro e w8 ⟨rfl, hf8⟩
        rw [show decide (draws = draws) = true from by simp]
        have P8 := hid (P7.out.e0 hf8)
        have XQ8 := hid (XQ7.out.fr hf8 (fun _ _ x => x))
        have HFO := hid (show ∀ q, F' q → ¬ (Value.slice xA cs.length xc).ownBlock = some q from fun q hF hq => by
          rcases HF3.out q hF with h1 | h1
          · exact HXO.out q hq h1
          · have h2 := XZ.out.lt hq; omega)
        have HGO := hid (show ∀ q, G' q → ¬ (Value.slice xA cs.length xc).ownBlock = some q from fun q hG hq => by
          have h3 := XZ.out.2 q hq
          have h4 := XQ4.out.lt hq
          unfold New at h3
          rcases HG5.out q hG with h1 | h1
          · omega
          · omega)
        have HWO := hid (show ∀ q, (Value.slice xA cs.length xc).ownBlock = some q → W0.heap.size ≤ q from fun q hq => by
          have h3 := XZ.out.2 q hq
          have h4 := P2.out.fr.size
          unfold New at h3
          omega)
        clear hf8 a0 a1 a2 a3 a4
        go_wp2_with fail
        go_loopw [18] (fun i wx => ∃ k : Nat, i = .int .i64 k ∧ k ≤ cs.length ∧ RowF wx (New w2) 78 3 (.slice xA cs.length xc) (pks (spoilP cs k)) ∧ Fr (fun q => (Value.slice xA cs.length xc).ownBlock = some q) w8 wx) (fun i _ => cs.length - (intOf i).toNat)
        case atStart => exact ⟨0, rfl, Nat.zero_le _, by simpa [spoilP] using XQ8.out, Fr.refl⟩
        case round =>
          obtain ⟨k, rfl, hk, hrow, hf⟩ := hrel
          have RW := hid hrow
          have HFW := hid hf
          have P9 := hid (P8.out.far HFW.out HFO.out HGO.out HWO.out)
          have FW := hid (FA.out.trans P9.out.fr)
          have B9 := hid (P9.out.fr.heapAt G0.out (fun x => x))
          clear hrow hf
          by_cases hlt : k < cs.length
          · obtain ⟨p, hp⟩ : ∃ p, cs[k]? = some p := ⟨_, List.getElem?_eq_getElem hlt⟩
            rcases RW.out.form (n := cs.length) (by decide) (by rw [pks_len, spoilP_len hk]) with ⟨_, h0, _⟩ | ⟨b, bc, he, hb, hbl, _, _, hrd, hfz⟩
            · omega
            cases he
            obtain ⟨b2, o2, rfl, q2⟩ := (HC.out.fr FW.out).rdA.2.at (fun e => by have h1 := congrArg List.length e; rw [pks_len, List.length_nil] at h1; omega)
            obtain ⟨d0, d1, d2⟩ := pk_at q2 hp
            obtain ⟨e0, e1, e2⟩ := pk_at (l := spoilP cs k) hrd (by rw [spoilP_get hlt]; exact hp)
            simp only [Nat.zero_add] at e0 e1 e2
            have f0 := hfz (k * 3)
            have f1 := hfz (k * 3 + 1)
            have f2 := hfz (k * 3 + 2)
            obtain ⟨⟨a0, a1, a2, a3, a4⟩, _⟩ := blk5 B9.out
            clear q2 hrd hfz hp
            go_wp2_with (go_quiet (fail))
            all_goals
              have RN := (RW.out.fr ((Fr.refl (S := E0) (w := wr)).drewN nq) (fun _ _ x => x)).put3 (i := k) (x := ⟨false, 99, 77⟩) (by rw [spoilP_len hk]; exact hlt)
              rw [spoilP_set hlt] at RN
              have FN := (((HFW.out.drewN nq).setCell (p := ⟨b, k * 3, none⟩) (.bool false) (.inl rfl)).setCell (p := ⟨b, k * 3 + 1, none⟩) (.int .i64 99) (.inl rfl)).setCell (p := ⟨b, k * 3 + 2, none⟩) (.int .i64 77) (.inl rfl)
              have RN := hid RN
              have FN := hid FN
              go_roundw
              case rel => exact ⟨k + 1, by simp, by omega, RN.out, FN.out⟩
              case measure => simp [intOf]; omega
          · obtain rfl : k = cs.length := by omega
            clear hlt hk
            go_wp2_with fail
            refine (state_play P9.out (by decide)).mono ?_
            rintro e w10 ⟨v10, ms10, rfl, hc10, ho10, hf10⟩
            have P10 := hid (P9.out.e0 hf10)
            have C10 := hid hc10
            have O10 := hid ho10.rd
            clear hf10 hc10 ho10
            go_wp2_with fail
            refine (same_play P10.out C10.out O10.out).mono ?_
            rintro e w11 ⟨rfl, hf11⟩
            have F11 := hid (FA.out.trans (P10.out.fr.trans hf11))
            clear hf11
            go_wp2_with fail
            go_ret
            exact ⟨rfl, F11.out⟩
end Go.Proofs.Yteffmnohgnmanaa

