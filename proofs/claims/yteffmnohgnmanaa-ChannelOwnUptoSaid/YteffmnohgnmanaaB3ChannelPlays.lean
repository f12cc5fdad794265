/- Ref3, Ref4, Ref5a, Ref6, Ref6b, May, Ref8, Ref9, Ref5, Ref7, Ref10: merged by wip/gen/merge.py for the claim of ChannelPlays. -/
import Derived.Test.YteffmnohgnmanaaB2ChannelPlays
/- rotaref11.Leave, Waits; a channel's row is another one now, in channels that are owned. -/
namespace Go.Proofs.Yteffmnohgnmanaa
open Go.RowKit
attribute [local go_sem ↓] Go.wp_at_zero Go.wp_at_succ
section
variable {w w1 : World} {F F' S : Nat → Prop} {i L n c : Nat} {ms : List CM} {m : CM} {v' : Value}
theorem OwnCs.putS {l' : List Wt} (h : OwnCs w F (.slice (some ⟨L, 0, none⟩) n c) ms) (hi : ms[i]? = some m) (hfr : Fr (fun k => m.sv.ownBlock = some k) w w1) (hF : ∀ k, F k → F' k)
    (hrow : RowF w1 F' 114 4 v' (wts l')) (hl : Lies w m.sv v') : OwnCs (w1.setCell ⟨L, i * 5 + 2, none⟩ v') F' (.slice (some ⟨L, 0, none⟩) n c) (ms.set i (m.setS v' l')) := by
  have hm := h.each m (List.mem_of_getElem? hi)
  have hnd := nodup_of_flat h.apart (List.mem_of_getElem? hi)
  obtain ⟨a1, a2⟩ := blocks_apart hnd
  have x1 : ∀ k, m.vv.ownBlock = some k → k < w.heap.size := fun k hk => hm.vals.lt hk
  have x3 : ∀ k, m.rv.ownBlock = some k → k < w.heap.size := fun k hk => hm.rcv.lt hk
  refine h.put hi (by omega) rfl hfr (fun k hk => .inl (by simp [CM.blocks, hk])) hF ⟨?_, hrow, ?_⟩ ?_ ?_
  · exact (hm.vals.fr hfr (fun k hk => (a1 k hk).1)).mono hF
  · exact (hm.rcv.fr hfr (fun k hk hk' => a2 k hk' hk)).mono hF
  · intro k hk
    simp only [CM.blocks, CM.setS, List.mem_append, Option.mem_toList] at hk ⊢
    rcases hk with hk | hk | hk
    · exact .inl (.inl hk)
    · rcases hl k hk with h1 | h1
      · exact .inl (.inr (.inl h1))
      · exact .inr h1
    · exact .inl (.inr (.inr hk))
  · refine nodup3 (fun k hk hk' => ?_) (fun k hk hk' => (a1 k hk).2 hk') (fun k hk hk' => ?_)
    · rcases hl k hk' with h1 | h1
      · exact (a1 k hk).1 h1
      · have := x1 k hk; omega
    · rcases hl k hk with h1 | h1
      · exact a2 k h1 hk'
      · have := x3 k hk'; omega
theorem OwnCs.putR {l' : List Wt} (h : OwnCs w F (.slice (some ⟨L, 0, none⟩) n c) ms) (hi : ms[i]? = some m) (hfr : Fr (fun k => m.rv.ownBlock = some k) w w1) (hF : ∀ k, F k → F' k)
    (hrow : RowF w1 F' 114 4 v' (wts l')) (hl : Lies w m.rv v') : OwnCs (w1.setCell ⟨L, i * 5 + 3, none⟩ v') F' (.slice (some ⟨L, 0, none⟩) n c) (ms.set i (m.setR v' l')) := by
  have hm := h.each m (List.mem_of_getElem? hi)
  have hnd := nodup_of_flat h.apart (List.mem_of_getElem? hi)
  obtain ⟨a1, a2⟩ := blocks_apart hnd
  have x1 : ∀ k, m.vv.ownBlock = some k → k < w.heap.size := fun k hk => hm.vals.lt hk
  have x2 : ∀ k, m.sv.ownBlock = some k → k < w.heap.size := fun k hk => hm.snd.lt hk
  refine h.put hi (by omega) rfl hfr (fun k hk => .inl (by simp [CM.blocks, hk])) hF ⟨?_, ?_, hrow⟩ ?_ ?_
  · exact (hm.vals.fr hfr (fun k hk => (a1 k hk).2)).mono hF
  · exact (hm.snd.fr hfr (fun k hk hk' => a2 k hk hk')).mono hF
  · intro k hk
    simp only [CM.blocks, CM.setR, List.mem_append, Option.mem_toList] at hk ⊢
    rcases hk with hk | hk | hk
    · exact .inl (.inl hk)
    · exact .inl (.inr (.inl hk))
    · rcases hl k hk with h1 | h1
      · exact .inl (.inr (.inr h1))
      · exact .inr h1
  · refine nodup3 (fun k hk hk' => (a1 k hk).1 hk') (fun k hk hk' => ?_) (fun k hk hk' => ?_)
    · rcases hl k hk' with h1 | h1
      · exact (a1 k hk).2 h1
      · have := x1 k hk; omega
    · rcases hl k hk' with h1 | h1
      · exact a2 k hk h1
      · have := x2 k hk; omega
theorem OwnCs.putV {l' : List Int} (h : OwnCs w F (.slice (some ⟨L, 0, none⟩) n c) ms) (hi : ms[i]? = some m) (hfr : Fr (fun k => m.vv.ownBlock = some k) w w1) (hF : ∀ k, F k → F' k)
    (hrow : RowF w1 F' 2 1 v' (ints l')) (hl : Lies w m.vv v') : OwnCs (w1.setCell ⟨L, i * 5 + 1, none⟩ v') F' (.slice (some ⟨L, 0, none⟩) n c) (ms.set i (m.setV v' l')) := by
  have hm := h.each m (List.mem_of_getElem? hi)
  have hnd := nodup_of_flat h.apart (List.mem_of_getElem? hi)
  obtain ⟨a1, a2⟩ := blocks_apart hnd
  have x3 : ∀ k, m.rv.ownBlock = some k → k < w.heap.size := fun k hk => hm.rcv.lt hk
  have x2 : ∀ k, m.sv.ownBlock = some k → k < w.heap.size := fun k hk => hm.snd.lt hk
  refine h.put hi (by omega) rfl hfr (fun k hk => .inl (by simp [CM.blocks, hk])) hF ⟨hrow, ?_, ?_⟩ ?_ ?_
  · exact (hm.snd.fr hfr (fun k hk hk' => (a1 k hk').1 hk)).mono hF
  · exact (hm.rcv.fr hfr (fun k hk hk' => (a1 k hk').2 hk)).mono hF
  · intro k hk
    simp only [CM.blocks, CM.setV, List.mem_append, Option.mem_toList] at hk ⊢
    rcases hk with hk | hk | hk
    · rcases hl k hk with h1 | h1
      · exact .inl (.inl h1)
      · exact .inr h1
    · exact .inl (.inr (.inl hk))
    · exact .inl (.inr (.inr hk))
  · refine nodup3 (fun k hk hk' => ?_) (fun k hk hk' => ?_) (fun k hk hk' => a2 k hk hk')
    · rcases hl k hk with h1 | h1
      · exact (a1 k h1).1 hk'
      · have := x2 k hk'; omega
    · rcases hl k hk with h1 | h1
      · exact (a1 k h1).2 hk'
      · have := x3 k hk'; omega
theorem OwnCs.putC (h : OwnCs w F (.slice (some ⟨L, 0, none⟩) n c) ms) (hi : ms[i]? = some m) : OwnCs (w.setCell ⟨L, i * 5 + 4, none⟩ (.bool true)) F (.slice (some ⟨L, 0, none⟩) n c) (ms.set i m.setC) := by
  have hm := h.each m (List.mem_of_getElem? hi)
  exact h.put (S := E0) hi (by omega) rfl Fr.refl (fun k hk => hk.elim) (fun k hk => hk) ⟨hm.vals, hm.snd, hm.rcv⟩ (fun k hk => .inl hk) (by have := nodup_of_flat (f := CM.blocks) h.apart (List.mem_of_getElem? hi); exact this)
end
/-- A channel's place in a row that is owned. -/
theorem OwnCs.at {w : World} {F : Nat → Prop} {v : Value} {ms : List CM} {k : Nat} {m : CM} (h : OwnCs w F v ms) (hk : ms[k]? = some m) : ∃ L cp, v = .slice (some ⟨L, 0, none⟩) ms.length cp ∧ F L ∧ L < w.heap.size ∧
    w.cell? ⟨L, k * 5, none⟩ = some (.int .i64 m.ch.cap) ∧ w.cell? ⟨L, k * 5 + 1, none⟩ = some m.vv ∧ w.cell? ⟨L, k * 5 + 2, none⟩ = some m.sv ∧ w.cell? ⟨L, k * 5 + 3, none⟩ = some m.rv ∧ w.cell? ⟨L, k * 5 + 4, none⟩ = some (.bool m.ch.cl) ∧ (∀ j, w.frozen? ⟨L, j, none⟩ = false) := by
  have hlt := lt_of_get hk
  rcases h.row.form (by decide) (cms_len ms) with ⟨_, h0, _⟩ | ⟨L, cp, hv, hF, hl, _, _, hr, hfz⟩
  · omega
  · obtain ⟨g0, g1, g2, g3, g4⟩ := hr.cm hk
    simp only [Nat.zero_add] at g0 g1 g2 g3 g4
    exact ⟨L, cp, hv, hF, hl, g0, g1, g2, g3, g4, hfz⟩
def BigC (c : Ch) : Prop := c.vals.length ≤ 4194304 ∧ c.snd.length ≤ 4194304 ∧ c.rcv.length ≤ 4194304
def LvPost (w : World) (gs gg : Int) (l : List Ch) (e : Ending) (w' : World) : Prop :=
  ∃ v ms, e = .returned (tup2 v (.int .i64 (nOutL gs gg l))) ∧ chs ms = leaveL gs gg l ∧ OwnCs w' (New w) v ms ∧ Fr E0 w w'
theorem ne_row {w : World} {F : Nat → Prop} {sz g n c b : Nat} {xs : List Value} {cs : Array Value} (h : RowF w F 67 sz (.slice (some ⟨g, 0, none⟩) n c) xs) (hb : w.heap[b]? = some (.cells cs 37 (0, 0))) : b ≠ g := by
  rintro rfl
  obtain ⟨cur, hc⟩ := h.heap (g := b) rfl
  rw [hb] at hc; injection hc with hc; injection hc with _ hc _; exact absurd hc (by decide)
theorem frz {w : World} {F : Nat → Prop} {e sz g n c : Nat} {xs : List Value} (h : RowF w F e sz (.slice (some ⟨g, 0, none⟩) n c) xs) (j : Nat) : w.frozen? ⟨g, j, none⟩ = false := h.free rfl j
theorem nOut_eq (gs gg : Int) (c : Ch) : ((nOut gs gg c : Nat) : Int) = ((c.snd.length : Int) - (wout gs gg c.snd).length) + ((c.rcv.length : Int) - (wout gs gg c.rcv).length) := by
  have h1 := wout_le gs gg c.snd
  have h2 := wout_le gs gg c.rcv
  unfold nOut; omega
theorem nOutL_bound {gs gg : Int} {l : List Ch} (h : ∀ c ∈ l, BigC c) {k : Nat} (hk : k ≤ 1572864) : nOutL gs gg (l.take k) ≤ 13194139533312 := by
  have := nOutL_le (gs := gs) (gg := gg) 8388608 (fun c hc => by obtain ⟨_, h2, h3⟩ := h c hc; unfold nOut; omega) k
  omega
set_option maxRecDepth 8000 in
set_option maxHeartbeats 8000000 in
theorem leave2_ok (ms : List CM) (v : Value) (gs gg : Int) (w : World) (hv : RdCs w v ms) (hn : ms.length ≤ 1572864) (hbig : ∀ c ∈ chs ms, BigC c) : Calls Try.prog 32 #[v, .agg #[.int .i64 gs, .int .i64 gg]] w (LvPost w gs gg (chs ms)) := by
  have HV := hid hv
  have HBG := hid hbig
  obtain ⟨⟨A, n, c, rfl, hl, _, _, _⟩, _⟩ := hv
  obtain rfl : ms.length = n := by rw [cms_len] at hl; omega
  obtain ⟨l, hll⟩ : ∃ l, l = chs ms := ⟨_, rfl⟩
  have hlen : l.length = ms.length := by rw [hll, chs_len]
  have HLL := hid hll
  have HLEN := hid hlen
  rw [← hll] at HBG ⊢
  clear hl hbig hlen hll
  go_enter Try.func32, Try.ntmps32
  go_wp2_with fail
  refine (copy_ok ms _ _ (HV.out.fr (Fr.refl.alloc _)) hn (fun m hm => HBG.out _ (by rw [HLL.out]; exact List.mem_map.2 ⟨m, hm, rfl⟩))).mono ?_
  rintro e w1 ⟨ov, ms1, rfl, hc1, ho1, hf1⟩
  have G1 := hid (hf1.heapAt (heap_alloc_new w (.cells #[.int .i64 gs, .int .i64 gg] 37)) (fun x => x))
  have F1 := hid (((Fr.refl (S := E0) (w := w)).alloc (.cells #[.int .i64 gs, .int .i64 gg] 37)).trans hf1)
  have O1 := hid (ho1.mono (F' := New w) (fun q hq => by unfold New at *; simp at hq; omega))
  have hl1 : ms1.length = l.length := by rw [← chs_len, hc1, HLEN.out]; exact chs_len ms
  have hc2 : chs ms1 = l := by rw [hc1, HLL.out]
  have HL1 := hid hl1
  have HC1 := hid hc2
  obtain ⟨OA, Oc, rfl, _, _, _⟩ := O1.out.row.read (n := l.length) (by decide) (by rw [cms_len, hl1])
  clear hc1 ho1 hf1 hl1 hc2
  have hlb : l.length ≤ 1572864 := by have := HLEN.out; omega
  go_wp2_with fail
  go_loopw [7, 8] (fun tn i wr => ∃ (k : Nat) (ms' : List CM), i = .int .i64 k ∧ k ≤ l.length ∧ tn = .int .i64 (nOutL gs gg (l.take k)) ∧ chs ms' = leftTo gs gg l k ∧ OwnCs wr (New w) (.slice OA l.length Oc) ms' ∧ wr.heap[w.heap.size]? = some (.cells #[.int .i64 gs, .int .i64 gg] 37 (0, 0)) ∧ Fr E0 w wr) (fun _ i _ => l.length - (intOf i).toNat)
  case atStart => exact ⟨0, ms1, rfl, Nat.zero_le _, rfl, HC1.out, O1.out, G1.out, F1.out⟩
  case round =>
    obtain ⟨k, ms', rfl, hk, rfl, hms, hown, hgb, hfr⟩ := hrel
    have HM := hid hms
    have HO := hid hown
    have HG := hid hgb
    have HF := hid hfr
    clear hms hown hgb hfr
    by_cases hlt : k < l.length
    · have hlen : ms'.length = l.length := by have := congrArg List.length HM.out; rw [chs_len] at this; simp [leftTo, leaveL] at this; omega
      obtain ⟨m, hmk⟩ : ∃ m, ms'[k]? = some m := ⟨ms'[k]'(by omega), List.getElem?_eq_getElem (by omega)⟩
      obtain ⟨cc, hck⟩ : ∃ cc, l[k]? = some cc := ⟨_, List.getElem?_eq_getElem hlt⟩
      have hmc : m.ch = cc := by
        have h1 := chs_get hmk
        rw [HM.out, leftTo_get hck] at h1
        exact (Option.some.inj h1).symm
      subst hmc
      obtain ⟨_, hs1, hs2⟩ := HBG.out _ (List.mem_of_getElem? hck)
      obtain ⟨N, hN⟩ : ∃ N, N = nOutL gs gg (l.take k) := ⟨_, rfl⟩
      have hNb : N ≤ 13194139533312 := by rw [hN]; exact nOutL_bound HBG.out (by omega)
      rw [← hN]
      have HN := hid hN
      have HCK := hid hck
      have HMK := hid hmk
      have HML := hid hlen
      obtain ⟨L, cp, ev, hFL, hLl, c0, c1, c2, c3, c4, hfz⟩ := HO.out.at hmk
      rw [hlen] at ev
      cases ev
      have HFZ := hid hfz
      have OM := hid (HO.out.each m (List.mem_of_getElem? hmk))
      obtain ⟨SA, sc, es, _, _, _⟩ := OM.out.snd.read (by decide) (wts_len _)
      have ES := hid es
      rw [es] at c2
      have g0 := cell_of_row wr _ 0 _ _ _ HG.out
      have g1 := cell_of_row wr _ 1 _ _ _ HG.out
      have hb1 := wout_le gs gg m.ch.snd
      have hb2 := wout_le gs gg m.ch.rcv
      clear hN hck hmk hlen hfz es c0 c1 c3 c4
      go_wp2_with fail
      go_region_law (first
        | (go_simp; go_at_call 74; ((with_reducible refine (without_ok m.ch.snd (.slice SA m.ch.snd.length sc) gs gg wr.drew (by rw [← ES.out]; exact (CM.Own.rdv (by decide) (OM.out.snd.same (w' := wr.drew) (fun _ _ => rfl)) (wts_len _))) hs1).mono ?_); rintro e w3 ⟨v3, rfl, hr3, hf3⟩); obtain ⟨A3, n3, c3, rfl⟩ := hr3.shape; have x1 : w3.cell? ⟨L, k * 5 + 2, none⟩ = some (.slice SA m.ch.snd.length sc) := hf3.cell (w := wr.drew) c2 (fun x => x); have x2 : w3.frozen? ⟨L, k * 5 + 2, none⟩ = false := (frz (HO.out.row.fr ((Fr.refl (S := E0)).drew.trans hf3) (fun _ _ x => x)) _); have R3 := hid hr3; have F3 := hid hf3; simp only [tup2]; clear hr3 hf3))
      all_goals
        have FS3 := hid ((Fr.refl (S := E0)).drew.trans F3.out)
        have O4 := hid (OwnCs.putS (w1 := w3) HO.out HMK.out FS3.out.e0 (fun _ hq => hq) ((R3.out.mono (F' := New w) (fun q hq => Nat.le_trans HF.out.size hq))) (fun q hq => .inr (R3.out.2 q hq)))
        have FW4 := hid ((HF.out.trans FS3.out).setCell (p := ⟨L, k * 5 + 2, none⟩) (.slice A3 n3 c3) (.inr hFL))
        have HG4 := hid (show (w3.setCell ⟨L, k * 5 + 2, none⟩ (.slice A3 n3 c3)).heap[w.heap.size]? = some (.cells #[.int .i64 gs, .int .i64 gg] 37 (0, 0)) by
          rw [heap_setCell_other _ _ _ _ (ne_row HO.out.row HG.out)]; exact FS3.out.heapAt HG.out (fun x => x))
        have HMK4 := hid (show (ms'.set k (m.setS (.slice A3 n3 c3) (wout gs gg m.ch.snd)))[k]? = some (m.setS (.slice A3 n3 c3) (wout gs gg m.ch.snd)) from List.getElem?_set_self (lt_of_get HMK.out))
        clear x1 x2 g0 g1 c2
        go_wp2_with fail
        generalize w3.setCell ⟨L, k * 5 + 2, none⟩ (.slice A3 n3 c3) = w4 at *
        obtain ⟨_, _, ev, _, _, _, _, _, d3, _, dfz⟩ := O4.out.at HMK4.out
        rw [List.length_set, HML.out] at ev
        cases ev
        have DFZ := hid dfz
        have OM4 := hid (O4.out.each _ (List.mem_of_getElem? HMK4.out))
        obtain ⟨TA, tc, et, _, _, _⟩ := OM4.out.rcv.read (by decide) (wts_len _)
        have et' : m.rv = .slice TA m.ch.rcv.length tc := et
        have ET := hid et'
        have d3' : w4.cell? ⟨L, k * 5 + 3, none⟩ = some m.rv := d3
        rw [et'] at d3'
        have g0 := cell_of_row w4 _ 0 _ _ _ HG4.out
        have g1 := cell_of_row w4 _ 1 _ _ _ HG4.out
        clear d3 dfz et et'
        go_wp2_with fail
        go_region_law (first
          | (go_simp; go_at_call 74; ((with_reducible refine (without_ok m.ch.rcv (.slice TA m.ch.rcv.length tc) gs gg w4.drew (by rw [← ET.out]; exact (CM.Own.rdv (by decide) (OM4.out.rcv.same (w' := w4.drew) (fun _ _ => rfl)) (wts_len _))) hs2).mono ?_); rintro e w5 ⟨v5, rfl, hr5, hf5⟩); obtain ⟨A5, n5, c5, rfl⟩ := hr5.shape; have x1 : w5.cell? ⟨L, k * 5 + 3, none⟩ = some (.slice TA m.ch.rcv.length tc) := hf5.cell (w := w4.drew) d3' (fun x => x); have x2 : w5.frozen? ⟨L, k * 5 + 3, none⟩ = false := (frz (O4.out.row.fr ((Fr.refl (S := E0)).drew.trans hf5) (fun _ _ x => x)) _); have R5 := hid hr5; have F5 := hid hf5; simp only [tup2]; clear hr5 hf5))
        all_goals
          have FS5 := hid ((Fr.refl (S := E0)).drew.trans F5.out)
          have O6 := hid (OwnCs.putR (w1 := w5) O4.out HMK4.out FS5.out.e0 (fun _ hq => hq) ((R5.out.mono (F' := New w) (fun q hq => Nat.le_trans FW4.out.size hq))) (fun q hq => .inr (R5.out.2 q hq)))
          have FW6 := hid ((FW4.out.trans FS5.out).setCell (p := ⟨L, k * 5 + 3, none⟩) (.slice A5 n5 c5) (.inr hFL))
          have HG6 := hid (show (w5.setCell ⟨L, k * 5 + 3, none⟩ (.slice A5 n5 c5)).heap[w.heap.size]? = some (.cells #[.int .i64 gs, .int .i64 gg] 37 (0, 0)) by
            rw [heap_setCell_other _ _ _ _ (ne_row HO.out.row HG.out)]; exact FS5.out.heapAt HG4.out (fun x => x))
          have HLT := hid (show chs ((ms'.set k (m.setS (.slice A3 n3 c3) (wout gs gg m.ch.snd))).set k ((m.setS (.slice A3 n3 c3) (wout gs gg m.ch.snd)).setR (.slice A5 n5 c5) (wout gs gg m.ch.rcv))) = leftTo gs gg l (k + 1) by
            rw [List.set_set, chs_set, HM.out, ← leftTo_set HCK.out]; rfl)
          clear x1 x2 g0 g1 d3'
          go_wp2_with fail
          go_roundw
          case rel => exact ⟨k + 1, _, by simp, by omega, by rw [nOutL_succ HCK.out, ← HN.out, Int.natCast_add, nOut_eq], HLT.out, O6.out, HG6.out, FW6.out⟩
          case measure => simp [intOf]; omega
    · obtain rfl : k = l.length := by omega
      clear hlt hk
      have e1 : l.take l.length = l := List.take_length
      rw [e1]
      go_wp2_with fail
      go_ret2
      exact ⟨_, _, rfl, by rw [HM.out]; simp [leftTo], HO.out, HF.out⟩
end Go.Proofs.Yteffmnohgnmanaa
/- rotaref11: Waits, is, trap, Len, Cap, Goes. -/
namespace Go.Proofs.Yteffmnohgnmanaa
open Go.RowKit
theorem wout_lt_iff (gs gg : Int) (l : List Wt) : decide (0 < l.length - (wout gs gg l).length) = l.any (isG gs gg) := by
  induction l with
  | nil => simp [wout]
  | cons x r ih =>
    have h1 := wout_le gs gg r
    cases hx : isG gs gg x with
    | true =>
      have : wout gs gg (x :: r) = wout gs gg r := by simp [wout, hx]
      rw [this]; simp [hx]; omega
    | false =>
      have : wout gs gg (x :: r) = x :: wout gs gg r := by simp [wout, hx]
      rw [this]
      simp only [List.any_cons, hx, Bool.false_or, List.length_cons]
      rw [← ih]; congr 1; apply propext; omega
theorem nOut_pos (gs gg : Int) (c : Ch) : decide (0 < nOut gs gg c) = waitsCh gs gg c := by
  unfold waitsCh
  rw [← wout_lt_iff, ← wout_lt_iff]
  have h1 := wout_le gs gg c.snd
  have h2 := wout_le gs gg c.rcv
  unfold nOut
  rw [← Bool.decide_or]; congr 1; apply propext; omega
theorem nOutL_pos (gs gg : Int) (l : List Ch) : decide (0 < nOutL gs gg l) = waitsL gs gg l := by
  unfold waitsL
  induction l with
  | nil => simp [nOutL]
  | cons x r ih =>
    have : nOutL gs gg (x :: r) = nOut gs gg x + nOutL gs gg r := by simp [nOutL]
    rw [this, List.any_cons, ← ih, ← nOut_pos, ← Bool.decide_or]; congr 1; apply propext; omega
set_option maxHeartbeats 1000000 in
theorem waits2_ok (ms : List CM) (v : Value) (gs gg : Int) (w : World) (hv : RdCs w v ms) (hn : ms.length ≤ 1572864) (hbig : ∀ c ∈ chs ms, BigC c) : Calls Try.prog 52 #[v, .agg #[.int .i64 gs, .int .i64 gg]] w (Ret (.bool (waitsL gs gg (chs ms))) E0 w) := by
  have HV := hid hv
  have HB := hid hbig
  clear hv hbig
  go_enter Try.func52, Try.ntmps52
  go_wp2_with fail
  have g0 : (w.alloc (.cells #[.int .i64 gs, .int .i64 gg] 37)).cell? ⟨w.heap.size, 0, none⟩ = some (.int .i64 gs) := cell_of_row _ _ 0 _ _ _ (heap_alloc_new w _)
  refine (leave2_ok ms v gs gg _ (HV.out.fr (Fr.refl.alloc _)) hn HB.out).mono ?_
  rintro e w1 ⟨v1, ms1, rfl, _, ho, hf⟩
  have HW := nOutL_pos gs gg (chs ms)
  generalize waitsL gs gg (chs ms) = b at *
  generalize nOutL gs gg (chs ms) = n at *
  have FF := hid (((Fr.refl (S := E0)).alloc (.cells #[.int .i64 gs, .int .i64 gg] 37)).trans hf)
  clear hf ho
  simp only [tup2]
  cases b with
  | true =>
    have h1 : 0 < n := of_decide_eq_true HW
    have h2 : (0 : Int) < (n : Int) := by omega
    clear HW
    go_wp2
    go_ret
    exact ⟨by simp, FF.out⟩
  | false =>
    have h1 : ¬ 0 < n := of_decide_eq_false HW
    obtain rfl : n = 0 := by omega
    clear HW
    go_wp2
    go_ret
    exact ⟨rfl, FF.out⟩
/-- The states, as they are looked at. -/
theorem RdCs.form {w : World} {v : Value} {ms : List CM} (h : RdCs w v ms) : ∃ A c, v = .slice A ms.length c ∧ ms.length ≤ maxLen ∧ RdA w A (ms.flatMap CM.cells) ∧ ∀ m ∈ ms, m.Rd w := by
  obtain ⟨⟨A, n, c, rfl, hl, h1, h2, hr⟩, he⟩ := h
  obtain rfl : ms.length = n := by rw [cms_len] at hl; omega
  exact ⟨A, c, rfl, Nat.le_trans h1 h2, hr, he⟩
def isB (l : List Ch) (ch : Int) : Bool := (getC l ch).isSome
set_option maxHeartbeats 400000 in
theorem is2_ok {w : World} {A : Option Addr} {c : Nat} {ms : List CM} (hm : ms.length ≤ maxLen) (ch : Int) : Calls Try.prog 81 #[.slice A ms.length c, .int .i64 ch] w fun e w' => e = .returned (.bool (isB (chs ms) ch)) ∧ w = w' := by
  unfold maxLen at hm
  unfold isB
  rcases handle ms ch with (hc | hc) | rfl | ⟨k, m, rfl, hk⟩
  · rw [getC_out (by rw [chs_len]; exact .inl hc)]
    have h1 : ¬ 1 ≤ ch := by omega
    go_enter Try.func81, Try.ntmps81
    go_wp2
    go_ret
    exact ⟨rfl, rfl⟩
  · rw [getC_out (by rw [chs_len]; exact .inr hc)]
    have h1 : 1 ≤ ch := by omega
    have h2 : ¬ ch ≤ (ms.length : Int) := by omega
    go_enter Try.func81, Try.ntmps81
    go_wp2
    go_ret
    exact ⟨by simp, rfl⟩
  · go_enter Try.func81, Try.ntmps81
    go_wp2
    go_ret
    exact ⟨rfl, rfl⟩
  · rw [getC_in (chs_get hk)]
    have hlt := lt_of_get hk
    have h1 : (1 : Int) ≤ (k : Int) + 1 := by omega
    have h2 : (k : Int) + 1 ≤ (ms.length : Int) := by omega
    clear hk
    go_enter Try.func81, Try.ntmps81
    go_wp2
    go_ret
    exact ⟨by simp, rfl⟩
theorem trapC_is {l : List Ch} {ch : Int} (h : ch ≠ 0) : trapC l ch = if isB l ch then 0 else 4 := by
  unfold trapC isB; rw [if_neg h]; cases getC l ch <;> rfl
set_option maxHeartbeats 400000 in
theorem trap2_ok {w : World} {A : Option Addr} {c : Nat} {ms : List CM} (hm : ms.length ≤ maxLen) (ch : Int) : Calls Try.prog 82 #[.slice A ms.length c, .int .i64 ch] w fun e w' => e = .returned (.int .i64 (trapC (chs ms) ch)) ∧ w = w' := by
  by_cases hz : ch = 0
  · subst hz
    rw [trapC_zero]
    go_enter Try.func82, Try.ntmps82
    go_wp2
    go_ret
    exact ⟨rfl, rfl⟩
  · rw [trapC_is hz]
    have hb : ((ch == 0) : Bool) = false := by simpa using hz
    cases hi : isB (chs ms) ch with
    | true =>
      have HI := hid hi
      clear hi
      go_enter Try.func82, Try.ntmps82
      go_wp2_with fail
      refine (is2_ok hm ch).mono ?_
      rw [HI.out]
      rintro e w1 ⟨rfl, rfl⟩
      go_wp2
      go_ret
      exact ⟨rfl, rfl⟩
    | false =>
      have HI := hid hi
      clear hi
      go_enter Try.func82, Try.ntmps82
      go_wp2_with fail
      refine (is2_ok hm ch).mono ?_
      rw [HI.out]
      rintro e w1 ⟨rfl, rfl⟩
      go_wp2
      go_ret
      exact ⟨rfl, rfl⟩
theorem noC {l : List Ch} {ch : Int} (h : isB l ch = false) : getC l ch = none := by unfold isB at h; cases hg : getC l ch <;> simp_all
theorem someC {ms : List CM} {ch : Int} (h : isB (chs ms) ch = true) : ∃ (k : Nat) (m : CM), ch = (k : Int) + 1 ∧ ms[k]? = some m := by
  unfold isB at h
  rcases handle ms ch with hc | rfl | hk
  · rw [getC_out (by rw [chs_len]; exact hc)] at h; cases h
  · cases h
  · exact hk
set_option maxHeartbeats 1000000 in
theorem len2_ok {w : World} {v : Value} {ms : List CM} (h : RdCs w v ms) (ch : Int) : Calls Try.prog 66 #[v, .int .i64 ch] w fun e w' => e = .returned (tup2 (.int .i64 (lenL (chs ms) ch)) (.int .i64 (trapC (chs ms) ch))) ∧ w = w' := by
  obtain ⟨A, c, rfl, hm, hr, he⟩ := h.form
  cases hi : isB (chs ms) ch with
  | false =>
    have HI := hid hi
    have e1 : lenL (chs ms) ch = 0 := by unfold lenL; rw [noC hi]
    rw [e1]
    clear hi e1 hr he h
    go_enter Try.func66, Try.ntmps66
    go_wp2_with fail
    refine (is2_ok hm ch).mono ?_
    rw [HI.out]
    rintro e w1 ⟨rfl, rfl⟩
    go_wp2_with fail
    refine (trap2_ok hm ch).mono ?_
    rintro e w1 ⟨rfl, rfl⟩
    go_wp2
    go_ret2
    exact ⟨rfl, rfl⟩
  | true =>
    obtain ⟨k, m, rfl, hk⟩ := someC hi
    have HI := hid hi
    have e1 : lenL (chs ms) ((k : Int) + 1) = m.ch.vals.length := by unfold lenL; rw [getC_in (chs_get hk)]
    rw [e1, trapC_in (chs_get hk)]
    obtain ⟨b, o, rfl, hrr⟩ := hr.cmAt hk
    obtain ⟨g0, g1, g2, g3, g4⟩ := hrr.cm hk
    have hlt := lt_of_get hk
    have hm2 := hm
    unfold maxLen at hm2
    have hmr := he m (List.mem_of_getElem? hk)
    clear he hk
    obtain ⟨⟨ccap, vals, snd, rcv, cl⟩, vv, sv, rv⟩ := m
    obtain ⟨A1, n1, c1, rfl, hl1, hc1, hm1, hr1⟩ := hmr.vals
    simp only at *
    have hl1' : vals.length = n1 := by rw [ints_len] at hl1; omega
    rw [hl1']
    have hn1 : n1 ≤ 2 ^ 63 - 1 := Nat.le_trans hc1 hm1
    clear hmr hl1 hl1' hr1
    clear hi e1 hr hrr h
    go_enter Try.func66, Try.ntmps66
    go_wp2_with fail
    refine (is2_ok hm _).mono ?_
    rw [HI.out]
    rintro e w1 ⟨rfl, rfl⟩
    go_wp2
    go_ret2
    exact ⟨rfl, rfl⟩
set_option maxHeartbeats 1000000 in
theorem cap2_ok {w : World} {v : Value} {ms : List CM} (h : RdCs w v ms) (ch : Int) : Calls Try.prog 67 #[v, .int .i64 ch] w fun e w' => e = .returned (tup2 (.int .i64 (capL (chs ms) ch)) (.int .i64 (trapC (chs ms) ch))) ∧ w = w' := by
  obtain ⟨A, c, rfl, hm, hr, he⟩ := h.form
  cases hi : isB (chs ms) ch with
  | false =>
    have HI := hid hi
    have e1 : capL (chs ms) ch = 0 := by unfold capL; rw [noC hi]
    rw [e1]
    clear hi e1 hr he h
    go_enter Try.func67, Try.ntmps67
    go_wp2_with fail
    refine (is2_ok hm ch).mono ?_
    rw [HI.out]
    rintro e w1 ⟨rfl, rfl⟩
    go_wp2_with fail
    refine (trap2_ok hm ch).mono ?_
    rintro e w1 ⟨rfl, rfl⟩
    go_wp2
    go_ret2
    exact ⟨rfl, rfl⟩
  | true =>
    obtain ⟨k, m, rfl, hk⟩ := someC hi
    have HI := hid hi
    have e1 : capL (chs ms) ((k : Int) + 1) = m.ch.cap := by unfold capL; rw [getC_in (chs_get hk)]
    rw [e1, trapC_in (chs_get hk)]
    obtain ⟨b, o, rfl, hrr⟩ := hr.cmAt hk
    obtain ⟨g0, g1, g2, g3, g4⟩ := hrr.cm hk
    have hlt := lt_of_get hk
    have hm2 := hm
    unfold maxLen at hm2
    clear he hk
    clear hi e1 hr hrr h
    go_enter Try.func67, Try.ntmps67
    go_wp2_with fail
    refine (is2_ok hm _).mono ?_
    rw [HI.out]
    rintro e w1 ⟨rfl, rfl⟩
    go_wp2
    go_ret2
    exact ⟨rfl, rfl⟩
set_option maxHeartbeats 1000000 in
theorem goes2_ok {w : World} {v : Value} {ms : List CM} (h : RdCs w v ms) (ch : Int) (send : Bool) : Calls Try.prog 65 #[v, .int .i64 ch, .bool send] w (Ret (tup2 (.bool (goesL (chs ms) ch send)) (.int .i64 (trapC (chs ms) ch))) E0 w) := by
  obtain ⟨A, c, rfl, hm, hr, he⟩ := h.form
  cases hi : isB (chs ms) ch with
  | false =>
    have HI := hid hi
    have e1 : goesL (chs ms) ch send = false := by unfold goesL; rw [noC hi]
    rw [e1]
    clear hi e1 hr he h
    go_enter Try.func65, Try.ntmps65
    go_wp2_with fail
    refine (is2_ok hm ch).mono ?_
    rw [HI.out]
    rintro e w1 ⟨rfl, rfl⟩
    go_wp2_with fail
    refine (trap2_ok hm ch).mono ?_
    rintro e w1 ⟨rfl, rfl⟩
    go_wp2
    go_ret2
    exact ⟨rfl, Fr.refl⟩
  | true =>
    obtain ⟨k, m, rfl, hk⟩ := someC hi
    have HI := hid hi
    have e1 : goesL (chs ms) ((k : Int) + 1) send = goesC m.ch send := by unfold goesL; rw [getC_in (chs_get hk)]
    rw [e1, trapC_in (chs_get hk)]
    obtain ⟨b, o, rfl, hrr⟩ := hr.cmAt hk
    obtain ⟨g0, g1, g2, g3, g4⟩ := hrr.cm hk
    have hlt := lt_of_get hk
    have hm' := hm
    unfold maxLen at hm'
    have hmr := he m (List.mem_of_getElem? hk)
    clear he hk
    obtain ⟨⟨ccap, vals, snd, rcv, cl⟩, vv, sv, rv⟩ := m
    obtain ⟨A1, n1, c1, rfl, hl1, hc1, hm1, hr1⟩ := hmr.vals
    obtain ⟨A2, n2, c2, rfl, hl2, hc2, hm2, hr2⟩ := hmr.snd
    obtain ⟨A3, n3, c3, rfl, hl3, hc3, hm3, hr3⟩ := hmr.rcv
    simp only at *
    have hl1' : vals.length = n1 := by rw [ints_len] at hl1; omega
    have hl2' : snd.length = n2 := by rw [wts_len] at hl2; omega
    have hl3' : rcv.length = n3 := by rw [wts_len] at hl3; omega
    have hn1 : n1 ≤ 2 ^ 63 - 1 := Nat.le_trans hc1 hm1
    have hn2 : n2 ≤ 2 ^ 63 - 1 := Nat.le_trans hc2 hm2
    have hn3 : n3 ≤ 2 ^ 63 - 1 := Nat.le_trans hc3 hm3
    simp only [goesC, hl1', hl2', hl3']
    clear hmr hl1 hr1 hl2 hr2 hl3 hr3 hi e1 hr hrr h hl1' hl2' hl3'
    have ways : (cl = true) ∨ (cl = false ∧ send = true ∧ 0 < n3) ∨ (cl = false ∧ send = true ∧ n3 = 0) ∨ (cl = false ∧ send = false ∧ 0 < n1) ∨ (cl = false ∧ send = false ∧ n1 = 0) := by
      cases cl <;> cases send <;> simp <;> omega
    rcases ways with rfl | ⟨rfl, rfl, h3⟩ | ⟨rfl, rfl, rfl⟩ | ⟨rfl, rfl, h1⟩ | ⟨rfl, rfl, rfl⟩
    all_goals
      go_enter Try.func65, Try.ntmps65
      go_wp2_with fail
      refine (is2_ok hm _).mono ?_
      rw [HI.out]
      rintro e w1 ⟨rfl, rfl⟩
      go_wp2
      go_ret2
      exact ⟨by simp [tup2] <;> omega, Fr.refl.alloc _⟩
end Go.Proofs.Yteffmnohgnmanaa
/- What a call of the document's leaves. Printed by wip/gen/ref5.py. -/
namespace Go.Proofs.Yteffmnohgnmanaa
open Go.RowKit
set_option linter.unusedVariables false
attribute [local go_sem ↓] Go.wp_at_zero Go.wp_at_succ
def tup3 (a b c : Value) : Value := .tuple #[a, b, c]
/-- What a call of the document's leaves of the states: the ones that were handed in, or new ones. -/
def OutR (w w' : World) (v : Value) (l l' : List Ch) (v' : Value) : Prop := (v' = v ∧ l' = l) ∨ ∃ ms', chs ms' = l' ∧ OwnCs w' (New w) v' ms'
def RMvPost (w : World) (v : Value) (l l' : List Ch) (m : Mv) (err : Int) (e : Ending) (w' : World) : Prop :=
  ∃ v' wv, e = .returned (tup3 v' (m.val wv) (.int .i64 err)) ∧ OutR w w' v l l' v' ∧ RowF w' (New w) 39 6 wv (wks m.woken) ∧ Fr E0 w w'
theorem fin49 {a : Act} {W : World} {R : Nat} {Q : Ending → World → Prop} {m : Mv} {v wv : Value} {err : Int} (hd : a.defers = []) (h8 : a.tmps.getD 8 undef = v) (h9 : a.tmps.getD 9 undef = .pointer (some ⟨R, 0, none⟩)) (h10 : a.tmps.getD 10 undef = .int .i64 err)
    (hR : W.heap[R]? = some (.cells #[.bool m.waits, .int .i64 m.value, .bool m.ok, .int .i64 m.trap, wv] 32 (0, 0))) (hQ : Q (.returned (tup3 v (m.val wv) (.int .i64 err))) W) : bodyPost Try.prog Try.f49 Q .ret a W := by
  obtain ⟨⟨k0, k1, k2, k3, k4⟩, _⟩ := blk5 hR
  have h8' : a.tmps[8]?.getD undef = v := by simpa using h8
  have h9' : a.tmps[9]?.getD undef = .pointer (some ⟨R, 0, none⟩) := by simpa using h9
  have h10' : a.tmps[10]?.getD undef = .int .i64 err := by simpa using h10
  exact bodyPost_ret (v := tup3 v (m.val wv) (.int .i64 err)) (by simp [results, Try.results49, go_sem, h8', h9', h10', k0, k1, k2, k3, k4, tup3, Mv.val]) hd hQ
theorem size_set5 (w : World) (B : Nat) (a b c d e : Value) : (set5 w B a b c d e).heap.size = w.heap.size := by simp [set5]
theorem rowNew5 (w2 w : World) (hs : w.heap.size ≤ w2.heap.size) (l : List Wk) (hl : l.length ≤ maxLen) (cs : Array Value) (hcs : cs.toList = wks l) (B : Nat) (a b c d e : Value) : RowF ((set5 w2 B a b c d e).alloc (.cells cs 39)).drew (New w) 39 6 (.slice (some ⟨w2.heap.size, 0, none⟩) l.length l.length) (wks l) := by
  have h := rowNew (set5 w2 B a b c d e) w (by rw [size_set5]; exact hs) l hl cs hcs
  rw [size_set5] at h
  exact h.same (fun _ _ => rfl)
theorem newAt2 (w : World) (o1 o2 : Obj) : ((w.alloc o1).alloc o2).heap[w.heap.size + 1]? = some o2 := heap_alloc2_new w o1 o2
/-- A block of an answer stays where a row grows. -/
theorem keep32 {w w1 : World} {F : Nat → Prop} {B e sz : Nat} {cs : Array Value} {v : Value} {xs : List Value} (hB : w.heap[B]? = some (.cells cs 32 (0, 0))) (hr : RowF w F e sz v xs) (he : e ≠ 32) (hg : w.grownBy w1 v.ownBlock) : w1.heap[B]? = some (.cells cs 32 (0, 0)) := by
  have hf : Fr (fun q => v.ownBlock = some q) w w1 := (Fr.refl (S := fun q => v.ownBlock = some q)).grown hg (fun q hq => .inl hq)
  refine hf.heapAt hB (fun hx => ?_)
  obtain ⟨cur, hc⟩ := hr.heap hx
  rw [hB] at hc; injection hc with hc; injection hc with _ hc _; exact he hc.symm
theorem ne32 {w : World} {F : Nat → Prop} {sz g n c B : Nat} {cs : Array Value} {xs : List Value} (h : RowF w F 67 sz (.slice (some ⟨g, 0, none⟩) n c) xs) (hB : w.heap[B]? = some (.cells cs 32 (0, 0))) : ¬ g = B := by
  rintro rfl
  obtain ⟨cur, hc⟩ := h.heap (g := g) rfl
  rw [hB] at hc; injection hc with hc; injection hc with _ hc _; exact absurd hc (by decide)
theorem fr_new5 {w W : World} {B : Nat} (h : Fr E0 w W) (hB : w.heap.size ≤ B) (a b c d e : Value) : Fr E0 w (set5 W B a b c d e) := fr_set5 h hB a b c d e
theorem OwnCs.set5 {w : World} {F : Nat → Prop} {v : Value} {ms : List CM} {B : Nat} {cs : Array Value} (h : OwnCs w F v ms) (hB : w.heap[B]? = some (.cells cs 32 (0, 0))) (a b c d e : Value) : OwnCs (set5 w B a b c d e) F v ms := by
  have hs : ∀ k, k ≠ B → (Go.Proofs.Yteffmnohgnmanaa.set5 w B a b c d e).heap[k]? = w.heap[k]? := fun k hk => far5 hk a b c d e
  have hne : ∀ k, (∃ cur e, w.heap[k]? = some (.cells cur e (0, 0)) ∧ e ≠ 32) → k ≠ B := by
    rintro k ⟨cur, e, hk, he⟩ rfl
    rw [hB] at hk; injection hk with hk; injection hk with _ hk _; exact he hk.symm
  refine ⟨h.row.same (fun k hk => hs k (hne k ?_)), fun m hm => (h.each m hm).same (fun k hk => hs k (hne k ?_)), h.apart⟩
  · obtain ⟨cur, hc⟩ := h.row.heap hk; exact ⟨cur, 67, hc, by decide⟩
  · have hm' := h.each m hm
    simp only [CM.blocks, List.mem_append, Option.mem_toList] at hk
    rcases hk with hk | hk | hk
    · obtain ⟨cur, hc⟩ := hm'.vals.heap hk; exact ⟨cur, 2, hc, by decide⟩
    · obtain ⟨cur, hc⟩ := hm'.snd.heap hk; exact ⟨cur, 114, hc, by decide⟩
    · obtain ⟨cur, hc⟩ := hm'.rcv.heap hk; exact ⟨cur, 114, hc, by decide⟩
end Go.Proofs.Yteffmnohgnmanaa

/- rotaref11.Recv: a theorem for each way. Printed by wip/gen/ref6.py. -/
namespace Go.Proofs.Yteffmnohgnmanaa
open Go.RowKit
set_option linter.unusedVariables false
attribute [local go_sem ↓] Go.wp_at_zero Go.wp_at_succ
theorem fin50 {a : Act} {W : World} {R : Nat} {Q : Ending → World → Prop} {m : Mv} {v wv : Value} {err : Int} (hd : a.defers = []) (h8 : a.tmps.getD 6 undef = v) (h9 : a.tmps.getD 7 undef = .pointer (some ⟨R, 0, none⟩)) (h10 : a.tmps.getD 8 undef = .int .i64 err)
    (hR : W.heap[R]? = some (.cells #[.bool m.waits, .int .i64 m.value, .bool m.ok, .int .i64 m.trap, wv] 32 (0, 0))) (hQ : Q (.returned (tup3 v (m.val wv) (.int .i64 err))) W) : bodyPost Try.prog Try.f50 Q .ret a W := by
  obtain ⟨⟨k0, k1, k2, k3, k4⟩, _⟩ := blk5 hR
  have h8' : a.tmps[6]?.getD undef = v := by simpa using h8
  have h9' : a.tmps[7]?.getD undef = .pointer (some ⟨R, 0, none⟩) := by simpa using h9
  have h10' : a.tmps[8]?.getD undef = .int .i64 err := by simpa using h10
  exact bodyPost_ret (v := tup3 v (m.val wv) (.int .i64 err)) (by simp [results, Try.results50, go_sem, h8', h9', h10', k0, k1, k2, k3, k4, tup3, Mv.val]) hd hQ
set_option maxRecDepth 8000 in
set_option maxHeartbeats 4000000 in
theorem rrecv_waits {w : World} {v : Value} {ms : List CM} (hv : RdCs w v ms) (hn : ms.length ≤ 1024) (hbig : ∀ c ∈ chs ms, BigC c) (gs gg : Int) (hw : waitsL gs gg (chs ms) = true) (ch : Int) :
    Calls Try.prog 50 #[v, .int .i64 ch, .agg #[.int .i64 gs, .int .i64 gg]] w (RMvPost w v (chs ms) (chs ms) {} 111) := by
  have HV := hid hv
  have HBG := hid hbig
  have HWT := hid hw
  obtain ⟨A, c0, rfl, hmx, _, _⟩ := hv.form
  clear hv hbig hw
  go_enter Try.func50, Try.ntmps50
  go_wp2_with fail
  generalize hW : ((w.alloc (Obj.cells #[Value.int IntKind.i64 gs, Value.int IntKind.i64 gg] 37)).alloc _) = W
  have FA := hid (show Fr E0 w W by rw [← hW]; exact (Fr.refl.alloc _).alloc _)
  have T1 := hid (show W.heap[w.heap.size + 1]? = some (.cells #[Value.bool false, Value.int IntKind.i64 0, Value.bool false, Value.int IntKind.i64 0, Value.slice none 0 0] 32 (0, 0)) by rw [← hW]; exact heap_alloc2_new w _ _)
  have G1 := hid (show W.heap[w.heap.size]? = some (.cells #[Value.int IntKind.i64 gs, Value.int IntKind.i64 gg] 37 (0, 0)) by rw [← hW]; exact heap_alloc2_old w _ _)
  clear hW
  refine (waits2_ok ms _ gs gg W (HV.out.fr FA.out) (by omega) HBG.out).mono ?_
  rintro e w1 ⟨rfl, hf1⟩
  rw [HWT.out]
  have T2 := hid (hf1.heapAt T1.out (fun x => x))
  have G2 := hid (hf1.heapAt G1.out (fun x => x))
  have F2 := hid (FA.out.trans hf1)
  clear hf1
  obtain ⟨⟨b0, b1, b2, b3, b4⟩, z0, z1, z2, z3, z4⟩ := blk5 T2.out
  go_wp2_with fail
  exact fin50 (m := {}) rfl rfl rfl rfl (set5_heap T2.out _ _ _ _ _) ⟨_, _, rfl, .inl ⟨rfl, rfl⟩, RowF.nil, fr_new5 F2.out (Nat.le_succ _) _ _ _ _ _⟩
set_option maxRecDepth 8000 in
set_option maxHeartbeats 4000000 in
theorem rrecv_nil {w : World} {v : Value} {ms : List CM} (hv : RdCs w v ms) (hn : ms.length ≤ 1024) (hbig : ∀ c ∈ chs ms, BigC c) (gs gg : Int) (hw : waitsL gs gg (chs ms) = false) :
    Calls Try.prog 50 #[v, .int .i64 0, .agg #[.int .i64 gs, .int .i64 gg]] w (RMvPost w v (chs ms) (chs ms) { waits := true } 0) := by
  have HV := hid hv
  have HBG := hid hbig
  have HWT := hid hw
  obtain ⟨A, c0, rfl, hmx, _, _⟩ := hv.form
  clear hv hbig hw
  go_enter Try.func50, Try.ntmps50
  go_wp2_with fail
  generalize hW : ((w.alloc (Obj.cells #[Value.int IntKind.i64 gs, Value.int IntKind.i64 gg] 37)).alloc _) = W
  have FA := hid (show Fr E0 w W by rw [← hW]; exact (Fr.refl.alloc _).alloc _)
  have T1 := hid (show W.heap[w.heap.size + 1]? = some (.cells #[Value.bool false, Value.int IntKind.i64 0, Value.bool false, Value.int IntKind.i64 0, Value.slice none 0 0] 32 (0, 0)) by rw [← hW]; exact heap_alloc2_new w _ _)
  have G1 := hid (show W.heap[w.heap.size]? = some (.cells #[Value.int IntKind.i64 gs, Value.int IntKind.i64 gg] 37 (0, 0)) by rw [← hW]; exact heap_alloc2_old w _ _)
  clear hW
  refine (waits2_ok ms _ gs gg W (HV.out.fr FA.out) (by omega) HBG.out).mono ?_
  rintro e w1 ⟨rfl, hf1⟩
  rw [HWT.out]
  have T2 := hid (hf1.heapAt T1.out (fun x => x))
  have G2 := hid (hf1.heapAt G1.out (fun x => x))
  have F2 := hid (FA.out.trans hf1)
  clear hf1
  obtain ⟨⟨b0, b1, b2, b3, b4⟩, z0, z1, z2, z3, z4⟩ := blk5 T2.out
  go_wp2_with fail
  exact fin50 (m := { waits := true }) rfl rfl rfl rfl (set5_heap T2.out _ _ _ _ _) ⟨_, _, rfl, .inl ⟨rfl, rfl⟩, RowF.nil, fr_new5 F2.out (Nat.le_succ _) _ _ _ _ _⟩
set_option maxRecDepth 8000 in
set_option maxHeartbeats 4000000 in
theorem rrecv_out {w : World} {v : Value} {ms : List CM} (hv : RdCs w v ms) (hn : ms.length ≤ 1024) (hbig : ∀ c ∈ chs ms, BigC c) (gs gg : Int) (hw : waitsL gs gg (chs ms) = false) (ch : Int) (hz : ch ≠ 0) (hi : isB (chs ms) ch = false) :
    Calls Try.prog 50 #[v, .int .i64 ch, .agg #[.int .i64 gs, .int .i64 gg]] w (RMvPost w v (chs ms) (chs ms) { trap := 4 } 0) := by
  have HV := hid hv
  have HBG := hid hbig
  have HWT := hid hw
  obtain ⟨A, c0, rfl, hmx, _, _⟩ := hv.form
  clear hv hbig hw
  go_enter Try.func50, Try.ntmps50
  go_wp2_with fail
  generalize hW : ((w.alloc (Obj.cells #[Value.int IntKind.i64 gs, Value.int IntKind.i64 gg] 37)).alloc _) = W
  have FA := hid (show Fr E0 w W by rw [← hW]; exact (Fr.refl.alloc _).alloc _)
  have T1 := hid (show W.heap[w.heap.size + 1]? = some (.cells #[Value.bool false, Value.int IntKind.i64 0, Value.bool false, Value.int IntKind.i64 0, Value.slice none 0 0] 32 (0, 0)) by rw [← hW]; exact heap_alloc2_new w _ _)
  have G1 := hid (show W.heap[w.heap.size]? = some (.cells #[Value.int IntKind.i64 gs, Value.int IntKind.i64 gg] 37 (0, 0)) by rw [← hW]; exact heap_alloc2_old w _ _)
  clear hW
  refine (waits2_ok ms _ gs gg W (HV.out.fr FA.out) (by omega) HBG.out).mono ?_
  rintro e w1 ⟨rfl, hf1⟩
  rw [HWT.out]
  have T2 := hid (hf1.heapAt T1.out (fun x => x))
  have G2 := hid (hf1.heapAt G1.out (fun x => x))
  have F2 := hid (FA.out.trans hf1)
  clear hf1
  obtain ⟨⟨b0, b1, b2, b3, b4⟩, z0, z1, z2, z3, z4⟩ := blk5 T2.out
  have hb : ((ch == 0) : Bool) = false := by simpa using hz
  have HI := hid hi
  clear hi hz
  go_wp2_with fail
  refine (is2_ok hmx _).mono ?_
  rw [HI.out]
  rintro e w' ⟨rfl, rfl⟩
  go_wp2_with fail
  exact fin50 (m := { trap := 4 }) rfl rfl rfl rfl (set5_heap T2.out _ _ _ _ _) ⟨_, _, rfl, .inl ⟨rfl, rfl⟩, RowF.nil, fr_new5 F2.out (Nat.le_succ _) _ _ _ _ _⟩
set_option maxRecDepth 8000 in
set_option maxHeartbeats 4000000 in
theorem rrecv_closed {w : World} {v : Value} {ms : List CM} (hv : RdCs w v ms) (hn : ms.length ≤ 1024) (hbig : ∀ c ∈ chs ms, BigC c) (gs gg : Int) (hw : waitsL gs gg (chs ms) = false) {k : Nat} {cap : Int} {rcv : List Wt} (hk : (chs ms)[k]? = some ⟨cap, [], [], rcv, true⟩) :
    Calls Try.prog 50 #[v, .int .i64 ((k : Int) + 1), .agg #[.int .i64 gs, .int .i64 gg]] w (RMvPost w v (chs ms) (chs ms) {} 0) := by
  have HV := hid hv
  have HBG := hid hbig
  have HWT := hid hw
  obtain ⟨A, c0, rfl, hmx, _, _⟩ := hv.form
  clear hv hbig hw
  go_enter Try.func50, Try.ntmps50
  go_wp2_with fail
  generalize hW : ((w.alloc (Obj.cells #[Value.int IntKind.i64 gs, Value.int IntKind.i64 gg] 37)).alloc _) = W
  have FA := hid (show Fr E0 w W by rw [← hW]; exact (Fr.refl.alloc _).alloc _)
  have T1 := hid (show W.heap[w.heap.size + 1]? = some (.cells #[Value.bool false, Value.int IntKind.i64 0, Value.bool false, Value.int IntKind.i64 0, Value.slice none 0 0] 32 (0, 0)) by rw [← hW]; exact heap_alloc2_new w _ _)
  have G1 := hid (show W.heap[w.heap.size]? = some (.cells #[Value.int IntKind.i64 gs, Value.int IntKind.i64 gg] 37 (0, 0)) by rw [← hW]; exact heap_alloc2_old w _ _)
  clear hW
  refine (waits2_ok ms _ gs gg W (HV.out.fr FA.out) (by omega) HBG.out).mono ?_
  rintro e w1 ⟨rfl, hf1⟩
  rw [HWT.out]
  have T2 := hid (hf1.heapAt T1.out (fun x => x))
  have G2 := hid (hf1.heapAt G1.out (fun x => x))
  have F2 := hid (FA.out.trans hf1)
  clear hf1
  obtain ⟨⟨b0, b1, b2, b3, b4⟩, z0, z1, z2, z3, z4⟩ := blk5 T2.out
  have hz : (((k : Int) + 1 == 0) : Bool) = false := by simp; omega
  go_wp2_with fail
  refine (is2_ok hmx _).mono ?_
  rw [show isB (chs ms) ((k : Int) + 1) = true from by unfold isB; rw [getC_in hk]; rfl]
  rintro e w' ⟨rfl, rfl⟩
  go_wp2_with fail
  refine (copy_ok ms _ w1 (HV.out.fr F2.out) (by omega) (fun m hm => HBG.out _ (List.mem_map.2 ⟨m, hm, rfl⟩))).mono ?_
  rintro e w2 ⟨ov, ms2, rfl, hc2, ho2, hf2⟩
  clear b0 b1 b2 b3 b4 z0 z1 z2 z3 z4
  have T3 := hid (hf2.heapAt T2.out (fun x => x))
  have G3 := hid (hf2.heapAt G2.out (fun x => x))
  have F3 := hid (F2.out.trans hf2)
  have O3 := hid (ho2.mono (F' := New w) (fun q hq => Nat.le_trans F2.out.size hq))
  have C2 := hid hc2
  have hlen2 : ms2.length = ms.length := by rw [← chs_len, hc2, chs_len]
  obtain ⟨m2, hk2, hm2⟩ : ∃ m2, ms2[k]? = some m2 ∧ m2.ch = ⟨cap, [], [], rcv, true⟩ := by
    have h1 : (chs ms2)[k]? = some ⟨cap, [], [], rcv, true⟩ := by rw [hc2]; exact hk
    unfold chs at h1
    rw [List.getElem?_map] at h1
    obtain ⟨m2, h2, h3⟩ := Option.map_eq_some_iff.1 h1
    exact ⟨m2, h2, h3⟩
  obtain ⟨ch2, vv, sv, rv⟩ := m2
  simp only at hm2
  subst hm2
  have HBC := hid (HBG.out _ (List.mem_of_getElem? hk))
  obtain ⟨hbv, hbs, hbr⟩ : ([] : List Int).length ≤ 4194304 ∧ ([] : List Wt).length ≤ 4194304 ∧ (rcv : List Wt).length ≤ 4194304 := HBC.out
  have HK := hid hk
  have HK2 := hid hk2
  have HLN := hid hlen2
  have hlt := lt_of_get hk2
  have hkb : k < 1024 := by omega
  obtain ⟨L, cp, hov, hFL, hLl, c0', c1, c2, c3, c4, hfz⟩ := O3.out.at hk2
  subst hov
  have HFZ := hid hfz
  have OM := hid (O3.out.each _ (List.mem_of_getElem? hk2))
  obtain ⟨VA, vc, ev, _, _, _⟩ := OM.out.vals.read (n := 0) (by decide) (ints_len _)
  obtain ⟨SA, sc, es, _, _, _⟩ := OM.out.snd.read (n := 0) (by decide) (wts_len _)
  obtain ⟨RA, rc, er, _, _, _⟩ := OM.out.rcv.read (n := rcv.length) (by decide) (wts_len _)
  simp only at ev es er c0' c1 c2 c3 c4
  subst ev es er
  have hTl := heap_lt T3.out
  have hGl : w.heap.size < w2.heap.size := by omega
  obtain ⟨⟨b0, b1, b2, b3, b4⟩, z0, z1, z2, z3, z4⟩ := blk5 T3.out
  have T4 := hid (((Fr.refl (S := E0) (w := w2)).alloc (.cells #[.int .i64 cap, .slice VA 0 vc, .slice SA 0 sc, .slice RA (rcv.length) rc, .bool true] 67)).heapAt T3.out (fun x => x))
  have F4 := hid (F3.out.alloc (.cells #[.int .i64 cap, .slice VA 0 vc, .slice SA 0 sc, .slice RA (rcv.length) rc, .bool true] 67))
  clear hc2 ho2 hf2 hk hk2 hlen2 hfz
  go_wp2_with fail
  exact fin50 (m := {}) rfl rfl rfl rfl (((Fr.refl (S := E0)).alloc _).heapAt (set5_heap T3.out _ _ _ _ _) (fun x => x)) ⟨_, _, rfl, .inl ⟨rfl, rfl⟩, RowF.nil, (fr_new5 F3.out (Nat.le_succ _) _ _ _ _ _).alloc _⟩
set_option maxRecDepth 8000 in
set_option maxHeartbeats 4000000 in
theorem rrecv_wakes {w : World} {v : Value} {ms : List CM} (hv : RdCs w v ms) (hn : ms.length ≤ 1024) (hbig : ∀ c ∈ chs ms, BigC c) (gs gg : Int) (hw : waitsL gs gg (chs ms) = false) {k : Nat} {cap : Int} {x : Wt} {r rcv : List Wt} {cl : Bool} (hk : (chs ms)[k]? = some ⟨cap, [], x :: r, rcv, cl⟩) :
    Calls Try.prog 50 #[v, .int .i64 ((k : Int) + 1), .agg #[.int .i64 gs, .int .i64 gg]] w (RMvPost w v (chs ms) (leaveL x.s x.g (chs ms)) { value := x.v, ok := true, woken := [⟨x.s, x.g, x.c, 0, true, 0⟩] } 0) := by
  have HV := hid hv
  have HBG := hid hbig
  have HWT := hid hw
  obtain ⟨A, c0, rfl, hmx, _, _⟩ := hv.form
  clear hv hbig hw
  go_enter Try.func50, Try.ntmps50
  go_wp2_with fail
  generalize hW : ((w.alloc (Obj.cells #[Value.int IntKind.i64 gs, Value.int IntKind.i64 gg] 37)).alloc _) = W
  have FA := hid (show Fr E0 w W by rw [← hW]; exact (Fr.refl.alloc _).alloc _)
  have T1 := hid (show W.heap[w.heap.size + 1]? = some (.cells #[Value.bool false, Value.int IntKind.i64 0, Value.bool false, Value.int IntKind.i64 0, Value.slice none 0 0] 32 (0, 0)) by rw [← hW]; exact heap_alloc2_new w _ _)
  have G1 := hid (show W.heap[w.heap.size]? = some (.cells #[Value.int IntKind.i64 gs, Value.int IntKind.i64 gg] 37 (0, 0)) by rw [← hW]; exact heap_alloc2_old w _ _)
  clear hW
  refine (waits2_ok ms _ gs gg W (HV.out.fr FA.out) (by omega) HBG.out).mono ?_
  rintro e w1 ⟨rfl, hf1⟩
  rw [HWT.out]
  have T2 := hid (hf1.heapAt T1.out (fun x => x))
  have G2 := hid (hf1.heapAt G1.out (fun x => x))
  have F2 := hid (FA.out.trans hf1)
  clear hf1
  obtain ⟨⟨b0, b1, b2, b3, b4⟩, z0, z1, z2, z3, z4⟩ := blk5 T2.out
  have hz : (((k : Int) + 1 == 0) : Bool) = false := by simp; omega
  go_wp2_with fail
  refine (is2_ok hmx _).mono ?_
  rw [show isB (chs ms) ((k : Int) + 1) = true from by unfold isB; rw [getC_in hk]; rfl]
  rintro e w' ⟨rfl, rfl⟩
  go_wp2_with fail
  refine (copy_ok ms _ w1 (HV.out.fr F2.out) (by omega) (fun m hm => HBG.out _ (List.mem_map.2 ⟨m, hm, rfl⟩))).mono ?_
  rintro e w2 ⟨ov, ms2, rfl, hc2, ho2, hf2⟩
  clear b0 b1 b2 b3 b4 z0 z1 z2 z3 z4
  have T3 := hid (hf2.heapAt T2.out (fun x => x))
  have G3 := hid (hf2.heapAt G2.out (fun x => x))
  have F3 := hid (F2.out.trans hf2)
  have O3 := hid (ho2.mono (F' := New w) (fun q hq => Nat.le_trans F2.out.size hq))
  have C2 := hid hc2
  have hlen2 : ms2.length = ms.length := by rw [← chs_len, hc2, chs_len]
  obtain ⟨m2, hk2, hm2⟩ : ∃ m2, ms2[k]? = some m2 ∧ m2.ch = ⟨cap, [], x :: r, rcv, cl⟩ := by
    have h1 : (chs ms2)[k]? = some ⟨cap, [], x :: r, rcv, cl⟩ := by rw [hc2]; exact hk
    unfold chs at h1
    rw [List.getElem?_map] at h1
    obtain ⟨m2, h2, h3⟩ := Option.map_eq_some_iff.1 h1
    exact ⟨m2, h2, h3⟩
  obtain ⟨ch2, vv, sv, rv⟩ := m2
  simp only at hm2
  subst hm2
  have HBC := hid (HBG.out _ (List.mem_of_getElem? hk))
  obtain ⟨hbv, hbs, hbr⟩ : ([] : List Int).length ≤ 4194304 ∧ (x :: r : List Wt).length ≤ 4194304 ∧ (rcv : List Wt).length ≤ 4194304 := HBC.out
  have HK := hid hk
  have HK2 := hid hk2
  have HLN := hid hlen2
  have hlt := lt_of_get hk2
  have hkb : k < 1024 := by omega
  obtain ⟨L, cp, hov, hFL, hLl, c0', c1, c2, c3, c4, hfz⟩ := O3.out.at hk2
  subst hov
  have HFZ := hid hfz
  have OM := hid (O3.out.each _ (List.mem_of_getElem? hk2))
  obtain ⟨VA, vc, ev, _, _, _⟩ := OM.out.vals.read (n := 0) (by decide) (ints_len _)
  obtain ⟨SA, sc, es, _, _, _⟩ := OM.out.snd.read (n := r.length + 1) (by decide) (wts_len _)
  obtain ⟨RA, rc, er, _, _, _⟩ := OM.out.rcv.read (n := rcv.length) (by decide) (wts_len _)
  simp only at ev es er c0' c1 c2 c3 c4
  subst ev es er
  have hTl := heap_lt T3.out
  have hGl : w.heap.size < w2.heap.size := by omega
  obtain ⟨⟨b0, b1, b2, b3, b4⟩, z0, z1, z2, z3, z4⟩ := blk5 T3.out
  have T4 := hid (((Fr.refl (S := E0) (w := w2)).alloc (.cells #[.int .i64 cap, .slice VA 0 vc, .slice SA (r.length + 1) sc, .slice RA (rcv.length) rc, .bool cl] 67)).heapAt T3.out (fun x => x))
  have F4 := hid (F3.out.alloc (.cells #[.int .i64 cap, .slice VA 0 vc, .slice SA (r.length + 1) sc, .slice RA (rcv.length) rc, .bool cl] 67))
  clear hc2 ho2 hf2 hk hk2 hlen2 hfz
  rcases OM.out.snd.form (n := r.length + 1) (by decide) (wts_len _) with ⟨_, h0, _⟩ | ⟨br, p3, hv3, _, hb3, hn3, _, hr3, _⟩
  · omega
  injection hv3 with e1 e2 e3
  subst e1 e3
  clear e2
  obtain ⟨d0, d1, d2, d3⟩ := hr3.wt (k := 0) (x := x) rfl
  simp only [Nat.zero_add, Nat.zero_mul] at d0 d1 d2 d3
  have hbs' : r.length ≤ 4194304 := by simp at hbs; omega
  have hrp : (0 : Int) < (r.length : Int) + 1 := by omega
  clear hr3
  go_wp2_with fail
  have hx := hid (heap_alloc_new (w2.alloc (.cells #[.int .i64 cap, .slice VA 0 vc, .slice (some ⟨br, 0, none⟩) (r.length + 1) sc, .slice RA (rcv.length) rc, .bool cl] 67)) (.cells #[.int .i64 x.s, .int .i64 x.g, .int .i64 x.c, .int .i64 x.v] 114))
  simp only [World.size_alloc] at hx
  have T5 := hid (((Fr.refl (S := E0)).alloc (.cells #[.int .i64 x.s, .int .i64 x.g, .int .i64 x.c, .int .i64 x.v] 114)).heapAt T4.out (fun x => x))
  have FB := hid (((Fr.refl (S := E0) (w := w2)).alloc (.cells #[.int .i64 cap, .slice VA 0 vc, .slice (some ⟨br, 0, none⟩) (r.length + 1) sc, .slice RA (rcv.length) rc, .bool cl] 67)).alloc (.cells #[.int .i64 x.s, .int .i64 x.g, .int .i64 x.c, .int .i64 x.v] 114))
  have HX := hid hx.out
  clear hx
  generalize ((w2.alloc _).alloc _) = W4 at *
  refine (leave2_ok ms2 _ x.s x.g W4 ((O3.out.rd).fr FB.out) (by have := HLN.out; omega) (by rw [C2.out]; exact HBG.out)).mono ?_
  rintro e w5 ⟨v5, ms5, rfl, hc5, ho5, hf5⟩
  rw [C2.out] at hc5
  have F5 := hid ((F3.out.trans FB.out).trans hf5)
  have O5 := hid (ho5.mono (F' := New w) (fun q hq => Nat.le_trans (F3.out.trans FB.out).size hq))
  have C5 := hid hc5
  obtain ⟨A5, n5, c5, rfl⟩ := ho5.row.shape
  have X5 := hid (hf5.heapAt HX.out (fun x => x))
  have T6 := hid (hf5.heapAt T5.out (fun x => x))
  obtain ⟨x0, x1, x2, x3⟩ := cell4 X5.out
  clear b0 b1 b2 b3 b4 z0 z1 z2 z3 z4 ho5 hf5 hc5
  have R5 := hid (rowNew w5 w F5.out.size [⟨x.s, x.g, x.c, 0, true, 0⟩] (show 1 ≤ maxLen by decide) _ rfl)
  have T7 := hid (((Fr.refl (S := E0)).alloc (.cells #[.int .i64 x.s, .int .i64 x.g, .int .i64 x.c, .int .i64 0, .bool true, .int .i64 0] 39)).heapAt T6.out (fun x => x))
  have hT6l := heap_lt T6.out
  have hXl := heap_lt X5.out
  obtain ⟨⟨b0, b1, b2, b3, b4⟩, z0, z1, z2, z3, z4⟩ := blk5 T6.out
  simp only [tup2]
  go_wp2_with fail
  go_region
  all_goals
    go_wp2_with fail
    exact fin50 (m := { value := x.v, ok := true, woken := [⟨x.s, x.g, x.c, 0, true, 0⟩] }) rfl rfl rfl rfl (((Fr.refl (S := E0)).alloc _).drew.heapAt (set5_heap T6.out _ _ _ _ _) (fun x => x)) ⟨_, _, rfl, .inr ⟨_, C5.out, (O5.out.set5 T6.out _ _ _ _ _).fr ((Fr.refl (S := E0)).alloc _).drew (fun _ _ x => x)⟩, rowNew5 w5 w F5.out.size [⟨x.s, x.g, x.c, 0, true, 0⟩] (show 1 ≤ maxLen by decide) _ rfl _ _ _ _ _ _, ((fr_new5 F5.out (Nat.le_succ _) _ _ _ _ _).alloc _).drew⟩
set_option maxRecDepth 8000 in
set_option maxHeartbeats 4000000 in
theorem rrecv_queues {w : World} {v : Value} {ms : List CM} (hv : RdCs w v ms) (hn : ms.length ≤ 1024) (hbig : ∀ c ∈ chs ms, BigC c) (gs gg : Int) (hw : waitsL gs gg (chs ms) = false) {k : Nat} {cap : Int} {rcv : List Wt} (hk : (chs ms)[k]? = some ⟨cap, [], [], rcv, false⟩) :
    Calls Try.prog 50 #[v, .int .i64 ((k : Int) + 1), .agg #[.int .i64 gs, .int .i64 gg]] w (RMvPost w v (chs ms) ((chs ms).set k ⟨cap, [], [], rcv ++ [⟨gs, gg, 0, 0⟩], false⟩) { waits := true } 0) := by
  have HV := hid hv
  have HBG := hid hbig
  have HWT := hid hw
  obtain ⟨A, c0, rfl, hmx, _, _⟩ := hv.form
  clear hv hbig hw
  go_enter Try.func50, Try.ntmps50
  go_wp2_with fail
  generalize hW : ((w.alloc (Obj.cells #[Value.int IntKind.i64 gs, Value.int IntKind.i64 gg] 37)).alloc _) = W
  have FA := hid (show Fr E0 w W by rw [← hW]; exact (Fr.refl.alloc _).alloc _)
  have T1 := hid (show W.heap[w.heap.size + 1]? = some (.cells #[Value.bool false, Value.int IntKind.i64 0, Value.bool false, Value.int IntKind.i64 0, Value.slice none 0 0] 32 (0, 0)) by rw [← hW]; exact heap_alloc2_new w _ _)
  have G1 := hid (show W.heap[w.heap.size]? = some (.cells #[Value.int IntKind.i64 gs, Value.int IntKind.i64 gg] 37 (0, 0)) by rw [← hW]; exact heap_alloc2_old w _ _)
  clear hW
  refine (waits2_ok ms _ gs gg W (HV.out.fr FA.out) (by omega) HBG.out).mono ?_
  rintro e w1 ⟨rfl, hf1⟩
  rw [HWT.out]
  have T2 := hid (hf1.heapAt T1.out (fun x => x))
  have G2 := hid (hf1.heapAt G1.out (fun x => x))
  have F2 := hid (FA.out.trans hf1)
  clear hf1
  obtain ⟨⟨b0, b1, b2, b3, b4⟩, z0, z1, z2, z3, z4⟩ := blk5 T2.out
  have hz : (((k : Int) + 1 == 0) : Bool) = false := by simp; omega
  go_wp2_with fail
  refine (is2_ok hmx _).mono ?_
  rw [show isB (chs ms) ((k : Int) + 1) = true from by unfold isB; rw [getC_in hk]; rfl]
  rintro e w' ⟨rfl, rfl⟩
  go_wp2_with fail
  refine (copy_ok ms _ w1 (HV.out.fr F2.out) (by omega) (fun m hm => HBG.out _ (List.mem_map.2 ⟨m, hm, rfl⟩))).mono ?_
  rintro e w2 ⟨ov, ms2, rfl, hc2, ho2, hf2⟩
  clear b0 b1 b2 b3 b4 z0 z1 z2 z3 z4
  have T3 := hid (hf2.heapAt T2.out (fun x => x))
  have G3 := hid (hf2.heapAt G2.out (fun x => x))
  have F3 := hid (F2.out.trans hf2)
  have O3 := hid (ho2.mono (F' := New w) (fun q hq => Nat.le_trans F2.out.size hq))
  have C2 := hid hc2
  have hlen2 : ms2.length = ms.length := by rw [← chs_len, hc2, chs_len]
  obtain ⟨m2, hk2, hm2⟩ : ∃ m2, ms2[k]? = some m2 ∧ m2.ch = ⟨cap, [], [], rcv, false⟩ := by
    have h1 : (chs ms2)[k]? = some ⟨cap, [], [], rcv, false⟩ := by rw [hc2]; exact hk
    unfold chs at h1
    rw [List.getElem?_map] at h1
    obtain ⟨m2, h2, h3⟩ := Option.map_eq_some_iff.1 h1
    exact ⟨m2, h2, h3⟩
  obtain ⟨ch2, vv, sv, rv⟩ := m2
  simp only at hm2
  subst hm2
  have HBC := hid (HBG.out _ (List.mem_of_getElem? hk))
  obtain ⟨hbv, hbs, hbr⟩ : ([] : List Int).length ≤ 4194304 ∧ ([] : List Wt).length ≤ 4194304 ∧ (rcv : List Wt).length ≤ 4194304 := HBC.out
  have HK := hid hk
  have HK2 := hid hk2
  have HLN := hid hlen2
  have hlt := lt_of_get hk2
  have hkb : k < 1024 := by omega
  obtain ⟨L, cp, hov, hFL, hLl, c0', c1, c2, c3, c4, hfz⟩ := O3.out.at hk2
  subst hov
  have HFZ := hid hfz
  have OM := hid (O3.out.each _ (List.mem_of_getElem? hk2))
  obtain ⟨VA, vc, ev, _, _, _⟩ := OM.out.vals.read (n := 0) (by decide) (ints_len _)
  obtain ⟨SA, sc, es, _, _, _⟩ := OM.out.snd.read (n := 0) (by decide) (wts_len _)
  obtain ⟨RA, rc, er, _, _, _⟩ := OM.out.rcv.read (n := rcv.length) (by decide) (wts_len _)
  simp only at ev es er c0' c1 c2 c3 c4
  subst ev es er
  have hTl := heap_lt T3.out
  have hGl : w.heap.size < w2.heap.size := by omega
  obtain ⟨⟨b0, b1, b2, b3, b4⟩, z0, z1, z2, z3, z4⟩ := blk5 T3.out
  have T4 := hid (((Fr.refl (S := E0) (w := w2)).alloc (.cells #[.int .i64 cap, .slice VA 0 vc, .slice SA 0 sc, .slice RA (rcv.length) rc, .bool false] 67)).heapAt T3.out (fun x => x))
  have F4 := hid (F3.out.alloc (.cells #[.int .i64 cap, .slice VA 0 vc, .slice SA 0 sc, .slice RA (rcv.length) rc, .bool false] 67))
  clear hc2 ho2 hf2 hk hk2 hlen2 hfz
  obtain ⟨i0, hi0, hz0, hz1, hz2⟩ := info_parts info114
  have g0 := cell_of_row w2 _ 0 _ _ _ G3.out
  have g1 := cell_of_row w2 _ 1 _ _ _ G3.out
  have hf0 := HFZ.out (k * 5 + 3)
  have F5a := hid (((Fr.refl (S := E0) (w := w2)).alloc (.cells #[.int .i64 cap, .slice VA 0 vc, .slice SA 0 sc, .slice RA (rcv.length) rc, .bool false] 67)))
  have F5b := hid (F5a.out.alloc (.cells #[.int .i64 gs, .int .i64 gg, .int .i64 0, .int .i64 0] 114))
  have OB := hid (O3.out.fr F5b.out (fun _ _ x => x))
  have hown0 := hid (((OM.out.rcv.fr F5b.out (fun _ _ x => x))).own (n := rcv.length) (by decide) (wts_len _))
  have hnL : (Value.slice RA rcv.length rc).ownBlock ≠ some L := fun hx => O3.out.row.ne_type OM.out.rcv (by decide) rfl hx
  have HNL := hid hnL
  clear hnL
  have hTL1 : ¬ L = w.heap.size + 1 := ne32 O3.out.row T3.out
  have hTL2 : ¬ w.heap.size + 1 = L := fun e => hTL1 e.symm
  go_wp2_with (at_builtin; (refine wpList_append_lies _ rfl (.tmp 131) (.tmp 134) 65 rfl 0 114 i0 (.agg #[.int .i64 0, .int .i64 0, .int .i64 0, .int .i64 0]) 4 32 Try.underlying65 hi0 hz0 hz1 hz2 rfl (by decide) (.slice RA rcv.length rc) rcv.length (wts rcv) rfl hown0.out ⟨w2.heap.size + 1, 0, none⟩ 1 1 [.int .i64 gs, .int .i64 gg, .int .i64 0, .int .i64 0] rfl rfl (World.news_of_block (newAt2 w2 _ _)) (by simp [Value.oneCell']) (by decide) (by unfold maxLen; omega) (by omega) (Nat.zero_le _) (w2.heap.size + 1 + 1) (by simp) ?_); intro gb cp3 w3 hown3 hgrow3 hat3 hlt3; have HN := hid (And.intro hown3 (And.intro hgrow3 hat3)); have x1 : w3.cell? ⟨L, k * 5 + 3, none⟩ = some (.slice RA rcv.length rc) := hgrow3.cell (F5b.out.cell c3 (fun x => x)) (fun e => HNL.out e.symm); have x2 : w3.frozen? ⟨L, k * 5 + 3, none⟩ = false := frz (OB.out.row.fr (Fr.refl.grown hgrow3 (S := fun q => (Value.slice RA rcv.length rc).ownBlock = some q) (fun q hq => .inl hq)) (fun q hq e => HNL.out (by simp [Value.ownBlock] at hq; subst hq; exact e))) _; have T5 := hid (keep32 (F5b.out.heapAt T3.out (fun x => x)) (OM.out.rcv.fr F5b.out (fun _ _ x => x)) (by decide) hgrow3); obtain ⟨⟨p0, p1, p2, p3, p4⟩, s0, s1, s2, s3, s4⟩ := blk5 T5.out; clear hown3 hgrow3 hat3 hlt3)
  have FX := hid (Fr.refl.grown HN.out.2.1 (S := fun q => (Value.slice RA rcv.length rc).ownBlock = some q) (fun q hq => .inl hq))
  have O6 := hid (OwnCs.putR (w1 := w3) (l' := rcv ++ [⟨gs, gg, 0, 0⟩]) (v' := .slice (some ⟨gb, 0, none⟩) (rcv.length + 1) cp3) OB.out HK2.out FX.out (fun _ hq => hq) ⟨⟨_, by rw [wts_app]; exact HN.out.1⟩, fun q hq => by
    simp [Value.ownBlock] at hq; subst hq
    rcases HN.out.2.2 with e | e
    · exact OM.out.rcv.2 _ e
    · have := F3.out.size; unfold New; omega⟩ (fun q hq => by
    simp [Value.ownBlock] at hq; subst hq
    rcases HN.out.2.2 with e | e
    · exact .inl e
    · exact .inr (by simp; omega)))
  have F6 := hid (((F3.out.trans F5b.out).trans' FX.out (fun q hq => .inr (OM.out.rcv.2 q hq))).setCell (p := ⟨L, k * 5 + 3, none⟩) (.slice (some ⟨gb, 0, none⟩) (rcv.length + 1) cp3) (.inr hFL))
  have T6 := hid (show (w3.setCell ⟨L, k * 5 + 3, none⟩ (.slice (some ⟨gb, 0, none⟩) (rcv.length + 1) cp3)).heap[w.heap.size + 1]? = _ from (heap_setCell_other _ _ _ _ hTL2).trans T5.out)
  exact fin50 (m := { waits := true }) rfl rfl rfl rfl (set5_heap T6.out _ _ _ _ _) ⟨_, _, rfl, .inr ⟨_, by rw [chs_set, C2.out]; rfl, O6.out.set5 T6.out _ _ _ _ _⟩, RowF.nil, fr_new5 F6.out (Nat.le_succ _) _ _ _ _ _⟩
end Go.Proofs.Yteffmnohgnmanaa

/- rotaref11.Recv where a value lies there. Printed by wip/gen/ref6b.py. -/
namespace Go.Proofs.Yteffmnohgnmanaa
open Go.RowKit
set_option linter.unusedVariables false
attribute [local go_sem ↓] Go.wp_at_zero Go.wp_at_succ
theorem keepT {w w1 : World} {F : Nat → Prop} {B e sz t : Nat} {cs : Array Value} {v : Value} {xs : List Value} (hB : w.heap[B]? = some (.cells cs t (0, 0))) (hr : RowF w F e sz v xs) (he : e ≠ t) (hg : w.grownBy w1 v.ownBlock) : w1.heap[B]? = some (.cells cs t (0, 0)) := by
  have hf : Fr (fun q => v.ownBlock = some q) w w1 := (Fr.refl (S := fun q => v.ownBlock = some q)).grown hg (fun q hq => .inl hq)
  refine hf.heapAt hB (fun hx => ?_)
  obtain ⟨cur, hc⟩ := hr.heap hx
  rw [hB] at hc; injection hc with hc; injection hc with _ hc _; exact he hc.symm
theorem RowF.off {w : World} {F : Nat → Prop} {e sz B t j : Nat} {v u : Value} {xs : List Value} {cs : Array Value} (h : RowF w F e sz v xs) (hB : w.heap[B]? = some (.cells cs t (0, 0))) (he : e ≠ t) : RowF (w.setCell ⟨B, j, none⟩ u) F e sz v xs :=
  h.same (fun g hg => heap_setCell_other _ _ _ _ (by
    rintro rfl
    obtain ⟨cur, hc⟩ := h.heap hg
    rw [hB] at hc; injection hc with hc; injection hc with _ hc _; exact he hc.symm))
theorem OwnCs.off {w : World} {F : Nat → Prop} {v u : Value} {ms : List CM} {B t j : Nat} {cs : Array Value} (h : OwnCs w F v ms) (hB : w.heap[B]? = some (.cells cs t (0, 0))) (h1 : t ≠ 67) (h2 : t ≠ 2) (h3 : t ≠ 114) : OwnCs (w.setCell ⟨B, j, none⟩ u) F v ms :=
  ⟨h.row.off hB h1.symm, fun m hm => ⟨(h.each m hm).vals.off hB h2.symm, (h.each m hm).snd.off hB h3.symm, (h.each m hm).rcv.off hB h3.symm⟩, h.apart⟩
/-- A row of values that lies apart from all is stored. -/
theorem OwnCs.putV2 {w : World} {F F' : Nat → Prop} {L n c i : Nat} {ms : List CM} {m : CM} {v' : Value} {l' : List Int} (h : OwnCs w F (.slice (some ⟨L, 0, none⟩) n c) ms) (hi : ms[i]? = some m) (hF : ∀ k, F k → F' k)
    (hrow : RowF w F' 2 1 v' (ints l')) (hap : ∀ g, v'.ownBlock = some g → ∀ q ∈ ms, g ∉ q.blocks) : OwnCs (w.setCell ⟨L, i * 5 + 1, none⟩ v') F' (.slice (some ⟨L, 0, none⟩) n c) (ms.set i (m.setV v' l')) := by
  have hm := h.each m (List.mem_of_getElem? hi)
  have hnd := nodup_of_flat (f := CM.blocks) h.apart (List.mem_of_getElem? hi)
  obtain ⟨a1, a2⟩ := blocks_apart hnd
  obtain ⟨curL, hL⟩ := h.row.heap (g := L) rfl
  have hm' : CM.Own w F' (m.setV v' l') := ⟨hrow, hm.snd.mono hF, hm.rcv.mono hF⟩
  have hnotL : ∀ q : CM, q.Own w F' → ∀ g ∈ q.blocks, (w.setCell ⟨L, i * 5 + 1, none⟩ v').heap[g]? = w.heap[g]? := fun q ho g hg =>
    heap_setCell_other _ _ _ _ (by
      rintro rfl
      obtain ⟨_, _, cur, e, he, hne⟩ := ho.mem hg
      rw [hL] at he; injection he with he; injection he with _ he _; exact hne he.symm)
  have hmem := List.mem_of_getElem? hi
  refine ⟨?_, ?_, ?_⟩
  · have := (h.row.mono hF).stored (j := i * 5 + 1) (u := v') (by have h1 := cms_len ms; have h2 := lt_of_get hi; rw [h1]; omega)
    rw [flat_set (f := CM.cells) (sz := 5) (fun _ => rfl) ms i 1 m (m.setV v' l') v' hi (by omega) rfl] at this
    exact this
  · intro q hq
    rcases List.mem_or_eq_of_mem_set hq with hq1 | rfl
    · have ho : q.Own w F' := ⟨(h.each q hq1).vals.mono hF, (h.each q hq1).snd.mono hF, (h.each q hq1).rcv.mono hF⟩
      exact ho.same (hnotL q ho)
    · exact hm'.same (hnotL _ hm')
  · refine apart_set h.apart hi (nodup3 (fun k hk hk' => ?_) (fun k hk hk' => ?_) (fun k hk hk' => a2 k hk hk')) (fun g hg hgm z hz hgz => ?_)
    · exact hap k hk m hmem (by simp [CM.blocks]; exact .inr (.inl hk'))
    · exact hap k hk m hmem (by simp [CM.blocks]; exact .inr (.inr hk'))
    · have hg' : g ∈ v'.ownBlock.toList ++ (m.sv.ownBlock.toList ++ m.rv.ownBlock.toList) := hg
      simp only [List.mem_append, Option.mem_toList] at hg'
      rcases hg' with hx | hx
      · exact hap g hx z hz hgz
      · exact hgm (by simp only [CM.blocks, List.mem_append, Option.mem_toList]; exact .inr hx)
theorem RowF.off5 {w : World} {F : Nat → Prop} {e sz B t : Nat} {v a b c d f : Value} {xs : List Value} {cs : Array Value} (h : RowF w F e sz v xs) (hB : w.heap[B]? = some (.cells cs t (0, 0))) (he : e ≠ t) : RowF (set5 w B a b c d f) F e sz v xs :=
  h.same (fun g hg => far5 (by
    rintro rfl
    obtain ⟨cur, hc⟩ := h.heap hg
    rw [hB] at hc; injection hc with hc; injection hc with _ hc _; exact he hc.symm) a b c d f)
theorem RowF.drew {w : World} {F : Nat → Prop} {e sz : Nat} {v : Value} {xs : List Value} (h : RowF w F e sz v xs) : RowF w.drew F e sz v xs := h.same (fun _ _ => rfl)
theorem leaveL_set {gs gg : Int} {l : List Ch} {k : Nat} {c : Ch} : leaveL gs gg (l.set k c) = (leaveL gs gg l).set k (leaveCh gs gg c) := by simp [leaveL, List.map_set]
set_option maxRecDepth 8000 in
set_option maxHeartbeats 4000000 in
theorem rrecv_value {w : World} {v : Value} {ms : List CM} (hv : RdCs w v ms) (hn : ms.length ≤ 1024) (hbig : ∀ c ∈ chs ms, BigC c) (gs gg : Int) (hw : waitsL gs gg (chs ms) = false) {k : Nat} {cap : Int} {y : Int} {vs : List Int} {rcv : List Wt} {cl : Bool} (hk : (chs ms)[k]? = some ⟨cap, y :: vs, [], rcv, cl⟩) :
    Calls Try.prog 50 #[v, .int .i64 ((k : Int) + 1), .agg #[.int .i64 gs, .int .i64 gg]] w (RMvPost w v (chs ms) ((chs ms).set k ⟨cap, vs, [], rcv, cl⟩) { value := y, ok := true } 0) := by
  have HV := hid hv
  have HBG := hid hbig
  have HWT := hid hw
  obtain ⟨A, c0, rfl, hmx, _, _⟩ := hv.form
  clear hv hbig hw
  go_enter Try.func50, Try.ntmps50
  go_wp2_with fail
  generalize hW : ((w.alloc (Obj.cells #[Value.int IntKind.i64 gs, Value.int IntKind.i64 gg] 37)).alloc _) = W
  have FA := hid (show Fr E0 w W by rw [← hW]; exact (Fr.refl.alloc _).alloc _)
  have T1 := hid (show W.heap[w.heap.size + 1]? = some (.cells #[Value.bool false, Value.int IntKind.i64 0, Value.bool false, Value.int IntKind.i64 0, Value.slice none 0 0] 32 (0, 0)) by rw [← hW]; exact heap_alloc2_new w _ _)
  have G1 := hid (show W.heap[w.heap.size]? = some (.cells #[Value.int IntKind.i64 gs, Value.int IntKind.i64 gg] 37 (0, 0)) by rw [← hW]; exact heap_alloc2_old w _ _)
  clear hW
  refine (waits2_ok ms _ gs gg W (HV.out.fr FA.out) (by omega) HBG.out).mono ?_
  rintro e w1 ⟨rfl, hf1⟩
  rw [HWT.out]
  have T2 := hid (hf1.heapAt T1.out (fun x => x))
  have G2 := hid (hf1.heapAt G1.out (fun x => x))
  have F2 := hid (FA.out.trans hf1)
  clear hf1
  obtain ⟨⟨b0, b1, b2, b3, b4⟩, z0, z1, z2, z3, z4⟩ := blk5 T2.out
  have hz : (((k : Int) + 1 == 0) : Bool) = false := by simp; omega
  go_wp2_with fail
  refine (is2_ok hmx _).mono ?_
  rw [show isB (chs ms) ((k : Int) + 1) = true from by unfold isB; rw [getC_in hk]; rfl]
  rintro e w' ⟨rfl, rfl⟩
  go_wp2_with fail
  refine (copy_ok ms _ w1 (HV.out.fr F2.out) (by omega) (fun m hm => HBG.out _ (List.mem_map.2 ⟨m, hm, rfl⟩))).mono ?_
  rintro e w2 ⟨ov, ms2, rfl, hc2, ho2, hf2⟩
  clear b0 b1 b2 b3 b4 z0 z1 z2 z3 z4
  have T3 := hid (hf2.heapAt T2.out (fun x => x))
  have G3 := hid (hf2.heapAt G2.out (fun x => x))
  have F3 := hid (F2.out.trans hf2)
  have O3 := hid (ho2.mono (F' := New w) (fun q hq => Nat.le_trans F2.out.size hq))
  have C2 := hid hc2
  have hlen2 : ms2.length = ms.length := by rw [← chs_len, hc2, chs_len]
  obtain ⟨m2, hk2, hm2⟩ : ∃ m2, ms2[k]? = some m2 ∧ m2.ch = ⟨cap, y :: vs, [], rcv, cl⟩ := by
    have h1 : (chs ms2)[k]? = some ⟨cap, y :: vs, [], rcv, cl⟩ := by rw [hc2]; exact hk
    unfold chs at h1
    rw [List.getElem?_map] at h1
    obtain ⟨m2, h2, h3⟩ := Option.map_eq_some_iff.1 h1
    exact ⟨m2, h2, h3⟩
  obtain ⟨ch2, vv, sv, rv⟩ := m2
  simp only at hm2
  subst hm2
  have HBC := hid (HBG.out _ (List.mem_of_getElem? hk))
  obtain ⟨hbv, hbs, hbr⟩ : (y :: vs : List Int).length ≤ 4194304 ∧ ([] : List Wt).length ≤ 4194304 ∧ (rcv : List Wt).length ≤ 4194304 := HBC.out
  have HK := hid hk
  have HK2 := hid hk2
  have HLN := hid hlen2
  have hlt := lt_of_get hk2
  have hkb : k < 1024 := by omega
  obtain ⟨L, cp, hov, hFL, hLl, c0', c1, c2, c3, c4, hfz⟩ := O3.out.at hk2
  subst hov
  have HFZ := hid hfz
  have OM := hid (O3.out.each _ (List.mem_of_getElem? hk2))
  obtain ⟨VA, vc, ev, _, _, _⟩ := OM.out.vals.read (n := vs.length + 1) (by decide) (ints_len _)
  obtain ⟨SA, sc, es, _, _, _⟩ := OM.out.snd.read (n := 0) (by decide) (wts_len _)
  obtain ⟨RA, rc, er, _, _, _⟩ := OM.out.rcv.read (n := rcv.length) (by decide) (wts_len _)
  simp only at ev es er c0' c1 c2 c3 c4
  subst ev es er
  have hTl := heap_lt T3.out
  have hGl : w.heap.size < w2.heap.size := by omega
  obtain ⟨⟨b0, b1, b2, b3, b4⟩, z0, z1, z2, z3, z4⟩ := blk5 T3.out
  have T4 := hid (((Fr.refl (S := E0) (w := w2)).alloc (.cells #[.int .i64 cap, .slice VA (vs.length + 1) vc, .slice SA 0 sc, .slice RA (rcv.length) rc, .bool cl] 67)).heapAt T3.out (fun x => x))
  have F4 := hid (F3.out.alloc (.cells #[.int .i64 cap, .slice VA (vs.length + 1) vc, .slice SA 0 sc, .slice RA (rcv.length) rc, .bool cl] 67))
  clear hc2 ho2 hf2 hk hk2 hlen2 hfz
  rcases OM.out.vals.form (n := vs.length + 1) (by decide) (ints_len _) with ⟨_, h0, _⟩ | ⟨bv, pv, hv3, _, hbv3, hn3, _, hr3, _⟩
  · omega
  injection hv3 with e1 e2 e3
  subst e1 e3
  clear e2
  have d0 := hr3 0 (.int .i64 y) rfl
  simp only [Nat.zero_add] at d0
  have hbv' : vs.length ≤ 4194304 := by simp at hbv; omega
  have hvp : (0 : Int) < (vs.length : Int) + 1 := by omega
  have HR3 := hid hr3
  obtain ⟨i0, hi0, hz0, hz1, hz2⟩ := info_parts info2'
  clear hr3
  go_wp2_with fail
  have X10 := hid (heap_alloc2_old w2 (.cells #[.int .i64 cap, .slice (some ⟨bv, 0, none⟩) (vs.length + 1) vc, .slice SA 0 sc, .slice RA (rcv.length) rc, .bool cl] 67) (.cells #[.bool false, .int .i64 y, .bool true, .int .i64 0, .slice none 0 0] 32))
  have X11 := hid (heap_alloc2_new w2 (.cells #[.int .i64 cap, .slice (some ⟨bv, 0, none⟩) (vs.length + 1) vc, .slice SA 0 sc, .slice RA (rcv.length) rc, .bool cl] 67) (.cells #[.bool false, .int .i64 y, .bool true, .int .i64 0, .slice none 0 0] 32))
  have F24 := hid (((Fr.refl (S := E0) (w := w2)).alloc (.cells #[.int .i64 cap, .slice (some ⟨bv, 0, none⟩) (vs.length + 1) vc, .slice SA 0 sc, .slice RA (rcv.length) rc, .bool cl] 67)).alloc (.cells #[.bool false, .int .i64 y, .bool true, .int .i64 0, .slice none 0 0] 32))
  have R0 := hid (rowF_empty ((w2.alloc (.cells #[.int .i64 cap, .slice (some ⟨bv, 0, none⟩) (vs.length + 1) vc, .slice SA 0 sc, .slice RA (rcv.length) rc, .bool cl] 67)).alloc (.cells #[.bool false, .int .i64 y, .bool true, .int .i64 0, .slice none 0 0] 32)) 2 1)
  have S4 := hid (show ((w2.alloc (.cells #[.int .i64 cap, .slice (some ⟨bv, 0, none⟩) (vs.length + 1) vc, .slice SA 0 sc, .slice RA (rcv.length) rc, .bool cl] 67)).alloc (.cells #[.bool false, .int .i64 y, .bool true, .int .i64 0, .slice none 0 0] 32)).heap.size = w2.heap.size + 1 + 1 by simp)
  rw [S4.out] at R0
  clear b0 b1 b2 b3 b4 z0 z1 z2 z3 z4
  generalize ((w2.alloc _).alloc _) = W4 at *
  go_loopw [12, 13] (fun tv i wr => ∃ q : Nat, i = .int .i64 ((q : Int) + 1) ∧ q ≤ vs.length ∧ RowF wr (New W4) 2 1 tv (ints (vs.take q)) ∧ Fr E0 W4 wr) (fun _ i _ => (vs.length + 1) - (intOf i).toNat)
  case atStart => exact ⟨0, rfl, Nat.zero_le _, R0.out, Fr.refl.alloc _⟩
  case round =>
    obtain ⟨q, rfl, hq, hrow, hf⟩ := hrel
    have HW := hid hrow
    have HF := hid hf
    clear hrow hf
    obtain ⟨⟨_, e1, e2, _, _⟩, _⟩ := blk5 (HF.out.heapAt X10.out (fun x => x))
    have hql : (vs.take q).length = q := by rw [List.length_take]; omega
    obtain ⟨OA, Oc, rfl, _, _, _⟩ := HW.out.read (n := q) (by decide) (by rw [ints_len, hql])
    by_cases hlt : q < vs.length
    · obtain ⟨x1, hx1⟩ : ∃ x1, vs[q]? = some x1 := ⟨_, List.getElem?_eq_getElem hlt⟩
      have y1 := (HR3.out.fr (F24.out.trans HF.out) (fun x => x)) (q + 1) (.int .i64 x1) (by simp only [ints, List.map_cons, List.getElem?_cons_succ, List.getElem?_map, hx1, Option.map_some])
      simp only [Nat.zero_add] at y1
      have HTK := hid (show vs.take (q + 1) = vs.take q ++ [x1] by rw [List.take_add_one, hx1]; rfl)
      have HQL := hid hql
      have WR := hid (HW.out.fr ((Fr.refl (S := E0)).alloc (.cells #[.int .i64 x1] 2)) (fun _ _ x => x))
      clear hx1 hql
      go_wp2_with (at_builtin; (refine wpList_append_lies _ rfl (.tmp 55) (.tmp 61) 22 rfl 0 2 i0 (.int .i64 0) 1 8 Try.underlying22 hi0 hz0 hz1 hz2 rfl (by decide) (.slice OA q Oc) q (ints (vs.take q)) rfl (WR.out.own (by decide) (by rw [ints_len, HQL.out])) ⟨wr.heap.size, 0, none⟩ 1 1 [.int .i64 x1] rfl rfl (World.news_of_block (heap_alloc_new wr _)) (by simp [Value.oneCell']) (by decide) (by unfold maxLen; omega) (by omega) (Nat.zero_le _) (wr.heap.size + 1) (by simp) ?_); intro gb cp9 w9 hown9 hgrow9 hat9 hlt9; have HP := hid (pushed HF.out HW.out hown9 hgrow9 hat9); clear hown9 hgrow9 hat9 hlt9)
      rw [ints_push, ← HTK.out] at HP
      go_roundw
      case rel => exact ⟨q + 1, by simp, by omega, HP.out.1, HP.out.2⟩
      case measure => simp [intOf]; omega
    · obtain rfl : q = vs.length := by omega
      rw [List.take_length] at HW
      have OB := hid (O3.out.fr F24.out (fun _ _ x => x))
      have FW := hid (F24.out.trans HF.out)
      have f1 := FW.out.cell c1 (fun x => x)
      have hf1 : wr.frozen? ⟨L, k * 5 + 1, none⟩ = false := frz (O3.out.row.fr FW.out (fun _ _ x => x)) _
      have XW := hid (HF.out.heapAt X11.out (fun x => x))
      have TW := hid (FW.out.heapAt T3.out (fun x => x))
      obtain ⟨⟨x0, x1, x2, x3, x4⟩, u0', u1', u2', u3', u4'⟩ := blk5 XW.out
      obtain ⟨⟨b0, b1, b2, b3, b4⟩, z0, z1, z2, z3, z4⟩ := blk5 TW.out
      have n1 : ¬ L = w.heap.size + 1 := ne32 O3.out.row T3.out
      have n2 : ¬ w.heap.size + 1 = L := fun e => n1 e.symm
      have n3 : ¬ L = w2.heap.size + 1 := by omega
      have n4 : ¬ w2.heap.size + 1 = L := by omega
      have n5 : ¬ w2.heap.size + 1 = w.heap.size + 1 := by omega
      have n6 : ¬ w.heap.size + 1 = w2.heap.size + 1 := by omega
      clear hlt hq hql
      have O6 := hid (OwnCs.putV (w1 := wr) (l' := vs) (v' := .slice OA vs.length Oc) OB.out HK2.out HF.out.e0 (fun _ hq => hq) (HW.out.mono (F' := New w) (fun q hq => Nat.le_trans (F3.out.trans F24.out).size hq)) (fun q hq => .inr (HW.out.2 q hq)))
      have F6 := hid ((F3.out.trans FW.out).setCell (p := ⟨L, k * 5 + 1, none⟩) (.slice OA vs.length Oc) (.inr hFL))
      have T6 := hid (show (wr.setCell ⟨L, k * 5 + 1, none⟩ (.slice OA vs.length Oc)).heap[w.heap.size + 1]? = _ from (heap_setCell_other _ _ _ _ n2).trans TW.out)
      go_wp2_with fail
      go_region
      all_goals
        go_wp2_with fail
        exact fin50 (m := { value := y, ok := true }) rfl rfl rfl rfl ((Fr.refl (S := E0)).drew.heapAt (set5_heap T6.out _ _ _ _ _) (fun x => x)) ⟨_, _, rfl, .inr ⟨_, by rw [chs_set, C2.out]; rfl, (O6.out.set5 T6.out _ _ _ _ _).fr (Fr.refl (S := E0)).drew (fun _ _ x => x)⟩, RowF.nil, (fr_new5 F6.out (Nat.le_succ _) _ _ _ _ _).drew⟩
set_option maxRecDepth 8000 in
set_option maxHeartbeats 4000000 in
theorem rrecv_value_wakes {w : World} {v : Value} {ms : List CM} (hv : RdCs w v ms) (hn : ms.length ≤ 1024) (hbig : ∀ c ∈ chs ms, BigC c) (gs gg : Int) (hw : waitsL gs gg (chs ms) = false) {k : Nat} {cap : Int} {y : Int} {vs : List Int} {x : Wt} {r rcv : List Wt} {cl : Bool} (hk : (chs ms)[k]? = some ⟨cap, y :: vs, x :: r, rcv, cl⟩) :
    Calls Try.prog 50 #[v, .int .i64 ((k : Int) + 1), .agg #[.int .i64 gs, .int .i64 gg]] w (RMvPost w v (chs ms) (leaveL x.s x.g ((chs ms).set k ⟨cap, vs ++ [x.v], x :: r, rcv, cl⟩)) { value := y, ok := true, woken := [⟨x.s, x.g, x.c, 0, true, 0⟩] } 0) := by
  have HV := hid hv
  have HBG := hid hbig
  have HWT := hid hw
  obtain ⟨A, c0, rfl, hmx, _, _⟩ := hv.form
  clear hv hbig hw
  go_enter Try.func50, Try.ntmps50
  go_wp2_with fail
  generalize hW : ((w.alloc (Obj.cells #[Value.int IntKind.i64 gs, Value.int IntKind.i64 gg] 37)).alloc _) = W
  have FA := hid (show Fr E0 w W by rw [← hW]; exact (Fr.refl.alloc _).alloc _)
  have T1 := hid (show W.heap[w.heap.size + 1]? = some (.cells #[Value.bool false, Value.int IntKind.i64 0, Value.bool false, Value.int IntKind.i64 0, Value.slice none 0 0] 32 (0, 0)) by rw [← hW]; exact heap_alloc2_new w _ _)
  have G1 := hid (show W.heap[w.heap.size]? = some (.cells #[Value.int IntKind.i64 gs, Value.int IntKind.i64 gg] 37 (0, 0)) by rw [← hW]; exact heap_alloc2_old w _ _)
  clear hW
  refine (waits2_ok ms _ gs gg W (HV.out.fr FA.out) (by omega) HBG.out).mono ?_
  rintro e w1 ⟨rfl, hf1⟩
  rw [HWT.out]
  have T2 := hid (hf1.heapAt T1.out (fun x => x))
  have G2 := hid (hf1.heapAt G1.out (fun x => x))
  have F2 := hid (FA.out.trans hf1)
  clear hf1
  obtain ⟨⟨b0, b1, b2, b3, b4⟩, z0, z1, z2, z3, z4⟩ := blk5 T2.out
  have hz : (((k : Int) + 1 == 0) : Bool) = false := by simp; omega
  go_wp2_with fail
  refine (is2_ok hmx _).mono ?_
  rw [show isB (chs ms) ((k : Int) + 1) = true from by unfold isB; rw [getC_in hk]; rfl]
  rintro e w' ⟨rfl, rfl⟩
  go_wp2_with fail
  refine (copy_ok ms _ w1 (HV.out.fr F2.out) (by omega) (fun m hm => HBG.out _ (List.mem_map.2 ⟨m, hm, rfl⟩))).mono ?_
  rintro e w2 ⟨ov, ms2, rfl, hc2, ho2, hf2⟩
  clear b0 b1 b2 b3 b4 z0 z1 z2 z3 z4
  have T3 := hid (hf2.heapAt T2.out (fun x => x))
  have G3 := hid (hf2.heapAt G2.out (fun x => x))
  have F3 := hid (F2.out.trans hf2)
  have O3 := hid (ho2.mono (F' := New w) (fun q hq => Nat.le_trans F2.out.size hq))
  have C2 := hid hc2
  have hlen2 : ms2.length = ms.length := by rw [← chs_len, hc2, chs_len]
  obtain ⟨m2, hk2, hm2⟩ : ∃ m2, ms2[k]? = some m2 ∧ m2.ch = ⟨cap, y :: vs, x :: r, rcv, cl⟩ := by
    have h1 : (chs ms2)[k]? = some ⟨cap, y :: vs, x :: r, rcv, cl⟩ := by rw [hc2]; exact hk
    unfold chs at h1
    rw [List.getElem?_map] at h1
    obtain ⟨m2, h2, h3⟩ := Option.map_eq_some_iff.1 h1
    exact ⟨m2, h2, h3⟩
  obtain ⟨ch2, vv, sv, rv⟩ := m2
  simp only at hm2
  subst hm2
  have HBC := hid (HBG.out _ (List.mem_of_getElem? hk))
  obtain ⟨hbv, hbs, hbr⟩ : (y :: vs : List Int).length ≤ 4194304 ∧ (x :: r : List Wt).length ≤ 4194304 ∧ (rcv : List Wt).length ≤ 4194304 := HBC.out
  have HK := hid hk
  have HK2 := hid hk2
  have HLN := hid hlen2
  have hlt := lt_of_get hk2
  have hkb : k < 1024 := by omega
  obtain ⟨L, cp, hov, hFL, hLl, c0', c1, c2, c3, c4, hfz⟩ := O3.out.at hk2
  subst hov
  have HFZ := hid hfz
  have OM := hid (O3.out.each _ (List.mem_of_getElem? hk2))
  obtain ⟨VA, vc, ev, _, _, _⟩ := OM.out.vals.read (n := vs.length + 1) (by decide) (ints_len _)
  obtain ⟨SA, sc, es, _, _, _⟩ := OM.out.snd.read (n := r.length + 1) (by decide) (wts_len _)
  obtain ⟨RA, rc, er, _, _, _⟩ := OM.out.rcv.read (n := rcv.length) (by decide) (wts_len _)
  simp only at ev es er c0' c1 c2 c3 c4
  subst ev es er
  have hTl := heap_lt T3.out
  have hGl : w.heap.size < w2.heap.size := by omega
  obtain ⟨⟨b0, b1, b2, b3, b4⟩, z0, z1, z2, z3, z4⟩ := blk5 T3.out
  have T4 := hid (((Fr.refl (S := E0) (w := w2)).alloc (.cells #[.int .i64 cap, .slice VA (vs.length + 1) vc, .slice SA (r.length + 1) sc, .slice RA (rcv.length) rc, .bool cl] 67)).heapAt T3.out (fun x => x))
  have F4 := hid (F3.out.alloc (.cells #[.int .i64 cap, .slice VA (vs.length + 1) vc, .slice SA (r.length + 1) sc, .slice RA (rcv.length) rc, .bool cl] 67))
  clear hc2 ho2 hf2 hk hk2 hlen2 hfz
  rcases OM.out.snd.form (n := r.length + 1) (by decide) (wts_len _) with ⟨_, h0, _⟩ | ⟨br, ps, hvs, _, hbs3, hns, _, hrs, _⟩
  · omega
  injection hvs with e1 e2 e3
  subst e1 e3
  clear e2
  have hbs' : r.length ≤ 4194304 := by simp at hbs; omega
  have hrp : (0 : Int) < (r.length : Int) + 1 := by omega
  have HRS := hid hrs
  clear hrs
  rcases OM.out.vals.form (n := vs.length + 1) (by decide) (ints_len _) with ⟨_, h0, _⟩ | ⟨bv, pv, hv3, _, hbv3, hn3, _, hr3, _⟩
  · omega
  injection hv3 with e1 e2 e3
  subst e1 e3
  clear e2
  have d0 := hr3 0 (.int .i64 y) rfl
  simp only [Nat.zero_add] at d0
  have hbv' : vs.length ≤ 4194304 := by simp at hbv; omega
  have hvp : (0 : Int) < (vs.length : Int) + 1 := by omega
  have HR3 := hid hr3
  obtain ⟨i0, hi0, hz0, hz1, hz2⟩ := info_parts info2'
  clear hr3
  go_wp2_with fail
  have X10 := hid (heap_alloc2_old w2 (.cells #[.int .i64 cap, .slice (some ⟨bv, 0, none⟩) (vs.length + 1) vc, .slice (some ⟨br, 0, none⟩) (r.length + 1) sc, .slice RA (rcv.length) rc, .bool cl] 67) (.cells #[.bool false, .int .i64 y, .bool true, .int .i64 0, .slice none 0 0] 32))
  have X11 := hid (heap_alloc2_new w2 (.cells #[.int .i64 cap, .slice (some ⟨bv, 0, none⟩) (vs.length + 1) vc, .slice (some ⟨br, 0, none⟩) (r.length + 1) sc, .slice RA (rcv.length) rc, .bool cl] 67) (.cells #[.bool false, .int .i64 y, .bool true, .int .i64 0, .slice none 0 0] 32))
  have F24 := hid (((Fr.refl (S := E0) (w := w2)).alloc (.cells #[.int .i64 cap, .slice (some ⟨bv, 0, none⟩) (vs.length + 1) vc, .slice (some ⟨br, 0, none⟩) (r.length + 1) sc, .slice RA (rcv.length) rc, .bool cl] 67)).alloc (.cells #[.bool false, .int .i64 y, .bool true, .int .i64 0, .slice none 0 0] 32))
  have R0 := hid (rowF_empty ((w2.alloc (.cells #[.int .i64 cap, .slice (some ⟨bv, 0, none⟩) (vs.length + 1) vc, .slice (some ⟨br, 0, none⟩) (r.length + 1) sc, .slice RA (rcv.length) rc, .bool cl] 67)).alloc (.cells #[.bool false, .int .i64 y, .bool true, .int .i64 0, .slice none 0 0] 32)) 2 1)
  have S4 := hid (show ((w2.alloc (.cells #[.int .i64 cap, .slice (some ⟨bv, 0, none⟩) (vs.length + 1) vc, .slice (some ⟨br, 0, none⟩) (r.length + 1) sc, .slice RA (rcv.length) rc, .bool cl] 67)).alloc (.cells #[.bool false, .int .i64 y, .bool true, .int .i64 0, .slice none 0 0] 32)).heap.size = w2.heap.size + 1 + 1 by simp)
  rw [S4.out] at R0
  clear b0 b1 b2 b3 b4 z0 z1 z2 z3 z4
  generalize ((w2.alloc _).alloc _) = W4 at *
  go_loopw [12, 13] (fun tv i wr => ∃ q : Nat, i = .int .i64 ((q : Int) + 1) ∧ q ≤ vs.length ∧ RowF wr (New W4) 2 1 tv (ints (vs.take q)) ∧ Fr E0 W4 wr) (fun _ i _ => (vs.length + 1) - (intOf i).toNat)
  case atStart => exact ⟨0, rfl, Nat.zero_le _, R0.out, Fr.refl.alloc _⟩
  case round =>
    obtain ⟨q, rfl, hq, hrow, hf⟩ := hrel
    have HW := hid hrow
    have HF := hid hf
    clear hrow hf
    obtain ⟨⟨_, e1, e2, _, _⟩, _⟩ := blk5 (HF.out.heapAt X10.out (fun x => x))
    have hql : (vs.take q).length = q := by rw [List.length_take]; omega
    obtain ⟨OA, Oc, rfl, _, _, _⟩ := HW.out.read (n := q) (by decide) (by rw [ints_len, hql])
    by_cases hlt : q < vs.length
    · obtain ⟨x1, hx1⟩ : ∃ x1, vs[q]? = some x1 := ⟨_, List.getElem?_eq_getElem hlt⟩
      have y1 := (HR3.out.fr (F24.out.trans HF.out) (fun x => x)) (q + 1) (.int .i64 x1) (by simp only [ints, List.map_cons, List.getElem?_cons_succ, List.getElem?_map, hx1, Option.map_some])
      simp only [Nat.zero_add] at y1
      have HTK := hid (show vs.take (q + 1) = vs.take q ++ [x1] by rw [List.take_add_one, hx1]; rfl)
      have HQL := hid hql
      have WR := hid (HW.out.fr ((Fr.refl (S := E0)).alloc (.cells #[.int .i64 x1] 2)) (fun _ _ x => x))
      clear hx1 hql
      go_wp2_with (at_builtin; (refine wpList_append_lies _ rfl (.tmp 55) (.tmp 61) 22 rfl 0 2 i0 (.int .i64 0) 1 8 Try.underlying22 hi0 hz0 hz1 hz2 rfl (by decide) (.slice OA q Oc) q (ints (vs.take q)) rfl (WR.out.own (by decide) (by rw [ints_len, HQL.out])) ⟨wr.heap.size, 0, none⟩ 1 1 [.int .i64 x1] rfl rfl (World.news_of_block (heap_alloc_new wr _)) (by simp [Value.oneCell']) (by decide) (by unfold maxLen; omega) (by omega) (Nat.zero_le _) (wr.heap.size + 1) (by simp) ?_); intro gb cp9 w9 hown9 hgrow9 hat9 hlt9; have HP := hid (pushed HF.out HW.out hown9 hgrow9 hat9); clear hown9 hgrow9 hat9 hlt9)
      rw [ints_push, ← HTK.out] at HP
      go_roundw
      case rel => exact ⟨q + 1, by simp, by omega, HP.out.1, HP.out.2⟩
      case measure => simp [intOf]; omega
    · obtain rfl : q = vs.length := by omega
      rw [List.take_length] at HW
      have OB := hid (O3.out.fr F24.out (fun _ _ x => x))
      have FW := hid (F24.out.trans HF.out)
      have f1 := FW.out.cell c1 (fun x => x)
      have hf1 : wr.frozen? ⟨L, k * 5 + 1, none⟩ = false := frz (O3.out.row.fr FW.out (fun _ _ x => x)) _
      have XW := hid (HF.out.heapAt X11.out (fun x => x))
      have TW := hid (FW.out.heapAt T3.out (fun x => x))
      obtain ⟨⟨x0, x1, x2, x3, x4⟩, u0', u1', u2', u3', u4'⟩ := blk5 XW.out
      obtain ⟨⟨b0, b1, b2, b3, b4⟩, z0, z1, z2, z3, z4⟩ := blk5 TW.out
      have n1 : ¬ L = w.heap.size + 1 := ne32 O3.out.row T3.out
      have n2 : ¬ w.heap.size + 1 = L := fun e => n1 e.symm
      have n3 : ¬ L = w2.heap.size + 1 := by omega
      have n4 : ¬ w2.heap.size + 1 = L := by omega
      have n5 : ¬ w2.heap.size + 1 = w.heap.size + 1 := by omega
      have n6 : ¬ w.heap.size + 1 = w2.heap.size + 1 := by omega
      clear hlt hq hql
      obtain ⟨d0, d1, d2, d3⟩ := (HRS.out.fr FW.out (fun x => x)).wt (k := 0) (x := x) rfl
      simp only [Nat.zero_add, Nat.zero_mul] at d0 d1 d2 d3
      obtain ⟨wo, hwo⟩ : ∃ wo : World, wo = wr := ⟨_, rfl⟩
      subst hwo
      have AX := hid (heap_alloc_new wo (.cells #[.int .i64 x.s, .int .i64 x.g, .int .i64 x.c, .int .i64 x.v] 114))
      have HWX := hid (HW.out.fr ((Fr.refl (S := E0)).alloc (.cells #[.int .i64 x.s, .int .i64 x.g, .int .i64 x.c, .int .i64 x.v] 114)) (fun _ _ x => x))
      have HFX := hid (HF.out.alloc (.cells #[.int .i64 x.s, .int .i64 x.g, .int .i64 x.c, .int .i64 x.v] 114))
      have hwo4 : w2.heap.size + 1 + 1 ≤ wo.heap.size := by have h8 := HF.out.size; have h9 := S4.out; omega
      have m1 : ¬ wo.heap.size = w2.heap.size + 1 := by omega
      have m2 : ¬ w2.heap.size + 1 = wo.heap.size := by omega
      have WR := hid (HWX.out.fr ((Fr.refl (S := E0)).alloc (.cells #[.int .i64 x.v] 2)) (fun _ _ x => x))
      go_wp2_with (at_builtin; (refine wpList_append_lies _ rfl (.tmp 71) (.tmp 74) 22 rfl 0 2 i0 (.int .i64 0) 1 8 Try.underlying22 hi0 hz0 hz1 hz2 rfl (by decide) (.slice OA vs.length Oc) vs.length (ints vs) rfl (WR.out.own (by decide) (ints_len _)) ⟨wo.heap.size + 1, 0, none⟩ 1 1 [.int .i64 x.v] rfl rfl (World.news_of_block (newAt2 wo _ _)) (by simp [Value.oneCell']) (by decide) (by unfold maxLen; omega) (by omega) (Nat.zero_le _) (wo.heap.size + 1 + 1) (by simp) ?_); intro gb cp9 w9 hown9 hgrow9 hat9 hlt9; have HP := hid (pushed HFX.out HWX.out hown9 hgrow9 (by simpa using hat9)); have AX9 := hid (keepT (((Fr.refl (S := E0)).alloc (.cells #[.int .i64 x.v] 2)).heapAt AX.out (fun x => x)) WR.out (by decide) hgrow9); clear hown9 hgrow9 hat9 hlt9; obtain ⟨q0, q1, q2, q3⟩ := cell4 AX9.out; have XW9 := hid (HP.out.2.heapAt X11.out (fun x => x)); have u4 := frozen_of_row w9 _ 4 _ _ XW9.out; have v4 := cell_of_row w9 _ 4 _ _ _ XW9.out; have hAl := heap_lt AX9.out; have hXl := heap_lt XW9.out)
      have F9 := hid ((F3.out.trans F24.out).trans HP.out.2)
      have XW10 := hid (heap_setCell_same w9 (w2.heap.size + 1) 4 _ 32 (.slice (some ⟨w9.heap.size, 0, none⟩) 1 1) XW9.out)
      have V10 := hid (HP.out.1.off (j := 4) (u := .slice (some ⟨w9.heap.size, 0, none⟩) 1 1) XW9.out (by decide))
      have O10 := hid ((O3.out.fr (F24.out.trans HP.out.2) (fun _ _ x => x)).off (j := 4) (u := .slice (some ⟨w9.heap.size, 0, none⟩) 1 1) XW9.out (by decide) (by decide) (by decide))
      have F10 := hid (F9.out.setCell (p := ⟨w2.heap.size + 1, 4, none⟩) (.slice (some ⟨w9.heap.size, 0, none⟩) 1 1) (.inr (Nat.le_trans F3.out.size (Nat.le_succ _))))
      have T10 := hid (show (w9.setCell ⟨w2.heap.size + 1, 4, none⟩ (.slice (some ⟨w9.heap.size, 0, none⟩) 1 1)).heap[w.heap.size + 1]? = _ from (heap_setCell_other _ _ _ _ n6).trans ((F24.out.trans HP.out.2).heapAt T3.out (fun x => x)))
      have S10 := hid (show (w9.setCell ⟨w2.heap.size + 1, 4, none⟩ (.slice (some ⟨w9.heap.size, 0, none⟩) 1 1)).heap.size = w9.heap.size by simp)
      generalize w9.setCell ⟨w2.heap.size + 1, 4, none⟩ (.slice (some ⟨w9.heap.size, 0, none⟩) 1 1) = w10 at *
      have FA10 := hid ((Fr.refl (S := E0) (w := w10)).alloc (.cells #[.int .i64 x.s, .int .i64 x.g, .int .i64 x.c, .int .i64 0, .bool true, .int .i64 0] 39))
      have RW11 := hid (rowNew w10 w F10.out.size [⟨x.s, x.g, x.c, 0, true, 0⟩] (show 1 ≤ maxLen by decide) #[.int .i64 x.s, .int .i64 x.g, .int .i64 x.c, .int .i64 0, .bool true, .int .i64 0] rfl)
      rw [S10.out] at RW11
      have XW11 := hid (FA10.out.heapAt XW10.out (fun x => x))
      have V11 := hid (V10.out.fr FA10.out (fun _ _ x => x))
      have O11 := hid (O10.out.fr FA10.out (fun _ _ x => x))
      have F11 := hid (F10.out.trans FA10.out)
      have T11 := hid (FA10.out.heapAt T10.out (fun x => x))
      have hgb : gb < w10.heap.size := V10.out.lt rfl
      have S11 := hid (show (w10.alloc (.cells #[.int .i64 x.s, .int .i64 x.g, .int .i64 x.c, .int .i64 0, .bool true, .int .i64 0] 39)).heap.size = w10.heap.size + 1 by simp)
      have HGB := hid hgb
      clear hgb q0 q1 q2 q3 u4 v4 d0 d1 d2 d3 x0 x1 x2 x3 x4 u0' u1' u2' u3' u4' b0 b1 b2 b3 b4 z0 z1 z2 z3 z4 f1 hf1 e1 e2
      generalize w10.alloc (.cells #[.int .i64 x.s, .int .i64 x.g, .int .i64 x.c, .int .i64 0, .bool true, .int .i64 0] 39) = w11 at *
      refine (leave2_ok ms2 _ x.s x.g w11 O11.out.rd (by have := HLN.out; omega) (by rw [C2.out]; exact HBG.out)).mono ?_
      rintro e w12 ⟨v12, ms12, rfl, hc12, ho12, hf12⟩
      rw [C2.out] at hc12
      obtain ⟨m5, hk5, hm5⟩ : ∃ m5, ms12[k]? = some m5 ∧ m5.ch = leaveCh x.s x.g ⟨cap, y :: vs, x :: r, rcv, cl⟩ := by
        have h1 : (chs ms12)[k]? = some (leaveCh x.s x.g ⟨cap, y :: vs, x :: r, rcv, cl⟩) := by rw [hc12, leaveL_get, HK.out]; rfl
        unfold chs at h1
        rw [List.getElem?_map] at h1
        obtain ⟨m2, h2, h3⟩ := Option.map_eq_some_iff.1 h1
        exact ⟨m2, h2, h3⟩
      have HO12 := hid ho12
      have O12 := hid (ho12.mono (F' := New w) (fun q hq => Nat.le_trans F11.out.size hq))
      have F12 := hid (F11.out.trans hf12)
      have V12 := hid (show RowF w12 (New W4) 2 1 (.slice (some ⟨gb, 0, none⟩) (vs.length + 1) cp9) (ints (vs ++ [x.v])) by rw [← ints_push]; exact V11.out.fr hf12 (fun _ _ x => x))
      have RW12 := hid (RW11.out.fr hf12 (fun _ _ x => x))
      have XW12 := hid (hf12.heapAt XW11.out (fun x => x))
      have T12 := hid (hf12.heapAt T11.out (fun x => x))
      have C12 := hid hc12
      have HM5 := hid hm5
      have HK5 := hid hk5
      have hlt5 := lt_of_get hk5
      obtain ⟨L5, cp5, ev5, hFL5, hLl5, _, c51, _, _, _, hfz5⟩ := O12.out.at hk5
      subst ev5
      obtain ⟨A5, n5, c5, ev6⟩ := (O12.out.each _ (List.mem_of_getElem? hk5)).vals.shape
      rw [ev6] at c51
      have hf5 := hfz5 (k * 5 + 1)
      have p1 : ¬ L5 = w.heap.size + 1 := ne32 O12.out.row T12.out
      have p2 : ¬ w.heap.size + 1 = L5 := fun e => p1 e.symm
      have p3 : ¬ L5 = w2.heap.size + 1 := ne32 O12.out.row XW12.out
      have p4 : ¬ w2.heap.size + 1 = L5 := fun e => p3 e.symm
      obtain ⟨⟨x0, x1, x2, x3, x4⟩, _⟩ := blk5 XW12.out
      obtain ⟨⟨b0, b1, b2, b3, b4⟩, z0, z1, z2, z3, z4⟩ := blk5 T12.out
      clear hc12 ho12 hf12 hm5 hk5 hfz5 ev6 hlt
      simp only [tup2]
      go_wp2_with fail
      have O13 := hid (OwnCs.putV2 (F' := New w) (v' := .slice (some ⟨gb, 0, none⟩) (vs.length + 1) cp9) (l' := vs ++ [x.v]) O12.out HK5.out (fun _ h => h) (V12.out.mono (F' := New w) (fun q hq => Nat.le_trans (F3.out.trans F24.out).size hq)) (fun g hg q hq hgq => by
        simp [Value.ownBlock] at hg; subst hg
        have h1 := ((HO12.out.each q hq).mem hgq).1
        have h2 := HGB.out
        have h3 := S11.out
        unfold New at h1
        omega))
      have F13 := hid (F12.out.setCell (p := ⟨L5, k * 5 + 1, none⟩) (.slice (some ⟨gb, 0, none⟩) (vs.length + 1) cp9) (.inr hFL5))
      have T13 := hid (show (w12.setCell ⟨L5, k * 5 + 1, none⟩ (.slice (some ⟨gb, 0, none⟩) (vs.length + 1) cp9)).heap[w.heap.size + 1]? = _ from (heap_setCell_other _ _ _ _ p2).trans T12.out)
      have RW13 := hid (by obtain ⟨cu5, hcu5⟩ := O12.out.row.heap (g := L5) rfl; exact RW12.out.off (j := k * 5 + 1) (u := .slice (some ⟨gb, 0, none⟩) (vs.length + 1) cp9) hcu5 (by decide))
      have HCE := hid (show chs (ms12.set k (m5.setV (.slice (some ⟨gb, 0, none⟩) (vs.length + 1) cp9) (vs ++ [x.v]))) = leaveL x.s x.g ((chs ms).set k ⟨cap, vs ++ [x.v], x :: r, rcv, cl⟩) by
        rw [chs_set, C12.out, leaveL_set]; congr 1; simp only [CM.setV, HM5.out, leaveCh])
      go_region
      all_goals
        go_wp2_with fail
        exact fin50 (m := { value := y, ok := true, woken := [⟨x.s, x.g, x.c, 0, true, 0⟩] }) rfl rfl rfl rfl ((Fr.refl (S := E0)).drew.heapAt (set5_heap T13.out _ _ _ _ _) (fun x => x)) ⟨_, _, rfl, .inr ⟨_, HCE.out, (O13.out.set5 T13.out _ _ _ _ _).fr (Fr.refl (S := E0)).drew (fun _ _ x => x)⟩, (RW13.out.off5 T13.out (by decide)).drew, (fr_new5 F13.out (Nat.le_succ _) _ _ _ _ _).drew⟩
end Go.Proofs.Yteffmnohgnmanaa

/- channel.may: whether a channel's state may be. -/
namespace Go.Proofs.Yteffmnohgnmanaa
open Go.RowKit
/-- Whether a channel may be, as plain data. -/
def mayA (c : Ch) : Bool := !(decide (c.cap < 0) || decide (1024 < c.cap) || decide (c.cap < c.vals.length))
def mayB (c : Ch) : Bool := !((decide (0 < c.snd.length) && decide ((c.vals.length : Int) < c.cap)) || (decide (0 < c.rcv.length) && decide (0 < c.vals.length)))
def mayD (c : Ch) : Bool := !(c.cl && decide (0 < c.snd.length + c.rcv.length))
def mayE (c : Ch) : Bool := match c.snd with
  | [] => true
  | x :: _ => match c.rcv with
    | [] => true
    | _ :: _ => !(c.snd.any fun y => !isG x.s x.g y) && !(c.rcv.any fun y => !isG x.s x.g y)
def mayC (c : Ch) : Bool := mayA c && (mayB c && (mayD c && (!(c.rcv.any hasV) && mayE c)))
theorem keepBx {w w' : World} {B : Nat} {a b c d e : Value} (h : w.cell? ⟨B, 0, none⟩ = some a ∧ w.cell? ⟨B, 1, none⟩ = some b ∧ w.cell? ⟨B, 2, none⟩ = some c ∧ w.cell? ⟨B, 3, none⟩ = some d ∧ w.cell? ⟨B, 4, none⟩ = some e) (hf : Fr E0 w w') :
    w'.cell? ⟨B, 0, none⟩ = some a ∧ w'.cell? ⟨B, 1, none⟩ = some b ∧ w'.cell? ⟨B, 2, none⟩ = some c ∧ w'.cell? ⟨B, 3, none⟩ = some d ∧ w'.cell? ⟨B, 4, none⟩ = some e :=
  ⟨hf.cell h.1 (fun x => x), hf.cell h.2.1 (fun x => x), hf.cell h.2.2.1 (fun x => x), hf.cell h.2.2.2.1 (fun x => x), hf.cell h.2.2.2.2 (fun x => x)⟩
def Four (n1 n2 n3 : Nat) (cap : Int) : Prop := ((¬ (0 : Int) < (n2 : Int) ∧ ¬ (0 : Int) < (n3 : Int)) ∨ ((0 : Int) < (n2 : Int) ∧ ¬ (n1 : Int) < cap ∧ ¬ (0 : Int) < (n3 : Int))) ∨ ((¬ (0 : Int) < (n2 : Int) ∧ (0 : Int) < (n3 : Int) ∧ ¬ (0 : Int) < (n1 : Int)) ∨ ((0 : Int) < (n2 : Int) ∧ ¬ (n1 : Int) < cap ∧ (0 : Int) < (n3 : Int) ∧ ¬ (0 : Int) < (n1 : Int)))
theorem four {n1 n2 n3 : Nat} {cap : Int} (b1 : ¬ 0 < n2 ∨ ¬ (n1 : Int) < cap) (b2 : ¬ 0 < n3 ∨ ¬ 0 < n1) : Four n1 n2 n3 cap := by
  unfold Four; omega
set_option maxHeartbeats 4000000 in
theorem may_ok (x : CM) (w : World) (hx : x.Rd w) (hfit : x.ch.Fit) : Calls Try.prog 76 #[x.val] w (Ret (.bool (mayC x.ch)) E0 w) := by
  obtain ⟨ch, vv, sv, rv⟩ := x
  obtain ⟨h1, h2, h3⟩ := hx
  obtain ⟨A1, n1, c1, rfl, hl1, hc1, hm1, hr1⟩ := h1
  obtain ⟨A2, n2, c2, rfl, hl2, hc2, hm2, hr2⟩ := h2
  obtain ⟨A3, n3, c3, rfl, hl3, hc3, hm3, hr3⟩ := h3
  have hm1 := Nat.le_trans hc1 hm1
  have hm2 := Nat.le_trans hc2 hm2
  have hm3 := Nat.le_trans hc3 hm3
  obtain ⟨_, hf2, hf3⟩ := hfit
  simp only at *
  have hl1' : ch.vals.length = n1 := by rw [ints_len] at hl1; omega
  have hl2' : ch.snd.length = n2 := by rw [wts_len] at hl2; omega
  have hl3' : ch.rcv.length = n3 := by rw [wts_len] at hl3; omega
  have hn2 : n2 ≤ 4398046511104 := by omega
  have hn3 : n3 ≤ 4398046511104 := by omega
  have R2 := hid hr2
  have R3 := hid hr3
  clear hl1 hl2 hl3 hc1 hc2 hc3 hf2 hf3 hr1 hr2 hr3
  have HA : mayA ch = !(decide (ch.cap < 0) || decide (1024 < ch.cap) || decide (ch.cap < n1)) := by unfold mayA; rw [hl1']
  have HB : mayB ch = !((decide (0 < n2) && decide ((n1 : Int) < ch.cap)) || (decide (0 < n3) && decide (0 < n1))) := by unfold mayB; rw [hl1', hl2', hl3']
  have HD : mayD ch = !(ch.cl && decide (0 < n2 + n3)) := by unfold mayD; rw [hl2', hl3']
  have HF := hid ((Fr.refl (S := E0) (w := w)).alloc (Obj.cells #[.int .i64 ch.cap, .slice A1 n1 c1, .slice A2 n2 c2, .slice A3 n3 c3, .bool ch.cl] 67))
  have HM : Hid (mayC ch = (mayA ch && (mayB ch && (mayD ch && (!(ch.rcv.any hasV) && mayE ch))))) := rfl
  simp only [CM.val]
  cases hA : mayA ch with
  | false =>
    rw [hA] at HM HA
    rw [HM.out, Bool.false_and]
    have HAA := HA.symm
    simp only [Bool.not_eq_false', Bool.or_eq_true, decide_eq_true_eq] at HAA
    clear HB HD HA
    go_enter Try.func76, Try.ntmps76
    rcases HAA with (h | h) | h
    · go_wp2_with fail
      go_ret
      exact ⟨rfl, Fr.refl.alloc _⟩
    · go_wp2_with fail
      all_goals go_ret
      all_goals exact ⟨rfl, Fr.refl.alloc _⟩
    · go_wp2_with fail
      all_goals go_ret
      all_goals exact ⟨rfl, Fr.refl.alloc _⟩
  | true =>
    rw [hA] at HM HA
    have HAA := HA.symm
    simp only [Bool.not_eq_true', Bool.or_eq_false_iff, decide_eq_false_iff_not] at HAA
    obtain ⟨⟨q1, q2⟩, q3⟩ := HAA
    clear HA
    cases hB : mayB ch with
    | false =>
      rw [hB] at HM HB
      rw [HM.out, Bool.true_and, Bool.false_and]
      have HBB := HB.symm
      simp only [Bool.not_eq_false', Bool.or_eq_true, Bool.and_eq_true, decide_eq_true_eq] at HBB
      clear HD HB
      go_enter Try.func76, Try.ntmps76
      rcases HBB with ⟨b1, b2⟩ | ⟨b1, b2⟩
      · have b1' : (0 : Int) < (n2 : Int) := by omega
        go_wp2_with fail
        all_goals go_ret
        all_goals exact ⟨rfl, Fr.refl.alloc _⟩
      · have b1' : (0 : Int) < (n3 : Int) := by omega
        have b2' : (0 : Int) < (n1 : Int) := by omega
        go_wp2_with fail
        all_goals go_ret
        all_goals exact ⟨rfl, Fr.refl.alloc _⟩
    | true =>
      rw [hB] at HM HB
      have HBB := HB.symm
      simp only [Bool.not_eq_true', Bool.or_eq_false_iff, Bool.and_eq_false_iff, decide_eq_false_iff_not] at HBB
      obtain ⟨b1, b2⟩ := HBB
      clear HB
      have hsum : wrap64 ((n2 : Int) + (n3 : Int)) = (n2 : Int) + (n3 : Int) := IntWalk.wrap64_in _ (by omega)
      have F4 := hid (four b1 b2)
      have L2 := hid hl2'
      have L3 := hid hl3'
      clear b1 b2 hl1' hl2' hl3'
      cases hD : mayD ch with
      | false =>
        rw [hD] at HM HD
        rw [HM.out, Bool.true_and, Bool.true_and, Bool.false_and]
        have HDD := HD.symm
        simp only [Bool.not_eq_false', Bool.and_eq_true, decide_eq_true_eq] at HDD
        obtain ⟨d1, d2⟩ := HDD
        have d2' : (0 : Int) < (n2 : Int) + (n3 : Int) := by omega
        clear HD d2
        go_enter Try.func76, Try.ntmps76
        rcases F4.out with (⟨f1, f2⟩ | ⟨f1, f2, f3⟩) | (⟨f1, f2, f3⟩ | ⟨f1, f2, f3, f4⟩)
        · exact absurd d2' (by omega)
        · go_wp2_with fail
          all_goals (go_ret; exact ⟨rfl, Fr.refl.alloc _⟩)
        · go_wp2_with fail
          all_goals (go_ret; exact ⟨rfl, Fr.refl.alloc _⟩)
        · go_wp2_with fail
          all_goals (go_ret; exact ⟨rfl, Fr.refl.alloc _⟩)
      | true =>
        rw [hD] at HM HD
        rw [HM.out, Bool.true_and, Bool.true_and, Bool.true_and]
        have HDD := HD.symm
        simp only [Bool.not_eq_true', Bool.and_eq_false_iff, decide_eq_false_iff_not] at HDD
        clear HD HM
        cases hcl : ch.cl with
        | true =>
          have hz : ¬ (0 : Int) < (n2 : Int) + (n3 : Int) := by rw [hcl] at HDD; rcases HDD with h | h; exact absurd h (by decide); omega
          have f1 : ¬ (0 : Int) < (n2 : Int) := by omega
          have f2 : ¬ (0 : Int) < (n3 : Int) := by omega
          have hme : mayE ch = true := by
            have : ch.snd = [] := List.eq_nil_of_length_eq_zero (by have := L2.out; omega)
            unfold mayE; rw [this]
          have hrn : ch.rcv = [] := List.eq_nil_of_length_eq_zero (by have := L3.out; omega)
          have HE : Hid (ch.rcv.any hasV = false) := by rw [hrn]; rfl
          have q5 : ((n2 : Int) == 0) = true := by simp; omega
          rw [hme, HE.out, Bool.and_true, Bool.not_false]
          clear HDD hcl
          go_enter Try.func76, Try.ntmps76
          go_wp2_with fail
          refine (containsW A3 n3 c3 89 #[] hasV ch.rcv _ L3.out hm3 predHasV (R3.out.fr (Fr.refl.alloc _))).mono ?_
          rintro e w1 ⟨rfl, hf1⟩
          rw [HE.out]
          have K := keepBx (w := w.alloc _) (B := w.heap.size) ⟨by rw [World.cell?_alloc_at _ _ _ _ rfl]; rfl, by rw [World.cell?_alloc_at _ _ _ _ rfl]; rfl, by rw [World.cell?_alloc_at _ _ _ _ rfl]; rfl, by rw [World.cell?_alloc_at _ _ _ _ rfl]; rfl, by rw [World.cell?_alloc_at _ _ _ _ rfl]; rfl⟩ hf1
          obtain ⟨k0, k1, k2, k3, k4⟩ := K
          have F1 := hid ((Fr.refl.alloc _).trans hf1)
          clear hf1
          go_wp2_with fail
          all_goals (go_ret; exact ⟨rfl, F1.out⟩)
        | false =>
          clear HDD
          have HCL := hid hcl
          clear hcl
          rcases F4.out with (⟨f1, f2⟩ | ⟨f1, f2, f3⟩) | (⟨f1, f2, f3⟩ | ⟨f1, f2, f3, f4⟩)
          · have hme : mayE ch = true := by
              have : ch.snd = [] := List.eq_nil_of_length_eq_zero (by have := L2.out; omega)
              unfold mayE; rw [this]
            have q5 : ((n2 : Int) == 0) = true := by simp; omega
            rw [hme, Bool.and_true]
            clear hme
            cases hE : ch.rcv.any hasV with
            | true =>
              have HE := hid hE
              clear hE
              rw [Bool.not_true]
              go_enter Try.func76, Try.ntmps76
              go_wp2_with fail
              refine (containsW A3 n3 c3 89 #[] hasV ch.rcv _ L3.out hm3 predHasV (R3.out.fr (Fr.refl.alloc _))).mono ?_
              rintro e w1 ⟨rfl, hf1⟩
              rw [HE.out]
              have K := keepBx (w := w.alloc _) (B := w.heap.size) ⟨by rw [World.cell?_alloc_at _ _ _ _ rfl]; rfl, by rw [World.cell?_alloc_at _ _ _ _ rfl]; rfl, by rw [World.cell?_alloc_at _ _ _ _ rfl]; rfl, by rw [World.cell?_alloc_at _ _ _ _ rfl]; rfl, by rw [World.cell?_alloc_at _ _ _ _ rfl]; rfl⟩ hf1
              obtain ⟨k0, k1, k2, k3, k4⟩ := K
              have F1 := hid ((Fr.refl.alloc _).trans hf1)
              clear hf1
              go_wp2_with fail
              all_goals (go_ret; exact ⟨rfl, F1.out⟩)
            | false =>
              have HE := hid hE
              clear hE
              rw [Bool.not_false]
              go_enter Try.func76, Try.ntmps76
              go_wp2_with fail
              refine (containsW A3 n3 c3 89 #[] hasV ch.rcv _ L3.out hm3 predHasV (R3.out.fr (Fr.refl.alloc _))).mono ?_
              rintro e w1 ⟨rfl, hf1⟩
              rw [HE.out]
              have K := keepBx (w := w.alloc _) (B := w.heap.size) ⟨by rw [World.cell?_alloc_at _ _ _ _ rfl]; rfl, by rw [World.cell?_alloc_at _ _ _ _ rfl]; rfl, by rw [World.cell?_alloc_at _ _ _ _ rfl]; rfl, by rw [World.cell?_alloc_at _ _ _ _ rfl]; rfl, by rw [World.cell?_alloc_at _ _ _ _ rfl]; rfl⟩ hf1
              obtain ⟨k0, k1, k2, k3, k4⟩ := K
              have F1 := hid ((Fr.refl.alloc _).trans hf1)
              clear hf1
              go_wp2_with fail
              all_goals (go_ret; exact ⟨rfl, F1.out⟩)
          · have hme : mayE ch = true := by
              have : ch.rcv = [] := List.eq_nil_of_length_eq_zero (by have := L3.out; omega)
              unfold mayE; rw [this]; cases ch.snd <;> rfl
            have q5 : ((n2 : Int) == 0) = false := by simp; omega
            have q6 : ((n3 : Int) == 0) = true := by simp; omega
            rw [hme, Bool.and_true]
            clear hme
            cases hE : ch.rcv.any hasV with
            | true =>
              have HE := hid hE
              clear hE
              rw [Bool.not_true]
              go_enter Try.func76, Try.ntmps76
              go_wp2_with fail
              refine (containsW A3 n3 c3 89 #[] hasV ch.rcv _ L3.out hm3 predHasV (R3.out.fr (Fr.refl.alloc _))).mono ?_
              rintro e w1 ⟨rfl, hf1⟩
              rw [HE.out]
              have K := keepBx (w := w.alloc _) (B := w.heap.size) ⟨by rw [World.cell?_alloc_at _ _ _ _ rfl]; rfl, by rw [World.cell?_alloc_at _ _ _ _ rfl]; rfl, by rw [World.cell?_alloc_at _ _ _ _ rfl]; rfl, by rw [World.cell?_alloc_at _ _ _ _ rfl]; rfl, by rw [World.cell?_alloc_at _ _ _ _ rfl]; rfl⟩ hf1
              obtain ⟨k0, k1, k2, k3, k4⟩ := K
              have F1 := hid ((Fr.refl.alloc _).trans hf1)
              clear hf1
              go_wp2_with fail
              all_goals (go_ret; exact ⟨rfl, F1.out⟩)
            | false =>
              have HE := hid hE
              clear hE
              rw [Bool.not_false]
              go_enter Try.func76, Try.ntmps76
              go_wp2_with fail
              refine (containsW A3 n3 c3 89 #[] hasV ch.rcv _ L3.out hm3 predHasV (R3.out.fr (Fr.refl.alloc _))).mono ?_
              rintro e w1 ⟨rfl, hf1⟩
              rw [HE.out]
              have K := keepBx (w := w.alloc _) (B := w.heap.size) ⟨by rw [World.cell?_alloc_at _ _ _ _ rfl]; rfl, by rw [World.cell?_alloc_at _ _ _ _ rfl]; rfl, by rw [World.cell?_alloc_at _ _ _ _ rfl]; rfl, by rw [World.cell?_alloc_at _ _ _ _ rfl]; rfl, by rw [World.cell?_alloc_at _ _ _ _ rfl]; rfl⟩ hf1
              obtain ⟨k0, k1, k2, k3, k4⟩ := K
              have F1 := hid ((Fr.refl.alloc _).trans hf1)
              clear hf1
              go_wp2_with fail
              all_goals (go_ret; exact ⟨rfl, F1.out⟩)
          · have hme : mayE ch = true := by
              have : ch.snd = [] := List.eq_nil_of_length_eq_zero (by have := L2.out; omega)
              unfold mayE; rw [this]
            have q5 : ((n2 : Int) == 0) = true := by simp; omega
            rw [hme, Bool.and_true]
            clear hme
            cases hE : ch.rcv.any hasV with
            | true =>
              have HE := hid hE
              clear hE
              rw [Bool.not_true]
              go_enter Try.func76, Try.ntmps76
              go_wp2_with fail
              refine (containsW A3 n3 c3 89 #[] hasV ch.rcv _ L3.out hm3 predHasV (R3.out.fr (Fr.refl.alloc _))).mono ?_
              rintro e w1 ⟨rfl, hf1⟩
              rw [HE.out]
              have K := keepBx (w := w.alloc _) (B := w.heap.size) ⟨by rw [World.cell?_alloc_at _ _ _ _ rfl]; rfl, by rw [World.cell?_alloc_at _ _ _ _ rfl]; rfl, by rw [World.cell?_alloc_at _ _ _ _ rfl]; rfl, by rw [World.cell?_alloc_at _ _ _ _ rfl]; rfl, by rw [World.cell?_alloc_at _ _ _ _ rfl]; rfl⟩ hf1
              obtain ⟨k0, k1, k2, k3, k4⟩ := K
              have F1 := hid ((Fr.refl.alloc _).trans hf1)
              clear hf1
              go_wp2_with fail
              all_goals (go_ret; exact ⟨rfl, F1.out⟩)
            | false =>
              have HE := hid hE
              clear hE
              rw [Bool.not_false]
              go_enter Try.func76, Try.ntmps76
              go_wp2_with fail
              refine (containsW A3 n3 c3 89 #[] hasV ch.rcv _ L3.out hm3 predHasV (R3.out.fr (Fr.refl.alloc _))).mono ?_
              rintro e w1 ⟨rfl, hf1⟩
              rw [HE.out]
              have K := keepBx (w := w.alloc _) (B := w.heap.size) ⟨by rw [World.cell?_alloc_at _ _ _ _ rfl]; rfl, by rw [World.cell?_alloc_at _ _ _ _ rfl]; rfl, by rw [World.cell?_alloc_at _ _ _ _ rfl]; rfl, by rw [World.cell?_alloc_at _ _ _ _ rfl]; rfl, by rw [World.cell?_alloc_at _ _ _ _ rfl]; rfl⟩ hf1
              obtain ⟨k0, k1, k2, k3, k4⟩ := K
              have F1 := hid ((Fr.refl.alloc _).trans hf1)
              clear hf1
              go_wp2_with fail
              all_goals (go_ret; exact ⟨rfl, F1.out⟩)
          · have q5 : ((n2 : Int) == 0) = false := by simp; omega
            have q6 : ((n3 : Int) == 0) = false := by simp; omega
            cases hE : ch.rcv.any hasV with
            | true =>
              have HE := hid hE
              clear hE
              rw [Bool.not_true, Bool.false_and]
              go_enter Try.func76, Try.ntmps76
              go_wp2_with fail
              refine (containsW A3 n3 c3 89 #[] hasV ch.rcv _ L3.out hm3 predHasV (R3.out.fr (Fr.refl.alloc _))).mono ?_
              rintro e w1 ⟨rfl, hf1⟩
              rw [HE.out]
              have K := keepBx (w := w.alloc _) (B := w.heap.size) ⟨by rw [World.cell?_alloc_at _ _ _ _ rfl]; rfl, by rw [World.cell?_alloc_at _ _ _ _ rfl]; rfl, by rw [World.cell?_alloc_at _ _ _ _ rfl]; rfl, by rw [World.cell?_alloc_at _ _ _ _ rfl]; rfl, by rw [World.cell?_alloc_at _ _ _ _ rfl]; rfl⟩ hf1
              obtain ⟨k0, k1, k2, k3, k4⟩ := K
              have F1 := hid ((Fr.refl.alloc _).trans hf1)
              clear hf1
              go_wp2_with fail
              all_goals (go_ret; exact ⟨rfl, F1.out⟩)
            | false =>
              have HE := hid hE
              clear hE
              rw [Bool.not_false, Bool.true_and]
              obtain ⟨x, xs, hx⟩ : ∃ x xs, ch.snd = x :: xs := by
                have := L2.out
                cases hh : ch.snd with
                | nil => rw [hh] at this; simp at this; omega
                | cons x xs => exact ⟨x, xs, rfl⟩
              have hme : mayE ch = (!(ch.snd.any fun y => !isG x.s x.g y) && !(ch.rcv.any fun y => !isG x.s x.g y)) := by
                have := L3.out
                cases hh : ch.rcv with
                | nil => rw [hh] at this; simp at this; omega
                | cons y ys => unfold mayE; rw [hx, hh]
              have hx0 : ch.snd[0]? = some x := by rw [hx]; rfl
              rw [hme]
              have HX := hid hx0
              clear hme hx hx0
              go_enter Try.func76, Try.ntmps76
              go_wp2_with fail
              refine (containsW A3 n3 c3 89 #[] hasV ch.rcv _ L3.out hm3 predHasV (R3.out.fr (Fr.refl.alloc _))).mono ?_
              rintro e w1 ⟨rfl, hf1⟩
              rw [HE.out]
              have K := keepBx (w := w.alloc _) (B := w.heap.size) ⟨by rw [World.cell?_alloc_at _ _ _ _ rfl]; rfl, by rw [World.cell?_alloc_at _ _ _ _ rfl]; rfl, by rw [World.cell?_alloc_at _ _ _ _ rfl]; rfl, by rw [World.cell?_alloc_at _ _ _ _ rfl]; rfl, by rw [World.cell?_alloc_at _ _ _ _ rfl]; rfl⟩ hf1
              obtain ⟨k0, k1, k2, k3, k4⟩ := K
              have F1 := hid ((Fr.refl.alloc _).trans hf1)
              clear hf1
              obtain ⟨b, o, hA2, hr⟩ := R2.out.wtAt HX.out
              obtain ⟨g0, g1, g2, g3⟩ := (hr.fr F1.out (fun x => x)).wt HX.out
              simp only [Nat.zero_mul, Nat.add_zero] at g0 g1 g2 g3
              subst hA2
              clear hr
              have hlt1 : w.heap.size < w1.heap.size := World.block_lt_of_cell? w1 _ k3
              go_wp2_with fail
              have B0 := hid (show BoxG w1.heap.size x.s x.g (w1.alloc (.cells #[.int .i64 x.s, .int .i64 x.g] 37)) from ⟨by rw [World.cell?_alloc_at _ _ _ _ rfl]; rfl, by rw [World.cell?_alloc_at _ _ _ _ rfl]; rfl⟩)
              refine (containsW _ n2 c2 90 _ (fun y => !isG x.s x.g y) ch.snd _ L2.out hm2 (predOther (S := E0) B0.out (fun x => x)) (R2.out.fr (F1.out.alloc _))).mono ?_
              rintro e w2 ⟨rfl, hf2⟩
              have k30 : w2.cell? ⟨w.heap.size, 3, none⟩ = some (.slice A3 n3 c3) := hf2.cell (by rw [World.cell?_alloc_past _ _ _ (by exact World.block_lt_of_cell? w1 _ k3)]; exact k3) (fun x => x)
              have BX := hid (show BoxG w1.heap.size x.s x.g w2 from B0.out.fr hf2 (fun x => x))
              have hlt2 : w.heap.size < w2.heap.size := World.block_lt_of_cell? w2 _ k30
              have F2 := hid ((F1.out.alloc _).trans hf2)
              clear hf2 k0 k1 k2 k3 k4 g0 g1 g2 g3
              cases hs : (ch.snd.any fun y => !isG x.s x.g y) with
              | true =>
                have HS := hid hs
                clear hs
                go_wp2_with fail
                all_goals (go_ret; exact ⟨by rw [HS.out]; rfl, F2.out⟩)
              | false =>
                have HS := hid hs
                clear hs
                go_wp2_with fail
                refine (containsW A3 n3 c3 90 _ (fun y => !isG x.s x.g y) ch.rcv _ L3.out hm3 (predOther (S := E0) BX.out (fun x => x)) (R3.out.fr F2.out)).mono ?_
                rintro e w3 ⟨rfl, hf3⟩
                have F3 := hid (F2.out.trans hf3)
                clear hf3
                go_wp2_with fail
                all_goals (go_ret; exact ⟨by rw [HS.out]; rfl, F3.out⟩)
end Go.Proofs.Yteffmnohgnmanaa
/- rotaref11: alone, may. -/
namespace Go.Proofs.Yteffmnohgnmanaa
open Go.RowKit
set_option linter.unusedVariables false
/-- Are all of one goroutine? -/
def allG (gs gg : Int) (l : List Wt) : Bool := l.all (isG gs gg)
theorem allG_step {gs gg : Int} {l : List Wt} {k : Nat} {x : Wt} (hx : l[k]? = some x) (h : allG gs gg (l.take k) = true) (hg : isG gs gg x = true) : allG gs gg (l.take (k + 1)) = true := by
  rw [List.take_add_one, hx]; simp [allG] at h ⊢; exact ⟨h, hg⟩
theorem allG_no {gs gg : Int} {l : List Wt} {k : Nat} {x : Wt} (hx : l[k]? = some x) (hg : isG gs gg x = false) : allG gs gg l = false := by
  unfold allG; rw [List.all_eq_false]; exact ⟨x, List.mem_of_getElem? hx, by simp [hg]⟩
theorem any_not_all (gs gg : Int) (l : List Wt) : (l.any fun y => !isG gs gg y) = !allG gs gg l := by
  unfold allG; induction l with
  | nil => rfl
  | cons x r ih => simp [ih]
theorem mayE_eq {c : Ch} {y z : Wt} (hy : c.snd[0]? = some y) (hz : c.rcv[0]? = some z) : mayE c = (allG y.s y.g c.snd && allG y.s y.g c.rcv) := by
  unfold mayE
  cases hs : c.snd with
  | nil => rw [hs] at hy; simp at hy
  | cons a r =>
    cases hr : c.rcv with
    | nil => rw [hr] at hz; simp at hz
    | cons b t =>
      rw [hs] at hy; simp at hy; subst hy
      simp only [any_not_all, Bool.not_not]
set_option maxRecDepth 8000 in
set_option maxHeartbeats 4000000 in
theorem alone_ok (x : CM) (w : World) (hx : x.Rd w) (h2 : x.ch.snd.length ≤ 4194305) (h3 : x.ch.rcv.length ≤ 4194305) : Calls Try.prog 91 #[x.val] w (Ret (.bool (mayE x.ch)) E0 w) := by
  obtain ⟨⟨cap, vals, snd, rcv, cl⟩, vv, sv, rv⟩ := x
  obtain ⟨⟨VA, vn, vc, e1, _⟩, ⟨SA, sn, sc, e2, hsl, _, _, hsr⟩, ⟨TA, tn, tc, e3, htl, _, _, htr⟩⟩ := hx
  simp only at *
  subst e1 e2 e3
  obtain rfl : snd.length = sn := by rw [wts_len] at hsl; omega
  obtain rfl : rcv.length = tn := by rw [wts_len] at htl; omega
  have HS := hid hsr
  have HT := hid htr
  clear hsl hsr htl htr
  simp only [CM.val]
  obtain ⟨N, hN⟩ : ∃ N, N = snd.length := ⟨_, rfl⟩
  obtain ⟨M, hM⟩ : ∃ M, M = rcv.length := ⟨_, rfl⟩
  rw [← hN] at h2 ⊢
  rw [← hM] at h3 ⊢
  have HN := hid hN
  have HM := hid hM
  by_cases hs0 : 0 < N
  · by_cases ht0 : 0 < M
    · obtain ⟨y, hy⟩ : ∃ y, snd[0]? = some y := ⟨snd[0]'(by omega), List.getElem?_eq_getElem _⟩
      obtain ⟨z, hz⟩ : ∃ z, rcv[0]? = some z := ⟨rcv[0]'(by omega), List.getElem?_eq_getElem _⟩
      rw [mayE_eq (c := ⟨cap, vals, snd, rcv, cl⟩) hy hz]
      simp only
      obtain ⟨b, o, rfl, r⟩ := HS.out.wtAt hy
      have RS := hid r
      obtain ⟨c0, c1, c2, c3⟩ := r.wt hy
      simp only [Nat.zero_mul, Nat.add_zero] at c0 c1 c2 c3
      have HY := hid hy
      have hbl : b < w.heap.size := World.block_lt_of_cell? w _ c0
      have z1 : ((N : Int) == 0) = false := by simp; omega
      have z2 : ((M : Int) == 0) = false := by simp; omega
      clear r hy hz c2 c3 hN hM
      go_enter Try.func91, Try.ntmps91
      go_wp2_with fail
      have GB := hid (heap_alloc2_old w (.cells #[.int .i64 cap, .slice VA vn vc, .slice (some ⟨b, o, none⟩) N sc, .slice TA M tc, .bool cl] 67) (.cells #[.int .i64 y.s, .int .i64 y.g] 37))
      have GG := hid (heap_alloc2_new w (.cells #[.int .i64 cap, .slice VA vn vc, .slice (some ⟨b, o, none⟩) N sc, .slice TA M tc, .bool cl] 67) (.cells #[.int .i64 y.s, .int .i64 y.g] 37))
      have FW := hid (((Fr.refl (S := E0) (w := w)).alloc (.cells #[.int .i64 cap, .slice VA vn vc, .slice (some ⟨b, o, none⟩) N sc, .slice TA M tc, .bool cl] 67)).alloc (.cells #[.int .i64 y.s, .int .i64 y.g] 37))
      generalize ((w.alloc _).alloc _) = W at *
      clear c0 c1 z1 z2
      go_loopw [4] (fun i wr => ∃ k : Nat, i = .int .i64 k ∧ k ≤ N ∧ allG y.s y.g (snd.take k) = true ∧ Fr E0 W wr) (fun i _ => N - (intOf i).toNat)
      case atStart => exact ⟨0, rfl, Nat.zero_le _, rfl, Fr.refl⟩
      case round =>
        obtain ⟨k, rfl, hk, hall, hf⟩ := hrel
        have HA := hid hall
        have HF := hid hf
        obtain ⟨⟨_, _, a2, _, _⟩, _⟩ := blk5 (hf.heapAt GB.out (fun x => x))
        have g0 := cell_of_row wr _ 0 _ _ _ (hf.heapAt GG.out (fun x => x))
        have g1 := cell_of_row wr _ 1 _ _ _ (hf.heapAt GG.out (fun x => x))
        clear hall hf
        by_cases hlt : k < N
        · obtain ⟨x, hx⟩ : ∃ x, snd[k]? = some x := ⟨snd[k]'(by have := HN.out; omega), List.getElem?_eq_getElem _⟩
          obtain ⟨d0, d1, d2, d3⟩ := (RS.out.fr (FW.out.trans HF.out) (fun x => x)).wt hx
          have HX := hid hx
          clear hx d2 d3
          cases hi : isG y.s y.g x with
          | true =>
            have HI := hid hi
            have he : x.s = y.s ∧ x.g = y.g := by unfold isG at hi; simpa using hi
            obtain ⟨e1, e2⟩ := he
            rw [e1] at d0
            rw [e2] at d1
            clear hi e1 e2
            go_wp2_with (go_quiet (fail))
            all_goals
              go_roundw
              case rel => exact ⟨k + 1, by simp, by omega, allG_step HX.out HA.out HI.out, HF.out.drewN nq⟩
              case measure => simp [intOf]; omega
          | false =>
            have HI := hid (allG_no HX.out hi)
            have he : (¬ x.s = y.s) ∨ (x.s = y.s ∧ ¬ x.g = y.g) := by unfold isG at hi; simp at hi; omega
            clear hi
            rcases he with h1 | ⟨h1, h2⟩
            all_goals
              first
                | (have z1 : ((x.s == y.s) : Bool) = false := by simpa using h1)
                | (have z1 : ((x.s == y.s) : Bool) = true := by simpa using h1
                   have z2 : ((x.g == y.g) : Bool) = false := by simpa using h2
                   clear h1)
              go_wp2_with (go_quiet (fail))
              all_goals
                go_ret
                exact ⟨by rw [HI.out]; rfl, (FW.out.trans HF.out).drewN _⟩
        · obtain rfl : k = N := by omega
          have HA1 := hid (show allG y.s y.g snd = true by have := HA.out; rwa [HN.out, List.take_length] at this)
          clear hlt hk HA
          go_wp2_with fail
          go_loopw [5] (fun i wx => ∃ k : Nat, i = .int .i64 k ∧ k ≤ M ∧ allG y.s y.g (rcv.take k) = true ∧ Fr E0 W wx) (fun i _ => M - (intOf i).toNat)
          case atStart => exact ⟨0, rfl, Nat.zero_le _, rfl, HF.out⟩
          case round =>
            obtain ⟨q, rfl, hq, hall, hf⟩ := hrel
            have HB := hid hall
            have HG := hid hf
            clear a2 g0 g1
            obtain ⟨⟨_, _, _, a3, _⟩, _⟩ := blk5 (hf.heapAt GB.out (fun x => x))
            have g0 := cell_of_row wr _ 0 _ _ _ (hf.heapAt GG.out (fun x => x))
            have g1 := cell_of_row wr _ 1 _ _ _ (hf.heapAt GG.out (fun x => x))
            clear hall hf
            by_cases hlt : q < M
            · obtain ⟨x, hx⟩ : ∃ x, rcv[q]? = some x := ⟨rcv[q]'(by have := HM.out; omega), List.getElem?_eq_getElem _⟩
              obtain ⟨b3, o3, rfl, r3⟩ := HT.out.wtAt hx
              obtain ⟨d0, d1, d2, d3⟩ := (r3.fr (FW.out.trans HG.out) (fun x => x)).wt hx
              have HX := hid hx
              clear hx d2 d3 r3
              cases hi : isG y.s y.g x with
              | true =>
                have HI := hid hi
                have he : x.s = y.s ∧ x.g = y.g := by unfold isG at hi; simpa using hi
                obtain ⟨e1, e2⟩ := he
                rw [e1] at d0
                rw [e2] at d1
                clear hi e1 e2
                go_wp2_with (go_quiet (fail))
                all_goals
                  go_roundw
                  case rel => exact ⟨q + 1, by simp, by omega, allG_step HX.out HB.out HI.out, HG.out.drewN nq⟩
                  case measure => simp [intOf]; omega
              | false =>
                have HI := hid (allG_no HX.out hi)
                have he : (¬ x.s = y.s) ∨ (x.s = y.s ∧ ¬ x.g = y.g) := by unfold isG at hi; simp at hi; omega
                clear hi
                rcases he with h1 | ⟨h1, h2⟩
                all_goals
                  first
                    | (have z1 : ((x.s == y.s) : Bool) = false := by simpa using h1)
                    | (have z1 : ((x.s == y.s) : Bool) = true := by simpa using h1
                       have z2 : ((x.g == y.g) : Bool) = false := by simpa using h2
                       clear h1)
                  go_wp2_with (go_quiet (fail))
                  all_goals
                    go_ret
                    exact ⟨by rw [HA1.out, HI.out]; rfl, (FW.out.trans HG.out).drewN _⟩
            · obtain rfl : q = M := by omega
              have HB1 := hid (show allG y.s y.g rcv = true by have := HB.out; rwa [HM.out, List.take_length] at this)
              clear hlt hq
              go_wp2_with fail
              go_ret
              exact ⟨by rw [HA1.out, HB1.out]; rfl, FW.out.trans HG.out⟩
    · obtain rfl : M = 0 := by omega
      have hr : rcv = [] := List.eq_nil_of_length_eq_zero hM.symm
      have HE : Hid (mayE ⟨cap, vals, snd, rcv, cl⟩ = true) := hid (by subst hr; unfold mayE; cases snd <;> rfl)
      rw [HE.out]
      have z1 : ((N : Int) == 0) = false := by simp; omega
      clear hN hM hr
      go_enter Try.func91, Try.ntmps91
      go_wp2_with fail
      go_ret
      exact ⟨rfl, Fr.refl.alloc _⟩
  · obtain rfl : N = 0 := by omega
    have hr : snd = [] := List.eq_nil_of_length_eq_zero hN.symm
    have HE : Hid (mayE ⟨cap, vals, snd, rcv, cl⟩ = true) := hid (by subst hr; rfl)
    rw [HE.out]
    clear hN hM hr
    go_enter Try.func91, Try.ntmps91
    go_wp2_with fail
    go_ret
    exact ⟨rfl, Fr.refl.alloc _⟩
theorem hasV_step {l : List Wt} {k : Nat} {x : Wt} (hx : l[k]? = some x) (h : (l.take k).any hasV = false) (hg : x.v = 0) : (l.take (k + 1)).any hasV = false := by
  rw [List.take_add_one, hx, List.any_append, h]; simp [hasV, hg]
theorem hasV_yes {l : List Wt} {k : Nat} {x : Wt} (hx : l[k]? = some x) (hg : ¬ x.v = 0) : l.any hasV = true := by
  rw [List.any_eq_true]; exact ⟨x, List.mem_of_getElem? hx, by simp [hasV, hg]⟩
theorem alone_agg (cap : Int) (vals : List Int) (snd rcv : List Wt) (cl : Bool) (A1 A2 A3 : Option Addr) (n1 c1 n2 c2 n3 c3 : Nat) (w : World) (h : CM.Rd w ⟨⟨cap, vals, snd, rcv, cl⟩, .slice A1 n1 c1, .slice A2 n2 c2, .slice A3 n3 c3⟩) (h2 : snd.length ≤ 4194305) (h3 : rcv.length ≤ 4194305) :
    Calls Try.prog 91 #[.agg #[.int .i64 cap, .slice A1 n1 c1, .slice A2 n2 c2, .slice A3 n3 c3, .bool cl]] w (Ret (.bool (mayE ⟨cap, vals, snd, rcv, cl⟩)) E0 w) := alone_ok _ w h h2 h3
set_option maxRecDepth 8000 in
set_option maxHeartbeats 8000000 in
theorem may2_ok (x : CM) (w : World) (hx : x.Rd w) (hb1 : x.ch.vals.length ≤ 4194305) (hb2 : x.ch.snd.length ≤ 4194305) (hb3 : x.ch.rcv.length ≤ 4194305) : Calls Try.prog 77 #[x.val] w (Ret (.bool (mayC x.ch)) E0 w) := by
  have HX := hid hx
  obtain ⟨⟨cap, vals, snd, rcv, cl⟩, vv, sv, rv⟩ := x
  obtain ⟨⟨A1, n1, c1, e1, hl1, _, _, _⟩, ⟨A2, n2, c2, e2, hl2, _, _, _⟩, ⟨A3, n3, c3, e3, hl3, _, _, hr3⟩⟩ := hx
  simp only at *
  subst e1 e2 e3
  have hl1' : vals.length = n1 := by rw [ints_len] at hl1; omega
  have hl2' : snd.length = n2 := by rw [wts_len] at hl2; omega
  have hl3' : rcv.length = n3 := by rw [wts_len] at hl3; omega
  have H2 := hid hb2
  have H3 := hid hb3
  rw [hl1'] at hb1
  rw [hl2'] at hb2
  rw [hl3'] at hb3
  have HA : mayA ⟨cap, vals, snd, rcv, cl⟩ = !(decide (cap < 0) || decide (1024 < cap) || decide (cap < n1)) := by unfold mayA; simp only [hl1']
  have HB : mayB ⟨cap, vals, snd, rcv, cl⟩ = !((decide (0 < n2) && decide ((n1 : Int) < cap)) || (decide (0 < n3) && decide (0 < n1))) := by unfold mayB; simp only [hl1', hl2', hl3']
  have HD : mayD ⟨cap, vals, snd, rcv, cl⟩ = !(cl && decide (0 < n2 + n3)) := by unfold mayD; simp only [hl2', hl3']
  have HM : Hid (mayC ⟨cap, vals, snd, rcv, cl⟩ = (mayA ⟨cap, vals, snd, rcv, cl⟩ && (mayB ⟨cap, vals, snd, rcv, cl⟩ && (mayD ⟨cap, vals, snd, rcv, cl⟩ && (!(rcv.any hasV) && mayE ⟨cap, vals, snd, rcv, cl⟩))))) := hid rfl
  have R3 := hid hr3
  have L3 := hid hl3'
  clear hl1 hl2 hl3 hr3 hl1' hl2' hl3'
  simp only [CM.val]
  cases hA : mayA ⟨cap, vals, snd, rcv, cl⟩ with
  | false =>
    rw [hA] at HM HA
    rw [HM.out, Bool.false_and]
    have HAA := HA.symm
    simp only [Bool.not_eq_false', Bool.or_eq_true, decide_eq_true_eq] at HAA
    clear HB HD HA hA
    go_enter Try.func77, Try.ntmps77
    rcases HAA with (h | h) | h
    · go_wp2_with fail
      all_goals (go_ret; exact ⟨rfl, Fr.refl.alloc _⟩)
    · go_wp2_with fail
      all_goals (go_ret; exact ⟨rfl, Fr.refl.alloc _⟩)
    · go_wp2_with fail
      all_goals (go_ret; exact ⟨rfl, Fr.refl.alloc _⟩)
  | true =>
    rw [hA] at HM HA
    have HAA := HA.symm
    simp only [Bool.not_eq_true', Bool.or_eq_false_iff, decide_eq_false_iff_not] at HAA
    obtain ⟨⟨q1, q2⟩, q3⟩ := HAA
    clear HA hA
    rw [HM.out, Bool.true_and]
    have GB := hid (heap_alloc_new w (.cells #[.int .i64 cap, .slice A1 n1 c1, .slice A2 n2 c2, .slice A3 n3 c3, .bool cl] 67))
    have FW := hid ((Fr.refl (S := E0) (w := w)).alloc (.cells #[.int .i64 cap, .slice A1 n1 c1, .slice A2 n2 c2, .slice A3 n3 c3, .bool cl] 67))
    have H1 := hid (HX.out.fr FW.out)
    cases hE : mayE ⟨cap, vals, snd, rcv, cl⟩ with
    | false =>
      have HE := hid hE
      clear hE HB HD
      rw [Bool.and_false, Bool.and_false, Bool.and_false]
      go_enter Try.func77, Try.ntmps77
      go_wp2_with fail
      generalize w.alloc _ = W at *
      refine (alone_agg cap vals snd rcv cl _ _ _ _ _ _ _ _ _ W H1.out H2.out H3.out).mono ?_
      rintro e w1 ⟨rfl, hf1⟩
      rw [HE.out]
      have F1 := hid (FW.out.trans hf1)
      clear hf1
      go_wp2_with fail
      go_ret
      exact ⟨rfl, F1.out⟩
    | true =>
      have HE := hid hE
      clear hE
      rw [Bool.and_true]
      cases hB : mayB ⟨cap, vals, snd, rcv, cl⟩ with
      | false =>
        rw [hB] at HB
        have HBB := HB.symm
        simp only [Bool.not_eq_false', Bool.or_eq_true, Bool.and_eq_true, decide_eq_true_eq] at HBB
        rw [Bool.false_and]
        clear HB HD hB
        go_enter Try.func77, Try.ntmps77
        go_wp2_with fail
        generalize w.alloc _ = W at *
        refine (alone_agg cap vals snd rcv cl _ _ _ _ _ _ _ _ _ W H1.out H2.out H3.out).mono ?_
        rintro e w1 ⟨rfl, hf1⟩
        rw [HE.out]
        have F1 := hid (FW.out.trans hf1)
        obtain ⟨⟨a0, a1, a2, a3, a4⟩, _⟩ := blk5 (hf1.heapAt GB.out (fun x => x))
        clear hf1
        rcases HBB with ⟨b1, b2⟩ | ⟨b1, b2⟩
        · have b1' : (0 : Int) < (n2 : Int) := by omega
          go_wp2_with fail
          all_goals (go_ret; exact ⟨rfl, F1.out⟩)
        · have b1' : (0 : Int) < (n3 : Int) := by omega
          have b2' : (0 : Int) < (n1 : Int) := by omega
          go_wp2_with fail
          all_goals (go_ret; exact ⟨rfl, F1.out⟩)
      | true =>
        rw [hB] at HB
        have HBB := HB.symm
        simp only [Bool.not_eq_true', Bool.or_eq_false_iff, Bool.and_eq_false_iff, decide_eq_false_iff_not] at HBB
        obtain ⟨b1, b2⟩ := HBB
        rw [Bool.true_and]
        have F4 := hid (four b1 b2)
        have HDD := hid HD
        clear HB hB b1 b2 HD
        go_enter Try.func77, Try.ntmps77
        go_wp2_with fail
        generalize w.alloc _ = W at *
        refine (alone_agg cap vals snd rcv cl _ _ _ _ _ _ _ _ _ W H1.out H2.out H3.out).mono ?_
        rintro e w1 ⟨rfl, hf1⟩
        rw [HE.out]
        have F1 := hid (FW.out.trans hf1)
        obtain ⟨⟨a0, a1, a2, a3, a4⟩, _⟩ := blk5 (hf1.heapAt GB.out (fun x => x))
        have R5 := hid (R3.out.fr F1.out)
        clear hf1
        rcases F4.out with (⟨f1, f2⟩ | ⟨f1, f2, f3⟩) | (⟨f1, f2, f3⟩ | ⟨f1, f2, f3, f4⟩)
        all_goals
          go_wp2_with fail
          go_loop [3] (fun i => ∃ k : Nat, i = .int .i64 k ∧ k ≤ n3 ∧ (rcv.take k).any hasV = false) (fun i => n3 - (intOf i).toNat)
          case atStart => exact ⟨0, rfl, Nat.zero_le _, rfl⟩
          case round =>
            obtain ⟨k, rfl, hk, hall⟩ := hrel
            have HALL := hid hall
            clear hall
            by_cases hlt : k < n3
            · first
                | (exfalso; omega)
                | (obtain ⟨x, hx⟩ : ∃ x, rcv[k]? = some x := ⟨rcv[k]'(by have := L3.out; omega), List.getElem?_eq_getElem _⟩
                   obtain ⟨b3, o3, rfl, r3⟩ := R5.out.wtAt hx
                   obtain ⟨d0, d1, d2, d3⟩ := r3.wt hx
                   have HX := hid hx
                   clear hx r3 d0 d1 d2
                   by_cases hv : x.v = 0
                   · have HV := hid hv
                     rw [hv] at d3
                     clear hv
                     go_wp2_with fail
                     go_round
                     case rel => exact ⟨k + 1, by simp, by omega, hasV_step HX.out HALL.out HV.out⟩
                     case measure => simp [intOf]; omega
                   · have HV := hid (hasV_yes HX.out hv)
                     have hv2 : ((x.v != 0) : Bool) = true := by simpa using hv
                     clear hv
                     go_wp2_with fail
                     go_ret
                     exact ⟨by rw [HV.out, Bool.not_true, Bool.and_false]; rfl, F1.out⟩)
            · obtain rfl : k = n3 := by omega
              have HV := hid (show rcv.any hasV = false by have := HALL.out; rwa [← L3.out, List.take_length] at this)
              clear hlt hk
              cases cl
              · go_wp2_with fail
                go_ret
                exact ⟨by rw [HV.out, HDD.out, Bool.not_false, Bool.and_true, Bool.false_and, Bool.not_false]; rfl, F1.out⟩
              · by_cases hn2 : n2 = 0
                · have hz2 : ((n2 : Int) == 0) = true := by simp; omega
                  by_cases hn3 : k = 0
                  · have hz3 : ((k : Int) == 0) = true := by simp; omega
                    have HZ := hid (show decide (0 < n2 + k) = false by simp; omega)
                    clear hn2 hn3
                    go_wp2_with fail
                    go_ret
                    exact ⟨by rw [HV.out, HDD.out, HZ.out]; rfl, F1.out⟩
                  · have hz3 : ((k : Int) == 0) = false := by simp; omega
                    have HZ := hid (show decide (0 < n2 + k) = true by simp; omega)
                    first
                      | (exfalso; omega)
                      | (clear hn2 hn3
                         go_wp2_with fail
                         go_ret
                         exact ⟨by rw [HV.out, HDD.out, HZ.out]; rfl, F1.out⟩)
                · have hz2 : ((n2 : Int) == 0) = false := by simp; omega
                  have HZ := hid (show decide (0 < n2 + k) = true by simp; omega)
                  first
                    | (exfalso; omega)
                    | (clear hn2
                       go_wp2_with fail
                       go_ret
                       exact ⟨by rw [HV.out, HDD.out, HZ.out]; rfl, F1.out⟩)
end Go.Proofs.Yteffmnohgnmanaa
/- rotaref11: Wait, Fits. Printed by wip/gen/ref9.py. -/
namespace Go.Proofs.Yteffmnohgnmanaa
open Go.RowKit
set_option linter.unusedVariables false
def RNewPost (w : World) (l' : List Ch) (t : Int) (e : Ending) (w' : World) : Prop :=
  ∃ v' ms', e = .returned (tup2 v' (.int .i64 t)) ∧ chs ms' = l' ∧ OwnCs w' (New w) v' ms' ∧ Fr E0 w w'
def RSamePost (w : World) (v : Value) (t : Int) (e : Ending) (w' : World) : Prop := e = .returned (tup2 v (.int .i64 t)) ∧ Fr E0 w w'
set_option maxHeartbeats 1000000 in
theorem rwait_no {w : World} {v : Value} {ms : List CM} (hv : RdCs w v ms) (x : Wt) (ch : Int) (send : Bool) (hi : isB (chs ms) ch = false) :
    Calls Try.prog 63 #[v, .int .i64 ch, x.val, .bool send] w (RSamePost w v (trapC (chs ms) ch)) := by
  obtain ⟨A, c0, rfl, hmx, _, _⟩ := hv.form
  obtain ⟨s, gn, c, xv⟩ := x
  have HI := hid hi
  clear hv hi
  simp only [Wt.val]
  go_enter Try.func63, Try.ntmps63
  go_wp2_with fail
  refine (is2_ok hmx ch).mono ?_
  rw [HI.out]
  rintro e w' ⟨rfl, rfl⟩
  go_wp2_with fail
  refine (trap2_ok hmx ch).mono ?_
  rintro e w' ⟨rfl, rfl⟩
  go_wp2_with fail
  go_ret2
  exact ⟨rfl, Fr.refl.alloc _⟩
/-- A block that is older than all of them is stored into. -/
theorem OwnCs.far {w w0 : World} {v u : Value} {ms : List CM} {B j : Nat} (h : OwnCs w (New w0) v ms) (hB : B < w0.heap.size) : OwnCs (w.setCell ⟨B, j, none⟩ u) (New w0) v ms := by
  have hs : ∀ k, New w0 k → (w.setCell ⟨B, j, none⟩ u).heap[k]? = w.heap[k]? := fun k hk => heap_setCell_other _ _ _ _ (by unfold New at hk; rintro rfl; omega)
  exact ⟨h.row.same (fun k hk => hs k (h.row.2 k hk)), fun m hm => ⟨(h.each m hm).vals.same (fun k hk => hs k ((h.each m hm).vals.2 k hk)), (h.each m hm).snd.same (fun k hk => hs k ((h.each m hm).snd.2 k hk)), (h.each m hm).rcv.same (fun k hk => hs k ((h.each m hm).rcv.2 k hk))⟩, h.apart⟩
set_option maxRecDepth 8000 in
set_option maxHeartbeats 4000000 in
theorem rwait_sends {w : World} {v : Value} {ms : List CM} (hv : RdCs w v ms) (hn : ms.length ≤ 1024) (hbig : ∀ c ∈ chs ms, BigC c) (x : Wt) {k : Nat} {cap : Int} {vals : List Int} {snd rcv : List Wt} {cl : Bool} (hk : (chs ms)[k]? = some ⟨cap, vals, snd, rcv, cl⟩) :
    Calls Try.prog 63 #[v, .int .i64 ((k : Int) + 1), x.val, .bool true] w (RNewPost w ((chs ms).set k ⟨cap, vals, snd ++ [x], rcv, cl⟩) 0) := by
  have HV := hid hv
  have HBG := hid hbig
  obtain ⟨A, c0, rfl, hmx, _, _⟩ := hv.form
  obtain ⟨s, gn, c, xv⟩ := x
  clear hv hbig
  simp only [Wt.val]
  go_enter Try.func63, Try.ntmps63
  go_wp2_with fail
  have FA := hid ((Fr.refl (S := E0) (w := w)).alloc (.cells #[.int .i64 s, .int .i64 gn, .int .i64 c, .int .i64 xv] 114))
  have X1 := hid (heap_alloc_new w (.cells #[.int .i64 s, .int .i64 gn, .int .i64 c, .int .i64 xv] 114))
  generalize w.alloc (.cells #[.int .i64 s, .int .i64 gn, .int .i64 c, .int .i64 xv] 114) = W at *
  refine (is2_ok hmx _).mono ?_
  rw [show isB (chs ms) ((k : Int) + 1) = true from by unfold isB; rw [getC_in hk]; rfl]
  rintro e w' ⟨rfl, rfl⟩
  go_wp2_with fail
  refine (copy_ok ms _ W (HV.out.fr FA.out) (by omega) (fun m hm => HBG.out _ (List.mem_map.2 ⟨m, hm, rfl⟩))).mono ?_
  rintro e w2 ⟨ov, ms2, rfl, hc2, ho2, hf2⟩
  have X2 := hid (hf2.heapAt X1.out (fun x => x))
  have F2 := hid (FA.out.trans hf2)
  have O2 := hid (ho2.mono (F' := New w) (fun q hq => Nat.le_trans FA.out.size hq))
  have OX2 := hid ho2
  have C2 := hid hc2
  have hlen2 : ms2.length = ms.length := by rw [← chs_len, hc2, chs_len]
  obtain ⟨m2, hk2, hm2⟩ : ∃ m2, ms2[k]? = some m2 ∧ m2.ch = ⟨cap, vals, snd, rcv, cl⟩ := by
    have h1 : (chs ms2)[k]? = some ⟨cap, vals, snd, rcv, cl⟩ := by rw [hc2]; exact hk
    unfold chs at h1
    rw [List.getElem?_map] at h1
    obtain ⟨m2, h2, h3⟩ := Option.map_eq_some_iff.1 h1
    exact ⟨m2, h2, h3⟩
  obtain ⟨ch2, vv, sv, rv⟩ := m2
  simp only at hm2
  subst hm2
  have HBC := hid (HBG.out _ (List.mem_of_getElem? hk))
  obtain ⟨hbv, hbs, hbr⟩ : vals.length ≤ 4194304 ∧ snd.length ≤ 4194304 ∧ rcv.length ≤ 4194304 := HBC.out
  have HK := hid hk
  have HK2 := hid hk2
  have hlt := lt_of_get hk2
  have hkb : k < 1024 := by omega
  clear hc2 ho2 hf2 hk
  have W3e : Hid (w2 = w2) := hid rfl
  obtain ⟨W3, hW3⟩ : ∃ W3 : World, W3 = w2 := ⟨_, rfl⟩
  subst hW3
  have X3 := X2
  have O3 := O2
  have F3 := F2
  clear W3e
  obtain ⟨L, cp, hov, hFL, hLl, _, _, c2, c3, _, hfz⟩ := O3.out.at hk2
  subst hov
  have hf1 := hfz (k * 5 + 2)
  have OM := hid (O3.out.each _ (List.mem_of_getElem? hk2))
  obtain ⟨SA, sc, es, _, _, _⟩ := OM.out.snd.read (n := snd.length) (by decide) (wts_len _)
  simp only at es c2 c3
  subst es
  obtain ⟨y0, y1, y2, y3⟩ := cell4 X3.out
  obtain ⟨i0, hi0, hz0, hz1, hz2⟩ := info_parts info114
  have FB := hid ((Fr.refl (S := E0) (w := W3)).alloc (.cells #[.int .i64 s, .int .i64 gn, .int .i64 c, .int .i64 xv] 114))
  have OB := hid (O3.out.fr FB.out (fun _ _ x => x))
  have hown0 := hid (show World.ownsRow (World.alloc W3 (.cells #[.int .i64 s, .int .i64 gn, .int .i64 c, .int .i64 xv] 114)) 0 114 4 (.slice SA snd.length sc) snd.length (wts snd) from (OM.out.snd.fr FB.out (fun _ _ x => x)).own (by decide) (wts_len _))
  have hnL : (Value.slice SA snd.length sc).ownBlock ≠ some L := fun hx => O3.out.row.ne_type OM.out.snd (by decide) rfl hx
  have HLEN := hid hlen2
  have HM1 := hid (show snd.length + 1 ≤ maxLen by unfold maxLen; omega)
  have HM2 := hid (show (snd.length + 1) * 32 ≤ 140737488355328 by omega)
  have hkl : (k : Int) < (ms2.length : Int) := by omega
  have hk0 : (0 : Int) ≤ (k : Int) := by omega
  clear hfz hk2 hlen2
  go_wp2_with fail
  have hwk : IntKind.i64.wrap (k : Int) = (k : Int) := IntWalk.i64_in _ (by omega)
  go_region_law (refine step_append_lies _ (by rfl) (.tmp 30) (.tmp 32) 65 (by rfl) 0 114 i0 (.agg #[.int .i64 0, .int .i64 0, .int .i64 0, .int .i64 0]) 4 32 Try.underlying65 hi0 hz0 hz1 hz2 rfl (by decide) (.slice SA snd.length sc) snd.length (wts snd) (by rfl) hown0.out ⟨(World.heap W3).size, 0, none⟩ 1 1 [.int .i64 s, .int .i64 gn, .int .i64 c, .int .i64 xv] (by rfl) (by rfl) (news1 _ _) (by simp [Value.oneCell']) (by decide) HM1.out HM2.out (Nat.zero_le _) ((World.heap W3).size + 1) (by simp) ?_; intro gb cap3 w3 hown3 hgrow3 hat3 hlt3; have x1 : w3.cell? ⟨L, k * 5 + 2, none⟩ = some (.slice SA snd.length sc) := hgrow3.cell (cellA hLl c2) (fun e => hnL e.symm); have x2 : w3.frozen? ⟨L, k * 5 + 2, none⟩ = false := (by rw [hgrow3.frozen_far _ (Nat.lt_of_lt_of_le hLl (by simp)) (fun e => hnL e.symm)]; exact frozenA hLl hf1); have HN := hid (And.intro hown3 (And.intro hgrow3 (And.intro hat3 hlt3))); clear hown3 hgrow3 hat3 hlt3)
  all_goals
    clear hwk
    have HGR := hid (undrew HN.out.2.1)
    have FX := hid (Fr.refl.grown HGR.out (S := fun q => (Value.slice SA snd.length sc).ownBlock = some q) (fun q hq => .inl hq))
    have O6 := hid (OwnCs.putS (w1 := w3) (l' := snd ++ [⟨s, gn, c, xv⟩]) (v' := .slice (some ⟨gb, 0, none⟩) (snd.length + 1) cap3) OB.out HK2.out FX.out (fun _ hq => hq) ⟨⟨_, by rw [wts_app]; exact HN.out.1⟩, fun q hq => by
      simp [Value.ownBlock] at hq; subst hq
      rcases HN.out.2.2.1 with e | e
      · exact OM.out.snd.2 _ e
      · have := F3.out.size; unfold New; omega⟩ (fun q hq => by
      simp [Value.ownBlock] at hq; subst hq
      rcases HN.out.2.2.1 with e | e
      · exact .inl e
      · exact .inr (by simp; omega)))
    have F6 := hid (((F3.out.trans FB.out).trans' FX.out (fun q hq => .inr (OM.out.snd.2 q hq))).setCell (p := ⟨L, k * 5 + 2, none⟩) (.slice (some ⟨gb, 0, none⟩) (snd.length + 1) cap3) (.inr hFL))
    have HCE := hid (show chs (ms2.set k (CM.setS ⟨⟨cap, vals, snd, rcv, cl⟩, vv, .slice SA snd.length sc, rv⟩ (.slice (some ⟨gb, 0, none⟩) (snd.length + 1) cap3) (snd ++ [⟨s, gn, c, xv⟩]))) = (chs ms).set k ⟨cap, vals, snd ++ [⟨s, gn, c, xv⟩], rcv, cl⟩ by rw [chs_set, C2.out]; rfl)
    go_wp2_with fail
    go_ret2
    exact ⟨_, _, rfl, HCE.out, O6.out, F6.out⟩
set_option maxRecDepth 8000 in
set_option maxHeartbeats 4000000 in
theorem rwait_recvs {w : World} {v : Value} {ms : List CM} (hv : RdCs w v ms) (hn : ms.length ≤ 1024) (hbig : ∀ c ∈ chs ms, BigC c) (x : Wt) {k : Nat} {cap : Int} {vals : List Int} {snd rcv : List Wt} {cl : Bool} (hk : (chs ms)[k]? = some ⟨cap, vals, snd, rcv, cl⟩) :
    Calls Try.prog 63 #[v, .int .i64 ((k : Int) + 1), x.val, .bool false] w (RNewPost w ((chs ms).set k ⟨cap, vals, snd, rcv ++ [{ x with v := 0 }], cl⟩) 0) := by
  have HV := hid hv
  have HBG := hid hbig
  obtain ⟨A, c0, rfl, hmx, _, _⟩ := hv.form
  obtain ⟨s, gn, c, xv⟩ := x
  clear hv hbig
  simp only [Wt.val]
  go_enter Try.func63, Try.ntmps63
  go_wp2_with fail
  have FA := hid ((Fr.refl (S := E0) (w := w)).alloc (.cells #[.int .i64 s, .int .i64 gn, .int .i64 c, .int .i64 xv] 114))
  have X1 := hid (heap_alloc_new w (.cells #[.int .i64 s, .int .i64 gn, .int .i64 c, .int .i64 xv] 114))
  generalize w.alloc (.cells #[.int .i64 s, .int .i64 gn, .int .i64 c, .int .i64 xv] 114) = W at *
  refine (is2_ok hmx _).mono ?_
  rw [show isB (chs ms) ((k : Int) + 1) = true from by unfold isB; rw [getC_in hk]; rfl]
  rintro e w' ⟨rfl, rfl⟩
  go_wp2_with fail
  refine (copy_ok ms _ W (HV.out.fr FA.out) (by omega) (fun m hm => HBG.out _ (List.mem_map.2 ⟨m, hm, rfl⟩))).mono ?_
  rintro e w2 ⟨ov, ms2, rfl, hc2, ho2, hf2⟩
  have X2 := hid (hf2.heapAt X1.out (fun x => x))
  have F2 := hid (FA.out.trans hf2)
  have O2 := hid (ho2.mono (F' := New w) (fun q hq => Nat.le_trans FA.out.size hq))
  have OX2 := hid ho2
  have X1lt := hid (heap_lt X1.out)
  have C2 := hid hc2
  have hlen2 : ms2.length = ms.length := by rw [← chs_len, hc2, chs_len]
  obtain ⟨m2, hk2, hm2⟩ : ∃ m2, ms2[k]? = some m2 ∧ m2.ch = ⟨cap, vals, snd, rcv, cl⟩ := by
    have h1 : (chs ms2)[k]? = some ⟨cap, vals, snd, rcv, cl⟩ := by rw [hc2]; exact hk
    unfold chs at h1
    rw [List.getElem?_map] at h1
    obtain ⟨m2, h2, h3⟩ := Option.map_eq_some_iff.1 h1
    exact ⟨m2, h2, h3⟩
  obtain ⟨ch2, vv, sv, rv⟩ := m2
  simp only at hm2
  subst hm2
  have HBC := hid (HBG.out _ (List.mem_of_getElem? hk))
  obtain ⟨hbv, hbs, hbr⟩ : vals.length ≤ 4194304 ∧ snd.length ≤ 4194304 ∧ rcv.length ≤ 4194304 := HBC.out
  have HK := hid hk
  have HK2 := hid hk2
  have hlt := lt_of_get hk2
  have hkb : k < 1024 := by omega
  clear hc2 ho2 hf2 hk
  obtain ⟨y0, y1, y2, y3⟩ := cell4 X2.out
  have z3 := frozen_of_row w2 _ 3 _ _ X2.out
  go_wp2_with fail
  have X3 := hid (heap_setCell_same w2 w.heap.size 3 _ 114 (.int .i64 0) X2.out)
  have O3 := hid (OX2.out.far (j := 3) (u := .int .i64 0) (B := w.heap.size) X1lt.out |>.mono (F' := New w) (fun q hq => Nat.le_trans FA.out.size hq))
  have F3 := hid (F2.out.setCell (p := ⟨w.heap.size, 3, none⟩) (.int .i64 0) (.inr (Nat.le_refl _)))
  clear y0 y1 y2 y3 z3
  generalize w2.setCell ⟨w.heap.size, 3, none⟩ (.int .i64 0) = W3 at *
  obtain ⟨L, cp, hov, hFL, hLl, _, _, c2, c3, _, hfz⟩ := O3.out.at hk2
  subst hov
  have hf1 := hfz (k * 5 + 3)
  have OM := hid (O3.out.each _ (List.mem_of_getElem? hk2))
  obtain ⟨SA, sc, es, _, _, _⟩ := OM.out.rcv.read (n := rcv.length) (by decide) (wts_len _)
  simp only at es c2 c3
  subst es
  obtain ⟨y0, y1, y2, y3⟩ := cell4 X3.out
  obtain ⟨i0, hi0, hz0, hz1, hz2⟩ := info_parts info114
  have FB := hid ((Fr.refl (S := E0) (w := W3)).alloc (.cells #[.int .i64 s, .int .i64 gn, .int .i64 c, .int .i64 0] 114))
  have OB := hid (O3.out.fr FB.out (fun _ _ x => x))
  have hown0 := hid (show World.ownsRow (World.alloc W3 (.cells #[.int .i64 s, .int .i64 gn, .int .i64 c, .int .i64 0] 114)) 0 114 4 (.slice SA rcv.length sc) rcv.length (wts rcv) from (OM.out.rcv.fr FB.out (fun _ _ x => x)).own (by decide) (wts_len _))
  have hnL : (Value.slice SA rcv.length sc).ownBlock ≠ some L := fun hx => O3.out.row.ne_type OM.out.rcv (by decide) rfl hx
  have HLEN := hid hlen2
  have HM1 := hid (show rcv.length + 1 ≤ maxLen by unfold maxLen; omega)
  have HM2 := hid (show (rcv.length + 1) * 32 ≤ 140737488355328 by omega)
  have hkl : (k : Int) < (ms2.length : Int) := by omega
  have hk0 : (0 : Int) ≤ (k : Int) := by omega
  clear hfz hk2 hlen2
  go_wp2_with fail
  have hwk : IntKind.i64.wrap (k : Int) = (k : Int) := IntWalk.i64_in _ (by omega)
  go_region_law (refine step_append_lies _ (by rfl) (.tmp 46) (.tmp 48) 65 (by rfl) 0 114 i0 (.agg #[.int .i64 0, .int .i64 0, .int .i64 0, .int .i64 0]) 4 32 Try.underlying65 hi0 hz0 hz1 hz2 rfl (by decide) (.slice SA rcv.length sc) rcv.length (wts rcv) (by rfl) hown0.out ⟨(World.heap W3).size, 0, none⟩ 1 1 [.int .i64 s, .int .i64 gn, .int .i64 c, .int .i64 0] (by rfl) (by rfl) (news1 _ _) (by simp [Value.oneCell']) (by decide) HM1.out HM2.out (Nat.zero_le _) ((World.heap W3).size + 1) (by simp) ?_; intro gb cap3 w3 hown3 hgrow3 hat3 hlt3; have x1 : w3.cell? ⟨L, k * 5 + 3, none⟩ = some (.slice SA rcv.length sc) := hgrow3.cell (cellA hLl c3) (fun e => hnL e.symm); have x2 : w3.frozen? ⟨L, k * 5 + 3, none⟩ = false := (by rw [hgrow3.frozen_far _ (Nat.lt_of_lt_of_le hLl (by simp)) (fun e => hnL e.symm)]; exact frozenA hLl hf1); have HN := hid (And.intro hown3 (And.intro hgrow3 (And.intro hat3 hlt3))); clear hown3 hgrow3 hat3 hlt3)
  all_goals
    clear hwk
    have HGR := hid (undrew HN.out.2.1)
    have FX := hid (Fr.refl.grown HGR.out (S := fun q => (Value.slice SA rcv.length sc).ownBlock = some q) (fun q hq => .inl hq))
    have O6 := hid (OwnCs.putR (w1 := w3) (l' := rcv ++ [⟨s, gn, c, 0⟩]) (v' := .slice (some ⟨gb, 0, none⟩) (rcv.length + 1) cap3) OB.out HK2.out FX.out (fun _ hq => hq) ⟨⟨_, by rw [wts_app]; exact HN.out.1⟩, fun q hq => by
      simp [Value.ownBlock] at hq; subst hq
      rcases HN.out.2.2.1 with e | e
      · exact OM.out.rcv.2 _ e
      · have := F3.out.size; unfold New; omega⟩ (fun q hq => by
      simp [Value.ownBlock] at hq; subst hq
      rcases HN.out.2.2.1 with e | e
      · exact .inl e
      · exact .inr (by simp; omega)))
    have F6 := hid (((F3.out.trans FB.out).trans' FX.out (fun q hq => .inr (OM.out.rcv.2 q hq))).setCell (p := ⟨L, k * 5 + 3, none⟩) (.slice (some ⟨gb, 0, none⟩) (rcv.length + 1) cap3) (.inr hFL))
    have HCE := hid (show chs (ms2.set k (CM.setR ⟨⟨cap, vals, snd, rcv, cl⟩, vv, sv, .slice SA rcv.length sc⟩ (.slice (some ⟨gb, 0, none⟩) (rcv.length + 1) cap3) (rcv ++ [⟨s, gn, c, 0⟩]))) = (chs ms).set k ⟨cap, vals, snd, rcv ++ [⟨s, gn, c, 0⟩], cl⟩ by rw [chs_set, C2.out]; rfl)
    go_wp2_with fail
    go_ret2
    exact ⟨_, _, rfl, HCE.out, O6.out, F6.out⟩
end Go.Proofs.Yteffmnohgnmanaa

/- rotaref11.Send: a theorem for each way. Printed by wip/gen/ref5.py. -/
namespace Go.Proofs.Yteffmnohgnmanaa
open Go.RowKit
set_option linter.unusedVariables false
attribute [local go_sem ↓] Go.wp_at_zero Go.wp_at_succ
set_option maxRecDepth 8000 in
set_option maxHeartbeats 4000000 in
theorem rsend_waits {w : World} {v : Value} {ms : List CM} (hv : RdCs w v ms) (hn : ms.length ≤ 1024) (hbig : ∀ c ∈ chs ms, BigC c) (gs gg val : Int) (hw : waitsL gs gg (chs ms) = true) (ch : Int) :
    Calls Try.prog 49 #[v, .int .i64 ch, .agg #[.int .i64 gs, .int .i64 gg], .int .i64 val] w (RMvPost w v (chs ms) (chs ms) {} 111) := by
  have HV := hid hv
  have HBG := hid hbig
  have HWT := hid hw
  obtain ⟨A, c0, rfl, hmx, _, _⟩ := hv.form
  clear hv hbig hw
  go_enter Try.func49, Try.ntmps49
  go_wp2_with fail
  generalize hW : ((w.alloc (Obj.cells #[Value.int IntKind.i64 gs, Value.int IntKind.i64 gg] 37)).alloc _) = W
  have FA := hid (show Fr E0 w W by rw [← hW]; exact (Fr.refl.alloc _).alloc _)
  have T1 := hid (show W.heap[w.heap.size + 1]? = some (.cells #[Value.bool false, Value.int IntKind.i64 0, Value.bool false, Value.int IntKind.i64 0, Value.slice none 0 0] 32 (0, 0)) by rw [← hW]; exact heap_alloc2_new w _ _)
  have G1 := hid (show W.heap[w.heap.size]? = some (.cells #[Value.int IntKind.i64 gs, Value.int IntKind.i64 gg] 37 (0, 0)) by rw [← hW]; exact heap_alloc2_old w _ _)
  clear hW
  refine (waits2_ok ms _ gs gg W (HV.out.fr FA.out) (by omega) HBG.out).mono ?_
  rintro e w1 ⟨rfl, hf1⟩
  rw [HWT.out]
  have T2 := hid (hf1.heapAt T1.out (fun x => x))
  have G2 := hid (hf1.heapAt G1.out (fun x => x))
  have F2 := hid (FA.out.trans hf1)
  clear hf1
  obtain ⟨⟨b0, b1, b2, b3, b4⟩, z0, z1, z2, z3, z4⟩ := blk5 T2.out
  go_wp2_with fail
  exact fin49 (m := {}) rfl rfl rfl rfl (set5_heap T2.out _ _ _ _ _) ⟨_, _, rfl, .inl ⟨rfl, rfl⟩, RowF.nil, fr_new5 F2.out (Nat.le_succ _) _ _ _ _ _⟩
set_option maxRecDepth 8000 in
set_option maxHeartbeats 4000000 in
theorem rsend_nil {w : World} {v : Value} {ms : List CM} (hv : RdCs w v ms) (hn : ms.length ≤ 1024) (hbig : ∀ c ∈ chs ms, BigC c) (gs gg val : Int) (hw : waitsL gs gg (chs ms) = false) :
    Calls Try.prog 49 #[v, .int .i64 0, .agg #[.int .i64 gs, .int .i64 gg], .int .i64 val] w (RMvPost w v (chs ms) (chs ms) { waits := true } 0) := by
  have HV := hid hv
  have HBG := hid hbig
  have HWT := hid hw
  obtain ⟨A, c0, rfl, hmx, _, _⟩ := hv.form
  clear hv hbig hw
  go_enter Try.func49, Try.ntmps49
  go_wp2_with fail
  generalize hW : ((w.alloc (Obj.cells #[Value.int IntKind.i64 gs, Value.int IntKind.i64 gg] 37)).alloc _) = W
  have FA := hid (show Fr E0 w W by rw [← hW]; exact (Fr.refl.alloc _).alloc _)
  have T1 := hid (show W.heap[w.heap.size + 1]? = some (.cells #[Value.bool false, Value.int IntKind.i64 0, Value.bool false, Value.int IntKind.i64 0, Value.slice none 0 0] 32 (0, 0)) by rw [← hW]; exact heap_alloc2_new w _ _)
  have G1 := hid (show W.heap[w.heap.size]? = some (.cells #[Value.int IntKind.i64 gs, Value.int IntKind.i64 gg] 37 (0, 0)) by rw [← hW]; exact heap_alloc2_old w _ _)
  clear hW
  refine (waits2_ok ms _ gs gg W (HV.out.fr FA.out) (by omega) HBG.out).mono ?_
  rintro e w1 ⟨rfl, hf1⟩
  rw [HWT.out]
  have T2 := hid (hf1.heapAt T1.out (fun x => x))
  have G2 := hid (hf1.heapAt G1.out (fun x => x))
  have F2 := hid (FA.out.trans hf1)
  clear hf1
  obtain ⟨⟨b0, b1, b2, b3, b4⟩, z0, z1, z2, z3, z4⟩ := blk5 T2.out
  go_wp2_with fail
  exact fin49 (m := { waits := true }) rfl rfl rfl rfl (set5_heap T2.out _ _ _ _ _) ⟨_, _, rfl, .inl ⟨rfl, rfl⟩, RowF.nil, fr_new5 F2.out (Nat.le_succ _) _ _ _ _ _⟩
set_option maxRecDepth 8000 in
set_option maxHeartbeats 4000000 in
theorem rsend_out {w : World} {v : Value} {ms : List CM} (hv : RdCs w v ms) (hn : ms.length ≤ 1024) (hbig : ∀ c ∈ chs ms, BigC c) (gs gg val : Int) (hw : waitsL gs gg (chs ms) = false) (ch : Int) (hz : ch ≠ 0) (hi : isB (chs ms) ch = false) :
    Calls Try.prog 49 #[v, .int .i64 ch, .agg #[.int .i64 gs, .int .i64 gg], .int .i64 val] w (RMvPost w v (chs ms) (chs ms) { trap := 4 } 0) := by
  have HV := hid hv
  have HBG := hid hbig
  have HWT := hid hw
  obtain ⟨A, c0, rfl, hmx, _, _⟩ := hv.form
  clear hv hbig hw
  go_enter Try.func49, Try.ntmps49
  go_wp2_with fail
  generalize hW : ((w.alloc (Obj.cells #[Value.int IntKind.i64 gs, Value.int IntKind.i64 gg] 37)).alloc _) = W
  have FA := hid (show Fr E0 w W by rw [← hW]; exact (Fr.refl.alloc _).alloc _)
  have T1 := hid (show W.heap[w.heap.size + 1]? = some (.cells #[Value.bool false, Value.int IntKind.i64 0, Value.bool false, Value.int IntKind.i64 0, Value.slice none 0 0] 32 (0, 0)) by rw [← hW]; exact heap_alloc2_new w _ _)
  have G1 := hid (show W.heap[w.heap.size]? = some (.cells #[Value.int IntKind.i64 gs, Value.int IntKind.i64 gg] 37 (0, 0)) by rw [← hW]; exact heap_alloc2_old w _ _)
  clear hW
  refine (waits2_ok ms _ gs gg W (HV.out.fr FA.out) (by omega) HBG.out).mono ?_
  rintro e w1 ⟨rfl, hf1⟩
  rw [HWT.out]
  have T2 := hid (hf1.heapAt T1.out (fun x => x))
  have G2 := hid (hf1.heapAt G1.out (fun x => x))
  have F2 := hid (FA.out.trans hf1)
  clear hf1
  obtain ⟨⟨b0, b1, b2, b3, b4⟩, z0, z1, z2, z3, z4⟩ := blk5 T2.out
  have hb : ((ch == 0) : Bool) = false := by simpa using hz
  have HI := hid hi
  clear hi hz
  go_wp2_with fail
  refine (is2_ok hmx _).mono ?_
  rw [HI.out]
  rintro e w' ⟨rfl, rfl⟩
  go_wp2_with fail
  exact fin49 (m := { trap := 4 }) rfl rfl rfl rfl (set5_heap T2.out _ _ _ _ _) ⟨_, _, rfl, .inl ⟨rfl, rfl⟩, RowF.nil, fr_new5 F2.out (Nat.le_succ _) _ _ _ _ _⟩
set_option maxRecDepth 8000 in
set_option maxHeartbeats 4000000 in
theorem rsend_closed {w : World} {v : Value} {ms : List CM} (hv : RdCs w v ms) (hn : ms.length ≤ 1024) (hbig : ∀ c ∈ chs ms, BigC c) (gs gg val : Int) (hw : waitsL gs gg (chs ms) = false) {k : Nat} {cap : Int} {vals : List Int} {snd rcv : List Wt} (hk : (chs ms)[k]? = some ⟨cap, vals, snd, rcv, true⟩) :
    Calls Try.prog 49 #[v, .int .i64 ((k : Int) + 1), .agg #[.int .i64 gs, .int .i64 gg], .int .i64 val] w (RMvPost w v (chs ms) (chs ms) { trap := 6 } 0) := by
  have HV := hid hv
  have HBG := hid hbig
  have HWT := hid hw
  obtain ⟨A, c0, rfl, hmx, _, _⟩ := hv.form
  clear hv hbig hw
  go_enter Try.func49, Try.ntmps49
  go_wp2_with fail
  generalize hW : ((w.alloc (Obj.cells #[Value.int IntKind.i64 gs, Value.int IntKind.i64 gg] 37)).alloc _) = W
  have FA := hid (show Fr E0 w W by rw [← hW]; exact (Fr.refl.alloc _).alloc _)
  have T1 := hid (show W.heap[w.heap.size + 1]? = some (.cells #[Value.bool false, Value.int IntKind.i64 0, Value.bool false, Value.int IntKind.i64 0, Value.slice none 0 0] 32 (0, 0)) by rw [← hW]; exact heap_alloc2_new w _ _)
  have G1 := hid (show W.heap[w.heap.size]? = some (.cells #[Value.int IntKind.i64 gs, Value.int IntKind.i64 gg] 37 (0, 0)) by rw [← hW]; exact heap_alloc2_old w _ _)
  clear hW
  refine (waits2_ok ms _ gs gg W (HV.out.fr FA.out) (by omega) HBG.out).mono ?_
  rintro e w1 ⟨rfl, hf1⟩
  rw [HWT.out]
  have T2 := hid (hf1.heapAt T1.out (fun x => x))
  have G2 := hid (hf1.heapAt G1.out (fun x => x))
  have F2 := hid (FA.out.trans hf1)
  clear hf1
  obtain ⟨⟨b0, b1, b2, b3, b4⟩, z0, z1, z2, z3, z4⟩ := blk5 T2.out
  have hz : (((k : Int) + 1 == 0) : Bool) = false := by simp; omega
  go_wp2_with fail
  refine (is2_ok hmx _).mono ?_
  rw [show isB (chs ms) ((k : Int) + 1) = true from by unfold isB; rw [getC_in hk]; rfl]
  rintro e w' ⟨rfl, rfl⟩
  go_wp2_with fail
  refine (copy_ok ms _ w1 (HV.out.fr F2.out) (by omega) (fun m hm => HBG.out _ (List.mem_map.2 ⟨m, hm, rfl⟩))).mono ?_
  rintro e w2 ⟨ov, ms2, rfl, hc2, ho2, hf2⟩
  clear b0 b1 b2 b3 b4 z0 z1 z2 z3 z4
  have T3 := hid (hf2.heapAt T2.out (fun x => x))
  have G3 := hid (hf2.heapAt G2.out (fun x => x))
  have F3 := hid (F2.out.trans hf2)
  have O3 := hid (ho2.mono (F' := New w) (fun q hq => Nat.le_trans F2.out.size hq))
  have C2 := hid hc2
  have hlen2 : ms2.length = ms.length := by rw [← chs_len, hc2, chs_len]
  obtain ⟨m2, hk2, hm2⟩ : ∃ m2, ms2[k]? = some m2 ∧ m2.ch = ⟨cap, vals, snd, rcv, true⟩ := by
    have h1 : (chs ms2)[k]? = some ⟨cap, vals, snd, rcv, true⟩ := by rw [hc2]; exact hk
    unfold chs at h1
    rw [List.getElem?_map] at h1
    obtain ⟨m2, h2, h3⟩ := Option.map_eq_some_iff.1 h1
    exact ⟨m2, h2, h3⟩
  obtain ⟨ch2, vv, sv, rv⟩ := m2
  simp only at hm2
  subst hm2
  have HBC := hid (HBG.out _ (List.mem_of_getElem? hk))
  obtain ⟨hbv, hbs, hbr⟩ : vals.length ≤ 4194304 ∧ snd.length ≤ 4194304 ∧ (rcv : List Wt).length ≤ 4194304 := HBC.out
  have HK := hid hk
  have HK2 := hid hk2
  have HLN := hid hlen2
  have hlt := lt_of_get hk2
  have hkb : k < 1024 := by omega
  obtain ⟨L, cp, hov, hFL, hLl, c0', c1, c2, c3, c4, hfz⟩ := O3.out.at hk2
  subst hov
  have HFZ := hid hfz
  have OM := hid (O3.out.each _ (List.mem_of_getElem? hk2))
  obtain ⟨VA, vc, ev, _, _, _⟩ := OM.out.vals.read (n := vals.length) (by decide) (ints_len _)
  obtain ⟨SA, sc, es, _, _, _⟩ := OM.out.snd.read (n := snd.length) (by decide) (wts_len _)
  obtain ⟨RA, rc, er, _, _, _⟩ := OM.out.rcv.read (n := rcv.length) (by decide) (wts_len _)
  simp only at ev es er c0' c1 c2 c3 c4
  subst ev es er
  have hTl := heap_lt T3.out
  have hGl : w.heap.size < w2.heap.size := by omega
  obtain ⟨⟨b0, b1, b2, b3, b4⟩, z0, z1, z2, z3, z4⟩ := blk5 T3.out
  have T4 := hid (((Fr.refl (S := E0) (w := w2)).alloc (.cells #[.int .i64 cap, .slice VA vals.length vc, .slice SA snd.length sc, .slice RA (rcv.length) rc, .bool true] 67)).heapAt T3.out (fun x => x))
  have F4 := hid (F3.out.alloc (.cells #[.int .i64 cap, .slice VA vals.length vc, .slice SA snd.length sc, .slice RA (rcv.length) rc, .bool true] 67))
  clear hc2 ho2 hf2 hk hk2 hlen2 hfz
  go_wp2_with fail
  exact fin49 (m := { trap := 6 }) rfl rfl rfl rfl (((Fr.refl (S := E0)).alloc _).heapAt (set5_heap T3.out _ _ _ _ _) (fun x => x)) ⟨_, _, rfl, .inl ⟨rfl, rfl⟩, RowF.nil, (fr_new5 F3.out (Nat.le_succ _) _ _ _ _ _).alloc _⟩
set_option maxRecDepth 8000 in
set_option maxHeartbeats 4000000 in
theorem rsend_wakes {w : World} {v : Value} {ms : List CM} (hv : RdCs w v ms) (hn : ms.length ≤ 1024) (hbig : ∀ c ∈ chs ms, BigC c) (gs gg val : Int) (hw : waitsL gs gg (chs ms) = false) {k : Nat} {cap : Int} {vals : List Int} {snd r : List Wt} {x : Wt} (hk : (chs ms)[k]? = some ⟨cap, vals, snd, x :: r, false⟩) :
    Calls Try.prog 49 #[v, .int .i64 ((k : Int) + 1), .agg #[.int .i64 gs, .int .i64 gg], .int .i64 val] w (RMvPost w v (chs ms) (leaveL x.s x.g (chs ms)) { ok := true, woken := [⟨x.s, x.g, x.c, val, true, 0⟩] } 0) := by
  have HV := hid hv
  have HBG := hid hbig
  have HWT := hid hw
  obtain ⟨A, c0, rfl, hmx, _, _⟩ := hv.form
  clear hv hbig hw
  go_enter Try.func49, Try.ntmps49
  go_wp2_with fail
  generalize hW : ((w.alloc (Obj.cells #[Value.int IntKind.i64 gs, Value.int IntKind.i64 gg] 37)).alloc _) = W
  have FA := hid (show Fr E0 w W by rw [← hW]; exact (Fr.refl.alloc _).alloc _)
  have T1 := hid (show W.heap[w.heap.size + 1]? = some (.cells #[Value.bool false, Value.int IntKind.i64 0, Value.bool false, Value.int IntKind.i64 0, Value.slice none 0 0] 32 (0, 0)) by rw [← hW]; exact heap_alloc2_new w _ _)
  have G1 := hid (show W.heap[w.heap.size]? = some (.cells #[Value.int IntKind.i64 gs, Value.int IntKind.i64 gg] 37 (0, 0)) by rw [← hW]; exact heap_alloc2_old w _ _)
  clear hW
  refine (waits2_ok ms _ gs gg W (HV.out.fr FA.out) (by omega) HBG.out).mono ?_
  rintro e w1 ⟨rfl, hf1⟩
  rw [HWT.out]
  have T2 := hid (hf1.heapAt T1.out (fun x => x))
  have G2 := hid (hf1.heapAt G1.out (fun x => x))
  have F2 := hid (FA.out.trans hf1)
  clear hf1
  obtain ⟨⟨b0, b1, b2, b3, b4⟩, z0, z1, z2, z3, z4⟩ := blk5 T2.out
  have hz : (((k : Int) + 1 == 0) : Bool) = false := by simp; omega
  go_wp2_with fail
  refine (is2_ok hmx _).mono ?_
  rw [show isB (chs ms) ((k : Int) + 1) = true from by unfold isB; rw [getC_in hk]; rfl]
  rintro e w' ⟨rfl, rfl⟩
  go_wp2_with fail
  refine (copy_ok ms _ w1 (HV.out.fr F2.out) (by omega) (fun m hm => HBG.out _ (List.mem_map.2 ⟨m, hm, rfl⟩))).mono ?_
  rintro e w2 ⟨ov, ms2, rfl, hc2, ho2, hf2⟩
  clear b0 b1 b2 b3 b4 z0 z1 z2 z3 z4
  have T3 := hid (hf2.heapAt T2.out (fun x => x))
  have G3 := hid (hf2.heapAt G2.out (fun x => x))
  have F3 := hid (F2.out.trans hf2)
  have O3 := hid (ho2.mono (F' := New w) (fun q hq => Nat.le_trans F2.out.size hq))
  have C2 := hid hc2
  have hlen2 : ms2.length = ms.length := by rw [← chs_len, hc2, chs_len]
  obtain ⟨m2, hk2, hm2⟩ : ∃ m2, ms2[k]? = some m2 ∧ m2.ch = ⟨cap, vals, snd, x :: r, false⟩ := by
    have h1 : (chs ms2)[k]? = some ⟨cap, vals, snd, x :: r, false⟩ := by rw [hc2]; exact hk
    unfold chs at h1
    rw [List.getElem?_map] at h1
    obtain ⟨m2, h2, h3⟩ := Option.map_eq_some_iff.1 h1
    exact ⟨m2, h2, h3⟩
  obtain ⟨ch2, vv, sv, rv⟩ := m2
  simp only at hm2
  subst hm2
  have HBC := hid (HBG.out _ (List.mem_of_getElem? hk))
  obtain ⟨hbv, hbs, hbr⟩ : vals.length ≤ 4194304 ∧ snd.length ≤ 4194304 ∧ (x :: r : List Wt).length ≤ 4194304 := HBC.out
  have HK := hid hk
  have HK2 := hid hk2
  have HLN := hid hlen2
  have hlt := lt_of_get hk2
  have hkb : k < 1024 := by omega
  obtain ⟨L, cp, hov, hFL, hLl, c0', c1, c2, c3, c4, hfz⟩ := O3.out.at hk2
  subst hov
  have HFZ := hid hfz
  have OM := hid (O3.out.each _ (List.mem_of_getElem? hk2))
  obtain ⟨VA, vc, ev, _, _, _⟩ := OM.out.vals.read (n := vals.length) (by decide) (ints_len _)
  obtain ⟨SA, sc, es, _, _, _⟩ := OM.out.snd.read (n := snd.length) (by decide) (wts_len _)
  obtain ⟨RA, rc, er, _, _, _⟩ := OM.out.rcv.read (n := r.length + 1) (by decide) (wts_len _)
  simp only at ev es er c0' c1 c2 c3 c4
  subst ev es er
  have hTl := heap_lt T3.out
  have hGl : w.heap.size < w2.heap.size := by omega
  obtain ⟨⟨b0, b1, b2, b3, b4⟩, z0, z1, z2, z3, z4⟩ := blk5 T3.out
  have T4 := hid (((Fr.refl (S := E0) (w := w2)).alloc (.cells #[.int .i64 cap, .slice VA vals.length vc, .slice SA snd.length sc, .slice RA (r.length + 1) rc, .bool false] 67)).heapAt T3.out (fun x => x))
  have F4 := hid (F3.out.alloc (.cells #[.int .i64 cap, .slice VA vals.length vc, .slice SA snd.length sc, .slice RA (r.length + 1) rc, .bool false] 67))
  clear hc2 ho2 hf2 hk hk2 hlen2 hfz
  rcases OM.out.rcv.form (n := r.length + 1) (by decide) (wts_len _) with ⟨_, h0, _⟩ | ⟨br, p3, hv3, _, hb3, hn3, _, hr3, _⟩
  · omega
  injection hv3 with e1 e2 e3
  subst e1 e3
  clear e2
  obtain ⟨d0, d1, d2, d3⟩ := hr3.wt (k := 0) (x := x) rfl
  simp only [Nat.zero_add, Nat.zero_mul] at d0 d1 d2 d3
  have hbr' : r.length ≤ 4194304 := by simp at hbr; omega
  have hrp : (0 : Int) < (r.length : Int) + 1 := by omega
  clear hr3
  go_wp2_with fail
  have hx := hid (heap_alloc_new (w2.alloc (.cells #[.int .i64 cap, .slice VA vals.length vc, .slice SA snd.length sc, .slice (some ⟨br, 0, none⟩) (r.length + 1) rc, .bool false] 67)) (.cells #[.int .i64 x.s, .int .i64 x.g, .int .i64 x.c, .int .i64 x.v] 114))
  simp only [World.size_alloc] at hx
  have T5 := hid (((Fr.refl (S := E0)).alloc (.cells #[.int .i64 x.s, .int .i64 x.g, .int .i64 x.c, .int .i64 x.v] 114)).heapAt T4.out (fun x => x))
  have FB := hid (((Fr.refl (S := E0) (w := w2)).alloc (.cells #[.int .i64 cap, .slice VA vals.length vc, .slice SA snd.length sc, .slice (some ⟨br, 0, none⟩) (r.length + 1) rc, .bool false] 67)).alloc (.cells #[.int .i64 x.s, .int .i64 x.g, .int .i64 x.c, .int .i64 x.v] 114))
  have HX := hid hx.out
  clear hx
  generalize ((w2.alloc _).alloc _) = W4 at *
  refine (leave2_ok ms2 _ x.s x.g W4 ((O3.out.rd).fr FB.out) (by have := HLN.out; omega) (by rw [C2.out]; exact HBG.out)).mono ?_
  rintro e w5 ⟨v5, ms5, rfl, hc5, ho5, hf5⟩
  rw [C2.out] at hc5
  have F5 := hid ((F3.out.trans FB.out).trans hf5)
  have O5 := hid (ho5.mono (F' := New w) (fun q hq => Nat.le_trans (F3.out.trans FB.out).size hq))
  have C5 := hid hc5
  obtain ⟨A5, n5, c5, rfl⟩ := ho5.row.shape
  have X5 := hid (hf5.heapAt HX.out (fun x => x))
  have T6 := hid (hf5.heapAt T5.out (fun x => x))
  obtain ⟨x0, x1, x2, x3⟩ := cell4 X5.out
  clear b0 b1 b2 b3 b4 z0 z1 z2 z3 z4 ho5 hf5 hc5
  have R5 := hid (rowNew w5 w F5.out.size [⟨x.s, x.g, x.c, val, true, 0⟩] (show 1 ≤ maxLen by decide) _ rfl)
  have T7 := hid (((Fr.refl (S := E0)).alloc (.cells #[.int .i64 x.s, .int .i64 x.g, .int .i64 x.c, .int .i64 val, .bool true, .int .i64 0] 39)).heapAt T6.out (fun x => x))
  have hT6l := heap_lt T6.out
  obtain ⟨⟨b0, b1, b2, b3, b4⟩, z0, z1, z2, z3, z4⟩ := blk5 T6.out
  simp only [tup2]
  go_wp2_with fail
  go_region
  all_goals
    go_wp2_with fail
    exact fin49 (m := { ok := true, woken := [⟨x.s, x.g, x.c, val, true, 0⟩] }) rfl rfl rfl rfl (((Fr.refl (S := E0)).alloc _).drew.heapAt (set5_heap T6.out _ _ _ _ _) (fun x => x)) ⟨_, _, rfl, .inr ⟨_, C5.out, (O5.out.set5 T6.out _ _ _ _ _).fr ((Fr.refl (S := E0)).alloc _).drew (fun _ _ x => x)⟩, rowNew5 w5 w F5.out.size [⟨x.s, x.g, x.c, val, true, 0⟩] (show 1 ≤ maxLen by decide) _ rfl _ _ _ _ _ _, ((fr_new5 F5.out (Nat.le_succ _) _ _ _ _ _).alloc _).drew⟩
set_option maxRecDepth 8000 in
set_option maxHeartbeats 4000000 in
theorem rsend_buffers {w : World} {v : Value} {ms : List CM} (hv : RdCs w v ms) (hn : ms.length ≤ 1024) (hbig : ∀ c ∈ chs ms, BigC c) (gs gg val : Int) (hw : waitsL gs gg (chs ms) = false) {k : Nat} {cap : Int} {vals : List Int} {snd : List Wt} (hk : (chs ms)[k]? = some ⟨cap, vals, snd, [], false⟩) (hb : (vals.length : Int) < cap) :
    Calls Try.prog 49 #[v, .int .i64 ((k : Int) + 1), .agg #[.int .i64 gs, .int .i64 gg], .int .i64 val] w (RMvPost w v (chs ms) ((chs ms).set k ⟨cap, vals ++ [val], snd, [], false⟩) { ok := true } 0) := by
  have HV := hid hv
  have HBG := hid hbig
  have HWT := hid hw
  obtain ⟨A, c0, rfl, hmx, _, _⟩ := hv.form
  clear hv hbig hw
  go_enter Try.func49, Try.ntmps49
  go_wp2_with fail
  generalize hW : ((w.alloc (Obj.cells #[Value.int IntKind.i64 gs, Value.int IntKind.i64 gg] 37)).alloc _) = W
  have FA := hid (show Fr E0 w W by rw [← hW]; exact (Fr.refl.alloc _).alloc _)
  have T1 := hid (show W.heap[w.heap.size + 1]? = some (.cells #[Value.bool false, Value.int IntKind.i64 0, Value.bool false, Value.int IntKind.i64 0, Value.slice none 0 0] 32 (0, 0)) by rw [← hW]; exact heap_alloc2_new w _ _)
  have G1 := hid (show W.heap[w.heap.size]? = some (.cells #[Value.int IntKind.i64 gs, Value.int IntKind.i64 gg] 37 (0, 0)) by rw [← hW]; exact heap_alloc2_old w _ _)
  clear hW
  refine (waits2_ok ms _ gs gg W (HV.out.fr FA.out) (by omega) HBG.out).mono ?_
  rintro e w1 ⟨rfl, hf1⟩
  rw [HWT.out]
  have T2 := hid (hf1.heapAt T1.out (fun x => x))
  have G2 := hid (hf1.heapAt G1.out (fun x => x))
  have F2 := hid (FA.out.trans hf1)
  clear hf1
  obtain ⟨⟨b0, b1, b2, b3, b4⟩, z0, z1, z2, z3, z4⟩ := blk5 T2.out
  have hz : (((k : Int) + 1 == 0) : Bool) = false := by simp; omega
  go_wp2_with fail
  refine (is2_ok hmx _).mono ?_
  rw [show isB (chs ms) ((k : Int) + 1) = true from by unfold isB; rw [getC_in hk]; rfl]
  rintro e w' ⟨rfl, rfl⟩
  go_wp2_with fail
  refine (copy_ok ms _ w1 (HV.out.fr F2.out) (by omega) (fun m hm => HBG.out _ (List.mem_map.2 ⟨m, hm, rfl⟩))).mono ?_
  rintro e w2 ⟨ov, ms2, rfl, hc2, ho2, hf2⟩
  clear b0 b1 b2 b3 b4 z0 z1 z2 z3 z4
  have T3 := hid (hf2.heapAt T2.out (fun x => x))
  have G3 := hid (hf2.heapAt G2.out (fun x => x))
  have F3 := hid (F2.out.trans hf2)
  have O3 := hid (ho2.mono (F' := New w) (fun q hq => Nat.le_trans F2.out.size hq))
  have C2 := hid hc2
  have hlen2 : ms2.length = ms.length := by rw [← chs_len, hc2, chs_len]
  obtain ⟨m2, hk2, hm2⟩ : ∃ m2, ms2[k]? = some m2 ∧ m2.ch = ⟨cap, vals, snd, [], false⟩ := by
    have h1 : (chs ms2)[k]? = some ⟨cap, vals, snd, [], false⟩ := by rw [hc2]; exact hk
    unfold chs at h1
    rw [List.getElem?_map] at h1
    obtain ⟨m2, h2, h3⟩ := Option.map_eq_some_iff.1 h1
    exact ⟨m2, h2, h3⟩
  obtain ⟨ch2, vv, sv, rv⟩ := m2
  simp only at hm2
  subst hm2
  have HBC := hid (HBG.out _ (List.mem_of_getElem? hk))
  obtain ⟨hbv, hbs, hbr⟩ : vals.length ≤ 4194304 ∧ snd.length ≤ 4194304 ∧ ([] : List Wt).length ≤ 4194304 := HBC.out
  have HK := hid hk
  have HK2 := hid hk2
  have HLN := hid hlen2
  have hlt := lt_of_get hk2
  have hkb : k < 1024 := by omega
  obtain ⟨L, cp, hov, hFL, hLl, c0', c1, c2, c3, c4, hfz⟩ := O3.out.at hk2
  subst hov
  have HFZ := hid hfz
  have OM := hid (O3.out.each _ (List.mem_of_getElem? hk2))
  obtain ⟨VA, vc, ev, _, _, _⟩ := OM.out.vals.read (n := vals.length) (by decide) (ints_len _)
  obtain ⟨SA, sc, es, _, _, _⟩ := OM.out.snd.read (n := snd.length) (by decide) (wts_len _)
  obtain ⟨RA, rc, er, _, _, _⟩ := OM.out.rcv.read (n := 0) (by decide) (wts_len _)
  simp only at ev es er c0' c1 c2 c3 c4
  subst ev es er
  have hTl := heap_lt T3.out
  have hGl : w.heap.size < w2.heap.size := by omega
  obtain ⟨⟨b0, b1, b2, b3, b4⟩, z0, z1, z2, z3, z4⟩ := blk5 T3.out
  have T4 := hid (((Fr.refl (S := E0) (w := w2)).alloc (.cells #[.int .i64 cap, .slice VA vals.length vc, .slice SA snd.length sc, .slice RA 0 rc, .bool false] 67)).heapAt T3.out (fun x => x))
  have F4 := hid (F3.out.alloc (.cells #[.int .i64 cap, .slice VA vals.length vc, .slice SA snd.length sc, .slice RA 0 rc, .bool false] 67))
  clear hc2 ho2 hf2 hk hk2 hlen2 hfz
  obtain ⟨i0, hi0, hz0, hz1, hz2⟩ := info_parts info2'
  have g0 := cell_of_row w2 _ 0 _ _ _ G3.out
  have g1 := cell_of_row w2 _ 1 _ _ _ G3.out
  have hf0 := HFZ.out (k * 5 + 1)
  have F5a := hid (((Fr.refl (S := E0) (w := w2)).alloc (.cells #[.int .i64 cap, .slice VA vals.length vc, .slice SA snd.length sc, .slice RA 0 rc, .bool false] 67)))
  have F5b := hid (F5a.out.alloc (.cells #[.int .i64 val] 2))
  have OB := hid (O3.out.fr F5b.out (fun _ _ x => x))
  have hown0 := hid (((OM.out.vals.fr F5b.out (fun _ _ x => x))).own (n := vals.length) (by decide) (ints_len _))
  have hnL : (Value.slice VA vals.length vc).ownBlock ≠ some L := fun hx => O3.out.row.ne_type OM.out.vals (by decide) rfl hx
  have HNL := hid hnL
  clear hnL
  have hTL1 : ¬ L = w.heap.size + 1 := ne32 O3.out.row T3.out
  have hTL2 : ¬ w.heap.size + 1 = L := fun e => hTL1 e.symm
  go_wp2_with (at_builtin; (refine wpList_append_lies _ rfl (.tmp 74) (.tmp 76) 22 rfl 0 2 i0 (.int .i64 0) 1 8 Try.underlying22 hi0 hz0 hz1 hz2 rfl (by decide) (.slice VA vals.length vc) vals.length (ints vals) rfl hown0.out ⟨w2.heap.size + 1, 0, none⟩ 1 1 [.int .i64 val] rfl rfl (World.news_of_block (newAt2 w2 _ _)) (by simp [Value.oneCell']) (by decide) (by unfold maxLen; omega) (by omega) (Nat.zero_le _) (w2.heap.size + 1 + 1) (by simp) ?_); intro gb cp3 w3 hown3 hgrow3 hat3 hlt3; have HN := hid (And.intro hown3 (And.intro hgrow3 hat3)); have x1 : w3.cell? ⟨L, k * 5 + 1, none⟩ = some (.slice VA vals.length vc) := hgrow3.cell (F5b.out.cell c1 (fun x => x)) (fun e => HNL.out e.symm); have x2 : w3.frozen? ⟨L, k * 5 + 1, none⟩ = false := frz (OB.out.row.fr (Fr.refl.grown hgrow3 (S := fun q => (Value.slice VA vals.length vc).ownBlock = some q) (fun q hq => .inl hq)) (fun q hq e => HNL.out (by simp [Value.ownBlock] at hq; subst hq; exact e))) _; have T5 := hid (keep32 (F5b.out.heapAt T3.out (fun x => x)) (OM.out.vals.fr F5b.out (fun _ _ x => x)) (by decide) hgrow3); obtain ⟨⟨p0, p1, p2, p3, p4⟩, s0, s1, s2, s3, s4⟩ := blk5 T5.out; clear hown3 hgrow3 hat3 hlt3)
  have FX := hid (Fr.refl.grown HN.out.2.1 (S := fun q => (Value.slice VA vals.length vc).ownBlock = some q) (fun q hq => .inl hq))
  have O6 := hid (OwnCs.putV (w1 := w3) (l' := vals ++ [val]) (v' := .slice (some ⟨gb, 0, none⟩) (vals.length + 1) cp3) OB.out HK2.out FX.out (fun _ hq => hq) ⟨⟨_, by rw [ints_app]; exact HN.out.1⟩, fun q hq => by
    simp [Value.ownBlock] at hq; subst hq
    rcases HN.out.2.2 with e | e
    · exact OM.out.vals.2 _ e
    · have := F3.out.size; unfold New; omega⟩ (fun q hq => by
    simp [Value.ownBlock] at hq; subst hq
    rcases HN.out.2.2 with e | e
    · exact .inl e
    · exact .inr (by simp; omega)))
  have F6 := hid (((F3.out.trans F5b.out).trans' FX.out (fun q hq => .inr (OM.out.vals.2 q hq))).setCell (p := ⟨L, k * 5 + 1, none⟩) (.slice (some ⟨gb, 0, none⟩) (vals.length + 1) cp3) (.inr hFL))
  have T6 := hid (show (w3.setCell ⟨L, k * 5 + 1, none⟩ (.slice (some ⟨gb, 0, none⟩) (vals.length + 1) cp3)).heap[w.heap.size + 1]? = _ from (heap_setCell_other _ _ _ _ hTL2).trans T5.out)
  exact fin49 (m := { ok := true }) rfl rfl rfl rfl (set5_heap T6.out _ _ _ _ _) ⟨_, _, rfl, .inr ⟨_, by rw [chs_set, C2.out]; rfl, O6.out.set5 T6.out _ _ _ _ _⟩, RowF.nil, fr_new5 F6.out (Nat.le_succ _) _ _ _ _ _⟩
set_option maxRecDepth 8000 in
set_option maxHeartbeats 4000000 in
theorem rsend_queues {w : World} {v : Value} {ms : List CM} (hv : RdCs w v ms) (hn : ms.length ≤ 1024) (hbig : ∀ c ∈ chs ms, BigC c) (gs gg val : Int) (hw : waitsL gs gg (chs ms) = false) {k : Nat} {cap : Int} {vals : List Int} {snd : List Wt} (hk : (chs ms)[k]? = some ⟨cap, vals, snd, [], false⟩) (hb : ¬ (vals.length : Int) < cap) :
    Calls Try.prog 49 #[v, .int .i64 ((k : Int) + 1), .agg #[.int .i64 gs, .int .i64 gg], .int .i64 val] w (RMvPost w v (chs ms) ((chs ms).set k ⟨cap, vals, snd ++ [⟨gs, gg, 0, val⟩], [], false⟩) { waits := true } 0) := by
  have HV := hid hv
  have HBG := hid hbig
  have HWT := hid hw
  obtain ⟨A, c0, rfl, hmx, _, _⟩ := hv.form
  clear hv hbig hw
  go_enter Try.func49, Try.ntmps49
  go_wp2_with fail
  generalize hW : ((w.alloc (Obj.cells #[Value.int IntKind.i64 gs, Value.int IntKind.i64 gg] 37)).alloc _) = W
  have FA := hid (show Fr E0 w W by rw [← hW]; exact (Fr.refl.alloc _).alloc _)
  have T1 := hid (show W.heap[w.heap.size + 1]? = some (.cells #[Value.bool false, Value.int IntKind.i64 0, Value.bool false, Value.int IntKind.i64 0, Value.slice none 0 0] 32 (0, 0)) by rw [← hW]; exact heap_alloc2_new w _ _)
  have G1 := hid (show W.heap[w.heap.size]? = some (.cells #[Value.int IntKind.i64 gs, Value.int IntKind.i64 gg] 37 (0, 0)) by rw [← hW]; exact heap_alloc2_old w _ _)
  clear hW
  refine (waits2_ok ms _ gs gg W (HV.out.fr FA.out) (by omega) HBG.out).mono ?_
  rintro e w1 ⟨rfl, hf1⟩
  rw [HWT.out]
  have T2 := hid (hf1.heapAt T1.out (fun x => x))
  have G2 := hid (hf1.heapAt G1.out (fun x => x))
  have F2 := hid (FA.out.trans hf1)
  clear hf1
  obtain ⟨⟨b0, b1, b2, b3, b4⟩, z0, z1, z2, z3, z4⟩ := blk5 T2.out
  have hz : (((k : Int) + 1 == 0) : Bool) = false := by simp; omega
  go_wp2_with fail
  refine (is2_ok hmx _).mono ?_
  rw [show isB (chs ms) ((k : Int) + 1) = true from by unfold isB; rw [getC_in hk]; rfl]
  rintro e w' ⟨rfl, rfl⟩
  go_wp2_with fail
  refine (copy_ok ms _ w1 (HV.out.fr F2.out) (by omega) (fun m hm => HBG.out _ (List.mem_map.2 ⟨m, hm, rfl⟩))).mono ?_
  rintro e w2 ⟨ov, ms2, rfl, hc2, ho2, hf2⟩
  clear b0 b1 b2 b3 b4 z0 z1 z2 z3 z4
  have T3 := hid (hf2.heapAt T2.out (fun x => x))
  have G3 := hid (hf2.heapAt G2.out (fun x => x))
  have F3 := hid (F2.out.trans hf2)
  have O3 := hid (ho2.mono (F' := New w) (fun q hq => Nat.le_trans F2.out.size hq))
  have C2 := hid hc2
  have hlen2 : ms2.length = ms.length := by rw [← chs_len, hc2, chs_len]
  obtain ⟨m2, hk2, hm2⟩ : ∃ m2, ms2[k]? = some m2 ∧ m2.ch = ⟨cap, vals, snd, [], false⟩ := by
    have h1 : (chs ms2)[k]? = some ⟨cap, vals, snd, [], false⟩ := by rw [hc2]; exact hk
    unfold chs at h1
    rw [List.getElem?_map] at h1
    obtain ⟨m2, h2, h3⟩ := Option.map_eq_some_iff.1 h1
    exact ⟨m2, h2, h3⟩
  obtain ⟨ch2, vv, sv, rv⟩ := m2
  simp only at hm2
  subst hm2
  have HBC := hid (HBG.out _ (List.mem_of_getElem? hk))
  obtain ⟨hbv, hbs, hbr⟩ : vals.length ≤ 4194304 ∧ snd.length ≤ 4194304 ∧ ([] : List Wt).length ≤ 4194304 := HBC.out
  have HK := hid hk
  have HK2 := hid hk2
  have HLN := hid hlen2
  have hlt := lt_of_get hk2
  have hkb : k < 1024 := by omega
  obtain ⟨L, cp, hov, hFL, hLl, c0', c1, c2, c3, c4, hfz⟩ := O3.out.at hk2
  subst hov
  have HFZ := hid hfz
  have OM := hid (O3.out.each _ (List.mem_of_getElem? hk2))
  obtain ⟨VA, vc, ev, _, _, _⟩ := OM.out.vals.read (n := vals.length) (by decide) (ints_len _)
  obtain ⟨SA, sc, es, _, _, _⟩ := OM.out.snd.read (n := snd.length) (by decide) (wts_len _)
  obtain ⟨RA, rc, er, _, _, _⟩ := OM.out.rcv.read (n := 0) (by decide) (wts_len _)
  simp only at ev es er c0' c1 c2 c3 c4
  subst ev es er
  have hTl := heap_lt T3.out
  have hGl : w.heap.size < w2.heap.size := by omega
  obtain ⟨⟨b0, b1, b2, b3, b4⟩, z0, z1, z2, z3, z4⟩ := blk5 T3.out
  have T4 := hid (((Fr.refl (S := E0) (w := w2)).alloc (.cells #[.int .i64 cap, .slice VA vals.length vc, .slice SA snd.length sc, .slice RA 0 rc, .bool false] 67)).heapAt T3.out (fun x => x))
  have F4 := hid (F3.out.alloc (.cells #[.int .i64 cap, .slice VA vals.length vc, .slice SA snd.length sc, .slice RA 0 rc, .bool false] 67))
  clear hc2 ho2 hf2 hk hk2 hlen2 hfz
  obtain ⟨i0, hi0, hz0, hz1, hz2⟩ := info_parts info114
  have g0 := cell_of_row w2 _ 0 _ _ _ G3.out
  have g1 := cell_of_row w2 _ 1 _ _ _ G3.out
  have hf0 := HFZ.out (k * 5 + 2)
  have F5a := hid (((Fr.refl (S := E0) (w := w2)).alloc (.cells #[.int .i64 cap, .slice VA vals.length vc, .slice SA snd.length sc, .slice RA 0 rc, .bool false] 67)))
  have F5b := hid (F5a.out.alloc (.cells #[.int .i64 gs, .int .i64 gg, .int .i64 0, .int .i64 val] 114))
  have OB := hid (O3.out.fr F5b.out (fun _ _ x => x))
  have hown0 := hid (((OM.out.snd.fr F5b.out (fun _ _ x => x))).own (n := snd.length) (by decide) (wts_len _))
  have hnL : (Value.slice SA snd.length sc).ownBlock ≠ some L := fun hx => O3.out.row.ne_type OM.out.snd (by decide) rfl hx
  have HNL := hid hnL
  clear hnL
  have hTL1 : ¬ L = w.heap.size + 1 := ne32 O3.out.row T3.out
  have hTL2 : ¬ w.heap.size + 1 = L := fun e => hTL1 e.symm
  go_wp2_with (at_builtin; (refine wpList_append_lies _ rfl (.tmp 86) (.tmp 90) 65 rfl 0 114 i0 (.agg #[.int .i64 0, .int .i64 0, .int .i64 0, .int .i64 0]) 4 32 Try.underlying65 hi0 hz0 hz1 hz2 rfl (by decide) (.slice SA snd.length sc) snd.length (wts snd) rfl hown0.out ⟨w2.heap.size + 1, 0, none⟩ 1 1 [.int .i64 gs, .int .i64 gg, .int .i64 0, .int .i64 val] rfl rfl (World.news_of_block (newAt2 w2 _ _)) (by simp [Value.oneCell']) (by decide) (by unfold maxLen; omega) (by omega) (Nat.zero_le _) (w2.heap.size + 1 + 1) (by simp) ?_); intro gb cp3 w3 hown3 hgrow3 hat3 hlt3; have HN := hid (And.intro hown3 (And.intro hgrow3 hat3)); have x1 : w3.cell? ⟨L, k * 5 + 2, none⟩ = some (.slice SA snd.length sc) := hgrow3.cell (F5b.out.cell c2 (fun x => x)) (fun e => HNL.out e.symm); have x2 : w3.frozen? ⟨L, k * 5 + 2, none⟩ = false := frz (OB.out.row.fr (Fr.refl.grown hgrow3 (S := fun q => (Value.slice SA snd.length sc).ownBlock = some q) (fun q hq => .inl hq)) (fun q hq e => HNL.out (by simp [Value.ownBlock] at hq; subst hq; exact e))) _; have T5 := hid (keep32 (F5b.out.heapAt T3.out (fun x => x)) (OM.out.snd.fr F5b.out (fun _ _ x => x)) (by decide) hgrow3); obtain ⟨⟨p0, p1, p2, p3, p4⟩, s0, s1, s2, s3, s4⟩ := blk5 T5.out; clear hown3 hgrow3 hat3 hlt3)
  have FX := hid (Fr.refl.grown HN.out.2.1 (S := fun q => (Value.slice SA snd.length sc).ownBlock = some q) (fun q hq => .inl hq))
  have O6 := hid (OwnCs.putS (w1 := w3) (l' := snd ++ [⟨gs, gg, 0, val⟩]) (v' := .slice (some ⟨gb, 0, none⟩) (snd.length + 1) cp3) OB.out HK2.out FX.out (fun _ hq => hq) ⟨⟨_, by rw [wts_app]; exact HN.out.1⟩, fun q hq => by
    simp [Value.ownBlock] at hq; subst hq
    rcases HN.out.2.2 with e | e
    · exact OM.out.snd.2 _ e
    · have := F3.out.size; unfold New; omega⟩ (fun q hq => by
    simp [Value.ownBlock] at hq; subst hq
    rcases HN.out.2.2 with e | e
    · exact .inl e
    · exact .inr (by simp; omega)))
  have F6 := hid (((F3.out.trans F5b.out).trans' FX.out (fun q hq => .inr (OM.out.snd.2 q hq))).setCell (p := ⟨L, k * 5 + 2, none⟩) (.slice (some ⟨gb, 0, none⟩) (snd.length + 1) cp3) (.inr hFL))
  have T6 := hid (show (w3.setCell ⟨L, k * 5 + 2, none⟩ (.slice (some ⟨gb, 0, none⟩) (snd.length + 1) cp3)).heap[w.heap.size + 1]? = _ from (heap_setCell_other _ _ _ _ hTL2).trans T5.out)
  exact fin49 (m := { waits := true }) rfl rfl rfl rfl (set5_heap T6.out _ _ _ _ _) ⟨_, _, rfl, .inr ⟨_, by rw [chs_set, C2.out]; rfl, O6.out.set5 T6.out _ _ _ _ _⟩, RowF.nil, fr_new5 F6.out (Nat.le_succ _) _ _ _ _ _⟩
end Go.Proofs.Yteffmnohgnmanaa

/- rotaref11.Make. -/
namespace Go.Proofs.Yteffmnohgnmanaa
open Go.RowKit
set_option linter.unusedVariables false
attribute [local go_sem ↓] Go.wp_at_zero Go.wp_at_succ
def RMakePost (w : World) (v : Value) (l l' : List Ch) (ch err : Int) (e : Ending) (w' : World) : Prop :=
  ∃ v', e = .returned (tup3 v' (.int .i64 ch) (.int .i64 err)) ∧ OutR w w' v l l' v' ∧ Fr E0 w w'
theorem fin60 {a : Act} {W : World} {Q : Ending → World → Prop} {x y z : Value} (hd : a.defers = []) (h4 : a.tmps.getD 4 undef = x) (h5 : a.tmps.getD 5 undef = y) (h6 : a.tmps.getD 6 undef = z) (hQ : Q (.returned (tup3 x y z)) W) : bodyPost Try.prog Try.f60 Q .ret a W := by
  have h4' : a.tmps[4]?.getD undef = x := by simpa using h4
  have h5' : a.tmps[5]?.getD undef = y := by simpa using h5
  have h6' : a.tmps[6]?.getD undef = z := by simpa using h6
  exact bodyPost_ret (v := tup3 x y z) (by simp [results, Try.results60, go_sem, h4', h5', h6', tup3]) hd hQ
theorem rmake_no {w : World} {v : Value} {ms : List CM} (hv : RdCs w v ms) (hn : ms.length ≤ 1024) (c : Int) (hno : makeNo (chs ms) c = true) :
    Calls Try.prog 60 #[v, .int .i64 c] w (RMakePost w v (chs ms) (chs ms) 0 5) := by
  obtain ⟨A, c0, rfl, hmx, _, _⟩ := hv.form
  clear hv
  have hq : c < 0 ∨ 1024 < c ∨ 1024 ≤ ms.length := by simpa [makeNo, chs_len] using hno
  go_enter Try.func60, Try.ntmps60
  rcases hq with h | h | h
  · go_wp2_with fail
    all_goals exact fin60 rfl rfl rfl rfl ⟨_, rfl, .inl ⟨rfl, rfl⟩, Fr.refl⟩
  · go_wp2_with fail
    all_goals exact fin60 rfl rfl rfl rfl ⟨_, rfl, .inl ⟨rfl, rfl⟩, Fr.refl⟩
  · have h' : (1024 : Int) ≤ (ms.length : Int) := by omega
    go_wp2_with fail
    all_goals exact fin60 rfl rfl rfl rfl ⟨_, rfl, .inl ⟨rfl, rfl⟩, Fr.refl⟩
set_option maxRecDepth 8000 in
set_option maxHeartbeats 1000000 in
theorem rmake_ok {w : World} {v : Value} {ms : List CM} (hv : RdCs w v ms) (hn : ms.length ≤ 1024) (hbig : ∀ c ∈ chs ms, BigC c) (c : Int) (hno : makeNo (chs ms) c = false) :
    Calls Try.prog 60 #[v, .int .i64 c] w (RMakePost w v (chs ms) (chs ms ++ [newCh c]) (ms.length + 1) 0) := by
  have HV := hid hv
  have HBG := hid hbig
  obtain ⟨A, c0, rfl, hmx, _, _⟩ := hv.form
  have h1 : ¬ c < 0 := fun x => by simp [makeNo, x] at hno
  have h2 : ¬ 1024 < c := fun x => by simp [makeNo, x] at hno
  have h3 : ¬ (1024 : Int) ≤ (ms.length : Int) := fun x => by simp [makeNo, chs_len] at hno; omega
  obtain ⟨i0, hi0, hz0, hz1, hz2⟩ := info_parts info67
  clear hv hbig hno
  go_enter Try.func60, Try.ntmps60
  go_wp2_with fail
  refine (copy_ok ms _ w HV.out (by omega) (fun m hm => HBG.out _ (List.mem_map.2 ⟨m, hm, rfl⟩))).mono ?_
  rintro e w2 ⟨v2, ms2, rfl, hch2, hown2, hf2⟩
  have hl2 : ms2.length = ms.length := by have := congrArg List.length hch2; simpa [chs_len] using this
  obtain ⟨A2, k2, c2, rfl⟩ := hown2.row.shape
  have O2 := hid (hown2.fr ((Fr.refl (S := E0)).alloc (.cells #[.int .i64 c, .slice none 0 0, .slice none 0 0, .slice none 0 0, .bool false] 67)) (fun _ _ x => x))
  have F2 := hid hf2
  have HC2 := hid hch2
  have hs2 := hf2.size
  clear hown2 hf2 hch2
  go_wp2_with (at_builtin; (refine wpList_append_own_at _ rfl (.tmp 21) (.tmp 24) 52 rfl 0 67 i0 (.agg #[.int .i64 0, .slice none 0 0, .slice none 0 0, .slice none 0 0, .bool false]) 5 88 Try.underlying52 hi0 hz0 hz1 hz2 rfl (by decide) _ ms2.length (ms2.flatMap CM.cells) rfl (O2.out.row.own (by decide) (cms_len ms2)) ⟨w2.heap.size, 0, none⟩ 1 1 [.int .i64 c, .slice none 0 0, .slice none 0 0, .slice none 0 0, .bool false] rfl rfl (World.news_of_block (heap_alloc_new w2 _)) (by simp [Value.oneCell']) (by unfold maxLen; omega) (by omega) (Nat.zero_le _) ?_); intro v' w3 hown3 hgrow3 hnil3 hat3; have hl0 : ms.length + 1 = ms2.length + 1 := (by omega); have O3 := hid (O2.out.push (m := ⟨newCh c, .slice none 0 0, .slice none 0 0, .slice none 0 0⟩) ⟨RowF.nil, RowF.nil, RowF.nil⟩ (by show ([] : List Nat).Nodup; exact List.nodup_nil) (fun k hk => absurd hk (by show ¬ k ∈ ([] : List Nat); exact List.not_mem_nil)) hown3 hgrow3 hat3 (show w.heap.size ≤ _ from (F2.out.alloc _).size)); have F3 := hid ((F2.out.alloc (.cells #[.int .i64 c, .slice none 0 0, .slice none 0 0, .slice none 0 0, .bool false] 67)).grown hgrow3 (fun q hq => .inr (O2.out.row.2 q hq))); clear hown3 hgrow3 hnil3 hat3; obtain ⟨N, hN⟩ : ∃ N, N = ms2.length + 1 := ⟨_, rfl⟩; obtain ⟨A3, c3, rfl, hnc3, hm3, _⟩ := O3.out.row.read (n := N) (by decide) (by have h8 := cms_len ms2; rw [cms_len, List.length_append, hN]; rfl); have hm3x : N ≤ 1025 := (by omega); have HN := hid (show (N : Int) = (ms.length : Int) + 1 by omega); clear hN hl0 hnc3 hm3)
  refine fin60 (x := .slice A3 N c3) (y := .int .i64 N) (z := .int .i64 0) rfl rfl rfl rfl ?_
  exact ⟨_, by rw [HN.out], .inr ⟨_, by rw [chs_push, HC2.out], O3.out⟩, F3.out⟩
end Go.Proofs.Yteffmnohgnmanaa
/- rotaref11: Wait in one contract, Fits; Send, Recv and Make in one contract each. -/
namespace Go.Proofs.Yteffmnohgnmanaa
open Go.RowKit
set_option linter.unusedVariables false
def RWaitPost (w : World) (v : Value) (l l' : List Ch) (t : Int) (e : Ending) (w' : World) : Prop := ∃ v', e = .returned (tup2 v' (.int .i64 t)) ∧ OutR w w' v l l' v' ∧ Fr E0 w w'
theorem getK {ms : List CM} {k : Nat} {m : CM} (hk : ms[k]? = some m) : (chs ms)[k]? = some ⟨m.ch.cap, m.ch.vals, m.ch.snd, m.ch.rcv, m.ch.cl⟩ := chs_get hk
theorem rwait_in {w : World} {v : Value} {ms : List CM} (hv : RdCs w v ms) (hn : ms.length ≤ 1024) (hbig : ∀ c ∈ chs ms, BigC c) (x : Wt) (send : Bool) {k : Nat} {m : CM} (hk : ms[k]? = some m) :
    Calls Try.prog 63 #[v, .int .i64 ((k : Int) + 1), x.val, .bool send] w (RNewPost w (waitL (chs ms) ((k : Int) + 1) x send).1 0) := by
  have hg := getC_in (chs_get hk)
  cases send with
  | true =>
    have e : (waitL (chs ms) ((k : Int) + 1) x true).1 = (chs ms).set k ⟨m.ch.cap, m.ch.vals, m.ch.snd ++ [x], m.ch.rcv, m.ch.cl⟩ := by unfold waitL; rw [hg]; simp [setK_k]
    rw [e]; exact rwait_sends hv hn hbig x (getK hk)
  | false =>
    have e : (waitL (chs ms) ((k : Int) + 1) x false).1 = (chs ms).set k ⟨m.ch.cap, m.ch.vals, m.ch.snd, m.ch.rcv ++ [{ x with v := 0 }], m.ch.cl⟩ := by unfold waitL; rw [hg]; simp [setK_k]
    rw [e]; exact rwait_recvs hv hn hbig x (getK hk)
theorem waitL_no {l : List Ch} {ch : Int} (x : Wt) (send : Bool) (hi : isB l ch = false) : waitL l ch x send = (l, trapC l ch) := by unfold waitL; rw [noC hi]
theorem waitL_trap {l : List Ch} {k : Nat} {c : Ch} (x : Wt) (send : Bool) (hk : l[k]? = some c) : (waitL l ((k : Int) + 1) x send).2 = 0 := by
  unfold waitL; rw [getC_in hk]; cases send <;> rfl
theorem rwait_all {w : World} {v : Value} {ms : List CM} (hv : RdCs w v ms) (hn : ms.length ≤ 1024) (hbig : ∀ c ∈ chs ms, BigC c) (ch : Int) (x : Wt) (send : Bool) :
    Calls Try.prog 63 #[v, .int .i64 ch, x.val, .bool send] w (RWaitPost w v (chs ms) (waitL (chs ms) ch x send).1 (waitL (chs ms) ch x send).2) := by
  cases hi : isB (chs ms) ch with
  | false =>
    rw [waitL_no x send hi]
    exact (rwait_no hv x ch send hi).mono fun e w' h => ⟨v, h.1, .inl ⟨rfl, rfl⟩, h.2⟩
  | true =>
    obtain ⟨k, m, rfl, hk⟩ := someC hi
    rw [waitL_trap x send (chs_get hk)]
    exact (rwait_in hv hn hbig x send hk).mono fun e w' ⟨v', ms', h1, h2, h3, h4⟩ => ⟨v', h1, .inr ⟨ms', h2, h3⟩, h4⟩
/-- May a goroutine wait so? -/
def fitsL (l : List Ch) (ch : Int) (x : Wt) (send : Bool) : Bool := match getC (waitL l ch x send).1 ch with | none => true | some c => mayC c
theorem rwait_agg {w : World} {v : Value} {ms : List CM} (hv : RdCs w v ms) (hn : ms.length ≤ 1024) (hbig : ∀ c ∈ chs ms, BigC c) (s g c xv : Int) (send : Bool) {k : Nat} {m : CM} (hk : ms[k]? = some m) :
    Calls Try.prog 63 #[v, .int .i64 ((k : Int) + 1), .agg #[.int .i64 s, .int .i64 g, .int .i64 c, .int .i64 xv], .bool send] w (RNewPost w (waitL (chs ms) ((k : Int) + 1) ⟨s, g, c, xv⟩ send).1 0) := rwait_in hv hn hbig ⟨s, g, c, xv⟩ send hk
theorem may2_agg (cap : Int) (vals : List Int) (snd rcv : List Wt) (cl : Bool) (A1 A2 A3 : Option Addr) (n1 c1 n2 c2 n3 c3 : Nat) (w : World) (h : CM.Rd w ⟨⟨cap, vals, snd, rcv, cl⟩, .slice A1 n1 c1, .slice A2 n2 c2, .slice A3 n3 c3⟩) (h1 : vals.length ≤ 4194305) (h2 : snd.length ≤ 4194305) (h3 : rcv.length ≤ 4194305) :
    Calls Try.prog 77 #[.agg #[.int .i64 cap, .slice A1 n1 c1, .slice A2 n2 c2, .slice A3 n3 c3, .bool cl]] w (Ret (.bool (mayC ⟨cap, vals, snd, rcv, cl⟩)) E0 w) := may2_ok _ w h h1 h2 h3
theorem waitL_len (l : List Ch) (ch : Int) (x : Wt) (send : Bool) : (waitL l ch x send).1.length = l.length := by
  unfold waitL; split
  · rfl
  · split <;> simp [setK]
theorem waitL_big {l : List Ch} (h : ∀ c ∈ l, BigC c) (ch : Int) (x : Wt) (send : Bool) : ∀ c ∈ (waitL l ch x send).1, c.vals.length ≤ 4194305 ∧ c.snd.length ≤ 4194305 ∧ c.rcv.length ≤ 4194305 := by
  intro c hc
  unfold waitL at hc
  split at hc
  · obtain ⟨h1, h2, h3⟩ := h c hc; omega
  rename_i c0 hc0
  obtain ⟨h1, h2, h3⟩ := h c0 (getC_mem hc0)
  split at hc
  all_goals
    rcases List.mem_or_eq_of_mem_set hc with hq | rfl
    · obtain ⟨h1, h2, h3⟩ := h c hq; omega
    · simp; omega
set_option maxRecDepth 8000 in
set_option maxHeartbeats 2000000 in
theorem fits_ok {w : World} {v : Value} {ms : List CM} (hv : RdCs w v ms) (hn : ms.length ≤ 1024) (hbig : ∀ c ∈ chs ms, BigC c) (ch : Int) (x : Wt) (send : Bool) :
    Calls Try.prog 62 #[v, .int .i64 ch, x.val, .bool send] w (Ret (.bool (fitsL (chs ms) ch x send)) E0 w) := by
  have HV := hid hv
  have HBG := hid hbig
  obtain ⟨A, c0, rfl, hmx, _, _⟩ := hv.form
  obtain ⟨s, gn, c, xv⟩ := x
  clear hv hbig
  have FA := hid ((Fr.refl (S := E0) (w := w)).alloc (.cells #[.int .i64 s, .int .i64 gn, .int .i64 c, .int .i64 xv] 114))
  have X1 := hid (heap_alloc_new w (.cells #[.int .i64 s, .int .i64 gn, .int .i64 c, .int .i64 xv] 114))
  cases hi : isB (chs ms) ch with
  | false =>
    have e1 : fitsL (chs ms) ch ⟨s, gn, c, xv⟩ send = true := by unfold fitsL; rw [waitL_no _ _ hi, noC hi]
    rw [e1]
    have HI := hid hi
    clear hi e1
    simp only [Wt.val]
    go_enter Try.func62, Try.ntmps62
    go_wp2_with fail
    refine (is2_ok hmx ch).mono ?_
    rw [HI.out]
    rintro e w' ⟨rfl, rfl⟩
    go_wp2_with fail
    go_ret
    exact ⟨rfl, FA.out⟩
  | true =>
    obtain ⟨k, m, rfl, hk⟩ := someC hi
    have HI := hid hi
    have HK := hid hk
    have hlt := lt_of_get hk
    clear hi hk
    simp only [Wt.val]
    go_enter Try.func62, Try.ntmps62
    go_wp2_with fail
    obtain ⟨y0, y1, y2, y3⟩ := cell4 X1.out
    generalize w.alloc (.cells #[.int .i64 s, .int .i64 gn, .int .i64 c, .int .i64 xv] 114) = W at *
    refine (is2_ok hmx _).mono ?_
    rw [HI.out]
    rintro e w' ⟨rfl, rfl⟩
    go_wp2_with fail
    refine (rwait_agg (HV.out.fr FA.out) hn HBG.out s gn c xv send HK.out).mono ?_
    rintro e w3 ⟨v3, ms3, rfl, hc3, ho3, hf3⟩
    have hlen : ms3.length = ms.length := by rw [← chs_len, hc3, waitL_len, chs_len]
    obtain ⟨m3, hk3⟩ : ∃ m3, ms3[k]? = some m3 := ⟨ms3[k]'(by omega), List.getElem?_eq_getElem _⟩
    have hfit : fitsL (chs ms) ((k : Int) + 1) ⟨s, gn, c, xv⟩ send = mayC m3.ch := by
      unfold fitsL; rw [← hc3, getC_in (chs_get hk3)]
    have hmem : m3.ch ∈ (waitL (chs ms) ((k : Int) + 1) ⟨s, gn, c, xv⟩ send).1 := by rw [← hc3]; exact List.mem_map.2 ⟨m3, List.mem_of_getElem? hk3, rfl⟩
    obtain ⟨q1, q2, q3⟩ := waitL_big HBG.out _ _ _ _ hmem
    have RD3 := hid ((ho3.each m3 (List.mem_of_getElem? hk3)).rd)
    obtain ⟨L, cp, ev, _, _, b0, b1, b2, b3, b4, _⟩ := ho3.at hk3
    subst ev
    have HF := hid hfit
    have F3 := hid (FA.out.trans hf3)
    obtain ⟨⟨cap, vals, snd, rcv, cl⟩, vv, sv, rv⟩ := m3
    obtain ⟨A1, n1, c1, e1, _⟩ := RD3.out.vals
    obtain ⟨A2, n2, c2, e2, _⟩ := RD3.out.snd
    obtain ⟨A3, n3, c3, e3, _⟩ := RD3.out.rcv
    simp only at e1 e2 e3 q1 q2 q3 b0 b1 b2 b3 b4 HF
    subst e1 e2 e3
    have Q := hid (And.intro q1 (And.intro q2 q3))
    have hl3 : k < ms3.length := by omega
    clear hc3 ho3 hf3 hk3 hfit hmem q1 q2 q3 hlen
    simp only [tup2]
    have hkb : k < 1024 := by omega
    go_wp2_with fail
    refine (may2_agg cap vals snd rcv cl _ _ _ _ _ _ _ _ _ w3 RD3.out Q.out.1 Q.out.2.1 Q.out.2.2).mono ?_
    rintro e w4 ⟨rfl, hf4⟩
    have F4 := hid (F3.out.trans hf4)
    clear hf4
    go_wp2_with fail
    go_ret
    exact ⟨by rw [HF.out]; rfl, F4.out⟩
end Go.Proofs.Yteffmnohgnmanaa
