/- One channel more behind a list of channels; (*Chans).State. -/
import Derived.Test.YteffmnohgnmanaaOwn
import Derived.Test.YteffmnohgnmanaaReads
namespace Go.Proofs.Yteffmnohgnmanaa
open Go.RowKit
theorem info67 : (Try.prog.info? 67).map (fun i => (i.zero, i.size, i.bytes)) = some (some (.agg #[.int .i64 0, .slice none 0 0, .slice none 0 0, .slice none 0 0, .bool false]), 5, 88) := by kernel_rfl
theorem OwnCs.push {w w1 : World} {F : Nat → Prop} {v v' : Value} {n : Nat} {ms : List CM} {m : CM} (h : OwnCs w F v ms) (hm : m.Own w F) (hnd : m.blocks.Nodup) (hdis : ∀ g ∈ m.blocks, ∀ q ∈ ms, g ∉ q.blocks)
    (hrow : w1.ownsRow 0 67 5 v' n (ms.flatMap CM.cells ++ m.cells)) (hg : w.grownBy w1 v.ownBlock) (hat : v'.ownBlock = v.ownBlock ∨ v'.ownBlock = some w.heap.size) (hF : F w.heap.size) : OwnCs w1 F v' (ms ++ [m]) := by
  have hsame : ∀ q : CM, q.Own w F → ∀ g ∈ q.blocks, w1.heap[g]? = w.heap[g]? := by
    intro q hq g hgq
    obtain ⟨_, hlt, cur, e, he, hne⟩ := hq.mem hgq
    refine hg.block g hlt (fun hx => ?_)
    obtain ⟨c2, h2⟩ := h.row.heap hx.symm
    rw [he] at h2; injection h2 with h2; injection h2 with _ h2 _; exact hne h2
  refine ⟨?_, ?_, ?_⟩
  · have := RowF.appended (F := F) hrow hat h.row.2 hF
    rw [List.flatMap_append]; simpa using this
  · intro q hq
    rcases List.mem_append.1 hq with hq | hq
    · exact (h.each q hq).same (hsame q (h.each q hq))
    · simp at hq; subst hq; exact hm.same (hsame q hm)
  · rw [List.flatMap_append, List.nodup_append]
    refine ⟨h.apart, by simpa using hnd, ?_⟩
    intro a ha b hb e
    subst e
    obtain ⟨q, hq, hq'⟩ := List.mem_flatMap.1 ha
    simp at hb
    exact hdis a hb q hq hq'
theorem cm_oneCell {w : World} {F : Nat → Prop} {m : CM} (h : m.Own w F) : ∀ u ∈ m.cells, u.oneCell' = true := by
  intro u hu
  obtain ⟨A1, n1, c1, e1⟩ := h.vals.shape
  obtain ⟨A2, n2, c2, e2⟩ := h.snd.shape
  obtain ⟨A3, n3, c3, e3⟩ := h.rcv.shape
  simp only [CM.cells, List.mem_cons, List.not_mem_nil, or_false] at hu
  rcases hu with rfl | rfl | rfl | rfl | rfl
  · rfl
  · rw [e1]; rfl
  · rw [e2]; rfl
  · rw [e3]; rfl
  · rfl
/-- A call that makes channels anew. -/
def MadeCs (l : List Ch) (w : World) (en : Ending) (w' : World) : Prop := ∃ v ms, en = .returned v ∧ chs ms = l ∧ OwnCs w' (New w) v ms ∧ Fr E0 w w'
theorem chs_push (ms : List CM) (m : CM) : chs (ms ++ [m]) = chs ms ++ [m.ch] := by simp [chs]
theorem state_none (w : World) : Calls Try.prog 29 #[.pointer none] w (MadeCs [] w) := by
  go_enter Try.func29, Try.ntmps29
  go_wp2
  go_ret
  exact ⟨_, [], rfl, rfl, OwnCs.nil, Fr.refl⟩
theorem RowF.val {w : World} {F : Nat → Prop} {e sz : Nat} {v : Value} {xs : List Value} (h : RowF w F e sz v xs) : v.oneCell' = true := by
  obtain ⟨A, n, c, rfl⟩ := h.shape; rfl
set_option maxHeartbeats 1000000 in
theorem state_ok {w : World} {g : Nat} {A : Option Addr} {c : Nat} {ms : List CM} (h : RdCh w g A c ms) (hfit : ∀ m ∈ ms, m.ch.Fit) (hn : ms.length ≤ 1024) :
    Calls Try.prog 29 #[.pointer (some ⟨g, 0, none⟩)] w (MadeCs (chs ms) w) := by
  have hh := hid h
  obtain ⟨h1, h2, h3, _, _⟩ := h
  obtain ⟨i0, hi0, hz0, hz1, hz2⟩ := info_parts info67
  have hg := World.block_lt_of_cell? w _ h1
  go_enter Try.func29, Try.ntmps29
  go_wp2_with (go_at_call 53; go_in)
  go_loopw [3, 14] (fun v i wr => ∃ (k : Nat) (ms' : List CM), i = .int .i64 k ∧ k ≤ ms.length ∧ OwnCs wr (New w) v ms' ∧ chs ms' = (chs ms).take k ∧ Fr E0 w wr) (fun _ i _ => ms.length - (intOf i).toNat)
  case atStart => exact ⟨0, [], rfl, Nat.zero_le _, OwnCs.nil, rfl, Fr.refl⟩
  case round =>
    obtain ⟨k, ms', rfl, hk, hown, htk, hfr⟩ := hrel
    have HO := hid hown
    have HT := hid htk
    have HF := hid hfr
    clear hown htk hfr
    by_cases hlt : k < ms.length
    · obtain ⟨m, hm⟩ : ∃ m, ms[k]? = some m := ⟨ms[k], List.getElem?_eq_getElem hlt⟩
      obtain ⟨b, o, rfl, hr⟩ := hh.out.row.cmAt hm
      obtain ⟨g0, g1, g2, g3, g4⟩ := (hr.fr HF.out (fun x => x)).cm hm
      have HM := hid hm
      have HMR := hid ((hh.out.each m (List.mem_of_getElem? hm)).fr HF.out)
      have hmf := hfit m (List.mem_of_getElem? hm)
      have hml : ms'.length = k := by have := congrArg List.length HT.out; rw [chs_len, List.length_take, chs_len] at this; omega
      obtain ⟨A1, n1, c1, e1, _⟩ := HMR.out.vals
      obtain ⟨A2, n2, c2, e2, _⟩ := HMR.out.snd
      obtain ⟨A3, n3, c3, e3, _⟩ := HMR.out.rcv
      obtain ⟨ch, vv, sv, rv⟩ := m
      simp only at e1 e2 e3
      subst e1 e2 e3
      simp only at g0 g1 g2 g3 g4
      clear hr hm
      go_wp2_with fail
      refine (own_ok _ _ (HMR.out.fr (Fr.refl.alloc _)) hmf).mono ?_
      rintro e w1 ⟨⟨ch', v1, v2, v3⟩, rfl, hch, hown1, hnd1, hf1⟩
      simp only at hch
      have hch := hch.symm
      subst hch
      obtain ⟨B1, p1, q1, e1⟩ := hown1.vals.shape
      obtain ⟨B2, p2, q2, e2⟩ := hown1.snd.shape
      obtain ⟨B3, p3, q3, e3⟩ := hown1.rcv.shape
      simp only at e1 e2 e3
      subst e1 e2 e3
      have hsz : w.heap.size ≤ wr.heap.size := HF.out.size
      have FB := hid ((Fr.refl (S := E0) (w := wr)).alloc (.cells #[.int .i64 ch.cap, .slice A1 n1 c1, .slice A2 n2 c2, .slice A3 n3 c3, .bool ch.cl] 67))
      have FC := hid (FB.out.trans hf1)
      have O1 := hid (HO.out.fr FC.out (fun _ _ x => x))
      have M1 := hid (hown1.mono (F' := New w) (fun q hq => by unfold New at *; simp at hq; omega))
      have hdis : Hid (∀ q ∈ (CM.mk ch (.slice B1 p1 q1) (.slice B2 p2 q2) (.slice B3 p3 q3)).blocks, ∀ z ∈ ms', q ∉ z.blocks) := fun q hq z hz hqz => by
        have x1 := (hown1.mem hq).1
        have x2 := ((HO.out.each z hz).mem hqz).2.1
        unfold New at x1; simp at x1; omega
      have FD := hid ((Fr.refl (S := E0) (w := w1)).alloc (.cells #[.int .i64 ch.cap, .slice B1 p1 q1, .slice B2 p2 q2, .slice B3 p3 q3, .bool ch.cl] 67))
      have O2 := hid (O1.out.fr FD.out (fun _ _ x => x))
      have M2 := hid (M1.out.fr FD.out (fun _ _ x => x))
      have hone := hid (cm_oneCell M1.out)
      have hND := hid hnd1
      have hs1 : w.heap.size ≤ w1.heap.size := Nat.le_trans hsz FC.out.size
      clear hown1 hf1 g0 g1 g2 g3 g4 hnd1
      simp only [CM.val]
      go_wp2_with (at_builtin; (refine wpList_append_own_at _ rfl (.tmp 18) (.tmp 21) 52 rfl 0 67 i0 (.agg #[.int .i64 0, .slice none 0 0, .slice none 0 0, .slice none 0 0, .bool false]) 5 88 Try.underlying52 hi0 hz0 hz1 hz2 rfl (by decide) u3 ms'.length (ms'.flatMap CM.cells) rfl (O2.out.row.own (by decide) (cms_len ms')) ⟨w1.heap.size, 0, none⟩ 1 1 [.int .i64 ch.cap, .slice B1 p1 q1, .slice B2 p2 q2, .slice B3 p3 q3, .bool ch.cl] rfl rfl (World.news_of_block (heap_alloc_new w1 _)) hone.out (by unfold maxLen; omega) (by omega) (Nat.zero_le _) ?_); intro v' w2 hown2 hgrow2 hnil2 hat2)
      have O3 := hid (O2.out.push M2.out hND.out hdis.out hown2 hgrow2 hat2 (by unfold New; simp; omega))
      have F3 := hid ((HF.out.trans (FC.out.trans FD.out)).grown hgrow2 (fun q hq => .inr (O2.out.row.2 q hq)))
      clear hown2 hgrow2 hnil2 hat2
      go_wp2
      go_roundw
      case rel => exact ⟨k + 1, _, by simp, by omega, O3.out, by rw [chs_push, HT.out, List.take_add_one, chs_get HM.out]; rfl, F3.out⟩
      case measure => simp [intOf]; omega
    · obtain rfl : k = ms.length := by omega
      clear hlt hk hfit
      go_wp2_with fail
      go_ret
      exact ⟨_, _, rfl, by rw [HT.out, ← chs_len, List.take_length], HO.out, HF.out⟩
end Go.Proofs.Yteffmnohgnmanaa
