/- rotalaw11.spoil: channels that are owned, some of whose cells are written. Printed by wip/gen/spoil.py. -/
import Derived.Test.YteffmnohgnmanaaB4ChannelPlays
namespace Go.Proofs.Yteffmnohgnmanaa
open Go.RowKit
set_option linter.unusedVariables false
theorem flatMap_set_same {α β : Type} {f : α → List β} {l : List α} {i : Nat} {x y : α} (hi : l[i]? = some x) (hf : f y = f x) : (l.set i y).flatMap f = l.flatMap f := by
  have h : (l.set i y).map f = l.map f := by
    rw [List.map_set, hf]
    apply List.ext_getElem?
    intro j
    rw [List.getElem?_set]
    by_cases e : i = j
    · subst e
      have h2 : (l.map f)[i]? = some (f x) := by rw [List.getElem?_map, hi]; rfl
      rw [if_pos rfl, h2, if_pos (by simpa using lt_of_get hi)]
    · rw [if_neg e]
  rw [List.flatMap_def, List.flatMap_def, h]
/-- A row that a channel leads to is written in its place. -/
theorem OwnCs.inner {w w1 : World} {F S : Nat → Prop} {v : Value} {ms : List CM} {i : Nat} {m m' : CM} (h : OwnCs w F v ms) (hi : ms[i]? = some m) (hfr : Fr S w w1) (hS : ∀ k, S k → k ∈ m.blocks) (hown : m'.Own w1 F) (hb : m'.blocks = m.blocks) (hc : m'.cells = m.cells) : OwnCs w1 F v (ms.set i m') := by
  refine ⟨?_, ?_, ?_⟩
  · rw [flatMap_set_same (f := CM.cells) hi hc]
    refine h.row.fr hfr (fun g hg hs => ?_)
    obtain ⟨_, _, cur, e, he, hne⟩ := (h.each m (List.mem_of_getElem? hi)).mem (hS g hs)
    obtain ⟨cur2, hc2⟩ := h.row.heap hg
    rw [he] at hc2; injection hc2 with hc2; injection hc2 with _ hc2 _; exact hne hc2
  · intro q hq
    obtain ⟨iq, hiq⟩ := List.getElem?_of_mem hq
    by_cases e : iq = i
    · subst e
      rw [List.getElem?_set_self (lt_of_get hi)] at hiq
      cases hiq
      exact hown
    · rw [List.getElem?_set_ne (fun x => e x.symm)] at hiq
      exact (h.each q (List.mem_of_getElem? hiq)).fr hfr (fun g hg hs => OwnCs.apart_mem h.apart hi hiq (fun x => e x.symm) (hS g hs) hg)
  · rw [flatMap_set_same (f := CM.blocks) hi hb]; exact h.apart
theorem ints_setS (l : List Int) (j : Nat) (x : Int) : (ints l).set j (.int .i64 x) = ints (l.set j x) := by simp [ints]
def GF (w : World) (F : Nat → Prop) : Nat → Prop := fun k => F k ∨ w.heap.size ≤ k
def BigN (B : Nat) (m : CM) : Prop := m.ch.vals.length ≤ B ∧ m.ch.snd.length ≤ B ∧ m.ch.rcv.length ≤ B
/-- Where a spoiling stands: k channels are through. -/
structure Sp (w : World) (F : Nat → Prop) (v : Value) (N B k : Nat) (wr : World) (ms : List CM) : Prop where
  own : OwnCs wr (GF w F) v ms
  fr : Fr F w wr
  len : ms.length = N
  big : ∀ j m, ms[j]? = some m → k ≤ j → BigN B m
section
variable {w wr w1 : World} {F : Nat → Prop} {v : Value} {N B k i : Nat} {ms : List CM} {m : CM}
theorem Sp.next (h : Sp w F v N B k wr ms) : Sp w F v N B (k + 1) wr ms := ⟨h.own, h.fr, h.len, fun j q hq hj => h.big j q hq (by omega)⟩
theorem Sp.set {m' : CM} {k' : Nat} (h : Sp w F v N B k wr ms) (ho : OwnCs w1 (GF w F) v (ms.set i m')) (hf : Fr F w w1) (hk : k ≤ k') (hb : k' ≤ i → BigN B m') : Sp w F v N B k' w1 (ms.set i m') := by
  refine ⟨ho, hf, by rw [List.length_set]; exact h.len, fun j q hq hj => ?_⟩
  by_cases e : j = i
  · subst e
    have hlt : j < ms.length := by have := lt_of_get hq; rwa [List.length_set] at this
    rw [List.getElem?_set_self hlt] at hq
    cases hq
    exact hb hj
  · rw [List.getElem?_set_ne (fun x => e x.symm)] at hq
    exact h.big j q hq (by omega)
theorem Sp.start (h : OwnCs w F v ms) (hb : ∀ q ∈ ms, BigN B q) : Sp w F v ms.length B 0 w ms :=
  ⟨h.mono (fun _ hk => .inl hk), Fr.refl, rfl, fun j q hq _ => hb q (List.mem_of_getElem? hq)⟩
/-- Where channel k lies. -/
theorem Sp.at (h : Sp w F v N B i wr ms) (hk : ms[k]? = some m) : ∃ L cp, v = .slice (some ⟨L, 0, none⟩) N cp ∧ GF w F L ∧
    wr.cell? ⟨L, k * 5 + 1, none⟩ = some m.vv ∧ wr.cell? ⟨L, k * 5 + 2, none⟩ = some m.sv ∧ wr.cell? ⟨L, k * 5 + 3, none⟩ = some m.rv := by
  obtain ⟨L, cp, h1, h2, _, _, h3, h4, h5, _⟩ := h.own.at hk
  rw [h.len] at h1
  exact ⟨L, cp, h1, h2, h3, h4, h5⟩
theorem Sp.get (h : Sp w F v N B i wr ms) (hk : k < N) : ∃ m, ms[k]? = some m := ⟨_, List.getElem?_eq_getElem (by rw [h.len]; exact hk)⟩
/-- a number of channel k's vals is overwritten -/
theorem Sp.stV {g n c j : Nat} (h : Sp w F v N B k wr ms) (hk : ms[k]? = some m) (hv : m.vv = .slice (some ⟨g, 0, none⟩) n c) (hj : j < m.ch.vals.length) :
    (∃ x, wr.cell? ⟨g, j, none⟩ = some x) ∧ wr.frozen? ⟨g, j, none⟩ = false ∧ ∃ m', Sp w F v N B k (wr.setCell ⟨g, j, none⟩ (.int .i64 (-77))) (ms.set k m') ∧ (ms.set k m')[k]? = some m' ∧ m'.vv = m.vv := by
  have hm := h.own.each m (List.mem_of_getElem? hk)
  obtain ⟨a1, a2⟩ := blocks_apart (nodup_of_flat (f := CM.blocks) h.own.apart (List.mem_of_getElem? hk))
  have hbk : m.vv.ownBlock = some g := by rw [hv]; rfl
  have hG : GF w F g := hm.vals.2 g hbk
  have hcell : ∃ x, wr.cell? ⟨g, j, none⟩ = some x := by
    have h1 := hm.vals
    rw [hv] at h1
    exact Option.isSome_iff_exists.1 (h1.isCell (by rw [ints_len]; omega))
  obtain ⟨w1', hw1⟩ : ∃ w1' : World, w1' = wr.setCell ⟨g, j, none⟩ (.int .i64 (-77)) := ⟨_, rfl⟩
  have hfr : Fr (fun q => m.vv.ownBlock = some q) wr w1' := hw1 ▸ Fr.refl.setCell (p := ⟨g, j, none⟩) _ (.inl hbk)
  have hst0 := hw1
  have hst : RowF w1' (GF w F) 2 1 m.vv (ints (m.ch.vals.set j (-77))) := by
    rw [hw1]
    have h1 := hm.vals
    rw [hv] at h1 ⊢
    have h2 := h1.stored (j := j) (u := .int .i64 (-77)) (by rw [ints_len]; omega)
    rwa [ints_setS] at h2
  refine ⟨hcell, hm.vals.free hbk _, m.setV m.vv (m.ch.vals.set j (-77)), ?_, List.getElem?_set_self (lt_of_get hk), rfl⟩
  rw [← hw1]
  refine h.set (h.own.inner hk hfr (fun q hq => by simp only [CM.blocks, List.mem_append, Option.mem_toList]; exact .inl hq) ⟨hst, hm.snd.fr hfr (fun q hq hq' => (a1 q hq').1 hq), hm.rcv.fr hfr (fun q hq hq' => (a1 q hq').2 hq)⟩ rfl rfl) (hw1 ▸ h.fr.setCell (p := ⟨g, j, none⟩) _ hG) (Nat.le_refl _) (fun hki => ?_)
  obtain ⟨b1, b2, b3⟩ := h.big k m hk (Nat.le_refl _)
  exact ⟨by simp only [CM.setV, List.length_set]; exact b1, b2, b3⟩
/-- one more behind channel k's vals: where the row lay before -/
theorem Sp.apV {L cp gb cp' : Nat} (h : Sp w F (.slice (some ⟨L, 0, none⟩) N cp) N B (k + 1) wr ms) (hk : ms[k]? = some m) (hown : w1.ownsRow 0 2 1 (.slice (some ⟨gb, 0, none⟩) (m.ch.vals.length + 1) cp') (m.ch.vals.length + 1) (ints m.ch.vals ++ [.int .i64 (-78)])) (hgrow : (wr.alloc (.cells #[.int .i64 (-78)] 2)).grownBy w1 m.vv.ownBlock) (hat : m.vv.ownBlock = some gb ∨ gb = wr.heap.size + 1) :
    Hid (Sp w F (.slice (some ⟨L, 0, none⟩) N cp) N B (k + 1) (w1.setCell ⟨L, k * 5 + 1, none⟩ (.slice (some ⟨gb, 0, none⟩) (m.ch.vals.length + 1) cp')) (ms.set k (m.setV (.slice (some ⟨gb, 0, none⟩) (m.ch.vals.length + 1) cp') (m.ch.vals ++ [(-78 : Int)])))) ∧
    w1.cell? ⟨L, k * 5 + 1, none⟩ = some m.vv ∧ w1.cell? ⟨L, k * 5 + 2, none⟩ = some m.sv ∧ w1.cell? ⟨L, k * 5 + 3, none⟩ = some m.rv ∧ w1.frozen? ⟨L, k * 5 + 1, none⟩ = false := by
  have hm := h.own.each m (List.mem_of_getElem? hk)
  have hlt := lt_of_get hk
  have hL : GF w F L := h.own.row.2 L rfl
  have fa : Fr E0 wr (wr.alloc (.cells #[.int .i64 (-78)] 2)) := Fr.refl.alloc _
  have oa := h.own.fr fa (fun _ _ x => x)
  have ma := oa.each m (List.mem_of_getElem? hk)
  have hnL : ∀ q, m.vv.ownBlock = some q → q ≠ L := fun q hq e => by subst e; exact oa.row.ne_type ma.vals (by decide) rfl hq
  have FX : Fr (fun q => m.vv.ownBlock = some q) (wr.alloc (.cells #[.int .i64 (-78)] 2)) w1 := Fr.refl.grown hgrow (fun q hq => .inl hq)
  have hs := h.fr.size
  have F1 : Fr F w w1 := ((h.fr.alloc _).trans' FX (fun q hq => hm.vals.2 q hq))
  obtain ⟨L', cp2, e1, _, c1, c2, c3⟩ := h.at hk
  cases e1
  refine ⟨h.set (OwnCs.putV (w1 := w1) (l' := m.ch.vals ++ [(-78 : Int)]) (v' := .slice (some ⟨gb, 0, none⟩) (m.ch.vals.length + 1) cp') oa hk FX (fun _ hq => hq) ⟨⟨_, by rw [ints_app]; exact hown⟩, fun q hq => by
    simp [Value.ownBlock] at hq; subst hq
    rcases hat with e | e
    · exact hm.vals.2 _ e
    · exact .inr (by omega)⟩ (fun q hq => by
    simp [Value.ownBlock] at hq; subst hq
    rcases hat with e | e
    · exact .inl e
    · exact .inr (by simp; omega))) (F1.setCell (p := ⟨L, k * 5 + 1, none⟩) _ hL) (Nat.le_refl _) (fun hx => absurd hx (by omega)), ?_, ?_, ?_, ?_⟩
  · exact FX.cell (fa.cell c1 (fun x => x)) (fun hq => hnL _ hq rfl)
  · exact FX.cell (fa.cell c2 (fun x => x)) (fun hq => hnL _ hq rfl)
  · exact FX.cell (fa.cell c3 (fun x => x)) (fun hq => hnL _ hq rfl)
  · exact frz (oa.row.fr FX (fun q hq hq' => hnL q hq' (by simp [Value.ownBlock] at hq; exact hq.symm))) _
/-- a number of channel k's snd is overwritten -/
theorem Sp.stS {g n c j : Nat} (h : Sp w F v N B k wr ms) (hk : ms[k]? = some m) (hv : m.sv = .slice (some ⟨g, 0, none⟩) n c) (hj : j < m.ch.snd.length) :
    (∃ x, wr.cell? ⟨g, j * 4 + 2, none⟩ = some x) ∧ wr.frozen? ⟨g, j * 4 + 2, none⟩ = false ∧ ∃ m', Sp w F v N B k (wr.setCell ⟨g, j * 4 + 2, none⟩ (.int .i64 (-77))) (ms.set k m') ∧ (ms.set k m')[k]? = some m' ∧ m'.sv = m.sv := by
  have hm := h.own.each m (List.mem_of_getElem? hk)
  obtain ⟨a1, a2⟩ := blocks_apart (nodup_of_flat (f := CM.blocks) h.own.apart (List.mem_of_getElem? hk))
  have hbk : m.sv.ownBlock = some g := by rw [hv]; rfl
  have hG : GF w F g := hm.snd.2 g hbk
  have hcell : ∃ x, wr.cell? ⟨g, j * 4 + 2, none⟩ = some x := by
    have h1 := hm.snd
    rw [hv] at h1
    exact Option.isSome_iff_exists.1 (h1.isCell (by rw [wts_len]; omega))
  obtain ⟨w1', hw1⟩ : ∃ w1' : World, w1' = wr.setCell ⟨g, j * 4 + 2, none⟩ (.int .i64 (-77)) := ⟨_, rfl⟩
  have hfr : Fr (fun q => m.sv.ownBlock = some q) wr w1' := hw1 ▸ Fr.refl.setCell (p := ⟨g, j * 4 + 2, none⟩) _ (.inl hbk)
  have hst0 := hw1
  have hst : RowF w1' (GF w F) 114 4 m.sv (wts (m.ch.snd.set j ⟨(m.ch.snd[j]'hj).s, (m.ch.snd[j]'hj).g, -77, (m.ch.snd[j]'hj).v⟩)) := by
    rw [hw1]
    have h1 := hm.snd
    rw [hv] at h1 ⊢
    have h2 := h1.stored (j := j * 4 + 2) (u := .int .i64 (-77)) (by rw [wts_len]; omega)
    have h3 := flat_set (f := Wt.cells) (sz := 4) (fun _ => rfl) m.ch.snd j 2 (m.ch.snd[j]'hj) ⟨(m.ch.snd[j]'hj).s, (m.ch.snd[j]'hj).g, -77, (m.ch.snd[j]'hj).v⟩ (.int .i64 (-77)) (List.getElem?_eq_getElem hj) (by omega) rfl
    change (wts _).set _ _ = wts _ at h3
    rw [h3] at h2
    exact h2
  refine ⟨hcell, hm.snd.free hbk _, m.setS m.sv (m.ch.snd.set j ⟨(m.ch.snd[j]'hj).s, (m.ch.snd[j]'hj).g, -77, (m.ch.snd[j]'hj).v⟩), ?_, List.getElem?_set_self (lt_of_get hk), rfl⟩
  rw [← hw1]
  refine h.set (h.own.inner hk hfr (fun q hq => by simp only [CM.blocks, List.mem_append, Option.mem_toList]; exact .inr (.inl hq)) ⟨hm.vals.fr hfr (fun q hq hq' => (a1 q hq).1 hq'), hst, hm.rcv.fr hfr (fun q hq hq' => a2 q hq' hq)⟩ rfl rfl) (hw1 ▸ h.fr.setCell (p := ⟨g, j * 4 + 2, none⟩) _ hG) (Nat.le_refl _) (fun hki => ?_)
  obtain ⟨b1, b2, b3⟩ := h.big k m hk (Nat.le_refl _)
  exact ⟨b1, by simp only [CM.setS, List.length_set]; exact b2, b3⟩
/-- one more behind channel k's snd: where the row lay before -/
theorem Sp.apS {L cp gb cp' : Nat} (h : Sp w F (.slice (some ⟨L, 0, none⟩) N cp) N B (k + 1) wr ms) (hk : ms[k]? = some m) (hown : w1.ownsRow 0 114 4 (.slice (some ⟨gb, 0, none⟩) (m.ch.snd.length + 1) cp') (m.ch.snd.length + 1) (wts m.ch.snd ++ [.int .i64 0, .int .i64 0, .int .i64 (-78), .int .i64 0])) (hgrow : (wr.alloc (.cells #[.int .i64 0, .int .i64 0, .int .i64 (-78), .int .i64 0] 114)).grownBy w1 m.sv.ownBlock) (hat : m.sv.ownBlock = some gb ∨ gb = wr.heap.size + 1) :
    Hid (Sp w F (.slice (some ⟨L, 0, none⟩) N cp) N B (k + 1) (w1.setCell ⟨L, k * 5 + 2, none⟩ (.slice (some ⟨gb, 0, none⟩) (m.ch.snd.length + 1) cp')) (ms.set k (m.setS (.slice (some ⟨gb, 0, none⟩) (m.ch.snd.length + 1) cp') (m.ch.snd ++ [⟨0, 0, -78, 0⟩])))) ∧
    w1.cell? ⟨L, k * 5 + 1, none⟩ = some m.vv ∧ w1.cell? ⟨L, k * 5 + 2, none⟩ = some m.sv ∧ w1.cell? ⟨L, k * 5 + 3, none⟩ = some m.rv ∧ w1.frozen? ⟨L, k * 5 + 2, none⟩ = false := by
  have hm := h.own.each m (List.mem_of_getElem? hk)
  have hlt := lt_of_get hk
  have hL : GF w F L := h.own.row.2 L rfl
  have fa : Fr E0 wr (wr.alloc (.cells #[.int .i64 0, .int .i64 0, .int .i64 (-78), .int .i64 0] 114)) := Fr.refl.alloc _
  have oa := h.own.fr fa (fun _ _ x => x)
  have ma := oa.each m (List.mem_of_getElem? hk)
  have hnL : ∀ q, m.sv.ownBlock = some q → q ≠ L := fun q hq e => by subst e; exact oa.row.ne_type ma.snd (by decide) rfl hq
  have FX : Fr (fun q => m.sv.ownBlock = some q) (wr.alloc (.cells #[.int .i64 0, .int .i64 0, .int .i64 (-78), .int .i64 0] 114)) w1 := Fr.refl.grown hgrow (fun q hq => .inl hq)
  have hs := h.fr.size
  have F1 : Fr F w w1 := ((h.fr.alloc _).trans' FX (fun q hq => hm.snd.2 q hq))
  obtain ⟨L', cp2, e1, _, c1, c2, c3⟩ := h.at hk
  cases e1
  refine ⟨h.set (OwnCs.putS (w1 := w1) (l' := m.ch.snd ++ [⟨0, 0, -78, 0⟩]) (v' := .slice (some ⟨gb, 0, none⟩) (m.ch.snd.length + 1) cp') oa hk FX (fun _ hq => hq) ⟨⟨_, by rw [wts_app]; exact hown⟩, fun q hq => by
    simp [Value.ownBlock] at hq; subst hq
    rcases hat with e | e
    · exact hm.snd.2 _ e
    · exact .inr (by omega)⟩ (fun q hq => by
    simp [Value.ownBlock] at hq; subst hq
    rcases hat with e | e
    · exact .inl e
    · exact .inr (by simp; omega))) (F1.setCell (p := ⟨L, k * 5 + 2, none⟩) _ hL) (Nat.le_refl _) (fun hx => absurd hx (by omega)), ?_, ?_, ?_, ?_⟩
  · exact FX.cell (fa.cell c1 (fun x => x)) (fun hq => hnL _ hq rfl)
  · exact FX.cell (fa.cell c2 (fun x => x)) (fun hq => hnL _ hq rfl)
  · exact FX.cell (fa.cell c3 (fun x => x)) (fun hq => hnL _ hq rfl)
  · exact frz (oa.row.fr FX (fun q hq hq' => hnL q hq' (by simp [Value.ownBlock] at hq; exact hq.symm))) _
/-- a number of channel k's rcv is overwritten -/
theorem Sp.stR {g n c j : Nat} (h : Sp w F v N B k wr ms) (hk : ms[k]? = some m) (hv : m.rv = .slice (some ⟨g, 0, none⟩) n c) (hj : j < m.ch.rcv.length) :
    (∃ x, wr.cell? ⟨g, j * 4 + 2, none⟩ = some x) ∧ wr.frozen? ⟨g, j * 4 + 2, none⟩ = false ∧ ∃ m', Sp w F v N B k (wr.setCell ⟨g, j * 4 + 2, none⟩ (.int .i64 (-77))) (ms.set k m') ∧ (ms.set k m')[k]? = some m' ∧ m'.rv = m.rv := by
  have hm := h.own.each m (List.mem_of_getElem? hk)
  obtain ⟨a1, a2⟩ := blocks_apart (nodup_of_flat (f := CM.blocks) h.own.apart (List.mem_of_getElem? hk))
  have hbk : m.rv.ownBlock = some g := by rw [hv]; rfl
  have hG : GF w F g := hm.rcv.2 g hbk
  have hcell : ∃ x, wr.cell? ⟨g, j * 4 + 2, none⟩ = some x := by
    have h1 := hm.rcv
    rw [hv] at h1
    exact Option.isSome_iff_exists.1 (h1.isCell (by rw [wts_len]; omega))
  obtain ⟨w1', hw1⟩ : ∃ w1' : World, w1' = wr.setCell ⟨g, j * 4 + 2, none⟩ (.int .i64 (-77)) := ⟨_, rfl⟩
  have hfr : Fr (fun q => m.rv.ownBlock = some q) wr w1' := hw1 ▸ Fr.refl.setCell (p := ⟨g, j * 4 + 2, none⟩) _ (.inl hbk)
  have hst0 := hw1
  have hst : RowF w1' (GF w F) 114 4 m.rv (wts (m.ch.rcv.set j ⟨(m.ch.rcv[j]'hj).s, (m.ch.rcv[j]'hj).g, -77, (m.ch.rcv[j]'hj).v⟩)) := by
    rw [hw1]
    have h1 := hm.rcv
    rw [hv] at h1 ⊢
    have h2 := h1.stored (j := j * 4 + 2) (u := .int .i64 (-77)) (by rw [wts_len]; omega)
    have h3 := flat_set (f := Wt.cells) (sz := 4) (fun _ => rfl) m.ch.rcv j 2 (m.ch.rcv[j]'hj) ⟨(m.ch.rcv[j]'hj).s, (m.ch.rcv[j]'hj).g, -77, (m.ch.rcv[j]'hj).v⟩ (.int .i64 (-77)) (List.getElem?_eq_getElem hj) (by omega) rfl
    change (wts _).set _ _ = wts _ at h3
    rw [h3] at h2
    exact h2
  refine ⟨hcell, hm.rcv.free hbk _, m.setR m.rv (m.ch.rcv.set j ⟨(m.ch.rcv[j]'hj).s, (m.ch.rcv[j]'hj).g, -77, (m.ch.rcv[j]'hj).v⟩), ?_, List.getElem?_set_self (lt_of_get hk), rfl⟩
  rw [← hw1]
  refine h.set (h.own.inner hk hfr (fun q hq => by simp only [CM.blocks, List.mem_append, Option.mem_toList]; exact .inr (.inr hq)) ⟨hm.vals.fr hfr (fun q hq hq' => (a1 q hq).2 hq'), hm.snd.fr hfr (fun q hq hq' => a2 q hq hq'), hst⟩ rfl rfl) (hw1 ▸ h.fr.setCell (p := ⟨g, j * 4 + 2, none⟩) _ hG) (Nat.le_refl _) (fun hki => ?_)
  obtain ⟨b1, b2, b3⟩ := h.big k m hk (Nat.le_refl _)
  exact ⟨b1, b2, by simp only [CM.setR, List.length_set]; exact b3⟩
/-- one more behind channel k's rcv: where the row lay before -/
theorem Sp.apR {L cp gb cp' : Nat} (h : Sp w F (.slice (some ⟨L, 0, none⟩) N cp) N B (k + 1) wr ms) (hk : ms[k]? = some m) (hown : w1.ownsRow 0 114 4 (.slice (some ⟨gb, 0, none⟩) (m.ch.rcv.length + 1) cp') (m.ch.rcv.length + 1) (wts m.ch.rcv ++ [.int .i64 0, .int .i64 0, .int .i64 (-78), .int .i64 0])) (hgrow : (wr.alloc (.cells #[.int .i64 0, .int .i64 0, .int .i64 (-78), .int .i64 0] 114)).grownBy w1 m.rv.ownBlock) (hat : m.rv.ownBlock = some gb ∨ gb = wr.heap.size + 1) :
    Hid (Sp w F (.slice (some ⟨L, 0, none⟩) N cp) N B (k + 1) (w1.setCell ⟨L, k * 5 + 3, none⟩ (.slice (some ⟨gb, 0, none⟩) (m.ch.rcv.length + 1) cp')) (ms.set k (m.setR (.slice (some ⟨gb, 0, none⟩) (m.ch.rcv.length + 1) cp') (m.ch.rcv ++ [⟨0, 0, -78, 0⟩])))) ∧
    w1.cell? ⟨L, k * 5 + 1, none⟩ = some m.vv ∧ w1.cell? ⟨L, k * 5 + 2, none⟩ = some m.sv ∧ w1.cell? ⟨L, k * 5 + 3, none⟩ = some m.rv ∧ w1.frozen? ⟨L, k * 5 + 3, none⟩ = false := by
  have hm := h.own.each m (List.mem_of_getElem? hk)
  have hlt := lt_of_get hk
  have hL : GF w F L := h.own.row.2 L rfl
  have fa : Fr E0 wr (wr.alloc (.cells #[.int .i64 0, .int .i64 0, .int .i64 (-78), .int .i64 0] 114)) := Fr.refl.alloc _
  have oa := h.own.fr fa (fun _ _ x => x)
  have ma := oa.each m (List.mem_of_getElem? hk)
  have hnL : ∀ q, m.rv.ownBlock = some q → q ≠ L := fun q hq e => by subst e; exact oa.row.ne_type ma.rcv (by decide) rfl hq
  have FX : Fr (fun q => m.rv.ownBlock = some q) (wr.alloc (.cells #[.int .i64 0, .int .i64 0, .int .i64 (-78), .int .i64 0] 114)) w1 := Fr.refl.grown hgrow (fun q hq => .inl hq)
  have hs := h.fr.size
  have F1 : Fr F w w1 := ((h.fr.alloc _).trans' FX (fun q hq => hm.rcv.2 q hq))
  obtain ⟨L', cp2, e1, _, c1, c2, c3⟩ := h.at hk
  cases e1
  refine ⟨h.set (OwnCs.putR (w1 := w1) (l' := m.ch.rcv ++ [⟨0, 0, -78, 0⟩]) (v' := .slice (some ⟨gb, 0, none⟩) (m.ch.rcv.length + 1) cp') oa hk FX (fun _ hq => hq) ⟨⟨_, by rw [wts_app]; exact hown⟩, fun q hq => by
    simp [Value.ownBlock] at hq; subst hq
    rcases hat with e | e
    · exact hm.rcv.2 _ e
    · exact .inr (by omega)⟩ (fun q hq => by
    simp [Value.ownBlock] at hq; subst hq
    rcases hat with e | e
    · exact .inl e
    · exact .inr (by simp; omega))) (F1.setCell (p := ⟨L, k * 5 + 3, none⟩) _ hL) (Nat.le_refl _) (fun hx => absurd hx (by omega)), ?_, ?_, ?_, ?_⟩
  · exact FX.cell (fa.cell c1 (fun x => x)) (fun hq => hnL _ hq rfl)
  · exact FX.cell (fa.cell c2 (fun x => x)) (fun hq => hnL _ hq rfl)
  · exact FX.cell (fa.cell c3 (fun x => x)) (fun hq => hnL _ hq rfl)
  · exact frz (oa.row.fr FX (fun q hq hq' => hnL q hq' (by simp [Value.ownBlock] at hq; exact hq.symm))) _
theorem Sp.hdV (h : Sp w F v N B i wr ms) (hk : ms[k]? = some m) : ∃ A c, m.vv = .slice A m.ch.vals.length c := by
  obtain ⟨A, c, h1, _⟩ := (h.own.each m (List.mem_of_getElem? hk)).vals.read (n := m.ch.vals.length) (by decide) (ints_len _)
  exact ⟨A, c, h1⟩
theorem Sp.lnV {A : Option Addr} {n c : Nat} (h : Sp w F v N B i wr ms) (hk : ms[k]? = some m) (hv : m.vv = .slice A n c) : m.ch.vals.length = n ∧ (0 < n → ∃ g, A = some ⟨g, 0, none⟩) := by
  rcases (h.own.each m (List.mem_of_getElem? hk)).vals.form (n := m.ch.vals.length) (by decide) (ints_len _) with ⟨h1, h2, _⟩ | ⟨g, c', h1, _⟩
  · rw [hv] at h1; cases h1; exact ⟨h2, fun x => absurd x (by omega)⟩
  · rw [hv] at h1; cases h1; exact ⟨rfl, fun _ => ⟨g, rfl⟩⟩
theorem Sp.hdS (h : Sp w F v N B i wr ms) (hk : ms[k]? = some m) : ∃ A c, m.sv = .slice A m.ch.snd.length c := by
  obtain ⟨A, c, h1, _⟩ := (h.own.each m (List.mem_of_getElem? hk)).snd.read (n := m.ch.snd.length) (by decide) (wts_len _)
  exact ⟨A, c, h1⟩
theorem Sp.lnS {A : Option Addr} {n c : Nat} (h : Sp w F v N B i wr ms) (hk : ms[k]? = some m) (hv : m.sv = .slice A n c) : m.ch.snd.length = n ∧ (0 < n → ∃ g, A = some ⟨g, 0, none⟩) := by
  rcases (h.own.each m (List.mem_of_getElem? hk)).snd.form (n := m.ch.snd.length) (by decide) (wts_len _) with ⟨h1, h2, _⟩ | ⟨g, c', h1, _⟩
  · rw [hv] at h1; cases h1; exact ⟨h2, fun x => absurd x (by omega)⟩
  · rw [hv] at h1; cases h1; exact ⟨rfl, fun _ => ⟨g, rfl⟩⟩
theorem Sp.hdR (h : Sp w F v N B i wr ms) (hk : ms[k]? = some m) : ∃ A c, m.rv = .slice A m.ch.rcv.length c := by
  obtain ⟨A, c, h1, _⟩ := (h.own.each m (List.mem_of_getElem? hk)).rcv.read (n := m.ch.rcv.length) (by decide) (wts_len _)
  exact ⟨A, c, h1⟩
theorem Sp.lnR {A : Option Addr} {n c : Nat} (h : Sp w F v N B i wr ms) (hk : ms[k]? = some m) (hv : m.rv = .slice A n c) : m.ch.rcv.length = n ∧ (0 < n → ∃ g, A = some ⟨g, 0, none⟩) := by
  rcases (h.own.each m (List.mem_of_getElem? hk)).rcv.form (n := m.ch.rcv.length) (by decide) (wts_len _) with ⟨h1, h2, _⟩ | ⟨g, c', h1, _⟩
  · rw [hv] at h1; cases h1; exact ⟨h2, fun x => absurd x (by omega)⟩
  · rw [hv] at h1; cases h1; exact ⟨rfl, fun _ => ⟨g, rfl⟩⟩
end
end Go.Proofs.Yteffmnohgnmanaa

