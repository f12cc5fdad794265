/- A domain's channels in memory: what is read of them (RdCs), what a state owns (OwnCs), the object (Chs); and what a store into one of them leaves. -/
import Derived.Test.YteffmnohgnmanaaMem
namespace Go.Proofs.Yteffmnohgnmanaa
open Go.RowKit
/-- A channel. -/
structure Ch where
  cap : Int
  vals : List Int
  snd : List Wt
  rcv : List Wt
  cl : Bool
  deriving DecidableEq
/-- A channel, and the values that its slices have in memory. -/
structure CM where
  ch : Ch
  vv : Value
  sv : Value
  rv : Value
def CM.cells (m : CM) : List Value := [.int .i64 m.ch.cap, m.vv, m.sv, m.rv, .bool m.ch.cl]
def CM.val (m : CM) : Value := .agg #[.int .i64 m.ch.cap, m.vv, m.sv, m.rv, .bool m.ch.cl]
theorem cms_len (l : List CM) : (l.flatMap CM.cells).length = l.length * 5 := flat_len (f := CM.cells) (sz := 5) (fun _ => rfl) l
/-- A slice that is read. -/
def RdV (w : World) (v : Value) (sz : Nat) (xs : List Value) : Prop := ∃ A n c, v = .slice A n c ∧ xs.length = n * sz ∧ n ≤ c ∧ c ≤ maxLen ∧ RdA w A xs
theorem RdV.fr {w w' : World} {v : Value} {sz : Nat} {xs : List Value} (h : RdV w v sz xs) (hf : Fr E0 w w') : RdV w' v sz xs := by
  obtain ⟨A, n, c, h1, h2, h3, h4, h5⟩ := h
  exact ⟨A, n, c, h1, h2, h3, h4, h5.fr hf⟩
structure CM.Rd (w : World) (m : CM) : Prop where
  vals : RdV w m.vv 1 (ints m.ch.vals)
  snd : RdV w m.sv 4 (wts m.ch.snd)
  rcv : RdV w m.rv 4 (wts m.ch.rcv)
theorem CM.Rd.fr {w w' : World} {m : CM} (h : m.Rd w) (hf : Fr E0 w w') : m.Rd w' := ⟨h.vals.fr hf, h.snd.fr hf, h.rcv.fr hf⟩
/-- Channels that are read. -/
structure RdCs (w : World) (v : Value) (ms : List CM) : Prop where
  row : RdV w v 5 (ms.flatMap CM.cells)
  each : ∀ m ∈ ms, m.Rd w
theorem RdCs.fr {w w' : World} {v : Value} {ms : List CM} (h : RdCs w v ms) (hf : Fr E0 w w') : RdCs w' v ms := ⟨h.row.fr hf, fun m hm => (h.each m hm).fr hf⟩
theorem RdL.cm {w : World} {b o k : Nat} {l : List CM} {m : CM} (h : RdL w b o (l.flatMap CM.cells)) (hx : l[k]? = some m) :
    w.cell? ⟨b, o + k * 5, none⟩ = some (.int .i64 m.ch.cap) ∧ w.cell? ⟨b, o + k * 5 + 1, none⟩ = some m.vv ∧ w.cell? ⟨b, o + k * 5 + 2, none⟩ = some m.sv ∧ w.cell? ⟨b, o + k * 5 + 3, none⟩ = some m.rv ∧
      w.cell? ⟨b, o + k * 5 + 4, none⟩ = some (.bool m.ch.cl) := by
  have g := fun j (hj : j < 5) => flat_get (f := CM.cells) (sz := 5) (fun _ => rfl) l k j m hx hj
  exact ⟨h _ _ (g 0 (by omega)), h _ _ (g 1 (by omega)), h _ _ (g 2 (by omega)), h _ _ (g 3 (by omega)), h _ _ (g 4 (by omega))⟩
theorem RdA.cmAt {w : World} {A : Option Addr} {l : List CM} {k : Nat} {m : CM} (h : RdA w A (l.flatMap CM.cells)) (hx : l[k]? = some m) : ∃ b o, A = some ⟨b, o, none⟩ ∧ RdL w b o (l.flatMap CM.cells) := by
  refine h.at ?_
  intro e
  have h1 := cms_len l; rw [e] at h1
  have := lt_of_get hx; simp at h1; omega
def chs (ms : List CM) : List Ch := ms.map CM.ch

theorem chs_get {ms : List CM} {k : Nat} {m : CM} (h : ms[k]? = some m) : (chs ms)[k]? = some m.ch := by unfold chs; rw [List.getElem?_map, h]; rfl
theorem chs_len (ms : List CM) : (chs ms).length = ms.length := by simp [chs]
/-! ### what is owned -/
def CM.blocks (m : CM) : List Nat := m.vv.ownBlock.toList ++ (m.sv.ownBlock.toList ++ m.rv.ownBlock.toList)
structure CM.Own (w : World) (F : Nat → Prop) (m : CM) : Prop where
  vals : RowF w F 2 1 m.vv (ints m.ch.vals)
  snd : RowF w F 114 4 m.sv (wts m.ch.snd)
  rcv : RowF w F 114 4 m.rv (wts m.ch.rcv)
namespace CM.Own
variable {w w' : World} {F F' S : Nat → Prop} {m : CM}
theorem mem (h : m.Own w F) {g : Nat} (hg : g ∈ m.blocks) : F g ∧ g < w.heap.size ∧ ∃ cur e, w.heap[g]? = some (.cells cur e (0, 0)) ∧ e ≠ 67 := by
  simp only [CM.blocks, List.mem_append, Option.mem_toList] at hg
  rcases hg with hg | hg | hg
  · obtain ⟨cur, hc⟩ := h.vals.heap hg; exact ⟨h.vals.2 g hg, h.vals.lt hg, cur, 2, hc, by decide⟩
  · obtain ⟨cur, hc⟩ := h.snd.heap hg; exact ⟨h.snd.2 g hg, h.snd.lt hg, cur, 114, hc, by decide⟩
  · obtain ⟨cur, hc⟩ := h.rcv.heap hg; exact ⟨h.rcv.2 g hg, h.rcv.lt hg, cur, 114, hc, by decide⟩
theorem same (h : m.Own w F) (hb : ∀ g, g ∈ m.blocks → w'.heap[g]? = w.heap[g]?) : m.Own w' F :=
  ⟨h.vals.same (fun g hg => hb g (by simp [CM.blocks, hg])), h.snd.same (fun g hg => hb g (by simp [CM.blocks, hg])), h.rcv.same (fun g hg => hb g (by simp [CM.blocks, hg]))⟩
theorem mono (h : m.Own w F) (hf : ∀ g, F g → F' g) : m.Own w F' := ⟨h.vals.mono hf, h.snd.mono hf, h.rcv.mono hf⟩
theorem fr (h : m.Own w F) (hf : Fr S w w') (hs : ∀ g, g ∈ m.blocks → ¬ S g) : m.Own w' F := h.same (fun g hg => hf.block g (h.mem hg).2.1 (hs g hg))
theorem rdv {e sz n : Nat} {v : Value} {xs : List Value} (hsz : 0 < sz) (h : RowF w F e sz v xs) (hn : xs.length = n * sz) : RdV w v sz xs := by
  obtain ⟨A, c, h1, h2, h3, h4⟩ := h.read hsz hn
  exact ⟨A, n, c, h1, hn, h2, h3, h4⟩
theorem rd (h : m.Own w F) : m.Rd w := ⟨rdv (by decide) h.vals (ints_len _), rdv (by decide) h.snd (wts_len _), rdv (by decide) h.rcv (wts_len _)⟩
end CM.Own

/-- Channels that are owned: the row, and what each leads to; no two rows share a block. -/
structure OwnCs (w : World) (F : Nat → Prop) (v : Value) (ms : List CM) : Prop where
  row : RowF w F 67 5 v (ms.flatMap CM.cells)
  each : ∀ m ∈ ms, m.Own w F
  apart : (ms.flatMap CM.blocks).Nodup
namespace OwnCs
variable {w w' w1 : World} {F F' S : Nat → Prop} {v : Value} {ms : List CM}
theorem nil : OwnCs w F (.slice none 0 0) [] := ⟨RowF.nil, fun m hm => by simp at hm, by simp⟩
theorem mono (h : OwnCs w F v ms) (hf : ∀ g, F g → F' g) : OwnCs w F' v ms := ⟨h.row.mono hf, fun m hm => (h.each m hm).mono hf, h.apart⟩
theorem fr (h : OwnCs w F v ms) (hf : Fr S w w') (hs : ∀ g, F g → ¬ S g) : OwnCs w' F v ms :=
  ⟨h.row.fr hf (fun g hg => hs g (h.row.2 g hg)), fun m hm => (h.each m hm).fr hf (fun g hg => hs g ((h.each m hm).mem hg).1), h.apart⟩
theorem rd (h : OwnCs w F v ms) : RdCs w v ms := ⟨CM.Own.rdv (by decide) h.row (cms_len ms), fun m hm => (h.each m hm).rd⟩
/-- read, wherever nothing of F is written -/
theorem foot (h : OwnCs w F v ms) : Foot (fun w => RdCs w v ms) F w := fun _ hw => OwnCs.rd (F := F) ⟨
  h.row.same (fun g hg => hw g (h.row.2 g hg) (h.row.lt hg)),
  fun m hm => (h.each m hm).same (fun g hg => hw g ((h.each m hm).mem hg).1 ((h.each m hm).mem hg).2.1), h.apart⟩
theorem apart_mem {α : Type} {f : α → List Nat} : ∀ {l : List α} {i j : Nat} {x y : α} {g : Nat}, (l.flatMap f).Nodup → l[i]? = some x → l[j]? = some y → i ≠ j → g ∈ f x → g ∉ f y := by
  intro l
  induction l with
  | nil => intro i j x y g _ h; simp at h
  | cons z l ih =>
    intro i j x y g hn hx hy hij hg hg'
    rw [List.flatMap_cons, List.nodup_append] at hn
    obtain ⟨_, hn2, hn3⟩ := hn
    cases i with
    | zero =>
      cases j with
      | zero => exact hij rfl
      | succ j =>
        simp at hx hy; subst hx
        exact hn3 g hg g (List.mem_flatMap.2 ⟨y, List.mem_of_getElem? hy, hg'⟩) rfl
    | succ i =>
      cases j with
      | zero =>
        simp at hx hy; subst hy
        exact hn3 g hg' g (List.mem_flatMap.2 ⟨x, List.mem_of_getElem? hx, hg⟩) rfl
      | succ j => simp at hx hy; exact ih hn2 hx hy (by omega) hg hg'
theorem apart_set {α : Type} {f : α → List Nat} : ∀ {l : List α} {i : Nat} {x y : α}, (l.flatMap f).Nodup → l[i]? = some x → (f y).Nodup → (∀ g ∈ f y, g ∉ f x → ∀ z ∈ l, g ∉ f z) → ((l.set i y).flatMap f).Nodup := by
  intro l
  induction l with
  | nil => intro i x y _ h; simp at h
  | cons z l ih =>
    intro i x y hn hx hy hg
    rw [List.flatMap_cons, List.nodup_append] at hn
    obtain ⟨hn1, hn2, hn3⟩ := hn
    cases i with
    | zero =>
      simp at hx; subst hx
      rw [List.set_cons_zero, List.flatMap_cons, List.nodup_append]
      refine ⟨hy, hn2, ?_⟩
      intro a ha b hb e
      subst e
      by_cases hax : a ∈ f z
      · exact hn3 a hax a hb rfl
      · obtain ⟨q, hq, hq'⟩ := List.mem_flatMap.1 hb
        exact hg a ha hax q (by simp [hq]) hq'
    | succ i =>
      simp at hx
      rw [List.set_cons_succ, List.flatMap_cons, List.nodup_append]
      refine ⟨hn1, ih hn2 hx hy (fun g h1 h2 q hq => hg g h1 h2 q (by simp [hq])), ?_⟩
      intro a ha b hb e
      subst e
      obtain ⟨q, hq, hq'⟩ := List.mem_flatMap.1 hb
      rcases List.mem_or_eq_of_mem_set hq with hq | hq
      · exact hn3 a ha a (List.mem_flatMap.2 ⟨q, hq, hq'⟩) rfl
      · subst hq
        by_cases hax : a ∈ f x
        · exact hn3 a ha a (List.mem_flatMap.2 ⟨x, List.mem_of_getElem? hx, hax⟩) rfl
        · exact hg a hq' hax z (by simp) ha
/-- One cell of channel i is stored, behind work on that channel's own rows. -/
theorem put {i j L n c : Nat} {m m' : CM} {u : Value} (h : OwnCs w F (.slice (some ⟨L, 0, none⟩) n c) ms) (hi : ms[i]? = some m) (hj : j < 5) (hcell : m'.cells = m.cells.set j u)
    (hfr : Fr S w w1) (hS : ∀ k, S k → k ∈ m.blocks ∨ w.heap.size ≤ k) (hF : ∀ k, F k → F' k) (hown : m'.Own w1 F') (hbl : ∀ k ∈ m'.blocks, k ∈ m.blocks ∨ w.heap.size ≤ k) (hnd : m'.blocks.Nodup) :
    OwnCs (w1.setCell ⟨L, i * 5 + j, none⟩ u) F' (.slice (some ⟨L, 0, none⟩) n c) (ms.set i m') := by
  have hLlt : L < w.heap.size := h.row.lt rfl
  obtain ⟨curL, hL⟩ := h.row.heap (g := L) rfl
  have hLS : ¬ S L := by
    intro hs
    rcases hS L hs with hs | hs
    · obtain ⟨_, _, cur, e, he, hne⟩ := (h.each m (List.mem_of_getElem? hi)).mem hs
      rw [hL] at he; injection he with he; injection he with _ he _; exact hne he.symm
    · omega
  have hnotL : ∀ q : CM, ∀ W, q.Own W F' → W.heap[L]? = some (.cells curL 67 (0, 0)) → L ∉ q.blocks := by
    intro q W ho hW hmem
    obtain ⟨_, _, cur, e, he, hne⟩ := ho.mem hmem
    rw [hW] at he; injection he with he; injection he with _ he _; exact hne he.symm
  have hL1 := hfr.heapAt hL hLS
  have hset : ∀ g, g ≠ L → (w1.setCell ⟨L, i * 5 + j, none⟩ u).heap[g]? = w1.heap[g]? := fun g hg => heap_setCell_other _ _ _ _ hg
  refine ⟨?_, ?_, ?_⟩
  · have hrow1 : RowF w1 F' 67 5 (.slice (some ⟨L, 0, none⟩) n c) (ms.flatMap CM.cells) := (h.row.fr hfr (fun g hg => by simp [Value.ownBlock] at hg; subst hg; exact hLS)).mono hF
    have := hrow1.stored (j := i * 5 + j) (u := u) (by have h1 := cms_len ms; have h2 := lt_of_get hi; rw [h1]; omega)
    rw [flat_set (f := CM.cells) (sz := 5) (fun _ => rfl) ms i j m m' u hi hj hcell] at this
    exact this
  · intro q hq
    rcases List.mem_or_eq_of_mem_set hq with hq1 | rfl
    · obtain ⟨iq, hiq⟩ := List.getElem?_of_mem hq
      by_cases e : iq = i
      · subst e
        rw [List.getElem?_set_self (lt_of_get hi)] at hiq
        cases hiq
        exact hown.same (fun g hg => hset g (fun e => hnotL m' w1 hown hL1 (e ▸ hg)))
      · rw [List.getElem?_set_ne (fun x => e x.symm)] at hiq
        have hq0 := (h.each q hq1)
        have hq1' : q.Own w1 F' := (hq0.fr hfr (fun g hg hs => by
          rcases hS g hs with hs | hs
          · exact apart_mem h.apart hi hiq (fun x => e x.symm) hs hg
          · exact absurd (hq0.mem hg).2.1 (by omega))).mono hF
        exact hq1'.same (fun g hg => hset g (fun e => hnotL q w1 hq1' hL1 (e ▸ hg)))
    · exact hown.same (fun g hg => hset g (fun e => hnotL q w1 hown hL1 (e ▸ hg)))
  · refine apart_set h.apart hi hnd (fun g hg hgm z hz hgz => ?_)
    rcases hbl g hg with h1 | h1
    · exact hgm h1
    · exact absurd ((h.each z hz).mem hgz).2.1 (by omega)
end OwnCs
end Go.Proofs.Yteffmnohgnmanaa
