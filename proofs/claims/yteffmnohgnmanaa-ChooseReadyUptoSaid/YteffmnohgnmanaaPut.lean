/- One of a channel's rows is another one now: what that leaves of the channels. -/
import Derived.Test.YteffmnohgnmanaaObj
namespace Go.Proofs.Yteffmnohgnmanaa
open Go.RowKit
theorem nodup_of_flat {α : Type} {f : α → List Nat} {l : List α} {x : α} (h : (l.flatMap f).Nodup) (hx : x ∈ l) : (f x).Nodup := by
  induction l with
  | nil => simp at hx
  | cons y l ih =>
    rw [List.flatMap_cons, List.nodup_append] at h
    rcases List.mem_cons.1 hx with rfl | hx
    · exact h.1
    · exact ih h.2.1 hx
theorem Chs.put {w w1 : World} {F F' S : Nat → Prop} {i j L n c g : Nat} {ms : List CM} {m m' : CM} {u : Value} (h : Chs w F g (.slice (some ⟨L, 0, none⟩) n c) ms) (hi : ms[i]? = some m) (hj : j < 5) (hcell : m'.cells = m.cells.set j u)
    (hfr : Fr S w w1) (hS : ∀ k, S k → k ∈ m.blocks ∨ w.heap.size ≤ k) (hF : ∀ k, F k → F' k) (hF' : ∀ k, F' k → k < w1.heap.size) (hown : m'.Own w1 F') (hbl : ∀ k ∈ m'.blocks, k ∈ m.blocks ∨ w.heap.size ≤ k) (hnd : m'.blocks.Nodup) :
    Chs (w1.setCell ⟨L, i * 5 + j, none⟩ u) F' g (.slice (some ⟨L, 0, none⟩) n c) (ms.set i m') := by
  have hgl := heap_lt h.obj
  have hgS : ¬ S g := by
    intro hs
    rcases hS g hs with hs | hs
    · have hm := h.own.each m (List.mem_of_getElem? hi)
      simp only [CM.blocks, List.mem_append, Option.mem_toList] at hs
      have ho := h.obj
      rcases hs with hk | hk | hk
      · obtain ⟨c, hc⟩ := hm.vals.heap hk
        rw [ho] at hc; injection hc with hc; injection hc with _ hc _; exact absurd hc (by decide)
      · obtain ⟨c, hc⟩ := hm.snd.heap hk
        rw [ho] at hc; injection hc with hc; injection hc with _ hc _; exact absurd hc (by decide)
      · obtain ⟨c, hc⟩ := hm.rcv.heap hk
        rw [ho] at hc; injection hc with hc; injection hc with _ hc _; exact absurd hc (by decide)
    · omega
  have hgL : g ≠ L := by
    rintro rfl
    obtain ⟨cur, hc⟩ := h.own.row.heap (g := g) rfl
    rw [h.obj] at hc; injection hc with hc; injection hc with _ hc _; exact absurd hc (by decide)
  refine ⟨?_, hF g h.mine, fun k hk => by simpa using hF' k hk, h.own.put hi hj hcell hfr hS hF hown hbl hnd⟩
  rw [heap_setCell_other _ _ _ _ hgL]
  exact hfr.heapAt h.obj hgS
def CM.setV (m : CM) (v : Value) (l : List Int) : CM := ⟨{ m.ch with vals := l }, v, m.sv, m.rv⟩
def CM.setS (m : CM) (v : Value) (l : List Wt) : CM := ⟨{ m.ch with snd := l }, m.vv, v, m.rv⟩
def CM.setR (m : CM) (v : Value) (l : List Wt) : CM := ⟨{ m.ch with rcv := l }, m.vv, m.sv, v⟩
/-- The new row lies where the old one lay, or in new memory. -/
def Lies (w : World) (v v' : Value) : Prop := ∀ k, v'.ownBlock = some k → v.ownBlock = some k ∨ w.heap.size ≤ k
section
variable {w w1 : World} {F F' S : Nat → Prop} {i L n c g : Nat} {ms : List CM} {m : CM} {v' : Value}
theorem nodup3 {a b c : Option Nat} (hab : ∀ k, a = some k → b ≠ some k) (hac : ∀ k, a = some k → c ≠ some k) (hbc : ∀ k, b = some k → c ≠ some k) : (a.toList ++ (b.toList ++ c.toList)).Nodup := by
  cases a <;> cases b <;> cases c <;> simp_all <;> omega
theorem blocks_apart (hnd : m.blocks.Nodup) : (∀ k, m.vv.ownBlock = some k → m.sv.ownBlock ≠ some k ∧ m.rv.ownBlock ≠ some k) ∧ (∀ k, m.sv.ownBlock = some k → m.rv.ownBlock ≠ some k) := by
  simp only [CM.blocks] at hnd
  cases h1 : m.vv.ownBlock <;> cases h2 : m.sv.ownBlock <;> cases h3 : m.rv.ownBlock <;> simp_all <;> omega
theorem Chs.putS {l' : List Wt} (h : Chs w F g (.slice (some ⟨L, 0, none⟩) n c) ms) (hi : ms[i]? = some m) (hfr : Fr (fun k => m.sv.ownBlock = some k) w w1) (hF : ∀ k, F k → F' k) (hF' : ∀ k, F' k → k < w1.heap.size)
    (hrow : RowF w1 F' 114 4 v' (wts l')) (hl : Lies w m.sv v') : Chs (w1.setCell ⟨L, i * 5 + 2, none⟩ v') F' g (.slice (some ⟨L, 0, none⟩) n c) (ms.set i (m.setS v' l')) := by
  have hm := h.own.each m (List.mem_of_getElem? hi)
  have hnd := nodup_of_flat h.own.apart (List.mem_of_getElem? hi)
  obtain ⟨a1, a2⟩ := blocks_apart hnd
  have x1 : ∀ k, m.vv.ownBlock = some k → k < w.heap.size := fun k hk => hm.vals.lt hk
  have x3 : ∀ k, m.rv.ownBlock = some k → k < w.heap.size := fun k hk => hm.rcv.lt hk
  refine h.put hi (by omega) rfl hfr (fun k hk => .inl (by simp [CM.blocks, hk])) hF hF' ⟨?_, hrow, ?_⟩ ?_ ?_
  · exact (hm.vals.fr hfr (fun k hk => (a1 k hk).1)).mono hF
  · exact (hm.rcv.fr hfr (fun k hk hk' => a2 k hk' hk)).mono hF
  · intro k hk
    simp only [CM.blocks, CM.setS, List.mem_append, Option.mem_toList] at hk ⊢
    rcases hk with hk | hk | hk
    · exact .inl (.inl hk)
    · rcases hl k hk with h1 | h1
      · exact .inl (.inr (.inl h1))
      · exact .inr h1
    · exact .inl (.inr (.inr hk))
  · refine nodup3 (fun k hk hk' => ?_) (fun k hk hk' => (a1 k hk).2 hk') (fun k hk hk' => ?_)
    · rcases hl k hk' with h1 | h1
      · exact (a1 k hk).1 h1
      · have := x1 k hk; omega
    · rcases hl k hk with h1 | h1
      · exact a2 k h1 hk'
      · have := x3 k hk'; omega
theorem Chs.putR {l' : List Wt} (h : Chs w F g (.slice (some ⟨L, 0, none⟩) n c) ms) (hi : ms[i]? = some m) (hfr : Fr (fun k => m.rv.ownBlock = some k) w w1) (hF : ∀ k, F k → F' k) (hF' : ∀ k, F' k → k < w1.heap.size)
    (hrow : RowF w1 F' 114 4 v' (wts l')) (hl : Lies w m.rv v') : Chs (w1.setCell ⟨L, i * 5 + 3, none⟩ v') F' g (.slice (some ⟨L, 0, none⟩) n c) (ms.set i (m.setR v' l')) := by
  have hm := h.own.each m (List.mem_of_getElem? hi)
  have hnd := nodup_of_flat h.own.apart (List.mem_of_getElem? hi)
  obtain ⟨a1, a2⟩ := blocks_apart hnd
  have x1 : ∀ k, m.vv.ownBlock = some k → k < w.heap.size := fun k hk => hm.vals.lt hk
  have x2 : ∀ k, m.sv.ownBlock = some k → k < w.heap.size := fun k hk => hm.snd.lt hk
  refine h.put hi (by omega) rfl hfr (fun k hk => .inl (by simp [CM.blocks, hk])) hF hF' ⟨?_, ?_, hrow⟩ ?_ ?_
  · exact (hm.vals.fr hfr (fun k hk => (a1 k hk).2)).mono hF
  · exact (hm.snd.fr hfr (fun k hk hk' => a2 k hk hk')).mono hF
  · intro k hk
    simp only [CM.blocks, CM.setR, List.mem_append, Option.mem_toList] at hk ⊢
    rcases hk with hk | hk | hk
    · exact .inl (.inl hk)
    · exact .inl (.inr (.inl hk))
    · rcases hl k hk with h1 | h1
      · exact .inl (.inr (.inr h1))
      · exact .inr h1
  · refine nodup3 (fun k hk hk' => (a1 k hk).1 hk') (fun k hk hk' => ?_) (fun k hk hk' => ?_)
    · rcases hl k hk' with h1 | h1
      · exact (a1 k hk).2 h1
      · have := x1 k hk; omega
    · rcases hl k hk' with h1 | h1
      · exact a2 k hk h1
      · have := x2 k hk; omega
theorem Chs.putV {l' : List Int} (h : Chs w F g (.slice (some ⟨L, 0, none⟩) n c) ms) (hi : ms[i]? = some m) (hfr : Fr (fun k => m.vv.ownBlock = some k) w w1) (hF : ∀ k, F k → F' k) (hF' : ∀ k, F' k → k < w1.heap.size)
    (hrow : RowF w1 F' 2 1 v' (ints l')) (hl : Lies w m.vv v') : Chs (w1.setCell ⟨L, i * 5 + 1, none⟩ v') F' g (.slice (some ⟨L, 0, none⟩) n c) (ms.set i (m.setV v' l')) := by
  have hm := h.own.each m (List.mem_of_getElem? hi)
  have hnd := nodup_of_flat h.own.apart (List.mem_of_getElem? hi)
  obtain ⟨a1, a2⟩ := blocks_apart hnd
  have x3 : ∀ k, m.rv.ownBlock = some k → k < w.heap.size := fun k hk => hm.rcv.lt hk
  have x2 : ∀ k, m.sv.ownBlock = some k → k < w.heap.size := fun k hk => hm.snd.lt hk
  refine h.put hi (by omega) rfl hfr (fun k hk => .inl (by simp [CM.blocks, hk])) hF hF' ⟨hrow, ?_, ?_⟩ ?_ ?_
  · exact (hm.snd.fr hfr (fun k hk hk' => (a1 k hk').1 hk)).mono hF
  · exact (hm.rcv.fr hfr (fun k hk hk' => (a1 k hk').2 hk)).mono hF
  · intro k hk
    simp only [CM.blocks, CM.setV, List.mem_append, Option.mem_toList] at hk ⊢
    rcases hk with hk | hk | hk
    · rcases hl k hk with h1 | h1
      · exact .inl (.inl h1)
      · exact .inr h1
    · exact .inl (.inr (.inl hk))
    · exact .inl (.inr (.inr hk))
  · refine nodup3 (fun k hk hk' => ?_) (fun k hk hk' => ?_) (fun k hk hk' => a2 k hk hk')
    · rcases hl k hk with h1 | h1
      · exact (a1 k h1).1 hk'
      · have := x2 k hk'; omega
    · rcases hl k hk with h1 | h1
      · exact (a1 k h1).2 hk'
      · have := x3 k hk'; omega
/-- The channel is closed. -/
def CM.setC (m : CM) : CM := ⟨{ m.ch with cl := true }, m.vv, m.sv, m.rv⟩
theorem Chs.putC (h : Chs w F g (.slice (some ⟨L, 0, none⟩) n c) ms) (hi : ms[i]? = some m) : Chs (w.setCell ⟨L, i * 5 + 4, none⟩ (.bool true)) F g (.slice (some ⟨L, 0, none⟩) n c) (ms.set i m.setC) := by
  have hm := h.own.each m (List.mem_of_getElem? hi)
  exact h.put (S := E0) hi (by omega) rfl Fr.refl (fun k hk => hk.elim) (fun k hk => hk) h.lt ⟨hm.vals, hm.snd, hm.rcv⟩ (fun k hk => .inl hk) (by have := nodup_of_flat (f := CM.blocks) h.own.apart (List.mem_of_getElem? hi); exact this)
end
end Go.Proofs.Yteffmnohgnmanaa
