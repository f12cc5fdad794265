/- One more in one of a channel's rows. -/
import Derived.Test.YteffmnohgnmanaaSpec
namespace Go.Proofs.Yteffmnohgnmanaa
open Go.RowKit
/-- The channels at g are l' now, in blocks of F and new ones; what else may have changed lies in F. -/
def Step2 (F : Nat → Prop) (g : Nat) (w : World) (l' : List Ch) (w' : World) : Prop := ∃ F' : Nat → Prop, IsCh w' F' g l' ∧ (∀ q, F' q → F q ∨ w.heap.size ≤ q) ∧ Fr F w w'
section
variable {w w2 : World} {F : Nat → Prop} {k L n c g gg nn cap : Nat} {ms : List CM} {m : CM}
theorem chs_set {ms : List CM} {k : Nat} {x : CM} : chs (ms.set k x) = (chs ms).set k x.ch := by unfold chs; rw [List.map_set]
theorem gg_row {v : Value} {e sz : Nat} {xs ys : List Value} (hrow : RowF w F e sz v ys) (hown : w2.ownsRow 0 e sz (.slice (some ⟨gg, 0, none⟩) nn cap) nn xs) (hat : v.ownBlock = some gg ∨ gg = w.heap.size) :
    RowF w2 (fun q => F q ∨ q = gg) e sz (.slice (some ⟨gg, 0, none⟩) nn cap) xs ∧ Lies w v (.slice (some ⟨gg, 0, none⟩) nn cap) ∧ (F gg ∨ w.heap.size ≤ gg) := by
  refine ⟨⟨⟨nn, hown⟩, fun q hq => by simp [Value.ownBlock] at hq; exact .inr hq.symm⟩, fun q hq => ?_, ?_⟩
  · simp [Value.ownBlock] at hq; subst hq
    rcases hat with h | h
    · exact .inl h
    · exact .inr (by omega)
  · rcases hat with h | h
    · exact .inl (hrow.2 gg h)
    · exact .inr (by omega)
theorem appendV {l' : List Int} (h : Chs w F g (.slice (some ⟨L, 0, none⟩) n c) ms) (hk : ms[k]? = some m) (hL : F L) (hown : w2.ownsRow 0 2 1 (.slice (some ⟨gg, 0, none⟩) nn cap) nn (ints l')) (hgrow : w.grownBy w2 m.vv.ownBlock)
    (hat : m.vv.ownBlock = some gg ∨ gg = w.heap.size) (hlt : gg < w2.heap.size) : Step2 F g w ((chs ms).set k { m.ch with vals := l' }) (w2.setCell ⟨L, k * 5 + 1, none⟩ (.slice (some ⟨gg, 0, none⟩) nn cap)) := by
  have hm := h.own.each m (List.mem_of_getElem? hk)
  obtain ⟨r1, r2, r3⟩ := gg_row hm.vals hown hat
  have hfr : Fr (fun q => m.vv.ownBlock = some q) w w2 := Fr.refl.grown hgrow (fun q hq => .inl hq)
  refine ⟨_, ⟨_, _, h.putV hk hfr (fun q hq => .inl hq) ?_ r1 r2, chs_set⟩, ?_, ?_⟩
  · rintro q (hq | rfl)
    · exact Nat.lt_of_lt_of_le (h.lt q hq) hgrow.size
    · exact hlt
  · rintro q (hq | rfl)
    · exact .inl hq
    · exact r3
  · exact (hfr.mono (fun q hq => hm.vals.2 q hq)).setCell (p := ⟨L, k * 5 + 1, none⟩) _ (.inl hL)
theorem appendS {l' : List Wt} (h : Chs w F g (.slice (some ⟨L, 0, none⟩) n c) ms) (hk : ms[k]? = some m) (hL : F L) (hown : w2.ownsRow 0 114 4 (.slice (some ⟨gg, 0, none⟩) nn cap) nn (wts l')) (hgrow : w.grownBy w2 m.sv.ownBlock)
    (hat : m.sv.ownBlock = some gg ∨ gg = w.heap.size) (hlt : gg < w2.heap.size) : Step2 F g w ((chs ms).set k { m.ch with snd := l' }) (w2.setCell ⟨L, k * 5 + 2, none⟩ (.slice (some ⟨gg, 0, none⟩) nn cap)) := by
  have hm := h.own.each m (List.mem_of_getElem? hk)
  obtain ⟨r1, r2, r3⟩ := gg_row hm.snd hown hat
  have hfr : Fr (fun q => m.sv.ownBlock = some q) w w2 := Fr.refl.grown hgrow (fun q hq => .inl hq)
  refine ⟨_, ⟨_, _, h.putS hk hfr (fun q hq => .inl hq) ?_ r1 r2, chs_set⟩, ?_, ?_⟩
  · rintro q (hq | rfl)
    · exact Nat.lt_of_lt_of_le (h.lt q hq) hgrow.size
    · exact hlt
  · rintro q (hq | rfl)
    · exact .inl hq
    · exact r3
  · exact (hfr.mono (fun q hq => hm.snd.2 q hq)).setCell (p := ⟨L, k * 5 + 2, none⟩) _ (.inl hL)
theorem appendR {l' : List Wt} (h : Chs w F g (.slice (some ⟨L, 0, none⟩) n c) ms) (hk : ms[k]? = some m) (hL : F L) (hown : w2.ownsRow 0 114 4 (.slice (some ⟨gg, 0, none⟩) nn cap) nn (wts l')) (hgrow : w.grownBy w2 m.rv.ownBlock)
    (hat : m.rv.ownBlock = some gg ∨ gg = w.heap.size) (hlt : gg < w2.heap.size) : Step2 F g w ((chs ms).set k { m.ch with rcv := l' }) (w2.setCell ⟨L, k * 5 + 3, none⟩ (.slice (some ⟨gg, 0, none⟩) nn cap)) := by
  have hm := h.own.each m (List.mem_of_getElem? hk)
  obtain ⟨r1, r2, r3⟩ := gg_row hm.rcv hown hat
  have hfr : Fr (fun q => m.rv.ownBlock = some q) w w2 := Fr.refl.grown hgrow (fun q hq => .inl hq)
  refine ⟨_, ⟨_, _, h.putR hk hfr (fun q hq => .inl hq) ?_ r1 r2, chs_set⟩, ?_, ?_⟩
  · rintro q (hq | rfl)
    · exact Nat.lt_of_lt_of_le (h.lt q hq) hgrow.size
    · exact hlt
  · rintro q (hq | rfl)
    · exact .inl hq
    · exact r3
  · exact (hfr.mono (fun q hq => hm.rcv.2 q hq)).setCell (p := ⟨L, k * 5 + 3, none⟩) _ (.inl hL)
end
/-- A step behind which a block of the call's own is written. -/
theorem Step2.then {w W w2 w3 : World} {F S : Nat → Prop} {g : Nat} {l : List Ch} (h : Step2 F g W l w2) (h1 : Fr E0 w W) (hF : ∀ q, F q → q < w.heap.size) (h3 : Fr S w2 w3) (hS : ∀ q, S q → w.heap.size ≤ q ∧ q < W.heap.size) : Step F g w l w3 := by
  obtain ⟨F', i1, i2, i3⟩ := h
  refine ⟨F', i1.fr h3 (fun q hq hs => ?_), fun q hq => ?_, ((h1.e0 (S := F)).trans i3).trans' h3 (fun q hq => .inr (hS q hq).1)⟩
  · have := hS q hs
    rcases i2 q hq with hq | hq
    · have := hF q hq; omega
    · omega
  · have := h1.size
    rcases i2 q hq with hq | hq
    · exact .inl hq
    · exact .inr (by omega)
theorem news1 {w : World} (o : Array Value) (e : TypeId) : ∀ j u, o.toList[j]? = some u → (w.alloc (.cells o e)).cell? ((⟨w.heap.size, 0, none⟩ : Addr).add j) = some u := World.news_of_block (heap_alloc_new w _)
end Go.Proofs.Yteffmnohgnmanaa
