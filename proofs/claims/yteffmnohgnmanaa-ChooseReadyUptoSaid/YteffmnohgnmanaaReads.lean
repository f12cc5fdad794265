/- (*Chans).is, at, Waits, Len, Cap, Goes: what only reads. -/
import Derived.Test.YteffmnohgnmanaaWaits
namespace Go.Proofs.Yteffmnohgnmanaa
open Go.RowKit
/-- The channels at g, as they are read. -/
structure RdCh (w : World) (g : Nat) (A : Option Addr) (c : Nat) (ms : List CM) : Prop where
  made : w.cell? ⟨g, 0, none⟩ = some (.bool true)
  list : w.cell? ⟨g, 1, none⟩ = some (.slice A ms.length c)
  le : ms.length ≤ maxLen
  row : RdA w A (ms.flatMap CM.cells)
  each : ∀ m ∈ ms, m.Rd w
theorem RdCh.fr {w w' : World} {g : Nat} {A : Option Addr} {c : Nat} {ms : List CM} (h : RdCh w g A c ms) (hf : Fr E0 w w') : RdCh w' g A c ms :=
  ⟨hf.cell h.made (fun x => x), hf.cell h.list (fun x => x), h.le, h.row.fr hf, fun m hm => (h.each m hm).fr hf⟩

theorem is_none (w : World) : Calls Try.prog 53 #[.pointer none] w (Ret (.bool false) E0 w) := by
  go_enter Try.func53, Try.ntmps53
  go_wp2
  go_ret
  exact ⟨rfl, Fr.refl⟩
theorem is_made {w : World} {g : Nat} (h : w.cell? ⟨g, 0, none⟩ = some (.bool true)) : Calls Try.prog 53 #[.pointer (some ⟨g, 0, none⟩)] w fun e w' => e = .returned (.bool true) ∧ w = w' := by
  go_enter Try.func53, Try.ntmps53
  go_wp2
  go_ret
  exact ⟨rfl, rfl⟩
def tup2 (a b : Value) : Value := .tuple #[a, b]
set_option maxHeartbeats 400000 in
theorem at_none (ch : Int) (w : World) : Calls Try.prog 54 #[.pointer none, .int .i64 ch] w fun e w' => e = .returned (tup2 (.pointer none) (.int .i64 4)) ∧ w = w' := by
  go_enter Try.func54, Try.ntmps54
  go_wp2
  go_ret2
  exact ⟨rfl, rfl⟩
set_option maxHeartbeats 400000 in
theorem at_out {w : World} {g : Nat} {A : Option Addr} {c : Nat} {ms : List CM} (h : RdCh w g A c ms) (ch : Int) (hch : ch < 0 ∨ (ms.length : Int) < ch) :
    Calls Try.prog 54 #[.pointer (some ⟨g, 0, none⟩), .int .i64 ch] w fun e w' => e = .returned (tup2 (.pointer none) (.int .i64 4)) ∧ w = w' := by
  obtain ⟨h1, h2, h3, _, _⟩ := h
  unfold maxLen at h3
  rcases hch with hch | hch
  · go_enter Try.func54, Try.ntmps54
    go_wp2
    go_ret2
    exact ⟨rfl, rfl⟩
  · have h0 : ¬ ch < 0 := by omega
    go_enter Try.func54, Try.ntmps54
    go_wp2
    go_ret2
    exact ⟨rfl, rfl⟩
set_option maxHeartbeats 400000 in
theorem at_zero {w : World} {g : Nat} {A : Option Addr} {c : Nat} {ms : List CM} (h : RdCh w g A c ms) :
    Calls Try.prog 54 #[.pointer (some ⟨g, 0, none⟩), .int .i64 0] w fun e w' => e = .returned (tup2 (.pointer none) (.int .i64 0)) ∧ w = w' := by
  obtain ⟨h1, h2, h3, _, _⟩ := h
  unfold maxLen at h3
  go_enter Try.func54, Try.ntmps54
  go_wp2
  go_ret2
  exact ⟨rfl, rfl⟩
set_option maxHeartbeats 400000 in
theorem at_in {w : World} {g b o : Nat} {c : Nat} {ms : List CM} (h : RdCh w g (some ⟨b, o, none⟩) c ms) (k : Nat) (hk : k < ms.length) :
    Calls Try.prog 54 #[.pointer (some ⟨g, 0, none⟩), .int .i64 ((k : Int) + 1)] w fun e w' => e = .returned (tup2 (.pointer (some ⟨b, o + k * 5, none⟩)) (.int .i64 0)) ∧ w = w' := by
  obtain ⟨h1, h2, h3, _, _⟩ := h
  unfold maxLen at h3
  have h0 : ¬ (k : Int) + 1 < 0 := by omega
  have h4 : ¬ (ms.length : Int) < (k : Int) + 1 := by omega
  have h5 : ((k : Int) + 1 == 0) = false := by simp; omega
  go_enter Try.func54, Try.ntmps54
  go_wp2
  go_ret2
  exact ⟨rfl, rfl⟩
set_option maxHeartbeats 400000 in
theorem waits_none (gs gg : Int) (w : World) : Calls Try.prog 31 #[.pointer none, .agg #[.int .i64 gs, .int .i64 gg]] w (Ret (.bool false) E0 w) := by
  go_enter Try.func31, Try.ntmps31
  go_wp2
  go_ret
  exact ⟨rfl, Fr.refl.alloc _⟩
def waitsL (gs gg : Int) (l : List Ch) : Bool := l.any (waitsCh gs gg)
theorem predC {B D : Nat} {gs gg : Int} {w : World} (hB : BoxG B gs gg w) (hD : w.cell? ⟨D, 0, none⟩ = some (.func (.func 70) #[] #[.pointer (some ⟨B, 0, none⟩)])) : PredC 72 #[.pointer (some ⟨D, 0, none⟩)] (waitsCh gs gg) w :=
  ⟨enters 72 (by kernel_rfl), fun x w' hf hx => waits2 B D x gs gg w' (hB.fr hf (fun x => x)) (hf.cell hD (fun x => x)) hx⟩
set_option maxHeartbeats 400000 in
theorem waits_ok {w : World} {g : Nat} {A : Option Addr} {c : Nat} {ms : List CM} (h : RdCh w g A c ms) (gs gg : Int) :
    Calls Try.prog 31 #[.pointer (some ⟨g, 0, none⟩), .agg #[.int .i64 gs, .int .i64 gg]] w (Ret (.bool (waitsL gs gg (chs ms))) E0 w) := by
  have hh := hid h
  obtain ⟨h1, h2, h3, h4, h5⟩ := h
  have hg := World.block_lt_of_cell? w _ h1
  simp only at hg
  have hne : ¬ w.heap.size = g := by omega
  clear h4 h5
  go_enter Try.func31, Try.ntmps31
  go_wp2_with (go_at_call 53; go_in)
  have F0 : Fr E0 w ((w.alloc (.cells #[.int .i64 gs, .int .i64 gg] 37)).alloc (.cells #[.func (.func 70) #[] #[.pointer (some ⟨w.heap.size, 0, none⟩)]] 130)) := (Fr.refl.alloc _).alloc _
  have hB : BoxG w.heap.size gs gg ((w.alloc (.cells #[.int .i64 gs, .int .i64 gg] 37)).alloc (.cells #[.func (.func 70) #[] #[.pointer (some ⟨w.heap.size, 0, none⟩)]] 130)) :=
    ⟨by rw [World.cell?_alloc_past _ _ _ (by simp), World.cell?_alloc_at _ _ _ _ rfl]; rfl, by rw [World.cell?_alloc_past _ _ _ (by simp), World.cell?_alloc_at _ _ _ _ rfl]; rfl⟩
  have hD : ((w.alloc (.cells #[.int .i64 gs, .int .i64 gg] 37)).alloc (.cells #[.func (.func 70) #[] #[.pointer (some ⟨w.heap.size, 0, none⟩)]] 130)).cell? ⟨w.heap.size + 1, 0, none⟩ =
      some (.func (.func 70) #[] #[.pointer (some ⟨w.heap.size, 0, none⟩)]) := by rw [World.cell?_alloc_at _ _ _ _ (by simp)]; rfl
  refine (containsC A ms.length c 72 _ (waitsCh gs gg) ms _ rfl h3 (predC hB hD) (hh.out.row.fr F0) (fun m hm => (hh.out.each m hm).fr F0)).mono ?_
  rintro e w1 ⟨rfl, hf1⟩
  have F1 := hid (F0.trans hf1)
  clear hf1 F0 hB hD
  go_wp2
  go_ret
  exact ⟨rfl, F1.out⟩
end Go.Proofs.Yteffmnohgnmanaa
