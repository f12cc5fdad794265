/- slices.IndexFunc and slices.ContainsFunc over waiters, at whatever closure that answers by a predicate. -/
import Derived.Test.YteffmnohgnmanaaMem
import Derived.Test.YteffmnohgnmanaaProg
namespace Go.Proofs.Yteffmnohgnmanaa
open Go.RowKit
/-- A predicate on waiters at a closure; it stays one where blocks of S are written. -/
structure PredW (S : Nat → Prop) (K : Nat) (cap : Array Value) (p : Wt → Bool) (w : World) : Prop where
  enter : ∀ (args : Array Value) (w' : World), (callFunc K args).run Try.prog w' = .ok (.enter K args) w'
  call : ∀ (x : Wt) (w' : World), Fr S w w' → Calls Try.prog K (#[x.val] ++ cap) w' (Ret (.bool (p x)) E0 w')
theorem PredW.fr {S : Nat → Prop} {K : Nat} {cap : Array Value} {p : Wt → Bool} {w w' : World} (h : PredW S K cap p w) (hf : Fr S w w') : PredW S K cap p w' :=
  ⟨h.enter, fun x w2 h2 => h.call x w2 (hf.trans h2)⟩
theorem PredW.e0 {S : Nat → Prop} {K : Nat} {cap : Array Value} {p : Wt → Bool} {w : World} (h : PredW S K cap p w) : PredW E0 K cap p w :=
  ⟨h.enter, fun x w2 h2 => h.call x w2 h2.e0⟩
/-- The goroutine that a box at B names. -/
def BoxG (B : Nat) (gs gg : Int) (w : World) : Prop := w.cell? ⟨B, 0, none⟩ = some (.int .i64 gs) ∧ w.cell? ⟨B, 1, none⟩ = some (.int .i64 gg)
theorem BoxG.fr {B : Nat} {gs gg : Int} {w w' : World} {S : Nat → Prop} (h : BoxG B gs gg w) (hf : Fr S w w') (hs : ¬ S B) : BoxG B gs gg w' := ⟨hf.cell h.1 hs, hf.cell h.2 hs⟩
theorem BoxG.lt {B : Nat} {gs gg : Int} {w : World} (h : BoxG B gs gg w) : B < w.heap.size := World.block_lt_of_cell? w _ h.1
def isG (gs gg : Int) (x : Wt) : Bool := decide (x.s = gs ∧ x.g = gg)
theorem isG_t {gs gg s g c v : Int} (h1 : s = gs) (h2 : g = gg) : isG gs gg ⟨s, g, c, v⟩ = true := by simp [isG, h1, h2]
theorem isG_f1 {gs gg s g c v : Int} (h1 : ¬ s = gs) : isG gs gg ⟨s, g, c, v⟩ = false := by simp [isG, h1]
theorem isG_f2 {gs gg s g c v : Int} (h2 : ¬ g = gg) : isG gs gg ⟨s, g, c, v⟩ = false := by simp [isG, h2]

set_option maxHeartbeats 400000 in
theorem waits1 (B : Nat) (x : Wt) (gs gg : Int) (w : World) (hB : BoxG B gs gg w) :
    Calls Try.prog 70 (#[x.val] ++ #[.pointer (some ⟨B, 0, none⟩)]) w (Ret (.bool (isG gs gg x)) E0 w) := by
  obtain ⟨h0, h1⟩ := hB
  have hb := World.block_lt_of_cell? w _ h0
  obtain ⟨s, g, c, v⟩ := x
  simp only [Wt.val]
  go_enter Try.func70, Try.ntmps70
  go_wp2
  all_goals go_ret
  · exact ⟨by rw [isG_t rfl rfl]; rfl, Fr.refl.alloc _⟩
  · exact ⟨by rw [isG_f2 ‹_›]; rfl, Fr.refl.alloc _⟩
  · exact ⟨by rw [isG_f1 ‹_›]; rfl, Fr.refl.alloc _⟩
set_option maxHeartbeats 400000 in
theorem leave1 (B : Nat) (x : Wt) (gs gg : Int) (w : World) (hB : BoxG B gs gg w) :
    Calls Try.prog 83 (#[x.val] ++ #[.pointer (some ⟨B, 0, none⟩)]) w (Ret (.bool (isG gs gg x)) E0 w) := by
  obtain ⟨h0, h1⟩ := hB
  have hb := World.block_lt_of_cell? w _ h0
  obtain ⟨s, g, c, v⟩ := x
  simp only [Wt.val]
  go_enter Try.func83, Try.ntmps83
  go_wp2
  all_goals go_ret
  · exact ⟨by rw [isG_t rfl rfl]; rfl, Fr.refl.alloc _⟩
  · exact ⟨by rw [isG_f2 ‹_›]; rfl, Fr.refl.alloc _⟩
  · exact ⟨by rw [isG_f1 ‹_›]; rfl, Fr.refl.alloc _⟩
set_option maxHeartbeats 400000 in
theorem may2 (B : Nat) (x : Wt) (gs gg : Int) (w : World) (hB : BoxG B gs gg w) :
    Calls Try.prog 90 (#[x.val] ++ #[.pointer (some ⟨B, 0, none⟩)]) w (Ret (.bool (!isG gs gg x)) E0 w) := by
  obtain ⟨h0, h1⟩ := hB
  have hb := World.block_lt_of_cell? w _ h0
  obtain ⟨s, g, c, v⟩ := x
  simp only [Wt.val]
  go_enter Try.func90, Try.ntmps90
  go_wp2
  all_goals go_ret
  · exact ⟨by rw [isG_t rfl rfl]; rfl, Fr.refl.alloc _⟩
  · exact ⟨by rw [isG_f2 ‹_›]; rfl, Fr.refl.alloc _⟩
  · exact ⟨by rw [isG_f1 ‹_›]; rfl, Fr.refl.alloc _⟩
def hasV (x : Wt) : Bool := decide (x.v ≠ 0)
set_option maxHeartbeats 400000 in
theorem may1 (x : Wt) (w : World) : Calls Try.prog 89 (#[x.val] ++ #[]) w (Ret (.bool (hasV x)) E0 w) := by
  obtain ⟨s, g, c, v⟩ := x
  simp only [Wt.val]
  by_cases h : v = 0
  · subst h
    have e : hasV ⟨s, g, c, 0⟩ = false := by simp [hasV]
    rw [e]
    go_enter Try.func89, Try.ntmps89
    go_wp2
    go_ret
    exact ⟨rfl, Fr.refl.alloc _⟩
  · have e : hasV ⟨s, g, c, v⟩ = true := by simp [hasV, h]
    rw [e]
    have hv : (v != 0) = true := by simp [h]
    go_enter Try.func89, Try.ntmps89
    go_wp2
    go_ret
    exact ⟨rfl, Fr.refl.alloc _⟩

theorem enters (K : Nat) (h : ((Try.prog.funcs[K]?).map fun f => (f.name == "runtime.NumGoroutine", f.body.isNone)) = some (false, false)) (args : Array Value) (w : World) :
    (callFunc K args).run Try.prog w = .ok (.enter K args) w := by
  cases hf : Try.prog.funcs[K]? with
  | none => rw [hf] at h; simp at h
  | some f =>
    rw [hf] at h
    simp only [Option.map_some, Option.some.injEq, Prod.mk.injEq] at h
    have h1 : ¬ f.name = "runtime.NumGoroutine" := by simpa using h.1
    have h2 : ¬ f.body = none := fun e => by have := h.2; rw [e] at this; cases this
    simp [callFunc, Go.program, Sem.run, hf, bind, Sem.bind, pure, h1, h2]
theorem predWaits {B : Nat} {gs gg : Int} {w : World} {S : Nat → Prop} (hB : BoxG B gs gg w) (hs : ¬ S B) : PredW S 70 #[.pointer (some ⟨B, 0, none⟩)] (isG gs gg) w :=
  ⟨enters 70 (by kernel_rfl), fun x w' hf => waits1 B x gs gg w' (hB.fr hf hs)⟩
theorem predLeave {B : Nat} {gs gg : Int} {w : World} {S : Nat → Prop} (hB : BoxG B gs gg w) (hs : ¬ S B) : PredW S 83 #[.pointer (some ⟨B, 0, none⟩)] (isG gs gg) w :=
  ⟨enters 83 (by kernel_rfl), fun x w' hf => leave1 B x gs gg w' (hB.fr hf hs)⟩
theorem predOther {B : Nat} {gs gg : Int} {w : World} {S : Nat → Prop} (hB : BoxG B gs gg w) (hs : ¬ S B) : PredW S 90 #[.pointer (some ⟨B, 0, none⟩)] (fun x => !isG gs gg x) w :=
  ⟨enters 90 (by kernel_rfl), fun x w' hf => may2 B x gs gg w' (hB.fr hf hs)⟩
theorem predHasV {w : World} {S : Nat → Prop} : PredW S 89 #[] hasV w :=
  ⟨enters 89 (by kernel_rfl), fun x w' _ => may1 x w'⟩

set_option maxHeartbeats 400000 in
theorem indexW (A : Option Addr) (n c K : Nat) (cap : Array Value) (p : Wt → Bool) (l : List Wt) (w : World) (hl : l.length = n) (hn : n ≤ maxLen) (hp : PredW E0 K cap p w) (hc : RdA w A (wts l)) :
    Calls Try.prog 88 #[.slice A n c, .func (.func K) #[] cap] w (Ret (.int .i64 (idxv p l)) E0 w) := by
  unfold maxLen at hn
  have hK := hp.enter
  go_enter Try.func88, Try.ntmps88
  go_wp2
  go_loopw [8] (fun i wr => ∃ k : Nat, k ≤ n ∧ i = .int .i64 k ∧ Fr E0 w wr ∧ ∀ j, j < k → ∀ x, l[j]? = some x → p x = false) (fun i _ => n - (intOf i).toNat)
  case atStart => exact ⟨0, Nat.zero_le _, rfl, Fr.refl, fun j hj => absurd hj (by omega)⟩
  case round =>
    obtain ⟨k, hk, rfl, hf, hno⟩ := hrel
    have H := hid hno; clear hno
    by_cases hlt : k < n
    · obtain ⟨x, hx⟩ : ∃ x, l[k]? = some x := ⟨l[k], List.getElem?_eq_getElem (by omega)⟩
      obtain ⟨b, o, rfl, hr⟩ := hc.wtAt hx
      obtain ⟨g0, g1, g2, g3⟩ := (hr.fr hf (fun x => x)).wt hx
      clear hr hc
      go_wp2_with fail
      refine (hp.call x wr hf).mono ?_
      rintro e w1 ⟨rfl, hf1⟩
      have F1 := hid (hf.trans hf1)
      clear hf hf1
      cases hpx : p x with
      | true =>
        have HX := hid hpx; clear hpx
        go_wp2
        go_ret
        exact ⟨by rw [idxv_hit hx HX.out H.out]; rfl, F1.out⟩
      | false =>
        have HX := hid hpx; clear hpx
        go_wp2
        go_roundw
        case rel => exact ⟨k + 1, by omega, by go_num, F1.out, miss_succ hx HX.out H.out⟩
        case measure => simp [intOf]; omega
    · have F := hid hf
      go_wp2
      go_ret
      exact ⟨by rw [idxv_miss (by omega) H.out]; rfl, F.out⟩
set_option maxHeartbeats 400000 in
theorem containsW (A : Option Addr) (n c K : Nat) (cap : Array Value) (p : Wt → Bool) (l : List Wt) (w : World) (hl : l.length = n) (hn : n ≤ maxLen) (hp : PredW E0 K cap p w) (hc : RdA w A (wts l)) :
    Calls Try.prog 73 #[.slice A n c, .func (.func K) #[] cap] w (Ret (.bool (l.any p)) E0 w) := by
  have hi := idxv_any p l
  generalize l.any p = r at *
  go_enter Try.func73, Try.ntmps73
  go_wp2_with (go_at_call 88; refine (indexW A n c K cap p l w hl hn hp hc).mono ?_; rintro e w1 ⟨rfl, hf1⟩; have F1 := hid hf1; clear hf1)
  go_ret
  exact ⟨by rfl, F1.out⟩
end Go.Proofs.Yteffmnohgnmanaa
