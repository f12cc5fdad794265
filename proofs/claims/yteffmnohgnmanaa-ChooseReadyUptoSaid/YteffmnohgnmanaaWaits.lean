/- slices.IndexFunc and ContainsFunc over channels; (*Chans).Waits, is, at, Len, Cap, Goes: what only reads. -/
import Derived.Test.YteffmnohgnmanaaFind
import Derived.Test.YteffmnohgnmanaaChs
namespace Go.Proofs.Yteffmnohgnmanaa
open Go.RowKit
structure PredC (K : Nat) (cap : Array Value) (p : Ch → Bool) (w : World) : Prop where
  enter : ∀ (args : Array Value) (w' : World), (callFunc K args).run Try.prog w' = .ok (.enter K args) w'
  call : ∀ (x : CM) (w' : World), Fr E0 w w' → x.Rd w' → Calls Try.prog K (#[x.val] ++ cap) w' (Ret (.bool (p x.ch)) E0 w')
set_option maxHeartbeats 400000 in
theorem indexC (A : Option Addr) (n c K : Nat) (cap : Array Value) (p : Ch → Bool) (l : List CM) (w : World) (hl : l.length = n) (hn : n ≤ maxLen) (hp : PredC K cap p w) (hc : RdA w A (l.flatMap CM.cells)) (he : ∀ m ∈ l, m.Rd w) :
    Calls Try.prog 87 #[.slice A n c, .func (.func K) #[] cap] w (Ret (.int .i64 (idxv (fun m => p m.ch) l)) E0 w) := by
  unfold maxLen at hn
  have hK := hp.enter
  go_enter Try.func87, Try.ntmps87
  go_wp2
  go_loopw [8] (fun i wr => ∃ k : Nat, k ≤ n ∧ i = .int .i64 k ∧ Fr E0 w wr ∧ ∀ j, j < k → ∀ x : CM, l[j]? = some x → p x.ch = false) (fun i _ => n - (intOf i).toNat)
  case atStart => exact ⟨0, Nat.zero_le _, rfl, Fr.refl, fun j hj => absurd hj (by omega)⟩
  case round =>
    obtain ⟨k, hk, rfl, hf, hno⟩ := hrel
    have H := hid hno; clear hno
    by_cases hlt : k < n
    · obtain ⟨x, hx⟩ : ∃ x, l[k]? = some x := ⟨l[k], List.getElem?_eq_getElem (by omega)⟩
      obtain ⟨b, o, rfl, hr⟩ := hc.cmAt hx
      obtain ⟨g0, g1, g2, g3, g4⟩ := (hr.fr hf (fun x => x)).cm hx
      have HR := hid ((he x (List.mem_of_getElem? hx)).fr hf)
      clear hr hc he
      go_wp2_with fail
      refine (hp.call x wr hf HR.out).mono ?_
      rintro e w1 ⟨rfl, hf1⟩
      have F1 := hid (hf.trans hf1)
      clear hf hf1
      cases hpx : p x.ch with
      | true =>
        have HX := hid hpx; clear hpx
        go_wp2
        go_ret
        exact ⟨by rw [idxv_hit (p := fun m : CM => p m.ch) hx HX.out H.out]; rfl, F1.out⟩
      | false =>
        have HX := hid hpx; clear hpx
        go_wp2
        go_roundw
        case rel => exact ⟨k + 1, by omega, by go_num, F1.out, miss_succ (p := fun m : CM => p m.ch) hx HX.out H.out⟩
        case measure => simp [intOf]; omega
    · have F := hid hf
      go_wp2
      go_ret
      exact ⟨by rw [idxv_miss (by omega) H.out]; rfl, F.out⟩
set_option maxHeartbeats 400000 in
theorem containsC (A : Option Addr) (n c K : Nat) (cap : Array Value) (p : Ch → Bool) (l : List CM) (w : World) (hl : l.length = n) (hn : n ≤ maxLen) (hp : PredC K cap p w) (hc : RdA w A (l.flatMap CM.cells)) (he : ∀ m ∈ l, m.Rd w) :
    Calls Try.prog 71 #[.slice A n c, .func (.func K) #[] cap] w (Ret (.bool ((chs l).any p)) E0 w) := by
  have hi := idxv_any (fun m : CM => p m.ch) l
  have e : (chs l).any p = l.any (fun m => p m.ch) := by unfold chs; rw [List.any_map]; rfl
  rw [e]
  generalize l.any (fun m => p m.ch) = r at *
  clear e
  go_enter Try.func71, Try.ntmps71
  go_wp2_with (go_at_call 87; refine (indexC A n c K cap p l w hl hn hp hc he).mono ?_; rintro e w1 ⟨rfl, hf1⟩; have F1 := hid hf1; clear hf1)
  go_ret
  exact ⟨by rfl, F1.out⟩

def waitsCh (gs gg : Int) (c : Ch) : Bool := c.snd.any (isG gs gg) || c.rcv.any (isG gs gg)
set_option maxHeartbeats 400000 in
theorem waits2 (B D : Nat) (x : CM) (gs gg : Int) (w : World) (hB : BoxG B gs gg w) (hD : w.cell? ⟨D, 0, none⟩ = some (.func (.func 70) #[] #[.pointer (some ⟨B, 0, none⟩)])) (hx : x.Rd w) :
    Calls Try.prog 72 (#[x.val] ++ #[.pointer (some ⟨D, 0, none⟩)]) w (Ret (.bool (waitsCh gs gg x.ch)) E0 w) := by
  obtain ⟨ch, vv, sv, rv⟩ := x
  obtain ⟨h1, h2, h3⟩ := hx
  obtain ⟨A2, n2, c2, rfl, hl2, hc2, hm2, hr2⟩ := h2
  obtain ⟨A3, n3, c3, rfl, hl3, hc3, hm3, hr3⟩ := h3
  have hm2 := Nat.le_trans hc2 hm2
  have hm3 := Nat.le_trans hc3 hm3
  simp only at *
  have hl2' : ch.snd.length = n2 := by rw [wts_len] at hl2; omega
  have hl3' : ch.rcv.length = n3 := by rw [wts_len] at hl3; omega
  have hDl := World.block_lt_of_cell? w _ hD
  have hBl := hB.lt
  simp only [CM.val, waitsCh]
  have P0 := hid hB
  clear hB
  cases hs : ch.snd.any (isG gs gg) with
  | true =>
    have HS := hid hs; clear hs
    simp only [Bool.true_or]
    go_enter Try.func72, Try.ntmps72
    go_wp2_with fail
    rw [← HS.out]
    refine (containsW A2 n2 c2 70 _ (isG gs gg) ch.snd _ hl2' hm2 (predWaits ((P0.out).fr (S := E0) (Fr.refl.alloc _) (fun x => x)) (fun x => x)) (hr2.fr (Fr.refl.alloc _))).mono ?_
    rintro e w1 ⟨rfl, hf1⟩
    rw [HS.out]
    have F1 := hid ((Fr.refl.alloc _).trans hf1); clear hf1
    go_wp2
    go_ret
    exact ⟨by rfl, F1.out⟩
  | false =>
    have HS := hid hs; clear hs
    simp only [Bool.false_or]
    go_enter Try.func72, Try.ntmps72
    go_wp2_with fail
    refine (containsW A2 n2 c2 70 _ (isG gs gg) ch.snd _ hl2' hm2 (predWaits ((P0.out).fr (S := E0) (Fr.refl.alloc _) (fun x => x)) (fun x => x)) (hr2.fr (Fr.refl.alloc _))).mono ?_
    rintro e w1 ⟨rfl, hf1⟩
    rw [HS.out]
    have g1 : w1.cell? ⟨w.heap.size, 3, none⟩ = some (.slice A3 n3 c3) := hf1.cell (by rw [World.cell?_alloc_at _ _ _ _ rfl]; rfl) (fun x => x)
    have g2 : w1.cell? ⟨D, 0, none⟩ = some (.func (.func 70) #[] #[.pointer (some ⟨B, 0, none⟩)]) := hf1.cell (by rw [World.cell?_alloc_past _ _ _ hDl]; exact hD) (fun x => x)
    have F1 := hid ((Fr.refl.alloc _).trans hf1); clear hf1
    go_wp2_with fail
    refine (containsW A3 n3 c3 70 _ (isG gs gg) ch.rcv _ hl3' hm3 (predWaits ((P0.out).fr (S := E0) F1.out (fun x => x)) (fun x => x)) (hr3.fr F1.out)).mono ?_
    rintro e w2 ⟨rfl, hf2⟩
    have F2 := hid (F1.out.trans hf2); clear hf2
    go_wp2
    go_ret
    exact ⟨by rfl, F2.out⟩
end Go.Proofs.Yteffmnohgnmanaa
