/- choose.Order. -/
import Derived.Test.YteffmnohgnmanaaClone
import Derived.Test.YteffmnohgnmanaaReads
namespace Go.Proofs.Yteffmnohgnmanaa
open Go.RowKit
theorem info3 : (Try.prog.info? 3).map (fun i => (i.zero, i.size, i.bytes)) = some (some (.int .i64 0), 1, 8) := by kernel_rfl
def us (l : List Int) : List Value := l.map (Value.int .u64)
/-- One step: the new case takes the place that its number drew; what stood there goes to the end. -/
def ordAt (l : List Int) (i : Nat) (d : Int) : List Int := (l.set i (l.getD (d % ((i : Int) + 1)).toNat 0)).set (d % ((i : Int) + 1)).toNat i
def ordN (n : Nat) (draws : List Int) : Nat → List Int
  | 0 => List.replicate n 0
  | k + 1 => ordAt (ordN n draws k) k (draws.getD k 0)
theorem ordN_len (n : Nat) (draws : List Int) : ∀ k, (ordN n draws k).length = n
  | 0 => by simp [ordN]
  | k + 1 => by simp [ordN, ordAt, ordN_len n draws k]
def orderL (n : Int) (draws : List Int) : List Int × Int :=
  if n < 0 ∨ 16 < n then ([], 1) else if (draws.length : Int) < n then ([], 120) else (ordN n.toNat draws n.toNat, 0)
def OrderPost (w : World) (l : List Int) (err : Int) (e : Ending) (w' : World) : Prop :=
  ∃ v, e = .returned (tup2 v (.int .i64 err)) ∧ RowF w' (New w) 3 1 v (ints l) ∧ Fr E0 w w'
theorem ints_set (l : List Int) (j : Nat) (x : Int) : (ints l).set j (.int .i64 x) = ints (l.set j x) := by simp [ints]
theorem madeN (z : Value) (n : Nat) : (madeCells #[z] n).toList = List.replicate n z := by
  apply List.ext_getElem?
  intro i
  simp only [madeCells, Array.toList_map, Array.toList_range, List.getElem?_map, List.getElem?_replicate]
  by_cases h : i < n
  · rw [List.getElem?_range h]; simp [h, Nat.mod_one]
  · simp [h]
theorem rowF_made (w : World) (e n : Nat) (z : Value) (hn : n ≤ 1048576) : RowF (w.alloc (.cells (madeCells #[z] n) e)) (New w) e 1 (.slice (some ⟨w.heap.size, 0, none⟩) n n) (List.replicate n z) :=
  ⟨⟨n, by simp, .inr ⟨w.heap.size, n, _, rfl, Nat.zero_le _, heap_alloc_new w _, Nat.le_refl _, by unfold maxLen; omega, by simp [size_madeCells], by rw [madeN]; simp⟩⟩, fun g hg => by simp [Value.ownBlock] at hg; subst hg; exact Nat.le_refl _⟩
set_option maxHeartbeats 1000000 in
theorem order_ok (n : Int) (draws : List Int) (v : Value) (w : World) (hv : RdV w v 1 (us draws)) (hd : ∀ d ∈ draws, 0 ≤ d ∧ d < 18446744073709551616) :
    Calls Try.prog 34 #[.int .i64 n, v] w (OrderPost w (orderL n draws).1 (orderL n draws).2) := by
  obtain ⟨A, m, c, rfl, hl, _, _, hr⟩ := hv
  obtain rfl : draws.length = m := by simpa [us] using hl
  by_cases h1 : n < 0
  · have e : orderL n draws = ([], 1) := by unfold orderL; rw [if_pos (.inl h1)]
    rw [e]
    clear e hr hl
    go_enter Try.func34, Try.ntmps34
    go_wp2
    go_ret2
    exact ⟨_, rfl, RowF.nil, Fr.refl⟩
  by_cases h2 : 16 < n
  · have e : orderL n draws = ([], 1) := by unfold orderL; rw [if_pos (.inr h2)]
    rw [e]
    clear e hr hl
    go_enter Try.func34, Try.ntmps34
    go_wp2
    go_ret2
    exact ⟨_, rfl, RowF.nil, Fr.refl⟩
  by_cases h3 : (draws.length : Int) < n
  · have e : orderL n draws = ([], 120) := by unfold orderL; rw [if_neg (by omega), if_pos h3]
    rw [e]
    clear e hr hl
    go_enter Try.func34, Try.ntmps34
    go_wp2
    go_ret2
    exact ⟨_, rfl, RowF.nil, Fr.refl⟩
  obtain ⟨N, rfl⟩ : ∃ N : Nat, n = N := ⟨n.toNat, by omega⟩
  have e : orderL N draws = (ordN N draws N, 0) := by unfold orderL; rw [if_neg (by omega), if_neg h3]; simp
  rw [e]
  have HR := hid hr
  have HD := hid hd
  clear e hr hl hd
  obtain ⟨i0, hi0, hz0, hz1, hz2⟩ := info_parts info3
  have hmk : ∀ u : World, (Instr.makeSlice 70 (.int .i64 (N : Int)) (.int .i64 (N : Int))).run Try.prog u = .ok (.slice (some ⟨u.heap.size, 0, none⟩) N N) (u.alloc (.cells (madeCells #[.int .i64 0] N) 3)) := fun u => by
    have h := run_make (P := Try.prog) u 70 3 i0 (.int .i64 0) Try.underlying70 hi0 hz0 .i64 .i64 (N : Int) (N : Int) (by omega) (Int.le_refl _) (by rw [hz2]; omega) (by omega)
    simpa [hz1, Value.cells] using h
  clear hi0 hz0 hz1 hz2
  go_enter Try.func34, Try.ntmps34
  go_wp2_with fail
  have H0 := hid (show RowF (w.alloc (.cells (madeCells #[.int .i64 0] N) 3)) (New w) 3 1 (.slice (some ⟨w.heap.size, 0, none⟩) N N) (ints (ordN N draws 0)) by
    have := rowF_made w 3 N (.int .i64 0) (by omega)
    simpa [ordN, ints] using this)
  go_loopw [25] (fun i wr => ∃ k : Nat, i = .int .i64 k ∧ k ≤ N ∧ RowF wr (New w) 3 1 (.slice (some ⟨w.heap.size, 0, none⟩) N N) (ints (ordN N draws k)) ∧ Fr E0 w wr) (fun i _ => N - (intOf i).toNat)
  case atStart => exact ⟨0, rfl, Nat.zero_le _, H0.out, Fr.refl.alloc _⟩
  case round =>
    obtain ⟨k, rfl, hk, hrow, hf⟩ := hrel
    have HW := hid hrow
    have HF := hid hf
    clear hrow hf
    by_cases hlt : k < N
    · have hkd : k < draws.length := by omega
      obtain ⟨d, hdk⟩ : ∃ d, draws[k]? = some d := ⟨draws[k], List.getElem?_eq_getElem hkd⟩
      obtain ⟨b, o, rfl, r⟩ := HR.out.at (fun e => by have := congrArg List.length e; simp [us] at this; subst this; simp at hkd)
      have y1 := r.fr HF.out (fun x => x) k (.int .u64 d) (by simp [us, hdk])
      have hd0 := HD.out d (List.mem_of_getElem? hdk)
      have HK := hid hdk
      obtain ⟨j, hj⟩ : ∃ j : Nat, d % ((k : Int) + 1) = j := ⟨(d % ((k : Int) + 1)).toNat, by have := Int.emod_nonneg d (b := (k : Int) + 1) (by omega); omega⟩
      have hjk : j ≤ k := by have := Int.emod_lt_of_pos d (b := (k : Int) + 1) (by omega); omega
      obtain ⟨x, hx⟩ : ∃ x, (ordN N draws k)[j]? = some x := ⟨_, List.getElem?_eq_getElem (by rw [ordN_len]; omega)⟩
      obtain ⟨y, hy⟩ : ∃ y, (ordN N draws k)[k]? = some y := ⟨_, List.getElem?_eq_getElem (by rw [ordN_len]; omega)⟩
      obtain ⟨_, _, he, _, _, hrd⟩ := HW.out.read (n := N) (by decide) (by simp [ints, ordN_len])
      cases he
      obtain ⟨_, _, he, hrd⟩ := hrd.at (fun e => by have := congrArg List.length e; simp [ints, ordN_len] at this; omega)
      cases he
      have z1 := hrd j (.int .i64 x) (by simp [ints, hx])
      have z2 := hrd k (.int .i64 y) (by simp [ints, hy])
      simp only [Nat.zero_add] at z1 z2
      have f1 := HW.out.free (g := w.heap.size) rfl j
      have f2 := HW.out.free (g := w.heap.size) rfl k
      have HX := hid hx
      have HW1 := hid (HW.out.stored (j := k) (u := .int .i64 x) (by simp [ints, ordN_len]; omega))
      have HW2 := hid (HW1.out.stored (j := j) (u := .int .i64 k) (by simp [ints, ordN_len]; omega))
      have c1 := HW1.out.isCell (j := j) (by simp [ints, ordN_len]; omega)
      obtain ⟨y', c1⟩ := Option.isSome_iff_exists.1 c1
      have HJ := hid hj
      clear r hdk hrd hx hy
      have HE : Hid (((ints (ordN N draws k)).set k (.int .i64 x)).set j (.int .i64 k) = ints (ordN N draws (k + 1))) := by
        show _ = _
        rw [ints_set, ints_set]
        simp only [ordN, ordAt, List.getD, HK.out, Option.getD_some, HJ.out, Int.toNat_natCast, HX.out]
      have HF2 := hid ((HF.out.setCell (p := ⟨w.heap.size, k, none⟩) (.int .i64 x) (.inr (Nat.le_refl _))).setCell (p := ⟨w.heap.size, j, none⟩) (.int .i64 k) (.inr (Nat.le_refl _)))
      go_wp2_with fail
      go_roundw
      case rel => exact ⟨k + 1, by simp, by omega, by rw [← HE.out]; exact HW2.out, HF2.out⟩
      case measure => simp [intOf]; omega
    · obtain rfl : k = N := by omega
      clear hlt hk
      go_wp2_with fail
      go_ret2
      exact ⟨_, rfl, HW.out, HF.out⟩
end Go.Proofs.Yteffmnohgnmanaa
