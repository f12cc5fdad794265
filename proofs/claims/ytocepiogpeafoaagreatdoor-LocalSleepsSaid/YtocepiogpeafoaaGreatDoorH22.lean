/- Words and contracts of calls that the law needs (Ref8): merged by wip/gen/zmerge.py. No condition but those that each theorem names. -/
import Derived.Test.YtocepiogpeafoaaGreatDoorH13
import Derived.Test.YtocepiogpeafoaaGreatDoorH21
set_option linter.unusedVariables false
/- rotaref08.parts, table, in, jumps, ends: the walks. -/
namespace Go.Proofs.YtocepiogpeafoaaGreatDoor
open Go.RowKit
set_option linter.unusedVariables false
theorem jumps8_ok (n : Int) (w : World) : Calls Tryz.prog 247 #[.int .i64 n] w fun e w' => e = .returned (.bool (jumpsL n)) ∧ w = w' := by
  unfold jumpsL
  by_cases h1 : n = 17
  · subst h1
    go_enter Tryz.func247, Tryz.ntmps247
    go_wp2
    go_ret
    exact ⟨rfl, rfl⟩
  by_cases h2 : n = 18
  · subst h2
    go_enter Tryz.func247, Tryz.ntmps247
    go_wp2
    go_ret
    exact ⟨rfl, rfl⟩
  go_enter Tryz.func247, Tryz.ntmps247
  go_wp2
  go_ret
  exact ⟨by congr 2, rfl⟩
theorem ends8_ok (n : Int) (w : World) : Calls Tryz.prog 248 #[.int .i64 n] w fun e w' => e = .returned (.bool (endsL n)) ∧ w = w' := by
  unfold endsL
  by_cases h1 : n = 17
  · subst h1
    go_enter Tryz.func248, Tryz.ntmps248
    go_wp2
    go_ret
    exact ⟨rfl, rfl⟩
  by_cases h2 : n = 21
  · subst h2
    go_enter Tryz.func248, Tryz.ntmps248
    go_wp2
    go_ret
    exact ⟨rfl, rfl⟩
  by_cases h3 : n = 24
  · subst h3
    go_enter Tryz.func248, Tryz.ntmps248
    go_wp2
    go_ret
    exact ⟨rfl, rfl⟩
  go_enter Tryz.func248, Tryz.ntmps248
  go_wp2
  go_ret
  exact ⟨by congr 2, rfl⟩
def PartsPost (p : Prg) (w : World) (e : Ending) (w' : World) : Prop := ∃ k : Int, e = .returned (.int .i64 k) ∧ (k < 0 ↔ partsP p) ∧ Fr E0 w w'
theorem partsNo {p : Prg} {w w' : World} {e : Ending} (k : Nat) (he : e = .returned (.int .i64 (k : Int))) (hn : ¬ partsP p) (hf : Fr E0 w w') : PartsPost p w e w' := ⟨k, he, ⟨fun x => by omega, fun x => absurd x hn⟩, hf⟩
set_option maxHeartbeats 2000000 in
theorem parts_ok {w : World} {vc vf vt : Value} {p : Prg} {ts : List (Tb × Value)} (h : RdP w vc vf vt p ts) (hw : p.Wf) (hc : p.code.length ≤ 4096) (hn : p.funcs.length ≤ 256) :
    Calls Tryz.prog 148 #[.agg #[vc, vf, vt]] w (PartsPost p w) := by
  obtain ⟨cA, cc, rfl, hc1, hc2, hc3⟩ := h.code.len (by decide) (codeC_len _)
  obtain ⟨fA, fc, rfl, hf1, hf2, hf3⟩ := h.funcs.len (by decide) (fnC_len _)
  have HF := hid hf3
  clear h hc3 hf3
  obtain ⟨N, hN⟩ : ∃ N, N = p.code.length := ⟨_, rfl⟩
  obtain ⟨M, hM⟩ : ∃ M, M = p.funcs.length := ⟨_, rfl⟩
  have HN := hid hN
  have HM := hid hM
  rw [← hN] at hc hc1 ⊢
  rw [← hM] at hn hf1 ⊢
  clear hN hM
  go_enter Tryz.func148, Tryz.ntmps148
  go_wp2
  go_loopw [3, 4] (fun a i wr => ∃ (k : Nat) (n : Int), i = .int .i64 k ∧ k ≤ M ∧ a = .int .i64 n ∧ partsGo N 0 (p.funcs.take k) = some n ∧ Fr E0 (w.alloc (.cells #[.slice cA N cc, .slice fA M fc, vt] 29)) wr) (fun _ i _ => M - (intOf i).toNat)
  case atStart => exact ⟨0, 0, rfl, Nat.zero_le _, rfl, rfl, Fr.refl⟩
  case round =>
    obtain ⟨k, n, rfl, hk, rfl, hg, hf⟩ := hrel
    have HG := hid hg
    have HR := hid hf
    have B0 := hid (hf.heapAt (heap_alloc_new w _) (fun x => x))
    have z0 := cell_of_row wr w.heap.size 0 _ _ _ B0.out
    have z1 := cell_of_row wr w.heap.size 1 _ _ _ B0.out
    have zf : ∀ j, wr.frozen? ⟨w.heap.size, j, none⟩ = false := fun j => frozen_of_row wr _ j _ _ B0.out
    have hz : w.heap.size < wr.heap.size := by have := hf.size; simp at this; omega
    clear hg hf
    have HFR := hid (((Fr.refl (S := E0) (w := w)).alloc (.cells #[.slice cA N cc, .slice fA M fc, vt] 29)).trans HR.out)
    by_cases hlt : k < M
    · obtain ⟨f, hfk⟩ : ∃ f, p.funcs[k]? = some f := ⟨_, List.getElem?_eq_getElem (by rw [← HM.out]; exact hlt)⟩
      have hfw := hw.funcs f (List.mem_of_getElem? hfk)
      obtain ⟨b, o, rfl, hr⟩ := HF.out.at (by intro e; have := fnC_len p.funcs; rw [e, ← HM.out] at this; simp at this; omega)
      obtain ⟨c0, c1⟩ := hr.fn hfk
      have c0' := HFR.out.cell c0 (fun x => x)
      have c1' := HFR.out.cell c1 (fun x => x)
      have HK := hid hfk
      clear c0 c1 hr hfk
      have NO : (f.b ≠ n ∨ f.e ≤ f.b ∨ (N : Int) < f.e) → ¬ partsP p := fun hb x => by
        have h1 := partsGo_stop HK.out HG.out hb; rw [HN.out, x.2] at h1; cases h1
      by_cases h1 : f.b = n
      · by_cases h2 : f.e ≤ f.b
        · have HNO := hid (NO (.inr (.inl h2)))
          subst h1
          clear NO
          go_wp2
          go_ret
          exact partsNo k rfl HNO.out (HFR.out.alloc _)
        · by_cases h3 : (N : Int) < f.e
          · have HNO := hid (NO (.inr (.inr h3)))
            subst h1
            clear NO
            go_wp2
            go_ret
            exact partsNo k rfl HNO.out (HFR.out.alloc _)
          · have HST := partsGo_step HK.out HG.out
            rw [if_neg (by omega)] at HST
            have HS := hid HST
            clear HST NO
            subst h1
            go_wp2
            go_roundw
            case rel => exact ⟨k + 1, f.e, by simp, by omega, rfl, HS.out, (HR.out.alloc _)⟩
            case measure => simp [intOf]; omega
      · have HNO := hid (NO (.inl h1))
        have h1b : ((f.b == n) : Bool) = false := by simpa using h1
        have h1c : ((f.b != n) : Bool) = true := by simpa using h1
        clear NO h1
        go_wp2
        go_ret
        exact partsNo k rfl HNO.out (HFR.out.alloc _)
    · obtain rfl : k = M := by omega
      have hg := HG.out
      rw [HM.out, List.take_length] at hg
      have HG' := hid hg
      clear hlt hg
      have FIN : partsP p ↔ 0 < k ∧ n = N := by unfold partsP; rw [← HM.out, ← HN.out, HG'.out]; simp
      have HFIN := hid FIN
      clear FIN
      by_cases hk0 : 0 < k
      · have hk1 : ((k : Int) == 0) = false := by simp; omega
        by_cases hnN : n = N
        · subst hnN
          have HOK := hid (HFIN.out.2 ⟨hk0, rfl⟩)
          clear HFIN
          go_wp2
          go_ret
          exact ⟨-1, rfl, ⟨fun _ => HOK.out, fun _ => by decide⟩, HFR.out⟩
        · have hn1 : ((n == (N : Int)) : Bool) = false := by simpa using hnN
          have hn2 : ((n != (N : Int)) : Bool) = true := by simpa using hnN
          have HX := hid hnN
          clear hnN
          go_wp2
          go_ret
          exact partsNo k rfl (fun x => HX.out (HFIN.out.1 x).2) HFR.out
      · obtain rfl : k = 0 := by omega
        go_wp2
        go_ret
        exact partsNo 0 rfl (fun x => by have := (HFIN.out.1 x).1; omega) HFR.out
theorem reg8_yes (n : Int) (w : World) (h : regB n = true) : Calls Tryz.prog 244 #[.int .i64 n] w fun e w' => e = .returned (.bool true) ∧ w = w' := by
  simp [regB] at h
  obtain ⟨h0, h1⟩ := h
  go_enter Tryz.func244, Tryz.ntmps244
  go_wp2
  go_ret
  exact ⟨rfl, rfl⟩
theorem reg8_no (n : Int) (w : World) (h : regB n = false) : Calls Tryz.prog 244 #[.int .i64 n] w fun e w' => e = .returned (.bool false) ∧ w = w' := by
  by_cases h0 : 0 ≤ n
  · have h1 : ¬ n < 16 := by simp [regB, h0] at h; omega
    clear h
    go_enter Tryz.func244, Tryz.ntmps244
    go_wp2
    go_ret
    exact ⟨rfl, rfl⟩
  · clear h
    go_enter Tryz.func244, Tryz.ntmps244
    go_wp2
    go_ret
    exact ⟨rfl, rfl⟩
set_option maxHeartbeats 2000000 in
theorem in_ok {w : World} {vc vf vt : Value} {p : Prg} {ts : List (Tb × Value)} (h : RdP w vc vf vt p ts) (x : Int) :
    Calls Tryz.prog 246 #[.agg #[vc, vf, vt], .int .i64 x] w (Ret (.int .i64 (inL p x)) E0 w) := by
  obtain ⟨fA, fc, rfl, hf1, hf2, hf3⟩ := h.funcs.len (by decide) (fnC_len _)
  have HF := hid hf3
  clear h hf3
  obtain ⟨M, hM⟩ : ∃ M, M = p.funcs.length := ⟨_, rfl⟩
  have HM := hid hM
  rw [← hM] at hf1 ⊢
  clear hM
  unfold maxLen at hf2
  go_enter Tryz.func246, Tryz.ntmps246
  go_wp2
  go_loopw [5] (fun i wr => ∃ k : Nat, i = .int .i64 k ∧ k ≤ M ∧ (∀ j, j < k → ∀ f, p.funcs[j]? = some f → inF f x = false) ∧ Fr E0 (w.alloc (.cells #[vc, .slice fA M fc, vt] 29)) wr) (fun i _ => M - (intOf i).toNat)
  case atStart => exact ⟨0, rfl, Nat.zero_le _, (fun j hj => absurd hj (by omega)), Fr.refl⟩
  case round =>
    obtain ⟨k, rfl, hk, hno, hf⟩ := hrel
    have H := hid hno
    have HR := hid hf
    have B0 := hid (hf.heapAt (heap_alloc_new w _) (fun x => x))
    have z1 := cell_of_row wr w.heap.size 1 _ _ _ B0.out
    have hz : w.heap.size < wr.heap.size := by have := hf.size; simp at this; omega
    clear hno hf
    have HFR := hid (((Fr.refl (S := E0) (w := w)).alloc (.cells #[vc, .slice fA M fc, vt] 29)).trans HR.out)
    by_cases hlt : k < M
    · obtain ⟨f, hfk⟩ : ∃ f, p.funcs[k]? = some f := ⟨_, List.getElem?_eq_getElem (by rw [← HM.out]; exact hlt)⟩
      obtain ⟨b, o, rfl, hr⟩ := HF.out.at (by intro e; have := fnC_len p.funcs; rw [e, ← HM.out] at this; simp at this; omega)
      obtain ⟨c0, c1⟩ := hr.fn hfk
      have c0' := HFR.out.cell c0 (fun x => x)
      have c1' := HFR.out.cell c1 (fun x => x)
      have HK := hid hfk
      clear c0 c1 hr hfk
      by_cases h1 : f.b ≤ x
      · by_cases h2 : x < f.e
        · have HP := hid (show (fun f => inF f x) f = true by simp [inF, h1, h2])
          go_wp2
          go_ret
          exact ⟨by unfold inL; rw [idxv_hit HK.out HP.out H.out]; rfl, HFR.out⟩
        · have HP := hid (show (fun f => inF f x) f = false by simp [inF, h2])
          go_wp2
          go_roundw
          case rel => exact ⟨k + 1, by simp, by omega, miss_succ HK.out HP.out H.out, HR.out⟩
          case measure => simp [intOf]; omega
      · have HP := hid (show (fun f => inF f x) f = false by simp [inF, h1])
        go_wp2
        go_roundw
        case rel => exact ⟨k + 1, by simp, by omega, miss_succ HK.out HP.out H.out, HR.out⟩
        case measure => simp [intOf]; omega
    · go_wp2
      go_ret
      exact ⟨by unfold inL; rw [idxv_miss (k := k) (by rw [← HM.out]; omega) H.out]; rfl, HFR.out⟩
end Go.Proofs.YtocepiogpeafoaaGreatDoor
