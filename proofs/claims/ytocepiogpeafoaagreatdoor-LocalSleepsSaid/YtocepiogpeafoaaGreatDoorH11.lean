/- Words and contracts of calls that the law needs (ProperP, Proper): merged by wip/gen/zmerge.py. No condition but those that each theorem names. -/
import Derived.Test.YtocepiogpeafoaaGreatDoorH04
import Derived.Test.YtocepiogpeafoaaGreatDoorH07
set_option linter.unusedVariables false
/- Plain: which programs may be, as both sides tell it. -/
namespace Go.Proofs.YtocepiogpeafoaaGreatDoor
/-- Functions that part the words from 'at' on: where the last one ends. -/
def partsGo (n : Int) : Int → List Fn → Option Int
  | a, [] => some a
  | a, f :: r => if f.b ≠ a ∨ f.e ≤ f.b ∨ n < f.e then none else partsGo n f.e r
def partsP (p : Prg) : Prop := 0 < p.funcs.length ∧ partsGo p.code.length 0 p.funcs = some (p.code.length : Int)
def inF (f : Fn) (x : Int) : Bool := decide (f.b ≤ x) && decide (x < f.e)
def csB (c : Cs) : Bool := decide (0 ≤ c.ch) && decide (c.ch < 16) && (decide (0 ≤ c.v) && decide (c.v < 16)) && (decide (0 ≤ c.ok) && decide (c.ok < 16)) && !(c.send && decide (c.ok ≠ 0))
def tbB (t : Tb) : Bool := decide (t.cases.length ≤ 16) && t.cases.all csB
def tablesB (p : Prg) : Bool := p.tables.all tbB
def codeP (p : Prg) : Prop := ∀ f ∈ p.funcs, ∀ (x : Nat) (c : Int), f.b ≤ x → (x : Int) < f.e → p.code[x]? = some c → wrongL p.funcs.length p.tables.length x f c = 0
def sizesP (p : Prg) : Prop := p.code.length ≤ 4096 ∧ p.funcs.length ≤ 256 ∧ p.tables.length ≤ 256
/-- A program that may be. -/
def okP (p : Prg) : Prop := sizesP p ∧ partsP p ∧ tablesB p = true ∧ codeP p
theorem partsGo_append (n : Int) : ∀ (a : Int) (l : List Fn) (f : Fn), partsGo n a (l ++ [f]) = (partsGo n a l).bind fun m => if f.b ≠ m ∨ f.e ≤ f.b ∨ n < f.e then none else some f.e
  | a, [], f => by simp [partsGo]
  | a, g :: r, f => by
    simp only [List.cons_append, partsGo]
    split
    · rfl
    · exact partsGo_append n g.e r f
theorem partsGo_none {n : Int} : ∀ {a : Int} {l : List Fn} (r : List Fn), partsGo n a l = none → partsGo n a (l ++ r) = none
  | a, [], r, h => by simp [partsGo] at h
  | a, g :: l, r, h => by
    simp only [List.cons_append, partsGo] at h ⊢
    split at h
    · rw [if_pos (by assumption)]
    · rw [if_neg (by assumption)]; exact partsGo_none r h
theorem take_succ_get {α : Type} {l : List α} {k : Nat} {x : α} (h : l[k]? = some x) : l.take (k + 1) = l.take k ++ [x] := by
  rw [List.take_add_one, h]; rfl
/-- one function more -/
theorem partsGo_step {n : Int} {a m : Int} {l : List Fn} {k : Nat} {f : Fn} (hk : l[k]? = some f) (h : partsGo n a (l.take k) = some m) :
    partsGo n a (l.take (k + 1)) = if f.b ≠ m ∨ f.e ≤ f.b ∨ n < f.e then none else some f.e := by
  rw [take_succ_get hk, partsGo_append, h]; rfl
theorem partsGo_stop {n : Int} {a m : Int} {l : List Fn} {k : Nat} {f : Fn} (hk : l[k]? = some f) (h : partsGo n a (l.take k) = some m) (hb : f.b ≠ m ∨ f.e ≤ f.b ∨ n < f.e) : partsGo n a l = none := by
  have h1 := partsGo_step hk h
  rw [if_pos hb] at h1
  have h2 := partsGo_none (l.drop (k + 1)) h1
  rwa [List.take_append_drop] at h2
/-- what functions that part the code are -/
theorem partsGo_mem {n : Int} : ∀ {a m : Int} {l : List Fn}, partsGo n a l = some m → a ≤ m ∧ ∀ f ∈ l, a ≤ f.b ∧ f.b < f.e ∧ f.e ≤ m ∧ f.e ≤ n
  | a, m, [], h => by simp [partsGo] at h; subst h; exact ⟨Int.le_refl _, fun f hf => by cases hf⟩
  | a, m, g :: r, h => by
    simp only [partsGo] at h
    split at h
    · cases h
    rename_i hg
    obtain ⟨h1, h2⟩ := partsGo_mem h
    have h3 : g.b = a ∧ g.b < g.e ∧ g.e ≤ n := by omega
    refine ⟨by omega, fun f hf => ?_⟩
    rcases List.mem_cons.1 hf with rfl | hf
    · exact ⟨by omega, h3.2.1, h1, h3.2.2⟩
    · have := h2 f hf; exact ⟨by omega, this.2.1, this.2.2.1, this.2.2.2⟩
theorem partsGo_in {n : Int} : ∀ {a m : Int} {l : List Fn} (x : Int), partsGo n a l = some m → a ≤ x → x < m → ∃ (k : Nat) (f : Fn), l[k]? = some f ∧ inF f x = true
  | a, m, [], x, h, h0, h1 => by simp [partsGo] at h; omega
  | a, m, g :: r, x, h, h0, h1 => by
    simp only [partsGo] at h
    split at h
    · cases h
    rename_i hg
    by_cases hx : x < g.e
    · exact ⟨0, g, rfl, by simp [inF]; omega⟩
    · obtain ⟨k, f, hk, hf⟩ := partsGo_in x h (by omega) h1
      exact ⟨k + 1, f, by simpa using hk, hf⟩
theorem partsGo_uniq {n : Int} : ∀ {a m : Int} {l : List Fn} {x : Int} {i j : Nat} {f g : Fn}, partsGo n a l = some m → l[i]? = some f → l[j]? = some g → inF f x = true → inF g x = true → i = j
  | a, m, [], x, i, j, f, g, h, hi, hj, hf, hg => by simp at hi
  | a, m, q :: r, x, i, j, f, g, h, hi, hj, hf, hg => by
    simp only [partsGo] at h
    split at h
    · cases h
    have hm := (partsGo_mem h).2
    simp [inF] at hf hg
    cases i with
    | zero =>
      cases j with
      | zero => rfl
      | succ j =>
        simp at hi hj; subst hi
        have := hm g (List.mem_of_getElem? hj); omega
    | succ i =>
      cases j with
      | zero =>
        simp at hi hj; subst hj
        have := hm f (List.mem_of_getElem? hi); omega
      | succ j =>
        simp at hi hj
        have := partsGo_uniq (x := x) h hi hj (by simp [inF]; omega) (by simp [inF]; omega)
        omega
/-- The number of the function of a word, as the document finds it. -/
def inL (p : Prg) (x : Int) : Int := idxv (fun f => inF f x) p.funcs
theorem inL_get {p : Prg} {x : Int} (hp : partsP p) (h0 : 0 ≤ x) (h1 : x < p.code.length) : ∃ (k : Nat) (f : Fn), inL p x = k ∧ p.funcs[k]? = some f ∧ inF f x = true := by
  obtain ⟨k, f, hk, hf⟩ := partsGo_in x hp.2 h0 h1
  rcases h : p.funcs.findIdx? (fun f => inF f x) with _ | i
  · rw [List.findIdx?_eq_none_iff] at h
    have := h f (List.mem_of_getElem? hk); rw [hf] at this; cases this
  · have h' := h
    rw [List.findIdx?_eq_some_iff_getElem] at h'
    obtain ⟨hi, hq, _⟩ := h'
    exact ⟨i, p.funcs[i], by unfold inL idxv; rw [h], List.getElem?_eq_getElem hi, hq⟩
/-- What is wrong with a word, as the document tells it. -/
def wrongR (p : Prg) (x : Int) (w : Int) : Int :=
  if (decR w).2 ≠ 0 then 80
  else if jumpsL (decR w).1.op && (decide (p.code.length ≤ (decR w).1.imm) || decide (inL p (decR w).1.imm ≠ inL p x)) then 82
  else if (decide ((decR w).1.op = 20) || decide ((decR w).1.op = 22)) && decide (p.funcs.length ≤ (decR w).1.imm) then 81
  else if decide ((decR w).1.op = 34) && decide (p.tables.length ≤ (decR w).1.imm) then 83
  else if decide (x = ((p.funcs[(inL p x).toNat]?).map (·.e)).getD 0 - 1) && !endsL (decR w).1.op then 84
  else 0
theorem jumps_imm {w : Int} (h0 : 0 ≤ w) (h1 : w < 4294967296) (hj : jumpsL (decR w).1.op = true) : 0 ≤ (decR w).1.imm := by
  unfold decR at hj ⊢
  split at hj <;> rename_i ha
  · rw [if_pos ha]; decide
  rw [if_neg ha]
  split at hj <;> rename_i hb
  · rw [if_pos hb]
    simp only [jumpsL, decI] at hj ⊢
    have hs : shp (w / 16777216) = 4 ∨ shp (w / 16777216) = 5 := by
      simp only [Bool.or_eq_true] at hj
      rcases hj with (hj | hj) | hj <;> rw [of_decide_eq_true hj] <;> decide
    rcases hs with hs | hs <;> rw [hs] <;> simp <;> omega
  · rw [if_neg hb]; decide
theorem wrongR_eq {p : Prg} (hp : partsP p) {x : Nat} {c : Int} {k : Nat} {f : Fn} (h0 : 0 ≤ c) (h1 : c < 4294967296) (hx : (x : Int) < p.code.length) (hk : p.funcs[k]? = some f) (hf : inF f x = true) :
    wrongR p x c = wrongL p.funcs.length p.tables.length x f c := by
  obtain ⟨i, g, hi, hg, hgx⟩ := inL_get hp (x := x) (by omega) hx
  have hik : i = k := partsGo_uniq hp.2 hg hk hgx hf
  subst hik
  rw [hk] at hg; cases hg
  have hm := (partsGo_mem hp.2).2 f (List.mem_of_getElem? hk)
  unfold wrongR wrongL
  split
  · rfl
  have hj : (jumpsL (decR c).1.op && (decide ((p.code.length : Int) ≤ (decR c).1.imm) || decide (inL p (decR c).1.imm ≠ inL p x))) = (jumpsL (decR c).1.op && (decide ((decR c).1.imm < f.b) || decide (f.e ≤ (decR c).1.imm))) := by
    rcases hjj : jumpsL (decR c).1.op with _ | _
    · rfl
    · have hi0 := jumps_imm h0 h1 hjj
      simp only [Bool.true_and]
      by_cases hl : (p.code.length : Int) ≤ (decR c).1.imm
      · have : f.e ≤ (decR c).1.imm := by omega
        simp [hl, this]
      · obtain ⟨j, q, hj, hq, hqx⟩ := inL_get hp hi0 (by omega)
        rw [hj, hi]
        have hq' : decide ((j : Int) ≠ i) = (decide ((decR c).1.imm < f.b) || decide (f.e ≤ (decR c).1.imm)) := by
          by_cases e : j = i
          · subst e
            rw [hk] at hq; cases hq
            simp [inF] at hqx
            simp; omega
          · have hn : ¬ (inF f (decR c).1.imm = true) := fun hff => e (partsGo_uniq hp.2 hq hk hqx hff)
            simp [inF] at hn
            have : (j : Int) ≠ i := by omega
            simp only [this, ne_eq, not_false_eq_true, decide_true]
            symm
            simp only [Bool.or_eq_true, decide_eq_true_eq]
            omega
        rw [hq']; simp [hl]
  rw [hj, hi]
  simp [hk]
/-- The document's code check is the program's. -/
def codeR (p : Prg) : Prop := ∀ (x : Nat) (c : Int), p.code[x]? = some c → wrongR p x c = 0
theorem codeR_iff {p : Prg} (hw : p.Wf) (hp : partsP p) : codeR p ↔ codeP p := by
  constructor
  · intro h f hf x c hb he hc
    obtain ⟨k, hk⟩ := List.mem_iff_getElem?.1 hf
    have hx := lt_of_get hc
    have hcw := hw.code c (List.mem_of_getElem? hc)
    rw [← wrongR_eq hp hcw.1 hcw.2 (by omega) hk (by simp [inF]; omega)]
    exact h x c hc
  · intro h x c hc
    have hx := lt_of_get hc
    have hcw := hw.code c (List.mem_of_getElem? hc)
    obtain ⟨k, f, _, hk, hf⟩ := inL_get hp (x := x) (by omega) (by omega)
    rw [wrongR_eq hp hcw.1 hcw.2 (by omega) hk hf]
    have hf' := hf
    simp [inF] at hf'
    exact h f (List.mem_of_getElem? hk) x c hf'.1 hf'.2 hc
end Go.Proofs.YtocepiogpeafoaaGreatDoor
/- proper.functions, tables, jumps, ends, wrong, Check: the walks. -/
namespace Go.Proofs.YtocepiogpeafoaaGreatDoor
open Go.RowKit
set_option linter.unusedVariables false
theorem jumps_ok (n : Int) (w : World) : Calls Tryz.prog 239 #[.int .i64 n] w fun e w' => e = .returned (.bool (jumpsL n)) ∧ w = w' := by
  unfold jumpsL
  by_cases h1 : n = 17
  · subst h1
    go_enter Tryz.func239, Tryz.ntmps239
    go_wp2
    go_ret
    exact ⟨rfl, rfl⟩
  by_cases h2 : n = 18
  · subst h2
    go_enter Tryz.func239, Tryz.ntmps239
    go_wp2
    go_ret
    exact ⟨rfl, rfl⟩
  go_enter Tryz.func239, Tryz.ntmps239
  go_wp2
  go_ret
  exact ⟨by congr 2, rfl⟩
theorem ends_ok (n : Int) (w : World) : Calls Tryz.prog 240 #[.int .i64 n] w fun e w' => e = .returned (.bool (endsL n)) ∧ w = w' := by
  unfold endsL
  by_cases h1 : n = 17
  · subst h1
    go_enter Tryz.func240, Tryz.ntmps240
    go_wp2
    go_ret
    exact ⟨rfl, rfl⟩
  by_cases h2 : n = 21
  · subst h2
    go_enter Tryz.func240, Tryz.ntmps240
    go_wp2
    go_ret
    exact ⟨rfl, rfl⟩
  by_cases h3 : n = 24
  · subst h3
    go_enter Tryz.func240, Tryz.ntmps240
    go_wp2
    go_ret
    exact ⟨rfl, rfl⟩
  go_enter Tryz.func240, Tryz.ntmps240
  go_wp2
  go_ret
  exact ⟨by congr 2, rfl⟩
def FunPost (p : Prg) (w : World) (e : Ending) (w' : World) : Prop := ∃ (k : Int) (b : Bool), e = .returned (tup2 (.int .i64 k) (.bool b)) ∧ (b = true ↔ partsP p) ∧ Fr E0 w w'
set_option maxHeartbeats 2000000 in
theorem functions_ok {w : World} {vc vf vt : Value} {p : Prg} {ts : List (Tb × Value)} (h : RdP w vc vf vt p ts) (hw : p.Wf) (hc : p.code.length ≤ 4096) (hn : p.funcs.length ≤ 256) :
    Calls Tryz.prog 138 #[.agg #[vc, vf, vt]] w (FunPost p w) := by
  obtain ⟨cA, cc, rfl, hc1, hc2, hc3⟩ := h.code.len (by decide) (codeC_len _)
  obtain ⟨fA, fc, rfl, hf1, hf2, hf3⟩ := h.funcs.len (by decide) (fnC_len _)
  have HF := hid hf3
  clear h hc3 hf3
  obtain ⟨N, hN⟩ : ∃ N, N = p.code.length := ⟨_, rfl⟩
  obtain ⟨M, hM⟩ : ∃ M, M = p.funcs.length := ⟨_, rfl⟩
  have HN := hid hN
  have HM := hid hM
  rw [← hN] at hc hc1 ⊢
  rw [← hM] at hn hf1 ⊢
  clear hN hM
  go_enter Tryz.func138, Tryz.ntmps138
  go_wp2
  go_loopw [4, 10] (fun a i wr => ∃ (k : Nat) (n : Int), i = .int .i64 k ∧ k ≤ M ∧ a = .int .i64 n ∧ partsGo N 0 (p.funcs.take k) = some n ∧ Fr E0 (w.alloc (.cells #[.slice cA N cc, .slice fA M fc, vt] 29)) wr) (fun _ i _ => M - (intOf i).toNat)
  case atStart => exact ⟨0, 0, rfl, Nat.zero_le _, rfl, rfl, Fr.refl⟩
  case round =>
    obtain ⟨k, n, rfl, hk, rfl, hg, hf⟩ := hrel
    have HG := hid hg
    have HR := hid hf
    have B0 := hid (hf.heapAt (heap_alloc_new w _) (fun x => x))
    have z0 := cell_of_row wr w.heap.size 0 _ _ _ B0.out
    have z1 := cell_of_row wr w.heap.size 1 _ _ _ B0.out
    have zf : ∀ j, wr.frozen? ⟨w.heap.size, j, none⟩ = false := fun j => frozen_of_row wr _ j _ _ B0.out
    have hz : w.heap.size < wr.heap.size := by have := hf.size; simp at this; omega
    clear hg hf
    by_cases hlt : k < M
    · obtain ⟨f, hfk⟩ : ∃ f, p.funcs[k]? = some f := ⟨_, List.getElem?_eq_getElem (by rw [← HM.out]; exact hlt)⟩
      have hfw := hw.funcs f (List.mem_of_getElem? hfk)
      obtain ⟨b, o, rfl, hr⟩ := HF.out.at (by intro e; have := fnC_len p.funcs; rw [e, ← HM.out] at this; simp at this; omega)
      obtain ⟨c0, c1⟩ := hr.fn hfk
      have c0' := HR.out.cell (((Fr.refl (S := E0) (w := w)).alloc _).cell c0 (fun x => x)) (fun x => x)
      have c1' := HR.out.cell (((Fr.refl (S := E0) (w := w)).alloc _).cell c1 (fun x => x)) (fun x => x)
      have HK := hid hfk
      clear c0 c1 hr hfk
      have NO : ∀ (e : Ending) (w' : World), (f.b ≠ n ∨ f.e ≤ f.b ∨ (N : Int) < f.e) → e = .returned (tup2 (.int .i64 (k : Int)) (.bool false)) → Fr E0 w w' → FunPost p w e w' := fun e w' hb he hf' =>
        ⟨k, false, he, ⟨(fun x => by cases x), (fun x => by have h1 := partsGo_stop HK.out HG.out hb; rw [HN.out, x.2] at h1; cases h1)⟩, hf'⟩
      by_cases h1 : f.b = n
      · by_cases h2 : f.e ≤ f.b
        · have HNO := hid (NO _ _ (.inr (.inl h2)) rfl ((((Fr.refl (S := E0) (w := w)).alloc (.cells #[.slice cA N cc, .slice (some ⟨b, o, none⟩) M fc, vt] 29)).trans HR.out).alloc (.cells #[.int .i64 f.b, .int .i64 f.e] 39)))
          subst h1
          clear NO
          go_wp2
          go_ret2
          exact HNO.out
        · by_cases h3 : (N : Int) < f.e
          · have HNO := hid (NO _ _ (.inr (.inr h3)) rfl ((((Fr.refl (S := E0) (w := w)).alloc (.cells #[.slice cA N cc, .slice (some ⟨b, o, none⟩) M fc, vt] 29)).trans HR.out).alloc (.cells #[.int .i64 f.b, .int .i64 f.e] 39)))
            subst h1
            clear NO
            go_wp2
            go_ret2
            exact HNO.out
          · have HST := partsGo_step HK.out HG.out
            rw [if_neg (by omega)] at HST
            have HS := hid HST
            clear HST NO
            subst h1
            go_wp2
            go_roundw
            case rel => exact ⟨k + 1, f.e, by simp, by omega, rfl, HS.out, (HR.out.alloc _)⟩
            case measure => simp [intOf]; omega
      · have HNO := hid (NO _ _ (.inl h1) rfl ((((Fr.refl (S := E0) (w := w)).alloc (.cells #[.slice cA N cc, .slice (some ⟨b, o, none⟩) M fc, vt] 29)).trans HR.out).alloc (.cells #[.int .i64 f.b, .int .i64 f.e] 39)))
        have h1b : ((f.b == n) : Bool) = false := by simpa using h1
        have h1c : ((f.b != n) : Bool) = true := by simpa using h1
        clear NO h1
        go_wp2
        go_ret2
        exact HNO.out
    · obtain rfl : k = M := by omega
      have hg := HG.out
      rw [HM.out, List.take_length] at hg
      have HG' := hid hg
      clear hlt hg
      have FIN : ∀ (b : Bool) (e : Ending) (w' : World), (b = true ↔ 0 < k ∧ n = N) → e = .returned (tup2 (.int .i64 (k : Int)) (.bool b)) → Fr E0 w w' → FunPost p w e w' := fun b e w' hb he hf' =>
        ⟨k, b, he, by unfold partsP; rw [hb, ← HM.out, ← HN.out, HG'.out]; simp, hf'⟩
      have HFR := hid (((Fr.refl (S := E0) (w := w)).alloc (.cells #[.slice cA N cc, .slice fA k fc, vt] 29)).trans HR.out)
      by_cases hk0 : 0 < k
      · have hk1 : decide (0 < k) = true := by simpa using hk0
        go_wp2
        go_quiet (fail)
        go_wp2
        go_ret2
        exact FIN (n == N) _ _ (by simp; omega) rfl (HFR.out.drewN _)
      · obtain rfl : k = 0 := by omega
        go_wp2
        go_quiet (fail)
        go_wp2
        go_ret2
        exact FIN false _ _ (by simp) rfl (HFR.out.drewN _)
end Go.Proofs.YtocepiogpeafoaaGreatDoor
