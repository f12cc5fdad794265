/- choose.Select as plain data; a row that is read whatever the channels do. -/
import Derived.Test.YteffmnohgnmanaaCarry
import Derived.Test.YteffmnohgnmanaaOrder
namespace Go.Proofs.Yteffmnohgnmanaa
open Go.RowKit
/-- The first case, by the order, that goes on. -/
def pickGo (l : List Ch) (cases : List Pk) : List Int → Option Int
  | [] => none
  | i :: r => match cases[i.toNat]? with
    | none => pickGo l cases r
    | some p => if goesL l p.ch p.send then some i else pickGo l cases r
def waitK (l : List Ch) (gs gg : Int) (cases : List Pk) : Nat → List Ch
  | 0 => l
  | k + 1 => match cases[k]? with
    | none => waitK l gs gg cases k
    | some p => if p.ch = 0 then waitK l gs gg cases k else (waitL (waitK l gs gg cases k) p.ch ⟨gs, gg, k, p.v⟩ p.send).1
def selGo (l : List Ch) (gs gg : Int) (cases : List Pk) (dft : Bool) : Option Int → List Ch × Cho × Int
  | some i => let c := carryL l (cases.getD i.toNat ⟨false, 0, 0⟩) gs gg; (c.1, ⟨i, false, c.2.1⟩, c.2.2)
  | none => if dft then (l, ⟨-1, true, {}⟩, 0) else (waitK l gs gg cases cases.length, ⟨-1, false, { waits := true }⟩, 0)
def selL (l : List Ch) (gs gg : Int) (cases : List Pk) (dft : Bool) (draws : List Int) : List Ch × Cho × Int :=
  if (orderL cases.length draws).2 ≠ 0 then (l, ⟨-1, false, {}⟩, (orderL cases.length draws).2)
  else if waitsL gs gg l then (l, ⟨-1, false, {}⟩, 111)
  else if trapP (trapC l) cases ≠ 0 then (l, ⟨-1, false, { trap := trapP (trapC l) cases }⟩, 0)
  else selGo l gs gg cases dft (pickGo l cases (orderL cases.length draws).1)
/-- A row that is read, whatever is written in F. -/
def RdOut (F : Nat → Prop) (w : World) (v : Value) (sz : Nat) (xs : List Value) : Prop := ∀ w', Fr F w w' → RdV w' v sz xs
theorem RdOut.here {F : Nat → Prop} {w : World} {v : Value} {sz : Nat} {xs : List Value} (h : RdOut F w v sz xs) : RdV w v sz xs := h w Fr.refl
theorem RdOut.fr {F : Nat → Prop} {w w' : World} {v : Value} {sz : Nat} {xs : List Value} (h : RdOut F w v sz xs) (hf : Fr F w w') : RdV w' v sz xs := h w' hf
theorem RdOut.later {F F' : Nat → Prop} {w w' : World} {v : Value} {sz : Nat} {xs : List Value} (h : RdOut F w v sz xs) (hf : Fr F w w') (hF : ∀ k, F' k → F k ∨ w.heap.size ≤ k) : RdOut F' w' v sz xs := fun w2 h2 => h w2 (hf.trans' h2 hF)
theorem RdOut.e0 {F : Nat → Prop} {w w' : World} {v : Value} {sz : Nat} {xs : List Value} (h : RdOut F w v sz xs) (hf : Fr E0 w w') : RdOut F w' v sz xs := h.later hf.e0 (fun _ hk => .inl hk)
theorem RdV.out {F : Nat → Prop} {w : World} {v : Value} {sz : Nat} {xs : List Value} (h : RdV w v sz xs) (hF : ∀ b o sp, F b → (∃ n c, v = .slice (some ⟨b, o, sp⟩) n c) → xs = []) : RdOut F w v sz xs := fun w' hf => by
  obtain ⟨A, n, c, rfl, h2, h3, h4, h5⟩ := h
  refine ⟨A, n, c, rfl, h2, h3, h4, ?_⟩
  rcases h5 with h5 | ⟨b, o, rfl, h6⟩
  · exact .inl h5
  · by_cases hb : F b
    · exact .inl (hF b o none hb ⟨n, c, rfl⟩)
    · exact .inr ⟨b, o, rfl, h6.fr hf hb⟩
/-- old memory is read whatever is written in what is new -/
theorem RdV.old {F : Nat → Prop} {w0 w : World} {v : Value} {sz : Nat} {xs : List Value} (h : RdV w0 v sz xs) (hf : Fr E0 w0 w) (hF : ∀ k, F k → w0.heap.size ≤ k) : RdOut F w v sz xs := fun w' hw => by
  have hx : Fr E0 w0 w' := hf.trans' hw (fun k hk => .inr (hF k hk))
  exact h.fr hx
theorem Step.trans {w w1 w2 : World} {F : Nat → Prop} {g : Nat} {l1 l2 : List Ch} (h : Step F g w l1 w1) (h2 : ∀ F', IsCh w1 F' g l1 → Step F' g w1 l2 w2) : Step F g w l2 w2 := by
  obtain ⟨F1, i1, i2, i3⟩ := h
  obtain ⟨F2, j1, j2, j3⟩ := h2 F1 i1
  refine ⟨F2, j1, fun k hk => ?_, i3.trans' j3 i2⟩
  rcases j2 k hk with x | x
  · exact i2 k x
  · exact .inr (Nat.le_trans i3.size x)
theorem Step.same {w w1 : World} {F : Nat → Prop} {g : Nat} {l : List Ch} (h : IsCh w F g l) (hf : Fr E0 w w1) : Step F g w l w1 := ⟨F, h.fr hf (fun _ _ x => x), fun _ hk => .inl hk, hf.e0⟩
theorem ok_waitK {N : Nat} {l : List Ch} (h : Ok N l) (gs gg : Int) (cases : List Pk) : ∀ k, Ok (N + k) (waitK l gs gg cases k)
  | 0 => h
  | k + 1 => by
    have ih := ok_waitK h gs gg cases k
    unfold waitK
    split
    · exact ih.mono (by omega)
    · split
      · exact ih.mono (by omega)
      · exact ih.wait _ _ _
theorem pickGo_next {l : List Ch} {cases : List Pk} {ord : List Int} {k i : Nat} {p : Pk} (hi : ord[k]? = some (i : Int)) (hp : cases[i]? = some p) : pickGo l cases (ord.drop k) = if goesL l p.ch p.send then some (i : Int) else pickGo l cases (ord.drop (k + 1)) := by
  obtain ⟨hk, he⟩ := List.getElem?_eq_some_iff.1 hi
  rw [List.drop_eq_getElem_cons hk, he, pickGo]
  simp only [Int.toNat_natCast, hp]
/-! ### an order's numbers -/
theorem ordN_range (n : Nat) (draws : List Int) : ∀ k, k ≤ n → ∀ x ∈ ordN n draws k, 0 ≤ x ∧ (x < n ∨ x = 0)
  | 0, _ => by intro x hx; simp [ordN] at hx; omega
  | k + 1, hk => by
    have ih := ordN_range n draws k (by omega)
    intro x hx
    simp only [ordN, ordAt] at hx
    rcases List.mem_or_eq_of_mem_set hx with hx | hx
    · rcases List.mem_or_eq_of_mem_set hx with hx | hx
      · exact ih x hx
      · subst hx
        rw [List.getD_eq_getElem?_getD]
        cases he : (ordN n draws k)[(draws.getD k 0 % (↑k + 1)).toNat]? with
        | none => simp
        | some y => simpa using ih y (List.mem_of_getElem? he)
    · subst hx; omega
theorem ordN_at {n k : Nat} {draws : List Int} (hk : k < n) : ∃ i : Nat, (ordN n draws n)[k]? = some (i : Int) ∧ i < n := by
  have hl := ordN_len n draws n
  refine ⟨((ordN n draws n)[k]'(by omega)).toNat, ?_, ?_⟩
  · rw [List.getElem?_eq_getElem (by omega)]
    have := ordN_range n draws n (Nat.le_refl _) _ (List.getElem_mem (l := ordN n draws n) (n := k) (by omega))
    congr 1; omega
  · have := ordN_range n draws n (Nat.le_refl _) _ (List.getElem_mem (l := ordN n draws n) (n := k) (by omega))
    omega
theorem orderL_zero {n : Nat} {draws : List Int} (h : (orderL n draws).2 = 0) : n ≤ 16 ∧ n ≤ draws.length ∧ (orderL n draws).1 = ordN n draws n := by
  unfold orderL at h ⊢
  split at h
  · simp at h
  · split at h
    · simp at h
    · rename_i h1 h2
      rw [if_neg h1, if_neg h2]
      refine ⟨by omega, by omega, by simp⟩
end Go.Proofs.Yteffmnohgnmanaa
