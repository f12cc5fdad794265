/- choose.trap, over whatever Goes tells. -/
import Derived.Test.YteffmnohgnmanaaOps
import Derived.Test.YteffmnohgnmanaaOpens
namespace Go.Proofs.Yteffmnohgnmanaa
open Go.RowKit
/-- What Goes tells of a receiver, in every world that has grown from w. -/
def GoesAs (C : Value) (w : World) (gf : Int → Bool → Bool) (tf : Int → Int) : Prop :=
  ∀ w', Fr E0 w w' → ∀ ch send, Calls Try.prog 46 #[C, .int .i64 ch, .bool send] w' (Ret (tup2 (.bool (gf ch send)) (.int .i64 (tf ch))) E0 w')
theorem goesAs_none (w : World) : GoesAs (.pointer none) w (fun _ _ => false) (fun _ => 4) := fun w1 _ ch send => (goes_none ch send w1).mono fun _ _ ⟨h, e⟩ => ⟨h, e ▸ Fr.refl⟩
theorem goesAs_ch {w : World} {F : Nat → Prop} {g : Nat} {l : List Ch} (h : IsCh w F g l) : GoesAs (.pointer (some ⟨g, 0, none⟩)) w (goesL l) (trapC l) := fun _ hf ch send => goes_all (h.fr hf (fun _ _ x => x)) ch send
def trapP (tf : Int → Int) : List Pk → Int
  | [] => 0
  | p :: r => if tf p.ch = 0 then trapP tf r else tf p.ch
theorem pk_at {w : World} {b o k : Nat} {l : List Pk} {p : Pk} (h : RdL w b o (pks l)) (hp : l[k]? = some p) :
    w.cell? ⟨b, o + k * 3, none⟩ = some (.bool p.send) ∧ w.cell? ⟨b, o + k * 3 + 1, none⟩ = some (.int .i64 p.ch) ∧ w.cell? ⟨b, o + k * 3 + 2, none⟩ = some (.int .i64 p.v) := by
  have e : ∀ j, j < 3 → (pks l)[k * 3 + j]? = p.cells[j]? := fun j hj => flat_get (f := Pk.cells) (sz := 3) (fun _ => rfl) l k j p hp hj
  refine ⟨?_, ?_, ?_⟩
  · have := h (k * 3 + 0) (.bool p.send) ((e 0 (by omega)).trans rfl); simpa using this
  · have := h (k * 3 + 1) (.int .i64 p.ch) ((e 1 (by omega)).trans rfl); simpa [Nat.add_assoc] using this
  · have := h (k * 3 + 2) (.int .i64 p.v) ((e 2 (by omega)).trans rfl); simpa [Nat.add_assoc] using this
theorem trapP_next {tf : Int → Int} {l : List Pk} {k : Nat} {p : Pk} (hp : l[k]? = some p) : trapP tf (l.drop k) = if tf p.ch = 0 then trapP tf (l.drop (k + 1)) else tf p.ch := by
  obtain ⟨hk, rfl⟩ := List.getElem?_eq_some_iff.1 hp
  rw [List.drop_eq_getElem_cons hk]; rfl
set_option maxHeartbeats 1000000 in
theorem trap_ok {C : Value} {w : World} {gf : Int → Bool → Bool} {tf : Int → Int} (hC : GoesAs C w gf tf) (l : List Pk) (v : Value) (hv : RdV w v 3 (pks l)) (hn : l.length ≤ 1048576) :
    Calls Try.prog 57 #[C, v] w (Ret (.int .i64 (trapP tf l)) E0 w) := by
  obtain ⟨A, n, c, rfl, hl, _, _, hr⟩ := hv
  obtain rfl : l.length = n := by have := flat_len (f := Pk.cells) (sz := 3) (fun _ => rfl) l; unfold pks at hl; omega
  have HR := hid hr
  have HC := hid hC
  clear hl hr hC
  go_enter Try.func57, Try.ntmps57
  go_wp2_with fail
  go_loopw [11] (fun i wr => ∃ k : Nat, i = .int .i64 k ∧ k ≤ l.length ∧ trapP tf (l.drop k) = trapP tf l ∧ Fr E0 w wr) (fun i _ => l.length - (intOf i).toNat)
  case atStart => exact ⟨0, rfl, Nat.zero_le _, rfl, Fr.refl⟩
  case round =>
    obtain ⟨k, rfl, hk, he, hf⟩ := hrel
    have HF := hid hf
    have HE := hid he
    clear hf he
    by_cases hlt : k < l.length
    · obtain ⟨p, hp⟩ : ∃ p, l[k]? = some p := ⟨_, List.getElem?_eq_getElem hlt⟩
      obtain ⟨b, o, rfl, r⟩ := HR.out.at (fun e => by have := congrArg List.length e; rw [pks, flat_len (f := Pk.cells) (sz := 3) (fun _ => rfl) l] at this; simp at this; omega)
      obtain ⟨c0, c1, c2⟩ := pk_at (r.fr HF.out (fun x => x)) hp
      have HP := hid hp
      clear r hp
      go_wp2_with fail
      refine (HC.out _ (HF.out.alloc _) p.ch p.send).mono ?_
      rintro e w2 ⟨rfl, hf2⟩
      have HF2 := hid ((HF.out.alloc _).trans hf2)
      clear hf2
      simp only [tup2]
      have hx := trapP_next (tf := tf) HP.out
      by_cases ht : tf p.ch = 0
      · rw [if_pos ht] at hx
        have HX := hid hx
        clear hx
        go_wp2_with fail
        go_roundw
        case rel => exact ⟨k + 1, by simp, by omega, HX.out.symm.trans HE.out, HF2.out⟩
        case measure => simp [intOf]; omega
      · rw [if_neg ht] at hx
        have HX := hid (hx.symm.trans HE.out)
        clear hx
        go_wp2_with fail
        go_ret
        exact ⟨by rw [← HX.out]; rfl, HF2.out⟩
    · obtain rfl : k = l.length := by omega
      clear hlt hk
      have HE' : Hid (trapP tf l = 0) := by have := HE.out; rw [List.drop_length] at this; exact this.symm
      go_wp2_with fail
      go_ret
      exact ⟨by rw [HE'.out]; rfl, HF.out⟩
end Go.Proofs.Yteffmnohgnmanaa
