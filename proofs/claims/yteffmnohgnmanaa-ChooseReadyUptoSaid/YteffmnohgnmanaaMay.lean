/- channel.may: whether a channel's state may be. -/
import Derived.Test.YteffmnohgnmanaaWaits
import Derived.Test.YteffmnohgnmanaaOwn
namespace Go.Proofs.Yteffmnohgnmanaa
open Go.RowKit
/-- Whether a channel may be, as plain data. -/
def mayA (c : Ch) : Bool := !(decide (c.cap < 0) || decide (1024 < c.cap) || decide (c.cap < c.vals.length))
def mayB (c : Ch) : Bool := !((decide (0 < c.snd.length) && decide ((c.vals.length : Int) < c.cap)) || (decide (0 < c.rcv.length) && decide (0 < c.vals.length)))
def mayD (c : Ch) : Bool := !(c.cl && decide (0 < c.snd.length + c.rcv.length))
def mayE (c : Ch) : Bool := match c.snd with
  | [] => true
  | x :: _ => match c.rcv with
    | [] => true
    | _ :: _ => !(c.snd.any fun y => !isG x.s x.g y) && !(c.rcv.any fun y => !isG x.s x.g y)
def mayC (c : Ch) : Bool := mayA c && (mayB c && (mayD c && (!(c.rcv.any hasV) && mayE c)))
theorem keepBx {w w' : World} {B : Nat} {a b c d e : Value} (h : w.cell? ⟨B, 0, none⟩ = some a ∧ w.cell? ⟨B, 1, none⟩ = some b ∧ w.cell? ⟨B, 2, none⟩ = some c ∧ w.cell? ⟨B, 3, none⟩ = some d ∧ w.cell? ⟨B, 4, none⟩ = some e) (hf : Fr E0 w w') :
    w'.cell? ⟨B, 0, none⟩ = some a ∧ w'.cell? ⟨B, 1, none⟩ = some b ∧ w'.cell? ⟨B, 2, none⟩ = some c ∧ w'.cell? ⟨B, 3, none⟩ = some d ∧ w'.cell? ⟨B, 4, none⟩ = some e :=
  ⟨hf.cell h.1 (fun x => x), hf.cell h.2.1 (fun x => x), hf.cell h.2.2.1 (fun x => x), hf.cell h.2.2.2.1 (fun x => x), hf.cell h.2.2.2.2 (fun x => x)⟩
def Four (n1 n2 n3 : Nat) (cap : Int) : Prop := ((¬ (0 : Int) < (n2 : Int) ∧ ¬ (0 : Int) < (n3 : Int)) ∨ ((0 : Int) < (n2 : Int) ∧ ¬ (n1 : Int) < cap ∧ ¬ (0 : Int) < (n3 : Int))) ∨ ((¬ (0 : Int) < (n2 : Int) ∧ (0 : Int) < (n3 : Int) ∧ ¬ (0 : Int) < (n1 : Int)) ∨ ((0 : Int) < (n2 : Int) ∧ ¬ (n1 : Int) < cap ∧ (0 : Int) < (n3 : Int) ∧ ¬ (0 : Int) < (n1 : Int)))
theorem four {n1 n2 n3 : Nat} {cap : Int} (b1 : ¬ 0 < n2 ∨ ¬ (n1 : Int) < cap) (b2 : ¬ 0 < n3 ∨ ¬ 0 < n1) : Four n1 n2 n3 cap := by
  unfold Four; omega
set_option maxHeartbeats 4000000 in
theorem may_ok (x : CM) (w : World) (hx : x.Rd w) (hfit : x.ch.Fit) : Calls Try.prog 76 #[x.val] w (Ret (.bool (mayC x.ch)) E0 w) := by
  obtain ⟨ch, vv, sv, rv⟩ := x
  obtain ⟨h1, h2, h3⟩ := hx
  obtain ⟨A1, n1, c1, rfl, hl1, hc1, hm1, hr1⟩ := h1
  obtain ⟨A2, n2, c2, rfl, hl2, hc2, hm2, hr2⟩ := h2
  obtain ⟨A3, n3, c3, rfl, hl3, hc3, hm3, hr3⟩ := h3
  have hm1 := Nat.le_trans hc1 hm1
  have hm2 := Nat.le_trans hc2 hm2
  have hm3 := Nat.le_trans hc3 hm3
  obtain ⟨_, hf2, hf3⟩ := hfit
  simp only at *
  have hl1' : ch.vals.length = n1 := by rw [ints_len] at hl1; omega
  have hl2' : ch.snd.length = n2 := by rw [wts_len] at hl2; omega
  have hl3' : ch.rcv.length = n3 := by rw [wts_len] at hl3; omega
  have hn2 : n2 ≤ 4398046511104 := by omega
  have hn3 : n3 ≤ 4398046511104 := by omega
  have R2 := hid hr2
  have R3 := hid hr3
  clear hl1 hl2 hl3 hc1 hc2 hc3 hf2 hf3 hr1 hr2 hr3
  have HA : mayA ch = !(decide (ch.cap < 0) || decide (1024 < ch.cap) || decide (ch.cap < n1)) := by unfold mayA; rw [hl1']
  have HB : mayB ch = !((decide (0 < n2) && decide ((n1 : Int) < ch.cap)) || (decide (0 < n3) && decide (0 < n1))) := by unfold mayB; rw [hl1', hl2', hl3']
  have HD : mayD ch = !(ch.cl && decide (0 < n2 + n3)) := by unfold mayD; rw [hl2', hl3']
  have HF := hid ((Fr.refl (S := E0) (w := w)).alloc (Obj.cells #[.int .i64 ch.cap, .slice A1 n1 c1, .slice A2 n2 c2, .slice A3 n3 c3, .bool ch.cl] 67))
  have HM : Hid (mayC ch = (mayA ch && (mayB ch && (mayD ch && (!(ch.rcv.any hasV) && mayE ch))))) := rfl
  simp only [CM.val]
  cases hA : mayA ch with
  | false =>
    rw [hA] at HM HA
    rw [HM.out, Bool.false_and]
    have HAA := HA.symm
    simp only [Bool.not_eq_false', Bool.or_eq_true, decide_eq_true_eq] at HAA
    clear HB HD HA
    go_enter Try.func76, Try.ntmps76
    rcases HAA with (h | h) | h
    · go_wp2_with fail
      go_ret
      exact ⟨rfl, Fr.refl.alloc _⟩
    · go_wp2_with fail
      all_goals go_ret
      all_goals exact ⟨rfl, Fr.refl.alloc _⟩
    · go_wp2_with fail
      all_goals go_ret
      all_goals exact ⟨rfl, Fr.refl.alloc _⟩
  | true =>
    rw [hA] at HM HA
    have HAA := HA.symm
    simp only [Bool.not_eq_true', Bool.or_eq_false_iff, decide_eq_false_iff_not] at HAA
    obtain ⟨⟨q1, q2⟩, q3⟩ := HAA
    clear HA
    cases hB : mayB ch with
    | false =>
      rw [hB] at HM HB
      rw [HM.out, Bool.true_and, Bool.false_and]
      have HBB := HB.symm
      simp only [Bool.not_eq_false', Bool.or_eq_true, Bool.and_eq_true, decide_eq_true_eq] at HBB
      clear HD HB
      go_enter Try.func76, Try.ntmps76
      rcases HBB with ⟨b1, b2⟩ | ⟨b1, b2⟩
      · have b1' : (0 : Int) < (n2 : Int) := by omega
        go_wp2_with fail
        all_goals go_ret
        all_goals exact ⟨rfl, Fr.refl.alloc _⟩
      · have b1' : (0 : Int) < (n3 : Int) := by omega
        have b2' : (0 : Int) < (n1 : Int) := by omega
        go_wp2_with fail
        all_goals go_ret
        all_goals exact ⟨rfl, Fr.refl.alloc _⟩
    | true =>
      rw [hB] at HM HB
      have HBB := HB.symm
      simp only [Bool.not_eq_true', Bool.or_eq_false_iff, Bool.and_eq_false_iff, decide_eq_false_iff_not] at HBB
      obtain ⟨b1, b2⟩ := HBB
      clear HB
      have hsum : wrap64 ((n2 : Int) + (n3 : Int)) = (n2 : Int) + (n3 : Int) := IntWalk.wrap64_in _ (by omega)
      have F4 := hid (four b1 b2)
      have L2 := hid hl2'
      have L3 := hid hl3'
      clear b1 b2 hl1' hl2' hl3'
      cases hD : mayD ch with
      | false =>
        rw [hD] at HM HD
        rw [HM.out, Bool.true_and, Bool.true_and, Bool.false_and]
        have HDD := HD.symm
        simp only [Bool.not_eq_false', Bool.and_eq_true, decide_eq_true_eq] at HDD
        obtain ⟨d1, d2⟩ := HDD
        have d2' : (0 : Int) < (n2 : Int) + (n3 : Int) := by omega
        clear HD d2
        go_enter Try.func76, Try.ntmps76
        rcases F4.out with (⟨f1, f2⟩ | ⟨f1, f2, f3⟩) | (⟨f1, f2, f3⟩ | ⟨f1, f2, f3, f4⟩)
        · exact absurd d2' (by omega)
        · go_wp2_with fail
          all_goals (go_ret; exact ⟨rfl, Fr.refl.alloc _⟩)
        · go_wp2_with fail
          all_goals (go_ret; exact ⟨rfl, Fr.refl.alloc _⟩)
        · go_wp2_with fail
          all_goals (go_ret; exact ⟨rfl, Fr.refl.alloc _⟩)
      | true =>
        rw [hD] at HM HD
        rw [HM.out, Bool.true_and, Bool.true_and, Bool.true_and]
        have HDD := HD.symm
        simp only [Bool.not_eq_true', Bool.and_eq_false_iff, decide_eq_false_iff_not] at HDD
        clear HD HM
        cases hcl : ch.cl with
        | true =>
          have hz : ¬ (0 : Int) < (n2 : Int) + (n3 : Int) := by rw [hcl] at HDD; rcases HDD with h | h; exact absurd h (by decide); omega
          have f1 : ¬ (0 : Int) < (n2 : Int) := by omega
          have f2 : ¬ (0 : Int) < (n3 : Int) := by omega
          have hme : mayE ch = true := by
            have : ch.snd = [] := List.eq_nil_of_length_eq_zero (by have := L2.out; omega)
            unfold mayE; rw [this]
          have hrn : ch.rcv = [] := List.eq_nil_of_length_eq_zero (by have := L3.out; omega)
          have HE : Hid (ch.rcv.any hasV = false) := by rw [hrn]; rfl
          have q5 : ((n2 : Int) == 0) = true := by simp; omega
          rw [hme, HE.out, Bool.and_true, Bool.not_false]
          clear HDD hcl
          go_enter Try.func76, Try.ntmps76
          go_wp2_with fail
          refine (containsW A3 n3 c3 89 #[] hasV ch.rcv _ L3.out hm3 predHasV (R3.out.fr (Fr.refl.alloc _))).mono ?_
          rintro e w1 ⟨rfl, hf1⟩
          rw [HE.out]
          have K := keepBx (w := w.alloc _) (B := w.heap.size) ⟨by rw [World.cell?_alloc_at _ _ _ _ rfl]; rfl, by rw [World.cell?_alloc_at _ _ _ _ rfl]; rfl, by rw [World.cell?_alloc_at _ _ _ _ rfl]; rfl, by rw [World.cell?_alloc_at _ _ _ _ rfl]; rfl, by rw [World.cell?_alloc_at _ _ _ _ rfl]; rfl⟩ hf1
          obtain ⟨k0, k1, k2, k3, k4⟩ := K
          have F1 := hid ((Fr.refl.alloc _).trans hf1)
          clear hf1
          go_wp2_with fail
          all_goals (go_ret; exact ⟨rfl, F1.out⟩)
        | false =>
          clear HDD
          have HCL := hid hcl
          clear hcl
          rcases F4.out with (⟨f1, f2⟩ | ⟨f1, f2, f3⟩) | (⟨f1, f2, f3⟩ | ⟨f1, f2, f3, f4⟩)
          · have hme : mayE ch = true := by
              have : ch.snd = [] := List.eq_nil_of_length_eq_zero (by have := L2.out; omega)
              unfold mayE; rw [this]
            have q5 : ((n2 : Int) == 0) = true := by simp; omega
            rw [hme, Bool.and_true]
            clear hme
            cases hE : ch.rcv.any hasV with
            | true =>
              have HE := hid hE
              clear hE
              rw [Bool.not_true]
              go_enter Try.func76, Try.ntmps76
              go_wp2_with fail
              refine (containsW A3 n3 c3 89 #[] hasV ch.rcv _ L3.out hm3 predHasV (R3.out.fr (Fr.refl.alloc _))).mono ?_
              rintro e w1 ⟨rfl, hf1⟩
              rw [HE.out]
              have K := keepBx (w := w.alloc _) (B := w.heap.size) ⟨by rw [World.cell?_alloc_at _ _ _ _ rfl]; rfl, by rw [World.cell?_alloc_at _ _ _ _ rfl]; rfl, by rw [World.cell?_alloc_at _ _ _ _ rfl]; rfl, by rw [World.cell?_alloc_at _ _ _ _ rfl]; rfl, by rw [World.cell?_alloc_at _ _ _ _ rfl]; rfl⟩ hf1
              obtain ⟨k0, k1, k2, k3, k4⟩ := K
              have F1 := hid ((Fr.refl.alloc _).trans hf1)
              clear hf1
              go_wp2_with fail
              all_goals (go_ret; exact ⟨rfl, F1.out⟩)
            | false =>
              have HE := hid hE
              clear hE
              rw [Bool.not_false]
              go_enter Try.func76, Try.ntmps76
              go_wp2_with fail
              refine (containsW A3 n3 c3 89 #[] hasV ch.rcv _ L3.out hm3 predHasV (R3.out.fr (Fr.refl.alloc _))).mono ?_
              rintro e w1 ⟨rfl, hf1⟩
              rw [HE.out]
              have K := keepBx (w := w.alloc _) (B := w.heap.size) ⟨by rw [World.cell?_alloc_at _ _ _ _ rfl]; rfl, by rw [World.cell?_alloc_at _ _ _ _ rfl]; rfl, by rw [World.cell?_alloc_at _ _ _ _ rfl]; rfl, by rw [World.cell?_alloc_at _ _ _ _ rfl]; rfl, by rw [World.cell?_alloc_at _ _ _ _ rfl]; rfl⟩ hf1
              obtain ⟨k0, k1, k2, k3, k4⟩ := K
              have F1 := hid ((Fr.refl.alloc _).trans hf1)
              clear hf1
              go_wp2_with fail
              all_goals (go_ret; exact ⟨rfl, F1.out⟩)
          · have hme : mayE ch = true := by
              have : ch.rcv = [] := List.eq_nil_of_length_eq_zero (by have := L3.out; omega)
              unfold mayE; rw [this]; cases ch.snd <;> rfl
            have q5 : ((n2 : Int) == 0) = false := by simp; omega
            have q6 : ((n3 : Int) == 0) = true := by simp; omega
            rw [hme, Bool.and_true]
            clear hme
            cases hE : ch.rcv.any hasV with
            | true =>
              have HE := hid hE
              clear hE
              rw [Bool.not_true]
              go_enter Try.func76, Try.ntmps76
              go_wp2_with fail
              refine (containsW A3 n3 c3 89 #[] hasV ch.rcv _ L3.out hm3 predHasV (R3.out.fr (Fr.refl.alloc _))).mono ?_
              rintro e w1 ⟨rfl, hf1⟩
              rw [HE.out]
              have K := keepBx (w := w.alloc _) (B := w.heap.size) ⟨by rw [World.cell?_alloc_at _ _ _ _ rfl]; rfl, by rw [World.cell?_alloc_at _ _ _ _ rfl]; rfl, by rw [World.cell?_alloc_at _ _ _ _ rfl]; rfl, by rw [World.cell?_alloc_at _ _ _ _ rfl]; rfl, by rw [World.cell?_alloc_at _ _ _ _ rfl]; rfl⟩ hf1
              obtain ⟨k0, k1, k2, k3, k4⟩ := K
              have F1 := hid ((Fr.refl.alloc _).trans hf1)
              clear hf1
              go_wp2_with fail
              all_goals (go_ret; exact ⟨rfl, F1.out⟩)
            | false =>
              have HE := hid hE
              clear hE
              rw [Bool.not_false]
              go_enter Try.func76, Try.ntmps76
              go_wp2_with fail
              refine (containsW A3 n3 c3 89 #[] hasV ch.rcv _ L3.out hm3 predHasV (R3.out.fr (Fr.refl.alloc _))).mono ?_
              rintro e w1 ⟨rfl, hf1⟩
              rw [HE.out]
              have K := keepBx (w := w.alloc _) (B := w.heap.size) ⟨by rw [World.cell?_alloc_at _ _ _ _ rfl]; rfl, by rw [World.cell?_alloc_at _ _ _ _ rfl]; rfl, by rw [World.cell?_alloc_at _ _ _ _ rfl]; rfl, by rw [World.cell?_alloc_at _ _ _ _ rfl]; rfl, by rw [World.cell?_alloc_at _ _ _ _ rfl]; rfl⟩ hf1
              obtain ⟨k0, k1, k2, k3, k4⟩ := K
              have F1 := hid ((Fr.refl.alloc _).trans hf1)
              clear hf1
              go_wp2_with fail
              all_goals (go_ret; exact ⟨rfl, F1.out⟩)
          · have hme : mayE ch = true := by
              have : ch.snd = [] := List.eq_nil_of_length_eq_zero (by have := L2.out; omega)
              unfold mayE; rw [this]
            have q5 : ((n2 : Int) == 0) = true := by simp; omega
            rw [hme, Bool.and_true]
            clear hme
            cases hE : ch.rcv.any hasV with
            | true =>
              have HE := hid hE
              clear hE
              rw [Bool.not_true]
              go_enter Try.func76, Try.ntmps76
              go_wp2_with fail
              refine (containsW A3 n3 c3 89 #[] hasV ch.rcv _ L3.out hm3 predHasV (R3.out.fr (Fr.refl.alloc _))).mono ?_
              rintro e w1 ⟨rfl, hf1⟩
              rw [HE.out]
              have K := keepBx (w := w.alloc _) (B := w.heap.size) ⟨by rw [World.cell?_alloc_at _ _ _ _ rfl]; rfl, by rw [World.cell?_alloc_at _ _ _ _ rfl]; rfl, by rw [World.cell?_alloc_at _ _ _ _ rfl]; rfl, by rw [World.cell?_alloc_at _ _ _ _ rfl]; rfl, by rw [World.cell?_alloc_at _ _ _ _ rfl]; rfl⟩ hf1
              obtain ⟨k0, k1, k2, k3, k4⟩ := K
              have F1 := hid ((Fr.refl.alloc _).trans hf1)
              clear hf1
              go_wp2_with fail
              all_goals (go_ret; exact ⟨rfl, F1.out⟩)
            | false =>
              have HE := hid hE
              clear hE
              rw [Bool.not_false]
              go_enter Try.func76, Try.ntmps76
              go_wp2_with fail
              refine (containsW A3 n3 c3 89 #[] hasV ch.rcv _ L3.out hm3 predHasV (R3.out.fr (Fr.refl.alloc _))).mono ?_
              rintro e w1 ⟨rfl, hf1⟩
              rw [HE.out]
              have K := keepBx (w := w.alloc _) (B := w.heap.size) ⟨by rw [World.cell?_alloc_at _ _ _ _ rfl]; rfl, by rw [World.cell?_alloc_at _ _ _ _ rfl]; rfl, by rw [World.cell?_alloc_at _ _ _ _ rfl]; rfl, by rw [World.cell?_alloc_at _ _ _ _ rfl]; rfl, by rw [World.cell?_alloc_at _ _ _ _ rfl]; rfl⟩ hf1
              obtain ⟨k0, k1, k2, k3, k4⟩ := K
              have F1 := hid ((Fr.refl.alloc _).trans hf1)
              clear hf1
              go_wp2_with fail
              all_goals (go_ret; exact ⟨rfl, F1.out⟩)
          · have q5 : ((n2 : Int) == 0) = false := by simp; omega
            have q6 : ((n3 : Int) == 0) = false := by simp; omega
            cases hE : ch.rcv.any hasV with
            | true =>
              have HE := hid hE
              clear hE
              rw [Bool.not_true, Bool.false_and]
              go_enter Try.func76, Try.ntmps76
              go_wp2_with fail
              refine (containsW A3 n3 c3 89 #[] hasV ch.rcv _ L3.out hm3 predHasV (R3.out.fr (Fr.refl.alloc _))).mono ?_
              rintro e w1 ⟨rfl, hf1⟩
              rw [HE.out]
              have K := keepBx (w := w.alloc _) (B := w.heap.size) ⟨by rw [World.cell?_alloc_at _ _ _ _ rfl]; rfl, by rw [World.cell?_alloc_at _ _ _ _ rfl]; rfl, by rw [World.cell?_alloc_at _ _ _ _ rfl]; rfl, by rw [World.cell?_alloc_at _ _ _ _ rfl]; rfl, by rw [World.cell?_alloc_at _ _ _ _ rfl]; rfl⟩ hf1
              obtain ⟨k0, k1, k2, k3, k4⟩ := K
              have F1 := hid ((Fr.refl.alloc _).trans hf1)
              clear hf1
              go_wp2_with fail
              all_goals (go_ret; exact ⟨rfl, F1.out⟩)
            | false =>
              have HE := hid hE
              clear hE
              rw [Bool.not_false, Bool.true_and]
              obtain ⟨x, xs, hx⟩ : ∃ x xs, ch.snd = x :: xs := by
                have := L2.out
                cases hh : ch.snd with
                | nil => rw [hh] at this; simp at this; omega
                | cons x xs => exact ⟨x, xs, rfl⟩
              have hme : mayE ch = (!(ch.snd.any fun y => !isG x.s x.g y) && !(ch.rcv.any fun y => !isG x.s x.g y)) := by
                have := L3.out
                cases hh : ch.rcv with
                | nil => rw [hh] at this; simp at this; omega
                | cons y ys => unfold mayE; rw [hx, hh]
              have hx0 : ch.snd[0]? = some x := by rw [hx]; rfl
              rw [hme]
              have HX := hid hx0
              clear hme hx hx0
              go_enter Try.func76, Try.ntmps76
              go_wp2_with fail
              refine (containsW A3 n3 c3 89 #[] hasV ch.rcv _ L3.out hm3 predHasV (R3.out.fr (Fr.refl.alloc _))).mono ?_
              rintro e w1 ⟨rfl, hf1⟩
              rw [HE.out]
              have K := keepBx (w := w.alloc _) (B := w.heap.size) ⟨by rw [World.cell?_alloc_at _ _ _ _ rfl]; rfl, by rw [World.cell?_alloc_at _ _ _ _ rfl]; rfl, by rw [World.cell?_alloc_at _ _ _ _ rfl]; rfl, by rw [World.cell?_alloc_at _ _ _ _ rfl]; rfl, by rw [World.cell?_alloc_at _ _ _ _ rfl]; rfl⟩ hf1
              obtain ⟨k0, k1, k2, k3, k4⟩ := K
              have F1 := hid ((Fr.refl.alloc _).trans hf1)
              clear hf1
              obtain ⟨b, o, hA2, hr⟩ := R2.out.wtAt HX.out
              obtain ⟨g0, g1, g2, g3⟩ := (hr.fr F1.out (fun x => x)).wt HX.out
              simp only [Nat.zero_mul, Nat.add_zero] at g0 g1 g2 g3
              subst hA2
              clear hr
              have hlt1 : w.heap.size < w1.heap.size := World.block_lt_of_cell? w1 _ k3
              go_wp2_with fail
              have B0 := hid (show BoxG w1.heap.size x.s x.g (w1.alloc (.cells #[.int .i64 x.s, .int .i64 x.g] 37)) from ⟨by rw [World.cell?_alloc_at _ _ _ _ rfl]; rfl, by rw [World.cell?_alloc_at _ _ _ _ rfl]; rfl⟩)
              refine (containsW _ n2 c2 90 _ (fun y => !isG x.s x.g y) ch.snd _ L2.out hm2 (predOther (S := E0) B0.out (fun x => x)) (R2.out.fr (F1.out.alloc _))).mono ?_
              rintro e w2 ⟨rfl, hf2⟩
              have k30 : w2.cell? ⟨w.heap.size, 3, none⟩ = some (.slice A3 n3 c3) := hf2.cell (by rw [World.cell?_alloc_past _ _ _ (by exact World.block_lt_of_cell? w1 _ k3)]; exact k3) (fun x => x)
              have BX := hid (show BoxG w1.heap.size x.s x.g w2 from B0.out.fr hf2 (fun x => x))
              have hlt2 : w.heap.size < w2.heap.size := World.block_lt_of_cell? w2 _ k30
              have F2 := hid ((F1.out.alloc _).trans hf2)
              clear hf2 k0 k1 k2 k3 k4 g0 g1 g2 g3
              cases hs : (ch.snd.any fun y => !isG x.s x.g y) with
              | true =>
                have HS := hid hs
                clear hs
                go_wp2_with fail
                all_goals (go_ret; exact ⟨by rw [HS.out]; rfl, F2.out⟩)
              | false =>
                have HS := hid hs
                clear hs
                go_wp2_with fail
                refine (containsW A3 n3 c3 90 _ (fun y => !isG x.s x.g y) ch.rcv _ L3.out hm3 (predOther (S := E0) BX.out (fun x => x)) (R3.out.fr F2.out)).mono ?_
                rintro e w3 ⟨rfl, hf3⟩
                have F3 := hid (F2.out.trans hf3)
                clear hf3
                go_wp2_with fail
                all_goals (go_ret; exact ⟨by rw [HS.out]; rfl, F3.out⟩)
end Go.Proofs.Yteffmnohgnmanaa
