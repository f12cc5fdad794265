/- ChooseOrders, the walk. -/
import Derived.Test.YteffmnohgnmanaaAwake
import Derived.Test.YteffmnohgnmanaaSame
import Derived.Test.YteffmnohgnmanaaOrder2
namespace Go.Proofs.Yteffmnohgnmanaa
open Go.RowKit
theorem RowF.rdI {w : World} {F : Nat → Prop} {e : Nat} {v : Value} {l : List Int} (h : RowF w F e 1 v (ints l)) : RdV w v 1 (ints l) := CM.Own.rdv (by decide) h (ints_len l)
theorem RowF.rdU {w : World} {F : Nat → Prop} {e : Nat} {v : Value} {l : List Int} (h : RowF w F e 1 v (us l)) : RdV w v 1 (us l) := CM.Own.rdv (by decide) h (us_len l)
set_option maxHeartbeats 1000000 in
theorem orders_walk (n : Int) (draws : List Int) (v : Value) (w : World) (hv : RdV w v 1 (us draws)) (hd : ∀ d ∈ draws, 0 ≤ d ∧ d < 18446744073709551616) : Calls Try.prog 8 #[.int .i64 n, v] w (Ret (.bool true) E0 w) := by
  have HV := hid hv
  have HD := hid hd
  clear hv hd
  obtain ⟨l, er, hl⟩ : ∃ l er, orderL n draws = (l, er) := ⟨_, _, rfl⟩
  have HL := hid hl
  clear hl
  go_enter Try.func8, Try.ntmps8
  go_wp2_with fail
  refine (order_ok n draws v w HV.out HD.out).mono ?_
  rw [HL.out]
  rintro e w1 ⟨v1, rfl, hr1, hf1⟩
  obtain ⟨A1, n1, c1, rfl⟩ := hr1.shape
  have R1 := hid hr1.rdI
  have F1 := hid hf1
  clear hr1 hf1
  simp only [tup2]
  go_wp2_with fail
  refine (order2_ok n draws v w1 (HV.out.fr F1.out) HD.out).mono ?_
  rw [HL.out]
  rintro e w2 ⟨v2, rfl, hr2, hf2⟩
  obtain ⟨A2, n2, c2, rfl⟩ := hr2.shape
  have R2 := hid hr2.rdI
  have R1' := hid (R1.out.fr hf2)
  have F2 := hid (F1.out.trans hf2)
  clear hr2 hf2
  simp only [tup2]
  have z1 : ((er == er) : Bool) = true := by simp
  go_wp2_with fail
  refine (same_ints l l _ _ w2 R1'.out R2.out).mono ?_
  rintro e w3 ⟨rfl, hf3⟩
  rw [show decide (l = l) = true from by simp]
  have F3 := hid (F2.out.trans hf3)
  clear hf3
  go_wp2_with fail
  refine (awake_ok w3).mono ?_
  rintro e w4 ⟨rfl, hf4⟩
  have F4 := hid (F3.out.trans hf4)
  clear hf4
  go_wp2_with fail
  go_ret
  exact ⟨rfl, F4.out⟩
end Go.Proofs.Yteffmnohgnmanaa
