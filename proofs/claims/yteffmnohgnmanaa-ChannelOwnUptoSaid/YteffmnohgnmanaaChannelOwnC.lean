/- 'ChannelOwn': the row: the arguments as plain data, the walk, and the given statement. The shell is printed by wip/gen/row.py. -/
import Derived.Test.YteffmnohgnmanaaOwnsC
import Derived.Test.YteffmnohgnmanaaOpensNC
import Derived.Test.YteffmnohgnmanaaB4ChannelPlays
import Derived.Handed
namespace Go.Proofs.Yteffmnohgnmanaa.channelOwn
open Go.ChangeShapes Go.WideShapes Go.ChangeAt Go.RowKit
set_option linter.unusedVariables false
theorem own : ownKnob Try.prog.godebug = none := by kernel_rfl
theorem readable : ∀ t ∈ Try.f13.params.toList, Try.prog.readableRec t = true ∧ t < Try.prog.types.size := of_decide_eq_true (by kernel_rfl)
set_option maxRecDepth 100000 in
theorem contract (H : Type) (enc : TypeId × Value → H) (W : World) (base : Nat) (args : Array Value) (ds gs : List (DataW H)) (before : List MemPlace)
    (hval : ∀ (j : Nat) t v, Try.f13.params[j]? = some t → args[j]? = some v → Value.okWide Try.prog W .any base t v)
    (hW : DataW.Whole enc Try.prog Try.f13.params.toList Rows.channelOwnSpec.vars false W args.toList ds gs before) (hk : Rows.uptoSmall H (ds ++ gs) = true) :
    Calls Try.prog 13 args W fun e W' => ∃ v, e = .returned v ∧ Rows.channelOwnSpec.post enc Try.prog Try.f13 false true false false W args v W' := by
  have hW' := hW
  obtain ⟨p, q, hA0, hV, rfl, hfz, hnd⟩ := hW
  have hA : DataW.TrodAll enc Try.prog W 0 (fun _ => true) true Try.f13.params.toList args.toList ds p := hA0
  rw [Try.params13] at hA hval
  obtain ⟨v0, vs0, d0, ds0, p0, q0, hargs, rfl, rfl, h0, r0⟩ := trodAll_cons hA
  obtain ⟨v1, vs1, d1, ds1, p1, q1, rfl, rfl, rfl, h1, r1⟩ := trodAll_cons r0
  obtain ⟨rfl, rfl, rfl⟩ := trodAll_nil r1
  obtain rfl : args = #[v0, v1] := by cases args; simp_all
  obtain ⟨rfl, rfl⟩ := trodVars_none hV
  clear hA0 hA hfz hnd
  obtain ⟨a0, len0, cap0, rfl⟩ := okWide_slice Try.underlying52 (hval 0 52 v0 rfl rfl)
  obtain ⟨fu0, h0'⟩ := h0
  obtain ⟨vl, hv0, hcs, hcb⟩ := opens_cms1 H enc W fu0 _ _ h0'
  have hv1 : Value.slice a0 len0 cap0 = vl.1 := by simpa [Value.cells] using hv0
  obtain ⟨a1, len1, cap1, rfl⟩ := okWide_slice Try.underlying51 (hval 1 51 v1 rfl rfl)
  obtain ⟨fu1, h1'⟩ := h1
  obtain ⟨al, ha0, has, hab⟩ := opens_acts H enc W fu1 _ _ h1'
  have ha1 : Value.slice a1 len1 cap1 = al.1 := by simpa [Value.cells] using ha0
  have hb := small hk
  simp only [List.append_nil, Rows.uptoBulkAll] at hb
  simp only at hcb hab
  have hw : ∀ m ∈ vl.2, m.ch.vals.length + m.ch.snd.length + m.ch.rcv.length ≤ 1048576 := fun m hm => by have := wt1_le hm; have e : m.wt = m.ch.vals.length + m.ch.snd.length + m.ch.rcv.length := rfl; omega
  rw [← hv1] at hcs
  rw [← ha1] at has
  have hc1 := wt1_len vl.2
  have walk := owns_walk (.slice a0 len0 cap0) (.slice a1 len1 cap1) vl.2 al.2 W hcs (by omega) (fun c hc => by obtain ⟨m, hm, rfl⟩ := List.mem_map.1 hc; have := hw m hm; exact ⟨by omega, by omega, by omega⟩)
    (fun c hc => by obtain ⟨m, hm, rfl⟩ := List.mem_map.1 hc; have := hw m hm; omega) has (by omega)
  refine walk.mono fun e W' ⟨he, hf⟩ => ?_
  subst he
  exact ⟨_, rfl, post_law hW' rfl rfl rfl rfl rfl readable hf⟩

set_option maxRecDepth 100000 in
theorem lifted (os : Os) (started : os.Started) (H : Type) (enc : TypeId × Value → H) (F : Stop.Interp) :
    ReturnsInHanded {} Try.checked os 13 .any ((Rows.OpenSpec.upto Rows.channelOwnSpec).pre6 enc Try.prog Try.f13 Rows.channelOwnUptoRow.domain false) (((Rows.OpenSpec.upto Rows.channelOwnSpec).at F).post enc Try.prog Try.f13 false true false false) := by
  refine returnsInHanded_of_cond (C := Try.checked) (s := (Rows.OpenSpec.upto Rows.channelOwnSpec)) (k := Rows.uptoSmall) rfl own started (by kernel_rfl) Try.func13
    (OpenSpec.witness (enc := enc) (C := Try.checked) (s := (Rows.OpenSpec.upto Rows.channelOwnSpec)) (k := Rows.uptoSmall) rfl false ⟨#[], #[.slice none 0 0, .slice none 0 0], []⟩ 8 (by kernel_rfl) (by kernel_rfl) (by kernel_rfl)
      (x := ([.nil, .nil], [], [])) (by kernel_rfl) rfl (by kernel_rfl)) ?_
  intro W base args ds gs before hval hW _ hk _
  exact contract H enc W base args ds gs before hval hW hk
theorem proved : Rows.ChannelOwnUptoSaid :=
  OpenClaim.holds_of_cond 13 Try.f13 rfl rfl rfl rfl rfl rfl rfl ⟨rfl, rfl, rfl, rfl, rfl⟩ rfl rfl rfl rfl rfl (by kernel_rfl) Try.func13 (by kernel_rfl)
    (of_decide_eq_true (by kernel_rfl)) (by unfold Func.isWrapper; first | (rw [if_pos (by decide +kernel)]; kernel_rfl) | (rw [if_neg (by decide +kernel)]; exact ⟨rfl, rfl⟩))
    (fun os started H enc _ F => lifted os started H enc F)
end Go.Proofs.Yteffmnohgnmanaa.channelOwn
