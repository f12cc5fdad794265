/- Words and contracts of calls that the law needs (Check, Dom): merged by wip/gen/zmerge.py. No condition but those that each theorem names. -/
import Derived.Test.YtocepiogpeafoaaGreatDoorH08
import Derived.Test.YtocepiogpeafoaaGreatDoorH10
import Derived.Test.YtocepiogpeafoaaGreatDoorH12
set_option linter.unusedVariables false
/- proper.Check: the walk. -/
namespace Go.Proofs.YtocepiogpeafoaaGreatDoor
open Go.RowKit
set_option linter.unusedVariables false
/-- the first k functions' words may be -/
def codeK (p : Prg) (k : Nat) : Prop := ∀ (j : Nat) (f : Fn), j < k → p.funcs[j]? = some f → ∀ (x : Nat) (c : Int), f.b ≤ x → (x : Int) < f.e → p.code[x]? = some c → wrongL p.funcs.length p.tables.length x f c = 0
/-- the words of a function up to one may be -/
def codeX (p : Prg) (f : Fn) (m : Nat) : Prop := ∀ (x : Nat) (c : Int), f.b ≤ x → x < m → p.code[x]? = some c → wrongL p.funcs.length p.tables.length x f c = 0
theorem codeK_all {p : Prg} (h : codeK p p.funcs.length) : codeP p := fun f hf x c h1 h2 h3 => by
  obtain ⟨j, hj⟩ := List.mem_iff_getElem?.1 hf
  exact h j f (lt_of_get hj) hj x c h1 h2 h3
theorem codeK_succ {p : Prg} {k : Nat} {f : Fn} {m : Nat} (h : codeK p k) (hk : p.funcs[k]? = some f) (hx : codeX p f m) (hm : f.e ≤ m) : codeK p (k + 1) := fun j g hj hg x c h1 h2 h3 => by
  by_cases e : j = k
  · subst e; rw [hk] at hg; cases hg; exact hx x c h1 (by omega) h3
  · exact h j g (by omega) hg x c h1 h2 h3
theorem codeX_succ {p : Prg} {f : Fn} {m : Nat} {c : Int} (h : codeX p f m) (hc : p.code[m]? = some c) (hw : wrongL p.funcs.length p.tables.length m f c = 0) : codeX p f (m + 1) := fun x d h1 h2 h3 => by
  by_cases e : x = m
  · subst e; rw [hc] at h3; cases h3; exact hw
  · exact h x d h1 (by omega) h3
def CheckPost (p : Prg) (w : World) (e : Ending) (w' : World) : Prop := ∃ k er : Int, e = .returned (tup2 (.int .i64 k) (.int .i64 er)) ∧ (er = 0 ↔ okP p) ∧ Fr E0 w w'
theorem checkNo {p : Prg} {w w' : World} {e : Ending} (k er : Int) (he : e = .returned (tup2 (.int .i64 k) (.int .i64 er))) (h0 : er ≠ 0) (hn : ¬ okP p) (hf : Fr E0 w w') : CheckPost p w e w' :=
  ⟨k, er, he, ⟨fun x => absurd x h0, fun x => absurd x hn⟩, hf⟩
set_option maxHeartbeats 4000000 in
theorem check_sizes {w : World} {vc vf vt : Value} {p : Prg} {ts : List (Tb × Value)} (h : RdP w vc vf vt p ts) (hn : ¬ sizesP p) : Calls Tryz.prog 42 #[.agg #[vc, vf, vt]] w (CheckPost p w) := by
  have hts : ts.length = p.tables.length := by have := congrArg List.length h.are; simpa using this
  obtain ⟨cA, cc, rfl, hc1, hc2, hc3⟩ := h.code.len (by decide) (codeC_len _)
  obtain ⟨fA, fc, rfl, hf1, hf2, hf3⟩ := h.funcs.len (by decide) (fnC_len _)
  obtain ⟨tA, tc, rfl, ht1, ht2, ht3⟩ := h.tabs.len (by decide) (tbC_len _)
  have HNO := hid (fun (e : Ending) (w' : World) (k : Int) (he : e = .returned (tup2 (.int .i64 k) (.int .i64 2))) (hf : Fr E0 w w') => checkNo k 2 he (by decide) (fun x => hn x.1) hf)
  unfold sizesP at hn
  rw [hts] at *
  clear h hts hc3 hf3 ht3
  generalize p.funcs.length = nf at *
  generalize p.tables.length = nt at *
  generalize p.code.length = nc at *
  by_cases h1 : nc ≤ 4096
  · by_cases h2 : nf ≤ 256
    · have h3 : ¬ nt ≤ 256 := fun x => hn ⟨h1, h2, x⟩
      have b1 : decide ((4096 : Int) < (nc : Int)) = false := by simp; omega
      have b2 : decide ((256 : Int) < (nf : Int)) = false := by simp; omega
      have b3 : decide ((256 : Int) < (nt : Int)) = true := by simp; omega
      clear hn
      go_enter Tryz.func42, Tryz.ntmps42
      go_wp2
      go_ret2
      exact HNO.out _ _ 0 rfl (Fr.refl.alloc _)
    · have b1 : decide ((4096 : Int) < (nc : Int)) = false := by simp; omega
      have b2 : decide ((256 : Int) < (nf : Int)) = true := by simp; omega
      clear hn
      go_enter Tryz.func42, Tryz.ntmps42
      go_wp2
      go_ret2
      exact HNO.out _ _ 0 rfl (Fr.refl.alloc _)
  · have b1 : decide ((4096 : Int) < (nc : Int)) = true := by simp; omega
    clear hn
    go_enter Tryz.func42, Tryz.ntmps42
    go_wp2
    go_ret2
    exact HNO.out _ _ 0 rfl (Fr.refl.alloc _)
set_option maxHeartbeats 4000000 in
theorem check_ok {w : World} {vc vf vt : Value} {p : Prg} {ts : List (Tb × Value)} (h : RdP w vc vf vt p ts) (hw : p.Wf) : Calls Tryz.prog 42 #[.agg #[vc, vf, vt]] w (CheckPost p w) := by
  by_cases hsn : ¬ sizesP p
  · exact check_sizes h hsn
  have hs := Classical.not_not.1 hsn
  clear hsn
  have HS := hid hs
  have HH := hid h
  obtain ⟨s0, s1, s2⟩ := hs
  have hts : ts.length = p.tables.length := by have := congrArg List.length h.are; simpa using this
  obtain ⟨cA, cc, rfl, hc1, hc2, hc3⟩ := h.code.len (by decide) (codeC_len _)
  obtain ⟨fA, fc, rfl, hf1, hf2, hf3⟩ := h.funcs.len (by decide) (fnC_len _)
  obtain ⟨tA, tc, rfl, ht1, ht2, ht3⟩ := h.tabs.len (by decide) (tbC_len _)
  have HF := hid hf3
  have HTS := hid hts
  rw [hts] at ht1 HH ⊢
  clear h hts hc3 hf3 ht3
  obtain ⟨nf, hnf⟩ : ∃ n, n = p.funcs.length := ⟨_, rfl⟩
  obtain ⟨nt, hnt⟩ : ∃ n, n = p.tables.length := ⟨_, rfl⟩
  obtain ⟨nc, hnc⟩ : ∃ n, n = p.code.length := ⟨_, rfl⟩
  have HNF := hid hnf
  have HNT := hid hnt
  have HNC := hid hnc
  rw [← hnf] at s1 hf1 HH ⊢
  rw [← hnt] at s2 ht1 HH ⊢
  rw [← hnc] at s0 hc1 HH ⊢
  clear hnf hnt hnc
  have b1 : decide ((4096 : Int) < (nc : Int)) = false := by simp; omega
  have b2 : decide ((256 : Int) < (nf : Int)) = false := by simp; omega
  have b3 : decide ((256 : Int) < (nt : Int)) = false := by simp; omega
  go_enter Tryz.func42, Tryz.ntmps42
  go_wp2_with fail
  refine (functions_ok (HH.out.fr (Fr.refl.alloc _)) hw (by rw [← HNC.out]; exact s0) (by rw [← HNF.out]; exact s1)).mono ?_
  rintro e w1 ⟨fk, fb, rfl, hfb, hfr⟩
  have HFB := hid hfb
  have F1 := hid ((Fr.refl (S := E0) (w := w)).alloc (.cells #[.slice cA nc cc, .slice fA nf fc, .slice tA nt tc] 29) |>.trans hfr)
  have B1 := hid (hfr.heapAt (heap_alloc_new w _) (fun x => x))
  have y0 := cell_of_row w1 w.heap.size 0 _ _ _ B1.out
  have y1 := cell_of_row w1 w.heap.size 1 _ _ _ B1.out
  have y2 := cell_of_row w1 w.heap.size 2 _ _ _ B1.out
  clear hfb hfr
  simp only [tup2]
  cases fb
  · go_wp2
    go_ret2
    exact checkNo fk 81 rfl (by decide) (fun x => by have := HFB.out.2 x.2.1; cases this) F1.out
  have HP := hid (HFB.out.1 rfl)
  go_wp2_with fail
  refine (tables_ok (HH.out.fr F1.out) (by rw [← HNT.out]; exact s2)).mono ?_
  rintro e w2 ⟨tk, rfl, hfr⟩
  have F2 := hid (F1.out.trans hfr)
  have B2 := hid (hfr.heapAt B1.out (fun x => x))
  clear hfr y0 y1 y2
  have y0 := cell_of_row w2 w.heap.size 0 _ _ _ B2.out
  have y1 := cell_of_row w2 w.heap.size 1 _ _ _ B2.out
  have y2 := cell_of_row w2 w.heap.size 2 _ _ _ B2.out
  simp only [tup2]
  rcases htb : tablesB p with _ | _
  · have HTB := hid htb
    clear htb
    go_wp2
    go_ret2
    exact checkNo tk 83 rfl (by decide) (fun x => by have := x.2.2.1; rw [HTB.out] at this; cases this) F2.out
  have HTB := hid htb
  clear htb
  go_wp2
  go_loopw [47] (fun i wr => ∃ k : Nat, i = .int .i64 k ∧ k ≤ nf ∧ codeK p k ∧ Fr E0 w2 wr) (fun i _ => nf - (intOf i).toNat)
  case atStart => exact ⟨0, rfl, Nat.zero_le _, (fun j f hj => absurd hj (by omega)), Fr.refl⟩
  case round =>
    obtain ⟨k, rfl, hk, hck, hfr⟩ := hrel
    have HC := hid hck
    have F3 := hid hfr
    have B3 := hid (hfr.heapAt B2.out (fun x => x))
    clear hck hfr y0 y1 y2
    have y0 := cell_of_row wr w.heap.size 0 _ _ _ B3.out
    have y1 := cell_of_row wr w.heap.size 1 _ _ _ B3.out
    have y2 := cell_of_row wr w.heap.size 2 _ _ _ B3.out
    have hz : w.heap.size < wr.heap.size := by have := F2.out.size; have := F3.out.size; have := F1.out.size; have := heap_lt B3.out; omega
    by_cases hlt : k < nf
    · obtain ⟨⟨fb, fe⟩, hfk⟩ : ∃ f, p.funcs[k]? = some f := ⟨_, List.getElem?_eq_getElem (by rw [← HNF.out]; exact hlt)⟩
      have hfw := hw.funcs _ (List.mem_of_getElem? hfk)
      have hfm := (partsGo_mem HP.out.2).2 _ (List.mem_of_getElem? hfk)
      rw [← HNC.out] at hfm
      simp only at hfw hfm
      obtain ⟨X, rfl⟩ := Int.eq_ofNat_of_zero_le hfm.1
      obtain ⟨E, rfl⟩ := Int.eq_ofNat_of_zero_le (show 0 ≤ fe by omega)
      obtain ⟨b, o, rfl, hr⟩ := HF.out.at (by intro e; have := fnC_len p.funcs; rw [e, ← HNF.out] at this; simp at this; omega)
      obtain ⟨c0, c1⟩ := ((hr.fr (F2.out.trans F3.out) (fun x => x))).fn hfk
      have HK := hid hfk
      have HFW := hid hfw
      obtain ⟨_, hXE, _, hEN⟩ := hfm
      clear hr hfk hfw
      simp only at c0 c1
      obtain ⟨wo, rfl⟩ : ∃ wo : World, wo = wr := ⟨_, rfl⟩
      go_wp2
      go_loopw [10] (fun a wi => ∃ x : Nat, a = .int .i64 x ∧ X ≤ x ∧ x ≤ E ∧ codeX p ⟨X, E⟩ x ∧ Fr E0 (wo.alloc (.cells #[.int .i64 (X : Int), .int .i64 (E : Int)] 39)) wi) (fun a _ => E - (intOf a).toNat)
      case atStart => exact ⟨X, rfl, Nat.le_refl _, by omega, (fun x c (h1 : (X : Int) ≤ x) h2 => absurd h2 (by omega)), Fr.refl⟩
      case round =>
        obtain ⟨x, rfl, hX, hE, hcx, hfr⟩ := hrel
        have HX := hid hcx
        have F4 := hid hfr
        have B4 := hid (hfr.heapAt ((heap_alloc_old _ _ hz).trans B3.out) (fun x => x))
        have D4 := hid (hfr.heapAt (heap_alloc_new wo _) (fun x => x))
        clear hcx hfr y0 y1 y2 c0 c1
        have y0 := cell_of_row wr w.heap.size 0 _ _ _ B4.out
        have y1 := cell_of_row wr w.heap.size 1 _ _ _ B4.out
        have y2 := cell_of_row wr w.heap.size 2 _ _ _ B4.out
        have d0 := cell_of_row wr wo.heap.size 0 _ _ _ D4.out
        have d1 := cell_of_row wr wo.heap.size 1 _ _ _ D4.out
        by_cases hlx : x < E
        · obtain ⟨c, hc⟩ : ∃ c, p.code[x]? = some c := ⟨_, List.getElem?_eq_getElem (by rw [← HNC.out]; omega)⟩
          have HC2 := hid hc
          clear hc
          go_wp2_with fail
          refine (wrong_ok (HH.out.fr ((F2.out.trans F3.out).trans ((Fr.refl.alloc _).trans F4.out))) hw HS.out HC2.out ⟨X, E⟩ ⟨HFW.out.1, HFW.out.2, hXE⟩).mono ?_
          rintro e w4 ⟨rfl, hfr⟩
          obtain ⟨r, hr⟩ : ∃ r, wrongL p.funcs.length p.tables.length x ⟨X, E⟩ c = r := ⟨_, rfl⟩
          rw [hr]
          have HRR := hid hr
          have F5 := hid (F4.out.trans hfr)
          clear hr hfr
          by_cases hr0 : r = 0
          · subst hr0
            go_wp2
            go_roundw
            case rel => exact ⟨x + 1, by simp, by omega, by omega, codeX_succ HX.out HC2.out HRR.out, F5.out⟩
            case measure => simp [intOf]; omega
          · have hr1 : ((r == 0) : Bool) = false := by simpa using hr0
            have hr2 : ((r != 0) : Bool) = true := by simpa using hr0
            have HR0 := hid hr0
            clear hr0
            go_wp2
            go_ret2
            exact checkNo (x : Int) r rfl HR0.out (fun ok => HR0.out (by rw [← HRR.out]; exact ok.2.2.2 _ (List.mem_of_getElem? HK.out) x c (by show (X : Int) ≤ x; omega) (by show (x : Int) < E; omega) HC2.out)) ((F2.out.trans F3.out).trans ((Fr.refl.alloc _).trans F5.out))
        · obtain rfl : x = E := by omega
          go_wp2
          go_roundw
          case rel => exact ⟨k + 1, by simp, by omega, codeK_succ HC.out HK.out HX.out (Int.le_refl _), F3.out.trans ((Fr.refl.alloc _).trans F4.out)⟩
          case measure => simp [intOf]; omega
    · go_wp2
      go_ret2
      exact ⟨0, 0, rfl, ⟨fun _ => ⟨HS.out, HP.out, HTB.out, codeK_all (by rw [← HNF.out, show nf = k by omega]; exact HC.out)⟩, fun _ => rfl⟩, F2.out.trans F3.out⟩
end Go.Proofs.YtocepiogpeafoaaGreatDoor
/- A domain of one goroutine, as it lies in memory. -/
namespace Go.Proofs.YtocepiogpeafoaaGreatDoor
open Go.RowKit
set_option linter.unusedVariables false
/-- where a domain's parts lie -/
structure Blk where
  g : Nat
  sl : Nat
  m : Nat
  x : Nat
  ch : Nat
  sy : Nat
  ce : Nat
  ti : Nat
  h : Nat
  pm : Nat
  ids : Nat
  own : Nat
  gsm : Nat
  vc : Value
  vf : Value
  vl : Value
  vi : Value
  vp : Value
/-- the domain's own cells -/
def domRow (D : Blk) (begun : Bool) (turn : Int) : Array Value := #[D.vc, D.vf, .slice none 0 0, .int .i64 0, .int .i64 1, D.vl, D.vi, .int .i64 0, .bool begun, .pointer (some ⟨D.sl, 0, none⟩), .map (some D.m), .pointer (some ⟨D.ch, 0, none⟩), .slice none 0 0, .pointer (some ⟨D.sy, 0, none⟩), .pointer (some ⟨D.ce, 0, none⟩), .pointer (some ⟨D.ti, 0, none⟩), D.vp, .int .u64 turn]
theorem TimNew.fr {g h m a b c : Nat} {w w' : World} {S : Nat → Prop} (t : TimNew g h m a b c w) (hf : Fr S w w') (hs : ¬ S g ∧ ¬ S h ∧ ¬ S m ∧ ¬ S a ∧ ¬ S b ∧ ¬ S c) : TimNew g h m a b c w' :=
  ⟨hf.heapAt t.obj hs.1, ⟨hf.heapAt t.heap.1 hs.2.1, hf.heapAt t.heap.2 hs.2.2.1⟩, hf.heapAt t.ids hs.2.2.2.1, hf.heapAt t.own hs.2.2.2.2.1, hf.heapAt t.gs hs.2.2.2.2.2, t.ne⟩
/-- all blocks that the domain may write -/
def Blk.all (D : Blk) (k : Nat) : Prop := k = D.g ∨ k = D.x ∨ k = D.ti ∨ k = D.h ∨ k = D.pm ∨ k = D.ids ∨ k = D.own ∨ k = D.gsm
/-- the domain but for its timers: begun, the next turn, the goroutine's cells -/
structure Dom (D : Blk) (p : Prg) (begun : Bool) (turn : Int) (xr : Array Value) (w : World) : Prop where
  obj : w.heap[D.g]? = some (.cells (domRow D begun turn) 98 (0, 0))
  map : w.heap[D.m]? = some (.map #[⟨.int .i64 0, .pointer (some ⟨D.x, 0, none⟩), 0⟩] 1)
  gor : w.heap[D.x]? = some (.cells xr 110 (0, 0))
  code : ∃ F, RowF w F 37 1 D.vc (codeC p.code)
  funcs : ∃ F, RowF w F 39 2 D.vf (fnC p.funcs)
  slice : ∃ A n c, D.vp = .slice A n c
def NewPost (p : Prg) (b : Int) (w : World) (e : Ending) (w' : World) : Prop := ∃ D : Blk, e = .returned (tup2 (.pointer (some ⟨D.g, 0, none⟩)) (.int .i64 0)) ∧ Dom D p false 1 (gorRow b) w' ∧ TimNew D.ti D.h D.pm D.ids D.own D.gsm w' ∧ (∀ k, D.all k → w.heap.size ≤ k) ∧ Fr E0 w w'
end Go.Proofs.YtocepiogpeafoaaGreatDoor
