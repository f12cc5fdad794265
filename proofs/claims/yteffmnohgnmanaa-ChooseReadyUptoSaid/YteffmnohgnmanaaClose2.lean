/- (*Chans).Close of an open channel. Printed by wip/gen/close.py. -/
import Derived.Test.YteffmnohgnmanaaClose
namespace Go.Proofs.Yteffmnohgnmanaa
open Go.RowKit
set_option linter.unusedVariables false
attribute [local go_sem ↓] Go.wp_at_zero Go.wp_at_succ
/-- How many wait there, off memory. -/
def rlen (w : World) (L k j : Nat) : Nat := match w.cell? ⟨L, k * 5 + j, none⟩ with | some (.slice _ n _) => n | _ => 0
theorem rlen_rcv {w : World} {F : Nat → Prop} {g L n cp k : Nat} {l : List Ch} {c : Ch} (h : IsChV w F g (.slice (some ⟨L, 0, none⟩) n cp) l) (hk : l[k]? = some c) : rlen w L k 3 = c.rcv.length := by
  obtain ⟨ms, h1, rfl⟩ := h
  unfold chs at hk
  rw [List.getElem?_map] at hk
  obtain ⟨m, hm, rfl⟩ := Option.map_eq_some_iff.1 hk
  obtain ⟨L', cp', e0, _, c0, c1, c2, c3, c4, hfz⟩ := h1.at hm
  have ea : L = L' := by injection e0 with ea; injection ea with ea; injection ea with ea
  subst ea
  obtain ⟨A, cc, e, _⟩ := (h1.own.each m (List.mem_of_getElem? hm)).rcv.read (by decide) (wts_len _)
  unfold rlen; rw [c3, e]
theorem rlen_snd {w : World} {F : Nat → Prop} {g L n cp k : Nat} {l : List Ch} {c : Ch} (h : IsChV w F g (.slice (some ⟨L, 0, none⟩) n cp) l) (hk : l[k]? = some c) : rlen w L k 2 = c.snd.length := by
  obtain ⟨ms, h1, rfl⟩ := h
  unfold chs at hk
  rw [List.getElem?_map] at hk
  obtain ⟨m, hm, rfl⟩ := Option.map_eq_some_iff.1 hk
  obtain ⟨L', cp', e0, _, c0, c1, c2, c3, c4, hfz⟩ := h1.at hm
  have ea : L = L' := by injection e0 with ea; injection ea with ea; injection ea with ea
  subst ea
  obtain ⟨A, cc, e, _⟩ := (h1.own.each m (List.mem_of_getElem? hm)).snd.read (by decide) (wts_len _)
  unfold rlen; rw [c2, e]
theorem rlen_lt {l : List Wt} {x : Wt} {r : List Wt} (h : l = x :: r) : (wout x.s x.g l).length < l.length := by subst h; exact wout_lt
theorem close_step_rcv {W0 wr w5 w7 : World} {F : Nat → Prop} {g k M R n0 gb nn cap : Nat} {v0 wv : Value} {l : List Ch} {acc : List Wk} {c : Ch} {x : Wt} {r : List Wt} (h : CloseRel W0 wr F g v0 k M R n0 l acc wv c) (hr : c.rcv = x :: r)
    (hF : ∀ q, F q → q < R) (hRM : R < M) (hM : M < W0.heap.size) (h5 : IsChV w5 F g v0 (leaveL x.s x.g l)) (f5 : Fr F wr.drew w5) (o : Obj)
    (hown : w7.ownsRow 0 39 6 (.slice (some ⟨gb, 0, none⟩) nn cap) nn (wks acc ++ Wk.cells ⟨x.s, x.g, x.c, 0, false, 0⟩)) (hgrow : (w5.alloc o).grownBy w7 wv.ownBlock) (hat : wv.ownBlock = some gb ∨ gb = (w5.alloc o).heap.size) :
    CloseRel W0 (w7.setCell ⟨M, 4, none⟩ (.slice (some ⟨gb, 0, none⟩) nn cap)) F g v0 k M R n0 (leaveL x.s x.g l) (acc ++ [⟨x.s, x.g, x.c, 0, false, 0⟩]) (.slice (some ⟨gb, 0, none⟩) nn cap) (leaveCh x.s x.g c) := by
  have hnF : ∀ q, W0.heap.size ≤ q → ¬ F q := fun q hq hf => by have := hF q hf; omega
  have row5 : RowF w5 (New W0) 39 6 wv (wks acc) := (h.row.fr (Fr.refl (S := E0) |>.drew) (fun _ _ x => x)).fr f5 (fun q hq hf => hnF q (h.row.2 q hq) hf)
  have hs0 : W0.heap.size ≤ w5.heap.size := Nat.le_trans h.fr.size f5.size
  have gfr : Fr (fun q => wv.ownBlock = some q) (w5.alloc o) w7 := Fr.refl.grown hgrow (fun q hq => .inl hq)
  have hMF : ¬ F M := fun hf => by have := hF M hf; omega
  have hRF : ¬ F R := fun hf => by have := hF R hf; omega
  have hMv : ¬ wv.ownBlock = some M := fun e => by have : W0.heap.size ≤ M := h.row.2 M e; omega
  have hRv : ¬ wv.ownBlock = some R := fun e => by have : W0.heap.size ≤ R := h.row.2 R e; omega
  have cell7 := gfr.heapAt ((Fr.refl (S := E0) |>.alloc o).heapAt (f5.heapAt h.cell hMF) (fun x => x)) hMv
  have res7 := gfr.heapAt ((Fr.refl (S := E0) |>.alloc o).heapAt (f5.heapAt h.res hRF) (fun x => x)) hRv
  have row7 : RowF w7 (New W0) 39 6 (.slice (some ⟨gb, 0, none⟩) nn cap) (wks (acc ++ [⟨x.s, x.g, x.c, 0, false, 0⟩])) := by
    refine ⟨⟨nn, by simpa [wks] using hown⟩, fun q hq => ?_⟩
    simp [Value.ownBlock] at hq; subst hq
    rcases hat with e | e
    · exact h.row.2 _ e
    · show W0.heap.size ≤ gb; simp at e; omega
  have sfr : Fr (fun q => q = M) w7 (w7.setCell ⟨M, 4, none⟩ (.slice (some ⟨gb, 0, none⟩) nn cap)) := Fr.refl.setCell (p := ⟨M, 4, none⟩) _ (.inl rfl)
  refine ⟨?_, by simpa [leaveL] using h.len, fits_leave h.fit, ?_, ?_, ?_, ?_, ?_, ?_⟩
  · refine ((h5.fr (Fr.refl (S := E0) |>.alloc o) (fun _ _ x => x)).fr gfr (fun q hq e => ?_)).fr sfr (fun q hq e => hMF (e ▸ hq))
    exact hnF q (h.row.2 q e) hq
  · rw [leaveL_get, h.at']; rfl
  · have h1 := h.room
    have a := wout_le x.s x.g c.snd
    have b := wout_le x.s x.g c.rcv
    have e := rlen_lt hr
    simp only [leaveCh, List.length_append, List.length_singleton]
    omega
  · exact heap_setCell_same w7 M 4 _ _ _ cell7
  · rw [heap_setCell_other _ _ _ _ (by show R ≠ M; omega)]; exact res7
  · exact row7.fr sfr (fun q hq e => by have : W0.heap.size ≤ q := row7.2 q hq; omega)
  · refine Fr.trans' (T := fun q => q = M) ?_ sfr (fun q hq => .inl (.inr hq))
    refine Fr.trans' (T := fun q => wv.ownBlock = some q) ?_ gfr (fun q hq => .inr (h.row.2 q hq))
    exact ((h.fr.trans (Fr.refl.drew.trans (f5.mono (fun q hq => .inl hq)))).alloc o)
theorem close_step_snd {W0 wr w5 w7 : World} {F : Nat → Prop} {g k M R n0 gb nn cap : Nat} {v0 wv : Value} {l : List Ch} {acc : List Wk} {c : Ch} {x : Wt} {r : List Wt} (h : CloseRel W0 wr F g v0 k M R n0 l acc wv c) (hr : c.snd = x :: r)
    (hF : ∀ q, F q → q < R) (hRM : R < M) (hM : M < W0.heap.size) (h5 : IsChV w5 F g v0 (leaveL x.s x.g l)) (f5 : Fr F wr.drew w5) (o : Obj)
    (hown : w7.ownsRow 0 39 6 (.slice (some ⟨gb, 0, none⟩) nn cap) nn (wks acc ++ Wk.cells ⟨x.s, x.g, x.c, 0, false, 6⟩)) (hgrow : (w5.alloc o).grownBy w7 wv.ownBlock) (hat : wv.ownBlock = some gb ∨ gb = (w5.alloc o).heap.size) :
    CloseRel W0 (w7.setCell ⟨M, 4, none⟩ (.slice (some ⟨gb, 0, none⟩) nn cap)) F g v0 k M R n0 (leaveL x.s x.g l) (acc ++ [⟨x.s, x.g, x.c, 0, false, 6⟩]) (.slice (some ⟨gb, 0, none⟩) nn cap) (leaveCh x.s x.g c) := by
  have hnF : ∀ q, W0.heap.size ≤ q → ¬ F q := fun q hq hf => by have := hF q hf; omega
  have row5 : RowF w5 (New W0) 39 6 wv (wks acc) := (h.row.fr (Fr.refl (S := E0) |>.drew) (fun _ _ x => x)).fr f5 (fun q hq hf => hnF q (h.row.2 q hq) hf)
  have hs0 : W0.heap.size ≤ w5.heap.size := Nat.le_trans h.fr.size f5.size
  have gfr : Fr (fun q => wv.ownBlock = some q) (w5.alloc o) w7 := Fr.refl.grown hgrow (fun q hq => .inl hq)
  have hMF : ¬ F M := fun hf => by have := hF M hf; omega
  have hRF : ¬ F R := fun hf => by have := hF R hf; omega
  have hMv : ¬ wv.ownBlock = some M := fun e => by have : W0.heap.size ≤ M := h.row.2 M e; omega
  have hRv : ¬ wv.ownBlock = some R := fun e => by have : W0.heap.size ≤ R := h.row.2 R e; omega
  have cell7 := gfr.heapAt ((Fr.refl (S := E0) |>.alloc o).heapAt (f5.heapAt h.cell hMF) (fun x => x)) hMv
  have res7 := gfr.heapAt ((Fr.refl (S := E0) |>.alloc o).heapAt (f5.heapAt h.res hRF) (fun x => x)) hRv
  have row7 : RowF w7 (New W0) 39 6 (.slice (some ⟨gb, 0, none⟩) nn cap) (wks (acc ++ [⟨x.s, x.g, x.c, 0, false, 6⟩])) := by
    refine ⟨⟨nn, by simpa [wks] using hown⟩, fun q hq => ?_⟩
    simp [Value.ownBlock] at hq; subst hq
    rcases hat with e | e
    · exact h.row.2 _ e
    · show W0.heap.size ≤ gb; simp at e; omega
  have sfr : Fr (fun q => q = M) w7 (w7.setCell ⟨M, 4, none⟩ (.slice (some ⟨gb, 0, none⟩) nn cap)) := Fr.refl.setCell (p := ⟨M, 4, none⟩) _ (.inl rfl)
  refine ⟨?_, by simpa [leaveL] using h.len, fits_leave h.fit, ?_, ?_, ?_, ?_, ?_, ?_⟩
  · refine ((h5.fr (Fr.refl (S := E0) |>.alloc o) (fun _ _ x => x)).fr gfr (fun q hq e => ?_)).fr sfr (fun q hq e => hMF (e ▸ hq))
    exact hnF q (h.row.2 q e) hq
  · rw [leaveL_get, h.at']; rfl
  · have h1 := h.room
    have a := wout_le x.s x.g c.snd
    have b := wout_le x.s x.g c.rcv
    have e := rlen_lt hr
    simp only [leaveCh, List.length_append, List.length_singleton]
    omega
  · exact heap_setCell_same w7 M 4 _ _ _ cell7
  · rw [heap_setCell_other _ _ _ _ (by show R ≠ M; omega)]; exact res7
  · exact row7.fr sfr (fun q hq e => by have : W0.heap.size ≤ q := row7.2 q hq; omega)
  · refine Fr.trans' (T := fun q => q = M) ?_ sfr (fun q hq => .inl (.inr hq))
    refine Fr.trans' (T := fun q => wv.ownBlock = some q) ?_ gfr (fun q hq => .inr (h.row.2 q hq))
    exact ((h.fr.trans (Fr.refl.drew.trans (f5.mono (fun q hq => .inl hq)))).alloc o)
set_option maxHeartbeats 16000000 in
theorem close_open {w : World} {F : Nat → Prop} {g k : Nat} {v0 : Value} {ms : List CM} {m : CM} (h : Chs w F g v0 ms) (hk : ms[k]? = some m) (hcl : m.ch.cl = false) (hn : ms.length ≤ 1024) (hfit : ∀ m ∈ ms, m.ch.Fit)
    (hroom : (m.ch.rcv.length + m.ch.snd.length) * 48 ≤ 140737488355328) (l0 : List Ch) (hl0 : l0 = (chs ms).set k { m.ch with cl := true }) (la : List Ch) (ka : List Wk) (hla : wakeR l0 k [] = (la, ka)) (lb : List Ch) (kb : List Wk) (hlb : wakeS la k ka = (lb, kb)) :
    Calls Try.prog 30 #[.pointer (some ⟨g, 0, none⟩), .int .i64 ((k : Int) + 1)] w (MvPost1 F g w lb { woken := kb }) := by
  have H := hid h
  have HL0 := hid hl0
  have HLA := hid hla
  have HLB := hid hlb
  clear h hl0 hla hlb
  obtain ⟨n0, hn0⟩ : ∃ n0, n0 = m.ch.rcv.length + m.ch.snd.length := ⟨_, rfl⟩
  rw [← hn0] at hroom
  have HN0 := hid hn0
  clear hn0
  go_enter Try.func30, Try.ntmps30
  go_wp2_with fail
  generalize hW : (w.alloc (Obj.cells _ 32)) = W
  have FA := hid (show Fr E0 w W by rw [← hW]; exact Fr.refl.alloc _)
  have hWs := hid (show W.heap.size = w.heap.size + 1 by rw [← hW]; simp)
  have T1 := hid (show W.heap[w.heap.size]? = some (.cells #[Value.bool false, Value.int IntKind.i64 0, Value.bool false, Value.int IntKind.i64 0, Value.slice none 0 0] 32 (0, 0)) by rw [← hW]; exact heap_alloc_new w _)
  clear hW
  obtain ⟨L, cp, hv, hFL, _⟩ := H.out.at hk
  subst hv
  have C1 := hid (atW H.out FA.out)
  have RD := hid C1.out.rdAt
  obtain ⟨_, _, e0, _, c0, c1, c2, c3, c4, hfz⟩ := C1.out.at hk
  cases e0
  rw [hcl] at c4
  have hlk := lt_of_get hk
  have HK := hid hk
  have hfz4 := hfz (k * 5 + 4)
  clear hk hfz hcl
  refine (at_in RD.out k hlk).mono ?_
  rintro e w2 ⟨rfl, rfl⟩
  simp only [tup2, Nat.zero_add]
  go_wp2_with fail
  generalize hW0 : (W.setCell ⟨L, k * 5 + 4, none⟩ (.bool true)).alloc (Obj.cells _ 32) = W0
  have C0 := hid (show Chs W0 F g (.slice (some ⟨L, 0, none⟩) ms.length cp) (ms.set k m.setC) by rw [← hW0]; exact (C1.out.putC HK.out).fr (Fr.refl (S := E0) |>.alloc _) (fun _ _ x => x))
  have M0 := hid (show W0.heap[W.heap.size]? = some (.cells #[Value.bool false, Value.int IntKind.i64 0, Value.bool false, Value.int IntKind.i64 0, Value.slice none 0 0] 32 (0, 0)) by rw [← hW0]; have := heap_alloc_new (W.setCell ⟨L, k * 5 + 4, none⟩ (.bool true)) (.cells #[Value.bool false, Value.int IntKind.i64 0, Value.bool false, Value.int IntKind.i64 0, Value.slice none 0 0] 32); simpa using this)
  have hLw : L < w.heap.size := H.out.lt L hFL
  have hLR : w.heap.size ≠ L := by omega
  have T0 := hid (show W0.heap[w.heap.size]? = some (.cells #[Value.bool false, Value.int IntKind.i64 0, Value.bool false, Value.int IntKind.i64 0, Value.slice none 0 0] 32 (0, 0)) by rw [← hW0]; exact (Fr.refl (S := E0) |>.alloc _).heapAt ((heap_setCell_other _ _ _ _ hLR).trans T1.out) (fun x => x))
  have F0 := hid (show Fr F W W0 by rw [← hW0]; exact (Fr.refl.setCell (p := ⟨L, k * 5 + 4, none⟩) _ (.inl hFL)).alloc _)
  have hM0 := hid (heap_lt M0.out)
  have hlx : Hid (chs (ms.set k m.setC) = l0) := by show _ = _; rw [chs_set, HL0.out]; rfl
  have RL0 := hid (show CloseRel W0 W0 F g (.slice (some ⟨L, 0, none⟩) ms.length cp) k W.heap.size w.heap.size n0 l0 [] (.slice none 0 0) { m.ch with cl := true } from
    ⟨⟨_, C0.out, hlx.out⟩, by rw [← hlx.out, chs_len, List.length_set]; exact hn, by
      intro q hq
      rw [HL0.out] at hq
      rcases List.mem_or_eq_of_mem_set hq with hq | rfl
      · obtain ⟨y, hy, rfl⟩ := List.mem_map.1 hq; exact hfit y hy
      · exact hfit m (List.mem_of_getElem? HK.out), by rw [HL0.out]; exact List.getElem?_set_self (by rw [chs_len]; exact hlk), by rw [HN0.out]; simp, M0.out, T0.out, RowF.nil, Fr.refl⟩)
  clear hW0 c0 c1 c2 c3 c4 hfz4 hLw hLR
  go_loopw [32] (fun _ wr => ∃ (l : List Ch) (acc : List Wk) (wv : Value) (c : Ch), CloseRel W0 wr F g (.slice (some ⟨L, 0, none⟩) ms.length cp) k W.heap.size w.heap.size n0 l acc wv c ∧ wakeR l k acc = wakeR l0 k []) (fun _ wr => rlen wr L k 3)
  case atStart => exact ⟨l0, [], _, _, RL0.out, rfl⟩
  case round =>
    obtain ⟨l, acc, wv, c, hrel, hwk⟩ := hrel
    have HR := hid hrel
    have HW := hid hwk
    clear hrel hwk
    obtain ⟨ms', hch, hms⟩ := HR.out.ch
    have HC := hid hch
    have HMS := hid hms
    have hml : ms'.length ≤ 1024 := by have := HR.out.len; rw [← hms, chs_len] at this; exact this
    have hmf : ∀ q ∈ ms', q.ch.Fit := fun q hq => HR.out.fit _ (by rw [← hms]; exact List.mem_map.2 ⟨q, hq, rfl⟩)
    obtain ⟨m', hm', hmc⟩ : ∃ m', ms'[k]? = some m' ∧ m'.ch = c := by
      have := HR.out.at'
      rw [← hms] at this; unfold chs at this
      rw [List.getElem?_map] at this
      exact Option.map_eq_some_iff.1 this
    subst hmc
    have hmd := hch.made
    obtain ⟨L', cp', e0, _, c0, c1, c2, c3, c4, hfz⟩ := hch.at hm'
    have ea : L = L' := by injection e0 with ea; injection ea with ea; injection ea with ea
    subst ea
    clear e0 hfz hch hms
    have O1 := hid (HC.out.own.each m' (List.mem_of_getElem? hm'))
    obtain ⟨⟨i0', i1, i2, i3, i4⟩, q0, q1, q2, q3, q4⟩ := blk5 HR.out.cell
    clear i0' i1 i2 i3 q0 q1 q2 q3 c0 c1 c4
    have HMM := hid hm'
    clear hm'
    cases hr : m'.ch.rcv with
    | nil =>
      obtain ⟨A, cc, e, _⟩ := O1.out.rcv.read (by decide) (wts_len _)
      rw [e, hr] at c3
      have HRR := hid hr
      clear hr e
      have RL1 := hid HR.out
      have e1 := HW.out.trans HLA.out
      rw [wakeR_nil acc HR.out.at' HRR.out] at e1
      cases e1
      go_wp2_with fail
      clear hmd i4 q4 c2 c3 hml hmf HC HMS HMM O1 HRR HW HR
      go_loopw [51] (fun _ wr => ∃ (l : List Ch) (acc : List Wk) (wv : Value) (c : Ch), CloseRel W0 wr F g (.slice (some ⟨L, 0, none⟩) ms.length cp) k W.heap.size w.heap.size n0 l acc wv c ∧ wakeS l k acc = wakeS la k ka) (fun _ wr => rlen wr L k 2)
      case atStart => exact ⟨la, ka, _, _, RL1.out, rfl⟩
      case round =>
        obtain ⟨l, acc, wv, c, hrel, hwk⟩ := hrel
        have HR := hid hrel
        have HW := hid hwk
        clear hrel hwk
        obtain ⟨ms', hch, hms⟩ := HR.out.ch
        have HC := hid hch
        have HMS := hid hms
        have hml : ms'.length ≤ 1024 := by have := HR.out.len; rw [← hms, chs_len] at this; exact this
        have hmf : ∀ q ∈ ms', q.ch.Fit := fun q hq => HR.out.fit _ (by rw [← hms]; exact List.mem_map.2 ⟨q, hq, rfl⟩)
        obtain ⟨m', hm', hmc⟩ : ∃ m', ms'[k]? = some m' ∧ m'.ch = c := by
          have := HR.out.at'
          rw [← hms] at this; unfold chs at this
          rw [List.getElem?_map] at this
          exact Option.map_eq_some_iff.1 this
        subst hmc
        have hmd := hch.made
        obtain ⟨L', cp', e0, _, c0, c1, c2, c3, c4, hfz⟩ := hch.at hm'
        have ea : L = L' := by injection e0 with ea; injection ea with ea; injection ea with ea
        subst ea
        clear e0 hfz hch hms
        have O1 := hid (HC.out.own.each m' (List.mem_of_getElem? hm'))
        obtain ⟨⟨i0', i1, i2, i3, i4⟩, q0, q1, q2, q3, q4⟩ := blk5 HR.out.cell
        clear i0' i1 i2 i3 q0 q1 q2 q3 c0 c1 c4
        have HMM := hid hm'
        clear hm'
        cases hr : m'.ch.snd with
        | nil =>
          obtain ⟨A, cc, e, _⟩ := O1.out.snd.read (by decide) (wts_len _)
          rw [e, hr] at c2
          have HRR := hid hr
          clear hr e
          obtain ⟨Aw, nw, cw, rfl⟩ := HR.out.row.shape
          have HR2 := hid HR.out.res
          obtain ⟨⟨b0, b1, b2, b3, b4⟩, z0, z1, z2, z3, z4⟩ := blk5 HR.out.res
          obtain ⟨⟨i0, i1, i2, i3, _⟩, _⟩ := blk5 HR.out.cell
          go_wp2_with fail
          have T5 := hid (set5_heap (w := wr) HR2.out (.bool false) (.int .i64 0) (.bool false) (.int .i64 0) (.slice Aw nw cw))
          have S5 := hid (set5_fr (S := fun q => q = w.heap.size) (w := wr) (B := w.heap.size) rfl (.bool false) (.int .i64 0) (.bool false) (.int .i64 0) (.slice Aw nw cw))
          have e1 := HW.out.trans HLB.out
          rw [wakeS_nil acc HR.out.at' HRR.out] at e1
          cases e1
          refine fin30 (m := { woken := kb }) rfl rfl T5.out ⟨_, rfl, ⟨_, HR.out.row.fr S5.out (fun q hq e => ?_)⟩, ?_⟩
          · have h1 : W0.heap.size ≤ q := HR.out.row.2 q hq
            have := hM0.out; have := hWs.out; omega
          · refine (HR.out.ch.is.fr S5.out (fun q hq e => by have := H.out.lt q hq; omega)).step (fun q hq => .inl hq) ?_
            refine Fr.trans' ?_ S5.out (fun q hq => .inr (by omega))
            exact ((FA.out.e0 (S := F)).trans F0.out).trans' HR.out.fr (fun q hq => by rcases hq with hq | hq; (exact .inl hq); (exact .inr (by have := hWs.out; omega)))
        | cons x r =>
          rcases O1.out.snd.form (by decide) (wts_len _) with ⟨_, h0, _⟩ | ⟨b3, p3, hv3, _, hb3, hn3, _, hr3, _⟩
          · rw [hr] at h0; simp at h0
          obtain ⟨d0, d1, d2, d3⟩ := hr3.wt (k := 0) (x := x) (by rw [hr]; rfl)
          simp only [Nat.zero_add, Nat.zero_mul] at d0 d1 d2 d3
          have hl3 : m'.ch.snd.length = r.length + 1 := by rw [hr]; rfl
          rw [hl3] at hv3 hn3
          rw [hv3] at c2
          have HRR := hid hr
          have CD := hid (HC.out.fr (Fr.refl (S := E0) (w := wr) |>.drew) (fun _ _ x => x))
          have hroom1 : acc.length + (r.length + 1) ≤ n0 := by have := HR.out.room; rw [← hl3]; omega
          have hMF : Hid (¬ F W.heap.size) := fun hx => by have := H.out.lt _ hx; have := hWs.out; omega
          have hNF : Hid (∀ q, W0.heap.size ≤ q → ¬ F q) := fun q hq hx => by have := H.out.lt q hx; have := hM0.out; have := hWs.out; omega
          have HRow := hid HR.out.row
          obtain ⟨j0, hi0, hz0, hz1, hz2⟩ := info_parts info39
          clear hr3 hr hv3 hl3 O1
          go_wp2_with fail
          go_region_law (first
            | (refine step_append_lies _ (by rfl) (.tmp 58) (.tmp 67) 30 (by rfl) 0 39 j0 (.agg #[.int .i64 0, .int .i64 0, .int .i64 0, .int .i64 0, .bool false, .int .i64 0]) 6 48 Try.underlying30 hi0 hz0 hz1 hz2 rfl (by decide) wv acc.length (wks acc) (by rfl) (HO5.out.own (by decide) (wks_len acc)) ⟨w5.heap.size, 0, none⟩ 1 1 [.int .i64 x.s, .int .i64 x.g, .int .i64 x.c, .int .i64 0, .bool false, .int .i64 6] (by rfl) (by rfl) (news1 _ _) (by simp [Value.oneCell']) (by decide) (by unfold maxLen; omega) (by omega) (Nat.zero_le _) (w5.heap.size + 1) (by simp) ?_; intro gb cap w7 hown7 hgrow7 hat7 hlt7; have y1 : w7.cell? ⟨W.heap.size, 4, none⟩ = some wv := hgrow7.cell (by rw [World.cell?_alloc_past _ _ _ hM5.out]; exact y0) (fun e => HMV.out e.symm); have y2 : w7.frozen? ⟨W.heap.size, 4, none⟩ = false := (by rw [hgrow7.frozen_far _ (Nat.lt_of_lt_of_le hM5.out (by simp)) (fun e => HMV.out e.symm), World.frozen?_alloc_past _ _ _ hM5.out]; exact z0); have HN := hid (And.intro hown7 (And.intro hgrow7 hat7)); clear hown7 hgrow7 hat7)
            | (go_simp; go_at_call 55; refine (wake_okV CD.out x 0 false 6 hml hmf).mono ?_; rintro e w5 ⟨rfl, hl5, hf5⟩; simp only [Wk.val]; rw [HMS.out] at hl5; have M5 := hid (hf5.heapAt (w := wr.drew) HR.out.cell hMF.out); obtain ⟨⟨_, _, _, _, y0⟩, _, _, _, _, z0⟩ := blk5 M5.out; have hM5 := hid (heap_lt M5.out); have hM5v : W.heap.size < w5.heap.size := hM5.out; have HO5 := hid (((HRow.out.fr (Fr.refl (S := E0) (w := wr) |>.drew) (fun _ _ x => x)).fr hf5 (fun q hq hx => hNF.out q (HRow.out.2 q hq) hx)).fr (Fr.refl (S := E0) |>.alloc (.cells #[.int .i64 x.s, .int .i64 x.g, .int .i64 x.c, .int .i64 0, .bool false, .int .i64 6] 39)) (fun _ _ x => x)); have HMV : Hid (¬ wv.ownBlock = some W.heap.size) := (fun e => absurd (HRow.out.2 _ e) (by unfold New; have := hM0.out; omega)); have L5 := hid hl5; have F5 := hid hf5; clear hl5 hf5 d0 d1 d2 d3 c2))
          all_goals
            have ST := hid (close_step_snd HR.out HRR.out (fun q hq => H.out.lt q hq) (by rw [hWs.out]; exact Nat.lt_succ_self _) hM0.out L5.out F5.out (.cells #[.int .i64 x.s, .int .i64 x.g, .int .i64 x.c, .int .i64 0, .bool false, .int .i64 6] 39) HN.out.1 HN.out.2.1 (by rcases HN.out.2.2 with h | h; (exact .inl h); (exact .inr (by simp; exact h))))
            have HMeas : Hid (rlen (w7.setCell ⟨W.heap.size, 4, none⟩ (.slice (some ⟨gb, 0, none⟩) (acc.length + 1) cap)) L k 2 < rlen wr L k 2) := by
              show _ < _
              rw [rlen_snd ST.out.ch ST.out.at', rlen_snd HR.out.ch HR.out.at']
              exact rlen_lt HRR.out
            have HWK : Hid (wakeS (leaveL x.s x.g l) k (acc ++ [⟨x.s, x.g, x.c, 0, false, 6⟩]) = wakeS la k ka) := by
              show _ = _
              rw [← wakeS_cons acc HR.out.at' HRR.out]; exact HW.out
            go_wp2_with fail
            go_roundw
            case rel => exact ⟨_, _, _, _, ST.out, HWK.out⟩
            case measure => exact HMeas.out

    | cons x r =>
      rcases O1.out.rcv.form (by decide) (wts_len _) with ⟨_, h0, _⟩ | ⟨b3, p3, hv3, _, hb3, hn3, _, hr3, _⟩
      · rw [hr] at h0; simp at h0
      obtain ⟨d0, d1, d2, d3⟩ := hr3.wt (k := 0) (x := x) (by rw [hr]; rfl)
      simp only [Nat.zero_add, Nat.zero_mul] at d0 d1 d2 d3
      have hl3 : m'.ch.rcv.length = r.length + 1 := by rw [hr]; rfl
      rw [hl3] at hv3 hn3
      rw [hv3] at c3
      have HRR := hid hr
      have CD := hid (HC.out.fr (Fr.refl (S := E0) (w := wr) |>.drew) (fun _ _ x => x))
      have hroom1 : acc.length + (r.length + 1) ≤ n0 := by have := HR.out.room; rw [← hl3]; omega
      have hMF : Hid (¬ F W.heap.size) := fun hx => by have := H.out.lt _ hx; have := hWs.out; omega
      have hNF : Hid (∀ q, W0.heap.size ≤ q → ¬ F q) := fun q hq hx => by have := H.out.lt q hx; have := hM0.out; have := hWs.out; omega
      have HRow := hid HR.out.row
      obtain ⟨j0, hi0, hz0, hz1, hz2⟩ := info_parts info39
      clear hr3 hr hv3 hl3 O1
      go_wp2_with fail
      go_region_law (first
        | (refine step_append_lies _ (by rfl) (.tmp 39) (.tmp 48) 30 (by rfl) 0 39 j0 (.agg #[.int .i64 0, .int .i64 0, .int .i64 0, .int .i64 0, .bool false, .int .i64 0]) 6 48 Try.underlying30 hi0 hz0 hz1 hz2 rfl (by decide) wv acc.length (wks acc) (by rfl) (HO5.out.own (by decide) (wks_len acc)) ⟨w5.heap.size, 0, none⟩ 1 1 [.int .i64 x.s, .int .i64 x.g, .int .i64 x.c, .int .i64 0, .bool false, .int .i64 0] (by rfl) (by rfl) (news1 _ _) (by simp [Value.oneCell']) (by decide) (by unfold maxLen; omega) (by omega) (Nat.zero_le _) (w5.heap.size + 1) (by simp) ?_; intro gb cap w7 hown7 hgrow7 hat7 hlt7; have y1 : w7.cell? ⟨W.heap.size, 4, none⟩ = some wv := hgrow7.cell (by rw [World.cell?_alloc_past _ _ _ hM5.out]; exact y0) (fun e => HMV.out e.symm); have y2 : w7.frozen? ⟨W.heap.size, 4, none⟩ = false := (by rw [hgrow7.frozen_far _ (Nat.lt_of_lt_of_le hM5.out (by simp)) (fun e => HMV.out e.symm), World.frozen?_alloc_past _ _ _ hM5.out]; exact z0); have HN := hid (And.intro hown7 (And.intro hgrow7 hat7)); clear hown7 hgrow7 hat7)
        | (go_simp; go_at_call 55; refine (wake_okV CD.out x 0 false 0 hml hmf).mono ?_; rintro e w5 ⟨rfl, hl5, hf5⟩; simp only [Wk.val]; rw [HMS.out] at hl5; have M5 := hid (hf5.heapAt (w := wr.drew) HR.out.cell hMF.out); obtain ⟨⟨_, _, _, _, y0⟩, _, _, _, _, z0⟩ := blk5 M5.out; have hM5 := hid (heap_lt M5.out); have hM5v : W.heap.size < w5.heap.size := hM5.out; have HO5 := hid (((HRow.out.fr (Fr.refl (S := E0) (w := wr) |>.drew) (fun _ _ x => x)).fr hf5 (fun q hq hx => hNF.out q (HRow.out.2 q hq) hx)).fr (Fr.refl (S := E0) |>.alloc (.cells #[.int .i64 x.s, .int .i64 x.g, .int .i64 x.c, .int .i64 0, .bool false, .int .i64 0] 39)) (fun _ _ x => x)); have HMV : Hid (¬ wv.ownBlock = some W.heap.size) := (fun e => absurd (HRow.out.2 _ e) (by unfold New; have := hM0.out; omega)); have L5 := hid hl5; have F5 := hid hf5; clear hl5 hf5 d0 d1 d2 d3 c3))
      all_goals
        have ST := hid (close_step_rcv HR.out HRR.out (fun q hq => H.out.lt q hq) (by rw [hWs.out]; exact Nat.lt_succ_self _) hM0.out L5.out F5.out (.cells #[.int .i64 x.s, .int .i64 x.g, .int .i64 x.c, .int .i64 0, .bool false, .int .i64 0] 39) HN.out.1 HN.out.2.1 (by rcases HN.out.2.2 with h | h; (exact .inl h); (exact .inr (by simp; exact h))))
        have HMeas : Hid (rlen (w7.setCell ⟨W.heap.size, 4, none⟩ (.slice (some ⟨gb, 0, none⟩) (acc.length + 1) cap)) L k 3 < rlen wr L k 3) := by
          show _ < _
          rw [rlen_rcv ST.out.ch ST.out.at', rlen_rcv HR.out.ch HR.out.at']
          exact rlen_lt HRR.out
        have HWK : Hid (wakeR (leaveL x.s x.g l) k (acc ++ [⟨x.s, x.g, x.c, 0, false, 0⟩]) = wakeR l0 k []) := by
          show _ = _
          rw [← wakeR_cons acc HR.out.at' HRR.out]; exact HW.out
        go_wp2_with fail
        go_roundw
        case rel => exact ⟨_, _, _, _, ST.out, HWK.out⟩
        case measure => exact HMeas.out
end Go.Proofs.Yteffmnohgnmanaa
