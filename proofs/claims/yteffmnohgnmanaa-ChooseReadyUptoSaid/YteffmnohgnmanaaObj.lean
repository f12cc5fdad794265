/- The object: what (*Chans) keeps; New, Make. -/
import Derived.Test.YteffmnohgnmanaaState
import Derived.Test.YteffmnohgnmanaaGoes
namespace Go.Proofs.Yteffmnohgnmanaa
open Go.RowKit
structure Chs (w : World) (F : Nat → Prop) (g : Nat) (v : Value) (ms : List CM) : Prop where
  obj : w.heap[g]? = some (.cells #[.bool true, v] 108 (0, 0))
  mine : F g
  lt : ∀ k, F k → k < w.heap.size
  own : OwnCs w F v ms
/-- The channels l, kept at g, in blocks of F. -/
def IsCh (w : World) (F : Nat → Prop) (g : Nat) (l : List Ch) : Prop := ∃ v ms, Chs w F g v ms ∧ chs ms = l
/-- A call that turns the channels at g into l': blocks of F and new ones. -/
def Step (F : Nat → Prop) (g : Nat) (w : World) (l' : List Ch) (w' : World) : Prop := ∃ F' : Nat → Prop, IsCh w' F' g l' ∧ (∀ k, F' k → F k ∨ w.heap.size ≤ k) ∧ Fr F w w'
namespace Chs
variable {w w' : World} {F S : Nat → Prop} {g : Nat} {v : Value} {ms : List CM}
theorem fr (h : Chs w F g v ms) (hf : Fr S w w') (hs : ∀ k, F k → ¬ S k) : Chs w' F g v ms :=
  ⟨hf.heapAt h.obj (hs g h.mine), h.mine, fun k hk => Nat.lt_of_lt_of_le (h.lt k hk) hf.size, h.own.fr hf hs⟩
theorem made (h : Chs w F g v ms) : w.cell? ⟨g, 0, none⟩ = some (.bool true) := cell_of_row w g 0 _ _ _ h.obj
theorem list (h : Chs w F g v ms) : w.cell? ⟨g, 1, none⟩ = some v := cell_of_row w g 1 _ _ _ h.obj
theorem free (h : Chs w F g v ms) (j : Nat) : w.frozen? ⟨g, j, none⟩ = false := frozen_of_row w g j _ _ h.obj
theorem rd (h : Chs w F g v ms) : ∃ A c, v = .slice A ms.length c ∧ RdCh w g A c ms := by
  obtain ⟨A, c, hv, h3, h4, h5⟩ := h.own.row.read (by decide) (cms_len ms)
  exact ⟨A, c, hv, h.made, hv ▸ h.list, Nat.le_trans h3 h4, h5, fun m hm => (h.own.each m hm).rd⟩
end Chs
theorem OwnCs.setOther {w : World} {F : Nat → Prop} {v u : Value} {ms : List CM} {g j : Nat} {cur : Array Value} {fr : Nat × Nat} (h : OwnCs w F v ms) (ho : w.heap[g]? = some (.cells cur 108 fr)) : OwnCs (w.setCell ⟨g, j, none⟩ u) F v ms := by
  have hs : ∀ k, k ≠ g → (w.setCell ⟨g, j, none⟩ u).heap[k]? = w.heap[k]? := fun k hk => heap_setCell_other _ _ _ _ hk
  refine ⟨h.row.same (fun k hk => hs k ?_), fun m hm => (h.each m hm).same (fun k hk => hs k ?_), h.apart⟩
  · rintro rfl
    obtain ⟨c, hc⟩ := h.row.heap hk
    rw [ho] at hc; injection hc with hc; injection hc with _ hc _; exact absurd hc (by decide)
  · rintro rfl
    have hm' := h.each m hm
    simp only [CM.blocks, List.mem_append, Option.mem_toList] at hk
    rcases hk with hk | hk | hk
    · obtain ⟨c, hc⟩ := hm'.vals.heap hk
      rw [ho] at hc; injection hc with hc; injection hc with _ hc _; exact absurd hc (by decide)
    · obtain ⟨c, hc⟩ := hm'.snd.heap hk
      rw [ho] at hc; injection hc with hc; injection hc with _ hc _; exact absurd hc (by decide)
    · obtain ⟨c, hc⟩ := hm'.rcv.heap hk
      rw [ho] at hc; injection hc with hc; injection hc with _ hc _; exact absurd hc (by decide)
theorem OwnCs.restrict {w : World} {F : Nat → Prop} {v : Value} {ms : List CM} (h : OwnCs w F v ms) : OwnCs w (fun k => F k ∧ k < w.heap.size) v ms :=
  ⟨⟨h.row.1, fun k hk => ⟨h.row.2 k hk, h.row.lt hk⟩⟩, fun m hm => ⟨⟨(h.each m hm).vals.1, fun k hk => ⟨(h.each m hm).vals.2 k hk, (h.each m hm).vals.lt hk⟩⟩, ⟨(h.each m hm).snd.1, fun k hk => ⟨(h.each m hm).snd.2 k hk, (h.each m hm).snd.lt hk⟩⟩, ⟨(h.each m hm).rcv.1, fun k hk => ⟨(h.each m hm).rcv.2 k hk, (h.each m hm).rcv.lt hk⟩⟩⟩, h.apart⟩
def NewPost (w : World) (e : Ending) (w' : World) : Prop := ∃ g, e = .returned (.pointer (some ⟨g, 0, none⟩)) ∧ IsCh w' (fun k => w.heap.size ≤ k ∧ k < w'.heap.size) g [] ∧ Fr E0 w w'
theorem new_ok (w : World) : Calls Try.prog 20 #[] w (NewPost w) := by
  have H : NewPost w (.returned (.pointer (some ⟨w.heap.size, 0, none⟩))) (w.alloc (.cells #[.bool true, .slice none 0 0] 108)) :=
    ⟨w.heap.size, rfl, ⟨.slice none 0 0, [], ⟨heap_alloc_new w _, ⟨Nat.le_refl _, by simp⟩, fun k hk => hk.2, OwnCs.nil⟩, rfl⟩, Fr.refl.alloc _⟩
  have HH := hid H
  clear H
  go_enter Try.func20, Try.ntmps20
  go_wp2
  go_ret
  exact HH.out
/-- Make, as plain data. -/
def makeNo (l : List Ch) (c : Int) : Bool := decide (c < 0) || (decide (1024 < c) || decide (1024 ≤ l.length))
def newCh (c : Int) : Ch := ⟨c, [], [], [], false⟩
theorem make_none (c : Int) (w : World) : Calls Try.prog 22 #[.pointer none, .int .i64 c] w fun e w' => e = .returned (tup2 (.int .i64 0) (.int .i64 4)) ∧ w = w' := by
  go_enter Try.func22, Try.ntmps22
  go_wp2
  go_ret2
  exact ⟨rfl, rfl⟩
def MakePost (F : Nat → Prop) (g : Nat) (l : List Ch) (c : Int) (w : World) (e : Ending) (w' : World) : Prop := e = .returned (tup2 (.int .i64 (l.length + 1)) (.int .i64 0)) ∧ Step F g w (l ++ [newCh c]) w'
theorem hatOf {v : Value} {g n c H H' : Nat} (h : v.ownBlock = some g ∨ g = H) (e : H = H') : (Value.slice (some ⟨g, 0, none⟩) n c).ownBlock = v.ownBlock ∨ (Value.slice (some ⟨g, 0, none⟩) n c).ownBlock = some H' := by
  rcases h with h | h
  · exact .inl h.symm
  · subst h e; exact .inr rfl
theorem pushNew {w w1 : World} {F : Nat → Prop} {g n : Nat} {v v' : Value} {ms : List CM} {c : Int} (h : Chs w F g v ms) (o : Obj) (hrow : w1.ownsRow 0 67 5 v' n (ms.flatMap CM.cells ++ [.int .i64 c, .slice none 0 0, .slice none 0 0, .slice none 0 0, .bool false]))
    (hg : (w.alloc o).grownBy w1 v.ownBlock) (hat : v'.ownBlock = v.ownBlock ∨ v'.ownBlock = some (w.alloc o).heap.size) : Step F g w (chs ms ++ [newCh c]) (w1.setCell ⟨g, 1, none⟩ v') := by
  have h0 := h.fr (Fr.refl (S := E0) |>.alloc o) (fun _ _ x => x)
  have hgl : g < w.heap.size := h.lt g h.mine
  have hng : v.ownBlock ≠ some g := by
    intro hx
    obtain ⟨cur, hc⟩ := h.own.row.heap hx
    rw [h.obj] at hc; injection hc with hc; injection hc with _ hc _; exact absurd hc (by decide)
  have hobj1 : w1.heap[g]? = some (.cells #[.bool true, v] 108 (0, 0)) := by
    rw [hg.block g (by simp; omega) (fun hx => hng hx.symm)]; exact h0.obj
  have hown : OwnCs w1 (fun k => F k ∨ w.heap.size ≤ k) v' (ms ++ [⟨newCh c, .slice none 0 0, .slice none 0 0, .slice none 0 0⟩]) :=
    (h0.own.mono (F' := fun k => F k ∨ w.heap.size ≤ k) (fun k hk => .inl hk)).push ⟨RowF.nil, RowF.nil, RowF.nil⟩ (by simp [CM.blocks, Value.ownBlock]) (fun k hk => by simp [CM.blocks, Value.ownBlock] at hk) hrow hg hat (.inr (by simp))
  have hgs := hg.size
  simp at hgs
  refine ⟨fun k => (F k ∨ w.heap.size ≤ k) ∧ k < w1.heap.size, ⟨v', _, ⟨?_, ⟨.inl h.mine, by omega⟩, fun k hk => by simpa using hk.2, hown.restrict.setOther hobj1⟩, by rw [chs_push]⟩, fun k hk => hk.1, ?_⟩
  · exact heap_setCell_same w1 g 1 _ _ v' hobj1
  · exact (((Fr.refl (S := F) (w := w)).alloc o).grown hg (fun k hk => .inl (h.own.row.2 k hk))).setCell (p := ⟨g, 1, none⟩) v' (.inl h.mine)
set_option maxHeartbeats 1000000 in
theorem make_no {w : World} {F : Nat → Prop} {g : Nat} {v : Value} {ms : List CM} (h : Chs w F g v ms) (c : Int) (hn : ms.length ≤ 1024) (hno : makeNo (chs ms) c = true) :
    Calls Try.prog 22 #[.pointer (some ⟨g, 0, none⟩), .int .i64 c] w fun e w' => e = .returned (tup2 (.int .i64 0) (.int .i64 5)) ∧ w = w' := by
  obtain ⟨A, cp, hv, hrd⟩ := h.rd
  have hm := h.made
  have hl := h.list
  rw [hv] at hl
  by_cases h1 : c < 0
  · clear hrd hno h
    go_enter Try.func22, Try.ntmps22
    go_wp2
    go_ret2
    exact ⟨rfl, rfl⟩
  by_cases h2 : 1024 < c
  · clear hrd hno h
    go_enter Try.func22, Try.ntmps22
    go_wp2
    go_ret2
    exact ⟨rfl, rfl⟩
  have h3 : ms.length = 1024 := by simp [makeNo, h1, h2, chs_len] at hno; omega
  rw [h3] at hl
  clear hrd hno h
  go_enter Try.func22, Try.ntmps22
  go_wp2
  go_ret2
  exact ⟨rfl, rfl⟩
set_option maxHeartbeats 1000000 in
theorem make_ok {w : World} {F : Nat → Prop} {g : Nat} {v : Value} {ms : List CM} (h : Chs w F g v ms) (c : Int) (hn : ms.length ≤ 1024) (hno : makeNo (chs ms) c = false) :
    Calls Try.prog 22 #[.pointer (some ⟨g, 0, none⟩), .int .i64 c] w (MakePost F g (chs ms) c w) := by
  obtain ⟨A, cp, hv, hrd⟩ := h.rd
  have hm := h.made
  have hl := h.list
  rw [hv] at hl
  have h1 : ¬ c < 0 := fun x => by simp [makeNo, x] at hno
  have h2 : ¬ 1024 < c := fun x => by simp [makeNo, x] at hno
  have h3 : ¬ ms.length = 1024 := fun x => by simp [makeNo, x, chs_len] at hno
  clear hno
  obtain ⟨i0, hi0, hz0, hz1, hz2⟩ := info_parts info67
  have h4 : ¬ ((ms.length : Int) == 1024) = true := by simp; omega
  have h4' : ((ms.length : Int) == 1024) = false := by simp; omega
  have hf := h.free 1
  have H := hid h
  have h0 := hid (h.own.fr (Fr.refl (S := E0) |>.alloc (.cells #[.int .i64 c, .slice none 0 0, .slice none 0 0, .slice none 0 0, .bool false] 67)) (fun _ _ x => x))
  have hgl : g < w.heap.size := h.lt g h.mine
  have hng : (Value.slice A ms.length cp).ownBlock ≠ some g := by
    intro hx
    obtain ⟨cur, hc⟩ := h.own.row.heap (hv ▸ hx)
    rw [h.obj] at hc; injection hc with hc; injection hc with _ hc _; exact absurd hc (by decide)
  subst hv
  clear h hrd h4
  go_enter Try.func22, Try.ntmps22
  go_wp2_with (first
    | (go_at_call 53; go_in)
    | (at_builtin; (refine wpList_append_lies _ rfl (.tmp 29) (.tmp 32) 52 rfl 0 67 i0 (.agg #[.int .i64 0, .slice none 0 0, .slice none 0 0, .slice none 0 0, .bool false]) 5 88 Try.underlying52 hi0 hz0 hz1 hz2 rfl (by decide) (.slice A ms.length cp) ms.length (ms.flatMap CM.cells) rfl (h0.out.row.own (by decide) (cms_len ms)) ⟨w.heap.size, 0, none⟩ 1 1 [.int .i64 c, .slice none 0 0, .slice none 0 0, .slice none 0 0, .bool false] rfl rfl (World.news_of_block (heap_alloc_new w _)) (by simp [Value.oneCell']) (by decide) (by unfold maxLen; omega) (by omega) (Nat.zero_le _) (w.heap.size + 1) (by simp) ?_); intro gg cap w2 hown2 hgrow2 hat2 hlt2; have x1 : w2.cell? ⟨g, 1, none⟩ = some (.slice A ms.length cp) := hgrow2.cell (by rw [World.cell?_alloc_past _ _ _ hgl]; exact hl) (fun e => hng e.symm); have x2 : w2.frozen? ⟨g, 1, none⟩ = false := (by rw [hgrow2.frozen_far _ (Nat.lt_of_lt_of_le hgl (by simp)) (fun e => hng e.symm), World.frozen?_alloc_past _ _ _ hgl]; exact hf); have HS := hid (pushNew H.out _ hown2 hgrow2 (hatOf hat2 (by simp))); clear hown2 hgrow2 hat2))
  go_ret2
  exact ⟨by rw [chs_len]; rfl, HS.out⟩
end Go.Proofs.Yteffmnohgnmanaa
