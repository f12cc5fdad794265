/- Whom a call woke waits nowhere; the others wait as they did: the plain law. -/
import Derived.Test.YteffmnohgnmanaaS5ChooseSelects
namespace Go.Proofs.Yteffmnohgnmanaa
/-- Who waits where. -/
def whoL (l : List Ch) : List (List Wt × List Wt) := l.map fun c => (c.snd, c.rcv)
def leavesL (ws : List Wk) (l : List Ch) : List Ch := ws.foldl (fun l w => leaveL w.s w.g l) l
theorem leavesL_app (a b : List Wk) (l : List Ch) : leavesL (a ++ b) l = leavesL b (leavesL a l) := by simp [leavesL]
theorem leavesL_len (ws : List Wk) : ∀ l : List Ch, (leavesL ws l).length = l.length := by
  induction ws with
  | nil => intro l; rfl
  | cons w r ih => intro l; exact (ih _).trans (by simp [leaveL])
theorem who_leave (s g : Int) (l : List Ch) : whoL (leaveL s g l) = (whoL l).map fun p => (wout s g p.1, wout s g p.2) := by simp [whoL, leaveL, leaveCh, Function.comp_def]
theorem who_leaves {ws : List Wk} : ∀ {l l' : List Ch}, whoL l = whoL l' → whoL (leavesL ws l) = whoL (leavesL ws l') := by
  induction ws with
  | nil => intro l l' h; exact h
  | cons w r ih => intro l l' h; exact ih (by rw [who_leave, who_leave, h])
theorem who_none {s g : Int} {l : List Ch} : waitsL s g l = false ↔ ∀ p ∈ whoL l, (∀ x ∈ p.1, isG s g x = false) ∧ (∀ x ∈ p.2, isG s g x = false) := by
  unfold waitsL whoL waitsCh
  simp
theorem waits_leave (s g : Int) (l : List Ch) : waitsL s g (leaveL s g l) = false := by
  rw [who_none, who_leave]
  intro p hp
  obtain ⟨q, _, rfl⟩ := List.mem_map.1 hp
  refine ⟨fun x hx => ?_, fun x hx => ?_⟩
  · have := (List.mem_filter.1 hx).2; simpa using this
  · have := (List.mem_filter.1 hx).2; simpa using this
theorem waits_keep {s g : Int} {l : List Ch} (h : waitsL s g l = false) (s' g' : Int) : waitsL s g (leaveL s' g' l) = false := by
  rw [who_none] at h ⊢
  rw [who_leave]
  intro p hp
  obtain ⟨q, hq, rfl⟩ := List.mem_map.1 hp
  obtain ⟨h1, h2⟩ := h q hq
  exact ⟨fun x hx => h1 x (List.mem_filter.1 hx).1, fun x hx => h2 x (List.mem_filter.1 hx).1⟩
theorem waits_keeps {s g : Int} {ws : List Wk} : ∀ {l : List Ch}, waitsL s g l = false → waitsL s g (leavesL ws l) = false := by
  induction ws with
  | nil => intro l h; exact h
  | cons w r ih => intro l h; exact ih (waits_keep h _ _)
theorem waits_leaves {ws : List Wk} : ∀ {l : List Ch}, ∀ w ∈ ws, waitsL w.s w.g (leavesL ws l) = false := by
  induction ws with
  | nil => intro l w hw; simp at hw
  | cons y r ih =>
    intro l w hw
    rcases List.mem_cons.1 hw with rfl | hw
    · show waitsL w.s w.g (leavesL r (leaveL w.s w.g l)) = false
      exact waits_keeps (waits_leave _ _ _)
    · exact ih w hw
/-- What ChannelWakes asks. -/
structure WakesOK (l l' : List Ch) (ws : List Wk) : Prop where
  len : l'.length = l.length
  waits : ∀ w ∈ ws, waitsL w.s w.g l' = false
  beg : ∀ (i : Nat) (c c' : Ch), (leavesL ws l)[i]? = some c → l'[i]? = some c' → (∃ r, c'.snd = c.snd ++ r ∧ r.length ≤ 1) ∧ ∃ r, c'.rcv = c.rcv ++ r ∧ r.length ≤ 1
theorem wakes_who {l l' : List Ch} {ws : List Wk} (h : whoL l' = whoL (leavesL ws l)) (hw : ∀ w ∈ ws, waitsL w.s w.g l' = false) : WakesOK l l' ws := by
  refine ⟨?_, hw, fun i c c' hc hc' => ?_⟩
  · have := congrArg List.length h
    simp only [whoL, List.length_map] at this
    rw [this, leavesL_len]
  · have h1 : (whoL l')[i]? = some (c'.snd, c'.rcv) := by simp [whoL, hc']
    have h2 : (whoL (leavesL ws l))[i]? = some (c.snd, c.rcv) := by simp [whoL, hc]
    rw [h, h2] at h1
    simp at h1
    exact ⟨⟨[], by simp [h1.1], by simp⟩, ⟨[], by simp [h1.2], by simp⟩⟩
theorem wakes_same (l : List Ch) : WakesOK l l [] := wakes_who rfl (fun w hw => by simp at hw)
theorem wakes_leaves (l : List Ch) (ws : List Wk) : WakesOK l (leavesL ws l) ws := wakes_who rfl waits_leaves
theorem wakes_set {l : List Ch} {k : Nat} {c q : Ch} (hk : l[k]? = some c) {r1 r2 : List Wt} (h1 : q.snd = c.snd ++ r1) (h2 : q.rcv = c.rcv ++ r2) (l1 : r1.length ≤ 1) (l2 : r2.length ≤ 1) : WakesOK l (l.set k q) [] := by
  refine ⟨by simp, fun w hw => by simp at hw, fun i a a' ha ha' => ?_⟩
  have ha : l[i]? = some a := ha
  by_cases e : i = k
  · subst e
    rw [hk] at ha; cases ha
    rw [List.getElem?_set_self (lt_of_get hk)] at ha'; cases ha'
    exact ⟨⟨r1, h1, l1⟩, ⟨r2, h2, l2⟩⟩
  · rw [List.getElem?_set_ne (fun x => e x.symm), ha] at ha'; cases ha'
    exact ⟨⟨[], by simp, by simp⟩, ⟨[], by simp, by simp⟩⟩
theorem who_set {l : List Ch} {k : Nat} {c q : Ch} (hk : l[k]? = some c) (h1 : q.snd = c.snd) (h2 : q.rcv = c.rcv) : whoL (l.set k q) = whoL l := by
  unfold whoL
  rw [List.map_set, h1, h2]
  refine List.ext_getElem? fun i => ?_
  by_cases e : i = k
  · subst e
    rw [List.getElem?_set_self (by simpa using lt_of_get hk)]; simp [hk]
  · rw [List.getElem?_set_ne (fun x => e x.symm)]
theorem wakes_send (l : List Ch) (ch gs gg v : Int) : WakesOK l (sendL l ch gs gg v).1 (sendL l ch gs gg v).2.1.woken := by
  unfold sendL
  split
  · exact wakes_same l
  split
  · exact wakes_same l
  split
  · exact wakes_same l
  rename_i c hc
  obtain ⟨k, rfl, hk⟩ := getC_k hc
  split
  · exact wakes_same l
  split
  · rename_i x r hr; exact wakes_leaves l [⟨x.s, x.g, x.c, v, true, 0⟩]
  split
  · simp only [setK_k]; exact wakes_set hk (r1 := []) (r2 := []) (by simp) (by simp) (by simp) (by simp)
  · simp only [setK_k]; exact wakes_set hk (r1 := [⟨gs, gg, 0, v⟩]) (r2 := []) (by simp) (by simp) (by simp) (by simp)
theorem wakes_recv (l : List Ch) (ch gs gg : Int) : WakesOK l (recvL l ch gs gg).1 (recvL l ch gs gg).2.1.woken := by
  unfold recvL
  split
  · exact wakes_same l
  split
  · exact wakes_same l
  split
  · exact wakes_same l
  rename_i c hc
  obtain ⟨k, rfl, hk⟩ := getC_k hc
  split
  · rename_i v vs hv
    split
    · simp only [setK_k]; exact wakes_set hk (r1 := []) (r2 := []) (by simp) (by simp) (by simp) (by simp)
    · rename_i x r hs
      simp only [setK_k]
      refine wakes_who ?_ (fun w hw => ?_)
      · show whoL (leavesL [⟨x.s, x.g, x.c, 0, true, 0⟩] _) = _
        exact who_leaves (who_set hk rfl rfl)
      · simp at hw; subst hw; exact waits_leave _ _ _
  · split
    · rename_i x r hs; exact wakes_leaves l [⟨x.s, x.g, x.c, 0, true, 0⟩]
    · split
      · exact wakes_same l
      · simp only [setK_k]; exact wakes_set hk (r1 := []) (r2 := [⟨gs, gg, 0, 0⟩]) (by simp) (by simp) (by simp) (by simp)
theorem wakeR_leaves {k : Nat} : ∀ (n : Nat) (l : List Ch) (acc : List Wk), (match l[k]? with | some c => c.rcv.length | none => 0) ≤ n → ∃ ws, wakeR l k acc = (leavesL ws l, acc ++ ws) := by
  intro n
  induction n with
  | zero =>
    intro l acc hn
    cases hc : l[k]? with
    | none => exact ⟨[], by rw [wakeR]; split; (simp [leavesL]); (rename_i h'; rw [hc] at h'; cases h')⟩
    | some c =>
      rw [hc] at hn
      have h0 := List.eq_nil_of_length_eq_zero (l := c.rcv) (by simpa using hn)
      exact ⟨[], by rw [wakeR_nil acc hc h0]; simp [leavesL]⟩
  | succ n ih =>
    intro l acc hn
    cases hc : l[k]? with
    | none => exact ⟨[], by rw [wakeR]; split; (simp [leavesL]); (rename_i h'; rw [hc] at h'; cases h')⟩
    | some c =>
      cases hr : c.rcv with
      | nil => exact ⟨[], by rw [wakeR_nil acc hc hr]; simp [leavesL]⟩
      | cons x r =>
        rw [wakeR_cons acc hc hr]
        obtain ⟨ws, hws⟩ := ih (leaveL x.s x.g l) (acc ++ [⟨x.s, x.g, x.c, 0, false, 0⟩]) (by
          rw [leaveL_get, hc]
          rw [hc] at hn
          have := rlen_lt hr
          simp only [Option.map_some, leaveCh] at hn ⊢
          omega)
        exact ⟨⟨x.s, x.g, x.c, 0, false, 0⟩ :: ws, by rw [hws]; simp [leavesL]⟩
theorem wakeS_leaves {k : Nat} : ∀ (n : Nat) (l : List Ch) (acc : List Wk), (match l[k]? with | some c => c.snd.length | none => 0) ≤ n → ∃ ws, wakeS l k acc = (leavesL ws l, acc ++ ws) := by
  intro n
  induction n with
  | zero =>
    intro l acc hn
    cases hc : l[k]? with
    | none => exact ⟨[], by rw [wakeS]; split; (simp [leavesL]); (rename_i h'; rw [hc] at h'; cases h')⟩
    | some c =>
      rw [hc] at hn
      have h0 := List.eq_nil_of_length_eq_zero (l := c.snd) (by simpa using hn)
      exact ⟨[], by rw [wakeS_nil acc hc h0]; simp [leavesL]⟩
  | succ n ih =>
    intro l acc hn
    cases hc : l[k]? with
    | none => exact ⟨[], by rw [wakeS]; split; (simp [leavesL]); (rename_i h'; rw [hc] at h'; cases h')⟩
    | some c =>
      cases hr : c.snd with
      | nil => exact ⟨[], by rw [wakeS_nil acc hc hr]; simp [leavesL]⟩
      | cons x r =>
        rw [wakeS_cons acc hc hr]
        obtain ⟨ws, hws⟩ := ih (leaveL x.s x.g l) (acc ++ [⟨x.s, x.g, x.c, 0, false, 6⟩]) (by
          rw [leaveL_get, hc]
          rw [hc] at hn
          have := rlen_lt hr
          simp only [Option.map_some, leaveCh] at hn ⊢
          omega)
        exact ⟨⟨x.s, x.g, x.c, 0, false, 6⟩ :: ws, by rw [hws]; simp [leavesL]⟩
theorem wakes_close (l : List Ch) (ch : Int) : WakesOK l (closeL l ch).1 (closeL l ch).2.woken := by
  unfold closeL
  split
  · exact wakes_same l
  split
  · exact wakes_same l
  rename_i c hc
  obtain ⟨k, rfl, hk⟩ := getC_k hc
  split
  · exact wakes_same l
  · have ek : ((k : Int) + 1 - 1).toNat = k := by omega
    simp only [ek, setK_k]
    obtain ⟨ws, h1⟩ := wakeR_leaves _ (l.set k { c with cl := true }) [] (Nat.le_refl _)
    obtain ⟨us, h2⟩ := wakeS_leaves _ (wakeR (l.set k { c with cl := true }) k []).1 (wakeR (l.set k { c with cl := true }) k []).2 (Nat.le_refl _)
    rw [h2, h1]
    simp only [List.nil_append]
    rw [← leavesL_app]
    exact wakes_who (who_leaves (who_set hk rfl rfl)) waits_leaves
end Go.Proofs.Yteffmnohgnmanaa
