/- The least cost of all plans, want by want, at each place of each list: it is one plan's, and no plan costs less. In plain Lean. -/
namespace Pater

/-- A want at a place of a list. -/
def ins (l : List Nat) (at_ w : Nat) : List Nat := l.take at_ ++ w :: l.drop at_

/-- The lesser one of what was found (below 0: nothing was) and a number. -/
def lesser (a n : Int) : Int := if a < 0 ∨ n < a then n else a

/-- What is found over some numbers. -/
def least (a : Int) (l : List Int) : Int := l.foldl lesser a

theorem least_le (l : List Int) : ∀ a, (∀ n, n ∈ l → 0 ≤ n) → (0 ≤ a → least a l ≤ a) ∧ (∀ n, n ∈ l → least a l ≤ n) ∧ (0 ≤ a ∨ l ≠ [] → 0 ≤ least a l) := by
  induction l with
  | nil => intro a _; exact ⟨fun _ => Int.le_refl _, by simp, by intro h; rcases h with h | h; exact h; exact absurd rfl h⟩
  | cons x l ih =>
    intro a h
    have hx := h x (by simp)
    obtain ⟨h1, h2, h3⟩ := ih (lesser a x) fun n hn => h n (by simp [hn])
    have e : least a (x :: l) = least (lesser a x) l := rfl
    have g : 0 ≤ lesser a x ∧ lesser a x ≤ x ∧ (0 ≤ a → lesser a x ≤ a) := by unfold lesser; split <;> omega
    have := h1 g.1
    refine ⟨fun ha => by have := g.2.2 ha; omega, fun n hn => ?_, fun _ => by rw [e]; exact h3 (.inl g.1)⟩
    rcases List.mem_cons.1 hn with rfl | hn
    · omega
    · rw [e]; exact h2 n hn

theorem least_mem (l : List Int) : ∀ a, (0 ≤ a ∧ least a l = a) ∨ least a l ∈ l ∨ (a < 0 ∧ l = []) := by
  induction l with
  | nil => intro a; by_cases h : 0 ≤ a; exact .inl ⟨h, rfl⟩; exact .inr (.inr ⟨by omega, rfl⟩)
  | cons x l ih =>
    intro a
    have e : least a (x :: l) = least (lesser a x) l := rfl
    rcases ih (lesser a x) with ⟨h1, h2⟩ | h | ⟨h1, h2⟩
    · rw [e, h2]; unfold lesser at h1 ⊢
      split
      · exact .inr (.inl (by simp))
      · left; omega
    · exact .inr (.inl (by rw [e]; simp [h]))
    · subst h2
      rw [e]; unfold lesser at h1 ⊢
      split
      · exact .inr (.inl (by simp [least]))
      · omega

/-- The plans with a want more than a plan, in order. -/
def put (may : Nat → Nat → Bool) (w : Nat) (p : List (List Nat)) : List (List (List Nat)) :=
  (List.range p.length).flatMap fun c => if may w c then (List.range ((p.getD c []).length + 1)).map fun k => p.set c (ins (p.getD c []) k w) else []

/-- The least cost of the plans that come of one by putting in the wants from one on: m of them. -/
def best (cost : List (List Nat) → Int) (may : Nat → Nat → Bool) : Nat → Nat → List (List Nat) → Int
  | 0, _, p => cost p
  | m + 1, w, p => least (-1) ((put may w p).map (best cost may m (w + 1)))

/-- A plan of the wants below a number. -/
structure Plan (may : Nat → Nat → Bool) (cars k : Nat) (p : List (List Nat)) : Prop where
  len : p.length = cars
  all : p.flatten.Perm (List.range k)
  mays : ∀ c (h : c < p.length) w, w ∈ p[c] → may w c = true

theorem ins_perm (l : List Nat) (k w : Nat) : (ins l k w).Perm (w :: l) := by
  unfold ins
  exact List.perm_middle.trans (by rw [List.take_append_drop])

theorem flatten_set_perm {w : Nat} : ∀ (p : List (List Nat)) (c : Nat) (l : List Nat), c < p.length → l.Perm (w :: p.getD c []) → (p.set c l).flatten.Perm (w :: p.flatten)
  | [], _, _, h, _ => by simp at h
  | q :: p, 0, l, _, h => by
    simp only [List.getD_cons_zero] at h
    simp only [List.set_cons_zero, List.flatten_cons]
    exact h.append_right _
  | q :: p, c + 1, l, hc, h => by
    simp only [List.getD_cons_succ] at h
    have := flatten_set_perm p c l (by simpa using hc) h
    simp only [List.set_cons_succ, List.flatten_cons]
    exact (this.append_left q).trans List.perm_middle

theorem put_plan {may : Nat → Nat → Bool} {cars w : Nat} {p q : List (List Nat)} (h : Plan may cars w p) (hq : q ∈ put may w p) : Plan may cars (w + 1) q := by
  unfold put at hq
  obtain ⟨c, hc, hq⟩ := List.mem_flatMap.1 hq
  have hc := List.mem_range.1 hc
  split at hq
  · rename_i hm
    obtain ⟨k, _, rfl⟩ := List.mem_map.1 hq
    refine ⟨by simp [h.len], ?_, ?_⟩
    · refine (flatten_set_perm p c _ hc (ins_perm _ k w)).trans ?_
      rw [List.range_succ]
      exact (List.Perm.cons w h.all).trans (List.perm_append_comm (l₁ := [w]))
    · intro d hd v hv
      rw [List.getElem_set] at hv
      split at hv
      · rename_i e
        subst e
        have := (ins_perm _ k w).subset hv
        rcases List.mem_cons.1 this with rfl | hv
        · exact hm
        · rw [List.getD_eq_getElem?_getD, List.getElem?_eq_getElem hc] at hv
          exact h.mays c hc v hv
      · exact h.mays d (by simpa using hd) v hv
  · simp at hq

theorem put_ne {may : Nat → Nat → Bool} {w : Nat} {p : List (List Nat)} {c : Nat} (hc : c < p.length) (hm : may w c = true) : put may w p ≠ [] := by
  intro e
  have : p.set c (ins (p.getD c []) 0 w) ∈ put may w p := by
    unfold put
    refine List.mem_flatMap.2 ⟨c, List.mem_range.2 hc, ?_⟩
    rw [if_pos hm]
    exact List.mem_map.2 ⟨0, by simp, rfl⟩
  rw [e] at this
  simp at this

/-- The least cost is one plan's. -/
theorem best_is {cost : List (List Nat) → Int} {may : Nat → Nat → Bool} {cars : Nat} (n : Nat) (hc : ∀ p, Plan may cars n p → 0 ≤ cost p) (he : ∀ w, w < n → ∃ c, c < cars ∧ may w c = true) :
    ∀ m w p, w + m = n → Plan may cars w p → ∃ q, Plan may cars n q ∧ best cost may m w p = cost q
  | 0, w, p, e, h => ⟨p, by rw [← e]; exact h, rfl⟩
  | m + 1, w, p, e, h => by
    obtain ⟨c, h1, h2⟩ := he w (by omega)
    have hne := put_ne (p := p) (by rw [h.len]; exact h1) h2
    rcases least_mem ((put may w p).map (best cost may m (w + 1))) (-1) with ⟨h3, _⟩ | h3 | ⟨_, h3⟩
    · omega
    · obtain ⟨q, hq, hb⟩ := List.mem_map.1 h3
      obtain ⟨r, hr, hb'⟩ := best_is n hc he m (w + 1) q (by omega) (put_plan h hq)
      exact ⟨r, hr, by show least _ _ = _; rw [← hb, hb']⟩
    · simp at h3; exact absurd h3 hne

/-- A plan's lists without the wants from one on. -/
def cut (k : Nat) (p : List (List Nat)) : List (List Nat) := p.map fun l => l.filter (· < k)

theorem cut_all {may : Nat → Nat → Bool} {cars n : Nat} {p : List (List Nat)} (h : Plan may cars n p) : cut n p = p := by
  have : ∀ l, l ∈ p → l.filter (· < n) = l := by
    intro l hl
    refine List.filter_eq_self.2 fun w hw => ?_
    have : w ∈ p.flatten := List.mem_flatten.2 ⟨l, hl, hw⟩
    simpa using List.mem_range.1 (h.all.subset this)
  unfold cut
  conv => rhs; rw [← List.map_id p]
  exact List.map_congr_left fun l hl => by simpa using this l hl

theorem cut_plan {may : Nat → Nat → Bool} {cars n : Nat} {p : List (List Nat)} (h : Plan may cars n p) (k : Nat) (hk : k ≤ n) : Plan may cars k (cut k p) := by
  refine ⟨by simp [cut, h.len], ?_, ?_⟩
  · have e : (cut k p).flatten = p.flatten.filter (· < k) := by
      unfold cut
      induction p with
      | nil => rfl
      | cons l p ih => simp
    rw [e]
    refine (h.all.filter _).trans ?_
    have : (List.range n).filter (· < k) = List.range k := by
      obtain ⟨d, rfl⟩ : ∃ d, n = k + d := ⟨n - k, by omega⟩
      rw [List.range_add, List.filter_append]
      have e1 : (List.range k).filter (· < k) = List.range k := List.filter_eq_self.2 fun x hx => by simpa using hx
      have e2 : ((List.range d).map (k + ·)).filter (· < k) = [] := List.filter_eq_nil_iff.2 fun x hx => by
        obtain ⟨y, _, rfl⟩ := List.mem_map.1 hx
        simp
      rw [e1, e2, List.append_nil]
    rw [this]
  · intro c hc w hw
    simp only [cut, List.getElem_map] at hw
    exact h.mays c (by simpa [cut] using hc) w (List.mem_filter.1 hw).1

/-- A list in which a want stands once is the list of the lesser ones with that want put in. -/
theorem filter_ins (k : Nat) : ∀ (l : List Nat), l.Nodup → k ∈ l → ∃ i, i ≤ (l.filter (· < k)).length ∧ l.filter (· < k + 1) = ins (l.filter (· < k)) i k
  | [], _, h => by simp at h
  | a :: l, hn, h => by
    obtain ⟨h1, h2⟩ := List.nodup_cons.1 hn
    by_cases e : a = k
    · subst e
      refine ⟨0, by omega, ?_⟩
      have : l.filter (· < a + 1) = l.filter (· < a) := by
        refine List.filter_congr fun x hx => ?_
        have : x ≠ a := fun e => h1 (e ▸ hx)
        simp; omega
      simp [ins, this]
    · obtain ⟨i, hi, hf⟩ := filter_ins k l h2 (by rcases List.mem_cons.1 h with h | h; exact absurd h.symm e; exact h)
      by_cases hl : a < k
      · refine ⟨i + 1, by simp [hl]; omega, ?_⟩
        rw [List.filter_cons_of_pos (by simp; omega), List.filter_cons_of_pos (by simpa using hl), hf]
        simp [ins]
      · refine ⟨i, by simpa [hl] using hi, ?_⟩
        rw [List.filter_cons_of_neg (by simp; omega), List.filter_cons_of_neg (by simpa using hl), hf]

theorem filter_none (k : Nat) (l : List Nat) (h : k ∉ l) : l.filter (· < k + 1) = l.filter (· < k) := by
  refine List.filter_congr fun x hx => ?_
  have : x ≠ k := fun e => h (e ▸ hx)
  simp; omega

/-- A plan's lists up to a want are those up to the one ahead, with that want put in. -/
theorem cut_put {may : Nat → Nat → Bool} {cars n : Nat} {p : List (List Nat)} (h : Plan may cars n p) (k : Nat) (hk : k < n) : cut (k + 1) p ∈ put may k (cut k p) := by
  have hnd : p.flatten.Nodup := (List.Perm.nodup_iff h.all).2 List.nodup_range
  have hin : k ∈ p.flatten := h.all.symm.subset (List.mem_range.2 hk)
  obtain ⟨l, hl, hkl⟩ := List.mem_flatten.1 hin
  obtain ⟨c, hc, rfl⟩ := List.getElem_of_mem hl
  have hpw := List.pairwise_flatten.1 hnd
  obtain ⟨i, hi, hf⟩ := filter_ins k p[c] (hpw.1 _ hl) hkl
  have hcc : (cut k p)[c]? = some (p[c].filter (· < k)) := by simp [cut, List.getElem?_eq_getElem hc]
  have hcd : (cut k p).getD c [] = p[c].filter (· < k) := by rw [List.getD_eq_getElem?_getD, hcc]; rfl
  unfold put
  refine List.mem_flatMap.2 ⟨c, List.mem_range.2 (by simpa [cut] using hc), ?_⟩
  rw [if_pos (h.mays c hc k hkl)]
  refine List.mem_map.2 ⟨i, List.mem_range.2 (by rw [hcd]; omega), ?_⟩
  rw [hcd, ← hf]
  refine List.ext_getElem (by simp [cut]) fun d h1 h2 => ?_
  rw [List.getElem_set]
  split
  · rename_i e; subst e; simp [cut]
  · rename_i e
    have hd : d < p.length := by simpa [cut] using h2
    simp only [cut, List.getElem_map]
    refine (filter_none k _ fun hkd => ?_).symm
    have := List.pairwise_iff_getElem.1 hpw.2
    rcases Nat.lt_or_gt_of_ne e with hlt | hgt
    · exact this c d hc hd hlt k hkl k hkd rfl
    · exact this d c hd hc hgt k hkd k hkl rfl

/-- No plan costs less than the least cost. -/
theorem best_le {cost : List (List Nat) → Int} {may : Nat → Nat → Bool} {cars : Nat} (n : Nat) (hc : ∀ p, Plan may cars n p → 0 ≤ cost p) (he : ∀ w, w < n → ∃ c, c < cars ∧ may w c = true)
    {q : List (List Nat)} (hq : Plan may cars n q) : ∀ m w, w + m = n → best cost may m w (cut w q) ≤ cost q
  | 0, w, e => by
    obtain rfl : w = n := by omega
    rw [cut_all hq]; exact Int.le_refl _
  | m + 1, w, e => by
    have ih := best_le n hc he hq m (w + 1) (by omega)
    have hm := cut_put hq w (by omega)
    have hp := cut_plan hq w (by omega)
    have hnn : ∀ x, x ∈ (put may w (cut w q)).map (best cost may m (w + 1)) → 0 ≤ x := by
      intro x hx
      obtain ⟨r, hr, rfl⟩ := List.mem_map.1 hx
      obtain ⟨s, hs, e⟩ := best_is n hc he m (w + 1) r (by omega) (put_plan hp hr)
      rw [e]; exact hc s hs
    have := (least_le ((put may w (cut w q)).map (best cost may m (w + 1))) (-1) hnn).2.1 _ (List.mem_map.2 ⟨_, hm, rfl⟩)
    exact Int.le_trans this ih

end Pater
