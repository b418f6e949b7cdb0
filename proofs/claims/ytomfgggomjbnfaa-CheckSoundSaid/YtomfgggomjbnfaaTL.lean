/- What the best of all plans costs, if marks show that no plan costs less than one. -/
import Derived.Test.YtomfgggomjbnfaaTK
set_option linter.unusedVariables false
namespace Go.Proofs.Ytomfgggomjbnfaa
open Go.RowKit Go.Sep
theorem mays_of {may : Nat → Nat → Prop} : ∀ (ls : List (List Nat)) (c : Nat), (∀ i (hi : i < ls.length) w, w ∈ ls[i] → may w (c + i)) → Pater.Mays may c ls
  | [], _, _ => trivial
  | l :: ls, c, h => ⟨fun w hw => by have := h 0 (by simp) w (by simpa using hw); simpa using this, mays_of ls (c + 1) fun i hi w hw => by
      have := h (i + 1) (by simpa using hi) w (by simpa using hw)
      rw [show c + 1 + i = c + (i + 1) by omega]; exact this⟩
theorem incs_nn {T : Int → Int → Int} {sv : Int} (ht : Pater.Trav T) (hs : 0 ≤ sv) (fl : Nat → Int) : ∀ (ds : List Pater.Dr) (ls : List (List Nat)), (∀ d, d ∈ ds → d.Ok) → 0 ≤ Pater.incs T sv fl ds ls
  | [], [], _ => by simp [Pater.incs]
  | [], _ :: _, _ => by simp [Pater.incs]
  | _ :: _, [], _ => by simp [Pater.incs]
  | d :: ds, l :: ls, h => by
    have h1 := Pater.Dr.inc_nn (fl := fl) ht hs l (h d (by simp))
    have h2 := incs_nn ht hs fl ds ls fun d' hd => h d' (by simp [hd])
    simp only [Pater.incs]; omega
theorem plan_lt {s : Snap} {q : List (List Nat)} (h : Pater.Plan (mayS s) s.cars.length s.wants.length q) : ∀ l, l ∈ q → ∀ w, w ∈ l → w < s.wants.length :=
  fun l hl w hw => List.mem_range.1 (h.all.subset (List.mem_flatten.2 ⟨l, hl, hw⟩))
theorem cost_incs {s : Snap} (hr : rightB s = true) {q : List (List Nat)} (h : Pater.Plan (mayS s) s.cars.length s.wants.length q) :
    costS s q = Pater.incs (tfl s.site) (svS s.site) (fS s) ((s.cars.map Drv.of).map Drv.dr) q := by
  have h9 := (right_cars hr).2.2.2.2.2.1
  show costR s (toI q) = _
  rw [cost_price (feas_plan hr h)]
  unfold priceF
  exact price_incs hr _ q (fun d hd => by obtain ⟨r, h1, rfl⟩ := List.mem_map.1 hd; exact ⟨(h9 r h1).1, rfl⟩) (plan_lt h)
theorem sumTot_of (l : List Ready) : sumTot (l.map Drv.of) = 0 := by
  induction l with
  | nil => rfl
  | cons r l ih => show (0 : Int) + sumTot (l.map Drv.of) = 0; rw [ih]; rfl
def toN (p : List (List Int)) : List (List Nat) := p.map fun l => l.map Int.toNat
theorem toI_toN {p : List (List Int)} (h : ∀ w, w ∈ p.flatten → 0 ≤ w) : toI (toN p) = p := by
  unfold toI toN
  rw [List.map_map]
  conv => rhs; rw [← List.map_id p]
  apply List.map_congr_left
  intro l hl
  show (l.map Int.toNat).map (fun (x : Nat) => (x : Int)) = l
  rw [List.map_map]
  conv => rhs; rw [← List.map_id l]
  apply List.map_congr_left
  intro w hw
  have := h w (List.mem_flatten.2 ⟨l, hl, hw⟩)
  show ((w.toNat : Nat) : Int) = w
  omega
theorem plan_of {s : Snap} {p : List (List Int)} (h : Feas s p) : Pater.Plan (mayS s) s.cars.length s.wants.length (toN p) ∧ toI (toN p) = p := by
  have hn := feas_nodup h
  have e := toI_toN fun w hw => (hn.2 w hw).1
  refine ⟨⟨by unfold toN; rw [List.length_map]; exact h.len, ?_, fun c hc w hw => ?_⟩, e⟩
  · refine List.perm_iff_count.2 fun n => ?_
    have hc : (toN p).flatten.count n = p.flatten.count (n : Int) := by
      conv => rhs; rw [← e, flat_toI, count_cast]
    rw [hc]
    by_cases hw : n < s.wants.length
    · rw [h.once n hw, count_range _ _ hw]
    · rw [List.count_eq_zero_of_not_mem (fun hm => by have := (hn.2 _ hm).2; omega), List.count_eq_zero_of_not_mem (fun hm => hw (List.mem_range.1 hm))]
  · unfold toN at hc hw
    rw [List.length_map] at hc
    rw [List.getElem_map] at hw
    obtain ⟨x, hx, rfl⟩ := List.mem_map.1 hw
    exact (h.may c hc x hx).2.2
theorem best_cost {s : Snap} {p : List (List Int)} (h : Feas s p) (ms : List Int) (hc : covF s (priceF s p) ms [Pl.root s] = true) : bestR s = priceF s p := by
  have hr := h.right
  have hs := (right_cars hr).1
  have hc1 := (right_cars hr).2.2.1
  have hok : (Pl.root s).Ok s := Pl.root_ok s (by omega) fun r hr' => ((right_cars hr).2.2.2.2.2.1 r hr').2
  have hdone := cov_done hr _ ms _ hc (fun q hq => by rw [List.mem_singleton.1 hq]; exact ⟨hok, root_in hr⟩) (Pl.root s) (by simp)
  have hge : ∀ q, Pater.Plan (mayS s) s.cars.length s.wants.length q → priceF s p ≤ costS s q := by
    intro q hq
    have h1 : priceF s p ≤ sumTot (s.cars.map Drv.of) + Pater.incs (tfl s.site) (svS s.site) (fS s) (((s.cars.map Drv.of).map Drv.dr).drop 0) q :=
      hdone q (by show q.length = ((s.cars.map Drv.of).map Drv.dr).length - 0; rw [hq.len]; simp) hq.all (mays_of q 0 fun i hi w hw => by rw [Nat.zero_add]; exact hq.mays i hi w hw)
    rw [List.drop_zero, ← cost_incs hr hq, sumTot_of] at h1
    omega
  have hnn : ∀ q, Pater.Plan (mayS s) s.cars.length s.wants.length q → 0 ≤ costS s q := by
    intro q hq
    rw [cost_incs hr hq]
    refine incs_nn (trav hs) (sv_nn hs) _ _ _ fun d hd => ?_
    obtain ⟨d', h1, rfl⟩ := List.mem_map.1 hd
    exact (root_in hr).ok d' h1
  obtain ⟨hp, he⟩ := plan_of h
  have hcp : costS s (toN p) = priceF s p := by
    show costR s (toI (toN p)) = _
    rw [he, cost_price h]
  have hex : ∀ w, w < s.wants.length → ∃ c, c < s.cars.length ∧ mayS s w c = true := by
    intro w hw
    have : w ∈ (toN p).flatten := hp.all.symm.subset (List.mem_range.2 hw)
    obtain ⟨l, hl, hwl⟩ := List.mem_flatten.1 this
    obtain ⟨c, hc, rfl⟩ := List.getElem_of_mem hl
    exact ⟨c, by rw [← hp.len]; exact hc, hp.mays c hc w hwl⟩
  obtain ⟨q, hq, hb⟩ := Pater.best_is (cost := costS s) s.wants.length hnn hex s.wants.length 0 (List.replicate s.cars.length []) (by omega) (plan0 s _ rfl)
  have hle := Pater.best_le (cost := costS s) s.wants.length hnn hex hp s.wants.length 0 (by omega)
  have hcut : Pater.cut 0 (toN p) = List.replicate s.cars.length [] := by
    rw [← hp.len]
    unfold Pater.cut
    apply List.ext_getElem
    · simp
    · intro i h1 h2; simp
  rw [hcut, hcp] at hle
  have h1 := hge q hq
  show Pater.best (costS s) (mayS s) s.wants.length 0 (List.replicate s.cars.length []) = _
  omega
/-- What is shown of bytes. -/
theorem check_sound (s : Snap) (b : List Int) : (∃ n, n ≠ 0 ∧ checkF s b = (⟨false, 0, []⟩, n)) ∨
    ((checkF s b).2 = 0 ∧ Feas s (checkF s b).1.plan ∧ costR s (checkF s b).1.plan = (checkF s b).1.cost ∧ ((checkF s b).1.best = true → bestR s = (checkF s b).1.cost)) := by
  unfold checkF
  by_cases h1 : rightB s = false
  · rw [if_pos h1]; exact .inl ⟨1, by decide, rfl⟩
  · rw [if_neg h1]
    cases h2 : readF s.cars.length b with
    | none => exact .inl ⟨3, by decide, rfl⟩
    | some q =>
      dsimp only
      by_cases h3 : feasB s q.1.plan = false
      · rw [if_pos h3]; exact .inl ⟨9, by decide, rfl⟩
      · rw [if_neg h3]
        by_cases h4 : priceF s q.1.plan ≠ q.1.cost ∨ q.1.best = true ∧ covF s q.1.cost q.2 [Pl.root s] = false
        · rw [if_pos h4]; exact .inl ⟨10, by decide, rfl⟩
        · rw [if_neg h4]
          have hf : Feas s q.1.plan := feas_of (by simpa using h3)
          have hp : priceF s q.1.plan = q.1.cost := by
            apply Classical.byContradiction
            intro h; exact h4 (.inl h)
          refine .inr ⟨rfl, hf, by rw [cost_price hf]; exact hp, fun hb => ?_⟩
          have hc : covF s (priceF s q.1.plan) q.2 [Pl.root s] = true := by
            rw [hp]
            cases hv : covF s q.1.cost q.2 [Pl.root s] with
            | true => rfl
            | false => exact absurd (.inr ⟨hb, hv⟩) h4
          rw [best_cost hf q.2 hc]
          exact hp
end Go.Proofs.Ytomfgggomjbnfaa
