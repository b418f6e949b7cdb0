/- Why marks show that no plan costs less, and what the best of all plans costs. -/
import Derived.Test.YtomfgggomjbnfaaTJ
set_option linter.unusedVariables false
namespace Go.Proofs.Ytomfgggomjbnfaa
open Go.RowKit Go.Sep
structure Pl.In (s : Snap) (p : Pl) : Prop where
  fl : ∀ d, d ∈ p.drs → InF s.site d.fl
  ok : ∀ d, d ∈ p.drs → d.dr.Ok
def Pl.node (p : Pl) : Pater.Node := ⟨p.car, p.drs.map Drv.dr, sumTot p.drs, p.left⟩
def Pl.Done (s : Snap) (T : Int) (p : Pl) : Prop := p.node.Done (tfl s.site) (svS s.site) (fS s) (mS s) T
theorem root_in {s : Snap} (hr : rightB s = true) : (Pl.root s).In s := by
  have h := (right_cars hr).2.2.2.2.2.1
  refine ⟨fun d hd => ?_, fun d hd => ?_⟩
  · obtain ⟨r, h1, rfl⟩ := List.mem_map.1 hd
    exact (h r h1).1
  · obtain ⟨r, h1, rfl⟩ := List.mem_map.1 hd
    have := (h r h1).2
    unfold Ready.Ok at this
    unfold Pater.Dr.Ok Drv.dr
    dsimp only
    omega
theorem serve_in {s : Snap} (hr : rightB s = true) {p : Pl} (h : p.Ok s) (k : p.In s) (i : Nat) (hi : i < p.left.length) : (p.serve s i).In s := by
  have hs := (right_cars hr).1
  have hc : p.drs.getD p.car dr0 = p.drs[p.car]'h.car := by rw [List.getD_eq_getElem?_getD, List.getElem?_eq_getElem h.car, Option.getD_some]
  have hw : p.left.getD i 0 < s.wants.length := by
    rw [List.getD_eq_getElem?_getD, List.getElem?_eq_getElem hi, Option.getD_some]
    exact h.left _ (List.getElem_mem hi)
  have hf := fS_in hr hw
  have hm := List.getElem_mem h.car
  refine ⟨fun d hd => ?_, fun d hd => ?_⟩
  · have hd : d ∈ p.drs.set p.car ((p.drs.getD p.car dr0).to s.site (s.wants.getD (p.left.getD i 0) ⟨0, 0⟩).floor) := hd
    rcases mem_set hd with e | ⟨j, _, hj⟩
    · subst e; rw [to_fl]; exact hf
    · exact k.fl d (List.mem_of_getElem? hj)
  · have hd : d ∈ p.drs.set p.car ((p.drs.getD p.car dr0).to s.site (s.wants.getD (p.left.getD i 0) ⟨0, 0⟩).floor) := hd
    rcases mem_set hd with e | ⟨j, _, hj⟩
    · subst e
      rw [hc, (dr_to (k.fl _ hm) hf).1]
      exact (Pater.Dr.to_ok (trav hs) (sv_nn hs) (k.ok _ hm) _).1
    · exact k.ok d (List.mem_of_getElem? hj)
theorem next_in {s : Snap} {p : Pl} (k : p.In s) : ∀ q, q ∈ p.next → q.In s := by
  intro q hq
  unfold Pl.next at hq
  split at hq
  · simp at hq
    subst hq
    exact ⟨k.fl, k.ok⟩
  · cases hq
theorem sumTot_set (ds : List Drv) : ∀ (i : Nat) (h : i < ds.length) (d : Drv), sumTot (ds.set i d) = sumTot ds - ds[i].tot + d.tot := by
  induction ds with
  | nil => intro i h; simp at h
  | cons a ds ih =>
    intro i h d
    cases i with
    | zero => simp only [List.set_cons_zero, sumTot, List.getElem_cons_zero]; omega
    | succ i =>
      have := ih i (by simpa using h) d
      simp only [List.set_cons_succ, sumTot, List.getElem_cons_succ, this]; omega
theorem serve_node {s : Snap} (hr : rightB s = true) {p : Pl} (h : p.Ok s) (k : p.In s) (i : Nat) (hi : i < p.left.length) :
    (p.serve s i).node = p.node.serve (tfl s.site) (svS s.site) (fS s) i := by
  have hc : p.drs.getD p.car dr0 = p.drs[p.car]'h.car := by rw [List.getD_eq_getElem?_getD, List.getElem?_eq_getElem h.car, Option.getD_some]
  have hl : p.left.getD i 0 = p.left[i] := by rw [List.getD_eq_getElem?_getD, List.getElem?_eq_getElem hi, Option.getD_some]
  have hw := h.left _ (List.getElem_mem hi)
  have hf := fS_in hr hw
  have hm := List.getElem_mem h.car
  have hd := dr_to (k.fl _ hm) hf
  have e : p.serve s i = ⟨p.car, p.drs.set p.car (p.drs[p.car]'h.car |>.to s.site (fS s p.left[i])), p.left.take i ++ p.left.drop (i + 1)⟩ := by
    unfold Pl.serve
    rw [hc, hl]
  rw [e]
  unfold Pater.Node.serve Pl.node
  dsimp only
  rw [List.getElem?_eq_getElem hi]
  have hcm : (p.drs.map Drv.dr)[p.car]? = some (p.drs[p.car]'h.car).dr := by rw [List.getElem?_map, List.getElem?_eq_getElem h.car]; rfl
  rw [hcm]
  dsimp only
  rw [List.map_set, hd.1, sumTot_set _ _ h.car, hd.2, List.eraseIdx_eq_take_drop_succ]
  congr 1
  omega
/-- The least time of a want is no greater than any car's that may serve it. -/
theorem lw_le {s : Site} (x : Want) (drs : List Drv) (car : Nat) : ∀ (m j : Nat), car ≤ j → j < car + m → (hj : j < drs.length) → mayB x (j : Int) = true → lw s x drs car m ≤ ((drs[j]).to s x.floor).came
  | 0, j, h1, h2, _, _ => by omega
  | m + 1, j, h1, h2, hj, hm => by
    by_cases e : j = car + m
    · subst e
      rw [lw, if_pos hm, List.getD_eq_getElem?_getD, List.getElem?_eq_getElem hj, Option.getD_some]
      exact Int.min_le_right _ _
    · have ih := lw_le (s := s) x drs car m j h1 (by omega) hj hm
      rw [lw]
      split
      · exact Int.le_trans (Int.min_le_left _ _) ih
      · exact ih
theorem lc_le (s : Snap) (drs : List Drv) (car : Nat) (left : List Nat) : ∀ m, m ≤ left.length → lc s drs car left m ≤ sumTot drs + Pater.tot (fun w => lw s.site (s.wants.getD w ⟨0, 0⟩) drs car (drs.length - car)) (left.take m)
  | 0, _ => by simp [lc, Pater.tot]
  | m + 1, h => by
    have ih := lc_le s drs car left m (by omega)
    have hm : m < left.length := by omega
    have e : left.getD m 0 = left[m] := by rw [List.getD_eq_getElem?_getD, List.getElem?_eq_getElem hm, Option.getD_some]
    rw [lc, e, List.take_succ_eq_append_getElem hm, Pater.tot_append]
    have : Pater.tot (fun w => lw s.site (s.wants.getD w ⟨0, 0⟩) drs car (drs.length - car)) [left[m]] = lw s.site (s.wants.getD left[m] ⟨0, 0⟩) drs car (drs.length - car) := by simp [Pater.tot]
    omega
theorem cov_done {s : Snap} (hr : rightB s = true) (T : Int) : ∀ (ms : List Int) (st : List Pl), covF s T ms st = true → (∀ p, p ∈ st → p.Ok s ∧ p.In s) → ∀ p, p ∈ st → p.Done s T
  | [], st, h, _ => by
    have : st = [] := List.eq_nil_of_length_eq_zero (by simpa [covF] using h)
    subst this
    intro p hp; cases hp
  | m :: ms, st, h, hok => by
    have hs := (right_cars hr).1
    have hw8 := (right_cars hr).2.2.2.2.1
    unfold covF at h
    cases hl : st.getLast? with
    | none => rw [hl] at h; cases h
    | some p =>
      rw [hl] at h
      dsimp only at h
      have hst : st = st.dropLast ++ [p] := by
        obtain ⟨ys, hy⟩ := List.getLast?_eq_some_iff.1 hl
        rw [hy]; simp
      have hp := hok p (by rw [hst]; simp)
      have hdl : ∀ q, q ∈ st.dropLast → q.Ok s ∧ q.In s := fun q hq => hok q (List.dropLast_subset _ hq)
      have hdr : ∀ d, d ∈ p.node.drs → d.Ok := by
        intro d hd
        obtain ⟨d', h1, rfl⟩ := List.mem_map.1 hd
        exact hp.2.ok d' h1
      by_cases hh : holdsB s p.drs p.car p.left m T = true
      · rw [if_pos hh] at h
        by_cases hm : m = 1
        · rw [if_pos hm] at h
          have hkid : ∀ r, r ≤ p.left.length → ∀ q, q ∈ p.kids s r → ∃ i, i < p.left.length ∧ q = p.serve s i := by
            intro r
            induction r with
            | zero => intro _ q hq; cases hq
            | succ r ih =>
              intro hr' q hq
              rw [Pl.kids] at hq
              rcases List.mem_append.1 hq with hq | hq
              · split at hq
                · rw [List.mem_singleton.1 hq]; exact ⟨r, by omega, rfl⟩
                · cases hq
              · exact ih (by omega) q hq
          have hkid2 : ∀ r, ∀ i, i < r → mayB (s.wants.getD (p.left.getD i 0) ⟨0, 0⟩) p.car = true → p.serve s i ∈ p.kids s r := by
            intro r
            induction r with
            | zero => intro i hi; omega
            | succ r ih =>
              intro i hi hm'
              rw [Pl.kids]
              by_cases e : i = r
              · subst e; rw [if_pos hm']; simp
              · exact List.mem_append.2 (.inr (ih i (by omega) hm'))
          have ih := cov_done hr T ms _ h (fun q hq => by
            rcases List.mem_append.1 hq with hq | hq
            · rcases List.mem_append.1 hq with hq | hq
              · exact hdl q hq
              · exact ⟨Pl.next_ok hp.1 q hq, next_in hp.2 q hq⟩
            · obtain ⟨i, hi, rfl⟩ := hkid _ (Nat.le_refl _) q hq
              exact ⟨Pl.serve_ok hs hw8 hp.1 i hi, serve_in hr hp.1 hp.2 i hi⟩)
          intro q hq
          rw [hst] at hq
          rcases List.mem_append.1 hq with hq | hq
          · exact ih q (by simp [hq])
          · rw [List.mem_singleton.1 hq]
            have hl0 : p.left ≠ [] := by
              intro e
              subst hm
              unfold holdsB at hh
              rw [if_neg (by decide), if_pos rfl, e] at hh
              simp at hh
            refine Pater.done_opened (by show p.car < (p.drs.map Drv.dr).length; rw [List.length_map]; exact hp.1.car) hl0 (fun hn => ?_) (fun i hi hmay => ?_)
            · have hn' : p.car + 1 < p.drs.length := by
                have : p.car + 1 < (p.drs.map Drv.dr).length := hn
                rwa [List.length_map] at this
              have hin : (⟨p.car + 1, p.drs, p.left⟩ : Pl) ∈ p.next := by unfold Pl.next; rw [if_pos hn']; simp
              exact ih _ (List.mem_append.2 (.inl (List.mem_append.2 (.inr hin))))
            · have hi' : i < p.left.length := hi
              have hmay' : mayB (s.wants.getD (p.left.getD i 0) ⟨0, 0⟩) p.car = true := by
                rw [List.getD_eq_getElem?_getD (l := p.left), List.getElem?_eq_getElem hi', Option.getD_some]
                exact hmay
              have hin := hkid2 p.left.length i hi' hmay'
              have := ih (p.serve s i) (List.mem_append.2 (.inr hin))
              unfold Pl.Done at this
              rw [serve_node hr hp.1 hp.2 i hi'] at this
              exact this
        · rw [if_neg hm] at h
          have ih := cov_done hr T ms _ h hdl
          intro q hq
          rw [hst] at hq
          rcases List.mem_append.1 hq with hq | hq
          · exact ih q hq
          · rw [List.mem_singleton.1 hq]
            unfold holdsB at hh
            by_cases h0 : m = 0
            · rw [if_pos h0] at hh
              have hT : T ≤ lc s p.drs p.car p.left p.left.length := by simpa using hh
              have hle := lc_le s p.drs p.car p.left p.left.length (Nat.le_refl _)
              rw [List.take_length] at hle
              let b : Nat → Int := fun w => if w < s.wants.length then lw s.site (s.wants.getD w ⟨0, 0⟩) p.drs p.car (p.drs.length - p.car) else 0
              have hb : Pater.tot b p.left = Pater.tot (fun w => lw s.site (s.wants.getD w ⟨0, 0⟩) p.drs p.car (p.drs.length - p.car)) p.left := by
                apply Int.le_antisymm
                · exact Pater.tot_le fun w hw => by show (if _ then _ else _) ≤ _; rw [if_pos (hp.1.left w hw)]; exact Int.le_refl _
                · exact Pater.tot_le fun w hw => by show _ ≤ (if _ then _ else _); rw [if_pos (hp.1.left w hw)]; exact Int.le_refl _
              refine Pater.done_pruned (trav hs) (sv_nn hs) hdr b (fun j hj w hcj hmw => ?_) (by show T ≤ sumTot p.drs + Pater.tot b p.left; rw [hb]; omega)
              have hj' : j < p.drs.length := by
                have : j < (p.drs.map Drv.dr).length := hj
                rwa [List.length_map] at this
              have hjd : (p.node.drs)[j] = (p.drs[j]'hj').dr := by
                show (p.drs.map Drv.dr)[j]'(by rw [List.length_map]; exact hj') = _
                rw [List.getElem_map]
              rw [hjd]
              have hfj := hp.2.fl _ (List.getElem_mem hj')
              by_cases hw : w < s.wants.length
              · show (if _ then _ else _) ≤ _
                rw [if_pos hw]
                have h1 := lw_le (s := s.site) (s.wants.getD w ⟨0, 0⟩) p.drs p.car (p.drs.length - p.car) j hcj (by omega) hj' hmw
                have h2 := (dr_to hfj (fS_in hr hw)).1
                have h3 : ((p.drs[j]'hj').to s.site (fS s w)).came = ((p.drs[j]'hj').dr.to (tfl s.site) (svS s.site) (fS s w)).came := by
                  rw [← h2]; rfl
                rw [← h3]
                exact h1
              · show (if _ then _ else _) ≤ _
                rw [if_neg hw]
                exact (Pater.Dr.to_ok (trav hs) (sv_nn hs) (hp.2.ok _ (List.getElem_mem hj')) _).2
            · rw [if_neg h0, if_neg hm] at hh
              by_cases h2 : m = 2
              · rw [if_pos h2] at hh
                simp only [Bool.and_eq_true, decide_eq_true_eq] at hh
                exact Pater.done_whole (trav hs) (sv_nn hs) hdr hh.2
              · rw [if_neg h2] at hh; cases hh
      · rw [if_neg hh] at h; cases h
end Go.Proofs.Ytomfgggomjbnfaa
