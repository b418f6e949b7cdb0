/- Why marks show that no plan costs less. -/
import Derived.Test.YtomfgggomjbnfaaTI
import Derived.Test.YtomfgggomjbnfaaTA
import Derived.Test.YtomfgggomjbnfaaV
set_option linter.unusedVariables false
namespace Go.Proofs.Ytomfgggomjbnfaa
open Go.RowKit Go.Sep
abbrev svS (s : Site) : Int := s.opn + s.wait + s.close + 2
/-- Travel between floors that there are. -/
def tfl (s : Site) (a b : Int) : Int := if a = b then 0 else s.start + s.step * (if a < b then b - a else a - b) + s.stop
def Drv.dr (d : Drv) : Pater.Dr := ⟨d.fl, d.came, d.lv⟩
def InF (s : Site) (f : Int) : Prop := 0 ≤ f ∧ f < s.floors
theorem travel_tfl {s : Site} {a b : Int} (ha : InF s a) (hb : InF s b) : travel s a b = tfl s a b := by
  unfold travel tfl
  obtain ⟨h1, h2⟩ := ha
  obtain ⟨h3, h4⟩ := hb
  by_cases e : a = b
  · rw [if_pos (.inl e), if_pos e]
  · rw [if_neg (by omega), if_neg e]
theorem dr_to {s : Site} {d : Drv} {f : Int} (hd : InF s d.fl) (hf : InF s f) : (d.to s f).dr = d.dr.to (tfl s) (svS s) f ∧ (d.to s f).tot = d.tot + (d.dr.to (tfl s) (svS s) f).came := by
  have ht := travel_tfl hd hf
  unfold Drv.to Pater.Dr.to Drv.dr svS
  dsimp only
  rw [ht]
  by_cases h : d.came < 0 ∨ d.fl ≠ f
  · rw [if_pos h, if_pos h]; dsimp only; exact ⟨by congr 1; omega, rfl⟩
  · rw [if_neg h, if_neg h]; exact ⟨rfl, rfl⟩
theorem to_fl {s : Site} (d : Drv) (f : Int) : (d.to s f).fl = f := by
  unfold Drv.to
  split
  · rfl
  · rename_i h
    dsimp only
    omega
theorem trav {s : Site} (hs : siteB s = true) : Pater.Trav (tfl s) := by
  have hb := siteB_iff.1 hs
  have hm : ∀ x : Int, 0 ≤ x → 0 ≤ s.step * x := fun x hx => Int.mul_nonneg (by omega) hx
  refine ⟨fun a b => ?_, fun a b c => ?_⟩
  · unfold tfl
    split
    · omega
    · have := hm (if a < b then b - a else a - b) (by split <;> omega)
      omega
  · unfold tfl
    by_cases h1 : a = c
    · rw [if_pos h1]
      have n1 := hm (if a < b then b - a else a - b) (by split <;> omega)
      have n2 := hm (if b < c then c - b else b - c) (by split <;> omega)
      by_cases h2 : a = b
      · have h3 : b = c := by omega
        rw [if_pos h2, if_pos h3]; omega
      · have h3 : ¬ b = c := by omega
        rw [if_neg h2, if_neg h3]; omega
    · rw [if_neg h1]
      by_cases h2 : a = b
      · subst h2; rw [if_pos rfl, if_neg h1]; omega
      · rw [if_neg h2]
        by_cases h3 : b = c
        · subst h3; rw [if_pos rfl]; omega
        · rw [if_neg h3]
          have e : s.step * (if a < c then c - a else a - c) ≤ s.step * (if a < b then b - a else a - b) + s.step * (if b < c then c - b else b - c) := by
            rw [← Int.mul_add]
            apply Int.mul_le_mul_of_nonneg_left _ (by omega)
            split <;> split <;> split <;> omega
          omega
abbrev fS (s : Snap) (n : Nat) : Int := (s.wants.getD n ⟨0, 0⟩).floor
abbrev mS (s : Snap) (w c : Nat) : Prop := mayS s w c = true
theorem fS_in {s : Snap} (hr : rightB s = true) {n : Nat} (hn : n < s.wants.length) : InF s.site (fS s n) := by
  have := (right_cars hr).2.2.2.2.2.2.1 _ (List.getElem_mem hn)
  unfold fS
  rw [List.getD_eq_getElem?_getD, List.getElem?_eq_getElem hn, Option.getD_some]
  exact this.1
theorem sv_nn {s : Site} (hs : siteB s = true) : 0 ≤ svS s := by
  have := siteB_iff.1 hs
  unfold svS; omega
/-- A list of a car: what it costs. -/
theorem runL_dr {s : Snap} (hr : rightB s = true) (l : List Nat) : ∀ d : Drv, InF s.site d.fl → (∀ w, w ∈ l → w < s.wants.length) →
    (runL s d (l.map fun (x : Nat) => (x : Int))).dr = d.dr.run (tfl s.site) (svS s.site) (fS s) l ∧ (runL s d (l.map fun (x : Nat) => (x : Int))).tot = d.tot + d.dr.inc (tfl s.site) (svS s.site) (fS s) l := by
  induction l with
  | nil => intro d _ _; exact ⟨rfl, by simp [runL, Pater.Dr.inc]⟩
  | cons w l ih =>
    intro d hd hl
    have hw := hl w (by simp)
    have hf := fS_in hr hw
    have e : flr s (w : Int) = fS s w := by unfold flr fS; rw [Int.toNat_natCast]
    have h1 := dr_to hd hf
    have h2 := ih (d.to s.site (fS s w)) (by rw [to_fl]; exact hf) (fun v hv => hl v (by simp [hv]))
    have e2 : runL s d ((w :: l).map fun (x : Nat) => (x : Int)) = runL s (d.to s.site (fS s w)) (l.map fun (x : Nat) => (x : Int)) := by
      rw [List.map_cons]
      show runL s (d.to s.site (flr s (w : Int))) _ = _
      rw [e]
    rw [e2]
    refine ⟨by rw [h2.1, h1.1]; rfl, ?_⟩
    rw [h2.2, h1.2, h1.1]
    simp only [Pater.Dr.inc]
    omega
theorem price_incs {s : Snap} (hr : rightB s = true) : ∀ (ds : List Drv) (q : List (List Nat)), (∀ d, d ∈ ds → InF s.site d.fl ∧ d.tot = 0) → (∀ l, l ∈ q → ∀ w, w ∈ l → w < s.wants.length) →
    sumTot (List.zipWith (runL s) ds (toI q)) = Pater.incs (tfl s.site) (svS s.site) (fS s) (ds.map Drv.dr) q
  | [], q, _, _ => by simp [sumTot, Pater.incs]
  | d :: ds, [], _, _ => by simp [toI, sumTot, Pater.incs]
  | d :: ds, l :: q, hd, hq => by
    have h1 := (runL_dr hr l d (hd d (by simp)).1 (hq l (by simp))).2
    have h2 := price_incs hr ds q (fun d' h => hd d' (by simp [h])) (fun l' h => hq l' (by simp [h]))
    have h3 := (hd d (by simp)).2
    show (runL s d (l.map fun (x : Nat) => (x : Int))).tot + sumTot (List.zipWith (runL s) ds (toI q)) = d.dr.inc (tfl s.site) (svS s.site) (fS s) l + Pater.incs (tfl s.site) (svS s.site) (fS s) (ds.map Drv.dr) q
    rw [h1, h2, h3]
    omega
theorem sum_set (ws : List Int) : ∀ (i : Nat) (x : Int), i < ws.length → (ws.set i x).sum = ws.sum - ws.getD i 0 + x := by
  induction ws with
  | nil => intro i x h; simp at h
  | cons a ws ih =>
    intro i x h
    cases i with
    | zero => simp <;> omega
    | succ i =>
      have := ih i x (by simpa using h)
      simp only [List.set_cons_succ, List.sum_cons, List.getD_cons_succ, this]
      omega
theorem getD_set (ws : List Int) (i j : Nat) (x : Int) (h : i ≠ j) : (ws.set i x).getD j 0 = ws.getD j 0 := by
  rw [List.getD_eq_getElem?_getD, List.getD_eq_getElem?_getD, List.getElem?_set_ne h]
theorem wL_sum (s : Snap) (l : List Int) : ∀ (d : Drv) (ws : List Int), l.Nodup → (∀ w, w ∈ l → 0 ≤ w ∧ w < ws.length ∧ ws.getD w.toNat 0 = 0) →
    (wL s d ws l).sum = ws.sum + (runL s d l).tot - d.tot ∧ ∀ j : Nat, (j : Int) ∉ l → (wL s d ws l).getD j 0 = ws.getD j 0 := by
  induction l with
  | nil => intro d ws _ _; exact ⟨by simp [wL, runL] <;> omega, fun j _ => rfl⟩
  | cons w l ih =>
    intro d ws hn hw
    obtain ⟨h0, h1, h2⟩ := hw w (by simp)
    obtain ⟨n, rfl⟩ := Int.eq_ofNat_of_zero_le h0
    rw [Int.toNat_natCast] at h2
    have hn' := List.nodup_cons.1 hn
    have key := ih (d.to s.site (flr s n)) (ws.set n (d.to s.site (flr s n)).came) hn'.2 (fun v hv => by
      obtain ⟨k0, k1, k2⟩ := hw v (by simp [hv])
      refine ⟨k0, by rw [List.length_set]; exact k1, ?_⟩
      obtain ⟨m, rfl⟩ := Int.eq_ofNat_of_zero_le k0
      rw [Int.toNat_natCast] at k2 ⊢
      rw [getD_set _ _ _ _ (fun e => hn'.1 (by rw [e]; exact hv))]
      exact k2)
    have e : wL s d ws ((n : Int) :: l) = wL s (d.to s.site (flr s n)) (ws.set n (d.to s.site (flr s n)).came) l := by rw [wL, Int.toNat_natCast]
    have er : runL s d ((n : Int) :: l) = runL s (d.to s.site (flr s n)) l := rfl
    have et : (d.to s.site (flr s n)).tot = d.tot + (d.to s.site (flr s n)).came := by
      unfold Drv.to; split <;> rfl
    rw [e, er]
    refine ⟨?_, fun j hj => ?_⟩
    · rw [key.1, sum_set _ _ _ (by omega), h2, et]; omega
    · have hj1 : n ≠ j := fun e => hj (by rw [e]; simp)
      have hj2 : (j : Int) ∉ l := fun h => hj (by simp [h])
      rw [key.2 j hj2, getD_set _ _ _ _ hj1]
theorem wP_sum (s : Snap) : ∀ (ds : List Drv) (p : List (List Int)) (ws : List Int), ds.length = p.length → (∀ d, d ∈ ds → d.tot = 0) → p.flatten.Nodup → (∀ w, w ∈ p.flatten → 0 ≤ w ∧ w < ws.length ∧ ws.getD w.toNat 0 = 0) →
    (wP s ds p ws).sum = ws.sum + sumTot (List.zipWith (runL s) ds p)
  | [], [], ws, _, _, _, _ => by simp [wP, sumTot]
  | [], _ :: _, _, h, _, _, _ => by simp at h
  | _ :: _, [], _, h, _, _, _ => by simp at h
  | d :: ds, l :: p, ws, h, hd, hn, hw => by
    rw [List.flatten_cons] at hn hw
    have hn' := List.nodup_append.1 hn
    have h1 := wL_sum s l d ws hn'.1 (fun w hw' => hw w (by simp [hw']))
    have h2 := wP_sum s ds p (wL s d ws l) (by simpa using h) (fun d' h => hd d' (by simp [h])) hn'.2.1 (fun w hw' => by
      obtain ⟨k0, k1, k2⟩ := hw w (by rw [List.mem_append]; exact .inr hw')
      refine ⟨k0, by rw [wL_len]; exact k1, ?_⟩
      obtain ⟨m, rfl⟩ := Int.eq_ofNat_of_zero_le k0
      rw [Int.toNat_natCast] at k2 ⊢
      rw [h1.2 m (fun hm => hn'.2.2 _ hm _ hw' rfl)]
      exact k2)
    have e0 := hd d (by simp)
    show (wP s ds p (wL s d ws l)).sum = ws.sum + ((runL s d l).tot + sumTot (List.zipWith (runL s) ds p))
    rw [h2, h1.1, e0]
    omega
theorem feas_nodup {s : Snap} {p : List (List Int)} (h : Feas s p) : p.flatten.Nodup ∧ ∀ w, w ∈ p.flatten → 0 ≤ w ∧ w < s.wants.length := by
  have hm : ∀ w, w ∈ p.flatten → 0 ≤ w ∧ w < s.wants.length := by
    intro w hw
    obtain ⟨l, hl, hw'⟩ := List.mem_flatten.1 hw
    obtain ⟨i, hi, rfl⟩ := List.getElem_of_mem hl
    have := h.may i hi w hw'
    exact ⟨this.1, this.2.1⟩
  refine ⟨List.nodup_iff_count.2 fun w => ?_, hm⟩
  by_cases hw : w ∈ p.flatten
  · obtain ⟨h0, h1⟩ := hm w hw
    obtain ⟨n, rfl⟩ := Int.eq_ofNat_of_zero_le h0
    exact Nat.le_of_eq (h.once n (by omega))
  · rw [List.count_eq_zero_of_not_mem hw]; omega
/-- What the document says that a plan costs is its price. -/
theorem cost_price {s : Snap} {p : List (List Int)} (h : Feas s p) : costR s p = priceF s p := by
  have hn := feas_nodup h
  unfold costR wk priceF
  rw [List.take_length, List.take_of_length_le (by rw [h.len]; exact Nat.le_refl _)]
  rw [wP_sum s _ p _ (by rw [List.length_map, h.len]) (fun d hd => by obtain ⟨r, _, rfl⟩ := List.mem_map.1 hd; rfl) hn.1 (fun w hw => ?_)]
  · simp
  · have := hn.2 w hw
    refine ⟨this.1, by rw [List.length_replicate]; exact this.2, ?_⟩
    rw [List.getD_eq_getElem?_getD, List.getElem?_replicate]
    split <;> rfl
end Go.Proofs.Ytomfgggomjbnfaa
