/- The walk of the document's answer for sites. -/
import Derived.Test.YtomfgggomjbnfaaT1
set_option linter.unusedVariables false
set_option linter.unusedSimpArgs false
namespace Go.Proofs.Ytomfgggomjbnfaa
open Go.RowKit Go.Sep
attribute [local go_sem] cell_ctx frozen_ctx cell_fz
set_option maxRecDepth 100000 in
set_option maxHeartbeats 4000000 in
theorem refSite_yes (s : Site) (hb : siteB s = true) (w : World) : Calls Try.prog 32 #[siteV s] w fun e w' => e = .returned (.bool true) ∧ Below w.heap.size w w' := by
  have C0 := Ctx.start (PLe.refl (hp w))
  obtain ⟨⟨a1, b1⟩, ⟨a2, b2⟩, ⟨a3, b3⟩, ⟨a4, b4⟩, ⟨a5, b5⟩, ⟨a6, b6⟩, ⟨a7, b7⟩, ⟨a8, b8⟩, ⟨a9, b9⟩, ⟨a10, b10⟩, ⟨a11, b11⟩, ⟨a12, b12⟩, a13, b13⟩ := siteB_iff.1 hb
  clear hb
  go_enter Try.func32, Try.ntmps32
  go_wp2_with (first | ((with_reducible refine gBox 23 ?_); refine ev_boxT (t := 23) rfl rfl (by go_simp; rfl) ?_; intro g1 w1 C1; clear C0))
  go_ret
  exact ⟨ret_bool (by simp; try omega), C1.bel⟩
set_option maxRecDepth 100000 in
set_option maxHeartbeats 8000000 in
theorem refSite_no (s : Site) (hb : siteB s = false) (w : World) : Calls Try.prog 32 #[siteV s] w fun e w' => e = .returned (.bool false) ∧ Below w.heap.size w w' := by
  have C0 := Ctx.start (PLe.refl (hp w))
  have HB := Lib.hid (mt (siteB_iff (s := s)).2 (by rw [hb]; exact Bool.false_ne_true))
  clear hb
  go_enter Try.func32, Try.ntmps32
  go_wp2_with (first | ((with_reducible refine gBox 23 ?_); refine ev_boxT (t := 23) rfl rfl (by go_simp; rfl) ?_; intro g1 w1 C1; clear C0))
  all_goals go_ret
  all_goals first
      | exact ⟨rfl, C1.bel⟩
      | (refine ⟨ret_bool ?_, C1.bel⟩
         have := HB.out
         simp only [Bool.and_eq_false_iff, decide_eq_false_iff_not]
         omega)
theorem refSite (s : Site) (w : World) : Calls Try.prog 32 #[siteV s] w fun e w' => e = .returned (.bool (siteB s)) ∧ Below w.heap.size w w' := by
  cases hb : siteB s with
  | true => exact refSite_yes s hb w
  | false => exact refSite_no s hb w
end Go.Proofs.Ytomfgggomjbnfaa
