/- The walk of plan.Right. -/
import Derived.Test.YtomfgggomjbnfaaC
import Derived.Test.YtomfgggomjbnfaaE
import Derived.Laws.EntriesVeiled
set_option linter.unusedVariables false
set_option linter.unusedSimpArgs false
namespace Go.Proofs.Ytomfgggomjbnfaa
open Go.RowKit Go.Sep
attribute [local go_sem] cell_ctx frozen_ctx
theorem siteB_iff {s : Site} : siteB s = true ↔ (2 ≤ s.floors ∧ s.floors ≤ 64) ∧ (1 ≤ s.cars ∧ s.cars ≤ 8) ∧ (0 ≤ s.start ∧ s.start ≤ 1000) ∧ (1 ≤ s.step ∧ s.step ≤ 1000) ∧ (0 ≤ s.stop ∧ s.stop ≤ 1000) ∧ (1 ≤ s.opn ∧ s.opn ≤ 1000) ∧ (1 ≤ s.wait ∧ s.wait ≤ 1000) ∧ (1 ≤ s.close ∧ s.close ≤ 1000) ∧ (0 ≤ s.nudge ∧ s.nudge ≤ 10) ∧ (1 ≤ s.age ∧ s.age ≤ 1000000) ∧ (1 ≤ s.silent ∧ s.silent ≤ 1000000) ∧ (1 ≤ s.budget ∧ s.budget ≤ 1000000) ∧ (1 ≤ s.period ∧ s.period ≤ 1000) := by
  simp [siteB, bnds, okB]
theorem site_cars {s : Site} (h : siteB s = true) : 0 ≤ s.cars ∧ s.cars ≤ 8 := by
  have := siteB_iff.1 h; omega
def rightB (s : Snap) : Bool := siteB s.site && decide ((s.cars.length : Int) = s.site.cars) && decide (s.wants.length ≤ 128) && s.cars.all (readyB s.site.floors) && s.wants.all (wantB s.site.floors s.site.cars)
set_option maxRecDepth 100000 in
set_option maxHeartbeats 1000000 in
theorem planRight (s : Snap) (A1 A2 : Option Addr) (c1 c2 : Nat) (B : PH) (w : World) (hB : PLe B (hp w)) (r1 : Rd kReady B (.slice A1 s.cars.length c1) s.cars) (r2 : Rd kWant B (.slice A2 s.wants.length c2) s.wants) :
    Calls Try.prog 37 #[snapV s.site (.slice A1 s.cars.length c1) (.slice A2 s.wants.length c2)] w fun e w' => e = .returned (.bool (rightB s)) ∧ Below w.heap.size w w' := by
  have C0 := Ctx.start hB
  have l1 := r1.len
  have l2 := r2.len
  have R1 := Lib.hid r1
  have R2 := Lib.hid r2
  clear r1 r2 hB
  have hlen : ((s.cars.length : Int) != s.site.cars) = !decide ((s.cars.length : Int) = s.site.cars) := by rw [bne, Bool.not_eq_eq_eq_not, Bool.not_not]; exact Bool.eq_iff_iff.2 (by simp)
  cases hs : siteB s.site with
  | true =>
    have HS := Lib.hid hs
    have T : ∀ w : World, Calls Try.prog 68 #[siteV s.site] w fun e w' => e = .returned (.bool true) ∧ Below w.heap.size w w' := fun w => by
      have := siteRight s.site w
      rw [hs] at this; exact this
    have HM := Lib.hid (site_cars hs)
    have HT := Lib.hid T
    clear T hs
    go_enter Try.func37, Try.ntmps37
    go_wp2_with (first | ((with_reducible refine gate ?_); first | (refine ev_loadS (ty := 23) (siteC s.site).toList rfl rfl rfl Try.underlying23 rfl (by kernel_rfl) rfl ?_) | (refine ev_boxT rfl rfl (by go_simp; rfl) ?_; intro g1 w1 C1) | (refine ev_alloc rfl rfl (by go_simp; rfl) ?_; intro g3 w3 C3)) | (go_at_call 68; refine (HT.out _).mono ?_; rintro e w2 ⟨rfl, hb2⟩; have C2 := C1.keep hb2; clear C1 hb2))
    · go_ret
      exact ⟨ret_bool (by simp [rightB, *]; intros; omega), C2.bel⟩
    · have C4 : Ctx w none B B [Cells g3 129 #[.func (.func 69) #[] #[.pointer (some ⟨g1, 0, none⟩)]], Cells g1 27 (snapC s.site (.slice A1 s.cars.length c1) (.slice A2 s.wants.length c2))] (w3.setCell ⟨g3, 0, none⟩ (.func (.func 69) #[] #[.pointer (some ⟨g1, 0, none⟩)])) := inferInstance
      cases hc : s.cars.all (readyB s.site.floors) with
      | true =>
        refine (every_ready s.site.floors g1 g3 c1 A1 s.cars B _ C4.sub R1.out (by rw [cell_ctx]; rfl) (by rw [cell_ctx]; rfl)).mono ?_
        rintro e w5 ⟨rfl, hb5⟩
        have C5 := C4.keep hb5
        rw [hc]
        have HC := Lib.hid hc
        clear hb5 C4 C3 C2 hc
        go_wp2_with (go_at_call 73; refine (every_want s.site.floors s.site.cars HM.out.1 HM.out.2 g1 g3 c2 A2 s.wants B _ C5.sub R2.out ?c1 ?c2 ?c3).mono ?_; (case c1 => rw [cell_ctx]; rfl); (case c2 => rw [cell_ctx]; rfl); (case c3 => rw [cell_ctx]; rfl); (rintro e w6 ⟨rfl, hb6⟩); have C6 := C5.keep hb6; clear hb6 C5)
        all_goals
          go_ret
          exact ⟨ret_bool (by simp [rightB, HS.out, HC.out, *]; intros; omega), C6.bel⟩
      | false =>
        refine (every_ready s.site.floors g1 g3 c1 A1 s.cars B _ C4.sub R1.out (by rw [cell_ctx]; rfl) (by rw [cell_ctx]; rfl)).mono ?_
        rintro e w5 ⟨rfl, hb5⟩
        have C5 := C4.keep hb5
        rw [hc]
        have HC := Lib.hid hc
        clear hb5 C4 C3 C2 hc
        go_wp2
        go_ret
        exact ⟨ret_bool (by simp [rightB, HC.out]), C5.bel⟩
    · go_ret
      exact ⟨ret_bool (by simp [rightB, *]), C2.bel⟩
  | false =>
    have HS := Lib.hid hs
    have T : ∀ w : World, Calls Try.prog 68 #[siteV s.site] w fun e w' => e = .returned (.bool false) ∧ Below w.heap.size w w' := fun w => by
      have := siteRight s.site w
      rw [hs] at this; exact this
    have HT := Lib.hid T
    clear T hs
    go_enter Try.func37, Try.ntmps37
    go_wp2_with (first | ((with_reducible refine gate ?_); first | (refine ev_loadS (ty := 23) (siteC s.site).toList rfl rfl rfl Try.underlying23 rfl (by kernel_rfl) rfl ?_) | (refine ev_boxT rfl rfl (by go_simp; rfl) ?_; intro g1 w1 C1)) | (go_at_call 68; refine (HT.out _).mono ?_; rintro e w2 ⟨rfl, hb2⟩; have C2 := C1.keep hb2; clear C1 hb2))
    go_ret
    exact ⟨ret_bool (by simp [rightB, HS.out]), C2.bel⟩
end Go.Proofs.Ytomfgggomjbnfaa
