/- The walks of package check. -/
import Derived.Test.YtomfgggomjbnfaaQ
import Derived.Test.YtomfgggomjbnfaaN
import Derived.Test.YtomfgggomjbnfaaD
import Derived.Outline
set_option linter.unusedVariables false
set_option linter.unusedSimpArgs false
namespace Go.Proofs.Ytomfgggomjbnfaa
open Go.RowKit Go.Sep
attribute [local go_sem] cell_ctx frozen_ctx
/-- A car on its way, and all its times together. -/
structure Drv where
  (fl came lv tot : Int)
abbrev drvC (d : Drv) : Array Value := #[.int .i64 d.fl, .int .i64 d.came, .int .i64 d.lv, .int .i64 d.tot]
def kDrv : Kind Drv := flat 4 (fun d => [.int .i64 d.fl, .int .i64 d.came, .int .i64 d.lv, .int .i64 d.tot]) (fun _ => rfl) (fun _ u h => by simp at h; rcases h with rfl | rfl | rfl | rfl <;> rfl)
def Drv.to (s : Site) (d : Drv) (f : Int) : Drv :=
  if d.came < 0 ∨ d.fl ≠ f then ⟨f, d.lv + travel s d.fl f, d.lv + travel s d.fl f + s.opn + s.wait + s.close + 2, d.tot + (d.lv + travel s d.fl f)⟩ else { d with tot := d.tot + d.came }
/-- No sum of it is too great. -/
def Drv.Fit (d : Drv) : Prop := (-1 ≤ d.came ∧ d.came ≤ 1000000000000) ∧ (0 ≤ d.lv ∧ d.lv ≤ 1000000000000) ∧ 0 ≤ d.tot ∧ d.tot ≤ 1000000000000
theorem travel_bd {s : Site} (h : siteB s = true) (a b : Int) : 0 ≤ travel s a b ∧ travel s a b ≤ 66000 := by
  have hs := siteB_iff.1 h
  unfold travel
  split
  · omega
  · have h1 : 0 ≤ (if a < b then b - a else a - b) := by split <;> omega
    have h2 : (if a < b then b - a else a - b) ≤ 64 := by split <;> omega
    have p0 : 0 ≤ s.step * (if a < b then b - a else a - b) := Int.mul_nonneg (by omega) h1
    have p1 : s.step * (if a < b then b - a else a - b) ≤ 1000 * 64 := Int.mul_le_mul (by omega) h2 h1 (by omega)
    omega
theorem site_travel {s : Site} (h : siteB s = true) : (0 ≤ s.floors ∧ s.floors ≤ 64) ∧ (0 ≤ s.start ∧ s.start ≤ 1000 ∧ 0 ≤ s.step ∧ s.step ≤ 1000 ∧ 0 ≤ s.stop ∧ s.stop ≤ 1000) := by
  have := siteB_iff.1 h; omega
set_option maxRecDepth 100000 in
theorem driveTo (s : Site) (hs : siteB s = true) (d : Drv) (hd : d.Fit) (f : Int) (w : World) :
    Calls Try.prog 78 #[.agg (drvC d), siteV s, .int .i64 f] w fun e w' => e = .returned (.agg (drvC (d.to s f))) ∧ Below w.heap.size w w' := by
  have C0 : Ctx w none (fun _ => none) (fun _ => none) [] w := Ctx.start (fun _ _ h => by cases h)
  obtain ⟨⟨d1, d2⟩, ⟨d3, d4⟩, d5, d6⟩ := hd
  obtain ⟨⟨t1, t2⟩, ts⟩ := And.intro (travel_bd hs d.fl f) (siteTravel s d.fl f (site_travel hs).1 (site_travel hs).2)
  have hb := siteB_iff.1 hs
  obtain ⟨b1, b2, b3, b4, b5, b6⟩ : 1 ≤ s.opn ∧ s.opn ≤ 1000 ∧ 1 ≤ s.wait ∧ s.wait ≤ 1000 ∧ 1 ≤ s.close ∧ s.close ≤ 1000 := by omega
  obtain ⟨T, hT⟩ : ∃ T, travel s d.fl f = T := ⟨_, rfl⟩
  rw [hT] at t1 t2 ts
  have HT := Lib.hid ts
  unfold Drv.to
  rw [hT]
  clear hT hs ts hb
  obtain ⟨df, dc, dl, dt⟩ := d
  dsimp only at *
  have main : dc < 0 ∨ (0 ≤ dc ∧ df ≠ f) ∨ (0 ≤ dc ∧ df = f) := by omega
  rcases main with h | ⟨h, h'⟩ | ⟨h, h'⟩
  · rw [if_pos (.inl h)]
    have hX : decide (dc < 0) = true := by simpa using h
    go_enter Try.func78, Try.ntmps78
    go_wp2_with (first | ((with_reducible refine gate ?_); first | (refine ev_boxT (t := 146) rfl rfl (by go_simp; rfl) ?_; intro g1 w1 C1) | (refine ev_boxT (t := 23) rfl rfl (by go_simp; rfl) ?_; intro g2 w2 C2; clear C1) | (refine ev_alloc (t := 146) rfl rfl (by go_simp; rfl) ?_; intro g3 w3 C3; clear C2)))
    refine ev_quiet 9 (by kernel_rfl) (by kernel_rfl) ?_
    clear C3
    simp only [List.take_succ_cons, List.take_zero, List.drop_succ_cons, List.drop_zero]
    (apply q_val rfl; (intro W CW; go_simp; rfl); (dsimp only [Act.put]; simp only [List.setIfInBounds_toArray, List.set_cons_succ, List.set_cons_zero]))
    (apply q_val rfl; (intro W CW; go_simp; rfl); (dsimp only [Act.put]; simp only [List.setIfInBounds_toArray, List.set_cons_succ, List.set_cons_zero]))
    (refine q_loadS (ty := 23) (siteC s).toList rfl rfl rfl Try.underlying23 rfl (by kernel_rfl) rfl ?_); (dsimp only [Act.put]; simp only [List.setIfInBounds_toArray, List.set_cons_succ, List.set_cons_zero])
    (apply q_val rfl; (intro W CW; go_simp; rfl); (dsimp only [Act.put]; simp only [List.setIfInBounds_toArray, List.set_cons_succ, List.set_cons_zero]))
    (apply q_val rfl; (intro W CW; go_simp; rfl); (dsimp only [Act.put]; simp only [List.setIfInBounds_toArray, List.set_cons_succ, List.set_cons_zero]))
    (apply q_val rfl; (intro W CW; go_simp; rfl); (dsimp only [Act.put]; simp only [List.setIfInBounds_toArray, List.set_cons_succ, List.set_cons_zero]))
    (apply q_call rfl (by intro W CW; go_simp; exact ⟨rfl, rfl⟩) (by intro W CW; exact quiet_call (HT.out W) CW)); (dsimp only [Act.put]; simp only [List.setIfInBounds_toArray, List.set_cons_succ, List.set_cons_zero])
    (apply q_val rfl; (intro W CW; go_simp; rfl); (dsimp only [Act.put]; simp only [List.setIfInBounds_toArray, List.set_cons_succ, List.set_cons_zero]))
    (apply q_val rfl; (intro W CW; go_simp; rfl); (dsimp only [Act.put]; simp only [List.setIfInBounds_toArray, List.set_cons_succ, List.set_cons_zero]))
    refine wpQuiet_nil fun w4 C4 => ?_
    go_wp2
    refine bodyPost_ret (results_cell_row rfl _ _ g3 146 _ (0, 0) _ rfl heap_ctx Try.underlying146 rfl (by kernel_rfl)) rfl ⟨?_, bel_ctx⟩
    rfl
  · rw [if_pos (.inr h')]
    have hX : decide (dc < 0) = false := by simpa using h
    have hY : (df != f) = true := by simpa using h'
    clear h'
    go_enter Try.func78, Try.ntmps78
    go_wp2_with (first | ((with_reducible refine gate ?_); first | (refine ev_boxT (t := 146) rfl rfl (by go_simp; rfl) ?_; intro g1 w1 C1) | (refine ev_boxT (t := 23) rfl rfl (by go_simp; rfl) ?_; intro g2 w2 C2; clear C1) | (refine ev_alloc (t := 146) rfl rfl (by go_simp; rfl) ?_; intro g3 w3 C3; clear C2)))
    refine ev_quiet 9 (by kernel_rfl) (by kernel_rfl) ?_
    clear C3
    simp only [List.take_succ_cons, List.take_zero, List.drop_succ_cons, List.drop_zero]
    (apply q_val rfl; (intro W CW; go_simp; rfl); (dsimp only [Act.put]; simp only [List.setIfInBounds_toArray, List.set_cons_succ, List.set_cons_zero]))
    (apply q_val rfl; (intro W CW; go_simp; rfl); (dsimp only [Act.put]; simp only [List.setIfInBounds_toArray, List.set_cons_succ, List.set_cons_zero]))
    (refine q_loadS (ty := 23) (siteC s).toList rfl rfl rfl Try.underlying23 rfl (by kernel_rfl) rfl ?_); (dsimp only [Act.put]; simp only [List.setIfInBounds_toArray, List.set_cons_succ, List.set_cons_zero])
    (apply q_val rfl; (intro W CW; go_simp; rfl); (dsimp only [Act.put]; simp only [List.setIfInBounds_toArray, List.set_cons_succ, List.set_cons_zero]))
    (apply q_val rfl; (intro W CW; go_simp; rfl); (dsimp only [Act.put]; simp only [List.setIfInBounds_toArray, List.set_cons_succ, List.set_cons_zero]))
    (apply q_val rfl; (intro W CW; go_simp; rfl); (dsimp only [Act.put]; simp only [List.setIfInBounds_toArray, List.set_cons_succ, List.set_cons_zero]))
    (apply q_call rfl (by intro W CW; go_simp; exact ⟨rfl, rfl⟩) (by intro W CW; exact quiet_call (HT.out W) CW)); (dsimp only [Act.put]; simp only [List.setIfInBounds_toArray, List.set_cons_succ, List.set_cons_zero])
    (apply q_val rfl; (intro W CW; go_simp; rfl); (dsimp only [Act.put]; simp only [List.setIfInBounds_toArray, List.set_cons_succ, List.set_cons_zero]))
    (apply q_val rfl; (intro W CW; go_simp; rfl); (dsimp only [Act.put]; simp only [List.setIfInBounds_toArray, List.set_cons_succ, List.set_cons_zero]))
    refine wpQuiet_nil fun w4 C4 => ?_
    go_wp2
    refine bodyPost_ret (results_cell_row rfl _ _ g3 146 _ (0, 0) _ rfl heap_ctx Try.underlying146 rfl (by kernel_rfl)) rfl ⟨?_, bel_ctx⟩
    rfl
  · rw [if_neg (by omega)]
    have hX : decide (dc < 0) = false := by simpa using h
    have hY : (df != f) = false := by simpa using h'
    clear h'
    go_enter Try.func78, Try.ntmps78
    go_wp2_with (first | ((with_reducible refine gate ?_); first | (refine ev_boxT (t := 146) rfl rfl (by go_simp; rfl) ?_; intro g1 w1 C1) | (refine ev_boxT (t := 23) rfl rfl (by go_simp; rfl) ?_; intro g2 w2 C2; clear C1) | (refine ev_alloc (t := 146) rfl rfl (by go_simp; rfl) ?_; intro g3 w3 C3; clear C2)))
    refine bodyPost_ret (results_cell_row rfl _ _ g3 146 _ (0, 0) _ rfl heap_ctx Try.underlying146 rfl (by kernel_rfl)) rfl ⟨?_, bel_ctx⟩
    rfl
end Go.Proofs.Ytomfgggomjbnfaa
