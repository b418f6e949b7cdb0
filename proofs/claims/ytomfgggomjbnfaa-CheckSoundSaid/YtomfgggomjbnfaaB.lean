/- The walks of site.bounds and site.Right. -/
import Derived.Test.YtomfgggomjbnfaaA
set_option linter.unusedVariables false
namespace Go.Proofs.Ytomfgggomjbnfaa
open Go.RowKit Go.Sep
attribute [local go_sem] cell_ctx frozen_ctx
/-! ### site.bounds, site.Right -/
attribute [local go_sem] Oper.semAt_some
def bnds (s : Site) : List (Int × Int × Int) := [(s.floors, 2, 64), (s.cars, 1, 8), (s.start, 0, 1000), (s.step, 1, 1000), (s.stop, 0, 1000), (s.opn, 1, 1000), (s.wait, 1, 1000), (s.close, 1, 1000), (s.nudge, 0, 10), (s.age, 1, 1000000), (s.silent, 1, 1000000), (s.budget, 1, 1000000), (s.period, 1, 1000)]
abbrev bndE (x : Int × Int × Int) : Array Value := #[.int .i64 x.1, .agg #[.int .i64 x.2.1, .int .i64 x.2.2]]
def KeepsSite (g : Nat) (s : Site) (A B : World) : Prop := A.heap[g]? = some (.cells (siteC s) 23 (0, 0)) → B.heap[g]? = some (.cells (siteC s) 23 (0, 0))
theorem siteCell {W : World} {g : Nat} {s : Site} (h : W.heap[g]? = some (.cells (siteC s) 23 (0, 0))) : ∀ j, W.cell? ⟨g, j, none⟩ = (siteC s)[j]? := fun j => cell_hp (w := W) h
set_option maxRecDepth 100000 in
set_option maxHeartbeats 4000000 in
theorem bounds_stops (n : Nat) (hn : 1 ≤ n) (g : Nat) (s : Site) (w : World) (hg : w.heap[g]? = some (.cells (siteC s) 23 (0, 0))) :
    SeqStopsK Fence.wide n Try.prog 124 #[.pointer (some ⟨g, 0, none⟩)] bndE (KeepsSite g s) (fun xs => xs = bnds s) (fun pre => pre <+: bnds s) 13 w := fun l J Jx W hW hJ hJx hY h0 => by
  have g0 : W.heap[g]? = some (.cells (siteC s) 23 (0, 0)) := (hW.block g (Array.getElem?_eq_some_iff.1 hg).1).trans hg
  refine callsIn_of_wp Try.func124 rfl trivial ?_ rfl
  simp only [Try.ntmps124, List.size_toArray, List.length_cons, List.length_nil, Nat.reduceAdd, Nat.reduceSub, Array.replicate_succ, Array.replicate_zero, List.push_toArray, List.append_toArray, List.nil_append, List.cons_append]
  clear hg hW hJ hJx
  have c0 := siteCell g0
  obtain ⟨f0, t0, a0, b0, hy0, hR0⟩ := hY [] (s.floors, 2, 64) W h0 (by simp)
  gi_wp2
  refine hR0.mono ?_
  clear hy0 hR0 c0
  rintro e W1 (⟨rfl, j1, k1⟩ | ⟨rfl, x1⟩)
  rotate_left
  · clear hY
    gi_wp2_with (with_reducible refine And.intro (fun _ h => (by cases h)) ?_)
    go_end0
    exact ⟨⟨_, rfl⟩, .inr ⟨_, by simp [bnds], x1⟩⟩
  have g1 := k1 g0
  clear k1
  have c1 := siteCell g1
  obtain ⟨f1, t1, a1, b1, hy1, hR1⟩ := hY [(s.floors, 2, 64)] (s.cars, 1, 8) W1 j1 (by simp)
  gi_wp2
  refine hR1.mono ?_
  clear hy1 hR1 c1
  rintro e W2 (⟨rfl, j2, k2⟩ | ⟨rfl, x2⟩)
  rotate_left
  · clear hY
    gi_wp2_with (with_reducible refine And.intro (fun _ h => (by cases h)) ?_)
    go_end0
    exact ⟨⟨_, rfl⟩, .inr ⟨_, by simp [bnds], x2⟩⟩
  have g2 := k2 g1
  clear k2
  have c2 := siteCell g2
  obtain ⟨f2, t2, a2, b2, hy2, hR2⟩ := hY [(s.floors, 2, 64), (s.cars, 1, 8)] (s.start, 0, 1000) W2 j2 (by simp)
  gi_wp2
  refine hR2.mono ?_
  clear hy2 hR2 c2
  rintro e W3 (⟨rfl, j3, k3⟩ | ⟨rfl, x3⟩)
  rotate_left
  · clear hY
    gi_wp2_with (with_reducible refine And.intro (fun _ h => (by cases h)) ?_)
    go_end0
    exact ⟨⟨_, rfl⟩, .inr ⟨_, by simp [bnds], x3⟩⟩
  have g3 := k3 g2
  clear k3
  have c3 := siteCell g3
  obtain ⟨f3, t3, a3, b3, hy3, hR3⟩ := hY [(s.floors, 2, 64), (s.cars, 1, 8), (s.start, 0, 1000)] (s.step, 1, 1000) W3 j3 (by simp)
  gi_wp2
  refine hR3.mono ?_
  clear hy3 hR3 c3
  rintro e W4 (⟨rfl, j4, k4⟩ | ⟨rfl, x4⟩)
  rotate_left
  · clear hY
    gi_wp2_with (with_reducible refine And.intro (fun _ h => (by cases h)) ?_)
    go_end0
    exact ⟨⟨_, rfl⟩, .inr ⟨_, by simp [bnds], x4⟩⟩
  have g4 := k4 g3
  clear k4
  have c4 := siteCell g4
  obtain ⟨f4, t4, a4, b4, hy4, hR4⟩ := hY [(s.floors, 2, 64), (s.cars, 1, 8), (s.start, 0, 1000), (s.step, 1, 1000)] (s.stop, 0, 1000) W4 j4 (by simp)
  gi_wp2
  refine hR4.mono ?_
  clear hy4 hR4 c4
  rintro e W5 (⟨rfl, j5, k5⟩ | ⟨rfl, x5⟩)
  rotate_left
  · clear hY
    gi_wp2_with (with_reducible refine And.intro (fun _ h => (by cases h)) ?_)
    go_end0
    exact ⟨⟨_, rfl⟩, .inr ⟨_, by simp [bnds], x5⟩⟩
  have g5 := k5 g4
  clear k5
  have c5 := siteCell g5
  obtain ⟨f5, t5, a5, b5, hy5, hR5⟩ := hY [(s.floors, 2, 64), (s.cars, 1, 8), (s.start, 0, 1000), (s.step, 1, 1000), (s.stop, 0, 1000)] (s.opn, 1, 1000) W5 j5 (by simp)
  gi_wp2
  refine hR5.mono ?_
  clear hy5 hR5 c5
  rintro e W6 (⟨rfl, j6, k6⟩ | ⟨rfl, x6⟩)
  rotate_left
  · clear hY
    gi_wp2_with (with_reducible refine And.intro (fun _ h => (by cases h)) ?_)
    go_end0
    exact ⟨⟨_, rfl⟩, .inr ⟨_, by simp [bnds], x6⟩⟩
  have g6 := k6 g5
  clear k6
  have c6 := siteCell g6
  obtain ⟨f6, t6, a6, b6, hy6, hR6⟩ := hY [(s.floors, 2, 64), (s.cars, 1, 8), (s.start, 0, 1000), (s.step, 1, 1000), (s.stop, 0, 1000), (s.opn, 1, 1000)] (s.wait, 1, 1000) W6 j6 (by simp)
  gi_wp2
  refine hR6.mono ?_
  clear hy6 hR6 c6
  rintro e W7 (⟨rfl, j7, k7⟩ | ⟨rfl, x7⟩)
  rotate_left
  · clear hY
    gi_wp2_with (with_reducible refine And.intro (fun _ h => (by cases h)) ?_)
    go_end0
    exact ⟨⟨_, rfl⟩, .inr ⟨_, by simp [bnds], x7⟩⟩
  have g7 := k7 g6
  clear k7
  have c7 := siteCell g7
  obtain ⟨f7, t7, a7, b7, hy7, hR7⟩ := hY [(s.floors, 2, 64), (s.cars, 1, 8), (s.start, 0, 1000), (s.step, 1, 1000), (s.stop, 0, 1000), (s.opn, 1, 1000), (s.wait, 1, 1000)] (s.close, 1, 1000) W7 j7 (by simp)
  gi_wp2
  refine hR7.mono ?_
  clear hy7 hR7 c7
  rintro e W8 (⟨rfl, j8, k8⟩ | ⟨rfl, x8⟩)
  rotate_left
  · clear hY
    gi_wp2_with (with_reducible refine And.intro (fun _ h => (by cases h)) ?_)
    go_end0
    exact ⟨⟨_, rfl⟩, .inr ⟨_, by simp [bnds], x8⟩⟩
  have g8 := k8 g7
  clear k8
  have c8 := siteCell g8
  obtain ⟨f8, t8, a8, b8, hy8, hR8⟩ := hY [(s.floors, 2, 64), (s.cars, 1, 8), (s.start, 0, 1000), (s.step, 1, 1000), (s.stop, 0, 1000), (s.opn, 1, 1000), (s.wait, 1, 1000), (s.close, 1, 1000)] (s.nudge, 0, 10) W8 j8 (by simp)
  gi_wp2
  refine hR8.mono ?_
  clear hy8 hR8 c8
  rintro e W9 (⟨rfl, j9, k9⟩ | ⟨rfl, x9⟩)
  rotate_left
  · clear hY
    gi_wp2_with (with_reducible refine And.intro (fun _ h => (by cases h)) ?_)
    go_end0
    exact ⟨⟨_, rfl⟩, .inr ⟨_, by simp [bnds], x9⟩⟩
  have g9 := k9 g8
  clear k9
  have c9 := siteCell g9
  obtain ⟨f9, t9, a9, b9, hy9, hR9⟩ := hY [(s.floors, 2, 64), (s.cars, 1, 8), (s.start, 0, 1000), (s.step, 1, 1000), (s.stop, 0, 1000), (s.opn, 1, 1000), (s.wait, 1, 1000), (s.close, 1, 1000), (s.nudge, 0, 10)] (s.age, 1, 1000000) W9 j9 (by simp)
  gi_wp2
  refine hR9.mono ?_
  clear hy9 hR9 c9
  rintro e W10 (⟨rfl, j10, k10⟩ | ⟨rfl, x10⟩)
  rotate_left
  · clear hY
    gi_wp2_with (with_reducible refine And.intro (fun _ h => (by cases h)) ?_)
    go_end0
    exact ⟨⟨_, rfl⟩, .inr ⟨_, by simp [bnds], x10⟩⟩
  have g10 := k10 g9
  clear k10
  have c10 := siteCell g10
  obtain ⟨f10, t10, a10, b10, hy10, hR10⟩ := hY [(s.floors, 2, 64), (s.cars, 1, 8), (s.start, 0, 1000), (s.step, 1, 1000), (s.stop, 0, 1000), (s.opn, 1, 1000), (s.wait, 1, 1000), (s.close, 1, 1000), (s.nudge, 0, 10), (s.age, 1, 1000000)] (s.silent, 1, 1000000) W10 j10 (by simp)
  gi_wp2
  refine hR10.mono ?_
  clear hy10 hR10 c10
  rintro e W11 (⟨rfl, j11, k11⟩ | ⟨rfl, x11⟩)
  rotate_left
  · clear hY
    gi_wp2_with (with_reducible refine And.intro (fun _ h => (by cases h)) ?_)
    go_end0
    exact ⟨⟨_, rfl⟩, .inr ⟨_, by simp [bnds], x11⟩⟩
  have g11 := k11 g10
  clear k11
  have c11 := siteCell g11
  obtain ⟨f11, t11, a11, b11, hy11, hR11⟩ := hY [(s.floors, 2, 64), (s.cars, 1, 8), (s.start, 0, 1000), (s.step, 1, 1000), (s.stop, 0, 1000), (s.opn, 1, 1000), (s.wait, 1, 1000), (s.close, 1, 1000), (s.nudge, 0, 10), (s.age, 1, 1000000), (s.silent, 1, 1000000)] (s.budget, 1, 1000000) W11 j11 (by simp)
  gi_wp2
  refine hR11.mono ?_
  clear hy11 hR11 c11
  rintro e W12 (⟨rfl, j12, k12⟩ | ⟨rfl, x12⟩)
  rotate_left
  · clear hY
    gi_wp2_with (with_reducible refine And.intro (fun _ h => (by cases h)) ?_)
    go_end0
    exact ⟨⟨_, rfl⟩, .inr ⟨_, by simp [bnds], x12⟩⟩
  have g12 := k12 g11
  clear k12
  have c12 := siteCell g12
  obtain ⟨f12, t12, a12, b12, hy12, hR12⟩ := hY [(s.floors, 2, 64), (s.cars, 1, 8), (s.start, 0, 1000), (s.step, 1, 1000), (s.stop, 0, 1000), (s.opn, 1, 1000), (s.wait, 1, 1000), (s.close, 1, 1000), (s.nudge, 0, 10), (s.age, 1, 1000000), (s.silent, 1, 1000000), (s.budget, 1, 1000000)] (s.period, 1, 1000) W12 j12 (by simp)
  gi_wp2
  refine hR12.mono ?_
  clear hy12 hR12 c12
  rintro e W13 (⟨rfl, j13, k13⟩ | ⟨rfl, x13⟩)
  rotate_left
  · clear hY
    gi_wp2_with (with_reducible refine And.intro (fun _ h => (by cases h)) ?_)
    go_end0
    exact ⟨⟨_, rfl⟩, .inr ⟨_, by simp [bnds], x13⟩⟩
  have g13 := k13 g12
  clear k13
  gi_wp2
  go_end0
  exact ⟨⟨_, rfl⟩, .inl ⟨_, rfl, j13⟩⟩
end Go.Proofs.Ytomfgggomjbnfaa
