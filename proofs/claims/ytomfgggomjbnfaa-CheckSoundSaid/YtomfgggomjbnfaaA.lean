/- The walks of packages num, site and plan. -/
import Derived.Test.YtomfgggomjbnfaaProg
import Derived.Test.YtomfgggomjbnfaaS
import Derived.LoopTactic
import Derived.RegionTactic
import Derived.Deep.QuietTactic
import Derived.BigQuiet
import Derived.WalkLawsBesides
import Derived.WalkSpells
import Derived.RangeFuncNested
import Derived.RangeFuncBound
import Derived.RangeFuncCalls
import Derived.RangeFuncLeaves
import Derived.OwnWalkIn
import Derived.TacticsInMore
import Derived.LoopNIn
import Derived.LoopIn
namespace Go.Proofs.Ytomfgggomjbnfaa
open Go.RowKit Go.Sep
attribute [local go_sem] cell_ctx frozen_ctx
structure Site where
  (floors cars start step stop opn wait close nudge age silent budget period : Int)
structure Ready where
  (floor after : Int)
structure Want where
  (floor cars : Int)
structure Snap where
  (site : Site) (cars : List Ready) (wants : List Want)
abbrev siteC (s : Site) : Array Value := #[.int .i64 s.floors, .int .i64 s.cars, .int .i64 s.start, .int .i64 s.step, .int .i64 s.stop, .int .i64 s.opn, .int .i64 s.wait, .int .i64 s.close, .int .i64 s.nudge, .int .i64 s.age, .int .i64 s.silent, .int .i64 s.budget, .int .i64 s.period]
abbrev siteV (s : Site) : Value := .agg (siteC s)
abbrev snapC (s : Site) (v1 v2 : Value) : Array Value := #[.int .i64 s.floors, .int .i64 s.cars, .int .i64 s.start, .int .i64 s.step, .int .i64 s.stop, .int .i64 s.opn, .int .i64 s.wait, .int .i64 s.close, .int .i64 s.nudge, .int .i64 s.age, .int .i64 s.silent, .int .i64 s.budget, .int .i64 s.period, v1, v2]
abbrev snapV (s : Site) (v1 v2 : Value) : Value := .agg (snapC s v1 v2)
def kReady : Kind Ready := flat 2 (fun x => [.int .i64 x.floor, .int .i64 x.after]) (fun _ => rfl) (fun _ u h => by simp at h; rcases h with rfl | rfl <;> rfl)
def kWant : Kind Want := flat 2 (fun x => [.int .i64 x.floor, .int .i64 x.cars]) (fun _ => rfl) (fun _ u h => by simp at h; rcases h with rfl | rfl <;> rfl)

theorem ret_bool {a b : Bool} (h : a = b) : Ending.returned (.bool a) = Ending.returned (.bool b) := by rw [h]
theorem ret_int {k : IntKind} {a b : Int} (h : a = b) : Ending.returned (.int k a) = Ending.returned (.int k b) := by rw [h]
theorem quietC {P : Program} {f : FuncId} {args : Array Value} {w : World} {n : Nat} {v : Value} (h : Calls P f args (w.drewN n) fun e w' => e = .returned v ∧ w.drewN n = w') :
    Calls P f args (w.drewN n) fun e w'' => e = .returned v ∧ ∃ m, w'' = w.drewN m := h.mono fun _ _ ⟨he, hm⟩ => ⟨he, n, hm.symm⟩
theorem there_any (f n : Int) (p : Nat) (w : World) (hp : w.cell? ⟨p, 0, none⟩ = some (.int .i64 n)) :
    Calls Try.prog 69 #[.int .i64 f, .pointer (some ⟨p, 0, none⟩)] w fun e w' => e = .returned (.bool (decide (0 ≤ f) && decide (f < n))) ∧ w = w' := by
  go_enter Try.func69, Try.ntmps69
  go_wp2
  all_goals
    go_ret
    exact ⟨ret_bool (by rw [Bool.eq_iff_iff]; simp; try omega), rfl⟩

def readyB (n : Int) (r : Ready) : Bool := (decide (0 ≤ r.floor) && decide (r.floor < n)) && decide (0 ≤ r.after) && decide (r.after ≤ 1000000)
set_option maxRecDepth 100000 in
theorem ready_any (r : Ready) (n : Int) (p q : Nat) (w : World) (hq : w.cell? ⟨q, 0, none⟩ = some (.func (.func 69) #[] #[.pointer (some ⟨p, 0, none⟩)])) (hp : w.cell? ⟨p, 0, none⟩ = some (.int .i64 n)) :
    Calls Try.prog 70 #[.agg #[.int .i64 r.floor, .int .i64 r.after], .pointer (some ⟨q, 0, none⟩)] w fun e w' => e = .returned (.bool (readyB n r)) ∧ Below w.heap.size w w' := by
  have hp1 := World.block_lt_of_cell? w _ hp
  have hq1 := World.block_lt_of_cell? w _ hq
  dsimp only at hp1 hq1
  unfold readyB
  obtain ⟨f, a⟩ := r
  dsimp only
  go_enter Try.func70, Try.ntmps70
  go_wp2_with (go_at_call 69; refine (there_any _ n p _ ?hc).mono ?_; (case hc => go_simp); (rintro e w' ⟨rfl, rfl⟩))
  all_goals
    go_ret
    exact ⟨ret_bool (by rw [Bool.eq_iff_iff]; simp; try omega), (Below.refl _ _).alloc (Nat.le_refl _) _⟩

theorem wrap_pow {m : Int} (h0 : 0 ≤ m) (h1 : m ≤ 8) : wrap64 (2 ^ m.toNat) = 2 ^ m.toNat := by
  have : m = 0 ∨ m = 1 ∨ m = 2 ∨ m = 3 ∨ m = 4 ∨ m = 5 ∨ m = 6 ∨ m = 7 ∨ m = 8 := by omega
  rcases this with rfl | rfl | rfl | rfl | rfl | rfl | rfl | rfl | rfl <;> decide +kernel
theorem bstep {w0 w w1 : World} (h : Below w0.heap.size w0 w) (k : Below w.heap.size w w1) : Below w0.heap.size w0 w1 :=
  h.trans ⟨k.os, k.tape, k.output, k.size, fun i hi => k.block i (Nat.lt_of_lt_of_le hi h.size)⟩
theorem below_drewN' {B : Nat} {w W : World} (h : Below B w W) (n : Nat) : Below B w (W.drewN n) := ⟨h.os, h.tape, h.output, h.size, h.block⟩
/-- Go's 1 << n. -/
def wantB (n m : Int) (x : Want) : Bool := (decide (0 ≤ x.floor) && decide (x.floor < n)) && decide (1 ≤ x.cars) && decide (x.cars < 2 ^ m.toNat)
set_option maxRecDepth 100000 in
theorem want_any (x : Want) (n m : Int) (hm0 : 0 ≤ m) (hm : m ≤ 8) (p q : Nat) (w : World) (hq : w.cell? ⟨q, 0, none⟩ = some (.func (.func 69) #[] #[.pointer (some ⟨p, 0, none⟩)])) (hp : w.cell? ⟨p, 0, none⟩ = some (.int .i64 n)) (hp' : w.cell? ⟨p, 1, none⟩ = some (.int .i64 m)) :
    Calls Try.prog 71 #[.agg #[.int .i64 x.floor, .int .i64 x.cars], .pointer (some ⟨q, 0, none⟩), .pointer (some ⟨p, 0, none⟩)] w fun e w' => e = .returned (.bool (wantB n m x)) ∧ Below w.heap.size w w' := by
  have hp1 := World.block_lt_of_cell? w _ hp
  have hq1 := World.block_lt_of_cell? w _ hq
  dsimp only at hp1 hq1
  unfold wantB
  obtain ⟨f, a⟩ := x
  dsimp only
  have HW := Lib.hid (wrap_pow hm0 hm)
  have hB : Below w.heap.size w (w.alloc (.cells #[.int .i64 f, .int .i64 a] 92)) := (Below.refl _ _).alloc (Nat.le_refl _) _
  cases h1 : (decide (0 ≤ f) && decide (f < n)) with
  | true =>
    have T : ∀ w : World, w.cell? ⟨p, 0, none⟩ = some (.int .i64 n) → Calls Try.prog 69 #[.int .i64 f, .pointer (some ⟨p, 0, none⟩)] w fun e w' => e = .returned (.bool true) ∧ w = w' := fun w h => by
      have := there_any f n p w h
      rw [h1] at this; exact this
    have HT := Lib.hid T
    clear T h1
    by_cases h2 : 1 ≤ a
    · have h2b : decide (1 ≤ a) = true := by simpa using h2
      go_enter Try.func71, Try.ntmps71
      go_wp2
      go_quiet ((go_at_call 69; refine quietC (HT.out _ ?_); go_simp))
      go_wp2
      go_ret
      exact ⟨ret_bool (by rw [HW.out, h2b]; rfl), below_drewN' hB _⟩
    · have h2b : decide (1 ≤ a) = false := by simpa using h2
      go_enter Try.func71, Try.ntmps71
      go_wp2
      go_quiet ((go_at_call 69; refine quietC (HT.out _ ?_); go_simp))
      go_wp2
      go_ret
      exact ⟨ret_bool (by simp [h2b]), below_drewN' hB _⟩
  | false =>
    have T : ∀ w : World, w.cell? ⟨p, 0, none⟩ = some (.int .i64 n) → Calls Try.prog 69 #[.int .i64 f, .pointer (some ⟨p, 0, none⟩)] w fun e w' => e = .returned (.bool false) ∧ w = w' := fun w h => by
      have := there_any f n p w h
      rw [h1] at this; exact this
    have HT := Lib.hid T
    clear T h1
    go_enter Try.func71, Try.ntmps71
    go_wp2
    go_quiet ((go_at_call 69; refine quietC (HT.out _ ?_); go_simp))
    go_wp2
    go_ret
    exact ⟨ret_bool (by simp), below_drewN' hB _⟩

set_option maxRecDepth 100000 in
theorem every_ready (n : Int) (p q c : Nat) (A : Option Addr) (xs : List Ready) (O : PH) (w : World) (hs : PLe O (hp w)) (hr : Rd kReady O (.slice A xs.length c) xs)
    (hq : w.cell? ⟨q, 0, none⟩ = some (.func (.func 69) #[] #[.pointer (some ⟨p, 0, none⟩)])) (hp : w.cell? ⟨p, 0, none⟩ = some (.int .i64 n)) :
    Calls Try.prog 72 #[.slice A xs.length c, .func (.func 70) #[] #[.pointer (some ⟨q, 0, none⟩)]] w fun e w' => e = .returned (.bool (xs.all (readyB n))) ∧ Below w.heap.size w w' := by
  have hl := hr.len
  have hpl := World.block_lt_of_cell? w _ hp
  have hql := World.block_lt_of_cell? w _ hq
  go_enter Try.func72, Try.ntmps72
  go_wp2_with fail
  go_loopw [6, 9, 10, 11, 12, 13, 14, 15, 16, 17] (fun _ t9 _ _ _ _ _ _ _ _ wr => ∃ k : Nat, k ≤ xs.length ∧ t9 = .int .i64 k ∧ Hid ((xs.take k).all (readyB n) = true) ∧ Below w.heap.size w wr) (fun _ t9 _ _ _ _ _ _ _ _ _ => xs.length - (intOf t9).toNat)
  case atStart => exact ⟨0, Nat.zero_le _, rfl, Lib.hid (by simp), Below.refl _ _⟩
  case round =>
    obtain ⟨k, hk, rfl, hal, hb⟩ := hrel
    by_cases hlt : k < xs.length
    · obtain ⟨b, off, c', cs, e1, rfl, hc⟩ := hr.at_ (hs.trans (fun g o h => (hb.block g (hp_lt h)).trans h)) k hlt
      cases e1
      have c0 := hc 0 _ rfl
      have c1 := hc 1 _ rfl
      simp only [show kReady.sz = 2 from rfl, Nat.add_zero] at c0 c1
      have hq' := (hb.cell hql).trans hq
      have hp' := (hb.cell hpl).trans hp
      have hpw := World.block_lt_of_cell? wr _ hp'
      have hqw := World.block_lt_of_cell? wr _ hq'
      dsimp only at hpw hqw
      clear hc hr hs hq hp
      cases his : readyB n xs[k] with
      | true =>
        have HI := Lib.hid his
        have T : ∀ W : World, W.cell? ⟨q, 0, none⟩ = some (.func (.func 69) #[] #[.pointer (some ⟨p, 0, none⟩)]) → W.cell? ⟨p, 0, none⟩ = some (.int .i64 n) → Calls Try.prog 70 #[.agg #[.int .i64 xs[k].floor, .int .i64 xs[k].after], .pointer (some ⟨q, 0, none⟩)] W fun e w' => e = .returned (.bool true) ∧ Below W.heap.size W w' := fun W h1 h2 => by
          have := ready_any xs[k] n p q W h1 h2
          rw [his] at this; exact this
        have HT := Lib.hid T
        clear T his
        go_wp2_with (go_at_call 70; refine (HT.out _ ?c1 ?c2).mono ?_; (case c1 => go_simp); (case c2 => go_simp); (rintro e w1 ⟨rfl, hb1⟩))
        go_roundw
        case rel => exact ⟨k + 1, by omega, by go_num, Lib.hid (by rw [List.take_succ_eq_append_getElem hlt]; simp only [List.all_append, hal.out]; simp [HI.out]), bstep (hb.alloc hb.size _) hb1⟩
        case measure => simp [intOf]; omega
      | false =>
        have HI := Lib.hid his
        have T : ∀ W : World, W.cell? ⟨q, 0, none⟩ = some (.func (.func 69) #[] #[.pointer (some ⟨p, 0, none⟩)]) → W.cell? ⟨p, 0, none⟩ = some (.int .i64 n) → Calls Try.prog 70 #[.agg #[.int .i64 xs[k].floor, .int .i64 xs[k].after], .pointer (some ⟨q, 0, none⟩)] W fun e w' => e = .returned (.bool false) ∧ Below W.heap.size W w' := fun W h1 h2 => by
          have := ready_any xs[k] n p q W h1 h2
          rw [his] at this; exact this
        have HT := Lib.hid T
        clear T his
        go_wp2_with (go_at_call 70; refine (HT.out _ ?c1 ?c2).mono ?_; (case c1 => go_simp); (case c2 => go_simp); (rintro e w1 ⟨rfl, hb1⟩))
        go_ret
        exact ⟨ret_bool (List.all_eq_false.2 ⟨_, List.getElem_mem hlt, by simp [HI.out]⟩).symm, bstep (hb.alloc hb.size _) hb1⟩
    · go_wp2
      go_ret
      exact ⟨ret_bool (by rw [← hal.out, List.take_of_length_le (by omega)]), hb⟩
set_option maxRecDepth 100000 in
theorem every_want (n m : Int) (hm0 : 0 ≤ m) (hm : m ≤ 8) (p q c : Nat) (A : Option Addr) (xs : List Want) (O : PH) (w : World) (hs : PLe O (hp w)) (hr : Rd kWant O (.slice A xs.length c) xs)
    (hq : w.cell? ⟨q, 0, none⟩ = some (.func (.func 69) #[] #[.pointer (some ⟨p, 0, none⟩)])) (hp : w.cell? ⟨p, 0, none⟩ = some (.int .i64 n)) (hr1 : w.cell? ⟨p, 1, none⟩ = some (.int .i64 m)) :
    Calls Try.prog 73 #[.slice A xs.length c, .func (.func 71) #[] #[.pointer (some ⟨q, 0, none⟩), .pointer (some ⟨p, 0, none⟩)]] w fun e w' => e = .returned (.bool (xs.all (wantB n m))) ∧ Below w.heap.size w w' := by
  have hl := hr.len
  have hpl := World.block_lt_of_cell? w _ hp
  have hql := World.block_lt_of_cell? w _ hq
  go_enter Try.func73, Try.ntmps73
  go_wp2_with fail
  go_loopw [6, 9, 10, 11, 12, 13, 14, 15, 16, 17] (fun _ t9 _ _ _ _ _ _ _ _ wr => ∃ k : Nat, k ≤ xs.length ∧ t9 = .int .i64 k ∧ Hid ((xs.take k).all (wantB n m) = true) ∧ Below w.heap.size w wr) (fun _ t9 _ _ _ _ _ _ _ _ _ => xs.length - (intOf t9).toNat)
  case atStart => exact ⟨0, Nat.zero_le _, rfl, Lib.hid (by simp), Below.refl _ _⟩
  case round =>
    obtain ⟨k, hk, rfl, hal, hb⟩ := hrel
    by_cases hlt : k < xs.length
    · obtain ⟨b, off, c', cs, e1, rfl, hc⟩ := hr.at_ (hs.trans (fun g o h => (hb.block g (hp_lt h)).trans h)) k hlt
      cases e1
      have c0 := hc 0 _ rfl
      have c1 := hc 1 _ rfl
      simp only [show kWant.sz = 2 from rfl, Nat.add_zero] at c0 c1
      have hq' := (hb.cell hql).trans hq
      have hp' := (hb.cell hpl).trans hp
      have hr' := (hb.cell (p := ⟨p, 1, none⟩) hpl).trans hr1
      have hpw := World.block_lt_of_cell? wr _ hp'
      have hqw := World.block_lt_of_cell? wr _ hq'
      dsimp only at hpw hqw
      clear hc hr hs hq hp hr1
      cases his : wantB n m xs[k] with
      | true =>
        have HI := Lib.hid his
        have T : ∀ W : World, W.cell? ⟨q, 0, none⟩ = some (.func (.func 69) #[] #[.pointer (some ⟨p, 0, none⟩)]) → W.cell? ⟨p, 0, none⟩ = some (.int .i64 n) → W.cell? ⟨p, 1, none⟩ = some (.int .i64 m) → Calls Try.prog 71 #[.agg #[.int .i64 xs[k].floor, .int .i64 xs[k].cars], .pointer (some ⟨q, 0, none⟩), .pointer (some ⟨p, 0, none⟩)] W fun e w' => e = .returned (.bool true) ∧ Below W.heap.size W w' := fun W h1 h2 h3 => by
          have := want_any xs[k] n m hm0 hm p q W h1 h2 h3
          rw [his] at this; exact this
        have HT := Lib.hid T
        clear T his
        go_wp2_with (go_at_call 71; refine (HT.out _ ?c1 ?c2 ?c3).mono ?_; (case c1 => go_simp); (case c2 => go_simp); (case c3 => go_simp); (rintro e w1 ⟨rfl, hb1⟩))
        go_roundw
        case rel => exact ⟨k + 1, by omega, by go_num, Lib.hid (by rw [List.take_succ_eq_append_getElem hlt]; simp only [List.all_append, hal.out]; simp [HI.out]), bstep (hb.alloc hb.size _) hb1⟩
        case measure => simp [intOf]; omega
      | false =>
        have HI := Lib.hid his
        have T : ∀ W : World, W.cell? ⟨q, 0, none⟩ = some (.func (.func 69) #[] #[.pointer (some ⟨p, 0, none⟩)]) → W.cell? ⟨p, 0, none⟩ = some (.int .i64 n) → W.cell? ⟨p, 1, none⟩ = some (.int .i64 m) → Calls Try.prog 71 #[.agg #[.int .i64 xs[k].floor, .int .i64 xs[k].cars], .pointer (some ⟨q, 0, none⟩), .pointer (some ⟨p, 0, none⟩)] W fun e w' => e = .returned (.bool false) ∧ Below W.heap.size W w' := fun W h1 h2 h3 => by
          have := want_any xs[k] n m hm0 hm p q W h1 h2 h3
          rw [his] at this; exact this
        have HT := Lib.hid T
        clear T his
        go_wp2_with (go_at_call 71; refine (HT.out _ ?c1 ?c2 ?c3).mono ?_; (case c1 => go_simp); (case c2 => go_simp); (case c3 => go_simp); (rintro e w1 ⟨rfl, hb1⟩))
        go_ret
        exact ⟨ret_bool (List.all_eq_false.2 ⟨_, List.getElem_mem hlt, by simp [HI.out]⟩).symm, bstep (hb.alloc hb.size _) hb1⟩
    · go_wp2
      go_ret
      exact ⟨ret_bool (by rw [← hal.out, List.take_of_length_le (by omega)]), hb⟩
end Go.Proofs.Ytomfgggomjbnfaa
