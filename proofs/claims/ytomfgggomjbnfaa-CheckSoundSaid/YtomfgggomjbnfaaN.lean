/- The walks of package num, of site.ride and site.Travel. -/
import Derived.Test.YtomfgggomjbnfaaA
import Derived.Test.YtomfgggomjbnfaaE
import Derived.Test.YtomfgggomjbnfaaC
import Derived.Laws.BitsLemmas
import Derived.StillTailTactics
import Derived.Outline
set_option linter.unusedVariables false
set_option linter.unusedSimpArgs false
namespace Go.Proofs.Ytomfgggomjbnfaa
open Go.RowKit Go.Sep
attribute [local go_sem] cell_ctx frozen_ctx
/-- A number within the limit. -/
def lim (a : Int) : Int := if 1099511627776 < a then 1099511627776 else if a < -1099511627776 then -1099511627776 else a
theorem numWithin (a : Int) (w : World) : Calls Try.prog 100 #[.int .i64 a] w fun e w' => e = .returned (.int .i64 (lim a)) ∧ w = w' := by
  go_enter Try.func100, Try.ntmps100
  go_wp2
  all_goals
    go_ret
    refine ⟨ret_int ?_, rfl⟩
    unfold lim
    (repeat' split) <;> (repeat' (split at *)) <;> omega
theorem lim_bd (a : Int) : -1099511627776 ≤ lim a ∧ lim a ≤ 1099511627776 := by unfold lim; (repeat' split) <;> omega
theorem lim_id {a : Int} (h0 : -1099511627776 ≤ a) (h1 : a ≤ 1099511627776) : lim a = a := by unfold lim; (repeat' split) <;> omega
theorem numAdd (a b : Int) (w : World) : Calls Try.prog 65 #[.int .i64 a, .int .i64 b] w fun e w' => e = .returned (.int .i64 (lim (lim a + lim b))) ∧ w = w' := by
  have h1 := lim_bd a
  have h2 := lim_bd b
  obtain ⟨x, hx⟩ : ∃ x, lim a = x := ⟨_, rfl⟩
  obtain ⟨y, hy⟩ : ∃ y, lim b = y := ⟨_, rfl⟩
  rw [hx] at h1
  rw [hy] at h2
  have T1 : ∀ w : World, Calls Try.prog 100 #[.int .i64 a] w fun e w' => e = .returned (.int .i64 x) ∧ w = w' := fun w => by rw [← hx]; exact numWithin a w
  have T2 : ∀ w : World, Calls Try.prog 100 #[.int .i64 b] w fun e w' => e = .returned (.int .i64 y) ∧ w = w' := fun w => by rw [← hy]; exact numWithin b w
  have H1 := Lib.hid T1
  have H2 := Lib.hid T2
  rw [hx, hy]
  clear T1 T2 hx hy
  go_enter Try.func65, Try.ntmps65
  go_wp2_with fail
  refine (H1.out _).mono ?_
  rintro e w1 ⟨rfl, rfl⟩
  go_wp2_with fail
  refine (H2.out _).mono ?_
  rintro e w1 ⟨rfl, rfl⟩
  go_wp2_with fail
  refine (numWithin _ _).mono ?_
  rintro e w1 ⟨rfl, rfl⟩
  go_wp2
  go_ret
  exact ⟨rfl, rfl⟩
theorem numSize (a : Int) (h0 : 0 ≤ a) (h1 : a ≤ 1099511627776) (w : World) : Calls Try.prog 143 #[.int .i64 a] w fun e w' => e = .returned (.int .u64 a) ∧ w = w' := by
  go_enter Try.func143, Try.ntmps143
  go_wp2
  go_ret
  exact ⟨rfl, rfl⟩
theorem wrapU {x : Int} (h0 : 0 ≤ x) (h1 : x < 18446744073709551616) : IntKind.u64.wrap x = x := by rw [IntKind.wrap_u64]; omega
theorem and32 {x : Int} (h0 : 0 ≤ x) (h1 : x < 18446744073709551616) : bits .and .u64 x 4294967295 = x % 4294967296 := bits_mask .u64 64 (by decide) (fun x h0 h1 => wrapU h0 (by omega)) 32 (by decide) x h0 h1
theorem bitsMul64 (a b : Int) (h0 : 0 ≤ a) (h1 : a < 2147483648) (h2 : 0 ≤ b) (h3 : b < 2147483648) (w : World) : Calls Try.prog 142 #[.int .u64 a, .int .u64 b] w fun e w' => e = .returned (.tuple #[.int .u64 0, .int .u64 (a * b)]) ∧ w = w' := by
  go_enter Try.func142, Try.ntmps142
  go_wp2
  go_ret2
  have p0 : 0 ≤ a * b := Int.mul_nonneg h0 h2
  have p1 : a * b ≤ 2147483647 * 2147483647 := Int.mul_le_mul (by omega) (by omega) h2 (by omega)
  have e1 : a / 4294967296 = 0 := by omega
  have e2 : b / 4294967296 = 0 := by omega
  have e3 : bits BinOp.and .u64 a 4294967295 = a := by rw [and32 h0 (by omega)]; omega
  have e4 : bits BinOp.and .u64 b 4294967295 = b := by rw [and32 h2 (by omega)]; omega
  have e5 : IntKind.u64.wrap (a * b) = a * b := wrapU p0 (by omega)
  have e6 : IntKind.u64.wrap 0 = 0 := rfl
  have e7 : IntKind.u64.wrap (a * b / 4294967296) = a * b / 4294967296 := wrapU (by omega) (by omega)
  have e8 : bits BinOp.and .u64 (a * b / 4294967296) 4294967295 = a * b / 4294967296 := by rw [and32 (by omega) (by omega)]; omega
  have e9 : a * b / 4294967296 / 4294967296 = 0 := by omega
  exact ⟨by simp [e1, e2, e3, e4, e5, e6, e7, e8, e9], rfl⟩
theorem numMul (a b : Int) (h0 : 0 ≤ a) (h1 : a < 2147483648) (h2 : 0 ≤ b) (h3 : b < 2147483648) (h4 : a * b < 1099511627776) (w : World) : Calls Try.prog 125 #[.int .i64 a, .int .i64 b] w fun e w' => e = .returned (.int .i64 (a * b)) ∧ w = w' := by
  have p0 : 0 ≤ a * b := Int.mul_nonneg h0 h2
  have T1 : ∀ w : World, Calls Try.prog 100 #[.int .i64 a] w fun e w' => e = .returned (.int .i64 a) ∧ w = w' := fun w => by have := numWithin a w; rwa [lim_id (by omega) (by omega)] at this
  have T2 : ∀ w : World, Calls Try.prog 100 #[.int .i64 b] w fun e w' => e = .returned (.int .i64 b) ∧ w = w' := fun w => by have := numWithin b w; rwa [lim_id (by omega) (by omega)] at this
  have T3 : ∀ w : World, Calls Try.prog 142 #[.int .u64 a, .int .u64 b] w fun e w' => e = .returned (.tuple #[.int .u64 0, .int .u64 (a * b)]) ∧ w = w' := fun w => bitsMul64 a b h0 h1 h2 h3 w
  obtain ⟨p, hp⟩ : ∃ p, a * b = p := ⟨_, rfl⟩
  rw [hp] at p0 h4 T3
  rw [hp]
  have H1 := Lib.hid T1
  have H2 := Lib.hid T2
  have H3 := Lib.hid T3
  clear T1 T2 T3 hp
  have ha : decide (a < 0) = false := by simpa using h0
  have hb : decide (b < 0) = false := by simpa using h2
  go_enter Try.func125, Try.ntmps125
  go_wp2_with fail
  refine (H1.out _).mono ?_
  rintro e w1 ⟨rfl, rfl⟩
  go_wp2_with fail
  refine (H2.out _).mono ?_
  rintro e w1 ⟨rfl, rfl⟩
  go_wp2_with fail
  refine (numSize a h0 (by omega) _).mono ?_
  rintro e w1 ⟨rfl, rfl⟩
  go_wp2_with fail
  refine (numSize b h2 (by omega) _).mono ?_
  rintro e w1 ⟨rfl, rfl⟩
  go_wp2_with fail
  refine (H3.out _).mono ?_
  rintro e w1 ⟨rfl, rfl⟩
  go_wp2
  go_ret
  exact ⟨rfl, rfl⟩

/-- A sum of numbers, one behind the other. -/
def sumL (l : List Int) : Int := l.foldl (fun n a => lim (lim n + lim a)) 0
set_option maxRecDepth 100000 in
theorem numSum (A : Option Addr) (c : Nat) (xs : List Int) (O : PH) (w : World) (hs : PLe O (hp w)) (hr : Rd kInt O (.slice A xs.length c) xs) :
    Calls Try.prog 89 #[.slice A xs.length c] w fun e w' => e = .returned (.int .i64 (sumL xs)) ∧ w = w' := by
  have hl := hr.len
  go_enter Try.func89, Try.ntmps89
  go_wp2_with fail
  go_loop [2, 4, 7, 8, 9, 10, 11, 12, 13, 14] (fun t2 _ t7 _ _ _ _ _ _ _ => ∃ k : Nat, k ≤ xs.length ∧ t7 = .int .i64 k ∧ t2 = .int .i64 (sumL (xs.take k))) (fun _ _ t7 _ _ _ _ _ _ _ => xs.length - (intOf t7).toNat)
  case atStart => exact ⟨0, Nat.zero_le _, rfl, rfl⟩
  case round =>
    obtain ⟨k, hk, rfl, rfl⟩ := hrel
    by_cases hlt : k < xs.length
    · obtain ⟨b, off, c', cs, e1, rfl, hc⟩ := hr.at_ hs k hlt
      cases e1
      have c0 := hc 0 _ rfl
      simp only [show kInt.sz = 1 from rfl, Nat.mul_one, Nat.add_zero] at c0
      clear hc hr hs
      have hS : sumL (xs.take (k + 1)) = lim (lim (sumL (xs.take k)) + lim xs[k]) := by
        unfold sumL; rw [List.take_succ_eq_append_getElem hlt, List.foldl_append]; rfl
      have HS := Lib.hid hS
      clear hS
      go_wp2_with (go_at_call 65; refine (numAdd _ _ _).mono ?_; (rintro e w1 ⟨rfl, rfl⟩))
      go_round
      case rel => exact ⟨k + 1, by omega, by go_num, by rw [HS.out]⟩
      case measure => simp [intOf]; omega
    · go_wp2
      go_ret
      exact ⟨ret_int (by rw [List.take_of_length_le (by omega)]), rfl⟩

set_option maxRecDepth 100000 in
theorem siteRide (s : Site) (f : Int) (h0 : 0 ≤ f) (h1 : f ≤ 64) (hs : 0 ≤ s.start ∧ s.start ≤ 1000 ∧ 0 ≤ s.step ∧ s.step ≤ 1000 ∧ 0 ≤ s.stop ∧ s.stop ≤ 1000) (w : World) :
    Calls Try.prog 110 #[siteV s, .int .i64 f] w fun e w' => e = .returned (.int .i64 (s.start + s.step * f + s.stop)) ∧ Below w.heap.size w w' := by
  obtain ⟨s1, s2, s3, s4, s5, s6⟩ := hs
  have p0 : 0 ≤ s.step * f := Int.mul_nonneg s3 h0
  have p1 : s.step * f ≤ 1000 * 64 := Int.mul_le_mul s4 h1 h0 (by omega)
  have C0 : Ctx w none (fun _ => none) (fun _ => none) [] w := Ctx.start (fun _ _ h => by cases h)
  go_enter Try.func110, Try.ntmps110
  go_wp2_with (first | ((with_reducible refine gate ?_); first | (refine ev_boxT rfl rfl (by go_simp; rfl) ?_; intro g1 w1 C1)))
  have HM := Lib.hid (still_of (P := Try.prog) fun w => numMul s.step f s3 (by omega) h0 (by omega) (by omega) w)
  refine ev_still 8 (by kernel_rfl) (by kernel_rfl) fun w2 C2 => ?_
  clear C1
  simp only [List.take_succ_cons, List.take_zero, List.drop_succ_cons, List.drop_zero]
  repeat still_step
  still_call (HM.out _)
  repeat still_step
  refine wpStill_nil ?_
  go_wp2_with fail
  refine (numSum _ 3 [s.start, s.step * f, s.stop] (hp _) _ (PLe.refl _) (Rd.ints (heap_alloc_new _ _) rfl (by simp) (by simp))).mono ?_
  rintro e w3 ⟨rfl, rfl⟩
  have hS : sumL [s.start, s.step * f, s.stop] = s.start + s.step * f + s.stop := by
    simp only [sumL, List.foldl_cons, List.foldl_nil]
    rw [lim_id (a := 0) (by omega) (by omega), lim_id (a := s.start) (by omega) (by omega), lim_id (a := 0 + s.start) (by omega) (by omega), lim_id (a := 0 + s.start) (by omega) (by omega), lim_id (a := s.step * f) (by omega) (by omega), lim_id (a := s.stop) (by omega) (by omega)]
    rw [lim_id (a := 0 + s.start + s.step * f) (by omega) (by omega), lim_id (a := 0 + s.start + s.step * f) (by omega) (by omega), lim_id (by omega) (by omega)]
    omega
  rw [hS]
  have hB := C2.bel.alloc C2.bel.size (.cells #[.int .i64 s.start, .int .i64 (s.step * f), .int .i64 s.stop] 3)
  clear hS
  go_wp2
  go_ret
  exact ⟨rfl, hB⟩

theorem within_lit {a b c : Int} {r : Bool} (h : (decide (b ≤ a) && decide (a ≤ c)) = r) (w : World) : Calls Try.prog 105 #[.int .i64 a, .int .i64 b, .int .i64 c] w fun e w' => e = .returned (.bool r) ∧ w = w' := by
  rw [← h]; exact within_any a b c w
/-- The ticks from one floor to another one. -/
def travel (s : Site) (a b : Int) : Int := if a = b ∨ ¬ (0 ≤ a ∧ a < s.floors) ∨ ¬ (0 ≤ b ∧ b < s.floors) then 0 else s.start + s.step * (if a < b then b - a else a - b) + s.stop
set_option maxRecDepth 100000 in
theorem siteTravel (s : Site) (a b : Int) (hf : 0 ≤ s.floors ∧ s.floors ≤ 64) (hs : 0 ≤ s.start ∧ s.start ≤ 1000 ∧ 0 ≤ s.step ∧ s.step ≤ 1000 ∧ 0 ≤ s.stop ∧ s.stop ≤ 1000) (w : World) :
    Calls Try.prog 84 #[siteV s, .int .i64 a, .int .i64 b] w fun e w' => e = .returned (.int .i64 (travel s a b)) ∧ Below w.heap.size w w' := by
  have C0 : Ctx w none (fun _ => none) (fun _ => none) [] w := Ctx.start (fun _ _ h => by cases h)
  obtain ⟨hf0, hf1⟩ := hf
  by_cases hab : a = b
  · have ht : travel s a b = 0 := by unfold travel; rw [if_pos (.inl hab)]
    have he : (a == b) = true := by simpa using hab
    rw [ht]
    clear ht hab
    go_enter Try.func84, Try.ntmps84
    go_wp2_with (first | ((with_reducible refine gate ?_); first | (refine ev_loadS (ty := 23) (siteC s).toList rfl rfl rfl Try.underlying23 rfl (by kernel_rfl) rfl ?_) | (refine ev_boxT rfl rfl (by go_simp; rfl) ?_; intro g1 w1 C1)))
    go_ret
    exact ⟨rfl, C1.bel⟩
  have he : (a == b) = false := by simpa using hab
  by_cases ha : 0 ≤ a ∧ a < s.floors
  · have H1 := Lib.hid fun w => within_lit (a := a) (b := 0) (c := s.floors - 1) (r := true) (by simp; omega) w
    by_cases hb : 0 ≤ b ∧ b < s.floors
    · have H2 := Lib.hid fun w => within_lit (a := b) (b := 0) (c := s.floors - 1) (r := true) (by simp; omega) w
      by_cases hlt : a < b
      · have ht : travel s a b = s.start + s.step * (b - a) + s.stop := by unfold travel; rw [if_neg (by omega), if_pos hlt]
        have H3 := Lib.hid fun w => siteRide s (b - a) (by omega) (by omega) hs w
        rw [ht]
        clear ht hab
        go_enter Try.func84, Try.ntmps84
        go_wp2_with (first | ((with_reducible refine gate ?_); first | (refine ev_loadS (ty := 23) (siteC s).toList rfl rfl rfl Try.underlying23 rfl (by kernel_rfl) rfl ?_) | (refine ev_boxT rfl rfl (by go_simp; rfl) ?_; intro g1 w1 C1)) | (go_at_call 105; first | (refine (H1.out _).mono ?_; clear H1; rintro e w2 ⟨rfl, rfl⟩) | (refine (H2.out _).mono ?_; clear H2; rintro e w2 ⟨rfl, rfl⟩)) | (go_at_call 110; refine (H3.out _).mono ?_; clear H3; rintro e w3 ⟨rfl, hb3⟩; have C3 := C1.keep hb3; clear C1 hb3))
        go_ret
        exact ⟨rfl, C3.bel⟩
      · have ht : travel s a b = s.start + s.step * (a - b) + s.stop := by unfold travel; rw [if_neg (by omega), if_neg hlt]
        have H3 := Lib.hid fun w => siteRide s (a - b) (by omega) (by omega) hs w
        rw [ht]
        clear ht hab
        go_enter Try.func84, Try.ntmps84
        go_wp2_with (first | ((with_reducible refine gate ?_); first | (refine ev_loadS (ty := 23) (siteC s).toList rfl rfl rfl Try.underlying23 rfl (by kernel_rfl) rfl ?_) | (refine ev_boxT rfl rfl (by go_simp; rfl) ?_; intro g1 w1 C1)) | (go_at_call 105; first | (refine (H1.out _).mono ?_; clear H1; rintro e w2 ⟨rfl, rfl⟩) | (refine (H2.out _).mono ?_; clear H2; rintro e w2 ⟨rfl, rfl⟩)) | (go_at_call 110; refine (H3.out _).mono ?_; clear H3; rintro e w3 ⟨rfl, hb3⟩; have C3 := C1.keep hb3; clear C1 hb3))
        go_ret
        exact ⟨rfl, C3.bel⟩
    · have ht : travel s a b = 0 := by unfold travel; rw [if_pos (.inr (.inr hb))]
      have H2 := Lib.hid fun w => within_lit (a := b) (b := 0) (c := s.floors - 1) (r := false) (by simp; omega) w
      rw [ht]
      clear ht hab
      go_enter Try.func84, Try.ntmps84
      go_wp2_with (first | ((with_reducible refine gate ?_); first | (refine ev_loadS (ty := 23) (siteC s).toList rfl rfl rfl Try.underlying23 rfl (by kernel_rfl) rfl ?_) | (refine ev_boxT rfl rfl (by go_simp; rfl) ?_; intro g1 w1 C1)) | (go_at_call 105; first | (refine (H1.out _).mono ?_; clear H1; rintro e w2 ⟨rfl, rfl⟩) | (refine (H2.out _).mono ?_; clear H2; rintro e w2 ⟨rfl, rfl⟩)))
      go_ret
      exact ⟨rfl, C1.bel⟩
  · have ht : travel s a b = 0 := by unfold travel; rw [if_pos (.inr (.inl ha))]
    have H1 := Lib.hid fun w => within_lit (a := a) (b := 0) (c := s.floors - 1) (r := false) (by simp; omega) w
    rw [ht]
    clear ht hab
    go_enter Try.func84, Try.ntmps84
    go_wp2_with (first | ((with_reducible refine gate ?_); first | (refine ev_loadS (ty := 23) (siteC s).toList rfl rfl rfl Try.underlying23 rfl (by kernel_rfl) rfl ?_) | (refine ev_boxT rfl rfl (by go_simp; rfl) ?_; intro g1 w1 C1)) | (go_at_call 105; refine (H1.out _).mono ?_; clear H1; rintro e w2 ⟨rfl, rfl⟩))
    go_ret
    exact ⟨rfl, C1.bel⟩
end Go.Proofs.Ytomfgggomjbnfaa
