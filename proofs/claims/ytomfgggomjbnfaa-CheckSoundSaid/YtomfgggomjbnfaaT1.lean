/- The walks of what asks a row of truths; of the document's answer for sites and travel. -/
import Derived.Test.YtomfgggomjbnfaaT0
import Derived.Test.YtomfgggomjbnfaaE
import Derived.Outline
set_option linter.unusedVariables false
set_option linter.unusedSimpArgs false
namespace Go.Proofs.Ytomfgggomjbnfaa
open Go.RowKit Go.Sep
attribute [local go_sem] cell_ctx frozen_ctx cell_fz
theorem idx_true : True := trivial
/-- Where a truth stands first. -/
def idxB (x : Bool) : List Bool → Int → Int
  | [], _ => -1
  | y :: l, k => if x = y then k else idxB x l (k + 1)
theorem idxB_mem (x : Bool) (l : List Bool) : ∀ k : Int, 0 ≤ k → (0 ≤ idxB x l k ↔ x ∈ l) := by
  induction l with
  | nil => intro k _; simp [idxB]
  | cons y l ih =>
    intro k hk
    by_cases e : x = y
    · subst e; simp [idxB, hk]
    · simp only [idxB, if_neg e, List.mem_cons, e, false_or]
      exact ih (k + 1) (by omega)
theorem idxB_ge (x : Bool) (l : List Bool) : decide (0 ≤ idxB x l 0) = l.contains x := by
  rw [Bool.eq_iff_iff]
  simp [idxB_mem x l 0 (Int.le_refl _)]
theorem idxB_drop (x : Bool) (l : List Bool) (k : Nat) (h : ∀ j (hj : j < l.length), j < k → x ≠ l[j]) (hk : k ≤ l.length) : idxB x l 0 = idxB x (l.drop k) k := by
  have : ∀ (k : Nat) (l : List Bool) (s : Int), k ≤ l.length → (∀ j (hj : j < l.length), j < k → x ≠ l[j]) → idxB x l s = idxB x (l.drop k) (s + k) := by
    intro k
    induction k with
    | zero => intro l s _ _; simp
    | succ k ih =>
      intro l s hk h
      cases l with
      | nil => simp at hk
      | cons y l =>
        have h0 := h 0 (by simp) (by omega)
        simp only [List.getElem_cons_zero] at h0
        simp only [idxB, if_neg h0, List.drop_succ_cons]
        rw [ih l (s + 1) (by simpa using hk) (fun j hj hjk => by have := h (j + 1) (by simpa using hj) (by omega); simpa using this)]
        congr 1
        omega
  simpa using this k l 0 hk h
set_option maxRecDepth 100000 in
theorem indexBool (A : Option Addr) (c : Nat) (xs : List Bool) (b : Bool) (O : PH) (w : World) (hO : PLe O (hp w)) (r : Rd kBool O (.slice A xs.length c) xs) :
    Calls Try.prog 106 #[.slice A xs.length c, .bool b] w fun e w' => e = .returned (.int .i64 (idxB b xs 0)) ∧ w = w' := by
  have hl := r.len
  go_enter Try.func106, Try.ntmps106
  go_wp2_with fail
  go_loopw [4, 5, 8, 9, 10, 11, 12, 13, 14, 15, 16, 17, 18] (fun _ _ t8 _ _ _ _ _ _ _ _ _ _ wr => ∃ k : Nat, k ≤ xs.length ∧ t8 = .int .i64 k ∧ Hid (∀ j (hj : j < xs.length), j < k → b ≠ xs[j]) ∧ w = wr) (fun _ _ t8 _ _ _ _ _ _ _ _ _ _ _ => xs.length - (intOf t8).toNat)
  case atStart => exact ⟨0, Nat.zero_le _, rfl, Lib.hid (fun j hj h => absurd h (by omega)), rfl⟩
  case round =>
    obtain ⟨k, hk, rfl, hal, rfl⟩ := hrel
    by_cases hlt : k < xs.length
    · obtain ⟨b1, off, c', cs, e1, rfl, hc⟩ := r.at_ hO k hlt
      cases e1
      have c0 := hc 0 _ rfl
      simp only [show kBool.sz = 1 from rfl, Nat.mul_one, Nat.add_zero] at c0
      obtain ⟨y, hy⟩ : ∃ y, xs[k] = y := ⟨_, rfl⟩
      rw [hy] at c0
      have HY := Lib.hid hy
      clear hc hy r hO
      cases b <;> cases y
      all_goals
        go_wp2
        first
        | (go_ret
           refine ⟨ret_int ?_, rfl⟩
           rw [idxB_drop _ xs k hal.out hk, List.drop_eq_getElem_cons hlt, HY.out]; simp [idxB]; done)
        | (go_roundw
           case rel =>
             refine ⟨k + 1, by omega, by go_num, Lib.hid (fun j hj hjk => ?_), by first | trivial | rfl⟩
             by_cases e : j = k
             · subst e; rw [HY.out]; decide
             · exact hal.out j hj (by omega)
           case measure => simp [intOf]; omega)
    · go_wp2
      go_ret
      refine ⟨ret_int ?_, rfl⟩
      rw [idxB_drop _ xs k hal.out hk, List.drop_eq_nil_of_le (by omega)]
      rfl
theorem containsBool (A : Option Addr) (c : Nat) (xs : List Bool) (b : Bool) (O : PH) (w : World) (hO : PLe O (hp w)) (r : Rd kBool O (.slice A xs.length c) xs) :
    Calls Try.prog 76 #[.slice A xs.length c, .bool b] w fun e w' => e = .returned (.bool (xs.contains b)) ∧ w = w' := by
  have H := Lib.hid (indexBool A c xs b O w hO r)
  have E := Lib.hid (idxB_ge b xs)
  clear r hO
  go_enter Try.func76, Try.ntmps76
  go_wp2_with (go_at_call 106; refine H.out.mono ?_; rintro e w' ⟨rfl, rfl⟩)
  go_ret
  exact ⟨ret_bool E.out, rfl⟩
set_option maxRecDepth 100000 in
theorem refMay (s : Snap) (v1 : Value) (h4 : v1.oneCell' = true) (A3 : Option Addr) (c3 : Nat) (O : PH) (w : World) (hO : PLe O (hp w)) (r3 : Rd kWant O (.slice A3 s.wants.length c3) s.wants) (i : Nat) (hi : i < s.wants.length) (c : Nat) (hc : c < 64)
    (h0 : 0 ≤ s.wants[i].cars) (h1 : s.wants[i].cars < 256) :
    Calls Try.prog 42 #[snapV s.site v1 (.slice A3 s.wants.length c3), .int .i64 i, .int .i64 c] w fun e w' => e = .returned (.bool (mayB s.wants[i] c)) ∧ Below w.heap.size w w' := by
  have C0 := Ctx.start hO
  obtain ⟨b2, o2, rfl, q0, q1⟩ := fzWant r3 i hi
  obtain ⟨n, hn⟩ : ∃ n, s.wants[i].cars = n := ⟨_, rfl⟩
  rw [hn] at q1 h0 h1
  have HN := Lib.hid hn
  clear r3 hO hn
  go_enter Try.func42, Try.ntmps42
  go_wp2_with (first | ((with_reducible refine gBox 27 ?_); refine ev_boxT (t := 27) rfl rfl (by go_simp; rfl) ?_; intro g1 w1 C1; clear C0))
  go_loopw [7, 8, 15, 16, 17, 18, 19, 20, 21] (fun t7 t8 _ _ _ _ _ _ _ wr => ∃ k : Nat, k ≤ c ∧ t8 = .int .i64 k ∧ t7 = .int .i64 (n / 2 ^ k) ∧ Ctx w none O O [Cells g1 27 (snapC s.site v1 (.slice (some ⟨b2, o2, none⟩) s.wants.length c3))] wr) (fun _ t8 _ _ _ _ _ _ _ _ => c - (intOf t8).toNat)

  case atStart => exact ⟨0, Nat.zero_le _, rfl, by simp, C1⟩
  case round =>
    clear C1
    obtain ⟨k, hk, rfl, rfl, C⟩ := hrel
    have hd : 0 ≤ n / 2 ^ k ∧ n / 2 ^ k ≤ n := ⟨Int.ediv_nonneg h0 (by apply Int.le_of_lt; exact Int.pow_pos (by omega)), Int.ediv_le_self _ h0⟩
    have hs : n / 2 ^ (k + 1) = n / 2 ^ k / 2 := by rw [Int.pow_succ, Int.ediv_ediv_of_nonneg (by apply Int.le_of_lt; exact Int.pow_pos (by omega))]
    obtain ⟨m, hm⟩ : ∃ m, n / 2 ^ k = m := ⟨_, rfl⟩
    rw [hm] at hd hs ⊢
    obtain ⟨hd1, hd2⟩ := hd
    have HS := Lib.hid hs
    have HM := Lib.hid hm
    clear hs hm
    by_cases hlt : k < c
    · go_wp2
      go_roundw
      case rel => exact ⟨k + 1, by omega, by go_num, by rw [HS.out], C⟩
      case measure => simp [intOf]; omega
    · go_wp2
      go_ret
      obtain rfl : k = c := by omega
      refine ⟨ret_bool ?_, C.bel⟩
      unfold mayB
      rw [HN.out, Int.toNat_natCast, HM.out]
      rw [Bool.eq_iff_iff]; simp
set_option maxRecDepth 100000 in
theorem refTravel_no (s : Site) (a b : Int) (h : a < 0 ∨ b < 0 ∨ s.floors ≤ a ∨ s.floors ≤ b ∨ a = b) (w : World) :
    Calls Try.prog 58 #[siteV s, .int .i64 a, .int .i64 b] w fun e w' => e = .returned (.int .i64 0) ∧ Below w.heap.size w w' := by
  have C0 := Ctx.start (PLe.refl (hp w))
  have H := Lib.hid h
  clear h
  go_enter Try.func58, Try.ntmps58
  go_wp2_with (first | ((with_reducible refine gBox 23 ?_); refine ev_boxT (t := 23) rfl rfl (by go_simp; rfl) ?_; intro g1 w1 C1; clear C0))
  all_goals first
    | (go_ret; exact ⟨rfl, C1.bel⟩)
    | (exfalso; obtain ⟨_, hb2⟩ : (((0 ≤ a ∧ 0 ≤ b) ∧ a < s.floors) ∧ b < s.floors) ∧ (a == b) = false := by assumption
       have hb3 : a ≠ b := by simpa using hb2
       have := H.out
       omega)
set_option maxRecDepth 100000 in
theorem refTravel_yes (s : Site) (a b : Int) (h : 0 ≤ a ∧ 0 ≤ b ∧ a < s.floors ∧ b < s.floors ∧ a ≠ b) (hf : s.floors ≤ 64) (h1 : 0 ≤ s.start ∧ s.start ≤ 1000) (h2 : 0 ≤ s.step ∧ s.step ≤ 1000) (h3 : 0 ≤ s.stop ∧ s.stop ≤ 1000) (w : World) :
    Calls Try.prog 58 #[siteV s, .int .i64 a, .int .i64 b] w fun e w' => e = .returned (.int .i64 (s.start + s.step * (if a < b then b - a else a - b) + s.stop)) ∧ Below w.heap.size w w' := by
  have C0 := Ctx.start (PLe.refl (hp w))
  obtain ⟨k1, k2, k3, k4, k5⟩ := h
  obtain ⟨k6, k7⟩ := h1
  obtain ⟨k8, k9⟩ := h2
  obtain ⟨k10, k11⟩ := h3
  have n1 : ¬ a < 0 := by omega
  have n2 : ¬ b < 0 := by omega
  have n3 : ¬ s.floors ≤ a := by omega
  have n4 : ¬ s.floors ≤ b := by omega
  obtain ⟨p, hq⟩ : ∃ p, s.step = p := ⟨_, rfl⟩
  have HP := Lib.hid hq
  rw [hq] at k8 k9
  go_enter Try.func58, Try.ntmps58
  go_wp2_with (first | ((with_reducible refine gBox 23 ?_); refine ev_boxT (t := 23) rfl rfl (by go_simp; rfl) ?_; intro g1 w1 C1; clear C0))
  go_loopw [1, 7, 36, 37, 38, 39, 40, 41, 42, 43, 44] (fun t1 t7 _ _ _ _ _ _ _ _ _ wr => ∃ (k : Nat) (v : Int), a + k ≤ max a b ∧ t1 = .int .i64 (a + k) ∧ t7 = .int .i64 v ∧ Hid (v = s.start + s.stop + p * k) ∧ 0 ≤ v ∧ v ≤ 2000 + 1000 * k ∧ Ctx w none (hp w) (hp w) [Cells g1 23 (siteC s)] wr) (fun t1 _ _ _ _ _ _ _ _ _ _ _ => (b - intOf t1).toNat)
  case atStart => exact ⟨0, _, by omega, by simp, rfl, Lib.hid (by simp), by omega, by omega, C1⟩
  case round =>
    clear C1
    obtain ⟨k, v, hk, rfl, rfl, HV, v0, v1, C⟩ := hrel
    by_cases hlt : a + k < b
    · go_wp2
      go_roundw
      case rel => exact ⟨k + 1, v + p, by omega, by go_num, rfl, Lib.hid (by have := HV.out; rw [this, Int.natCast_add, Int.mul_add]; omega), by omega, by omega, C⟩
      case measure => simp [intOf]; omega
    obtain ⟨x, hx⟩ : ∃ x : Int, (k : Int) = x := ⟨_, rfl⟩
    obtain ⟨y, hy⟩ : ∃ y : Int, a + k = y := ⟨_, rfl⟩
    rw [hx] at HV
    rw [hx] at v1
    rw [hy] at hlt ⊢
    rw [hy] at hk
    have y0 : y = max a b := by omega
    have y1 : 0 ≤ y := by omega
    have y2 : y ≤ 64 := by omega
    have x0 : 0 ≤ x := by omega
    have x1 : x + a = y := by omega
    have x2 : x ≤ 64 := by omega
    have HX := Lib.hid x1
    have HY := Lib.hid y0
    clear hx hy x1 y0
    go_wp2_with fail
    go_loopw [1, 7, 45, 46, 47, 48, 49, 50, 51, 52, 53] (fun t1 t7 _ _ _ _ _ _ _ _ _ wr => ∃ (k : Nat) (v : Int), b ≤ y - k ∧ t1 = .int .i64 (y - k) ∧ t7 = .int .i64 v ∧ Hid (v = s.start + s.stop + p * (x + k)) ∧ 0 ≤ v ∧ v ≤ 2000 + 1000 * (x + k) ∧ Ctx w none (hp w) (hp w) [Cells g1 23 (siteC s)] wr) (fun t1 _ _ _ _ _ _ _ _ _ _ _ => (intOf t1 - b).toNat)
    case atStart => exact ⟨0, v, by omega, by simp, rfl, Lib.hid (by simpa using HV.out), by omega, by omega, C⟩
    case round =>
      clear C HV v0 v1
      obtain ⟨j, u, hj, rfl, rfl, HU, u0, u1, C⟩ := hrel
      by_cases hlt2 : b < y - j
      · go_wp2
        go_roundw
        case rel => exact ⟨j + 1, u + p, by omega, by go_num, rfl, Lib.hid (by have := HU.out; rw [this, Int.natCast_add, ← Int.add_assoc, Int.mul_add p (x + j)]; omega), by omega, by omega, C⟩
        case measure => simp [intOf]; omega
      · go_wp2
        all_goals
          go_ret
          refine ⟨ret_int ?_, C.bel⟩
          have e1 := HX.out
          have e2 := HY.out
          rw [HU.out]
          first
          | (rw [show x + (j : Int) = b - a by omega]; omega)
          | (rw [show x + (j : Int) = a - b by omega]; omega)
theorem refTravel (s : Site) (hs : siteB s = true) (a b : Int) (w : World) :
    Calls Try.prog 58 #[siteV s, .int .i64 a, .int .i64 b] w fun e w' => e = .returned (.int .i64 (travel s a b)) ∧ Below w.heap.size w w' := by
  obtain ⟨⟨_, h0⟩, h1, h2, h3, h4, h5, h6⟩ := site_travel hs
  unfold travel
  split
  · rename_i h
    exact refTravel_no s a b (by omega) w
  · rename_i h
    exact refTravel_yes s a b (by omega) h0 ⟨h1, h2⟩ ⟨h3, h4⟩ ⟨h5, h6⟩ w
end Go.Proofs.Ytomfgggomjbnfaa
