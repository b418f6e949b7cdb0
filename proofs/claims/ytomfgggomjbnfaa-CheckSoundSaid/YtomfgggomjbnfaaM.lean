/- May a car serve a want. -/
import Derived.Test.YtomfgggomjbnfaaK
import Derived.Outline
set_option linter.unusedVariables false
set_option linter.unusedSimpArgs false
namespace Go.Proofs.Ytomfgggomjbnfaa
open Go.RowKit Go.Sep
attribute [local go_sem] cell_ctx frozen_ctx
theorem wrapI_pow {m : Int} (h0 : 0 ≤ m) (h1 : m ≤ 8) : IntKind.i64.wrap (2 ^ m.toNat) = 2 ^ m.toNat := by
  have : m = 0 ∨ m = 1 ∨ m = 2 ∨ m = 3 ∨ m = 4 ∨ m = 5 ∨ m = 6 ∨ m = 7 ∨ m = 8 := by omega
  rcases this with rfl | rfl | rfl | rfl | rfl | rfl | rfl | rfl | rfl <;> decide +kernel
theorem i64_and_nat (a b : Nat) (ha : a < 9223372036854775808) (hb : b < 9223372036854775808) : bits .and .i64 (a : Int) (b : Int) = ((a &&& b : Nat) : Int) := by
  have hx : a &&& b < 2 ^ 63 := Nat.and_lt_two_pow _ (by omega)
  have h1 : (BitVec.ofInt 64 (a : Int)).toNat = a := by rw [BitVec.ofInt_natCast, BitVec.toNat_ofNat]; exact Nat.mod_eq_of_lt (by omega)
  have h2 : (BitVec.ofInt 64 (b : Int)).toNat = b := by rw [BitVec.ofInt_natCast, BitVec.toNat_ofNat]; exact Nat.mod_eq_of_lt (by omega)
  show IntKind.i64.wrap ((BitVec.ofInt 64 (a : Int) &&& BitVec.ofInt 64 (b : Int)).toNat : Int) = _
  rw [BitVec.toNat_and, h1, h2, IntKind.wrap_i64]
  omega
/-- May the car serve the want? -/
def mayB (x : Want) (c : Int) : Bool := decide (x.cars / 2 ^ c.toNat % 2 = 1)
theorem and_one {n : Int} (h0 : 0 ≤ n) (h1 : n < 9223372036854775808) : bits .and .i64 n 1 = n % 2 := by
  obtain ⟨k, rfl⟩ := Int.eq_ofNat_of_zero_le h0
  have := i64_and_nat k 1 (by omega) (by omega)
  rw [show ((1 : Nat) : Int) = 1 from rfl] at this
  rw [this, Nat.and_one_is_mod]; omega
theorem and_shl {n : Int} (h0 : 0 ≤ n) (h1 : n < 9223372036854775808) {c : Nat} (hc : c < 62) : (bits .and .i64 n (2 ^ c) != 0) = decide (n / 2 ^ c % 2 = 1) := by
  obtain ⟨k, rfl⟩ := Int.eq_ofNat_of_zero_le h0
  have hp : 2 ^ c < 2 ^ 62 := Nat.pow_lt_pow_right (by omega) hc
  have := i64_and_nat k (2 ^ c) (by omega) (by omega)
  rw [show (((2 ^ c : Nat)) : Int) = 2 ^ c by simp] at this
  rw [this]
  have hpos : 0 < 2 ^ c := Nat.pos_of_ne_zero (by simp)
  have hz : (k &&& 2 ^ c = 0) ↔ ¬ (k / 2 ^ c % 2 = 1) := by
    have ht := Nat.testBit_eq_decide_div_mod_eq (x := k) (i := c)
    constructor
    · intro h h'
      have := congrArg (fun n => n.testBit c) h
      simp [Nat.testBit_and, ht, h'] at this
    · intro h
      refine Nat.eq_of_testBit_eq fun i => ?_
      rw [Nat.testBit_and, Nat.testBit_two_pow]
      by_cases e : c = i
      · subst e; simp [ht, h]
      · simp [e]
  have e : ((k : Int) / 2 ^ c % 2 = 1) ↔ (k / 2 ^ c % 2 = 1) := by
    rw [show ((2 : Int) ^ c) = ((2 ^ c : Nat) : Int) by simp]; omega
  rw [Bool.eq_iff_iff, bne_iff_ne, decide_eq_true_eq, e]
  constructor
  · intro h; by_cases h' : k / 2 ^ c % 2 = 1
    · exact h'
    · exact absurd (by rw [hz.2 h']; rfl) h
  · intro h h'
    exact hz.1 (by omega) h
set_option maxRecDepth 100000 in
theorem planMay (s : Snap) (v1 : Value) (A2 : Option Addr) (c2 : Nat) (O : PH) (w : World) (hO : PLe O (hp w)) (r2 : Rd kWant O (.slice A2 s.wants.length c2) s.wants) (i : Nat) (hi : i < s.wants.length) (c : Int) (hc0 : 0 ≤ c) (hc : c < 8)
    (hx0 : 0 ≤ s.wants[i].cars) (hx : s.wants[i].cars < 256) :
    Calls Try.prog 75 #[snapV s.site v1 (.slice A2 s.wants.length c2), .int .i64 i, .int .i64 c] w fun e w' => e = .returned (.bool (mayB s.wants[i] c)) ∧ Below w.heap.size w w' := by
  have C0 := Ctx.start hO
  have hl := r2.len
  obtain ⟨b, off, c', cs, e1, rfl, hcell⟩ := r2.at_ hO i hi
  cases e1
  have k1 := hcell 1 _ rfl
  simp only [show kWant.sz = 2 from rfl] at k1
  have kb := World.block_lt_of_cell? w _ k1
  clear hcell r2 hO
  obtain ⟨x, hxx⟩ : ∃ x, s.wants[i].cars = x := ⟨_, rfl⟩
  have hm : mayB s.wants[i] c = decide (x / 2 ^ c.toNat % 2 = 1) := by unfold mayB; rw [hxx]
  rw [hm]
  rw [hxx] at k1 hx hx0
  clear hxx hm
  have key : (bits BinOp.and .i64 (x / 2 ^ c.toNat) 1 == 1) = decide (x / 2 ^ c.toNat % 2 = 1) := by
    have h1 : 0 ≤ x / 2 ^ c.toNat := Int.ediv_nonneg hx0 (by exact Int.pow_nonneg (by omega))
    have h2 : x / 2 ^ c.toNat ≤ x := Int.ediv_le_self _ hx0
    rw [and_one h1 (by omega), Bool.eq_iff_iff]; simp
  have HK := Lib.hid key
  clear key
  go_enter Try.func75, Try.ntmps75
  go_wp2_with (first | ((with_reducible refine gate ?_); first | (refine ev_boxT (t := 27) rfl rfl (by go_simp; rfl) ?_; intro g1 w1 C1; replace k1 := (C1.bel.cell kb).trans k1)))
  go_ret
  exact ⟨ret_bool HK.out, C1.bel⟩
set_option maxRecDepth 100000 in
theorem checkMay (s : Snap) (v1 : Value) (A2 : Option Addr) (c2 : Nat) (O : PH) (w : World) (hO : PLe O (hp w)) (r2 : Rd kWant O (.slice A2 s.wants.length c2) s.wants) (i : Nat) (hi : i < s.wants.length) (c : Int) (hc0 : 0 ≤ c) (hc : c < 8)
    (hx0 : 0 ≤ s.wants[i].cars) (hx : s.wants[i].cars < 256) :
    Calls Try.prog 81 #[snapV s.site v1 (.slice A2 s.wants.length c2), .int .i64 i, .int .i64 c] w fun e w' => e = .returned (.bool (mayB s.wants[i] c)) ∧ Below w.heap.size w w' := by
  have C0 := Ctx.start hO
  have hl := r2.len
  obtain ⟨b, off, c', cs, e1, rfl, hcell⟩ := r2.at_ hO i hi
  cases e1
  have k1 := hcell 1 _ rfl
  simp only [show kWant.sz = 2 from rfl] at k1
  have kb := World.block_lt_of_cell? w _ k1
  clear hcell r2 hO
  obtain ⟨x, hxx⟩ : ∃ x, s.wants[i].cars = x := ⟨_, rfl⟩
  have hm : mayB s.wants[i] c = decide (x / 2 ^ c.toNat % 2 = 1) := by unfold mayB; rw [hxx]
  rw [hm]
  rw [hxx] at k1 hx hx0
  clear hxx hm
  have key : (bits BinOp.and .i64 x (IntKind.i64.wrap (2 ^ c.toNat)) != 0) = decide (x / 2 ^ c.toNat % 2 = 1) := by
    rw [wrapI_pow hc0 (by omega)]
    exact and_shl hx0 (by omega) (by omega)
  have HK := Lib.hid key
  clear key
  go_enter Try.func81, Try.ntmps81
  go_wp2_with (first | ((with_reducible refine gate ?_); first | (refine ev_boxT (t := 27) rfl rfl (by go_simp; rfl) ?_; intro g1 w1 C1)))
  refine ev_quietAll (by kernel_rfl) (by kernel_rfl) ?_
  clear C1
  (apply q_val rfl; (intro W CW; go_simp; rfl); (dsimp only [Act.put]; simp only [List.setIfInBounds_toArray, List.set_cons_succ, List.set_cons_zero]))
  (apply q_val rfl; (intro W CW; go_simp; rfl); (dsimp only [Act.put]; simp only [List.setIfInBounds_toArray, List.set_cons_succ, List.set_cons_zero]))
  (apply q_val rfl; (intro W CW; go_simp; rfl); (dsimp only [Act.put]; simp only [List.setIfInBounds_toArray, List.set_cons_succ, List.set_cons_zero]))
  (apply q_val rfl; (intro W CW; go_simp; rfl); (dsimp only [Act.put]; simp only [List.setIfInBounds_toArray, List.set_cons_succ, List.set_cons_zero]))
  (apply q_val rfl; (intro W CW; go_simp; rfl); (dsimp only [Act.put]; simp only [List.setIfInBounds_toArray, List.set_cons_succ, List.set_cons_zero]))
  (apply q_val rfl; (intro W CW; have k1 := (CW.bel.cell kb).trans k1; go_simp; rfl); (dsimp only [Act.put]; simp only [List.setIfInBounds_toArray, List.set_cons_succ, List.set_cons_zero]))
  (apply q_val rfl; (intro W CW; go_simp; rfl); (dsimp only [Act.put]; simp only [List.setIfInBounds_toArray, List.set_cons_succ, List.set_cons_zero]))
  (apply q_val rfl; (intro W CW; go_simp; rfl); (dsimp only [Act.put]; simp only [List.setIfInBounds_toArray, List.set_cons_succ, List.set_cons_zero]))
  (apply q_val rfl; (intro W CW; go_simp; rfl); (dsimp only [Act.put]; simp only [List.setIfInBounds_toArray, List.set_cons_succ, List.set_cons_zero]))
  (apply q_val rfl; (intro W CW; go_simp; rfl); (dsimp only [Act.put]; simp only [List.setIfInBounds_toArray, List.set_cons_succ, List.set_cons_zero]))
  (apply q_val rfl; (intro W CW; go_simp; rfl); (dsimp only [Act.put]; simp only [List.setIfInBounds_toArray, List.set_cons_succ, List.set_cons_zero]))
  refine wpQuiet_nil fun w4 C4 => ?_
  go_wp2
  go_ret
  exact ⟨ret_bool HK.out, C4.bel⟩
end Go.Proofs.Ytomfgggomjbnfaa
