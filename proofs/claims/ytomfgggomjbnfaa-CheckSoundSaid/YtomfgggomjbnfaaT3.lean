/- The walks of Great, and of what takes bytes off others. -/
import Derived.Test.YtomfgggomjbnfaaT1
import Derived.Outline
set_option linter.unusedVariables false
set_option linter.unusedSimpArgs false
namespace Go.Proofs.Ytomfgggomjbnfaa
open Go.RowKit Go.Sep
attribute [local go_sem] cell_ctx frozen_ctx cell_fz
def greatB (s : Snap) : Bool := decide (20 < s.cars.length) || decide (200 < s.wants.length)
set_option maxRecDepth 100000 in
theorem lawGreat (s : Snap) (A2 A3 : Option Addr) (c2 c3 : Nat) (w : World) (hc : s.cars.length ≤ 140737488355328) (hw : s.wants.length ≤ 140737488355328) :
    Calls Try.prog 14 #[snapV s.site (.slice A2 s.cars.length c2) (.slice A3 s.wants.length c3), .slice none 0 0] w fun e w' => e = .returned (.bool (greatB s)) ∧ Below w.heap.size w w' := by
  have C0 := Ctx.start (PLe.refl (hp w))
  unfold greatB
  by_cases h1 : 20 < s.cars.length
  · have h1b : decide (20 < s.cars.length) = true := by simpa using h1
    go_enter Try.func14, Try.ntmps14
    go_wp2_with (first | ((with_reducible refine gBox 27 ?_); refine ev_boxT (t := 27) rfl rfl (by go_simp; rfl) ?_; intro g1 w1 C1; clear C0))
    go_ret
    exact ⟨ret_bool (by simp [h1]), C1.bel⟩
  · have h1b : decide (20 < s.cars.length) = false := by simpa using h1
    by_cases h2 : 200 < s.wants.length
    · have h2b : decide (200 < s.wants.length) = true := by simpa using h2
      go_enter Try.func14, Try.ntmps14
      go_wp2_with (first | ((with_reducible refine gBox 27 ?_); refine ev_boxT (t := 27) rfl rfl (by go_simp; rfl) ?_; intro g1 w1 C1; clear C0))
      go_ret
      exact ⟨ret_bool (by simp [h2]), C1.bel⟩
    · have h2b : decide (200 < s.wants.length) = false := by simpa using h2
      go_enter Try.func14, Try.ntmps14
      go_wp2_with (first | ((with_reducible refine gBox 27 ?_); refine ev_boxT (t := 27) rfl rfl (by go_simp; rfl) ?_; intro g1 w1 C1; clear C0))
      go_loopw [4, 6, 24, 25, 26, 27, 28, 29, 30, 31] (fun _ _ t24 _ _ _ _ _ _ _ wr => t24 = .int .i64 0 ∧ Ctx w none (hp w) (hp w) [Cells g1 27 (snapC s.site (.slice A2 s.cars.length c2) (.slice A3 s.wants.length c3))] wr) (fun _ _ _ _ _ _ _ _ _ _ _ => 0)

      case atStart => exact ⟨rfl, C1⟩
      case round =>
        clear C1
        obtain ⟨rfl, C⟩ := hrel
        go_wp2
        go_ret
        exact ⟨ret_bool (by simp; omega), C.bel⟩
theorem rdTake {α : Type} {d : Kind α} {O : PH} {A : Option Addr} {c : Nat} {xs : List α} (h : Rd d O (.slice A xs.length c) xs) (n : Nat) (hn : n ≤ xs.length) : Rd d O (.slice A n n) (xs.take n) := by
  obtain ⟨A', c', e, h1, h2, h3⟩ := h
  cases e
  refine ⟨A, n, by rw [List.length_take, Nat.min_eq_left hn], by rw [List.length_take]; omega, by rw [List.length_take]; omega, fun i x hx => h3 i x ?_⟩
  rw [List.getElem?_take] at hx
  split at hx
  · exact hx
  · cases hx
theorem rdDrop {α : Type} {d : Kind α} {O : PH} {A : Option Addr} {c : Nat} {xs : List α} (h : Rd d O (.slice A xs.length c) xs) (n : Nat) (hn : n ≤ xs.length) :
    Rd d O (if c = n then .slice A 0 0 else .slice (A.map fun a => a.add (n * d.sz)) (xs.length - n) (c - n)) (xs.drop n) := by
  obtain ⟨A', c', e, h1, h2, h3⟩ := h
  cases e
  by_cases hc : c = n
  · rw [if_pos hc]
    have : xs.drop n = [] := List.drop_eq_nil_of_le (by omega)
    rw [this]
    exact ⟨A, 0, rfl, Nat.le_refl _, by simp, by simp⟩
  · rw [if_neg hc]
    refine ⟨_, _, by rw [List.length_drop], by rw [List.length_drop]; omega, by rw [List.length_drop]; omega, fun i x hx => ?_⟩
    rw [List.getElem?_drop] at hx
    obtain ⟨b, off, cs, blk, e, k1, k2, k3⟩ := h3 _ _ hx
    subst e
    refine ⟨b, off + n * d.sz, cs, blk, by simp [Addr.add_lit], k1, k2, fun k u hu => ?_⟩
    rw [show off + n * d.sz + i * d.sz + k = off + (n + i) * d.sz + k by rw [Nat.add_mul]; omega]
    exact k3 k u hu
set_option maxRecDepth 100000 in
/-- Bytes are taken off others: there are enough of them. -/
theorem checkTake_yes {w0 w : World} {R : Option World} {B O : PH} {L : List Ass} [C : Ctx w0 R B O L w] {g : Nat} {v : Value} {u : Ass → List Ass} [F : FCells L g 28 #[v] u] (xs : List Int) (r : Rd kU8 O v xs) (n : Nat) (h : n ≤ xs.length) :
    Calls Try.prog 74 #[.pointer (some ⟨g, 0, none⟩), .int .i64 n] w fun e w' => ∃ A1 v2, e = .returned (.tuple #[.slice A1 n n, .bool true]) ∧ Rd kU8 O (.slice A1 n n) (xs.take n) ∧ Rd kU8 O v2 (xs.drop n) ∧ Ctx w0 R B O (u (Cells g 28 #[v2])) w' := by
  have hm := r.len
  obtain ⟨A, c, rfl, hc⟩ := r.form
  have R1 := Lib.hid (rdTake r n h)
  have R2 := Lib.hid (rdDrop r n h)
  have CS := Lib.hid fun v2 : Value => Ctx.setCell (C := C) (F := F) 0 v2
  obtain ⟨m, hmm⟩ : ∃ m, xs.length = m := ⟨_, rfl⟩
  rw [hmm] at h hm hc R2
  have hcell : w.cell? ⟨g, 0, none⟩ = some (.slice A m c) := by rw [cell_ctx, hmm]; rfl
  have hfr : w.frozen? ⟨g, 0, none⟩ = false := frozen_ctx 0
  clear r F C hmm
  have P : Calls Try.prog 74 #[.pointer (some ⟨g, 0, none⟩), .int .i64 n] w fun e w' => e = .returned (.tuple #[.slice A n n, .bool true]) ∧
      w' = w.setCell ⟨g, 0, none⟩ (if c = n then .slice A 0 0 else .slice (A.map fun a => a.add n) (m - n) (c - n)) := by
    by_cases hcn : c = n
    · obtain rfl : m = n := by omega
      subst hcn
      go_enter Try.func74, Try.ntmps74
      go_wp2
      go_ret2
      exact ⟨rfl, by simp⟩
    · go_enter Try.func74, Try.ntmps74
      go_wp2
      go_ret2
      exact ⟨rfl, by simp [hcn]⟩
  refine P.mono fun e w' k => ⟨_, _, k.1, R1.out, R2.out, ?_⟩
  rw [k.2]
  have e1 : kU8.sz = 1 := rfl
  simp only [e1, Nat.mul_one]
  exact CS.out _
theorem checkTake_no {w0 w : World} {R : Option World} {B O : PH} {L : List Ass} [C : Ctx w0 R B O L w] {g : Nat} {v : Value} {u : Ass → List Ass} [F : FCells L g 28 #[v] u] (xs : List Int) (r : Rd kU8 O v xs) (n : Nat) (h : xs.length < n) (hn : n < 9223372036854775808) :
    Calls Try.prog 74 #[.pointer (some ⟨g, 0, none⟩), .int .i64 n] w fun e w' => e = .returned (.tuple #[.slice none 0 0, .bool false]) ∧ w = w' := by
  have hm := r.len
  obtain ⟨A, c, rfl, hc⟩ := r.form
  obtain ⟨m, hmm⟩ : ∃ m, xs.length = m := ⟨_, rfl⟩
  rw [hmm] at h hm hc
  have hcell : w.cell? ⟨g, 0, none⟩ = some (.slice A m c) := by rw [cell_ctx, hmm]; rfl
  clear r F C hmm
  go_enter Try.func74, Try.ntmps74
  go_wp2
  go_ret2
  exact ⟨rfl, rfl⟩
end Go.Proofs.Ytomfgggomjbnfaa
