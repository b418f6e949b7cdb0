/- What is frozen, cell by cell, as a class: a cell of O reads the same in every world of a context. -/
import Derived.Test.YtomfgggomjbnfaaL
set_option linter.unusedVariables false
namespace Go.Sep
open Go.RowKit
/-- A cell of what nobody turns any more. -/
class FzAt (O : PH) (b off : Nat) (v : outParam Value) : Prop where
  eq : ∃ blk, O b = some blk ∧ cellOf blk off = some v
variable {w0 w : World} {R : Option World} {B O O' : PH} {L : List Ass}
theorem cell_fz [C : Ctx w0 R B O L w] {b off : Nat} {v : Value} [F : FzAt O b off v] : w.cell? ⟨b, off, none⟩ = some v := by
  obtain ⟨blk, h1, h2⟩ := F.eq
  exact (cell_hp (C.sub _ _ h1)).trans h2
theorem FzAt.mono (h : PLe O O') {b off : Nat} {v : Value} (F : FzAt O b off v) : FzAt O' b off v := by
  obtain ⟨blk, h1, h2⟩ := F.eq
  exact ⟨blk, h _ _ h1, h2⟩
/-- What a slice that is read holds, at a place. -/
theorem Rd_fz {α : Type} {d : Kind α} {v : Value} {xs : List α} (h : Rd d O v xs) (i : Nat) (hi : i < xs.length) :
    ∃ b off c cs, v = .slice (some ⟨b, off, none⟩) xs.length c ∧ d.rep O xs[i] cs ∧ ∀ k u, cs[k]? = some u → FzAt O b (off + i * d.sz + k) u := by
  obtain ⟨A, c, e, h1, h2, h3⟩ := h
  obtain ⟨b, off, cs, blk, ha, hb, hr, hc⟩ := h3 i _ (List.getElem?_eq_getElem hi)
  subst ha
  exact ⟨b, off, c, cs, e, hr, fun k u hu => ⟨blk, hb, hc k u hu⟩⟩
/-- .. of one cell. -/
theorem Rd_fz1 {α : Type} {f : α → List Value} {h1 h2} {g : α → Value} (hf : ∀ x, f x = [g x]) {A : Option Addr} {n c : Nat} {xs : List α} (h : Rd (flat 1 f h1 h2) O (.slice A n c) xs) (i : Nat) (hi : i < xs.length) :
    ∃ b off, A = some ⟨b, off, none⟩ ∧ FzAt O b (off + i) (g xs[i]) := by
  obtain ⟨b, off, c', cs, e, hr, hc⟩ := Rd_fz h i hi
  cases e
  have hr : cs = f xs[i] := hr
  have := hc 0 (g xs[i]) (by rw [hr, hf]; rfl)
  simp only [show (flat 1 f h1 h2).sz = 1 from rfl, Nat.mul_one, Nat.add_zero] at this
  exact ⟨b, off, rfl, this⟩
/-- .. of two cells. -/
theorem Rd_fz2 {α : Type} {f : α → List Value} {h1 h2} {g g' : α → Value} (hf : ∀ x, f x = [g x, g' x]) {A : Option Addr} {n c : Nat} {xs : List α} (h : Rd (flat 2 f h1 h2) O (.slice A n c) xs) (i : Nat) (hi : i < xs.length) :
    ∃ b off, A = some ⟨b, off, none⟩ ∧ FzAt O b (off + i * 2) (g xs[i]) ∧ FzAt O b (off + i * 2 + 1) (g' xs[i]) := by
  obtain ⟨b, off, c', cs, e, hr, hc⟩ := Rd_fz h i hi
  cases e
  have hr : cs = f xs[i] := hr
  have k0 := hc 0 (g xs[i]) (by rw [hr, hf]; rfl)
  have k1 := hc 1 (g' xs[i]) (by rw [hr, hf]; rfl)
  simp only [show (flat 2 f h1 h2).sz = 2 from rfl, Nat.add_zero] at k0 k1
  exact ⟨b, off, rfl, k0, k1⟩
/-- .. a slice. -/
theorem Rd_fzS {α : Type} {d : Kind α} {A : Option Addr} {n c : Nat} {xs : List (List α)} (h : Rd (kSl d) O (.slice A n c) xs) (i : Nat) (hi : i < xs.length) :
    ∃ b off A' c', A = some ⟨b, off, none⟩ ∧ FzAt O b (off + i) (.slice A' xs[i].length c') ∧ Rd d O (.slice A' xs[i].length c') xs[i] ∧ xs[i].length ≤ c' := by
  obtain ⟨b, off, c', cs, e, hr, hc⟩ := Rd_fz h i hi
  cases e
  obtain ⟨v, hv, r⟩ := hr
  obtain ⟨A', c2, e2, h2⟩ := r.form
  subst hv e2
  have := hc 0 _ rfl
  simp only [show (kSl d).sz = 1 from rfl, Nat.mul_one, Nat.add_zero] at this
  exact ⟨b, off, A', c2, rfl, this, r, h2⟩
section gates
variable {P : Program} {ops : Array Oper} {rest : List Oper} {a : Act} {Q : Exit → Act → World → Prop} {d : Option Nat} {ty : TypeId} {pos : String} {af : Array Edge} {x y : Operand}
theorem gSt (t : TypeId) (h : wpList P ops Q ({ dst := d, op := .store t x y, type := ty, pos := pos, after := af, guard := none } :: rest) a w) : wpList P ops Q ({ dst := d, op := .store t x y, type := ty, pos := pos, after := af, guard := none } :: rest) a w := h
theorem gLd (t : TypeId) (h : wpList P ops Q ({ dst := d, op := .load t x, type := ty, pos := pos, after := af, guard := none } :: rest) a w) : wpList P ops Q ({ dst := d, op := .load t x, type := ty, pos := pos, after := af, guard := none } :: rest) a w := h
theorem gBox (t : TypeId) (h : wpList P ops Q ({ dst := d, op := .box t x, type := ty, pos := pos, after := af, guard := none } :: rest) a w) : wpList P ops Q ({ dst := d, op := .box t x, type := ty, pos := pos, after := af, guard := none } :: rest) a w := h
theorem gAl (t : TypeId) (h : wpList P ops Q ({ dst := d, op := .alloc t, type := ty, pos := pos, after := af, guard := none } :: rest) a w) : wpList P ops Q ({ dst := d, op := .alloc t, type := ty, pos := pos, after := af, guard := none } :: rest) a w := h
end gates
end Go.Sep
namespace Go.Proofs.Ytomfgggomjbnfaa
open Go.RowKit Go.Sep
theorem fzReady {O : PH} {A : Option Addr} {n c : Nat} {xs : List Ready} (h : Rd kReady O (.slice A n c) xs) (i : Nat) (hi : i < xs.length) :
    ∃ b off, A = some ⟨b, off, none⟩ ∧ FzAt O b (off + i * 2) (.int .i64 xs[i].floor) ∧ FzAt O b (off + i * 2 + 1) (.int .i64 xs[i].after) := Rd_fz2 (g := fun x : Ready => .int .i64 x.floor) (g' := fun x : Ready => .int .i64 x.after) (fun _ => rfl) h i hi
theorem fzWant {O : PH} {A : Option Addr} {n c : Nat} {xs : List Want} (h : Rd kWant O (.slice A n c) xs) (i : Nat) (hi : i < xs.length) :
    ∃ b off, A = some ⟨b, off, none⟩ ∧ FzAt O b (off + i * 2) (.int .i64 xs[i].floor) ∧ FzAt O b (off + i * 2 + 1) (.int .i64 xs[i].cars) := Rd_fz2 (g := fun x : Want => .int .i64 x.floor) (g' := fun x : Want => .int .i64 x.cars) (fun _ => rfl) h i hi
theorem fzInt {k : IntKind} {O : PH} {A : Option Addr} {n c : Nat} {xs : List Int} (h : Rd (kI k) O (.slice A n c) xs) (i : Nat) (hi : i < xs.length) :
    ∃ b off, A = some ⟨b, off, none⟩ ∧ FzAt O b (off + i) (.int k xs[i]) := Rd_fz1 (g := fun x : Int => .int k x) (fun _ => rfl) h i hi
theorem fzNat {O : PH} {A : Option Addr} {n c : Nat} {xs : List Nat} (h : Rd kNat O (.slice A n c) xs) (i : Nat) (hi : i < xs.length) :
    ∃ b off, A = some ⟨b, off, none⟩ ∧ FzAt O b (off + i) (.int .i64 (xs[i] : Int)) := Rd_fz1 (g := fun x : Nat => .int .i64 (x : Int)) (fun _ => rfl) h i hi
theorem fzBool {O : PH} {A : Option Addr} {n c : Nat} {xs : List Bool} (h : Rd kBool O (.slice A n c) xs) (i : Nat) (hi : i < xs.length) :
    ∃ b off, A = some ⟨b, off, none⟩ ∧ FzAt O b (off + i) (.bool xs[i]) := Rd_fz1 (g := fun x : Bool => .bool x) (fun _ => rfl) h i hi
end Go.Proofs.Ytomfgggomjbnfaa
