/- Words of our own: what a call holds: blocks that nobody turns any more (O), and blocks of its own (L), apart from one another. -/
import Derived.Below
import Derived.WalkKit
import Derived.RowKit3
import Derived.OwnWalk
import Derived.Lib.Hide
import Derived.Maps.AppendAt
import Derived.Deep.OwnRows
import Derived.Deep.Draws
import Derived.RangeFuncNested
set_option linter.unusedVariables false
namespace Go.Sep
open Go.RowKit
abbrev PH := Nat → Option Obj
def hp (w : World) : PH := fun k => w.heap[k]?
/-- What is in a is in b, too. -/
def PLe (a b : PH) : Prop := ∀ k o, a k = some o → b k = some o
theorem PLe.refl (a : PH) : PLe a a := fun _ _ h => h
theorem PLe.trans {a b c : PH} (h : PLe a b) (k : PLe b c) : PLe a c := fun i o hi => k i o (h i o hi)
def cellOf : Obj → Nat → Option Value
  | .cells c _ _, j => c[j]?
  | _, _ => none

/-- A kind of elements: how many cells each has, and what they hold. -/
structure Kind (α : Type) where
  sz : Nat
  rep : PH → α → List Value → Prop
  mono : ∀ {a b : PH} {x cs}, PLe a b → rep a x cs → rep b x cs
  len : ∀ {h x cs}, rep h x cs → cs.length = sz
  one : ∀ {h x cs}, rep h x cs → ∀ u ∈ cs, u.oneCell' = true

/-- A slice that reads as a list. -/
def Rd {α : Type} (d : Kind α) (h : PH) (v : Value) (xs : List α) : Prop :=
  ∃ A c, v = .slice A xs.length c ∧ xs.length ≤ c ∧ xs.length ≤ 140737488355328 ∧
    ∀ i x, xs[i]? = some x → ∃ b off cs blk, A = some ⟨b, off, none⟩ ∧ h b = some blk ∧ d.rep h x cs ∧ ∀ k u, cs[k]? = some u → cellOf blk (off + i * d.sz + k) = some u

theorem Rd.mono {α : Type} {d : Kind α} {a b : PH} {v : Value} {xs : List α} (hab : PLe a b) (h : Rd d a v xs) : Rd d b v xs := by
  obtain ⟨A, c, e, h1, h2, h3⟩ := h
  refine ⟨A, c, e, h1, h2, fun i x hx => ?_⟩
  obtain ⟨b, off, cs, blk, ha, hb, hr, hc⟩ := h3 i x hx
  exact ⟨b, off, cs, blk, ha, hab _ _ hb, d.mono hab hr, hc⟩

/-- An assertion on one block, or on none. -/
structure Ass where
  A : PH → Option (Nat × Obj) → Prop
  mono : ∀ {a b : PH} {x}, PLe a b → A a x → A b x

def Owns (O : PH) : List Ass → List (Option (Nat × Obj)) → Prop
  | [], [] => True
  | A :: L, b :: bs => A.A O b ∧ Owns O L bs
  | _, _ => False
theorem Owns.mono {O O' : PH} (h : PLe O O') : ∀ {L bs}, Owns O L bs → Owns O' L bs
  | [], [], _ => trivial
  | _ :: _, _ :: _, ⟨h1, h2⟩ => ⟨Ass.mono _ h h1, Owns.mono h h2⟩
theorem Owns.append {O : PH} : ∀ {L L' bs bs'}, Owns O L bs → Owns O L' bs' → Owns O (L ++ L') (bs ++ bs')
  | [], _, [], _, _, h => h
  | _ :: _, _, _ :: _, _, ⟨h1, h2⟩, h => ⟨h1, Owns.append h2 h⟩
theorem Owns.get {O : PH} : ∀ {L : List Ass} {bs : List (Option (Nat × Obj))}, Owns O L bs → ∀ (i : Nat) (A : Ass), L[i]? = some A → ∃ b, bs[i]? = some b ∧ A.A O b
  | A :: _, b :: _, ⟨h1, _⟩, 0, B, h => ⟨b, rfl, by simp at h; subst h; exact h1⟩
  | _ :: _, _ :: _, ⟨_, h2⟩, i + 1, B, h => by simpa using Owns.get h2 i B (by simpa using h)
  | [], [], _, i, _, h => by simp at h
theorem Owns.set {O : PH} : ∀ {L : List Ass} {bs : List (Option (Nat × Obj))}, Owns O L bs → ∀ (i : Nat) (A : Ass) (b : Option (Nat × Obj)), A.A O b → Owns O (L.set i A) (bs.set i b)
  | _ :: _, _ :: _, ⟨_, h2⟩, 0, _, _, h => ⟨h, h2⟩
  | _ :: _, _ :: _, ⟨h1, h2⟩, i + 1, A, b, h => ⟨h1, Owns.set h2 i A b h⟩
  | [], [], _, _, _, _, _ => trivial
theorem Owns.erase {O : PH} : ∀ {L bs}, Owns O L bs → ∀ i, Owns O (L.eraseIdx i) (bs.eraseIdx i)
  | _ :: _, _ :: _, ⟨_, h2⟩, 0 => h2
  | _ :: _, _ :: _, ⟨h1, h2⟩, i + 1 => ⟨h1, Owns.erase h2 i⟩
  | [], [], _, _ => trivial

def Apart (a b : Option (Nat × Obj)) : Prop := ∀ g o g' o', a = some (g, o) → b = some (g', o') → g ≠ g'
theorem Apart.symm {a b} (h : Apart a b) : Apart b a := fun g o g' o' h1 h2 e => h g' o' g o h2 h1 e.symm

/-- A call that began in w0, with B at hand: O, and the blocks of L, are as they are told. -/
class Ctx (w0 : outParam World) (R : outParam (Option World)) (B O : outParam PH) (L : outParam (List Ass)) (w : World) : Prop where
  bel : Below w0.heap.size w0 w
  bO : PLe B O
  fr : ∀ k o, O k = some o → B k = some o ∨ w0.heap.size ≤ k
  sub : PLe O (hp w)
  own : ∃ bs, Owns O L bs ∧ bs.Pairwise Apart ∧ ∀ g o, some (g, o) ∈ bs → hp w g = some o ∧ O g = none ∧ w0.heap.size ≤ g
  ko : ∀ r, R = some r → KeepsOthers r w

variable {w0 w w1 : World} {R : Option World} {B O O' : PH} {L L' : List Ass}
theorem Ctx.start (h : PLe B (hp w)) : Ctx w none B B [] w := ⟨Below.refl _ _, PLe.refl _, fun _ _ h => .inl h, h, ⟨[], trivial, List.Pairwise.nil, by simp⟩, by simp⟩
theorem ko_below {r : World} (h : KeepsOthers r w) (hb : Below w.heap.size w w1) : KeepsOthers r w1 := h.trans ⟨hb.size, fun k o hk _ => (hb.block k (Array.getElem?_eq_some_iff.1 hk).1).trans hk⟩
/-- From now on it is told what is no cells, and keeps. -/
theorem Ctx.root (C : Ctx w0 R B O L w) : Ctx w0 (some w) B O L w := ⟨C.bel, C.bO, C.fr, C.sub, C.own, fun r e => by cases e; exact KeepsOthers.refl _⟩
theorem Ctx.lt (C : Ctx w0 R B O L w) : w0.heap.size ≤ w.heap.size := C.bel.size
theorem hp_lt {g : Nat} {o : Obj} (h : hp w g = some o) : g < w.heap.size := (Array.getElem?_eq_some_iff.1 h).1

/-- The world goes on, and nothing that was there turns. -/
theorem Ctx.keep (C : Ctx w0 R B O L w) (hb : Below w.heap.size w w1) : Ctx w0 R B O L w1 := by
  obtain ⟨h1, h2, h3, h4, ⟨bs, h5, h6, h7⟩, hk0⟩ := C
  have k : ∀ g o, hp w g = some o → hp w1 g = some o := fun g o h => (hb.block g (hp_lt h)).trans h
  exact ⟨h1.trans ⟨hb.os, hb.tape, hb.output, hb.size, fun i hi => hb.block i (Nat.lt_of_lt_of_le hi h1.size)⟩, h2, h3, fun g o h => k g o (h4 g o h), ⟨bs, h5, h6,
    fun g o h => ⟨k g o (h7 g o h).1, (h7 g o h).2⟩⟩, fun r e => ko_below (hk0 r e) hb⟩

/-- A callee, that had O at hand, hands back what it made. -/
theorem Ctx.call (C : Ctx w0 R B O L w) (D : Ctx w none O O' L' w1) : Ctx w0 R B O' (L' ++ L) w1 := by
  obtain ⟨h1, h2, h3, h4, ⟨bs, h5, h6, h7⟩, hk0⟩ := C
  obtain ⟨hb, k2, k3, k4, ⟨bs', k5, k6, k7⟩, _⟩ := D
  have hs := h1.size
  refine ⟨h1.trans ⟨hb.os, hb.tape, hb.output, hb.size, fun i hi => hb.block i (Nat.lt_of_lt_of_le hi hs)⟩, h2.trans k2, fun k o h => ?_, k4, ⟨bs' ++ bs, k5.append (h5.mono k2), List.pairwise_append.2 ⟨k6, h6, fun a ha b hb' g o g' o' ea eb e => ?_⟩, fun g o h => ?_⟩, fun r e => ko_below (hk0 r e) hb⟩
  · rcases k3 k o h with h | h
    · exact h3 k o h
    · exact .inr (Nat.le_trans hs h)
  · subst ea eb e
    have x := (k7 _ _ ha).2.2
    have y := hp_lt (h7 _ _ hb').1
    omega
  · rcases List.mem_append.1 h with h | h
    · have := k7 g o h
      exact ⟨this.1, this.2.1, Nat.le_trans hs this.2.2⟩
    · have := h7 g o h
      have lt := hp_lt this.1
      refine ⟨(hb.block g lt).trans this.1, ?_, this.2.2⟩
      cases hk : O' g with
      | none => rfl
      | some o' =>
        rcases k3 g o' hk with h' | h'
        · rw [this.2.1] at h'; exact absurd h' (by simp)
        · omega

/-- A new block. -/
theorem Ctx.new (C : Ctx w0 R B O L w) (o : Obj) {A : Ass} (hA : A.A O (some (w.heap.size, o))) : Ctx w0 R B O (A :: L) (w.alloc o) := by
  have C1 := C.keep ((Below.refl w.heap.size w).alloc (Nat.le_refl _) o)
  obtain ⟨h1, h2, h3, h4, ⟨bs, h5, h6, h7⟩, hk0⟩ := C
  have K := C1
  obtain ⟨g1, g2, g3, g4, _, g6⟩ := C1
  have e : hp (w.alloc o) w.heap.size = some o := heap_alloc_new w o
  refine ⟨g1, g2, g3, g4, ⟨some (w.heap.size, o) :: bs, ⟨hA, h5⟩, List.pairwise_cons.2 ⟨fun b hb g o g' o' ea eb eg => ?_, h6⟩, fun g o' h => ?_⟩, g6⟩
  · cases ea
    subst eb eg
    have := hp_lt (h7 _ _ hb).1
    omega
  · rcases List.mem_cons.1 h with h | h
    · cases h
      refine ⟨e, ?_, h1.size⟩
      cases hk : O w.heap.size with
      | none => rfl
      | some o' => have := hp_lt (h4 _ _ hk); omega
    · have := h7 g o' h
      exact ⟨(Below.heap_alloc w o g (hp_lt this.1)).trans this.1, this.2⟩

/-- What holds no block. -/
theorem Ctx.empty (C : Ctx w0 R B O L w) {A : Ass} (hA : A.A O none) : Ctx w0 R B O (A :: L) w := by
  obtain ⟨h1, h2, h3, h4, ⟨bs, h5, h6, h7⟩, hk0⟩ := C
  refine ⟨h1, h2, h3, h4, ⟨none :: bs, ⟨hA, h5⟩, List.pairwise_cons.2 ⟨fun b hb g o g' o' ea => (by cases ea), h6⟩, fun g o h => ?_⟩, hk0⟩
  rcases List.mem_cons.1 h with h | h
  · cases h
  · exact h7 g o h

theorem mem_set {α : Type} {l : List α} {i : Nat} {a b : α} (h : b ∈ l.set i a) : b = a ∨ ∃ j, j ≠ i ∧ l[j]? = some b := by
  obtain ⟨j, hj, rfl⟩ := List.getElem_of_mem h
  rw [List.getElem_set]
  split
  · exact .inl rfl
  · rename_i hne
    exact .inr ⟨j, fun e => hne e.symm, List.getElem?_eq_getElem (by simpa using hj)⟩

theorem pair_set {bs : List (Option (Nat × Obj))} (h : bs.Pairwise Apart) (i : Nat) (x : Option (Nat × Obj)) (hx : ∀ j b, j ≠ i → bs[j]? = some b → Apart x b) : (bs.set i x).Pairwise Apart := by
  rw [List.pairwise_iff_getElem] at h ⊢
  intro a b ha hb hab
  simp only [List.length_set] at ha hb
  rw [List.getElem_set, List.getElem_set]
  split
  · rename_i e
    split
    · omega
    · exact hx b _ (by omega) (List.getElem?_eq_getElem hb)
  · split
    · exact (hx a _ (by omega) (List.getElem?_eq_getElem ha)).symm
    · exact h a b ha hb hab

/-- One entry's block is turned, or left for a new one; all other blocks are as they were. -/
theorem Ctx.open_ (C : Ctx w0 R B O L w) (i : Nat) {A : Ass} (hi : L[i]? = some A) :
    ∃ b, A.A O b ∧ (∀ g o, b = some (g, o) → hp w g = some o ∧ O g = none ∧ w0.heap.size ≤ g) ∧
      ∀ {A' : Ass} {w1 : World} (row : Option Nat) (b' : Option (Nat × Obj)), w.grownBy w1 row → (row = none ∨ ∃ g o, b = some (g, o) ∧ row = some g ∧ o.isCells = true) →
        A'.A O b' → (∀ g o, b' = some (g, o) → hp w1 g = some o ∧ (w.heap.size ≤ g ∨ ∃ o', b = some (g, o'))) → Ctx w0 R B O (L.set i A') w1 := by
  obtain ⟨h1, h2, h3, h4, ⟨bs, h5, h6, h7⟩, hk0⟩ := C
  obtain ⟨b, hb, hA⟩ := h5.get i A hi
  have hbm : b ∈ bs := List.mem_of_getElem? hb
  refine ⟨b, hA, fun g o e => h7 g o (e ▸ hbm), fun {A' w1} row b' hg hr hA' hb' => ?_⟩
  have old : ∀ g o, hp w g = some o → row ≠ some g → hp w1 g = some o := fun g o hh hn => (hg.block g (hp_lt hh) (fun e => hn e.symm)).trans hh
  have hrow : ∀ g, row = some g → w0.heap.size ≤ g ∧ O g = none ∧ ∃ o, b = some (g, o) := by
    intro g e
    rcases hr with hr | ⟨g', o', e1, e2, _⟩
    · rw [hr] at e; cases e
    · rw [e2] at e; cases e
      have := h7 _ o' (e1 ▸ hbm)
      exact ⟨this.2.2, this.2.1, o', e1⟩
  refine ⟨h1.grown hg h1.size (fun k e => (hrow k e).1), h2, h3, fun k o hk => old k o (h4 k o hk) (fun e => ?_), ⟨bs.set i b', h5.set i A' b' hA', pair_set h6 i b' (fun j c hj hc g o g' o' e1 e2 e => ?_), fun g o hm => ?_⟩, fun r e => (hk0 r e).trans (KeepsOthers.of_grownBy hg fun j o hj ho => ?_)⟩
  · rw [(hrow k e).2.1] at hk; cases hk
  · subst e1 e2 e
    have hcm := List.mem_of_getElem? hc
    have x := (h7 _ _ hcm).1
    rcases (hb' _ _ rfl).2 with y | ⟨o2, y⟩
    · have := hp_lt x; omega
    · subst y
      have hil : i < bs.length := (List.getElem?_eq_some_iff.1 hb).1
      have hjl : j < bs.length := (List.getElem?_eq_some_iff.1 hc).1
      have ei := (List.getElem?_eq_some_iff.1 hb).2
      have ej := (List.getElem?_eq_some_iff.1 hc).2
      rw [List.pairwise_iff_getElem] at h6
      rcases Nat.lt_or_gt_of_ne hj with hlt | hgt
      · exact h6 j i hjl hil hlt _ _ _ _ ej ei rfl
      · exact h6 i j hil hjl hgt _ _ _ _ ei ej rfl
  · rcases mem_set hm with e | ⟨j, hj, hc⟩
    · have := hb' g o e.symm
      refine ⟨this.1, ?_, ?_⟩
      · rcases this.2 with y | ⟨o2, y⟩
        · cases hk : O g with
          | none => rfl
          | some o' => have := hp_lt (h4 _ _ hk); omega
        · exact (h7 g o2 (y ▸ hbm)).2.1
      · rcases this.2 with y | ⟨o2, y⟩
        · exact Nat.le_trans h1.size y
        · exact (h7 g o2 (y ▸ hbm)).2.2
    · have hcm := List.mem_of_getElem? hc
      have x := h7 g o hcm
      refine ⟨old g o x.1 (fun e => ?_), x.2⟩
      obtain ⟨_, _, o2, y⟩ := hrow g e
      subst y
      have hil : i < bs.length := (List.getElem?_eq_some_iff.1 hb).1
      have hjl : j < bs.length := (List.getElem?_eq_some_iff.1 hc).1
      have ei := (List.getElem?_eq_some_iff.1 hb).2
      have ej := (List.getElem?_eq_some_iff.1 hc).2
      rw [List.pairwise_iff_getElem] at h6
      rcases Nat.lt_or_gt_of_ne hj with hlt | hgt
      · exact h6 j i hjl hil hlt _ _ _ _ ej ei rfl
      · exact h6 i j hil hjl hgt _ _ _ _ ei ej rfl
  · rcases hr with hr | ⟨g', o', e1, e2, e3⟩
    · rw [hr] at hj; cases hj
    · rw [e2] at hj; cases hj
      have h9 := (h7 _ o' (e1 ▸ hbm)).1
      unfold hp at h9
      rw [h9] at ho; cases ho
      exact e3

/-- What an entry says of the world. -/
theorem Ctx.look (C : Ctx w0 R B O L w) (i : Nat) {A : Ass} (hi : L[i]? = some A) : ∃ b, A.A O b ∧ ∀ g o, b = some (g, o) → hp w g = some o ∧ O g = none ∧ w0.heap.size ≤ g := by
  obtain ⟨h1, h2, h3, h4, ⟨bs, h5, h6, h7⟩, hk0⟩ := C
  obtain ⟨b, hb, hA⟩ := h5.get i A hi
  exact ⟨b, hA, fun g o e => h7 g o (e ▸ List.mem_of_getElem? hb)⟩

/-- An entry is let go. -/
theorem Ctx.drop (C : Ctx w0 R B O L w) (i : Nat) : Ctx w0 R B O (L.eraseIdx i) w := by
  obtain ⟨h1, h2, h3, h4, ⟨bs, h5, h6, h7⟩, hk0⟩ := C
  exact ⟨h1, h2, h3, h4, ⟨bs.eraseIdx i, h5.erase i, h6.sublist (List.eraseIdx_sublist _ _), fun g o h => h7 g o ((List.eraseIdx_sublist _ _).subset h)⟩, hk0⟩

/-- An entry's block is turned no more: all may read it from now on. -/
theorem Ctx.freeze (C : Ctx w0 R B O L w) (i : Nat) {A : Ass} (hi : L[i]? = some A) : ∃ O', PLe O O' ∧ (∃ b, A.A O b ∧ ∀ g o, b = some (g, o) → O' g = some o) ∧ Ctx w0 R B O' (L.eraseIdx i) w := by
  have D := C.drop i
  obtain ⟨h1, h2, h3, h4, ⟨bs, h5, h6, h7⟩, hk0⟩ := C
  obtain ⟨b, hb, hA⟩ := h5.get i A hi
  have hbm : b ∈ bs := List.mem_of_getElem? hb
  cases b with
  | none => exact ⟨O, PLe.refl _, ⟨none, hA, by simp⟩, D⟩
  | some x =>
    obtain ⟨g, o⟩ := x
    have hx := h7 g o hbm
    have hle : PLe O (fun k => if k = g then some o else O k) := by
      intro k o' hk
      show (if k = g then _ else _) = _
      split
      · rename_i e; subst e; rw [hx.2.1] at hk; cases hk
      · exact hk
    refine ⟨fun k => if k = g then some o else O k, hle, ⟨some (g, o), hA, fun g' o' e => by cases e; simp⟩, h1, h2.trans hle, fun k o' hk => ?_, fun k o' hk => ?_, ⟨bs.eraseIdx i, (h5.mono hle).erase i, h6.sublist (List.eraseIdx_sublist _ _), fun g' o' hm => ?_⟩, hk0⟩
    · split at hk
      · rename_i e; subst e; exact .inr hx.2.2
      · exact h3 k o' hk
    · split at hk
      · rename_i e; subst e; cases hk; exact hx.1
      · exact h4 k o' hk
    · have hm' := (List.eraseIdx_sublist _ _).subset hm
      have y := h7 g' o' hm'
      refine ⟨y.1, ?_, y.2.2⟩
      show (if g' = g then _ else _) = _
      split
      · rename_i e
        subst e
        exfalso
        obtain ⟨j, hj, he⟩ := List.mem_iff_getElem.1 hm
        rw [List.getElem_eraseIdx] at he
        have hil : i < bs.length := (List.getElem?_eq_some_iff.1 hb).1
        have ei := (List.getElem?_eq_some_iff.1 hb).2
        rw [List.pairwise_iff_getElem] at h6
        rw [List.length_eraseIdx_of_lt hil] at hj
        split at he
        · exact h6 j i (by omega) hil (by omega) _ _ _ _ he ei rfl
        · exact h6 i (j + 1) hil (by omega) (by omega) _ _ _ _ ei he rfl
      · exact y.2.1

/-! ### Kinds and entries -/
/-- Elements that lead nowhere. -/
def flat {α : Type} (n : Nat) (f : α → List Value) (hl : ∀ x, (f x).length = n) (h1 : ∀ x, ∀ u ∈ f x, u.oneCell' = true) : Kind α where
  sz := n
  rep := fun _ x cs => cs = f x
  mono := fun _ h => h
  len := fun h => by rw [h]; exact hl _
  one := fun h => by rw [h]; exact h1 _
def kI (k : IntKind) : Kind Int := flat 1 (fun x => [.int k x]) (fun _ => rfl) (fun _ u h => by simp at h; subst h; rfl)
abbrev kInt : Kind Int := kI .i64
abbrev kU8 : Kind Int := kI .u8
def kBool : Kind Bool := flat 1 (fun x => [.bool x]) (fun _ => rfl) (fun _ u h => by simp at h; subst h; rfl)
def kSl {α : Type} (d : Kind α) : Kind (List α) where
  sz := 1
  rep := fun h xs cs => ∃ v, cs = [v] ∧ Rd d h v xs
  mono := fun hab ⟨v, e, h⟩ => ⟨v, e, h.mono hab⟩
  len := fun ⟨v, e, h⟩ => by rw [e]; rfl
  one := fun ⟨v, e, h⟩ u hu => by
    rw [e] at hu
    obtain ⟨A, c, e2, _⟩ := h
    simp at hu
    subst hu e2
    rfl

def Cells (g : Nat) (t : TypeId) (cs : Array Value) : Ass := ⟨fun _ b => b = some (g, .cells cs t (0, 0)), fun _ h => h⟩
def Row {α : Type} (d : Kind α) (e : TypeId) (v : Value) (xs : List α) : Ass where
  A := fun O b => (b = none ∧ v = .slice none 0 0 ∧ xs = []) ∨
    ∃ g cap cur, b = some (g, .cells cur e (0, 0)) ∧ v = .slice (some ⟨g, 0, none⟩) xs.length cap ∧ xs.length ≤ cap ∧ cap ≤ maxLen ∧ cur.size = cap * d.sz ∧
      ∀ i x, xs[i]? = some x → d.rep O x ((cur.toList.drop (i * d.sz)).take d.sz)
  mono := fun hab h => by
    rcases h with h | ⟨g, cap, cur, h1, h2, h3, h4, h5, h6⟩
    · exact .inl h
    · exact .inr ⟨g, cap, cur, h1, h2, h3, h4, h5, fun i x hx => d.mono hab (h6 i x hx)⟩

theorem cell_hp {b o : Nat} {blk : Obj} (h : hp w b = some blk) : w.cell? ⟨b, o, none⟩ = cellOf blk o := by
  unfold hp at h
  unfold World.cell? cellOf
  simp only [h]
  cases blk <;> rfl

/-- What a slice that is read holds, at a place. -/
theorem Rd.at_ {α : Type} {d : Kind α} {v : Value} {xs : List α} (h : Rd d O v xs) (hs : PLe O (hp w)) (i : Nat) (hi : i < xs.length) :
    ∃ b off c cs, v = .slice (some ⟨b, off, none⟩) xs.length c ∧ d.rep O xs[i] cs ∧ ∀ k u, cs[k]? = some u → w.cell? ⟨b, off + i * d.sz + k, none⟩ = some u := by
  obtain ⟨A, c, e, h1, h2, h3⟩ := h
  obtain ⟨b, off, cs, blk, ha, hb, hr, hc⟩ := h3 i _ (List.getElem?_eq_getElem hi)
  subst ha
  exact ⟨b, off, c, cs, e, hr, fun k u hu => (cell_hp (hs _ _ hb)).trans (hc k u hu)⟩
theorem Rd.len {α : Type} {d : Kind α} {v : Value} {xs : List α} (h : Rd d O v xs) : xs.length ≤ 140737488355328 := by
  obtain ⟨A, c, e, h1, h2, h3⟩ := h
  exact h2
theorem Rd.form {α : Type} {d : Kind α} {v : Value} {xs : List α} (h : Rd d O v xs) : ∃ A c, v = .slice A xs.length c ∧ xs.length ≤ c := by
  obtain ⟨A, c, e, h1, h2, h3⟩ := h
  exact ⟨A, c, e, h1⟩
theorem Rd.nil {α : Type} (d : Kind α) (O : PH) : Rd d O (.slice none 0 0) ([] : List α) := ⟨none, 0, rfl, Nat.le_refl _, by simp, by simp⟩

/-- A row, as the library's laws have it. -/
theorem Row.owns {α : Type} {d : Kind α} {e : TypeId} {v : Value} {xs : List α} {b : Option (Nat × Obj)} (h : (Row d e v xs).A O b) (hb : ∀ g o, b = some (g, o) → hp w g = some o ∧ O g = none ∧ w0.heap.size ≤ g) :
    ∃ inner, w.ownsRow w0.heap.size e d.sz v xs.length inner ∧ (∀ i x, xs[i]? = some x → d.rep O x ((inner.drop (i * d.sz)).take d.sz)) ∧
      ((b = none ∧ v.ownBlock = none) ∨ ∃ g o, b = some (g, o) ∧ v.ownBlock = some g ∧ o.isCells = true) := by
  rcases h with ⟨h1, rfl, rfl⟩ | ⟨g, cap, cur, h1, rfl, h3, h4, h5, h6⟩
  · exact ⟨[], ⟨by simp, .inl ⟨rfl, rfl⟩⟩, by simp, .inl ⟨h1, rfl⟩⟩
  · have hh := hb g _ h1
    refine ⟨cur.toList.take (xs.length * d.sz), ⟨?_, .inr ⟨g, cap, cur, rfl, hh.2.2, hh.1, h3, h4, h5, rfl⟩⟩, fun i x hx => ?_, .inr ⟨g, _, h1, rfl, rfl⟩⟩
    · have h7 : cur.toList.length = cap * d.sz := by simpa using h5
      rw [List.length_take, h7]
      exact Nat.min_eq_left (Nat.mul_le_mul_right _ h3)
    · have hi := (List.getElem?_eq_some_iff.1 hx).1
      have hle : i * d.sz + d.sz ≤ xs.length * d.sz := by rw [← Nat.succ_mul]; exact Nat.mul_le_mul_right _ hi
      rw [List.drop_take, List.take_take, Nat.min_eq_left (by omega)]
      exact h6 i x hx
theorem Row.of_owns {α : Type} {d : Kind α} {e base : Nat} {v : Value} {xs : List α} {inner : List Value} (h : w.ownsRow base e d.sz v xs.length inner) (hr : ∀ i x, xs[i]? = some x → d.rep O x ((inner.drop (i * d.sz)).take d.sz)) :
    ∃ b, (Row d e v xs).A O b ∧ (∀ g o, b = some (g, o) → hp w g = some o ∧ v.ownBlock = some g) := by
  rcases h.2 with ⟨rfl, h0⟩ | ⟨g, cap, cur, rfl, hg, hh, h3, h4, h5, h6⟩
  · exact ⟨none, .inl ⟨rfl, rfl, List.eq_nil_of_length_eq_zero h0⟩, by simp⟩
  · refine ⟨some (g, .cells cur e (0, 0)), .inr ⟨g, cap, cur, rfl, rfl, h3, h4, h5, fun i x hx => ?_⟩, fun g' o' e => by cases e; exact ⟨hh, rfl⟩⟩
    have hi := (List.getElem?_eq_some_iff.1 hx).1
    have hle : i * d.sz + d.sz ≤ xs.length * d.sz := by rw [← Nat.succ_mul]; exact Nat.mul_le_mul_right _ hi
    have := hr i x hx
    rw [← h6, List.drop_take, List.take_take, Nat.min_eq_left (by omega)] at this
    exact this

theorem reps_snoc {α : Type} {d : Kind α} {xs : List α} {inner cs : List Value} {p : α} (hl : inner.length = xs.length * d.sz) (h : ∀ i x, xs[i]? = some x → d.rep O x ((inner.drop (i * d.sz)).take d.sz)) (hp : d.rep O p cs) :
    ∀ i x, (xs ++ [p])[i]? = some x → d.rep O x (((inner ++ cs).drop (i * d.sz)).take d.sz) := by
  intro i x hx
  have hc := d.len hp
  rcases Nat.lt_or_ge i xs.length with hi | hi
  · rw [List.getElem?_append_left hi] at hx
    have hle : i * d.sz + d.sz ≤ xs.length * d.sz := by rw [← Nat.succ_mul]; exact Nat.mul_le_mul_right _ hi
    rw [List.drop_append_of_le_length (by omega), List.take_append_of_le_length (by rw [List.length_drop]; omega)]
    exact h i x hx
  · have hi' : i = xs.length := by
      have := (List.getElem?_eq_some_iff.1 hx).1
      simp at this; omega
    subst hi'
    simp at hx
    subst hx
    rw [← hl, List.drop_left, ← hc, List.take_length]
    exact hp

/-- Where a list of entries has a variable: what it holds, and the list with another entry in its place. -/
class FCells (L : List Ass) (g : Nat) (t : outParam TypeId) (cs : outParam (Array Value)) (u : outParam (Ass → List Ass)) : Prop where
  ix : ∃ i, L[i]? = some (Cells g t cs) ∧ ∀ X, u X = L.set i X
instance {g t cs L} : FCells (Cells g t cs :: L) g t cs (fun X => X :: L) := ⟨⟨0, rfl, fun _ => rfl⟩⟩
instance (priority := low) {g t cs L X u} [h : FCells L g t cs u] : FCells (X :: L) g t cs (fun Y => X :: u Y) :=
  ⟨let ⟨i, h1, h2⟩ := h.ix; ⟨i + 1, h1, fun Y => by simp [h2 Y]⟩⟩
class FRow (L : List Ass) (v : Value) {α : outParam Type} (d : outParam (Kind α)) (e : outParam TypeId) (xs : outParam (List α)) (u : outParam (Ass → List Ass)) : Prop where
  ix : ∃ i, L[i]? = some (Row d e v xs) ∧ ∀ X, u X = L.set i X
instance {α : Type} {d : Kind α} {e v xs L} : FRow (Row d e v xs :: L) v d e xs (fun X => X :: L) := ⟨⟨0, rfl, fun _ => rfl⟩⟩
instance (priority := low) {α : Type} {d : Kind α} {e v xs L X u} [h : FRow L v d e xs u] : FRow (X :: L) v d e xs (fun Y => X :: u Y) :=
  ⟨let ⟨i, h1, h2⟩ := h.ix; ⟨i + 1, h1, fun Y => by simp [h2 Y]⟩⟩

instance Ctx.setCell [C : Ctx w0 R B O L w] {g : Nat} {t : TypeId} {cs : Array Value} {u : Ass → List Ass} [F : FCells L g t cs u] (j : Nat) (v : Value) :
    Ctx w0 R B O (u (Cells g t (cs.setIfInBounds j v))) (w.setCell ⟨g, j, none⟩ v) := by
  obtain ⟨i, h1, h2⟩ := F.ix
  rw [h2]
  obtain ⟨b, hA, hb, K⟩ := C.open_ i h1
  have hA : b = some (g, .cells cs t (0, 0)) := hA
  have hh := (hb _ _ hA).1
  refine K (some g) (some (g, .cells (cs.setIfInBounds j v) t (0, 0))) ⟨rfl, rfl, rfl, by simp [World.setCell], fun k _ hk => Below.heap_setCell _ _ _ _ (fun e => hk (by rw [e]))⟩ (.inr ⟨g, _, hA, rfl, rfl⟩) rfl fun g' o' e => ?_
  cases e
  refine ⟨?_, .inr ⟨_, hA⟩⟩
  unfold hp at hh ⊢
  simp [World.setCell, Array.getElem?_modify, hh]
instance Ctx.drew [C : Ctx w0 R B O L w] : Ctx w0 R B O L w.drew := C.keep (Below.refl _ _).drew
instance Ctx.drewN [C : Ctx w0 R B O L w] (n : Nat) : Ctx w0 R B O L (w.drewN n) := ⟨C.bel.trans ⟨rfl, rfl, rfl, Nat.le_refl _, fun _ _ => rfl⟩, C.bO, C.fr, C.sub, C.own, fun r e => (C.ko r e).trans ⟨Nat.le_refl _, fun _ _ h _ => h⟩⟩

theorem cell_ctx [C : Ctx w0 R B O L w] {g : Nat} {t : TypeId} {cs : Array Value} {u : Ass → List Ass} [F : FCells L g t cs u] (j : Nat) : w.cell? ⟨g, j, none⟩ = cs[j]? := by
  obtain ⟨i, h1, _⟩ := F.ix
  obtain ⟨b, hA, hb⟩ := C.look i h1
  exact cell_hp (hb _ _ hA).1
theorem frozen_ctx [C : Ctx w0 R B O L w] {g : Nat} {t : TypeId} {cs : Array Value} {u : Ass → List Ass} [F : FCells L g t cs u] (j : Nat) : w.frozen? ⟨g, j, none⟩ = false := by
  obtain ⟨i, h1, _⟩ := F.ix
  obtain ⟨b, hA, hb⟩ := C.look i h1
  have := (hb _ _ hA).1
  unfold hp at this
  simp [World.frozen?, this]

/-- What a call holds, in a loop over a function: it abides the loop's own book-keeping. -/
theorem Ctx.ownFrom {β : Type} {Bn : Nat} {L : β → List Ass} (hO : ∀ k o, O k = some o → k < Bn) (h0 : w0.heap.size ≤ Bn) (hL : ∀ s A, A ∈ L s → ∀ g o, A.A O (some (g, o)) → o.isCells = true) :
    OwnFrom Bn (fun s W => Ctx w0 none B O (L s) W) := by
  intro s X Y row C hg hr
  obtain ⟨h1, h2, h3, h4, ⟨bs, h5, h6, h7⟩, hk0⟩ := C
  refine ⟨h1.grown hg h1.size (fun k e => Nat.le_trans h0 (hr k e).1), h2, h3, fun k o hk => (hg.block k (hp_lt (h4 k o hk)) (fun e => ?_)).trans (h4 k o hk), ⟨bs, h5, h6, fun g o hm => ⟨(hg.block g (hp_lt (h7 g o hm).1) (fun e => ?_)).trans (h7 g o hm).1, (h7 g o hm).2⟩⟩, by simp⟩
  · have := (hr k e.symm).1
    have := hO k o hk
    omega
  · obtain ⟨_, o', ho', hc⟩ := hr g e.symm
    have h9 := (h7 g o hm).1
    unfold hp at h9
    rw [h9] at ho'; cases ho'
    have : ∃ A, A ∈ L s ∧ A.A O (some (g, o)) := by
      clear h6 h7 hr hg h9
      generalize L s = M at h5
      induction M generalizing bs with
      | nil => cases bs with
        | nil => simp at hm
        | cons => exact h5.elim
      | cons A M ih =>
        cases bs with
        | nil => exact h5.elim
        | cons b bs =>
          rcases List.mem_cons.1 hm with e | hm
          · subst e; exact ⟨A, by simp, h5.1⟩
          · obtain ⟨A', hA', hA''⟩ := ih bs hm h5.2
            exact ⟨A', by simp [hA'], hA''⟩
    obtain ⟨A, hA, hA'⟩ := this
    rw [hL s A hA g o hA'] at hc
    cases hc
theorem Ctx.lose (C : Ctx w0 R B O L w) : Ctx w0 none B O L w := ⟨C.bel, C.bO, C.fr, C.sub, C.own, by simp⟩

section ops
variable {P : Program} {ops : Array Oper} {rest : List Oper} {o : Oper} {a : Act} {Q : Exit → Act → World → Prop}

/-- An operation that comes to a value, in a world of its own. -/
theorem ev_run {v : Value} (hgd : o.guard = none) (hr : (execOp a.eval o).run P w = .ok (.value v) w1) (h : wpList P ops Q rest (a.put o.dst v) w1) : wpList P ops Q (o :: rest) a w := by
  refine wpList_plain hgd fun K hK => ?_
  unfold Oper.wp
  rw [hr]
  exact hK _ _ h

/-- A new variable. -/
theorem ev_box [C : Ctx w0 R B O L w] {cs : Array Value} {t : TypeId} (hgd : o.guard = none)
    (hr : (execOp a.eval o).run P w = .ok (.value (.pointer (some ⟨w.heap.size, 0, none⟩))) (w.alloc (.cells cs t)))
    (h : ∀ g w1, Ctx w0 R B O (Cells g t cs :: L) w1 → wpList P ops Q rest (a.put o.dst (.pointer (some ⟨g, 0, none⟩))) w1) : wpList P ops Q (o :: rest) a w :=
  ev_run hgd hr (h _ _ (C.new _ rfl))

/-- What is asked of a slice's type. -/
structure ElT (P : Program) (t e : TypeId) (sz bytes : Nat) : Prop where
  ex : ∃ i z, P.underlying t = some (.slice e) ∧ P.info? e = some i ∧ i.zero = some z ∧ i.size = sz ∧ i.bytes = bytes ∧ z.cells.size = sz ∧ 0 < sz ∧ 0 < bytes
theorem ElT.mk' {t e : TypeId} {z : Value} {sz bytes : Nat} (ht : P.underlying t = some (.slice e)) (hinfo : (P.info? e).map (fun i => (i.zero, i.size, i.bytes)) = some (some z, sz, bytes)) (hz : z.cells.size = sz) (h0 : 0 < sz) (h1 : 0 < bytes) : ElT P t e sz bytes := by
  obtain ⟨i, hi, hzz⟩ := Option.map_eq_some_iff.1 hinfo
  simp only [Prod.mk.injEq] at hzz
  exact ⟨i, z, ht, hi, hzz.1, hzz.2.1, hzz.2.2, hz, h0, h1⟩

/-- An element is appended to a row of the call's own. -/
theorem ev_append [C : Ctx w0 R B O L w] {α : Type} {d : Kind α} {t e : TypeId} {bytes : Nat} (E : ElT P t e d.sz bytes) {s x : Operand} (v : Value) {xs : List α} {u : Ass → List Ass} [F : FRow L v d e xs u] (p : α) {cs : List Value}
    (hgd : o.guard = none) (ho : o.op = .call { callee := .builtin .append, args := #[s, x], argTypes := #[t, t] }) (hs : a.eval s = v) (hx : a.eval x = .slice (some ⟨w.heap.size, 0, none⟩) 1 1)
    (hp : d.rep O p cs) (hb : (xs.length + 1) * bytes ≤ 140737488355328)
    (h : ∀ g cap w1, Ctx w0 R B O (u (Row d e (.slice (some ⟨g, 0, none⟩) (xs.length + 1) cap) (xs ++ [p]))) w1 → wpList P ops Q rest (a.put o.dst (.slice (some ⟨g, 0, none⟩) (xs.length + 1) cap)) w1) : wpList P ops Q (o :: rest) a (w.alloc (.cells cs.toArray e)) := by
  obtain ⟨i, h1, h2⟩ := F.ix
  have K : Ctx w0 R B O L (w.alloc (.cells cs.toArray e)) := C.keep ((Below.refl w.heap.size w).alloc (Nat.le_refl _) _)
  obtain ⟨b, hA, hbb, T⟩ := K.open_ i h1
  obtain ⟨inner, ho1, ho2, ho3⟩ := Row.owns hA hbb
  obtain ⟨inf, z, ht, hi, hz, hsz, hby, hzs, h0, hb0⟩ := E.ex
  have hm : xs.length + 1 ≤ maxLen := by
    have : xs.length + 1 ≤ (xs.length + 1) * bytes := Nat.le_mul_of_pos_right _ hb0
    unfold maxLen; omega
  refine wpList_append_own_at (w := w.alloc (.cells cs.toArray e)) hgd s x t ho w0.heap.size e inf z d.sz bytes ht hi hz hsz hby hzs h0 v xs.length inner hs ho1 ⟨w.heap.size, 0, none⟩ 1 1 cs hx (by simp [d.len hp]) (fun j y hy => ?_) (d.one hp) hm hb (by have := C.lt; simp; omega) fun v' w' g1 g2 g3 g4 => ?_
  · have e1 : (⟨w.heap.size, 0, none⟩ : Addr).add j = ⟨w.heap.size, j, none⟩ := by unfold Addr.add; split <;> simp_all
    rw [e1, cell_hp (heap_alloc_new w _)]
    simpa [cellOf] using hy
  · have r := reps_snoc (O := O) (d := d) ho1.1 ho2 hp
    have g1' : w'.ownsRow w0.heap.size e d.sz v' (xs ++ [p]).length (inner ++ cs) := by simpa using g1
    obtain ⟨b', hb1, hb2⟩ := Row.of_owns g1' r
    rcases g1.2 with ⟨_, hn⟩ | ⟨g, cap, cur, rfl, _⟩
    · omega
    · refine h g cap w' ?_
      rw [h2]
      refine T v.ownBlock b' g2 ?_ hb1 fun k y e => ?_
      · rcases ho3 with ⟨_, hn⟩ | ⟨k, y, e1, e2, e3⟩
        · exact .inl hn
        · exact .inr ⟨k, y, e1, e2, e3⟩
      · refine ⟨(hb2 k y e).1, ?_⟩
        have hk := (hb2 k y e).2
        rcases g4 with g4 | g4
        · rw [hk] at g4
          rcases ho3 with ⟨_, hn⟩ | ⟨k', y', e1, e2, _⟩
          · rw [hn] at g4; cases g4
          · rw [e2] at g4; cases g4; exact .inr ⟨y', e1⟩
        · rw [hk] at g4; cases g4; exact .inl (Nat.le_refl _)

/-- What a row holds, at a place. -/
theorem Ctx.row_at [C : Ctx w0 R B O L w] {α : Type} {d : Kind α} {e : TypeId} {v : Value} {xs : List α} {u : Ass → List Ass} [F : FRow L v d e xs u] (i : Nat) (hi : i < xs.length) :
    ∃ g c cs, v = .slice (some ⟨g, 0, none⟩) xs.length c ∧ d.rep O xs[i] cs ∧ (∀ k y, cs[k]? = some y → w.cell? ⟨g, i * d.sz + k, none⟩ = some y) ∧ (∀ j, w.frozen? ⟨g, j, none⟩ = false) := by
  obtain ⟨j, h1, h2⟩ := F.ix
  obtain ⟨b, hA, hb⟩ := C.look j h1
  rcases hA with ⟨q1, rfl, rfl⟩ | ⟨g, cap, cur, q1, rfl, h3, h4, h5, h6⟩
  · simp at hi
  · have hh := hb g _ q1
    refine ⟨g, cap, _, rfl, h6 i _ (List.getElem?_eq_getElem hi), fun k y hk => ?_, fun j => ?_⟩
    · rw [cell_hp hh.1]
      rw [List.getElem?_take] at hk
      split at hk
      · rw [List.getElem?_drop] at hk
        simpa [cellOf] using hk
      · cases hk
    · have := hh.1
      unfold hp at this
      simp [World.frozen?, this]
theorem Ctx.row_form [C : Ctx w0 R B O L w] {α : Type} {d : Kind α} {e : TypeId} {v : Value} {xs : List α} {u : Ass → List Ass} [F : FRow L v d e xs u] : ∃ A c, v = .slice A xs.length c ∧ xs.length ≤ c := by
  obtain ⟨j, h1, h2⟩ := F.ix
  obtain ⟨b, hA, hb⟩ := C.look j h1
  rcases hA with ⟨q1, rfl, rfl⟩ | ⟨g, cap, cur, q1, rfl, h3, h4, h5, h6⟩
  · exact ⟨none, 0, rfl, Nat.le_refl _⟩
  · exact ⟨_, cap, rfl, h3⟩

/-- A row of scalars, one of which is set. -/
theorem Ctx.row_set (C : Ctx w0 R B O L w) {α : Type} {f : α → List Value} {n : Nat} {h1 : ∀ x, (f x).length = n} {h2 : ∀ x, ∀ u ∈ f x, u.oneCell' = true} {e : TypeId} {g m cap : Nat} {xs : List α} {u : Ass → List Ass}
    (F : FRow L (.slice (some ⟨g, 0, none⟩) m cap) (flat n f h1 h2) e xs u) (hn : n = 1) (j : Nat) (x : α) (y : Value) (hy : f x = [y]) :
    Ctx w0 R B O (u (Row (flat n f h1 h2) e (.slice (some ⟨g, 0, none⟩) m cap) (xs.set j x))) (w.setCell ⟨g, j, none⟩ y) := by
  subst hn
  obtain ⟨i, k1, k2⟩ := F.ix
  rw [k2]
  obtain ⟨b, hA, hb, K⟩ := C.open_ i k1
  rcases hA with ⟨h1, h2, _⟩ | ⟨g', cap', cur, q1, q2, q3, q4, q5, q6⟩
  · cases h2
  · cases q2
    have hh := (hb _ _ q1).1
    refine K (some g) (some (g, .cells (cur.setIfInBounds j y) e (0, 0))) ⟨rfl, rfl, rfl, by simp [World.setCell], fun k _ hk => Below.heap_setCell _ _ _ _ (fun e => hk (by rw [e]))⟩ (.inr ⟨g, _, q1, rfl, rfl⟩)
      (.inr ⟨g, cap, _, rfl, by simp, by simpa using q3, q4, by simpa using q5, fun i z hz => ?_⟩) fun g' o' e => ?_
    · have hf : (flat 1 f h1 h2).sz = 1 := rfl
      have hc : cur.size = cap := by simpa [hf] using q5
      have hil : i < (xs.set j x).length := (List.getElem?_eq_some_iff.1 hz).1
      have hil' : i < xs.length := by simpa using hil
      have hic : i < cur.toList.length := by simp [hc]; omega
      have old := q6 i _ (List.getElem?_eq_getElem hil')
      show List.take 1 (List.drop (i * 1) (cur.setIfInBounds j y).toList) = f z
      have old' : List.take 1 (List.drop (i * 1) cur.toList) = f xs[i] := old
      rw [Nat.mul_one] at old' ⊢
      rw [List.getElem?_eq_getElem hil, Option.some.injEq] at hz
      rw [List.drop_eq_getElem_cons (by simpa using hic), List.take_succ_cons, List.take_zero]
      rw [List.drop_eq_getElem_cons hic, List.take_succ_cons, List.take_zero] at old'
      simp only [Array.toList_setIfInBounds, List.getElem_set] at hz ⊢
      split at hz
      · rename_i e; subst e hz; rw [if_pos rfl, hy]
      · rename_i e; subst hz; rw [if_neg e, old']
    · cases e
      refine ⟨?_, .inr ⟨_, q1⟩⟩
      unfold hp at hh ⊢
      simp [World.setCell, Array.getElem?_modify, hh]

/-- A row of zeros. -/
theorem ev_make [C : Ctx w0 R B O L w] {α : Type} {f : α → List Value} {h1 : ∀ x, (f x).length = 1} {h2 : ∀ x, ∀ u ∈ f x, u.oneCell' = true} {t e : TypeId} {z : Value} {bytes : Nat} (z0 : α) (n : Nat) (l c : Operand) (hgd : o.guard = none) (hop : o.op = Op.makeSlice t l c)
    (ht : P.underlying t = some (.slice e)) (hinfo : (P.info? e).map (fun i => (i.zero, i.size, i.bytes)) = some (some z, 1, bytes)) (hz1 : z.cells = #[z]) (hz0 : f z0 = [z])
    {kl kc : IntKind} (hl : a.eval l = .int kl (n : Int)) (hc : a.eval c = .int kc (n : Int)) (hb : bytes * n ≤ 281474976710656) (h63 : n ≤ 9223372036854775807)
    (h : ∀ g w1, Ctx w0 R B O (Row (flat 1 f h1 h2) e (.slice (some ⟨g, 0, none⟩) n n) (List.replicate n z0) :: L) w1 → wpList P ops Q rest (a.put o.dst (.slice (some ⟨g, 0, none⟩) n n)) w1) : wpList P ops Q (o :: rest) a w := by
  obtain ⟨i, hi, hzz⟩ := Option.map_eq_some_iff.1 hinfo
  simp only [Prod.mk.injEq] at hzz
  refine wpList_make_row w hgd l c t hop e i z ht hi hzz.1 hzz.2.1 hz1 kl kc n hl hc (by rw [hzz.2.2]; exact hb) h63 (h _ _ (C.new _ (.inr ⟨w.heap.size, n, madeCells #[z] n, rfl, by simp, by simp, h63, ?_, fun j x hx => ?_⟩)))
  · show _ = n * 1
    have := size_madeCells #[z] n
    simpa using this
  · have hj : j < n := by have := (List.getElem?_eq_some_iff.1 hx).1; simpa using this
    have hx' : x = z0 := by
      have := (List.getElem?_eq_some_iff.1 hx).2
      simpa using this.symm
    subst hx'
    show List.take 1 (List.drop (j * 1) (madeCells #[z] n).toList) = f x
    rw [hz0, Nat.mul_one, toList_madeCells_one, List.drop_replicate, List.take_replicate, Nat.min_eq_left (by omega)]
    rfl

/-- A row is turned no more: it reads as a list from now on. -/
theorem Ctx.row_freeze (C : Ctx w0 R B O L w) {α : Type} {d : Kind α} {e : TypeId} (i : Nat) {v : Value} {xs : List α} (hi : L[i]? = some (Row d e v xs)) (hl : xs.length ≤ 140737488355328) :
    ∃ O', PLe O O' ∧ Rd d O' v xs ∧ Ctx w0 R B O' (L.eraseIdx i) w := by
  obtain ⟨O', h1, ⟨b, hA, hb⟩, D⟩ := C.freeze i hi
  refine ⟨O', h1, ?_, D⟩
  rcases hA with ⟨q1, rfl, rfl⟩ | ⟨g, cap, cur, q1, rfl, h3, h4, h5, h6⟩
  · exact Rd.nil _ _
  · refine ⟨_, cap, rfl, h3, hl, fun j x hx => ⟨g, 0, _, _, rfl, hb g _ q1, d.mono h1 (h6 j x hx), fun k y hk => ?_⟩⟩
    rw [List.getElem?_take] at hk
    split at hk
    · rw [List.getElem?_drop] at hk
      simpa [cellOf] using hk
    · cases hk

/-- A row without its last elements. -/
theorem Ctx.row_cut (C : Ctx w0 R B O L w) {α : Type} {d : Kind α} {e : TypeId} {g n cap : Nat} {xs : List α} {u : Ass → List Ass} (F : FRow L (.slice (some ⟨g, 0, none⟩) n cap) d e xs u) (m : Nat) (hm : m ≤ xs.length) :
    Ctx w0 R B O (u (Row d e (.slice (some ⟨g, 0, none⟩) m cap) (xs.take m))) w := by
  obtain ⟨i, k1, k2⟩ := F.ix
  rw [k2]
  obtain ⟨b, hA, hb, K⟩ := C.open_ i k1
  rcases hA with ⟨q1, q2, _⟩ | ⟨g', cap', cur, q1, q2, q3, q4, q5, q6⟩
  · cases q2
  · cases q2
    refine K none b ⟨rfl, rfl, rfl, Nat.le_refl _, fun _ _ _ => rfl⟩ (.inl rfl) (.inr ⟨g, cap, cur, q1, by rw [List.length_take, Nat.min_eq_left hm], by rw [List.length_take]; omega, q4, q5, fun j x hx => q6 j x ?_⟩) fun k o e => ⟨(hb k o e).1, .inr ⟨o, e⟩⟩
    rw [List.getElem?_take] at hx
    split at hx
    · exact hx
    · cases hx
end ops
end Go.Sep
