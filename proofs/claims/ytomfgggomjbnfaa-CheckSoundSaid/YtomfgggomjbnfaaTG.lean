/- The walk of the document's answer for the best of all plans. -/
import Derived.Test.YtomfgggomjbnfaaTF
import Derived.Test.YtomfgggomjbnfaaU
import Derived.Outline
import Derived.Deep.DeepCutAuto
set_option linter.unusedVariables false
set_option linter.unusedSimpArgs false
namespace Go.Sep
open Go.RowKit
theorem Owns.weak {O O' : PH} : ∀ {L : List Ass} {bs : List (Option (Nat × Obj))}, (∀ A, A ∈ L → ∀ b, A.A O' b → A.A O b) → Owns O' L bs → Owns O L bs
  | [], [], _, _ => trivial
  | A :: L, b :: bs, h, ⟨h1, h2⟩ => ⟨h A (by simp) b h1, Owns.weak (fun A hA => h A (by simp [hA])) h2⟩
theorem Ctx.weak {w0 w : World} {R : Option World} {B O O' : PH} {L : List Ass} (C : Ctx w0 R B O' L w) (hB : PLe B O) (h : PLe O O') (hL : ∀ A, A ∈ L → ∀ b, A.A O' b → A.A O b) : Ctx w0 R B O L w := by
  obtain ⟨h1, h2, h3, h4, ⟨bs, h5, h6, h7⟩, hk⟩ := C
  refine ⟨h1, hB, fun k o hk => h3 k o (h k o hk), h.trans h4, ⟨bs, h5.weak hL, h6, fun g o hm => ⟨(h7 g o hm).1, ?_, (h7 g o hm).2.2⟩⟩, hk⟩
  cases he : O g with
  | none => rfl
  | some o' => have := h g o' he; rw [(h7 g o hm).2.1] at this; cases this
theorem Ctx.weak1 {w0 w : World} {R : Option World} {B O O' : PH} {g : Nat} {t : TypeId} {cs : Array Value} (C : Ctx w0 R B O' [Cells g t cs] w) (hB : PLe B O) (h : PLe O O') : Ctx w0 R B O [Cells g t cs] w :=
  C.weak hB h fun A hA b hb => by
    rw [List.mem_singleton.1 hA] at hb ⊢
    exact hb
end Go.Sep
namespace Go.Proofs.Ytomfgggomjbnfaa
open Go.RowKit Go.Sep
attribute [local go_sem] cell_ctx frozen_ctx cell_fz arr_at
def toI (p : List (List Nat)) : List (List Int) := p.map fun l => l.map fun (x : Nat) => (x : Int)
theorem rdI {O : PH} {v : Value} {xs : List Nat} (r : Rd kNat O v xs) : Rd kInt O v (xs.map fun (x : Nat) => (x : Int)) := by
  obtain ⟨A, c, e, h1, h2, h3⟩ := r
  refine ⟨A, c, by rw [List.length_map]; exact e, by rw [List.length_map]; exact h1, by rw [List.length_map]; exact h2, fun i x hx => ?_⟩
  rw [List.getElem?_map] at hx
  obtain ⟨y, hy, rfl⟩ := Option.map_eq_some_iff.1 hx
  exact h3 i y hy
theorem rdII {O : PH} {v : Value} {p : List (List Nat)} (r : Rd (kSl kNat) O v p) : Rd (kSl kInt) O v (toI p) := by
  obtain ⟨A, c, e, h1, h2, h3⟩ := r
  unfold toI
  refine ⟨A, c, by rw [List.length_map]; exact e, by rw [List.length_map]; exact h1, by rw [List.length_map]; exact h2, fun i x hx => ?_⟩
  rw [List.getElem?_map] at hx
  obtain ⟨y, hy, rfl⟩ := Option.map_eq_some_iff.1 hx
  obtain ⟨b, off, cs, blk, k1, k2, ⟨v, k3, k4⟩, k5⟩ := h3 i y hy
  exact ⟨b, off, cs, blk, k1, k2, ⟨v, k3, rdI k4⟩, k5⟩
abbrev mayS (s : Snap) (w c : Nat) : Bool := mayB (s.wants.getD w ⟨0, 0⟩) c
abbrev costS (s : Snap) (p : List (List Nat)) : Int := costR s (toI p)
theorem flat_toI (p : List (List Nat)) : (toI p).flatten = p.flatten.map fun (x : Nat) => (x : Int) := by
  unfold toI
  rw [List.map_flatten]
theorem count_cast (l : List Nat) (n : Nat) : (l.map fun (x : Nat) => (x : Int)).count (n : Int) = l.count n := by
  induction l with
  | nil => rfl
  | cons a l ih =>
    rw [List.map_cons, List.count_cons, List.count_cons, ih]
    by_cases e : a = n
    · subst e; simp
    · have : ¬ ((a : Int) = (n : Int)) := by omega
      simp [e, this]
theorem count_range (n k : Nat) (hk : k < n) : (List.range n).count k = 1 := by
  rw [List.Nodup.count List.nodup_range, if_pos (List.mem_range.2 hk)]
theorem feas_plan {s : Snap} (hr : rightB s = true) {p : List (List Nat)} (h : Pater.Plan (mayS s) s.cars.length s.wants.length p) : Feas s (toI p) := by
  have hlen : (toI p).flatten.length = s.wants.length := by
    rw [flat_toI, List.length_map, h.all.length_eq, List.length_range]
  refine ⟨hr, by unfold toI; rw [List.length_map]; exact h.len, fun i hi w hw => ?_, fun n hn => ?_, Nat.le_of_eq hlen⟩
  · unfold toI at hi hw
    rw [List.length_map] at hi
    rw [List.getElem_map] at hw
    obtain ⟨x, hx, rfl⟩ := List.mem_map.1 hw
    have hm := h.mays i hi x hx
    have hxr : x < s.wants.length := List.mem_range.1 (h.all.subset (List.mem_flatten.2 ⟨_, List.getElem_mem hi, hx⟩))
    exact ⟨by omega, by omega, by rw [Int.toNat_natCast]; exact hm⟩
  · rw [flat_toI, count_cast, h.all.count_eq, count_range _ _ hn]
/-- Slices laid one behind the other. -/
def CellsS (O : PH) (cur : Array Value) (q : List (List Nat)) : Prop := cur.size = q.length ∧ ∀ k (h : k < q.length), ∃ A c, cur[k]? = some (.slice A (q[k]).length c) ∧ Rd kNat O (.slice A (q[k]).length c) q[k]
theorem CellsS.mono {O O' : PH} {cur : Array Value} {q : List (List Nat)} (h : CellsS O cur q) (hO : PLe O O') : CellsS O' cur q :=
  ⟨h.1, fun k hk => by obtain ⟨A, c, h1, h2⟩ := h.2 k hk; exact ⟨A, c, h1, h2.mono hO⟩⟩
theorem CellsS.set {O : PH} {cur : Array Value} {q : List (List Nat)} (h : CellsS O cur q) (k : Nat) (xs : List Nat) {A : Option Addr} {c : Nat} (r : Rd kNat O (.slice A xs.length c) xs) : CellsS O (cur.setIfInBounds k (.slice A xs.length c)) (q.set k xs) := by
  refine ⟨by simpa using h.1, fun j hj => ?_⟩
  have hj' : j < q.length := by simpa using hj
  rw [List.getElem_set]
  split
  · rename_i e; subst e
    exact ⟨A, c, by rw [Array.getElem?_setIfInBounds]; simp [h.1, hj'], r⟩
  · rename_i e
    obtain ⟨A', c', h1, h2⟩ := h.2 j hj'
    exact ⟨A', c', by rw [Array.getElem?_setIfInBounds, if_neg e, h1], h2⟩
theorem CellsS.rep {O : PH} {cur : Array Value} {q : List (List Nat)} (h : CellsS O cur q) : ∀ i x, q[i]? = some x → (kSl kNat).rep O x ((cur.toList.drop (i * (kSl kNat).sz)).take (kSl kNat).sz) := by
  intro i x hx
  obtain ⟨hi, rfl⟩ := List.getElem?_eq_some_iff.1 hx
  obtain ⟨A, c, h1, h2⟩ := h.2 i hi
  refine ⟨_, ?_, h2⟩
  show (cur.toList.drop (i * 1)).take 1 = _
  have hc : i < cur.toList.length := by rw [Array.length_toList, h.1]; exact hi
  rw [Nat.mul_one, List.drop_eq_getElem_cons hc]
  have hc' : i < cur.size := by simpa using hc
  have : cur[i] = .slice A (q[i]).length c := by
    rw [Array.getElem?_eq_getElem hc'] at h1
    exact Option.some.inj h1
  simp [this]
theorem CellsS.made (O : PH) (n : Nat) : CellsS O (madeCells (Value.slice none 0 0).cells (n * 1)) (List.replicate n []) := by
  refine ⟨by rw [size_madeCells]; simp, fun k hk => ?_⟩
  have hk' : k < n := by simpa using hk
  refine ⟨none, 0, ?_, ?_⟩
  · have e : (madeCells (Value.slice none 0 0).cells (n * 1)).toList = List.replicate n (Value.slice none 0 0) := by
      rw [Nat.mul_one, show (Value.slice none 0 0).cells = #[Value.slice none 0 0] from rfl, toList_madeCells_one]
    rw [← Array.getElem?_toList, e, List.getElem?_replicate]
    simp [hk']
  · simp only [List.getElem_replicate]
    exact Rd.nil _ _
def putC (s : Snap) (w : Nat) (p : List (List Nat)) (c : Nat) : List (List (List Nat)) := if mayS s w c then (List.range ((p.getD c []).length + 1)).map fun k => p.set c (Pater.ins (p.getD c []) k w) else []
theorem put_eq (s : Snap) (w : Nat) (p : List (List Nat)) : Pater.put (mayS s) w p = (List.range p.length).flatMap (putC s w p) := rfl
theorem least_append (a : Int) (x y : List Int) : Pater.least a (x ++ y) = Pater.least (Pater.least a x) y := by simp [Pater.least]
theorem info64c : (Try.prog.info? 64).map (fun i => (i.zero, i.size, i.bytes)) = some (some (.slice none 0 0), 1, 24) := by kernel_rfl
theorem el64 : ElT Try.prog 64 3 1 8 := ElT.mk' Try.underlying64 info3c rfl (by decide) (by decide)
end Go.Proofs.Ytomfgggomjbnfaa
