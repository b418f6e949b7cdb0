/- slices.Clone and slices.Delete of a node's wants, in the words of the own layer. -/
import Derived.Test.YtomfgggomjbnfaaF
import Derived.Test.YtomfgggomjbnfaaH
import Derived.Test.YtomfgggomjbnfaaR
set_option linter.unusedVariables false
namespace Go.Proofs.Ytomfgggomjbnfaa
open Go.RowKit Go.Sep
theorem row_born {α : Type} {d : Kind α} {e : TypeId} {v : Value} {xs : List α} {inner : List Value} {O : PH} {w w' : World} (hO : PLe O (hp w)) (hb : Below w.heap.size w w') (h : w'.ownsRow w.heap.size e d.sz v xs.length inner)
    (hr : ∀ i x, xs[i]? = some x → d.rep O x ((inner.drop (i * d.sz)).take d.sz)) : Ctx w none O O [Row d e v xs] w' := by
  have C := (Ctx.start hO).keep hb
  obtain ⟨b, h1, h2⟩ := Row.of_owns h hr
  refine ⟨C.bel, C.bO, C.fr, C.sub, ⟨[b], ⟨h1, trivial⟩, by simp, fun g o hg => ?_⟩, by simp⟩
  have e : b = some (g, o) := (List.mem_singleton.1 hg).symm
  have hl := (h.lt g (h2 g o e).2).1
  refine ⟨(h2 g o e).1, ?_, hl⟩
  cases hk : O g with
  | none => rfl
  | some o' => have := hp_lt (hO _ _ hk); omega
theorem clone_rd (xs : List Nat) (v : Value) (O : PH) (w : World) (hO : PLe O (hp w)) (r : Rd kNat O v xs) (hn : xs.length ≤ 1000000) : Calls Try.prog 93 #[v] w fun e w' => ∃ v', e = .returned v' ∧ Ctx w none O O [Row kNat 3 v' xs] w' := by
  cases xs with
  | nil =>
    obtain ⟨A, c, rfl, _⟩ := r
    cases A with
    | none =>
      refine (clone_none 0 c w).mono ?_
      rintro e w' ⟨rfl, rfl⟩
      exact ⟨_, rfl, (Ctx.start hO).empty (.inl ⟨rfl, rfl, rfl⟩)⟩
    | some a =>
      refine (Any.slices_Clone_int_zero Try.shelfClone a c w).mono ?_
      rintro e w' ⟨v', rfl, h1, _, h3⟩
      exact ⟨v', rfl, row_born hO h3 h1 (by simp)⟩
  | cons x l =>
    obtain ⟨b, off, c, _, rfl, _⟩ := Rd_atO r 0 (by simp)
    refine (clone_some b off (x :: l).length c ((x :: l).map (fun k : Nat => (k : Int))) w (by simp) (by omega) fun j hj => ?_).mono ?_
    · have hj' : j < (x :: l).length := by simpa using hj
      obtain ⟨b', off', c', cs, e, h1, h2⟩ := Rd_atO r j hj'
      cases e
      have h1 : cs = [Value.int .i64 ((x :: l)[j] : Int)] := h1
      have := h2 w hO 0 (Value.int .i64 ((x :: l)[j] : Int)) (by rw [h1]; rfl)
      rw [show kNat.sz = 1 from rfl, Nat.mul_one, Nat.add_zero] at this
      rw [this, List.getD_eq_getElem?_getD, List.getElem?_map, List.getElem?_eq_getElem hj']
      rfl
    · rintro e w' ⟨v', rfl, h1, _, h3⟩
      refine ⟨v', rfl, row_born hO h3 h1 fun i y hi => ?_⟩
      have hi' : i < (x :: l).length := (List.getElem?_eq_some_iff.1 hi).1
      rw [show (List.map (fun k : Nat => (k : Int)) (x :: l)).take (x :: l).length = List.map (fun k : Nat => (k : Int)) (x :: l) from List.take_of_length_le (by simp)]
      show List.take 1 (List.drop (i * 1) _) = [Value.int .i64 (y : Int)]
      rw [List.map_map, Nat.mul_one, ← List.map_drop, ← List.map_take]
      have : List.take 1 (List.drop i (x :: l)) = [y] := by
        rw [List.drop_eq_getElem_cons hi', List.take_succ_cons, List.take_zero]
        rw [List.getElem?_eq_getElem hi', Option.some.injEq] at hi
        rw [hi]
      rw [this]
      rfl
theorem hp_putRow {α : Type} [Inhabited α] (enc : α → Value) (w : World) (q g off : Nat) (d : Array α) (k : Nat) : hp (Sort.putRow enc (Sort.ahead w q) g off d) k = if g = k then (hp w k).map (Sort.onCells (Sort.putCells enc off d)) else hp w k := by
  unfold hp Sort.putRow Sort.mapBlock Sort.ahead
  simp only [Array.getElem?_modify]
theorem delete_ctx {w0 w : World} {R : Option World} {B O : PH} {L : List Ass} {v : Value} (xs : List Nat) [C : Ctx w0 R B O (Row kNat 3 v xs :: L) w] (i : Nat) (hi : i < xs.length) :
    Calls Try.prog 108 #[v, .int .i64 (i : Int), .int .i64 ((i + 1 : Nat) : Int)] w fun e w' => ∃ v', e = .returned v' ∧ Ctx w0 R B O (Row kNat 3 v' (xs.take i ++ xs.drop (i + 1)) :: L) w' := by
  obtain ⟨b, hA, hb, K⟩ := C.open_ 0 rfl
  rcases hA with ⟨q1, rfl, rfl⟩ | ⟨g, cap, cur, q1, rfl, h3, h4, h5, h6⟩
  · simp at hi
  have hh := (hb g _ q1).1
  have h5' : cur.size = cap := by simpa [show kNat.sz = 1 from rfl] using h5
  have at_ : ∀ j (hj : j < xs.length), cur[j]? = some (Value.int .i64 (xs[j] : Int)) := fun j hj => by
    have h7 : List.take 1 (List.drop (j * 1) cur.toList) = [Value.int .i64 (xs[j] : Int)] := h6 j _ (List.getElem?_eq_getElem hj)
    rw [Nat.mul_one] at h7
    have hj2 : j < cur.toList.length := by simp [h5']; omega
    rw [List.drop_eq_getElem_cons hj2, List.take_succ_cons, List.take_zero] at h7
    have := (List.cons.inj h7).1
    rw [← this]
    simp
  have hF : Sort.Holds (Value.int .i64) w g 0 (xs.map (fun k : Nat => (k : Int))).toArray := fun j hj => by
    have hj' : j < xs.length := by simpa using hj
    refine ⟨?_, ?_⟩
    · rw [cell_hp hh]
      show cur[0 + j]? = _
      rw [Nat.zero_add, at_ j hj']
      simp [hj']
    · unfold hp at hh
      simp [World.frozen?, hh]
  have h := delete_some g 0 cap i (i + 1) (xs.map (fun k : Nat => (k : Int))) w hF (by simpa using h3) h4 (by omega) (by simp; omega)
  rw [show (xs.map (fun k : Nat => (k : Int))).length = xs.length by simp] at h
  refine h.mono ?_
  rintro e w' ⟨rfl, q, rfl⟩
  refine ⟨_, rfl, ?_⟩
  have hlen : (xs.take i ++ xs.drop (i + 1)).length = xs.length - (i + 1 - i) := by simp; omega
  rw [← hlen]
  refine K (some g) (some (g, .cells (Sort.putCells (Value.int .i64) 0 ((xs.map (fun k : Nat => (k : Int))).take i ++ (xs.map (fun k : Nat => (k : Int))).drop (i + 1) ++ List.replicate (i + 1 - i) 0).toArray cur) 3 (0, 0)))
    ⟨rfl, rfl, rfl, by simp [Sort.ahead], fun k _ hk => ?_⟩ (.inr ⟨g, _, q1, rfl, rfl⟩) (.inr ⟨g, cap, _, rfl, rfl, by omega, h4, ?_, fun j y hy => ?_⟩) fun g' o' e => ?_
  · have := hp_putRow (Value.int .i64) w q g 0 ((xs.map (fun k : Nat => (k : Int))).take i ++ (xs.map (fun k : Nat => (k : Int))).drop (i + 1) ++ List.replicate (i + 1 - i) 0).toArray k
    rw [if_neg (fun e => hk (by rw [e]))] at this
    exact this
  · simpa [Sort.putCells] using h5
  · have hj := (List.getElem?_eq_some_iff.1 hy).1
    have hjl : j < xs.length - 1 := by omega
    show List.take 1 (List.drop (j * 1) _) = [Value.int .i64 (y : Int)]
    rw [Nat.mul_one]
    have hjc : j < (Sort.putCells (Value.int .i64) 0 ((xs.map (fun k : Nat => (k : Int))).take i ++ (xs.map (fun k : Nat => (k : Int))).drop (i + 1) ++ List.replicate (i + 1 - i) 0).toArray cur).toList.length := by
      simp [Sort.putCells, h5']; omega
    rw [List.drop_eq_getElem_cons hjc, List.take_succ_cons, List.take_zero]
    congr 1
    have hy' : ((xs.take i ++ xs.drop (i + 1)).map (fun k : Nat => (k : Int)))[j]? = some (y : Int) := by rw [List.getElem?_map, hy]; rfl
    rw [List.map_append, List.map_take, List.map_drop] at hy'
    have hin : ((xs.map (fun k : Nat => (k : Int))).take i ++ (xs.map (fun k : Nat => (k : Int))).drop (i + 1) ++ List.replicate (i + 1 - i) 0)[j]? = some (y : Int) := by
      rw [List.getElem?_append_left (by simp at hj ⊢; omega)]; exact hy'
    have hs : j < ((xs.map (fun k : Nat => (k : Int))).take i ++ (xs.map (fun k : Nat => (k : Int))).drop (i + 1) ++ List.replicate (i + 1 - i) 0).length := (List.getElem?_eq_some_iff.1 hin).1
    have he := (List.getElem?_eq_some_iff.1 hin).2
    simp only [Sort.putCells, Array.getElem_toList, Array.getElem_mapIdx, Nat.zero_add, Nat.zero_le, true_and, Nat.sub_zero]
    rw [if_pos (by simpa using hs)]
    rw [getElem!_pos _ j (by simpa using hs)]
    simpa using he
  · cases e
    refine ⟨?_, .inr ⟨_, q1⟩⟩
    rw [hp_putRow, if_pos rfl, hh]
    rfl
end Go.Proofs.Ytomfgggomjbnfaa
