/- Rows that are appended to rows; what a region of open order does. -/
import Derived.Test.YtomfgggomjbnfaaTE
import Derived.Test.YtomfgggomjbnfaaR
import Derived.Outline
import Derived.Deep.DeepCutAuto
set_option linter.unusedVariables false
set_option linter.unusedSimpArgs false
namespace Go.Sep
open Go.RowKit
open Go.Proofs.Ytomfgggomjbnfaa (kNat)
variable {w0 w w1 : World} {R : Option World} {B O O' : PH} {L L' : List Ass}
variable {P : Program} {ops : Array Oper} {rest : List Oper} {o : Oper} {a : Act} {Q : Exit → Act → World → Prop}
def rawN (ys : List Nat) : List Value := ys.map fun (x : Nat) => Value.int .i64 (x : Int)
theorem rawN_one (ys : List Nat) : ∀ u ∈ rawN ys, u.oneCell' = true := by
  intro u hu
  obtain ⟨x, _, rfl⟩ := List.mem_map.1 hu
  rfl
theorem rawN_append (xs ys : List Nat) : rawN (xs ++ ys) = rawN xs ++ rawN ys := by simp [rawN]
theorem rawN_rep (O : PH) (zs : List Nat) (i x : Nat) (hx : zs[i]? = some x) : kNat.rep O x (((rawN zs).drop (i * kNat.sz)).take kNat.sz) := by
  obtain ⟨hi, rfl⟩ := List.getElem?_eq_some_iff.1 hx
  show ((rawN zs).drop (i * 1)).take 1 = [.int .i64 (zs[i] : Int)]
  have hl : i < (rawN zs).length := by simpa [rawN] using hi
  have he : (rawN zs)[i] = .int .i64 (zs[i] : Int) := by simp [rawN]
  rw [Nat.mul_one, List.drop_eq_getElem_cons hl, List.take_succ_cons, List.take_zero, he]
theorem rdN_cell {A : Addr} {n c : Nat} {ys : List Nat} (r : Rd kNat O (.slice (some A) n c) ys) (hs : PLe O (hp w)) : ∀ j u, (rawN ys)[j]? = some u → w.cell? (A.add j) = some u := by
  intro j u hu
  obtain ⟨A', c', e, h1, h2, h3⟩ := r
  cases e
  have hj : j < ys.length := by have := (List.getElem?_eq_some_iff.1 hu).1; simpa [rawN] using this
  obtain ⟨b, off, cs, blk, e, k1, k2, k3⟩ := h3 j ys[j] (List.getElem?_eq_getElem hj)
  cases e
  have k2 : cs = [.int .i64 (ys[j] : Int)] := k2
  have hu' : u = .int .i64 (ys[j] : Int) := by
    unfold rawN at hu
    rw [List.getElem?_map, List.getElem?_eq_getElem hj] at hu
    simpa using hu.symm
  rw [hu', Addr.add_lit, cell_hp (hs _ _ k1)]
  have := k3 0 (.int .i64 (ys[j] : Int)) (by rw [k2]; rfl)
  rw [show kNat.sz = 1 from rfl, Nat.mul_one, Nat.add_zero] at this
  exact this
theorem run_append_none (base : Nat) (t ty e : TypeId) (i : TypeInfo) (size : Nat) (ht : P.underlying t = some (.slice e)) (hi : P.info? e = some i)
    (v : Value) (n : Nat) (xs : List Value) (hown : w.ownsRow base e size v n xs) (c : Nat) : (Builtin.append_ #[t, t] ty #[v, .slice none 0 c]).run P w = .ok v w := by
  rcases hown.2 with ⟨rfl, rfl⟩ | ⟨g, cap, cur, rfl, _, _, hnc, _⟩
  · simp [Builtin.append_, run_underlying ht, sizeOf, typeInfo, hi, Builtin.lenOf, Builtin.firstCells]
  · simp [Builtin.append_, run_underlying ht, sizeOf, typeInfo, hi, Builtin.lenOf, Builtin.firstCells, hnc, storeCells]
/-- A list that is read is appended to a row of the call's own. -/
theorem run_appendR [C : Ctx w0 R B O L w] {t e : TypeId} {bytes : Nat} (E : ElT P t e 1 bytes) (ty : TypeId) (v : Value) {xs ys : List Nat} {u : Ass → List Ass} [F : FRow L v kNat e xs u] {A : Option Addr} {n c : Nat}
    (r : Rd kNat O (.slice A n c) ys) (hn : ys.length = n) (hb : (xs.length + n) * bytes ≤ 140737488355328) :
    ∃ v' w1, (Builtin.append_ #[t, t] ty #[v, .slice A n c]).run P w = .ok v' w1 ∧ Ctx w0 R B O (u (Row kNat e v' (xs ++ ys))) w1 := by
  obtain ⟨i, h1, h2⟩ := F.ix
  obtain ⟨b, hA, hbb, T⟩ := C.open_ i h1
  obtain ⟨inner, ho1, ho2, ho3⟩ := Row.owns hA hbb
  obtain ⟨inf, z, ht, hi, hz, hsz, hby, hzs, h0, hb0⟩ := E.ex
  subst hn
  cases A with
  | none =>
    have hy : ys.length = 0 := by
      apply Classical.byContradiction
      intro h
      obtain ⟨A', c', e', _, _, h3⟩ := r
      cases e'
      obtain ⟨b, off, cs, blk, e, _⟩ := h3 0 _ (List.getElem?_eq_getElem (by omega))
      cases e
    obtain rfl := List.eq_nil_of_length_eq_zero hy
    refine ⟨v, w, run_append_none w0.heap.size t ty e inf 1 ht hi v xs.length inner ho1 c, ?_⟩
    rw [h2, List.append_nil]
    have := T none b (A' := Row kNat e v xs) ⟨rfl, rfl, rfl, Nat.le_refl _, fun _ _ _ => rfl⟩ (.inl rfl) hA (fun g o he => ⟨(hbb g o he).1, .inr ⟨o, he⟩⟩)
    exact this
  | some ad =>
    have hm : xs.length + ys.length ≤ maxLen := by
      have : xs.length + ys.length ≤ (xs.length + ys.length) * bytes := Nat.le_mul_of_pos_right _ hb0
      unfold maxLen; omega
    obtain ⟨v', w', hr, g1, g2, g3, g4⟩ := run_append_own_at (P := P) w w0.heap.size t ty e inf z 1 bytes ht hi hz hsz hby hzs h0 v xs.length inner ho1 ad ys.length c (rawN ys) (by simp [rawN]) (rdN_cell r C.sub) (rawN_one ys) hm hb C.lt
    refine ⟨v', w', hr, ?_⟩
    have hin : inner = rawN xs := by
      apply List.ext_getElem?
      intro j
      by_cases hj : j < xs.length
      · have h5 := ho2 j xs[j] (List.getElem?_eq_getElem hj)
        have h5 : (inner.drop (j * 1)).take 1 = [.int .i64 (xs[j] : Int)] := h5
        have h6 : ((inner.drop (j * 1)).take 1)[0]? = some (.int .i64 (xs[j] : Int)) := by rw [h5]; rfl
        rw [List.getElem?_take, if_pos (by omega), List.getElem?_drop, Nat.mul_one, Nat.add_zero] at h6
        rw [h6]
        simp [rawN, hj]
      · have hl : inner.length = xs.length * 1 := ho1.1
        rw [List.getElem?_eq_none (by omega), List.getElem?_eq_none (by simp [rawN]; omega)]
    have rr : ∀ i x, (xs ++ ys)[i]? = some x → kNat.rep O x (((inner ++ rawN ys).drop (i * kNat.sz)).take kNat.sz) := by
      intro i x hx
      rw [hin, ← rawN_append]
      exact rawN_rep O (xs ++ ys) i x hx
    have g1' : w'.ownsRow w0.heap.size e kNat.sz v' (xs ++ ys).length (inner ++ rawN ys) := by rw [List.length_append]; exact g1
    obtain ⟨b', hb1, hb2⟩ := Row.of_owns g1' rr
    rw [h2]
    refine T v.ownBlock b' g2 ?_ hb1 fun k y e => ?_
    · rcases ho3 with ⟨_, hn⟩ | ⟨k, y, e1, e2, e3⟩
      · exact .inl hn
      · exact .inr ⟨k, y, e1, e2, e3⟩
    · refine ⟨(hb2 k y e).1, ?_⟩
      have hk := (hb2 k y e).2
      rcases g4 with g4 | g4
      · rw [hk] at g4
        rcases ho3 with ⟨_, hn⟩ | ⟨k', y', e1, e2, _⟩
        · rw [hn] at g4; cases g4
        · rw [e2] at g4; cases g4; exact .inr ⟨y', e1⟩
      · rw [hk] at g4; cases g4; exact .inl (Nat.le_refl _)
theorem exec_append {s x : Operand} {t : TypeId} {v y v' : Value} (ho : o.op = .call { callee := .builtin .append, args := #[s, x], argTypes := #[t, t] }) (hs : a.eval s = v) (hx : a.eval x = y)
    (hr : (Builtin.append_ #[t, t] o.type #[v, y]).run P w = .ok v' w1) : (execOp a.eval o).run P w = .ok (.value v') w1 := by
  unfold execOp
  simp only [ho, resolve, invoke, builtin, Sem.run_bind, Sem.run_pure, Result.andThen_ok, List.map_toArray, List.map_cons, List.map_nil, hs, hx, hr]
theorem ev_appendR [C : Ctx w0 R B O L w] {t e : TypeId} {bytes : Nat} (E : ElT P t e 1 bytes) {s x : Operand} (v : Value) {xs ys : List Nat} {u : Ass → List Ass} [F : FRow L v kNat e xs u] {A : Option Addr} {n c : Nat}
    (hgd : o.guard = none) (ho : o.op = .call { callee := .builtin .append, args := #[s, x], argTypes := #[t, t] }) (hs : a.eval s = v) (hx : a.eval x = .slice A n c)
    (r : Rd kNat O (.slice A n c) ys) (hn : ys.length = n) (hb : (xs.length + n) * bytes ≤ 140737488355328)
    (h : ∀ v' w1, Ctx w0 R B O (u (Row kNat e v' (xs ++ ys))) w1 → wpList P ops Q rest (a.put o.dst v') w1) : wpList P ops Q (o :: rest) a w := by
  obtain ⟨v', w1, hr, C1⟩ := run_appendR (C := C) (F := F) E o.type v r hn hb
  exact ev_run hgd (exec_append ho hs hx hr) (h v' w1 C1)
variable {S : World → Prop} {fuel : Nat} {listed : Array Bool}
/-- One of several operations that may come up. -/
theorem op_run (i : Nat) {v : Value} {w' : World} (hi0 : ops.toList[i]? = some o) (hw : Region.wanted o (yielded ops a.tmps) = true)
    (hx : (execOp a.eval o).run P w = .ok (.value v) w') (hS : S w') (h : wpAnyH P .any ops Q S fuel (listed.setIfInBounds i true) (a.put o.dst v) w') :
    wpOp P ops Q i (fun a' w' => S w' ∧ wpAnyH P .any ops Q S fuel (listed.setIfInBounds i true) a' w') a w := by
  have hi : ops[i]? = some o := by simpa using hi0
  unfold wpOp
  simp only [hi, hw, if_true]
  refine .inl ?_
  unfold Oper.wp
  rw [hx]
  exact ⟨hS, h⟩
theorem h_two (i j : Nat) (hr : Region.ready .any ops listed = [i, j]) (h1 : wpOp P ops Q i (fun a' w' => S w' ∧ wpAnyH P .any ops Q S fuel (listed.setIfInBounds i true) a' w') a w)
    (h2 : wpOp P ops Q j (fun a' w' => S w' ∧ wpAnyH P .any ops Q S fuel (listed.setIfInBounds j true) a' w') a w) : wpAnyH P .any ops Q S (fuel + 1) listed a w :=
  wpAnyH_all hr (by simp) fun k hk => by
    rcases List.mem_cons.1 hk with rfl | hk
    · exact h1
    · rw [List.mem_singleton.1 hk]; exact h2
/-- A new row, that is empty. -/
theorem Ctx.rowNew (C : Ctx w0 R B O L w) (e : TypeId) : Ctx w0 R B O (Row kNat e (.slice (some ⟨w.heap.size, 0, none⟩) 0 0) [] :: L) (w.alloc (.cells #[] e)) :=
  C.new _ (.inr ⟨w.heap.size, 0, #[], rfl, rfl, Nat.le_refl _, Nat.zero_le _, rfl, by simp⟩)
theorem Ctx.rowOne (C : Ctx w0 R B O L w) (e : TypeId) (n : Nat) : Ctx w0 R B O (Row kNat e (.slice (some ⟨w.heap.size, 0, none⟩) 1 1) [n] :: L) (w.alloc (.cells #[.int .i64 (n : Int)] e)) :=
  C.new _ (.inr ⟨w.heap.size, 1, _, rfl, rfl, Nat.le_refl _, by unfold maxLen; omega, rfl, fun i x hx => by
    cases i with
    | zero => simp at hx; subst hx; rfl
    | succ i => simp at hx⟩)
theorem ev_rowNew [C : Ctx w0 R B O L w] {e : TypeId} (hgd : o.guard = none) (hr : (execOp a.eval o).run P w = .ok (.value (.slice (some ⟨w.heap.size, 0, none⟩) 0 0)) (w.alloc (.cells #[] e)))
    (h : ∀ g w1, Ctx w0 R B O (Row kNat e (.slice (some ⟨g, 0, none⟩) 0 0) [] :: L) w1 → wpList P ops Q rest (a.put o.dst (.slice (some ⟨g, 0, none⟩) 0 0)) w1) : wpList P ops Q (o :: rest) a w :=
  ev_run hgd hr (h _ _ (C.rowNew e))
theorem h_one (i : Nat) (hr : Region.ready .any ops listed = [i]) (h1 : wpOp P ops Q i (fun a' w' => S w' ∧ wpAnyH P .any ops Q S fuel (listed.setIfInBounds i true) a' w') a w) : wpAnyH P .any ops Q S (fuel + 1) listed a w :=
  wpAnyH_all hr (by simp) fun k hk => by
    rw [List.mem_singleton.1 hk]; exact h1
theorem op_rowNew [C : Ctx w0 R B O L w] (i : Nat) (e : TypeId) (hi0 : ops.toList[i]? = some o) (hw : Region.wanted o (yielded ops a.tmps) = true)
    (hr : (execOp a.eval o).run P w = .ok (.value (.slice (some ⟨w.heap.size, 0, none⟩) 0 0)) (w.alloc (.cells #[] e)))
    (h : ∀ g w1, Ctx w0 R B O (Row kNat e (.slice (some ⟨g, 0, none⟩) 0 0) [] :: L) w1 → S w1 ∧ wpAnyH P .any ops Q S fuel (listed.setIfInBounds i true) (a.put o.dst (.slice (some ⟨g, 0, none⟩) 0 0)) w1) :
    wpOp P ops Q i (fun a' w' => S w' ∧ wpAnyH P .any ops Q S fuel (listed.setIfInBounds i true) a' w') a w :=
  op_run i hi0 hw hr (h _ _ (C.rowNew e)).1 (h _ _ (C.rowNew e)).2
theorem op_rowOne [C : Ctx w0 R B O L w] (i : Nat) (e : TypeId) (n : Nat) (hi0 : ops.toList[i]? = some o) (hw : Region.wanted o (yielded ops a.tmps) = true)
    (hr : (execOp a.eval o).run P w = .ok (.value (.slice (some ⟨w.heap.size, 0, none⟩) 1 1)) (w.alloc (.cells #[.int .i64 (n : Int)] e)))
    (h : ∀ g w1 O', PLe O O' → Rd kNat O' (.slice (some ⟨g, 0, none⟩) 1 1) [n] → Ctx w0 R B O' L w1 → S w1 ∧ wpAnyH P .any ops Q S fuel (listed.setIfInBounds i true) (a.put o.dst (.slice (some ⟨g, 0, none⟩) 1 1)) w1) :
    wpOp P ops Q i (fun a' w' => S w' ∧ wpAnyH P .any ops Q S fuel (listed.setIfInBounds i true) a' w') a w := by
  obtain ⟨O', h1, h2, h3⟩ := (C.rowOne e n).row_freeze 0 rfl (by simp)
  exact op_run i hi0 hw hr (h _ _ O' h1 h2 h3).1 (h _ _ O' h1 h2 h3).2
theorem op_appendR [C : Ctx w0 R B O L w] (i : Nat) {t e : TypeId} {bytes : Nat} (E : ElT P t e 1 bytes) {s x : Operand} (v : Value) {xs ys : List Nat} {u : Ass → List Ass} [F : FRow L v kNat e xs u] {A : Option Addr} {n c : Nat}
    (hi0 : ops.toList[i]? = some o) (hw : Region.wanted o (yielded ops a.tmps) = true) (ho : o.op = .call { callee := .builtin .append, args := #[s, x], argTypes := #[t, t] }) (hs : a.eval s = v) (hx : a.eval x = .slice A n c)
    (r : Rd kNat O (.slice A n c) ys) (hn : ys.length = n) (hb : (xs.length + n) * bytes ≤ 140737488355328)
    (h : ∀ v' w1, Ctx w0 R B O (u (Row kNat e v' (xs ++ ys))) w1 → S w1 ∧ wpAnyH P .any ops Q S fuel (listed.setIfInBounds i true) (a.put o.dst v') w1) :
    wpOp P ops Q i (fun a' w' => S w' ∧ wpAnyH P .any ops Q S fuel (listed.setIfInBounds i true) a' w') a w := by
  obtain ⟨v', w1, hr, C1⟩ := run_appendR (C := C) (F := F) E o.type v r hn hb
  exact op_run i hi0 hw (exec_append ho hs hx hr) (h v' w1 C1).1 (h v' w1 C1).2
section gates
variable {d : Option Nat} {ty : TypeId} {pos : String} {af : Array Edge} {els : Array (Nat × Operand)}
theorem gBs (t n : Nat) (h : wpList P ops Q ({ dst := d, op := .buildSlice t n els, type := ty, pos := pos, after := af, guard := none } :: rest) a w) : wpList P ops Q ({ dst := d, op := .buildSlice t n els, type := ty, pos := pos, after := af, guard := none } :: rest) a w := h
end gates
end Go.Sep
namespace Go.Proofs.Ytomfgggomjbnfaa
open Go.RowKit Go.Sep
attribute [local go_sem] cell_ctx frozen_ctx cell_fz arr_at
end Go.Proofs.Ytomfgggomjbnfaa
