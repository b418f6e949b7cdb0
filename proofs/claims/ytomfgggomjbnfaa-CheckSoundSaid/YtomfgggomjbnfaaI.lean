/- Rows of many cells: made, copied over, read as a list. -/
import Derived.Test.YtomfgggomjbnfaaR
import Derived.Laws.CopyOwn
import Derived.Laws.MakeOwn
import Derived.Deep.MidRow
set_option linter.unusedVariables false
namespace Go.Sep
open Go Go.RowKit
variable {P : Program} {ops : Array Oper} {o : Oper} {rest : List Oper} {Q : Exit → Act → World → Prop} {a : Act} {w0 w : World} {R : Option World} {B O : PH} {L : List Ass}

/-- A row of zeros is made: its cells are told. -/
theorem ev_makeC [C : Ctx w0 R B O L w] {t e : TypeId} {z : Value} {sz bytes : Nat} (n : Nat) (l c : Operand) (hgd : o.guard = none) (hop : o.op = Op.makeSlice t l c)
    (ht : P.underlying t = some (.slice e)) (hinfo : (P.info? e).map (fun i => (i.zero, i.size, i.bytes)) = some (some z, sz, bytes))
    {kl kc : IntKind} (hl : a.eval l = .int kl (n : Int)) (hc : a.eval c = .int kc (n : Int)) (hb : bytes * n ≤ 281474976710656) (h63 : n ≤ 9223372036854775807)
    (h : ∀ g w1, Ctx w0 R B O (Cells g e (madeCells z.cells (n * sz)) :: L) w1 → wpList P ops Q rest (a.put o.dst (.slice (some ⟨g, 0, none⟩) n n)) w1) : wpList P ops Q (o :: rest) a w := by
  obtain ⟨i, hi, hzz⟩ := Option.map_eq_some_iff.1 hinfo
  simp only [Prod.mk.injEq] at hzz
  obtain ⟨hz, rfl, rfl⟩ := hzz
  refine wpList_plain hgd fun K hK' => ?_
  have hb' : (i.bytes : Int) * (n : Int) ≤ 281474976710656 := by
    have h : ((i.bytes * n : Nat) : Int) ≤ 281474976710656 := by omega
    rwa [Int.natCast_mul] at h
  have hrun := run_make (P := P) w t e i z ht hi hz kl kc n n (by omega) (Int.le_refl _) hb' (by omega)
  simp only [Int.toNat_natCast] at hrun
  unfold Oper.wp
  simp [execOp, hop, hl, hc, hrun, Result.andThen]
  exact hK' _ _ (h _ _ (C.new _ rfl))

theorem run_copy_all (w : World) (dT sT ty elem : TypeId) (g n n' sz : Nat) (A : Option Addr) (c : Nat) (cur : Array Value) (t : TypeId) (cs : List Value)
    (hu : P.underlying dT = some (.slice elem)) (hs : (P.info? elem).map (·.size) = some sz)
    (hg : w.heap[g]? = some (.cells cur t (0, 0))) (hcs : cs.length = n * sz) (hcur : cur.size = n * sz) (h0 : A = none → n = 0)
    (hsrc : ∀ ad, A = some ad → ∀ j v, cs[j]? = some v → w.cell? (ad.add j) = some v) (h1 : ∀ v ∈ cs, v.oneCell' = true) :
    (Builtin.copy_ #[dT, sT] ty #[.slice (some ⟨g, 0, none⟩) n n', .slice A n c]).run P w = .ok (goInt n) (w.setRow g cs.toArray) := by
  cases hq : P.info? elem with
  | none => simp [hq] at hs
  | some i =>
    have hi : i.size = sz := by simpa [hq] using hs
    have hst := run_storeCells_at P g 0 t cs 0 cur w hg (by omega) h1
    have e : (List.take (0 + 0) cur.toList ++ cs ++ List.drop (0 + 0 + cs.length) cur.toList).toArray = cs.toArray := by
      congr 1
      rw [List.drop_eq_nil_of_le (by simp; omega)]
      simp
    rw [e] at hst
    cases A with
    | none =>
      obtain rfl := h0 rfl
      obtain rfl : cs = [] := List.eq_nil_of_length_eq_zero (by simpa using hcs)
      simp [Builtin.copy_, run_underlying hu, Builtin.lenOf, Builtin.firstCells, sizeOf, typeInfo, hq, hst]
    | some ad =>
      have hl := run_loadCells_list (P := P) w ad cs (hsrc ad rfl)
      rw [hcs] at hl
      simp [Builtin.copy_, run_underlying hu, Builtin.lenOf, Builtin.firstCells, sizeOf, typeInfo, hq, hi, hl, hst]

/-- As many elements as there are go over. -/
theorem ev_copyC [C : Ctx w0 R B O L w] {g : Nat} {t : TypeId} {cur : Array Value} {u : Ass → List Ass} [F : FCells L g t cur u] {dT sT elem : TypeId} {n n' sz c : Nat} {A : Option Addr} (cs : List Value) {d s : Operand} (hgd : o.guard = none)
    (ho : o.op = .call { callee := .builtin .copy, args := #[d, s], argTypes := #[dT, sT] }) (hu : P.underlying dT = some (.slice elem)) (hs : (P.info? elem).map (·.size) = some sz)
    (hd : a.eval d = .slice (some ⟨g, 0, none⟩) n n') (hx : a.eval s = .slice A n c) (hcs : cs.length = n * sz) (hcur : cur.size = n * sz) (h0 : A = none → n = 0)
    (hsrc : ∀ ad, A = some ad → ∀ j v, cs[j]? = some v → w.cell? (ad.add j) = some v) (h1 : ∀ v ∈ cs, v.oneCell' = true)
    (h : ∀ w1, Ctx w0 R B O (u (Cells g t cs.toArray)) w1 → wpList P ops Q rest (a.put o.dst (goInt n)) w1) : wpList P ops Q (o :: rest) a w := by
  obtain ⟨i, h1', h2⟩ := F.ix
  obtain ⟨b, hA, hb, K⟩ := C.open_ i h1'
  have hA : b = some (g, .cells cur t (0, 0)) := hA
  have hh := (hb _ _ hA).1
  refine wpList_plain hgd fun K' hK' => ?_
  have hrun := run_copy_all (P := P) w dT sT o.type elem g n n' sz A c cur t cs hu hs hh hcs hcur h0 hsrc h1
  unfold Oper.wp
  simp [execOp, ho, resolve, invoke, builtin, hd, hx, hrun, Result.andThen]
  refine hK' _ _ (h _ ?_)
  rw [h2]
  refine K (some g) (some (g, .cells cs.toArray t (0, 0))) ⟨rfl, rfl, rfl, by simp [World.setRow], fun k _ hk => setRow_other w g k _ (fun e => hk (by rw [e]))⟩ (.inr ⟨g, _, hA, rfl, rfl⟩) rfl fun g' o' e => ?_
  cases e
  exact ⟨setRow_heap w g cur _ t _ hh, .inr ⟨_, hA⟩⟩

/-- Cells that are a row. -/
theorem Ctx.recast (C : Ctx w0 R B O L w) {g : Nat} {t : TypeId} {cur : Array Value} {u : Ass → List Ass} (F : FCells L g t cur u) {α : Type} (d : Kind α) (xs : List α) (cap : Nat) (h1 : xs.length ≤ cap) (h2 : cap ≤ maxLen) (h3 : cur.size = cap * d.sz)
    (hr : ∀ i x, xs[i]? = some x → d.rep O x ((cur.toList.drop (i * d.sz)).take d.sz)) : Ctx w0 R B O (u (Row d t (.slice (some ⟨g, 0, none⟩) xs.length cap) xs)) w := by
  obtain ⟨i, h1', h2'⟩ := F.ix
  obtain ⟨b, hA, hb, K⟩ := C.open_ i h1'
  rw [h2']
  exact K none b ⟨rfl, rfl, rfl, Nat.le_refl _, fun _ _ _ => rfl⟩ (.inl rfl) (.inr ⟨g, cap, cur, hA, rfl, h1, h2, h3, hr⟩) fun k o e => ⟨(hb k o e).1, .inr ⟨o, e⟩⟩

/-- Values laid one behind the other. -/
def setL (cur : Array Value) : Nat → List Value → Array Value
  | _, [] => cur
  | off, v :: vs => setL (cur.setIfInBounds off v) (off + 1) vs
theorem Ctx.setCellAt (C : Ctx w0 R B O L w) {g : Nat} {t : TypeId} {cs : Array Value} (i : Nat) (h1 : L[i]? = some (Cells g t cs)) (j : Nat) (v : Value) : Ctx w0 R B O (L.set i (Cells g t (cs.setIfInBounds j v))) (w.setCell ⟨g, j, none⟩ v) := by
  obtain ⟨b, hA, hb, K⟩ := C.open_ i h1
  have hA : b = some (g, .cells cs t (0, 0)) := hA
  have hh := (hb _ _ hA).1
  refine K (some g) (some (g, .cells (cs.setIfInBounds j v) t (0, 0))) ⟨rfl, rfl, rfl, by simp [World.setCell], fun k _ hk => Below.heap_setCell _ _ _ _ (fun e => hk (by rw [e]))⟩ (.inr ⟨g, _, hA, rfl, rfl⟩) rfl fun g' o' e => ?_
  cases e
  refine ⟨?_, .inr ⟨_, hA⟩⟩
  unfold hp at hh ⊢
  simp [World.setCell, Array.getElem?_modify, hh]
theorem Ctx.setCellsAt {g : Nat} {t : TypeId} (i : Nat) : ∀ (vs : List Value) (off : Nat) (cs : Array Value) (L : List Ass) (w : World), Ctx w0 R B O L w → L[i]? = some (Cells g t cs) → Ctx w0 R B O (L.set i (Cells g t (setL cs off vs))) (w.setCells g off vs)
  | [], off, cs, L, w, C, h => by
    have : L.set i (Cells g t cs) = L := by
      apply List.ext_getElem?
      intro k
      rw [List.getElem?_set]
      split
      · rename_i e; subst e; split
        · exact h.symm
        · rename_i hn; rw [List.getElem?_eq_none (by omega)]
      · rfl
    show Ctx w0 R B O (L.set i (Cells g t cs)) w
    rw [this]; exact C
  | v :: vs, off, cs, L, w, C, h => by
    have D := C.setCellAt i h off v
    have hi := (List.getElem?_eq_some_iff.1 h).1
    have := Ctx.setCellsAt (g := g) (t := t) i vs (off + 1) (cs.setIfInBounds off v) _ _ D (by simp [hi])
    rw [List.set_set] at this
    exact this
/-- A struct is stored. -/
theorem ev_storeS [C : Ctx w0 R B O L w] {g off : Nat} {t ty : TypeId} {cur vs : Array Value} {u : Ass → List Ass} {x y : Operand} [F : FCells L g t cur u] (hgd : o.guard = none) (ho : o.op = .store ty x y) (hx : a.eval x = .pointer (some ⟨g, off, none⟩)) (hy : a.eval y = .agg vs)
    (hi : (P.info? ty).map (·.size) = some vs.size) (hn : off + vs.size ≤ cur.size) (h1 : vs.all (·.oneCell') = true)
    (h : ∀ w1, Ctx w0 R B O (u (Cells g t (setL cur off vs.toList))) w1 → wpList P ops Q rest (a.put o.dst undef) w1) : wpList P ops Q (o :: rest) a w := by
  obtain ⟨i, e1, e2⟩ := F.ix
  obtain ⟨b, hA, hb, _⟩ := C.open_ i e1
  have hA : b = some (g, .cells cur t (0, 0)) := hA
  have hh := (hb _ _ hA).1
  refine wpList_store_mid hgd ty x y ho g off vs hx hy (fun j hj => ⟨?_, ?_⟩) hi h1 (h _ (by rw [e2]; exact Ctx.setCellsAt i vs.toList off cur L w C e1))
  · rw [cell_hp hh]
    show (cur[off + j]?).isSome = true
    rw [Array.getElem?_eq_getElem (by omega)]; rfl
  · unfold hp at hh
    simp [World.frozen?, hh]
/-- .. in a region of open order. -/
theorem h_store [C : Ctx w0 R B O L w] {S : World → Prop} {fuel : Nat} {listed : Array Bool} (i : Nat) {g off : Nat} {t ty : TypeId} {cur vs : Array Value} {u : Ass → List Ass} {x y : Operand} [F : FCells L g t cur u] (hi0 : ops.toList[i]? = some o) (hr : Region.ready .any ops listed = [i]) (hw : Region.wanted o (yielded ops a.tmps) = true)
    (ho : o.op = .store ty x y) (hx : a.eval x = .pointer (some ⟨g, off, none⟩)) (hy : a.eval y = .agg vs)
    (hz : (P.info? ty).map (·.size) = some vs.size) (hn : off + vs.size ≤ cur.size) (h1 : vs.all (·.oneCell') = true)
    (h : ∀ w1, Ctx w0 R B O (u (Cells g t (setL cur off vs.toList))) w1 → S w1 ∧ wpAnyH P .any ops Q S fuel (listed.setIfInBounds i true) (a.put o.dst undef) w1) : wpAnyH P .any ops Q S (fuel + 1) listed a w := by
  have hi : ops[i]? = some o := by simpa using hi0
  obtain ⟨k, e1, e2⟩ := F.ix
  obtain ⟨b, hA, hb, _⟩ := C.open_ k e1
  have hA : b = some (g, .cells cur t (0, 0)) := hA
  have hh := (hb _ _ hA).1
  refine wpAnyH_all hr (by simp) fun j hj => ?_
  obtain rfl : j = i := by simpa using hj
  unfold wpOp
  simp only [hi, hw, if_true]
  refine .inl (wp_store_mid ty x y ho g off vs hx hy (fun j hj => ⟨?_, ?_⟩) hz h1 (h _ (by rw [e2]; exact Ctx.setCellsAt k vs.toList off cur L w C e1)))
  · rw [cell_hp hh]
    show (cur[off + j]?).isSome = true
    rw [Array.getElem?_eq_getElem (by omega)]; rfl
  · unfold hp at hh
    simp [World.frozen?, hh]
end Go.Sep
