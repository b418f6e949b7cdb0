/- Events: a new variable; what is told of slices' types. -/
import Derived.Test.YtomfgggomjbnfaaS
import Derived.StillTailTactics
set_option linter.unusedVariables false
namespace Go.Sep
open Go.RowKit
variable {w0 w w1 : World} {R : Option World} {B O O' : PH} {L L' : List Ass}
variable {P : Program} {ops : Array Oper} {rest : List Oper} {o : Oper} {a : Act} {Q : Exit → Act → World → Prop}
theorem gate (h : wpList P ops Q (o :: rest) a w) : wpList P ops Q (o :: rest) a w := h
theorem ev_boxT [C : Ctx w0 R B O L w] {cs : Array Value} {t : TypeId} {x : Operand} (ho : o.op = .box t x) (hgd : o.guard = none)
    (hr : (execOp a.eval o).run P w = .ok (.value (.pointer (some ⟨w.heap.size, 0, none⟩))) (w.alloc (.cells cs t)))
    (h : ∀ g w1, Ctx w0 R B O (Cells g t cs :: L) w1 → wpList P ops Q rest (a.put o.dst (.pointer (some ⟨g, 0, none⟩))) w1) : wpList P ops Q (o :: rest) a w := ev_box hgd hr h
theorem ev_alloc [C : Ctx w0 R B O L w] {cs : Array Value} {t : TypeId} (ho : o.op = .alloc t) (hgd : o.guard = none)
    (hr : (execOp a.eval o).run P w = .ok (.value (.pointer (some ⟨w.heap.size, 0, none⟩))) (w.alloc (.cells cs t)))
    (h : ∀ g w1, Ctx w0 R B O (Cells g t cs :: L) w1 → wpList P ops Q rest (a.put o.dst (.pointer (some ⟨g, 0, none⟩))) w1) : wpList P ops Q (o :: rest) a w := ev_box hgd hr h

theorem run_loadVar_seg (w : World) (g off : Nat) (ty : TypeId) (vs : List Value) (hc : ∀ j v, vs[j]? = some v → w.cell? ⟨g, off + j, none⟩ = some v) (d : TypeDesc)
    (hu : P.underlying ty = some d) (hd : (match d with | .struct _ | .array _ _ => true | _ => false) = true) (hi : (P.info? ty).map (·.size) = some vs.length) :
    (loadVar ty ⟨g, off, none⟩).run P w = .ok (.agg vs.toArray) w := by
  have hl : (loadCells ⟨g, off, none⟩ vs.length).run P w = .ok vs.toArray w :=
    run_loadCells_list (P := P) w ⟨g, off, none⟩ vs (fun j v hv => by
      have hadd : (⟨g, off, none⟩ : Addr).add j = ⟨g, off + j, none⟩ := by unfold Addr.add; split <;> simp_all
      rw [hadd]
      exact hc j v hv)
  cases hq : P.info? ty with
  | none => simp [hq] at hi
  | some i =>
    have hs : i.size = vs.length := by simpa [hq] using hi
    have hagg : (isAgg ty).run P w = .ok true w := by
      unfold isAgg
      rw [Sem.run_bind, run_underlying hu w]
      cases d <;> simp_all
    simp [loadVar, Sem.run_bind, hagg, sizeOf, typeInfo, hq, hs, hl]

/-- A struct is read out of a variable of the call's own: from the cell 'off' on. -/
theorem ev_loadS [C : Ctx w0 R B O L w] {g off : Nat} {t ty : TypeId} {cs : Array Value} {u : Ass → List Ass} {x : Operand} {d : TypeDesc} (vs : List Value) (ho : o.op = .load ty x) (hgd : o.guard = none)
    (hx : a.eval x = .pointer (some ⟨g, off, none⟩)) [F : FCells L g t cs u] (hu : P.underlying ty = some d) (hd : (match d with | .struct _ | .array _ _ => true | _ => false) = true)
    (hi : (P.info? ty).map (·.size) = some vs.length) (hvs : (cs.toList.drop off).take vs.length = vs) (h : wpList P ops Q rest (a.put o.dst (.agg vs.toArray)) w) : wpList P ops Q (o :: rest) a w := by
  refine wpList_plain hgd fun K hK => ?_
  have hc : ∀ j v, vs[j]? = some v → w.cell? ⟨g, off + j, none⟩ = some v := by
    intro j v hv
    rw [cell_ctx]
    rw [← hvs, List.getElem?_take] at hv
    split at hv
    · rw [List.getElem?_drop] at hv
      simpa using hv
    · cases hv
  unfold Oper.wp execOp
  simp only [ho, hx, Instr.loadAt, Instr.sureAddr, Sem.run_bind, Sem.run_pure, Result.andThen_ok, run_loadVar_seg w g off ty vs hc d hu hd hi]
  exact hK _ _ h
/-- A block that was just laid out reads as a list. -/
theorem Rd.lit {α : Type} (d : Kind α) {W : World} {b c : Nat} {cs : Array Value} {t : TypeId} {xs : List α} (h : hp W b = some (.cells cs t (0, 0))) (hc : xs.length ≤ c) (hl : xs.length ≤ 140737488355328)
    (hr : ∀ i x, xs[i]? = some x → d.rep (hp W) x ((cs.toList.drop (i * d.sz)).take d.sz)) : Rd d (hp W) (.slice (some ⟨b, 0, none⟩) xs.length c) xs := by
  refine ⟨_, c, rfl, hc, hl, fun i x hx => ⟨b, 0, _, _, rfl, h, hr i x hx, fun k u hk => ?_⟩⟩
  rw [List.getElem?_take] at hk
  split at hk
  · rw [List.getElem?_drop] at hk
    simpa [cellOf] using hk
  · cases hk
theorem Rd.ints {k : IntKind} {W : World} {b c : Nat} {cs : Array Value} {t : TypeId} {xs : List Int} (h : hp W b = some (.cells cs t (0, 0))) (e : cs.toList = xs.map (Value.int k)) (hc : xs.length ≤ c) (hl : xs.length ≤ 140737488355328) :
    Rd (kI k) (hp W) (.slice (some ⟨b, 0, none⟩) xs.length c) xs :=
  Rd.lit _ h hc hl fun i x hx => by
    show List.take 1 (List.drop (i * 1) cs.toList) = [.int k x]
    have hi := (List.getElem?_eq_some_iff.1 hx).1
    have hx' := (List.getElem?_eq_some_iff.1 hx).2
    rw [e, Nat.mul_one, List.drop_eq_getElem_cons (by simpa using hi)]
    simp [hx']
/-- A region of open order: what only reads comes first, the rest in its one order. -/
theorem ev_still [C : Ctx w0 R B O L w] {id : Nat} {l : List Oper} (n : Nat) (hm : P.follows .mixedOrders = true) (hB : Region.lexTailB .any l.toArray n = true)
    (h : ∀ W, Ctx w0 R B O L W → wpStill P l.toArray W (fun a' => wpList P l.toArray Q (l.drop n) a' W) (l.take n) a) : (Code.region id l.toArray true).wp P Q a w :=
  wp_region_still_tail n hm hB (h _ (Ctx.drew (C := C)))
theorem still_of {f : FuncId} {args : Array Value} {v : Value} (h : ∀ w, Calls P f args w fun e w' => e = .returned v ∧ w = w') (w : World) : Calls P f args w fun e w' => e = .returned v ∧ w' = w :=
  (h w).mono fun _ _ k => ⟨k.1, k.2.symm⟩
end Go.Sep
