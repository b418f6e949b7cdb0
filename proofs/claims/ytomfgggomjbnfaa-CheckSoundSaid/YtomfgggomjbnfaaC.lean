/- The walks of site.Right and plan.Right. -/
import Derived.Test.YtomfgggomjbnfaaB
import Derived.Shelf.Abstract

set_option linter.unusedVariables false
namespace Go.Proofs.Ytomfgggomjbnfaa
open Go.RowKit Go.Sep Go.Shelf
attribute [local go_sem] Oper.semAt_some cell_ctx frozen_ctx
theorem below_put {B D : Nat} {w W : World} (h : Below B w W) (hD : B ≤ D) (o : Obj) : Below B w (W.putObj D o) := h.trans ⟨rfl, rfl, rfl, by simp [World.putObj], fun k hk => World.putObj_heap_other (by omega)⟩
theorem cell_put {D b j : Nat} {W : World} (h : b ≠ D) (o : Obj) : (W.putObj D o).cell? ⟨b, j, none⟩ = W.cell? ⟨b, j, none⟩ := World.cell?_of_block (World.putObj_heap_other (by simpa using h))
def okB (x : Int × Int × Int) : Bool := decide (x.2.1 ≤ x.1) && decide (x.1 ≤ x.2.2)
def siteB (s : Site) : Bool := (bnds s).all okB
theorem within_any (a b c : Int) (w : World) : Calls Try.prog 105 #[.int .i64 a, .int .i64 b, .int .i64 c] w fun e w' => e = .returned (.bool (decide (b ≤ a) && decide (a ≤ c))) ∧ w = w' := by
  go_enter Try.func105, Try.ntmps105
  go_wp2
  all_goals
    go_ret
    exact ⟨ret_bool (by rw [Bool.eq_iff_iff]; simp; try omega), rfl⟩
theorem bounds_any (s : Site) (w : World) : Calls Try.prog 104 #[siteV s] w fun e w' => e = .returned (.func (.func 124) #[] #[.pointer (some ⟨w.heap.size, 0, none⟩)]) ∧ w.alloc (.cells (siteC s) 23) = w' := by
  go_enter Try.func104, Try.ntmps104
  go_wp2
  go_ret
  exact ⟨rfl, rfl⟩
theorem cells_isCells {g : Nat} {t : TypeId} {cs : Array Value} {O : PH} : ∀ k o, (Cells g t cs).A O (some (k, o)) → o.isCells = true := fun k o h => by
  have h : some (k, o) = some (g, .cells cs t (0, 0)) := h
  cases h; rfl
set_option maxRecDepth 100000 in
set_option maxHeartbeats 2000000 in
theorem siteRight (s : Site) (w : World) : Calls Try.prog 68 #[siteV s] w fun e w' => e = .returned (.bool (siteB s)) ∧ Below w.heap.size w w' := by
  refine (callsIn_wide (n := 5)).1 ?_
  refine callsIn_of_wp_marks Try.func68 rfl trivial ?_ rfl
  simp only [Try.ntmps68, List.size_toArray, List.length_cons, List.length_nil, Nat.reduceAdd, Nat.reduceSub, Array.replicate_succ, Array.replicate_zero, List.push_toArray, List.append_toArray, List.nil_append, List.cons_append]
  gi_wp2_with (refine ⟨trivial, ?_⟩; gi_at_call 104; refine (callsIn_wide.2 (bounds_any s _)).mono ?_; rintro e w' ⟨rfl, rfl⟩)
  have C0 : Ctx w none (fun _ => none) (fun _ => none) [] w := Ctx.start (fun _ _ h => by cases h)
  have C1 := C0.new (.cells (siteC s) 23) (A := Cells w.heap.size 23 (siteC s)) rfl
  have C2 := C1.new (.cells #[.bool false] 4) (A := Cells (w.heap.size + 1) 4 #[.bool false]) (by rw [World.size_alloc]; rfl)
  have C3 := C2.new (.cells (siteC s) 23) (A := Cells (w.heap.size + 1 + 1) 23 (siteC s)) (by rw [World.size_alloc, World.size_alloc]; rfl)
  clear C0 C1 C2
  obtain ⟨W0, hW0⟩ : ∃ W0, ((w.alloc (.cells (siteC s) 23)).alloc (.cells #[.bool false] 4)).alloc (.cells (siteC s) 23) = W0 := ⟨_, rfl⟩
  have hsz : W0.heap.size = w.heap.size + 3 := by rw [← hW0]; simp
  rw [hW0] at C3 ⊢
  clear hW0
  have hg2 : W0.heap[w.heap.size + 1 + 1]? = some (.cells (siteC s) 23 (0, 0)) := by
    obtain ⟨b, hA, hb⟩ := C3.look 0 rfl
    exact (hb _ _ hA).1
  refine wpIn_rangeFunc_ownH rfl (by omega) (gf := 124) (lb := #[.pointer (some ⟨w.heap.size + 1 + 1, 0, none⟩)]) rfl trivial (enters_of Try.func124 (by kernel_rfl) rfl)
    (bounds_stops 4 (by omega) (w.heap.size + 1 + 1) s W0 hg2) (fun h k x => k (h x)) (fun W l o o' hl ho hc _ h => ?kb) (Below.refl _ _) (fun _ => rfl)
    (fun pre W => (pre.all okB = true) ∧ Ctx w none (fun _ => none) (fun _ => none) [Cells (w.heap.size + 1 + 1) 23 (siteC s), Cells (w.heap.size + 1) 4 #[.bool false], Cells w.heap.size 23 (siteC s)] W)
    (fun c pre W => (c = .ret ∧ pre.all okB = false) ∧ Ctx w none (fun _ => none) (fun _ => none) [Cells (w.heap.size + 1 + 1) 23 (siteC s), Cells (w.heap.size + 1) 4 #[.bool false], Cells w.heap.size 23 (siteC s)] W)
    (OwnFrom.and (fun _ _ _ _ h _ _ => h) (Ctx.ownFrom (by simp) (by omega) ?hcl)) (fun c => OwnFrom.and (fun _ _ _ _ h _ _ => h) (Ctx.ownFrom (by simp) (by omega) ?hcl))
    ⟨rfl, C3⟩
    (fun x a' W => ∃ gb, a' = { tmps := #[siteV s, .pointer (some ⟨w.heap.size, 0, none⟩), .pointer (some ⟨w.heap.size + 1, 0, none⟩), .int .i64 x.1, .pointer (some ⟨gb, 0, none⟩), siteV s, .func (.func 124) #[] #[.pointer (some ⟨w.heap.size + 1 + 1, 0, none⟩)], .int .i64 x.1, .agg #[.int .i64 x.2.1, .int .i64 x.2.2], undef, undef, undef, undef, undef, undef, undef], defers := [] } ∧
      W.heap[gb]? = some (.cells #[.int .i64 x.2.1, .int .i64 x.2.2] 179 (0, 0)))
    (fun x a' _ X Y row h hg hr => ?hax) ?assign ?body ?done ?stop
  case kb =>
    refine (World.putObj_heap_other ?_).trans h
    omega
  case hcl =>
    intro _ A hA g o h
    simp only [List.mem_cons, List.not_mem_nil, or_false] at hA
    rcases hA with rfl | rfl | rfl <;> exact cells_isCells _ _ h
  case hax =>
    obtain ⟨gb, h1, h2⟩ := h
    refine ⟨gb, h1, (hg.block gb (hp_lt h2) (fun e => ?_)).trans h2⟩
    obtain ⟨_, o, ho, hc⟩ := hr gb e.symm
    rw [h2] at ho; cases ho; cases hc
  case assign =>
    rintro l pre x W K ⟨hp, C⟩ hK
    gi_wp2
    refine hK _ _ ((KeepsOthers.alloc _ _).from _) (fun h => (Below.heap_alloc _ _ _ (hp_lt h)).trans h) ⟨hp, C.keep ((Below.refl _ _).alloc (Nat.le_refl _) _)⟩ ⟨W.heap.size, rfl, World.alloc_heap_new _ _⟩
  case body =>
    rintro l pre x a' W hl ⟨r, hr⟩ ⟨hp, C⟩ ⟨gb, rfl, hb⟩ hlt
    have hc0 : W.cell? ⟨gb, 0, none⟩ = some (.int .i64 x.2.1) := cell_hp hb
    have hc1 : W.cell? ⟨gb, 1, none⟩ = some (.int .i64 x.2.2) := cell_hp hb
    have C' := C.root
    clear C
    have HP := Lib.hid hp
    clear hb hp hr hl hlt hg2
    cases hk : (decide (x.2.1 ≤ x.1) && decide (x.1 ≤ x.2.2)) with
    | true =>
      have T : ∀ W : World, Calls Try.prog 105 #[.int .i64 x.1, .int .i64 x.2.1, .int .i64 x.2.2] W fun e w' => e = .returned (.bool true) ∧ W = w' := fun W => by
        have := within_any x.1 x.2.1 x.2.2 W
        rw [hk] at this; exact this
      have HT := Lib.hid T
      have HK := Lib.hid hk
      clear T hk
      gi_wp2_with (refine ⟨trivial, ?_⟩; gi_at_call 105; refine (CallsIn.inRound l (callsIn_wide.2 (HT.out _))).mono ?_; rintro e w' ⟨rfl, rfl⟩)
      exact ⟨KeepsFrom.refl _ _, fun h => h, ⟨by simp [HP.out, okB, HK.out], C'.lose⟩⟩
    | false =>
      have T : ∀ W : World, Calls Try.prog 105 #[.int .i64 x.1, .int .i64 x.2.1, .int .i64 x.2.2] W fun e w' => e = .returned (.bool false) ∧ W = w' := fun W => by
        have := within_any x.1 x.2.1 x.2.2 W
        rw [hk] at this; exact this
      have HT := Lib.hid T
      have HK := Lib.hid hk
      clear T hk
      gi_wp2_with (refine ⟨trivial, ?_⟩; gi_at_call 105; refine (CallsIn.inRound l (callsIn_wide.2 (HT.out _))).mono ?_; rintro e w' ⟨rfl, rfl⟩)
      have C2 : Ctx w (some W) (fun _ => none) (fun _ => none) [Cells (w.heap.size + 1 + 1) 23 (siteC s), Cells (w.heap.size + 1) 4 #[.bool false], Cells w.heap.size 23 (siteC s)] (W.setCell ⟨w.heap.size + 1, 0, none⟩ (.bool false)) := inferInstance
      exact ⟨(C2.ko W rfl).from _, ⟨rfl, by simp [HP.out, okB, HK.out]⟩, C2.lose⟩
  case done =>
    rintro D xs W hD rfl ⟨hp, C⟩ hK
    gi_wp2
    have C2 : Ctx w none (fun _ => none) (fun _ => none) [Cells (w.heap.size + 1 + 1) 23 (siteC s), Cells (w.heap.size + 1) 4 #[.bool true], Cells w.heap.size 23 (siteC s)] (W.setCell ⟨w.heap.size + 1, 0, none⟩ (.bool true)) := inferInstance
    have hK2 := ((KeepsOthers.setCell W ⟨w.heap.size + 1, 0, none⟩ (.bool true)).same D _ hK rfl)
    refine ⟨by simp, .inl ⟨_, _, rfl, run_takeDeferred hK2, ?_⟩⟩
    have hc : ((W.setCell ⟨w.heap.size + 1, 0, none⟩ (.bool true)).putObj D (.deferred none)).cell? ⟨w.heap.size + 1, 0, none⟩ = some (.bool true) := (cell_put (by omega) _).trans (by rw [cell_ctx]; rfl)
    exact ⟨.bool true, by simp [results, Try.results68, go_sem, hc], by simp [siteB, hp], below_put C2.bel (by omega) _⟩
  case stop =>
    rintro D c pre W hD hpre ⟨⟨rfl, hp⟩, C⟩ hK
    gi_wp2
    refine ⟨by simp, .inl ⟨_, _, rfl, run_takeDeferred hK, ?_⟩⟩
    have hc : (W.putObj D (.deferred none)).cell? ⟨w.heap.size + 1, 0, none⟩ = some (.bool false) := (cell_put (by omega) _).trans (by rw [cell_ctx]; rfl)
    have hb : siteB s = false := by
      rw [List.all_eq_false] at hp
      obtain ⟨x, hx, hx'⟩ := hp
      exact List.all_eq_false.2 ⟨x, hpre.subset hx, hx'⟩
    exact ⟨.bool false, by simp [results, Try.results68, go_sem, hc], by simp [hb], below_put C.bel (by omega) _⟩
end Go.Proofs.Ytomfgggomjbnfaa
