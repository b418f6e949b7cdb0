/- The walk of the example. -/
import Derived.Test.YtomfgggomjbnfaaTL
import Derived.Test.YtomfgggomjbnfaaTA
import Derived.Test.YtomfgggomjbnfaaTF
import Derived.Outline
set_option linter.unusedVariables false
set_option linter.unusedSimpArgs false
namespace Go.Sep
open Go.RowKit
variable {w0 w w1 : World} {R : Option World} {B O O' : PH} {L L' : List Ass}
variable {P : Program} {ops : Array Oper} {rest : List Oper} {o : Oper} {a : Act} {Q : Exit → Act → World → Prop}
/-- A slice's literal: it is turned no more. -/
theorem ev_lit [C : Ctx w0 R B O L w] {e : TypeId} {n : Nat} {cs : Array Value} (hgd : o.guard = none) (hr : (execOp a.eval o).run P w = .ok (.value (.slice (some ⟨w.heap.size, 0, none⟩) n n)) (w.alloc (.cells cs e)))
    (h : ∀ g w1 O', PLe O O' → O' g = some (.cells cs e (0, 0)) → Ctx w0 R B O' L w1 → wpList P ops Q rest (a.put o.dst (.slice (some ⟨g, 0, none⟩) n n)) w1) : wpList P ops Q (o :: rest) a w := by
  have D := C.new (.cells cs e) (A := Cells w.heap.size e cs) rfl
  obtain ⟨O', h1, ⟨b, hA, hb⟩, D'⟩ := D.freeze 0 rfl
  have hA : b = some (w.heap.size, .cells cs e (0, 0)) := hA
  exact ev_run hgd hr (h _ _ O' h1 (hb _ _ hA) D')
theorem Rd.ofLit {α : Type} (d : Kind α) {g c : Nat} {cs : Array Value} {t : TypeId} {xs : List α} (h : O g = some (.cells cs t (0, 0))) (hc : xs.length ≤ c) (hl : xs.length ≤ 140737488355328)
    (hr : ∀ i x, xs[i]? = some x → d.rep O x ((cs.toList.drop (i * d.sz)).take d.sz)) : Rd d O (.slice (some ⟨g, 0, none⟩) xs.length c) xs := by
  refine ⟨_, c, rfl, hc, hl, fun i x hx => ⟨g, 0, _, _, rfl, h, hr i x hx, fun k u hk => ?_⟩⟩
  rw [List.getElem?_take] at hk
  split at hk
  · rw [List.getElem?_drop] at hk
    simpa [cellOf] using hk
  · cases hk
end Go.Sep
namespace Go.Proofs.Ytomfgggomjbnfaa
open Go.RowKit Go.Sep
attribute [local go_sem] cell_ctx frozen_ctx cell_fz arr_at
def site0 : Site := ⟨5, 1, 0, 2, 0, 3, 1, 1, 0, 1, 1, 1, 1⟩
def snap0 : Snap := ⟨site0, [⟨0, 4⟩], []⟩
def proof0 : List Int := [1, 0, 0, 0, 0, 0, 0, 0, 0, 0, 2]
theorem check0 : checkF snap0 proof0 = (⟨true, 0, [[]]⟩, 0) := by kernel_rfl
theorem check1 : checkF snap0 [] = (⟨false, 0, []⟩, 3) := by kernel_rfl
theorem u8_0 : U8 proof0 := by unfold U8 proof0; decide
abbrev bytes0 : Array Value := #[.int .u8 1, .int .u8 0, .int .u8 0, .int .u8 0, .int .u8 0, .int .u8 0, .int .u8 0, .int .u8 0, .int .u8 0, .int .u8 0, .int .u8 2]
theorem rd_cars0 {O : PH} {g1 : Nat} (h1 : O g1 = some (.cells #[.int .i64 0, .int .i64 4] 67 (0, 0))) : Rd kReady O (.slice (some ⟨g1, 0, none⟩) snap0.cars.length 1) snap0.cars :=
  Rd.ofLit kReady h1 (Nat.le_refl _) (by decide) fun i x hx => by
    cases i with
    | zero => cases hx; rfl
    | succ i => simp [snap0] at hx
theorem rd_proof0 {O : PH} {g3 : Nat} (h3 : O g3 = some (.cells bytes0 5 (0, 0))) : Rd kU8 O (.slice (some ⟨g3, 0, none⟩) proof0.length 11) proof0 :=
  Rd.ofLit kU8 h3 (Nat.le_refl _) (by decide) fun i x hx => by
    have hi : i < 11 := (List.getElem?_eq_some_iff.1 hx).1
    have e : i = 0 ∨ i = 1 ∨ i = 2 ∨ i = 3 ∨ i = 4 ∨ i = 5 ∨ i = 6 ∨ i = 7 ∨ i = 8 ∨ i = 9 ∨ i = 10 := by omega
    rcases e with rfl | rfl | rfl | rfl | rfl | rfl | rfl | rfl | rfl | rfl | rfl <;> (cases hx; rfl)
theorem check_ex (g1 g3 : Nat) (O : PH) (w : World) (hO : PLe O (Go.Sep.hp w)) (h1 : O g1 = some (.cells #[.int .i64 0, .int .i64 4] 67 (0, 0))) (h3 : O g3 = some (.cells bytes0 5 (0, 0))) :
    Calls Try.prog 15 #[.agg (snapC site0 (.slice (some ⟨g1, 0, none⟩) 1 1) (.slice none 0 0)), .slice (some ⟨g3, 0, none⟩) 11 11] w fun e w' => ∃ A c O', e = .returned (.tuple #[.agg (claimC true 0 (.slice A 1 c)), .int .i64 0]) ∧ PLe O O' ∧ Ctx w none O O' [] w' := by
  have := checkCheck snap0 (by decide) proof0 u8_0 (by decide) (by decide) (some ⟨g3, 0, none⟩) 11 (some ⟨g1, 0, none⟩) none 1 0 O w hO (rd_cars0 h1) (Rd.nil _ _) (rd_proof0 h3)
  rw [check0] at this
  refine this.mono fun e w' h => ?_
  obtain ⟨v, O', h1, h2, h3, h4⟩ := h
  obtain ⟨A, c, rfl, _⟩ := h3.form
  exact ⟨A, c, O', h1, h2, h4⟩
theorem check_ex2 (g1 : Nat) (O : PH) (w : World) (hO : PLe O (Go.Sep.hp w)) (h1 : O g1 = some (.cells #[.int .i64 0, .int .i64 4] 67 (0, 0))) :
    Calls Try.prog 15 #[.agg (snapC site0 (.slice (some ⟨g1, 0, none⟩) 1 1) (.slice none 0 0)), .slice none 0 0] w fun e w' => ∃ A c O', e = .returned (.tuple #[.agg (claimC false 0 (.slice A 0 c)), .int .i64 3]) ∧ PLe O O' ∧ Ctx w none O O' [] w' := by
  have := checkCheck snap0 (by decide) [] (fun x hx => by cases hx) (by decide) (by decide) none 0 (some ⟨g1, 0, none⟩) none 1 0 O w hO (rd_cars0 h1) (Rd.nil _ _) (Rd.nil _ _)
  rw [check1] at this
  refine this.mono fun e w' h => ?_
  obtain ⟨v, O', h1, h2, h3, h4⟩ := h
  obtain ⟨A, c, rfl, _⟩ := h3.form
  exact ⟨A, c, O', h1, h2, h4⟩
set_option maxRecDepth 100000 in
set_option maxHeartbeats 4000000 in
theorem checkSpeaks (w : World) : Calls Try.prog 13 #[] w fun e w' => e = .returned (.bool true) ∧ Below w.heap.size w w' := by
  have C0 : Ctx w none (fun _ => none) (fun _ => none) [] w := Ctx.start (fun _ _ h => by cases h)
  go_enter Try.func13, Try.ntmps13
  go_wp2_with (first | ((with_reducible refine gBs 24 1 ?_); (refine ev_lit (e := 67) (cs := #[.int .i64 0, .int .i64 4]) rfl (by go_simp; try rfl) ?_); intro g1 w1 O1 hO1 h1 C1; clear C0) | ((with_reducible refine gAl 27 ?_); refine ev_alloc (t := 27) rfl rfl (by go_simp; rfl) ?_; intro g2 w2 C2; clear C1) | ((with_reducible refine gSt 27 ?_); refine ev_storeW (t := 27) (ty := 27) (g := g2) (vs := snapC site0 (.slice (some ⟨g1, 0, none⟩) 1 1) (.slice none 0 0)) rfl rfl rfl rfl (by kernel_rfl) (by rfl) (by rw [List.all_toArray]; rfl) ?_; intro w3 C3; clear C2) | ((with_reducible refine gLd 27 ?_); refine ev_loadS (ty := 27) ((snapC site0 (.slice (some ⟨g1, 0, none⟩) 1 1) (.slice none 0 0)).toList) rfl rfl rfl Try.underlying27 rfl (by kernel_rfl) rfl ?_) | ((with_reducible refine gBs 28 11 ?_); (refine ev_lit (e := 5) (cs := bytes0) rfl (by go_simp; try rfl) ?_); intro g4 w4 O4 hO4 h4 C4; clear C3) | ((with_reducible refine gAl 34 ?_); refine ev_alloc (t := 34) rfl rfl (by go_simp; rfl) ?_; intro g6 w6 C6; clear C5) | ((with_reducible refine gSt 34 ?_); refine ev_storeW (t := 34) (ty := 34) (g := g6) (vs := claimC true 0 (.slice A5 1 c5)) rfl rfl rfl rfl (by kernel_rfl) (by rfl) (by rw [List.all_toArray]; rfl) ?_; intro w7 C7; clear C6) | ((with_reducible refine gAl 34 ?_); refine ev_alloc (t := 34) rfl rfl (by go_simp; rfl) ?_; intro g9 w9 C9; clear C8) | ((with_reducible refine gSt 34 ?_); refine ev_storeW (t := 34) (ty := 34) (g := g9) (vs := claimC false 0 (.slice A8 0 c8)) rfl rfl rfl rfl (by kernel_rfl) (by rfl) (by rw [List.all_toArray]; rfl) ?_; intro w10 C10; clear C9) | (go_at_call 15; refine (check_ex g1 g4 O4 _ C4.sub (hO4 _ _ h1) h4).mono ?_; rintro e w5 ⟨A5, c5, O5, rfl, hO5, D⟩; have C5 := C4.call D; simp only [List.nil_append] at C5; clear C4 D) | (go_at_call 15; refine (check_ex2 g1 O5 _ C7.sub (hO5 _ _ (hO4 _ _ h1))).mono ?_; rintro e w8 ⟨A8, c8, O8, rfl, hO8, D⟩; have C8 := C7.call D; simp only [List.nil_append] at C8; clear C7 D))
  go_ret
  exact ⟨rfl, C10.bel⟩
end Go.Proofs.Ytomfgggomjbnfaa
