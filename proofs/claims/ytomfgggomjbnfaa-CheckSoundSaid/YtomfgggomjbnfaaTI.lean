/- The walk of the document's answer for the best of all plans. -/
import Derived.Test.YtomfgggomjbnfaaTH
import Derived.Outline
set_option linter.unusedVariables false
set_option linter.unusedSimpArgs false
namespace Go.Sep
open Go.RowKit
variable {w0 w w1 : World} {R : Option World} {B O O' : PH} {L L' : List Ass}
variable {P : Program} {ops : Array Oper} {rest : List Oper} {o : Oper} {a : Act} {Q : Exit → Act → World → Prop} {S : World → Prop} {fuel : Nat} {listed : Array Bool}
theorem op_makeC [C : Ctx w0 R B O L w] (i' : Nat) {t e : TypeId} {z : Value} {sz bytes : Nat} (n : Nat) (l c : Operand) (hi0 : ops.toList[i']? = some o) (hw : Region.wanted o (yielded ops a.tmps) = true) (hop : o.op = Op.makeSlice t l c)
    (ht : P.underlying t = some (.slice e)) (hinfo : (P.info? e).map (fun i => (i.zero, i.size, i.bytes)) = some (some z, sz, bytes))
    {kl kc : IntKind} (hl : a.eval l = .int kl (n : Int)) (hc : a.eval c = .int kc (n : Int)) (hb : bytes * n ≤ 281474976710656) (h63 : n ≤ 9223372036854775807)
    (h : ∀ g w1, Ctx w0 R B O (Cells g e (madeCells z.cells (n * sz)) :: L) w1 → S w1 ∧ wpAnyH P .any ops Q S fuel (listed.setIfInBounds i' true) (a.put o.dst (.slice (some ⟨g, 0, none⟩) n n)) w1) :
    wpOp P ops Q i' (fun a' w' => S w' ∧ wpAnyH P .any ops Q S fuel (listed.setIfInBounds i' true) a' w') a w := by
  obtain ⟨i, hi, hzz⟩ := Option.map_eq_some_iff.1 hinfo
  simp only [Prod.mk.injEq] at hzz
  obtain ⟨hz, rfl, rfl⟩ := hzz
  have hb' : (i.bytes : Int) * (n : Int) ≤ 281474976710656 := by
    have h : ((i.bytes * n : Nat) : Int) ≤ 281474976710656 := by omega
    rwa [Int.natCast_mul] at h
  have hrun := run_make (P := P) w t e i z ht hi hz kl kc n n (by omega) (Int.le_refl _) hb' (by omega)
  simp only [Int.toNat_natCast] at hrun
  have h' := h _ _ (C.new _ rfl)
  refine op_run i' hi0 hw ?_ h'.1 h'.2
  simp [execOp, hop, hl, hc, hrun, Result.andThen]
end Go.Sep
namespace Go.Proofs.Ytomfgggomjbnfaa
open Go.RowKit Go.Sep
attribute [local go_sem] cell_ctx frozen_ctx cell_fz arr_at
set_option maxRecDepth 100000 in
set_option maxHeartbeats 4000000 in
theorem refBest_end (s : Snap) (hr : rightB s = true) (p : List (List Nat)) (hpl : Pater.Plan (mayS s) s.cars.length s.wants.length p) (A4 : Option Addr) (c4 : Nat) (A2 A3 : Option Addr) (c2 c3 : Nat) (O : PH) (W : World) (hO : PLe O (Go.Sep.hp W)) (r2 : Rd kReady O (.slice A2 s.cars.length c2) s.cars) (r3 : Rd kWant O (.slice A3 s.wants.length c3) s.wants) (r4 : Rd (kSl kNat) O (.slice A4 p.length c4) p) :
      Calls Try.prog 44 #[snapV s.site (.slice A2 s.cars.length c2) (.slice A3 s.wants.length c3), .int .i64 (s.wants.length : Int), .slice A4 p.length c4] W fun e w' => e = .returned (.int .i64 (costS s p)) ∧ Below W.heap.size W w' := by
  have C0 := Ctx.start hO
  have hlen : (toI p).length = p.length := by unfold toI; simp
  have HC := Lib.hid fun V (h : PLe O (Go.Sep.hp V)) => by
    have := refCost s (toI p) (feas_plan hr hpl) A4 c4 A2 A3 c2 c3 O V h r2 r3 (by rw [hlen]; exact rdII r4)
    rw [hlen] at this
    exact this
  clear r2 r3 r4 hO hpl hlen
  go_enter Try.func44, Try.ntmps44
  go_wp2_with (first | ((with_reducible refine gBox 27 ?_); refine ev_boxT (t := 27) rfl rfl (by go_simp; rfl) ?_; intro g1 w1 C1; clear C0) | ((with_reducible refine gLd 27 ?_); refine ev_loadS (ty := 27) ((snapC s.site (.slice A2 s.cars.length c2) (.slice A3 s.wants.length c3)).toList) rfl rfl rfl Try.underlying27 rfl (by kernel_rfl) rfl ?_) | (go_at_call 17; (refine (HC.out _ C1.sub).mono ?_); rintro e w9 ⟨rfl, hb⟩; have C2 := C1.keep hb; clear hb C1))
  go_ret
  exact ⟨rfl, C2.bel⟩
theorem refBest_all (s : Snap) (hr : rightB s = true) (hw8 : s.wants.length ≤ 8) : ∀ (m w : Nat), w + m = s.wants.length → ∀ (p : List (List Nat)), Pater.Plan (mayS s) s.cars.length w p → ∀ (A4 : Option Addr) (c4 : Nat) (A2 A3 : Option Addr) (c2 c3 : Nat) (O : PH) (W : World) (hO : PLe O (Go.Sep.hp W)) (r2 : Rd kReady O (.slice A2 s.cars.length c2) s.cars) (r3 : Rd kWant O (.slice A3 s.wants.length c3) s.wants) (r4 : Rd (kSl kNat) O (.slice A4 p.length c4) p),
      Calls Try.prog 44 #[snapV s.site (.slice A2 s.cars.length c2) (.slice A3 s.wants.length c3), .int .i64 (w : Int), .slice A4 p.length c4] W fun e w' => e = .returned (.int .i64 (Pater.best (costS s) (mayS s) m w p)) ∧ Below W.heap.size W w'
  | 0, w, h, p, hp, A4, c4, A2, A3, c2, c3, O, W, hO, r2, r3, r4 => by
    obtain rfl : w = s.wants.length := by omega
    exact refBest_end s hr p hp A4 c4 A2 A3 c2 c3 O W hO r2 r3 r4
  | m + 1, w, h, p, hp, A4, c4, A2, A3, c2, c3, O, W, hO, r2, r3, r4 =>
    refBest_step s hr hw8 m w h (fun q hq => refBest_all s hr hw8 m (w + 1) (by omega) q hq) p hp A4 c4 A2 A3 c2 c3 O W hO r2 r3 r4
theorem plan0 (s : Snap) (n : Nat) (hn : n = s.cars.length) : Pater.Plan (mayS s) s.cars.length 0 (List.replicate n []) := by
  refine ⟨by simp [hn], ?_, fun c hc w hw => ?_⟩
  · have : (List.replicate n ([] : List Nat)).flatten = [] := by simp
    rw [this]
    exact List.Perm.refl _
  · simp at hw
def bestR (s : Snap) : Int := Pater.best (costS s) (mayS s) s.wants.length 0 (List.replicate s.cars.length [])
set_option maxRecDepth 100000 in
set_option maxHeartbeats 4000000 in
theorem refBest (s : Snap) (hr : rightB s = true) (hw8 : s.wants.length ≤ 8) (A2 A3 : Option Addr) (c2 c3 : Nat) (O : PH) (W : World) (hO : PLe O (Go.Sep.hp W)) (r2 : Rd kReady O (.slice A2 s.cars.length c2) s.cars) (r3 : Rd kWant O (.slice A3 s.wants.length c3) s.wants) :
      Calls Try.prog 18 #[snapV s.site (.slice A2 s.cars.length c2) (.slice A3 s.wants.length c3)] W fun e w' => e = .returned (.int .i64 (bestR s)) ∧ Below W.heap.size W w' := by
  have C0 := Ctx.start hO
  obtain ⟨-, -, hc1, hc8, -, -, -, -⟩ := right_cars hr
  have R2 := Lib.hid r2
  have R3 := Lib.hid r3
  have HB := Lib.hid fun (A4 : Option Addr) (c4 : Nat) (O5 : PH) V (h : PLe O5 (Go.Sep.hp V)) (hO5 : PLe O O5) (r4 : Rd (kSl kNat) O5 (.slice A4 s.cars.length c4) (List.replicate s.cars.length [])) => by
    have := refBest_all s hr hw8 s.wants.length 0 (by omega) (List.replicate s.cars.length []) (plan0 s _ rfl) A4 c4 A2 A3 c2 c3 O5 V h (r2.mono hO5) (r3.mono hO5) (by rw [List.length_replicate]; exact r4)
    rw [List.length_replicate] at this
    exact this
  unfold bestR
  obtain ⟨X, hX⟩ : ∃ X, Pater.best (costS s) (mayS s) s.wants.length 0 (List.replicate s.cars.length []) = X := ⟨_, rfl⟩
  rw [hX] at HB ⊢
  clear r2 r3 hO hr hX
  go_enter Try.func18, Try.ntmps18
  go_wp2_with (first | ((with_reducible refine gBox 27 ?_); refine ev_boxT (t := 27) rfl rfl (by go_simp; rfl) ?_; intro g1 w1 C1; clear C0))
  refine ev_held (S := fun V => Ctx W none O O [Cells g1 27 (snapC s.site (.slice A2 s.cars.length c2) (.slice A3 s.wants.length c3))] V) 7 rfl (by kernel_rfl) ?_
  have D0 := Ctx.drew (C := C1)
  clear C1
  (refine h_val 0 (v := .agg ((snapC s.site (.slice A2 s.cars.length c2) (.slice A3 s.wants.length c3)).toList).toArray) rfl (by kernel_rfl) (fun _ _ _ h => h) rfl (fun W CW => ?_) D0 ?_; (exact run_loadS (C := CW) (ty := 27) ((snapC s.site (.slice A2 s.cars.length c2) (.slice A3 s.wants.length c3)).toList) rfl rfl Try.underlying27 rfl (by kernel_rfl) rfl); (dsimp only [Act.put]; simp only [List.setIfInBounds_toArray, List.set_cons_succ, List.set_cons_zero]))
  (apply h_val 1 rfl (by kernel_rfl) (fun _ _ _ h => h) rfl; (intro W CW; go_simp; rfl); exact D0; (dsimp only [Act.put]; simp only [List.setIfInBounds_toArray, List.set_cons_succ, List.set_cons_zero]))
  (apply h_val 2 rfl (by kernel_rfl) (fun _ _ _ h => h) rfl; (intro W CW; go_simp; rfl); exact D0; (dsimp only [Act.put]; simp only [List.setIfInBounds_toArray, List.set_cons_succ, List.set_cons_zero]))
  (apply h_val 3 rfl (by kernel_rfl) (fun _ _ _ h => h) rfl; (intro W CW; go_simp; rfl); exact D0; (dsimp only [Act.put]; simp only [List.setIfInBounds_toArray, List.set_cons_succ, List.set_cons_zero]))
  refine h_one 4 (by kernel_rfl) (op_makeC (C := D0) 4 (t := 32) s.cars.length _ _ rfl rfl rfl Try.underlying32 info64c rfl rfl (by omega) (by omega) fun g4 w4 D4 => ⟨D4.drop 0, ?_⟩)
  (dsimp only [Act.put]; simp only [List.setIfInBounds_toArray, List.set_cons_succ, List.set_cons_zero])
  have E := D4.recast (g := g4) inferInstance (kSl kNat) (List.replicate s.cars.length []) s.cars.length (by simp) (by unfold maxLen; omega) (by rw [size_madeCells]; rfl) (CellsS.made O s.cars.length).rep
  rw [List.length_replicate] at E
  clear D0 D4
  obtain ⟨O5, hO5, RV, E2'⟩ := E.row_freeze 0 rfl (by simp; omega)
  have E2 : Ctx W none O O5 [Cells g1 27 (snapC s.site (.slice A2 s.cars.length c2) (.slice A3 s.wants.length c3))] w4 := E2'
  clear E E2'
  refine h_call 5 rfl (by kernel_rfl) rfl (by go_simp; exact ⟨rfl, rfl⟩) ?_
  refine (HB.out _ _ O5 _ E2.sub hO5 RV).mono ?_
  rintro e w5 ⟨rfl, hb⟩
  have E3 := (E2.keep hb).weak1 (PLe.refl _) hO5
  refine ⟨_, rfl, E3, ?_⟩
  (dsimp only [Act.put]; simp only [List.setIfInBounds_toArray, List.set_cons_succ, List.set_cons_zero])
  clear E2
  (apply h_val 6 rfl (by kernel_rfl) (fun _ _ _ h => h) rfl; (intro W CW; go_simp; rfl); exact E3; (dsimp only [Act.put]; simp only [List.setIfInBounds_toArray, List.set_cons_succ, List.set_cons_zero]))
  refine wpAnyH_done (by kernel_rfl) ?_ _
  go_wp2
  go_ret
  exact ⟨rfl, E3.bel⟩
end Go.Proofs.Ytomfgggomjbnfaa
