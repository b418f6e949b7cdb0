/- The walk of the law CheckSound. -/
import Derived.Test.YtomfgggomjbnfaaTM
import Derived.Outline
set_option linter.unusedVariables false
set_option linter.unusedSimpArgs false
namespace Go.Proofs.Ytomfgggomjbnfaa
open Go.RowKit Go.Sep
attribute [local go_sem] cell_ctx frozen_ctx cell_fz arr_at
set_option maxRecDepth 100000 in
set_option maxHeartbeats 4000000 in
theorem lawCheckSound_great (s : Snap) (b : List Int) (h : (greatB s || decide (3000 < b.length) || decide (4 < s.wants.length)) = true)
    (A4 : Option Addr) (c4 : Nat) (A2 A3 : Option Addr) (c2 c3 : Nat) (O : PH) (w : World) (hO : PLe O (hp w)) (r2 : Rd kReady O (.slice A2 s.cars.length c2) s.cars) (r3 : Rd kWant O (.slice A3 s.wants.length c3) s.wants) (r4 : Rd kU8 O (.slice A4 b.length c4) b) :
    Calls Try.prog 3 #[snapV s.site (.slice A2 s.cars.length c2) (.slice A3 s.wants.length c3), .slice A4 b.length c4] w fun e w' => e = .returned (.bool true) ∧ Below w.heap.size w w' := by
  have C0 := Ctx.start hO
  have l2 := r2.len
  have l3 := r3.len
  have l4 := r4.len
  have HG := Lib.hid fun W => lawGreat s A2 A3 c2 c3 W l2 l3
  clear r2 r3 r4 hO
  cases hg : greatB s with
  | true =>
    rw [hg] at HG
    clear hg h
    go_enter Try.func3, Try.ntmps3
    go_wp2_with (first | ((with_reducible refine gBox 27 ?_); refine ev_boxT (t := 27) rfl rfl (by go_simp; rfl) ?_; intro g1 w1 C1; clear C0) | ((with_reducible refine gLd 27 ?_); refine ev_loadS (ty := 27) ((snapC s.site (.slice A2 s.cars.length c2) (.slice A3 s.wants.length c3)).toList) rfl rfl rfl Try.underlying27 rfl (by kernel_rfl) rfl ?_) | (go_at_call 13; refine (checkSpeaks _).mono ?_; rintro e w2 ⟨rfl, hb⟩; have C2 := C1.keep hb; clear hb C1) | (go_at_call 14; refine (HG.out _).mono ?_; rintro e w3 ⟨rfl, hb⟩; have C3 := C2.keep hb; clear hb C2))
    go_ret
    exact ⟨rfl, C3.bel⟩
  | false =>
    rw [hg] at HG h
    clear hg
    by_cases hb : 3000 < b.length
    · clear h
      go_enter Try.func3, Try.ntmps3
      go_wp2_with (first | ((with_reducible refine gBox 27 ?_); refine ev_boxT (t := 27) rfl rfl (by go_simp; rfl) ?_; intro g1 w1 C1; clear C0) | ((with_reducible refine gLd 27 ?_); refine ev_loadS (ty := 27) ((snapC s.site (.slice A2 s.cars.length c2) (.slice A3 s.wants.length c3)).toList) rfl rfl rfl Try.underlying27 rfl (by kernel_rfl) rfl ?_) | (go_at_call 13; refine (checkSpeaks _).mono ?_; rintro e w2 ⟨rfl, hb⟩; have C2 := C1.keep hb; clear hb C1) | (go_at_call 14; refine (HG.out _).mono ?_; rintro e w3 ⟨rfl, hb⟩; have C3 := C2.keep hb; clear hb C2))
      go_ret
      exact ⟨ret_bool (by simp [hb]), C3.bel⟩
    · have hw : 4 < s.wants.length := by
        simp only [Bool.false_or, Bool.or_eq_true, decide_eq_true_eq] at h
        omega
      clear h
      go_enter Try.func3, Try.ntmps3
      go_wp2_with (first | ((with_reducible refine gBox 27 ?_); refine ev_boxT (t := 27) rfl rfl (by go_simp; rfl) ?_; intro g1 w1 C1; clear C0) | ((with_reducible refine gLd 27 ?_); refine ev_loadS (ty := 27) ((snapC s.site (.slice A2 s.cars.length c2) (.slice A3 s.wants.length c3)).toList) rfl rfl rfl Try.underlying27 rfl (by kernel_rfl) rfl ?_) | (go_at_call 13; refine (checkSpeaks _).mono ?_; rintro e w2 ⟨rfl, hb⟩; have C2 := C1.keep hb; clear hb C1) | (go_at_call 14; refine (HG.out _).mono ?_; rintro e w3 ⟨rfl, hb⟩; have C3 := C2.keep hb; clear hb C2))
      go_ret
      exact ⟨rfl, C3.bel⟩
set_option maxRecDepth 100000 in
set_option maxHeartbeats 4000000 in
theorem lawCheckSound_main (s : Snap) (b : List Int) (hb : U8 b) (h1 : s.cars.length ≤ 20) (h2 : s.wants.length ≤ 4) (h3 : b.length ≤ 3000)
    (A4 : Option Addr) (c4 : Nat) (A2 A3 : Option Addr) (c2 c3 : Nat) (O : PH) (w : World) (hO : PLe O (hp w)) (r2 : Rd kReady O (.slice A2 s.cars.length c2) s.cars) (r3 : Rd kWant O (.slice A3 s.wants.length c3) s.wants) (r4 : Rd kU8 O (.slice A4 b.length c4) b) :
    Calls Try.prog 3 #[snapV s.site (.slice A2 s.cars.length c2) (.slice A3 s.wants.length c3), .slice A4 b.length c4] w fun e w' => e = .returned (.bool true) ∧ Below w.heap.size w w' := by
  have C0 := Ctx.start hO
  have l2 := r2.len
  have l3 := r3.len
  have HG := Lib.hid fun W => lawGreat s A2 A3 c2 c3 W l2 l3
  have hg : greatB s = false := by unfold greatB; simp; omega
  rw [hg] at HG
  have HCK := Lib.hid fun W (h : PLe O (Go.Sep.hp W)) => checkCheck s (by omega) b hb (by omega) h1 A4 c4 A2 A3 c2 c3 O W h r2 r3 r4
  have hcs := check_sound s b
  obtain ⟨X, hX⟩ : ∃ X, checkF s b = X := ⟨_, rfl⟩
  rw [hX] at HCK hcs
  have R2 := Lib.hid r2
  have R3 := Lib.hid r3
  clear r2 r3 r4 hO hb hg hX
  rcases hcs with ⟨n, hn, rfl⟩ | ⟨k1, k2, k3, k4⟩
  · have hn1 : (n == 0) = false := by simpa using hn
    have hn2 : (n != 0) = true := by simpa using hn
    clear hn
    go_enter Try.func3, Try.ntmps3
    go_wp2_with (first | ((with_reducible refine gBox 27 ?_); refine ev_boxT (t := 27) rfl rfl (by go_simp; rfl) ?_; intro g1 w1 C1; clear C0) | ((with_reducible refine gLd 27 ?_); refine ev_loadS (ty := 27) ((snapC s.site (.slice A2 s.cars.length c2) (.slice A3 s.wants.length c3)).toList) rfl rfl rfl Try.underlying27 rfl (by kernel_rfl) rfl ?_) | ((with_reducible refine gAl 34 ?_); refine ev_alloc (t := 34) rfl rfl (by go_simp; rfl) ?_; intro g5 w5 C5; clear C4) | ((with_reducible refine gSt 34 ?_); refine ev_storeW (t := 34) (ty := 34) (g := g5) (vs := claimC false 0 (.slice A5 0 c5)) rfl rfl rfl rfl (by kernel_rfl) (by rfl) (by rw [List.all_toArray]; rfl) ?_; intro w6 C6; clear C5) | (go_at_call 13; refine (checkSpeaks _).mono ?_; rintro e w2 ⟨rfl, hb⟩; have C2 := C1.keep hb; clear hb C1) | (go_at_call 14; refine (HG.out _).mono ?_; rintro e w3 ⟨rfl, hb⟩; have C3 := C2.keep hb; clear hb C2) | (go_at_call 15; (refine (HCK.out _ C3.sub).mono ?_); rintro e w4 ⟨v, O4, rfl, hO4, rv, D⟩; have C4 := C3.call D; simp only [List.nil_append] at C4; clear C3 D; obtain ⟨A5, c5, rfl, _⟩ := rv.form; clear rv))
    go_ret
    exact ⟨rfl, C6.bel⟩
  · obtain ⟨⟨bst, cst, p⟩, n⟩ := X
    dsimp only at k1 k2 k3 k4 HCK
    subst k1
    have hr := k2.right
    obtain ⟨m, hm⟩ : ∃ m, p.length = m := ⟨_, rfl⟩
    have HFE := Lib.hid fun (A5 : Option Addr) (c5 : Nat) (O4 : PH) W (h : PLe O4 (Go.Sep.hp W)) (hO4 : PLe O O4) (rv : Rd (kSl kInt) O4 (.slice A5 m c5) p) => by
      have := refFeasible_yes s p k2 A5 c5 A2 A3 c2 c3 O4 W h (R2.out.mono hO4) (R3.out.mono hO4) (by rw [hm]; exact rv)
      rw [hm] at this
      exact this
    have HCO := Lib.hid fun (A5 : Option Addr) (c5 : Nat) (O4 : PH) W (h : PLe O4 (Go.Sep.hp W)) (hO4 : PLe O O4) (rv : Rd (kSl kInt) O4 (.slice A5 m c5) p) => by
      have := refCost s p k2 A5 c5 A2 A3 c2 c3 O4 W h (R2.out.mono hO4) (R3.out.mono hO4) (by rw [hm]; exact rv)
      rw [hm, k3] at this
      exact this
    have HBE := Lib.hid fun (hbb : bst = true) (O4 : PH) W (h : PLe O4 (Go.Sep.hp W)) (hO4 : PLe O O4) => by
      have := refBest s hr (by omega) A2 A3 c2 c3 O4 W h (R2.out.mono hO4) (R3.out.mono hO4)
      rw [k4 hbb] at this
      exact this
    have HM := Lib.hid hm
    clear k2 k3 k4 hr hm
    cases bst with
    | true =>
      have HBE2 := Lib.hid (HBE.out rfl)
      clear HBE
      go_enter Try.func3, Try.ntmps3
      go_wp2_with (first | ((with_reducible refine gBox 27 ?_); refine ev_boxT (t := 27) rfl rfl (by go_simp; rfl) ?_; intro g1 w1 C1; clear C0) | ((with_reducible refine gLd 27 ?_); refine ev_loadS (ty := 27) ((snapC s.site (.slice A2 s.cars.length c2) (.slice A3 s.wants.length c3)).toList) rfl rfl rfl Try.underlying27 rfl (by kernel_rfl) rfl ?_) | ((with_reducible refine gAl 34 ?_); refine ev_alloc (t := 34) rfl rfl (by go_simp; rfl) ?_; intro g5 w5 C5; clear C4) | ((with_reducible refine gSt 34 ?_); refine ev_storeW (t := 34) (ty := 34) (g := g5) (vs := claimC true cst (.slice A5 m c5)) rfl rfl rfl rfl (by kernel_rfl) (by rfl) (by rw [List.all_toArray]; rfl) ?_; intro w6 C6; clear C5) | (go_at_call 13; refine (checkSpeaks _).mono ?_; rintro e w2 ⟨rfl, hb⟩; have C2 := C1.keep hb; clear hb C1) | (go_at_call 14; refine (HG.out _).mono ?_; rintro e w3 ⟨rfl, hb⟩; have C3 := C2.keep hb; clear hb C2) | (go_at_call 15; (refine (HCK.out _ C3.sub).mono ?_); rintro e w4 ⟨v, O4, rfl, hO4, rv, D⟩; have C4 := C3.call D; simp only [List.nil_append] at C4; clear C3 D; obtain ⟨A5, c5, rfl, _⟩ := rv.form; dsimp only at rv ⊢; rw [HM.out] at rv ⊢; have RV := Lib.hid rv; clear rv))
      refine ev_quietAll (by kernel_rfl) (by kernel_rfl) ?_
      clear C6
      (refine q_loadS (ty := 27) ((snapC s.site (.slice A2 s.cars.length c2) (.slice A3 s.wants.length c3)).toList) rfl rfl rfl Try.underlying27 rfl (by kernel_rfl) rfl ?_); (dsimp only [Act.put]; simp only [List.setIfInBounds_toArray, List.set_cons_succ, List.set_cons_zero])
      (apply q_val rfl; (intro W CW; go_simp; rfl); (dsimp only [Act.put]; simp only [List.setIfInBounds_toArray, List.set_cons_succ, List.set_cons_zero]))
      (apply q_val rfl; (intro W CW; go_simp; rfl); (dsimp only [Act.put]; simp only [List.setIfInBounds_toArray, List.set_cons_succ, List.set_cons_zero]))
      (apply q_call rfl (by intro W CW; go_simp; exact ⟨rfl, rfl⟩) (by intro W CW; exact quiet_call (HFE.out _ _ _ W CW.sub hO4 RV.out) CW)); (dsimp only [Act.put]; simp only [List.setIfInBounds_toArray, List.set_cons_succ, List.set_cons_zero])
      (apply q_val rfl; (intro W CW; go_simp; rfl); (dsimp only [Act.put]; simp only [List.setIfInBounds_toArray, List.set_cons_succ, List.set_cons_zero]))
      (refine q_loadS (ty := 27) ((snapC s.site (.slice A2 s.cars.length c2) (.slice A3 s.wants.length c3)).toList) rfl rfl rfl Try.underlying27 rfl (by kernel_rfl) rfl ?_); (dsimp only [Act.put]; simp only [List.setIfInBounds_toArray, List.set_cons_succ, List.set_cons_zero])
      (apply q_val rfl; (intro W CW; go_simp; rfl); (dsimp only [Act.put]; simp only [List.setIfInBounds_toArray, List.set_cons_succ, List.set_cons_zero]))
      (apply q_val rfl; (intro W CW; go_simp; rfl); (dsimp only [Act.put]; simp only [List.setIfInBounds_toArray, List.set_cons_succ, List.set_cons_zero]))
      (apply q_call rfl (by intro W CW; go_simp; exact ⟨rfl, rfl⟩) (by intro W CW; exact quiet_call (HCO.out _ _ _ W CW.sub hO4 RV.out) CW)); (dsimp only [Act.put]; simp only [List.setIfInBounds_toArray, List.set_cons_succ, List.set_cons_zero])
      (apply q_val rfl; (intro W CW; go_simp; rfl); (dsimp only [Act.put]; simp only [List.setIfInBounds_toArray, List.set_cons_succ, List.set_cons_zero]))
      (apply q_val rfl; (intro W CW; go_simp; rfl); (dsimp only [Act.put]; simp only [List.setIfInBounds_toArray, List.set_cons_succ, List.set_cons_zero]))
      (apply q_val rfl; (intro W CW; go_simp; rfl); (dsimp only [Act.put]; simp only [List.setIfInBounds_toArray, List.set_cons_succ, List.set_cons_zero]))
      (apply q_val rfl; (intro W CW; go_simp; rfl); (dsimp only [Act.put]; simp only [List.setIfInBounds_toArray, List.set_cons_succ, List.set_cons_zero]))
      (apply q_val rfl; (intro W CW; go_simp; rfl); (dsimp only [Act.put]; simp only [List.setIfInBounds_toArray, List.set_cons_succ, List.set_cons_zero]))
      (apply q_val rfl; (intro W CW; go_simp; rfl); (dsimp only [Act.put]; simp only [List.setIfInBounds_toArray, List.set_cons_succ, List.set_cons_zero]))
      (apply q_val rfl; (intro W CW; go_simp; rfl); (dsimp only [Act.put]; simp only [List.setIfInBounds_toArray, List.set_cons_succ, List.set_cons_zero]))
      (apply q_val rfl; (intro W CW; go_simp; rfl); (dsimp only [Act.put]; simp only [List.setIfInBounds_toArray, List.set_cons_succ, List.set_cons_zero]))
      (apply q_val rfl; (intro W CW; go_simp; rfl); (dsimp only [Act.put]; simp only [List.setIfInBounds_toArray, List.set_cons_succ, List.set_cons_zero]))
      (refine q_loadS (ty := 27) ((snapC s.site (.slice A2 s.cars.length c2) (.slice A3 s.wants.length c3)).toList) rfl rfl rfl Try.underlying27 rfl (by kernel_rfl) rfl ?_); (dsimp only [Act.put]; simp only [List.setIfInBounds_toArray, List.set_cons_succ, List.set_cons_zero])
      (apply q_call rfl (by intro W CW; go_simp; exact ⟨rfl, rfl⟩) (by intro W CW; exact quiet_call (HBE2.out _ W CW.sub hO4) CW)); (dsimp only [Act.put]; simp only [List.setIfInBounds_toArray, List.set_cons_succ, List.set_cons_zero])
      (apply q_val rfl; (intro W CW; go_simp; rfl); (dsimp only [Act.put]; simp only [List.setIfInBounds_toArray, List.set_cons_succ, List.set_cons_zero]))
      (apply q_val rfl; (intro W CW; go_simp; rfl); (dsimp only [Act.put]; simp only [List.setIfInBounds_toArray, List.set_cons_succ, List.set_cons_zero]))
      (apply q_val rfl; (intro W CW; go_simp; rfl); (dsimp only [Act.put]; simp only [List.setIfInBounds_toArray, List.set_cons_succ, List.set_cons_zero]))
      (apply q_val rfl; (intro W CW; go_simp; rfl); (dsimp only [Act.put]; simp only [List.setIfInBounds_toArray, List.set_cons_succ, List.set_cons_zero]))
      (apply q_val rfl; (intro W CW; go_simp; rfl); (dsimp only [Act.put]; simp only [List.setIfInBounds_toArray, List.set_cons_succ, List.set_cons_zero]))
      (apply q_val rfl; (intro W CW; go_simp; rfl); (dsimp only [Act.put]; simp only [List.setIfInBounds_toArray, List.set_cons_succ, List.set_cons_zero]))
      refine wpQuiet_nil fun w9 C9 => ?_
      go_wp2
      go_ret
      exact ⟨ret_bool (by first | rfl | simp), C9.bel⟩
    | false =>
      clear HBE
      go_enter Try.func3, Try.ntmps3
      go_wp2_with (first | ((with_reducible refine gBox 27 ?_); refine ev_boxT (t := 27) rfl rfl (by go_simp; rfl) ?_; intro g1 w1 C1; clear C0) | ((with_reducible refine gLd 27 ?_); refine ev_loadS (ty := 27) ((snapC s.site (.slice A2 s.cars.length c2) (.slice A3 s.wants.length c3)).toList) rfl rfl rfl Try.underlying27 rfl (by kernel_rfl) rfl ?_) | ((with_reducible refine gAl 34 ?_); refine ev_alloc (t := 34) rfl rfl (by go_simp; rfl) ?_; intro g5 w5 C5; clear C4) | ((with_reducible refine gSt 34 ?_); refine ev_storeW (t := 34) (ty := 34) (g := g5) (vs := claimC false cst (.slice A5 m c5)) rfl rfl rfl rfl (by kernel_rfl) (by rfl) (by rw [List.all_toArray]; rfl) ?_; intro w6 C6; clear C5) | (go_at_call 13; refine (checkSpeaks _).mono ?_; rintro e w2 ⟨rfl, hb⟩; have C2 := C1.keep hb; clear hb C1) | (go_at_call 14; refine (HG.out _).mono ?_; rintro e w3 ⟨rfl, hb⟩; have C3 := C2.keep hb; clear hb C2) | (go_at_call 15; (refine (HCK.out _ C3.sub).mono ?_); rintro e w4 ⟨v, O4, rfl, hO4, rv, D⟩; have C4 := C3.call D; simp only [List.nil_append] at C4; clear C3 D; obtain ⟨A5, c5, rfl, _⟩ := rv.form; dsimp only at rv ⊢; rw [HM.out] at rv ⊢; have RV := Lib.hid rv; clear rv))
      refine ev_quietAll (by kernel_rfl) (by kernel_rfl) ?_
      clear C6
      (refine q_loadS (ty := 27) ((snapC s.site (.slice A2 s.cars.length c2) (.slice A3 s.wants.length c3)).toList) rfl rfl rfl Try.underlying27 rfl (by kernel_rfl) rfl ?_); (dsimp only [Act.put]; simp only [List.setIfInBounds_toArray, List.set_cons_succ, List.set_cons_zero])
      (apply q_val rfl; (intro W CW; go_simp; rfl); (dsimp only [Act.put]; simp only [List.setIfInBounds_toArray, List.set_cons_succ, List.set_cons_zero]))
      (apply q_val rfl; (intro W CW; go_simp; rfl); (dsimp only [Act.put]; simp only [List.setIfInBounds_toArray, List.set_cons_succ, List.set_cons_zero]))
      (apply q_call rfl (by intro W CW; go_simp; exact ⟨rfl, rfl⟩) (by intro W CW; exact quiet_call (HFE.out _ _ _ W CW.sub hO4 RV.out) CW)); (dsimp only [Act.put]; simp only [List.setIfInBounds_toArray, List.set_cons_succ, List.set_cons_zero])
      (apply q_val rfl; (intro W CW; go_simp; rfl); (dsimp only [Act.put]; simp only [List.setIfInBounds_toArray, List.set_cons_succ, List.set_cons_zero]))
      (refine q_loadS (ty := 27) ((snapC s.site (.slice A2 s.cars.length c2) (.slice A3 s.wants.length c3)).toList) rfl rfl rfl Try.underlying27 rfl (by kernel_rfl) rfl ?_); (dsimp only [Act.put]; simp only [List.setIfInBounds_toArray, List.set_cons_succ, List.set_cons_zero])
      (apply q_val rfl; (intro W CW; go_simp; rfl); (dsimp only [Act.put]; simp only [List.setIfInBounds_toArray, List.set_cons_succ, List.set_cons_zero]))
      (apply q_val rfl; (intro W CW; go_simp; rfl); (dsimp only [Act.put]; simp only [List.setIfInBounds_toArray, List.set_cons_succ, List.set_cons_zero]))
      (apply q_call rfl (by intro W CW; go_simp; exact ⟨rfl, rfl⟩) (by intro W CW; exact quiet_call (HCO.out _ _ _ W CW.sub hO4 RV.out) CW)); (dsimp only [Act.put]; simp only [List.setIfInBounds_toArray, List.set_cons_succ, List.set_cons_zero])
      (apply q_val rfl; (intro W CW; go_simp; rfl); (dsimp only [Act.put]; simp only [List.setIfInBounds_toArray, List.set_cons_succ, List.set_cons_zero]))
      (apply q_val rfl; (intro W CW; go_simp; rfl); (dsimp only [Act.put]; simp only [List.setIfInBounds_toArray, List.set_cons_succ, List.set_cons_zero]))
      (apply q_val rfl; (intro W CW; go_simp; rfl); (dsimp only [Act.put]; simp only [List.setIfInBounds_toArray, List.set_cons_succ, List.set_cons_zero]))
      (apply q_val rfl; (intro W CW; go_simp; rfl); (dsimp only [Act.put]; simp only [List.setIfInBounds_toArray, List.set_cons_succ, List.set_cons_zero]))
      (apply q_val rfl; (intro W CW; go_simp; rfl); (dsimp only [Act.put]; simp only [List.setIfInBounds_toArray, List.set_cons_succ, List.set_cons_zero]))
      (apply q_val rfl; (intro W CW; go_simp; rfl); (dsimp only [Act.put]; simp only [List.setIfInBounds_toArray, List.set_cons_succ, List.set_cons_zero]))
      (apply q_val rfl; (intro W CW; go_simp; rfl); (dsimp only [Act.put]; simp only [List.setIfInBounds_toArray, List.set_cons_succ, List.set_cons_zero]))
      (apply q_val rfl; (intro W CW; go_simp; rfl); (dsimp only [Act.put]; simp only [List.setIfInBounds_toArray, List.set_cons_succ, List.set_cons_zero]))
      (apply q_val rfl; (intro W CW; go_simp; rfl); (dsimp only [Act.put]; simp only [List.setIfInBounds_toArray, List.set_cons_succ, List.set_cons_zero]))
      (refine q_skip rfl ?_); (dsimp only [Act.put]; simp only [List.setIfInBounds_toArray, List.set_cons_succ, List.set_cons_zero])
      (refine q_skip rfl ?_); (dsimp only [Act.put]; simp only [List.setIfInBounds_toArray, List.set_cons_succ, List.set_cons_zero])
      (refine q_skip rfl ?_); (dsimp only [Act.put]; simp only [List.setIfInBounds_toArray, List.set_cons_succ, List.set_cons_zero])
      (refine q_skip rfl ?_); (dsimp only [Act.put]; simp only [List.setIfInBounds_toArray, List.set_cons_succ, List.set_cons_zero])
      (refine q_skip rfl ?_); (dsimp only [Act.put]; simp only [List.setIfInBounds_toArray, List.set_cons_succ, List.set_cons_zero])
      (apply q_val rfl; (intro W CW; go_simp; rfl); (dsimp only [Act.put]; simp only [List.setIfInBounds_toArray, List.set_cons_succ, List.set_cons_zero]))
      (apply q_val rfl; (intro W CW; go_simp; rfl); (dsimp only [Act.put]; simp only [List.setIfInBounds_toArray, List.set_cons_succ, List.set_cons_zero]))
      (apply q_val rfl; (intro W CW; go_simp; rfl); (dsimp only [Act.put]; simp only [List.setIfInBounds_toArray, List.set_cons_succ, List.set_cons_zero]))
      refine wpQuiet_nil fun w9 C9 => ?_
      go_wp2
      go_ret
      exact ⟨ret_bool (by first | rfl | simp), C9.bel⟩
theorem lawCheckSound (s : Snap) (b : List Int) (hb : U8 b) (A4 : Option Addr) (c4 : Nat) (A2 A3 : Option Addr) (c2 c3 : Nat) (O : PH) (w : World) (hO : PLe O (hp w)) (r2 : Rd kReady O (.slice A2 s.cars.length c2) s.cars) (r3 : Rd kWant O (.slice A3 s.wants.length c3) s.wants) (r4 : Rd kU8 O (.slice A4 b.length c4) b) :
    Calls Try.prog 3 #[snapV s.site (.slice A2 s.cars.length c2) (.slice A3 s.wants.length c3), .slice A4 b.length c4] w fun e w' => e = .returned (.bool true) ∧ Below w.heap.size w w' := by
  cases h : (greatB s || decide (3000 < b.length) || decide (4 < s.wants.length)) with
  | true => exact lawCheckSound_great s b h A4 c4 A2 A3 c2 c3 O w hO r2 r3 r4
  | false =>
    unfold greatB at h
    simp only [Bool.or_eq_false_iff, decide_eq_false_iff_not] at h
    exact lawCheckSound_main s b hb (by omega) (by omega) (by omega) A4 c4 A2 A3 c2 c3 O w hO r2 r3 r4
end Go.Proofs.Ytomfgggomjbnfaa
