/- The walk of the check. -/
import Derived.Test.YtomfgggomjbnfaaT9
import Derived.Test.YtomfgggomjbnfaaT5
import Derived.Test.YtomfgggomjbnfaaT7
import Derived.Outline
set_option linter.unusedVariables false
set_option linter.unusedSimpArgs false
namespace Go.Proofs.Ytomfgggomjbnfaa
open Go.RowKit Go.Sep
attribute [local go_sem] cell_ctx frozen_ctx cell_fz
/-- What bytes show of a snapshot. -/
def checkF (s : Snap) (b : List Int) : Claim × Int :=
  if rightB s = false then (⟨false, 0, []⟩, 1) else
    match readF s.cars.length b with
    | none => (⟨false, 0, []⟩, 3)
    | some q => if feasB s q.1.plan = false then (⟨false, 0, []⟩, 9)
      else if priceF s q.1.plan ≠ q.1.cost ∨ q.1.best = true ∧ covF s q.1.cost q.2 [Pl.root s] = false then (⟨false, 0, []⟩, 10) else (q.1, 0)
def CheckPost (O : PH) (w : World) (x : Claim × Int) (e : Ending) (w' : World) : Prop :=
  ∃ v O', e = .returned (.tuple #[.agg (claimC x.1.best x.1.cost v), .int .i64 x.2]) ∧ PLe O O' ∧ Rd (kSl kInt) O' v x.1.plan ∧ Ctx w none O O' [] w'
theorem checkNo {O : PH} {w w' : World} {e : Ending} {x : Claim × Int} {L : List Ass} (O' : PH) (n : Int) (hx : x = (⟨false, 0, []⟩, n)) (h : e = .returned (.tuple #[.agg (claimC false 0 (.slice none 0 0)), .int .i64 n])) (hO : PLe O O') (C : Ctx w none O O' L w') : CheckPost O w x e w' := by
  subst hx
  refine ⟨_, O', h, hO, Rd.nil _ _, ?_⟩
  induction L with
  | nil => exact C
  | cons A L ih => exact ih (C.drop 0)
theorem rows_len {α : Type} {d : Kind α} {O : PH} {A : Option Addr} {c : Nat} {p : List (List α)} (r : Rd (kSl d) O (.slice A p.length c) p) : ∀ l, l ∈ p → l.length ≤ 140737488355328 := by
  intro l hl
  obtain ⟨i, hi, rfl⟩ := List.getElem_of_mem hl
  obtain ⟨b, off, A', c', _, _, r', _⟩ := Rd_fzS r i hi
  exact r'.len
theorem readRows_len (k : Nat) : ∀ (b : List Int) (p : List (List Int)) (r : List Int), readRows k b = some (p, r) → r.length ≤ b.length ∧ p.length = k := by
  induction k with
  | zero => intro b p r h; cases h; exact ⟨Nat.le_refl _, rfl⟩
  | succ k ih =>
    intro b p r h
    cases b with
    | nil => cases h
    | cons n b =>
      unfold readRows at h
      split at h
      · cases hq : readRows k (b.drop n.toNat) with
        | none => rw [hq] at h; cases h
        | some q =>
          rw [hq] at h
          simp only [Option.map_some, Option.some.injEq, Prod.mk.injEq] at h
          obtain ⟨h1, h2⟩ := h
          have := ih _ q.1 q.2 hq
          subst h1 h2
          rw [List.length_drop] at this
          simp only [List.length_cons]
          omega
      · cases h
theorem readF_some {k : Nat} {b : List Int} {q : Claim × List Int} (h : readF k b = some q) : q.2.length ≤ b.length ∧ q.1.plan.length = k ∧ 0 ≤ q.1.cost ∧ q.1.cost ≤ 1099511627776 ∨ ¬ U8 b := by
  by_cases hu : U8 b
  · left
    unfold readF at h
    split at h
    · cases h
    · cases hr : readRows k (b.drop 9) with
      | none => rw [hr] at h; cases h
      | some x =>
        obtain ⟨p, r⟩ := x
        rw [hr] at h
        dsimp only at h
        split at h
        · cases h
        · cases h
          have := readRows_len k _ p r hr
          rw [List.length_drop] at this
          have hc := costOf_bd ((b.take 9).drop 1) _ rfl (fun y hy => hu y (List.mem_of_mem_take (List.mem_of_mem_drop hy)))
          dsimp only
          omega
  · exact .inr hu
theorem seenL_spec (s : Snap) (c : Nat) : ∀ (l : List Int) (seen x : List Bool), seenL s c seen l = some x → x.length = seen.length ∧ l.length + seen.countP (fun b => b) = x.countP (fun b => b) ∧ ∀ w, w ∈ l → 0 ≤ w ∧ w < seen.length ∧ mayB (s.wants.getD w.toNat ⟨0, 0⟩) c = true
  | [], seen, x, h => by cases h; exact ⟨rfl, by simp, by simp⟩
  | w :: l, seen, x, h => by
    unfold seenL at h
    split at h
    · rename_i hc
      obtain ⟨c1, c2, c3, c4⟩ := hc
      have ih := seenL_spec s c l _ _ h
      obtain ⟨n, rfl⟩ := Int.eq_ofNat_of_zero_le c1
      rw [Int.toNat_natCast] at *
      have hn : n < seen.length := by omega
      rw [List.getD_eq_getElem?_getD, List.getElem?_eq_getElem hn, Option.getD_some] at c3
      have hcp : (seen.set n true).countP (fun b => b) = seen.countP (fun b => b) + 1 := by
        rw [List.countP_set (h := hn), c3]
        simp
      rw [List.length_set, hcp] at ih
      refine ⟨ih.1, by simp only [List.length_cons]; omega, fun w hw => ?_⟩
      rcases List.mem_cons.1 hw with rfl | hw
      · exact ⟨c1, c2, c4⟩
      · exact ih.2.2 w hw
    · cases h
theorem seenP_spec (s : Snap) : ∀ (p : List (List Int)) (c : Nat) (seen x : List Bool), seenP s c seen p = some x → x.length = seen.length ∧ p.flatten.length + seen.countP (fun b => b) = x.countP (fun b => b) ∧ ∀ i (hi : i < p.length) w, w ∈ p[i] → 0 ≤ w ∧ w < seen.length ∧ mayB (s.wants.getD w.toNat ⟨0, 0⟩) (c + i : Nat) = true
  | [], c, seen, x, h => by cases h; exact ⟨rfl, by simp, by simp⟩
  | l :: p, c, seen, x, h => by
    unfold seenP at h
    cases hl : seenL s c seen l with
    | none => rw [hl] at h; cases h
    | some y =>
      rw [hl] at h
      have h1 := seenL_spec s c l _ _ hl
      have h2 := seenP_spec s p (c + 1) _ _ h
      rw [h1.1] at h2
      refine ⟨h2.1, by rw [List.flatten_cons, List.length_append]; omega, fun i hi w hw => ?_⟩
      cases i with
      | zero => exact h1.2.2 w hw
      | succ i =>
        have := h2.2.2 i (by simpa using hi) w (by simpa using hw)
        rw [show c + (i + 1) = c + 1 + i by omega]
        exact this
theorem feasB_lists {s : Snap} {p : List (List Int)} (h : feasB s p = true) : rightB s = true ∧ p.length = s.cars.length ∧ Lists s p := by
  unfold feasB at h
  simp only [Bool.and_eq_true, decide_eq_true_eq] at h
  obtain ⟨⟨h1, h2⟩, h3⟩ := h
  refine ⟨h1, h2, ?_⟩
  have hw := (right_cars h1).2.2.2.2.1
  cases hs : seenP s 0 (List.replicate s.wants.length false) p with
  | none => rw [hs] at h3; cases h3
  | some x =>
    have sp := seenP_spec s p 0 _ _ hs
    rw [List.length_replicate] at sp
    have hcx : x.countP (fun b => b) ≤ x.length := List.countP_le_length
    intro l hl
    obtain ⟨i, hi, rfl⟩ := List.getElem_of_mem hl
    refine ⟨?_, fun w hw' => ?_⟩
    · have : (p[i]).length ≤ p.flatten.length := (List.sublist_flatten_of_mem hl).length_le
      omega
    · have := sp.2.2 i hi w hw'
      omega
theorem claim_one {b : Bool} {n : Int} {v : Value} (h : v.oneCell' = true) : (claimC b n v).all (·.oneCell') = true := by
  rw [List.all_toArray]
  show (true && (true && (v.oneCell' && true))) = true
  rw [h]; rfl
set_option maxRecDepth 100000 in
set_option maxHeartbeats 20000000 in
theorem checkCheck (s : Snap) (hw8 : s.wants.length ≤ 8) (b : List Int) (hb : U8 b) (hbl : b.length ≤ 1000000) (hcl : s.cars.length ≤ 20)
    (A4 : Option Addr) (c4 : Nat) (A2 A3 : Option Addr) (c2 c3 : Nat) (O : PH) (w : World) (hO : PLe O (hp w)) (r2 : Rd kReady O (.slice A2 s.cars.length c2) s.cars) (r3 : Rd kWant O (.slice A3 s.wants.length c3) s.wants) (r4 : Rd kU8 O (.slice A4 b.length c4) b) :
    Calls Try.prog 15 #[snapV s.site (.slice A2 s.cars.length c2) (.slice A3 s.wants.length c3), .slice A4 b.length c4] w fun e w' => CheckPost O w (checkF s b) e w' := by
  have C0 := Ctx.start hO
  have HR := Lib.hid fun W (h : PLe O (Go.Sep.hp W)) => planRight s A2 A3 c2 c3 O W h r2 r3
  have HD := Lib.hid fun W (h : PLe O (Go.Sep.hp W)) => checkRead s.cars.length hcl b hb O _ W h r4
  have R2 := Lib.hid r2
  have R3 := Lib.hid r3
  have HB := Lib.hid hb
  obtain ⟨X, hX⟩ : ∃ X, checkF s b = X := ⟨_, rfl⟩
  rw [hX]
  unfold checkF at hX
  have HX := Lib.hid hX
  clear r2 r3 r4 hO hb hX
  cases hr : rightB s with
  | false =>
    rw [hr] at HR HX
    have HX2 := Lib.hid (HX.out.symm.trans (if_pos rfl))
    clear hr HX
    go_enter Try.func15, Try.ntmps15
    go_wp2_with (first | ((with_reducible refine gBox 27 ?_); refine ev_boxT (t := 27) rfl rfl (by go_simp; rfl) ?_; intro g1 w1 C1; clear C0) | ((with_reducible refine gAl 34 ?_); refine ev_alloc (t := 34) rfl rfl (by go_simp; rfl) ?_; intro g2 w2 C2; clear C1) | ((with_reducible refine gLd 27 ?_); refine ev_loadS (ty := 27) ((snapC s.site (.slice A2 s.cars.length c2) (.slice A3 s.wants.length c3)).toList) rfl rfl rfl Try.underlying27 rfl (by kernel_rfl) rfl ?_) | ((with_reducible refine gSt 34 ?_); refine ev_storeW (t := 34) (ty := 34) (g := g2) (vs := claimC false 0 (.slice none 0 0)) rfl rfl rfl rfl (by kernel_rfl) (by rfl) (by rw [List.all_toArray]; rfl) ?_; intro w4 C4; clear C3) | (go_at_call 37; refine (HR.out _ C2.sub).mono ?_; rintro e w3 ⟨rfl, hb⟩; have C3 := C2.keep hb; clear hb C2))
    exact bodyPost_ret (results_cell_row2 rfl _ _ g2 34 _ (0, 0) _ rfl heap_ctx Try.underlying34 rfl (by kernel_rfl)) rfl (checkNo O 1 HX2.out rfl (PLe.refl _) C4)
  | true =>
    have HRT := Lib.hid hr
    rw [hr] at HR HX
    have HX2 := Lib.hid (HX.out.symm.trans (if_neg (by decide)))
    clear hr HX
    cases hf : readF s.cars.length b with
    | none =>
      rw [hf] at HX2 HD
      clear hf
      go_enter Try.func15, Try.ntmps15
      go_wp2_with (first | ((with_reducible refine gBox 27 ?_); refine ev_boxT (t := 27) rfl rfl (by go_simp; rfl) ?_; intro g1 w1 C1; clear C0) | ((with_reducible refine gAl 34 ?_); refine ev_alloc (t := 34) rfl rfl (by go_simp; rfl) ?_; first | (have _t := C1; intro g2 w2 C2; clear C1) | (intro g5 w5 C5; clear C4)) | ((with_reducible refine gLd 27 ?_); refine ev_loadS (ty := 27) ((snapC s.site (.slice A2 s.cars.length c2) (.slice A3 s.wants.length c3)).toList) rfl rfl rfl Try.underlying27 rfl (by kernel_rfl) rfl ?_) | ((with_reducible refine gSt 34 ?_); refine ev_storeW (t := 34) (ty := 34) (g := g5) (vs := claimC bx nx vx) rfl rfl rfl rfl (by kernel_rfl) (by rfl) (claim_one HVX.out) ?_; intro w6 C6; clear C5) | ((with_reducible refine gSt 34 ?_); refine ev_storeW (t := 34) (ty := 34) (g := g2) (vs := claimC false 0 (.slice none 0 0)) rfl rfl rfl rfl (by kernel_rfl) (by rfl) (by rw [List.all_toArray]; rfl) ?_; intro w7 C7; clear C6) | (go_at_call 37; refine (HR.out _ C2.sub).mono ?_; rintro e w3 ⟨rfl, hb⟩; have C3 := C2.keep hb; clear hb C2) | (go_at_call 38; (refine (HD.out _ C3.sub).mono ?_); rintro e w4 ⟨bx, nx, vx, hvx, rfl, hb⟩; have C4 := C3.keep hb; clear hb C3; have HVX := Lib.hid hvx; clear hvx))
      exact bodyPost_ret (results_cell_row2 rfl _ _ g2 34 _ (0, 0) _ rfl heap_ctx Try.underlying34 rfl (by kernel_rfl)) rfl (checkNo O 3 HX2.out rfl (PLe.refl _) C7)
    | some q =>
      rw [hf] at HX2 HD
      dsimp only at HX2
      obtain ⟨q1, q2, q3, q4⟩ : q.2.length ≤ b.length ∧ q.1.plan.length = s.cars.length ∧ 0 ≤ q.1.cost ∧ q.1.cost ≤ 1099511627776 := by
        rcases readF_some hf with h | h
        · exact h
        · exact absurd HB.out h
      have HQL := Lib.hid q2
      have HC1 := Lib.hid q3
      have HC2 := Lib.hid q4
      obtain ⟨hc1, hc8, hs, hrd, hww⟩ : 1 ≤ s.cars.length ∧ s.cars.length ≤ 8 ∧ siteB s.site = true ∧ (∀ r, r ∈ s.cars → r.Ok) ∧ (∀ x, x ∈ s.wants → 0 ≤ x.cars ∧ x.cars < 256) := by
        have h := right_cars HRT.out
        exact ⟨h.2.2.1, h.2.2.2.1, h.1, fun r hr => (h.2.2.2.2.2.1 r hr).2, h.2.2.2.2.2.2.2⟩
      have HS := Lib.hid hs
      have HRD := Lib.hid hrd
      have HWW := Lib.hid hww
      clear hf q2 hs hrd hww
      cases hfe : feasB s q.1.plan with
      | false =>
        have HX3 := Lib.hid (HX2.out.trans (if_pos hfe))
        have HFE := Lib.hid fun (B1 : Option Addr) (d1 : Nat) (O2 : PH) W (h : PLe O2 (Go.Sep.hp W)) (hO2 : PLe O O2) (rl : ∀ l, l ∈ q.1.plan → l.length ≤ 140737488355328) (rv : Rd (kSl kInt) O2 (.slice B1 s.cars.length d1) q.1.plan) => by
          have := planFeasible s q.1.plan rl B1 d1 A2 A3 c2 c3 O2 W h (R2.out.mono hO2) (R3.out.mono hO2) (by rw [HQL.out]; exact rv)
          rw [HQL.out, hfe] at this
          exact this
        clear hfe HX2
        go_enter Try.func15, Try.ntmps15
        go_wp2_with (first | ((with_reducible refine gBox 27 ?_); refine ev_boxT (t := 27) rfl rfl (by go_simp; rfl) ?_; intro g1 w1 C1; clear C0) | ((with_reducible refine gAl 34 ?_); refine ev_alloc (t := 34) rfl rfl (by go_simp; rfl) ?_; first | (have _t := C1; intro g2 w2 C2; clear C1) | (intro g5 w5 C5; clear C4)) | ((with_reducible refine gLd 27 ?_); refine ev_loadS (ty := 27) ((snapC s.site (.slice A2 s.cars.length c2) (.slice A3 s.wants.length c3)).toList) rfl rfl rfl Try.underlying27 rfl (by kernel_rfl) rfl ?_) | ((with_reducible refine gSt 34 ?_); refine ev_storeW (t := 34) (ty := 34) (g := g5) (vs := claimC q.1.best q.1.cost (.slice B1 s.cars.length d1)) rfl rfl rfl rfl (by kernel_rfl) (by rfl) (by rw [List.all_toArray]; rfl) ?_; intro w6 C6; clear C5) | ((with_reducible refine gSt 34 ?_); refine ev_storeW (t := 34) (ty := 34) (g := g2) (vs := claimC false 0 (.slice none 0 0)) rfl rfl rfl rfl (by kernel_rfl) (by rfl) (by rw [List.all_toArray]; rfl) ?_; intro w8 C8; clear C7) | (go_at_call 37; refine (HR.out _ C2.sub).mono ?_; rintro e w3 ⟨rfl, hb⟩; have C3 := C2.keep hb; clear hb C2) | (go_at_call 38; (refine (HD.out _ C3.sub).mono ?_); rintro e w4 ⟨v1, v2, O2, rfl, hO2, rv1, rv2, D⟩; have C4' := C3.call D; simp only [List.nil_append] at C4'; have C4 : Ctx w none O O2 [Cells g2 34 #[.bool false, .int .i64 0, .slice none 0 0], Cells g1 27 (snapC s.site (.slice A2 s.cars.length c2) (.slice A3 s.wants.length c3))] w4 := C4'; clear C3 C4' D; obtain ⟨B1, d1, rfl, hd1⟩ := rv1.form; obtain ⟨B2, d2, rfl, hd2⟩ := rv2.form; have HRL := Lib.hid (rows_len rv1); rw [HQL.out] at rv1 ⊢; have RV1 := Lib.hid rv1; have RV2 := Lib.hid rv2; clear rv1 rv2) | (go_at_call 39; (refine (HFE.out _ _ _ _ C6.sub hO2 HRL.out RV1.out).mono ?_); rintro e w7 ⟨rfl, hb⟩; have C7 := C6.keep hb; clear hb C6))
        exact bodyPost_ret (results_cell_row2 rfl _ _ g2 34 _ (0, 0) _ rfl heap_ctx Try.underlying34 rfl (by kernel_rfl)) rfl (checkNo O2 9 HX3.out rfl hO2 C8)
      | true =>
        have HLI := Lib.hid (feasB_lists hfe).2.2
        have HX3 := Lib.hid (HX2.out.trans (if_neg (by rw [hfe]; decide)))
        have HFE := Lib.hid fun (B1 : Option Addr) (d1 : Nat) (O2 : PH) W (h : PLe O2 (Go.Sep.hp W)) (hO2 : PLe O O2) (rl : ∀ l, l ∈ q.1.plan → l.length ≤ 140737488355328) (rv : Rd (kSl kInt) O2 (.slice B1 s.cars.length d1) q.1.plan) => by
          have := planFeasible s q.1.plan rl B1 d1 A2 A3 c2 c3 O2 W h (R2.out.mono hO2) (R3.out.mono hO2) (by rw [HQL.out]; exact rv)
          rw [HQL.out, hfe] at this
          exact this
        have HPR := Lib.hid fun (B1 : Option Addr) (d1 : Nat) (O2 : PH) W (h : PLe O2 (Go.Sep.hp W)) (hO2 : PLe O O2) (rv : Rd (kSl kInt) O2 (.slice B1 s.cars.length d1) q.1.plan) => by
          have := checkPrice s HS.out HRD.out (by omega) hc8 (by omega) q.1.plan HQL.out HLI.out B1 d1 A2 A3 c2 c3 O2 W h (R2.out.mono hO2) (R3.out.mono hO2) (by rw [HQL.out]; exact rv)
          rw [HQL.out] at this
          exact this
        have HCV := Lib.hid fun (B2 : Option Addr) (d2 : Nat) (O2 : PH) W (h : PLe O2 (Go.Sep.hp W)) (hO2 : PLe O O2) (rv : Rd kU8 O2 (.slice B2 q.2.length d2) q.2) =>
          checkCovered s HS.out HRD.out HWW.out (by omega) hc8 hw8 q.2 (by omega) q.1.cost B2 d2 A2 A3 c2 c3 O2 W h (R2.out.mono hO2) (R3.out.mono hO2) rv
        obtain ⟨P, hP⟩ : ∃ P, priceF s q.1.plan = P := ⟨_, rfl⟩
        obtain ⟨N, hN⟩ : ∃ N, q.1.cost = N := ⟨_, rfl⟩
        obtain ⟨bb, hbb⟩ : ∃ bb, q.1.best = bb := ⟨_, rfl⟩
        obtain ⟨V, hV⟩ : ∃ V, covF s N q.2 [Pl.root s] = V := ⟨_, rfl⟩
        rw [hN] at HCV
        rw [hP] at HPR
        rw [hV] at HCV
        rw [hP, hN, hbb, hV] at HX3
        have HN := Lib.hid hN
        have HBB := Lib.hid hbb
        rw [hN] at q3 q4
        clear hfe HX2 hP hN hbb hV HC1 HC2
        by_cases hpn : P = N
        · subst hpn
          cases bb with
          | false =>
            have HX4 := Lib.hid (HX3.out.trans (if_neg (by simp)))
            clear HX3
            go_enter Try.func15, Try.ntmps15
            go_wp2_with (first | ((with_reducible refine gBox 27 ?_); refine ev_boxT (t := 27) rfl rfl (by go_simp; rfl) ?_; intro g1 w1 C1; clear C0) | ((with_reducible refine gAl 34 ?_); refine ev_alloc (t := 34) rfl rfl (by go_simp; rfl) ?_; first | (have _t := C1; intro g2 w2 C2; clear C1) | (intro g5 w5 C5; clear C4)) | ((with_reducible refine gLd 27 ?_); refine ev_loadS (ty := 27) ((snapC s.site (.slice A2 s.cars.length c2) (.slice A3 s.wants.length c3)).toList) rfl rfl rfl Try.underlying27 rfl (by kernel_rfl) rfl ?_) | ((with_reducible refine gSt 34 ?_); refine ev_storeW (t := 34) (ty := 34) (g := g5) (vs := claimC false P (.slice B1 s.cars.length d1)) rfl rfl rfl rfl (by kernel_rfl) (by rfl) (by rw [List.all_toArray]; rfl) ?_; intro w6 C6; clear C5) | (go_at_call 37; refine (HR.out _ C2.sub).mono ?_; rintro e w3 ⟨rfl, hb⟩; have C3 := C2.keep hb; clear hb C2) | (go_at_call 38; (refine (HD.out _ C3.sub).mono ?_); rintro e w4 ⟨v1, v2, O2, rfl, hO2, rv1, rv2, D⟩; have C4' := C3.call D; simp only [List.nil_append] at C4'; have C4 : Ctx w none O O2 [Cells g2 34 #[.bool false, .int .i64 0, .slice none 0 0], Cells g1 27 (snapC s.site (.slice A2 s.cars.length c2) (.slice A3 s.wants.length c3))] w4 := C4'; clear C3 C4' D; rw [HN.out, HBB.out]; obtain ⟨B1, d1, rfl, hd1⟩ := rv1.form; obtain ⟨B2, d2, rfl, hd2⟩ := rv2.form; have HRL := Lib.hid (rows_len rv1); rw [HQL.out] at rv1 ⊢; have RV1 := Lib.hid rv1; have RV2 := Lib.hid rv2; clear rv1 rv2) | (go_at_call 39; (refine (HFE.out _ _ _ _ C6.sub hO2 HRL.out RV1.out).mono ?_); rintro e w7 ⟨rfl, hb⟩; have C7 := C6.keep hb; clear hb C6))
            refine ev_quietAll (by kernel_rfl) (by kernel_rfl) ?_
            clear C7
            (refine q_loadS (ty := 27) ((snapC s.site (.slice A2 s.cars.length c2) (.slice A3 s.wants.length c3)).toList) rfl rfl rfl Try.underlying27 rfl (by kernel_rfl) rfl ?_); (dsimp only [Act.put]; simp only [List.setIfInBounds_toArray, List.set_cons_succ, List.set_cons_zero])
            (apply q_val rfl; (intro W CW; go_simp; rfl); (dsimp only [Act.put]; simp only [List.setIfInBounds_toArray, List.set_cons_succ, List.set_cons_zero]))
            (apply q_val rfl; (intro W CW; go_simp; rfl); (dsimp only [Act.put]; simp only [List.setIfInBounds_toArray, List.set_cons_succ, List.set_cons_zero]))
            (apply q_call rfl (by intro W CW; go_simp; exact ⟨rfl, rfl⟩) (by intro W CW; exact quiet_call (HPR.out _ _ _ W CW.sub hO2 RV1.out) CW)); (dsimp only [Act.put]; simp only [List.setIfInBounds_toArray, List.set_cons_succ, List.set_cons_zero])
            (apply q_val rfl; (intro W CW; go_simp; rfl); (dsimp only [Act.put]; simp only [List.setIfInBounds_toArray, List.set_cons_succ, List.set_cons_zero]))
            (apply q_val rfl; (intro W CW; go_simp; rfl); (dsimp only [Act.put]; simp only [List.setIfInBounds_toArray, List.set_cons_succ, List.set_cons_zero]))
            (apply q_val rfl; (intro W CW; go_simp; rfl); (dsimp only [Act.put]; simp only [List.setIfInBounds_toArray, List.set_cons_succ, List.set_cons_zero]))
            (apply q_val rfl; (intro W CW; go_simp; rfl); (dsimp only [Act.put]; simp only [List.setIfInBounds_toArray, List.set_cons_succ, List.set_cons_zero]))
            refine wpQuiet_nil fun w8 C8 => ?_
            go_wp2_with (first | ((with_reducible refine gSt 34 ?_); refine ev_storeW (t := 34) (ty := 34) (g := g2) (vs := claimC false P (.slice B1 s.cars.length d1)) rfl rfl rfl rfl (by kernel_rfl) (by rfl) (by rw [List.all_toArray]; rfl) ?_; intro w9 C9; clear C8))
            exact bodyPost_ret (results_cell_row2 rfl _ _ g2 34 _ (0, 0) _ rfl heap_ctx Try.underlying34 rfl (by kernel_rfl)) rfl (by rw [HX4.out]; exact ⟨.slice B1 s.cars.length d1, O2, by rw [HBB.out, HN.out]; rfl, hO2, RV1.out, ((C9.drop 0).drop 0).drop 0⟩)
          | true =>
            cases V with
            | true =>
              have HX4 := Lib.hid (HX3.out.trans (if_neg (by simp)))
              clear HX3
              go_enter Try.func15, Try.ntmps15
              go_wp2_with (first | ((with_reducible refine gBox 27 ?_); refine ev_boxT (t := 27) rfl rfl (by go_simp; rfl) ?_; intro g1 w1 C1; clear C0) | ((with_reducible refine gAl 34 ?_); refine ev_alloc (t := 34) rfl rfl (by go_simp; rfl) ?_; first | (have _t := C1; intro g2 w2 C2; clear C1) | (intro g5 w5 C5; clear C4)) | ((with_reducible refine gLd 27 ?_); refine ev_loadS (ty := 27) ((snapC s.site (.slice A2 s.cars.length c2) (.slice A3 s.wants.length c3)).toList) rfl rfl rfl Try.underlying27 rfl (by kernel_rfl) rfl ?_) | ((with_reducible refine gSt 34 ?_); refine ev_storeW (t := 34) (ty := 34) (g := g5) (vs := claimC true P (.slice B1 s.cars.length d1)) rfl rfl rfl rfl (by kernel_rfl) (by rfl) (by rw [List.all_toArray]; rfl) ?_; intro w6 C6; clear C5) | (go_at_call 37; refine (HR.out _ C2.sub).mono ?_; rintro e w3 ⟨rfl, hb⟩; have C3 := C2.keep hb; clear hb C2) | (go_at_call 38; (refine (HD.out _ C3.sub).mono ?_); rintro e w4 ⟨v1, v2, O2, rfl, hO2, rv1, rv2, D⟩; have C4' := C3.call D; simp only [List.nil_append] at C4'; have C4 : Ctx w none O O2 [Cells g2 34 #[.bool false, .int .i64 0, .slice none 0 0], Cells g1 27 (snapC s.site (.slice A2 s.cars.length c2) (.slice A3 s.wants.length c3))] w4 := C4'; clear C3 C4' D; rw [HN.out, HBB.out]; obtain ⟨B1, d1, rfl, hd1⟩ := rv1.form; obtain ⟨B2, d2, rfl, hd2⟩ := rv2.form; have HRL := Lib.hid (rows_len rv1); rw [HQL.out] at rv1 ⊢; have RV1 := Lib.hid rv1; have RV2 := Lib.hid rv2; clear rv1 rv2) | (go_at_call 39; (refine (HFE.out _ _ _ _ C6.sub hO2 HRL.out RV1.out).mono ?_); rintro e w7 ⟨rfl, hb⟩; have C7 := C6.keep hb; clear hb C6))
              refine ev_quietAll (by kernel_rfl) (by kernel_rfl) ?_
              clear C7
              (refine q_loadS (ty := 27) ((snapC s.site (.slice A2 s.cars.length c2) (.slice A3 s.wants.length c3)).toList) rfl rfl rfl Try.underlying27 rfl (by kernel_rfl) rfl ?_); (dsimp only [Act.put]; simp only [List.setIfInBounds_toArray, List.set_cons_succ, List.set_cons_zero])
              (apply q_val rfl; (intro W CW; go_simp; rfl); (dsimp only [Act.put]; simp only [List.setIfInBounds_toArray, List.set_cons_succ, List.set_cons_zero]))
              (apply q_val rfl; (intro W CW; go_simp; rfl); (dsimp only [Act.put]; simp only [List.setIfInBounds_toArray, List.set_cons_succ, List.set_cons_zero]))
              (apply q_call rfl (by intro W CW; go_simp; exact ⟨rfl, rfl⟩) (by intro W CW; exact quiet_call (HPR.out _ _ _ W CW.sub hO2 RV1.out) CW)); (dsimp only [Act.put]; simp only [List.setIfInBounds_toArray, List.set_cons_succ, List.set_cons_zero])
              (apply q_val rfl; (intro W CW; go_simp; rfl); (dsimp only [Act.put]; simp only [List.setIfInBounds_toArray, List.set_cons_succ, List.set_cons_zero]))
              (apply q_val rfl; (intro W CW; go_simp; rfl); (dsimp only [Act.put]; simp only [List.setIfInBounds_toArray, List.set_cons_succ, List.set_cons_zero]))
              (apply q_val rfl; (intro W CW; go_simp; rfl); (dsimp only [Act.put]; simp only [List.setIfInBounds_toArray, List.set_cons_succ, List.set_cons_zero]))
              (apply q_val rfl; (intro W CW; go_simp; rfl); (dsimp only [Act.put]; simp only [List.setIfInBounds_toArray, List.set_cons_succ, List.set_cons_zero]))
              refine wpQuiet_nil fun w8 C8 => ?_
              go_wp2_with (first | ((with_reducible refine gLd 27 ?_); refine ev_loadS (ty := 27) ((snapC s.site (.slice A2 s.cars.length c2) (.slice A3 s.wants.length c3)).toList) rfl rfl rfl Try.underlying27 rfl (by kernel_rfl) rfl ?_) | ((with_reducible refine gSt 34 ?_); refine ev_storeW (t := 34) (ty := 34) (g := g2) (vs := claimC true P (.slice B1 s.cars.length d1)) rfl rfl rfl rfl (by kernel_rfl) (by rfl) (by rw [List.all_toArray]; rfl) ?_; intro w10 C10; clear C9) | (go_at_call 41; (refine (HCV.out _ _ _ _ C8.sub hO2 RV2.out).mono ?_); rintro e w9 ⟨rfl, hb⟩; have C9 := C8.keep hb; clear hb C8))
              exact bodyPost_ret (results_cell_row2 rfl _ _ g2 34 _ (0, 0) _ rfl heap_ctx Try.underlying34 rfl (by kernel_rfl)) rfl (by rw [HX4.out]; exact ⟨.slice B1 s.cars.length d1, O2, by rw [HBB.out, HN.out]; rfl, hO2, RV1.out, ((C10.drop 0).drop 0).drop 0⟩)
            | false =>
              have HX4 := Lib.hid (HX3.out.trans (if_pos (by simp)))
              clear HX3
              go_enter Try.func15, Try.ntmps15
              go_wp2_with (first | ((with_reducible refine gBox 27 ?_); refine ev_boxT (t := 27) rfl rfl (by go_simp; rfl) ?_; intro g1 w1 C1; clear C0) | ((with_reducible refine gAl 34 ?_); refine ev_alloc (t := 34) rfl rfl (by go_simp; rfl) ?_; first | (have _t := C1; intro g2 w2 C2; clear C1) | (intro g5 w5 C5; clear C4)) | ((with_reducible refine gLd 27 ?_); refine ev_loadS (ty := 27) ((snapC s.site (.slice A2 s.cars.length c2) (.slice A3 s.wants.length c3)).toList) rfl rfl rfl Try.underlying27 rfl (by kernel_rfl) rfl ?_) | ((with_reducible refine gSt 34 ?_); refine ev_storeW (t := 34) (ty := 34) (g := g5) (vs := claimC true P (.slice B1 s.cars.length d1)) rfl rfl rfl rfl (by kernel_rfl) (by rfl) (by rw [List.all_toArray]; rfl) ?_; intro w6 C6; clear C5) | (go_at_call 37; refine (HR.out _ C2.sub).mono ?_; rintro e w3 ⟨rfl, hb⟩; have C3 := C2.keep hb; clear hb C2) | (go_at_call 38; (refine (HD.out _ C3.sub).mono ?_); rintro e w4 ⟨v1, v2, O2, rfl, hO2, rv1, rv2, D⟩; have C4' := C3.call D; simp only [List.nil_append] at C4'; have C4 : Ctx w none O O2 [Cells g2 34 #[.bool false, .int .i64 0, .slice none 0 0], Cells g1 27 (snapC s.site (.slice A2 s.cars.length c2) (.slice A3 s.wants.length c3))] w4 := C4'; clear C3 C4' D; rw [HN.out, HBB.out]; obtain ⟨B1, d1, rfl, hd1⟩ := rv1.form; obtain ⟨B2, d2, rfl, hd2⟩ := rv2.form; have HRL := Lib.hid (rows_len rv1); rw [HQL.out] at rv1 ⊢; have RV1 := Lib.hid rv1; have RV2 := Lib.hid rv2; clear rv1 rv2) | (go_at_call 39; (refine (HFE.out _ _ _ _ C6.sub hO2 HRL.out RV1.out).mono ?_); rintro e w7 ⟨rfl, hb⟩; have C7 := C6.keep hb; clear hb C6))
              refine ev_quietAll (by kernel_rfl) (by kernel_rfl) ?_
              clear C7
              (refine q_loadS (ty := 27) ((snapC s.site (.slice A2 s.cars.length c2) (.slice A3 s.wants.length c3)).toList) rfl rfl rfl Try.underlying27 rfl (by kernel_rfl) rfl ?_); (dsimp only [Act.put]; simp only [List.setIfInBounds_toArray, List.set_cons_succ, List.set_cons_zero])
              (apply q_val rfl; (intro W CW; go_simp; rfl); (dsimp only [Act.put]; simp only [List.setIfInBounds_toArray, List.set_cons_succ, List.set_cons_zero]))
              (apply q_val rfl; (intro W CW; go_simp; rfl); (dsimp only [Act.put]; simp only [List.setIfInBounds_toArray, List.set_cons_succ, List.set_cons_zero]))
              (apply q_call rfl (by intro W CW; go_simp; exact ⟨rfl, rfl⟩) (by intro W CW; exact quiet_call (HPR.out _ _ _ W CW.sub hO2 RV1.out) CW)); (dsimp only [Act.put]; simp only [List.setIfInBounds_toArray, List.set_cons_succ, List.set_cons_zero])
              (apply q_val rfl; (intro W CW; go_simp; rfl); (dsimp only [Act.put]; simp only [List.setIfInBounds_toArray, List.set_cons_succ, List.set_cons_zero]))
              (apply q_val rfl; (intro W CW; go_simp; rfl); (dsimp only [Act.put]; simp only [List.setIfInBounds_toArray, List.set_cons_succ, List.set_cons_zero]))
              (apply q_val rfl; (intro W CW; go_simp; rfl); (dsimp only [Act.put]; simp only [List.setIfInBounds_toArray, List.set_cons_succ, List.set_cons_zero]))
              (apply q_val rfl; (intro W CW; go_simp; rfl); (dsimp only [Act.put]; simp only [List.setIfInBounds_toArray, List.set_cons_succ, List.set_cons_zero]))
              refine wpQuiet_nil fun w8 C8 => ?_
              go_wp2_with (first | ((with_reducible refine gLd 27 ?_); refine ev_loadS (ty := 27) ((snapC s.site (.slice A2 s.cars.length c2) (.slice A3 s.wants.length c3)).toList) rfl rfl rfl Try.underlying27 rfl (by kernel_rfl) rfl ?_) | ((with_reducible refine gSt 34 ?_); refine ev_storeW (t := 34) (ty := 34) (g := g2) (vs := claimC false 0 (.slice none 0 0)) rfl rfl rfl rfl (by kernel_rfl) (by rfl) (by rw [List.all_toArray]; rfl) ?_; intro w10 C10; clear C9) | (go_at_call 41; (refine (HCV.out _ _ _ _ C8.sub hO2 RV2.out).mono ?_); rintro e w9 ⟨rfl, hb⟩; have C9 := C8.keep hb; clear hb C8))
              exact bodyPost_ret (results_cell_row2 rfl _ _ g2 34 _ (0, 0) _ rfl heap_ctx Try.underlying34 rfl (by kernel_rfl)) rfl (checkNo O2 10 HX4.out rfl hO2 C10)
        · have HX4 := Lib.hid (HX3.out.trans (if_pos (.inl hpn)))
          have hp1 : (P == N) = false := by simpa using hpn
          have hp2 : (P != N) = true := by simpa using hpn
          clear HX3 hpn
          go_enter Try.func15, Try.ntmps15
          go_wp2_with (first | ((with_reducible refine gBox 27 ?_); refine ev_boxT (t := 27) rfl rfl (by go_simp; rfl) ?_; intro g1 w1 C1; clear C0) | ((with_reducible refine gAl 34 ?_); refine ev_alloc (t := 34) rfl rfl (by go_simp; rfl) ?_; first | (have _t := C1; intro g2 w2 C2; clear C1) | (intro g5 w5 C5; clear C4)) | ((with_reducible refine gLd 27 ?_); refine ev_loadS (ty := 27) ((snapC s.site (.slice A2 s.cars.length c2) (.slice A3 s.wants.length c3)).toList) rfl rfl rfl Try.underlying27 rfl (by kernel_rfl) rfl ?_) | ((with_reducible refine gSt 34 ?_); refine ev_storeW (t := 34) (ty := 34) (g := g5) (vs := claimC bb N (.slice B1 s.cars.length d1)) rfl rfl rfl rfl (by kernel_rfl) (by rfl) (by rw [List.all_toArray]; rfl) ?_; intro w6 C6; clear C5) | (go_at_call 37; refine (HR.out _ C2.sub).mono ?_; rintro e w3 ⟨rfl, hb⟩; have C3 := C2.keep hb; clear hb C2) | (go_at_call 38; (refine (HD.out _ C3.sub).mono ?_); rintro e w4 ⟨v1, v2, O2, rfl, hO2, rv1, rv2, D⟩; have C4' := C3.call D; simp only [List.nil_append] at C4'; have C4 : Ctx w none O O2 [Cells g2 34 #[.bool false, .int .i64 0, .slice none 0 0], Cells g1 27 (snapC s.site (.slice A2 s.cars.length c2) (.slice A3 s.wants.length c3))] w4 := C4'; clear C3 C4' D; rw [HN.out, HBB.out]; obtain ⟨B1, d1, rfl, hd1⟩ := rv1.form; obtain ⟨B2, d2, rfl, hd2⟩ := rv2.form; have HRL := Lib.hid (rows_len rv1); rw [HQL.out] at rv1 ⊢; have RV1 := Lib.hid rv1; have RV2 := Lib.hid rv2; clear rv1 rv2) | (go_at_call 39; (refine (HFE.out _ _ _ _ C6.sub hO2 HRL.out RV1.out).mono ?_); rintro e w7 ⟨rfl, hb⟩; have C7 := C6.keep hb; clear hb C6))
          refine ev_quietAll (by kernel_rfl) (by kernel_rfl) ?_
          clear C7
          (refine q_loadS (ty := 27) ((snapC s.site (.slice A2 s.cars.length c2) (.slice A3 s.wants.length c3)).toList) rfl rfl rfl Try.underlying27 rfl (by kernel_rfl) rfl ?_); (dsimp only [Act.put]; simp only [List.setIfInBounds_toArray, List.set_cons_succ, List.set_cons_zero])
          (apply q_val rfl; (intro W CW; go_simp; rfl); (dsimp only [Act.put]; simp only [List.setIfInBounds_toArray, List.set_cons_succ, List.set_cons_zero]))
          (apply q_val rfl; (intro W CW; go_simp; rfl); (dsimp only [Act.put]; simp only [List.setIfInBounds_toArray, List.set_cons_succ, List.set_cons_zero]))
          (apply q_call rfl (by intro W CW; go_simp; exact ⟨rfl, rfl⟩) (by intro W CW; exact quiet_call (HPR.out _ _ _ W CW.sub hO2 RV1.out) CW)); (dsimp only [Act.put]; simp only [List.setIfInBounds_toArray, List.set_cons_succ, List.set_cons_zero])
          (apply q_val rfl; (intro W CW; go_simp; rfl); (dsimp only [Act.put]; simp only [List.setIfInBounds_toArray, List.set_cons_succ, List.set_cons_zero]))
          (apply q_val rfl; (intro W CW; go_simp; rfl); (dsimp only [Act.put]; simp only [List.setIfInBounds_toArray, List.set_cons_succ, List.set_cons_zero]))
          (apply q_val rfl; (intro W CW; go_simp; rfl); (dsimp only [Act.put]; simp only [List.setIfInBounds_toArray, List.set_cons_succ, List.set_cons_zero]))
          (apply q_val rfl; (intro W CW; go_simp; rfl); (dsimp only [Act.put]; simp only [List.setIfInBounds_toArray, List.set_cons_succ, List.set_cons_zero]))
          refine wpQuiet_nil fun w8 C8 => ?_
          go_wp2_with (first | ((with_reducible refine gSt 34 ?_); refine ev_storeW (t := 34) (ty := 34) (g := g2) (vs := claimC false 0 (.slice none 0 0)) rfl rfl rfl rfl (by kernel_rfl) (by rfl) (by rw [List.all_toArray]; rfl) ?_; intro w9 C9; clear C8))
          exact bodyPost_ret (results_cell_row2 rfl _ _ g2 34 _ (0, 0) _ rfl heap_ctx Try.underlying34 rfl (by kernel_rfl)) rfl (checkNo O2 10 HX4.out rfl hO2 C9)
end Go.Proofs.Ytomfgggomjbnfaa
