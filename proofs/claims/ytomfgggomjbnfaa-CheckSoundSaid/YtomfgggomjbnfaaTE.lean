/- The walks of the document's answer for waits and costs. -/
import Derived.Test.YtomfgggomjbnfaaTD
import Derived.Outline
set_option linter.unusedVariables false
set_option linter.unusedSimpArgs false
namespace Go.Proofs.Ytomfgggomjbnfaa
open Go.RowKit Go.Sep
attribute [local go_sem] cell_ctx frozen_ctx cell_fz arr_at
def wL (s : Snap) : Drv → List Int → List Int → List Int
  | _, ws, [] => ws
  | d, ws, w :: l => wL s (d.to s.site (flr s w)) (ws.set w.toNat (d.to s.site (flr s w)).came) l
theorem wL_snoc (s : Snap) (l : List Int) (w : Int) : ∀ (d : Drv) (ws : List Int), wL s d ws (l ++ [w]) = (wL s d ws l).set w.toNat (runL s d (l ++ [w])).came := by
  induction l with
  | nil => intro d ws; rfl
  | cons x l ih => intro d ws; exact ih _ _
theorem wL_len (s : Snap) (l : List Int) : ∀ (d : Drv) (ws : List Int), (wL s d ws l).length = ws.length := by
  induction l with
  | nil => intro d ws; rfl
  | cons x l ih => intro d ws; rw [wL, ih]; simp
def wP (s : Snap) : List Drv → List (List Int) → List Int → List Int
  | d :: ds, l :: p, ws => wP s ds p (wL s d ws l)
  | _, _, ws => ws
theorem wP_len (s : Snap) : ∀ (ds : List Drv) (p : List (List Int)) (ws : List Int), (wP s ds p ws).length = ws.length
  | [], [], _ => rfl
  | [], _ :: _, _ => rfl
  | _ :: _, [], _ => rfl
  | d :: ds, l :: p, ws => by rw [wP, wP_len s ds p, wL_len]
theorem wP_snoc (s : Snap) (d : Drv) (l : List Int) : ∀ (ds : List Drv) (p : List (List Int)) (ws : List Int), ds.length = p.length → wP s (ds ++ [d]) (p ++ [l]) ws = wL s d (wP s ds p ws) l
  | [], [], ws, _ => rfl
  | [], _ :: _, _, h => by simp at h
  | _ :: _, [], _, h => by simp at h
  | a :: ds, b :: p, ws, h => by
    show wP s (ds ++ [d]) (p ++ [l]) (wL s a ws b) = wL s d (wP s ds p (wL s a ws b)) l
    exact wP_snoc s d l ds p _ (by simpa using h)
def wk (s : Snap) (p : List (List Int)) (k : Nat) : List Int := wP s ((s.cars.take k).map Drv.of) (p.take k) (List.replicate s.wants.length 0)
theorem wk_len (s : Snap) (p : List (List Int)) (k : Nat) : (wk s p k).length = s.wants.length := by unfold wk; rw [wP_len]; simp
theorem wk_next (s : Snap) (p : List (List Int)) (hp : p.length = s.cars.length) (k : Nat) (hk : k < s.cars.length) : wk s p (k + 1) = wL s (Drv.of s.cars[k]) (wk s p k) (p[k]'(by omega)) := by
  unfold wk
  rw [List.take_succ_eq_append_getElem hk, List.take_succ_eq_append_getElem (by omega : k < p.length), List.map_append]
  exact wP_snoc s _ _ _ _ _ (by simp; omega)
def costR (s : Snap) (p : List (List Int)) : Int := (wk s p s.cars.length).sum
theorem rawI_setC (xs : List Int) (i : Nat) (b : Int) : (rawI xs).setIfInBounds i (.int .i64 b) = rawI (xs.set i b) := rawI_set xs i b
set_option maxRecDepth 100000 in
set_option maxHeartbeats 20000000 in
theorem refWaits (s : Snap) (p : List (List Int)) (h : Feas s p) (A4 : Option Addr) (c4 : Nat) (A2 A3 : Option Addr) (c2 c3 : Nat) (O : PH) (w : World) (hO : PLe O (hp w)) (r2 : Rd kReady O (.slice A2 s.cars.length c2) s.cars) (r3 : Rd kWant O (.slice A3 s.wants.length c3) s.wants) (r4 : Rd (kSl kInt) O (.slice A4 p.length c4) p) :
    Calls Try.prog 43 #[snapV s.site (.slice A2 s.cars.length c2) (.slice A3 s.wants.length c3), .slice A4 p.length c4] w fun e w' => ∃ g, e = .returned (.slice (some ⟨g, 0, none⟩) s.wants.length s.wants.length) ∧ Ctx w none O O [Cells g 3 (rawI (wk s p s.cars.length))] w' := by
  have C0 := Ctx.start hO
  obtain ⟨hs, -, hc1, hc8, hw8, hrd, -, -⟩ := right_cars h.right
  have HS := Lib.hid hs
  have HRD := Lib.hid hrd
  have R2 := Lib.hid r2
  have R3 := Lib.hid r3
  have R4 := Lib.hid r4
  have hpl := h.len
  have HP := Lib.hid hpl
  have HF := Lib.hid h
  rw [hpl]
  clear r2 r3 r4 hO h hpl hrd hs
  go_enter Try.func43, Try.ntmps43
  go_wp2_with (first | ((with_reducible refine gBox 27 ?_); refine ev_boxT (t := 27) rfl rfl (by go_simp; rfl) ?_; intro g1 w1 C1; clear C0) | ((with_reducible refine gMk 64 ?_); (refine ev_makeC (t := 64) (s.wants.length) _ _ rfl rfl Try.underlying64 info3c rfl rfl (by omega) (by omega) ?_); intro g3 w3 C3; rw [rawI_made] at C3; clear C1))
  go_loopw [6, 7, 12, 13, 14, 15, 16, 17, 18, 19, 20, 21, 22, 23, 24, 25, 26, 27, 28, 29, 30, 31, 32, 33, 34, 35, 36, 37, 38, 39, 40, 41, 42, 43] (fun t6 _ _ _ _ _ _ _ _ _ _ _ _ _ _ _ _ _ _ _ _ _ _ _ _ _ _ _ _ _ _ _ _ _ wr => ∃ k : Nat, k ≤ s.cars.length ∧ t6 = .int .i64 k ∧ Ctx w none O O [Cells g3 3 (rawI (wk s p k)), Cells g1 27 (snapC s.site (.slice A2 s.cars.length c2) (.slice A3 s.wants.length c3))] wr) (fun t6 _ _ _ _ _ _ _ _ _ _ _ _ _ _ _ _ _ _ _ _ _ _ _ _ _ _ _ _ _ _ _ _ _ _ => s.cars.length - (intOf t6).toNat)

  case atStart => exact ⟨0, Nat.zero_le _, rfl, C3⟩
  case round =>
    clear C3
    obtain ⟨k, hk, rfl, C⟩ := hrel
    by_cases hlt : k < s.cars.length
    · have hkp : k < p.length := by rw [HP.out]; exact hlt
      obtain ⟨b5, o5, A5, c5, rfl, q5, r5, hc5⟩ := Rd_fzS R4.out k hkp
      have hmy := HF.out.may k hkp
      have hl128 : (p[k]).length ≤ 128 := by
        have := HF.out.few
        have : (p[k]).length ≤ p.flatten.length := (List.sublist_flatten_of_mem (List.getElem_mem hkp)).length_le
        omega
      have hnx := wk_next s p HP.out k hlt
      obtain ⟨l, hlx⟩ : ∃ l, p[k] = l := ⟨_, rfl⟩
      rw [hlx] at q5 r5 hc5 hl128 hmy hnx
      have hw : ∀ w, w ∈ l → 0 ≤ w ∧ w < s.wants.length := fun w hw => ⟨(hmy w hw).1, (hmy w hw).2.1⟩
      have HT := Lib.hid fun (j : Nat) (hj : j < l.length) W (h : PLe O (Go.Sep.hp W)) => refTime s HS.out k hlt hc8 (HRD.out _ (List.getElem_mem hlt)).2 l (by omega) hw hw8 j hj A5 c5 A2 A3 c2 c3 O W h R2.out R3.out r5
      have HNX := Lib.hid hnx
      have R5 := Lib.hid r5
      have HW := Lib.hid hw
      clear r5 hlx hmy hw hnx
      go_wp2_with fail
      go_loopw [7, 18, 19, 20, 21, 22, 23, 24, 25, 26, 27, 28, 29, 30, 31, 32, 33, 34, 35, 36, 37, 38, 39, 40, 41, 42, 43] (fun t7 _ _ _ _ _ _ _ _ _ _ _ _ _ _ _ _ _ _ _ _ _ _ _ _ _ _ wr => ∃ j : Nat, j ≤ l.length ∧ t7 = .int .i64 j ∧ Ctx w none O O [Cells g3 3 (rawI (wL s (Drv.of s.cars[k]) (wk s p k) (l.take j))), Cells g1 27 (snapC s.site (.slice A2 s.cars.length c2) (.slice A3 s.wants.length c3))] wr) (fun t7 _ _ _ _ _ _ _ _ _ _ _ _ _ _ _ _ _ _ _ _ _ _ _ _ _ _ _ => l.length - (intOf t7).toNat)

      case atStart => exact ⟨0, Nat.zero_le _, rfl, C⟩
      case round =>
        clear C
        obtain ⟨j, hj, rfl, C⟩ := hrel
        by_cases hlt2 : j < l.length
        · have HTJ := Lib.hid (HT.out j hlt2)
          obtain ⟨b6, o6, rfl, q6⟩ := fzInt R5.out j hlt2
          have hwj := HW.out l[j] (List.getElem_mem _)
          have hsn := wL_snoc s (l.take j) l[j] (Drv.of s.cars[k]) (wk s p k)
          rw [← List.take_succ_eq_append_getElem hlt2] at hsn
          obtain ⟨n, hn⟩ := Int.eq_ofNat_of_zero_le hwj.1
          rw [hn] at q6 hsn hwj
          rw [Int.toNat_natCast] at hsn
          have hnw : n < s.wants.length := by omega
          obtain ⟨T, hT⟩ : ∃ T, (runL s (Drv.of s.cars[k]) (l.take (j + 1))).came = T := ⟨_, rfl⟩
          rw [hT] at hsn HTJ
          have HSN := Lib.hid hsn
          have hln : (wL s (Drv.of s.cars[k]) (wk s p k) (l.take j)).length = s.wants.length := by rw [wL_len, wk_len]
          have hln2 : n < (wL s (Drv.of s.cars[k]) (wk s p k) (l.take j)).length := by omega
          have z0 := rawI_at n hln2
          clear hn hsn hT hwj hln
          go_wp2_with fail
          refine ev_quiet 17 (by kernel_rfl) (by kernel_rfl) ?_
          clear C
          simp only [List.take_succ_cons, List.take_zero, List.drop_succ_cons, List.drop_zero]
          (apply q_val rfl; (intro W CW; go_simp; rfl); (dsimp only [Act.put]; simp only [List.setIfInBounds_toArray, List.set_cons_succ, List.set_cons_zero]))
          (apply q_val rfl; (intro W CW; go_simp; rfl); (dsimp only [Act.put]; simp only [List.setIfInBounds_toArray, List.set_cons_succ, List.set_cons_zero]))
          (apply q_val rfl; (intro W CW; go_simp; rfl); (dsimp only [Act.put]; simp only [List.setIfInBounds_toArray, List.set_cons_succ, List.set_cons_zero]))
          (apply q_val rfl; (intro W CW; go_simp; rfl); (dsimp only [Act.put]; simp only [List.setIfInBounds_toArray, List.set_cons_succ, List.set_cons_zero]))
          (apply q_val rfl; (intro W CW; go_simp; rfl); (dsimp only [Act.put]; simp only [List.setIfInBounds_toArray, List.set_cons_succ, List.set_cons_zero]))
          (apply q_val rfl; (intro W CW; go_simp; rfl); (dsimp only [Act.put]; simp only [List.setIfInBounds_toArray, List.set_cons_succ, List.set_cons_zero]))
          (apply q_val rfl; (intro W CW; go_simp; rfl); (dsimp only [Act.put]; simp only [List.setIfInBounds_toArray, List.set_cons_succ, List.set_cons_zero]))
          (apply q_val rfl; (intro W CW; go_simp; rfl); (dsimp only [Act.put]; simp only [List.setIfInBounds_toArray, List.set_cons_succ, List.set_cons_zero]))
          (refine q_loadS (ty := 27) ((snapC s.site (.slice A2 s.cars.length c2) (.slice A3 s.wants.length c3)).toList) rfl rfl rfl Try.underlying27 rfl (by kernel_rfl) rfl ?_); (dsimp only [Act.put]; simp only [List.setIfInBounds_toArray, List.set_cons_succ, List.set_cons_zero])
          (apply q_val rfl; (intro W CW; go_simp; rfl); (dsimp only [Act.put]; simp only [List.setIfInBounds_toArray, List.set_cons_succ, List.set_cons_zero]))
          (apply q_val rfl; (intro W CW; go_simp; rfl); (dsimp only [Act.put]; simp only [List.setIfInBounds_toArray, List.set_cons_succ, List.set_cons_zero]))
          (apply q_val rfl; (intro W CW; go_simp; rfl); (dsimp only [Act.put]; simp only [List.setIfInBounds_toArray, List.set_cons_succ, List.set_cons_zero]))
          (apply q_val rfl; (intro W CW; go_simp; rfl); (dsimp only [Act.put]; simp only [List.setIfInBounds_toArray, List.set_cons_succ, List.set_cons_zero]))
          (apply q_val rfl; (intro W CW; go_simp; rfl); (dsimp only [Act.put]; simp only [List.setIfInBounds_toArray, List.set_cons_succ, List.set_cons_zero]))
          (apply q_val rfl; (intro W CW; go_simp; rfl); (dsimp only [Act.put]; simp only [List.setIfInBounds_toArray, List.set_cons_succ, List.set_cons_zero]))
          (apply q_call rfl (by intro W CW; go_simp; exact ⟨rfl, rfl⟩) (by intro W CW; exact quiet_call (HTJ.out W CW.sub) CW)); (dsimp only [Act.put]; simp only [List.setIfInBounds_toArray, List.set_cons_succ, List.set_cons_zero])
          (apply q_val rfl; (intro W CW; go_simp; rfl); (dsimp only [Act.put]; simp only [List.setIfInBounds_toArray, List.set_cons_succ, List.set_cons_zero]))
          refine wpQuiet_nil fun w8 C8 => ?_
          go_wp2
          go_roundw
          case rel =>
            refine ⟨j + 1, by omega, by go_num, ?_⟩
            have := Ctx.setCell (C := C8) (g := g3) n (Value.int .i64 T)
            rw [rawI_set, ← HSN.out] at this
            exact this
          case measure => simp [intOf]; omega
        · rw [List.take_of_length_le (by omega)] at C
          go_wp2
          go_roundw
          case rel => exact ⟨k + 1, by omega, by go_num, by rw [HNX.out]; exact C⟩
          case measure => simp [intOf]; omega
    · obtain rfl : k = s.cars.length := by omega
      go_wp2
      go_ret
      exact ⟨g3, rfl, C.drop 1⟩
theorem drvI_came (s : Snap) (hs : siteB s.site = true) (r : Ready) (hr : r.Ok) (l : List Int) (hl : l.length ≤ 200) : -1 ≤ (runL s (Drv.of r) l).came ∧ (runL s (Drv.of r) l).came ≤ 15000000 := by
  have := runL_fit s hs l 0 _ (of_fit hr) (by omega)
  obtain ⟨h1, h2, _⟩ := this
  omega
/-- Each number of the waits is small. -/
def Small (ws : List Int) : Prop := ∀ x, x ∈ ws → -1 ≤ x ∧ x ≤ 15000000
theorem small_set {ws : List Int} (h : Small ws) (i : Nat) (x : Int) (hx : -1 ≤ x ∧ x ≤ 15000000) : Small (ws.set i x) := by
  intro y hy
  rcases mem_set hy with rfl | ⟨j, _, hj⟩
  · exact hx
  · exact h y (List.mem_of_getElem? hj)
theorem wL_small (s : Snap) (hs : siteB s.site = true) (l : List Int) : ∀ (n : Nat) (d : Drv) (ws : List Int), d.FitN n → n + l.length ≤ 200 → Small ws → Small (wL s d ws l) := by
  induction l with
  | nil => intro n d ws _ _ h; exact h
  | cons w l ih =>
    intro n d ws hf hn h
    simp only [List.length_cons] at hn
    have hf' := hf.to hs (by omega) (flr s w)
    refine ih (n + 1) _ _ hf' (by omega) (small_set h _ _ ?_)
    obtain ⟨h1, h2, _⟩ := hf'
    omega
theorem wk_small (s : Snap) (p : List (List Int)) (h : Feas s p) : ∀ k, k ≤ s.cars.length → Small (wk s p k)
  | 0, _ => by
    intro x hx
    have : x = 0 := by
      unfold wk at hx
      simp [wP] at hx
      exact hx.2
    omega
  | k + 1, hk => by
    obtain ⟨hs, -, hc1, hc8, hw8, hrd, -, -⟩ := right_cars h.right
    rw [wk_next s p h.len k (by omega)]
    have hkp : k < p.length := by rw [h.len]; omega
    have hl128 : (p[k]).length ≤ 128 := by
      have := h.few
      have : (p[k]).length ≤ p.flatten.length := (List.sublist_flatten_of_mem (List.getElem_mem hkp)).length_le
      omega
    exact wL_small s hs _ 0 _ _ (of_fit (hrd _ (List.getElem_mem _)).2) (by omega) (wk_small s p h k (by omega))
theorem small_sum : ∀ (ws : List Int), Small ws → -(ws.length : Int) ≤ ws.sum ∧ ws.sum ≤ 15000000 * ws.length
  | [], _ => by simp
  | x :: ws, h => by
    have h1 := h x (by simp)
    have h2 := small_sum ws fun y hy => h y (by simp [hy])
    simp only [List.sum_cons, List.length_cons]
    omega
theorem sum_snoc (ws : List Int) (i : Nat) (hi : i < ws.length) : (ws.take (i + 1)).sum = (ws.take i).sum + ws[i] := by
  rw [List.take_succ_eq_append_getElem hi, List.sum_append]; simp
set_option maxRecDepth 100000 in
set_option maxHeartbeats 20000000 in
theorem refCost (s : Snap) (p : List (List Int)) (h : Feas s p) (A4 : Option Addr) (c4 : Nat) (A2 A3 : Option Addr) (c2 c3 : Nat) (O : PH) (w : World) (hO : PLe O (hp w)) (r2 : Rd kReady O (.slice A2 s.cars.length c2) s.cars) (r3 : Rd kWant O (.slice A3 s.wants.length c3) s.wants) (r4 : Rd (kSl kInt) O (.slice A4 p.length c4) p) :
    Calls Try.prog 17 #[snapV s.site (.slice A2 s.cars.length c2) (.slice A3 s.wants.length c3), .slice A4 p.length c4] w fun e w' => e = .returned (.int .i64 (costR s p)) ∧ Below w.heap.size w w' := by
  have C0 := Ctx.start hO
  have HWT := Lib.hid fun W (h' : PLe O (Go.Sep.hp W)) => refWaits s p h A4 c4 A2 A3 c2 c3 O W h' r2 r3 r4
  have hw8 := (right_cars h.right).2.2.2.2.1
  have hsm := wk_small s p h s.cars.length (Nat.le_refl _)
  have hwl := wk_len s p s.cars.length
  unfold costR
  obtain ⟨ws, hws⟩ : ∃ ws, wk s p s.cars.length = ws := ⟨_, rfl⟩
  rw [hws] at HWT hsm hwl
  rw [hws]
  have HSM := Lib.hid hsm
  have HWL := Lib.hid hwl
  clear r2 r3 r4 hO h hsm hwl hws
  go_enter Try.func17, Try.ntmps17
  go_wp2_with (first | ((with_reducible refine gBox 27 ?_); refine ev_boxT (t := 27) rfl rfl (by go_simp; rfl) ?_; intro g1 w1 C1; clear C0) | ((with_reducible refine gLd 27 ?_); refine ev_loadS (ty := 27) ((snapC s.site (.slice A2 s.cars.length c2) (.slice A3 s.wants.length c3)).toList) rfl rfl rfl Try.underlying27 rfl (by kernel_rfl) rfl ?_) | (go_at_call 43; (refine (HWT.out _ C1.sub).mono ?_); rintro e w3 ⟨g3, rfl, D⟩; have C3 := C1.call D; simp only [List.cons_append, List.nil_append] at C3; clear C1 D))
  go_loopw [6, 7, 11, 12, 13, 14, 15, 16, 17, 18, 19, 20, 21, 22] (fun t6 t7 _ _ _ _ _ _ _ _ _ _ _ _ wr => ∃ i : Nat, i ≤ s.wants.length ∧ t7 = .int .i64 i ∧ t6 = .int .i64 (ws.take i).sum ∧ Ctx w none O O [Cells g3 3 (rawI ws), Cells g1 27 (snapC s.site (.slice A2 s.cars.length c2) (.slice A3 s.wants.length c3))] wr) (fun _ t7 _ _ _ _ _ _ _ _ _ _ _ _ _ => s.wants.length - (intOf t7).toNat)

  case atStart => exact ⟨0, Nat.zero_le _, rfl, rfl, C3⟩
  case round =>
    clear C3
    obtain ⟨i, hi, rfl, rfl, C⟩ := hrel
    have hb := small_sum (ws.take i) fun y hy => HSM.out y (List.mem_of_mem_take hy)
    have hlen : (ws.take i).length = i := by rw [List.length_take, HWL.out]; omega
    rw [hlen] at hb
    by_cases hlt : i < s.wants.length
    · have hiw : i < ws.length := by rw [HWL.out]; exact hlt
      have hsn := sum_snoc ws i hiw
      have z0 := rawI_at i hiw
      have hx := HSM.out _ (List.getElem_mem hiw)
      obtain ⟨S, hS⟩ : ∃ S, (ws.take i).sum = S := ⟨_, rfl⟩
      obtain ⟨x, hx'⟩ : ∃ x, ws[i] = x := ⟨_, rfl⟩
      rw [hS] at hsn hb ⊢
      rw [hx'] at hsn hx z0
      have HSN := Lib.hid hsn
      obtain ⟨y1, y2⟩ := hb
      obtain ⟨y3, y4⟩ := hx
      clear hsn hS hx' hlen
      go_wp2
      go_roundw
      case rel => exact ⟨i + 1, by omega, by go_num, by rw [HSN.out], C⟩
      case measure => simp [intOf]; omega
    · rw [List.take_of_length_le (by rw [HWL.out]; omega)]
      clear hb hlen
      go_wp2
      go_ret
      exact ⟨rfl, C.bel⟩
end Go.Proofs.Ytomfgggomjbnfaa
