/- The walk of a node's least cost. -/
import Derived.Test.YtomfgggomjbnfaaP
import Derived.Outline
set_option linter.unusedVariables false
set_option linter.unusedSimpArgs false
namespace Go.Proofs.Ytomfgggomjbnfaa
open Go.RowKit Go.Sep
attribute [local go_sem] cell_ctx frozen_ctx
theorem Rd_atO {α : Type} {d : Kind α} {O : PH} {v : Value} {xs : List α} (h : Rd d O v xs) (i : Nat) (hi : i < xs.length) :
    ∃ b off c cs, v = .slice (some ⟨b, off, none⟩) xs.length c ∧ d.rep O xs[i] cs ∧ ∀ (W : World), PLe O (hp W) → ∀ k u, cs[k]? = some u → W.cell? ⟨b, off + i * d.sz + k, none⟩ = some u := by
  obtain ⟨A, c, e, h1, h2, h3⟩ := h
  obtain ⟨b, off, cs, blk, ha, hb, hr, hc⟩ := h3 i _ (List.getElem?_eq_getElem hi)
  subst ha
  exact ⟨b, off, c, cs, e, hr, fun W hs k u hu => (cell_hp (hs _ _ hb)).trans (hc k u hu)⟩
abbrev LIM : Int := 1099511627776
/-- The least time of a want, over m cars from one on. -/
def lw (s : Site) (x : Want) (drs : List Drv) (car : Nat) : Nat → Int
  | 0 => 1099511627776
  | m + 1 => if mayB x ((car + m : Nat) : Int) then min (lw s x drs car m) ((drs.getD (car + m) ⟨0, 0, 0, 0⟩).to s x.floor).came else lw s x drs car m
/-- The least cost, the first m wants that are left being reckoned. -/
def lc (s : Snap) (drs : List Drv) (car : Nat) (left : List Nat) : Nat → Int
  | 0 => sumTot drs
  | m + 1 => min (lc s drs car left m + lw s.site (s.wants.getD (left.getD m 0) ⟨0, 0⟩) drs car (drs.length - car)) 1099511627776
theorem to_came {s : Site} (hs : siteB s = true) {d : Drv} (hd : d.Fit) (f : Int) : 0 ≤ (d.to s f).came ∧ (d.to s f).came ≤ 1000000066000 := by
  obtain ⟨⟨d1, d2⟩, ⟨d3, d4⟩, d5, d6⟩ := hd
  have := travel_bd hs d.fl f
  unfold Drv.to
  split
  · dsimp only; omega
  · dsimp only; omega
theorem lw_bd {s : Site} (hs : siteB s = true) (x : Want) {drs : List Drv} (hd : ∀ d, d ∈ drs → d.Fit) (car : Nat) : ∀ m, car + m ≤ drs.length → 0 ≤ lw s x drs car m ∧ lw s x drs car m ≤ 1099511627776
  | 0, _ => by simp [lw]
  | m + 1, h => by
    have ih := lw_bd hs x hd car m (by omega)
    have hl : car + m < drs.length := by omega
    have := to_came hs (hd _ (List.getElem_mem hl)) x.floor
    simp only [lw, List.getD_eq_getElem?_getD, List.getElem?_eq_getElem hl, Option.getD_some]
    split
    · omega
    · exact ih
theorem lc_bd {s : Snap} (hs : siteB s.site = true) {drs : List Drv} (hd : ∀ d, d ∈ drs → d.Fit) (h8 : drs.length ≤ 8) (car : Nat) (hc : car ≤ drs.length) (left : List Nat) : ∀ m, 0 ≤ lc s drs car left m ∧ lc s drs car left m ≤ 8000000000000
  | 0 => by have := sumTot_bd drs hd; simp only [lc]; omega
  | m + 1 => by
    have ih := lc_bd hs hd h8 car hc left m
    have := lw_bd hs (s.wants.getD (left.getD m 0) ⟨0, 0⟩) hd car (drs.length - car) (by omega)
    simp only [lc]
    omega
theorem minIf (a b : Int) : (if b < a then b else a) = min a b := by omega
set_option maxRecDepth 100000 in
set_option maxHeartbeats 1000000 in
theorem placeLeast (s : Snap) (hs : siteB s.site = true) (hw : ∀ x, x ∈ s.wants → 0 ≤ x.cars ∧ x.cars < 256) (car : Nat) (drs : List Drv) (hd : ∀ d, d ∈ drs → d.Fit) (h8 : drs.length ≤ 8) (hcar : car ≤ drs.length) (left : List Nat) (hl : ∀ k, k ∈ left → k < s.wants.length)
    (A1 A2 A3 : Option Addr) (c1 c2 c3 : Nat) (v4 : Value) (h4 : v4.oneCell' = true) (O : PH) (w : World) (hO : PLe O (hp w)) (r1 : Rd kDrv O (.slice A1 drs.length c1) drs) (r2 : Rd kNat O (.slice A2 left.length c2) left) (r3 : Rd kWant O (.slice A3 s.wants.length c3) s.wants) :
    Calls Try.prog 107 #[.agg #[.int .i64 car, .slice A1 drs.length c1, .slice A2 left.length c2], snapV s.site v4 (.slice A3 s.wants.length c3)] w fun e w' => e = .returned (.int .i64 (lc s drs car left left.length)) ∧ Below w.heap.size w w' := by
  have C0 := Ctx.start hO
  have R1 := Lib.hid r1
  have R2 := Lib.hid r2
  have R3 := Lib.hid r3
  have l2 := r2.len
  have HD := Lib.hid hd
  have HW := Lib.hid hw
  have HL := Lib.hid hl
  have HS := Lib.hid hs
  have h0 := Lib.hid (lc_bd hs hd h8 car hcar left)
  have HC := Lib.hid fun O' w' (h : PLe O' (hp w')) (r : Rd kDrv O' (.slice A1 drs.length c1) drs) => placeCost car drs hd h8 A1 c1 (.slice A2 left.length c2) rfl O' w' h r
  clear r1 r2 r3 hd hw hl hs hO
  go_enter Try.func107, Try.ntmps107
  go_wp2_with (first | ((with_reducible refine gate ?_); first | (refine ev_boxT (t := 143) rfl rfl (by go_simp; rfl) ?_; intro g1 w1 C1) | (refine ev_boxT (t := 27) rfl rfl (by go_simp; rfl) ?_; intro g2 w2 C2; clear C1)) | (go_at_call 79; refine (HC.out O _ C2.sub R1.out).mono ?_; rintro e w3 ⟨rfl, hb3⟩; have C3 := C2.keep hb3; clear hb3 C2))
  go_loopw [5, 7, 8, 9, 15, 16, 17, 18, 19, 20, 21, 22, 23, 24, 25, 26, 27, 28, 29, 30, 31, 32, 33, 34, 35, 36, 37, 38, 39, 40, 41, 42, 43, 44, 45, 46, 47, 48, 49, 50, 51, 52, 53] (fun t5 _ _ _ t15 _ _ _ _ _ _ _ _ _ _ _ _ _ _ _ _ _ _ _ _ _ _ _ _ _ _ _ _ _ _ _ _ _ _ _ _ _ _ wr => ∃ k : Nat, k ≤ left.length ∧ t15 = .int .i64 k ∧ t5 = .int .i64 (lc s drs car left k) ∧ Ctx w none O O [Cells g2 27 (snapC s.site v4 (.slice A3 s.wants.length c3)), Cells g1 143 #[.int .i64 car, .slice A1 drs.length c1, .slice A2 left.length c2]] wr) (fun _ _ _ _ t15 _ _ _ _ _ _ _ _ _ _ _ _ _ _ _ _ _ _ _ _ _ _ _ _ _ _ _ _ _ _ _ _ _ _ _ _ _ _ _ => left.length - (intOf t15).toNat)
  case atStart => exact ⟨0, Nat.zero_le _, rfl, rfl, C3⟩
  case round =>
    obtain ⟨k, hk, rfl, rfl, C⟩ := hrel
    by_cases hlt : k < left.length
    · obtain ⟨b2, o2, c2', cs2, e2, rfl, hc2⟩ := Rd_atO R2.out k hlt
      cases e2
      have q0 := hc2 _ C.sub 0 _ rfl
      simp only [show kNat.sz = 1 from rfl, Nat.mul_one, Nat.add_zero] at q0
      have hlw : left[k] < s.wants.length := HL.out _ (List.getElem_mem hlt)
      obtain ⟨n, hn⟩ : ∃ n, left[k] = n := ⟨_, rfl⟩
      have Hn := Lib.hid hn
      rw [hn] at q0 hlw
      obtain ⟨b3, o3, c3', cs3, e3, rfl, hc3⟩ := Rd_atO R3.out n hlw
      cases e3
      have HC3 := Lib.hid hc3
      have hb0 := h0.out k
      obtain ⟨N, hN⟩ : ∃ N, lc s drs car left k = N := ⟨_, rfl⟩
      rw [hN] at hb0 ⊢
      have HN := Lib.hid hN
      obtain ⟨y1, y2⟩ := hb0
      clear hc2 hc3 hn hN
      go_wp2_with fail
      go_loopw [8, 9, 21, 22, 23, 24, 25, 26, 27, 28, 29, 30, 31, 32, 33, 34, 35, 36, 37, 38, 39, 40, 41, 42, 43, 44, 45, 46, 47, 48] (fun t8 t9 _ _ _ _ _ _ _ _ _ _ _ _ _ _ _ _ _ _ _ _ _ _ _ _ _ _ _ _ wr => ∃ m i : Nat, car + m = i ∧ i ≤ drs.length ∧ t8 = .int .i64 (lw s.site s.wants[n] drs car m) ∧ t9 = .int .i64 (i : Int) ∧ Ctx w none O O [Cells g2 27 (snapC s.site v4 (.slice (some ⟨b3, o3, none⟩) s.wants.length c3)), Cells g1 143 #[.int .i64 car, .slice A1 drs.length c1, .slice (some ⟨b2, o2, none⟩) left.length c2]] wr) (fun _ t9 _ _ _ _ _ _ _ _ _ _ _ _ _ _ _ _ _ _ _ _ _ _ _ _ _ _ _ _ _ => drs.length - (intOf t9).toNat)
      case atStart => exact ⟨0, car, rfl, hcar, rfl, by go_num, C⟩
      case round =>
        clear C q0
        obtain ⟨m, i, him, hm, rfl, rfl, C⟩ := hrel
        by_cases hlt2 : i < drs.length
        · have hx := HW.out _ (List.getElem_mem hlw)
          have hlwb := lw_bd HS.out s.wants[n] HD.out car m (by omega)
          have HM := Lib.hid fun O' w' (h : PLe O' (hp w')) (r : Rd kWant O' (.slice (some ⟨b3, o3, none⟩) s.wants.length c3) s.wants) => checkMay s v4 _ c3 O' w' h r n hlw (i : Int) (by omega) (by omega) hx.1 hx.2
          have hS : lw s.site s.wants[n] drs car (m + 1) = if mayB s.wants[n] (i : Int) then min (lw s.site s.wants[n] drs car m) (drs[i].to s.site s.wants[n].floor).came else lw s.site s.wants[n] drs car m := by
            simp only [lw, him, List.getD_eq_getElem?_getD, List.getElem?_eq_getElem hlt2, Option.getD_some]
          obtain ⟨S, hSS⟩ : ∃ S, lw s.site s.wants[n] drs car m = S := ⟨_, rfl⟩
          rw [hSS] at hS hlwb ⊢
          obtain ⟨z1, z2⟩ := hlwb
          have HSS := Lib.hid hS
          clear hS hSS hx
          cases hmay : mayB s.wants[n] (i : Int) with
          | true =>
            rw [hmay] at HSS
            obtain ⟨b1, o1, c1', cs1, e1, rfl, hc1⟩ := Rd_atO R1.out i hlt2
            cases e1
            have HC1 := Lib.hid hc1
            have HTO := Lib.hid (driveTo s.site HS.out drs[i] (HD.out _ (List.getElem_mem hlt2)) s.wants[n].floor)
            clear hc1
            have HMM := Lib.hid fun O' w' (h : PLe O' (hp w')) (r : Rd kWant O' (.slice (some ⟨b3, o3, none⟩) s.wants.length c3) s.wants) => by
              have := HM.out O' w' h r
              rw [hmay] at this; exact this
            clear HM hmay
            go_wp2_with (first | ((with_reducible refine gate ?_); first | (refine ev_loadS (ty := 27) (snapC s.site v4 (.slice (some ⟨b3, o3, none⟩) s.wants.length c3)).toList rfl rfl rfl Try.underlying27 rfl (by kernel_rfl) rfl ?_)) | (go_at_call 81; refine (HMM.out O _ C.sub R3.out).mono ?_; rintro e w4 ⟨rfl, hb4⟩; have C4 := C.keep hb4; clear hb4 C))
            refine ev_quietAll (by kernel_rfl) (by kernel_rfl) ?_
            clear C4
            (apply q_val rfl; (intro W CW; go_simp; rfl); (dsimp only [Act.put]; simp only [List.setIfInBounds_toArray, List.set_cons_succ, List.set_cons_zero]))
            (apply q_val rfl; (intro W CW; go_simp; rfl); (dsimp only [Act.put]; simp only [List.setIfInBounds_toArray, List.set_cons_succ, List.set_cons_zero]))
            (apply q_val rfl; (intro W CW; go_simp; rfl); (dsimp only [Act.put]; simp only [List.setIfInBounds_toArray, List.set_cons_succ, List.set_cons_zero]))
            (apply q_val rfl; (intro W CW; go_simp; rfl); (dsimp only [Act.put]; simp only [List.setIfInBounds_toArray, List.set_cons_succ, List.set_cons_zero]))
            (apply q_val rfl; (intro W CW; go_simp; rfl); (dsimp only [Act.put]; simp only [List.setIfInBounds_toArray, List.set_cons_succ, List.set_cons_zero]))
            (apply q_val rfl; (intro W CW; have k0 := HC1.out W CW.sub 0 _ rfl; have k1 := HC1.out W CW.sub 1 _ rfl; have k2 := HC1.out W CW.sub 2 _ rfl; have k3 := HC1.out W CW.sub 3 _ rfl; simp only [show kDrv.sz = 4 from rfl, Nat.add_zero] at k0 k1 k2 k3; go_simp; rfl); (dsimp only [Act.put]; simp only [List.setIfInBounds_toArray, List.set_cons_succ, List.set_cons_zero]))
            (apply q_val rfl; (intro W CW; go_simp; rfl); (dsimp only [Act.put]; simp only [List.setIfInBounds_toArray, List.set_cons_succ, List.set_cons_zero]))
            (refine q_loadS (ty := 23) (siteC s.site).toList rfl rfl rfl Try.underlying23 rfl (by kernel_rfl) rfl ?_); (dsimp only [Act.put]; simp only [List.setIfInBounds_toArray, List.set_cons_succ, List.set_cons_zero])
            (apply q_val rfl; (intro W CW; go_simp; rfl); (dsimp only [Act.put]; simp only [List.setIfInBounds_toArray, List.set_cons_succ, List.set_cons_zero]))
            (apply q_val rfl; (intro W CW; go_simp; rfl); (dsimp only [Act.put]; simp only [List.setIfInBounds_toArray, List.set_cons_succ, List.set_cons_zero]))
            (apply q_val rfl; (intro W CW; go_simp; rfl); (dsimp only [Act.put]; simp only [List.setIfInBounds_toArray, List.set_cons_succ, List.set_cons_zero]))
            (apply q_val rfl; (intro W CW; go_simp; rfl); (dsimp only [Act.put]; simp only [List.setIfInBounds_toArray, List.set_cons_succ, List.set_cons_zero]))
            (apply q_val rfl; (intro W CW; go_simp; rfl); (dsimp only [Act.put]; simp only [List.setIfInBounds_toArray, List.set_cons_succ, List.set_cons_zero]))
            (apply q_val rfl; (intro W CW; have k0 := HC3.out W CW.sub 0 _ rfl; simp only [show kWant.sz = 2 from rfl, Nat.add_zero] at k0; go_simp; rfl); (dsimp only [Act.put]; simp only [List.setIfInBounds_toArray, List.set_cons_succ, List.set_cons_zero]))
            (apply q_call rfl (by intro W CW; go_simp; exact ⟨rfl, rfl⟩) (by intro W CW; exact quiet_call (HTO.out W) CW)); (dsimp only [Act.put]; simp only [List.setIfInBounds_toArray, List.set_cons_succ, List.set_cons_zero])
            (apply q_val rfl; (intro W CW; go_simp; rfl); (dsimp only [Act.put]; simp only [List.setIfInBounds_toArray, List.set_cons_succ, List.set_cons_zero]))
            (apply q_val rfl; (intro W CW; go_simp; rfl); (dsimp only [Act.put]; simp only [List.setIfInBounds_toArray, List.set_cons_succ, List.set_cons_zero]))
            (apply q_val rfl; (intro W CW; go_simp; rfl); (dsimp only [Act.put]; simp only [List.setIfInBounds_toArray, List.set_cons_succ, List.set_cons_zero]))
            refine wpQuiet_nil fun w4 C4 => ?_
            go_wp2
            go_roundw
            case rel => exact ⟨m + 1, i + 1, by omega, by omega, by rw [HSS.out, if_pos trivial, minIf], by go_num, C4⟩
            case measure => simp [intOf]; omega
          | false =>
            rw [hmay] at HSS
            have HMM := Lib.hid fun O' w' (h : PLe O' (hp w')) (r : Rd kWant O' (.slice (some ⟨b3, o3, none⟩) s.wants.length c3) s.wants) => by
              have := HM.out O' w' h r
              rw [hmay] at this; exact this
            clear HM hmay
            go_wp2_with (first | ((with_reducible refine gate ?_); first | (refine ev_loadS (ty := 27) (snapC s.site v4 (.slice (some ⟨b3, o3, none⟩) s.wants.length c3)).toList rfl rfl rfl Try.underlying27 rfl (by kernel_rfl) rfl ?_)) | (go_at_call 81; refine (HMM.out O _ C.sub R3.out).mono ?_; rintro e w4 ⟨rfl, hb4⟩; have C4 := C.keep hb4; clear hb4 C))
            go_roundw
            case rel => exact ⟨m + 1, i + 1, by omega, by omega, by rw [HSS.out]; rfl, by go_num, C4⟩
            case measure => simp [intOf]; omega
        · have hme : m = drs.length - car := by omega
          have hlwb := lw_bd HS.out s.wants[n] HD.out car m (by omega)
          have hS : lc s drs car left (k + 1) = min (N + lw s.site s.wants[n] drs car m) 1099511627776 := by
            simp only [lc, HN.out, List.getD_eq_getElem?_getD, List.getElem?_eq_getElem hlt, Option.getD_some, Hn.out, List.getElem?_eq_getElem hlw, hme]
          obtain ⟨S, hSS⟩ : ∃ S, lw s.site s.wants[n] drs car m = S := ⟨_, rfl⟩
          rw [hSS] at hS hlwb ⊢
          obtain ⟨z1, z2⟩ := hlwb
          have HSS := Lib.hid hS
          clear hS hSS
          go_wp2
          go_roundw
          case rel => exact ⟨k + 1, by omega, by go_num, by rw [HSS.out, minIf], C⟩
          case measure => simp [intOf]; omega
    · go_wp2
      go_ret
      obtain rfl : k = left.length := by omega
      exact ⟨rfl, C.bel⟩
end Go.Proofs.Ytomfgggomjbnfaa
