/- The walk of the document's answer for the best of all plans: one want more. -/
import Derived.Test.YtomfgggomjbnfaaTG
set_option linter.unusedVariables false
set_option linter.unusedSimpArgs false
namespace Go.Proofs.Ytomfgggomjbnfaa
open Go.RowKit Go.Sep
attribute [local go_sem] cell_ctx frozen_ctx cell_fz arr_at
theorem fill_next (p : List (List Nat)) (n : Nat) (hp : p.length = n) (i : Nat) (hi : i < n) : (p.take i ++ List.replicate (n - i) []).set i (p[i]'(by omega)) = p.take (i + 1) ++ List.replicate (n - (i + 1)) [] := by
  have e : (p.take i).length = i := by rw [List.length_take]; omega
  rw [List.set_append_right _ _ (by omega), e, Nat.sub_self, List.take_succ_eq_append_getElem (by omega), List.append_assoc, show n - i = (n - (i + 1)) + 1 by omega, List.replicate_succ]
  rfl
theorem fill_all (p : List (List Nat)) (n : Nat) (hp : p.length = n) (i : Nat) (hi : i = n) : p.take i ++ List.replicate (n - i) [] = p := by
  subst hi
  rw [List.take_of_length_le (by omega), Nat.sub_self]
  simp
set_option maxRecDepth 100000 in
set_option maxHeartbeats 40000000 in
theorem refBest_step (s : Snap) (hr : rightB s = true) (hw8 : s.wants.length ≤ 8) (m w : Nat) (hwm : w + (m + 1) = s.wants.length)
    (IH : ∀ (q : List (List Nat)), Pater.Plan (mayS s) s.cars.length (w + 1) q → ∀ (A4 : Option Addr) (c4 : Nat) (A2 A3 : Option Addr) (c2 c3 : Nat) (O : PH) (W : World) (hO : PLe O (Go.Sep.hp W)) (r2 : Rd kReady O (.slice A2 s.cars.length c2) s.cars) (r3 : Rd kWant O (.slice A3 s.wants.length c3) s.wants) (r4 : Rd (kSl kNat) O (.slice A4 q.length c4) q),
      Calls Try.prog 44 #[snapV s.site (.slice A2 s.cars.length c2) (.slice A3 s.wants.length c3), .int .i64 ((w + 1 : Nat) : Int), .slice A4 q.length c4] W fun e w' => e = .returned (.int .i64 (Pater.best (costS s) (mayS s) m (w + 1) q)) ∧ Below W.heap.size W w')
    (p : List (List Nat)) (hpl : Pater.Plan (mayS s) s.cars.length w p) (A4 : Option Addr) (c4 : Nat) (A2 A3 : Option Addr) (c2 c3 : Nat) (O : PH) (W : World) (hO : PLe O (Go.Sep.hp W)) (r2 : Rd kReady O (.slice A2 s.cars.length c2) s.cars) (r3 : Rd kWant O (.slice A3 s.wants.length c3) s.wants) (r4 : Rd (kSl kNat) O (.slice A4 p.length c4) p) :
      Calls Try.prog 44 #[snapV s.site (.slice A2 s.cars.length c2) (.slice A3 s.wants.length c3), .int .i64 (w : Int), .slice A4 p.length c4] W fun e w' => e = .returned (.int .i64 (Pater.best (costS s) (mayS s) (m + 1) w p)) ∧ Below W.heap.size W w' := by
  have C0 := Ctx.start hO
  obtain ⟨-, -, hc1, hc8, -, -, -, hw256⟩ := right_cars hr
  have HIH := Lib.hid IH
  have R2 := Lib.hid r2
  have R3 := Lib.hid r3
  have R4 := Lib.hid r4
  have hpe := hpl.len
  have HP := Lib.hid hpe
  have HPL := Lib.hid hpl
  have hww : w < s.wants.length := by omega
  have hxw := hw256 _ (List.getElem_mem hww)
  have HMAY := Lib.hid fun (c : Nat) (hc : c < 64) W (h : PLe O (Go.Sep.hp W)) => refMay s (.slice A2 s.cars.length c2) rfl A3 c3 O W h r3 w hww c hc hxw.1 hxw.2
  have hmb : ∀ c, mayS s w c = mayB s.wants[w] c := fun c => by unfold mayS; rw [List.getD_eq_getElem?_getD, List.getElem?_eq_getElem hww, Option.getD_some]
  have HMB := Lib.hid hmb
  obtain ⟨B, hB⟩ : ∃ B : List (List Nat) → Int, Pater.best (costS s) (mayS s) m (w + 1) = B := ⟨_, rfl⟩
  have hbest : Pater.best (costS s) (mayS s) (m + 1) w p = Pater.least (-1) (((List.range s.cars.length).flatMap (putC s w p)).map B) := by
    rw [Pater.best, put_eq, hpe, hB]
  rw [hbest]
  rw [hB] at HIH
  have hne1 : ((w : Int) == (s.wants.length : Int)) = false := by simp; omega
  rw [hpe]
  clear r2 r3 r4 hO hpl hpe hxw hw256 hmb hB hbest IH hwm hr
  go_enter Try.func44, Try.ntmps44
  go_wp2_with (first | ((with_reducible refine gBox 27 ?_); refine ev_boxT (t := 27) rfl rfl (by go_simp; rfl) ?_; intro g1 w1 C1; clear C0))
  go_loopw [7, 8, 9, 10, 11, 12, 21, 22, 23, 24, 25, 26, 27, 28, 29, 30, 31, 32, 33, 34, 35, 36, 37, 38, 39, 40, 41, 42, 43, 44, 45, 46, 47, 48, 49, 50, 51, 52, 53, 54, 55, 56, 57, 58, 59, 60, 61, 62, 63, 64, 65, 66, 67, 68, 69, 70, 71, 72, 73, 74, 75, 76, 77, 78, 79, 80, 81, 82, 83, 84, 85, 86, 87, 88, 89, 90, 91, 92] (fun t7 t8 _ _ _ _ _ _ _ _ _ _ _ _ _ _ _ _ _ _ _ _ _ _ _ _ _ _ _ _ _ _ _ _ _ _ _ _ _ _ _ _ _ _ _ _ _ _ _ _ _ _ _ _ _ _ _ _ _ _ _ _ _ _ _ _ _ _ _ _ _ _ _ _ _ _ _ _ wr => ∃ (c : Nat) (lv : Int), c ≤ s.cars.length ∧ t8 = .int .i64 c ∧ t7 = .int .i64 lv ∧ Hid (lv = Pater.least (-1) (((List.range c).flatMap (putC s w p)).map B)) ∧ Ctx W none O O [Cells g1 27 (snapC s.site (.slice A2 s.cars.length c2) (.slice A3 s.wants.length c3))] wr) (fun _ t8 _ _ _ _ _ _ _ _ _ _ _ _ _ _ _ _ _ _ _ _ _ _ _ _ _ _ _ _ _ _ _ _ _ _ _ _ _ _ _ _ _ _ _ _ _ _ _ _ _ _ _ _ _ _ _ _ _ _ _ _ _ _ _ _ _ _ _ _ _ _ _ _ _ _ _ _ _ => s.cars.length - (intOf t8).toNat)

  case atStart => exact ⟨0, -1, Nat.zero_le _, rfl, rfl, Lib.hid rfl, C1⟩
  case round =>
    clear C1 hne1
    obtain ⟨c, lv, hc, rfl, rfl, HLV, C⟩ := hrel
    by_cases hlt : c < s.cars.length
    · have hcp : c < p.length := by rw [HP.out]; exact hlt
      obtain ⟨b5, o5, A5, c5, rfl, q5, r5, hc5⟩ := Rd_fzS R4.out c hcp
      have HM := Lib.hid (HMAY.out c (by omega))
      have hnx : Pater.least (-1) (((List.range (c + 1)).flatMap (putC s w p)).map B) = Pater.least lv ((putC s w p c).map B) := by
        rw [List.range_succ, List.flatMap_append, List.map_append, least_append, ← HLV.out]
        simp
      have hpc : putC s w p c = if mayB s.wants[w] c = true then (List.range (p[c].length + 1)).map fun k => p.set c (Pater.ins p[c] k w) else [] := by
        unfold putC
        rw [HMB.out, List.getD_eq_getElem?_getD, List.getElem?_eq_getElem hcp, Option.getD_some]
      have hl200 := r5.len
      obtain ⟨l, hlx⟩ : ∃ l, p[c] = l := ⟨_, rfl⟩
      rw [hlx] at q5 r5 hc5 hpc hl200
      obtain ⟨b, hb⟩ : ∃ b, mayB s.wants[w] c = b := ⟨_, rfl⟩
      rw [hb] at HM hpc
      rw [hpc] at hnx
      have HBT := Lib.hid hb
      have HNX := Lib.hid hnx
      have HLX := Lib.hid hlx
      have R5 := Lib.hid r5
      clear hnx hpc hlx hb r5
      cases b with
      | false =>
        go_wp2_with (first | ((with_reducible refine gLd 27 ?_); refine ev_loadS (ty := 27) ((snapC s.site (.slice A2 s.cars.length c2) (.slice A3 s.wants.length c3)).toList) rfl rfl rfl Try.underlying27 rfl (by kernel_rfl) rfl ?_) | (go_at_call 42; (refine (HM.out _ C.sub).mono ?_); rintro e w3 ⟨rfl, hb⟩; have C3 := C.keep hb; clear hb C))
        go_roundw
        case rel => exact ⟨c + 1, lv, by omega, by go_num, rfl, Lib.hid (by rw [HNX.out]; rfl), C3⟩
        case measure => simp [intOf]; omega
      | true =>
        go_wp2_with (first | ((with_reducible refine gLd 27 ?_); refine ev_loadS (ty := 27) ((snapC s.site (.slice A2 s.cars.length c2) (.slice A3 s.wants.length c3)).toList) rfl rfl rfl Try.underlying27 rfl (by kernel_rfl) rfl ?_) | (go_at_call 42; (refine (HM.out _ C.sub).mono ?_); rintro e w3 ⟨rfl, hb⟩; have C3 := C.keep hb; clear hb C))
        go_loopw [7, 9, 10, 11, 12, 32, 33, 34, 35, 36, 37, 38, 39, 40, 41, 42, 43, 44, 45, 46, 47, 48, 49, 50, 51, 52, 53, 54, 55, 56, 57, 58, 59, 60, 61, 62, 63, 64, 65, 66, 67, 68, 69, 70, 71, 72, 73, 74, 75, 76, 77, 78, 79, 80, 81, 82, 83, 84, 85, 86, 87, 88, 89, 90, 91, 92] (fun t7 t9 _ _ _ _ _ _ _ _ _ _ _ _ _ _ _ _ _ _ _ _ _ _ _ _ _ _ _ _ _ _ _ _ _ _ _ _ _ _ _ _ _ _ _ _ _ _ _ _ _ _ _ _ _ _ _ _ _ _ _ _ _ _ _ _ wr => ∃ (k : Nat) (lw : Int), k ≤ l.length + 1 ∧ t9 = .int .i64 k ∧ t7 = .int .i64 lw ∧ Hid (lw = Pater.least lv (((List.range k).map fun k => p.set c (Pater.ins l k w)).map B)) ∧ Ctx W none O O [Cells g1 27 (snapC s.site (.slice A2 s.cars.length c2) (.slice A3 s.wants.length c3))] wr) (fun _ t9 _ _ _ _ _ _ _ _ _ _ _ _ _ _ _ _ _ _ _ _ _ _ _ _ _ _ _ _ _ _ _ _ _ _ _ _ _ _ _ _ _ _ _ _ _ _ _ _ _ _ _ _ _ _ _ _ _ _ _ _ _ _ _ _ _ => l.length + 1 - (intOf t9).toNat)

        case atStart => exact ⟨0, lv, Nat.zero_le _, rfl, rfl, Lib.hid rfl, C3⟩
        case round =>
          clear C3
          obtain ⟨k, lw, hk, rfl, rfl, HLW, C⟩ := hrel
          by_cases hlt2 : k < l.length + 1
          · have hkl : k ≤ l.length := by omega
            go_wp2_with (first | ((with_reducible refine gMk 32 ?_); (refine ev_makeC (t := 32) (s.cars.length) _ _ rfl rfl Try.underlying32 info64c rfl rfl (by omega) (by omega) ?_); intro g4 w4 C4; clear C))
            go_loopw [11, 44, 45, 46, 47, 48, 49, 50, 51, 52, 53, 54, 55, 56, 57, 58] (fun t11 _ _ _ _ _ _ _ _ _ _ _ _ _ _ _ wr => ∃ (i : Nat) (O3 : PH) (cur : Array Value), i ≤ s.cars.length ∧ t11 = .int .i64 i ∧ PLe O O3 ∧ Hid (CellsS O3 cur (p.take i ++ List.replicate (s.cars.length - i) [])) ∧ Ctx W none O O3 [Cells g4 64 cur, Cells g1 27 (snapC s.site (.slice A2 s.cars.length c2) (.slice A3 s.wants.length c3))] wr) (fun t11 _ _ _ _ _ _ _ _ _ _ _ _ _ _ _ _ => s.cars.length - (intOf t11).toNat)

            case atStart =>
              refine ⟨0, O, _, Nat.zero_le _, rfl, PLe.refl _, Lib.hid ?_, C4⟩
              have := CellsS.made O s.cars.length
              simpa using this
            case round =>
              clear C4
              obtain ⟨i, O3, cur, hi, rfl, hO3, HCS, C⟩ := hrel
              by_cases hlt3 : i < s.cars.length
              · have hip : i < p.length := by rw [HP.out]; exact hlt3
                obtain ⟨b6, o6, A6, c6, e6, q6, r6, hc6⟩ := Rd_fzS R4.out i hip
                cases e6
                have q6 := q6.mono hO3
                have r6 := r6.mono hO3
                have hfn := fill_next p s.cars.length HP.out i hlt3
                have h6l := r6.len
                obtain ⟨li, hli⟩ : ∃ li, p[i] = li := ⟨_, rfl⟩
                rw [hli] at q6 r6 hc6 hfn h6l
                have hqi : i < (p.take i ++ List.replicate (s.cars.length - i) []).length := by rw [List.length_append, List.length_take, List.length_replicate]; omega
                obtain ⟨A9, n9, c9, z9⟩ : ∃ A n c, cur[i]? = some (Value.slice A n c) := by obtain ⟨A, c, h, _⟩ := HCS.out.2 i hqi; exact ⟨_, _, _, h⟩
                have z0 : ArrAt cur i _ := ⟨z9⟩
                have HFN := Lib.hid hfn
                have hli8 : li.length ≤ 128 := by
                  have h1 : li.length ≤ p.flatten.length := by rw [← hli]; exact (List.sublist_flatten_of_mem (List.getElem_mem hip)).length_le
                  have h2 := HPL.out.all.length_eq
                  rw [List.length_range] at h2
                  omega
                have R6 := Lib.hid r6
                clear hli hfn r6 hqi z9
                go_wp2_with (first | ((with_reducible refine gBs 64 0 ?_); (refine ev_rowNew (e := 3) rfl (by go_simp; try rfl) ?_); intro g6 w6 C6; clear C) | (at_builtin; (refine ev_appendR (C := C6) el64 (.slice (some ⟨g6, 0, none⟩) 0 0) rfl rfl rfl rfl R6.out rfl (by simp; omega) ?_); intro v7 w7 C7; simp only [List.nil_append] at C7; obtain ⟨O8, hO8, RV, C8'⟩ := C7.row_freeze 0 rfl (by omega); have C8 : Ctx W none O O8 [Cells g4 64 cur, Cells g1 27 (snapC s.site (.slice A2 s.cars.length c2) (.slice A3 s.wants.length c3))] w7 := C8'; clear C6 C7 C8'; obtain ⟨A7, c7, rfl, hc7⟩ := RV.form; have HRV := Lib.hid RV; clear RV))
                go_roundw
                case rel => exact ⟨i + 1, O8, cur.setIfInBounds i (.slice A7 li.length c7), by omega, by go_num, hO3.trans hO8, Lib.hid (by rw [← HFN.out]; exact (HCS.out.mono hO8).set i li HRV.out), Ctx.setCell (C := C8) (g := g4) i _⟩
                case measure => simp [intOf]; omega
              · have hcs := HCS.out
                rw [fill_all p s.cars.length HP.out i (by omega)] at hcs
                have HCS := Lib.hid hcs
                clear hcs
                obtain ⟨y, hy⟩ : ∃ y : Int, (i : Int) = y := ⟨_, rfl⟩
                have hy2 : (s.cars.length : Int) ≤ y := by omega
                rw [hy]
                clear hy hlt3 hi
                obtain ⟨A7, c7, hA7⟩ : ∃ (A7 : Option Addr) (c7 : Nat), (c5 = k ∧ A7 = A5 ∧ c7 = 0) ∨ (¬ c5 = k ∧ A7 = A5.map (fun a => a.add k) ∧ c7 = c5 - k) := by
                  by_cases h : c5 = k
                  · exact ⟨A5, 0, .inl ⟨h, rfl, rfl⟩⟩
                  · exact ⟨_, _, .inr ⟨h, rfl, rfl⟩⟩
                have hrd : Rd kNat O (.slice A7 (l.length - k) c7) (l.drop k) := by
                  have hd := rdDrop R5.out k hkl
                  rw [show kNat.sz = 1 from rfl, Nat.mul_one] at hd
                  rcases hA7 with ⟨h1, rfl, rfl⟩ | ⟨h1, rfl, rfl⟩
                  · rw [if_pos h1] at hd
                    rw [show l.length - k = 0 by omega]
                    exact hd
                  · rw [if_neg h1] at hd
                    exact hd
                have HRD := Lib.hid hrd
                have hrt : Rd kNat O (.slice A5 k c5) (l.take k) := by
                  have hlk : (l.take k).length = k := by rw [List.length_take]; omega
                  obtain ⟨A', c', e, h1, h2, h3⟩ := rdTake R5.out k hkl
                  rw [hlk] at e
                  cases e
                  exact ⟨A5, c5, by rw [hlk], by omega, by omega, h3⟩
                have HRT := Lib.hid hrt
                have HA7 := Lib.hid hA7
                have hl128 : l.length ≤ 128 := by
                  have h0 : c < p.length := by rw [HP.out]; exact hlt
                  have h1 : l.length ≤ p.flatten.length := by rw [← HLX.out]; exact (List.sublist_flatten_of_mem (List.getElem_mem h0)).length_le
                  have h2 := HPL.out.all.length_eq
                  rw [List.length_range] at h2
                  omega
                have hkc : k ≤ c5 := by omega
                clear hrd hA7 hrt
                go_upto_region 16 with fail
                go_cut [59] (fun s59 wx => ∃ (cur2 : Array Value) (O4 : PH), PLe O3 O4 ∧ Hid (CellsS O4 cur2 (p.set c (Pater.ins l k w))) ∧ Ctx W none O O4 [Cells g4 64 cur2, Cells g1 27 (snapC s.site (.slice A2 s.cars.length c2) (.slice A3 s.wants.length c3))] wx)
                case first =>
                  refine ev_held (S := fun V => ∃ (O9 : PH) (L9 : List Ass), PLe O3 O9 ∧ Ctx W none O O9 L9 V) 22 rfl (by kernel_rfl) ?_
                  have D0 := Ctx.drew (C := C)
                  clear C
                  obtain ⟨A59, n59, c59, z59⟩ : ∃ A n c', cur[c]? = some (Value.slice A n c') := by
                    obtain ⟨A, c', h, _⟩ := HCS.out.2 c (by rw [HP.out]; exact hlt)
                    exact ⟨_, _, _, h⟩
                  have zc : ArrAt cur c _ := ⟨z59⟩
                  clear z59
                  have hins : l.take k ++ [w] ++ l.drop k = Pater.ins l k w := by unfold Pater.ins; simp
                  (apply h_val 0 rfl (by kernel_rfl) (fun _ _ _ h => h) rfl; (rintro V ⟨O9, L9, hO9, CV⟩; go_simp; try rfl); exact ⟨_, _, PLe.refl _, D0⟩; (dsimp only [Act.put]; simp only [List.setIfInBounds_toArray, List.set_cons_succ, List.set_cons_zero]))
                  (apply h_val 1 rfl (by kernel_rfl) (fun _ _ _ h => h) rfl; (rintro V ⟨O9, L9, hO9, CV⟩; go_simp; try rfl); exact ⟨_, _, PLe.refl _, D0⟩; (dsimp only [Act.put]; simp only [List.setIfInBounds_toArray, List.set_cons_succ, List.set_cons_zero]))
                  (apply h_val 3 rfl (by kernel_rfl) (fun _ _ _ h => h) rfl; (rintro V ⟨O9, L9, hO9, CV⟩; go_simp; try rfl); exact ⟨_, _, PLe.refl _, D0⟩; (dsimp only [Act.put]; simp only [List.setIfInBounds_toArray, List.set_cons_succ, List.set_cons_zero]))
                  (apply h_val 4 rfl (by kernel_rfl) (fun _ _ _ h => h) rfl; (rintro V ⟨O9, L9, hO9, CV⟩; go_simp; try rfl); exact ⟨_, _, PLe.refl _, D0⟩; (dsimp only [Act.put]; simp only [List.setIfInBounds_toArray, List.set_cons_succ, List.set_cons_zero]))
                  (apply h_val 5 rfl (by kernel_rfl) (fun _ _ _ h => h) rfl; (rintro V ⟨O9, L9, hO9, CV⟩; go_simp; try rfl); exact ⟨_, _, PLe.refl _, D0⟩; (dsimp only [Act.put]; simp only [List.setIfInBounds_toArray, List.set_cons_succ, List.set_cons_zero]))
                  (apply h_val 6 rfl (by kernel_rfl) (fun _ _ _ h => h) rfl; (rintro V ⟨O9, L9, hO9, CV⟩; have q9 := q5.mono (hO3.trans hO9); go_simp; try rfl); exact ⟨_, _, PLe.refl _, D0⟩; (dsimp only [Act.put]; simp only [List.setIfInBounds_toArray, List.set_cons_succ, List.set_cons_zero]))
                  (apply h_val 7 rfl (by kernel_rfl) (fun _ _ _ h => h) rfl; (rintro V ⟨O9, L9, hO9, CV⟩; go_simp; try rfl); exact ⟨_, _, PLe.refl _, D0⟩; (dsimp only [Act.put]; simp only [List.setIfInBounds_toArray, List.set_cons_succ, List.set_cons_zero]))
                  (apply h_val 8 rfl (by kernel_rfl) (fun _ _ _ h => h) rfl; (rintro V ⟨O9, L9, hO9, CV⟩; go_simp; try rfl); exact ⟨_, _, PLe.refl _, D0⟩; (dsimp only [Act.put]; simp only [List.setIfInBounds_toArray, List.set_cons_succ, List.set_cons_zero]))
                  (apply h_val 10 rfl (by kernel_rfl) (fun _ _ _ h => h) rfl; (rintro V ⟨O9, L9, hO9, CV⟩; go_simp; try rfl); exact ⟨_, _, PLe.refl _, D0⟩; (dsimp only [Act.put]; simp only [List.setIfInBounds_toArray, List.set_cons_succ, List.set_cons_zero]))
                  (apply h_val 13 rfl (by kernel_rfl) (fun _ _ _ h => h) rfl; (rintro V ⟨O9, L9, hO9, CV⟩; go_simp; try rfl); exact ⟨_, _, PLe.refl _, D0⟩; (dsimp only [Act.put]; simp only [List.setIfInBounds_toArray, List.set_cons_succ, List.set_cons_zero]))
                  (apply h_val 14 rfl (by kernel_rfl) (fun _ _ _ h => h) rfl; (rintro V ⟨O9, L9, hO9, CV⟩; go_simp; try rfl); exact ⟨_, _, PLe.refl _, D0⟩; (dsimp only [Act.put]; simp only [List.setIfInBounds_toArray, List.set_cons_succ, List.set_cons_zero]))
                  (apply h_val 15 rfl (by kernel_rfl) (fun _ _ _ h => h) rfl; (rintro V ⟨O9, L9, hO9, CV⟩; go_simp; try rfl); exact ⟨_, _, PLe.refl _, D0⟩; (dsimp only [Act.put]; simp only [List.setIfInBounds_toArray, List.set_cons_succ, List.set_cons_zero]))
                  (apply h_val 16 rfl (by kernel_rfl) (fun _ _ _ h => h) rfl; (rintro V ⟨O9, L9, hO9, CV⟩; have q9 := q5.mono (hO3.trans hO9); go_simp; try rfl); exact ⟨_, _, PLe.refl _, D0⟩; (dsimp only [Act.put]; simp only [List.setIfInBounds_toArray, List.set_cons_succ, List.set_cons_zero]))
                  (apply h_val 17 rfl (by kernel_rfl) (fun _ _ _ h => h) rfl; (rintro V ⟨O9, L9, hO9, CV⟩; go_simp; try rfl); exact ⟨_, _, PLe.refl _, D0⟩; (dsimp only [Act.put]; simp only [List.setIfInBounds_toArray, List.set_cons_succ, List.set_cons_zero]))
                  (apply h_val 18 (v := .slice A7 (l.length - k) c7) rfl (by kernel_rfl) (fun _ _ _ h => h) rfl; (rintro V ⟨O9, L9, hO9, CV⟩; rcases HA7.out with ⟨h1, rfl, rfl⟩ | ⟨h1, rfl, rfl⟩ <;> (go_simp; try rfl)); exact ⟨_, _, PLe.refl _, D0⟩; (dsimp only [Act.put]; simp only [List.setIfInBounds_toArray, List.set_cons_succ, List.set_cons_zero]))
                  refine h_two 2 11 (by kernel_rfl) ?_ ?_
                  · refine op_rowNew (C := D0) 2 3 rfl rfl (by go_simp; try rfl) (fun g61 w61 D61 => ⟨⟨_, _, (PLe.refl O3), D61⟩, ?_⟩)
                    (dsimp only [Act.put]; simp only [List.setIfInBounds_toArray, List.set_cons_succ, List.set_cons_zero])
                    clear D0
                    refine h_two 9 11 (by kernel_rfl) ?_ ?_
                    · refine op_appendR (C := D61) 9 el64 (.slice (some ⟨g61, 0, none⟩) 0 0) rfl rfl rfl rfl rfl (HRT.out.mono (hO3.trans (PLe.refl O3))) (by rw [List.length_take]; omega) (by simp; omega) (fun v62 w62 D62 => ⟨⟨_, _, (PLe.refl O3), D62⟩, ?_⟩)
                      simp only [List.nil_append] at D62
                      (dsimp only [Act.put]; simp only [List.setIfInBounds_toArray, List.set_cons_succ, List.set_cons_zero])
                      clear D61
                      obtain ⟨A62, c62, rfl, hc62⟩ := Ctx.row_form (C := D62) (v := v62)
                      refine h_one 11 (by kernel_rfl) (op_rowOne (C := D62) 11 3 w rfl rfl (by go_simp; try rfl) (fun g63 w63 O63 h63 r63 D63 => ⟨⟨_, _, PLe.trans ((PLe.refl O3)) h63, D63⟩, ?_⟩))
                      (dsimp only [Act.put]; simp only [List.setIfInBounds_toArray, List.set_cons_succ, List.set_cons_zero])
                      clear D62
                      refine h_one 12 (by kernel_rfl) (op_appendR (C := D63) 12 el64 (.slice A62 (l.take k).length c62) rfl rfl rfl rfl rfl r63 rfl (by simp; omega) (fun v64 w64 D64 => ⟨⟨_, _, (PLe.trans ((PLe.refl O3)) h63), D64⟩, ?_⟩))
                      (dsimp only [Act.put]; simp only [List.setIfInBounds_toArray, List.set_cons_succ, List.set_cons_zero])
                      clear D63
                      obtain ⟨A64, c64, rfl, hc64⟩ := Ctx.row_form (C := D64) (v := v64)
                      refine h_one 19 (by kernel_rfl) (op_appendR (C := D64) 19 el64 (.slice A64 (l.take k ++ [w]).length c64) rfl rfl rfl rfl rfl (HRD.out.mono (hO3.trans (PLe.trans ((PLe.refl O3)) h63))) (by rw [List.length_drop]) (by simp; omega) (fun v65 w65 D65 => ⟨⟨_, _, (PLe.trans ((PLe.refl O3)) h63), D65⟩, ?_⟩))
                      (dsimp only [Act.put]; simp only [List.setIfInBounds_toArray, List.set_cons_succ, List.set_cons_zero])
                      clear D64
                      obtain ⟨A65, c65, rfl, hc65⟩ := Ctx.row_form (C := D65) (v := v65)
                      obtain ⟨OF, hOF, RV, DF'⟩ := D65.row_freeze 0 rfl (by simp; omega)
                      have DF : Ctx W none O OF [Cells g4 64 cur, Cells g1 27 (snapC s.site (.slice A2 s.cars.length c2) (.slice A3 s.wants.length c3))] _ := DF'
                      clear DF' D65
                      rw [hins] at RV ⊢
                      obtain ⟨nn, hnn2⟩ : ∃ nn, (Pater.ins l k w).length = nn := ⟨_, rfl⟩
                      rw [hnn2] at RV ⊢
                      (apply h_val 20 rfl (by kernel_rfl) (fun _ _ _ h => h) rfl; (rintro V ⟨O9, L9, hO9, CV⟩; go_simp; try rfl); exact ⟨_, _, (PLe.trans (PLe.trans ((PLe.refl O3)) h63) hOF), DF⟩; (dsimp only [Act.put]; simp only [List.setIfInBounds_toArray, List.set_cons_succ, List.set_cons_zero]))
                      refine h_skips 21 (w' := World.setCell _ ⟨g4, c, none⟩ (.slice A65 nn c65)) rfl (by kernel_rfl) rfl (by go_simp; try rfl) ⟨_, _, (PLe.trans (PLe.trans ((PLe.refl O3)) h63) hOF), Ctx.setCell (C := DF) (g := g4) c _⟩ ?_
                      dsimp only [Act.put]
                      refine wpAnyH_done (by kernel_rfl) ?_ _
                      go_wp2_with fail
                      go_meet
                      exact ⟨_, OF, PLe.trans (PLe.trans ((PLe.refl O3)) h63) hOF, Lib.hid (by have h8 := (HCS.out.mono (PLe.trans (PLe.trans ((PLe.refl O3)) h63) hOF)).set c (Pater.ins l k w) (by rw [hnn2]; exact RV); rw [hnn2] at h8; exact h8), Ctx.setCell (C := DF) (g := g4) c _⟩
                    · refine op_rowOne (C := D61) 11 3 w rfl rfl (by go_simp; try rfl) (fun g67 w67 O67 h67 r67 D67 => ⟨⟨_, _, PLe.trans ((PLe.refl O3)) h67, D67⟩, ?_⟩)
                      (dsimp only [Act.put]; simp only [List.setIfInBounds_toArray, List.set_cons_succ, List.set_cons_zero])
                      clear D61
                      refine h_one 9 (by kernel_rfl) (op_appendR (C := D67) 9 el64 (.slice (some ⟨g61, 0, none⟩) 0 0) rfl rfl rfl rfl rfl (HRT.out.mono (hO3.trans (PLe.trans ((PLe.refl O3)) h67))) (by rw [List.length_take]; omega) (by simp; omega) (fun v68 w68 D68 => ⟨⟨_, _, (PLe.trans ((PLe.refl O3)) h67), D68⟩, ?_⟩))
                      simp only [List.nil_append] at D68
                      (dsimp only [Act.put]; simp only [List.setIfInBounds_toArray, List.set_cons_succ, List.set_cons_zero])
                      clear D67
                      obtain ⟨A68, c68, rfl, hc68⟩ := Ctx.row_form (C := D68) (v := v68)
                      refine h_one 12 (by kernel_rfl) (op_appendR (C := D68) 12 el64 (.slice A68 (l.take k).length c68) rfl rfl rfl rfl rfl r67 rfl (by simp; omega) (fun v69 w69 D69 => ⟨⟨_, _, (PLe.trans ((PLe.refl O3)) h67), D69⟩, ?_⟩))
                      (dsimp only [Act.put]; simp only [List.setIfInBounds_toArray, List.set_cons_succ, List.set_cons_zero])
                      clear D68
                      obtain ⟨A69, c69, rfl, hc69⟩ := Ctx.row_form (C := D69) (v := v69)
                      refine h_one 19 (by kernel_rfl) (op_appendR (C := D69) 19 el64 (.slice A69 (l.take k ++ [w]).length c69) rfl rfl rfl rfl rfl (HRD.out.mono (hO3.trans (PLe.trans ((PLe.refl O3)) h67))) (by rw [List.length_drop]) (by simp; omega) (fun v70 w70 D70 => ⟨⟨_, _, (PLe.trans ((PLe.refl O3)) h67), D70⟩, ?_⟩))
                      (dsimp only [Act.put]; simp only [List.setIfInBounds_toArray, List.set_cons_succ, List.set_cons_zero])
                      clear D69
                      obtain ⟨A70, c70, rfl, hc70⟩ := Ctx.row_form (C := D70) (v := v70)
                      obtain ⟨OF, hOF, RV, DF'⟩ := D70.row_freeze 0 rfl (by simp; omega)
                      have DF : Ctx W none O OF [Cells g4 64 cur, Cells g1 27 (snapC s.site (.slice A2 s.cars.length c2) (.slice A3 s.wants.length c3))] _ := DF'
                      clear DF' D70
                      rw [hins] at RV ⊢
                      obtain ⟨nn, hnn2⟩ : ∃ nn, (Pater.ins l k w).length = nn := ⟨_, rfl⟩
                      rw [hnn2] at RV ⊢
                      (apply h_val 20 rfl (by kernel_rfl) (fun _ _ _ h => h) rfl; (rintro V ⟨O9, L9, hO9, CV⟩; go_simp; try rfl); exact ⟨_, _, (PLe.trans (PLe.trans ((PLe.refl O3)) h67) hOF), DF⟩; (dsimp only [Act.put]; simp only [List.setIfInBounds_toArray, List.set_cons_succ, List.set_cons_zero]))
                      refine h_skips 21 (w' := World.setCell _ ⟨g4, c, none⟩ (.slice A70 nn c70)) rfl (by kernel_rfl) rfl (by go_simp; try rfl) ⟨_, _, (PLe.trans (PLe.trans ((PLe.refl O3)) h67) hOF), Ctx.setCell (C := DF) (g := g4) c _⟩ ?_
                      dsimp only [Act.put]
                      refine wpAnyH_done (by kernel_rfl) ?_ _
                      go_wp2_with fail
                      go_meet
                      exact ⟨_, OF, PLe.trans (PLe.trans ((PLe.refl O3)) h67) hOF, Lib.hid (by have h8 := (HCS.out.mono (PLe.trans (PLe.trans ((PLe.refl O3)) h67) hOF)).set c (Pater.ins l k w) (by rw [hnn2]; exact RV); rw [hnn2] at h8; exact h8), Ctx.setCell (C := DF) (g := g4) c _⟩
                  · refine op_rowOne (C := D0) 11 3 w rfl rfl (by go_simp; try rfl) (fun g72 w72 O72 h72 r72 D72 => ⟨⟨_, _, PLe.trans ((PLe.refl O3)) h72, D72⟩, ?_⟩)
                    (dsimp only [Act.put]; simp only [List.setIfInBounds_toArray, List.set_cons_succ, List.set_cons_zero])
                    clear D0
                    refine h_one 2 (by kernel_rfl) (op_rowNew (C := D72) 2 3 rfl rfl (by go_simp; try rfl) (fun g73 w73 D73 => ⟨⟨_, _, (PLe.trans ((PLe.refl O3)) h72), D73⟩, ?_⟩))
                    (dsimp only [Act.put]; simp only [List.setIfInBounds_toArray, List.set_cons_succ, List.set_cons_zero])
                    clear D72
                    refine h_one 9 (by kernel_rfl) (op_appendR (C := D73) 9 el64 (.slice (some ⟨g73, 0, none⟩) 0 0) rfl rfl rfl rfl rfl (HRT.out.mono (hO3.trans (PLe.trans ((PLe.refl O3)) h72))) (by rw [List.length_take]; omega) (by simp; omega) (fun v74 w74 D74 => ⟨⟨_, _, (PLe.trans ((PLe.refl O3)) h72), D74⟩, ?_⟩))
                    simp only [List.nil_append] at D74
                    (dsimp only [Act.put]; simp only [List.setIfInBounds_toArray, List.set_cons_succ, List.set_cons_zero])
                    clear D73
                    obtain ⟨A74, c74, rfl, hc74⟩ := Ctx.row_form (C := D74) (v := v74)
                    refine h_one 12 (by kernel_rfl) (op_appendR (C := D74) 12 el64 (.slice A74 (l.take k).length c74) rfl rfl rfl rfl rfl r72 rfl (by simp; omega) (fun v75 w75 D75 => ⟨⟨_, _, (PLe.trans ((PLe.refl O3)) h72), D75⟩, ?_⟩))
                    (dsimp only [Act.put]; simp only [List.setIfInBounds_toArray, List.set_cons_succ, List.set_cons_zero])
                    clear D74
                    obtain ⟨A75, c75, rfl, hc75⟩ := Ctx.row_form (C := D75) (v := v75)
                    refine h_one 19 (by kernel_rfl) (op_appendR (C := D75) 19 el64 (.slice A75 (l.take k ++ [w]).length c75) rfl rfl rfl rfl rfl (HRD.out.mono (hO3.trans (PLe.trans ((PLe.refl O3)) h72))) (by rw [List.length_drop]) (by simp; omega) (fun v76 w76 D76 => ⟨⟨_, _, (PLe.trans ((PLe.refl O3)) h72), D76⟩, ?_⟩))
                    (dsimp only [Act.put]; simp only [List.setIfInBounds_toArray, List.set_cons_succ, List.set_cons_zero])
                    clear D75
                    obtain ⟨A76, c76, rfl, hc76⟩ := Ctx.row_form (C := D76) (v := v76)
                    obtain ⟨OF, hOF, RV, DF'⟩ := D76.row_freeze 0 rfl (by simp; omega)
                    have DF : Ctx W none O OF [Cells g4 64 cur, Cells g1 27 (snapC s.site (.slice A2 s.cars.length c2) (.slice A3 s.wants.length c3))] _ := DF'
                    clear DF' D76
                    rw [hins] at RV ⊢
                    obtain ⟨nn, hnn2⟩ : ∃ nn, (Pater.ins l k w).length = nn := ⟨_, rfl⟩
                    rw [hnn2] at RV ⊢
                    (apply h_val 20 rfl (by kernel_rfl) (fun _ _ _ h => h) rfl; (rintro V ⟨O9, L9, hO9, CV⟩; go_simp; try rfl); exact ⟨_, _, (PLe.trans (PLe.trans ((PLe.refl O3)) h72) hOF), DF⟩; (dsimp only [Act.put]; simp only [List.setIfInBounds_toArray, List.set_cons_succ, List.set_cons_zero]))
                    refine h_skips 21 (w' := World.setCell _ ⟨g4, c, none⟩ (.slice A76 nn c76)) rfl (by kernel_rfl) rfl (by go_simp; try rfl) ⟨_, _, (PLe.trans (PLe.trans ((PLe.refl O3)) h72) hOF), Ctx.setCell (C := DF) (g := g4) c _⟩ ?_
                    dsimp only [Act.put]
                    refine wpAnyH_done (by kernel_rfl) ?_ _
                    go_wp2_with fail
                    go_meet
                    exact ⟨_, OF, PLe.trans (PLe.trans ((PLe.refl O3)) h72) hOF, Lib.hid (by have h8 := (HCS.out.mono (PLe.trans (PLe.trans ((PLe.refl O3)) h72) hOF)).set c (Pater.ins l k w) (by rw [hnn2]; exact RV); rw [hnn2] at h8; exact h8), Ctx.setCell (C := DF) (g := g4) c _⟩
                case rest =>
                  obtain ⟨cur2, O4, hO4, HC2, C5⟩ := hcut
                  have hcp2 : c < p.length := by rw [HP.out]; exact hlt
                  have hql : (p.set c (Pater.ins l k w)).length = s.cars.length := by rw [List.length_set]; exact HP.out
                  have E := C5.recast (g := g4) inferInstance (kSl kNat) (p.set c (Pater.ins l k w)) s.cars.length (by rw [hql]; exact Nat.le_refl _) (by unfold maxLen; omega) (by rw [HC2.out.1, hql]; exact (Nat.mul_one _).symm) HC2.out.rep
                  obtain ⟨O5, hO5, RV, E2'⟩ := E.row_freeze 0 rfl (by rw [hql]; omega)
                  have E2 : Ctx W none O O5 [Cells g1 27 (snapC s.site (.slice A2 s.cars.length c2) (.slice A3 s.wants.length c3))] _ := E2'
                  have hmw : mayS s w c = true := by rw [HMB.out]; exact HBT.out
                  have hput : p.set c (Pater.ins l k w) ∈ Pater.put (mayS s) w p := by
                    unfold Pater.put
                    refine List.mem_flatMap.2 ⟨c, List.mem_range.2 hcp2, ?_⟩
                    rw [if_pos hmw]
                    refine List.mem_map.2 ⟨k, List.mem_range.2 ?_, ?_⟩
                    · rw [List.getD_eq_getElem?_getD, List.getElem?_eq_getElem hcp2, Option.getD_some, HLX.out]; exact hlt2
                    · rw [List.getD_eq_getElem?_getD, List.getElem?_eq_getElem hcp2, Option.getD_some, HLX.out]
                  have HPUT := Lib.hid (Pater.put_plan HPL.out hput)
                  have HI := Lib.hid fun V (h : PLe O5 (Go.Sep.hp V)) => by
                    have hh := hO3.trans (hO4.trans hO5)
                    have := HIH.out _ HPUT.out (some ⟨g4, 0, none⟩) s.cars.length A2 A3 c2 c3 O5 V h (R2.out.mono hh) (R3.out.mono hh) RV
                    rw [show ((w + 1 : Nat) : Int) = (w : Int) + 1 by omega, hql] at this
                    exact this
                  obtain ⟨X, hX⟩ : ∃ X, B (p.set c (Pater.ins l k w)) = X := ⟨_, rfl⟩
                  rw [hX] at HI
                  have hls : Pater.least lv (((List.range (k + 1)).map fun k => p.set c (Pater.ins l k w)).map B) = Pater.lesser lw X := by
                    rw [List.range_succ, List.map_append, List.map_append, least_append, ← HLW.out, ← hX]
                    rfl
                  have HLS := Lib.hid hls
                  clear hls hX hput hmw E E2' C5 RV hql hcp2
                  by_cases hles : lw < 0 ∨ X < lw
                  · have HLE := Lib.hid (show Pater.lesser lw X = X from if_pos hles)
                    rcases hles with h9 | h9
                    all_goals
                      go_wp2_with (first | ((with_reducible refine gLd 27 ?_); refine ev_loadS (ty := 27) ((snapC s.site (.slice A2 s.cars.length c2) (.slice A3 s.wants.length c3)).toList) rfl rfl rfl Try.underlying27 rfl (by kernel_rfl) rfl ?_) | (go_at_call 44; (refine (HI.out _ E2.sub).mono ?_); rintro e w9 ⟨rfl, hb⟩; have E3 := E2.keep hb; clear hb E2))
                      all_goals
                        go_roundw
                        case rel => exact ⟨k + 1, X, by omega, by go_num, rfl, Lib.hid (by rw [HLS.out, HLE.out]), E3.weak1 (PLe.refl _) (hO3.trans (hO4.trans hO5))⟩
                        case measure => simp [intOf]; omega
                  · have HLE := Lib.hid (show Pater.lesser lw X = lw from if_neg hles)
                    have h8 : ¬ lw < 0 := fun h => hles (.inl h)
                    have h9 : ¬ X < lw := fun h => hles (.inr h)
                    clear hles
                    go_wp2_with (first | ((with_reducible refine gLd 27 ?_); refine ev_loadS (ty := 27) ((snapC s.site (.slice A2 s.cars.length c2) (.slice A3 s.wants.length c3)).toList) rfl rfl rfl Try.underlying27 rfl (by kernel_rfl) rfl ?_) | (go_at_call 44; (refine (HI.out _ E2.sub).mono ?_); rintro e w9 ⟨rfl, hb⟩; have E3 := E2.keep hb; clear hb E2))
                    go_roundw
                    case rel => exact ⟨k + 1, lw, by omega, by go_num, rfl, Lib.hid (by rw [HLS.out, HLE.out]), E3.weak1 (PLe.refl _) (hO3.trans (hO4.trans hO5))⟩
                    case measure => simp [intOf]; omega
          · have hk' : k = l.length + 1 := by omega
            go_wp2
            go_roundw
            case rel => exact ⟨c + 1, lw, by omega, by go_num, rfl, Lib.hid (by rw [HNX.out, if_pos trivial, HLW.out, hk']), C⟩
            case measure => simp [intOf]; omega
    · have hc' : c = s.cars.length := by omega
      go_wp2
      go_ret
      exact ⟨ret_int (by rw [HLV.out, hc']), C.bel⟩
end Go.Proofs.Ytomfgggomjbnfaa
