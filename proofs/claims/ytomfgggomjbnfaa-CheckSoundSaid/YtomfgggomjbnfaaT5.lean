/- The walk of what reads a claim: its form is right so far. -/
import Derived.Test.YtomfgggomjbnfaaT4
import Derived.Outline
set_option linter.unusedVariables false
set_option linter.unusedSimpArgs false
namespace Go.Proofs.Ytomfgggomjbnfaa
open Go.RowKit Go.Sep
attribute [local go_sem] cell_ctx frozen_ctx cell_fz
theorem el32 : ElT Try.prog 32 64 (kSl kInt).sz 24 := ElT.mk' Try.underlying32 (by kernel_rfl : (Try.prog.info? 64).map (fun i => (i.zero, i.size, i.bytes)) = some (some (.slice none 0 0), 1, 24)) rfl (by decide) (by decide)
theorem info3 : (Try.prog.info? 3).map (fun i => (i.zero, i.size, i.bytes)) = some (some (.int .i64 0), 1, 8) := by kernel_rfl
theorem el64i : ElT Try.prog 64 3 kInt.sz 8 := ElT.mk' Try.underlying64 info3 rfl (by decide) (by decide)
def ReadPost (O : PH) (w : World) (x : Option (Claim × List Int)) (e : Ending) (w' : World) : Prop :=
  match x with
  | none => NoRead w e w'
  | some q => ∃ v1 v2 O', e = .returned (.tuple #[.agg (claimC q.1.best q.1.cost v1), v2, .bool true]) ∧ PLe O O' ∧ Rd (kSl kInt) O' v1 q.1.plan ∧ Rd kU8 O' v2 q.2 ∧ Ctx w none O O' [] w'
theorem noRead {O : PH} {w w' : World} {e : Ending} {x : Option (Claim × List Int)} (hx : x = none) (h : NoRead w e w') : ReadPost O w x e w' := by subst hx; exact h
def lastF (b : List Int) : Option (List (List Int) × List Int) → Option (Claim × List Int)
  | none => none
  | some (p, r) => if 1099511627776 < costOf ((b.take 9).drop 1) ∨ b.headD 0 ≠ 1 ∧ 0 < r.length then none else some (⟨decide (b.headD 0 = 1), costOf ((b.take 9).drop 1), p⟩, r)
theorem readF_eq (cars : Nat) (b : List Int) (h : ¬ b.length < 9) (h1 : ¬ 1 < b.headD 0) : readF cars b = lastF b (readRows cars (b.drop 9)) := by
  unfold readF
  rw [if_neg (by omega)]
  cases readRows cars (b.drop 9) with
  | none => rfl
  | some q => rfl
theorem lastF_none (b : List Int) (p : List (List Int)) (r : List Int) (h : 1099511627776 < costOf ((b.take 9).drop 1) ∨ b.headD 0 ≠ 1 ∧ 0 < r.length) : lastF b (some (p, r)) = none := if_pos h
theorem lastF_some (b : List Int) (p : List (List Int)) (r : List Int) (h : ¬ 1099511627776 < costOf ((b.take 9).drop 1)) (h' : b.headD 0 = 1 ∨ r.length = 0) : lastF b (some (p, r)) = some (⟨decide (b.headD 0 = 1), costOf ((b.take 9).drop 1), p⟩, r) := if_neg (by omega)
theorem readRows_step (k : Nat) (p : List (List Int)) (b : List Int) (n : Int) (r : List Int) (e : b = n :: r) (h : n.toNat ≤ r.length) (X : Option (List (List Int) × List Int))
    (hX : X = (readRows (k + 1) b).map fun q => (p ++ q.1, q.2)) : X = (readRows k (r.drop n.toNat)).map fun q => ((p ++ [r.take n.toNat]) ++ q.1, q.2) := by
  subst e
  rw [hX, readRows, if_pos h]
  cases readRows k (r.drop n.toNat) <;> simp
set_option maxRecDepth 100000 in
set_option maxHeartbeats 20000000 in
theorem checkRead_good (cars : Nat) (hcars : cars ≤ 20) (b : List Int) (hb : U8 b) (O : PH) (v : Value) (w : World) (hO : PLe O (hp w)) (r : Rd kU8 O v b) (h : ¬ b.length < 9) (h1 : ¬ 1 < b.headD 0) :
    Calls Try.prog 38 #[.int .i64 cars, v] w fun e w' => ReadPost O w (readF cars b) e w' := by
  have C0 := Ctx.start hO
  have R1 := Lib.hid r
  have HF := Lib.hid (readF_eq cars b h h1)
  obtain ⟨A, c, rfl, hc⟩ := r.form
  have hbl := r.len
  have hh : ∀ (h0 : 0 < (b.take 9).length), (b.take 9)[0] = b.headD 0 := fun h0 => by
    cases b with
    | nil => simp at h0
    | cons x l => simp
  have l9 : 0 < (b.take 9).length := by rw [List.length_take]; omega
  have hx0 : 0 ≤ b.headD 0 := by
    cases b with
    | nil => simp
    | cons x l => exact (hb x (by simp)).1
  obtain ⟨x, hx⟩ : ∃ x, b.headD 0 = x := ⟨_, rfl⟩
  have HH := Lib.hid ((hh l9).trans hx)
  have HX := Lib.hid hx
  have HB := Lib.hid hb
  rw [hx] at h1 hx0
  obtain ⟨cs, hcs⟩ : ∃ cs, (b.take 9).drop 1 = cs := ⟨_, rfl⟩
  have hl8 : cs.length = 8 := by rw [← hcs, List.length_drop, List.length_take]; omega
  have HCS := Lib.hid hcs
  have H8 := Lib.hid hl8
  have hu8 : U8 cs := fun y hy => hb y (List.mem_of_mem_take (List.mem_of_mem_drop (hcs ▸ hy)))
  have HU := Lib.hid hu8
  clear r hO hh hx hb hcs hl8 hu8
  go_enter Try.func38, Try.ntmps38
  go_wp2_with (first | ((with_reducible refine gBox 28 ?_); refine ev_boxT (t := 28) rfl rfl (by go_simp; rfl) ?_; intro g1 w1 C1; clear C0) | ((with_reducible refine gAl 34 ?_); refine ev_alloc (t := 34) rfl rfl (by go_simp; rfl) ?_; intro g2 w2 C2; clear C1) | (go_at_call 74; refine (checkTake_yes (C := C2) b R1.out 9 (by omega)).mono ?_; rintro e w' ⟨A1, v2, rfl, r1, r2, C3⟩; obtain ⟨b1, o1, rfl, q0⟩ := fzInt r1 0 l9; rw [HH.out, Nat.add_zero] at q0; have R3 := Lib.hid r1; have R4 := Lib.hid r2; clear r1 r2 C2))
  go_loopw [8, 10, 38, 39, 40, 41, 42, 43, 44, 45, 46, 47] (fun t8 _ t38 _ _ _ _ _ _ _ _ _ wr => ∃ i : Nat, i ≤ 8 ∧ t38 = .int .i64 i ∧ t8 = .int .u64 (costOf (cs.take i)) ∧ Ctx w none O O [Cells g2 34 #[.bool (x == 1), .int .i64 0, .slice none 0 0], Cells g1 28 #[v2]] wr) (fun _ _ t38 _ _ _ _ _ _ _ _ _ _ => 8 - (intOf t38).toNat)

  case atStart => exact ⟨0, by omega, rfl, rfl, by first | exact C3 | exact Ctx.setCell (C := C3) (g := g2) 0 _⟩
  case round =>
    clear C3
    obtain ⟨i, hi, rfl, rfl, C⟩ := hrel
    have hcb := costOf_bd (cs.take i) i (by rw [List.length_take, H8.out]; omega) (fun y hy => HU.out y (List.mem_of_mem_take hy))
    by_cases hlt : i < 8
    · have hp7 : (256 : Int) ^ i ≤ 256 ^ 7 := by
        have : (256 : Nat) ^ i ≤ 256 ^ 7 := Nat.pow_le_pow_right (by omega) (by omega)
        have e : ((256 ^ i : Nat) : Int) = (256 : Int) ^ i := by simp
        omega
      obtain ⟨b2, o2, e2, q1⟩ := fzInt R3.out (1 + i) (by rw [List.length_take]; omega)
      cases e2
      have hcx : costOf (cs.take (i + 1)) = costOf (cs.take i) * 256 + cs[i]'(by rw [H8.out]; exact hlt) := by
        rw [List.take_succ_eq_append_getElem (by rw [H8.out]; exact hlt), costOf_snoc]
      have ecs : (b.take 9)[1 + i]'(by rw [List.length_take]; omega) = cs[i]'(by rw [H8.out]; exact hlt) := by
        have := HCS.out
        subst this
        simp [Nat.add_comm]
      have hy := HU.out (cs[i]'(by rw [H8.out]; exact hlt)) (List.getElem_mem _)
      rw [ecs, ← Nat.add_assoc] at q1
      obtain ⟨y, hyy⟩ : ∃ y, cs[i]'(by rw [H8.out]; exact hlt) = y := ⟨_, rfl⟩
      rw [hyy] at hcx q1 hy
      obtain ⟨N, hN⟩ : ∃ N, costOf (cs.take i) = N := ⟨_, rfl⟩
      rw [hN] at hcx hcb ⊢
      obtain ⟨c1, c2⟩ := hcb
      obtain ⟨y1, y2⟩ := hy
      have c3 : N < 72057594037927936 := by omega
      have HOR := Lib.hid (u64_shl_or c1 c3 y1 y2)
      have HCX := Lib.hid hcx
      clear hcx hN hyy ecs hp7 c2
      go_wp2
      go_roundw
      case rel => exact ⟨i + 1, by omega, by go_num, by rw [HCX.out, HOR.out], C⟩
      case measure => simp [intOf]; omega
    · have i8 : i = 8 := by omega
      have e8 : cs.take i = cs := List.take_of_length_le (by rw [H8.out]; omega)
      rw [e8] at hcb ⊢
      obtain ⟨N, hN⟩ : ∃ N, costOf cs = N := ⟨_, rfl⟩
      rw [hN] at hcb ⊢
      have HN := Lib.hid hN
      obtain ⟨c1, c2⟩ := hcb
      have c3 : N < 18446744073709551616 := by rw [i8] at c2; simpa using c2
      obtain ⟨q, hq⟩ : ∃ q : Int, (i : Int) = q := ⟨_, rfl⟩
      have hq8 : 8 ≤ q := by omega
      rw [hq]
      clear hN e8 c2 i8 hlt hi hq
      go_wp2
      have D := C.empty (A := Row (kSl kInt) 64 (.slice none 0 0) []) (.inl ⟨rfl, rfl, rfl⟩)
      clear C
      go_loopw [5, 6, 11, 12, 13, 14, 16, 49, 50, 51, 52, 53, 54, 55, 56, 57, 58, 59, 60, 61, 62, 63, 64, 65, 66, 67, 68, 69, 70, 71, 72, 73, 74, 75, 76, 77, 78, 79, 80, 81, 82, 83, 84, 85, 86, 87] (fun _ _ _ _ _ _ _ t49 _ _ _ _ _ _ _ _ _ _ _ _ _ _ _ _ _ _ _ _ _ _ _ _ _ _ _ _ _ _ _ _ _ _ _ _ _ _ wr => ∃ (k : Nat) (p : List (List Int)) (rst : List Int) (v1 v3 : Value) (O2 : PH), k ≤ cars ∧ p.length = k ∧ t49 = .int .i64 k ∧ PLe O O2 ∧ Hid (readRows cars (b.drop 9) = (readRows (cars - k) rst).map fun q => (p ++ q.1, q.2)) ∧ Hid (Rd kU8 O2 v3 rst) ∧ Hid (U8 rst) ∧ Hid (rst.length ≤ b.length) ∧ Ctx w none O O2 [Row (kSl kInt) 64 v1 p, Cells g2 34 #[.bool (x == 1), .int .i64 0, v1], Cells g1 28 #[v3]] wr) (fun _ _ _ _ _ _ _ t49 _ _ _ _ _ _ _ _ _ _ _ _ _ _ _ _ _ _ _ _ _ _ _ _ _ _ _ _ _ _ _ _ _ _ _ _ _ _ _ => cars - (intOf t49).toNat)

      case atStart =>
        exact ⟨0, [], b.drop 9, _, v2, O, Nat.zero_le _, rfl, rfl, PLe.refl _, Lib.hid (by cases readRows cars (b.drop 9) <;> simp), R4, Lib.hid (fun y hy => HB.out y (List.mem_of_mem_drop hy)), Lib.hid (by rw [List.length_drop]; omega), D⟩
      case round =>
        clear D q0 R3 R4
        obtain ⟨k, p, rst, v1, v3, O2, hk, hpk, rfl, hO2, HRR, RR, HUR, HLR, C⟩ := hrel
        obtain ⟨A1, cp, rfl, hcp⟩ := Ctx.row_form (C := C) (v := v1)
        rw [hpk] at hcp C
        have HPK := Lib.hid hpk
        clear hpk
        by_cases hlt : k < cars
        · cases rst with
          | nil =>
            go_wp2_with (first | ((with_reducible refine gSt 34 ?_); refine ev_storeW (t := 34) (ty := 34) (g := g2) (vs := claimC (x == 1) 0 (.slice A1 k cp)) rfl rfl rfl rfl (by kernel_rfl) rfl (by rw [List.all_toArray]; rfl) ?_; intro w4 C4) | (go_at_call 74; refine (checkTake_no (C := C) [] RR.out 1 (by simp) (by omega)).mono ?_; rintro e w' ⟨rfl, rfl⟩))
            exact bodyPost_ret (results_cell_row3 rfl _ _ g2 34 _ (0, 0) _ rfl heap_ctx Try.underlying34 rfl (by kernel_rfl)) rfl (noRead (by rw [HF.out, HRR.out, show cars - k = (cars - k - 1) + 1 by omega]; rfl) ⟨_, _, _, rfl, rfl, C4.bel⟩)
          | cons n r =>
            have hn := HUR.out n (by simp)
            obtain ⟨m, rfl⟩ := Int.eq_ofNat_of_zero_le hn.1
            obtain ⟨hn0, hn1⟩ := hn
            by_cases hm : m ≤ r.length
            · go_wp2_with (first | (go_at_call 74; refine (checkTake_yes (C := C) ((m : Int) :: r) RR.out 1 (by simp)).mono ?_; rintro e w5 ⟨A5, v5, rfl, r1, r2, C5⟩; clear C; obtain ⟨b5, o5, rfl, q5⟩ := fzInt r1 0 (by simp); simp only [List.take_succ_cons, List.take_zero, List.getElem_cons_zero, Nat.add_zero] at q5; simp only [List.drop_succ_cons, List.drop_zero] at r2; have R5 := Lib.hid r2; clear r1 r2) | (go_at_call 74; refine (checkTake_yes (C := C5) r R5.out m hm).mono ?_; rintro e w6 ⟨A6, v6, rfl, r1, r2, C6⟩; clear C5; have R6 := Lib.hid r1; have R7 := Lib.hid r2; clear r1 r2))
              obtain ⟨ls, hls⟩ : ∃ ls, r.take m = ls := ⟨_, rfl⟩
              have hlm : ls.length = m := by rw [← hls, List.length_take]; omega
              have HLS := Lib.hid hls
              have HUL := Lib.hid (show U8 ls from fun y hy => HUR.out y (by rw [← hls] at hy; simp [List.mem_of_mem_take hy]))
              have HLM := Lib.hid hlm
              rw [hls] at R6
              have D := C6.empty (A := Row kInt 3 (.slice none 0 0) []) (.inl ⟨rfl, rfl, rfl⟩)
              clear C6 q5 hls hlm
              go_loopw [14, 16, 71, 72, 73, 74, 75, 76, 77, 78, 79, 80] (fun t14 _ t71 _ _ _ _ _ _ _ _ _ wr => ∃ (j : Nat), j ≤ m ∧ t71 = .int .i64 j ∧ Ctx w none O O2 [Row kInt 3 t14 (ls.take j), Row (kSl kInt) 64 (.slice A1 k cp) p, Cells g2 34 #[.bool (x == 1), .int .i64 0, .slice A1 k cp], Cells g1 28 #[v6]] wr) (fun _ _ t71 _ _ _ _ _ _ _ _ _ _ => m - (intOf t71).toNat)

              case atStart => exact ⟨0, Nat.zero_le _, rfl, D⟩
              case round =>
                clear D
                obtain ⟨j, hj, rfl, C⟩ := hrel
                by_cases hlt3 : j < m
                · obtain ⟨b7, o7, rfl, q7⟩ := fzInt R6.out j (by rw [HLM.out]; exact hlt3)
                  have hy := HUL.out (ls[j]'(by rw [HLM.out]; exact hlt3)) (List.getElem_mem _)
                  have hsn : ls.take (j + 1) = ls.take j ++ [ls[j]'(by rw [HLM.out]; exact hlt3)] := List.take_succ_eq_append_getElem _
                  have hlj : (ls.take j).length = j := by rw [List.length_take, HLM.out]; omega
                  obtain ⟨y, hyy⟩ : ∃ y, ls[j]'(by rw [HLM.out]; exact hlt3) = y := ⟨_, rfl⟩
                  rw [hyy] at q7 hy hsn
                  obtain ⟨y1, y2⟩ := hy
                  have HSN := Lib.hid hsn
                  have HLJ := Lib.hid hlj
                  clear hyy hsn hlj
                  go_wp2_with (at_builtin; refine ev_append (C := C) el64i u14 y (cs := [.int .i64 y]) rfl rfl rfl rfl rfl (by rw [HLJ.out]; omega) ?_; intro g8 cap8 w8 C8; rw [HLJ.out] at C8 ⊢; clear C)
                  go_roundw
                  case rel => exact ⟨j + 1, by omega, by go_num, by rw [HSN.out]; exact C8⟩
                  case measure => simp [intOf]; omega
                · obtain rfl : j = m := by omega
                  rw [List.take_of_length_le (by rw [HLM.out]; omega)] at C
                  obtain ⟨O3, hO3, RV, C9'⟩ := C.row_freeze 0 rfl (by rw [HLM.out]; omega)
                  have C9 : Ctx w none O O3 [Row (kSl kInt) 64 (.slice A1 k cp) p, Cells g2 34 #[.bool (x == 1), .int .i64 0, .slice A1 k cp], Cells g1 28 #[v6]] wr := C9'
                  clear C9'
                  obtain ⟨A9, c9, rfl, hc9⟩ := RV.form
                  have HRV := Lib.hid RV
                  clear C RV
                  go_wp2_with (at_builtin; (refine ev_append (C := C9) el32 (.slice A1 k cp) ls (cs := [.slice A9 ls.length c9]) rfl rfl rfl rfl ⟨_, rfl, HRV.out⟩ (by rw [HPK.out]; omega) ?_); intro g10 cap10 w10 C10; rw [HPK.out] at C10 ⊢; clear C9)
                  go_roundw
                  case rel =>
                    exact ⟨k + 1, p ++ [ls], r.drop j, _, v6, O3, by omega, by simp [HPK.out], by go_num, hO2.trans hO3, Lib.hid (by
                      rw [HRR.out, show cars - k = (cars - (k + 1)) + 1 by omega, readRows, if_pos (by omega), ← HLS.out]
                      rw [Int.toNat_natCast]
                      cases readRows (cars - (k + 1)) (r.drop j) <;> simp), Lib.hid (R7.out.mono hO3), Lib.hid (fun y hy => HUR.out y (List.mem_cons_of_mem _ (List.mem_of_mem_drop hy))), Lib.hid (by have := HLR.out; simp at this; rw [List.length_drop]; omega), Ctx.setCell (C := C10) (g := g2) 2 _⟩
                  case measure => simp [intOf]; omega
            · go_wp2_with (first | ((with_reducible refine gSt 34 ?_); refine ev_storeW (t := 34) (ty := 34) (g := g2) (vs := claimC (x == 1) 0 (.slice A1 k cp)) rfl rfl rfl rfl (by kernel_rfl) rfl (by rw [List.all_toArray]; rfl) ?_; intro w6 C6) | (go_at_call 74; refine (checkTake_yes (C := C) ((m : Int) :: r) RR.out 1 (by simp)).mono ?_; rintro e w5 ⟨A5, v5, rfl, r1, r2, C5⟩; clear C; obtain ⟨b5, o5, rfl, q5⟩ := fzInt r1 0 (by simp); simp only [List.take_succ_cons, List.take_zero, List.getElem_cons_zero, Nat.add_zero] at q5; simp only [List.drop_succ_cons, List.drop_zero] at r2; have R5 := Lib.hid r2; clear r1 r2) | (go_at_call 74; refine (checkTake_no (C := C5) r R5.out m (by omega) (by omega)).mono ?_; rintro e w6 ⟨rfl, rfl⟩))
              exact bodyPost_ret (results_cell_row3 rfl _ _ g2 34 _ (0, 0) _ rfl heap_ctx Try.underlying34 rfl (by kernel_rfl)) rfl (noRead (by rw [HF.out, HRR.out, show cars - k = (cars - k - 1) + 1 by omega, readRows, if_neg (by omega)]; rfl) ⟨_, _, _, rfl, rfl, C6.bel⟩)
        · obtain rfl : k = cars := by omega
          have hF : readF k b = lastF b (some (p, rst)) := by
            rw [HF.out, HRR.out, Nat.sub_self]
            simp [readRows]
          have HF2 := Lib.hid hF
          have hrl := RR.out.len
          obtain ⟨A3, c3, rfl, hc3⟩ := RR.out.form
          obtain ⟨nr, hnr⟩ : ∃ nr, rst.length = nr := ⟨_, rfl⟩
          have HNR := Lib.hid hnr
          rw [hnr] at C hc3 hrl
          clear hF hnr
          have cases3 : 1099511627776 < N ∨ (¬ 1099511627776 < N ∧ x = 0 ∧ 0 < nr) ∨ (¬ 1099511627776 < N ∧ x = 0 ∧ nr = 0) ∨ (¬ 1099511627776 < N ∧ x = 1) := by omega
          rcases cases3 with hN1 | ⟨hN1, rfl, hx1⟩ | ⟨hN1, rfl, rfl⟩ | ⟨hN1, rfl⟩
          · have HNO := Lib.hid (HF2.out.trans (lastF_none b p rst (.inl (by rw [HCS.out, HN.out]; exact hN1))))
            go_wp2_with (first | ((with_reducible refine gSt 34 ?_); refine ev_storeW (t := 34) (ty := 34) (g := g2) (vs := claimC (x == 1) 0 (.slice A1 k cp)) rfl rfl rfl rfl (by kernel_rfl) rfl (by rw [List.all_toArray]; rfl) ?_; intro w4 C4))
            exact bodyPost_ret (results_cell_row3 rfl _ _ g2 34 _ (0, 0) _ rfl heap_ctx Try.underlying34 rfl (by kernel_rfl)) rfl (noRead HNO.out ⟨_, _, _, rfl, rfl, C4.bel⟩)
          · have HNO := Lib.hid (HF2.out.trans (lastF_none b p rst (.inr (by rw [HX.out, HNR.out]; omega))))
            go_wp2_with (first | ((with_reducible refine gSt 34 ?_); refine ev_storeW (t := 34) (ty := 34) (g := g2) (vs := claimC ((0 : Int) == 1) 0 (.slice A1 k cp)) rfl rfl rfl rfl (by kernel_rfl) rfl (by rw [List.all_toArray]; rfl) ?_; intro w4 C4))
            exact bodyPost_ret (results_cell_row3 rfl _ _ g2 34 _ (0, 0) _ rfl heap_ctx Try.underlying34 rfl (by kernel_rfl)) rfl (noRead HNO.out ⟨_, _, _, rfl, rfl, C4.bel⟩)
          · have hT : b.headD 0 = 1 ∨ rst.length = 0 := by rw [HX.out, HNR.out]; omega
            have HSO := Lib.hid (HF2.out.trans (lastF_some b p rst (by rw [HCS.out, HN.out]; exact hN1) hT))
            clear hT
            go_wp2_with fail
            have CN : Ctx w none O O2 [Row (kSl kInt) 64 (.slice A1 k cp) p, Cells g2 34 #[.bool false, .int .i64 N, .slice A1 k cp], Cells g1 28 #[.slice A3 0 c3]] (wr.setCell ⟨g2, 1, none⟩ (.int .i64 N)) := Ctx.setCell (C := C) (g := g2) 1 _
            refine ev_held (S := fun W => Ctx w none O O2 [Row (kSl kInt) 64 (.slice A1 k cp) p, Cells g2 34 (claimC false N (.slice A1 k cp)), Cells g1 28 #[.slice A3 0 c3]] W) 5 rfl (by kernel_rfl) ?_
            have C4 := Ctx.drew (C := CN)
            clear CN C
            (refine h_val 0 (v := .agg ([Value.bool false, Value.int .i64 N, Value.slice A1 k cp]).toArray) rfl (by kernel_rfl) (fun _ _ _ h => h) rfl (fun W CW => ?_) C4 ?_; (exact run_loadS (C := CW) (ty := 34) ([Value.bool false, Value.int .i64 N, Value.slice A1 k cp]) rfl rfl Try.underlying34 rfl (by kernel_rfl) rfl); (dsimp only [Act.put]; simp only [List.setIfInBounds_toArray, List.set_cons_succ, List.set_cons_zero]))
            (apply h_val 1 rfl (by kernel_rfl) (fun _ _ _ h => h) rfl; (intro W CW; go_simp; rfl); exact C4; (dsimp only [Act.put]; simp only [List.setIfInBounds_toArray, List.set_cons_succ, List.set_cons_zero]))
            refine h_store 2 (g := g2) (off := 0) (t := 34) (ty := 34) (vs := claimC false N (.slice A1 k cp)) rfl (by kernel_rfl) rfl rfl rfl rfl (by kernel_rfl) (by show 0 + 3 ≤ 3; omega) (by rw [List.all_toArray]; rfl) fun w5 C5 => ⟨C5, ?_⟩
            have C5 : Ctx w none O O2 [Row (kSl kInt) 64 (.slice A1 k cp) p, Cells g2 34 (claimC false N (.slice A1 k cp)), Cells g1 28 #[.slice A3 0 c3]] w5 := C5
            dsimp only [Act.put]
            clear C4
            (apply h_val 3 rfl (by kernel_rfl) (fun _ _ _ h => h) rfl; (intro W CW; go_simp; rfl); exact C5; (dsimp only [Act.put]; simp only [List.setIfInBounds_toArray, List.set_cons_succ, List.set_cons_zero]))
            (apply h_val 4 rfl (by kernel_rfl) (fun _ _ _ h => h) rfl; (intro W CW; go_simp; rfl); exact C5; (dsimp only [Act.put]; simp only [List.setIfInBounds_toArray, List.set_cons_succ, List.set_cons_zero]))
            refine wpAnyH_done (by kernel_rfl) ?_ _
            go_wp2
            obtain ⟨O3, hO3, RV, C6⟩ := C5.row_freeze 0 rfl (by rw [HPK.out]; omega)
            have C6 : Ctx w none O O3 [Cells g2 34 (claimC false N (.slice A1 k cp)), Cells g1 28 #[.slice A3 0 c3]] w5 := C6
            refine bodyPost_ret (results_cell_row3 rfl _ _ g2 34 _ (0, 0) _ rfl (heap_ctx (C := C5)) Try.underlying34 rfl (by kernel_rfl)) rfl ?_
            rw [HSO.out]
            exact ⟨.slice A1 k cp, .slice A3 0 c3, O3, by rw [HX.out, HCS.out, HN.out]; rfl, hO2.trans hO3, RV, by have := RR.out.mono hO3; rwa [HNR.out] at this, (C6.drop 0).drop 0⟩

          · have hT : b.headD 0 = 1 ∨ rst.length = 0 := by rw [HX.out, HNR.out]; omega
            have HSO := Lib.hid (HF2.out.trans (lastF_some b p rst (by rw [HCS.out, HN.out]; exact hN1) hT))
            clear hT
            go_wp2_with fail
            have CN : Ctx w none O O2 [Row (kSl kInt) 64 (.slice A1 k cp) p, Cells g2 34 #[.bool true, .int .i64 N, .slice A1 k cp], Cells g1 28 #[.slice A3 nr c3]] (wr.setCell ⟨g2, 1, none⟩ (.int .i64 N)) := Ctx.setCell (C := C) (g := g2) 1 _
            refine ev_held (S := fun W => Ctx w none O O2 [Row (kSl kInt) 64 (.slice A1 k cp) p, Cells g2 34 (claimC true N (.slice A1 k cp)), Cells g1 28 #[.slice A3 nr c3]] W) 5 rfl (by kernel_rfl) ?_
            have C4 := Ctx.drew (C := CN)
            clear CN C
            (refine h_val 0 (v := .agg ([Value.bool true, Value.int .i64 N, Value.slice A1 k cp]).toArray) rfl (by kernel_rfl) (fun _ _ _ h => h) rfl (fun W CW => ?_) C4 ?_; (exact run_loadS (C := CW) (ty := 34) ([Value.bool true, Value.int .i64 N, Value.slice A1 k cp]) rfl rfl Try.underlying34 rfl (by kernel_rfl) rfl); (dsimp only [Act.put]; simp only [List.setIfInBounds_toArray, List.set_cons_succ, List.set_cons_zero]))
            (apply h_val 1 rfl (by kernel_rfl) (fun _ _ _ h => h) rfl; (intro W CW; go_simp; rfl); exact C4; (dsimp only [Act.put]; simp only [List.setIfInBounds_toArray, List.set_cons_succ, List.set_cons_zero]))
            refine h_store 2 (g := g2) (off := 0) (t := 34) (ty := 34) (vs := claimC true N (.slice A1 k cp)) rfl (by kernel_rfl) rfl rfl rfl rfl (by kernel_rfl) (by show 0 + 3 ≤ 3; omega) (by rw [List.all_toArray]; rfl) fun w5 C5 => ⟨C5, ?_⟩
            have C5 : Ctx w none O O2 [Row (kSl kInt) 64 (.slice A1 k cp) p, Cells g2 34 (claimC true N (.slice A1 k cp)), Cells g1 28 #[.slice A3 nr c3]] w5 := C5
            dsimp only [Act.put]
            clear C4
            (apply h_val 3 rfl (by kernel_rfl) (fun _ _ _ h => h) rfl; (intro W CW; go_simp; rfl); exact C5; (dsimp only [Act.put]; simp only [List.setIfInBounds_toArray, List.set_cons_succ, List.set_cons_zero]))
            (apply h_val 4 rfl (by kernel_rfl) (fun _ _ _ h => h) rfl; (intro W CW; go_simp; rfl); exact C5; (dsimp only [Act.put]; simp only [List.setIfInBounds_toArray, List.set_cons_succ, List.set_cons_zero]))
            refine wpAnyH_done (by kernel_rfl) ?_ _
            go_wp2
            obtain ⟨O3, hO3, RV, C6⟩ := C5.row_freeze 0 rfl (by rw [HPK.out]; omega)
            have C6 : Ctx w none O O3 [Cells g2 34 (claimC true N (.slice A1 k cp)), Cells g1 28 #[.slice A3 nr c3]] w5 := C6
            refine bodyPost_ret (results_cell_row3 rfl _ _ g2 34 _ (0, 0) _ rfl (heap_ctx (C := C5)) Try.underlying34 rfl (by kernel_rfl)) rfl ?_
            rw [HSO.out]
            exact ⟨.slice A1 k cp, .slice A3 nr c3, O3, by rw [HX.out, HCS.out, HN.out]; rfl, hO2.trans hO3, RV, by have := RR.out.mono hO3; rwa [HNR.out] at this, (C6.drop 0).drop 0⟩
theorem checkRead (cars : Nat) (hcars : cars ≤ 20) (b : List Int) (hb : U8 b) (O : PH) (v : Value) (w : World) (hO : PLe O (hp w)) (r : Rd kU8 O v b) :
    Calls Try.prog 38 #[.int .i64 cars, v] w fun e w' => ReadPost O w (readF cars b) e w' := by
  by_cases h : b.length < 9
  · exact (checkRead_short cars b O v w hO r h).mono fun e w' k => noRead (by unfold readF; rw [if_pos (.inl h)]) k
  · by_cases h1 : 1 < b.headD 0
    · exact (checkRead_bad cars b hb O v w hO r h h1).mono fun e w' k => noRead (by unfold readF; rw [if_pos (.inr h1)]) k
    · exact checkRead_good cars hcars b hb O v w hO r h h1
end Go.Proofs.Ytomfgggomjbnfaa
