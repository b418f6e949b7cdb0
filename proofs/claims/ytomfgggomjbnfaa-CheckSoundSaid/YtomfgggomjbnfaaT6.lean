/- The walk of the root of the check. -/
import Derived.Test.YtomfgggomjbnfaaT4
import Derived.Test.YtomfgggomjbnfaaJ
import Derived.Outline
set_option linter.unusedVariables false
set_option linter.unusedSimpArgs false
namespace Go.Proofs.Ytomfgggomjbnfaa
open Go.RowKit Go.Sep
attribute [local go_sem] cell_ctx frozen_ctx cell_fz
/-- A cabin that is ready, as a drive that has not begun. -/
abbrev Drv.of (r : Ready) : Drv := ⟨r.floor, -1, r.after, 0⟩
theorem el141 : ElT Try.prog 141 146 kDrv.sz 32 := ElT.mk' Try.underlying141 info146 rfl (by decide) (by decide)
theorem el64n : ElT Try.prog 64 3 kNat.sz 8 := ElT.mk' Try.underlying64 (by kernel_rfl : (Try.prog.info? 3).map (fun i => (i.zero, i.size, i.bytes)) = some (some (.int .i64 0), 1, 8)) rfl (by decide) (by decide)
set_option maxRecDepth 100000 in
set_option maxHeartbeats 20000000 in
theorem checkRoot (s : Snap) (hc8 : s.cars.length ≤ 8) (hw8 : s.wants.length ≤ 128) (A2 A3 : Option Addr) (c2 c3 : Nat) (O : PH) (w : World) (hO : PLe O (hp w)) (r2 : Rd kReady O (.slice A2 s.cars.length c2) s.cars) (r3 : Rd kWant O (.slice A3 s.wants.length c3) s.wants) :
    Calls Try.prog 77 #[snapV s.site (.slice A2 s.cars.length c2) (.slice A3 s.wants.length c3)] w fun e w' => ∃ v1 v2, e = .returned (.agg #[.int .i64 0, v1, v2]) ∧
      Ctx w none O O [Row kNat 3 v2 (List.range s.wants.length), Row kDrv 146 v1 (s.cars.map Drv.of)] w' := by
  have C0 := Ctx.start hO
  have R2 := Lib.hid r2
  have R3 := Lib.hid r3
  have lc := r2.len
  have lw := r3.len
  clear r2 r3 hO
  go_enter Try.func77, Try.ntmps77
  go_wp2_with (first | ((with_reducible refine gBox 27 ?_); refine ev_boxT (t := 27) rfl rfl (by go_simp; rfl) ?_; intro g1 w1 C1; clear C0) | ((with_reducible refine gAl 143 ?_); refine ev_alloc (t := 143) rfl rfl (by go_simp; rfl) ?_; first | (have _t := C1; intro g2 w2 C2; clear C1) | (intro g3 w3 C3; clear C2)) | ((with_reducible refine gSt 143 ?_); refine ev_storeW (t := 143) (ty := 143) (g := g3) (vs := #[Value.int .i64 0, Value.slice none 0 0, Value.slice none 0 0]) rfl rfl rfl rfl (by kernel_rfl) (by rfl) (by rw [List.all_toArray]; rfl) ?_; intro w4 C4; clear C3))
  have D := C4.empty (A := Row kDrv 146 (.slice none 0 0) []) (.inl ⟨rfl, rfl, rfl⟩)
  clear C4
  go_loopw [5, 11, 12, 13, 14, 15, 16, 17, 18, 19, 20, 21, 22, 23, 24, 25] (fun _ t11 _ _ _ _ _ _ _ _ _ _ _ _ _ _ wr => ∃ (k : Nat) (v1 : Value), k ≤ s.cars.length ∧ t11 = .int .i64 k ∧ Ctx w none O O [Row kDrv 146 v1 ((s.cars.take k).map Drv.of), Cells g3 143 #[.int .i64 0, v1, .slice none 0 0], Cells g2 143 #[.int .i64 0, .slice none 0 0, .slice none 0 0], Cells g1 27 (snapC s.site (.slice A2 s.cars.length c2) (.slice A3 s.wants.length c3))] wr) (fun _ t11 _ _ _ _ _ _ _ _ _ _ _ _ _ _ _ => s.cars.length - (intOf t11).toNat)

  case atStart => exact ⟨0, _, Nat.zero_le _, rfl, D⟩
  case round =>
    clear D
    obtain ⟨k, v1, hk, rfl, C⟩ := hrel
    obtain ⟨A1, cp, rfl, hcp⟩ := Ctx.row_form (C := C) (v := v1)
    have hml : ((s.cars.take k).map Drv.of).length = k := by rw [List.length_map, List.length_take]; omega
    have HML := Lib.hid hml
    rw [hml] at C
    clear hml hcp
    by_cases hlt : k < s.cars.length
    · obtain ⟨b2, o2, rfl, q0, q1⟩ := fzReady R2.out k hlt
      have hsn : (s.cars.take (k + 1)).map Drv.of = (s.cars.take k).map Drv.of ++ [Drv.of s.cars[k]] := by rw [List.take_succ_eq_append_getElem hlt, List.map_append]; rfl
      obtain ⟨f, hf⟩ : ∃ f, s.cars[k].floor = f := ⟨_, rfl⟩
      obtain ⟨a, ha⟩ : ∃ a, s.cars[k].after = a := ⟨_, rfl⟩
      have hd : Drv.of s.cars[k] = ⟨f, -1, a, 0⟩ := by unfold Drv.of; rw [hf, ha]
      rw [hd] at hsn
      rw [hf] at q0
      rw [ha] at q1
      have HSN := Lib.hid hsn
      clear hsn hf ha hd
      go_wp2_with (first | ((with_reducible refine gAl 67 ?_); refine ev_alloc (t := 67) rfl rfl (by go_simp; rfl) ?_; intro g5 w5 C5; clear C) | ((with_reducible refine gSt 67 ?_); (refine ev_storeW (t := 67) (ty := 67) (g := g5) (vs := #[Value.int .i64 f, Value.int .i64 a]) rfl rfl rfl rfl (by kernel_rfl) (by rfl) (by rw [List.all_toArray]; rfl) ?_); intro w6 C6; clear C5) | (at_builtin; (refine ev_append (C := C6) el141 (.slice A1 k cp) (⟨f, -1, a, 0⟩ : Drv) (cs := drvL ⟨f, -1, a, 0⟩) rfl rfl rfl rfl rfl (by rw [HML.out]; omega) ?_); intro g7 cap w7 C7; rw [HML.out] at C7 ⊢; clear C6))
      go_roundw
      case rel => exact ⟨k + 1, _, by omega, by go_num, by rw [HSN.out]; exact (Ctx.setCell (C := C7) (g := g3) 1 _).drop 0⟩
      case measure => simp [intOf]; omega
    · have hk' : k = s.cars.length := by omega
      have e1 : s.cars.take k = s.cars := List.take_of_length_le (by omega)
      rw [e1] at C
      have HK := Lib.hid hk'
      clear e1 hk'
      go_wp2_with fail
      have D := C.empty (A := Row kNat 3 (.slice none 0 0) []) (.inl ⟨rfl, rfl, rfl⟩)
      clear C
      go_loopw [6, 29, 30, 31, 32, 33, 34, 35, 36, 37, 38] (fun _ t29 _ _ _ _ _ _ _ _ _ wr => ∃ (j : Nat) (v2 : Value), j ≤ s.wants.length ∧ t29 = .int .i64 j ∧ Ctx w none O O [Row kNat 3 v2 (List.range j), Row kDrv 146 (.slice A1 k cp) (s.cars.map Drv.of), Cells g3 143 #[.int .i64 0, .slice A1 k cp, v2], Cells g2 143 #[.int .i64 0, .slice none 0 0, .slice none 0 0], Cells g1 27 (snapC s.site (.slice A2 s.cars.length c2) (.slice A3 s.wants.length c3))] wr) (fun _ t29 _ _ _ _ _ _ _ _ _ _ => s.wants.length - (intOf t29).toNat)

      case atStart => exact ⟨0, _, Nat.zero_le _, rfl, D⟩
      case round =>
        clear D
        obtain ⟨j, v2, hj, rfl, C⟩ := hrel
        obtain ⟨A4, c4, rfl, hc4⟩ := Ctx.row_form (C := C) (v := v2)
        rw [List.length_range] at C hc4
        by_cases hlt2 : j < s.wants.length
        · go_wp2_with (first | (at_builtin; (refine ev_append (C := C) el64n (.slice A4 j c4) j (cs := [.int .i64 (j : Int)]) rfl rfl rfl rfl rfl (by rw [List.length_range]; omega) ?_); intro g8 cap8 w8 C8; rw [List.length_range] at C8 ⊢; clear C))
          go_roundw
          case rel => exact ⟨j + 1, _, by omega, by go_num, by rw [List.range_succ]; exact Ctx.setCell (C := C8) (g := g3) 2 _⟩
          case measure => simp [intOf]; omega
        · have hj' : j = s.wants.length := by omega
          have HJ := Lib.hid hj'
          clear hj'
          go_wp2_with (first | ((with_reducible refine gSt 143 ?_); refine ev_storeW (t := 143) (ty := 143) (g := g2) (vs := #[Value.int .i64 0, .slice A1 k cp, .slice A4 j c4]) rfl rfl rfl rfl (by kernel_rfl) (by rfl) (by rw [List.all_toArray]; rfl) ?_; intro w9 C9; clear C))
          refine bodyPost_ret (results_cell_row rfl _ _ g2 143 _ (0, 0) _ rfl heap_ctx Try.underlying143 rfl (by kernel_rfl)) rfl ⟨_, _, rfl, ?_⟩
          rw [← HJ.out]
          exact ((C9.drop 2).drop 2).drop 2
end Go.Proofs.Ytomfgggomjbnfaa
