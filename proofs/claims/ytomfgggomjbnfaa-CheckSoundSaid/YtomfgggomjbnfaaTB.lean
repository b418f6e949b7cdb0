/- The walks of the document's answer for snapshots and plans that may be. -/
import Derived.Test.YtomfgggomjbnfaaT8
import Derived.Test.YtomfgggomjbnfaaT2
import Derived.Outline
set_option linter.unusedVariables false
set_option linter.unusedSimpArgs false
namespace Go.Proofs.Ytomfgggomjbnfaa
open Go.RowKit Go.Sep
attribute [local go_sem] cell_ctx frozen_ctx cell_fz
set_option maxRecDepth 100000 in
set_option maxHeartbeats 20000000 in
theorem refRight_yes (s : Snap) (h : rightB s = true) (A2 A3 : Option Addr) (c2 c3 : Nat) (O : PH) (w : World) (hO : PLe O (hp w)) (r2 : Rd kReady O (.slice A2 s.cars.length c2) s.cars) (r3 : Rd kWant O (.slice A3 s.wants.length c3) s.wants) :
    Calls Try.prog 25 #[snapV s.site (.slice A2 s.cars.length c2) (.slice A3 s.wants.length c3)] w fun e w' => e = .returned (.bool true) ∧ Below w.heap.size w w' := by
  have C0 := Ctx.start hO
  obtain ⟨hs, hcs, hc1, hc8, hw8, hrd, hwd, -⟩ := right_cars h
  have HSI := Lib.hid fun W => refSite_yes s.site hs W
  have R2 := Lib.hid r2
  have R3 := Lib.hid r3
  have HRD := Lib.hid hrd
  have HWD := Lib.hid hwd
  have hsc : 1 ≤ s.site.cars ∧ s.site.cars ≤ 8 := (siteB_iff.1 hs).2.1
  obtain ⟨hs1, hs2⟩ := hsc
  have e1 : ((s.cars.length : Int) == s.site.cars) = true := by simpa using hcs
  have e2 : ((s.cars.length : Int) != s.site.cars) = false := by simpa using hcs
  have HCS := Lib.hid hcs
  clear r2 r3 hO h hs hrd hwd hcs
  go_enter Try.func25, Try.ntmps25
  go_wp2_with (first | ((with_reducible refine gBox 27 ?_); refine ev_boxT (t := 27) rfl rfl (by go_simp; rfl) ?_; intro g1 w1 C1; clear C0) | ((with_reducible refine gLd 23 ?_); refine ev_loadS (ty := 23) ((siteC s.site).toList) rfl rfl rfl Try.underlying23 rfl (by kernel_rfl) rfl ?_) | (go_at_call 32; refine (HSI.out _).mono ?_; rintro e w2 ⟨rfl, hb⟩; have C2 := C1.keep hb; clear hb C1))
  go_loopw [2, 3, 4, 28, 29, 30, 31, 32, 33, 34, 35, 36, 37, 38, 39, 40, 41, 42, 43, 44, 45, 46, 47, 48, 49, 50, 51, 52, 53, 54, 55, 56, 57, 58, 59, 60] (fun _ t3 _ _ _ _ _ _ _ _ _ _ _ _ _ _ _ _ _ _ _ _ _ _ _ _ _ _ _ _ _ _ _ _ _ _ wr => ∃ k : Nat, k ≤ s.cars.length ∧ t3 = .int .i64 k ∧ Ctx w none O O [Cells g1 27 (snapC s.site (.slice A2 s.cars.length c2) (.slice A3 s.wants.length c3))] wr) (fun _ t3 _ _ _ _ _ _ _ _ _ _ _ _ _ _ _ _ _ _ _ _ _ _ _ _ _ _ _ _ _ _ _ _ _ _ _ => s.cars.length - (intOf t3).toNat)

  case atStart => exact ⟨0, Nat.zero_le _, rfl, C2⟩
  case round =>
    clear C2
    obtain ⟨k, hk, rfl, C⟩ := hrel
    by_cases hlt : k < s.cars.length
    · obtain ⟨b2, o2, rfl, q0, q1⟩ := fzReady R2.out k hlt
      obtain ⟨⟨r1, r2⟩, r3, r4⟩ := HRD.out _ (List.getElem_mem hlt)
      obtain ⟨f, hf⟩ : ∃ f, s.cars[k].floor = f := ⟨_, rfl⟩
      obtain ⟨a, ha⟩ : ∃ a, s.cars[k].after = a := ⟨_, rfl⟩
      rw [hf] at q0 r1 r2
      rw [ha] at q1 r3 r4
      clear hf ha
      go_wp2_with (first | ((with_reducible refine gAl 67 ?_); refine ev_alloc (t := 67) rfl rfl (by go_simp; rfl) ?_; intro g4 w4 C4; clear C) | ((with_reducible refine gSt 67 ?_); refine ev_storeW (t := 67) (ty := 67) (g := g4) (vs := #[Value.int .i64 f, Value.int .i64 a]) rfl rfl rfl rfl (by kernel_rfl) (by rfl) (by rw [List.all_toArray]; rfl) ?_; intro w5 C5; clear C4))
      go_roundw
      case rel => exact ⟨k + 1, by omega, by go_num, C5.drop 0⟩
      case measure => simp [intOf]; omega
    · go_wp2_with fail
      go_loopw [5, 6, 61, 62, 63, 64, 65, 66, 67, 68, 69] (fun t5 t6 _ _ _ _ _ _ _ _ _ wr => ∃ i : Nat, (i : Int) ≤ s.site.cars ∧ t6 = .int .i64 i ∧ t5 = .int .i64 (2 ^ i) ∧ Ctx w none O O [Cells g1 27 (snapC s.site (.slice A2 s.cars.length c2) (.slice A3 s.wants.length c3))] wr) (fun _ t6 _ _ _ _ _ _ _ _ _ _ => (s.site.cars - intOf t6).toNat)

      case atStart => exact ⟨0, by omega, rfl, rfl, C⟩
      case round =>
        clear C
        obtain ⟨i, hi, rfl, rfl, C⟩ := hrel
        have hp : (2 : Int) ^ i ≤ 256 := by
          have : 2 ^ i ≤ 2 ^ 8 := Nat.pow_le_pow_right (by omega) (by omega)
          have e : ((2 ^ i : Nat) : Int) = (2 : Int) ^ i := by simp
          omega
        have hp0 : (0 : Int) ≤ 2 ^ i := Int.le_of_lt (Int.pow_pos (by omega))
        have hs' : (2 : Int) ^ (i + 1) = 2 * 2 ^ i := by rw [Int.pow_succ, Int.mul_comm]
        obtain ⟨X, hX⟩ : ∃ X : Int, 2 ^ i = X := ⟨_, rfl⟩
        rw [hX] at hp hp0 hs' ⊢
        have HX := Lib.hid hX
        have HS' := Lib.hid hs'
        clear hX hs'
        by_cases hlt2 : (i : Int) < s.site.cars
        · go_wp2
          go_roundw
          case rel => exact ⟨i + 1, by omega, by go_num, by rw [HS'.out], C⟩
          case measure => simp [intOf]; omega
        · have hXX : X = 2 ^ s.cars.length := by
            rw [← HX.out]
            have : i = s.cars.length := by have := HCS.out; omega
            rw [this]
          have HXX := Lib.hid hXX
          clear hXX
          obtain ⟨y, hy⟩ : ∃ y : Int, (i : Int) = y := ⟨_, rfl⟩
          rw [hy] at hlt2 hi ⊢
          clear hy
          go_wp2_with fail
          go_loopw [2, 7, 8, 70, 71, 72, 73, 74, 75, 76, 77, 78, 79, 80, 81, 82, 83, 84, 85, 86, 87, 88, 89, 90, 91, 92, 93, 94, 95, 96, 97, 98, 99, 100, 101, 102, 103] (fun _ t7 _ _ _ _ _ _ _ _ _ _ _ _ _ _ _ _ _ _ _ _ _ _ _ _ _ _ _ _ _ _ _ _ _ _ _ wr => ∃ j : Nat, j ≤ s.wants.length ∧ t7 = .int .i64 j ∧ Ctx w none O O [Cells g1 27 (snapC s.site (.slice A2 s.cars.length c2) (.slice A3 s.wants.length c3))] wr) (fun _ t7 _ _ _ _ _ _ _ _ _ _ _ _ _ _ _ _ _ _ _ _ _ _ _ _ _ _ _ _ _ _ _ _ _ _ _ _ => s.wants.length - (intOf t7).toNat)

          case atStart => exact ⟨0, Nat.zero_le _, rfl, C⟩
          case round =>
            clear C
            obtain ⟨j, hj, rfl, C⟩ := hrel
            by_cases hlt3 : j < s.wants.length
            · obtain ⟨b2, o2, rfl, q0, q1⟩ := fzWant R3.out j hlt3
              obtain ⟨⟨r1, r2⟩, r3, r4⟩ := HWD.out _ (List.getElem_mem hlt3)
              obtain ⟨f, hf⟩ : ∃ f, s.wants[j].floor = f := ⟨_, rfl⟩
              obtain ⟨a, ha⟩ : ∃ a, s.wants[j].cars = a := ⟨_, rfl⟩
              rw [hf] at q0 r1 r2
              rw [ha] at q1 r3 r4
              rw [← HXX.out] at r4
              clear hf ha
              go_wp2_with (first | ((with_reducible refine gAl 92 ?_); refine ev_alloc (t := 92) rfl rfl (by go_simp; rfl) ?_; intro g4 w4 C4; clear C) | ((with_reducible refine gSt 92 ?_); refine ev_storeW (t := 92) (ty := 92) (g := g4) (vs := #[Value.int .i64 f, Value.int .i64 a]) rfl rfl rfl rfl (by kernel_rfl) (by rfl) (by rw [List.all_toArray]; rfl) ?_; intro w5 C5; clear C4))
              go_roundw
              case rel => exact ⟨j + 1, by omega, by go_num, C5.drop 0⟩
              case measure => simp [intOf]; omega
            · go_wp2
              go_ret
              exact ⟨rfl, C.bel⟩
end Go.Proofs.Ytomfgggomjbnfaa
