/- The walk of the document's answer for plans that may be. -/
import Derived.Test.YtomfgggomjbnfaaTA
import Derived.Test.YtomfgggomjbnfaaTB
import Derived.Outline
set_option linter.unusedVariables false
set_option linter.unusedSimpArgs false
namespace Go.Proofs.Ytomfgggomjbnfaa
open Go.RowKit Go.Sep
attribute [local go_sem] cell_ctx frozen_ctx cell_fz arr_at
theorem seenL_count (s : Snap) (c : Nat) : ∀ (l : List Int) (seen x : List Bool), seenL s c seen l = some x → ∀ n : Nat, l.count (n : Int) + (seen.getD n false).toNat = (x.getD n false).toNat
  | [], seen, x, h, n => by cases h; simp
  | w :: l, seen, x, h, n => by
    unfold seenL at h
    split at h
    · rename_i hc
      obtain ⟨c1, c2, c3, c4⟩ := hc
      have ih := seenL_count s c l _ _ h n
      obtain ⟨m, rfl⟩ := Int.eq_ofNat_of_zero_le c1
      rw [Int.toNat_natCast] at *
      have hm : m < seen.length := by omega
      rw [List.getD_eq_getElem?_getD, List.getElem?_eq_getElem hm, Option.getD_some] at c3
      rw [← ih, List.count_cons, List.getD_eq_getElem?_getD, List.getD_eq_getElem?_getD, List.getElem?_set]
      by_cases e : m = n
      · subst e
        simp [hm, c3]
      · have : ¬ ((m : Int) = (n : Int)) := by omega
        simp [e, this]
    · cases h
theorem seenP_count (s : Snap) : ∀ (p : List (List Int)) (c : Nat) (seen x : List Bool), seenP s c seen p = some x → ∀ n : Nat, p.flatten.count (n : Int) + (seen.getD n false).toNat = (x.getD n false).toNat
  | [], c, seen, x, h, n => by cases h; simp
  | l :: p, c, seen, x, h, n => by
    unfold seenP at h
    cases hl : seenL s c seen l with
    | none => rw [hl] at h; cases h
    | some y =>
      rw [hl] at h
      have h1 := seenL_count s c l _ _ hl n
      have h2 := seenP_count s p (c + 1) _ _ h n
      rw [List.flatten_cons, List.count_append]
      omega
/-- What a plan that may be is. -/
structure Feas (s : Snap) (p : List (List Int)) : Prop where
  right : rightB s = true
  len : p.length = s.cars.length
  may : ∀ i (hi : i < p.length) w, w ∈ p[i] → 0 ≤ w ∧ w < s.wants.length ∧ mayB (s.wants.getD w.toNat ⟨0, 0⟩) (i : Nat) = true
  once : ∀ n : Nat, n < s.wants.length → p.flatten.count (n : Int) = 1
  few : p.flatten.length ≤ s.wants.length
theorem feas_of {s : Snap} {p : List (List Int)} (h : feasB s p = true) : Feas s p := by
  have hb := feasB_lists h
  unfold feasB at h
  simp only [Bool.and_eq_true, decide_eq_true_eq] at h
  obtain ⟨⟨h1, h2⟩, h3⟩ := h
  cases hs : seenP s 0 (List.replicate s.wants.length false) p with
  | none => rw [hs] at h3; cases h3
  | some x =>
    rw [hs] at h3
    have sp := seenP_spec s p 0 _ _ hs
    have sc := seenP_count s p 0 _ _ hs
    rw [List.length_replicate] at sp
    have hcx : x.countP (fun b => b) ≤ x.length := List.countP_le_length
    refine ⟨h1, h2, fun i hi w hw => ?_, fun n hn => ?_, by omega⟩
    · have := sp.2.2 i hi w hw
      rw [Nat.zero_add] at this
      exact this
    · have h4 := sc n
      have h5 : (List.replicate s.wants.length false).getD n false = false := by rw [List.getD_eq_getElem?_getD, List.getElem?_replicate]; split <;> rfl
      have hx : n < x.length := by omega
      have h6 : x.getD n false = true := by
        rw [List.getD_eq_getElem?_getD, List.getElem?_eq_getElem hx, Option.getD_some]
        have : false ∉ x := by simpa using h3
        cases hb : x[n] with
        | true => rfl
        | false => exact absurd (hb ▸ List.getElem_mem hx) this
      rw [h5, h6] at h4
      simpa using h4
/-- How often each want stands in a list. -/
def cv (n : Nat) (L : List Int) : List Int := (List.range n).map fun i => (L.count ((i : Nat) : Int) : Int)
theorem cv_len (n : Nat) (L : List Int) : (cv n L).length = n := by simp [cv]
theorem cv_at (n : Nat) (L : List Int) (i : Nat) (hi : i < (cv n L).length) : (cv n L)[i] = (L.count (i : Int) : Int) := by simp [cv]
theorem cv_nil (n : Nat) : cv n [] = List.replicate n 0 := by
  apply List.ext_getElem
  · simp [cv]
  · intro i h1 h2; simp [cv]
theorem cv_snoc (n : Nat) (L : List Int) (m : Nat) : (cv n L).set m ((L.count (m : Int) : Int) + 1) = cv n (L ++ [(m : Int)]) := by
  apply List.ext_getElem
  · simp [cv]
  · intro i h1 h2
    rw [List.getElem_set]
    split
    · rename_i e; subst e; simp [cv]
    · rename_i e
      have : ¬ ((m : Int) = (i : Int)) := by omega
      simp [cv, this]
theorem flat_split (p : List (List Int)) (k : Nat) (hk : k < p.length) : p.flatten = (p.take k).flatten ++ (p[k] ++ (p.drop (k + 1)).flatten) := by
  conv => lhs; rw [← List.take_append_drop k p, List.flatten_append, List.drop_eq_getElem_cons hk, List.flatten_cons]
def preL (p : List (List Int)) (k : Nat) (l : List Int) (j : Nat) : List Int := (p.take k).flatten ++ l.take j
theorem preL_len (p : List (List Int)) (k : Nat) (hk : k < p.length) (j : Nat) : (preL p k p[k] j).length ≤ p.flatten.length := by
  rw [flat_split p k hk]
  unfold preL
  simp only [List.length_append, List.length_take]
  omega
theorem preL_snoc (p : List (List Int)) (k : Nat) (l : List Int) (j : Nat) (hj : j < l.length) : preL p k l (j + 1) = preL p k l j ++ [l[j]] := by
  unfold preL
  rw [List.take_succ_eq_append_getElem hj, List.append_assoc]
theorem preL_next (p : List (List Int)) (k : Nat) (hk : k < p.length) (j : Nat) (hj : p[k].length ≤ j) : preL p k p[k] j = (p.take (k + 1)).flatten := by
  unfold preL
  rw [List.take_of_length_le hj, List.take_succ_eq_append_getElem hk, List.flatten_append]
  simp
theorem info3c : (Try.prog.info? 3).map (fun i => (i.zero, i.size, i.bytes)) = some (some (.int .i64 0), 1, 8) := by kernel_rfl
set_option maxRecDepth 100000 in
set_option maxHeartbeats 20000000 in
theorem refFeasible_yes (s : Snap) (p : List (List Int)) (h : Feas s p) (A4 : Option Addr) (c4 : Nat) (A2 A3 : Option Addr) (c2 c3 : Nat) (O : PH) (w : World) (hO : PLe O (hp w)) (r2 : Rd kReady O (.slice A2 s.cars.length c2) s.cars) (r3 : Rd kWant O (.slice A3 s.wants.length c3) s.wants) (r4 : Rd (kSl kInt) O (.slice A4 p.length c4) p) :
    Calls Try.prog 16 #[snapV s.site (.slice A2 s.cars.length c2) (.slice A3 s.wants.length c3), .slice A4 p.length c4] w fun e w' => e = .returned (.bool true) ∧ Below w.heap.size w w' := by
  have C0 := Ctx.start hO
  have HR := Lib.hid fun W (h' : PLe O (Go.Sep.hp W)) => refRight_yes s h.right A2 A3 c2 c3 O W h' r2 r3
  obtain ⟨-, -, hc1, hc8, hw8, -, -, hw256⟩ := right_cars h.right
  have R3 := Lib.hid r3
  have R4 := Lib.hid r4
  have HW := Lib.hid hw256
  have hpl := h.len
  have HP := Lib.hid hpl
  have HF := Lib.hid h
  rw [hpl]
  clear r2 r3 r4 hO h hpl hw256
  go_enter Try.func16, Try.ntmps16
  go_wp2_with (first | ((with_reducible refine gBox 27 ?_); refine ev_boxT (t := 27) rfl rfl (by go_simp; rfl) ?_; intro g1 w1 C1; clear C0) | ((with_reducible refine gLd 27 ?_); refine ev_loadS (ty := 27) ((snapC s.site (.slice A2 s.cars.length c2) (.slice A3 s.wants.length c3)).toList) rfl rfl rfl Try.underlying27 rfl (by kernel_rfl) rfl ?_) | ((with_reducible refine gMk 64 ?_); (refine ev_makeC (t := 64) (s.wants.length) _ _ rfl rfl Try.underlying64 info3c rfl rfl (by omega) (by omega) ?_); intro g3 w3 C3; rw [rawI_made, ← cv_nil] at C3; clear C2) | (go_at_call 25; refine (HR.out _ C1.sub).mono ?_; rintro e w2 ⟨rfl, hb⟩; have C2 := C1.keep hb; clear hb C1))
  go_loopw [4, 6, 7, 8, 25, 26, 27, 28, 29, 30, 31, 32, 33, 34, 35, 36, 37, 38, 39, 40, 41, 42, 43, 44, 45, 46, 47, 48, 49, 50, 51, 52, 53, 54, 55, 56, 57, 58, 59, 60, 61, 62, 63, 64, 65, 66, 67] (fun _ t6 _ _ _ _ _ _ _ _ _ _ _ _ _ _ _ _ _ _ _ _ _ _ _ _ _ _ _ _ _ _ _ _ _ _ _ _ _ _ _ _ _ _ _ _ _ wr => ∃ k : Nat, k ≤ s.cars.length ∧ t6 = .int .i64 k ∧ Ctx w none O O [Cells g3 3 (rawI (cv s.wants.length (p.take k).flatten)), Cells g1 27 (snapC s.site (.slice A2 s.cars.length c2) (.slice A3 s.wants.length c3))] wr) (fun _ t6 _ _ _ _ _ _ _ _ _ _ _ _ _ _ _ _ _ _ _ _ _ _ _ _ _ _ _ _ _ _ _ _ _ _ _ _ _ _ _ _ _ _ _ _ _ _ => s.cars.length - (intOf t6).toNat)

  case atStart => exact ⟨0, Nat.zero_le _, rfl, C3⟩
  case round =>
    clear C3
    obtain ⟨k, hk, rfl, C⟩ := hrel
    by_cases hlt : k < s.cars.length
    · have hkp : k < p.length := by rw [HP.out]; exact hlt
      obtain ⟨b5, o5, A5, c5, rfl, q5, r5, hc5⟩ := Rd_fzS R4.out k hkp
      have hll := rows_len R4.out _ (List.getElem_mem hkp)
      have hmy := HF.out.may k hkp
      have hpre := preL_len p k hkp
      have hnext := preL_next p k hkp
      have h0 : preL p k p[k] 0 = (p.take k).flatten := by simp [preL]
      rw [← h0] at C
      obtain ⟨l, hlx⟩ : ∃ l, p[k] = l := ⟨_, rfl⟩
      rw [hlx] at q5 r5 hc5 hll hmy hpre hnext C
      have HLX := Lib.hid hlx
      have R5 := Lib.hid r5
      have HMY := Lib.hid hmy
      have HPRE := Lib.hid hpre
      have HNEXT := Lib.hid hnext
      clear r5 hlx hmy hpre hnext h0
      go_wp2_with fail
      go_loopw [4, 7, 8, 31, 32, 33, 34, 35, 36, 37, 38, 39, 40, 41, 42, 43, 44, 45, 46, 47, 48, 49, 50, 51, 52, 53, 54, 55, 56, 57, 58, 59, 60, 61, 62, 63, 64, 65, 66, 67] (fun _ t7 _ _ _ _ _ _ _ _ _ _ _ _ _ _ _ _ _ _ _ _ _ _ _ _ _ _ _ _ _ _ _ _ _ _ _ _ _ _ wr => ∃ j : Nat, j ≤ l.length ∧ t7 = .int .i64 j ∧ Ctx w none O O [Cells g3 3 (rawI (cv s.wants.length (preL p k l j))), Cells g1 27 (snapC s.site (.slice A2 s.cars.length c2) (.slice A3 s.wants.length c3))] wr) (fun _ t7 _ _ _ _ _ _ _ _ _ _ _ _ _ _ _ _ _ _ _ _ _ _ _ _ _ _ _ _ _ _ _ _ _ _ _ _ _ _ _ => l.length - (intOf t7).toNat)

      case atStart => exact ⟨0, Nat.zero_le _, rfl, C⟩
      case round =>
        clear C
        obtain ⟨j, hj, rfl, C⟩ := hrel
        by_cases hlt2 : j < l.length
        · obtain ⟨b6, o6, rfl, q6⟩ := fzInt R5.out j hlt2
          have hsn := preL_snoc p k l j hlt2
          have hmj := HMY.out l[j] (List.getElem_mem _)
          obtain ⟨x, hx⟩ : ∃ x, l[j] = x := ⟨_, rfl⟩
          rw [hx] at q6 hsn hmj
          obtain ⟨x0, xn, xm⟩ := hmj
          obtain ⟨n, rfl⟩ := Int.eq_ofNat_of_zero_le x0
          have hnw : n < s.wants.length := by omega
          rw [Int.toNat_natCast, List.getD_eq_getElem?_getD, List.getElem?_eq_getElem hnw, Option.getD_some] at xm
          have hww := HW.out _ (List.getElem_mem hnw)
          have hM := refMay s (.slice A2 s.cars.length c2) rfl A3 c3
          have HM := Lib.hid fun W (h : PLe O (Go.Sep.hp W)) => hM O W h R3.out n hnw k (by omega) hww.1 hww.2
          rw [xm] at HM
          have hcvl : n < (cv s.wants.length (preL p k l j)).length := by rw [cv_len]; exact hnw
          have z0 := rawI_at n hcvl
          rw [cv_at] at z0
          have hcn : ((preL p k l j).count (n : Int) : Int) ≤ 128 := by
            have := List.count_le_length (a := (n : Int)) (l := preL p k l j)
            have := HPRE.out j
            have := HF.out.few
            omega
          have hst := cv_snoc s.wants.length (preL p k l j) n
          rw [← hsn] at hst
          obtain ⟨y, hy⟩ : ∃ y : Nat, (preL p k l j).count (n : Int) = y := ⟨_, rfl⟩
          rw [hy] at z0 hcn hst
          have HST := Lib.hid hst
          clear hM hx xm hww hcvl hst hy hsn
          go_wp2_with (first | ((with_reducible refine gLd 27 ?_); refine ev_loadS (ty := 27) ((snapC s.site (.slice A2 s.cars.length c2) (.slice A3 s.wants.length c3)).toList) rfl rfl rfl Try.underlying27 rfl (by kernel_rfl) rfl ?_) | (go_at_call 42; (refine (HM.out _ C.sub).mono ?_); rintro e w8 ⟨rfl, hb⟩; have C8 := C.keep hb; clear hb C))
          go_roundw
          case rel =>
            refine ⟨j + 1, by omega, by go_num, ?_⟩
            have := Ctx.setCell (C := C8) (g := g3) n (Value.int .i64 ((y : Int) + 1))
            rw [rawI_set, HST.out] at this
            exact this
          case measure => simp [intOf]; omega
        · go_wp2
          go_roundw
          case rel => exact ⟨k + 1, by omega, by go_num, by rw [← HNEXT.out j (by omega)]; exact C⟩
          case measure => simp [intOf]; omega
    · have hk2 : (p.take k).flatten = p.flatten := by rw [List.take_of_length_le (by rw [HP.out]; omega)]
      rw [hk2] at C
      clear hk2
      go_wp2_with fail
      go_loopw [4, 9, 68, 69, 70, 71, 72, 73, 74, 75, 76, 77, 78] (fun _ t9 _ _ _ _ _ _ _ _ _ _ _ wr => ∃ i : Nat, i ≤ s.wants.length ∧ t9 = .int .i64 i ∧ Ctx w none O O [Cells g3 3 (rawI (cv s.wants.length p.flatten)), Cells g1 27 (snapC s.site (.slice A2 s.cars.length c2) (.slice A3 s.wants.length c3))] wr) (fun _ t9 _ _ _ _ _ _ _ _ _ _ _ _ => s.wants.length - (intOf t9).toNat)

      case atStart => exact ⟨0, Nat.zero_le _, rfl, C⟩
      case round =>
        clear C
        obtain ⟨i, hi, rfl, C⟩ := hrel
        by_cases hlt3 : i < s.wants.length
        · have hcvl : i < (cv s.wants.length p.flatten).length := by rw [cv_len]; exact hlt3
          have z0 := rawI_at i hcvl
          rw [cv_at, HF.out.once i hlt3] at z0
          clear hcvl
          go_wp2
          go_roundw
          case rel => exact ⟨i + 1, by omega, by go_num, C⟩
          case measure => simp [intOf]; omega
        · go_wp2
          go_ret
          exact ⟨rfl, C.bel⟩
end Go.Proofs.Ytomfgggomjbnfaa
