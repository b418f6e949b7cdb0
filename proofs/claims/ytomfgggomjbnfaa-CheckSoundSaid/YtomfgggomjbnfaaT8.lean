/- The walk of what tells whether a plan may be. -/
import Derived.Test.YtomfgggomjbnfaaT7
import Derived.Test.YtomfgggomjbnfaaT1
import Derived.Outline
set_option linter.unusedVariables false
set_option linter.unusedSimpArgs false
namespace Go.Sep
open Go.RowKit
section gates
variable {w : World} {P : Program} {ops : Array Oper} {rest : List Oper} {a : Act} {Q : Exit → Act → World → Prop} {d : Option Nat} {ty : TypeId} {pos : String} {af : Array Edge} {x y : Operand}
theorem gMk (t : TypeId) (h : wpList P ops Q ({ dst := d, op := .makeSlice t x y, type := ty, pos := pos, after := af, guard := none } :: rest) a w) : wpList P ops Q ({ dst := d, op := .makeSlice t x y, type := ty, pos := pos, after := af, guard := none } :: rest) a w := h
end gates
def rawB (xs : List Bool) : Array Value := (xs.map Value.bool).toArray
def rawI (xs : List Int) : Array Value := (xs.map (Value.int .i64)).toArray
theorem rawB_size (xs : List Bool) : (rawB xs).size = xs.length := by simp [rawB]
theorem rawI_size (xs : List Int) : (rawI xs).size = xs.length := by simp [rawI]
theorem rawB_at {xs : List Bool} (i : Nat) (hi : i < xs.length) : ArrAt (rawB xs) i (.bool xs[i]) := ⟨by simp [rawB, hi]⟩
theorem rawI_at {xs : List Int} (i : Nat) (hi : i < xs.length) : ArrAt (rawI xs) i (.int .i64 xs[i]) := ⟨by simp [rawI, hi]⟩
theorem rawB_set (xs : List Bool) (i : Nat) (b : Bool) : (rawB xs).setIfInBounds i (.bool b) = rawB (xs.set i b) := by simp [rawB, List.map_set]
theorem rawI_set (xs : List Int) (i : Nat) (b : Int) : (rawI xs).setIfInBounds i (.int .i64 b) = rawI (xs.set i b) := by simp [rawI, List.map_set]
theorem rawB_made (n : Nat) : madeCells (Value.bool false).cells (n * 1) = rawB (List.replicate n false) := by
  apply Array.toList_inj.1
  rw [Nat.mul_one, show (Value.bool false).cells = #[Value.bool false] from rfl, toList_madeCells_one, rawB]
  simp
theorem rawI_made (n : Nat) : madeCells (Value.int .i64 0).cells (n * 1) = rawI (List.replicate n 0) := by
  apply Array.toList_inj.1
  rw [Nat.mul_one, show (Value.int .i64 0).cells = #[Value.int .i64 0] from rfl, toList_madeCells_one, rawI]
  simp
theorem rawB_rep (O : PH) (xs : List Bool) : ∀ i x, xs[i]? = some x → kBool.rep O x (((rawB xs).toList.drop (i * kBool.sz)).take kBool.sz) := by
  intro i x hx
  obtain ⟨hi, rfl⟩ := List.getElem?_eq_some_iff.1 hx
  show ((rawB xs).toList.drop (i * 1)).take 1 = [Value.bool xs[i]]
  rw [Nat.mul_one, List.drop_eq_getElem_cons (by simpa [rawB] using hi)]
  simp [rawB]
theorem rawI_rep (O : PH) (xs : List Int) : ∀ i x, xs[i]? = some x → kInt.rep O x (((rawI xs).toList.drop (i * kInt.sz)).take kInt.sz) := by
  intro i x hx
  obtain ⟨hi, rfl⟩ := List.getElem?_eq_some_iff.1 hx
  show ((rawI xs).toList.drop (i * 1)).take 1 = [Value.int .i64 xs[i]]
  rw [Nat.mul_one, List.drop_eq_getElem_cons (by simpa [rawI] using hi)]
  simp [rawI]
end Go.Sep
namespace Go.Proofs.Ytomfgggomjbnfaa
open Go.RowKit Go.Sep
attribute [local go_sem] cell_ctx frozen_ctx cell_fz arr_at rawB_size rawI_size
/-- What a list of wants leaves seen. -/
def seenL (s : Snap) (c : Nat) : List Bool → List Int → Option (List Bool)
  | seen, [] => some seen
  | seen, w :: l => if 0 ≤ w ∧ w < seen.length ∧ seen.getD w.toNat true = false ∧ mayB (s.wants.getD w.toNat ⟨0, 0⟩) c = true then seenL s c (seen.set w.toNat true) l else none
def seenP (s : Snap) : Nat → List Bool → List (List Int) → Option (List Bool)
  | _, seen, [] => some seen
  | c, seen, l :: p => match seenL s c seen l with
    | none => none
    | some x => seenP s (c + 1) x p
/-- Whether a plan may be. -/
def feasB (s : Snap) (p : List (List Int)) : Bool :=
  rightB s && decide (p.length = s.cars.length) && match seenP s 0 (List.replicate s.wants.length false) p with
    | none => false
    | some x => !x.contains false
theorem right_cars {s : Snap} (h : rightB s = true) : siteB s.site = true ∧ (s.cars.length : Int) = s.site.cars ∧ 1 ≤ s.cars.length ∧ s.cars.length ≤ 8 ∧ s.wants.length ≤ 128 ∧ (∀ r, r ∈ s.cars → (0 ≤ r.floor ∧ r.floor < s.site.floors) ∧ r.Ok) ∧
    (∀ x, x ∈ s.wants → (0 ≤ x.floor ∧ x.floor < s.site.floors) ∧ 1 ≤ x.cars ∧ x.cars < 2 ^ s.cars.length) ∧ ∀ x, x ∈ s.wants → 0 ≤ x.cars ∧ x.cars < 256 := by
  unfold rightB at h
  simp only [Bool.and_eq_true, decide_eq_true_eq, List.all_eq_true] at h
  obtain ⟨⟨⟨⟨h1, h2⟩, h3⟩, h4⟩, h5⟩ := h
  have hb := siteB_iff.1 h1
  have hc : 1 ≤ s.cars.length ∧ s.cars.length ≤ 8 := by omega
  have h6 : ∀ x, x ∈ s.wants → (0 ≤ x.floor ∧ x.floor < s.site.floors) ∧ 1 ≤ x.cars ∧ x.cars < 2 ^ s.cars.length := fun x hx => by
    have := h5 x hx
    unfold wantB at this
    simp only [Bool.and_eq_true, decide_eq_true_eq] at this
    rw [← h2, Int.toNat_natCast] at this
    omega
  refine ⟨h1, h2, hc.1, hc.2, h3, fun r hr => ?_, h6, fun x hx => ?_⟩
  · have := h4 r hr
    unfold readyB at this
    simp only [Bool.and_eq_true, decide_eq_true_eq] at this
    unfold Ready.Ok; omega
  · have h7 := h6 x hx
    have h8 : (2 : Int) ^ s.cars.length ≤ 256 := by
      have : 2 ^ s.cars.length ≤ 2 ^ 8 := Nat.pow_le_pow_right (by omega) hc.2
      have e : ((2 ^ s.cars.length : Nat) : Int) = (2 : Int) ^ s.cars.length := by simp
      omega
    omega
theorem info4 : (Try.prog.info? 4).map (fun i => (i.zero, i.size, i.bytes)) = some (some (.bool false), 1, 1) := by kernel_rfl
set_option maxRecDepth 100000 in
set_option maxHeartbeats 2000000 in
theorem planFeasible_not (s : Snap) (p : List (List Int)) (h : (rightB s && decide (p.length = s.cars.length)) = false)
    (A4 : Option Addr) (c4 : Nat) (A2 A3 : Option Addr) (c2 c3 : Nat) (O : PH) (w : World) (hO : PLe O (hp w)) (r2 : Rd kReady O (.slice A2 s.cars.length c2) s.cars) (r3 : Rd kWant O (.slice A3 s.wants.length c3) s.wants) (hl4 : p.length ≤ 140737488355328) :
    Calls Try.prog 39 #[snapV s.site (.slice A2 s.cars.length c2) (.slice A3 s.wants.length c3), .slice A4 p.length c4] w fun e w' => e = .returned (.bool false) ∧ Below w.heap.size w w' := by
  have C0 := Ctx.start hO
  have HR := Lib.hid fun W (h : PLe O (hp W)) => planRight s A2 A3 c2 c3 O W h r2 r3
  have lc := r2.len
  cases hr : rightB s with
  | false =>
    rw [hr] at HR
    clear r2 r3 hO hr h
    go_enter Try.func39, Try.ntmps39
    go_wp2_with (first | ((with_reducible refine gBox 27 ?_); refine ev_boxT (t := 27) rfl rfl (by go_simp; rfl) ?_; intro g1 w1 C1; clear C0) | ((with_reducible refine gLd 27 ?_); refine ev_loadS (ty := 27) ((snapC s.site (.slice A2 s.cars.length c2) (.slice A3 s.wants.length c3)).toList) rfl rfl rfl Try.underlying27 rfl (by kernel_rfl) rfl ?_) | (go_at_call 37; refine (HR.out _ C1.sub).mono ?_; rintro e w2 ⟨rfl, hb⟩; have C2 := C1.keep hb; clear hb C1))
    go_ret
    exact ⟨rfl, C2.bel⟩
  | true =>
    rw [hr] at HR
    rw [hr] at h
    have hne : ¬ (p.length = s.cars.length) := by simpa using h
    have hne2 : ((p.length : Int) == (s.cars.length : Int)) = false := by simp; omega
    have hne3 : ((p.length : Int) != (s.cars.length : Int)) = true := by simp; omega
    clear r2 r3 hO hr h
    go_enter Try.func39, Try.ntmps39
    go_wp2_with (first | ((with_reducible refine gBox 27 ?_); refine ev_boxT (t := 27) rfl rfl (by go_simp; rfl) ?_; intro g1 w1 C1; clear C0) | ((with_reducible refine gLd 27 ?_); refine ev_loadS (ty := 27) ((snapC s.site (.slice A2 s.cars.length c2) (.slice A3 s.wants.length c3)).toList) rfl rfl rfl Try.underlying27 rfl (by kernel_rfl) rfl ?_) | (go_at_call 37; refine (HR.out _ C1.sub).mono ?_; rintro e w2 ⟨rfl, hb⟩; have C2 := C1.keep hb; clear hb C1))
    go_ret
    exact ⟨rfl, C2.bel⟩
theorem seenL_len (s : Snap) (c : Nat) : ∀ (l : List Int) (seen x : List Bool), seenL s c seen l = some x → x.length = seen.length
  | [], seen, x, h => by cases h; rfl
  | w :: l, seen, x, h => by
    unfold seenL at h
    split at h
    · have := seenL_len s c l _ _ h
      simpa using this
    · cases h
set_option maxRecDepth 100000 in
set_option maxHeartbeats 20000000 in
theorem planFeasible_yes (s : Snap) (p : List (List Int)) (h : rightB s = true) (hpl : p.length = s.cars.length) (hlw : ∀ l, l ∈ p → l.length ≤ 140737488355328)
    (A4 : Option Addr) (c4 : Nat) (A2 A3 : Option Addr) (c2 c3 : Nat) (O : PH) (w : World) (hO : PLe O (hp w)) (r2 : Rd kReady O (.slice A2 s.cars.length c2) s.cars) (r3 : Rd kWant O (.slice A3 s.wants.length c3) s.wants) (r4 : Rd (kSl kInt) O (.slice A4 p.length c4) p) :
    Calls Try.prog 39 #[snapV s.site (.slice A2 s.cars.length c2) (.slice A3 s.wants.length c3), .slice A4 p.length c4] w fun e w' => e = .returned (.bool (match seenP s 0 (List.replicate s.wants.length false) p with
    | none => false
    | some x => !x.contains false)) ∧ Below w.heap.size w w' := by
  have C0 := Ctx.start hO
  have HR := Lib.hid fun W (h : PLe O (hp W)) => planRight s A2 A3 c2 c3 O W h r2 r3
  rw [h] at HR
  obtain ⟨-, -, hc1, hc8, hw8, -, -, hw256⟩ := right_cars h
  have R3 := Lib.hid r3
  have R4 := Lib.hid r4
  have HW := Lib.hid hw256
  have HP := Lib.hid hpl
  have HLL := Lib.hid hlw
  obtain ⟨X, hX⟩ : ∃ X, (match seenP s 0 (List.replicate s.wants.length false) p with | none => false | some x => !x.contains false) = X := ⟨_, rfl⟩
  rw [hX, hpl]
  have HX := Lib.hid hX
  clear r2 r3 r4 hO h hpl hX hw256 hlw
  go_enter Try.func39, Try.ntmps39
  go_wp2_with (first | ((with_reducible refine gBox 27 ?_); refine ev_boxT (t := 27) rfl rfl (by go_simp; rfl) ?_; intro g1 w1 C1; clear C0) | ((with_reducible refine gLd 27 ?_); refine ev_loadS (ty := 27) ((snapC s.site (.slice A2 s.cars.length c2) (.slice A3 s.wants.length c3)).toList) rfl rfl rfl Try.underlying27 rfl (by kernel_rfl) rfl ?_) | ((with_reducible refine gMk 139 ?_); (refine ev_makeC (t := 139) (s.wants.length) _ _ rfl rfl Try.underlying139 info4 rfl rfl (by omega) (by omega) ?_); intro g3 w3 C3; rw [rawB_made] at C3; clear C2) | (go_at_call 37; refine (HR.out _ C1.sub).mono ?_; rintro e w2 ⟨rfl, hb⟩; have C2 := C1.keep hb; clear hb C1))
  go_loopw [4, 6, 7, 9, 27, 28, 29, 30, 31, 32, 33, 34, 35, 36, 37, 38, 39, 40, 41, 42, 43, 44, 45, 46, 47, 48, 49, 50, 51, 52, 53, 54, 55, 56, 57, 58, 59, 60, 61, 62, 63] (fun _ _ _ _ t27 _ _ _ _ _ _ _ _ _ _ _ _ _ _ _ _ _ _ _ _ _ _ _ _ _ _ _ _ _ _ _ _ _ _ _ _ wr => ∃ (k : Nat) (seen : List Bool), k ≤ s.cars.length ∧ t27 = .int .i64 k ∧ Hid (seen.length = s.wants.length) ∧ Hid (seenP s 0 (List.replicate s.wants.length false) p = seenP s k seen (p.drop k)) ∧ Ctx w none O O [Cells g3 4 (rawB seen), Cells g1 27 (snapC s.site (.slice A2 s.cars.length c2) (.slice A3 s.wants.length c3))] wr) (fun _ _ _ _ t27 _ _ _ _ _ _ _ _ _ _ _ _ _ _ _ _ _ _ _ _ _ _ _ _ _ _ _ _ _ _ _ _ _ _ _ _ _ => s.cars.length - (intOf t27).toNat)

  case atStart => exact ⟨0, _, Nat.zero_le _, rfl, Lib.hid (by simp), Lib.hid rfl, C3⟩
  case round =>
    clear C3
    obtain ⟨k, seen, hk, rfl, HSL, HSP, C⟩ := hrel
    by_cases hlt : k < s.cars.length
    · have hkp : k < p.length := by rw [HP.out]; exact hlt
      obtain ⟨b5, o5, A5, c5, rfl, q5, r5, hc5⟩ := Rd_fzS R4.out k hkp
      have hll := (HLL.out _ (List.getElem_mem hkp))
      have hnx : seenP s k seen (p.drop k) = match seenL s k seen p[k] with | none => none | some x => seenP s (k + 1) x (p.drop (k + 1)) := by
        rw [List.drop_eq_getElem_cons hkp, seenP]
      obtain ⟨l, hlx⟩ : ∃ l, p[k] = l := ⟨_, rfl⟩
      rw [hlx] at q5 r5 hc5 hll hnx
      have HNX := Lib.hid hnx
      have R5 := Lib.hid r5
      have HLX := Lib.hid hlx
      clear r5 hlx hnx
      go_wp2_with fail
      go_loopw [4, 9, 34, 35, 36, 37, 38, 39, 40, 41, 42, 43, 44, 45, 46, 47, 48, 49, 50, 51, 52, 53, 54, 55, 56, 57, 58, 59, 60, 61, 62] (fun _ _ t34 _ _ _ _ _ _ _ _ _ _ _ _ _ _ _ _ _ _ _ _ _ _ _ _ _ _ _ _ wr => ∃ (j : Nat) (sn : List Bool), j ≤ l.length ∧ t34 = .int .i64 j ∧ Hid (sn.length = s.wants.length) ∧ Hid (seenL s k seen l = seenL s k sn (l.drop j)) ∧ Ctx w none O O [Cells g3 4 (rawB sn), Cells g1 27 (snapC s.site (.slice A2 s.cars.length c2) (.slice A3 s.wants.length c3))] wr) (fun _ _ t34 _ _ _ _ _ _ _ _ _ _ _ _ _ _ _ _ _ _ _ _ _ _ _ _ _ _ _ _ _ => l.length - (intOf t34).toNat)

      case atStart => exact ⟨0, seen, Nat.zero_le _, rfl, HSL, Lib.hid rfl, C⟩
      case round =>
        clear C HSL q5
        obtain ⟨j, sn, hj, rfl, HSL, HSJ, C⟩ := hrel
        by_cases hlt2 : j < l.length
        · obtain ⟨b6, o6, rfl, q6⟩ := fzInt R5.out j hlt2
          have hnj : seenL s k sn (l.drop j) = if 0 ≤ l[j] ∧ l[j] < sn.length ∧ sn.getD l[j].toNat true = false ∧ mayB (s.wants.getD l[j].toNat ⟨0, 0⟩) k = true then seenL s k (sn.set l[j].toNat true) (l.drop (j + 1)) else none := by
            rw [List.drop_eq_getElem_cons hlt2, seenL]
          obtain ⟨x, hx⟩ : ∃ x, l[j] = x := ⟨_, rfl⟩
          rw [hx] at q6 hnj
          have HX2 := Lib.hid hx
          clear hx
          by_cases x0 : 0 ≤ x
          · obtain ⟨n, rfl⟩ := Int.eq_ofNat_of_zero_le x0
            by_cases xn : n < s.wants.length
            · have hns : n < sn.length := by rw [HSL.out]; exact xn
              have z0 := rawB_at n hns
              rw [Int.toNat_natCast, List.getD_eq_getElem?_getD, List.getElem?_eq_getElem hns, Option.getD_some, List.getD_eq_getElem?_getD, List.getElem?_eq_getElem xn, Option.getD_some] at hnj
              obtain ⟨b, hb⟩ : ∃ b, sn[n] = b := ⟨_, rfl⟩
              rw [hb] at z0 hnj
              have hww := HW.out _ (List.getElem_mem xn)
              have HM := Lib.hid fun W (h : PLe O (hp W)) => planMay s (.slice A2 s.cars.length c2) A3 c3 O W h R3.out n xn (k : Int) (by omega) (by omega) hww.1 hww.2
              obtain ⟨m, hm⟩ : ∃ m, mayB s.wants[n] k = m := ⟨_, rfl⟩
              rw [hm] at HM hnj
              have HNJ := Lib.hid hnj
              have HSNL := Lib.hid HSL.out
              clear hnj hb hww hm hns
              cases b with
              | true =>
                go_wp2
                go_ret
                exact ⟨ret_bool (by rw [← HX.out, HSP.out, HNX.out, HSJ.out, HNJ.out]; simp), C.bel⟩
              | false =>
                cases m with
                | true =>
                  go_wp2_with (first | ((with_reducible refine gLd 27 ?_); refine ev_loadS (ty := 27) ((snapC s.site (.slice A2 s.cars.length c2) (.slice A3 s.wants.length c3)).toList) rfl rfl rfl Try.underlying27 rfl (by kernel_rfl) rfl ?_) | (go_at_call 75; (refine (HM.out _ C.sub).mono ?_); rintro e w8 ⟨rfl, hb⟩; have C8 := C.keep hb; clear hb C))
                  go_roundw
                  case rel =>
                    refine ⟨j + 1, sn.set n true, by omega, by go_num, Lib.hid (by rw [List.length_set]; exact HSL.out), Lib.hid ?_, ?_⟩
                    · rw [HSJ.out, HNJ.out, if_pos (by refine ⟨x0, by rw [HSL.out]; omega, ?_⟩; simp)]
                    · have := Ctx.setCell (C := C8) (g := g3) n (Value.bool true)
                      rw [rawB_set] at this
                      exact this
                  case measure => simp [intOf]; omega
                | false =>
                  go_wp2_with (first | ((with_reducible refine gLd 27 ?_); refine ev_loadS (ty := 27) ((snapC s.site (.slice A2 s.cars.length c2) (.slice A3 s.wants.length c3)).toList) rfl rfl rfl Try.underlying27 rfl (by kernel_rfl) rfl ?_) | (go_at_call 75; (refine (HM.out _ C.sub).mono ?_); rintro e w8 ⟨rfl, hb⟩; have C8 := C.keep hb; clear hb C))
                  go_ret
                  exact ⟨ret_bool (by rw [← HX.out, HSP.out, HNX.out, HSJ.out, HNJ.out]; simp), C8.bel⟩
            · have HNJ := Lib.hid hnj
              clear hnj
              go_wp2
              go_ret
              exact ⟨ret_bool (by rw [← HX.out, HSP.out, HNX.out, HSJ.out, HNJ.out, if_neg (by rw [HSL.out]; omega)]), C.bel⟩
          · have HNJ := Lib.hid hnj
            clear hnj
            go_wp2
            go_ret
            exact ⟨ret_bool (by rw [← HX.out, HSP.out, HNX.out, HSJ.out, HNJ.out, if_neg (by omega)]), C.bel⟩
        · have hj' : l.drop j = [] := List.drop_eq_nil_of_le (by omega)
          have HJ := Lib.hid hj'
          clear hj'
          go_wp2
          go_roundw
          case rel => exact ⟨k + 1, sn, by omega, by go_num, HSL, Lib.hid (by rw [HSP.out, HNX.out, HSJ.out, HJ.out]; rfl), C⟩
          case measure => simp [intOf]; omega
    · have hd : p.drop k = [] := List.drop_eq_nil_of_le (by rw [HP.out]; omega)
      have HD := Lib.hid hd
      have E := C.recast (g := g3) inferInstance kBool seen s.wants.length (by rw [HSL.out]; exact Nat.le_refl _) (by unfold maxLen; omega) (by rw [rawB_size, HSL.out]; exact (Nat.mul_one _).symm) (rawB_rep O seen)
      obtain ⟨O3, hO3, RV, E2⟩ := E.row_freeze 0 rfl (by rw [HSL.out]; omega)
      have E2 : Ctx w none O O3 [Cells g1 27 (snapC s.site (.slice A2 s.cars.length c2) (.slice A3 s.wants.length c3))] wr := E2
      have HC := Lib.hid (containsBool _ _ seen false O3 wr E2.sub RV)
      rw [HSL.out] at HC
      clear hd C E RV
      go_wp2_with (first | (go_at_call 76; (refine (HC.out).mono ?_); rintro e w' ⟨rfl, rfl⟩))
      go_ret
      exact ⟨ret_bool (by rw [← HX.out, HSP.out, HD.out]; simp [seenP]), E2.bel⟩
theorem planFeasible (s : Snap) (p : List (List Int)) (hlw : ∀ l, l ∈ p → l.length ≤ 140737488355328)
    (A4 : Option Addr) (c4 : Nat) (A2 A3 : Option Addr) (c2 c3 : Nat) (O : PH) (w : World) (hO : PLe O (hp w)) (r2 : Rd kReady O (.slice A2 s.cars.length c2) s.cars) (r3 : Rd kWant O (.slice A3 s.wants.length c3) s.wants) (r4 : Rd (kSl kInt) O (.slice A4 p.length c4) p) :
    Calls Try.prog 39 #[snapV s.site (.slice A2 s.cars.length c2) (.slice A3 s.wants.length c3), .slice A4 p.length c4] w fun e w' => e = .returned (.bool (feasB s p)) ∧ Below w.heap.size w w' := by
  cases h : (rightB s && decide (p.length = s.cars.length)) with
  | false =>
    have := planFeasible_not s p h A4 c4 A2 A3 c2 c3 O w hO r2 r3 r4.len
    unfold feasB
    rw [h]
    exact this
  | true =>
    obtain ⟨h1, h2⟩ : rightB s = true ∧ p.length = s.cars.length := by simpa using h
    have := planFeasible_yes s p h1 h2 hlw A4 c4 A2 A3 c2 c3 O w hO r2 r3 r4
    unfold feasB
    rw [h, Bool.true_and]
    exact this
end Go.Proofs.Ytomfgggomjbnfaa
