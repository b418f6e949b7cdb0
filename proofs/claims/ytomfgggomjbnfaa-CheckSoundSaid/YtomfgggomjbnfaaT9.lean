/- The walk of what tells whether marks show that no plan costs less. -/
import Derived.Test.YtomfgggomjbnfaaT8
import Derived.Test.YtomfgggomjbnfaaH
import Derived.Test.YtomfgggomjbnfaaJ
import Derived.Outline
set_option linter.unusedVariables false
set_option linter.unusedSimpArgs false
namespace Go.Proofs.Ytomfgggomjbnfaa
open Go.RowKit Go.Sep
attribute [local go_sem] cell_ctx frozen_ctx cell_fz
/-- A node, as it lies on the stack. -/
structure Pl where
  (car : Nat) (drs : List Drv) (left : List Nat)
def kPl : Kind Pl where
  sz := 3
  rep := fun h x cs => ∃ v1 v2, cs = [.int .i64 (x.car : Int), v1, v2] ∧ Rd kDrv h v1 x.drs ∧ Rd kNat h v2 x.left
  mono := fun hab ⟨v1, v2, e, h1, h2⟩ => ⟨v1, v2, e, h1.mono hab, h2.mono hab⟩
  len := fun ⟨v1, v2, e, _⟩ => by rw [e]; rfl
  one := fun ⟨v1, v2, e, h1, h2⟩ u hu => by
    obtain ⟨A1, c1, e1, _⟩ := h1
    obtain ⟨A2, c2, e2, _⟩ := h2
    subst e e1 e2
    simp at hu
    rcases hu with rfl | rfl | rfl <;> rfl
def dr0 : Drv := ⟨0, 0, 0, 0⟩
def Pl.serve (s : Snap) (p : Pl) (i : Nat) : Pl := ⟨p.car, p.drs.set p.car ((p.drs.getD p.car dr0).to s.site (s.wants.getD (p.left.getD i 0) ⟨0, 0⟩).floor), p.left.take i ++ p.left.drop (i + 1)⟩
def Pl.next (p : Pl) : List Pl := if p.car + 1 < p.drs.length then [⟨p.car + 1, p.drs, p.left⟩] else []
def Pl.kids (s : Snap) (p : Pl) : Nat → List Pl
  | 0 => []
  | r + 1 => (if mayB (s.wants.getD (p.left.getD r 0) ⟨0, 0⟩) p.car = true then [p.serve s r] else []) ++ Pl.kids s p r
def Pl.root (s : Snap) : Pl := ⟨0, s.cars.map Drv.of, List.range s.wants.length⟩
/-- What marks show, of nodes that are left (the last one first). -/
def covF (s : Snap) (T : Int) : List Int → List Pl → Bool
  | [], st => decide (st.length = 0)
  | m :: ms, st => match st.getLast? with
    | none => false
    | some p => if holdsB s p.drs p.car p.left m T = true then (if m = 1 then covF s T ms (st.dropLast ++ p.next ++ p.kids s p.left.length) else covF s T ms st.dropLast) else false
structure Pl.Ok (s : Snap) (p : Pl) : Prop where
  car : p.car < p.drs.length
  len : p.drs.length = s.cars.length
  left : ∀ k, k ∈ p.left → k < s.wants.length
  few : p.left.length ≤ s.wants.length
  fit : ∀ d, d ∈ p.drs → d.FitN (s.wants.length - p.left.length)
theorem Pl.root_ok (s : Snap) (hc : 0 < s.cars.length) (hr : ∀ r, r ∈ s.cars → r.Ok) : (Pl.root s).Ok s := by
  refine ⟨by simpa [Pl.root] using hc, by simp [Pl.root], fun k hk => by simpa [Pl.root] using hk, by simp [Pl.root], fun d hd => ?_⟩
  obtain ⟨r, h1, rfl⟩ := List.mem_map.1 hd
  exact (of_fit (hr r h1)).mono (by omega)
theorem Pl.next_ok {s : Snap} {p : Pl} (h : p.Ok s) : ∀ q, q ∈ p.next → q.Ok s := by
  intro q hq
  unfold Pl.next at hq
  split at hq
  · simp at hq
    subst hq
    exact ⟨by assumption, h.len, h.left, h.few, h.fit⟩
  · cases hq
theorem Pl.serve_ok {s : Snap} (hs : siteB s.site = true) (hw : s.wants.length ≤ 128) {p : Pl} (h : p.Ok s) (i : Nat) (hi : i < p.left.length) : (p.serve s i).Ok s := by
  have h3 := h.few
  have hl : (p.left.take i ++ p.left.drop (i + 1)).length = p.left.length - 1 := by simp; omega
  refine ⟨by simpa [Pl.serve] using h.car, by simpa [Pl.serve] using h.len, fun k hk => ?_, by show (p.left.take i ++ p.left.drop (i + 1)).length ≤ _; omega, fun d hd => ?_⟩
  · rcases List.mem_append.1 hk with hk | hk
    · exact h.left k (List.mem_of_mem_take hk)
    · exact h.left k (List.mem_of_mem_drop hk)
  · show d.FitN (s.wants.length - (p.left.take i ++ p.left.drop (i + 1)).length)
    rw [hl]
    have hd : d ∈ p.drs.set p.car ((p.drs.getD p.car dr0).to s.site (s.wants.getD (p.left.getD i 0) ⟨0, 0⟩).floor) := hd
    rcases mem_set hd with e | ⟨j, _, hj⟩
    · subst e
      have hc : p.drs.getD p.car dr0 = p.drs[p.car]'h.car := by rw [List.getD_eq_getElem?_getD, List.getElem?_eq_getElem h.car, Option.getD_some]
      rw [hc]
      have := (h.fit _ (List.getElem_mem h.car)).to hs (by omega) (s.wants.getD (p.left.getD i 0) ⟨0, 0⟩).floor
      exact this.mono (by omega)
    · exact (h.fit d (List.mem_of_getElem? hj)).mono (by omega)
theorem el149 : ElT Try.prog 149 143 kPl.sz 56 := ElT.mk' Try.underlying149 (by kernel_rfl : (Try.prog.info? 143).map (fun i => (i.zero, i.size, i.bytes)) = some (some (.agg #[.int .i64 0, .slice none 0 0, .slice none 0 0]), 3, 56)) rfl (by decide) (by decide)
set_option maxRecDepth 100000 in
set_option maxHeartbeats 20000000 in
theorem checkCovered (s : Snap) (hs : siteB s.site = true) (hr : ∀ r, r ∈ s.cars → r.Ok) (hw : ∀ x, x ∈ s.wants → 0 ≤ x.cars ∧ x.cars < 256) (hc0 : 0 < s.cars.length) (hc8 : s.cars.length ≤ 8) (hw8 : s.wants.length ≤ 8) (marks : List Int) (hm : marks.length ≤ 1000000) (T : Int)
    (A4 : Option Addr) (c4 : Nat) (A2 A3 : Option Addr) (c2 c3 : Nat) (O : PH) (w : World) (hO : PLe O (hp w)) (r2 : Rd kReady O (.slice A2 s.cars.length c2) s.cars) (r3 : Rd kWant O (.slice A3 s.wants.length c3) s.wants) (r4 : Rd kU8 O (.slice A4 marks.length c4) marks) :
    Calls Try.prog 41 #[snapV s.site (.slice A2 s.cars.length c2) (.slice A3 s.wants.length c3), .slice A4 marks.length c4, .int .i64 T] w fun e w' => e = .returned (.bool (covF s T marks [Pl.root s])) ∧ Below w.heap.size w w' := by
  have C0 := Ctx.start hO
  have HROOT := Lib.hid fun W (h : PLe O (hp W)) => checkRoot s hc8 (by omega) A2 A3 c2 c3 O W h r2 r3
  have R3 := Lib.hid r3
  have R4 := Lib.hid r4
  have HS := Lib.hid hs
  have HW := Lib.hid hw
  have HOK := Lib.hid (Pl.root_ok s hc0 hr)
  clear r2 r3 r4 hO hs hr hw
  go_enter Try.func41, Try.ntmps41
  go_wp2_with (first | ((with_reducible refine gBox 27 ?_); refine ev_boxT (t := 27) rfl rfl (by go_simp; rfl) ?_; intro g1 w1 C1; clear C0) | ((with_reducible refine gLd 27 ?_); refine ev_loadS (ty := 27) ((snapC s.site (.slice A2 s.cars.length c2) (.slice A3 s.wants.length c3)).toList) rfl rfl rfl Try.underlying27 rfl (by kernel_rfl) rfl ?_) | (go_at_call 77; (refine (HROOT.out _ C1.sub).mono ?_); rintro e w3 ⟨v1, v2, rfl, D⟩; have C3 := C1.call D; simp only [List.cons_append, List.nil_append] at C3; clear C1 D; obtain ⟨O1, hO1, RV2, C4'⟩ := C3.row_freeze 0 rfl (by simp; omega); have C4 : Ctx w none O O1 [Row kDrv 146 v1 (s.cars.map Drv.of), Cells g1 27 (snapC s.site (.slice A2 s.cars.length c2) (.slice A3 s.wants.length c3))] w3 := C4'; clear C3 C4'; obtain ⟨O2, hO2, RV1, C5'⟩ := C4.row_freeze 0 rfl (by simp; omega); have C5 : Ctx w none O O2 [Cells g1 27 (snapC s.site (.slice A2 s.cars.length c2) (.slice A3 s.wants.length c3))] w3 := C5'; clear C4 C5'; have RW2 := RV2.mono hO2; clear RV2; obtain ⟨A6, cp6, rfl, _⟩ := RW2.form; obtain ⟨A7, cp7, rfl, _⟩ := RV1.form; rw [List.length_map] at RV1; rw [List.length_range] at RW2; have RX1 := Lib.hid RV1; have RX2 := Lib.hid RW2; clear RV1 RW2))
  have D := C5.new (.cells #[.int .i64 0, .slice A7 s.cars.length cp7, .slice A6 s.wants.length cp6] 143) (A := Row kPl 143 (.slice (some ⟨w3.heap.size, 0, none⟩) 1 1) [Pl.root s]) (.inr ⟨w3.heap.size, 1, _, rfl, rfl, by simp, by unfold maxLen; omega, rfl, fun i x hx => by
    cases i with
    | zero => simp at hx; subst hx; exact ⟨_, _, rfl, RX1.out, RX2.out⟩
    | succ i => simp at hx⟩)
  clear C5
  go_loopw [6, 7, 9, 10, 11, 17, 18, 19, 20, 21, 22, 23, 24, 25, 26, 27, 28, 29, 30, 31, 32, 33, 34, 35, 36, 37, 38, 39, 40, 41, 42, 43, 44, 45, 46, 47, 48, 49, 50, 51, 52, 53, 54, 55, 56, 57, 58, 59, 60, 61, 62, 63, 64, 65, 66, 67, 68, 69, 70, 71, 72, 73, 74, 75, 76, 77, 78, 79, 80, 81, 82, 83, 84, 85] (fun _ t7 _ _ _ t17 _ _ _ _ _ _ _ _ _ _ _ _ _ _ _ _ _ _ _ _ _ _ _ _ _ _ _ _ _ _ _ _ _ _ _ _ _ _ _ _ _ _ _ _ _ _ _ _ _ _ _ _ _ _ _ _ _ _ _ _ _ _ _ _ _ _ _ _ wr => ∃ (k : Nat) (st : List Pl) (O3 : PH), k ≤ marks.length ∧ t17 = .int .i64 k ∧ PLe O O3 ∧ Hid (covF s T marks [Pl.root s] = covF s T (marks.drop k) st) ∧ Hid (∀ p, p ∈ st → p.Ok s) ∧ Hid (st.length ≤ 1 + 9 * k) ∧ Ctx w none O O3 [Row kPl 143 t7 st, Cells g1 27 (snapC s.site (.slice A2 s.cars.length c2) (.slice A3 s.wants.length c3))] wr) (fun _ _ _ _ _ t17 _ _ _ _ _ _ _ _ _ _ _ _ _ _ _ _ _ _ _ _ _ _ _ _ _ _ _ _ _ _ _ _ _ _ _ _ _ _ _ _ _ _ _ _ _ _ _ _ _ _ _ _ _ _ _ _ _ _ _ _ _ _ _ _ _ _ _ _ _ => marks.length - (intOf t17).toNat)

  case atStart => exact ⟨0, [Pl.root s], O2, Nat.zero_le _, rfl, hO1.trans hO2, Lib.hid rfl, Lib.hid (fun p hp => by rw [List.mem_singleton.1 hp]; exact HOK.out), Lib.hid (by simp), D⟩
  case round =>
    clear D RX1 RX2 HROOT
    obtain ⟨k, st, O3, hk, rfl, hO3, HCV, HST, HSL, C⟩ := hrel
    by_cases hlt : k < marks.length
    · obtain ⟨b4, o4, rfl, q4⟩ := fzInt R4.out k hlt
      have q4 := q4.mono hO3
      obtain ⟨m, hmm⟩ : ∃ m, marks[k] = m := ⟨_, rfl⟩
      have hcv : covF s T (marks.drop k) st = covF s T (m :: marks.drop (k + 1)) st := by rw [List.drop_eq_getElem_cons hlt, hmm]
      rw [hmm] at q4
      have HCV2 := Lib.hid (HCV.out.trans hcv)
      obtain ⟨A7', c7, hu7, hc7⟩ := Ctx.row_form (C := C) (v := u7)
      obtain ⟨n, hn⟩ : ∃ n, st.length = n := ⟨_, rfl⟩
      rw [hn] at hu7
      have HN := Lib.hid hn
      by_cases hn0 : n = 0
      · subst hn0
        obtain rfl : st = [] := List.eq_nil_of_length_eq_zero hn
        clear hmm hcv hn
        subst hu7
        go_wp2
        go_ret
        exact ⟨ret_bool (by rw [HCV2.out]; rfl), C.bel⟩
      · obtain ⟨j, rfl⟩ : ∃ j, n = j + 1 := ⟨n - 1, by omega⟩
        obtain ⟨g7, c8, cs7, e7, hrep, hcell, hfr⟩ := Ctx.row_at (C := C) (v := u7) j (by omega)
        have hjs : j < st.length := by omega
        have hjb : j ≤ 9000000 := by have := HSL.out; omega
        obtain ⟨p, hp⟩ : ∃ p, st[j] = p := ⟨_, rfl⟩
        rw [hp] at hrep
        obtain ⟨v1, v2, rfl, r1, r2⟩ := hrep
        obtain ⟨B1, d1, rfl, hd1⟩ := r1.form
        obtain ⟨B2, d2, rfl, hd2⟩ := r2.form
        have q0 := hcell 0 _ rfl
        have q1 := hcell 1 _ rfl
        have q2 := hcell 2 _ rfl
        simp only [show kPl.sz = 3 from rfl, Nat.add_zero] at q0 q1 q2
        have hpok := HST.out p (hp ▸ List.getElem_mem hjs)
        have hlast : st.getLast? = some p := by rw [List.getLast?_eq_getElem?, hn, Nat.add_sub_cancel, List.getElem?_eq_getElem hjs, hp]
        have hdl : st.dropLast = st.take j := by rw [List.dropLast_eq_take, hn, Nat.add_sub_cancel]
        have hcv3 : covF s T (m :: marks.drop (k + 1)) st = if holdsB s p.drs p.car p.left m T = true then (if m = 1 then covF s T (marks.drop (k + 1)) (st.take j ++ p.next ++ p.kids s p.left.length) else covF s T (marks.drop (k + 1)) (st.take j)) else false := by
          rw [covF, hlast, ← hdl]
        have HCV3 := Lib.hid (HCV2.out.trans hcv3)
        have HOKP := Lib.hid hpok
        have hlb : p.left.length ≤ 8 := by have := hpok.few; omega
        have hdb : p.drs.length ≤ 8 := by have := hpok.len; omega
        have hcb : p.car ≤ 8 := by have := hpok.car; have := hpok.len; omega
        have HH := Lib.hid fun W (h : PLe O3 (Go.Sep.hp W)) => placeHolds s HS.out HW.out p.car p.drs (fun d hd => (hpok.fit d hd).fit (by omega)) (by rw [hpok.len]; exact hc8) (Nat.le_of_lt hpok.car) p.left hpok.left B1 B2 A3 d1 d2 c3 (.slice A2 s.cars.length c2) rfl m T O3 W h r1 r2 (R3.out.mono hO3)
        have RP1 := Lib.hid r1
        have RP2 := Lib.hid r2
        rw [hn] at e7
        cases hu7.symm.trans e7
        subst hu7
        obtain ⟨H, hH⟩ : ∃ H, holdsB s p.drs p.car p.left m T = H := ⟨_, rfl⟩
        rw [hH] at HH HCV3
        clear hcv3 hdl hlast hpok hp hn hcv hmm hcell hfr e7 r1 r2 hH
        cases H with
        | false =>
          go_wp2_with (first | ((with_reducible refine gAl 143 ?_); refine ev_alloc (t := 143) rfl rfl (by go_simp; rfl) ?_; intro g5 w5 C5; clear C) | ((with_reducible refine gSt 143 ?_); refine ev_storeW (t := 143) (ty := 143) (g := g5) (vs := #[Value.int .i64 (p.car : Int), .slice B1 p.drs.length d1, .slice B2 p.left.length d2]) rfl rfl rfl rfl (by kernel_rfl) (by rfl) (by rw [List.all_toArray]; rfl) ?_; intro w6 C6; clear C5) | ((with_reducible refine gLd 27 ?_); refine ev_loadS (ty := 27) ((snapC s.site (.slice A2 s.cars.length c2) (.slice A3 s.wants.length c3)).toList) rfl rfl rfl Try.underlying27 rfl (by kernel_rfl) rfl ?_) | (go_at_call 80; (refine (HH.out _ C6.sub).mono ?_); rintro e w7 ⟨rfl, hb⟩; have C7 := C6.keep hb; clear hb C6))
          go_ret
          exact ⟨ret_bool (by rw [HCV3.out]; rfl), C7.bel⟩
        | true =>
          by_cases hm1 : m = 1
          · subst hm1
            have hjt : (st.take j).length = j := by rw [List.length_take]; have := HN.out; omega
            have HTJ := Lib.hid hjt
            clear hjt
            by_cases hnx : p.car + 1 < p.drs.length
            · have hnxt : p.next = [⟨p.car + 1, p.drs, p.left⟩] := if_pos hnx
              have HNX := Lib.hid hnxt
              clear hnxt
              go_wp2_with (first | ((with_reducible refine gAl 143 ?_); refine ev_alloc (t := 143) rfl rfl (by go_simp; rfl) ?_; intro g5 w5 C5; clear C) | ((with_reducible refine gSt 143 ?_); refine ev_storeW (t := 143) (ty := 143) (g := g5) (vs := #[Value.int .i64 (p.car : Int), .slice B1 p.drs.length d1, .slice B2 p.left.length d2]) rfl rfl rfl rfl (by kernel_rfl) (by rfl) (by rw [List.all_toArray]; rfl) ?_; intro w6 C6; clear C5) | ((with_reducible refine gLd 27 ?_); refine ev_loadS (ty := 27) ((snapC s.site (.slice A2 s.cars.length c2) (.slice A3 s.wants.length c3)).toList) rfl rfl rfl Try.underlying27 rfl (by kernel_rfl) rfl ?_) | (at_builtin; (refine ev_append (C := C8) el149 (.slice (some ⟨g7, 0, none⟩) j c7) (⟨p.car + 1, p.drs, p.left⟩ : Pl) (cs := [.int .i64 ((p.car : Int) + 1), .slice B1 p.drs.length d1, .slice B2 p.left.length d2]) rfl rfl rfl rfl ⟨_, _, by rw [Int.natCast_add]; rfl, RP1.out, RP2.out⟩ (by rw [HTJ.out]; have := HSL.out; have := HN.out; omega) ?_); intro g9 c9 w9 C9; rw [HTJ.out] at C9 ⊢; clear C8) | (go_at_call 80; (refine (HH.out _ C6.sub).mono ?_); rintro e w7 ⟨rfl, hb⟩; have C7 := C6.keep hb; clear hb C6; have C8 := C7.row_cut (g := g7) (n := j + 1) (cap := c7) inferInstance j (by rw [HN.out]; omega); clear C7))
              go_loopw [7, 11, 65, 66, 67, 68, 69, 70, 71, 72, 73, 74, 75, 76, 77, 78, 79, 80, 81, 82, 83, 84] (fun t7 t11 _ _ _ _ _ _ _ _ _ _ _ _ _ _ _ _ _ _ _ _ wr => ∃ (r : Nat) (sk : List Pl) (O4 : PH), r ≤ p.left.length ∧ t11 = .int .i64 ((r : Int) - 1) ∧ PLe O3 O4 ∧ Hid (covF s T (marks.drop (k + 1)) (st.take j ++ p.next ++ p.kids s p.left.length) = covF s T (marks.drop (k + 1)) (sk ++ p.kids s r)) ∧ Hid (∀ q, q ∈ sk → q.Ok s) ∧ Hid (sk.length + r ≤ 10 + 9 * k) ∧ Ctx w none O O4 [Cells g5 143 #[.int .i64 (p.car : Int), .slice B1 p.drs.length d1, .slice B2 p.left.length d2], Row kPl 143 t7 sk, Cells g1 27 (snapC s.site (.slice A2 s.cars.length c2) (.slice A3 s.wants.length c3))] wr) (fun _ t11 _ _ _ _ _ _ _ _ _ _ _ _ _ _ _ _ _ _ _ _ _ => (intOf t11 + 1).toNat)
              case atStart =>
                refine ⟨p.left.length, st.take j ++ [⟨p.car + 1, p.drs, p.left⟩], O3, Nat.le_refl _, rfl, PLe.refl _, Lib.hid (by rw [HNX.out]), Lib.hid ?_, Lib.hid ?_, C9⟩
                · intro q hq
                  rcases List.mem_append.1 hq with hq | hq
                  · exact HST.out q (List.mem_of_mem_take hq)
                  · exact Pl.next_ok HOKP.out q (by rw [HNX.out]; exact hq)
                · have := HSL.out
                  have := HN.out
                  have := HOKP.out.few
                  rw [List.length_append, HTJ.out, List.length_singleton]
                  omega
              case round =>
                clear C9
                obtain ⟨r, sk, O4, hr, rfl, hO4, HKC, HKO, HKL, C⟩ := hrel
                obtain ⟨A10, c10, hu7, hc10⟩ := Ctx.row_form (C := C) (v := u7)
                obtain ⟨m, hm0⟩ : ∃ m, sk.length = m := ⟨_, rfl⟩
                rw [hm0] at hu7
                subst hu7
                have HM0 := Lib.hid hm0
                clear hm0 hc10
                by_cases hr0 : r = 0
                · subst hr0
                  rw [show (((0 : Nat) : Int) - 1) = -1 from rfl]
                  go_wp2
                  go_roundw
                  case rel =>
                    refine ⟨k + 1, sk, O4, by omega, by go_num, hO3.trans hO4, Lib.hid ?_, HKO, Lib.hid (by have := HKL.out; omega), ?_⟩
                    · rw [HCV3.out, if_pos trivial, if_pos trivial, HKC.out]
                      simp [Pl.kids]
                    · exact C.drop 0
                  case measure => simp [intOf]; omega
                · obtain ⟨q, rfl⟩ : ∃ q, r = q + 1 := ⟨r - 1, by omega⟩
                  rw [show (((q + 1 : Nat) : Int) - 1) = (q : Int) by omega]
                  have hql : q < p.left.length := by omega
                  obtain ⟨b11, o11, e11, q11⟩ := fzNat RP2.out q hql
                  cases e11
                  have q11 := q11.mono hO4
                  have hnw := HOKP.out.left _ (List.getElem_mem hql)
                  obtain ⟨x, hx⟩ : ∃ x, p.left[q] = x := ⟨_, rfl⟩
                  rw [hx] at q11 hnw
                  have hxw := HW.out _ (List.getElem_mem hnw)
                  have hcar := HOKP.out.car
                  have hlen := HOKP.out.len
                  have HM := Lib.hid fun W (h : PLe O4 (Go.Sep.hp W)) => checkMay s (.slice A2 s.cars.length c2) A3 c3 O4 W h (R3.out.mono (hO3.trans hO4)) x hnw (p.car : Int) (by omega) (by omega) hxw.1 hxw.2
                  have HSV := Lib.hid fun W (h : PLe O4 (Go.Sep.hp W)) => placeServe s HS.out p.car p.drs (fun d hd => (HOKP.out.fit d hd).fit (by omega)) (by omega) hcar p.left (by have := HOKP.out.few; omega) q hql x hx hnw B1 (some ⟨b11, o11, none⟩) A3 d1 d2 c3 (.slice A2 s.cars.length c2) rfl O4 W h (RP1.out.mono hO4) (RP2.out.mono hO4) (R3.out.mono (hO3.trans hO4))
                  have hsv : p.serve s q = ⟨p.car, p.drs.set p.car (p.drs[p.car].to s.site s.wants[x].floor), p.left.take q ++ p.left.drop (q + 1)⟩ := by
                    unfold Pl.serve
                    simp [hcar, hql, hx, hnw]
                  have hkd : p.kids s (q + 1) = (if mayB s.wants[x] p.car = true then [p.serve s q] else []) ++ p.kids s q := by
                    rw [Pl.kids]
                    simp [hql, hx, hnw]
                  obtain ⟨b, hb⟩ : ∃ b, mayB s.wants[x] p.car = b := ⟨_, rfl⟩
                  rw [hb] at HM hkd
                  have HKD := Lib.hid hkd
                  have HSE := Lib.hid hsv
                  have HXX := Lib.hid hx
                  have HLN := Lib.hid hlen
                  clear hkd hsv hxw hlen hb hx
                  go_wp2_with fail
                  refine ev_quietAll (by kernel_rfl) (by kernel_rfl) ?_
                  clear C
                  (refine q_loadS (ty := 27) ((snapC s.site (.slice A2 s.cars.length c2) (.slice A3 s.wants.length c3)).toList) rfl rfl rfl Try.underlying27 rfl (by kernel_rfl) rfl ?_); (dsimp only [Act.put]; simp only [List.setIfInBounds_toArray, List.set_cons_succ, List.set_cons_zero])
                  (apply q_val rfl; (intro W CW; go_simp; rfl); (dsimp only [Act.put]; simp only [List.setIfInBounds_toArray, List.set_cons_succ, List.set_cons_zero]))
                  (apply q_val rfl; (intro W CW; go_simp; rfl); (dsimp only [Act.put]; simp only [List.setIfInBounds_toArray, List.set_cons_succ, List.set_cons_zero]))
                  (apply q_val rfl; (intro W CW; go_simp; rfl); (dsimp only [Act.put]; simp only [List.setIfInBounds_toArray, List.set_cons_succ, List.set_cons_zero]))
                  (apply q_val rfl; (intro W CW; go_simp; rfl); (dsimp only [Act.put]; simp only [List.setIfInBounds_toArray, List.set_cons_succ, List.set_cons_zero]))
                  (apply q_val rfl; (intro W CW; go_simp; rfl); (dsimp only [Act.put]; simp only [List.setIfInBounds_toArray, List.set_cons_succ, List.set_cons_zero]))
                  (apply q_val rfl; (intro W CW; go_simp; rfl); (dsimp only [Act.put]; simp only [List.setIfInBounds_toArray, List.set_cons_succ, List.set_cons_zero]))
                  (apply q_val rfl; (intro W CW; go_simp; rfl); (dsimp only [Act.put]; simp only [List.setIfInBounds_toArray, List.set_cons_succ, List.set_cons_zero]))
                  (apply q_call rfl (by intro W CW; go_simp; exact ⟨rfl, rfl⟩) (by intro W CW; exact quiet_call (HM.out W CW.sub) CW)); (dsimp only [Act.put]; simp only [List.setIfInBounds_toArray, List.set_cons_succ, List.set_cons_zero])
                  refine wpQuiet_nil fun w12 C12 => ?_
                  cases b with
                  | false =>
                    go_wp2
                    go_roundw
                    case rel => exact ⟨q, sk, O4, by omega, by first | rfl | go_num, hO4, Lib.hid (by rw [HKC.out, HKD.out]; rfl), HKO, Lib.hid (by have := HKL.out; omega), C12⟩
                    case measure => simp [intOf]
                  | true =>
                    go_wp2_with (first | ((with_reducible refine gLd 27 ?_); refine ev_loadS (ty := 27) ((snapC s.site (.slice A2 s.cars.length c2) (.slice A3 s.wants.length c3)).toList) rfl rfl rfl Try.underlying27 rfl (by kernel_rfl) rfl ?_) | (at_builtin; (refine ev_append (C := C15) el149 (.slice A10 m c10) (p.serve s q) (cs := [.int .i64 (p.car : Int), .slice A21 p.drs.length c21, .slice A22 n2 c22]) rfl rfl rfl rfl (by rw [HSE.out]; exact ⟨_, _, rfl, RX1.out, RX2.out⟩) (by rw [HM0.out]; have := HKL.out; have := HM0.out; omega) ?_); intro g16 c16 w16 C17; rw [HM0.out] at C17 ⊢; clear C15) | (go_at_call 82; (refine (HSV.out _ C12.sub).mono ?_); rintro e w13 ⟨v1, v2, rfl, D⟩; have C13 := C12.call D; simp only [List.cons_append, List.nil_append] at C13; clear C12 D; obtain ⟨O5, hO5, RV2, C14'⟩ := C13.row_freeze 0 rfl (by simp; omega); have C14 : Ctx w none O O5 [Row kDrv 146 v1 (p.drs.set p.car (p.drs[p.car].to s.site s.wants[x].floor)), Cells g5 143 #[.int .i64 (p.car : Int), .slice B1 p.drs.length d1, .slice (some ⟨b11, o11, none⟩) p.left.length d2], Row kPl 143 (.slice A10 m c10) sk, Cells g1 27 (snapC s.site (.slice A2 s.cars.length c2) (.slice A3 s.wants.length c3))] w13 := C14'; clear C13 C14'; obtain ⟨O6, hO6, RV1, C15'⟩ := C14.row_freeze 0 rfl (by simp; omega); have C15 : Ctx w none O O6 [Cells g5 143 #[.int .i64 (p.car : Int), .slice B1 p.drs.length d1, .slice (some ⟨b11, o11, none⟩) p.left.length d2], Row kPl 143 (.slice A10 m c10) sk, Cells g1 27 (snapC s.site (.slice A2 s.cars.length c2) (.slice A3 s.wants.length c3))] w13 := C15'; clear C14 C15'; have RW2 := RV2.mono hO6; clear RV2; obtain ⟨A22, c22, rfl, _⟩ := RW2.form; obtain ⟨A21, c21, rfl, _⟩ := RV1.form; rw [List.length_set] at RV1; obtain ⟨n2, hn2⟩ : ∃ n2, (p.left.take q ++ p.left.drop (q + 1)).length = n2 := ⟨_, rfl⟩; rw [hn2] at RW2 ⊢; clear hn2; have RX1 := Lib.hid RV1; have RX2 := Lib.hid RW2; clear RV1 RW2))
                    go_roundw
                    case rel =>
                      refine ⟨q, sk ++ [p.serve s q], O6, by omega, by first | rfl | go_num, hO4.trans (hO5.trans hO6), Lib.hid (by rw [HKC.out, HKD.out, if_pos trivial, List.append_assoc]), Lib.hid ?_, Lib.hid (by rw [List.length_append]; have := HKL.out; simp; omega), C17⟩
                      intro y hy
                      rcases List.mem_append.1 hy with hy | hy
                      · exact HKO.out y hy
                      · rw [List.mem_singleton.1 hy]
                        exact Pl.serve_ok HS.out (by omega) HOKP.out q hql
                    case measure => simp [intOf]
            · have hnxt : p.next = [] := if_neg hnx
              have HNX := Lib.hid hnxt
              clear hnxt
              go_wp2_with (first | ((with_reducible refine gAl 143 ?_); refine ev_alloc (t := 143) rfl rfl (by go_simp; rfl) ?_; intro g5 w5 C5; clear C) | ((with_reducible refine gSt 143 ?_); refine ev_storeW (t := 143) (ty := 143) (g := g5) (vs := #[Value.int .i64 (p.car : Int), .slice B1 p.drs.length d1, .slice B2 p.left.length d2]) rfl rfl rfl rfl (by kernel_rfl) (by rfl) (by rw [List.all_toArray]; rfl) ?_; intro w6 C6; clear C5) | ((with_reducible refine gLd 27 ?_); refine ev_loadS (ty := 27) ((snapC s.site (.slice A2 s.cars.length c2) (.slice A3 s.wants.length c3)).toList) rfl rfl rfl Try.underlying27 rfl (by kernel_rfl) rfl ?_) | (go_at_call 80; (refine (HH.out _ C6.sub).mono ?_); rintro e w7 ⟨rfl, hb⟩; have C7 := C6.keep hb; clear hb C6; have C8 := C7.row_cut (g := g7) (n := j + 1) (cap := c7) inferInstance j (by rw [HN.out]; omega); clear C7))
              go_loopw [7, 11, 65, 66, 67, 68, 69, 70, 71, 72, 73, 74, 75, 76, 77, 78, 79, 80, 81, 82, 83, 84] (fun t7 t11 _ _ _ _ _ _ _ _ _ _ _ _ _ _ _ _ _ _ _ _ wr => ∃ (r : Nat) (sk : List Pl) (O4 : PH), r ≤ p.left.length ∧ t11 = .int .i64 ((r : Int) - 1) ∧ PLe O3 O4 ∧ Hid (covF s T (marks.drop (k + 1)) (st.take j ++ p.next ++ p.kids s p.left.length) = covF s T (marks.drop (k + 1)) (sk ++ p.kids s r)) ∧ Hid (∀ q, q ∈ sk → q.Ok s) ∧ Hid (sk.length + r ≤ 10 + 9 * k) ∧ Ctx w none O O4 [Cells g5 143 #[.int .i64 (p.car : Int), .slice B1 p.drs.length d1, .slice B2 p.left.length d2], Row kPl 143 t7 sk, Cells g1 27 (snapC s.site (.slice A2 s.cars.length c2) (.slice A3 s.wants.length c3))] wr) (fun _ t11 _ _ _ _ _ _ _ _ _ _ _ _ _ _ _ _ _ _ _ _ _ => (intOf t11 + 1).toNat)
              case atStart =>
                refine ⟨p.left.length, st.take j, O3, Nat.le_refl _, rfl, PLe.refl _, Lib.hid (by rw [HNX.out, List.append_nil]), Lib.hid ?_, Lib.hid ?_, C8⟩
                · exact fun q hq => HST.out q (List.mem_of_mem_take hq)
                · have := HSL.out
                  have := HN.out
                  have := HOKP.out.few
                  rw [HTJ.out]
                  omega
              case round =>
                clear C8
                obtain ⟨r, sk, O4, hr, rfl, hO4, HKC, HKO, HKL, C⟩ := hrel
                obtain ⟨A10, c10, hu7, hc10⟩ := Ctx.row_form (C := C) (v := u7)
                obtain ⟨m, hm0⟩ : ∃ m, sk.length = m := ⟨_, rfl⟩
                rw [hm0] at hu7
                subst hu7
                have HM0 := Lib.hid hm0
                clear hm0 hc10
                by_cases hr0 : r = 0
                · subst hr0
                  rw [show (((0 : Nat) : Int) - 1) = -1 from rfl]
                  go_wp2
                  go_roundw
                  case rel =>
                    refine ⟨k + 1, sk, O4, by omega, by go_num, hO3.trans hO4, Lib.hid ?_, HKO, Lib.hid (by have := HKL.out; omega), ?_⟩
                    · rw [HCV3.out, if_pos trivial, if_pos trivial, HKC.out]
                      simp [Pl.kids]
                    · exact C.drop 0
                  case measure => simp [intOf]; omega
                · obtain ⟨q, rfl⟩ : ∃ q, r = q + 1 := ⟨r - 1, by omega⟩
                  rw [show (((q + 1 : Nat) : Int) - 1) = (q : Int) by omega]
                  have hql : q < p.left.length := by omega
                  obtain ⟨b11, o11, e11, q11⟩ := fzNat RP2.out q hql
                  cases e11
                  have q11 := q11.mono hO4
                  have hnw := HOKP.out.left _ (List.getElem_mem hql)
                  obtain ⟨x, hx⟩ : ∃ x, p.left[q] = x := ⟨_, rfl⟩
                  rw [hx] at q11 hnw
                  have hxw := HW.out _ (List.getElem_mem hnw)
                  have hcar := HOKP.out.car
                  have hlen := HOKP.out.len
                  have HM := Lib.hid fun W (h : PLe O4 (Go.Sep.hp W)) => checkMay s (.slice A2 s.cars.length c2) A3 c3 O4 W h (R3.out.mono (hO3.trans hO4)) x hnw (p.car : Int) (by omega) (by omega) hxw.1 hxw.2
                  have HSV := Lib.hid fun W (h : PLe O4 (Go.Sep.hp W)) => placeServe s HS.out p.car p.drs (fun d hd => (HOKP.out.fit d hd).fit (by omega)) (by omega) hcar p.left (by have := HOKP.out.few; omega) q hql x hx hnw B1 (some ⟨b11, o11, none⟩) A3 d1 d2 c3 (.slice A2 s.cars.length c2) rfl O4 W h (RP1.out.mono hO4) (RP2.out.mono hO4) (R3.out.mono (hO3.trans hO4))
                  have hsv : p.serve s q = ⟨p.car, p.drs.set p.car (p.drs[p.car].to s.site s.wants[x].floor), p.left.take q ++ p.left.drop (q + 1)⟩ := by
                    unfold Pl.serve
                    simp [hcar, hql, hx, hnw]
                  have hkd : p.kids s (q + 1) = (if mayB s.wants[x] p.car = true then [p.serve s q] else []) ++ p.kids s q := by
                    rw [Pl.kids]
                    simp [hql, hx, hnw]
                  obtain ⟨b, hb⟩ : ∃ b, mayB s.wants[x] p.car = b := ⟨_, rfl⟩
                  rw [hb] at HM hkd
                  have HKD := Lib.hid hkd
                  have HSE := Lib.hid hsv
                  have HXX := Lib.hid hx
                  have HLN := Lib.hid hlen
                  clear hkd hsv hxw hlen hb hx
                  go_wp2_with fail
                  refine ev_quietAll (by kernel_rfl) (by kernel_rfl) ?_
                  clear C
                  (refine q_loadS (ty := 27) ((snapC s.site (.slice A2 s.cars.length c2) (.slice A3 s.wants.length c3)).toList) rfl rfl rfl Try.underlying27 rfl (by kernel_rfl) rfl ?_); (dsimp only [Act.put]; simp only [List.setIfInBounds_toArray, List.set_cons_succ, List.set_cons_zero])
                  (apply q_val rfl; (intro W CW; go_simp; rfl); (dsimp only [Act.put]; simp only [List.setIfInBounds_toArray, List.set_cons_succ, List.set_cons_zero]))
                  (apply q_val rfl; (intro W CW; go_simp; rfl); (dsimp only [Act.put]; simp only [List.setIfInBounds_toArray, List.set_cons_succ, List.set_cons_zero]))
                  (apply q_val rfl; (intro W CW; go_simp; rfl); (dsimp only [Act.put]; simp only [List.setIfInBounds_toArray, List.set_cons_succ, List.set_cons_zero]))
                  (apply q_val rfl; (intro W CW; go_simp; rfl); (dsimp only [Act.put]; simp only [List.setIfInBounds_toArray, List.set_cons_succ, List.set_cons_zero]))
                  (apply q_val rfl; (intro W CW; go_simp; rfl); (dsimp only [Act.put]; simp only [List.setIfInBounds_toArray, List.set_cons_succ, List.set_cons_zero]))
                  (apply q_val rfl; (intro W CW; go_simp; rfl); (dsimp only [Act.put]; simp only [List.setIfInBounds_toArray, List.set_cons_succ, List.set_cons_zero]))
                  (apply q_val rfl; (intro W CW; go_simp; rfl); (dsimp only [Act.put]; simp only [List.setIfInBounds_toArray, List.set_cons_succ, List.set_cons_zero]))
                  (apply q_call rfl (by intro W CW; go_simp; exact ⟨rfl, rfl⟩) (by intro W CW; exact quiet_call (HM.out W CW.sub) CW)); (dsimp only [Act.put]; simp only [List.setIfInBounds_toArray, List.set_cons_succ, List.set_cons_zero])
                  refine wpQuiet_nil fun w12 C12 => ?_
                  cases b with
                  | false =>
                    go_wp2
                    go_roundw
                    case rel => exact ⟨q, sk, O4, by omega, by first | rfl | go_num, hO4, Lib.hid (by rw [HKC.out, HKD.out]; rfl), HKO, Lib.hid (by have := HKL.out; omega), C12⟩
                    case measure => simp [intOf]
                  | true =>
                    go_wp2_with (first | ((with_reducible refine gLd 27 ?_); refine ev_loadS (ty := 27) ((snapC s.site (.slice A2 s.cars.length c2) (.slice A3 s.wants.length c3)).toList) rfl rfl rfl Try.underlying27 rfl (by kernel_rfl) rfl ?_) | (at_builtin; (refine ev_append (C := C15) el149 (.slice A10 m c10) (p.serve s q) (cs := [.int .i64 (p.car : Int), .slice A21 p.drs.length c21, .slice A22 n2 c22]) rfl rfl rfl rfl (by rw [HSE.out]; exact ⟨_, _, rfl, RX1.out, RX2.out⟩) (by rw [HM0.out]; have := HKL.out; have := HM0.out; omega) ?_); intro g16 c16 w16 C17; rw [HM0.out] at C17 ⊢; clear C15) | (go_at_call 82; (refine (HSV.out _ C12.sub).mono ?_); rintro e w13 ⟨v1, v2, rfl, D⟩; have C13 := C12.call D; simp only [List.cons_append, List.nil_append] at C13; clear C12 D; obtain ⟨O5, hO5, RV2, C14'⟩ := C13.row_freeze 0 rfl (by simp; omega); have C14 : Ctx w none O O5 [Row kDrv 146 v1 (p.drs.set p.car (p.drs[p.car].to s.site s.wants[x].floor)), Cells g5 143 #[.int .i64 (p.car : Int), .slice B1 p.drs.length d1, .slice (some ⟨b11, o11, none⟩) p.left.length d2], Row kPl 143 (.slice A10 m c10) sk, Cells g1 27 (snapC s.site (.slice A2 s.cars.length c2) (.slice A3 s.wants.length c3))] w13 := C14'; clear C13 C14'; obtain ⟨O6, hO6, RV1, C15'⟩ := C14.row_freeze 0 rfl (by simp; omega); have C15 : Ctx w none O O6 [Cells g5 143 #[.int .i64 (p.car : Int), .slice B1 p.drs.length d1, .slice (some ⟨b11, o11, none⟩) p.left.length d2], Row kPl 143 (.slice A10 m c10) sk, Cells g1 27 (snapC s.site (.slice A2 s.cars.length c2) (.slice A3 s.wants.length c3))] w13 := C15'; clear C14 C15'; have RW2 := RV2.mono hO6; clear RV2; obtain ⟨A22, c22, rfl, _⟩ := RW2.form; obtain ⟨A21, c21, rfl, _⟩ := RV1.form; rw [List.length_set] at RV1; obtain ⟨n2, hn2⟩ : ∃ n2, (p.left.take q ++ p.left.drop (q + 1)).length = n2 := ⟨_, rfl⟩; rw [hn2] at RW2 ⊢; clear hn2; have RX1 := Lib.hid RV1; have RX2 := Lib.hid RW2; clear RV1 RW2))
                    go_roundw
                    case rel =>
                      refine ⟨q, sk ++ [p.serve s q], O6, by omega, by first | rfl | go_num, hO4.trans (hO5.trans hO6), Lib.hid (by rw [HKC.out, HKD.out, if_pos trivial, List.append_assoc]), Lib.hid ?_, Lib.hid (by rw [List.length_append]; have := HKL.out; simp; omega), C17⟩
                      intro y hy
                      rcases List.mem_append.1 hy with hy | hy
                      · exact HKO.out y hy
                      · rw [List.mem_singleton.1 hy]
                        exact Pl.serve_ok HS.out (by omega) HOKP.out q hql
                    case measure => simp [intOf]
          · have hm2 : (m == 1) = false := by simpa using hm1
            have hm3 : (m != 1) = true := by simpa using hm1
            go_wp2_with (first | ((with_reducible refine gAl 143 ?_); refine ev_alloc (t := 143) rfl rfl (by go_simp; rfl) ?_; intro g5 w5 C5; clear C) | ((with_reducible refine gSt 143 ?_); refine ev_storeW (t := 143) (ty := 143) (g := g5) (vs := #[Value.int .i64 (p.car : Int), .slice B1 p.drs.length d1, .slice B2 p.left.length d2]) rfl rfl rfl rfl (by kernel_rfl) (by rfl) (by rw [List.all_toArray]; rfl) ?_; intro w6 C6; clear C5) | ((with_reducible refine gLd 27 ?_); refine ev_loadS (ty := 27) ((snapC s.site (.slice A2 s.cars.length c2) (.slice A3 s.wants.length c3)).toList) rfl rfl rfl Try.underlying27 rfl (by kernel_rfl) rfl ?_) | (go_at_call 80; (refine (HH.out _ C6.sub).mono ?_); rintro e w7 ⟨rfl, hb⟩; have C7 := C6.keep hb; clear hb C6))
            go_roundw
            case rel =>
              refine ⟨k + 1, st.take j, O3, by omega, by go_num, hO3, Lib.hid (by rw [HCV3.out, if_pos trivial, if_neg hm1]), Lib.hid (fun q hq => HST.out q (List.mem_of_mem_take hq)), Lib.hid (by have := HSL.out; rw [List.length_take]; omega), ?_⟩
              have E := (C7.drop 0)
              have E : Ctx w none O O3 [Row kPl 143 (.slice (some ⟨g7, 0, none⟩) (j + 1) c7) st, Cells g1 27 (snapC s.site (.slice A2 s.cars.length c2) (.slice A3 s.wants.length c3))] w7 := E
              have E3 := E.row_cut (g := g7) (n := j + 1) (cap := c7) inferInstance j (by rw [HN.out]; omega)
              exact E3
            case measure => simp [intOf]; omega
    · have hd : marks.drop k = [] := List.drop_eq_nil_of_le (by omega)
      have HD := Lib.hid hd
      obtain ⟨A7', c7, hu7, hc7⟩ := Ctx.row_form (C := C) (v := u7)
      obtain ⟨n, hn⟩ : ∃ n, st.length = n := ⟨_, rfl⟩
      rw [hn] at hu7
      subst hu7
      have HN := Lib.hid hn
      clear hd hn hc7
      go_wp2
      go_ret
      refine ⟨ret_bool ?_, C.bel⟩
      rw [HCV.out, HD.out, covF, HN.out]
      rw [Bool.eq_iff_iff]; simp
end Go.Proofs.Ytomfgggomjbnfaa
