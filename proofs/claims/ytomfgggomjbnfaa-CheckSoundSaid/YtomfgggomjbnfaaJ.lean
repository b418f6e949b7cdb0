/- The walk of serving one want. -/
import Derived.Test.YtomfgggomjbnfaaG
import Derived.Test.YtomfgggomjbnfaaI
import Derived.Outline
set_option linter.unusedVariables false
set_option linter.unusedSimpArgs false
namespace Go.Proofs.Ytomfgggomjbnfaa
open Go.RowKit Go.Sep
attribute [local go_sem] cell_ctx frozen_ctx
abbrev drvL (d : Drv) : List Value := [.int .i64 d.fl, .int .i64 d.came, .int .i64 d.lv, .int .i64 d.tot]
/-- A row of drives, cell by cell. -/
def rawD (drs : List Drv) : List Value := drs.flatMap drvL
theorem rawD_len (drs : List Drv) : (rawD drs).length = drs.length * 4 := by
  induction drs with
  | nil => rfl
  | cons d l ih =>
    show (drvL d ++ rawD l).length = (l.length + 1) * 4
    rw [List.length_append, ih]
    show 4 + _ = _
    omega
theorem rawD_at (drs : List Drv) (i : Nat) (hi : i < drs.length) (k : Nat) (hk : k < 4) : (rawD drs)[i * 4 + k]? = (drvL drs[i])[k]? := by
  induction drs generalizing i with
  | nil => simp at hi
  | cons d l ih =>
    have e : rawD (d :: l) = drvL d ++ rawD l := rfl
    rw [e]
    cases i with
    | zero => rw [List.getElem?_append_left (by show _ < 4; omega)]; simp
    | succ i =>
      rw [List.getElem?_append_right (by show 4 ≤ _; omega)]
      have := ih i (by simpa using hi)
      rw [show (i + 1) * 4 + k - (drvL d).length = i * 4 + k by show _ - 4 = _; omega, this]
      simp
theorem rawD_cell (drs : List Drv) (i : Nat) (hi : i < drs.length) : (rawD drs).toArray[i * 4]? = some (Value.int .i64 drs[i].fl) ∧ (rawD drs).toArray[i * 4 + 1]? = some (Value.int .i64 drs[i].came) ∧ (rawD drs).toArray[i * 4 + 2]? = some (Value.int .i64 drs[i].lv) ∧ (rawD drs).toArray[i * 4 + 3]? = some (Value.int .i64 drs[i].tot) := by
  simp only [List.getElem?_toArray]
  exact ⟨rawD_at drs i hi 0 (by decide), rawD_at drs i hi 1 (by decide), rawD_at drs i hi 2 (by decide), rawD_at drs i hi 3 (by decide)⟩
theorem rawD_ext (drs : List Drv) (l : List Value) (hl : l.length = drs.length * 4) (h : ∀ i (hi : i < drs.length) k, k < 4 → l[i * 4 + k]? = (drvL drs[i])[k]?) : l = rawD drs := by
  apply List.ext_getElem?
  intro j
  by_cases hj : j < drs.length * 4
  · have h4 : j / 4 < drs.length := by omega
    have e : j = j / 4 * 4 + j % 4 := by omega
    rw [e, h _ h4 _ (by omega), rawD_at _ _ h4 _ (by omega)]
  · rw [List.getElem?_eq_none (by omega), List.getElem?_eq_none (by rw [rawD_len]; omega)]
theorem rawD_set (drs : List Drv) (i : Nat) (hi : i < drs.length) (d : Drv) :
    ((((rawD drs).set (i * 4) (.int .i64 d.fl)).set (i * 4 + 1) (.int .i64 d.came)).set (i * 4 + 2) (.int .i64 d.lv)).set (i * 4 + 3) (.int .i64 d.tot) = rawD (drs.set i d) := by
  refine rawD_ext _ _ (by simp [rawD_len]) fun j hj k hk => ?_
  have hj' : j < drs.length := by simpa using hj
  have hL : (rawD drs).length = drs.length * 4 := rawD_len drs
  simp only [List.getElem?_set, List.length_set, hL, List.getElem_set]
  by_cases e : i = j
  · subst e
    rw [if_pos rfl]
    rcases (show k = 0 ∨ k = 1 ∨ k = 2 ∨ k = 3 by omega) with rfl | rfl | rfl | rfl
    · rw [if_neg (by omega), if_neg (by omega), if_neg (by omega), if_pos (by omega), if_pos (by omega)]; rfl
    · rw [if_neg (by omega), if_neg (by omega), if_pos (by omega), if_pos (by omega)]; rfl
    · rw [if_neg (by omega), if_pos (by omega), if_pos (by omega)]; rfl
    · rw [if_pos (by omega), if_pos (by omega)]; rfl
  · rw [if_neg e, if_neg (by omega), if_neg (by omega), if_neg (by omega), if_neg (by omega), rawD_at _ _ hj' _ hk]
theorem rawD_rep (drs : List Drv) (O : PH) (i : Nat) (x : Drv) (hx : drs[i]? = some x) : kDrv.rep O x (((rawD drs).toArray.toList.drop (i * kDrv.sz)).take kDrv.sz) := by
  obtain ⟨hi, rfl⟩ := List.getElem?_eq_some_iff.1 hx
  show List.take 4 (List.drop (i * 4) (rawD drs)) = drvL drs[i]
  apply List.ext_getElem?
  intro k
  by_cases hk : k < 4
  · rw [List.getElem?_take, if_pos hk, List.getElem?_drop, rawD_at _ _ hi _ hk]
  · rw [List.getElem?_take, if_neg hk, List.getElem?_eq_none (by show 4 ≤ k; omega)]
theorem rawD_one (drs : List Drv) : ∀ v ∈ rawD drs, v.oneCell' = true := by
  intro v hv
  obtain ⟨d, _, h⟩ := List.mem_flatMap.1 hv
  simp at h
  rcases h with rfl | rfl | rfl | rfl <;> rfl
theorem rd_raw {O : PH} {A : Option Addr} {c : Nat} {drs : List Drv} (r : Rd kDrv O (.slice A drs.length c) drs) {W : World} (hO : PLe O (hp W)) : (A = none → drs.length = 0) ∧ ∀ ad, A = some ad → ∀ j v, (rawD drs)[j]? = some v → W.cell? (ad.add j) = some v := by
  constructor
  · intro e
    subst e
    apply Classical.byContradiction
    intro h
    obtain ⟨b, off, c', cs, e, _⟩ := Rd_atO r 0 (by omega)
    cases e
  · intro ad e j v hv
    have hj : j < drs.length * 4 := by rw [← rawD_len]; exact (List.getElem?_eq_some_iff.1 hv).1
    have h4 : j / 4 < drs.length := by omega
    obtain ⟨b, off, c', cs, e', h1, h2⟩ := Rd_atO r (j / 4) h4
    cases e
    cases e'
    have h1 : cs = drvL drs[j / 4] := h1
    have ej : j = j / 4 * 4 + j % 4 := by omega
    rw [ej, rawD_at _ _ h4 _ (by omega)] at hv
    have := h2 W hO (j % 4) v (by rw [h1]; exact hv)
    rw [Addr.add_lit, ej]
    rw [show kDrv.sz = 4 from rfl, Nat.add_assoc] at this
    exact this
theorem info146 : (Try.prog.info? 146).map (fun i => (i.zero, i.size, i.bytes)) = some (some (.agg #[.int .i64 0, .int .i64 0, .int .i64 0, .int .i64 0]), 4, 32) := by kernel_rfl
set_option maxRecDepth 100000 in
set_option maxHeartbeats 4000000 in
theorem placeServe (s : Snap) (hs : siteB s.site = true) (car : Nat) (drs : List Drv) (hd : ∀ d, d ∈ drs → d.Fit) (h8 : drs.length ≤ 8) (hcar : car < drs.length) (left : List Nat) (hl6 : left.length ≤ 8) (j : Nat) (hj : j < left.length) (n : Nat) (hn : left[j] = n) (hl : n < s.wants.length)
    (A1 A2 A3 : Option Addr) (c1 c2 c3 : Nat) (v4 : Value) (h4 : v4.oneCell' = true) (O : PH) (w : World) (hO : PLe O (hp w)) (r1 : Rd kDrv O (.slice A1 drs.length c1) drs) (r2 : Rd kNat O (.slice A2 left.length c2) left) (r3 : Rd kWant O (.slice A3 s.wants.length c3) s.wants) :
    Calls Try.prog 82 #[.agg #[.int .i64 car, .slice A1 drs.length c1, .slice A2 left.length c2], snapV s.site v4 (.slice A3 s.wants.length c3), .int .i64 j] w fun e w' => ∃ v1 v2, e = .returned (.agg #[.int .i64 car, v1, v2]) ∧
      Ctx w none O O [Row kNat 3 v2 (left.take j ++ left.drop (j + 1)), Row kDrv 146 v1 (drs.set car (drs[car].to s.site s.wants[n].floor))] w' := by
  have C0 := Ctx.start hO
  obtain ⟨rr0, rr1⟩ : (A1 = none → drs.length = 0) ∧ True := ⟨fun e => (rd_raw r1 hO).1 e, trivial⟩
  have RR := Lib.hid fun (W : World) (h : PLe O (hp W)) => (rd_raw r1 h).2
  have HR0 := Lib.hid rr0
  have hlen := rawD_len drs
  have HLEN := Lib.hid hlen
  obtain ⟨b2, o2, c2', cs2, e2, hq2, hc2⟩ := Rd_atO r2 j hj
  cases e2
  have hq2 : cs2 = [Value.int .i64 (left[j] : Int)] := hq2
  subst hq2
  have HN := Lib.hid hn
  simp only [hn] at hc2
  obtain ⟨b3, o3, c3', cs3, e3, hq3, hc3⟩ := Rd_atO r3 n hl
  cases e3
  have hq3 : cs3 = [Value.int .i64 s.wants[n].floor, .int .i64 s.wants[n].cars] := hq3
  subst hq3
  have HC2 := Lib.hid hc2
  have HC3 := Lib.hid hc3
  have HTO := Lib.hid (driveTo s.site hs drs[car] (hd _ (List.getElem_mem hcar)) s.wants[n].floor)
  have R2 := Lib.hid r2
  have HCL := Lib.hid fun (W : World) (h : PLe O (hp W)) => clone_rd left _ O W h r2 (by omega)
  have ra := Lib.hid (rawD_cell drs car hcar)
  clear r1 r2 r3 hd hs hO rr0 rr1 hlen hn hc2 hc3
  go_enter Try.func82, Try.ntmps82
  go_wp2_with (first | ((with_reducible refine gate ?_); first | (refine ev_boxT (t := 143) rfl rfl (by go_simp; rfl) ?_; intro g1 w1 C1) | (refine ev_boxT (t := 27) rfl rfl (by go_simp; rfl) ?_; intro g2 w2 C2; clear C1) | (refine ev_alloc (t := 143) rfl rfl (by go_simp; rfl) ?_; intro g3 w3 C3; clear C2) | (refine ev_makeC (t := 141) drs.length _ _ rfl rfl Try.underlying141 info146 rfl rfl (by omega) (by omega) ?_; intro g4 w4 C4; clear C3) | (refine ev_copyC (dT := 141) (sT := 141) (rawD drs) rfl rfl Try.underlying141 (by kernel_rfl) rfl rfl HLEN.out (by rw [size_madeCells]) HR0.out (RR.out _ C4.sub) (rawD_one drs) ?_; intro w5 C5; clear C4)))
  refine ev_quiet 22 (by kernel_rfl) (by kernel_rfl) ?_
  clear C5
  simp only [List.take_succ_cons, List.take_zero, List.drop_succ_cons, List.drop_zero]
  (apply q_val rfl; (intro W CW; go_simp; rfl); (dsimp only [Act.put]; simp only [List.setIfInBounds_toArray, List.set_cons_succ, List.set_cons_zero]))
  (apply q_val rfl; (intro W CW; go_simp; rfl); (dsimp only [Act.put]; simp only [List.setIfInBounds_toArray, List.set_cons_succ, List.set_cons_zero]))
  (apply q_val rfl; (intro W CW; go_simp; rfl); (dsimp only [Act.put]; simp only [List.setIfInBounds_toArray, List.set_cons_succ, List.set_cons_zero]))
  (apply q_val rfl; (intro W CW; go_simp; rfl); (dsimp only [Act.put]; simp only [List.setIfInBounds_toArray, List.set_cons_succ, List.set_cons_zero]))
  (apply q_val rfl; (intro W CW; go_simp; rfl); (dsimp only [Act.put]; simp only [List.setIfInBounds_toArray, List.set_cons_succ, List.set_cons_zero]))
  (apply q_val rfl; (intro W CW; go_simp; rfl); (dsimp only [Act.put]; simp only [List.setIfInBounds_toArray, List.set_cons_succ, List.set_cons_zero]))
  (apply q_val rfl; (intro W CW; go_simp; rfl); (dsimp only [Act.put]; simp only [List.setIfInBounds_toArray, List.set_cons_succ, List.set_cons_zero]))
  (apply q_val rfl; (intro W CW; obtain ⟨k0, k1, k2, k3⟩ := ra.out; go_simp; rfl); (dsimp only [Act.put]; simp only [List.setIfInBounds_toArray, List.set_cons_succ, List.set_cons_zero]))
  (apply q_val rfl; (intro W CW; go_simp; rfl); (dsimp only [Act.put]; simp only [List.setIfInBounds_toArray, List.set_cons_succ, List.set_cons_zero]))
  (refine q_loadS (ty := 23) (siteC s.site).toList rfl rfl rfl Try.underlying23 rfl (by kernel_rfl) rfl ?_); (dsimp only [Act.put]; simp only [List.setIfInBounds_toArray, List.set_cons_succ, List.set_cons_zero])
  (apply q_val rfl; (intro W CW; go_simp; rfl); (dsimp only [Act.put]; simp only [List.setIfInBounds_toArray, List.set_cons_succ, List.set_cons_zero]))
  (apply q_val rfl; (intro W CW; go_simp; rfl); (dsimp only [Act.put]; simp only [List.setIfInBounds_toArray, List.set_cons_succ, List.set_cons_zero]))
  (apply q_val rfl; (intro W CW; go_simp; rfl); (dsimp only [Act.put]; simp only [List.setIfInBounds_toArray, List.set_cons_succ, List.set_cons_zero]))
  (apply q_val rfl; (intro W CW; go_simp; rfl); (dsimp only [Act.put]; simp only [List.setIfInBounds_toArray, List.set_cons_succ, List.set_cons_zero]))
  (apply q_val rfl; (intro W CW; go_simp; rfl); (dsimp only [Act.put]; simp only [List.setIfInBounds_toArray, List.set_cons_succ, List.set_cons_zero]))
  (apply q_val rfl; (intro W CW; go_simp; rfl); (dsimp only [Act.put]; simp only [List.setIfInBounds_toArray, List.set_cons_succ, List.set_cons_zero]))
  (apply q_val rfl; (intro W CW; have k0 := HC2.out W CW.sub 0 _ rfl; simp only [show kNat.sz = 1 from rfl, Nat.mul_one, Nat.add_zero] at k0; go_simp; rfl); (dsimp only [Act.put]; simp only [List.setIfInBounds_toArray, List.set_cons_succ, List.set_cons_zero]))
  (apply q_val rfl; (intro W CW; go_simp; rfl); (dsimp only [Act.put]; simp only [List.setIfInBounds_toArray, List.set_cons_succ, List.set_cons_zero]))
  (apply q_val rfl; (intro W CW; go_simp; rfl); (dsimp only [Act.put]; simp only [List.setIfInBounds_toArray, List.set_cons_succ, List.set_cons_zero]))
  (apply q_val rfl; (intro W CW; have k0 := HC3.out W CW.sub 0 _ rfl; simp only [show kWant.sz = 2 from rfl, Nat.add_zero] at k0; go_simp; rfl); (dsimp only [Act.put]; simp only [List.setIfInBounds_toArray, List.set_cons_succ, List.set_cons_zero]))
  (apply q_call rfl (by intro W CW; go_simp; exact ⟨rfl, rfl⟩) (by intro W CW; exact quiet_call (HTO.out W) CW)); (dsimp only [Act.put]; simp only [List.setIfInBounds_toArray, List.set_cons_succ, List.set_cons_zero])
  (apply q_val rfl; (intro W CW; go_simp; rfl); (dsimp only [Act.put]; simp only [List.setIfInBounds_toArray, List.set_cons_succ, List.set_cons_zero]))
  refine wpQuiet_nil fun w6 C6 => ?_
  refine ev_storeS (t := 146) (ty := 146) (cur := (rawD drs).toArray) (vs := drvC (drs[car].to s.site s.wants[n].floor)) (g := g4) (off := car * 4) rfl rfl rfl rfl (by kernel_rfl) (by have := HLEN.out; simp only [List.size_toArray]; simp; omega) (by rw [List.all_toArray]; rfl) ?_
  intro w7 C7
  clear C6
  rw [show setL (rawD drs).toArray (car * 4) (drvC (drs[car].to s.site s.wants[n].floor)).toList = (rawD (drs.set car (drs[car].to s.site s.wants[n].floor))).toArray by
    rw [← rawD_set drs car hcar]; simp [setL]] at C7
  go_wp2
  refine ev_held (S := fun W => ∃ c3', Ctx w none O O [Cells g4 146 (rawD (drs.set car (drs[car].to s.site s.wants[n].floor))).toArray, Cells g3 143 c3', Cells g2 27 (snapC s.site v4 (Value.slice (some { block := b3, off := o3 }) s.wants.length c3)),
      Cells g1 143 #[Value.int IntKind.i64 ↑car, Value.slice A1 drs.length c1, Value.slice (some { block := b2, off := o2 }) left.length c2]] W) 12 rfl (by kernel_rfl) ?_
  have C8 := Ctx.drew (C := C7)
  clear C7
  have hw1 : IntKind.i64.wrap ((j : Int) + 1) = ((j + 1 : Nat) : Int) := by rw [IntKind.wrap_i64]; omega
  (apply h_val 0 rfl (by kernel_rfl) (fun _ _ _ h => h) rfl; (rintro W ⟨cc, CW⟩; go_simp; rfl); exact ⟨_, C8⟩; (dsimp only [Act.put]; simp only [List.setIfInBounds_toArray, List.set_cons_succ, List.set_cons_zero]))
  (apply h_val 1 rfl (by kernel_rfl) (fun _ _ _ h => h) rfl; (rintro W ⟨cc, CW⟩; go_simp; rfl); exact ⟨_, C8⟩; (dsimp only [Act.put]; simp only [List.setIfInBounds_toArray, List.set_cons_succ, List.set_cons_zero]))
  (apply h_val 2 rfl (by kernel_rfl) (fun _ _ _ h => h) rfl; (rintro W ⟨cc, CW⟩; go_simp; rfl); exact ⟨_, C8⟩; (dsimp only [Act.put]; simp only [List.setIfInBounds_toArray, List.set_cons_succ, List.set_cons_zero]))
  (apply h_val 3 rfl (by kernel_rfl) (fun _ _ _ h => h) rfl; (rintro W ⟨cc, CW⟩; go_simp; rfl); exact ⟨_, C8⟩; (dsimp only [Act.put]; simp only [List.setIfInBounds_toArray, List.set_cons_succ, List.set_cons_zero]))
  (apply h_val 4 rfl (by kernel_rfl) (fun _ _ _ h => h) rfl; (rintro W ⟨cc, CW⟩; go_simp; rfl); exact ⟨_, C8⟩; (dsimp only [Act.put]; simp only [List.setIfInBounds_toArray, List.set_cons_succ, List.set_cons_zero]))
  (apply h_val 6 rfl (by kernel_rfl) (fun _ _ _ h => h) rfl; (rintro W ⟨cc, CW⟩; go_simp; rfl); exact ⟨_, C8⟩; (dsimp only [Act.put]; simp only [List.setIfInBounds_toArray, List.set_cons_succ, List.set_cons_zero]))
  (apply h_val 7 rfl (by kernel_rfl) (fun _ _ _ h => h) rfl; (rintro W ⟨cc, CW⟩; go_simp; rfl); exact ⟨_, C8⟩; (dsimp only [Act.put]; simp only [List.setIfInBounds_toArray, List.set_cons_succ, List.set_cons_zero]))
  (apply h_val 8 rfl (by kernel_rfl) (fun _ _ _ h => h) rfl; (rintro W ⟨cc, CW⟩; go_simp; rw [show ((j : Int) + 1) = ((j + 1 : Nat) : Int) by omega]); exact ⟨_, C8⟩; (dsimp only [Act.put]; simp only [List.setIfInBounds_toArray, List.set_cons_succ, List.set_cons_zero]))
  refine h_call 5 rfl (by kernel_rfl) rfl (by go_simp; exact ⟨rfl, rfl⟩) ?_
  refine (HCL.out _ C8.sub).mono ?_
  rintro e w9 ⟨v2, rfl, D⟩
  have C9 := C8.call D
  simp only [List.cons_append, List.nil_append] at C9
  refine ⟨v2, rfl, ⟨_, C9.drop 0⟩, ?_⟩
  (dsimp only [Act.put]; simp only [List.setIfInBounds_toArray, List.set_cons_succ, List.set_cons_zero])
  clear C8 D
  refine h_call 9 rfl (by kernel_rfl) rfl (by go_simp; exact ⟨rfl, rfl⟩) ?_
  refine (delete_ctx left (C := C9) j hj).mono ?_
  rintro e w10 ⟨v3, rfl, C10⟩
  obtain ⟨A9, c9, rfl, hc9⟩ := Ctx.row_form (C := C10) (v := v3)
  obtain ⟨n9, hn9⟩ : ∃ n9, (left.take j ++ left.drop (j + 1)).length = n9 := ⟨_, rfl⟩
  rw [hn9] at hc9 C10 ⊢
  have HN9 := Lib.hid hn9
  clear hn9
  refine ⟨_, rfl, ⟨_, C10.drop 0⟩, ?_⟩
  (dsimp only [Act.put]; simp only [List.setIfInBounds_toArray, List.set_cons_succ, List.set_cons_zero])
  clear C9
  (apply h_val 10 rfl (by kernel_rfl) (fun _ _ _ h => h) rfl; (rintro W ⟨cc, CW⟩; go_simp; rfl); exact ⟨_, C10.drop 0⟩; (dsimp only [Act.put]; simp only [List.setIfInBounds_toArray, List.set_cons_succ, List.set_cons_zero]))
  refine h_store 11 (g := g3) (off := 0) (t := 143) (ty := 143) rfl (by kernel_rfl) rfl rfl rfl rfl (by kernel_rfl) (by show 0 + 3 ≤ 3; omega) (by rw [List.all_toArray]; rfl) fun w11 C11 => ⟨⟨_, C11.drop 0⟩, ?_⟩
  clear C10
  refine wpAnyH_done (by kernel_rfl) ?_ _
  go_wp2
  have hl' := HLEN.out
  have E := C11.recast (g := g4) inferInstance kDrv (drs.set car (drs[car].to s.site s.wants[n].floor)) drs.length (by simp) (by unfold maxLen; omega) (by rw [List.size_toArray, rawD_len, List.length_set]; rfl) (rawD_rep _ O)
  refine bodyPost_ret (results_cell_row rfl _ _ g3 143 _ (0, 0) _ rfl heap_ctx Try.underlying143 rfl (by kernel_rfl)) rfl ⟨_, _, ?_, ((E.drop 4).drop 3).drop 2⟩
  rw [List.length_set]
  rfl
end Go.Proofs.Ytomfgggomjbnfaa
