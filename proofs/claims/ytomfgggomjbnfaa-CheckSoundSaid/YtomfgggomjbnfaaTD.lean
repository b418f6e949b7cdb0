/- The walks of the document's answer for what a plan costs. -/
import Derived.Test.YtomfgggomjbnfaaTC
import Derived.Outline
set_option linter.unusedVariables false
set_option linter.unusedSimpArgs false
namespace Go.Proofs.Ytomfgggomjbnfaa
open Go.RowKit Go.Sep
attribute [local go_sem] cell_ctx frozen_ctx cell_fz arr_at
/-- A drive of a cabin: it has not begun, or it goes on when its door is shut. -/
def DrvI (s : Snap) (r : Ready) (d : Drv) : Prop := (d.came = -1 ∧ d.lv = r.after ∧ d.fl = r.floor) ∨ (0 ≤ d.came ∧ d.lv = d.came + s.site.opn + s.site.wait + s.site.close + 2)
theorem drvI_to {s : Snap} (hs : siteB s.site = true) {r : Ready} {d : Drv} (h : DrvI s r d) (h0 : 0 ≤ d.lv) (f : Int) : DrvI s r (d.to s.site f) := by
  have := travel_bd hs d.fl f
  unfold Drv.to
  split
  · right; dsimp only; omega
  · rename_i hn
    rcases h with ⟨h1, _⟩ | h
    · omega
    · right; exact h
theorem drvI_run {s : Snap} (hs : siteB s.site = true) {r : Ready} (hr : r.Ok) (l : List Int) : l.length ≤ 200 → DrvI s r (runL s (Drv.of r) l) := by
  have main : ∀ (l : List Int) (n : Nat) (d : Drv), d.FitN n → n + l.length ≤ 200 → DrvI s r d → DrvI s r (runL s d l) := by
    intro l
    induction l with
    | nil => intro n d _ _ h; exact h
    | cons w l ih =>
      intro n d hf hn h
      simp only [List.length_cons] at hn
      exact ih (n + 1) _ (hf.to hs (by omega) _) (by omega) (drvI_to hs h hf.2.2.1 _)
  intro hl
  exact main l 0 _ (of_fit hr) (by omega) (.inl ⟨rfl, rfl, rfl⟩)
set_option maxRecDepth 100000 in
set_option maxHeartbeats 20000000 in
theorem refTime (s : Snap) (hs : siteB s.site = true) (k : Nat) (hk : k < s.cars.length) (hk8 : s.cars.length ≤ 8) (hr : (s.cars[k]).Ok) (l : List Int) (hl : l.length ≤ 200) (hw : ∀ w, w ∈ l → 0 ≤ w ∧ w < s.wants.length) (hwl : s.wants.length ≤ 128) (at_ : Nat) (hat : at_ < l.length)
    (A5 : Option Addr) (c5 : Nat) (A2 A3 : Option Addr) (c2 c3 : Nat) (O : PH) (w : World) (hO : PLe O (hp w)) (r2 : Rd kReady O (.slice A2 s.cars.length c2) s.cars) (r3 : Rd kWant O (.slice A3 s.wants.length c3) s.wants) (r5 : Rd kInt O (.slice A5 l.length c5) l) :
    Calls Try.prog 55 #[snapV s.site (.slice A2 s.cars.length c2) (.slice A3 s.wants.length c3), .int .i64 k, .slice A5 l.length c5, .int .i64 at_] w fun e w' => e = .returned (.int .i64 (runL s (Drv.of s.cars[k]) (l.take (at_ + 1))).came) ∧ Below w.heap.size w w' := by
  have C0 := Ctx.start hO
  have HT := Lib.hid fun a b W => refTravel s.site hs a b W
  have hsb := siteB_iff.1 hs
  obtain ⟨b1, b2, b3, b4, b5, b6⟩ : 1 ≤ s.site.opn ∧ s.site.opn ≤ 1000 ∧ 1 ≤ s.site.wait ∧ s.site.wait ≤ 1000 ∧ 1 ≤ s.site.close ∧ s.site.close ≤ 1000 := by omega
  have HS := Lib.hid hs
  have HR := Lib.hid hr
  have HW := Lib.hid hw
  have R3 := Lib.hid r3
  have R5 := Lib.hid r5
  obtain ⟨x2, y2, rfl, q0, q1⟩ := fzReady r2 k hk
  have hD0 : Drv.of s.cars[k] = ⟨s.cars[k].floor, -1, s.cars[k].after, 0⟩ := rfl
  obtain ⟨fl, hfl⟩ : ∃ fl, s.cars[k].floor = fl := ⟨_, rfl⟩
  obtain ⟨af, haf⟩ : ∃ af, s.cars[k].after = af := ⟨_, rfl⟩
  rw [hfl] at q0
  rw [haf] at q1
  have HFL := Lib.hid hfl
  have HAF := Lib.hid haf
  clear r2 r3 r5 hO hs hr hw hsb hfl haf hD0
  go_enter Try.func55, Try.ntmps55
  go_wp2_with (first | ((with_reducible refine gBox 27 ?_); refine ev_boxT (t := 27) rfl rfl (by go_simp; rfl) ?_; intro g1 w1 C1; clear C0))
  go_loopw [9, 10, 11, 12, 13, 26, 27, 28, 29, 30, 31, 32, 33, 34, 35, 36, 37, 38, 39, 40, 41, 42, 43, 44, 45, 46, 47, 48, 49, 50, 51, 52, 53, 54, 55, 56, 57, 58, 59, 60, 61, 62, 63, 64, 65, 66, 67, 68, 69, 70] (fun t9 t10 t11 t12 _ _ _ _ _ _ _ _ _ _ _ _ _ _ _ _ _ _ _ _ _ _ _ _ _ _ _ _ _ _ _ _ _ _ _ _ _ _ _ _ _ _ _ _ _ _ wr => ∃ (i : Nat) (d : Drv) (tv : Int), i ≤ at_ + 1 ∧ t12 = .int .i64 i ∧ t10 = .int .i64 d.fl ∧ t11 = .int .i64 d.came ∧ t9 = .int .i64 tv ∧ Hid (d = runL s (Drv.of s.cars[k]) (l.take i)) ∧ Hid (d.came < 0 → tv = d.lv) ∧ Ctx w none O O [Cells g1 27 (snapC s.site (.slice (some ⟨x2, y2, none⟩) s.cars.length c2) (.slice A3 s.wants.length c3))] wr) (fun _ _ _ t12 _ _ _ _ _ _ _ _ _ _ _ _ _ _ _ _ _ _ _ _ _ _ _ _ _ _ _ _ _ _ _ _ _ _ _ _ _ _ _ _ _ _ _ _ _ _ _ => at_ + 1 - (intOf t12).toNat)

  case atStart => exact ⟨0, ⟨fl, -1, af, 0⟩, af, Nat.zero_le _, rfl, rfl, rfl, rfl, Lib.hid (by show _ = Drv.of s.cars[k]; unfold Drv.of; rw [HFL.out, HAF.out]), Lib.hid (fun _ => rfl), C1⟩
  case round =>
    clear C1 q0 q1
    obtain ⟨i, d, tv, hi, rfl, rfl, rfl, rfl, HD, HTV, C⟩ := hrel
    have hfit : d.FitN i := by
      have hm : (l.take i).length ≤ i := List.length_take_le _ _
      rw [HD.out]
      have := runL_fit s HS.out (l.take i) 0 _ (of_fit HR.out) (by rw [List.length_take]; omega)
      exact this.mono (by omega)
    have hdi : DrvI s s.cars[k] d := by rw [HD.out]; exact drvI_run HS.out HR.out _ (by rw [List.length_take]; omega)
    by_cases hlt : i < at_ + 1
    · have hil : i < l.length := by omega
      obtain ⟨b6, o6, rfl, q6⟩ := fzInt R5.out i hil
      have hwj := HW.out l[i] (List.getElem_mem _)
      obtain ⟨n, hn⟩ := Int.eq_ofNat_of_zero_le hwj.1
      have hnw : n < s.wants.length := by omega
      rw [hn] at q6
      obtain ⟨b7, o7, rfl, q7, q8⟩ := fzWant R3.out n hnw
      obtain ⟨f, hf⟩ : ∃ f, s.wants[n].floor = f := ⟨_, rfl⟩
      rw [hf] at q7
      have hnx : d.to s.site f = runL s (Drv.of s.cars[k]) (l.take (i + 1)) := by
        rw [List.take_succ_eq_append_getElem hil, runL_snoc, ← HD.out, hn]
        unfold flr
        simp [hnw, hf]
      have HNX := Lib.hid hnx
      have htb := travel_bd HS.out d.fl f
      obtain ⟨T, hT⟩ : ∃ T, travel s.site d.fl f = T := ⟨_, rfl⟩
      rw [hT] at htb
      have HTT := Lib.hid fun W => by
        have := HT.out d.fl f W
        rw [hT] at this; exact this
      have hto : d.to s.site f = if d.came < 0 ∨ d.fl ≠ f then ⟨f, d.lv + T, d.lv + T + s.site.opn + s.site.wait + s.site.close + 2, d.tot + (d.lv + T)⟩ else { d with tot := d.tot + d.came } := by
        unfold Drv.to; rw [hT]
      obtain ⟨f1, f2, f3, f4, f5, f6⟩ := hfit
      obtain ⟨t1, t2⟩ := htb
      have main : (d.came < 0 ∧ tv = d.lv) ∨ (0 ≤ d.came ∧ d.fl = f) ∨ (0 ≤ d.came ∧ d.fl ≠ f ∧ d.lv = d.came + s.site.opn + s.site.wait + s.site.close + 2) := by
        have h5 := HTV.out
        rcases hdi with ⟨h1, _, _⟩ | ⟨h1, h2⟩
        · exact .inl ⟨by omega, h5 (by omega)⟩
        · by_cases e : d.fl = f
          · exact .inr (.inl ⟨h1, e⟩)
          · exact .inr (.inr ⟨h1, e, h2⟩)
      have HTO := Lib.hid hto
      clear hnx hT hto hf hn hwj hdi
      obtain ⟨dfl, dc, dl, dt⟩ := d
      dsimp only at *
      go_wp2_with fail
      refine ev_quietAll (by kernel_rfl) (by kernel_rfl) ?_
      clear C
      (apply q_val rfl; (intro W CW; go_simp; rfl); (dsimp only [Act.put]; simp only [List.setIfInBounds_toArray, List.set_cons_succ, List.set_cons_zero]))
      (apply q_val rfl; (intro W CW; go_simp; rfl); (dsimp only [Act.put]; simp only [List.setIfInBounds_toArray, List.set_cons_succ, List.set_cons_zero]))
      (apply q_val rfl; (intro W CW; go_simp; rfl); (dsimp only [Act.put]; simp only [List.setIfInBounds_toArray, List.set_cons_succ, List.set_cons_zero]))
      (apply q_val rfl; (intro W CW; go_simp; rfl); (dsimp only [Act.put]; simp only [List.setIfInBounds_toArray, List.set_cons_succ, List.set_cons_zero]))
      (apply q_val rfl; (intro W CW; go_simp; rfl); (dsimp only [Act.put]; simp only [List.setIfInBounds_toArray, List.set_cons_succ, List.set_cons_zero]))
      (apply q_val rfl; (intro W CW; go_simp; rfl); (dsimp only [Act.put]; simp only [List.setIfInBounds_toArray, List.set_cons_succ, List.set_cons_zero]))
      (apply q_val rfl; (intro W CW; go_simp; rfl); (dsimp only [Act.put]; simp only [List.setIfInBounds_toArray, List.set_cons_succ, List.set_cons_zero]))
      (apply q_val rfl; (intro W CW; go_simp; rfl); (dsimp only [Act.put]; simp only [List.setIfInBounds_toArray, List.set_cons_succ, List.set_cons_zero]))
      (apply q_val rfl; (intro W CW; go_simp; rfl); (dsimp only [Act.put]; simp only [List.setIfInBounds_toArray, List.set_cons_succ, List.set_cons_zero]))
      (apply q_val rfl; (intro W CW; go_simp; rfl); (dsimp only [Act.put]; simp only [List.setIfInBounds_toArray, List.set_cons_succ, List.set_cons_zero]))
      refine wpQuiet_nil fun w8 C8 => ?_
      rcases main with ⟨h1, rfl⟩ | ⟨h1, rfl⟩ | ⟨h1, h2, h3⟩
      · go_wp2_with (first | ((with_reducible refine gLd 23 ?_); refine ev_loadS (ty := 23) ((siteC s.site).toList) rfl rfl rfl Try.underlying23 rfl (by kernel_rfl) rfl ?_) | (go_at_call 58; (refine (HTT.out _).mono ?_); rintro e w9 ⟨rfl, hb⟩; have C9 := C8.keep hb; clear hb C8))
        go_roundw
        case rel =>
          refine ⟨i + 1, ⟨f, tv + T, tv + T + s.site.opn + s.site.wait + s.site.close + 2, dt + (tv + T)⟩, tv, by omega, by go_num, rfl, rfl, rfl, Lib.hid ?_, Lib.hid (fun h => absurd h (by dsimp only; omega)), C9⟩
          rw [← HNX.out, HTO.out, if_pos (.inl h1)]
        case measure => simp [intOf]; omega
      · go_wp2
        go_roundw
        case rel =>
          refine ⟨i + 1, ⟨dfl, dc, dl, dt + dc⟩, tv, by omega, by go_num, rfl, rfl, rfl, Lib.hid ?_, Lib.hid (fun h => absurd h (by dsimp only; omega)), C8⟩
          rw [← HNX.out, HTO.out, if_neg (by omega)]
        case measure => simp [intOf]; omega
      · have hne : (f == dfl) = false := by simpa using fun e : f = dfl => h2 e.symm
        have H3 := Lib.hid h3
        have H2 := Lib.hid h2
        rw [h3] at f3 f4
        clear h3 h2
        go_wp2_with (first | ((with_reducible refine gLd 23 ?_); refine ev_loadS (ty := 23) ((siteC s.site).toList) rfl rfl rfl Try.underlying23 rfl (by kernel_rfl) rfl ?_) | (go_at_call 58; (refine (HTT.out _).mono ?_); rintro e w9 ⟨rfl, hb⟩; have C9 := C8.keep hb; clear hb C8))
        go_roundw
        case rel =>
          refine ⟨i + 1, ⟨f, dl + T, dl + T + s.site.opn + s.site.wait + s.site.close + 2, dt + (dl + T)⟩, dl, by omega, by go_num, rfl, by rw [H3.out], by rw [H3.out], Lib.hid ?_, Lib.hid (fun h => absurd h (by dsimp only; have := H3.out; omega)), C9⟩
          rw [← HNX.out, HTO.out, if_pos (.inr H2.out)]
        case measure => simp [intOf]; omega
    · obtain rfl : i = at_ + 1 := by omega
      go_wp2
      go_ret
      exact ⟨ret_int (by rw [HD.out]), C.bel⟩
end Go.Proofs.Ytomfgggomjbnfaa
