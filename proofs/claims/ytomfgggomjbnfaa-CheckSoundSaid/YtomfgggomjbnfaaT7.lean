/- The walk of what a feasible plan costs. -/
import Derived.Test.YtomfgggomjbnfaaT6
import Derived.Test.YtomfgggomjbnfaaP
import Derived.Outline
set_option linter.unusedVariables false
set_option linter.unusedSimpArgs false
namespace Go.Sep
open Go.RowKit
variable {w0 w w1 : World} {R : Option World} {B O O' : PH} {L L' : List Ass}
/-- A cell of an array. -/
class ArrAt (cur : Array Value) (j : Nat) (v : outParam Value) : Prop where
  eq : cur[j]? = some v
theorem arr_at {cur : Array Value} {j : Nat} {v : Value} [h : ArrAt cur j v] : cur[j]? = some v := h.eq
theorem size_setL : ∀ (vs : List Value) (cur : Array Value) (off : Nat), (setL cur off vs).size = cur.size
  | [], _, _ => rfl
  | _ :: vs, cur, off => by rw [setL, size_setL vs]; simp
/-- A row, cell by cell. -/
theorem Ctx.row_open (C : Ctx w0 R B O L w) {α : Type} {d : Kind α} {e : TypeId} {v : Value} {xs : List α} {u : Ass → List Ass} (F : FRow L v d e xs u) (hx : xs ≠ []) :
    ∃ g cap cur, v = .slice (some ⟨g, 0, none⟩) xs.length cap ∧ xs.length ≤ cap ∧ cap ≤ maxLen ∧ cur.size = cap * d.sz ∧ (∀ i x, xs[i]? = some x → d.rep O x ((cur.toList.drop (i * d.sz)).take d.sz)) ∧ Ctx w0 R B O (u (Cells g e cur)) w := by
  obtain ⟨i, k1, k2⟩ := F.ix
  simp only [k2]
  obtain ⟨b, hA, hb, K⟩ := C.open_ i k1
  rcases hA with ⟨_, _, q⟩ | ⟨g, cap, cur, q1, q2, q3, q4, q5, q6⟩
  · exact absurd q hx
  · exact ⟨g, cap, cur, q2, q3, q4, q5, q6, K none b ⟨rfl, rfl, rfl, Nat.le_refl _, fun _ _ _ => rfl⟩ (.inl rfl) q1 fun k o e => ⟨(hb k o e).1, .inr ⟨o, e⟩⟩⟩
end Go.Sep
namespace Go.Proofs.Ytomfgggomjbnfaa
open Go.RowKit Go.Sep
attribute [local go_sem] cell_ctx frozen_ctx cell_fz arr_at
def CellsD (cur : Array Value) (ds : List Drv) : Prop := ∀ i (h : i < ds.length) k, k < 4 → cur[i * 4 + k]? = (drvL ds[i])[k]?
theorem cellsD_of {O : PH} {cur : Array Value} {ds : List Drv} (h : ∀ i x, ds[i]? = some x → kDrv.rep O x ((cur.toList.drop (i * kDrv.sz)).take kDrv.sz)) : CellsD cur ds := by
  intro i hi k hk
  have : (cur.toList.drop (i * 4)).take 4 = drvL ds[i] := h i _ (List.getElem?_eq_getElem hi)
  rw [← this, List.getElem?_take, if_pos hk, List.getElem?_drop]
  simp
theorem cellsD_rep {O : PH} {cur : Array Value} {ds : List Drv} (h : CellsD cur ds) : ∀ i x, ds[i]? = some x → kDrv.rep O x ((cur.toList.drop (i * kDrv.sz)).take kDrv.sz) := by
  intro i x hx
  obtain ⟨hi, rfl⟩ := List.getElem?_eq_some_iff.1 hx
  show (cur.toList.drop (i * 4)).take 4 = drvL ds[i]
  apply List.ext_getElem?
  intro k
  by_cases hk : k < 4
  · rw [List.getElem?_take, if_pos hk, List.getElem?_drop]
    have := h i hi k hk
    simpa using this
  · rw [List.getElem?_take, if_neg hk, List.getElem?_eq_none (by show 4 ≤ k; omega)]
theorem cellsD_at {cur : Array Value} {ds : List Drv} (h : CellsD cur ds) (i : Nat) (hi : i < ds.length) :
    ArrAt cur (i * 4) (.int .i64 ds[i].fl) ∧ ArrAt cur (i * 4 + 1) (.int .i64 ds[i].came) ∧ ArrAt cur (i * 4 + 2) (.int .i64 ds[i].lv) ∧ ArrAt cur (i * 4 + 3) (.int .i64 ds[i].tot) :=
  ⟨⟨h i hi 0 (by decide)⟩, ⟨h i hi 1 (by decide)⟩, ⟨h i hi 2 (by decide)⟩, ⟨h i hi 3 (by decide)⟩⟩
theorem cellsD_set {cur : Array Value} {ds : List Drv} (h : CellsD cur ds) (i : Nat) (hi : i < ds.length) (hs : ds.length * 4 ≤ cur.size) (d : Drv) : CellsD (setL cur (i * 4) (drvL d)) (ds.set i d) := by
  intro j hj k hk
  have hj' : j < ds.length := by simpa using hj
  have old := h j hj' k hk
  simp only [setL, Array.getElem?_setIfInBounds, Array.size_setIfInBounds]
  by_cases e : i = j
  · subst e
    rcases (show k = 0 ∨ k = 1 ∨ k = 2 ∨ k = 3 by omega) with rfl | rfl | rfl | rfl
    · rw [if_neg (by omega), if_neg (by omega), if_neg (by omega), if_pos (by omega), if_pos (by omega)]; simp
    · rw [if_neg (by omega), if_neg (by omega), if_pos (by omega), if_pos (by omega)]; simp
    · rw [if_neg (by omega), if_pos (by omega), if_pos (by omega)]; simp
    · rw [if_pos (by omega), if_pos (by omega)]; simp
  · rw [if_neg (by omega), if_neg (by omega), if_neg (by omega), if_neg (by omega), old, List.getElem_set_ne e]
/-- A drive behind so many stops at most. -/
def Drv.FitN (n : Nat) (d : Drv) : Prop := -1 ≤ d.came ∧ d.came ≤ 1000000 + 70000 * n ∧ 0 ≤ d.lv ∧ d.lv ≤ 1000000 + 70000 * n ∧ 0 ≤ d.tot ∧ d.tot ≤ 15000000 * n
theorem Drv.FitN.fit {n : Nat} {d : Drv} (h : d.FitN n) (hn : n ≤ 200) : d.Fit := by
  obtain ⟨h1, h2, h3, h4, h5, h6⟩ := h
  unfold Drv.Fit; omega
theorem Drv.FitN.mono {n m : Nat} {d : Drv} (h : d.FitN n) (hn : n ≤ m) : d.FitN m := by
  obtain ⟨h1, h2, h3, h4, h5, h6⟩ := h
  unfold Drv.FitN; omega
theorem Drv.FitN.to {s : Site} (hs : siteB s = true) {n : Nat} {d : Drv} (h : d.FitN n) (hn : n < 200) (f : Int) : (d.to s f).FitN (n + 1) := by
  obtain ⟨h1, h2, h3, h4, h5, h6⟩ := h
  have := travel_bd hs d.fl f
  have hb := siteB_iff.1 hs
  unfold Drv.to
  split
  · unfold Drv.FitN; dsimp only; omega
  · unfold Drv.FitN; dsimp only; omega
def flr (s : Snap) (w : Int) : Int := (s.wants.getD w.toNat ⟨0, 0⟩).floor
def runL (s : Snap) (d : Drv) (l : List Int) : Drv := l.foldl (fun d w => d.to s.site (flr s w)) d
theorem runL_snoc (s : Snap) (d : Drv) (l : List Int) (w : Int) : runL s d (l ++ [w]) = (runL s d l).to s.site (flr s w) := by simp [runL]
theorem runL_fit (s : Snap) (hs : siteB s.site = true) (l : List Int) : ∀ (n : Nat) (d : Drv), d.FitN n → n + l.length ≤ 200 → (runL s d l).FitN (n + l.length) := by
  induction l with
  | nil => intro n d h _; exact h
  | cons w l ih =>
    intro n d h hn
    simp only [List.length_cons] at hn
    have := ih (n + 1) (d.to s.site (flr s w)) (h.to hs (by omega) _) (by omega)
    rw [List.length_cons, show n + (l.length + 1) = n + 1 + l.length by omega]
    exact this
/-- The cars behind the first k lists. -/
def dk (s : Snap) (p : List (List Int)) (k : Nat) : List Drv := (List.zipWith (runL s) (s.cars.map Drv.of) p).take k ++ (s.cars.map Drv.of).drop k
theorem dk_len (s : Snap) (p : List (List Int)) (hp : p.length = s.cars.length) (k : Nat) (hk : k ≤ s.cars.length) : (dk s p k).length = s.cars.length := by
  unfold dk; simp; omega
theorem dk_at? (s : Snap) (p : List (List Int)) (hp : p.length = s.cars.length) (k : Nat) (hk : k < s.cars.length) : (dk s p k)[k]? = some (Drv.of s.cars[k]) := by
  unfold dk
  have e : (List.take k (List.zipWith (runL s) (s.cars.map Drv.of) p)).length = k := by simp; omega
  rw [List.getElem?_append_right (by omega), e, Nat.sub_self, List.getElem?_drop]
  simp [hk]
theorem dk_at (s : Snap) (p : List (List Int)) (hp : p.length = s.cars.length) (k : Nat) (hk : k < s.cars.length) (h : k < (dk s p k).length) : (dk s p k)[k] = Drv.of s.cars[k] := by
  have := dk_at? s p hp k hk
  rw [List.getElem?_eq_getElem h] at this
  exact Option.some.inj this
theorem dk_next (s : Snap) (p : List (List Int)) (hp : p.length = s.cars.length) (k : Nat) (hk : k < s.cars.length) : (dk s p k).set k (runL s (Drv.of s.cars[k]) (p[k]'(by omega))) = dk s p (k + 1) := by
  unfold dk
  have e : (List.take k (List.zipWith (runL s) (s.cars.map Drv.of) p)).length = k := by simp; omega
  have hz : k < (List.zipWith (runL s) (s.cars.map Drv.of) p).length := by simp; omega
  rw [List.set_append_right _ _ (by omega), e, Nat.sub_self, List.take_succ_eq_append_getElem hz, List.append_assoc]
  congr 1
  rw [List.drop_eq_getElem_cons (by simpa using hk)]
  simp
def priceF (s : Snap) (p : List (List Int)) : Int := sumTot (List.zipWith (runL s) (s.cars.map Drv.of) p)
theorem dk_end (s : Snap) (p : List (List Int)) (hp : p.length = s.cars.length) (k : Nat) (hk : k = s.cars.length) : dk s p k = List.zipWith (runL s) (s.cars.map Drv.of) p := by
  unfold dk
  rw [List.take_of_length_le (by simp; omega), List.drop_eq_nil_of_le (by simp; omega), List.append_nil]
/-- Each want of the plan is one of the snapshot's, and no list is too long. -/
def Lists (s : Snap) (p : List (List Int)) : Prop := ∀ l, l ∈ p → l.length ≤ 200 ∧ ∀ w, w ∈ l → 0 ≤ w ∧ w < s.wants.length
def Ready.Ok (r : Ready) : Prop := 0 ≤ r.after ∧ r.after ≤ 1000000
theorem of_fit {r : Ready} (h : r.Ok) : (Drv.of r).FitN 0 := by
  obtain ⟨h1, h2⟩ := h
  unfold Drv.FitN; dsimp only; omega
theorem dk_fit (s : Snap) (hs : siteB s.site = true) (hr : ∀ r, r ∈ s.cars → r.Ok) (p : List (List Int)) (hl : Lists s p) (k : Nat) : ∀ d, d ∈ dk s p k → d.Fit := by
  intro d hd
  unfold dk at hd
  rcases List.mem_append.1 hd with h | h
  · have h := List.mem_of_mem_take h
    obtain ⟨i, hi, rfl⟩ := List.getElem_of_mem h
    simp only [List.length_zipWith, List.length_map] at hi
    simp only [List.getElem_zipWith, List.getElem_map]
    have h2 := (hl (p[i]'(by omega)) (List.getElem_mem _)).1
    exact (runL_fit s hs _ 0 _ (of_fit (hr _ (List.getElem_mem _))) (by omega)).fit (by omega)
  · have h := List.mem_of_mem_drop h
    obtain ⟨r, h1, rfl⟩ := List.mem_map.1 h
    exact (of_fit (hr r h1)).fit (by omega)
set_option maxRecDepth 100000 in
set_option maxHeartbeats 20000000 in
theorem checkPrice (s : Snap) (hs : siteB s.site = true) (hr : ∀ r, r ∈ s.cars → r.Ok) (hc0 : 0 < s.cars.length) (hc8 : s.cars.length ≤ 8) (hw8 : s.wants.length ≤ 128) (p : List (List Int)) (hpl : p.length = s.cars.length) (hl : Lists s p)
    (A4 : Option Addr) (c4 : Nat) (A2 A3 : Option Addr) (c2 c3 : Nat) (O : PH) (w : World) (hO : PLe O (hp w)) (r2 : Rd kReady O (.slice A2 s.cars.length c2) s.cars) (r3 : Rd kWant O (.slice A3 s.wants.length c3) s.wants) (r4 : Rd (kSl kInt) O (.slice A4 p.length c4) p) :
    Calls Try.prog 40 #[snapV s.site (.slice A2 s.cars.length c2) (.slice A3 s.wants.length c3), .slice A4 p.length c4] w fun e w' => e = .returned (.int .i64 (priceF s p)) ∧ Below w.heap.size w w' := by
  have C0 := Ctx.start hO
  have HROOT := Lib.hid fun W (h : PLe O (hp W)) => checkRoot s hc8 hw8 A2 A3 c2 c3 O W h r2 r3
  have R3 := Lib.hid r3
  have R4 := Lib.hid r4
  have HS := Lib.hid hs
  have HR := Lib.hid hr
  have HL := Lib.hid hl
  have HP := Lib.hid hpl
  rw [hpl]
  clear r2 r3 r4 hO hs hr hl hpl
  go_enter Try.func40, Try.ntmps40
  go_wp2_with (first | ((with_reducible refine gBox 27 ?_); refine ev_boxT (t := 27) rfl rfl (by go_simp; rfl) ?_; intro g1 w1 C1; clear C0) | ((with_reducible refine gLd 27 ?_); refine ev_loadS (ty := 27) ((snapC s.site (.slice A2 s.cars.length c2) (.slice A3 s.wants.length c3)).toList) rfl rfl rfl Try.underlying27 rfl (by kernel_rfl) rfl ?_) | ((with_reducible refine gAl 143 ?_); refine ev_alloc (t := 143) rfl rfl (by go_simp; rfl) ?_; intro g4 w4 C4; clear C3) | ((with_reducible refine gSt 143 ?_); refine ev_storeW (t := 143) (ty := 143) (g := g4) (vs := #[Value.int .i64 0, .slice A7 s.cars.length cp7, .slice A6 s.wants.length cp6]) rfl rfl rfl rfl (by kernel_rfl) (by rfl) (by rw [List.all_toArray]; rfl) ?_; intro w5 C5; clear C4) | (go_at_call 77; (refine (HROOT.out _ C1.sub).mono ?_); rintro e w3 ⟨v1, v2, rfl, D⟩; have C3 := C1.call D; simp only [List.cons_append, List.nil_append] at C3; clear C1 D; obtain ⟨A6, cp6, rfl, _⟩ := Ctx.row_form (C := C3) (v := v2); obtain ⟨A7, cp7, rfl, hcp7⟩ := Ctx.row_form (C := C3) (v := v1); rw [List.length_range, List.length_map] at C3; rw [List.length_map] at hcp7))
  have hne : s.cars.map Drv.of ≠ [] := by
    intro h
    have h2 : s.cars.length = 0 := by simpa using congrArg List.length h
    omega
  obtain ⟨gd, cap, cur0, e0, k0, k1, k2, k3, C6⟩ := C5.row_open (v := .slice A7 s.cars.length cp7) inferInstance hne
  rw [List.length_map] at e0 k0
  cases e0
  have k3 := cellsD_of k3
  rw [show kDrv.sz = 4 from rfl] at k2
  have hd0 : dk s p 0 = s.cars.map Drv.of := by unfold dk; simp
  rw [← hd0] at k3
  have K3 := Lib.hid k3
  have K2 := Lib.hid k2
  have K1 := Lib.hid k1
  clear k1 k2 k3 C5 hne hd0 hcp7
  go_loopw [6, 7, 9, 14, 15, 16, 17, 18, 19, 20, 21, 22, 23, 24, 25, 26, 27, 28, 29, 30, 31, 32, 33, 34, 35, 36, 37, 38, 39, 40, 41, 42, 43, 44] (fun _ _ _ t14 _ _ _ _ _ _ _ _ _ _ _ _ _ _ _ _ _ _ _ _ _ _ _ _ _ _ _ _ _ _ wr => ∃ (k : Nat) (cur : Array Value), k ≤ s.cars.length ∧ t14 = .int .i64 k ∧ Hid (cur.size = cp7 * 4) ∧ Hid (CellsD cur (dk s p k)) ∧ Ctx w none O O [Cells g4 143 #[.int .i64 0, .slice (some ⟨gd, 0, none⟩) s.cars.length cp7, .slice A6 s.wants.length cp6], Row kNat 3 (.slice A6 s.wants.length cp6) (List.range s.wants.length), Cells gd 146 cur, Cells g1 27 (snapC s.site (.slice A2 s.cars.length c2) (.slice A3 s.wants.length c3))] wr) (fun _ _ _ t14 _ _ _ _ _ _ _ _ _ _ _ _ _ _ _ _ _ _ _ _ _ _ _ _ _ _ _ _ _ _ _ => s.cars.length - (intOf t14).toNat)

  case atStart => exact ⟨0, cur0, Nat.zero_le _, rfl, K2, K3, C6⟩
  case round =>
    clear C6
    obtain ⟨k, cur, hk, rfl, KS, KC, C⟩ := hrel
    by_cases hlt : k < s.cars.length
    · have hkp : k < p.length := by rw [HP.out]; exact hlt
      obtain ⟨b5, o5, A5, c5, rfl, q5, r5, hc5⟩ := Rd_fzS R4.out k hkp
      have hll := (HL.out _ (List.getElem_mem hkp))
      obtain ⟨l, hlx⟩ : ∃ l, p[k] = l := ⟨_, rfl⟩
      rw [hlx] at q5 r5 hc5 hll
      have HLX := Lib.hid hlx
      have R5 := Lib.hid r5
      have HW := Lib.hid hll.2
      have l200 := hll.1
      clear r5 hll hlx
      go_wp2_with fail
      go_loopw [9, 21, 22, 23, 24, 25, 26, 27, 28, 29, 30, 31, 32, 33, 34, 35, 36, 37, 38, 39, 40, 41, 42, 43] (fun _ t21 _ _ _ _ _ _ _ _ _ _ _ _ _ _ _ _ _ _ _ _ _ _ wr => ∃ (j : Nat) (cur : Array Value), j ≤ l.length ∧ t21 = .int .i64 j ∧ Hid (cur.size = cp7 * 4) ∧ Hid (CellsD cur ((dk s p k).set k (runL s (Drv.of s.cars[k]) (l.take j)))) ∧ Ctx w none O O [Cells g4 143 #[.int .i64 0, .slice (some ⟨gd, 0, none⟩) s.cars.length cp7, .slice A6 s.wants.length cp6], Row kNat 3 (.slice A6 s.wants.length cp6) (List.range s.wants.length), Cells gd 146 cur, Cells g1 27 (snapC s.site (.slice A2 s.cars.length c2) (.slice A3 s.wants.length c3))] wr) (fun _ t21 _ _ _ _ _ _ _ _ _ _ _ _ _ _ _ _ _ _ _ _ _ _ _ => l.length - (intOf t21).toNat)

      case atStart =>
        refine ⟨0, cur, Nat.zero_le _, rfl, KS, Lib.hid ?_, C⟩
        have := KC.out
        have e2 : (dk s p k).set k (runL s (Drv.of s.cars[k]) (l.take 0)) = dk s p k := by
          have h9 : k < (dk s p k).length := by rw [dk_len s p HP.out k (by omega)]; exact hlt
          have := dk_at s p HP.out k hlt h9
          show (dk s p k).set k (Drv.of s.cars[k]) = dk s p k
          rw [← this, List.set_getElem_self]
        rw [e2]
        exact this
      case round =>
        clear C KC KS q5
        obtain ⟨j, cur, hj, rfl, KS, KC, C⟩ := hrel
        by_cases hlt2 : j < l.length
        · obtain ⟨b6, o6, rfl, q6⟩ := fzInt R5.out j hlt2
          have hwj := HW.out l[j] (List.getElem_mem _)
          obtain ⟨n, hn⟩ := Int.eq_ofNat_of_zero_le hwj.1
          have hnw : n < s.wants.length := by omega
          rw [hn] at q6
          obtain ⟨b7, o7, e7, q7, q8⟩ := fzWant R3.out n hnw
          cases e7
          obtain ⟨f, hf⟩ : ∃ f, s.wants[n].floor = f := ⟨_, rfl⟩
          rw [hf] at q7
          obtain ⟨dd, hdd⟩ : ∃ dd, (dk s p k).set k (runL s (Drv.of s.cars[k]) (l.take j)) = dd := ⟨_, rfl⟩
          rw [hdd] at KC
          have hdl : dd.length = s.cars.length := by rw [← hdd, List.length_set, dk_len s p HP.out k (by omega)]
          have hkd : k < dd.length := by omega
          have hat : dd[k] = runL s (Drv.of s.cars[k]) (l.take j) := by subst hdd; simp
          obtain ⟨z0, z1, z2, z3⟩ := cellsD_at KC.out k hkd
          have hfit : (dd[k]).Fit := by
            rw [hat]
            exact (runL_fit s HS.out _ 0 _ (of_fit (HR.out _ (List.getElem_mem _))) (by rw [List.length_take]; omega)).fit (by rw [List.length_take]; omega)
          have HTO := Lib.hid (driveTo s.site HS.out dd[k] hfit f)
          have hnx : (dd[k]).to s.site f = runL s (Drv.of s.cars[k]) (l.take (j + 1)) := by
            rw [hat, List.take_succ_eq_append_getElem hlt2, runL_snoc, hn]
            unfold flr
            simp [hnw, hf]
          have hst : dd.set k ((dd[k]).to s.site f) = (dk s p k).set k (runL s (Drv.of s.cars[k]) (l.take (j + 1))) := by
            rw [hnx, ← hdd, List.set_set]
          obtain ⟨D, hD⟩ : ∃ D, dd[k] = D := ⟨_, rfl⟩
          rw [hD] at z0 z1 z2 z3 HTO hst
          have HST := Lib.hid hst
          have HDL := Lib.hid hdl
          have HKD := Lib.hid hkd
          clear hst hnx hfit hat hdl hdd hf hn hwj hD hkd
          go_wp2_with fail
          refine ev_quiet 18 (by kernel_rfl) (by kernel_rfl) ?_
          clear C
          simp only [List.take_succ_cons, List.take_zero, List.drop_succ_cons, List.drop_zero]
          (apply q_val rfl; (intro W CW; go_simp; rfl); (dsimp only [Act.put]; simp only [List.setIfInBounds_toArray, List.set_cons_succ, List.set_cons_zero]))
          (apply q_val rfl; (intro W CW; go_simp; rfl); (dsimp only [Act.put]; simp only [List.setIfInBounds_toArray, List.set_cons_succ, List.set_cons_zero]))
          (apply q_val rfl; (intro W CW; go_simp; rfl); (dsimp only [Act.put]; simp only [List.setIfInBounds_toArray, List.set_cons_succ, List.set_cons_zero]))
          (apply q_val rfl; (intro W CW; go_simp; rfl); (dsimp only [Act.put]; simp only [List.setIfInBounds_toArray, List.set_cons_succ, List.set_cons_zero]))
          (apply q_val rfl; (intro W CW; go_simp; rfl); (dsimp only [Act.put]; simp only [List.setIfInBounds_toArray, List.set_cons_succ, List.set_cons_zero]))
          (apply q_val rfl; (intro W CW; go_simp; rfl); (dsimp only [Act.put]; simp only [List.setIfInBounds_toArray, List.set_cons_succ, List.set_cons_zero]))
          (apply q_val rfl; (intro W CW; go_simp; rfl); (dsimp only [Act.put]; simp only [List.setIfInBounds_toArray, List.set_cons_succ, List.set_cons_zero]))
          (apply q_val rfl; (intro W CW; go_simp; rfl); (dsimp only [Act.put]; simp only [List.setIfInBounds_toArray, List.set_cons_succ, List.set_cons_zero]))
          (apply q_val rfl; (intro W CW; go_simp; rfl); (dsimp only [Act.put]; simp only [List.setIfInBounds_toArray, List.set_cons_succ, List.set_cons_zero]))
          (refine q_loadS (ty := 23) ((siteC s.site).toList) rfl rfl rfl Try.underlying23 rfl (by kernel_rfl) rfl ?_); (dsimp only [Act.put]; simp only [List.setIfInBounds_toArray, List.set_cons_succ, List.set_cons_zero])
          (apply q_val rfl; (intro W CW; go_simp; rfl); (dsimp only [Act.put]; simp only [List.setIfInBounds_toArray, List.set_cons_succ, List.set_cons_zero]))
          (apply q_val rfl; (intro W CW; go_simp; rfl); (dsimp only [Act.put]; simp only [List.setIfInBounds_toArray, List.set_cons_succ, List.set_cons_zero]))
          (apply q_val rfl; (intro W CW; go_simp; rfl); (dsimp only [Act.put]; simp only [List.setIfInBounds_toArray, List.set_cons_succ, List.set_cons_zero]))
          (apply q_val rfl; (intro W CW; go_simp; rfl); (dsimp only [Act.put]; simp only [List.setIfInBounds_toArray, List.set_cons_succ, List.set_cons_zero]))
          (apply q_val rfl; (intro W CW; go_simp; rfl); (dsimp only [Act.put]; simp only [List.setIfInBounds_toArray, List.set_cons_succ, List.set_cons_zero]))
          (apply q_val rfl; (intro W CW; go_simp; rfl); (dsimp only [Act.put]; simp only [List.setIfInBounds_toArray, List.set_cons_succ, List.set_cons_zero]))
          (apply q_call rfl (by intro W CW; go_simp; exact ⟨rfl, rfl⟩) (by intro W CW; exact quiet_call (HTO.out W) CW)); (dsimp only [Act.put]; simp only [List.setIfInBounds_toArray, List.set_cons_succ, List.set_cons_zero])
          (apply q_val rfl; (intro W CW; go_simp; rfl); (dsimp only [Act.put]; simp only [List.setIfInBounds_toArray, List.set_cons_succ, List.set_cons_zero]))
          refine wpQuiet_nil fun w6 C6 => ?_
          have KSO := KS.out
          refine ev_storeS (t := 146) (ty := 146) (cur := cur) (vs := drvC (D.to s.site f)) (g := gd) (off := k * 4) rfl rfl rfl rfl (by kernel_rfl) (by show k * 4 + 4 ≤ _; omega) (by rw [List.all_toArray]; rfl) ?_
          intro w7 C7
          clear C6 KSO
          go_wp2
          go_roundw
          case rel =>
            refine ⟨j + 1, setL cur (k * 4) (drvL (D.to s.site f)), by omega, by go_num, Lib.hid (by rw [size_setL, KS.out]), Lib.hid ?_, C7⟩
            rw [← HST.out]
            exact cellsD_set KC.out k HKD.out (by rw [HDL.out, KS.out]; omega) _
          case measure => simp [intOf]; omega
        · have hj' : j = l.length := by omega
          go_wp2
          go_roundw
          case rel =>
            refine ⟨k + 1, cur, by omega, by go_num, KS, Lib.hid ?_, C⟩
            have := KC.out
            have hkp : k < p.length := by rw [HP.out]; exact hlt
            rw [List.take_of_length_le (by omega), ← HLX.out, dk_next s p HP.out k hlt] at this
            exact this
          case measure => simp [intOf]; omega
    · have hk' : k = s.cars.length := by omega
      have hfin := dk_end s p HP.out k hk'
      have E0 := C.recast (g := gd) inferInstance kDrv (dk s p k) cp7 (by rw [dk_len s p HP.out k hk]; exact k0) K1.out (by rw [KS.out]; rfl) (cellsD_rep KC.out)
      have E := E0
      clear E0 C
      obtain ⟨O3, hO3, RV, E2⟩ := E.row_freeze 2 rfl (by rw [dk_len s p HP.out k hk]; omega)
      have E2 : Ctx w none O O3 [Cells g4 143 #[.int .i64 0, .slice (some ⟨gd, 0, none⟩) s.cars.length cp7, .slice A6 s.wants.length cp6], Row kNat 3 (.slice A6 s.wants.length cp6) (List.range s.wants.length), Cells g1 27 (snapC s.site (.slice A2 s.cars.length c2) (.slice A3 s.wants.length c3))] wr := E2
      have hdkl := dk_len s p HP.out k hk
      have HPC := Lib.hid (placeCost 0 (dk s p k) (dk_fit s HS.out HR.out p HL.out k) (by rw [hdkl]; exact hc8) (some ⟨gd, 0, none⟩) cp7 (.slice A6 s.wants.length cp6) rfl O3 wr E2.sub RV)
      rw [hdkl, hfin] at HPC
      clear E hfin hk' hdkl RV
      go_wp2_with (first | (go_at_call 79; (refine (HPC.out).mono ?_); rintro e w8 ⟨rfl, hb8⟩; have C8 := E2.keep hb8; clear hb8 E2))
      go_ret
      exact ⟨rfl, C8.bel⟩
end Go.Proofs.Ytomfgggomjbnfaa
