/- The law's arguments, opened: a snapshot, and bytes. -/
import Derived.Test.YtomfgggomjbnfaaD
import Derived.Deep.SlicePairs
import Derived.ProofKit
import Derived.OpenShut
import Derived.SizedLaws
set_option linter.unusedVariables false
namespace Go.Proofs.Ytomfgggomjbnfaa
open Go.RowKit Go.Sep Go.ChangeShapes Go.WideShapes
theorem rd_of_cells {α : Type} {d : Kind α} (hd : 0 < d.sz) {W : World} {a : Addr} {len cap : Nat} {xs : List α} (hl : xs.length = len) (hc : len ≤ cap) (hm : len ≤ 140737488355328)
    (h : ∀ i x, xs[i]? = some x → ∃ cs, d.rep (hp W) x cs ∧ ∀ k u, cs[k]? = some u → W.cell? (a.add (i * d.sz + k)) = some u) : Rd d (hp W) (.slice (some a) len cap) xs := by
  refine ⟨some a, cap, by rw [hl], by omega, by omega, fun i x hx => ?_⟩
  have h0 : 0 < xs.length := by have := (List.getElem?_eq_some_iff.1 hx).1; omega
  have cellBlk : ∀ (ad : Addr) u, W.cell? ad = some u → ad.spot = none ∧ ∃ blk, hp W ad.block = some blk ∧ cellOf blk ad.off = some u := by
    intro ad u hu
    unfold World.cell? at hu
    cases hb : W.heap[ad.block]? with
    | none => rw [hb] at hu; cases hu
    | some blk =>
      rw [hb] at hu
      cases blk with
      | cells c t f =>
        dsimp only at hu
        split at hu
        · cases hu
        · rename_i hs
          exact ⟨by cases hsp : ad.spot with | none => rfl | some y => rw [hsp] at hs; exact absurd rfl hs, _, hb, hu⟩
      | _ => cases hu
  have spot : a.spot = none := by
    obtain ⟨cs, hr, hk⟩ := h 0 _ (List.getElem?_eq_getElem h0)
    have hlen := d.len hr
    have hcs : 0 < cs.length := by omega
    have := hk 0 _ (List.getElem?_eq_getElem hcs)
    rw [Nat.zero_mul, Nat.zero_add] at this
    have e : a.add 0 = a := by unfold Addr.add; rw [if_pos rfl]
    rw [e] at this
    exact (cellBlk _ _ this).1
  obtain ⟨b, off, sp⟩ := a
  dsimp only at spot
  subst spot
  obtain ⟨cs, hr, hk⟩ := h i x hx
  have hlen := d.len hr
  have hcs : 0 < cs.length := by omega
  have k0 := hk 0 _ (List.getElem?_eq_getElem hcs)
  rw [Addr.add_lit] at k0
  obtain ⟨_, blk, hb, _⟩ := cellBlk _ _ k0
  refine ⟨b, off, cs, blk, rfl, hb, hr, fun k u hu => ?_⟩
  have := hk k u hu
  rw [Addr.add_lit] at this
  obtain ⟨_, blk', hb', hc'⟩ := cellBlk _ _ this
  have : blk = blk' := Option.some.inj (hb.symm.trans hb')
  subst this
  rw [Nat.add_assoc]
  exact hc'
def numV : Value → Int
  | .int _ n => n
  | _ => 0
section
variable {H : Type} {enc : TypeId × Value → H} {W : World}
theorem open_ready {fuel : Nat} {cs : List Value} {x : DataW H × List MemPlace} (h : DataW.trod enc Try.prog W 0 (fun _ => true) true fuel 24 cs = some x) (hw : ∀ n ∈ x.1.weights Try.prog 24, n ≤ reachBytes) :
    ∃ A c xs, cs = [.slice A xs.length c] ∧ Rd kReady (hp W) (.slice A xs.length c) xs := by
  rcases Go.Deep.open_slice_pairs Try.underlying24 Try.underlying67 (by kernel_rfl) rfl rfl (by kernel_rfl) (by kernel_rfl) h with ⟨rfl, _⟩ | ⟨a, len, cap, m, n, V0, V1, D0, D1, P0, P1, rfl, _, hl, _, hm, rfl, hx⟩
  · exact ⟨none, 0, [], rfl, Rd.nil _ _⟩
  · have hm : m = cap := by simpa using hm
    have hb : len ≤ 140737488355328 := by
      have := hw _ (by simp only [DataW.weights, Try.underlying24]; exact List.mem_cons_self)
      have hB : Try.prog.bytesOf 67 = 16 := by kernel_rfl
      rw [hB] at this
      simp only [List.length_map, List.length_range] at this
      unfold reachBytes at this
      omega
    refine ⟨some a, cap, (List.range len).map fun i => ⟨numV (V0 i), numV (V1 i)⟩, by simp, ?_⟩
    rw [List.length_map, List.length_range]
    refine rd_of_cells (by decide) (by simp) hl hb fun i r hr => ?_
    rw [List.getElem?_map] at hr
    obtain ⟨j, hj, rfl⟩ := Option.map_eq_some_iff.1 hr
    have hi : i < len := by have := (List.getElem?_eq_some_iff.1 hj).1; simpa using this
    have hji : j = i := by rw [List.getElem?_range hi] at hj; exact (Option.some.inj hj).symm
    subst hji
    obtain ⟨c0, c1, t0, t1⟩ := hx j (by omega)
    obtain ⟨n0, e0, _, _⟩ := DataW.trod_int Try.underlying3 t0
    obtain ⟨n1, e1, _, _⟩ := DataW.trod_int Try.underlying3 t1
    have e0 : V0 j = .int .i64 n0 := by simpa using e0
    have e1 : V1 j = .int .i64 n1 := by simpa using e1
    refine ⟨_, rfl, fun k u hu => ?_⟩
    rw [e0] at c0
    rw [e1] at c1
    rw [e0, e1] at hu
    match k, hu with
    | 0, hu => cases hu; exact c0
    | 1, hu => cases hu; exact c1
theorem open_want {fuel : Nat} {cs : List Value} {x : DataW H × List MemPlace} (h : DataW.trod enc Try.prog W 0 (fun _ => true) true fuel 25 cs = some x) (hw : ∀ n ∈ x.1.weights Try.prog 25, n ≤ reachBytes) :
    ∃ A c xs, cs = [.slice A xs.length c] ∧ Rd kWant (hp W) (.slice A xs.length c) xs := by
  rcases Go.Deep.open_slice_pairs Try.underlying25 Try.underlying92 (by kernel_rfl) rfl rfl (by kernel_rfl) (by kernel_rfl) h with ⟨rfl, _⟩ | ⟨a, len, cap, m, n, V0, V1, D0, D1, P0, P1, rfl, _, hl, _, hm, rfl, hx⟩
  · exact ⟨none, 0, [], rfl, Rd.nil _ _⟩
  · have hm : m = cap := by simpa using hm
    have hb : len ≤ 140737488355328 := by
      have := hw _ (by simp only [DataW.weights, Try.underlying25]; exact List.mem_cons_self)
      have hB : Try.prog.bytesOf 92 = 16 := by kernel_rfl
      rw [hB] at this
      simp only [List.length_map, List.length_range] at this
      unfold reachBytes at this
      omega
    refine ⟨some a, cap, (List.range len).map fun i => ⟨numV (V0 i), numV (V1 i)⟩, by simp, ?_⟩
    rw [List.length_map, List.length_range]
    refine rd_of_cells (by decide) (by simp) hl hb fun i r hr => ?_
    rw [List.getElem?_map] at hr
    obtain ⟨j, hj, rfl⟩ := Option.map_eq_some_iff.1 hr
    have hi : i < len := by have := (List.getElem?_eq_some_iff.1 hj).1; simpa using this
    have hji : j = i := by rw [List.getElem?_range hi] at hj; exact (Option.some.inj hj).symm
    subst hji
    obtain ⟨c0, c1, t0, t1⟩ := hx j (by omega)
    obtain ⟨n0, e0, _, _⟩ := DataW.trod_int Try.underlying3 t0
    obtain ⟨n1, e1, _, _⟩ := DataW.trod_int Try.underlying3 t1
    have e0 : V0 j = .int .i64 n0 := by simpa using e0
    have e1 : V1 j = .int .i64 n1 := by simpa using e1
    refine ⟨_, rfl, fun k u hu => ?_⟩
    rw [e0] at c0
    rw [e1] at c1
    rw [e0, e1] at hu
    match k, hu with
    | 0, hu => cases hu; exact c0
    | 1, hu => cases hu; exact c1
theorem int_cell {fuel : Nat} {cs : List Value} {x : DataW H × List MemPlace} (h : DataW.trod enc Try.prog W 0 (fun _ => true) true fuel 3 cs = some x) : ∃ n, cs = [.int .i64 n] := by
  obtain ⟨n, e, _⟩ := DataW.trod_int Try.underlying3 h
  exact ⟨n, e⟩
set_option maxRecDepth 100000 in
theorem open_site {fuel : Nat} {cs : List Value} {x : DataW H × List MemPlace} (h : DataW.trod enc Try.prog W 0 (fun _ => true) true fuel 23 cs = some x) : ∃ st : Site, cs = (siteC st).toList := by
  obtain ⟨xs, n, _, _, hl, hxl, hf⟩ := DataW.trod_struct Try.underlying23 h
  have hl : cs.length = 13 := hl.trans (by kernel_rfl)
  have hxl : xs.length = 13 := hxl
  have c3 : Try.prog.cellsOf 3 = 1 := by kernel_rfl
  match cs, hl with
  | [y0, y1, y2, y3, y4, y5, y6, y7, y8, y9, y10, y11, y12], _ =>
    have g : ∀ i (hi : i < 13), ∃ z, xs[i]? = some z := fun i hi => ⟨xs[i]'(by omega), List.getElem?_eq_getElem (by omega)⟩
    obtain ⟨z0, k0⟩ := g 0 (by decide)
    obtain ⟨z1, k1⟩ := g 1 (by decide)
    obtain ⟨z2, k2⟩ := g 2 (by decide)
    obtain ⟨z3, k3⟩ := g 3 (by decide)
    obtain ⟨z4, k4⟩ := g 4 (by decide)
    obtain ⟨z5, k5⟩ := g 5 (by decide)
    obtain ⟨z6, k6⟩ := g 6 (by decide)
    obtain ⟨z7, k7⟩ := g 7 (by decide)
    obtain ⟨z8, k8⟩ := g 8 (by decide)
    obtain ⟨z9, k9⟩ := g 9 (by decide)
    obtain ⟨z10, k10⟩ := g 10 (by decide)
    obtain ⟨z11, k11⟩ := g 11 (by decide)
    obtain ⟨z12, k12⟩ := g 12 (by decide)
    have f0 : DataW.trod enc Try.prog W 0 (fun _ => true) true n 3 (([y0, y1, y2, y3, y4, y5, y6, y7, y8, y9, y10, y11, y12].drop 0).take (Try.prog.cellsOf 3)) = some z0 := (hf 0 _ rfl).trans k0
    rw [c3] at f0
    have f0 : DataW.trod enc Try.prog W 0 (fun _ => true) true n 3 [y0] = some z0 := f0
    have f1 : DataW.trod enc Try.prog W 0 (fun _ => true) true n 3 (([y0, y1, y2, y3, y4, y5, y6, y7, y8, y9, y10, y11, y12].drop 1).take (Try.prog.cellsOf 3)) = some z1 := (hf 1 _ rfl).trans k1
    rw [c3] at f1
    have f1 : DataW.trod enc Try.prog W 0 (fun _ => true) true n 3 [y1] = some z1 := f1
    have f2 : DataW.trod enc Try.prog W 0 (fun _ => true) true n 3 (([y0, y1, y2, y3, y4, y5, y6, y7, y8, y9, y10, y11, y12].drop 2).take (Try.prog.cellsOf 3)) = some z2 := (hf 2 _ rfl).trans k2
    rw [c3] at f2
    have f2 : DataW.trod enc Try.prog W 0 (fun _ => true) true n 3 [y2] = some z2 := f2
    have f3 : DataW.trod enc Try.prog W 0 (fun _ => true) true n 3 (([y0, y1, y2, y3, y4, y5, y6, y7, y8, y9, y10, y11, y12].drop 3).take (Try.prog.cellsOf 3)) = some z3 := (hf 3 _ rfl).trans k3
    rw [c3] at f3
    have f3 : DataW.trod enc Try.prog W 0 (fun _ => true) true n 3 [y3] = some z3 := f3
    have f4 : DataW.trod enc Try.prog W 0 (fun _ => true) true n 3 (([y0, y1, y2, y3, y4, y5, y6, y7, y8, y9, y10, y11, y12].drop 4).take (Try.prog.cellsOf 3)) = some z4 := (hf 4 _ rfl).trans k4
    rw [c3] at f4
    have f4 : DataW.trod enc Try.prog W 0 (fun _ => true) true n 3 [y4] = some z4 := f4
    have f5 : DataW.trod enc Try.prog W 0 (fun _ => true) true n 3 (([y0, y1, y2, y3, y4, y5, y6, y7, y8, y9, y10, y11, y12].drop 5).take (Try.prog.cellsOf 3)) = some z5 := (hf 5 _ rfl).trans k5
    rw [c3] at f5
    have f5 : DataW.trod enc Try.prog W 0 (fun _ => true) true n 3 [y5] = some z5 := f5
    have f6 : DataW.trod enc Try.prog W 0 (fun _ => true) true n 3 (([y0, y1, y2, y3, y4, y5, y6, y7, y8, y9, y10, y11, y12].drop 6).take (Try.prog.cellsOf 3)) = some z6 := (hf 6 _ rfl).trans k6
    rw [c3] at f6
    have f6 : DataW.trod enc Try.prog W 0 (fun _ => true) true n 3 [y6] = some z6 := f6
    have f7 : DataW.trod enc Try.prog W 0 (fun _ => true) true n 3 (([y0, y1, y2, y3, y4, y5, y6, y7, y8, y9, y10, y11, y12].drop 7).take (Try.prog.cellsOf 3)) = some z7 := (hf 7 _ rfl).trans k7
    rw [c3] at f7
    have f7 : DataW.trod enc Try.prog W 0 (fun _ => true) true n 3 [y7] = some z7 := f7
    have f8 : DataW.trod enc Try.prog W 0 (fun _ => true) true n 3 (([y0, y1, y2, y3, y4, y5, y6, y7, y8, y9, y10, y11, y12].drop 8).take (Try.prog.cellsOf 3)) = some z8 := (hf 8 _ rfl).trans k8
    rw [c3] at f8
    have f8 : DataW.trod enc Try.prog W 0 (fun _ => true) true n 3 [y8] = some z8 := f8
    have f9 : DataW.trod enc Try.prog W 0 (fun _ => true) true n 3 (([y0, y1, y2, y3, y4, y5, y6, y7, y8, y9, y10, y11, y12].drop 9).take (Try.prog.cellsOf 3)) = some z9 := (hf 9 _ rfl).trans k9
    rw [c3] at f9
    have f9 : DataW.trod enc Try.prog W 0 (fun _ => true) true n 3 [y9] = some z9 := f9
    have f10 : DataW.trod enc Try.prog W 0 (fun _ => true) true n 3 (([y0, y1, y2, y3, y4, y5, y6, y7, y8, y9, y10, y11, y12].drop 10).take (Try.prog.cellsOf 3)) = some z10 := (hf 10 _ rfl).trans k10
    rw [c3] at f10
    have f10 : DataW.trod enc Try.prog W 0 (fun _ => true) true n 3 [y10] = some z10 := f10
    have f11 : DataW.trod enc Try.prog W 0 (fun _ => true) true n 3 (([y0, y1, y2, y3, y4, y5, y6, y7, y8, y9, y10, y11, y12].drop 11).take (Try.prog.cellsOf 3)) = some z11 := (hf 11 _ rfl).trans k11
    rw [c3] at f11
    have f11 : DataW.trod enc Try.prog W 0 (fun _ => true) true n 3 [y11] = some z11 := f11
    have f12 : DataW.trod enc Try.prog W 0 (fun _ => true) true n 3 (([y0, y1, y2, y3, y4, y5, y6, y7, y8, y9, y10, y11, y12].drop 12).take (Try.prog.cellsOf 3)) = some z12 := (hf 12 _ rfl).trans k12
    rw [c3] at f12
    have f12 : DataW.trod enc Try.prog W 0 (fun _ => true) true n 3 [y12] = some z12 := f12
    obtain ⟨n0, e0⟩ := int_cell f0
    obtain ⟨n1, e1⟩ := int_cell f1
    obtain ⟨n2, e2⟩ := int_cell f2
    obtain ⟨n3, e3⟩ := int_cell f3
    obtain ⟨n4, e4⟩ := int_cell f4
    obtain ⟨n5, e5⟩ := int_cell f5
    obtain ⟨n6, e6⟩ := int_cell f6
    obtain ⟨n7, e7⟩ := int_cell f7
    obtain ⟨n8, e8⟩ := int_cell f8
    obtain ⟨n9, e9⟩ := int_cell f9
    obtain ⟨n10, e10⟩ := int_cell f10
    obtain ⟨n11, e11⟩ := int_cell f11
    obtain ⟨n12, e12⟩ := int_cell f12
    cases e0; cases e1; cases e2; cases e3; cases e4; cases e5; cases e6; cases e7; cases e8; cases e9; cases e10; cases e11; cases e12
    exact ⟨⟨n0, n1, n2, n3, n4, n5, n6, n7, n8, n9, n10, n11, n12⟩, rfl⟩
set_option maxRecDepth 100000 in
theorem open_snap {v : Value} {d : DataW H} {p : List MemPlace} {base : Nat} (hok : Value.okWide Try.prog W .any base 27 v) (h : DataW.Trod enc Try.prog W 0 (fun _ => true) true 27 v d p) (hw : ∀ n ∈ d.weights Try.prog 27, n ≤ reachBytes) :
    ∃ (s : Snap) (A2 A3 : Option Addr) (c2 c3 : Nat), v = snapV s.site (.slice A2 s.cars.length c2) (.slice A3 s.wants.length c3) ∧ Rd kReady (hp W) (.slice A2 s.cars.length c2) s.cars ∧ Rd kWant (hp W) (.slice A3 s.wants.length c3) s.wants := by
  obtain ⟨cs, rfl, hsz⟩ := okWide_struct Try.underlying27 hok
  obtain ⟨fuel, hf⟩ := h
  have hcells : (Value.agg cs).cells.toList = cs.toList := rfl
  rw [hcells] at hf
  obtain ⟨xs, n, _, hx, hl, hxl, hfd⟩ := DataW.trod_struct Try.underlying27 hf
  obtain ⟨rfl, _⟩ := Prod.mk.inj hx
  have hxl : xs.length = 3 := hxl
  have hl : cs.toList.length = 15 := hl.trans (by kernel_rfl)
  have c23 : Try.prog.cellsOf 23 = 13 := by kernel_rfl
  have c24 : Try.prog.cellsOf 24 = 1 := by kernel_rfl
  have c25 : Try.prog.cellsOf 25 = 1 := by kernel_rfl
  match xs, hxl with
  | [z0, z1, z2], _ =>
    have f0 : DataW.trod enc Try.prog W 0 (fun _ => true) true n 23 ((cs.toList.drop 0).take (Try.prog.cellsOf 23)) = some z0 := hfd 0 _ rfl
    have f1 : DataW.trod enc Try.prog W 0 (fun _ => true) true n 24 ((cs.toList.drop 13).take (Try.prog.cellsOf 24)) = some z1 := hfd 1 _ rfl
    have f2 : DataW.trod enc Try.prog W 0 (fun _ => true) true n 25 ((cs.toList.drop 14).take (Try.prog.cellsOf 25)) = some z2 := hfd 2 _ rfl
    rw [c23] at f0
    rw [c24] at f1
    rw [c25] at f2
    have hwt : ∀ m, m ∈ DataW.weightsEach Try.prog [23, 24, 25] [z0.1, z1.1, z2.1] → m ≤ reachBytes := fun m hm => hw m (by
      have e : (DataW.agg (List.map (fun x => x.1) [z0, z1, z2])).weights Try.prog 27 = DataW.weightsEach Try.prog [23, 24, 25] [z0.1, z1.1, z2.1] := by
        simp only [DataW.weights, Try.underlying27]
        rfl
      rw [e]; exact hm)
    obtain ⟨st, e0⟩ := open_site f0
    obtain ⟨A2, c2, xs2, e1, r2⟩ := open_ready f1 fun m hm => hwt m (DataW.weights_mem_each (j := 1) rfl rfl m hm)
    obtain ⟨A3, c3, xs3, e2, r3⟩ := open_want f2 fun m hm => hwt m (DataW.weights_mem_each (j := 2) rfl rfl m hm)
    refine ⟨⟨st, xs2, xs3⟩, A2, A3, c2, c3, ?_, r2, r3⟩
    have hsplit : cs.toList = (cs.toList.drop 0).take 13 ++ ((cs.toList.drop 13).take 1 ++ (cs.toList.drop 14).take 1) := by
      have h1 : cs.toList.drop 13 = (cs.toList.drop 13).take 1 ++ (cs.toList.drop 14) := by
        conv => lhs; rw [← List.take_append_drop 1 (cs.toList.drop 13), List.drop_drop]
      have h2 : (cs.toList.drop 14).take 1 = cs.toList.drop 14 := List.take_of_length_le (by rw [List.length_drop]; omega)
      rw [h2, ← h1, List.drop_zero, List.take_append_drop]
    rw [e0, e1, e2] at hsplit
    have : cs = snapC st (.slice A2 xs2.length c2) (.slice A3 xs3.length c3) := by
      apply Array.toList_inj.1
      rw [hsplit]
      rfl
    rw [this]
set_option maxRecDepth 100000 in
theorem open_bytes {v : Value} {d : DataW H} {p : List MemPlace} {base : Nat} (hok : Value.okWide Try.prog W .any base 28 v) (h : DataW.Trod enc Try.prog W 0 (fun _ => true) true 28 v d p) (hw : ∀ n ∈ d.weights Try.prog 28, n ≤ reachBytes) :
    ∃ (b : List Int) (A : Option Addr) (c : Nat), v = .slice A b.length c ∧ (∀ x, x ∈ b → 0 ≤ x ∧ x < 256) ∧ Rd kU8 (hp W) (.slice A b.length c) b := by
  obtain ⟨A, len, cap, rfl⟩ := okWide_slice Try.underlying28 hok
  obtain ⟨fuel, hf⟩ := h
  rcases open_ints Try.underlying28 Try.underlying5 (by kernel_rfl) hf with ⟨hcs, _⟩ | ⟨a, l, c, zs, hcs, _, hl, hm, hz, hx, hcell, hwz⟩
  · simp [Value.cells] at hcs
    obtain ⟨rfl, rfl, rfl⟩ := hcs
    exact ⟨[], none, 0, rfl, by simp, Rd.nil _ _⟩
  · simp [Value.cells] at hcs
    obtain ⟨rfl, rfl, rfl⟩ := hcs
    obtain ⟨rfl, _⟩ := Prod.mk.inj hx
    have hz : zs.length = cap := by simpa using hz
    have hb : len ≤ 140737488355328 := by
      have := hw _ (by simp only [DataW.weights, Try.underlying28]; exact List.mem_cons_self)
      have hB : Try.prog.bytesOf 5 = 1 := by kernel_rfl
      rw [hB] at this
      simp only [lits, List.length_map, List.length_take, List.length_drop] at this
      unfold reachBytes at this
      omega
    have hlen : (zs.take len).length = len := by rw [List.length_take]; omega
    refine ⟨zs.take len, some a, cap, by rw [hlen], fun x hx => ?_, ?_⟩
    · have := hwz x (List.mem_of_mem_take hx)
      simp [Lit.wf, IntKind.min, IntKind.max, IntKind.signed, IntKind.bits] at this
      omega
    · rw [hlen]
      refine rd_of_cells (by decide) hlen hl hb fun i x hx => ⟨_, rfl, fun k u hu => ?_⟩
      have hi : i < len := by have := (List.getElem?_eq_some_iff.1 hx).1; omega
      have := hcell i (by omega)
      match k, hu with
      | 0, hu =>
        cases hu
        rw [show i * kU8.sz + 0 = i from Nat.mul_one i, this]
        have hxx : zs.getD i 0 = x := by
          rw [List.getElem?_take, if_pos hi] at hx
          rw [List.getD_eq_getElem?_getD, hx]; rfl
        rw [hxx]
end
end Go.Proofs.Ytomfgggomjbnfaa
