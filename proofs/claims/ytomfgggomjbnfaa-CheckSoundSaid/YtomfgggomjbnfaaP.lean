/- The walks of check's places. -/
import Derived.Test.YtomfgggomjbnfaaM
import Derived.Outline
set_option linter.unusedVariables false
set_option linter.unusedSimpArgs false
namespace Go.Proofs.Ytomfgggomjbnfaa
open Go.RowKit Go.Sep
attribute [local go_sem] cell_ctx frozen_ctx
theorem drop0 {w0 w : World} {R : Option World} {B O : PH} {L : List Ass} {A : Ass} [C : Ctx w0 R B O (A :: L) w] : Ctx w0 R B O L w := C.drop 0
theorem drop1 {w0 w : World} {R : Option World} {B O : PH} {L : List Ass} {A A' : Ass} [C : Ctx w0 R B O (A :: A' :: L) w] : Ctx w0 R B O (A :: L) w := C.drop 1
def kNat : Kind Nat := flat 1 (fun x => [.int .i64 (x : Int)]) (fun _ => rfl) (fun _ u h => by simp at h; subst h; rfl)
def sumTot : List Drv → Int
  | [] => 0
  | d :: l => d.tot + sumTot l
theorem sumTot_append (a b : List Drv) : sumTot (a ++ b) = sumTot a + sumTot b := by
  induction a with
  | nil => simp [sumTot]
  | cons d l ih => simp [sumTot, ih]; omega
theorem sumTot_bd (l : List Drv) (h : ∀ d, d ∈ l → d.Fit) : 0 ≤ sumTot l ∧ sumTot l ≤ l.length * 1000000000000 := by
  induction l with
  | nil => simp [sumTot]
  | cons d l ih =>
    have h1 := (h d (by simp)).2.2
    have h2 := ih fun d hd => h d (by simp [hd])
    simp only [sumTot, List.length_cons]
    omega
set_option maxRecDepth 100000 in
theorem placeCost (car : Int) (drs : List Drv) (hd : ∀ d, d ∈ drs → d.Fit) (h8 : drs.length ≤ 8) (A1 : Option Addr) (c1 : Nat) (v2 : Value) (h2 : v2.oneCell' = true) (O : PH) (w : World) (hO : PLe O (hp w)) (r1 : Rd kDrv O (.slice A1 drs.length c1) drs) :
    Calls Try.prog 79 #[.agg #[.int .i64 car, .slice A1 drs.length c1, v2]] w fun e w' => e = .returned (.int .i64 (sumTot drs)) ∧ Below w.heap.size w w' := by
  have C0 := Ctx.start hO
  have R1 := Lib.hid r1
  have hl := r1.len
  have HD := Lib.hid hd
  clear r1 hd hO
  go_enter Try.func79, Try.ntmps79
  go_wp2_with (first | ((with_reducible refine gate ?_); first | (refine ev_boxT (t := 143) rfl rfl (by go_simp; rfl) ?_; intro g1 w1 C1)))
  go_loopw [2, 4, 8, 9, 10, 11, 12, 13, 14, 15, 16] (fun t2 _ t8 _ _ _ _ _ _ _ _ wr => ∃ k : Nat, k ≤ drs.length ∧ t8 = .int .i64 k ∧ t2 = .int .i64 (sumTot (drs.take k)) ∧ Ctx w none O O [Cells g1 143 #[.int .i64 car, .slice A1 drs.length c1, v2]] wr) (fun _ _ t8 _ _ _ _ _ _ _ _ _ => drs.length - (intOf t8).toNat)
  case atStart => exact ⟨0, Nat.zero_le _, rfl, rfl, C1⟩
  case round =>
    obtain ⟨k, hk, rfl, rfl, C⟩ := hrel
    by_cases hlt : k < drs.length
    · obtain ⟨b, off, c', cs, e1, rfl, hc⟩ := R1.out.at_ C.sub k hlt
      cases e1
      have k0 := hc 0 _ rfl
      have k1 := hc 1 _ rfl
      have k2 := hc 2 _ rfl
      have k3 := hc 3 _ rfl
      simp only [show kDrv.sz = 4 from rfl, Nat.add_zero] at k0 k1 k2 k3
      have b1 := sumTot_bd (drs.take k) fun d hd => HD.out d (List.mem_of_mem_take hd)
      have b2 := (HD.out _ (List.getElem_mem hlt)).2.2
      have b3 : (drs.take k).length ≤ 8 := by rw [List.length_take]; omega
      have hS : sumTot (drs.take (k + 1)) = sumTot (drs.take k) + drs[k].tot := by rw [List.take_succ_eq_append_getElem hlt, sumTot_append]; simp [sumTot]
      have HS := Lib.hid hS
      obtain ⟨S, hSS⟩ : ∃ S, sumTot (drs.take k) = S := ⟨_, rfl⟩
      have b4 : 0 ≤ S ∧ S ≤ 8000000000000 := by rw [← hSS]; omega
      have H2 := Lib.hid hSS
      rw [hSS]
      clear hS hSS hc b1 b3
      obtain ⟨⟨b5, b6⟩, b7, b8⟩ := And.intro b4 b2
      clear b4 b2
      go_wp2_with (first | ((with_reducible refine gate ?_); first | (refine ev_alloc (t := 146) rfl rfl (by go_simp; rfl) ?_; intro g2 w2 C2)))
      go_roundw
      case rel => exact ⟨k + 1, by omega, by go_num, by rw [HS.out, H2.out], drop0⟩
      case measure => simp [intOf]; omega
    · go_wp2
      go_ret
      exact ⟨ret_int (by rw [List.take_of_length_le (by omega)]), C.bel⟩
end Go.Proofs.Ytomfgggomjbnfaa
