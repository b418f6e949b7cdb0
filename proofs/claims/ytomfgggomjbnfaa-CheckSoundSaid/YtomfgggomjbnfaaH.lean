/- The walk of a mark's claim. -/
import Derived.Test.YtomfgggomjbnfaaL
import Derived.Outline
set_option linter.unusedVariables false
set_option linter.unusedSimpArgs false
namespace Go.Proofs.Ytomfgggomjbnfaa
open Go.RowKit Go.Sep
attribute [local go_sem] cell_ctx frozen_ctx
/-- What a mark claims of a node. -/
def holdsB (s : Snap) (drs : List Drv) (car : Nat) (left : List Nat) (m : Int) (T : Int) : Bool :=
  if m = 0 then decide (T ≤ lc s drs car left left.length)
  else if m = 1 then decide (0 < left.length)
  else if m = 2 then decide (left.length = 0) && decide (T ≤ sumTot drs)
  else false
set_option maxRecDepth 100000 in
set_option maxHeartbeats 6000000 in
theorem holds0 (s : Snap) (hs : siteB s.site = true) (hw : ∀ x, x ∈ s.wants → 0 ≤ x.cars ∧ x.cars < 256) (car : Nat) (drs : List Drv) (hd : ∀ d, d ∈ drs → d.Fit) (h8 : drs.length ≤ 8) (hcar : car ≤ drs.length) (left : List Nat) (hl : ∀ k, k ∈ left → k < s.wants.length)
    (A1 A2 A3 : Option Addr) (c1 c2 c3 : Nat) (v4 : Value) (h4 : v4.oneCell' = true) (T : Int) (O : PH) (w : World) (hO : PLe O (hp w)) (r1 : Rd kDrv O (.slice A1 drs.length c1) drs) (r2 : Rd kNat O (.slice A2 left.length c2) left) (r3 : Rd kWant O (.slice A3 s.wants.length c3) s.wants) :
    Calls Try.prog 80 #[.agg #[.int .i64 car, .slice A1 drs.length c1, .slice A2 left.length c2], snapV s.site v4 (.slice A3 s.wants.length c3), .int .u8 0, .int .i64 T] w fun e w' => e = .returned (.bool (holdsB s drs car left 0 T)) ∧ Below w.heap.size w w' := by
  have C0 := Ctx.start hO
  have HLE := Lib.hid fun w' (h : PLe O (hp w')) => placeLeast s hs hw car drs hd h8 hcar left hl A1 A2 A3 c1 c2 c3 v4 h4 O w' h r1 r2 r3
  have HC := Lib.hid fun w' (h : PLe O (hp w')) => placeCost car drs hd h8 A1 c1 (.slice A2 left.length c2) rfl O w' h r1
  have l2 := r2.len
  clear r1 r2 r3 hd hw hl hs hO
  go_enter Try.func80, Try.ntmps80
  go_wp2_with (first | ((with_reducible refine gate ?_); first | (refine ev_boxT (t := 143) rfl rfl (by go_simp; rfl) ?_; intro g1 w1 C1) | (refine ev_boxT (t := 27) rfl rfl (by go_simp; rfl) ?_; intro g2 w2 C2; clear C1) | (refine ev_loadS (ty := 143) (#[.int .i64 car, .slice A1 drs.length c1, .slice A2 left.length c2] : Array Value).toList rfl rfl rfl Try.underlying143 rfl (by kernel_rfl) rfl ?_) | (refine ev_loadS (ty := 27) (snapC s.site v4 (.slice A3 s.wants.length c3)).toList rfl rfl rfl Try.underlying27 rfl (by kernel_rfl) rfl ?_)) | (go_at_call 107; refine (HLE.out _ C2.sub).mono ?_; rintro e w3 ⟨rfl, hb3⟩; have C3 := C2.keep hb3; clear hb3 C2) | (go_at_call 79; refine (HC.out _ C2.sub).mono ?_; rintro e w3 ⟨rfl, hb3⟩; have C3 := C2.keep hb3; clear hb3 C2))
  go_ret
  exact ⟨by simp [holdsB], C3.bel⟩
set_option maxRecDepth 100000 in
set_option maxHeartbeats 6000000 in
theorem holds1 (s : Snap) (hs : siteB s.site = true) (hw : ∀ x, x ∈ s.wants → 0 ≤ x.cars ∧ x.cars < 256) (car : Nat) (drs : List Drv) (hd : ∀ d, d ∈ drs → d.Fit) (h8 : drs.length ≤ 8) (hcar : car ≤ drs.length) (left : List Nat) (hl : ∀ k, k ∈ left → k < s.wants.length)
    (A1 A2 A3 : Option Addr) (c1 c2 c3 : Nat) (v4 : Value) (h4 : v4.oneCell' = true) (T : Int) (O : PH) (w : World) (hO : PLe O (hp w)) (r1 : Rd kDrv O (.slice A1 drs.length c1) drs) (r2 : Rd kNat O (.slice A2 left.length c2) left) (r3 : Rd kWant O (.slice A3 s.wants.length c3) s.wants) :
    Calls Try.prog 80 #[.agg #[.int .i64 car, .slice A1 drs.length c1, .slice A2 left.length c2], snapV s.site v4 (.slice A3 s.wants.length c3), .int .u8 1, .int .i64 T] w fun e w' => e = .returned (.bool (holdsB s drs car left 1 T)) ∧ Below w.heap.size w w' := by
  have C0 := Ctx.start hO
  have HLE := Lib.hid fun w' (h : PLe O (hp w')) => placeLeast s hs hw car drs hd h8 hcar left hl A1 A2 A3 c1 c2 c3 v4 h4 O w' h r1 r2 r3
  have HC := Lib.hid fun w' (h : PLe O (hp w')) => placeCost car drs hd h8 A1 c1 (.slice A2 left.length c2) rfl O w' h r1
  have l2 := r2.len
  clear r1 r2 r3 hd hw hl hs hO
  have hh : holdsB s drs car left 1 T = decide (0 < left.length) := rfl
  by_cases h0 : 0 < left.length
  · go_enter Try.func80, Try.ntmps80
    go_wp2_with (first | ((with_reducible refine gate ?_); first | (refine ev_boxT (t := 143) rfl rfl (by go_simp; rfl) ?_; intro g1 w1 C1) | (refine ev_boxT (t := 27) rfl rfl (by go_simp; rfl) ?_; intro g2 w2 C2; clear C1) | (refine ev_loadS (ty := 143) (#[.int .i64 car, .slice A1 drs.length c1, .slice A2 left.length c2] : Array Value).toList rfl rfl rfl Try.underlying143 rfl (by kernel_rfl) rfl ?_) | (refine ev_loadS (ty := 27) (snapC s.site v4 (.slice A3 s.wants.length c3)).toList rfl rfl rfl Try.underlying27 rfl (by kernel_rfl) rfl ?_)) | (go_at_call 107; refine (HLE.out _ C2.sub).mono ?_; rintro e w3 ⟨rfl, hb3⟩; have C3 := C2.keep hb3; clear hb3 C2) | (go_at_call 79; refine (HC.out _ C2.sub).mono ?_; rintro e w3 ⟨rfl, hb3⟩; have C3 := C2.keep hb3; clear hb3 C2))
    go_ret
    exact ⟨by rw [hh, decide_eq_true h0]; rfl, C2.bel⟩
  · go_enter Try.func80, Try.ntmps80
    go_wp2_with (first | ((with_reducible refine gate ?_); first | (refine ev_boxT (t := 143) rfl rfl (by go_simp; rfl) ?_; intro g1 w1 C1) | (refine ev_boxT (t := 27) rfl rfl (by go_simp; rfl) ?_; intro g2 w2 C2; clear C1) | (refine ev_loadS (ty := 143) (#[.int .i64 car, .slice A1 drs.length c1, .slice A2 left.length c2] : Array Value).toList rfl rfl rfl Try.underlying143 rfl (by kernel_rfl) rfl ?_) | (refine ev_loadS (ty := 27) (snapC s.site v4 (.slice A3 s.wants.length c3)).toList rfl rfl rfl Try.underlying27 rfl (by kernel_rfl) rfl ?_)) | (go_at_call 107; refine (HLE.out _ C2.sub).mono ?_; rintro e w3 ⟨rfl, hb3⟩; have C3 := C2.keep hb3; clear hb3 C2) | (go_at_call 79; refine (HC.out _ C2.sub).mono ?_; rintro e w3 ⟨rfl, hb3⟩; have C3 := C2.keep hb3; clear hb3 C2))
    go_ret
    exact ⟨by rw [hh, decide_eq_false h0]; rfl, C2.bel⟩
set_option maxRecDepth 100000 in
set_option maxHeartbeats 6000000 in
theorem holds2a (s : Snap) (hs : siteB s.site = true) (hw : ∀ x, x ∈ s.wants → 0 ≤ x.cars ∧ x.cars < 256) (car : Nat) (drs : List Drv) (hd : ∀ d, d ∈ drs → d.Fit) (h8 : drs.length ≤ 8) (hcar : car ≤ drs.length)
    (A1 A2 A3 : Option Addr) (c1 c2 c3 : Nat) (v4 : Value) (h4 : v4.oneCell' = true) (T : Int) (O : PH) (w : World) (hO : PLe O (hp w)) (r1 : Rd kDrv O (.slice A1 drs.length c1) drs)  (r3 : Rd kWant O (.slice A3 s.wants.length c3) s.wants) :
    Calls Try.prog 80 #[.agg #[.int .i64 car, .slice A1 drs.length c1, .slice A2 0 c2], snapV s.site v4 (.slice A3 s.wants.length c3), .int .u8 2, .int .i64 T] w fun e w' => e = .returned (.bool (holdsB s drs car [] 2 T)) ∧ Below w.heap.size w w' := by
  have C0 := Ctx.start hO
  have HC := Lib.hid fun w' (h : PLe O (hp w')) => placeCost car drs hd h8 A1 c1 (.slice A2 0 c2) rfl O w' h r1
  clear r1 r3 hd hw hs hO
  have hh : holdsB s drs car [] 2 T = decide (T ≤ sumTot drs) := by simp [holdsB]
  go_enter Try.func80, Try.ntmps80
  go_wp2_with (first | ((with_reducible refine gate ?_); first | (refine ev_boxT (t := 143) rfl rfl (by go_simp; rfl) ?_; intro g1 w1 C1) | (refine ev_boxT (t := 27) rfl rfl (by go_simp; rfl) ?_; intro g2 w2 C2; clear C1) | (refine ev_loadS (ty := 143) (#[.int .i64 car, .slice A1 drs.length c1, .slice A2 0 c2] : Array Value).toList rfl rfl rfl Try.underlying143 rfl (by kernel_rfl) rfl ?_) | (refine ev_loadS (ty := 27) (snapC s.site v4 (.slice A3 s.wants.length c3)).toList rfl rfl rfl Try.underlying27 rfl (by kernel_rfl) rfl ?_)) | (go_at_call 79; refine (HC.out _ C2.sub).mono ?_; rintro e w3 ⟨rfl, hb3⟩; have C3 := C2.keep hb3; clear hb3 C2))
  go_ret
  exact ⟨by rw [hh]; rfl, C3.bel⟩
set_option maxRecDepth 100000 in
set_option maxHeartbeats 6000000 in
theorem holds2b (s : Snap) (hs : siteB s.site = true) (hw : ∀ x, x ∈ s.wants → 0 ≤ x.cars ∧ x.cars < 256) (car : Nat) (drs : List Drv) (hd : ∀ d, d ∈ drs → d.Fit) (h8 : drs.length ≤ 8) (hcar : car ≤ drs.length) (left : List Nat) (hl : ∀ k, k ∈ left → k < s.wants.length)
    (A1 A2 A3 : Option Addr) (c1 c2 c3 : Nat) (v4 : Value) (h4 : v4.oneCell' = true) (T : Int) (h0 : ¬left.length = 0) (O : PH) (w : World) (hO : PLe O (hp w)) (r1 : Rd kDrv O (.slice A1 drs.length c1) drs) (r2 : Rd kNat O (.slice A2 left.length c2) left) (r3 : Rd kWant O (.slice A3 s.wants.length c3) s.wants) :
    Calls Try.prog 80 #[.agg #[.int .i64 car, .slice A1 drs.length c1, .slice A2 left.length c2], snapV s.site v4 (.slice A3 s.wants.length c3), .int .u8 2, .int .i64 T] w fun e w' => e = .returned (.bool (holdsB s drs car left 2 T)) ∧ Below w.heap.size w w' := by
  have C0 := Ctx.start hO
  have HLE := Lib.hid fun w' (h : PLe O (hp w')) => placeLeast s hs hw car drs hd h8 hcar left hl A1 A2 A3 c1 c2 c3 v4 h4 O w' h r1 r2 r3
  have HC := Lib.hid fun w' (h : PLe O (hp w')) => placeCost car drs hd h8 A1 c1 (.slice A2 left.length c2) rfl O w' h r1
  have l2 := r2.len
  clear r1 r2 r3 hd hw hl hs hO
  have hh : holdsB s drs car left 2 T = (decide (left.length = 0) && decide (T ≤ sumTot drs)) := rfl
  clear HLE
  go_enter Try.func80, Try.ntmps80
  go_wp2_with (first | ((with_reducible refine gate ?_); first | (refine ev_boxT (t := 143) rfl rfl (by go_simp; rfl) ?_; intro g1 w1 C1) | (refine ev_boxT (t := 27) rfl rfl (by go_simp; rfl) ?_; intro g2 w2 C2; clear C1) | (refine ev_loadS (ty := 143) (#[.int .i64 car, .slice A1 drs.length c1, .slice A2 left.length c2] : Array Value).toList rfl rfl rfl Try.underlying143 rfl (by kernel_rfl) rfl ?_) | (refine ev_loadS (ty := 27) (snapC s.site v4 (.slice A3 s.wants.length c3)).toList rfl rfl rfl Try.underlying27 rfl (by kernel_rfl) rfl ?_)) | (go_at_call 107; refine (HLE.out _ C2.sub).mono ?_; rintro e w3 ⟨rfl, hb3⟩; have C3 := C2.keep hb3; clear hb3 C2) | (go_at_call 79; refine (HC.out _ C2.sub).mono ?_; rintro e w3 ⟨rfl, hb3⟩; have C3 := C2.keep hb3; clear hb3 C2))
  go_ret
  exact ⟨by rw [hh, decide_eq_false h0]; simp, C2.bel⟩
set_option maxRecDepth 100000 in
set_option maxHeartbeats 6000000 in
theorem holds3 (s : Snap) (hs : siteB s.site = true) (hw : ∀ x, x ∈ s.wants → 0 ≤ x.cars ∧ x.cars < 256) (car : Nat) (drs : List Drv) (hd : ∀ d, d ∈ drs → d.Fit) (h8 : drs.length ≤ 8) (hcar : car ≤ drs.length) (left : List Nat) (hl : ∀ k, k ∈ left → k < s.wants.length)
    (A1 A2 A3 : Option Addr) (c1 c2 c3 : Nat) (v4 : Value) (h4 : v4.oneCell' = true) (m T : Int) (m0 : m ≠ 0) (m1 : m ≠ 1) (m2 : m ≠ 2) (O : PH) (w : World) (hO : PLe O (hp w)) (r1 : Rd kDrv O (.slice A1 drs.length c1) drs) (r2 : Rd kNat O (.slice A2 left.length c2) left) (r3 : Rd kWant O (.slice A3 s.wants.length c3) s.wants) :
    Calls Try.prog 80 #[.agg #[.int .i64 car, .slice A1 drs.length c1, .slice A2 left.length c2], snapV s.site v4 (.slice A3 s.wants.length c3), .int .u8 m, .int .i64 T] w fun e w' => e = .returned (.bool (holdsB s drs car left m T)) ∧ Below w.heap.size w w' := by
  have C0 := Ctx.start hO
  have HLE := Lib.hid fun w' (h : PLe O (hp w')) => placeLeast s hs hw car drs hd h8 hcar left hl A1 A2 A3 c1 c2 c3 v4 h4 O w' h r1 r2 r3
  have HC := Lib.hid fun w' (h : PLe O (hp w')) => placeCost car drs hd h8 A1 c1 (.slice A2 left.length c2) rfl O w' h r1
  have l2 := r2.len
  clear r1 r2 r3 hd hw hl hs hO
  have hh : holdsB s drs car left m T = false := by simp [holdsB, m0, m1, m2]
  go_enter Try.func80, Try.ntmps80
  go_wp2_with (first | ((with_reducible refine gate ?_); first | (refine ev_boxT (t := 143) rfl rfl (by go_simp; rfl) ?_; intro g1 w1 C1) | (refine ev_boxT (t := 27) rfl rfl (by go_simp; rfl) ?_; intro g2 w2 C2; clear C1) | (refine ev_loadS (ty := 143) (#[.int .i64 car, .slice A1 drs.length c1, .slice A2 left.length c2] : Array Value).toList rfl rfl rfl Try.underlying143 rfl (by kernel_rfl) rfl ?_) | (refine ev_loadS (ty := 27) (snapC s.site v4 (.slice A3 s.wants.length c3)).toList rfl rfl rfl Try.underlying27 rfl (by kernel_rfl) rfl ?_)) | (go_at_call 107; refine (HLE.out _ C2.sub).mono ?_; rintro e w3 ⟨rfl, hb3⟩; have C3 := C2.keep hb3; clear hb3 C2) | (go_at_call 79; refine (HC.out _ C2.sub).mono ?_; rintro e w3 ⟨rfl, hb3⟩; have C3 := C2.keep hb3; clear hb3 C2))
  go_ret
  exact ⟨by rw [hh]; rfl, C2.bel⟩
set_option maxRecDepth 100000 in
set_option maxHeartbeats 6000000 in
theorem placeHolds (s : Snap) (hs : siteB s.site = true) (hw : ∀ x, x ∈ s.wants → 0 ≤ x.cars ∧ x.cars < 256) (car : Nat) (drs : List Drv) (hd : ∀ d, d ∈ drs → d.Fit) (h8 : drs.length ≤ 8) (hcar : car ≤ drs.length) (left : List Nat) (hl : ∀ k, k ∈ left → k < s.wants.length)
    (A1 A2 A3 : Option Addr) (c1 c2 c3 : Nat) (v4 : Value) (h4 : v4.oneCell' = true) (m T : Int) (O : PH) (w : World) (hO : PLe O (hp w)) (r1 : Rd kDrv O (.slice A1 drs.length c1) drs) (r2 : Rd kNat O (.slice A2 left.length c2) left) (r3 : Rd kWant O (.slice A3 s.wants.length c3) s.wants) :
    Calls Try.prog 80 #[.agg #[.int .i64 car, .slice A1 drs.length c1, .slice A2 left.length c2], snapV s.site v4 (.slice A3 s.wants.length c3), .int .u8 m, .int .i64 T] w fun e w' => e = .returned (.bool (holdsB s drs car left m T)) ∧ Below w.heap.size w w' := by
  by_cases m0 : m = 0
  · subst m0; exact holds0 s hs hw car drs hd h8 hcar left hl A1 A2 A3 c1 c2 c3 v4 h4 T O w hO r1 r2 r3
  by_cases m1 : m = 1
  · subst m1; exact holds1 s hs hw car drs hd h8 hcar left hl A1 A2 A3 c1 c2 c3 v4 h4 T O w hO r1 r2 r3
  by_cases m2 : m = 2
  · subst m2
    by_cases h0 : left.length = 0
    · cases left with
      | nil => exact holds2a s hs hw car drs hd h8 hcar A1 A2 A3 c1 c2 c3 v4 h4 T O w hO r1 r3
      | cons x l => simp at h0
    · exact holds2b s hs hw car drs hd h8 hcar left hl A1 A2 A3 c1 c2 c3 v4 h4 T h0 O w hO r1 r2 r3
  exact holds3 s hs hw car drs hd h8 hcar left hl A1 A2 A3 c1 c2 c3 v4 h4 m T m0 m1 m2 O w hO r1 r2 r3
end Go.Proofs.Ytomfgggomjbnfaa
