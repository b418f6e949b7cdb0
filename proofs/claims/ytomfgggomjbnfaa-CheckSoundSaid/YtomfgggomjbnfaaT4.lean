/- The walk of what reads a claim. -/
import Derived.Test.YtomfgggomjbnfaaT3
import Derived.Test.YtomfgggomjbnfaaI
import Derived.Outline
import Derived.Laws.Bits64b
set_option linter.unusedVariables false
set_option linter.unusedSimpArgs false
namespace Go.Sep
open Go.RowKit
variable {w0 w w1 : World} {R : Option World} {B O O' : PH} {L L' : List Ass}
variable {P : Program} {ops : Array Oper} {rest : List Oper} {o : Oper} {a : Act} {Q : Exit → Act → World → Prop}
theorem setL_whole : ∀ (vs : List Value) (pre cur : List Value), cur.length = vs.length → setL (pre ++ cur).toArray pre.length vs = (pre ++ vs).toArray
  | [], pre, cur, h => by
    obtain rfl : cur = [] := List.eq_nil_of_length_eq_zero h
    rfl
  | v :: vs, pre, [], h => by simp at h
  | v :: vs, pre, c :: cur, h => by
    have := setL_whole vs (pre ++ [v]) cur (by simpa using h)
    simp only [List.append_assoc, List.cons_append, List.nil_append, List.length_append, List.length_cons, List.length_nil, Nat.zero_add] at this
    rw [setL, ← this]
    congr 1
    simp
/-- A struct is stored whole into a variable of the call's own. -/
theorem ev_storeW [C : Ctx w0 R B O L w] {g : Nat} {t ty : TypeId} {cur vs : Array Value} {u : Ass → List Ass} {x y : Operand} [F : FCells L g t cur u] (hgd : o.guard = none) (ho : o.op = .store ty x y) (hx : a.eval x = .pointer (some ⟨g, 0, none⟩)) (hy : a.eval y = .agg vs)
    (hi : (P.info? ty).map (·.size) = some vs.size) (hn : cur.size = vs.size) (h1 : vs.all (·.oneCell') = true)
    (h : ∀ w1, Ctx w0 R B O (u (Cells g t vs)) w1 → wpList P ops Q rest (a.put o.dst undef) w1) : wpList P ops Q (o :: rest) a w := by
  refine ev_storeS (C := C) (F := F) (off := 0) hgd ho hx hy hi (by omega) h1 fun w1 C1 => h w1 ?_
  have := setL_whole vs.toList [] cur.toList (by simpa using hn)
  simp only [List.nil_append, List.length_nil] at this
  rw [this] at C1
  exact C1
theorem run_loadS [C : Ctx w0 R B O L w] {g off : Nat} {t ty : TypeId} {cs : Array Value} {u : Ass → List Ass} {x : Operand} {d : TypeDesc} (vs : List Value) (ho : o.op = .load ty x)
    (hx : a.eval x = .pointer (some ⟨g, off, none⟩)) [F : FCells L g t cs u] (hu : P.underlying ty = some d) (hd : (match d with | .struct _ | .array _ _ => true | _ => false) = true)
    (hi : (P.info? ty).map (·.size) = some vs.length) (hvs : (cs.toList.drop off).take vs.length = vs) : (execOp a.eval o).run P w = .ok (.value (.agg vs.toArray)) w := by
  have hc : ∀ j v, vs[j]? = some v → w.cell? ⟨g, off + j, none⟩ = some v := by
    intro j v hv
    rw [cell_ctx]
    rw [← hvs, List.getElem?_take] at hv
    split at hv
    · rw [List.getElem?_drop] at hv
      simpa using hv
    · cases hv
  unfold execOp
  simp only [ho, hx, Instr.loadAt, Instr.sureAddr, Sem.run_bind, Sem.run_pure, Result.andThen_ok, run_loadVar_seg w g off ty vs hc d hu hd hi]
theorem results_cell_row2 {fn : Func} {p u : Tmp} {ty : TypeId} (h : fn.results = #[.cell p ty, .tmp u]) (tmps : Array Value) (w : World) (g : Nat) (t : TypeId) (cs : Array Value) (fr : Nat × Nat) (d : TypeDesc)
    (hp : tmps.getD p undef = .pointer (some ⟨g, 0, none⟩)) (hg : w.heap[g]? = some (.cells cs t fr))
    (hu : P.underlying ty = some d) (hd : (match d with | .struct _ | .array _ _ => true | _ => false) = true) (hi : (P.info? ty).map (·.size) = some cs.size) :
    (results fn tmps).run P w = .ok (.tuple #[.agg cs, tmps.getD u undef]) w := by
  have hp' : tmps[p]?.getD undef = .pointer (some ⟨g, 0, none⟩) := by simpa using hp
  simp [results, h, hp', asAddr, run_loadVar_row w g t ty cs fr d hg hu hd hi]
theorem results_cell_row3 {fn : Func} {p u v : Tmp} {ty : TypeId} (h : fn.results = #[.cell p ty, .tmp u, .tmp v]) (tmps : Array Value) (w : World) (g : Nat) (t : TypeId) (cs : Array Value) (fr : Nat × Nat) (d : TypeDesc)
    (hp : tmps.getD p undef = .pointer (some ⟨g, 0, none⟩)) (hg : w.heap[g]? = some (.cells cs t fr))
    (hu : P.underlying ty = some d) (hd : (match d with | .struct _ | .array _ _ => true | _ => false) = true) (hi : (P.info? ty).map (·.size) = some cs.size) :
    (results fn tmps).run P w = .ok (.tuple #[.agg cs, tmps.getD u undef, tmps.getD v undef]) w := by
  have hp' : tmps[p]?.getD undef = .pointer (some ⟨g, 0, none⟩) := by simpa using hp
  simp [results, h, hp', asAddr, run_loadVar_row w g t ty cs fr d hg hu hd hi]
end Go.Sep
namespace Go.Proofs.Ytomfgggomjbnfaa
open Go.RowKit Go.Sep
attribute [local go_sem] cell_ctx frozen_ctx cell_fz
/-- Lists of wants, each behind its length. -/
def readRows : Nat → List Int → Option (List (List Int) × List Int)
  | 0, b => some ([], b)
  | _ + 1, [] => none
  | k + 1, n :: b => if n.toNat ≤ b.length then (readRows k (b.drop n.toNat)).map fun q => (b.take n.toNat :: q.1, q.2) else none
/-- A number of bytes, the highest one first. -/
def costOf (l : List Int) : Int := l.foldl (fun n x => n * 256 + x) 0
theorem costOf_snoc (l : List Int) (x : Int) : costOf (l ++ [x]) = costOf l * 256 + x := by simp [costOf]
def U8 (l : List Int) : Prop := ∀ x, x ∈ l → 0 ≤ x ∧ x < 256
theorem costOf_bd (l : List Int) (n : Nat) : l.length = n → U8 l → 0 ≤ costOf l ∧ costOf l < 256 ^ n := by
  induction n generalizing l with
  | zero => intro h _; obtain rfl := List.eq_nil_of_length_eq_zero h; simp [costOf]
  | succ n ih =>
    intro h hu
    rcases List.eq_nil_or_concat l with rfl | ⟨l', x, rfl⟩
    · simp at h
    · have h' : l'.length = n := by simpa using h
      have := ih l' h' (fun y hy => hu y (by simp [hy]))
      have hx := hu x (by simp)
      rw [List.concat_eq_append, costOf_snoc, Int.pow_succ]
      omega
theorem u64_shl_or {n x : Int} (h0 : 0 ≤ n) (h1 : n < 72057594037927936) (h2 : 0 ≤ x) (h3 : x < 256) : bits .or .u64 (n * 256) x = n * 256 + x := by
  obtain ⟨a, rfl⟩ := Int.eq_ofNat_of_zero_le h0
  obtain ⟨b, rfl⟩ := Int.eq_ofNat_of_zero_le h2
  have := bits_or_u64_nat (a * 256) b (by omega) (by omega)
  have e : ((a * 256 : Nat) : Int) = (a : Int) * 256 := by omega
  rw [e] at this
  rw [this]
  have h8 := Nat.two_pow_add_eq_or_of_lt (i := 8) (b := b) (by omega) a
  rw [show a * 256 = 2 ^ 8 * a by omega, ← h8]
  omega
structure Claim where
  (best : Bool) (cost : Int) (plan : List (List Int))
/-- A claim, and the marks behind it. -/
def readF (cars : Nat) (b : List Int) : Option (Claim × List Int) :=
  if b.length < 9 ∨ 1 < b.headD 0 then none else
    match readRows cars (b.drop 9) with
    | none => none
    | some (p, r) => if 1099511627776 < costOf ((b.take 9).drop 1) ∨ b.headD 0 ≠ 1 ∧ 0 < r.length then none else some (⟨decide (b.headD 0 = 1), costOf ((b.take 9).drop 1), p⟩, r)
abbrev claimC (b : Bool) (n : Int) (v : Value) : Array Value := #[.bool b, .int .i64 n, v]
/-- What is read wrong. -/
def NoRead (w : World) (e : Ending) (w' : World) : Prop := ∃ b n v, Value.oneCell' v = true ∧ e = .returned (.tuple #[.agg (claimC b n v), .slice none 0 0, .bool false]) ∧ Below w.heap.size w w'
set_option maxRecDepth 100000 in
set_option maxHeartbeats 1000000 in
theorem checkRead_short (cars : Nat) (b : List Int) (O : PH) (v : Value) (w : World) (hO : PLe O (hp w)) (r : Rd kU8 O v b) (h : b.length < 9) :
    Calls Try.prog 38 #[.int .i64 cars, v] w fun e w' => NoRead w e w' := by
  have C0 := Ctx.start hO
  have R1 := Lib.hid r
  obtain ⟨A, c, rfl, hc⟩ := r.form
  clear r hO
  go_enter Try.func38, Try.ntmps38
  go_wp2_with (first | ((with_reducible refine gBox 28 ?_); refine ev_boxT (t := 28) rfl rfl (by go_simp; rfl) ?_; intro g1 w1 C1; clear C0) | ((with_reducible refine gAl 34 ?_); refine ev_alloc (t := 34) rfl rfl (by go_simp; rfl) ?_; intro g2 w2 C2; clear C1) | ((with_reducible refine gSt 34 ?_); refine ev_storeW (t := 34) (ty := 34) (g := g2) (vs := claimC false 0 (.slice none 0 0)) rfl rfl rfl rfl (by kernel_rfl) rfl (by rw [List.all_toArray]; rfl) ?_; intro w3 C3; clear C2) | (go_at_call 74; refine (checkTake_no (C := C2) b R1.out 9 h (by omega)).mono ?_; rintro e w' ⟨rfl, rfl⟩))
  exact bodyPost_ret (results_cell_row3 rfl _ _ g2 34 _ (0, 0) _ rfl heap_ctx Try.underlying34 rfl (by kernel_rfl)) rfl ⟨_, _, _, rfl, rfl, C3.bel⟩
set_option maxRecDepth 100000 in
set_option maxHeartbeats 1000000 in
theorem checkRead_bad (cars : Nat) (b : List Int) (hb : U8 b) (O : PH) (v : Value) (w : World) (hO : PLe O (hp w)) (r : Rd kU8 O v b) (h : ¬ b.length < 9) (h1 : 1 < b.headD 0) :
    Calls Try.prog 38 #[.int .i64 cars, v] w fun e w' => NoRead w e w' := by
  have C0 := Ctx.start hO
  have R1 := Lib.hid r
  obtain ⟨A, c, rfl, hc⟩ := r.form
  have hh : ∀ (h0 : 0 < (b.take 9).length), (b.take 9)[0] = b.headD 0 := fun h0 => by
    cases b with
    | nil => simp at h0
    | cons x l => simp
  have l9 : 0 < (b.take 9).length := by rw [List.length_take]; omega
  obtain ⟨x, hx⟩ : ∃ x, b.headD 0 = x := ⟨_, rfl⟩
  have HH := Lib.hid ((hh l9).trans hx)
  have HX := Lib.hid hx
  rw [hx] at h1
  clear r hO hh hx
  go_enter Try.func38, Try.ntmps38
  go_wp2_with (first | ((with_reducible refine gBox 28 ?_); refine ev_boxT (t := 28) rfl rfl (by go_simp; rfl) ?_; intro g1 w1 C1; clear C0) | ((with_reducible refine gAl 34 ?_); refine ev_alloc (t := 34) rfl rfl (by go_simp; rfl) ?_; intro g2 w2 C2; clear C1) | ((with_reducible refine gSt 34 ?_); refine ev_storeW (t := 34) (ty := 34) (g := g2) (vs := claimC false 0 (.slice none 0 0)) rfl rfl rfl rfl (by kernel_rfl) rfl (by rw [List.all_toArray]; rfl) ?_; intro w4 C4; clear C3) | (go_at_call 74; refine (checkTake_yes (C := C2) b R1.out 9 (by omega)).mono ?_; rintro e w' ⟨A1, v2, rfl, r1, r2, C3⟩; obtain ⟨b1, o1, rfl, q0⟩ := fzInt r1 0 l9; rw [HH.out, Nat.add_zero] at q0; have R3 := Lib.hid r1; have R4 := Lib.hid r2; clear r1 r2 C2))
  exact bodyPost_ret (results_cell_row3 rfl _ _ g2 34 _ (0, 0) _ rfl heap_ctx Try.underlying34 rfl (by kernel_rfl)) rfl ⟨_, _, _, rfl, rfl, C4.bel⟩
end Go.Proofs.Ytomfgggomjbnfaa
