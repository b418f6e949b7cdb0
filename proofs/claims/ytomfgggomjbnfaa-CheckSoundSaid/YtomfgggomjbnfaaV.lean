/- Branch and bound, in plain Lean: drives, beginnings, completions, and why marks show that no plan costs less. -/
namespace Pater

/-- A car on its way: its floor, when it came there (below 0: it began there), when it goes on. -/
structure Dr where
  fl : Int
  came : Int
  lv : Int
deriving DecidableEq

/-- What is asked of travel: never below 0, and no shorter by way of another floor. -/
structure Trav (T : Int → Int → Int) : Prop where
  nn : ∀ a b, 0 ≤ T a b
  tri : ∀ a b c, T a c ≤ T a b + T b c

section
variable (T : Int → Int → Int) (sv : Int)

def Dr.to (d : Dr) (f : Int) : Dr :=
  if d.came < 0 ∨ d.fl ≠ f then ⟨f, d.lv + T d.fl f, d.lv + T d.fl f + sv⟩ else d

def Dr.Ok (d : Dr) : Prop := 0 ≤ d.lv ∧ d.came ≤ d.lv

variable {T sv}
theorem Dr.to_ok (ht : Trav T) (hs : 0 ≤ sv) {d : Dr} (h : d.Ok) (f : Int) : (d.to T sv f).Ok ∧ 0 ≤ (d.to T sv f).came := by
  have := ht.nn d.fl f
  obtain ⟨h1, h2⟩ := h
  unfold Dr.to Dr.Ok
  split
  · simp; omega
  · omega

/-- Another stop ahead makes no stop earlier. -/
theorem Dr.to_later (ht : Trav T) (hs : 0 ≤ sv) {d : Dr} (h : d.Ok) (g f : Int) :
    (d.to T sv f).came ≤ ((d.to T sv g).to T sv f).came := by
  have t1 := ht.tri d.fl g f
  have n1 := ht.nn d.fl g
  have n2 := ht.nn g f
  have n3 := ht.nn d.fl f
  obtain ⟨h1, h2⟩ := h
  unfold Dr.to
  by_cases c1 : d.came < 0 ∨ d.fl ≠ g
  · simp only [c1, if_true]
    by_cases c2 : d.came < 0 ∨ d.fl ≠ f
    · simp only [c2, if_true]
      by_cases c3 : d.lv + T d.fl g < 0 ∨ g ≠ f
      · simp only [c3, if_true]; omega
      · simp only [c3, if_false]
        obtain rfl : g = f := by omega
        omega
    · simp only [c2, if_false]
      by_cases c3 : d.lv + T d.fl g < 0 ∨ g ≠ f
      · simp only [c3, if_true]; omega
      · simp only [c3, if_false]; omega
  · simp only [c1, if_false]; omega

/-- The car behind a list of wants (by their floors). -/
def Dr.run (T : Int → Int → Int) (sv : Int) (fl : Nat → Int) (d : Dr) : List Nat → Dr
  | [] => d
  | w :: ws => Dr.run T sv fl (d.to T sv (fl w)) ws

/-- All times of a list of wants together. -/
def Dr.inc (T : Int → Int → Int) (sv : Int) (fl : Nat → Int) (d : Dr) : List Nat → Int
  | [] => 0
  | w :: ws => (d.to T sv (fl w)).came + Dr.inc T sv fl (d.to T sv (fl w)) ws

variable {fl : Nat → Int}

theorem Dr.run_append (d : Dr) (xs ys : List Nat) : d.run T sv fl (xs ++ ys) = (d.run T sv fl xs).run T sv fl ys := by
  induction xs generalizing d with
  | nil => rfl
  | cons w ws ih => simp [Dr.run, ih]

theorem Dr.inc_append (d : Dr) (xs ys : List Nat) : d.inc T sv fl (xs ++ ys) = d.inc T sv fl xs + (d.run T sv fl xs).inc T sv fl ys := by
  induction xs generalizing d with
  | nil => simp [Dr.run, Dr.inc]
  | cons w ws ih => simp [Dr.run, Dr.inc, ih]; omega

theorem Dr.run_ok (ht : Trav T) (hs : 0 ≤ sv) (xs : List Nat) : ∀ {d : Dr}, d.Ok → (d.run T sv fl xs).Ok := by
  induction xs with
  | nil => exact fun h => h
  | cons w ws ih => exact fun h => ih (Dr.to_ok ht hs h _).1

theorem Dr.run_later (ht : Trav T) (hs : 0 ≤ sv) (xs : List Nat) : ∀ {d : Dr}, d.Ok → ∀ f, (d.to T sv f).came ≤ ((d.run T sv fl xs).to T sv f).came := by
  induction xs with
  | nil => exact fun _ _ => Int.le_refl _
  | cons w ws ih => exact fun h f => Int.le_trans (Dr.to_later ht hs h (fl w) f) (ih (Dr.to_ok ht hs h _).1 f)

/-- The sum of a number for each want. -/
def tot (b : Nat → Int) : List Nat → Int
  | [] => 0
  | w :: ws => b w + tot b ws

theorem tot_append (b : Nat → Int) (xs ys : List Nat) : tot b (xs ++ ys) = tot b xs + tot b ys := by
  induction xs with
  | nil => simp [tot]
  | cons w ws ih => simp [tot, ih]; omega

theorem tot_perm (b : Nat → Int) {xs ys : List Nat} (h : xs.Perm ys) : tot b xs = tot b ys := by
  induction h with
  | nil => rfl
  | cons x _ ih => simp [tot, ih]
  | swap x y l => simp [tot]; omega
  | trans _ _ h1 h2 => omega

theorem tot_le {b c : Nat → Int} {xs : List Nat} (h : ∀ w, w ∈ xs → b w ≤ c w) : tot b xs ≤ tot c xs := by
  induction xs with
  | nil => simp [tot]
  | cons w ws ih =>
    have h1 := h w (by simp)
    have h2 := ih fun v hv => h v (by simp [hv])
    simp only [tot]; omega

/-- Served in a list, no want is served earlier than it could be served next. -/
theorem Dr.inc_ge (ht : Trav T) (hs : 0 ≤ sv) (b : Nat → Int) (xs : List Nat) : ∀ {d : Dr}, d.Ok → (∀ w, w ∈ xs → b w ≤ (d.to T sv (fl w)).came) → tot b xs ≤ d.inc T sv fl xs := by
  induction xs with
  | nil => intro d _ _; simp [tot, Dr.inc]
  | cons w ws ih =>
    intro d h hb
    have h1 := hb w (by simp)
    have h2 := ih (Dr.to_ok ht hs h (fl w)).1 (fun v hv => Int.le_trans (hb v (by simp [hv])) (Dr.to_later ht hs h (fl w) (fl v)))
    simp only [tot, Dr.inc]; omega

theorem Dr.inc_nn (ht : Trav T) (hs : 0 ≤ sv) (xs : List Nat) {d : Dr} (h : d.Ok) : 0 ≤ d.inc T sv fl xs := by
  have := Dr.inc_ge (fl := fl) ht hs (fun _ => 0) xs h (fun w _ => (Dr.to_ok ht hs h (fl w)).2)
  have e : ∀ l : List Nat, tot (fun _ => (0 : Int)) l = 0 := by
    intro l
    induction l with
    | nil => rfl
    | cons a l ih => simp [tot, ih]
  rw [e] at this; exact this

/-- All times of lists together, each by its own car. -/
def incs (T : Int → Int → Int) (sv : Int) (fl : Nat → Int) : List Dr → List (List Nat) → Int
  | d :: ds, l :: ls => d.inc T sv fl l + incs T sv fl ds ls
  | _, _ => 0

/-- Each want of the lists may be served by the car of its list, the first one of which is the car c. -/
def Mays (may : Nat → Nat → Prop) : Nat → List (List Nat) → Prop
  | _, [] => True
  | c, l :: ls => (∀ w, w ∈ l → may w c) ∧ Mays may (c + 1) ls

theorem incs_ge (ht : Trav T) (hs : 0 ≤ sv) (may : Nat → Nat → Prop) (b : Nat → Int) : ∀ (ls : List (List Nat)) (ds : List Dr) (c : Nat), ls.length = ds.length → Mays may c ls →
    (∀ d, d ∈ ds → d.Ok) → (∀ j (h : j < ds.length) w, may w (c + j) → b w ≤ ((ds[j]).to T sv (fl w)).came) → tot b ls.flatten ≤ incs T sv fl ds ls
  | [], [], _, _, _, _, _ => by simp [tot, incs]
  | [], _ :: _, _, h, _, _, _ => by simp at h
  | _ :: _, [], _, h, _, _, _ => by simp at h
  | l :: ls, d :: ds, c, hl, hm, hd, hb => by
    have h1 := Dr.inc_ge (fl := fl) ht hs b l (hd d (by simp)) (fun w hw => by
      have := hb 0 (by simp) w (by simpa using hm.1 w hw)
      simpa using this)
    have h2 := incs_ge ht hs may b ls ds (c + 1) (by simpa using hl) hm.2 (fun d hd' => hd d (by simp [hd'])) (fun j hj w hw => by
      have := hb (j + 1) (by simpa using hj) w (by rw [show c + (j + 1) = c + 1 + j by omega]; exact hw)
      simpa using this)
    simp only [List.flatten_cons, tot_append, incs]; omega

/-- A node: the car whose list is the last one, the cars as they are behind their lists, what the lists cost, the wants that are left. -/
structure Node where
  car : Nat
  drs : List Dr
  cost : Int
  left : List Nat

/-- No plan that begins so costs less. -/
def Node.Done (T : Int → Int → Int) (sv : Int) (fl : Nat → Int) (may : Nat → Nat → Prop) (C : Int) (p : Node) : Prop :=
  ∀ ls : List (List Nat), ls.length = p.drs.length - p.car → ls.flatten.Perm p.left → Mays may p.car ls → C ≤ p.cost + incs T sv fl (p.drs.drop p.car) ls

/-- The node with the want at a place of those that are left. -/
def Node.serve (T : Int → Int → Int) (sv : Int) (fl : Nat → Int) (p : Node) (i : Nat) : Node :=
  match p.left[i]?, p.drs[p.car]? with
  | some w, some d => ⟨p.car, p.drs.set p.car (d.to T sv (fl w)), p.cost + (d.to T sv (fl w)).came, p.left.eraseIdx i⟩
  | _, _ => p

def Node.next (p : Node) : Node := { p with car := p.car + 1 }

theorem done_whole {may : Nat → Nat → Prop} {C : Int} {p : Node} (ht : Trav T) (hs : 0 ≤ sv) (hd : ∀ d, d ∈ p.drs → d.Ok) (h : C ≤ p.cost) : p.Done T sv fl may C := by
  intro ls hl hp hm
  have : 0 ≤ incs T sv fl (p.drs.drop p.car) ls := by
    have := incs_ge (fl := fl) ht hs (fun _ _ => True) (fun _ => 0) ls (p.drs.drop p.car) p.car (by simp [hl]) (by
        have : ∀ (ls : List (List Nat)) c, Mays (fun _ _ => True) c ls := by
          intro ls
          induction ls with
          | nil => intro c; trivial
          | cons l ls ih => exact fun c => ⟨fun _ _ => trivial, ih _⟩
        exact this _ _) (fun d hd' => hd d (List.mem_of_mem_drop hd')) (fun j hj w _ => (Dr.to_ok ht hs (hd _ (List.mem_of_mem_drop (List.getElem_mem hj))) _).2)
    have e : ∀ l : List Nat, tot (fun _ => (0 : Int)) l = 0 := by
      intro l
      induction l with
      | nil => rfl
      | cons a l ih => simp [tot, ih]
    rw [e] at this; exact this
  omega

theorem done_pruned {may : Nat → Nat → Prop} {C : Int} {p : Node} (ht : Trav T) (hs : 0 ≤ sv) (hd : ∀ d, d ∈ p.drs → d.Ok) (b : Nat → Int)
    (hb : ∀ j (h : j < p.drs.length) w, p.car ≤ j → may w j → b w ≤ ((p.drs[j]).to T sv (fl w)).came) (h : C ≤ p.cost + tot b p.left) : p.Done T sv fl may C := by
  intro ls hl hp hm
  have := incs_ge (fl := fl) ht hs may b ls (p.drs.drop p.car) p.car (by simp [hl]) hm (fun d hd' => hd d (List.mem_of_mem_drop hd')) (fun j hj w hw => by
    have hj' : p.car + j < p.drs.length := by simp at hj; omega
    have := hb (p.car + j) hj' w (by omega) hw
    simpa using this)
  rw [tot_perm b hp] at this
  omega

theorem perm_eraseIdx {α : Type} : ∀ (l : List α) (i : Nat) (h : i < l.length), (l[i] :: l.eraseIdx i).Perm l
  | [], _, h => by simp at h
  | a :: l, 0, _ => by simp
  | a :: l, i + 1, h => by
    have hi : i < l.length := by simpa using h
    have := perm_eraseIdx l i hi
    simp only [List.getElem_cons_succ, List.eraseIdx_cons_succ]
    exact (List.Perm.swap a l[i] _).trans (List.Perm.cons a this)

theorem done_opened {may : Nat → Nat → Prop} {C : Int} {p : Node} (hc : p.car < p.drs.length) (hl0 : p.left ≠ [])
    (hn : p.car + 1 < p.drs.length → p.next.Done T sv fl may C)
    (hk : ∀ i (h : i < p.left.length), may p.left[i] p.car → (p.serve T sv fl i).Done T sv fl may C) : p.Done T sv fl may C := by
  intro ls hl hp hm
  match ls, hl, hp, hm with
  | [], hl, _, _ => simp at hl; omega
  | [] :: ls, hl, hp, hm =>
    by_cases hcar : p.car + 1 < p.drs.length
    · have := hn hcar ls (by simp [Node.next] at hl ⊢; omega) (by simpa [Node.next] using hp) (by simpa [Node.next] using hm.2)
      simp only [Node.next] at this
      rw [List.drop_eq_getElem_cons hc]
      simp only [incs, Dr.inc]; omega
    · have : ls = [] := by
        cases ls with
        | nil => rfl
        | cons a b => simp at hl; omega
      subst this
      have := hp.symm
      simp at this
      exact absurd this hl0
  | (w :: r) :: ls, hl, hp, hm =>
    have hw : w ∈ p.left := hp.subset (by simp)
    obtain ⟨i, hi, hwi⟩ := List.getElem_of_mem hw
    have hmw : may p.left[i] p.car := by rw [hwi]; exact hm.1 w (by simp)
    have := hk i hi hmw
    have hs1 : p.serve T sv fl i = ⟨p.car, p.drs.set p.car ((p.drs[p.car]).to T sv (fl w)), p.cost + ((p.drs[p.car]).to T sv (fl w)).came, p.left.eraseIdx i⟩ := by
      unfold Node.serve
      rw [List.getElem?_eq_getElem hi, List.getElem?_eq_getElem hc, hwi]
    rw [hs1] at this
    have hp' : (r :: ls).flatten.Perm (p.left.eraseIdx i) := by
      have h1 : (w :: (r :: ls).flatten).Perm p.left := by simpa using hp
      have h2 : (w :: p.left.eraseIdx i).Perm p.left := by
        have := perm_eraseIdx p.left i hi
        rw [hwi] at this; exact this
      exact List.Perm.cons_inv (h1.trans h2.symm)
    have := this (r :: ls) (by simpa using hl) hp' ⟨fun v hv => hm.1 v (by simp [hv]), hm.2⟩
    simp only at this
    have e : (p.drs.set p.car ((p.drs[p.car]).to T sv (fl w))).drop p.car = (p.drs[p.car]).to T sv (fl w) :: p.drs.drop (p.car + 1) := by
      rw [List.drop_eq_getElem_cons (by simpa using hc)]
      simp [List.drop_set_of_lt]
    rw [e] at this
    rw [List.drop_eq_getElem_cons hc]
    simp only [incs, Dr.inc] at this ⊢
    omega
end
end Pater
