/- Plain laws: the least of equal states, and the states that keep all letters: what rounds of refinement come to, however they are gone through. -/
import Derived.WalkKit
namespace Go.Proofs.Ytecdjmfohcnadaa

/-! ### The first number with a property -/
def first (p : Nat → Bool) (q : Nat) : Nat := ((List.range q).find? p).getD q
theorem first_spec (p : Nat → Bool) (q : Nat) : first p q ≤ q ∧ (first p q < q → p (first p q) = true) ∧ ∀ r, r < first p q → p r = false := by
  unfold first
  cases h : (List.range q).find? p with
  | none =>
    refine ⟨Nat.le_refl _, fun h => absurd h (Nat.lt_irrefl _), fun r hr => ?_⟩
    have := List.find?_eq_none.1 h r (List.mem_range.2 hr)
    simpa using this
  | some v =>
    obtain ⟨h1, i, hi, rfl, h2⟩ := List.find?_eq_some_iff_getElem.1 h
    simp only [List.length_range] at hi
    simp only [List.getElem_range, Option.getD_some] at *
    refine ⟨by omega, fun _ => h1, fun r hr => ?_⟩
    have := h2 r hr
    simpa using this
theorem first_le (p : Nat → Bool) (q : Nat) : first p q ≤ q := (first_spec p q).1
theorem first_eq {p : Nat → Bool} {q v : Nat} (h1 : v ≤ q) (h2 : v < q → p v = true) (h3 : ∀ r, r < v → p r = false) : first p q = v := by
  obtain ⟨a, b, c⟩ := first_spec p q
  rcases Nat.lt_trichotomy (first p q) v with h | h | h
  · have := h3 _ h
    rw [b (by omega)] at this; cases this
  · exact h
  · have := c _ h
    rw [h2 (by omega)] at this; cases this
theorem first_congr {p p' : Nat → Bool} {q : Nat} (h : ∀ r, r < q → p r = p' r) : first p q = first p' q := by
  obtain ⟨a, b, c⟩ := first_spec p' q
  exact first_eq a (fun hv => by rw [h _ (by omega)]; exact b hv) (fun r hr => by rw [h _ (by omega)]; exact c r hr)

/-! ### A chain of numbers that goes down till it stands -/
theorem chain_stands (f : Nat → Nat) (hd : ∀ k, f (k + 1) ≤ f k) (hs : ∀ k, f (k + 1) = f k → f (k + 2) = f (k + 1)) : ∀ n, f 0 ≤ n → f (n + 1) = f n := by
  have key : ∀ k, (f k = f (k + 1)) ∨ f (k + 1) + k + 1 ≤ f 0 := by
    intro k
    induction k with
    | zero => by_cases h : f 0 = f 1
              · exact .inl h
              · right; have := hd 0; simp only [Nat.zero_add] at *; omega
    | succ k ih =>
      rcases ih with h | h
      · exact .inl (hs k h.symm).symm
      · by_cases e : f (k + 1) = f (k + 2)
        · exact .inl e
        · right; have := hd (k + 1); have e2 : f (k + 1 + 1) = f (k + 2) := rfl; omega
  intro n hn
  rcases key n with h | h
  · exact h.symm
  · omega

/-! ### Refinement -/
section
variable (n l : Nat) (nx : Nat → Nat → Nat) (oe : Nat → Nat → Bool)
/-- One round: the first state that has the same mark, the same outputs, and goes on to the same marks. -/
def rel (c : Nat → Nat) (q r : Nat) : Bool := decide (c r = c q) && oe q r && (List.range l).all fun x => decide (c (nx q x) = c (nx r x))
def rnd (c : Nat → Nat) (q : Nat) : Nat := first (rel l nx oe c q) q
def cl : Nat → Nat → Nat
  | 0 => fun _ => 0
  | k + 1 => rnd l nx oe (cl k)
/-- The least equal state. -/
def lst (q : Nat) : Nat := cl l nx oe (n + 1) q

structure Eqv : Prop where
  rfl' : ∀ q, oe q q = true
  symm : ∀ q r, oe q r = true → oe r q = true
  trans : ∀ q r t, oe q r = true → oe r t = true → oe q t = true

variable {l nx oe}
theorem rel_iff (c : Nat → Nat) (q r : Nat) : rel l nx oe c q r = true ↔ c r = c q ∧ oe q r = true ∧ ∀ x, x < l → c (nx q x) = c (nx r x) := by
  unfold rel
  simp [and_assoc]
variable (E : Eqv oe)
include E
theorem rel_refl (c : Nat → Nat) (q : Nat) : rel l nx oe c q q = true := (rel_iff c q q).2 ⟨rfl, E.rfl' q, fun _ _ => rfl⟩
theorem rel_symm {c : Nat → Nat} {q r : Nat} (h : rel l nx oe c q r = true) : rel l nx oe c r q = true := by
  obtain ⟨a, b, d⟩ := (rel_iff c q r).1 h
  exact (rel_iff c r q).2 ⟨a.symm, E.symm _ _ b, fun x hx => (d x hx).symm⟩
theorem rel_trans {c : Nat → Nat} {q r t : Nat} (h : rel l nx oe c q r = true) (h2 : rel l nx oe c r t = true) : rel l nx oe c q t = true := by
  obtain ⟨a, b, d⟩ := (rel_iff c q r).1 h
  obtain ⟨a', b', d'⟩ := (rel_iff c r t).1 h2
  exact (rel_iff c q t).2 ⟨a'.trans a, E.trans _ _ _ b b', fun x hx => (d x hx).trans (d' x hx)⟩
theorem rnd_rel (c : Nat → Nat) (q : Nat) : rel l nx oe c q (rnd l nx oe c q) = true := by
  obtain ⟨a, b, d⟩ := first_spec (rel l nx oe c q) q
  by_cases h : first (rel l nx oe c q) q < q
  · exact b h
  · have e : first (rel l nx oe c q) q = q := by omega
    show rel l nx oe c q (first (rel l nx oe c q) q) = true
    rw [e]; exact rel_refl E c q
theorem rnd_eq_iff (c : Nat → Nat) (q r : Nat) : rnd l nx oe c q = rnd l nx oe c r ↔ rel l nx oe c q r = true := by
  constructor
  · intro h
    have a := rnd_rel E c q (l := l) (nx := nx)
    have b := rnd_rel E c r (l := l) (nx := nx)
    rw [h] at a
    exact rel_trans E a (rel_symm E b)
  · intro h
    obtain ⟨a1, b1, d1⟩ := first_spec (rel l nx oe c q) q
    obtain ⟨a2, b2, d2⟩ := first_spec (rel l nx oe c r) r
    have p1 := rnd_rel E c q (l := l) (nx := nx)
    have p2 := rnd_rel E c r (l := l) (nx := nx)
    rcases Nat.lt_trichotomy (rnd l nx oe c q) (rnd l nx oe c r) with hh | hh | hh
    · have := d2 _ hh
      rw [rel_trans E (rel_symm E h) p1] at this; cases this
    · exact hh
    · have := d1 _ hh
      rw [rel_trans E h p2] at this; cases this
/-- A mark is a first one. -/
theorem rnd_idem (c : Nat → Nat) (q : Nat) : rnd l nx oe c (rnd l nx oe c q) = rnd l nx oe c q := (rnd_eq_iff E c _ _).2 (rel_symm E (rnd_rel E c q))
omit E in
theorem rnd_le (c : Nat → Nat) (q : Nat) : rnd l nx oe c q ≤ q := first_le _ _
omit E in
theorem cl_le (k q : Nat) : cl l nx oe k q ≤ q := by
  cases k with
  | zero => exact Nat.zero_le _
  | succ k => exact rnd_le _ _
theorem cl_idem (k q : Nat) : cl l nx oe k (cl l nx oe k q) = cl l nx oe k q := by
  cases k with
  | zero => rfl
  | succ k => exact rnd_idem E _ _
/-- A later round parts at least what an earlier one parts. -/
theorem cl_fine (k q r : Nat) (h : cl l nx oe (k + 1) q = cl l nx oe (k + 1) r) : cl l nx oe k q = cl l nx oe k r :=
  ((rel_iff _ _ _).1 ((rnd_eq_iff E _ _ _).1 h)).1.symm
/-- The same mark is told from what the letters do alone. -/
theorem cl_plain (k q r : Nat) (h1 : oe q r = true) (h2 : ∀ x, x < l → cl l nx oe k (nx q x) = cl l nx oe k (nx r x)) : cl l nx oe k q = cl l nx oe k r := by
  induction k with
  | zero => rfl
  | succ k ih =>
    have h3 : ∀ x, x < l → cl l nx oe k (nx q x) = cl l nx oe k (nx r x) := fun x hx => cl_fine E k _ _ (h2 x hx)
    exact (rnd_eq_iff E _ _ _).2 ((rel_iff _ _ _).2 ⟨(ih h3).symm, h1, h3⟩)
/-- A round that asks for the outputs and the marks of what follows alone is the same round. -/
theorem rnd_plain (k q : Nat) : rnd l nx oe (cl l nx oe k) q = first (fun r => oe q r && (List.range l).all fun x => decide (cl l nx oe k (nx q x) = cl l nx oe k (nx r x))) q := by
  refine first_congr fun r _ => ?_
  rw [Bool.eq_iff_iff, rel_iff]
  simp only [Bool.and_eq_true, List.all_eq_true, List.mem_range, decide_eq_true_eq]
  constructor
  · rintro ⟨_, a, b⟩; exact ⟨a, b⟩
  · rintro ⟨a, b⟩; exact ⟨(cl_plain E k q r a b).symm, a, b⟩
theorem cl_up (k q : Nat) : cl l nx oe k q ≤ cl l nx oe (k + 1) q := by
  have h := ((rel_iff _ _ _).1 (rnd_rel E (cl l nx oe k) q (l := l) (nx := nx))).1
  have := cl_le k (rnd l nx oe (cl l nx oe k) q) (l := l) (nx := nx) (oe := oe)
  rw [h] at this
  exact this
omit E in
/-- A round from which nothing turns. -/
theorem cl_stands_from (k : Nat) (h : ∀ q, q < n → cl l nx oe (k + 1) q = cl l nx oe k q) (hn : ∀ q x, q < n → x < l → nx q x < n) : ∀ j, k ≤ j → ∀ q, q < n → cl l nx oe j q = cl l nx oe k q := by
  intro j hj
  induction j with
  | zero => obtain rfl : k = 0 := by omega
            exact fun _ _ => rfl
  | succ j ih =>
    by_cases e : k = j + 1
    · rw [e]; exact fun _ _ => rfl
    · have ih := ih (by omega)
      intro q hq
      rw [← h q hq]
      show rnd l nx oe (cl l nx oe j) q = rnd l nx oe (cl l nx oe k) q
      refine first_congr fun r hr => ?_
      rw [Bool.eq_iff_iff, rel_iff, rel_iff, ih q hq, ih r (by omega)]
      constructor
      · rintro ⟨a, b, c⟩
        exact ⟨a, b, fun x hx => by rw [← ih _ (hn q x hq hx), ← ih _ (hn r x (by omega) hx)]; exact c x hx⟩
      · rintro ⟨a, b, c⟩
        exact ⟨a, b, fun x hx => by rw [ih _ (hn q x hq hx), ih _ (hn r x (by omega) hx)]; exact c x hx⟩
end

/-! ### Counting -/
def cnt (p : Nat → Bool) : Nat → Nat
  | 0 => 0
  | n + 1 => cnt p n + if p n then 1 else 0
theorem cnt_le (p : Nat → Bool) : ∀ n, cnt p n ≤ n
  | 0 => Nat.le_refl _
  | n + 1 => by have := cnt_le p n; unfold cnt; split <;> omega
theorem cnt_mono {p p' : Nat → Bool} : ∀ n, (∀ q, q < n → p' q = true → p q = true) → cnt p' n ≤ cnt p n ∧ (cnt p' n = cnt p n → ∀ q, q < n → p' q = p q)
  | 0, _ => ⟨Nat.le_refl _, fun _ q hq => by omega⟩
  | n + 1, h => by
    obtain ⟨a, b⟩ := cnt_mono n (fun q hq => h q (by omega))
    have hn := h n (by omega)
    unfold cnt
    cases h1 : p' n with
    | true =>
      rw [hn h1]
      simp only [if_true]
      refine ⟨by omega, fun e q hq => ?_⟩
      by_cases he : q = n
      · rw [he, h1, hn h1]
      · exact b (by omega) q (by omega)
    | false =>
      cases h2 : p n with
      | true => simp only [if_true]; exact ⟨by simp; omega, fun e => by simp at e; omega⟩
      | false =>
        simp only [Bool.false_eq_true, if_false]
        refine ⟨by omega, fun e q hq => ?_⟩
        by_cases he : q = n
        · rw [he, h1, h2]
        · exact b (by omega) q (by omega)
section
variable (n l : Nat) (nx : Nat → Nat → Nat) (oe : Nat → Nat → Bool)
variable {l nx oe} (E : Eqv oe)
include E
theorem cl_stands (hn : ∀ q x, q < n → x < l → nx q x < n) : ∀ q, q < n → cl l nx oe (n + 1) q = cl l nx oe n q := by
  let f : Nat → Nat := fun k => cnt (fun q => decide (cl l nx oe k q ≠ q)) n
  have hm : ∀ k, ∀ q, q < n → decide (cl l nx oe (k + 1) q ≠ q) = true → decide (cl l nx oe k q ≠ q) = true := by
    intro k q _ h
    have h' := of_decide_eq_true h
    have a := cl_up E k q (l := l) (nx := nx)
    have b := cl_le (k + 1) q (l := l) (nx := nx) (oe := oe)
    exact decide_eq_true (by omega)
  have hst : ∀ k, f (k + 1) = f k → ∀ q, q < n → cl l nx oe (k + 1) q = cl l nx oe k q := by
    intro k e q hq
    have hp := (cnt_mono n (hm k)).2 e
    have hr := cl_le (k + 1) q (l := l) (nx := nx) (oe := oe)
    have h1 := hp (cl l nx oe (k + 1) q) (by omega)
    rw [decide_eq_decide] at h1
    have h2 : cl l nx oe k (cl l nx oe (k + 1) q) = cl l nx oe (k + 1) q := by
      have := cl_idem E (k + 1) q (l := l) (nx := nx)
      exact Decidable.of_not_not fun hc => (h1.2 hc) this
    have h3 : cl l nx oe k (cl l nx oe (k + 1) q) = cl l nx oe k q := ((rel_iff _ _ _).1 (rnd_rel E (cl l nx oe k) q)).1
    rw [← h2, h3]
  have main := chain_stands f (fun k => (cnt_mono n (hm k)).1) (fun k e => by
    have h := hst k e
    have h2 := cl_stands_from n k h hn
    show cnt _ n = cnt _ n
    have e2 : ∀ q, q < n → decide (cl l nx oe (k + 2) q ≠ q) = decide (cl l nx oe (k + 1) q ≠ q) := by
      intro q hq
      rw [h2 (k + 2) (by omega) q hq, h2 (k + 1) (by omega) q hq]
    have a := (cnt_mono n (p := fun q => decide (cl l nx oe (k + 1) q ≠ q)) (p' := fun q => decide (cl l nx oe (k + 2) q ≠ q)) (fun q hq h => by rw [← e2 q hq]; exact h)).1
    have b := (cnt_mono n (p' := fun q => decide (cl l nx oe (k + 1) q ≠ q)) (p := fun q => decide (cl l nx oe (k + 2) q ≠ q)) (fun q hq h => by rw [e2 q hq]; exact h)).1
    omega) n (cnt_le _ n)
  exact hst n main
/-- Whichever round it is from which nothing turns: its marks are the least equal states. -/
theorem lst_of_stands (k : Nat) (h : ∀ q, q < n → cl l nx oe (k + 1) q = cl l nx oe k q) (hn : ∀ q x, q < n → x < l → nx q x < n) : ∀ q, q < n → cl l nx oe k q = lst n l nx oe q := by
  intro q hq
  unfold lst
  have h2 := cl_stands n E hn
  have a := cl_stands_from n k h hn
  have b := cl_stands_from n n h2 hn
  by_cases hk : k ≤ n + 1
  · exact (a (n + 1) hk q hq).symm
  · rw [b k (by omega) q hq, b (n + 1) (by omega) q hq]
theorem lst_stands (hn : ∀ q x, q < n → x < l → nx q x < n) : ∀ q, q < n → rnd l nx oe (lst n l nx oe) q = lst n l nx oe q := by
  intro q hq
  have h2 := cl_stands n E hn
  have b := cl_stands_from n n h2 hn
  have := b (n + 2) (by omega) q hq
  have c := b (n + 1) (by omega) q hq
  show cl l nx oe (n + 2) q = cl l nx oe (n + 1) q
  rw [this, c]
omit E in
theorem lst_le (q : Nat) : lst n l nx oe q ≤ q := cl_le _ _
theorem lst_idem (q : Nat) : lst n l nx oe (lst n l nx oe q) = lst n l nx oe q := cl_idem E _ _
theorem lst_eq_iff (hn : ∀ q x, q < n → x < l → nx q x < n) (q r : Nat) (hq : q < n) (hr : r < n) : lst n l nx oe q = lst n l nx oe r ↔ oe q r = true ∧ ∀ x, x < l → lst n l nx oe (nx q x) = lst n l nx oe (nx r x) := by
  rw [← lst_stands n E hn q hq, ← lst_stands n E hn r hr, rnd_eq_iff E, rel_iff]
  constructor
  · rintro ⟨_, a, b⟩; exact ⟨a, b⟩
  · rintro ⟨a, b⟩; exact ⟨(cl_plain E (n + 1) q r a b).symm, a, b⟩
end

/-! ### The states that keep all letters -/
section
variable (n l : Nat) (nx : Nat → Nat → Nat) (idr : Nat → Bool)
/-- What keeps all letters for so many steps. -/
def tv : Nat → Nat → Bool
  | 0 => idr
  | k + 1 => fun q => tv k q && (List.range l).all fun x => tv k (nx q x)
def trv (q : Nat) : Bool := tv l nx idr n q
variable {l nx idr}
theorem tv_succ (k q : Nat) : tv l nx idr (k + 1) q = true ↔ tv l nx idr k q = true ∧ ∀ x, x < l → tv l nx idr k (nx q x) = true := by
  simp [tv]
theorem tv_down (k q : Nat) (h : tv l nx idr (k + 1) q = true) : tv l nx idr k q = true := ((tv_succ k q).1 h).1
theorem tv_idr (k q : Nat) (h : tv l nx idr k q = true) : idr q = true := by
  induction k with
  | zero => exact h
  | succ k ih => exact ih (tv_down k q h)
theorem tv_same (k : Nat) (h : ∀ q, q < n → tv l nx idr (k + 1) q = tv l nx idr k q) (hn : ∀ q x, q < n → x < l → nx q x < n) : ∀ q, q < n → tv l nx idr (k + 2) q = tv l nx idr (k + 1) q := by
  intro q hq
  rw [Bool.eq_iff_iff]
  constructor
  · exact tv_down (k + 1) q
  · intro a
    exact (tv_succ (k + 1) q).2 ⟨a, fun x hx => by rw [h _ (hn q x hq hx)]; exact ((tv_succ k q).1 a).2 x hx⟩
theorem tv_stands (hn : ∀ q x, q < n → x < l → nx q x < n) : ∀ q, q < n → tv l nx idr (n + 1) q = tv l nx idr n q := by
  have hm : ∀ k, ∀ q, q < n → tv l nx idr (k + 1) q = true → tv l nx idr k q = true := fun k q _ h => tv_down k q h
  have main := chain_stands (fun k => cnt (tv l nx idr k) n) (fun k => (cnt_mono n (hm k)).1) (fun k e => by
    have h := (cnt_mono n (hm k)).2 e
    have h2 := tv_same n k h hn
    have a := (cnt_mono n (p := tv l nx idr (k + 1)) (p' := tv l nx idr (k + 2)) (hm (k + 1))).1
    have b := (cnt_mono n (p' := tv l nx idr (k + 1)) (p := tv l nx idr (k + 2)) (fun q hq h => by rw [h2 q hq]; exact h)).1
    show cnt _ n = cnt _ n
    omega) n (cnt_le _ n)
  exact (cnt_mono n (hm n)).2 main
theorem trv_idr {q : Nat} (h : trv n l nx idr q = true) : idr q = true := tv_idr _ _ h
theorem trv_next (hn : ∀ q x, q < n → x < l → nx q x < n) {q x : Nat} (hq : q < n) (hx : x < l) (h : trv n l nx idr q = true) : trv n l nx idr (nx q x) = true := by
  have := tv_stands n (idr := idr) hn q hq
  unfold trv at *
  rw [h, tv_succ] at this
  exact this.2 x hx
/-- Whatever is closed lies in it. -/
theorem trv_of_closed (F : Nat → Bool) (h1 : ∀ q, q < n → F q = true → idr q = true) (h2 : ∀ q x, q < n → x < l → F q = true → F (nx q x) = true) (hn : ∀ q x, q < n → x < l → nx q x < n) : ∀ k q, q < n → F q = true → tv l nx idr k q = true := by
  intro k
  induction k with
  | zero => exact h1
  | succ k ih =>
    intro q hq h
    exact (tv_succ k q).2 ⟨ih q hq h, fun x hx => ih _ (hn q x hq hx) (h2 q x hq hx h)⟩
end
end Go.Proofs.Ytecdjmfohcnadaa
