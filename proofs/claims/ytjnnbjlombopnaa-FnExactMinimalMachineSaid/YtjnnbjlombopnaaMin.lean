/- Plain laws: the minimal machine: its states are the least ones of their classes, in order; how they are numbered. -/
import Derived.Test.YtjnnbjlombopnaaLea
namespace Go.Proofs.Ytjnnbjlombopnaa
open Go.RowKit

/-- A state that is the least of its class. -/
def Gm.isR (g : Gm) (q : Nat) : Bool := decide (g.lst q = q)
/-- The number of a state in the minimal machine. -/
def Gm.num (g : Gm) (q : Nat) : Nat := cnt g.isR (g.lst q)
/-- How many states it has. -/
def Gm.ns (g : Gm) : Nat := cnt g.isR g.s
/-- The least ones below q. -/
def Gm.reps (g : Gm) (q : Nat) : List Nat := (List.range q).filter g.isR
theorem cnt_succ (p : Nat → Bool) (n : Nat) : cnt p (n + 1) = cnt p n + if p n then 1 else 0 := rfl
theorem Gm.reps_len (g : Gm) (q : Nat) : (g.reps q).length = cnt g.isR q := by
  induction q with
  | zero => rfl
  | succ q ih =>
    unfold Gm.reps at *
    rw [List.range_succ, List.filter_append, List.length_append, ih, cnt_succ]
    cases h : g.isR q <;> simp [h]
theorem cnt_lt {p : Nat → Bool} {a b : Nat} (h : a < b) (ha : p a = true) : cnt p a < cnt p b := by
  induction b with
  | zero => omega
  | succ b ih =>
    rw [cnt_succ]
    by_cases e : a = b
    · subst e; rw [ha]; simp
    · have := ih (by omega)
      omega
theorem cnt_inc {p : Nat → Bool} {a b : Nat} (h : a ≤ b) : cnt p a ≤ cnt p b := by
  induction b with
  | zero => have : a = 0 := by omega
            subst this; exact Nat.le_refl _
  | succ b ih =>
    rw [cnt_succ]
    by_cases e : a = b + 1
    · subst e; rw [cnt_succ]; exact Nat.le_refl _
    · have := ih (by omega)
      omega
theorem Gm.lst_lst (g : Gm) (q : Nat) : g.lst (g.lst q) = g.lst q := lst_idem g.s g.oeE q
theorem Gm.lst_le' (g : Gm) (q : Nat) : g.lst q ≤ q := lst_le g.s q
theorem Gm.isR_lst (g : Gm) (q : Nat) : g.isR (g.lst q) = true := decide_eq_true (g.lst_lst q)
theorem Gm.num_lt (g : Gm) {q : Nat} (hq : q < g.s) : g.num q < g.ns := cnt_lt (by have := g.lst_le' q; omega) (g.isR_lst q)
theorem Gm.num_lst (g : Gm) (q : Nat) : g.num (g.lst q) = g.num q := by unfold Gm.num; rw [g.lst_lst]
theorem Gm.num_rep (g : Gm) {q : Nat} (h : g.isR q = true) : g.num q = cnt g.isR q := by unfold Gm.num; rw [of_decide_eq_true h]
theorem Gm.ns_le (g : Gm) : g.ns ≤ g.s := cnt_le _ _
/-- Equal states have equal numbers, and no others. -/
theorem Gm.num_inj (g : Gm) {q r : Nat} (h : g.num q = g.num r) : g.lst q = g.lst r := by
  unfold Gm.num at h
  rcases Nat.lt_trichotomy (g.lst q) (g.lst r) with h1 | h1 | h1
  · have := cnt_lt h1 (g.isR_lst q); omega
  · exact h1
  · have := cnt_lt h1 (g.isR_lst r); omega
/-- The state of each number. -/
theorem Gm.reps_get (g : Gm) {q n : Nat} (hq : q < n) (h : g.isR q = true) : (g.reps n)[cnt g.isR q]? = some q := by
  induction n with
  | zero => omega
  | succ n ih =>
    unfold Gm.reps at *
    rw [List.range_succ, List.filter_append]
    by_cases e : q = n
    · subst e
      rw [List.getElem?_append_right (by rw [show ((List.range q).filter g.isR).length = cnt g.isR q from g.reps_len q]; exact Nat.le_refl _), show ((List.range q).filter g.isR).length = cnt g.isR q from g.reps_len q]
      simp [h]
    · have := ih (by omega)
      rw [List.getElem?_append_left (List.getElem?_eq_some_iff.1 this).1]
      exact this
/-- Equal states put out the same and go on to equal states. -/
theorem Gm.lst_same {g : Gm} (hok : g.Tb) {q r : Nat} (hq : q < g.s) (hr : r < g.s) (h : g.lst q = g.lst r) : ∀ x, x < g.l → g.ou q x = g.ou r x ∧ g.num (g.nx q x) = g.num (g.nx r x) := fun x hx => by
  have := (lst_eq_iff g.s g.oeE hok.nlt q r hq hr).1 h
  refine ⟨(g.oe_iff q r).1 this.1 x hx, ?_⟩
  unfold Gm.num
  rw [show g.lst (g.nx q x) = g.lst (g.nx r x) from this.2 x hx]
/-- The state that has a number. -/
def Gm.rep (g : Gm) (i : Nat) : Nat := ((g.reps g.s)[i]?).getD 0
theorem Gm.rep_num (g : Gm) {q : Nat} (hq : q < g.s) : g.rep (g.num q) = g.lst q := by
  unfold Gm.rep Gm.num
  rw [g.reps_get (Nat.lt_of_le_of_lt (g.lst_le' q) hq) (g.isR_lst q)]
  rfl
/-- The minimal machine. -/
def Gm.mn (g : Gm) : Gm where
  l := g.l
  s := g.ns
  nx := fun i x => if i < g.ns ∧ x < g.l then g.num (g.nx (g.rep i) x) else 0
  ou := fun i x => if i < g.ns ∧ x < g.l then g.ou (g.rep i) x else 0
theorem Gm.mn_nx {g : Gm} (hok : g.Ok) {q x : Nat} (hq : q < g.s) (hx : x < g.l) : g.mn.nx (g.num q) x = g.num (g.nx q x) := by
  have hl : g.lst q < g.s := Nat.lt_of_le_of_lt (g.lst_le' q) hq
  show (if _ then _ else _) = _
  rw [if_pos ⟨g.num_lt hq, hx⟩, g.rep_num hq]
  exact (g.lst_same hok.tb hl hq (g.lst_lst q) x hx).2
theorem Gm.mn_ou {g : Gm} (hok : g.Ok) {q x : Nat} (hq : q < g.s) (hx : x < g.l) : g.mn.ou (g.num q) x = g.ou q x := by
  have hl : g.lst q < g.s := Nat.lt_of_le_of_lt (g.lst_le' q) hq
  show (if _ then _ else _) = _
  rw [if_pos ⟨g.num_lt hq, hx⟩, g.rep_num hq]
  exact (g.lst_same hok.tb hl hq (g.lst_lst q) x hx).1
/-- Its first rows, and of row i the first x letters. -/
def Gm.mnP (g : Gm) (i x : Nat) : Mc := ⟨g.l, g.ns, fun j y => if j < i ∨ (j = i ∧ y < x) then g.mn.nx j y else 0, fun j y => if j < i ∨ (j = i ∧ y < x) then g.mn.ou j y else 0⟩
theorem Gm.mnP_zero (g : Gm) : g.mnP 0 0 = ⟨g.l, g.ns, fun _ _ => 0, fun _ _ => 0⟩ := by
  unfold Gm.mnP
  congr 1
  · funext j y; rw [if_neg (by omega)]
  · funext j y; rw [if_neg (by omega)]
theorem Gm.mnP_setN (g : Gm) (i x : Nat) : ((g.mnP i x).setO i x (g.mn.ou i x)).setN i x (g.mn.nx i x) = g.mnP i (x + 1) := by
  unfold Gm.mnP Mc.setN Mc.setO
  congr 1
  · funext j y
    by_cases e : j = i ∧ y = x
    · obtain ⟨rfl, rfl⟩ := e
      simp
    · simp only [if_neg e]
      by_cases h : j < i ∨ (j = i ∧ y < x)
      · rw [if_pos h, if_pos (by omega)]
      · rw [if_neg h, if_neg (by omega)]
  · funext j y
    by_cases e : j = i ∧ y = x
    · obtain ⟨rfl, rfl⟩ := e
      simp
    · simp only [if_neg e]
      by_cases h : j < i ∨ (j = i ∧ y < x)
      · rw [if_pos h, if_pos (by omega)]
      · rw [if_neg h, if_neg (by omega)]
theorem Mc.setN_setO (m : Mc) (q y v a b u : Nat) : (m.setN q y v).setO a b u = (m.setO a b u).setN q y v := rfl
theorem Gm.mn_far (g : Gm) {j y : Nat} (h : g.ns ≤ j ∨ g.l ≤ y) : g.mn.nx j y = 0 ∧ g.mn.ou j y = 0 := by
  constructor
  · show (if _ then _ else _) = _
    rw [if_neg (by omega)]
  · show (if _ then _ else _) = _
    rw [if_neg (by omega)]
theorem Gm.mnP_row (g : Gm) (i : Nat) : g.mnP i g.l = g.mnP (i + 1) 0 := by
  unfold Gm.mnP
  congr 1
  · funext j y
    by_cases h : j < i ∨ (j = i ∧ y < g.l)
    · rw [if_pos h, if_pos (by omega)]
    · rw [if_neg h]
      by_cases h2 : j < i + 1 ∨ (j = i + 1 ∧ y < 0)
      · rw [if_pos h2, (g.mn_far (by omega)).1]
      · rw [if_neg h2]
  · funext j y
    by_cases h : j < i ∨ (j = i ∧ y < g.l)
    · rw [if_pos h, if_pos (by omega)]
    · rw [if_neg h]
      by_cases h2 : j < i + 1 ∨ (j = i + 1 ∧ y < 0)
      · rw [if_pos h2, (g.mn_far (by omega)).2]
      · rw [if_neg h2]
theorem Gm.mnP_end (g : Gm) : g.mnP g.ns 0 = g.mn.mc := by
  unfold Gm.mnP Gm.mc
  congr 1
  · funext j y
    by_cases h : j < g.ns ∨ (j = g.ns ∧ y < 0)
    · rw [if_pos h]
    · rw [if_neg h, (g.mn_far (by omega)).1]
  · funext j y
    by_cases h : j < g.ns ∨ (j = g.ns ∧ y < 0)
    · rw [if_pos h]
    · rw [if_neg h, (g.mn_far (by omega)).2]
/-- What is written once more stays. -/
theorem Gm.mnP_again (g : Gm) {i j y : Nat} (h : j < i) : ((g.mnP i 0).setO j y (g.mn.ou j y)).setN j y (g.mn.nx j y) = g.mnP i 0 := by
  unfold Gm.mnP Mc.setN Mc.setO
  congr 1
  · funext a b
    by_cases e : a = j ∧ b = y
    · obtain ⟨rfl, rfl⟩ := e
      simp [h]
    · simp only [if_neg e]
  · funext a b
    by_cases e : a = j ∧ b = y
    · obtain ⟨rfl, rfl⟩ := e
      simp [h]
    · simp only [if_neg e]
end Go.Proofs.Ytjnnbjlombopnaa
