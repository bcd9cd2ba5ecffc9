/- Small texts of the walks under one roof. -/
import Derived.Test.YtighjpnjbgjgaaaDoorBB
import Derived.BigQuiet
import Derived.Deep.RegionWith
import Derived.Deep.LoopGhost
import Derived.OrdersHeld
import Derived.WalkKit
import Derived.Below
import Derived.RegionTactic
import Derived.Deep.RegionHeld3
import Derived.Shelf.Abstract
/- Walks: the classes of equal states, of the reference. -/
namespace Go.Proofs.YtighjpnjbgjgaaaDoor
open Go.RowKit

/-! ### Equal states of a machine -/
def Gm.oe (g : Gm) (q r : Nat) : Bool := (List.range g.l).all fun x => decide (g.ou q x = g.ou r x)
theorem Gm.oe_iff (g : Gm) (q r : Nat) : g.oe q r = true ↔ ∀ x, x < g.l → g.ou q x = g.ou r x := by simp [Gm.oe]
theorem Gm.oeE (g : Gm) : Eqv g.oe := ⟨fun q => (g.oe_iff q q).2 fun _ _ => rfl, fun q r h => (g.oe_iff r q).2 fun x hx => ((g.oe_iff q r).1 h x hx).symm, fun q r t h h2 => (g.oe_iff q t).2 fun x hx => ((g.oe_iff q r).1 h x hx).trans ((g.oe_iff r t).1 h2 x hx)⟩
def Gm.cl (g : Gm) : Nat → Nat → Nat := YtighjpnjbgjgaaaDoor.cl g.l g.nx g.oe
def Gm.lst (g : Gm) (q : Nat) : Nat := YtighjpnjbgjgaaaDoor.lst g.s g.l g.nx g.oe q
def iv (C : Nat → Nat) (n : Nat) : Array Value := av (fun j => .int .i64 (C j : Nat)) n
theorem iv_get (C : Nat → Nat) {n j : Nat} (h : j < n) : (iv C n)[j]? = some (.int .i64 (C j : Nat)) := av_get _ h
def updN (F : Nat → Nat) (q b : Nat) : Nat → Nat := fun j => if j = q then b else F j
theorem updN_same (F : Nat → Nat) (q b : Nat) : updN F q b q = b := by simp [updN]
theorem updN_ne (F : Nat → Nat) (b : Nat) {q j : Nat} (h : j ≠ q) : updN F q b j = F j := by simp [updN, h]
theorem iv_set (C : Nat → Nat) (n q b : Nat) : (iv C n).setIfInBounds q (.int .i64 (b : Nat)) = iv (updN C q b) n := by
  unfold iv
  rw [av_set]
  refine av_congr fun j _ => ?_
  unfold updN
  split <;> rfl
theorem iv_congr {C C' : Nat → Nat} {n : Nat} (h : ∀ j, j < n → C j = C' j) : iv C n = iv C' n := av_congr fun j hj => by rw [h j hj]

/-- The same outputs, and on to the same classes, for the first x letters. -/
def sameTo (g : Gm) (C : Nat → Nat) (q r x : Nat) : Bool := (List.range x).all fun y => decide (g.ou q y = g.ou r y) && decide (C (g.nx q y) = C (g.nx r y))
theorem sameTo_succ (g : Gm) (C : Nat → Nat) (q r x : Nat) : sameTo g C q r (x + 1) = (sameTo g C q r x && (decide (g.ou q x = g.ou r x) && decide (C (g.nx q x) = C (g.nx r x)))) := by simp [sameTo, List.range_succ]
theorem sameTo_no {g : Gm} {C : Nat → Nat} {q r x : Nat} (hx : x < g.l) (h : (decide (g.ou q x = g.ou r x) && decide (C (g.nx q x) = C (g.nx r x))) = false) : sameTo g C q r g.l = false := by
  unfold sameTo
  rw [List.all_eq_false]
  exact ⟨x, List.mem_range.2 hx, by rw [h]; simp⟩
theorem rel_same (g : Gm) (C : Nat → Nat) (q r : Nat) : rel g.l g.nx g.oe C q r = (decide (C r = C q) && sameTo g C q r g.l) := by
  rw [Bool.eq_iff_iff, rel_iff, Bool.and_eq_true, decide_eq_true_eq]
  unfold sameTo
  simp only [List.all_eq_true, List.mem_range, Bool.and_eq_true, decide_eq_true_eq, Gm.oe_iff]
  exact ⟨fun ⟨a, b, c⟩ => ⟨a, fun x hx => ⟨b x hx, c x hx⟩⟩, fun ⟨a, b⟩ => ⟨a, fun x hx => (b x hx).1, fun x hx => (b x hx).2⟩⟩

end Go.Proofs.YtighjpnjbgjgaaaDoor

/- Walks: the classes of equal states, of the reference: the rounds. -/
namespace Go.Proofs.YtighjpnjbgjgaaaDoor
open Go.RowKit

def CI (g : Gm) (r : Nat) (C : Nat → Nat) : Prop := (∀ j, j < g.s → C j = g.cl r j) ∧ ∀ j, g.s ≤ j → C j = 0
def NI (g : Gm) (r q : Nat) (N : Nat → Nat) : Prop := (∀ j, j < q → N j = g.cl (r + 1) j) ∧ ∀ j, q ≤ j → N j = 0
theorem CI.start (g : Gm) : CI g 0 (fun _ => 0) := ⟨fun _ _ => rfl, fun _ _ => rfl⟩
theorem NI.start (g : Gm) (r : Nat) : NI g r 0 (fun _ => 0) := ⟨fun j hj => by omega, fun _ _ => rfl⟩
theorem NI.all {g : Gm} {r : Nat} {N : Nat → Nat} (h : NI g r g.s N) : CI g (r + 1) N := h
theorem sameTo_congr {g : Gm} (hok : g.Ok) {C C' : Nat → Nat} (h : ∀ j, j < g.s → C j = C' j) {q p : Nat} (hq : q < g.s) (hp : p < g.s) : sameTo g C q p g.l = sameTo g C' q p g.l := by
  unfold sameTo
  rw [Bool.eq_iff_iff]
  simp only [List.all_eq_true, List.mem_range, Bool.and_eq_true, decide_eq_true_eq]
  constructor
  · intro a x hx
    have := a x hx
    rw [h _ (hok.nlt q x hq hx), h _ (hok.nlt p x hp hx)] at this
    exact this
  · intro a x hx
    rw [h _ (hok.nlt q x hq hx), h _ (hok.nlt p x hp hx)]
    exact a x hx
/-- Whether p is like q in a round. -/
def lik (g : Gm) (C : Nat → Nat) (q p : Nat) : Bool := decide (C q = C p) && sameTo g C q p g.l
theorem lik_rel {g : Gm} (hok : g.Ok) {r : Nat} {C : Nat → Nat} (h : CI g r C) {q p : Nat} (hq : q < g.s) (hp : p < g.s) : lik g C q p = rel g.l g.nx g.oe (g.cl r) q p := by
  unfold lik
  rw [rel_same, ← sameTo_congr hok h.1 hq hp, h.1 q hq, h.1 p hp]
  congr 1
  rw [Bool.eq_iff_iff, decide_eq_true_eq, decide_eq_true_eq]
  exact eq_comm
theorem NI.hit {g : Gm} (hok : g.Ok) {r q p : Nat} {C N : Nat → Nat} (hc : CI g r C) (h : NI g r q N) (hq : q < g.s) (hp : p < q) (hl : lik g C q p = true) : NI g r (q + 1) (updN N q (N p)) := by
  rw [lik_rel hok hc hq (by omega)] at hl
  refine ⟨fun j hj => ?_, fun j hj => ?_⟩
  · by_cases e : j = q
    · subst e
      rw [updN_same, h.1 p hp]
      exact ((rnd_eq_iff g.oeE (g.cl r) j p).2 hl).symm
    · rw [updN_ne N _ e]; exact h.1 j (by omega)
  · rw [updN_ne N _ (by omega)]; exact h.2 j (by omega)
theorem NI.miss {g : Gm} (hok : g.Ok) {r q : Nat} {C N : Nat → Nat} (hc : CI g r C) (h : NI g r q N) (hq : q < g.s) (hl : ∀ p, p < q → lik g C q p = false) : NI g r (q + 1) (updN N q q) := by
  refine ⟨fun j hj => ?_, fun j hj => ?_⟩
  · by_cases e : j = q
    · subst e
      rw [updN_same]
      exact (first_eq (Nat.le_refl _) (fun h => absurd h (Nat.lt_irrefl _)) (fun p hp => (lik_rel hok hc hq (by omega)).symm.trans (hl p hp))).symm
    · rw [updN_ne N _ e]; exact h.1 j (by omega)
  · rw [updN_ne N _ (by omega)]; exact h.2 j (by omega)
theorem updN_updN (F : Nat → Nat) (q a b : Nat) : updN (updN F q a) q b = updN F q b := by
  funext j
  unfold updN
  split <;> rfl
/-- The least equal states, as the array of the reference says. -/
def Gm.ls16 (g : Gm) (q : Nat) : Nat := if q < g.s then g.lst q else 0
theorem CI.all {g : Gm} {C : Nat → Nat} (h : CI g (g.s + 1) C) : iv C 16 = iv g.ls16 16 := iv_congr fun j _ => by
  unfold Gm.ls16
  split
  · rename_i hj; exact h.1 j hj
  · rename_i hj; exact h.2 j (by omega)

end Go.Proofs.YtighjpnjbgjgaaaDoor

/- Walks: the least equal states, of a table: comparing rows, the closure, like. -/
namespace Go.Proofs.YtighjpnjbgjgaaaDoor
open Go.RowKit

theorem drewN_two (w : World) (a b : Nat) : ∃ n, (w.drewN a).drewN b = w.drewN n := ⟨a + b, by simp [World.drewN, Nat.add_assoc]⟩
theorem or_eq_iff (g : Gm) (q r : Nat) : decide (g.or q = g.or r) = g.oe q r := by
  rw [Bool.eq_iff_iff, decide_eq_true_eq, Gm.oe_iff]
  unfold Gm.or
  constructor
  · intro h x hx
    have := congrArg (fun l : List Int => l[x]?) h
    simp [hx] at this
    omega
  · intro h
    refine List.map_congr_left fun x hx => ?_
    rw [h x (List.mem_range.1 hx)]

end Go.Proofs.YtighjpnjbgjgaaaDoor

/- Walks: (*table).like. -/
namespace Go.Proofs.YtighjpnjbgjgaaaDoor
open Go.RowKit

/-- What is asked of a table: rows of letters that go on to rows. -/
structure Gm.Tb (g : Gm) : Prop where
  l2 : 2 ≤ g.l
  l3 : g.l ≤ 3
  s1 : 1 ≤ g.s
  sm : g.s ≤ 256
  nlt : ∀ q x, q < g.s → x < g.l → g.nx q x < g.s
  olt : ∀ q x, q < g.s → x < g.l → g.ou q x < g.l
theorem Gm.Ok.tb {g : Gm} (h : g.Ok) : g.Tb := ⟨h.l2, h.l3, h.s1, by have := h.s16; omega, h.nlt, h.olt⟩
def ivL (C : Nat → Nat) (n : Nat) : List Int := (List.range n).map fun j => (C j : Int)
theorem ivL_len (C : Nat → Nat) (n : Nat) : (ivL C n).length = n := by simp [ivL]
theorem ivL_get (C : Nat → Nat) {n j : Nat} (h : j < n) : (ivL C n)[j]'(by rw [ivL_len]; exact h) = (C j : Int) := by simp [ivL]
def toTo (g : Gm) (C : Nat → Nat) (q r x : Nat) : Bool := (List.range x).all fun y => decide (C (g.nx q y) = C (g.nx r y))
theorem toTo_succ (g : Gm) (C : Nat → Nat) (q r x : Nat) : toTo g C q r (x + 1) = (toTo g C q r x && decide (C (g.nx q x) = C (g.nx r x))) := by simp [toTo, List.range_succ]
/-- What like looks for. -/
def lkB (g : Gm) (C : Nat → Nat) (q r : Nat) : Bool := decide (C q ≤ r) && (decide (C r = C q) && toTo g C q r g.l)
def lk (g : Gm) (C : Nat → Nat) (q : Nat) : Nat := first (lkB g C q) q

end Go.Proofs.YtighjpnjbgjgaaaDoor

/- Walks: (*table).least. -/
namespace Go.Proofs.YtighjpnjbgjgaaaDoor
open Go.RowKit

theorem Gm.cl_one (g : Gm) {q : Nat} (hq : q < g.s) : fidx (fun j => g.oe j q) g.s = (g.cl 1 q : Nat) := by
  have e : g.cl 1 q = first (fun r => g.oe q r) q := by
    refine first_congr fun r _ => ?_
    unfold rel
    simp [YtighjpnjbgjgaaaDoor.cl]
  have h := first_spec (fun r => g.oe q r) q
  have e2 : first (fun j => g.oe j q) g.s = g.cl 1 q := by
    rw [e]
    refine first_eq (by omega) (fun _ => ?_) (fun r hr => ?_)
    · by_cases hv : first (fun r => g.oe q r) q < q
      · exact g.oeE.symm _ _ (h.2.1 hv)
      · rw [show first (fun r => g.oe q r) q = q by omega]; exact g.oeE.rfl' q
    · have := h.2.2 r hr
      cases hx : g.oe r q with
      | false => rfl
      | true => rw [g.oeE.symm _ _ hx] at this; cases this
  have hle : g.cl 1 q ≤ q := cl_le 1 q
  unfold fidx
  rw [e2, if_pos (by omega)]
theorem Gm.lk_cl (g : Gm) (k q : Nat) : lk g (g.cl (k + 1)) q = g.cl (k + 2) q := by
  refine first_congr fun r hr => ?_
  rw [Bool.eq_iff_iff, rel_iff]
  unfold lkB toTo
  simp only [Bool.and_eq_true, decide_eq_true_eq, List.all_eq_true, List.mem_range]
  constructor
  · rintro ⟨_, h2, h3⟩
    exact ⟨h2, ((rel_iff _ _ _).1 ((rnd_eq_iff g.oeE (g.cl k) q r).1 h2.symm)).2.1, h3⟩
  · rintro ⟨h2, _, h3⟩
    refine ⟨?_, h2, h3⟩
    have : g.cl (k + 1) r ≤ r := cl_le (k + 1) r
    have h2' : g.cl (k + 1) r = g.cl (k + 1) q := h2
    omega
theorem ivL_ints (C : Nat → Nat) (n : Nat) : ints (ivL C n) = (iv C n).toList := by
  simp [ivL, ints, iv, av]
/-- Nothing has turned in a round, up to q. -/
def stB (g : Gm) (k q : Nat) : Bool := (List.range q).all fun p => decide (g.cl (k + 2) p = g.cl (k + 1) p)
theorem stB_succ (g : Gm) (k q : Nat) : stB g k (q + 1) = (stB g k q && decide (g.cl (k + 2) q = g.cl (k + 1) q)) := by simp [stB, List.range_succ]
theorem stB_iff (g : Gm) (k q : Nat) : stB g k q = true ↔ ∀ p, p < q → g.cl (k + 2) p = g.cl (k + 1) p := by simp [stB]
theorem stB_lst {g : Gm} (hok : g.Tb) {k : Nat} (h : stB g k g.s = true) : ivL g.lst g.s = ivL (g.cl (k + 1)) g.s := by
  unfold ivL
  refine List.map_congr_left fun q hq => ?_
  have := lst_of_stands g.s g.oeE (k + 1) ((stB_iff g k g.s).1 h) hok.nlt q (List.mem_range.1 hq)
  show ((g.lst q : Nat) : Int) = (g.cl (k + 1) q : Nat)
  rw [show g.cl (k + 1) q = g.lst q from this]
theorem stB_more {g : Gm} (hok : g.Tb) {k : Nat} (hk : k ≤ g.s) (h : stB g k g.s = false) : k + 1 ≤ g.s := by
  rcases Nat.lt_or_ge k g.s with h1 | h1
  · exact h1
  · exfalso
    obtain rfl : k = g.s := by omega
    have h2 := cl_stands g.s g.oeE hok.nlt
    have h3 := cl_stands_from g.s g.s h2 hok.nlt
    have : stB g g.s g.s = true := (stB_iff g g.s g.s).2 fun p hp => by
      show cl g.l g.nx g.oe (g.s + 2) p = cl g.l g.nx g.oe (g.s + 1) p
      rw [h3 (g.s + 2) (by omega) p hp, h3 (g.s + 1) (by omega) p hp]
    rw [this] at h
    cases h
theorem hp_lt' {w : World} {a : Addr} {v : Value} (h : w.cell? a = some v) : a.block < w.heap.size := World.block_lt_of_cell? w a h
theorem iv_ifstep (f : Nat → Nat) (q n : Nat) : iv (fun j => if j < q + 1 then f j else 0) n = iv (updN (fun j => if j < q then f j else 0) q (f q)) n := iv_congr fun j _ => by
  unfold updN
  by_cases e : j = q
  · subst e; simp
  · simp only [if_neg e]
    by_cases h1 : j < q
    · rw [if_pos h1, if_pos (by omega)]
    · rw [if_neg h1, if_neg (by omega)]
theorem RdI.of_iv {w : World} {R n : Nat} {C : Nat → Nat} {t : TypeId} (h : w.heap[R]? = some (.cells (iv C n) t (0, 0))) (hn : n ≤ 1048576) : RdI w (.slice (some ⟨R, 0, none⟩) n n) (ivL C n) := by
  refine ⟨_, n, by rw [ivL_len], by rw [ints_length, ivL_len]; omega, fun _ => ⟨R, 0, rfl, fun j v hj => ?_⟩⟩
  rw [ivL_ints] at hj
  rw [blkc h, Nat.zero_add]
  simpa using hj
end Go.Proofs.YtighjpnjbgjgaaaDoor

/- Plain laws: the minimal machine: its states are the least ones of their classes, in order; how they are numbered. -/
namespace Go.Proofs.YtighjpnjbgjgaaaDoor
open Go.RowKit

/-- A state that is the least of its class. -/
def Gm.isR (g : Gm) (q : Nat) : Bool := decide (g.lst q = q)
/-- The number of a state in the minimal machine. -/
def Gm.num (g : Gm) (q : Nat) : Nat := cnt g.isR (g.lst q)
/-- How many states it has. -/
def Gm.ns (g : Gm) : Nat := cnt g.isR g.s
/-- The least ones below q. -/
def Gm.reps (g : Gm) (q : Nat) : List Nat := (List.range q).filter g.isR
theorem cnt_succ (p : Nat → Bool) (n : Nat) : cnt p (n + 1) = cnt p n + if p n then 1 else 0 := rfl
theorem Gm.reps_len (g : Gm) (q : Nat) : (g.reps q).length = cnt g.isR q := by
  induction q with
  | zero => rfl
  | succ q ih =>
    unfold Gm.reps at *
    rw [List.range_succ, List.filter_append, List.length_append, ih, cnt_succ]
    cases h : g.isR q <;> simp [h]
theorem cnt_lt {p : Nat → Bool} {a b : Nat} (h : a < b) (ha : p a = true) : cnt p a < cnt p b := by
  induction b with
  | zero => omega
  | succ b ih =>
    rw [cnt_succ]
    by_cases e : a = b
    · subst e; rw [ha]; simp
    · have := ih (by omega)
      omega
theorem cnt_inc {p : Nat → Bool} {a b : Nat} (h : a ≤ b) : cnt p a ≤ cnt p b := by
  induction b with
  | zero => have : a = 0 := by omega
            subst this; exact Nat.le_refl _
  | succ b ih =>
    rw [cnt_succ]
    by_cases e : a = b + 1
    · subst e; rw [cnt_succ]; exact Nat.le_refl _
    · have := ih (by omega)
      omega
theorem Gm.lst_lst (g : Gm) (q : Nat) : g.lst (g.lst q) = g.lst q := lst_idem g.s g.oeE q
theorem Gm.lst_le' (g : Gm) (q : Nat) : g.lst q ≤ q := lst_le g.s q
theorem Gm.isR_lst (g : Gm) (q : Nat) : g.isR (g.lst q) = true := decide_eq_true (g.lst_lst q)
theorem Gm.num_lt (g : Gm) {q : Nat} (hq : q < g.s) : g.num q < g.ns := cnt_lt (by have := g.lst_le' q; omega) (g.isR_lst q)
theorem Gm.num_lst (g : Gm) (q : Nat) : g.num (g.lst q) = g.num q := by unfold Gm.num; rw [g.lst_lst]
theorem Gm.num_rep (g : Gm) {q : Nat} (h : g.isR q = true) : g.num q = cnt g.isR q := by unfold Gm.num; rw [of_decide_eq_true h]
theorem Gm.ns_le (g : Gm) : g.ns ≤ g.s := cnt_le _ _
/-- Equal states have equal numbers, and no others. -/
theorem Gm.num_inj (g : Gm) {q r : Nat} (h : g.num q = g.num r) : g.lst q = g.lst r := by
  unfold Gm.num at h
  rcases Nat.lt_trichotomy (g.lst q) (g.lst r) with h1 | h1 | h1
  · have := cnt_lt h1 (g.isR_lst q); omega
  · exact h1
  · have := cnt_lt h1 (g.isR_lst r); omega
/-- The state of each number. -/
theorem Gm.reps_get (g : Gm) {q n : Nat} (hq : q < n) (h : g.isR q = true) : (g.reps n)[cnt g.isR q]? = some q := by
  induction n with
  | zero => omega
  | succ n ih =>
    unfold Gm.reps at *
    rw [List.range_succ, List.filter_append]
    by_cases e : q = n
    · subst e
      rw [List.getElem?_append_right (by rw [show ((List.range q).filter g.isR).length = cnt g.isR q from g.reps_len q]; exact Nat.le_refl _), show ((List.range q).filter g.isR).length = cnt g.isR q from g.reps_len q]
      simp [h]
    · have := ih (by omega)
      rw [List.getElem?_append_left (List.getElem?_eq_some_iff.1 this).1]
      exact this
/-- Equal states put out the same and go on to equal states. -/
theorem Gm.lst_same {g : Gm} (hok : g.Tb) {q r : Nat} (hq : q < g.s) (hr : r < g.s) (h : g.lst q = g.lst r) : ∀ x, x < g.l → g.ou q x = g.ou r x ∧ g.num (g.nx q x) = g.num (g.nx r x) := fun x hx => by
  have := (lst_eq_iff g.s g.oeE hok.nlt q r hq hr).1 h
  refine ⟨(g.oe_iff q r).1 this.1 x hx, ?_⟩
  unfold Gm.num
  rw [show g.lst (g.nx q x) = g.lst (g.nx r x) from this.2 x hx]
/-- The state that has a number. -/
def Gm.rep (g : Gm) (i : Nat) : Nat := ((g.reps g.s)[i]?).getD 0
theorem Gm.rep_num (g : Gm) {q : Nat} (hq : q < g.s) : g.rep (g.num q) = g.lst q := by
  unfold Gm.rep Gm.num
  rw [g.reps_get (Nat.lt_of_le_of_lt (g.lst_le' q) hq) (g.isR_lst q)]
  rfl
/-- The minimal machine. -/
def Gm.mn (g : Gm) : Gm where
  l := g.l
  s := g.ns
  nx := fun i x => if i < g.ns ∧ x < g.l then g.num (g.nx (g.rep i) x) else 0
  ou := fun i x => if i < g.ns ∧ x < g.l then g.ou (g.rep i) x else 0
theorem Gm.mn_nx {g : Gm} (hok : g.Ok) {q x : Nat} (hq : q < g.s) (hx : x < g.l) : g.mn.nx (g.num q) x = g.num (g.nx q x) := by
  have hl : g.lst q < g.s := Nat.lt_of_le_of_lt (g.lst_le' q) hq
  show (if _ then _ else _) = _
  rw [if_pos ⟨g.num_lt hq, hx⟩, g.rep_num hq]
  exact (g.lst_same hok.tb hl hq (g.lst_lst q) x hx).2
theorem Gm.mn_ou {g : Gm} (hok : g.Ok) {q x : Nat} (hq : q < g.s) (hx : x < g.l) : g.mn.ou (g.num q) x = g.ou q x := by
  have hl : g.lst q < g.s := Nat.lt_of_le_of_lt (g.lst_le' q) hq
  show (if _ then _ else _) = _
  rw [if_pos ⟨g.num_lt hq, hx⟩, g.rep_num hq]
  exact (g.lst_same hok.tb hl hq (g.lst_lst q) x hx).1
/-- Its first rows, and of row i the first x letters. -/
def Gm.mnP (g : Gm) (i x : Nat) : Mc := ⟨g.l, g.ns, fun j y => if j < i ∨ (j = i ∧ y < x) then g.mn.nx j y else 0, fun j y => if j < i ∨ (j = i ∧ y < x) then g.mn.ou j y else 0⟩
theorem Gm.mnP_zero (g : Gm) : g.mnP 0 0 = ⟨g.l, g.ns, fun _ _ => 0, fun _ _ => 0⟩ := by
  unfold Gm.mnP
  congr 1
  · funext j y; rw [if_neg (by omega)]
  · funext j y; rw [if_neg (by omega)]
theorem Gm.mnP_setN (g : Gm) (i x : Nat) : ((g.mnP i x).setO i x (g.mn.ou i x)).setN i x (g.mn.nx i x) = g.mnP i (x + 1) := by
  unfold Gm.mnP Mc.setN Mc.setO
  congr 1
  · funext j y
    by_cases e : j = i ∧ y = x
    · obtain ⟨rfl, rfl⟩ := e
      simp
    · simp only [if_neg e]
      by_cases h : j < i ∨ (j = i ∧ y < x)
      · rw [if_pos h, if_pos (by omega)]
      · rw [if_neg h, if_neg (by omega)]
  · funext j y
    by_cases e : j = i ∧ y = x
    · obtain ⟨rfl, rfl⟩ := e
      simp
    · simp only [if_neg e]
      by_cases h : j < i ∨ (j = i ∧ y < x)
      · rw [if_pos h, if_pos (by omega)]
      · rw [if_neg h, if_neg (by omega)]
theorem Mc.setN_setO (m : Mc) (q y v a b u : Nat) : (m.setN q y v).setO a b u = (m.setO a b u).setN q y v := rfl
theorem Gm.mn_far (g : Gm) {j y : Nat} (h : g.ns ≤ j ∨ g.l ≤ y) : g.mn.nx j y = 0 ∧ g.mn.ou j y = 0 := by
  constructor
  · show (if _ then _ else _) = _
    rw [if_neg (by omega)]
  · show (if _ then _ else _) = _
    rw [if_neg (by omega)]
theorem Gm.mnP_row (g : Gm) (i : Nat) : g.mnP i g.l = g.mnP (i + 1) 0 := by
  unfold Gm.mnP
  congr 1
  · funext j y
    by_cases h : j < i ∨ (j = i ∧ y < g.l)
    · rw [if_pos h, if_pos (by omega)]
    · rw [if_neg h]
      by_cases h2 : j < i + 1 ∨ (j = i + 1 ∧ y < 0)
      · rw [if_pos h2, (g.mn_far (by omega)).1]
      · rw [if_neg h2]
  · funext j y
    by_cases h : j < i ∨ (j = i ∧ y < g.l)
    · rw [if_pos h, if_pos (by omega)]
    · rw [if_neg h]
      by_cases h2 : j < i + 1 ∨ (j = i + 1 ∧ y < 0)
      · rw [if_pos h2, (g.mn_far (by omega)).2]
      · rw [if_neg h2]
theorem Gm.mnP_end (g : Gm) : g.mnP g.ns 0 = g.mn.mc := by
  unfold Gm.mnP Gm.mc
  congr 1
  · funext j y
    by_cases h : j < g.ns ∨ (j = g.ns ∧ y < 0)
    · rw [if_pos h]
    · rw [if_neg h, (g.mn_far (by omega)).1]
  · funext j y
    by_cases h : j < g.ns ∨ (j = g.ns ∧ y < 0)
    · rw [if_pos h]
    · rw [if_neg h, (g.mn_far (by omega)).2]
/-- What is written once more stays. -/
theorem Gm.mnP_again (g : Gm) {i j y : Nat} (h : j < i) : ((g.mnP i 0).setO j y (g.mn.ou j y)).setN j y (g.mn.nx j y) = g.mnP i 0 := by
  unfold Gm.mnP Mc.setN Mc.setO
  congr 1
  · funext a b
    by_cases e : a = j ∧ b = y
    · obtain ⟨rfl, rfl⟩ := e
      simp [h]
    · simp only [if_neg e]
  · funext a b
    by_cases e : a = j ∧ b = y
    · obtain ⟨rfl, rfl⟩ := e
      simp [h]
    · simp only [if_neg e]
end Go.Proofs.YtighjpnjbgjgaaaDoor

/- Walks: slices.Index; the closure of minimal that tells a state's number. -/
namespace Go.Proofs.YtighjpnjbgjgaaaDoor
open Go.RowKit
/-- The least states as a list of whole numbers. -/
def Gm.repL (g : Gm) (q : Nat) : List Int := (g.reps q).map fun (p : Nat) => (p : Int)
theorem Gm.repL_num (g : Gm) {q : Nat} (hq : q < g.s) : (g.repL g.s)[g.num q]? = some (g.lst q : Int) := by
  unfold Gm.repL Gm.num
  rw [List.getElem?_map, g.reps_get (Nat.lt_of_le_of_lt (g.lst_le' q) hq) (g.isR_lst q)]
  rfl
theorem Gm.repL_first (g : Gm) {q j : Nat} (hj : j < g.num q) : (g.repL g.s)[j]? ≠ some (g.lst q : Int) := by
  intro h
  unfold Gm.repL at h
  rw [List.getElem?_map] at h
  cases hr : (g.reps g.s)[j]? with
  | none => rw [hr] at h; cases h
  | some p =>
    rw [hr] at h
    have hp : p = g.lst q := by simp at h; omega
    have hm := List.mem_filter.1 (List.mem_of_getElem? hr)
    have hps : p < g.s := List.mem_range.1 hm.1
    have h2 := g.reps_get hps hm.2
    have hnd : (g.reps g.s).Nodup := (List.nodup_range).filter _
    have h3 := (List.getElem?_eq_some_iff.1 hr).1
    have h4 := (List.getElem?_eq_some_iff.1 h2).1
    have h5 : j = cnt g.isR p := by
      have hp' := List.pairwise_iff_getElem.1 hnd
      have e : (g.reps g.s)[j] = (g.reps g.s)[cnt g.isR p] := by rw [(List.getElem?_eq_some_iff.1 hr).2, (List.getElem?_eq_some_iff.1 h2).2]
      rcases Nat.lt_trichotomy j (cnt g.isR p) with h | h | h
      · exact absurd e (hp' _ _ h3 h4 h)
      · exact h
      · exact absurd e.symm (hp' _ _ h4 h3 h)
    unfold Gm.num at hj
    rw [← hp] at hj
    omega

end Go.Proofs.YtighjpnjbgjgaaaDoor

/- A region that draws its order: each operation is shown once, by facts that hold behind it whatever else has come up. -/
namespace Go.Proofs.YtighjpnjbgjgaaaDoor
open Go.RowKit

/-- A state with some temporaries written. -/
def putF (a : Act) (ds : List Nat) (u : Nat → Value) : Act := ds.foldl (fun a d => a.put (some d) (u d)) a
theorem putF_defers (ds : List Nat) (u : Nat → Value) : ∀ a : Act, (putF a ds u).defers = a.defers := by
  induction ds with
  | nil => intro a; rfl
  | cons d ds ih => intro a; exact ih _
theorem putF_size (ds : List Nat) (u : Nat → Value) : ∀ a : Act, (putF a ds u).tmps.size = a.tmps.size := by
  induction ds with
  | nil => intro a; rfl
  | cons d ds ih => intro a; exact (ih _).trans (by simp [Act.put])
theorem putF_get (ds : List Nat) (u : Nat → Value) : ∀ (a : Act) (j : Nat), (putF a ds u).tmps[j]? = if j ∈ ds ∧ j < a.tmps.size then some (u j) else a.tmps[j]? := by
  induction ds with
  | nil => intro a j; simp [putF]
  | cons d ds ih =>
    intro a j
    show (putF (a.put (some d) (u d)) ds u).tmps[j]? = _
    rw [ih]
    have hs : (a.put (some d) (u d)).tmps.size = a.tmps.size := by simp [Act.put]
    rw [hs]
    have hg : (a.put (some d) (u d)).tmps[j]? = if d = j then (if d < a.tmps.size then some (u d) else none) else a.tmps[j]? := by
      simp only [Act.put]
      exact Array.getElem?_setIfInBounds
    rw [hg]
    by_cases h1 : j < a.tmps.size
    · by_cases h2 : d = j
      · subst h2
        simp [h1]
      · by_cases h3 : j ∈ ds
        · simp [h1, h3]
        · have h4 : ¬ j = d := fun e => h2 e.symm
          simp [h1, h3, h2, h4]
    · have h5 : a.tmps[j]? = none := Array.getElem?_eq_none (by omega)
      by_cases h2 : d = j
      · subst h2; simp [h1]
      · simp [h1, h2]
theorem act_ext {a b : Act} (h1 : ∀ j : Nat, a.tmps[j]? = b.tmps[j]?) (h2 : a.defers = b.defers) : a = b := by
  cases a; cases b
  simp only at *
  subst h2
  congr 1
  exact Array.ext_getElem? h1
def updU (u : Nat → Value) : Option Nat → Value → (Nat → Value)
  | none, _ => u
  | some d, v => fun j => if j = d then v else u j
theorem putF_put (a : Act) (ds : List Nat) (u : Nat → Value) (dst : Option Nat) (v : Value) (hd : ∀ d, dst = some d → d ∈ ds) : (putF a ds u).put dst v = putF a ds (updU u dst v) := by
  cases dst with
  | none => rfl
  | some d =>
    have hm := hd d rfl
    refine act_ext (fun j => ?_) (by rw [putF_defers]; exact putF_defers ds u a)
    rw [putF_get]
    show ((putF a ds u).tmps.setIfInBounds d v)[j]? = _
    rw [Array.getElem?_setIfInBounds, putF_size, putF_get]
    by_cases h2 : d = j
    · subst h2
      by_cases h1 : d < a.tmps.size
      · simp [h1, hm, updU]
      · have h5 : a.tmps[d]? = none := Array.getElem?_eq_none (by omega)
        simp [h1]
    · have h4 : ¬ j = d := fun e => h2 e.symm
      simp [h2, updU, h4]
theorem putF_self (a : Act) (ds : List Nat) : putF a ds (fun d => a.tmps.getD d undef) = a := by
  refine act_ext (fun j => ?_) (putF_defers _ _ _)
  rw [putF_get]
  by_cases h : j ∈ ds ∧ j < a.tmps.size
  · rw [if_pos h]
    simp [h.2]
  · rw [if_neg h]

/-- How many have not come up. -/
def unl (l : Array Bool) : Nat := l.toList.countP (fun b => !b)
theorem cntL_set : ∀ (l : List Bool) (i : Nat), l[i]? = some false → (l.set i true).countP (fun b => !b) + 1 = l.countP (fun b => !b)
  | [], i, h => by simp at h
  | b :: l, 0, h => by
    simp at h
    subst h
    simp
  | b :: l, i + 1, h => by
    have := cntL_set l i (by simpa using h)
    simp only [List.set_cons_succ, List.countP_cons]
    omega
theorem getD_false {l : Array Bool} {i : Nat} (h : l.getD i true = false) : l[i]? = some false := by
  rw [Array.getD_eq_getD_getElem?] at h
  cases hh : l[i]? with
  | none => rw [hh] at h; cases h
  | some b => rw [hh] at h; rw [show b = false from h]
theorem unl_set {l : Array Bool} {i : Nat} (h : l.getD i true = false) : unl (l.setIfInBounds i true) + 1 = unl l := by
  unfold unl
  rw [Array.toList_setIfInBounds]
  exact cntL_set _ i (by rw [Array.getElem?_toList]; exact getD_false h)

section
variable {P : Program} {ops : Array Oper} {Q : Exit → Act → World → Prop} {md : Region.Mode}
/-- Each operation waits for earlier ones alone. -/
def inOrder (md : Region.Mode) (ops : Array Oper) : Bool := (List.range ops.size).all fun i => ((ops[i]?).map fun o => o.after.all fun e => !Region.binds md e || decide (e.on < i)).getD true
theorem all_come {l : Array Bool} (ho : inOrder md ops = true) (hr : Region.ready md ops l = []) : ∀ i, i < ops.size → l.getD i true = true := by
  intro i
  induction i using Nat.strongRecOn with
  | _ i ih =>
    intro hi
    cases h : l.getD i true with
    | true => rfl
    | false =>
      exfalso
      have hmem : i ∈ Region.ready md ops l := by
        refine mem_ready.2 ⟨h, ops[i], Array.getElem?_eq_getElem hi, fun e he hb => ?_⟩
        have h1 := List.all_eq_true.1 ho i (List.mem_range.2 hi)
        rw [Array.getElem?_eq_getElem hi] at h1
        simp only [Option.map_some, Option.getD_some, Array.all_eq_true_iff_forall_mem] at h1
        have h2 := h1 e he
        rw [hb] at h2
        simp at h2
        have h3 := ih e.on h2 (by omega)
        have hlt : i < l.size := (Array.getElem?_eq_some_iff.1 (getD_false h)).1
        have hlt2 : e.on < l.size := by omega
        rw [Array.getD_eq_getD_getElem?, Array.getElem?_eq_getElem hlt2] at h3 ⊢
        exact h3
      rw [hr] at hmem
      cases hmem

/-- The block that a value leads to. -/
def blkOf : Value → Option Nat
  | .pointer (some a) => some a.block
  | .slice (some a) _ _ => some a.block
  | _ => none
/-- What it leads to was laid between two worlds. -/
def Fresh (w w' : World) (v : Value) : Prop := ∀ k, blkOf v = some k → w.heap.size ≤ k ∧ k < w'.heap.size
/-- What is known of one operation once it has come up: of its value, and of the world from then on. -/
structure Ft where
  op : Nat
  dst : Nat
  fresh : Bool
  G : Value → World → Prop
  mono : ∀ v w w', Below w.heap.size w w' → G v w → G v w'
/-- The value alone is known. -/
def Ft.val (op dst : Nat) (x : Value) : Ft := ⟨op, dst, false, fun v _ => v = x, fun _ _ _ _ h => h⟩
/-- A block that was laid. -/
def Ft.blk (op dst : Nat) (B : Nat) (x : Obj) : Ft := ⟨op, dst, true, fun v w => ∃ g, v = .pointer (some ⟨g, 0, none⟩) ∧ B ≤ g ∧ w.heap[g]? = some x, fun _ _ _ hb ⟨g, h1, h2, h3⟩ => ⟨g, h1, h2, (hb.block g (Array.getElem?_eq_some_iff.1 h3).1).trans h3⟩⟩
def come (fs : List Ft) (l : Array Bool) : Array Bool := fs.foldl (fun l f => l.setIfInBounds f.op true) l
theorem come_size (fs : List Ft) : ∀ l : Array Bool, (come fs l).size = l.size := by
  induction fs with
  | nil => intro l; rfl
  | cons f fs ih => intro l; exact (ih _).trans (by simp)
theorem come_get (fs : List Ft) : ∀ (l : Array Bool) (j : Nat), (come fs l)[j]? = if (∃ f ∈ fs, f.op = j) ∧ j < l.size then some true else l[j]? := by
  induction fs with
  | nil => intro l j; simp [come]
  | cons f fs ih =>
    intro l j
    show (come fs (l.setIfInBounds f.op true))[j]? = _
    rw [ih, Array.getElem?_setIfInBounds, Array.size_setIfInBounds]
    by_cases h1 : j < l.size
    · by_cases h2 : f.op = j
      · subst h2; simp [h1]
      · by_cases h3 : ∃ f ∈ fs, f.op = j
        · simp [h1, h2, h3]
        · simp [h1, h2, h3]
    · by_cases h2 : f.op = j
      · subst h2; simp [h1]
      · simp [h1, h2]
theorem inj_of_nodup {α β : Type} (p : α → β) : ∀ (l : List α), (l.map p).Nodup → ∀ x ∈ l, ∀ y ∈ l, p x = p y → x = y
  | [], _, x, hx, _, _, _ => by cases hx
  | a :: l, h, x, hx, y, hy, e => by
    rw [List.map_cons, List.nodup_cons] at h
    rcases List.mem_cons.1 hx with e1 | h1
    · rcases List.mem_cons.1 hy with e2 | h2
      · rw [e1, e2]
      · exact absurd (List.mem_map.2 ⟨y, h2, by rw [← e, e1]⟩) h.1
    · rcases List.mem_cons.1 hy with e2 | h2
      · exact absurd (List.mem_map.2 ⟨x, h1, by rw [e, e2]⟩) h.1
      · exact inj_of_nodup p l h.2 x h1 y h2 e

section
variable {P : Program} {ops : Array Oper} {Q : Exit → Act → World → Prop} {md : Region.Mode}
theorem fs_at {fs : List Ft} {p q : Ft → Prop} (hf : ∀ g ∈ fs, p g → q g) (k : Nat) (f : Ft) (h : fs[k]? = some f) (hp : p f) : q f := hf f (List.mem_of_getElem? h) hp
theorem fs_all {fs : List Ft} {q : Ft → Prop} (hf : ∀ g ∈ fs, q g) (k : Nat) (f : Ft) (h : fs[k]? = some f) : q f := hf f (List.mem_of_getElem? h)
theorem fs_ne {fs : List Ft} {u : Nat → Value} (hf : ∀ f ∈ fs, ∀ g ∈ fs, f.fresh = true → g.fresh = true → f.op ≠ g.op → ∀ k, blkOf (u f.dst) = some k → blkOf (u g.dst) ≠ some k) (i j : Nat) (f g : Ft) (h : fs[i]? = some f) (h' : fs[j]? = some g) (hff : f.fresh = true) (hgf : g.fresh = true) (hne : f.op ≠ g.op) {a b : Nat} (ha : blkOf (u f.dst) = some a) (hb : blkOf (u g.dst) = some b) : a ≠ b := fun e => hf f (List.mem_of_getElem? h) g (List.mem_of_getElem? h') hff hgf hne a ha (by rw [hb, e])
/-- The state with what has come up. -/
def putT (a : Act) (fs : List Ft) (u : Nat → Value) : Act := putF a (fs.map (·.dst)) u
def waitsFor (md : Region.Mode) (o : Oper) (k : Nat) : Bool := o.after.any fun e => Region.binds md e && e.on == k
/-- One operation of the region is shown: what it waits for is known; behind it its own fact is. -/
def StepG (P : Program) (md : Region.Mode) (ops : Array Oper) (Q : Exit → Act → World → Prop) (S : World → Prop) (fs : List Ft) (a0 : Act) (w0 : World) (f : Ft) : Prop :=
  ∃ o, ops[f.op]? = some o ∧ o.dst = some f.dst ∧ ∀ (u : Nat → Value) (w : World), S w → Below w0.heap.size w0 w → (∀ g ∈ fs, waitsFor md o g.op = true → g.G (u g.dst) w) →
    ∀ K : Act → World → Prop, (∀ v w', Below w.heap.size w w' → f.G v w' → (f.fresh = true → Fresh w w' v) → K ((putT a0 fs u).put (some f.dst) v) w') →
      if Region.wanted o (yielded ops (putT a0 fs u).tmps) = true then Oper.wp P o (putT a0 fs u) w K Q else K ((putT a0 fs u).put o.dst undef) w
structure GrowI (fs : List Ft) (l0 l : Array Bool) (w0 w : World) (u : Nat → Value) : Prop where
  bel : Below w0.heap.size w0 w
  size : l.size = l0.size
  oth : ∀ j, (∀ f ∈ fs, f.op ≠ j) → l[j]? = l0[j]?
  facts : ∀ f ∈ fs, l.getD f.op false = true → f.G (u f.dst) w
  lt : ∀ f ∈ fs, l.getD f.op false = true → f.fresh = true → ∀ k, blkOf (u f.dst) = some k → k < w.heap.size
  ne : ∀ f ∈ fs, ∀ g ∈ fs, l.getD f.op false = true → l.getD g.op false = true → f.fresh = true → g.fresh = true → f.op ≠ g.op → ∀ k, blkOf (u f.dst) = some k → blkOf (u g.dst) ≠ some k
theorem getD_eq_of {l : Array Bool} {j : Nat} {d b : Bool} (h : l[j]? = some b) : l.getD j d = b := by rw [Array.getD_eq_getD_getElem?, h]; rfl
theorem getD_some {l : Array Bool} {j : Nat} (h : l.getD j false = true) : l[j]? = some true := by
  rw [Array.getD_eq_getD_getElem?] at h
  cases hh : l[j]? with
  | none => rw [hh] at h; cases h
  | some b => rw [hh] at h; rw [show b = true from h]

/-- The listing fits: a check that the kernel runs. -/
def growOk (md : Region.Mode) (ops : Array Oper) (os ds : List Nat) (n m : Nat) (l0 l1 : Array Bool) : Bool :=
  decide (os.foldl (fun l i => l.setIfInBounds i true) l0 = l1) && decide (unl l0 = n) && decide (unl l1 = m) && inOrder md ops && (os.all fun i => !(l0.getD i true)) && decide os.Nodup && decide ds.Nodup &&
  ((List.range ops.size).all fun j => l0.getD j true || os.contains j || os.all fun i => ((ops[j]?).map fun o => waitsFor md o i).getD true)
theorem come_eq (fs : List Ft) : ∀ l : Array Bool, come fs l = (fs.map (·.op)).foldl (fun l i => l.setIfInBounds i true) l := by
  induction fs with
  | nil => intro l; rfl
  | cons f fs ih => intro l; exact ih _
/-- Operations that make memory, or read what nobody writes, each shown once: whatever order they come up in. What else the region holds waits for all of them. -/
theorem wpAnyH_grow {S : World → Prop} (hS : ∀ w w', Below w.heap.size w w' → S w → S w') {n : Nat} (m : Nat) {l0 : Array Bool} (l1 : Array Bool) {a0 : Act} {w0 : World} (fs : List Ft)
    (os ds : List Nat) (hos : fs.map (·.op) = os) (hds : fs.map (·.dst) = ds) (hchk : growOk md ops os ds n m l0 l1 = true)
    (hs : ∀ f ∈ fs, StepG P md ops Q S fs a0 w0 f) (hS0 : S w0)
    (hend : ∀ u w, S w → Below w0.heap.size w0 w → (∀ f ∈ fs, f.G (u f.dst) w) → (∀ f ∈ fs, ∀ g ∈ fs, f.fresh = true → g.fresh = true → f.op ≠ g.op → ∀ k, blkOf (u f.dst) = some k → blkOf (u g.dst) ≠ some k) → wpAnyH P md ops Q S m l1 (putT a0 fs u) w) : wpAnyH P md ops Q S n l0 a0 w0 := by
  simp only [growOk, Bool.and_eq_true, decide_eq_true_eq] at hchk
  obtain ⟨⟨⟨⟨⟨⟨⟨hl1, hn⟩, hm⟩, ho⟩, hun⟩, hn1⟩, hn2⟩, hph⟩ := hchk
  subst hos
  subst hds
  rw [← come_eq] at hl1
  rw [List.all_map] at hun
  simp only [List.all_map, Function.comp_def] at hph
  have hun' : ∀ f ∈ fs, l0[f.op]? = some false := fun f hf => getD_false (by simpa using List.all_eq_true.1 hun f hf)
  have main : ∀ (n : Nat) (l : Array Bool) (u : Nat → Value) (w : World), unl l = n → S w → GrowI fs l0 l w0 w u → wpAnyH P md ops Q S n l (putT a0 fs u) w := by
    intro n
    induction n with
    | zero =>
      intro l u w hu hSw I
      have hall : ∀ f ∈ fs, l.getD f.op false = true := fun f hf => by
        have hlt : f.op < l.size := by rw [I.size]; exact (Array.getElem?_eq_some_iff.1 (hun' f hf)).1
        cases h : l[f.op]? with
        | none => rw [Array.getElem?_eq_none_iff] at h; omega
        | some b =>
          cases b with
          | true => exact getD_eq_of h
          | false =>
            have := unl_set (getD_eq_of (d := true) h)
            omega
      have e : l = l1 := by
        rw [← hl1]
        refine Array.ext_getElem? fun j => ?_
        rw [come_get]
        by_cases h : ∃ f ∈ fs, f.op = j
        · obtain ⟨f, hf, rfl⟩ := h
          rw [if_pos ⟨⟨f, hf, rfl⟩, (Array.getElem?_eq_some_iff.1 (hun' f hf)).1⟩]
          exact getD_some (hall f hf)
        · rw [if_neg (fun hh => h hh.1)]
          exact I.oth j fun f hf e => h ⟨f, hf, e⟩
      subst e
      rw [hu] at hm
      subst hm
      exact hend u w hSw I.bel (fun f hf => I.facts f hf (hall f hf)) (fun f hf g hg => I.ne f hf g hg (hall f hf) (hall g hg))
    | succ n ih =>
      intro l u w hu hSw I
      by_cases hall : ∀ f ∈ fs, l.getD f.op false = true
      · have e : l = l1 := by
          rw [← hl1]
          refine Array.ext_getElem? fun j => ?_
          rw [come_get]
          by_cases h : ∃ f ∈ fs, f.op = j
          · obtain ⟨f, hf, rfl⟩ := h
            rw [if_pos ⟨⟨f, hf, rfl⟩, (Array.getElem?_eq_some_iff.1 (hun' f hf)).1⟩]
            exact getD_some (hall f hf)
          · rw [if_neg (fun hh => h hh.1)]
            exact I.oth j fun f hf e => h ⟨f, hf, e⟩
        subst e
        rw [hu] at hm
        subst hm
        exact hend u w hSw I.bel (fun f hf => I.facts f hf (hall f hf)) (fun f hf g hg => I.ne f hf g hg (hall f hf) (hall g hg))
      · refine ⟨fun hr => absurd (fun f hf => ?_) hall, fun i hi => ?_⟩
        · obtain ⟨o, h1, _⟩ := hs f hf
          have := all_come ho hr f.op (Array.getElem?_eq_some_iff.1 h1).1
          have hlt : f.op < l.size := by rw [I.size]; exact (Array.getElem?_eq_some_iff.1 (hun' f hf)).1
          rw [Array.getD_eq_getD_getElem?, Array.getElem?_eq_getElem hlt] at this ⊢
          exact this
        · obtain ⟨h1, o, h2, h3⟩ := mem_ready.1 hi
          have him : ∃ f ∈ fs, f.op = i := by
            refine Decidable.byContradiction fun hc => hall fun f hf => ?_
            have hoth := I.oth i fun f hf e => hc ⟨f, hf, e⟩
            have h4 := List.all_eq_true.1 hph i (List.mem_range.2 (Array.getElem?_eq_some_iff.1 h2).1)
            have h5 : l0.getD i true = false := getD_eq_of (by rw [← hoth]; exact getD_false h1)
            have h6 : (fs.map (·.op)).contains i = false := by
              rw [Bool.eq_false_iff]
              intro h
              obtain ⟨f, hf, e⟩ := List.mem_map.1 (List.contains_iff_mem.1 h)
              exact hc ⟨f, hf, e⟩
            rw [h5, h6, Bool.false_or, Bool.false_or, h2] at h4
            have h7 := List.all_eq_true.1 h4 f hf
            simp only [Option.map_some, Option.getD_some, waitsFor] at h7
            obtain ⟨e, he, hb⟩ := Array.any_eq_true'.1 h7
            simp only [Bool.and_eq_true, beq_iff_eq] at hb
            have := h3 e he hb.1
            rwa [hb.2] at this
          obtain ⟨f, hf, rfl⟩ := him
          obtain ⟨o', ho', hd, hstep⟩ := hs f hf
          rw [h2] at ho'
          cases ho'
          refine wpOp_step h2 fun K hK => ?_
          refine hstep u w hSw I.bel (fun g hg hw => I.facts g hg ?_) K fun v w' hb hG hfr => hK _ _ ⟨hS _ _ hb hSw, ?_⟩
          · obtain ⟨e, he, hb⟩ := Array.any_eq_true'.1 hw
            simp only [Bool.and_eq_true, beq_iff_eq] at hb
            have := h3 e he hb.1
            rwa [hb.2] at this
          · rw [show (putT a0 fs u).put (some f.dst) v = putT a0 fs (updU u (some f.dst) v) from putF_put a0 _ u (some f.dst) v (fun d e => by cases e; exact List.mem_map.2 ⟨f, hf, rfl⟩)]
            have hus := unl_set h1
            have hold : ∀ g ∈ fs, g.op ≠ f.op → (l.setIfInBounds f.op true).getD g.op false = true → l.getD g.op false = true ∧ updU u (some f.dst) v g.dst = u g.dst := fun g hg e hgl => by
              have e3 : g.dst ≠ f.dst := fun h => e (by rw [inj_of_nodup (·.dst) fs hn2 g hg f hf h])
              refine ⟨?_, by simp [updU, e3]⟩
              rw [Array.getD_eq_getD_getElem?, Array.getElem?_setIfInBounds_ne (Ne.symm e)] at hgl
              rw [Array.getD_eq_getD_getElem?]
              exact hgl
            have hself : updU u (some f.dst) v f.dst = v := by simp [updU]
            refine ih _ _ _ (by omega) (hS _ _ hb hSw) ⟨I.bel.trans (hb.mono I.bel.size), by rw [Array.size_setIfInBounds]; exact I.size, fun j hj => ?_, fun g hg hgl => ?_, fun g hg hgl hgf k hk => ?_, fun g hg g' hg' hgl hgl' hgf hgf' hne k hk => ?_⟩
            · rw [Array.getElem?_setIfInBounds_ne (hj f hf)]
              exact I.oth j hj
            · by_cases e : g.op = f.op
              · have e2 := inj_of_nodup (·.op) fs hn1 g hg f hf e
                subst e2
                rw [hself]
                exact hG
              · obtain ⟨h5, h6⟩ := hold g hg e hgl
                rw [h6]
                exact g.mono _ _ _ hb (I.facts g hg h5)
            · by_cases e : g.op = f.op
              · have e2 := inj_of_nodup (·.op) fs hn1 g hg f hf e
                subst e2
                rw [hself] at hk
                exact (hfr hgf k hk).2
              · obtain ⟨h5, h6⟩ := hold g hg e hgl
                rw [h6] at hk
                exact Nat.lt_of_lt_of_le (I.lt g hg h5 hgf k hk) hb.size
            · by_cases e : g.op = f.op
              · have e2 := inj_of_nodup (·.op) fs hn1 g hg f hf e
                subst e2
                rw [hself] at hk
                obtain ⟨h5, h6⟩ := hold g' hg' (fun h => hne h.symm) hgl'
                rw [h6]
                intro h7
                have h8 := I.lt g' hg' h5 hgf' k h7
                have h9 := (hfr hgf k hk).1
                omega
              · obtain ⟨h5, h6⟩ := hold g hg e hgl
                rw [h6] at hk
                by_cases e' : g'.op = f.op
                · have e2 := inj_of_nodup (·.op) fs hn1 g' hg' f hf e'
                  subst e2
                  rw [hself]
                  intro h7
                  have h8 := I.lt g hg h5 hgf k hk
                  have h9 := (hfr hgf' k h7).1
                  omega
                · obtain ⟨h5', h6'⟩ := hold g' hg' e' hgl'
                  rw [h6']
                  exact I.ne g hg g' hg' h5 h5' hgf hgf' hne k hk
  have h := main n l0 (fun d => a0.tmps.getD d undef) w0 hn hS0 ⟨Below.refl _ _, rfl, fun _ _ => rfl, (fun f hf hl => by rw [getD_eq_of (hun' f hf)] at hl; cases hl), (fun f hf hl => by rw [getD_eq_of (hun' f hf)] at hl; cases hl), (fun f hf _ _ hl => by rw [getD_eq_of (hun' f hf)] at hl; cases hl)⟩
  have e : putT a0 fs (fun d => a0.tmps.getD d undef) = a0 := putF_self a0 _
  rw [e] at h
  exact h
end
end
end Go.Proofs.YtighjpnjbgjgaaaDoor

/- Walks: the minimal machine, of the reference. -/
namespace Go.Proofs.YtighjpnjbgjgaaaDoor
open Go.RowKit

/-- The numbers, as the array of the reference says. -/
def Gm.nmP (g : Gm) (q j : Nat) : Nat := if j < q then g.num j else 0
def Gm.nm16 (g : Gm) (j : Nat) : Nat := g.nmP g.s j
theorem Gm.nmP_step (g : Gm) (q : Nat) : updN (g.nmP q) q (g.num q) = g.nmP (q + 1) := by
  funext j
  unfold updN Gm.nmP
  by_cases e : j = q
  · subst e; simp
  · simp only [if_neg e]
    by_cases h : j < q
    · rw [if_pos h, if_pos (by omega)]
    · rw [if_neg h, if_neg (by omega)]
/-- What the rows of states below q, and the first letters of q, have put down. -/
def Gm.mnQ (g : Gm) (q x : Nat) : Mc := if g.isR q = true then g.mnP (cnt g.isR q) x else g.mnP (cnt g.isR q) 0
theorem Gm.mnQ_zero (g : Gm) : g.mnQ 0 0 = ⟨g.l, g.ns, fun _ _ => 0, fun _ _ => 0⟩ := by
  unfold Gm.mnQ
  rw [show cnt g.isR 0 = 0 from rfl, g.mnP_zero]
  split <;> rfl
theorem Gm.mnQ_step {g : Gm} (hok : g.Ok) {q x : Nat} (hq : q < g.s) (hx : x < g.l) : ((g.mnQ q x).setO (g.num q) x (g.ou q x)).setN (g.num q) x (g.num (g.nx q x)) = g.mnQ q (x + 1) := by
  rw [← Gm.mn_ou hok hq hx, ← Gm.mn_nx hok hq hx]
  unfold Gm.mnQ
  by_cases h : g.isR q = true
  · rw [if_pos h, if_pos h, g.num_rep h, g.mnP_setN]
  · rw [if_neg h, if_neg h]
    refine g.mnP_again ?_
    unfold Gm.num
    have h1 : g.lst q < q := by
      have := g.lst_le' q
      have h2 : ¬ g.lst q = q := fun e => h (decide_eq_true e)
      omega
    exact cnt_lt h1 (g.isR_lst q)
theorem Gm.mnQ_row (g : Gm) (q : Nat) : g.mnQ q g.l = g.mnQ (q + 1) 0 := by
  unfold Gm.mnQ
  by_cases h : g.isR q = true
  · rw [if_pos h, g.mnP_row, cnt_succ, if_pos h]
    split <;> rfl
  · rw [if_neg h, cnt_succ, if_neg h, Nat.add_zero]
    split <;> rfl
theorem Gm.mnQ_end (g : Gm) : g.mnQ g.s 0 = g.mn.mc := by
  rw [← g.mnP_end]
  unfold Gm.mnQ Gm.ns
  split <;> rfl
/-- Before the rows: how many states there are. -/
def Gm.mnS (g : Gm) (q : Nat) : Mc := ⟨g.l, (cnt g.isR q : Nat), fun _ _ => 0, fun _ _ => 0⟩
theorem zeros16 : (#[Value.int .i64 0, Value.int .i64 0, Value.int .i64 0, Value.int .i64 0, Value.int .i64 0, Value.int .i64 0, Value.int .i64 0, Value.int .i64 0, Value.int .i64 0, Value.int .i64 0, Value.int .i64 0, Value.int .i64 0, Value.int .i64 0, Value.int .i64 0, Value.int .i64 0, Value.int .i64 0] : Array Value) = iv (fun _ => 0) 16 := rfl

theorem splice_whole (old vs : Array Value) (h : old.size = vs.size) : splice old 0 vs = vs := by
  apply Array.ext_getElem?
  intro j
  rw [splice_get _ _ _ (by omega)]
  by_cases hj : j < vs.size
  · rw [if_pos (by omega), Nat.sub_zero]
  · rw [if_neg (by omega), Array.getElem?_eq_none (by omega), Array.getElem?_eq_none (by omega)]
def Mc.setS (m : Mc) (v : Int) : Mc := ⟨m.L, v, m.nx, m.ou⟩
theorem Mc.cells_setS (m : Mc) (v : Int) : m.cells.setIfInBounds 1 (.int .i64 v) = (m.setS v).cells := by
  apply Array.ext_getElem?
  intro i
  rw [Array.getElem?_setIfInBounds, m.cells_size, m.cells_get, Mc.cells_get]
  by_cases hi : 1 = i
  · subst hi
    rfl
  · rw [if_neg hi]
    by_cases h : i < 98
    · rw [if_pos h, if_pos h]
      unfold Mc.cellAt Mc.setS
      by_cases h0 : i = 0
      · simp only [if_pos h0]
      · simp only [if_neg h0, if_neg (fun e => hi (Eq.symm e) : ¬ i = 1)]
    · rw [if_neg h, if_neg h]
theorem bldL (L : Int) : Mc.zero.cells.setIfInBounds 0 (.int .i64 L) = (⟨L, 0, fun _ _ => 0, fun _ _ => 0⟩ : Mc).cells := by
  rw [← bld_cells, ← zeroM_cells]
  unfold bld
  apply Array.ext_getElem?
  intro j
  rw [Array.getElem?_setIfInBounds (i := 1)]
  by_cases h : 1 = j
  · subst h
    rw [if_pos rfl, Array.size_setIfInBounds, if_pos (by rw [zeroM_size]; omega), Array.getElem?_setIfInBounds_ne (by omega)]
    rfl
  · rw [if_neg h]
theorem results_cell_cell {P : Program} {fn : Func} {p q : Tmp} {ty ty' : TypeId} (h : fn.results = #[.cell p ty, .cell q ty']) (tmps : Array Value) (w : World) (g g' : Nat) (t t' : TypeId) (cs cs' : Array Value) (fr fr' : Nat × Nat) (d d' : TypeDesc)
    (hp : tmps.getD p undef = .pointer (some ⟨g, 0, none⟩)) (hq : tmps.getD q undef = .pointer (some ⟨g', 0, none⟩)) (hg : w.heap[g]? = some (.cells cs t fr)) (hg' : w.heap[g']? = some (.cells cs' t' fr'))
    (hu : P.underlying ty = some d) (hd : (match d with | .struct _ | .array _ _ => true | _ => false) = true) (hi : (P.info? ty).map (·.size) = some cs.size)
    (hu' : P.underlying ty' = some d') (hd' : (match d' with | .struct _ | .array _ _ => true | _ => false) = true) (hi' : (P.info? ty').map (·.size) = some cs'.size) :
    (results fn tmps).run P w = .ok (.tuple #[.agg cs, .agg cs']) w := by
  have hp' : tmps[p]?.getD undef = .pointer (some ⟨g, 0, none⟩) := by simpa using hp
  have hq' : tmps[q]?.getD undef = .pointer (some ⟨g', 0, none⟩) := by simpa using hq
  simp [results, h, hp', hq', asAddr, run_loadVar_row w g t ty cs fr d hg hu hd hi, run_loadVar_row w g' t' ty' cs' fr' d' hg' hu' hd' hi']
set_option linter.unusedSimpArgs false
end Go.Proofs.YtighjpnjbgjgaaaDoor

/- Walks: (*table).gathered: the machine of some states of a table. -/
namespace Go.Proofs.YtighjpnjbgjgaaaDoor
open Go.RowKit

/-- What has been gathered: the first i rows, and of row i the first x letters. -/
def gaP (g : Gm) (st : List Nat) (num : Nat → Nat) (i x : Nat) : Mc :=
  ⟨g.l, (st.length : Nat), fun j y => if (j < i ∨ (j = i ∧ y < x)) ∧ y < g.l then num (g.nx (st.getD j 0) y) else 0, fun j y => if (j < i ∨ (j = i ∧ y < x)) ∧ y < g.l then g.ou (st.getD j 0) y else 0⟩
def gaM (g : Gm) (st : List Nat) (num : Nat → Nat) : Mc := gaP g st num st.length 0
theorem gaP_zero (g : Gm) (st : List Nat) (num : Nat → Nat) : gaP g st num 0 0 = ⟨g.l, (st.length : Nat), fun _ _ => 0, fun _ _ => 0⟩ := by
  unfold gaP
  congr 1
  · funext j y; rw [if_neg (by omega)]
  · funext j y; rw [if_neg (by omega)]
theorem gaP_step (g : Gm) (st : List Nat) (num : Nat → Nat) {i x : Nat} (hx : x < g.l) : ((gaP g st num i x).setN i x (num (g.nx (st.getD i 0) x))).setO i x (g.ou (st.getD i 0) x) = gaP g st num i (x + 1) := by
  unfold gaP Mc.setN Mc.setO
  congr 1
  · funext j y
    by_cases e : j = i ∧ y = x
    · obtain ⟨rfl, rfl⟩ := e
      simp [hx]
    · simp only [if_neg e]
      by_cases h : (j < i ∨ (j = i ∧ y < x)) ∧ y < g.l
      · rw [if_pos h, if_pos (by omega)]
      · rw [if_neg h, if_neg (by omega)]
  · funext j y
    by_cases e : j = i ∧ y = x
    · obtain ⟨rfl, rfl⟩ := e
      simp [hx]
    · simp only [if_neg e]
      by_cases h : (j < i ∨ (j = i ∧ y < x)) ∧ y < g.l
      · rw [if_pos h, if_pos (by omega)]
      · rw [if_neg h, if_neg (by omega)]
theorem gaP_row (g : Gm) (st : List Nat) (num : Nat → Nat) (i : Nat) : gaP g st num i g.l = gaP g st num (i + 1) 0 := by
  unfold gaP
  congr 1
  · funext j y
    by_cases h : (j < i ∨ (j = i ∧ y < g.l)) ∧ y < g.l
    · rw [if_pos h, if_pos (by omega)]
    · rw [if_neg h, if_neg (by omega)]
  · funext j y
    by_cases h : (j < i ∨ (j = i ∧ y < g.l)) ∧ y < g.l
    · rw [if_pos h, if_pos (by omega)]
    · rw [if_neg h, if_neg (by omega)]
/-- A number in a list of states. -/
theorem ofNat_get (st : List Nat) {i : Nat} (h : i < st.length) : ((st.map fun (q : Nat) => (q : Int)))[i]'(by simpa using h) = (st.getD i 0 : Nat) := by
  simp [List.getD_eq_getElem?_getD, h]

structure GaI (w wr : World) (m : Mc) : Prop where
  bel : Below w.heap.size w wr
  hz : wr.heap[w.heap.size]? = some (.cells Mc.zero.cells 25 (0, 0))
  ho : wr.heap[w.heap.size + 1]? = some (.cells m.cells 25 (0, 0))
theorem GaI.drewN {w wr : World} {m : Mc} (h : GaI w wr m) (n : Nat) : GaI w (wr.drewN n) m := ⟨bel_drewN h.bel n, h.hz, h.ho⟩
theorem GaI.set {w wr : World} {m m' : Mc} (h : GaI w wr m) (i : Nat) (v : Value) (he : m.cells.setIfInBounds i v = m'.cells) : GaI w (wr.setCell ⟨w.heap.size + 1, i, none⟩ v) m' :=
  ⟨h.bel.setCell (by dsimp only; omega) _, hp_far h.hz (by dsimp only; omega) _, by rw [← he]; exact hp_set h.ho i _⟩

set_option linter.unusedSimpArgs false
end Go.Proofs.YtighjpnjbgjgaaaDoor
