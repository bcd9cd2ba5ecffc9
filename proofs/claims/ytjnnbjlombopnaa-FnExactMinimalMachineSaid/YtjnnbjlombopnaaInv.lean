/- Walks: the inverse machine, of the program and of the reference. -/
import Derived.Test.YtjnnbjlombopnaaAct
import Derived.Test.YtjnnbjlombopnaaToM
import Derived.BigRegion
namespace Go.Proofs.Ytjnnbjlombopnaa
open Go.RowKit

/-! ### The cells of a machine, written out -/
def Mc.cellAt (m : Mc) (i : Nat) : Value := if i = 0 then .int .i64 m.L else if i = 1 then .int .i64 m.S else if i < 50 then .int .u8 (m.nx ((i - 2) / 3) ((i - 2) % 3)) else .int .u8 (m.ou ((i - 50) / 3) ((i - 50) % 3))
def Mc.cells (m : Mc) : Array Value := ((List.range 98).map m.cellAt).toArray
theorem Mc.cells_size (m : Mc) : m.cells.size = 98 := by simp [Mc.cells]
theorem Mc.cells_get (m : Mc) (i : Nat) : m.cells[i]? = if i < 98 then some (m.cellAt i) else none := by
  unfold Mc.cells
  rw [List.getElem?_toArray, List.getElem?_map]
  by_cases h : i < 98
  · rw [List.getElem?_range h, if_pos h]; rfl
  · rw [List.getElem?_eq_none (by simp; omega), if_neg h]; rfl
theorem Mc.cellAt_n (m : Mc) (q x : Nat) (hq : q < 16) (hx : x < 3) : m.cellAt (2 + q * 3 + x) = .int .u8 (m.nx q x) := by
  unfold Mc.cellAt
  rw [if_neg (by omega), if_neg (by omega), if_pos (by omega), show (2 + q * 3 + x - 2) / 3 = q by omega, show (2 + q * 3 + x - 2) % 3 = x by omega]
theorem Mc.cellAt_o (m : Mc) (q x : Nat) (_ : q < 16) (hx : x < 3) : m.cellAt (50 + q * 3 + x) = .int .u8 (m.ou q x) := by
  unfold Mc.cellAt
  rw [if_neg (by omega), if_neg (by omega), if_neg (by omega), show (50 + q * 3 + x - 50) / 3 = q by omega, show (50 + q * 3 + x - 50) % 3 = x by omega]
theorem Mc.Is.of_cells (m : Mc) (nb : ∀ q x, q < 16 → x < 3 → m.nx q x < 256) (ob : ∀ q x, q < 16 → x < 3 → m.ou q x < 256) (lw : (Lit.int .i64 m.L).wf = true) (sw : (Lit.int .i64 m.S).wf = true) : m.Is m.cells where
  size := m.cells_size
  l := by rw [m.cells_get, if_pos (by omega)]; rfl
  s := by rw [m.cells_get, if_pos (by omega)]; rfl
  n q x hq hx := by rw [m.cells_get, if_pos (by omega), m.cellAt_n q x hq hx]
  o q x hq hx := by rw [m.cells_get, if_pos (by omega), m.cellAt_o q x hq hx]
  nb := nb
  ob := ob
  lw := lw
  sw := sw
theorem Mc.Is.eq_cells {m : Mc} {cs : Array Value} (h : m.Is cs) : cs = m.cells := by
  apply Array.ext_getElem?
  intro i
  rw [m.cells_get]
  by_cases hi : i < 98
  · rw [if_pos hi]
    unfold Mc.cellAt
    by_cases h0 : i = 0
    · rw [if_pos h0, h0]; exact h.l
    by_cases h1 : i = 1
    · rw [if_neg h0, if_pos h1, h1]; exact h.s
    by_cases h2 : i < 50
    · rw [if_neg h0, if_neg h1, if_pos h2, ← h.n ((i - 2) / 3) ((i - 2) % 3) (by omega) (by omega)]; congr 1; omega
    · rw [if_neg h0, if_neg h1, if_neg h2, ← h.o ((i - 50) / 3) ((i - 50) % 3) (by omega) (by omega)]; congr 1; omega
  · rw [if_neg hi, Array.getElem?_eq_none (by have := h.size; omega)]
theorem Mc.cells_all (m : Mc) : m.cells.all (·.oneCell') = true := by
  rw [Array.all_eq_true]
  intro i hi
  rw [m.cells_size] at hi
  have := m.cells_get i
  rw [if_pos hi, Array.getElem?_eq_getElem (by rw [m.cells_size]; exact hi)] at this
  rw [Option.some.inj this]
  unfold Mc.cellAt
  split
  · rfl
  · split
    · rfl
    · split <;> rfl
def Mc.setO (m : Mc) (q y v : Nat) : Mc := ⟨m.L, m.S, m.nx, fun a b => if a = q ∧ b = y then v else m.ou a b⟩
def Mc.setN (m : Mc) (q y v : Nat) : Mc := ⟨m.L, m.S, fun a b => if a = q ∧ b = y then v else m.nx a b, m.ou⟩
theorem Mc.cells_setO (m : Mc) (q y v : Nat) (hq : q < 16) (hy : y < 3) : m.cells.setIfInBounds (50 + q * 3 + y) (.int .u8 v) = (m.setO q y v).cells := by
  apply Array.ext_getElem?
  intro i
  rw [Array.getElem?_setIfInBounds, m.cells_size, m.cells_get, Mc.cells_get]
  by_cases hi : 50 + q * 3 + y = i
  · subst hi
    rw [if_pos rfl, if_pos (by omega), if_pos (by omega), Mc.cellAt_o _ q y hq hy]
    simp [Mc.setO]
  · rw [if_neg hi]
    by_cases h : i < 98
    · rw [if_pos h, if_pos h]
      unfold Mc.cellAt Mc.setO
      by_cases h0 : i = 0
      · simp only [if_pos h0]
      by_cases h1 : i = 1
      · simp only [if_neg h0, if_pos h1]
      by_cases h2 : i < 50
      · simp only [if_neg h0, if_neg h1, if_pos h2]
      · simp only [if_neg h0, if_neg h1, if_neg h2]
        rw [if_neg (by omega)]
    · rw [if_neg h, if_neg h]
theorem Mc.cells_setN (m : Mc) (q y v : Nat) (hq : q < 16) (hy : y < 3) : m.cells.setIfInBounds (2 + q * 3 + y) (.int .u8 v) = (m.setN q y v).cells := by
  apply Array.ext_getElem?
  intro i
  rw [Array.getElem?_setIfInBounds, m.cells_size, m.cells_get, Mc.cells_get]
  by_cases hi : 2 + q * 3 + y = i
  · subst hi
    rw [if_pos rfl, if_pos (by omega), if_pos (by omega), Mc.cellAt_n _ q y hq hy]
    simp [Mc.setN]
  · rw [if_neg hi]
    by_cases h : i < 98
    · rw [if_pos h, if_pos h]
      unfold Mc.cellAt Mc.setN
      by_cases h0 : i = 0
      · simp only [if_pos h0]
      by_cases h1 : i = 1
      · simp only [if_neg h0, if_pos h1]
      by_cases h2 : i < 50
      · simp only [if_neg h0, if_neg h1, if_pos h2]
        rw [if_neg (by omega)]
      · simp only [if_neg h0, if_neg h1, if_neg h2]
    · rw [if_neg h, if_neg h]

/-! ### A machine that is made of letters and states alone -/
def Mc.zero : Mc := ⟨0, 0, fun _ _ => 0, fun _ _ => 0⟩
theorem zeroM_cells : zeroM = Mc.zero.cells := by
  apply Array.ext_getElem?
  intro i
  rw [Mc.cells_get]
  by_cases h : i < 98
  · rw [if_pos h]
    unfold zeroM Mc.cellAt Mc.zero
    by_cases h0 : i = 0
    · subst h0; rfl
    by_cases h1 : i = 1
    · subst h1; rfl
    rw [if_neg h0, if_neg h1, Array.getElem?_append_right (by simp; omega), Array.getElem?_replicate, if_pos (by simp; omega)]
    split <;> rfl
  · rw [if_neg h, Array.getElem?_eq_none (by rw [zeroM_size]; omega)]
def bld (L S : Int) : Array Value := (zeroM.setIfInBounds 0 (.int .i64 L)).setIfInBounds 1 (.int .i64 S)
theorem bld_size (L S : Int) : (bld L S).size = 98 := by simp [bld, zeroM_size]
theorem bld_cells (L S : Int) : bld L S = (⟨L, S, fun _ _ => 0, fun _ _ => 0⟩ : Mc).cells := by
  apply Array.ext_getElem?
  intro i
  unfold bld
  rw [Array.getElem?_setIfInBounds, Array.getElem?_setIfInBounds, zeroM_cells, Mc.cells_get, Mc.cells_get]
  simp only [Array.size_setIfInBounds, Mc.cells_size]
  by_cases h1 : 1 = i
  · subst h1; rfl
  by_cases h0 : 0 = i
  · subst h0; rfl
  rw [if_neg h1, if_neg h0]
  by_cases h : i < 98
  · rw [if_pos h, if_pos h]
    unfold Mc.cellAt Mc.zero
    have n0 : ¬ i = 0 := fun e => h0 e.symm
    have n1 : ¬ i = 1 := fun e => h1 e.symm
    simp only [if_neg n0, if_neg n1]
  · rw [if_neg h, if_neg h]
theorem all_mem {vs : Array Value} (h : vs.all (·.oneCell') = true) : ∀ v ∈ vs.toList, v.oneCell' = true := by
  rw [Array.all_eq_true] at h
  intro v hv
  obtain ⟨i, hi, rfl⟩ := List.getElem_of_mem hv
  exact h i (by simpa using hi)
theorem setRow_alloc (w : World) (n : Nat) (hn : n = w.heap.size) (zs vs : Array Value) (t : TypeId) : (w.alloc (.cells zs t)).setRow n vs = w.alloc (.cells vs t) := by
  subst hn
  have h : (w.heap.push (.cells zs t)).modify w.heap.size (fun o => match o with | .cells _ e fr => .cells vs e fr | o => o) = w.heap.push (.cells vs t) := by
    apply Array.ext
    · simp
    · intro i h1 h2
      simp only [Array.getElem_modify, Array.getElem_push]
      by_cases h : w.heap.size = i
      · subst h; simp
      · have hi : i < w.heap.size := by simp at h1; omega
        simp [h, hi]
  unfold World.setRow
  have h2 : (w.alloc (.cells zs t)).heap = w.heap.push (.cells zs t) := rfl
  rw [h2]
  exact congrArg (fun hh => ({ heap := hh, tape := w.tape, drawn := w.drawn, os := w.os, output := w.output } : World)) h
theorem bld_list (L S : Int) : ((zeroM.toList.set 0 (.int .i64 L)).set 1 (.int .i64 S)) = (bld L S).toList := by simp [bld]
theorem st_new (w : World) (n : Nat) (hn : n = w.heap.size) (L S : Int) :
    (storeCells ⟨n, 0, none⟩ ((zeroM.toList.set 0 (.int .i64 L)).set 1 (.int .i64 S))).run Try.prog (w.alloc (.cells zeroM 27)) = .ok () (w.alloc (.cells (bld L S) 27)) := by
  rw [bld_list]
  have := run_storeCells_at (P := Try.prog) n 0 27 (bld L S).toList 0 zeroM (w.alloc (.cells zeroM 27)) (hp_new hn) (by rw [zeroM_size]; simp [bld_size]) (all_mem (by rw [bld_cells]; exact Mc.cells_all _))
  have e : (List.take (0 + 0) zeroM.toList ++ (bld L S).toList ++ List.drop (0 + 0 + (bld L S).toList.length) zeroM.toList).toArray = bld L S := by
    have : (bld L S).toList.length = 98 := by simp [bld_size]
    rw [this, List.drop_eq_nil_of_le (by simp [zeroM_size])]
    simp
  rw [e, setRow_alloc _ _ hn] at this
  exact this
theorem st_new_d (w : World) (n : Nat) (hn : n = w.heap.size) (L S : Int) :
    (storeCells ⟨n, 0, none⟩ ((zeroM.toList.set 0 (.int .i64 L)).set 1 (.int .i64 S))).run Try.prog (w.alloc (.cells zeroM 27)).drew = .ok () (w.alloc (.cells (bld L S) 27)).drew :=
  st_new w.drew n hn L S
theorem zeroM_ne : zeroM ≠ #[] := fun h => by
  have := congrArg Array.size h
  rw [zeroM_size] at this
  simp at this

/-! ### The inverse -/
def Gm.pre (g : Gm) (q y : Nat) : Nat := first (fun x => decide (g.ou q x = y)) g.l
theorem Gm.pre_spec {g : Gm} (h : g.Ok) {q y : Nat} (hq : q < g.s) (hy : y < g.l) : g.pre q y < g.l ∧ g.ou q (g.pre q y) = y := by
  obtain ⟨a, b, c⟩ := first_spec (fun x => decide (g.ou q x = y)) g.l
  have key : first (fun x => decide (g.ou q x = y)) g.l < g.l := by
    apply Decidable.byContradiction
    intro hc
    have hno : ∀ x, x < g.l → g.ou q x ≠ y := fun x hx => by
      have := c x (by omega)
      simpa using this
    have l2 := h.l2
    have l3 := h.l3
    have o0 := h.olt q 0 hq (by omega)
    have o1 := h.olt q 1 hq (by omega)
    have n0 := hno 0 (by omega)
    have n1 := hno 1 (by omega)
    have i01 : g.ou q 0 ≠ g.ou q 1 := fun e => by have := h.inj q 0 1 hq (by omega) (by omega) e; omega
    by_cases e3 : g.l = 3
    · have o2 := h.olt q 2 hq (by omega)
      have n2 := hno 2 (by omega)
      have i02 : g.ou q 0 ≠ g.ou q 2 := fun e => by have := h.inj q 0 2 hq (by omega) (by omega) e; omega
      have i12 : g.ou q 1 ≠ g.ou q 2 := fun e => by have := h.inj q 1 2 hq (by omega) (by omega) e; omega
      omega
    · omega
  exact ⟨key, of_decide_eq_true (b key)⟩
theorem Gm.pre_ou {g : Gm} (h : g.Ok) {q k : Nat} (hq : q < g.s) (hk : k < g.l) : g.pre q (g.ou q k) = k := by
  obtain ⟨a, b⟩ := g.pre_spec h hq (h.olt q k hq hk)
  exact h.inj q _ k hq a hk b
/-- What has been filled when rows below q and the letters below k of row q are done. -/
def Gm.invP (g : Gm) (q k : Nat) : Mc :=
  ⟨g.l, g.s, fun r y => if r < g.s ∧ y < g.l ∧ (r < q ∨ (r = q ∧ g.pre r y < k)) then g.nx r (g.pre r y) else 0, fun r y => if r < g.s ∧ y < g.l ∧ (r < q ∨ (r = q ∧ g.pre r y < k)) then g.pre r y else 0⟩
def Gm.inv (g : Gm) : Gm := ⟨g.l, g.s, fun r y => if r < g.s ∧ y < g.l then g.nx r (g.pre r y) else 0, fun r y => if r < g.s ∧ y < g.l then g.pre r y else 0⟩
theorem mc_ext {a b : Mc} (h1 : a.L = b.L) (h2 : a.S = b.S) (h3 : ∀ q x, a.nx q x = b.nx q x) (h4 : ∀ q x, a.ou q x = b.ou q x) : a = b := by
  cases a; cases b
  simp only at h1 h2 h3 h4
  subst h1 h2
  congr
  · funext q x; exact h3 q x
  · funext q x; exact h4 q x
theorem Gm.invP_zero (g : Gm) : g.invP 0 0 = ⟨g.l, g.s, fun _ _ => 0, fun _ _ => 0⟩ :=
  mc_ext rfl rfl (fun q x => if_neg (by omega)) (fun q x => if_neg (by omega))
theorem Gm.invP_step {g : Gm} (h : g.Ok) (q k : Nat) (hq : q < g.s) (hk : k < g.l) : ((g.invP q k).setO q (g.ou q k) k).setN q (g.ou q k) (g.nx q k) = g.invP q (k + 1) := by
  have hp := g.pre_ou h hq hk
  have ho := h.olt q k hq hk
  have other : ∀ y, y < g.l → y ≠ g.ou q k → g.pre q y ≠ k := fun y hy hne e => hne (by have := (g.pre_spec h hq hy).2; rw [e] at this; exact this.symm)
  refine mc_ext rfl rfl (fun r y => ?_) (fun r y => ?_)
  · show (if r = q ∧ y = g.ou q k then g.nx q k else if r < g.s ∧ y < g.l ∧ (r < q ∨ (r = q ∧ g.pre r y < k)) then g.nx r (g.pre r y) else 0) = if r < g.s ∧ y < g.l ∧ (r < q ∨ (r = q ∧ g.pre r y < k + 1)) then g.nx r (g.pre r y) else 0
    by_cases e : r = q ∧ y = g.ou q k
    · obtain ⟨rfl, rfl⟩ := e
      rw [if_pos ⟨rfl, rfl⟩, if_pos ⟨hq, ho, .inr ⟨rfl, by omega⟩⟩, hp]
    · rw [if_neg e]
      by_cases e2 : r = q
      · subst e2
        by_cases hy : y < g.l
        · have := other y hy (fun e3 => e ⟨rfl, e3⟩)
          by_cases hlt : g.pre r y < k
          · rw [if_pos ⟨hq, hy, .inr ⟨rfl, hlt⟩⟩, if_pos ⟨hq, hy, .inr ⟨rfl, by omega⟩⟩]
          · rw [if_neg (by omega), if_neg (by omega)]
        · rw [if_neg (by omega), if_neg (by omega)]
      · by_cases hc : r < g.s ∧ y < g.l ∧ r < q
        · rw [if_pos ⟨hc.1, hc.2.1, .inl hc.2.2⟩, if_pos ⟨hc.1, hc.2.1, .inl hc.2.2⟩]
        · rw [if_neg (by omega), if_neg (by omega)]
  · show (if r = q ∧ y = g.ou q k then k else if r < g.s ∧ y < g.l ∧ (r < q ∨ (r = q ∧ g.pre r y < k)) then g.pre r y else 0) = if r < g.s ∧ y < g.l ∧ (r < q ∨ (r = q ∧ g.pre r y < k + 1)) then g.pre r y else 0
    by_cases e : r = q ∧ y = g.ou q k
    · obtain ⟨rfl, rfl⟩ := e
      rw [if_pos ⟨rfl, rfl⟩, if_pos ⟨hq, ho, .inr ⟨rfl, by omega⟩⟩, hp]
    · rw [if_neg e]
      by_cases e2 : r = q
      · subst e2
        by_cases hy : y < g.l
        · have := other y hy (fun e3 => e ⟨rfl, e3⟩)
          by_cases hlt : g.pre r y < k
          · rw [if_pos ⟨hq, hy, .inr ⟨rfl, hlt⟩⟩, if_pos ⟨hq, hy, .inr ⟨rfl, by omega⟩⟩]
          · rw [if_neg (by omega), if_neg (by omega)]
        · rw [if_neg (by omega), if_neg (by omega)]
      · by_cases hc : r < g.s ∧ y < g.l ∧ r < q
        · rw [if_pos ⟨hc.1, hc.2.1, .inl hc.2.2⟩, if_pos ⟨hc.1, hc.2.1, .inl hc.2.2⟩]
        · rw [if_neg (by omega), if_neg (by omega)]
theorem Gm.invP_row {g : Gm} (h : g.Ok) (q : Nat) (hq : q < g.s) : g.invP q g.l = g.invP (q + 1) 0 := by
  have hc : ∀ r y, (r < g.s ∧ y < g.l ∧ (r < q ∨ (r = q ∧ g.pre r y < g.l))) ↔ (r < g.s ∧ y < g.l ∧ (r < q + 1 ∨ (r = q + 1 ∧ g.pre r y < 0))) := by
    intro r y
    constructor
    · rintro ⟨a, b, c⟩; exact ⟨a, b, .inl (by omega)⟩
    · rintro ⟨a, b, c⟩
      refine ⟨a, b, ?_⟩
      by_cases e : r = q
      · subst e; exact .inr ⟨rfl, (g.pre_spec h hq b).1⟩
      · exact .inl (by omega)
  refine mc_ext rfl rfl (fun r y => ?_) (fun r y => ?_)
  · show (if _ then _ else _) = if _ then _ else _
    simp only [hc r y]
  · show (if _ then _ else _) = if _ then _ else _
    simp only [hc r y]
theorem Gm.invP_end (g : Gm) : g.invP g.s 0 = g.inv.mc := by
  have hc : ∀ r y, (r < g.s ∧ y < g.l ∧ (r < g.s ∨ (r = g.s ∧ g.pre r y < 0))) ↔ (r < g.s ∧ y < g.l) := by
    intro r y; omega
  refine mc_ext rfl rfl (fun r y => ?_) (fun r y => ?_)
  · show (if _ then _ else _) = if _ then _ else _
    simp only [hc r y]
  · show (if _ then _ else _) = if _ then _ else _
    simp only [hc r y]
theorem Gm.inv_ok {g : Gm} (h : g.Ok) : g.inv.Ok where
  l2 := h.l2
  l3 := h.l3
  s1 := h.s1
  s16 := h.s16
  nlt q x hq hx := by
    show (if _ then _ else _) < g.s
    rw [if_pos ⟨hq, hx⟩]
    exact h.nlt q _ hq (g.pre_spec h hq hx).1
  olt q x hq hx := by
    show (if _ then _ else _) < g.l
    rw [if_pos ⟨hq, hx⟩]
    exact (g.pre_spec h hq hx).1
  inj q x y hq hx hy e := by
    have e' : (if q < g.s ∧ x < g.l then g.pre q x else 0) = if q < g.s ∧ y < g.l then g.pre q y else 0 := e
    rw [if_pos ⟨hq, hx⟩, if_pos ⟨hq, hy⟩] at e'
    have a := (g.pre_spec h hq hx).2
    have b := (g.pre_spec h hq hy).2
    rw [e', b] at a
    exact a.symm
  zn q x _ _ hh := by
    have hh' : g.s ≤ q ∨ g.l ≤ x := hh
    exact if_neg (by omega)
  zo q x _ _ hh := by
    have hh' : g.s ≤ q ∨ g.l ≤ x := hh
    exact if_neg (by omega)
theorem Gm.n256 {g : Gm} (h : g.Ok) (q x : Nat) (hq : q < 16) (hx : x < 3) : g.nx q x < 256 := by
  by_cases hh : g.s ≤ q ∨ g.l ≤ x
  · rw [h.zn q x hq hx hh]; omega
  · have := h.nlt q x (by omega) (by omega)
    have := h.s16
    omega
theorem Gm.o256 {g : Gm} (h : g.Ok) (q x : Nat) (hq : q < 16) (hx : x < 3) : g.ou q x < 256 := by
  by_cases hh : g.s ≤ q ∨ g.l ≤ x
  · rw [h.zo q x hq hx hh]; omega
  · have := h.olt q x (by omega) (by omega)
    have := h.l3
    omega
theorem Gm.is_cells {g : Gm} (h : g.Ok) : g.Is g.mc.cells := ⟨Mc.Is.of_cells _ (g.n256 h) (g.o256 h) (WalkArith.wf_i64 (by show -9223372036854775808 ≤ (g.l : Int) ∧ (g.l : Int) ≤ 9223372036854775807; have := h.l3; omega)) (WalkArith.wf_i64 (by show -9223372036854775808 ≤ (g.s : Int) ∧ (g.s : Int) ≤ 9223372036854775807; have := h.s16; omega))⟩
theorem Gm.Is.eq {g : Gm} {cs : Array Value} (h : g.Is cs) : cs = g.mc.cells := h.is.eq_cells
/-- What a whole machine variable holds behind two stores. -/
theorem blk_two {w : World} {g : Nat} {t : TypeId} {cs : Array Value} (h : w.heap[g]? = some (.cells cs t (0, 0))) (i j : Nat) (u v : Value) : ((w.setCell ⟨g, i, none⟩ u).setCell ⟨g, j, none⟩ v).heap[g]? = some (.cells ((cs.setIfInBounds i u).setIfInBounds j v) t (0, 0)) := hp_set (hp_set h i u) j v
end Go.Proofs.Ytjnnbjlombopnaa
