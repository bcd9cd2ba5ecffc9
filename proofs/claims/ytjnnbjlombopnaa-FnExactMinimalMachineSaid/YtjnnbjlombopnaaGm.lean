/- Words of the walks: a machine that is one, in natural numbers; how it lies in memory and in a value. -/
import Derived.Test.YtjnnbjlombopnaaIsM
namespace Go.Proofs.Ytjnnbjlombopnaa
open Go.RowKit

/-- A machine in natural numbers: letters, states, where it goes on and what it puts out. -/
structure Gm where
  l : Nat
  s : Nat
  nx : Nat → Nat → Nat
  ou : Nat → Nat → Nat
def Gm.mc (g : Gm) : Mc := ⟨g.l, g.s, g.nx, g.ou⟩
/-- It is a machine. -/
structure Gm.Ok (g : Gm) : Prop where
  l2 : 2 ≤ g.l
  l3 : g.l ≤ 3
  s1 : 1 ≤ g.s
  s16 : g.s ≤ 16
  nlt : ∀ q x, q < g.s → x < g.l → g.nx q x < g.s
  olt : ∀ q x, q < g.s → x < g.l → g.ou q x < g.l
  inj : ∀ q x y, q < g.s → x < g.l → y < g.l → g.ou q x = g.ou q y → x = y
  zn : ∀ q x, q < 16 → x < 3 → g.s ≤ q ∨ g.l ≤ x → g.nx q x = 0
  zo : ∀ q x, q < 16 → x < 3 → g.s ≤ q ∨ g.l ≤ x → g.ou q x = 0

theorem Mc.rowOk_iff (m : Mc) (q : Nat) : m.rowOk q = true ↔ ∀ x, x < 3 → m.entryOk q x = true := by
  unfold Mc.rowOk
  simp
theorem Mc.to_gm {m : Mc} (h : m.ok = true) : ∃ g : Gm, m = g.mc ∧ g.Ok := by
  obtain ⟨hL, hS, hr⟩ := m.ok_iff.1 h
  have he : ∀ q x, q < 16 → x < 3 → m.entryOk q x = true := fun q x hq hx => (m.rowOk_iff q).1 (hr q hq) x hx
  refine ⟨⟨m.L.toNat, m.S.toNat, m.nx, m.ou⟩, ?_, ?_⟩
  · cases m with
    | mk L S nx ou =>
      show Mc.mk L S nx ou = Mc.mk (L.toNat : Int) (S.toNat : Int) nx ou
      have h1 : (L.toNat : Int) = L := by have := hL.1; simp only at this; omega
      have h2 : (S.toNat : Int) = S := by have := hS.1; simp only at this; omega
      rw [h1, h2]
  · have key : ∀ q x, q < m.S.toNat → x < m.L.toNat → (m.nx q x : Int) < m.S ∧ (m.ou q x : Int) < m.L ∧ ∀ y, y < x → m.ou q y ≠ m.ou q x := by
      intro q x hq hx
      have := (m.entry_iff q x).1 (he q x (by omega) (by omega))
      rwa [if_neg (by omega)] at this
    have key0 : ∀ q x, q < 16 → x < 3 → m.S.toNat ≤ q ∨ m.L.toNat ≤ x → m.nx q x = 0 ∧ m.ou q x = 0 := by
      intro q x hq hx hh
      have := (m.entry_iff q x).1 (he q x hq hx)
      rwa [if_pos (by omega)] at this
    refine ⟨by show 2 ≤ m.L.toNat; omega, by show m.L.toNat ≤ 3; omega, by show 1 ≤ m.S.toNat; omega, by show m.S.toNat ≤ 16; omega, ?_, ?_, ?_, fun q x hq hx hh => (key0 q x hq hx hh).1, fun q x hq hx hh => (key0 q x hq hx hh).2⟩
    · intro q x hq hx
      have := (key q x hq hx).1
      show m.nx q x < m.S.toNat
      omega
    · intro q x hq hx
      have := (key q x hq hx).2.1
      show m.ou q x < m.L.toNat
      omega
    · intro q x y hq hx hy e
      by_cases h1 : x < y
      · exact absurd e ((key q y hq hy).2.2 x h1)
      · by_cases h2 : y < x
        · exact absurd e.symm ((key q x hq hx).2.2 y h2)
        · omega

theorem Gm.ok {g : Gm} (h : g.Ok) : g.mc.ok = true := by
  rw [Mc.ok_iff]
  have h2 := h.l2
  have h3 := h.l3
  have h4 := h.s1
  have h5 := h.s16
  refine ⟨⟨by show (2 : Int) ≤ (g.l : Int); omega, by show (g.l : Int) ≤ 3; omega⟩, ⟨by show (1 : Int) ≤ (g.s : Int); omega, by show (g.s : Int) ≤ 16; omega⟩, fun q hq => (g.mc.rowOk_iff q).2 fun x hx => (g.mc.entry_iff q x).2 ?_⟩
  by_cases hh : g.s ≤ q ∨ g.l ≤ x
  · rw [if_pos (by show (g.s : Int) ≤ q ∨ (g.l : Int) ≤ x; omega)]
    exact ⟨h.zn q x hq hx hh, h.zo q x hq hx hh⟩
  · rw [if_neg (by show ¬ ((g.s : Int) ≤ q ∨ (g.l : Int) ≤ x); omega)]
    refine ⟨?_, ?_, ?_⟩
    · have := h.nlt q x (by omega) (by omega); show (g.nx q x : Int) < (g.s : Int); omega
    · have := h.olt q x (by omega) (by omega); show (g.ou q x : Int) < (g.l : Int); omega
    · intro y hy e
      have := h.inj q y x (by omega) (by omega) (by omega) e
      omega

/-- A machine lies in memory from cell o of block b on. -/
structure Gm.At (g : Gm) (w : World) (b o : Nat) : Prop where
  l : w.cell? ⟨b, o, none⟩ = some (.int .i64 g.l)
  s : w.cell? ⟨b, o + 1, none⟩ = some (.int .i64 g.s)
  n : ∀ q x, q < 16 → x < 3 → w.cell? ⟨b, o + 2 + q * 3 + x, none⟩ = some (.int .u8 (g.nx q x))
  o : ∀ q x, q < 16 → x < 3 → w.cell? ⟨b, o + 50 + q * 3 + x, none⟩ = some (.int .u8 (g.ou q x))
  nb : ∀ q x, q < 16 → x < 3 → g.nx q x < 256
  ob : ∀ q x, q < 16 → x < 3 → g.ou q x < 256
/-- The cells of a machine as a value. -/
structure Gm.Is (g : Gm) (cs : Array Value) : Prop where
  is : g.mc.Is cs
theorem Gm.Is.l {g : Gm} {cs : Array Value} (h : g.Is cs) : cs[0]? = some (.int .i64 g.l) := h.is.l
theorem Gm.Is.s {g : Gm} {cs : Array Value} (h : g.Is cs) : cs[1]? = some (.int .i64 g.s) := h.is.s
theorem Gm.At.of {g : Gm} {w : World} {b o : Nat} (h : g.mc.At w b o) : g.At w b o := ⟨h.l, h.s, h.n, h.o, h.nb, h.ob⟩
theorem Gm.At.of_is {g : Gm} {cs : Array Value} (h : g.Is cs) {w : World} {b : Nat} {t : TypeId} {fr : Nat × Nat} (hb : w.heap[b]? = some (.cells cs t fr)) : g.At w b 0 := Gm.At.of (Mc.At.of_is h.is hb)
theorem Gm.At.lt {g : Gm} {w : World} {b o : Nat} (h : g.At w b o) : b < w.heap.size := World.block_lt_of_cell? w _ h.l
theorem Gm.At.same {g : Gm} {w w' : World} {b o : Nat} (h : g.At w b o) (k : ∀ i, w'.cell? ⟨b, i, none⟩ = w.cell? ⟨b, i, none⟩) : g.At w' b o :=
  ⟨by rw [k]; exact h.l, by rw [k]; exact h.s, fun q x hq hx => by rw [k]; exact h.n q x hq hx, fun q x hq hx => by rw [k]; exact h.o q x hq hx, h.nb, h.ob⟩
theorem Gm.At.below {g : Gm} {w w' : World} {b o B : Nat} (h : g.At w b o) (hb : Below B w w') (hlt : b < B) : g.At w' b o := h.same fun i => hb.cell (p := ⟨b, i, none⟩) hlt
theorem Gm.At.bel {g : Gm} {w w' : World} {b o : Nat} (h : g.At w b o) (hb : Below w.heap.size w w') : g.At w' b o := h.below hb h.lt
theorem Gm.At.alloc {g : Gm} {w : World} {b o : Nat} (h : g.At w b o) (x : Obj) : g.At (w.alloc x) b o := h.bel ((Below.refl _ _).alloc (Nat.le_refl _) _)
theorem Gm.At.drewN {g : Gm} {w : World} {b o : Nat} (h : g.At w b o) (n : Nat) : g.At (w.drewN n) b o := h.bel (bel_drewN (Below.refl _ _) _)
end Go.Proofs.Ytjnnbjlombopnaa
