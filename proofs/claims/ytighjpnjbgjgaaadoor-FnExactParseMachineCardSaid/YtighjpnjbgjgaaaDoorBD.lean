/- Small texts of the walks under one roof. -/
import Derived.Test.YtighjpnjbgjgaaaDoorBC
import Derived.BigQuiet
import Derived.Deep.RegionHeld3
/- Plain laws: how numbers of group words act on letters; the normal word. -/
namespace Go.Proofs.YtighjpnjbgjgaaaDoor
open Go.RowKit

/-- What a number makes of a letter, and the number that goes on. -/
def Gm.stp (g : Gm) (k : Int) (x : Nat) : Nat × Int :=
  if 0 < k then (g.ou (k - 1).toNat x, (g.nx (k - 1).toNat x : Int) + 1) else (g.inv.ou (-k - 1).toNat x, -(g.inv.nx (-k - 1).toNat x : Int) - 1)
/-- A number that stands for a state, or for the inverse of one. -/
def Gm.Num (g : Gm) (k : Int) : Prop := k ≠ 0 ∧ -(g.s : Int) ≤ k ∧ k ≤ g.s
def Gm.Nums (g : Gm) (W : List Int) : Prop := ∀ k ∈ W, g.Num k
theorem Gm.stp_ok {g : Gm} (hok : g.Ok) {k : Int} (hk : g.Num k) {x : Nat} (hx : x < g.l) : (g.stp k x).1 < g.l ∧ g.Num (g.stp k x).2 := by
  obtain ⟨h0, h1, h2⟩ := hk
  unfold Gm.stp
  by_cases h : 0 < k
  · rw [if_pos h]
    have a := hok.olt (k - 1).toNat x (by omega) hx
    have b := hok.nlt (k - 1).toNat x (by omega) hx
    refine ⟨a, ?_, ?_, ?_⟩ <;> simp only <;> omega
  · rw [if_neg h]
    have hi := Gm.inv_ok hok
    have a := hi.olt (-k - 1).toNat x (by show _ < g.s; omega) hx
    have b := hi.nlt (-k - 1).toNat x (by show _ < g.s; omega) hx
    have b' : g.inv.nx (-k - 1).toNat x < g.s := b
    refine ⟨a, ?_, ?_, ?_⟩ <;> simp only <;> omega
/-- The letter behind the first n numbers of a word. -/
def Gm.lx (g : Gm) (W : List Int) (x : Nat) : Nat → Nat
  | 0 => x
  | n + 1 => (g.stp (W.getD n 0) (Gm.lx g W x n)).1
/-- The section's first n numbers. -/
def Gm.lw (g : Gm) (W : List Int) (x n : Nat) : List Int := (List.range n).map fun k => (g.stp (W.getD k 0) (g.lx W x k)).2
/-- The image and the section at a letter. -/
def Gm.im (g : Gm) (W : List Int) (x : Nat) : Nat := g.lx W x W.length
def Gm.sc (g : Gm) (W : List Int) (x : Nat) : List Int := g.lw W x W.length
theorem Gm.lw_len (g : Gm) (W : List Int) (x n : Nat) : (g.lw W x n).length = n := by simp [Gm.lw]
theorem Gm.sc_len (g : Gm) (W : List Int) (x : Nat) : (g.sc W x).length = W.length := g.lw_len W x _
theorem Gm.lw_get (g : Gm) (W : List Int) (x : Nat) {n k : Nat} (h : k < n) : (g.lw W x n)[k]? = some (g.stp (W.getD k 0) (g.lx W x k)).2 := by simp [Gm.lw, h]
theorem Gm.lw_succ (g : Gm) (W : List Int) (x n : Nat) : g.lw W x (n + 1) = g.lw W x n ++ [(g.stp (W.getD n 0) (g.lx W x n)).2] := by simp [Gm.lw, List.range_succ]
theorem Gm.nums_getD {g : Gm} {W : List Int} (h : g.Nums W) {n : Nat} (hn : n < W.length) : g.Num (W.getD n 0) := by
  rw [List.getD_eq_getElem?_getD, List.getElem?_eq_getElem hn]
  exact h _ (List.getElem_mem hn)
theorem Gm.lx_lt {g : Gm} (hok : g.Ok) {W : List Int} (h : g.Nums W) {x : Nat} (hx : x < g.l) : ∀ n, n ≤ W.length → g.lx W x n < g.l
  | 0, _ => hx
  | n + 1, hn => (Gm.stp_ok hok (g.nums_getD h (by omega)) (Gm.lx_lt hok h hx n (by omega))).1
theorem Gm.im_lt {g : Gm} (hok : g.Ok) {W : List Int} (h : g.Nums W) {x : Nat} (hx : x < g.l) : g.im W x < g.l := Gm.lx_lt hok h hx _ (Nat.le_refl _)
theorem Gm.lw_nums {g : Gm} (hok : g.Ok) {W : List Int} (h : g.Nums W) {x : Nat} (hx : x < g.l) {n : Nat} (hn : n ≤ W.length) : g.Nums (g.lw W x n) := fun k hk => by
  unfold Gm.lw at hk
  obtain ⟨j, hj, rfl⟩ := List.mem_map.1 hk
  have hj := List.mem_range.1 hj
  exact (Gm.stp_ok hok (g.nums_getD h (by omega)) (Gm.lx_lt hok h hx j (by omega))).2
theorem Gm.sc_nums {g : Gm} (hok : g.Ok) {W : List Int} (h : g.Nums W) {x : Nat} (hx : x < g.l) : g.Nums (g.sc W x) := Gm.lw_nums hok h hx (Nat.le_refl _)

/-! ### The normal word -/
def Gm.nrN (g : Gm) (k : Int) : Int := if k < 0 then -((g.lst (k.natAbs - 1) : Int) + 1) else (g.lst (k.natAbs - 1) : Int) + 1
def Gm.nst (g : Gm) (L : List Int) (k : Int) : List Int :=
  if g.tr (k.natAbs - 1) = true then L else if L.getLast? = some (-g.nrN k) then L.dropLast else L ++ [g.nrN k]
def Gm.nrK (g : Gm) (W : List Int) (n : Nat) : List Int := (W.take n).foldl g.nst []
def Gm.nrm (g : Gm) (W : List Int) : List Int := W.foldl g.nst []
theorem Gm.nrK_zero (g : Gm) (W : List Int) : g.nrK W 0 = [] := rfl
theorem Gm.nrK_all (g : Gm) (W : List Int) : g.nrK W W.length = g.nrm W := by unfold Gm.nrK Gm.nrm; rw [List.take_length]
theorem Gm.nrK_succ (g : Gm) (W : List Int) {n : Nat} (h : n < W.length) : g.nrK W (n + 1) = g.nst (g.nrK W n) W[n] := by
  unfold Gm.nrK
  rw [List.take_succ_eq_append_getElem h, List.foldl_append]
  rfl
theorem Gm.nst_len (g : Gm) (L : List Int) (k : Int) : (g.nst L k).length ≤ L.length + 1 := by
  unfold Gm.nst
  split
  · omega
  · split
    · simp; omega
    · simp
theorem Gm.nrK_len (g : Gm) (W : List Int) : ∀ n, n ≤ W.length → (g.nrK W n).length ≤ n
  | 0, _ => by rw [g.nrK_zero]; exact Nat.le_refl _
  | n + 1, h => by
    rw [g.nrK_succ W (by omega)]
    have := g.nst_len (g.nrK W n) W[n]
    have := Gm.nrK_len g W n (by omega)
    omega
theorem Gm.nrm_len (g : Gm) (W : List Int) : (g.nrm W).length ≤ W.length := by
  rw [← g.nrK_all]; exact g.nrK_len W _ (Nat.le_refl _)
theorem Gm.nrN_num {g : Gm} {k : Int} (h : g.Num k) : g.Num (g.nrN k) := by
  obtain ⟨h0, h1, h2⟩ := h
  have := g.lst_le' (k.natAbs - 1)
  unfold Gm.nrN
  split
  · refine ⟨by omega, by omega, by omega⟩
  · refine ⟨by omega, by omega, by omega⟩
theorem Gm.nst_nums {g : Gm} {L : List Int} {k : Int} (h : g.Nums L) (hk : g.Num k) : g.Nums (g.nst L k) := by
  unfold Gm.nst
  split
  · exact h
  · split
    · exact fun x hx => h x (List.dropLast_subset L hx)
    · intro x hx
      rcases List.mem_append.1 hx with h1 | h1
      · exact h x h1
      · rw [List.mem_singleton.1 h1]; exact Gm.nrN_num hk
theorem Gm.nrK_nums {g : Gm} {W : List Int} (h : g.Nums W) : ∀ n, n ≤ W.length → g.Nums (g.nrK W n)
  | 0, _ => fun x hx => by rw [g.nrK_zero] at hx; cases hx
  | n + 1, hn => by
    rw [g.nrK_succ W (by omega)]
    exact Gm.nst_nums (Gm.nrK_nums h n (by omega)) (h _ (List.getElem_mem _))
theorem Gm.nrm_nums {g : Gm} {W : List Int} (h : g.Nums W) : g.Nums (g.nrm W) := by
  rw [← g.nrK_all]; exact Gm.nrK_nums h _ (Nat.le_refl _)
theorem Gm.Nums.of {g : Gm} {xs : List Int} (h : gwB g.s xs = true) : g.Nums xs := fun k hk => (gwB_mem h).2 k hk
theorem Gm.Nums.small {g : Gm} (hok : g.Ok) {xs : List Int} (h : g.Nums xs) : ∀ k ∈ xs, k ≠ 0 ∧ -16 ≤ k ∧ k ≤ 16 := fun k hk => by
  have := h k hk
  have h16 := hok.s16
  obtain ⟨a, b, c⟩ := this
  exact ⟨a, by omega, by omega⟩
end Go.Proofs.YtighjpnjbgjgaaaDoor

/- Walks: a group in memory; apply, at. -/
namespace Go.Proofs.YtighjpnjbgjgaaaDoor
open Go.RowKit

def bools (F : Nat → Bool) (n : Nat) : List Value := (List.range n).map fun j => .bool (F j)
theorem bools_len (F : Nat → Bool) (n : Nat) : (bools F n).length = n := by simp [bools]
theorem bools_get (F : Nat → Bool) {n j : Nat} (h : j < n) : (bools F n)[j]? = some (.bool (F j)) := by simp [bools, h]
/-- A slice that reads as these truths. -/
def RdB (w : World) (v : Value) (F : Nat → Bool) (n : Nat) : Prop := ∃ A c, v = .slice A n c ∧ Rd w A (bools F n)
theorem RdB.below {w w' : World} {v : Value} {F : Nat → Bool} {n : Nat} (h : RdB w v F n) (hb : Below w.heap.size w w') : RdB w' v F n := by
  obtain ⟨A, c, e, h⟩ := h
  exact ⟨A, c, e, h.below hb⟩
theorem RdB.get {w : World} {v : Value} {F : Nat → Bool} {n : Nat} (h : RdB w v F n) {j : Nat} (hj : j < n) : ∃ b o c, v = .slice (some ⟨b, o, none⟩) n c ∧ w.cell? ⟨b, o + j, none⟩ = some (.bool (F j)) := by
  obtain ⟨A, c, rfl, hr⟩ := h
  obtain ⟨b, o, rfl, hc⟩ := hr.at_ (bools_get F hj)
  exact ⟨b, o, c, rfl, hc⟩
/-- A group lies in a block: the machine, its inverse, the least equal states, the trivial ones. -/
structure GrpAt (w : World) (G : Nat) (g : Gm) (vo vt : Value) : Prop where
  m : g.At w G 0
  b : g.inv.At w G 98
  co : w.cell? ⟨G, 196, none⟩ = some vo
  ct : w.cell? ⟨G, 197, none⟩ = some vt
  ro : RdI w vo (ivL g.lst g.s)
  rt : RdB w vt g.tr g.s
theorem GrpAt.below {w w' : World} {G : Nat} {g : Gm} {vo vt : Value} (h : GrpAt w G g vo vt) (hb : Below w.heap.size w w') : GrpAt w' G g vo vt :=
  ⟨h.m.bel hb, h.b.bel hb, (hb.cell (p := ⟨G, 196, none⟩) h.m.lt).trans h.co, (hb.cell (p := ⟨G, 197, none⟩) h.m.lt).trans h.ct, h.ro.below hb, h.rt.below hb⟩
theorem GrpAt.lt {w : World} {G : Nat} {g : Gm} {vo vt : Value} (h : GrpAt w G g vo vt) : G < w.heap.size := h.m.lt

theorem part_next (l : List Value) (n k : Nat) (z v : Value) (hl : l.length = n) (hk : k < n) (hv : l[k]? = some v) : (part l n k z).set k v = part l n (k + 1) z := part_set l n k z v hl hk hv
end Go.Proofs.YtighjpnjbgjgaaaDoor

/- Walks: the normal word, of the program and of the reference. -/
namespace Go.Proofs.YtighjpnjbgjgaaaDoor
open Go.RowKit
theorem Own.cut {w : World} {base : Nat} {e : TypeId} {A : Option Addr} {n c : Nat} {vs : List Value} {u : Value} (h : Own w base e (.slice A (n + 1) c) (vs ++ [u])) (hn : vs.length = n) : Own w base e (.slice A n c) vs := by
  subst hn
  refine ⟨by simp, ?_⟩
  rcases h.2 with ⟨h1, _⟩ | ⟨g, cap, cur, h1, hb, hg, hc, hm, hsz, ht⟩
  · cases h1
  · simp only [Value.slice.injEq] at h1
    obtain ⟨rfl, h2, rfl⟩ := h1
    refine .inr ⟨g, c, cur, rfl, hb, hg, by omega, hm, hsz, ?_⟩
    have e1 : (cur.toList.take ((vs ++ [u]).length * 1)).take (vs.length * 1) = vs := by rw [ht]; simp
    rw [List.take_take] at e1
    rw [show min (vs.length * 1) ((vs ++ [u]).length * 1) = vs.length * 1 by simp] at e1
    exact e1

theorem Own.capLe {w : World} {base : Nat} {e : TypeId} {A : Option Addr} {n c : Nat} {vs : List Value} (h : Own w base e (.slice A n c) vs) : n ≤ c := by
  have hn := h.rd.1
  rcases h.2 with ⟨h1, _⟩ | ⟨g, cap, cur, h1, hb, hg, hc, _⟩
  · cases h1; exact Nat.le_refl _
  · cases h1; exact hc
/-- What becomes of the normal word at a number. -/
theorem Gm.nst_tr (g : Gm) (L : List Int) {k : Int} {q : Nat} (h : k.natAbs = q + 1) (ht : g.tr q = true) : g.nst L k = L := by
  unfold Gm.nst
  rw [show k.natAbs - 1 = q by omega, if_pos ht]
theorem Gm.nst_cut (g : Gm) {L : List Int} {k n y : Int} {q : Nat} (h : k.natAbs = q + 1) (ht : g.tr q = false) (hn : g.nrN k = n) (hy : y = -n) : g.nst (L ++ [y]) k = L := by
  subst hy
  unfold Gm.nst
  rw [show k.natAbs - 1 = q by omega, if_neg (by rw [ht]; exact Bool.false_ne_true), hn, if_pos (by simp)]
  simp
theorem Gm.nst_nil (g : Gm) {k n : Int} {q : Nat} (h : k.natAbs = q + 1) (ht : g.tr q = false) (hn : g.nrN k = n) : g.nst [] k = [n] := by
  unfold Gm.nst
  rw [show k.natAbs - 1 = q by omega, if_neg (by rw [ht]; exact Bool.false_ne_true), hn, if_neg (by simp)]
  rfl
theorem Gm.nst_app (g : Gm) {L : List Int} {k n y : Int} {q : Nat} (h : k.natAbs = q + 1) (ht : g.tr q = false) (hn : g.nrN k = n) (hy : y ≠ -n) : g.nst (L ++ [y]) k = L ++ [y] ++ [n] := by
  unfold Gm.nst
  rw [show k.natAbs - 1 = q by omega, if_neg (by rw [ht]; exact Bool.false_ne_true), hn, if_neg (by simp [hy])]
theorem Gm.nrN_pos (g : Gm) (q : Nat) : g.nrN ((q : Int) + 1) = (g.lst q : Int) + 1 := by
  unfold Gm.nrN
  rw [if_neg (by omega), show ((q : Int) + 1).natAbs - 1 = q by omega]
theorem Gm.nrN_neg (g : Gm) (q : Nat) : g.nrN (-((q : Int) + 1)) = -((g.lst q : Int) + 1) := by
  unfold Gm.nrN
  rw [if_pos (by omega), show (-((q : Int) + 1)).natAbs - 1 = q by omega]
theorem list_snoc {α : Type} (L : List α) : L = [] ∨ ∃ L' y, L = L' ++ [y] := by
  rcases List.eq_nil_or_concat L with h | ⟨L', y, h⟩
  · exact .inl h
  · exact .inr ⟨L', y, by rw [h, List.concat_eq_append]⟩

end Go.Proofs.YtighjpnjbgjgaaaDoor

/- Walks: the normal word of the reference. -/
namespace Go.Proofs.YtighjpnjbgjgaaaDoor
open Go.RowKit
end Go.Proofs.YtighjpnjbgjgaaaDoor

/- Walks: newGroup. -/
namespace Go.Proofs.YtighjpnjbgjgaaaDoor
open Go.RowKit

theorem foldl_put (vs : List Value) : ∀ (o k : Nat) (cs : Array Value), o + k + vs.length ≤ cs.size → ∀ j : Nat, ((vs.zipIdx k).foldl (fun (cs : Array Value) (x : Value × Nat) => cs.setIfInBounds (o + x.2) x.1) cs)[j]? = if o + k ≤ j ∧ j < o + k + vs.length then vs[j - (o + k)]? else cs[j]? := by
  induction vs with
  | nil => intro o k cs h j; rw [if_neg (by simp only [List.length_nil]; omega)]; rfl
  | cons v vs ih =>
    intro o k cs h j
    simp only [List.length_cons] at h
    rw [List.zipIdx_cons, List.foldl_cons, ih o (k + 1) _ (by rw [Array.size_setIfInBounds]; omega)]
    simp only [List.length_cons]
    rw [Array.getElem?_setIfInBounds]
    by_cases h1 : j = o + k
    · subst h1
      rw [if_neg (by omega), if_pos rfl, if_pos (by omega), if_pos (by omega), Nat.sub_self]
      rfl
    · by_cases h2 : o + (k + 1) ≤ j ∧ j < o + (k + 1) + vs.length
      · rw [if_pos h2, if_pos (by omega), show j - (o + k) = (j - (o + (k + 1))) + 1 by omega]
        rfl
      · rw [if_neg h2, if_neg (by omega), if_neg (by omega)]
theorem foldl_splice (o : Nat) (cs vs : Array Value) (h : o + vs.size ≤ cs.size) : vs.zipIdx.foldl (fun (cs : Array Value) (x : Value × Nat) => cs.setIfInBounds (o + x.2) x.1) cs = splice cs o vs := by
  apply Array.ext_getElem?
  intro j
  rw [splice_get _ _ _ h, ← Array.foldl_toList, Array.toList_zipIdx, foldl_put vs.toList o 0 cs (by simpa using h) j]
  simp
theorem fill_one (place : Nat → Option (Nat × Nat)) (cells : Array Value) (i o n : Nat) (v : Value) (rest : List (Nat × Value)) (hp : place i = some (o, n)) (hn : v.cells.size = n) (ho : o + n ≤ cells.size) :
    Instr.fill place cells ((i, v) :: rest) = Instr.fill place (splice cells o v.cells) rest := by
  have hc : (decide (v.cells.size ≠ n) || decide (o + v.cells.size > cells.size)) = false := by simp; omega
  rw [Instr.fill]
  simp only [hp]
  rw [if_neg (by rw [hc]; exact Bool.false_ne_true)]
  rw [← foldl_splice o cells v.cells (by omega)]
/-- The cells of a group. -/
def grpC (a b : Array Value) (u v : Value) : Array Value := a ++ b ++ #[u, v]
def grpZ : Array Value := zeroM ++ zeroM ++ #[.slice none 0 0, .slice none 0 0]
theorem Gm.At.of_cells {g : Gm} (hok : g.Ok) {w : World} {b o : Nat} (hc : ∀ i, i < 98 → w.cell? ⟨b, o + i, none⟩ = g.mc.cells[i]?) : g.At w b o := by
  have h := (g.is_cells hok).is
  refine ⟨(hc 0 (by omega)).trans h.l, (hc 1 (by omega)).trans h.s, fun q x hq hx => ?_, fun q x hq hx => ?_, h.nb, h.ob⟩
  · rw [show o + 2 + q * 3 + x = o + (2 + q * 3 + x) by omega]
    exact (hc _ (by omega)).trans (h.n q x hq hx)
  · rw [show o + 50 + q * 3 + x = o + (50 + q * 3 + x) by omega]
    exact (hc _ (by omega)).trans (h.o q x hq hx)
theorem grpC_get (a b : Array Value) (u v : Value) (ha : a.size = 98) (hb : b.size = 98) (j : Nat) : (grpC a b u v)[j]? = if j < 98 then a[j]? else if j < 196 then b[j - 98]? else #[u, v][j - 196]? := by
  unfold grpC
  rw [Array.getElem?_append, Array.getElem?_append, Array.size_append, ha, hb]
  by_cases h1 : j < 98
  · rw [if_pos (by omega), if_pos h1, if_pos h1]
  · by_cases h2 : j < 196
    · rw [if_pos (by omega), if_neg h1, if_neg h1, if_pos h2]
    · rw [if_neg (by omega), if_neg h1, if_neg h2]
theorem GrpAt.of {g : Gm} (hok : g.Ok) {w : World} {G : Nat} {vo vt : Value} {t : TypeId} (h : w.heap[G]? = some (.cells (grpC g.mc.cells g.inv.mc.cells vo vt) t (0, 0))) (ho : RdI w vo (ivL g.lst g.s)) (ht : RdB w vt g.tr g.s) : GrpAt w G g vo vt := by
  have k : ∀ i, w.cell? ⟨G, i, none⟩ = (grpC g.mc.cells g.inv.mc.cells vo vt)[i]? := fun i => blkc h i
  have kk := grpC_get g.mc.cells g.inv.mc.cells vo vt (Mc.cells_size _) (Mc.cells_size _)
  refine ⟨Gm.At.of_cells hok fun i hi => ?_, Gm.At.of_cells (Gm.inv_ok hok) fun i hi => ?_, ?_, ?_, ho, ht⟩
  · rw [k, kk, if_pos (by omega), Nat.zero_add]
  · rw [k, kk, if_neg (by omega), if_pos (by omega), show 98 + i - 98 = i by omega]
  · rw [k, kk]; rfl
  · rw [k, kk]; rfl
set_option linter.unusedSimpArgs false
end Go.Proofs.YtighjpnjbgjgaaaDoor
