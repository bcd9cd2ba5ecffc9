/- slices.Sort over whole numbers, by the shelf's contract. -/
import Derived.Test.YtecdjmfohcnadaaAp
import Derived.Shelf.SortG.Plain
import Derived.Shelf.SlGeneric
import Derived.Ground.SlgnProg
namespace Go.Proofs
open Go.Shelf
shelf_lay_g SlLaysN.n53 Slgn 53 at Try 90 as Try.laysSort
end Go.Proofs
namespace Go.Proofs.Ytecdjmfohcnadaa
open Go.RowKit Go.Sort

theorem below_sorted {B : Nat} (w : World) (n blk off : Nat) (d : Array Int) (os : Array Obj) (hB : B ≤ w.heap.size) (hb : B ≤ blk) : Below B w (grow (putRow (Value.int .i64) (Sort.ahead w n) blk off d) os) := by
  refine ⟨rfl, rfl, rfl, ?_, fun k hk => ?_⟩
  · simp [grow, putRow, mapBlock, Sort.ahead]
  · show (((Sort.ahead w n).heap.modify blk _) ++ os)[k]? = w.heap[k]?
    rw [Array.getElem?_append_left (by rw [Array.size_modify]; show k < w.heap.size; omega), Array.getElem?_modify, if_neg (by omega)]
    rfl
theorem sort_any (base : Nat) (v : Value) (zs : List Int) (w : World) (ho : Own w base 2 v (ints zs)) (hpos : 0 < zs.length) (hl : zs.length ≤ 1048576) (hB : base ≤ w.heap.size) :
    Calls Try.prog 90 #[v] w fun e w' => e = .returned (.tuple #[]) ∧ Below base w w' := by
  obtain ⟨g, c, rfl, hb, hlt⟩ := ho.form (by rw [ints_length]; exact hpos)
  rw [ints_length]
  have hH : Holds (Value.int .i64) w g 0 zs.toArray := fun j hj => by
    have hj' : j < zs.length := by simpa using hj
    have h1 := ho.cell (j := j) (v := .int .i64 zs[j]) (by rw [ints_get, List.getElem?_eq_getElem hj']; rfl)
    have h2 := ho.frozen j
    rw [Nat.zero_add]
    refine ⟨?_, h2⟩
    rw [h1, getElem!_pos _ j hj]
    rfl
  have := AnyG.slices_Sort_int Try.laysSort g 0 c zs w hH hlt (by omega)
  refine Calls.mono this ?_
  rintro e w' ⟨rfl, n, os, rfl⟩
  exact ⟨rfl, below_sorted w n g 0 _ os hB hb⟩
end Go.Proofs.Ytecdjmfohcnadaa
