/- strings.Cut and strings.Split, by the shelf's contracts. -/
import Derived.Test.YtighjpnjbgjgaaaDoorPms
import Derived.Shelf.Strings.Shaped
import Derived.Shelf.Strings.SplitShaped
namespace Go.Proofs
open Go.Shelf Go.RowKit
shelf_lay LaysM.n145 Nm 145 at Tryd as Tryd.laysCut
shelf_lay LaysM.n146 Nm 146 at Tryd as Tryd.laysSplit
end Go.Proofs
namespace Go.Proofs.YtighjpnjbgjgaaaDoor
open Go.RowKit

/-- Where the library's variable lies that the search reads. -/
def mlA : Addr := ⟨Tryd.laysCut_ren.g 1, 0, none⟩
theorem mlA_split : (⟨Tryd.laysSplit_ren.g 1, 0, none⟩ : Addr) = mlA := by kernel_rfl
theorem ml_at (w : World) (h : w.ShapedOpen Tryd.prog) : ∃ m, w.cell? mlA = some (.int .i64 m) := Tryd.laysCut.s1_3 w h
theorem cut_any (t : ByteArray) (ht : t.size ≤ 1048576) (m : Int) (w : World) (hm : w.cell? mlA = some (.int .i64 m)) :
    Calls Tryd.prog 8 #[.string t, .string ⟨#[58]⟩] w fun e w' => (∃ h r p, e = .returned (.tuple #[.string h, .string r, .bool p]) ∧ h.data.toList = (Lib.cut t.data.toList [58]).1 ∧ r.data.toList = (Lib.cut t.data.toList [58]).2.1 ∧ p = (Lib.cut t.data.toList [58]).2.2) ∧ Below w.heap.size w w' := by
  have h := Any.strings_Cut { Tryd.laysCut with } t ⟨#[58]⟩ m w (by omega) hm
  exact h.mono fun e w' ⟨he, n, hw⟩ => ⟨⟨_, _, _, he, rfl, rfl, rfl⟩, by rw [hw]; exact bel_drewN (Below.refl _ _) _⟩
theorem split_pieces (r : ByteArray) : (Lib.splitB ⟨#[44]⟩ 0 (Lib.countB r ⟨#[44]⟩) r).map (·.data.toList) = spl 44 r.data.toList := by
  rw [Lib.splitB_data]
  have e : Lib.countB r ⟨#[44]⟩ = r.data.toList.count 44 := Lib.count_one 44 _
  rw [e]
  exact splitK_spl 44 _
theorem split_any (r : ByteArray) (hr : r.size ≤ 1048576) (m : Int) (w : World) (hm : w.cell? mlA = some (.int .i64 m)) :
    Calls Tryd.prog 9 #[.string r, .string ⟨#[44]⟩] w fun e w' => ∃ bs : List ByteArray, e = .returned (.slice (some ⟨w.heap.size, 0, none⟩) bs.length bs.length) ∧ bs.map (·.data.toList) = spl 44 r.data.toList ∧ w' = w.alloc (.cells (bs.map Value.string).toArray 9) := by
  have h := Any.strings_Split { Tryd.laysSplit with } Tryd.laysSplit.i9 r ⟨#[44]⟩ m w (by omega) (by rw [mlA_split]; exact hm) (by decide)
  refine h.mono fun e w' ⟨he, hw⟩ => ⟨_, ?_, split_pieces r, hw⟩
  rw [he, Lib.splitB_all ⟨#[44]⟩ (by decide) 0 _ r rfl]
end Go.Proofs.YtighjpnjbgjgaaaDoor
