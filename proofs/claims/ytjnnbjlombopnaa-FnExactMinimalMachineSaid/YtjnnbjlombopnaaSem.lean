/- Rules of the walk: a whole machine is read out of a variable and written into one in one step. -/
import Derived.Test.YtjnnbjlombopnaaInv
namespace Go.Proofs.Ytjnnbjlombopnaa
open Go.RowKit

/-- A whole machine out of a variable. -/
def loadM (a : Addr) : Sem Value := loadVar 27 a
theorem loadVar_M (a : Addr) : loadVar 27 a = loadM a := rfl
theorem run_loadM {W : World} {b : Nat} {m : Mc} {t : TypeId} {fr : Nat × Nat} (h : W.heap[b]? = some (.cells m.cells t fr)) : (loadM ⟨b, 0, none⟩).run Try.prog W = .ok (.agg m.cells) W := by
  have := run_loadVar_at (P := Try.prog) W b 0 98 t 27 m.cells fr _ h Try.underlying27 rfl (by kernel_rfl) (by rw [m.cells_size]; omega)
  have e : m.cells.extract 0 (0 + 98) = m.cells := by rw [← m.cells_size]; simp
  rw [e] at this
  exact this
/-- A whole machine into a variable. -/
def storeM (a : Addr) (v : Value) : Sem Unit := storeVar 27 a v
theorem storeVar_M (a : Addr) (v : Value) : storeVar 27 a v = storeM a v := rfl
theorem run_storeM {W : World} {b : Nat} {m m' : Mc} {t : TypeId} (h : W.heap[b]? = some (.cells m'.cells t (0, 0))) : (storeM ⟨b, 0, none⟩ (.agg m.cells)).run Try.prog W = .ok () (W.setRow b m.cells) := by
  have := run_storeVar_at (P := Try.prog) W b 0 98 t 27 m'.cells m.cells h (by kernel_rfl) m.cells_size (by rw [m'.cells_size]; omega) (all_mem m.cells_all)
  have e : splice m'.cells 0 m.cells = m.cells := by
    apply Array.ext_getElem?
    intro j
    rw [splice_get _ _ _ (by rw [m.cells_size, m'.cells_size]; omega), m.cells_size]
    by_cases hj : j < 98
    · rw [if_pos (by omega), Nat.sub_zero]
    · rw [if_neg (by omega), Array.getElem?_eq_none (by rw [m'.cells_size]; omega), Array.getElem?_eq_none (by rw [m.cells_size]; omega)]
  rw [e] at this
  exact this
/-- .. into one that has just been laid. -/
theorem run_storeM_new {w : World} {n : Nat} {m m' : Mc} {t : TypeId} (hn : n = w.heap.size) : (storeM ⟨n, 0, none⟩ (.agg m.cells)).run Try.prog (w.alloc (.cells m'.cells t)) = .ok () (w.alloc (.cells m.cells t)) := by
  rw [run_storeM (hp_new hn), setRow_alloc _ _ hn]
theorem heap_alloc_rule {w : World} {o : Obj} {n : Nat} {x : Obj} (h : w.heap[n]? = some x) : (w.alloc o).heap[n]? = some x := hp_old h
theorem heap_alloc_new' {w : World} {o : Obj} : (w.alloc o).heap[w.heap.size]? = some o := hp_new rfl
theorem heap_drew (w : World) (n : Nat) : w.drew.heap[n]? = w.heap[n]? := rfl
theorem heap_drewN (w : World) (k n : Nat) : (w.drewN k).heap[n]? = w.heap[n]? := rfl
theorem heap_setCell_rule {w : World} {p : Addr} {v : Value} {n : Nat} {x : Obj} (h : w.heap[n]? = some x) (hne : n ≠ p.block) : (w.setCell p v).heap[n]? = some x := hp_far h hne v
theorem zeroValue_M (w : World) : (zeroValue 27).run Try.prog w = .ok (.agg Mc.zero.cells) w := by
  rw [← zeroM_cells]; exact zeroM_run w
attribute [go_sem ↓ high] loadVar_M storeVar_M
attribute [go_sem] run_loadM run_storeM run_storeM_new zeroValue_M heap_drew heap_drewN
end Go.Proofs.Ytjnnbjlombopnaa
