/- Machines compared by ==. -/
import Derived.Test.YtcghcbdefajpgaaMnm
import Derived.DeepKeys
namespace Go.Proofs.Ytcghcbdefajpgaa
open Go.RowKit

theorem mapM_some' {α β : Type} (f : α → Option β) (g : α → β) : ∀ l : List α, (∀ i ∈ l, f i = some (g i)) → l.mapM f = some (l.map g)
  | [], _ => rfl
  | a :: l, h => by
    rw [List.mapM_cons, h a (List.mem_cons_self ..), mapM_some' f g l (fun i hi => h i (List.mem_cons_of_mem _ hi))]
    rfl
theorem lit_int {t : TypeId} {q : IntKind} (hu : Try.prog.underlying t = some (.int q)) (d : Nat) {n : Int} (h : (Lit.int q n).wf = true) : Try.prog.keyLits (d + 1) t [.int q n] = some [.int q n] := by
  unfold Program.keyLits
  rw [hu]
  simp [h]
theorem wf_u8 (n : Nat) (h : n < 256) : (Lit.int .u8 (n : Int)).wf = true := by
  simp [Lit.wf, IntKind.min, IntKind.max, IntKind.bits, IntKind.signed]
  omega
theorem lits3 (d : Nat) (f : Nat → Nat) (i : Nat) (h : ∀ x, x < 3 → f (i * 3 + x) < 256) : Try.prog.keyLits (d + 2) 22 [.int .u8 (f (i * 3) : Nat), .int .u8 (f (i * 3 + 1) : Nat), .int .u8 (f (i * 3 + 2) : Nat)] = some [.int .u8 (f (i * 3) : Nat), .int .u8 (f (i * 3 + 1) : Nat), .int .u8 (f (i * 3 + 2) : Nat)] := by
  have e3 : Try.prog.cellsOf 22 = 3 := by kernel_rfl
  have e1 : Try.prog.cellsOf 5 = 1 := by kernel_rfl
  unfold Program.keyLits
  rw [Try.underlying22]
  simp only [e3, e1]
  rw [if_pos (show [Value.int .u8 (f (i * 3) : Nat), .int .u8 (f (i * 3 + 1) : Nat), .int .u8 (f (i * 3 + 2) : Nat)].length = 3 from rfl)]
  have := mapM_some' (fun x => Try.prog.keyLits (d + 1) 5 (([Value.int .u8 (f (i * 3) : Nat), .int .u8 (f (i * 3 + 1) : Nat), .int .u8 (f (i * 3 + 2) : Nat)].drop (x * 1)).take 1)) (fun x => [Lit.int .u8 (f (i * 3 + x) : Nat)]) (List.range 3) (fun x hx => by
    have hx3 := List.mem_range.1 hx
    have e : (([Value.int .u8 (f (i * 3) : Nat), .int .u8 (f (i * 3 + 1) : Nat), .int .u8 (f (i * 3 + 2) : Nat)].drop (x * 1)).take 1) = [.int .u8 (f (i * 3 + x) : Nat)] := by
      match x, hx3 with
      | 0, _ => rfl
      | 1, _ => rfl
      | 2, _ => rfl
    rw [e]
    exact lit_int Try.underlying5 d (wf_u8 _ (h x hx3)))
  rw [this]
  rfl
def bytesL (f : Nat → Nat) (n : Nat) : List Lit := (List.range n).map fun j => .int .u8 (f j : Nat)
def bytesV (f : Nat → Nat) (n : Nat) : List Value := (List.range n).map fun j => .int .u8 (f j : Nat)
theorem lits48 (d : Nat) (f : Nat → Nat) (h : ∀ j, j < 48 → f j < 256) : Try.prog.keyLits (d + 3) 23 (bytesV f 48) = some (bytesL f 48) := by
  have e3 : Try.prog.cellsOf 22 = 3 := by kernel_rfl
  have e48 : Try.prog.cellsOf 23 = 48 := by kernel_rfl
  unfold Program.keyLits
  rw [Try.underlying23]
  simp only [e3, e48]
  rw [if_pos (by simp [bytesV])]
  have := mapM_some' (fun i => Try.prog.keyLits (d + 2) 22 (((bytesV f 48).drop (i * 3)).take 3)) (fun i => [Lit.int .u8 (f (i * 3) : Nat), .int .u8 (f (i * 3 + 1) : Nat), .int .u8 (f (i * 3 + 2) : Nat)]) (List.range 16) (fun i hi => by
    have hi16 := List.mem_range.1 hi
    have e : ((bytesV f 48).drop (i * 3)).take 3 = [.int .u8 (f (i * 3) : Nat), .int .u8 (f (i * 3 + 1) : Nat), .int .u8 (f (i * 3 + 2) : Nat)] := by
      apply List.ext_getElem?
      intro j
      rw [List.getElem?_take]
      by_cases hj : j < 3
      · rw [if_pos hj, List.getElem?_drop]
        unfold bytesV
        rw [List.getElem?_map, List.getElem?_range (by omega)]
        match j, hj with
        | 0, _ => rfl
        | 1, _ => rfl
        | 2, _ => rfl
      · rw [if_neg hj]
        exact (List.getElem?_eq_none (by simp; omega)).symm
    rw [e]
    exact lits3 d f i (fun x hx => h _ (by omega)))
  rw [this]
  rfl
def Mc.lits (m : Mc) : List Lit := [.int .i64 m.L] ++ ([.int .i64 m.S] ++ (bytesL (fun j => m.nx (j / 3) (j % 3)) 48 ++ (bytesL (fun j => m.ou (j / 3) (j % 3)) 48 ++ [])))
theorem Mc.cut (m : Mc) (off k : Nat) (F : Nat → Value) (hk : off + k ≤ 98) (h : ∀ j, j < k → m.cellAt (off + j) = F j) : (m.cells.toList.drop off).take k = (List.range k).map F := by
  apply List.ext_getElem?
  intro j
  rw [List.getElem?_take]
  by_cases hj : j < k
  · rw [if_pos hj, List.getElem?_drop, Array.getElem?_toList, m.cells_get, if_pos (by omega), h j hj, List.getElem?_map, List.getElem?_range hj]; rfl
  · rw [if_neg hj]
    exact (List.getElem?_eq_none (by simp; omega)).symm
theorem litsM (d : Nat) (m : Mc) (h : m.Is m.cells) : Try.prog.keyLits (d + 4) 31 m.cells.toList = some m.lits := by
  have e98 : Try.prog.cellsOf 31 = 98 := by kernel_rfl
  have e48 : Try.prog.cellsOf 23 = 48 := by kernel_rfl
  have e1 : Try.prog.cellsOf 2 = 1 := by kernel_rfl
  have k0 : Try.prog.keyLits (d + 3) 2 ((m.cells.toList.drop 0).take 1) = some [.int .i64 m.L] := by
    rw [m.cut 0 1 (fun _ => .int .i64 m.L) (by omega) (fun j hj => by rw [show 0 + j = 0 by omega]; rfl)]
    exact lit_int Try.underlying2 (d + 2) h.lw
  have k1 : Try.prog.keyLits (d + 3) 2 ((m.cells.toList.drop 1).take 1) = some [.int .i64 m.S] := by
    rw [m.cut 1 1 (fun _ => .int .i64 m.S) (by omega) (fun j hj => by rw [show 1 + j = 1 by omega]; rfl)]
    exact lit_int Try.underlying2 (d + 2) h.sw
  have k2 : Try.prog.keyLits (d + 3) 23 ((m.cells.toList.drop 2).take 48) = some (bytesL (fun j => m.nx (j / 3) (j % 3)) 48) := by
    rw [m.cut 2 48 (fun j => .int .u8 (m.nx (j / 3) (j % 3) : Nat)) (by omega) (fun j hj => by
      have := m.cellAt_n (j / 3) (j % 3) (by omega) (by omega)
      rwa [show 2 + j / 3 * 3 + j % 3 = 2 + j by omega] at this)]
    exact lits48 d (fun j => m.nx (j / 3) (j % 3)) (fun j hj => h.nb _ _ (by omega) (by omega))
  have k3 : Try.prog.keyLits (d + 3) 23 ((m.cells.toList.drop 50).take 48) = some (bytesL (fun j => m.ou (j / 3) (j % 3)) 48) := by
    rw [m.cut 50 48 (fun j => .int .u8 (m.ou (j / 3) (j % 3) : Nat)) (by omega) (fun j hj => by
      have := m.cellAt_o (j / 3) (j % 3) (by omega) (by omega)
      rwa [show 50 + j / 3 * 3 + j % 3 = 50 + j by omega] at this)]
    exact lits48 d (fun j => m.ou (j / 3) (j % 3)) (fun j hj => h.ob _ _ (by omega) (by omega))
  unfold Program.keyLits
  rw [Try.underlying31]
  simp only [e98]
  rw [if_pos ⟨by rw [Array.length_toList, m.cells_size], by kernel_rfl⟩]
  simp only [List.mapM_cons, List.mapM_nil, e1, e48, k0, k1, k2, k3]
  rfl
def litV : Lit → Value
  | .int k n => .int k n
  | _ => undef
def valL : Value → Lit
  | .int k n => .int k n
  | _ => .bool false
theorem lits_cells (m : Mc) : m.lits.map litV = m.cells.toList := by
  have h0 := m.cut 0 1 (fun _ => .int .i64 m.L) (by omega) (fun j hj => by rw [show 0 + j = 0 by omega]; rfl)
  have h1 := m.cut 1 1 (fun _ => .int .i64 m.S) (by omega) (fun j hj => by rw [show 1 + j = 1 by omega]; rfl)
  have h2 := m.cut 2 48 (fun j => .int .u8 (m.nx (j / 3) (j % 3) : Nat)) (by omega) (fun j hj => by
      have := m.cellAt_n (j / 3) (j % 3) (by omega) (by omega)
      rwa [show 2 + j / 3 * 3 + j % 3 = 2 + j by omega] at this)
  have h3 := m.cut 50 48 (fun j => .int .u8 (m.ou (j / 3) (j % 3) : Nat)) (by omega) (fun j hj => by
      have := m.cellAt_o (j / 3) (j % 3) (by omega) (by omega)
      rwa [show 50 + j / 3 * 3 + j % 3 = 50 + j by omega] at this)
  have hl : m.cells.toList.length = 98 := by rw [Array.length_toList, m.cells_size]
  have e : m.cells.toList = (m.cells.toList.drop 0).take 1 ++ ((m.cells.toList.drop 1).take 1 ++ ((m.cells.toList.drop 2).take 48 ++ (m.cells.toList.drop 50).take 48)) := by
    generalize m.cells.toList = l at hl
    apply List.ext_getElem?
    intro j
    simp only [List.getElem?_append, List.length_take, List.length_drop, List.getElem?_take, List.getElem?_drop, hl]
    repeat' split
    all_goals first | rfl | (congr 1; omega) | (exfalso; omega) | (exact List.getElem?_eq_none (by omega))
  rw [e, h0, h1, h2, h3]
  simp [Mc.lits, bytesL, litV, Function.comp_def]
theorem eqM_iff (m m' : Mc) : m.lits = m'.lits ↔ m.cells = m'.cells := by
  constructor
  · intro h
    apply Array.toList_inj.1
    rw [← lits_cells, ← lits_cells, h]
  · intro h
    have hv : ∀ m : Mc, m.lits = m.cells.toList.map valL := fun m => by
      rw [← lits_cells, List.map_map]
      have : ∀ l ∈ m.lits, (valL ∘ litV) l = l := fun l hl => by
        simp only [Mc.lits, List.mem_append, List.mem_singleton, bytesL, List.mem_map] at hl
        rcases hl with rfl | rfl | ⟨_, _, rfl⟩ | ⟨_, _, rfl⟩ | hl
        · rfl
        · rfl
        · rfl
        · rfl
        · cases hl
      exact (List.map_congr_left this).symm ▸ (List.map_id' _).symm
    rw [hv, hv, h]
noncomputable def eqC (m m' : Mc) : Bool := @decide (m.cells = m'.cells) (Classical.propDecidable _)
theorem run_eqM (m m' : Mc) (h : m.Is m.cells) (h' : m'.Is m'.cells) (w : World) : (Op.equalIn 10000 31 (.agg m.cells) (.agg m'.cells)).run Try.prog w = .ok (eqC m m') w := by
  have e98 : Try.prog.cellsOf 31 = 98 := by kernel_rfl
  have hf : ∀ m : Mc, (Value.agg m.cells).formed Try.prog 31 = true := fun m => by
    simp [Value.formed, Try.underlying31, e98, m.cells_size]
  obtain ⟨r, hr, hiff⟩ := run_equalIn_deep (P := Try.prog) 9990 10 31 (by kernel_rfl) w 4 4 (.agg m.cells) (.agg m'.cells) m.lits m'.lits (hf m) (hf m') (litsM 0 m h) (litsM 0 m' h')
  have e : r = eqC m m' := by
    rw [Bool.eq_iff_iff, hiff, eqM_iff]
    unfold eqC
    exact (@decide_eq_true_iff _ (Classical.propDecidable _)).symm
  rw [hr, e]
end Go.Proofs.Ytcghcbdefajpgaa
