/- Walks: (*Machine).minimal; MinimalMachine, of the program and of the reference. -/
import Derived.Test.YtcghcbdefajpgaaBC
import Derived.Test.YtcghcbdefajpgaaBA
namespace Go.Proofs.Ytcghcbdefajpgaa
open Go.RowKit

/-- The numbers of the states below q. -/
def Gm.numL (g : Gm) (q : Nat) : List Int := (List.range q).map fun j => (g.num j : Int)
theorem Gm.numL_succ (g : Gm) (q : Nat) : ints (g.numL (q + 1)) = ints (g.numL q) ++ [.int .i64 (g.num q : Nat)] := by simp [Gm.numL, List.range_succ, ints]
theorem Gm.numL_len (g : Gm) (q : Nat) : (g.numL q).length = q := by simp [Gm.numL]
theorem Gm.reps_yes (g : Gm) {q : Nat} (h : g.isR q = true) : ints (g.repL (q + 1)) = ints (g.repL q) ++ [.int .i64 (q : Nat)] := by simp [Gm.repL, Gm.reps, List.range_succ, h, ints]
theorem Gm.reps_no (g : Gm) {q : Nat} (h : g.isR q = false) : g.repL (q + 1) = g.repL q := by simp [Gm.repL, Gm.reps, List.range_succ, h]
theorem Gm.repL_len (g : Gm) (q : Nat) : (g.repL q).length ≤ q := by
  unfold Gm.repL
  rw [List.length_map, g.reps_len]
  exact cnt_le _ _
theorem Gm.ga_mn (g : Gm) : gaM g (g.reps g.s) g.num = g.mn.mc := by
  have hl : (g.reps g.s).length = g.ns := g.reps_len g.s
  unfold gaM gaP Gm.mc
  rw [hl]
  have hr : ∀ i, (g.reps g.s).getD i 0 = g.rep i := fun i => by rw [List.getD_eq_getElem?_getD]; rfl
  congr 1
  · funext j y
    show (if _ then _ else _) = if _ then _ else _
    rw [hr]
    by_cases h : j < g.ns ∧ y < g.l
    · rw [if_pos (by omega), if_pos h]
    · rw [if_neg (by omega), if_neg h]
  · funext j y
    show (if _ then _ else _) = if _ then _ else _
    rw [hr]
    by_cases h : j < g.ns ∧ y < g.l
    · rw [if_pos (by omega), if_pos h]
    · rw [if_neg (by omega), if_neg h]
theorem Gm.reps_lt (g : Gm) {i : Nat} (h : i < (g.reps g.s).length) : (g.reps g.s).getD i 0 < g.s := by
  rw [List.getD_eq_getElem?_getD, List.getElem?_eq_getElem h]
  exact List.mem_range.1 (List.mem_filter.1 (List.getElem_mem h)).1

set_option linter.unusedSimpArgs false
/-! ### MinimalMachine -/
def mnR (m : Mc) : Mc × List Int × Int := if m.ok then (m.gm.mn.mc, m.gm.numL m.gm.s, 0) else (Mc.zero, [], 1)
theorem Gm.mn_is {g : Gm} (hok : g.Ok) : g.mn.mc.Is g.mn.mc.cells := by
  have h16 := hok.s16
  have h3 := hok.l3
  have hns := g.ns_le
  have hnx : ∀ i x, g.mn.nx i x < 256 := fun i x => by
    show (if _ then _ else _) < 256
    split
    · have := cnt_le g.isR (g.lst (g.nx (g.rep i) x))
      have h2 : g.num (g.nx (g.rep i) x) ≤ g.nx (g.rep i) x := Nat.le_trans this (g.lst_le' _)
      rename_i h
      have h4 : g.rep i < g.s := by
        unfold Gm.rep
        have hl : i < (g.reps g.s).length := by rw [g.reps_len]; exact h.1
        rw [List.getElem?_eq_getElem hl]
        exact List.mem_range.1 (List.mem_filter.1 (List.getElem_mem hl)).1
      have h5 := hok.nlt _ _ h4 h.2
      omega
    · omega
  have hou : ∀ i x, g.mn.ou i x < 256 := fun i x => by
    show (if _ then _ else _) < 256
    split
    · rename_i h
      have h4 : g.rep i < g.s := by
        unfold Gm.rep
        have hl : i < (g.reps g.s).length := by rw [g.reps_len]; exact h.1
        rw [List.getElem?_eq_getElem hl]
        exact List.mem_range.1 (List.mem_filter.1 (List.getElem_mem hl)).1
      have h5 := hok.olt _ _ h4 h.2
      omega
    · omega
  exact Mc.Is.of_cells _ (fun q x _ _ => hnx q x) (fun q x _ _ => hou q x) (WalkArith.wf_i64 (by show -9223372036854775808 ≤ (g.l : Int) ∧ (g.l : Int) ≤ 9223372036854775807; omega)) (WalkArith.wf_i64 (by show -9223372036854775808 ≤ (g.ns : Int) ∧ (g.ns : Int) ≤ 9223372036854775807; omega))
theorem mnR_is (m : Mc) : (mnR m).1.Is (mnR m).1.cells := by
  unfold mnR
  cases h : m.ok with
  | false => exact Mc.zero_is
  | true =>
    obtain ⟨g, rfl, hok⟩ := Mc.to_gm h
    exact Gm.mn_is hok
theorem mnR_len (m : Mc) : (mnR m).2.1.length ≤ 1048576 := by
  unfold mnR
  cases h : m.ok with
  | false => exact Nat.zero_le _
  | true =>
    obtain ⟨g, rfl, hok⟩ := Mc.to_gm h
    show (g.numL g.s).length ≤ _
    rw [g.numL_len]
    have := hok.s16
    omega
theorem results_cell_tmp2 {P : Program} {fn : Func} {p t2 t3 : Tmp} {ty : TypeId} (h : fn.results = #[.cell p ty, .tmp t2, .tmp t3]) (tmps : Array Value) (w : World) (g : Nat) (t : TypeId) (cs : Array Value) (fr : Nat × Nat) (d : TypeDesc) (v v' : Value)
    (hp : tmps.getD p undef = .pointer (some ⟨g, 0, none⟩)) (hv : tmps.getD t2 undef = v) (hv' : tmps.getD t3 undef = v') (hg : w.heap[g]? = some (.cells cs t fr))
    (hu : P.underlying ty = some d) (hd : (match d with | .struct _ | .array _ _ => true | _ => false) = true) (hi : (P.info? ty).map (·.size) = some cs.size) :
    (results fn tmps).run P w = .ok (.tuple #[.agg cs, v, v']) w := by
  have hp' : tmps[p]?.getD undef = .pointer (some ⟨g, 0, none⟩) := by simpa using hp
  have hv2 : tmps[t2]?.getD undef = v := by simpa using hv
  have hv3 : tmps[t3]?.getD undef = v' := by simpa using hv'
  simp [results, h, hp', hv2, hv3, asAddr, run_loadVar_row w g t ty cs fr d hg hu hd hi]

end Go.Proofs.Ytcghcbdefajpgaa
