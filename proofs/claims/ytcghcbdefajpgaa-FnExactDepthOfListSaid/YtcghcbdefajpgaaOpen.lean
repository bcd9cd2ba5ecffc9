/- Opening of the laws' arguments: a machine given as data is a machine in the sense of Mc. -/
import Derived.Test.YtcghcbdefajpgaaBA
import Derived.Test.YtcghcbdefajpgaaOp0
namespace Go.Proofs.Ytcghcbdefajpgaa
open Go.RowKit Go.ChangeShapes Go.WideShapes Go.ChangeAt

section
variable {H : Type} {enc : TypeId × Value → H} {w : World} {base : Nat} {spare : Nat → Bool} {held : Bool}

/-- The rows of a table of bytes, opened. -/
theorem open_tab {fuel : Nat} {cs : List Value} {x : DataW H × List MemPlace} (h : DataW.trod enc Try.prog w base spare held fuel 23 cs = some x) :
    ∃ f : Nat → Nat → Nat, ∀ q y, q < 16 → y < 3 → cs[q * 3 + y]? = some (.int .u8 (f q y)) ∧ f q y < 256 := by
  have hc3 : Try.prog.cellsOf 22 = 3 := by kernel_rfl
  have hc1 : Try.prog.cellsOf 5 = 1 := by kernel_rfl
  obtain ⟨xs, m, _, _, _, hlen, hrow⟩ := DataW.trod_array Try.underlying23 h
  have key : ∀ q y, q < 16 → y < 3 → ∃ n : Nat, cs[q * 3 + y]? = some (.int .u8 n) ∧ n < 256 := by
    intro q y hq hy
    have h1 := hrow q hq
    rw [hc3] at h1
    obtain ⟨z, hz⟩ : ∃ z, xs[q]? = some z := ⟨xs[q]'(by omega), List.getElem?_eq_getElem (by omega)⟩
    rw [hz] at h1
    obtain ⟨ys, m2, _, _, _, hlen2, hcell⟩ := DataW.trod_array Try.underlying22 h1
    have h2 := hcell y hy
    rw [hc1] at h2
    obtain ⟨u, hu⟩ : ∃ u, ys[y]? = some u := ⟨ys[y]'(by omega), List.getElem?_eq_getElem (by omega)⟩
    rw [hu] at h2
    obtain ⟨n, hn, _, hwf⟩ := DataW.trod_int Try.underlying5 h2
    have hb := bounds_u8 hwf
    refine ⟨n.toNat, ?_, by omega⟩
    have e : (cs.drop (q * 3))[y]? = some (.int .u8 n) := by
      have hh := congrArg (fun l : List Value => l[0]?) hn
      simp only [List.getElem?_take, List.getElem?_drop] at hh
      simp at hh
      rw [List.getElem?_drop]
      exact hh.2
    rw [List.getElem?_drop] at e
    rw [e, Int.toNat_of_nonneg hb.1]
  refine ⟨fun q y => if h : q < 16 ∧ y < 3 then (key q y h.1 h.2).choose else 0, fun q y hq hy => ?_⟩
  simp only [hq, hy, and_self, dite_true]
  exact (key q y hq hy).choose_spec

theorem cells98 : Try.prog.cellsOf 25 = 98 := by kernel_rfl

set_option maxRecDepth 100000 in
theorem open_M {v : Value} {d : DataW H} {p : List MemPlace} {r : Reach} {b : Nat} {W : World} (hv : Value.okWide Try.prog W r b 25 v) (h : DataW.Trod enc Try.prog w base spare held 25 v d p) :
    ∃ cs m, v = .agg cs ∧ Mc.Is m cs := by
  have hc98 := cells98
  obtain ⟨cs, rfl, hsz⟩ := okWide_struct Try.underlying25 hv
  have hc1 : Try.prog.cellsOf 2 = 1 := by kernel_rfl
  have hc48 : Try.prog.cellsOf 23 = 48 := by kernel_rfl
  rw [hc98] at hsz
  obtain ⟨fuel, hf⟩ := h
  have hf' : DataW.trod enc Try.prog w base spare held fuel 25 cs.toList = some (d, p) := by simpa [Value.cells] using hf
  obtain ⟨y0, y1, y2, y3, n, _, _, h0, h1, h2, h3⟩ := Go.Joins.trod_struct4 Try.underlying25 hf'
  simp only [hc1, hc48] at h0 h1 h2 h3
  obtain ⟨L, e0, _, w0⟩ := DataW.trod_int Try.underlying2 h0
  obtain ⟨S, e1, _, w1⟩ := DataW.trod_int Try.underlying2 h1
  obtain ⟨nx, hn⟩ := open_tab h2
  obtain ⟨ou, ho⟩ := open_tab h3
  have g0 := congrArg (fun l : List Value => l[0]?) e0
  have g1 := congrArg (fun l : List Value => l[0]?) e1
  simp at g0 g1
  refine ⟨cs, ⟨L, S, nx, ou⟩, rfl, ⟨hsz, g0, g1, ?_, ?_, fun q y hq hy => (hn q y hq hy).2, fun q y hq hy => (ho q y hq hy).2, w0, w1⟩⟩
  · intro q y hq hy
    have := (hn q y hq hy).1
    rw [List.getElem?_take, if_pos (by omega), List.getElem?_drop, Array.getElem?_toList] at this
    rw [← this]; congr 1; omega
  · intro q y hq hy
    have := (ho q y hq hy).1
    rw [List.getElem?_take, if_pos (by omega), List.getElem?_drop, Array.getElem?_toList] at this
    rw [← this]; congr 1; omega

end
end Go.Proofs.Ytcghcbdefajpgaa
