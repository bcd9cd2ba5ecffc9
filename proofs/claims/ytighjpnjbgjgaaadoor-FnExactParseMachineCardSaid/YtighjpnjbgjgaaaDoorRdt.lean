/- Walks: the machine with a text, of the reference. -/
import Derived.Test.YtighjpnjbgjgaaaDoorRds
import Derived.Test.YtighjpnjbgjgaaaDoorBB
namespace Go.Proofs.YtighjpnjbgjgaaaDoor
open Go.RowKit
set_option linter.unusedSimpArgs false

theorem u8_ext {a b : UInt8} (h : a.toNat = b.toNat) : a = b := UInt8.toNat.inj h
/-- What the pieces of a machine's text are like. -/
theorem prOk_rows {t : ByteArray} {L : Nat} {b : UInt8} {r : List UInt8} {ps : List (List UInt8)} (ht : t.data.toList = b :: 58 :: r) (hb : b.toNat = 48 + L) (hp : ps = spl 44 r) (h : prOk t) :
    ps.length ≤ 16 ∧ ∀ q, q < ps.length → (ps.getD q []).length = 2 * L ∧ ∀ x, (hx : 2 * x + 1 < (ps.getD q []).length) → 48 ≤ (ps.getD q [])[2 * x].toNat ∧ (ps.getD q [])[2 * x].toNat ≤ 50 ∧ 97 ≤ (ps.getD q [])[2 * x + 1].toNat ∧ (ps.getD q [])[2 * x + 1].toNat ≤ 112 := by
  obtain ⟨g, hok, _, _, h1, h2⟩ := prOk_see h
  rw [ht, List.cons.injEq, List.cons.injEq] at h1
  obtain ⟨e1, _, e2⟩ := h1
  have e3 := congrArg UInt8.toNat e1
  rw [Gm.l_byte hok] at e3
  have hl : L = g.l := by omega
  rw [e2, h2] at hp
  subst hp
  have hs := hok.s16
  have h3 := hok.l3
  refine ⟨by rw [g.rowsU_len]; exact hs, fun q hq => ?_⟩
  rw [g.rowsU_len] at hq
  have hu : g.rowsU.getD q [] = g.rowU q := by rw [g.rowsU_getD, if_pos hq]
  suffices key : ∀ u : List UInt8, u = g.rowU q → u.length = 2 * L ∧ ∀ x, (hx : 2 * x + 1 < u.length) → 48 ≤ u[2 * x].toNat ∧ u[2 * x].toNat ≤ 50 ∧ 97 ≤ u[2 * x + 1].toNat ∧ u[2 * x + 1].toNat ≤ 112 from key _ hu
  intro u hue
  subst hue
  refine ⟨by rw [g.rowU_len, hl], fun x hx => ?_⟩
  have hx2 := hx
  rw [g.rowU_len] at hx2
  obtain ⟨a1, a2⟩ := g.rowU_at q x (by omega)
  have n1 := hok.nlt q x hq (by omega)
  have n2 := hok.olt q x hq (by omega)
  rw [List.getElem?_eq_getElem (by omega)] at a1
  rw [List.getElem?_eq_getElem hx] at a2
  rw [Option.some.inj a1, Option.some.inj a2, UInt8.toNat_ofNat', UInt8.toNat_ofNat']
  omega
theorem str_two {t : ByteArray} (h : 2 ≤ t.size) : t.data.toList = t[0] :: t[1] :: (t.extract 2 t.size).data.toList := by
  rw [Lib.extract_to_end]
  have h0 : 0 < t.data.toList.length := by rw [str_len]; omega
  have h1 : 1 < t.data.toList.length := by rw [str_len]; omega
  have e := List.drop_eq_getElem_cons h0
  have e1 := List.drop_eq_getElem_cons h1
  rw [List.drop_zero] at e
  conv => lhs; rw [e, e1]
  rw [str_at (k := 0) (by omega), str_at (k := 1) (by omega)]

/-- The text begins as that of a machine with L letters. -/
structure Hd (t : ByteArray) (L : Nat) : Prop where
  z : 2 ≤ t.size
  a : t[0].toNat = 48 + L
  b : t[1].toNat = 58
  l : L = 2 ∨ L = 3
theorem Hd.data {t : ByteArray} {L : Nat} (h : Hd t L) : t.data.toList = t[0]'(by have := h.z; omega) :: 58 :: (t.extract 2 t.size).data.toList := by
  rw [str_two h.z]
  have e : t[1]'(by have := h.z; omega) = 58 := u8_ext h.b
  rw [e]
theorem prOk_hd {t : ByteArray} (h : prOk t) : ∃ L, Hd t L := by
  obtain ⟨g, hok, _, _, h1, _⟩ := prOk_see h
  have hz := congrArg List.length h1
  rw [str_len] at hz
  simp only [List.length_cons] at hz
  have h2 : 2 ≤ t.size := by omega
  rw [str_two h2, List.cons.injEq, List.cons.injEq] at h1
  have e0 := congrArg UInt8.toNat h1.1
  have e1 := congrArg UInt8.toNat h1.2.1
  rw [Gm.l_byte hok] at e0
  have l2 := hok.l2
  have l3 := hok.l3
  exact ⟨g.l, h2, e0, e1, by omega⟩
theorem prM_hd {t : ByteArray} {L : Nat} (h : Hd t L) : prM t = ⟨L, ((spl 44 (t.extract 2 t.size).data.toList).length : Nat), rdN (spl 44 (t.extract 2 t.size).data.toList), rdO (spl 44 (t.extract 2 t.size).data.toList)⟩ := by
  unfold prM
  rw [h.data]
  simp only [List.headD_cons, List.drop_succ_cons, List.drop_zero]
  rw [h.a]
  congr 1
  omega
theorem rdP_is (L S : Int) (ps : List (List UInt8)) (q x : Nat) (hl : (Lit.int .i64 L).wf = true) (hs : (Lit.int .i64 S).wf = true) : (rdP L S ps q x).Is (rdP L S ps q x).cells := by
  refine Mc.Is.of_cells _ (fun a b _ _ => ?_) (fun a b _ _ => ?_) hl hs
  · show (if a < q ∨ a = q ∧ b < x then rdN ps a b else 0) < 256
    split
    · exact rdN_lt _ _ _
    · decide
  · show (if a < q ∨ a = q ∧ b < x then rdO ps a b else 0) < 256
    split
    · exact rdO_lt _ _ _
    · decide

theorem rd_str {ps : List (List UInt8)} {q x : Nat} {row : ByteArray} (h : ps.getD q [] = row.data.toList) (hx : 2 * x + 1 < row.size) : rdN ps q x = (row[2 * x + 1].toNat + 159) % 256 ∧ rdO ps q x = (row[2 * x].toNat + 208) % 256 := by
  have h1 : 2 * x + 1 < row.data.toList.length := by rw [str_len]; exact hx
  unfold rdN rdO
  rw [h, List.getElem?_eq_getElem h1, List.getElem?_eq_getElem (by omega)]
  simp only [str_at hx, str_at (s := row) (k := 2 * x) (by omega), and_self]
theorem st_newM (w : World) (L S : Int) : (storeM ⟨w.heap.size, 0, none⟩ (.agg ((zeroM.setIfInBounds 0 (.int .i64 L)).setIfInBounds 1 (.int .i64 S)))).run Tryd.prog (w.alloc (.cells zeroM 25)) = .ok () (w.alloc (.cells (bld L S) 25)) := by
  show (storeM _ (.agg (bld L S))).run _ _ = _
  rw [bld_cells, zeroM_cells]
  exact run_storeM_new rfl

end Go.Proofs.YtighjpnjbgjgaaaDoor
