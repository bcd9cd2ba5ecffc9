/- Walks: (*table).like. -/
import Derived.Test.YtjnnbjlombopnaaLst
namespace Go.Proofs.Ytjnnbjlombopnaa
open Go.RowKit

/-- What is asked of a table: rows of letters that go on to rows. -/
structure Gm.Tb (g : Gm) : Prop where
  l2 : 2 ≤ g.l
  l3 : g.l ≤ 3
  s1 : 1 ≤ g.s
  sm : g.s ≤ 256
  nlt : ∀ q x, q < g.s → x < g.l → g.nx q x < g.s
  olt : ∀ q x, q < g.s → x < g.l → g.ou q x < g.l
theorem Gm.Ok.tb {g : Gm} (h : g.Ok) : g.Tb := ⟨h.l2, h.l3, h.s1, by have := h.s16; omega, h.nlt, h.olt⟩
def ivL (C : Nat → Nat) (n : Nat) : List Int := (List.range n).map fun j => (C j : Int)
theorem ivL_len (C : Nat → Nat) (n : Nat) : (ivL C n).length = n := by simp [ivL]
theorem ivL_get (C : Nat → Nat) {n j : Nat} (h : j < n) : (ivL C n)[j]'(by rw [ivL_len]; exact h) = (C j : Int) := by simp [ivL]
def toTo (g : Gm) (C : Nat → Nat) (q r x : Nat) : Bool := (List.range x).all fun y => decide (C (g.nx q y) = C (g.nx r y))
theorem toTo_succ (g : Gm) (C : Nat → Nat) (q r x : Nat) : toTo g C q r (x + 1) = (toTo g C q r x && decide (C (g.nx q x) = C (g.nx r x))) := by simp [toTo, List.range_succ]
/-- What like looks for. -/
def lkB (g : Gm) (C : Nat → Nat) (q r : Nat) : Bool := decide (C q ≤ r) && (decide (C r = C q) && toTo g C q r g.l)
def lk (g : Gm) (C : Nat → Nat) (q : Nat) : Nat := first (lkB g C q) q

set_option maxRecDepth 100000 in
set_option maxHeartbeats 2000000 in
theorem like_any (g : Gm) (hok : g.Tb) (T : Nat) (C : Nat → Nat) (q : Nat) (hq : q < g.s) (hC : C q ≤ q) (v : Value) (w : World) (hT : TabAt w T (g.nxs g.s) (g.ous g.s)) (hv : RdI w v (ivL C g.s)) :
    Calls Try.prog 198 #[.pointer (some ⟨T, 0, none⟩), v, .int .i64 q] w fun e w' => e = .returned (.int .i64 (lk g C q : Nat)) ∧ ∃ n, w' = w.drewN n := by
  obtain ⟨vn, vo, hT0, hN, _⟩ := hT
  have e1 : (g.nxs g.s).length = g.s := by simp [Gm.nxs]
  obtain ⟨An, cn, rn, rfl, n1, n2, n3⟩ := hN
  rw [e1] at hT0
  have c0 : w.cell? ⟨T, 0, none⟩ = some (.slice An g.s cn) := blkc hT0 0
  have s16 := hok.sm
  have l3 := hok.l3
  have HO := hidd hok
  have rows : ∀ p, p < g.s → ∃ Ar cr b o, An = some ⟨b, o, none⟩ ∧ w.cell? ⟨b, o + p, none⟩ = some (.slice Ar g.l cr) ∧ Rd w Ar (ints (g.nr p)) := fun p hp => by
    have hpr : p < rn.length := by rw [n2, e1]; exact hp
    obtain ⟨b, o, hA, hcr⟩ := n1.at_ (List.getElem?_eq_getElem hpr)
    obtain ⟨Ar, cr, er, hrr⟩ := n3 p rn[p] (g.nr p) (List.getElem?_eq_getElem hpr) (by simp [Gm.nxs, hp])
    rw [er, show (g.nr p).length = g.l by simp [Gm.nr]] at hcr
    exact ⟨Ar, cr, b, o, hA, hcr, hrr⟩
  obtain ⟨Aq, cq, bn, on, rfl, hcq, hrq⟩ := rows q hq
  have Rows := hidd rows
  have Hrq := hidd hrq
  obtain ⟨Av, cv, rfl, hvv⟩ := hv
  rw [ivL_len]
  have hqv : q < (ivL C g.s).length := by rw [ivL_len]; exact hq
  obtain ⟨bv, ov, rfl, hcv⟩ := hvv.get hqv
  rw [ivL_get C hq] at hcv
  have cells : ∀ p, p < g.s → w.cell? ⟨bv, ov + p, none⟩ = some (.int .i64 (C p : Nat)) := fun p hp => by
    obtain ⟨b, o, e, h⟩ := hvv.get (show p < (ivL C g.s).length by rw [ivL_len]; exact hp)
    cases e
    rw [ivL_get C hp] at h
    exact h
  have Cells := hidd cells
  have nxc : ∀ p x, p < g.s → x < g.l → ∀ Ar, Rd w Ar (ints (g.nr p)) → ∃ b o, Ar = some ⟨b, o, none⟩ ∧ w.cell? ⟨b, o + x, none⟩ = some (.int .i64 (g.nx p x : Nat)) := fun p x hp hx Ar h => by
    have hxl : x < (g.nr p).length := by simp [Gm.nr, hx]
    obtain ⟨b, o, e, h2⟩ := h.get hxl
    rw [show (g.nr p)[x]'hxl = (g.nx p x : Int) by simp [Gm.nr]] at h2
    exact ⟨b, o, e, h2⟩
  have Nxc := hidd nxc
  have j0 : (q : Int) < g.s := by omega
  clear rows hrq hvv cells nxc hT0 n1 n2 n3 hok
  go_enter Try.func198, Try.ntmps198
  go_wp2_with fail
  go_loopw [7] (fun i wr => ∃ r : Nat, r ≤ q ∧ C q ≤ r ∧ i = .int .i64 r ∧ Hid (∀ p, p < r → lkB g C q p = false) ∧ ∃ n, wr = w.drewN n) (fun i _ => q - (intOf i).toNat)
  case atStart => exact ⟨C q, hC, Nat.le_refl _, rfl, hidd (fun p hp => by unfold lkB; rw [decide_eq_false (by omega), Bool.false_and]), 0, rfl⟩
  case round =>
    obtain ⟨r, hr, hCr, rfl, HL, n, rfl⟩ := hrel
    by_cases hrq : r < q
    · have c1 := Cells.out r (by omega)
      have j1 : (r : Int) < g.s := by omega
      by_cases hc : C r = C q
      · have hd : ((C r : Int) != (C q : Int)) = false := bne_eq_false_iff_eq.2 (by omega)
        have Hc := hidd hc
        clear hc
        go_wp2_with fail
        go_quiet (fail)
        go_wp2_with fail
        obtain ⟨Ar, cr, b2, o2, eA, hcr2, hrr2⟩ := Rows.out r (by omega)
        cases eA
        have Hrr := hidd hrr2
        clear hrr2
        go_loopw [8, 37] (fun sm i wr => ∃ x : Nat, x ≤ g.l ∧ sm = .bool (toTo g C q r x) ∧ i = .int .i64 x ∧ ∃ n, wr = w.drewN n) (fun _ i _ => g.l - (intOf i).toNat)
        case atStart => exact ⟨0, Nat.zero_le _, rfl, rfl, _, rfl⟩
        case round =>
          obtain ⟨x, hx, rfl, rfl, n3, rfl⟩ := hrel
          by_cases hxl : x < g.l
          · obtain ⟨b3, o3, e3, h3⟩ := Nxc.out q x hq hxl _ Hrq.out
            obtain ⟨b4, o4, e4, h4⟩ := Nxc.out r x (by omega) hxl _ Hrr.out
            subst e3 e4
            have n5 := HO.out.nlt q x hq hxl
            have n6 := HO.out.nlt r x (by omega) hxl
            have h5 := Cells.out _ n5
            have h6 := Cells.out _ n6
            have j3 : (x : Int) < g.l := by omega
            have j5 : (g.nx q x : Int) < g.s := by omega
            have j6 : (g.nx r x : Int) < g.s := by omega
            have Hs := hidd (toTo_succ g C q r x)
            cases ht : toTo g C q r x with
            | false =>
              have Ht := hidd ht
              clear ht
              go_wp2_with fail
              go_quiet (fail)
              go_wp2_with fail
              go_roundw
              case rel => exact ⟨x + 1, by omega, by rw [Hs.out, Ht.out, Bool.false_and], by go_num, _, rfl⟩
              case measure => simp [intOf]; omega
            | true =>
              have Ht := hidd ht
              clear ht
              by_cases hc2 : C (g.nx q x) = C (g.nx r x)
              · have hd2 : ((C (g.nx q x) : Int) == (C (g.nx r x) : Int)) = true := beq_iff_eq.2 (by omega)
                have Hc2 := hidd hc2
                clear hc2
                go_wp2_with fail
                go_quiet (fail)
                go_wp2_with fail
                go_roundw
                case rel => exact ⟨x + 1, by omega, by rw [Hs.out, Ht.out, decide_eq_true Hc2.out]; rfl, by go_num, _, rfl⟩
                case measure => simp [intOf]; omega
              · have hd2 : ((C (g.nx q x) : Int) == (C (g.nx r x) : Int)) = false := beq_eq_false_iff_ne.2 (by omega)
                have Hc2 := hidd hc2
                clear hc2
                go_wp2_with fail
                go_quiet (fail)
                go_wp2_with fail
                go_roundw
                case rel => exact ⟨x + 1, by omega, by rw [Hs.out, decide_eq_false Hc2.out, Bool.and_false], by go_num, _, rfl⟩
                case measure => simp [intOf]; omega
          · have he : x = g.l := by omega
            subst he
            cases ht : toTo g C q r g.l with
            | true =>
              have Hl := hidd (show lkB g C q r = true by unfold lkB; rw [ht, decide_eq_true hCr, decide_eq_true Hc.out]; rfl)
              clear ht
              go_wp2_with fail
              go_ret
              exact ⟨ret_i (by unfold lk; rw [first_eq hr (fun _ => Hl.out) HL.out]), _, rfl⟩
            | false =>
              have HX := hidd (show ∀ p, p < r + 1 → lkB g C q p = false from fun p h => by
                by_cases e : p = r
                · subst e; unfold lkB; rw [ht, Bool.and_false, Bool.and_false]
                · exact HL.out p (by omega))
              clear ht
              go_wp2_with fail
              go_roundw
              case rel => exact ⟨r + 1, by omega, by omega, by go_num, HX, _, rfl⟩
              case measure => simp [intOf]; omega
      · have hd : ((C r : Int) != (C q : Int)) = true := bne_iff_ne.2 (by omega)
        have HX := hidd (show ∀ p, p < r + 1 → lkB g C q p = false from fun p h => by
          by_cases e : p = r
          · subst e; unfold lkB; rw [decide_eq_false hc, Bool.false_and, Bool.and_false]
          · exact HL.out p (by omega))
        clear hc
        go_wp2_with fail
        go_quiet (fail)
        go_wp2_with fail
        go_roundw
        case rel => exact ⟨r + 1, by omega, by omega, by go_num, HX, _, rfl⟩
        case measure => simp [intOf]; omega
    · have he : r = q := by omega
      subst he
      go_wp2_with fail
      go_ret
      exact ⟨ret_i (by unfold lk; rw [first_eq (Nat.le_refl _) (fun h => absurd h (Nat.lt_irrefl _)) HL.out]), _, rfl⟩
end Go.Proofs.Ytjnnbjlombopnaa
