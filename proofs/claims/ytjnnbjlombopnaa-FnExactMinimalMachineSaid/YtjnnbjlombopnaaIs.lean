/- Walks: the reference's l01Is tells Mc.ok. -/
import Derived.Test.YtjnnbjlombopnaaRow
namespace Go.Proofs.Ytjnnbjlombopnaa
open Go.RowKit

theorem Mc.ok_iff (m : Mc) : m.ok = true ↔ (2 ≤ m.L ∧ m.L ≤ 3) ∧ (1 ≤ m.S ∧ m.S ≤ 16) ∧ ∀ q, q < 16 → m.rowOk q = true := by
  unfold Mc.ok
  simp [and_assoc]

theorem l01In_yes (n a b : Int) (w : World) (h1 : a ≤ n) (h2 : n ≤ b) : Calls Try.prog 131 #[.int .i64 n, .int .i64 a, .int .i64 b] w fun e w' => e = .returned (.bool true) ∧ w = w' := by
  go_enter Try.func131, Try.ntmps131
  go_wp2
  go_ret
  exact ⟨rfl, rfl⟩
theorem l01In_no (n a b : Int) (w : World) (h : n < a ∨ b < n) : Calls Try.prog 131 #[.int .i64 n, .int .i64 a, .int .i64 b] w fun e w' => e = .returned (.bool false) ∧ w = w' := by
  by_cases h1 : a ≤ n
  · have h2 : ¬ n ≤ b := by omega
    go_enter Try.func131, Try.ntmps131
    go_wp2
    go_ret
    exact ⟨rfl, rfl⟩
  · go_enter Try.func131, Try.ntmps131
    go_wp2
    go_ret
    exact ⟨rfl, rfl⟩
def Mc.met (m : Mc) (q k : Nat) : Array Value := #[.bool ((m.seen q k).testBit 0), .bool ((m.seen q k).testBit 1), .bool ((m.seen q k).testBit 2)]
theorem seen_bits (m : Mc) (q k : Nat) (hc : (q : Int) < m.S ∧ (k : Int) < m.L) (ho : m.ou q k < 3) :
    (m.met q k).setIfInBounds (m.ou q k) (.bool true) = m.met q (k + 1) := by
  unfold Mc.met
  have h : m.ou q k = 0 ∨ m.ou q k = 1 ∨ m.ou q k = 2 := by omega
  rcases h with h | h | h <;> simp [Mc.seen, hc, h, Nat.testBit_or, show Nat.testBit 1 1 = false from by decide, show Nat.testBit 1 2 = false from by decide, show Nat.testBit 2 1 = true from by decide, show Nat.testBit 2 2 = false from by decide, show Nat.testBit 4 1 = false from by decide, show Nat.testBit 4 2 = true from by decide]
theorem seen_keep (m : Mc) (q k : Nat) (hc : m.S ≤ q ∨ m.L ≤ k) : m.met q (k + 1) = m.met q k := by
  unfold Mc.met
  rw [Mc.seen, if_neg (by omega)]
theorem Mc.e4b {m : Mc} {q k : Nat} (h : (q : Int) < m.S ∧ (k : Int) < m.L) (h3 : (m.S ≤ m.nx q k ∨ m.L ≤ m.ou q k) ∨ (m.seen q k).testBit (m.ou q k) = true) : m.entryOk q k = false := by
  rw [Bool.eq_false_iff]
  intro hc
  have := (m.entry_iff q k).1 hc
  rw [if_neg (by omega)] at this
  rcases h3 with h3 | h3
  · omega
  · rw [Mc.seen_bit] at h3
    obtain ⟨y, hy, _, _, e⟩ := of_decide_eq_true h3
    exact this.2.2 y hy e
theorem Mc.e5b {m : Mc} {q k : Nat} (h : (q : Int) < m.S ∧ (k : Int) < m.L) (h3 : ((m.nx q k : Int) < m.S ∧ (m.ou q k : Int) < m.L) ∧ (m.seen q k).testBit (m.ou q k) = false) : m.entryOk q k = true := by
  rw [Mc.entry_iff, if_neg (by omega)]
  refine ⟨h3.1.1, h3.1.2, fun y hy e => ?_⟩
  have := h3.2
  rw [Mc.seen_bit] at this
  exact of_decide_eq_false this ⟨y, hy, h.1, by omega, e⟩
theorem Mc.ok_row {m : Mc} {q : Nat} (hq : q < 16) (h : m.rowOk q = false) : m.ok = false := by
  rw [Bool.eq_false_iff]
  intro hc
  have := ((m.ok_iff).1 hc).2.2 q hq
  rw [h] at this; cases this
theorem Mc.ok_L {m : Mc} (h : ¬ (2 ≤ m.L ∧ m.L ≤ 3)) : m.ok = false := by
  rw [Bool.eq_false_iff]
  exact fun hc => h ((m.ok_iff).1 hc).1
theorem Mc.ok_S {m : Mc} (h : ¬ (1 ≤ m.S ∧ m.S ≤ 16)) : m.ok = false := by
  rw [Bool.eq_false_iff]
  exact fun hc => h ((m.ok_iff).1 hc).2.1
set_option maxHeartbeats 1000000 in
theorem l01Is_any (m : Mc) (cs : Array Value) (hm : m.Is cs) (w : World) :
    Calls Try.prog 104 #[.agg cs] w fun e w' => e = .returned (.bool m.ok) ∧ Below w.heap.size w w' := by
  have c0 := hm.l
  have c1 := hm.s
  have Hm := hidd hm
  clear hm
  go_enter Try.func104, Try.ntmps104
  by_cases hL : 2 ≤ m.L ∧ m.L ≤ 3
  · by_cases hS : 1 ≤ m.S ∧ m.S ≤ 16
    · obtain ⟨hL2, hL3⟩ := hL
      obtain ⟨hS1, hS2⟩ := hS
      go_wp2_with (first | (go_at_call 131; refine (l01In_yes _ _ _ _ (by omega) (by omega)).mono ?_; rintro e w1 ⟨rfl, rfl⟩) | (go_at_call 131; refine (l01In_no _ _ _ _ (by omega)).mono ?_; rintro e w1 ⟨rfl, rfl⟩))
      go_loopw [3] (fun i wr => ∃ k : Nat, k ≤ 16 ∧ i = .int .i64 k ∧ (∀ q, q < k → m.rowOk q = true) ∧ Below w.heap.size w wr ∧ wr.heap[w.heap.size]? = some (.cells cs 27 (0, 0))) (fun i _ => 16 - (intOf i).toNat)
      case atStart => exact ⟨0, by omega, rfl, fun q hq => by omega, (Below.refl _ _).alloc (Nat.le_refl _) _, hp_new rfl⟩
      case round =>
        obtain ⟨q, hq, rfl, hrows, hbel, hb0⟩ := hrel
        have Hrows := hidd hrows
        have Hbel := hidd hbel
        have Hb0 := hidd hb0
        clear hrows hbel hb0
        by_cases hlt : q < 16
        · have e0 := (blkc Hb0.out 0).trans Hm.out.l
          have e1 := (blkc Hb0.out 1).trans Hm.out.s
          have i1 : (q : Int) < 16 := by omega
          have i3 : (0 : Int) ≤ q := by omega
          obtain ⟨wo, rfl⟩ : ∃ wo : World, wo = wr := ⟨_, rfl⟩
          go_wp2_with (first | (go_at_call 131; refine (l01In_yes _ _ _ _ (by omega) (by omega)).mono ?_; rintro e w1 ⟨rfl, rfl⟩) | (go_at_call 131; refine (l01In_no _ _ _ _ (by omega)).mono ?_; rintro e w1 ⟨rfl, rfl⟩))
          go_loopw [5] (fun i wr => ∃ k : Nat, k ≤ 3 ∧ i = .int .i64 k ∧ (∀ x, x < k → m.entryOk q x = true) ∧ Below w.heap.size w wr ∧ wr.heap[w.heap.size]? = some (.cells cs 27 (0, 0)) ∧ wr.heap[wo.heap.size]? = some (.cells (m.met q k) 161 (0, 0))) (fun i _ => 3 - (intOf i).toNat)
          case atStart => exact ⟨0, by omega, rfl, fun q hq => by omega, Hbel.out.alloc Hbel.out.size _, hp_old Hb0.out, by unfold Mc.met; simp only [Mc.seen, Nat.zero_testBit]; exact hp_new rfl⟩
          case round =>
            obtain ⟨k, hk, rfl, hent, hbel2, hb02, hbm⟩ := hrel
            have Hent := hidd hent
            have Hbel2 := hidd hbel2
            have Hb02 := hidd hb02
            have Hbm := hidd hbm
            clear hent hbel2 hb02 hbm
            by_cases hk3 : k < 3
            · have A := Mc.At.of_is Hm.out Hb02.out
              have a0 := A.l
              have a1 := A.s
              have a2 := A.n0 q k hlt hk3
              have a3 := A.o0 q k hlt hk3
              have a4 := A.nb q k hlt hk3
              have a5 := A.ob q k hlt hk3
              clear A
              have i2 : (k : Int) < 3 := by omega
              have i4 : (0 : Int) ≤ k := by omega
              by_cases hA : (q : Int) < m.S ∧ (k : Int) < m.L ∧ (m.nx q k : Int) < m.S ∧ (m.ou q k : Int) < m.L
              · obtain ⟨hA1, hA2, hA3, hA4⟩ := hA
                have ho : m.ou q k < 3 := by omega
                have mc : wr.cell? ⟨wo.heap.size, m.ou q k, none⟩ = some (.bool ((m.seen q k).testBit (m.ou q k))) := by
                  rw [blkc Hbm.out]
                  have h : m.ou q k = 0 ∨ m.ou q k = 1 ∨ m.ou q k = 2 := by omega
                  rcases h with h | h | h <;> rw [h] <;> rfl
                have mf := blkf Hbm.out (m.ou q k)
                go_wp2_with (first | (go_at_call 131; refine (l01In_yes _ _ _ _ (by omega) (by omega)).mono ?_; rintro e w1 ⟨rfl, rfl⟩) | (go_at_call 131; refine (l01In_no _ _ _ _ (by omega)).mono ?_; rintro e w1 ⟨rfl, rfl⟩))
                go_quiet (fail)
                go_wp2_with (first | (go_at_call 131; refine (l01In_yes _ _ _ _ (by omega) (by omega)).mono ?_; rintro e w1 ⟨rfl, rfl⟩) | (go_at_call 131; refine (l01In_no _ _ _ _ (by omega)).mono ?_; rintro e w1 ⟨rfl, rfl⟩))
                · go_ret
                  exact ⟨ret_b (Mc.ok_row hlt (Mc.row_false hk3 (Mc.e4b ⟨hA1, hA2⟩ (by assumption)))).symm, bel_drewN Hbel2.out _⟩
                · go_roundw
                  case rel =>
                    refine ⟨k + 1, by omega, by go_num, Mc.ok_succ Hent.out (Mc.e5b ⟨hA1, hA2⟩ (by assumption)), ?_, ?_, ?_⟩
                    · exact (bel_drewN Hbel2.out nq).setCell (by have := Hbel.out.size; exact this) _
                    · exact hp_far (w := wr.drewN nq) Hb02.out (by have := hp_lt Hb0.out; dsimp only; omega) _
                    · have := hp_set (w := wr.drewN nq) Hbm.out (m.ou q k) (.bool true)
                      rw [seen_bits m q k ⟨hA1, hA2⟩ ho] at this
                      exact this
                  case measure => simp [intOf]; omega
              · go_wp2_with (first | (go_at_call 131; refine (l01In_yes _ _ _ _ (by omega) (by omega)).mono ?_; rintro e w1 ⟨rfl, rfl⟩) | (go_at_call 131; refine (l01In_no _ _ _ _ (by omega)).mono ?_; rintro e w1 ⟨rfl, rfl⟩))
                go_quiet (fail)
                go_wp2_with (first | (go_at_call 131; refine (l01In_yes _ _ _ _ (by omega) (by omega)).mono ?_; rintro e w1 ⟨rfl, rfl⟩) | (go_at_call 131; refine (l01In_no _ _ _ _ (by omega)).mono ?_; rintro e w1 ⟨rfl, rfl⟩))
                all_goals first
                  | (go_ret
                     refine ⟨ret_b (Mc.ok_row hlt (Mc.row_false hk3 ?_)).symm, bel_drewN Hbel2.out _⟩
                     first
                       | (refine Mc.e1 ?_ ?_ ?_ <;> first | assumption | omega)
                       | (refine Mc.e3 ?_ ?_ <;> first | assumption | omega)
                       | (refine Mc.e6 ?_ ?_ <;> first | assumption | omega)
                       | (refine Mc.e7 ?_ ?_ <;> first | assumption | omega))
                  | (go_roundw
                     (case rel =>
                       refine ⟨k + 1, by omega, by go_num, Mc.ok_succ Hent.out ?_, bel_drewN Hbel2.out nq, Hb02.out, ?_⟩
                       · refine Mc.e2 ?_ ?_ ?_ <;> first | assumption | omega
                       · rw [seen_keep m q k (by omega)]; exact Hbm.out)
                     (case measure => simp [intOf]; omega))
            · go_wp2_with (first | (go_at_call 131; refine (l01In_yes _ _ _ _ (by omega) (by omega)).mono ?_; rintro e w1 ⟨rfl, rfl⟩) | (go_at_call 131; refine (l01In_no _ _ _ _ (by omega)).mono ?_; rintro e w1 ⟨rfl, rfl⟩))
              go_roundw
              case rel => exact ⟨q + 1, by omega, by go_num, fun x hx => by
                by_cases e : x = q
                · rw [e]; exact Mc.row_true fun y hy => Hent.out y (by omega)
                · exact Hrows.out x (by omega), Hbel2.out, Hb02.out⟩
              case measure => simp [intOf]; omega
        · go_wp2_with (first | (go_at_call 131; refine (l01In_yes _ _ _ _ (by omega) (by omega)).mono ?_; rintro e w1 ⟨rfl, rfl⟩) | (go_at_call 131; refine (l01In_no _ _ _ _ (by omega)).mono ?_; rintro e w1 ⟨rfl, rfl⟩))
          go_ret
          exact ⟨ret_b ((m.ok_iff).2 ⟨⟨hL2, hL3⟩, ⟨hS1, hS2⟩, fun x hx => Hrows.out x (by omega)⟩).symm, Hbel.out⟩
    · obtain ⟨hL2, hL3⟩ := hL
      by_cases h1 : 1 ≤ m.S
      · have h2 : 16 < m.S := by omega
        go_wp2_with (first | (go_at_call 131; refine (l01In_yes _ _ _ _ (by omega) (by omega)).mono ?_; rintro e w1 ⟨rfl, rfl⟩) | (go_at_call 131; refine (l01In_no _ _ _ _ (by omega)).mono ?_; rintro e w1 ⟨rfl, rfl⟩))
        go_ret
        exact ⟨ret_b (Mc.ok_S hS).symm, (Below.refl _ _).alloc (Nat.le_refl _) _⟩
      · go_wp2_with (first | (go_at_call 131; refine (l01In_yes _ _ _ _ (by omega) (by omega)).mono ?_; rintro e w1 ⟨rfl, rfl⟩) | (go_at_call 131; refine (l01In_no _ _ _ _ (by omega)).mono ?_; rintro e w1 ⟨rfl, rfl⟩))
        go_ret
        exact ⟨ret_b (Mc.ok_S hS).symm, (Below.refl _ _).alloc (Nat.le_refl _) _⟩
  · by_cases h1 : 2 ≤ m.L
    · have h2 : 3 < m.L := by omega
      go_wp2_with (first | (go_at_call 131; refine (l01In_yes _ _ _ _ (by omega) (by omega)).mono ?_; rintro e w1 ⟨rfl, rfl⟩) | (go_at_call 131; refine (l01In_no _ _ _ _ (by omega)).mono ?_; rintro e w1 ⟨rfl, rfl⟩))
      go_ret
      exact ⟨ret_b (Mc.ok_L hL).symm, (Below.refl _ _).alloc (Nat.le_refl _) _⟩
    · go_wp2_with (first | (go_at_call 131; refine (l01In_yes _ _ _ _ (by omega) (by omega)).mono ?_; rintro e w1 ⟨rfl, rfl⟩) | (go_at_call 131; refine (l01In_no _ _ _ _ (by omega)).mono ?_; rintro e w1 ⟨rfl, rfl⟩))
      go_ret
      exact ⟨ret_b (Mc.ok_L hL).symm, (Below.refl _ _).alloc (Nat.le_refl _) _⟩
end Go.Proofs.Ytjnnbjlombopnaa
