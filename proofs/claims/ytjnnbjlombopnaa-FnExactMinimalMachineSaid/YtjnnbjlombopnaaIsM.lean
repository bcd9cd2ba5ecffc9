/- Walks: IsMachine of the reference and of the program tell Mc.ok; small callees of the program. -/
import Derived.Test.YtjnnbjlombopnaaIs
namespace Go.Proofs.Ytjnnbjlombopnaa
open Go.RowKit

theorem within_yes (n a b : Int) (w : World) (h1 : a ≤ n) (h2 : n ≤ b) : Calls Try.prog 107 #[.int .i64 n, .int .i64 a, .int .i64 b] w fun e w' => e = .returned (.bool true) ∧ w = w' := by
  go_enter Try.func107, Try.ntmps107
  go_wp2
  go_ret
  exact ⟨rfl, rfl⟩
theorem within_no (n a b : Int) (w : World) (h : n < a ∨ b < n) : Calls Try.prog 107 #[.int .i64 n, .int .i64 a, .int .i64 b] w fun e w' => e = .returned (.bool false) ∧ w = w' := by
  by_cases h1 : a ≤ n
  · have h2 : ¬ n ≤ b := by omega
    go_enter Try.func107, Try.ntmps107
    go_wp2
    go_ret
    exact ⟨rfl, rfl⟩
  · go_enter Try.func107, Try.ntmps107
    go_wp2
    go_ret
    exact ⟨rfl, rfl⟩
theorem areLetters_yes (n : Int) (w : World) (h1 : 2 ≤ n) (h2 : n ≤ 3) : Calls Try.prog 106 #[.int .i64 n] w fun e w' => e = .returned (.bool true) ∧ w = w' := by
  go_enter Try.func106, Try.ntmps106
  go_wp2_with (go_at_call 107; refine (within_yes _ _ _ _ (by omega) (by omega)).mono ?_; rintro e w1 ⟨rfl, rfl⟩)
  go_ret
  exact ⟨rfl, rfl⟩
theorem areLetters_no (n : Int) (w : World) (h : n < 2 ∨ 3 < n) : Calls Try.prog 106 #[.int .i64 n] w fun e w' => e = .returned (.bool false) ∧ w = w' := by
  go_enter Try.func106, Try.ntmps106
  go_wp2_with (go_at_call 107; refine (within_no _ _ _ _ (by omega)).mono ?_; rintro e w1 ⟨rfl, rfl⟩)
  go_ret
  exact ⟨rfl, rfl⟩

theorem specIsMachine_any (m : Mc) (cs : Array Value) (hm : m.Is cs) (w : World) :
    Calls Try.prog 32 #[.agg cs] w fun e w' => e = .returned (.bool m.ok) ∧ Below w.heap.size w w' := by
  go_enter Try.func32, Try.ntmps32
  go_wp2_with (first | (refine ldI rfl (.tmp 1) rfl w.heap.size rfl hm (hp_new rfl) ?_) | (go_at_call 104; refine (l01Is_any m cs hm _).mono ?_; rintro e w1 ⟨rfl, hb⟩))
  go_ret
  exact ⟨rfl, bel_then ((Below.refl _ _).alloc (Nat.le_refl _) _) (by assumption)⟩

set_option maxHeartbeats 400000 in
theorem implIsMachine_any (m : Mc) (cs : Array Value) (hm : m.Is cs) (w : World) :
    Calls Try.prog 34 #[.agg cs] w fun e w' => e = .returned (.bool m.ok) ∧ Below w.heap.size w w' := by
  have c0 := hm.l
  have c1 := hm.s
  have Hm := hidd hm
  clear hm
  go_enter Try.func34, Try.ntmps34
  by_cases hL : 2 ≤ m.L ∧ m.L ≤ 3
  · obtain ⟨hL2, hL3⟩ := hL
    by_cases hS : 1 ≤ m.S ∧ m.S ≤ 16
    · obtain ⟨hS1, hS2⟩ := hS
      go_wp2_with (first | (go_at_call 106; refine (areLetters_yes _ _ hL2 hL3).mono ?_; rintro e w1 ⟨rfl, rfl⟩) | (go_at_call 107; refine (within_yes _ _ _ _ hS1 hS2).mono ?_; rintro e w1 ⟨rfl, rfl⟩))
      go_loopw [14] (fun i wr => ∃ k : Nat, k ≤ 16 ∧ i = .int .i64 k ∧ (∀ q, q < k → m.rowOk q = true) ∧ Below w.heap.size w wr ∧ wr.heap[w.heap.size]? = some (.cells cs 27 (0, 0))) (fun i _ => 16 - (intOf i).toNat)
      case atStart => exact ⟨0, by omega, rfl, fun q hq => by omega, (Below.refl _ _).alloc (Nat.le_refl _) _, hp_new rfl⟩
      case round =>
        obtain ⟨q, hq, rfl, hrows, hbel, hb0⟩ := hrel
        have Hrows := hidd hrows
        have Hbel := hidd hbel
        have Hb0 := hidd hb0
        clear hrows hbel hb0
        by_cases hlt : q < 16
        · cases hr : m.rowOk q with
          | true =>
            have Hr := hidd hr
            clear hr
            go_wp2_with (go_at_call 108; refine (isRow_any m _ 0 q _ (Mc.At.of_is Hm.out Hb0.out) hlt hL3).mono ?_; rintro e w1 ⟨rfl, hb⟩; rw [Hr.out])
            go_roundw
            case rel => exact ⟨q + 1, by omega, by go_num, fun x hx => by
              by_cases e : x = q
              · rw [e]; exact Hr.out
              · exact Hrows.out x (by omega), bel_then Hbel.out (by assumption), hp_bel Hb0.out (by assumption)⟩
            case measure => simp [intOf]; omega
          | false =>
            have Hr := hidd hr
            clear hr
            go_wp2_with (go_at_call 108; refine (isRow_any m _ 0 q _ (Mc.At.of_is Hm.out Hb0.out) hlt hL3).mono ?_; rintro e w1 ⟨rfl, hb⟩; rw [Hr.out])
            go_ret
            exact ⟨ret_b (Mc.ok_row hlt Hr.out).symm, bel_then Hbel.out (by assumption)⟩
        · go_wp2
          go_ret
          exact ⟨ret_b ((m.ok_iff).2 ⟨⟨hL2, hL3⟩, ⟨hS1, hS2⟩, fun x hx => Hrows.out x (by omega)⟩).symm, Hbel.out⟩
    · go_wp2_with (first | (go_at_call 106; refine (areLetters_yes _ _ hL2 hL3).mono ?_; rintro e w1 ⟨rfl, rfl⟩) | (go_at_call 107; refine (within_no _ _ _ _ (by omega)).mono ?_; rintro e w1 ⟨rfl, rfl⟩))
      go_ret
      exact ⟨ret_b (Mc.ok_S hS).symm, (Below.refl _ _).alloc (Nat.le_refl _) _⟩
  · go_wp2_with (go_at_call 106; refine (areLetters_no _ _ (by omega)).mono ?_; rintro e w1 ⟨rfl, rfl⟩)
    go_ret
    exact ⟨ret_b (Mc.ok_L hL).symm, (Below.refl _ _).alloc (Nat.le_refl _) _⟩
end Go.Proofs.Ytjnnbjlombopnaa
