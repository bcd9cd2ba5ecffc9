/- Walks: the laws' comparison of machines. -/
import Derived.Test.YtjnnbjlombopnaaToM
import Derived.Test.YtjnnbjlombopnaaGw
import Derived.BigQuiet
import Derived.Deep.QuietTactic
import Derived.Deep.RegionWith
namespace Go.Proofs.Ytjnnbjlombopnaa
open Go.RowKit

set_option maxHeartbeats 400000 in
theorem eqByteA3_any (a b c : Int) (w : World) :
    Calls Try.prog 182 #[.agg #[.int .u8 a, .int .u8 b, .int .u8 c], .agg #[.int .u8 a, .int .u8 b, .int .u8 c]] w fun e w' => e = .returned (.bool true) ∧ Below w.heap.size w w' := by
  go_enter Try.func182, Try.ntmps182
  go_wp2
  obtain ⟨w1, hw1⟩ : ∃ w1, w1 = (w.alloc (.cells #[.int .u8 a, .int .u8 b, .int .u8 c] 22)).alloc (.cells #[.int .u8 a, .int .u8 b, .int .u8 c] 22) := ⟨_, rfl⟩
  rw [← hw1]
  have Bel := hidd (show Below w.heap.size w w1 by rw [hw1]; exact ((Below.refl _ _).alloc (Nat.le_refl _) _).alloc (by simp) _)
  have N0 := hidd (show w1.heap[w.heap.size]? = some (.cells #[.int .u8 a, .int .u8 b, .int .u8 c] 22 (0, 0)) by rw [hw1]; exact hp_old (hp_new rfl))
  have N1 := hidd (show w1.heap[w.heap.size + 1]? = some (.cells #[.int .u8 a, .int .u8 b, .int .u8 c] 22 (0, 0)) by rw [hw1]; exact hp_new (by simp))
  clear hw1
  go_loopw [5] (fun i wr => ∃ k : Nat, k ≤ 3 ∧ i = .int .i64 k ∧ Hid (Below w1.heap.size w1 wr)) (fun i _ => 3 - (intOf i).toNat)
  case atStart => exact ⟨0, Nat.zero_le _, rfl, Below.refl _ _⟩
  case round =>
    obtain ⟨k, hk, rfl, Hb⟩ := hrel
    by_cases hlt : k < 3
    · obtain ⟨x, hx⟩ : ∃ x : Int, (#[Value.int .u8 a, .int .u8 b, .int .u8 c] : Array Value)[k]? = some (.int .u8 x) := by
        have h3 : k = 0 ∨ k = 1 ∨ k = 2 := by omega
        rcases h3 with rfl | rfl | rfl
        · exact ⟨a, rfl⟩
        · exact ⟨b, rfl⟩
        · exact ⟨c, rfl⟩
      have d0 := (blkc (hp_bel N0.out Hb.out) k).trans hx
      have d1 := (blkc (hp_bel N1.out Hb.out) k).trans hx
      clear hx
      have i1 : (k : Int) < 3 := by omega
      have i2 : (0 : Int) ≤ k := by omega
      go_wp2
      go_quiet (fail)
      go_wp2
      go_roundw
      case rel => exact ⟨k + 1, by omega, by go_num, bel_drewN Hb.out _⟩
      case measure => simp [intOf]; omega
    · go_wp2
      go_ret
      exact ⟨rfl, bel_then Bel.out Hb.out⟩

set_option maxHeartbeats 400000 in
theorem eqByteA3A16_any (cs : Array Value) (f : Nat → Nat) (hc : ∀ j, j < 48 → cs[j]? = some (.int .u8 (f j))) (w : World) :
    Calls Try.prog 114 #[.agg cs, .agg cs] w fun e w' => e = .returned (.bool true) ∧ Below w.heap.size w w' := by
  have Hc := hidd hc
  clear hc
  go_enter Try.func114, Try.ntmps114
  go_wp2
  obtain ⟨w1, hw1⟩ : ∃ w1, w1 = (w.alloc (.cells cs 23)).alloc (.cells cs 23) := ⟨_, rfl⟩
  rw [← hw1]
  have Bel := hidd (show Below w.heap.size w w1 by rw [hw1]; exact ((Below.refl _ _).alloc (Nat.le_refl _) _).alloc (by simp) _)
  have N0 := hidd (show w1.heap[w.heap.size]? = some (.cells cs 23 (0, 0)) by rw [hw1]; exact hp_old (hp_new rfl))
  have N1 := hidd (show w1.heap[w.heap.size + 1]? = some (.cells cs 23 (0, 0)) by rw [hw1]; exact hp_new (by simp))
  clear hw1
  go_loopw [5] (fun i wr => ∃ k : Nat, k ≤ 16 ∧ i = .int .i64 k ∧ Hid (Below w1.heap.size w1 wr)) (fun i _ => 16 - (intOf i).toNat)
  case atStart => exact ⟨0, Nat.zero_le _, rfl, Below.refl _ _⟩
  case round =>
    obtain ⟨k, hk, rfl, Hb⟩ := hrel
    by_cases hlt : k < 16
    · have H0 := hp_bel N0.out Hb.out
      have H1 := hp_bel N1.out Hb.out
      have c0 := (blkc H0 (k * 3)).trans (Hc.out _ (by omega))
      have c1 := (blkc H0 (k * 3 + 1)).trans (Hc.out _ (by omega))
      have c2 := (blkc H0 (k * 3 + 2)).trans (Hc.out _ (by omega))
      have d0 := (blkc H1 (k * 3)).trans (Hc.out _ (by omega))
      have d1 := (blkc H1 (k * 3 + 1)).trans (Hc.out _ (by omega))
      have d2 := (blkc H1 (k * 3 + 2)).trans (Hc.out _ (by omega))
      clear H0 H1
      have i1 : (k : Int) < 16 := by omega
      have i2 : (0 : Int) ≤ k := by omega
      go_wp2
      go_region_with ((go_at_call 182; refine (eqByteA3_any _ _ _ _).mono ?_; rintro e w2 ⟨rfl, hb⟩))
      all_goals
        go_wp2
        go_roundw
        (case rel => exact ⟨k + 1, by omega, by go_num, bel_then (bel_drewN Hb.out 1) hb⟩)
        (case measure => simp [intOf]; omega)
    · go_wp2
      go_ret
      exact ⟨rfl, bel_then Bel.out Hb.out⟩

set_option maxHeartbeats 400000 in
theorem eqMachine_any (m : Mc) (cs : Array Value) (hm : m.Is cs) (w : World) :
    Calls Try.prog 41 #[.agg cs, .agg cs] w fun e w' => e = .returned (.bool true) ∧ Below w.heap.size w w' := by
  have c0 := hm.l
  have c1 := hm.s
  have Hm := hidd hm
  clear hm
  go_enter Try.func41, Try.ntmps41
  go_wp2_with (first | (refine wpList_load_at rfl 23 (.tmp 15) rfl w.heap.size 2 48 rfl 27 cs (0, 0) _ (hp_old (hp_new rfl)) Try.underlying23 rfl (by kernel_rfl) (by have := Hm.out.size; omega) ?_) | (refine wpList_load_at rfl 23 (.tmp 17) rfl (w.heap.size + 1) 2 48 rfl 27 cs (0, 0) _ (hp_new (by simp)) Try.underlying23 rfl (by kernel_rfl) (by have := Hm.out.size; omega) ?_))
  refine (eqByteA3A16_any _ (fun j => m.nx (j / 3) (j % 3)) Hm.out.nxs.2 _).mono ?_
  rintro e w1 ⟨rfl, hb⟩
  have B1 := hidd (bel_then ((bel_alloc' w (.cells cs 27)).alloc (by simp) _) hb)
  have K0 := hidd (hp_bel (hp_old (hp_new rfl)) hb : w1.heap[w.heap.size]? = some (.cells cs 27 (0, 0)))
  have K1 := hidd (hp_bel (hp_new (by simp)) hb : w1.heap[w.heap.size + 1]? = some (.cells cs 27 (0, 0)))
  clear hb
  go_wp2_with (first | (refine wpList_load_at rfl 23 (.tmp 21) rfl w.heap.size 50 48 rfl 27 cs (0, 0) _ K0.out Try.underlying23 rfl (by kernel_rfl) (by have := Hm.out.size; omega) ?_) | (refine wpList_load_at rfl 23 (.tmp 23) rfl (w.heap.size + 1) 50 48 rfl 27 cs (0, 0) _ K1.out Try.underlying23 rfl (by kernel_rfl) (by have := Hm.out.size; omega) ?_))
  refine (eqByteA3A16_any _ (fun j => m.ou (j / 3) (j % 3)) Hm.out.ous.2 _).mono ?_
  rintro e w2 ⟨rfl, hb⟩
  go_wp2
  go_ret
  exact ⟨rfl, bel_then B1.out hb⟩
end Go.Proofs.Ytjnnbjlombopnaa
