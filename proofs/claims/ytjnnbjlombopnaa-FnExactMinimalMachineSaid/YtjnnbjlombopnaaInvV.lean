/- Walks: the inverse machine of the reference. -/
import Derived.Test.YtjnnbjlombopnaaInvW
namespace Go.Proofs.Ytjnnbjlombopnaa
open Go.RowKit

set_option maxRecDepth 100000 in
set_option maxHeartbeats 1000000 in
theorem l01Inverse_any (g : Gm) (hok : g.Ok) (cs : Array Value) (hg : g.Is cs) (w : World) :
    Calls Try.prog 112 #[.agg cs] w fun e w' => e = .returned (.agg g.inv.mc.cells) ∧ Below w.heap.size w w' := by
  have c0 := hg.l
  have c1 := hg.s
  have hz := zeroM_run
  have hz1 := zeroM_size
  have hz2 := zeroM_ne
  have hst := st_new ((w.alloc (.cells cs 27)).alloc (.cells zeroM 27)) (w.heap.size + 2) (by simp) g.l g.s
  have HG := hidd hg
  have HO := hidd hok
  clear hg hok
  go_enter Try.func112, Try.ntmps112
  go_wp2_with fail
  clear hst
  obtain ⟨w1, hw1⟩ : ∃ w1, w1 = (((w.alloc (.cells cs 27)).alloc (.cells zeroM 27)).alloc (.cells (bld g.l g.s) 27)) := ⟨_, rfl⟩
  rw [← hw1]
  have Bel := hidd (show Below w.heap.size w w1 by rw [hw1]; exact (((Below.refl _ _).alloc (Nat.le_refl _) _).alloc (by simp) _).alloc (by simp; omega) _)
  have NA := hidd (show w1.heap[w.heap.size]? = some (.cells cs 27 (0, 0)) by rw [hw1]; exact hp_old (hp_old (hp_new rfl)))
  have N0 := hidd (show w1.heap[w.heap.size + 1]? = some (.cells zeroM 27 (0, 0)) by rw [hw1]; exact hp_old (hp_new (by simp)))
  have N1 := hidd (show w1.heap[w.heap.size + 2]? = some (.cells (g.invP 0 0).cells 27 (0, 0)) by rw [hw1, g.invP_zero, ← bld_cells]; exact hp_new (by simp))
  clear hw1 hz hz1 hz2 c0 c1
  go_loopw [4] (fun i wr => ∃ q : Nat, q ≤ g.s ∧ i = .int .i64 q ∧ Hid (Below w.heap.size w wr) ∧ Hid (wr.heap[w.heap.size]? = some (.cells cs 27 (0, 0))) ∧ Hid (wr.heap[w.heap.size + 1]? = some (.cells zeroM 27 (0, 0))) ∧ Hid (wr.heap[w.heap.size + 2]? = some (.cells (g.invP q 0).cells 27 (0, 0)))) (fun i _ => g.s - (intOf i).toNat)
  case atStart => exact ⟨0, Nat.zero_le _, rfl, Bel.out, NA.out, N0.out, N1.out⟩
  case round =>
    obtain ⟨q, hq, rfl, Hb, MA, M0, M1⟩ := hrel
    have s16 := HO.out.s16
    have l3 := HO.out.l3
    have a1 := (Gm.At.of_is HG.out MA.out).s
    by_cases hlt : q < g.s
    · go_wp2_with fail
      clear a1
      obtain ⟨wo, rfl⟩ : ∃ wo : World, wo = wr := ⟨_, rfl⟩
      go_loopw [5] (fun i wr => ∃ k : Nat, k ≤ g.l ∧ i = .int .i64 k ∧ Hid (Below w.heap.size w wr) ∧ Hid (wr.heap[w.heap.size]? = some (.cells cs 27 (0, 0))) ∧ Hid (wr.heap[w.heap.size + 1]? = some (.cells zeroM 27 (0, 0))) ∧ Hid (wr.heap[w.heap.size + 2]? = some (.cells (g.invP q k).cells 27 (0, 0)))) (fun i _ => g.l - (intOf i).toNat)
      case atStart => exact ⟨0, Nat.zero_le _, rfl, Hb.out, MA.out, M0.out, M1.out⟩
      case round =>
        obtain ⟨k, hk, rfl, Hb2, PA, P0, P1⟩ := hrel
        have A2 := hidd (Gm.At.of_is HG.out PA.out)
        have a1 := A2.out.l
        by_cases hkl : k < g.l
        · have hol := HO.out.olt q k hlt hkl
          have a2 := A2.out.n q k (by omega) (by omega)
          have a3 := A2.out.o q k (by omega) (by omega)
          rw [Nat.zero_add] at a2 a3
          have d1 := (blkc P1.out (50 + q * 3 + g.ou q k)).trans ((Mc.cells_get _ _).trans (if_pos (by omega)))
          have d2 := (blkc P1.out (2 + q * 3 + g.ou q k)).trans ((Mc.cells_get _ _).trans (if_pos (by omega)))
          obtain ⟨x1, hx1⟩ : ∃ x, x = (g.invP q k).cellAt (50 + q * 3 + g.ou q k) := ⟨_, rfl⟩
          obtain ⟨x2, hx2⟩ : ∃ x, x = (g.invP q k).cellAt (2 + q * 3 + g.ou q k) := ⟨_, rfl⟩
          rw [← hx1] at d1
          rw [← hx2] at d2
          clear hx1 hx2
          have f1 := blkf P1.out (50 + q * 3 + g.ou q k)
          have f2 := blkf P1.out (2 + q * 3 + g.ou q k)
          have j1 : (q : Int) < 16 := by omega
          have j2 : (k : Int) < 3 := by omega
          have j3 : (g.ou q k : Int) < 3 := by omega
          have j4 : (0 : Int) ≤ q := by omega
          have j5 : (0 : Int) ≤ k := by omega
          have j6 : (0 : Int) ≤ (g.ou q k : Int) := by omega
          have hn256 := A2.out.nb q k (by omega) (by omega)
          have ho256 := A2.out.ob q k (by omega) (by omega)
          go_wp2_with fail
          go_region
          go_wp2_with fail
          go_roundw
          case rel =>
            refine ⟨k + 1, by omega, by go_num, bel_drewN ((Hb2.out.setCell (by dsimp only; omega) _).setCell (by dsimp only; omega) _) 1, ?_, ?_, ?_⟩
            · exact hp_far (hp_far PA.out (by dsimp only; omega) _) (by dsimp only; omega) _
            · exact hp_far (hp_far P0.out (by dsimp only; omega) _) (by dsimp only; omega) _
            · have := blk_two P1.out (50 + q * 3 + g.ou q k) (2 + q * 3 + g.ou q k) (.int .u8 (k : Nat)) (.int .u8 (g.nx q k : Nat))
              rw [Mc.cells_setO _ _ _ _ (by omega) (by omega), Mc.cells_setN _ _ _ _ (by omega) (by omega), g.invP_step HO.out q k hlt hkl] at this
              exact this
          case measure => simp [intOf]; omega
        · have he : k = g.l := by omega
          subst he
          go_wp2_with fail
          go_roundw
          case rel => exact ⟨q + 1, by omega, by go_num, Hb2.out, PA.out, P0.out, by have := P1.out; rw [g.invP_row HO.out q hlt] at this; exact this⟩
          case measure => simp [intOf]; omega
    · have he : q = g.s := by omega
      subst he
      rw [g.invP_end] at M1
      go_wp2_with (first | (refine ldC rfl (.tmp 3) rfl _ g.inv.mc M1.out (by rfl) ?_) | (refine stC rfl (.tmp 2) (.tmp 48) rfl _ g.inv.mc M0.out zeroM_size (by rfl) (by rfl) ?_))
      refine bodyPost_ret (v := .agg g.inv.mc.cells) (results_cell_row rfl _ _ (w.heap.size + 1) 27 _ (0, 0) _ rfl (setRow_heap _ _ _ _ _ _ M0.out) Try.underlying27 rfl (cells98i _)) rfl ⟨rfl, ?_⟩
      exact bel_row Hb.out (by omega) _

end Go.Proofs.Ytjnnbjlombopnaa
