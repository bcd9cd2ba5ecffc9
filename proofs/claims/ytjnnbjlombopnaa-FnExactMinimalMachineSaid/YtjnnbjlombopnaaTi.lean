/- Walks: TrivialStates of the program. -/
import Derived.Test.YtjnnbjlombopnaaTrv
namespace Go.Proofs.Ytjnnbjlombopnaa
open Go.RowKit

set_option maxRecDepth 100000 in
set_option maxHeartbeats 1000000 in
theorem implTrivialStates_any (m : Mc) (cs : Array Value) (hm : m.Is cs) (w : World) :
    Calls Try.prog 53 #[.agg cs] w fun e w' => (∃ u, e = .returned (.tuple #[u, .int .i64 (tsR m).2]) ∧ Own w' w.heap.size 2 u (ints (tsR m).1)) ∧ Below w.heap.size w w' := by
  have Hm := hidd hm
  clear hm
  cases hq : m.ok with
  | false =>
    have Hq := hidd hq
    have HR := hidd (show tsR m = ([], 1) by unfold tsR; rw [hq]; rfl)
    clear hq
    go_enter Try.func53, Try.ntmps53
    go_wp2_with (refine ldI rfl (.tmp 1) rfl w.heap.size rfl Hm.out (hp_new rfl) ?_)
    refine (implIsMachine_any m cs Hm.out _).mono ?_
    rintro e w' ⟨rfl, hb⟩
    rw [Hq.out]
    go_wp2
    go_ret2
    exact ⟨⟨_, by rw [HR.out]; rfl, by rw [HR.out]; exact Own.nil _ _ _⟩, bel_then (bel_alloc _ _) hb⟩
  | true =>
    have HR : Hid (tsR m = (m.gm.trL m.gm.s, 0)) := hidd (by unfold tsR; rw [hq]; rfl)
    obtain ⟨g, rfl, hok⟩ := Mc.to_gm hq
    have Hq := hidd hq
    have HO := hidd hok
    clear hq hok
    go_enter Try.func53, Try.ntmps53
    go_wp2_with (refine ldI rfl (.tmp 1) rfl w.heap.size rfl Hm.out (hp_new rfl) ?_)
    refine (implIsMachine_any g.mc cs Hm.out _).mono ?_
    rintro e w1 ⟨rfl, hb⟩
    rw [Hq.out]
    have B1 := hidd (bel_then (bel_alloc _ _) hb)
    have K1 := hidd (hp_bel (hp_new rfl) hb : w1.heap[w.heap.size]? = some (.cells cs 27 (0, 0)))
    clear hb
    go_wp2_with fail
    refine (table_any g HO.out w.heap.size 0 _ (Gm.At.of_is ⟨Hm.out⟩ K1.out)).mono ?_
    rintro e w2 ⟨rfl, ht, hb⟩
    have B2 := hidd (bel_then B1.out hb)
    have HT := hidd ht
    clear ht hb
    go_wp2_with fail
    refine (tableTrivial_any g HO.out _ _ HT.out).mono ?_
    rintro e w3 ⟨rfl, hA, hb⟩
    have B3 := hidd (bel_then B2.out hb)
    have A3 := hidd hA
    have HGs := hidd (g.trL_len)
    have s16 := HO.out.s16
    have hlt3 := hp_lt hA
    clear hA hb
    go_wp2_with fail
    go_loopw [4, 13] (fun u i wr => ∃ k : Nat, k ≤ g.s ∧ i = .int .i64 k ∧ Hid (Own wr w3.heap.size 2 u (ints (g.trL k))) ∧ Hid (Below w3.heap.size w3 wr)) (fun _ i _ => g.s - (intOf i).toNat)
    case atStart => exact ⟨0, Nat.zero_le _, rfl, hidd (by rw [g.trL_zero]; exact Own.nil _ _ _), hidd (Below.refl _ _)⟩
    case round =>
      obtain ⟨k, hk, rfl, Hok, Hb⟩ := hrel
      have hbase := Hb.out.size
      by_cases hlt : k < g.s
      · have d1 := (blkc (hp_bel A3.out Hb.out) k).trans (bv_get g.tr hlt)
        have j1 : (k : Int) < g.s := by omega
        have hlen2 : (ints (g.trL k)).length + 1 ≤ 1099511627776 := by rw [ints_length]; have := HGs.out k; omega
        cases ht : g.tr k with
        | true =>
          rw [ht] at d1
          have HE := hidd (g.trL_yes ht)
          clear ht
          go_wp2_with (at_builtin; refine app_own rfl _ _ _ rfl w3.heap.size 2 (.int .i64 0) 8 Try.underlying30 info_i64 rfl Hok.out rfl rfl rfl hlen2 (by decide) hbase ?_; intro v' w4 ho hgr hle; have Ho2 := hidd ho; have b2 := hidd (bel_own Hok.out hgr hbase); clear ho hgr)
          go_roundw
          case rel => exact ⟨k + 1, by omega, by go_num, hidd (by rw [HE.out]; exact Ho2.out), hidd (Hb.out.trans b2.out)⟩
          case measure => simp [intOf]; omega
        | false =>
          rw [ht] at d1
          have HE := hidd (g.trL_no ht)
          clear ht
          go_wp2_with fail
          go_roundw
          case rel => exact ⟨k + 1, by omega, by go_num, hidd (by rw [HE.out]; exact Hok.out), Hb⟩
          case measure => simp [intOf]; omega
      · have he : k = g.s := by omega
        subst he
        go_wp2_with fail
        go_ret2
        exact ⟨⟨_, by rw [HR.out]; rfl, by rw [HR.out]; exact Hok.out.mono B3.out.size⟩, bel_then B3.out Hb.out⟩
end Go.Proofs.Ytjnnbjlombopnaa
