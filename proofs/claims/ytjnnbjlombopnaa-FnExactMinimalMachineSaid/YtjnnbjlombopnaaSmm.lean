/- Walks: MinimalMachine of the reference. -/
import Derived.Test.YtjnnbjlombopnaaMnm
namespace Go.Proofs.Ytjnnbjlombopnaa
open Go.RowKit

set_option maxRecDepth 100000 in
set_option maxHeartbeats 1000000 in
theorem specMinimalMachine_any (m : Mc) (cs : Array Value) (hm : m.Is cs) (w : World) :
    Calls Try.prog 71 #[.agg cs] w fun e w' => (∃ u, e = .returned (.tuple #[.agg (mnR m).1.cells, u, .int .i64 (mnR m).2.2]) ∧ Own w' w.heap.size 2 u (ints (mnR m).2.1)) ∧ Below w.heap.size w w' := by
  have hz := zeroM_run
  have Hm := hidd hm
  clear hm
  cases hq : m.ok with
  | false =>
    have HR : Hid (mnR m = (Mc.zero, [], 1)) := hidd (by unfold mnR; rw [hq]; rfl)
    have Hq := hidd hq
    clear hq
    go_enter Try.func71, Try.ntmps71
    go_wp2_with (refine ldI rfl (.tmp 1) rfl w.heap.size rfl Hm.out (hp_old (hp_new rfl)) ?_)
    refine (l01Is_any _ cs Hm.out _).mono ?_
    rintro e w1 ⟨rfl, hb⟩
    rw [Hq.out]
    have B1 := hidd (bel_then ((bel_alloc w (.cells cs 27)).alloc (by simp) _) hb)
    have K0 := hidd (hp_bel (hp_new (by simp)) hb : w1.heap[w.heap.size + 1]? = some (.cells zeroM 27 (0, 0)))
    clear hb
    go_wp2_with (refine stC rfl (.tmp 2) (.tmp 12) rfl _ Mc.zero K0.out zeroM_size (by rfl) (by rw [← zeroM_cells]; rfl) ?_)
    refine bodyPost_ret (v := .tuple #[.agg Mc.zero.cells, .slice none 0 0, .int .i64 1]) (results_cell_tmp2 rfl _ _ (w.heap.size + 1) 27 _ (0, 0) _ _ _ rfl rfl rfl (setRow_heap _ _ _ _ _ _ K0.out) Try.underlying27 rfl (cells98i _)) rfl ⟨⟨_, by rw [HR.out], by rw [HR.out]; exact Own.nil _ _ _⟩, ?_⟩
    exact bel_row B1.out (by omega) _
  | true =>
    obtain ⟨g, rfl, hok⟩ := Mc.to_gm hq
    have HR : Hid (mnR g.mc = (g.mn.mc, g.numL g.s, 0)) := hidd (by unfold mnR; rw [hq]; rfl)
    have Hq := hidd hq
    have Hok := hidd hok
    have s16 := hok.s16
    clear hq hok
    go_enter Try.func71, Try.ntmps71
    go_wp2_with (refine ldI rfl (.tmp 1) rfl w.heap.size rfl Hm.out (hp_old (hp_new rfl)) ?_)
    refine (l01Is_any _ cs Hm.out _).mono ?_
    rintro e w1 ⟨rfl, hb⟩
    rw [Hq.out]
    have B1 := hidd (bel_then ((bel_alloc w (.cells cs 27)).alloc (by simp) _) hb)
    have K1 := hidd (hp_bel (hp_old (hp_new rfl)) hb : w1.heap[w.heap.size]? = some (.cells cs 27 (0, 0)))
    have K0 := hidd (hp_bel (hp_new (by simp)) hb : w1.heap[w.heap.size + 1]? = some (.cells zeroM 27 (0, 0)))
    clear hb
    go_wp2_with (refine ldI rfl (.tmp 1) rfl w.heap.size rfl Hm.out K1.out ?_)
    refine (l01Minimal_any g Hok.out cs ⟨Hm.out⟩ _).mono ?_
    rintro e w2 ⟨rfl, hb⟩
    have B2 := hidd (bel_then B1.out hb)
    have K2 := hidd (hp_bel K0.out hb)
    have KM2 := hidd (hp_bel K1.out hb)
    have hz1 := B1.out.size
    clear hb
    have HA1 := hidd (show ∀ x, ((w2.alloc (.cells zeroM 27)).alloc x).heap[w2.heap.size]? = some (.cells zeroM 27 (0, 0)) from fun x => hp_old (hp_new rfl))
    have HA2 := hidd (show ∀ (y : Obj) (cs' : Array Value) (zs : Array Value), (((w2.alloc y).alloc (.cells zs 105)).setRow w2.heap.size cs').heap[w2.heap.size + 1]? = some (.cells zs 105 (0, 0)) from fun y cs' zs => hp_row (hp_new (by simp)) (by omega) _)
    go_wp2_with (first | (refine stC rfl (.tmp 5) (.tmp 16) rfl w2.heap.size g.mn.mc (HA1.out _) zeroM_size (by rfl) (by rfl) ?_) | (refine stAI rfl (.tmp 6) (.tmp 17) rfl (w2.heap.size + 1) _ (fun _ => rfl) (HA2.out _ _ _) (by rfl) (by rfl) (by rfl) ?_))
    obtain ⟨w3, hw3⟩ : ∃ w3, w3 = (((w2.alloc (.cells zeroM 27)).alloc (.cells (iv (fun _ => 0) 16) 105)).setRow w2.heap.size g.mn.mc.cells).setRow (w2.heap.size + 1) (iv g.nm16 16) := ⟨_, rfl⟩
    change Code.wp _ _ _ _ (((((w2.alloc (.cells zeroM 27)).alloc (.cells (iv (fun _ => 0) 16) 105)).setRow w2.heap.size g.mn.mc.cells).setRow (w2.heap.size + 1) (iv g.nm16 16)).alloc (.cells #[] 2))
    rw [← hw3]
    have b23 : Below w2.heap.size w2 w3 := by rw [hw3]; exact bel_row (bel_row ((bel_alloc' _ _).alloc (by simp) _) (Nat.le_refl _) _) (by omega) _
    have M3 := hidd (show w3.heap[w2.heap.size]? = some (.cells g.mn.mc.cells 27 (0, 0)) by rw [hw3]; exact hp_row (setRow_heap _ _ _ _ _ _ (HA1.out _)) (by omega) _)
    have N3 := hidd (show w3.heap[w2.heap.size + 1]? = some (.cells (iv g.nm16 16) 105 (0, 0)) by rw [hw3]; exact setRow_heap _ _ _ _ _ _ (HA2.out _ _ _))
    have B3 := hidd (bel_then B2.out b23)
    have K3 := hidd (hp_bel K2.out b23)
    have KM3 := hidd (hp_bel KM2.out b23)
    have O4 := hidd (show Own (w3.alloc (.cells #[] 2)) w3.heap.size 2 (.slice (some ⟨(w3.heap.size), 0, none⟩) 0 0) (ints (g.numL 0)) from Own.empty w3 2 w3.heap.size (Nat.le_refl _))
    have hsz : w3.heap.size = w2.heap.size + 1 + 1 := by rw [hw3]; simp [World.setRow]
    have b34 := hidd (bel_alloc' w3 (.cells #[] 2))
    obtain ⟨w4, hw4⟩ : ∃ w4, w4 = w3.alloc (.cells #[] 2) := ⟨_, rfl⟩
    rw [← hw4] at O4 b34 ⊢
    rw [← hsz]
    clear hw3 hw4 b23 HA1 HA2 K1 KM2 K2 hz hsz
    go_loopw [7, 8] (fun n i wr => ∃ q : Nat, q ≤ g.s ∧ i = .int .i64 q ∧ Hid (Own wr w3.heap.size 2 n (ints (g.numL q))) ∧ Hid (Below w3.heap.size w3 wr)) (fun _ i _ => g.s - (intOf i).toNat)
    case atStart => exact ⟨0, Nat.zero_le _, rfl, O4, b34⟩
    case round =>
      obtain ⟨q, hq, rfl, HN, Hb⟩ := hrel
      have a1 := (Gm.At.of_is ⟨Hm.out⟩ (hp_bel KM3.out Hb.out) : g.At wr w.heap.size 0).s
      by_cases hqs : q < g.s
      · have d1 := (blkc (hp_bel N3.out Hb.out) q).trans (iv_get g.nm16 (by omega))
        rw [show g.nm16 q = g.num q from if_pos hqs] at d1
        have j1 : (q : Int) < 16 := by omega
        have HE := hidd (g.numL_succ q)
        have hlen2 : (ints (g.numL q)).length + 1 ≤ 1099511627776 := by rw [ints_length, g.numL_len]; omega
        have hbase := Hb.out.size
        go_wp2_with (at_builtin; refine app_own rfl _ _ _ rfl w3.heap.size 2 (.int .i64 0) 8 Try.underlying30 info_i64 rfl HN.out rfl rfl rfl hlen2 (by decide) hbase ?_; intro v' w5 ho hgr hle; have Ho2 := hidd ho; have b2 := hidd (bel_own HN.out hgr hbase); clear ho hgr)
        go_roundw
        case rel => exact ⟨q + 1, by omega, by go_num, hidd (by rw [HE.out]; exact Ho2.out), hidd (Hb.out.trans b2.out)⟩
        case measure => simp [intOf]; omega
      · have he : q = g.s := by omega
        subst he
        have hsz3 := B3.out.size
        go_wp2_with (first | (refine ldC rfl (.tmp 5) rfl _ g.mn.mc (hp_bel M3.out Hb.out) (by rfl) ?_) | (refine stC rfl (.tmp 2) (.tmp 31) rfl _ g.mn.mc (hp_bel K3.out Hb.out) zeroM_size (by rfl) (by rfl) ?_))
        refine bodyPost_ret (v := .tuple #[.agg g.mn.mc.cells, _, .int .i64 0]) (results_cell_tmp2 rfl _ _ (w.heap.size + 1) 27 _ (0, 0) _ _ _ rfl rfl rfl (setRow_heap _ _ _ _ _ _ (hp_bel K3.out Hb.out)) Try.underlying27 rfl (cells98i _)) rfl ⟨⟨_, by rw [HR.out], ?_⟩, ?_⟩
        · rw [HR.out]
          have hlt := hp_lt K3.out
          exact (HN.out.mono hsz3).grown (row := some (w.heap.size + 1)) ⟨rfl, rfl, rfl, by simp [World.setRow], fun k hk hne => setRow_other _ _ _ _ (fun e => hne (by rw [e]))⟩ (.inr (HN.out.ne_low hlt))
        · exact bel_row (bel_then B3.out Hb.out) (by omega) _
end Go.Proofs.Ytjnnbjlombopnaa
