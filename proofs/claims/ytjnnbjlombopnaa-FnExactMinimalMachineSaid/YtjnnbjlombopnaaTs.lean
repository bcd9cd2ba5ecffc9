/- Walks: TrivialStates, of the reference. -/
import Derived.Test.YtjnnbjlombopnaaTriv
import Derived.Test.YtjnnbjlombopnaaPow
namespace Go.Proofs.Ytjnnbjlombopnaa
open Go.RowKit

/-- The trivial states below k. -/
def Gm.trL (g : Gm) (k : Nat) : List Int := ((List.range k).filter g.tr).map fun (q : Nat) => (q : Int)
theorem Gm.trL_zero (g : Gm) : g.trL 0 = [] := rfl
theorem Gm.trL_yes (g : Gm) {k : Nat} (h : g.tr k = true) : ints (g.trL (k + 1)) = ints (g.trL k) ++ [.int .i64 k] := by simp [Gm.trL, List.range_succ, h, ints]
theorem Gm.trL_no (g : Gm) {k : Nat} (h : g.tr k = false) : g.trL (k + 1) = g.trL k := by simp [Gm.trL, List.range_succ, h]
theorem Gm.trL_len (g : Gm) (k : Nat) : (g.trL k).length ≤ k := by
  unfold Gm.trL
  rw [List.length_map]
  exact Nat.le_trans (List.length_filter_le _ _) (by simp)
theorem Mc.gm_or (m : Mc) : (m.ok = false) ∨ ∃ g : Gm, m = g.mc ∧ g.Ok := by
  cases h : m.ok with
  | false => exact .inl rfl
  | true => exact .inr (Mc.to_gm h)
def tsR (m : Mc) : List Int × Int := if m.ok then (m.gm.trL m.gm.s, 0) else ([], 1)
theorem tsR_len (m : Mc) : (tsR m).1.length ≤ 1048576 := by
  unfold tsR
  cases h : m.ok with
  | false => exact Nat.zero_le _
  | true =>
    obtain ⟨g, rfl, hok⟩ := Mc.to_gm h
    have := hok.s16
    have h2 := g.trL_len g.s
    show (g.trL g.s).length ≤ _
    omega

set_option maxRecDepth 100000 in
set_option maxHeartbeats 1000000 in
theorem specTrivialStates_any (m : Mc) (cs : Array Value) (hm : m.Is cs) (w : World) :
    Calls Try.prog 52 #[.agg cs] w fun e w' => (∃ u, e = .returned (.tuple #[u, .int .i64 (tsR m).2]) ∧ Own w' w.heap.size 2 u (ints (tsR m).1)) ∧ Below w.heap.size w w' := by
  have Hm := hidd hm
  clear hm
  cases hq : m.ok with
  | false =>
    have Hq := hidd hq
    have HR := hidd (show tsR m = ([], 1) by unfold tsR; rw [hq]; rfl)
    clear hq
    go_enter Try.func52, Try.ntmps52
    go_wp2_with (refine ldI rfl (.tmp 1) rfl w.heap.size rfl Hm.out (hp_new rfl) ?_)
    refine (l01Is_any m cs Hm.out _).mono ?_
    rintro e w' ⟨rfl, hb⟩
    rw [Hq.out]
    go_wp2
    go_ret2
    exact ⟨⟨_, by rw [HR.out]; rfl, by rw [HR.out]; exact Own.nil _ _ _⟩, bel_then (bel_alloc _ _) hb⟩
  | true =>
    have HR : Hid (tsR m = (m.gm.trL m.gm.s, 0)) := hidd (by unfold tsR; rw [hq]; rfl)
    obtain ⟨g, rfl, hok⟩ := Mc.to_gm hq
    have Hq := hidd hq
    have HO := hidd hok
    clear hq hok
    go_enter Try.func52, Try.ntmps52
    go_wp2_with (refine ldI rfl (.tmp 1) rfl w.heap.size rfl Hm.out (hp_new rfl) ?_)
    refine (l01Is_any g.mc cs Hm.out _).mono ?_
    rintro e w1 ⟨rfl, hb⟩
    rw [Hq.out]
    have B1 := hidd (bel_then (bel_alloc _ _) hb)
    have K1 := hidd (hp_bel (hp_new rfl) hb : w1.heap[w.heap.size]? = some (.cells cs 27 (0, 0)))
    clear hb
    go_wp2_with (refine ldI rfl (.tmp 1) rfl w.heap.size rfl Hm.out K1.out ?_)
    refine (l01Trivial_any g HO.out cs ⟨Hm.out⟩ _).mono ?_
    rintro e w2 ⟨rfl, hb⟩
    have B2 := hidd (bel_then B1.out hb)
    have K2 := hidd (hp_bel K1.out hb)
    clear hb
    go_wp2_with (refine stAB rfl (.tmp 4) (.tmp 11) rfl (w2.heap.size + 1) _ (fun _ => rfl) (hp_new (by simp)) (by rfl) (by rfl) (by rfl) ?_)
    rw [setRow_alloc _ _ (by simp)]
    obtain ⟨w3, hw3⟩ : ∃ w3, w3 = (w2.alloc (.cells #[] 2)).alloc (.cells (av (fun j => Value.bool (g.tr16 j)) 16) 98) := ⟨_, rfl⟩
    rw [← hw3]
    have h02 : w.heap.size + 1 ≤ w2.heap.size := by have := hp_lt K2.out; omega
    have B23 : Below w2.heap.size w2 w3 := by rw [hw3]; exact ((Below.refl _ _).alloc (Nat.le_refl _) _).alloc (by simp) _
    have K3 := hidd (hp_bel K2.out B23)
    have A3 := hidd (show w3.heap[w2.heap.size + 1]? = some (.cells (bv g.tr16 16) 98 (0, 0)) by rw [hw3]; exact hp_new (by simp))
    have O3 := hidd (show Own w3 (w.heap.size + 1) 2 (.slice (some ⟨w2.heap.size, 0, none⟩) 0 0) (ints (g.trL 0)) by rw [hw3]; exact (Own.empty w2 2 (w.heap.size + 1) h02).alloc _)
    have N3 := hidd (show (Value.slice (some ⟨w2.heap.size, 0, none⟩) 0 0).ownBlock ≠ some (w2.heap.size + 1) by simp [Value.ownBlock])
    have B3 := hidd (bel_then B2.out B23)
    have HGs := hidd (g.trL_len)
    have s16 := HO.out.s16
    clear hw3 B23
    go_loopw [5, 6] (fun u i wr => ∃ k : Nat, k ≤ g.s ∧ i = .int .i64 k ∧ Hid (Own wr (w.heap.size + 1) 2 u (ints (g.trL k))) ∧ Hid (u.ownBlock ≠ some (w2.heap.size + 1)) ∧ Hid (Below w.heap.size w wr) ∧ Hid (wr.heap[w.heap.size]? = some (.cells cs 27 (0, 0))) ∧ Hid (wr.heap[w2.heap.size + 1]? = some (.cells (bv g.tr16 16) 98 (0, 0)))) (fun _ i _ => g.s - (intOf i).toNat)
    case atStart => exact ⟨0, Nat.zero_le _, rfl, O3, N3, B3, K3, A3⟩
    case round =>
      obtain ⟨k, hk, rfl, Hok, Hne, Hb, HK, HA⟩ := hrel
      have a1 := (Gm.At.of_is ⟨Hm.out⟩ HK.out : g.At wr w.heap.size 0).s
      by_cases hlt : k < g.s
      · have d1 := (blkc HA.out k).trans (bv_get g.tr16 (by omega))
        have j1 : (k : Int) < 16 := by omega
        have hbase : w.heap.size + 1 ≤ wr.heap.size := by have := hp_lt HK.out; omega
        have hlen2 : (ints (g.trL k)).length + 1 ≤ 1099511627776 := by rw [ints_length]; have := HGs.out k; omega
        cases ht : g.tr k with
        | true =>
          have e : g.tr16 k = true := by unfold Gm.tr16; rw [ht, decide_eq_true hlt]; rfl
          rw [e] at d1
          have HE := hidd (g.trL_yes ht)
          clear e ht
          go_wp2_with (at_builtin; refine app_at rfl _ _ _ rfl (w.heap.size + 1) 2 (.int .i64 0) 8 Try.underlying30 info_i64 rfl Hok.out rfl rfl rfl hlen2 (by decide) hbase ?_; intro v' w4 ho hgr hle hli; have Ho2 := hidd ho; have b2 := hidd ((bel_own Hok.out hgr hbase).mono (Nat.le_succ _)); have HK2 := hidd (kept_own hgr HK.out (Hok.out.ne_low (Nat.lt_succ_self _))); have HA2 := hidd (kept_own hgr HA.out Hne.out); have Hli := hidd hli; clear ho hgr hli)
          go_roundw
          case rel => exact ⟨k + 1, by omega, by go_num, hidd (by rw [HE.out]; exact Ho2.out), hidd (by
            rcases Hli.out with h | ⟨j, h1, h2⟩
            · rw [h]; exact Hne.out
            · rw [h1]; intro h; cases h; have := hp_lt HA.out; omega), hidd (Hb.out.trans b2.out), HK2, HA2⟩
          case measure => simp [intOf]; omega
        | false =>
          have e : g.tr16 k = false := by unfold Gm.tr16; rw [ht, Bool.and_false]
          rw [e] at d1
          have HE := hidd (g.trL_no ht)
          clear e ht
          go_wp2_with fail
          go_roundw
          case rel => exact ⟨k + 1, by omega, by go_num, hidd (by rw [HE.out]; exact Hok.out), Hne, Hb, HK, HA⟩
          case measure => simp [intOf]; omega
      · have he : k = g.s := by omega
        subst he
        go_wp2_with fail
        go_ret2
        exact ⟨⟨_, by rw [HR.out]; rfl, by rw [HR.out]; exact Hok.out.mono (Nat.le_succ _)⟩, Hb.out⟩
end Go.Proofs.Ytjnnbjlombopnaa
