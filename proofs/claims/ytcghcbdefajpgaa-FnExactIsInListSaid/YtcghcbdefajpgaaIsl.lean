/- Walks: IsInList, of the reference. -/
import Derived.Test.YtcghcbdefajpgaaL4g
import Derived.Test.YtcghcbdefajpgaaL4a
import Derived.Test.YtcghcbdefajpgaaIil
namespace Go.Proofs.Ytcghcbdefajpgaa
open Go.RowKit
set_option linter.unusedSimpArgs false

set_option maxRecDepth 100000 in
set_option maxHeartbeats 4000000 in
theorem specIsInList_any (m : Mc) (cs : Array Value) (hm : m.Is cs) (v v2 : Value) (xs : List Int) (xss : List (List Int)) (w : World) (hr : RdI w v xs) (hr2 : RdLL w v2 xss) :
    Calls Try.prog 6 #[.agg cs, v, v2] w fun e w' => e = .returned (.tuple #[.bool (ilR m xs xss).1, .int .i64 (ilR m xs xss).2]) ∧ Below w.heap.size w w' := by
  obtain rfl := hm.eq_cells
  have Hm := hidd hm
  have Hr := hidd hr
  have Hr2 := hidd hr2
  obtain ⟨A0, c0, rfl, hq0⟩ := hr
  obtain ⟨A2, c2, rows, rfl, hq1, hq2, hq3⟩ := hr2
  have HB := hidd (bel_then (bel_alloc' w (.cells m.cells 31)) (bel_alloc' _ (.cells #[.slice A0 xs.length c0] 26)))
  have HK := hidd (show ((w.alloc (.cells m.cells 31)).alloc (.cells #[.slice A0 xs.length c0] 26)).heap[w.heap.size]? = some (.cells m.cells 31 (0, 0)) from hp_old (hp_new rfl))
  clear hm hq0 hq1 hq2 hq3
  by_cases hc1 : codeW m [xs] = 0
  · have HR := hidd (show ilR m xs xss = _ from if_pos hc1)
    have HG := hidd (show m.gwB xs = true by rw [gw_code]; exact decide_eq_true hc1)
    have Hc1 := hidd hc1
    clear hc1
    go_enter Try.func6, Try.ntmps6
    go_wp2_with (refine ldI rfl (.tmp 3) rfl w.heap.size rfl Hm.out (hp_new rfl) ?_)
    refine (l02Code_any _ _ Hm.out _ [xs] _ (RdLL.lit1 (Hr.out.alloc _) _ _ (by simp))).mono ?_
    rintro e w1 ⟨rfl, hb⟩
    rw [Hc1.out]
    have B1 := hidd (bel_then HB.out hb)
    have K1 := hidd (hp_bel HK.out hb)
    clear hb
    go_wp2_with (refine ldI rfl (.tmp 3) rfl w.heap.size rfl Hm.out K1.out ?_)
    by_cases hc : codeW m xss = 0
    · have HR2 := hidd (HR.out.trans (if_pos hc))
      have Hc := hidd hc
      obtain ⟨g, rfl, hok, hw⟩ := codeW_zero hc
      have hgx : gwB g.s xs = true := by
        have h := HG.out
        unfold Mc.gwB at h
        rw [Bool.and_eq_true] at h
        exact h.2
      have HN := hidd (Gm.Nums.of hgx)
      have h40 := (gwB_mem hgx).1
      have HA := hidd (List.all_eq_true.2 hw)
      have HO := hidd hok
      have HNs := hidd (fun u (hu : u ∈ xss) => Gm.Nums.of (hw u hu))
      have HR3 : Hid (ilR g.mc xs xss = if g.lofC xss = 0 then (g.inB (g.mks xss) xs, (g.moM xs).2) else (false, g.lofC xss)) := hidd HR2.out
      clear hc hok hw hgx HR HR2
      refine (l04Given_yes g HO.out _ xss HA.out Hm.out Hc.out _ (Hr2.out.below B1.out)).mono ?_
      rintro e w2 ⟨⟨a, b, ⟨Aa, na, ca, rfl⟩, ⟨Ab, nb, cb, rfl⟩, rfl, hq⟩, hb⟩
      have B2 := hidd (bel_then B1.out hb)
      have K2 := hidd (hp_bel K1.out hb)
      have h1 : True := trivial
      rcases g.lofC_cases xss with ⟨hz, hl⟩ | ⟨hz, hl⟩ | ⟨hz, hl⟩
      · obtain ⟨ea, hV⟩ := hq hz
        simp only [Value.slice.injEq] at ea
        obtain ⟨rfl, rfl, rfl⟩ := ea
        rw [hz] at HR3 ⊢
        rw [if_pos rfl] at HR3
        have HV := hidd hV
        have HMs := hidd (Gm.mks_is HO.out HNs.out)
        obtain ⟨Am, cm, hve⟩ := hV.slice
        simp only [Value.slice.injEq] at hve
        obtain ⟨rfl, rfl, rfl⟩ := hve
        clear hq hb hV hz h1
        have B3 := hidd (bel_then B2.out (bel_alloc' w2 (.cells #[.slice Aa xss.length ca, .slice Ab (msC (g.mks xss)).length cb] 45)))
        go_wp2_with (first | (refine st143New rfl (.tmp 8) (.tmp 22) rfl w2.heap.size rfl (.slice Aa xss.length ca) (.slice Ab (msC (g.mks xss)).length cb) _ _ (by rfl) (by rfl) rfl rfl ?_) | (refine ldI rfl (.tmp 3) rfl w.heap.size rfl Hm.out (hp_old K2.out) ?_) | (refine ld143 rfl (.tmp 8) rfl _ _ _ (hp_new rfl) (by rfl) ?_))
        refine (l04At_any g HO.out w1.heap.size _ _ (g.mks xss) HMs.out (by simp [Gm.mks]; omega) _ xs HN.out (by omega) _ ⟨_, _, _, rfl⟩ (HV.out.below (bel_alloc' _ _)) (Hr.out.below B3.out)).mono ?_
        rintro e w4 ⟨rfl, hb⟩
        have B4 := hidd (bel_then B3.out hb)
        rw [Gm.inB_at] at HR3
        obtain ⟨t, ht⟩ : ∃ t, t = g.atI (g.mks xss) xs := ⟨_, rfl⟩
        rw [← ht] at HR3 ⊢
        obtain ⟨M, hM⟩ : ∃ M, M = g.moM xs := ⟨_, rfl⟩
        have hmc : M.2 = 0 ∨ M = (Mc.zero, 3) := by rw [hM]; exact g.moM_code xs
        rw [← hM] at HR3 ⊢
        have B5 := hidd (bel_then B4.out (bel_alloc' w4 (.cells M.1.cells 31)))
        clear hb ht hM
        rcases hmc with hc | hc
        · rw [hc] at HR3 ⊢
          clear hc
          have HR4 := hidd (show ilR g.mc xs xss = (decide (0 ≤ t), 0) by rw [HR3.out]; rfl)
          go_wp2_with ((with_reducible show wpList _ _ _ _ _ (World.alloc _ _)); refine stNew rfl (.tmp 11) (.tmp 33) (by rfl) M.1 w4.heap.size rfl (by rw [zeroC_M]; exact Mc.cells_size _) (by rfl) (by rfl) ?_)
          go_ret2
          exact ⟨by rw [HR4.out]; rfl, B5.out⟩
        · subst hc
          have HR4 := hidd (show ilR g.mc xs xss = (false, 3) by rw [HR3.out]; rfl)
          go_wp2_with ((with_reducible show wpList _ _ _ _ _ (World.alloc _ _)); refine stNew rfl (.tmp 11) (.tmp 33) (by rfl) Mc.zero w4.heap.size rfl (by rw [zeroC_M]; exact Mc.cells_size _) (by rfl) (by rfl) ?_)
          go_ret2
          exact ⟨by rw [HR4.out]; rfl, B5.out⟩
      all_goals
        rw [hz] at HR3 ⊢
        rw [if_neg (by decide)] at HR3
        have HB3 := hidd (bel_then B2.out (bel_alloc' w2 (.cells #[.slice Aa na ca, .slice Ab nb cb] 45)))
        clear hq hb hz h1
        go_wp2_with (refine st143New rfl (.tmp 8) (.tmp 22) rfl w2.heap.size rfl (.slice Aa na ca) (.slice Ab nb cb) _ _ (by rfl) (by rfl) rfl rfl ?_)
        go_ret2
        exact ⟨by rw [HR3.out]; rfl, HB3.out⟩
    · have HR2 := hidd (HR.out.trans (if_neg hc))
      refine (l04Given_no m _ Hm.out _ xss _ (Hr2.out.below B1.out) hc).mono ?_
      rintro e w2 ⟨⟨a, b, ⟨Aa, na, ca, rfl⟩, ⟨Ab, nb, cb, rfl⟩, rfl⟩, hb⟩
      have B2 := hidd (bel_then B1.out hb)
      clear hb hc HR
      have HB3 := hidd (bel_then B2.out (bel_alloc' w2 (.cells #[.slice Aa na ca, .slice Ab nb cb] 45)))
      go_wp2_with (refine st143New rfl (.tmp 8) (.tmp 22) rfl w2.heap.size rfl (.slice Aa na ca) (.slice Ab nb cb) _ _ (by rfl) (by rfl) rfl rfl ?_)
      go_ret2
      exact ⟨by rw [HR2.out]; rfl, HB3.out⟩
  · have HR := hidd (show ilR m xs xss = (false, 1) from if_neg hc1)
    have Hc1 := hidd (codeW_one hc1)
    clear hc1
    go_enter Try.func6, Try.ntmps6
    go_wp2_with (refine ldI rfl (.tmp 3) rfl w.heap.size rfl Hm.out (hp_new rfl) ?_)
    refine (l02Code_any _ _ Hm.out _ [xs] _ (RdLL.lit1 (Hr.out.alloc _) _ _ (by simp))).mono ?_
    rintro e w1 ⟨rfl, hb⟩
    rw [Hc1.out]
    have B1 := hidd (bel_then HB.out hb)
    clear hb
    go_wp2_with fail
    go_ret2
    exact ⟨by rw [HR.out]; rfl, B1.out⟩
end Go.Proofs.Ytcghcbdefajpgaa
