/- Walks: MachineOfWord, of the program and of the reference. -/
import Derived.Test.YtjnnbjlombopnaaMos
import Derived.Test.YtjnnbjlombopnaaGmw
import Derived.Test.YtjnnbjlombopnaaMow0
namespace Go.Proofs.Ytjnnbjlombopnaa
open Go.RowKit
set_option linter.unusedSimpArgs false

def mowR (m : Mc) (xs : List Int) : Mc × Int := if codeW m [xs] = 0 then m.gm.moM xs else (Mc.zero, 1)
theorem mowR_is (m : Mc) (xs : List Int) : (mowR m xs).1.Is (mowR m xs).1.cells := by
  unfold mowR
  split
  · rename_i h
    obtain ⟨g, rfl, hok, hw⟩ := codeW_zero h
    exact Gm.moM_is hok (Gm.Nums.of (hw xs (List.mem_singleton.2 rfl)))
  · exact Mc.zero_is

set_option maxRecDepth 100000 in
set_option maxHeartbeats 1000000 in
theorem implMachineOfWord_any (m : Mc) (cs : Array Value) (hm : m.Is cs) (v : Value) (xs : List Int) (w : World) (hr : RdI w v xs) :
    Calls Try.prog 95 #[.agg cs, v] w fun e w' => e = .returned (.tuple #[.agg (mowR m xs).1.cells, .int .i64 (mowR m xs).2]) ∧ Below w.heap.size w w' := by
  have Hm := hidd hm
  have Hr := hidd hr
  obtain ⟨A0, c0, rfl, hq0⟩ := hr
  clear hm hq0
  have HB := hidd (show Below w.heap.size w (((w.alloc (.cells cs 27)).alloc (.cells Try.zeroCells27 27)).alloc (.cells #[.slice A0 xs.length c0] 30)) from ((bel_alloc' _ _).alloc (by simp) _).alloc (by simp; omega) _)
  have HZ := hidd (show (((w.alloc (.cells cs 27)).alloc (.cells Try.zeroCells27 27)).alloc (.cells #[.slice A0 xs.length c0] 30)).heap[w.heap.size + 1]? = some (.cells Mc.zero.cells 27 (0, 0)) by rw [← zeroC_M]; exact hp_old (hp_new (by simp)))
  by_cases hc : codeW m [xs] = 0
  · have HR : Hid (mowR m xs = _) := hidd (if_pos hc)
    obtain ⟨g, rfl, hok, hw⟩ := codeW_zero hc
    have hgw := hw xs (List.mem_singleton.2 rfl)
    have HN := hidd (Gm.Nums.of hgw)
    have h40 := (gwB_mem hgw).1
    have HA := hidd (show [xs].all (gwB g.s) = true by simp [hgw])
    have HO := hidd hok
    have HR2 : Hid (mowR g.mc xs = g.moM xs) := hidd HR.out
    clear hc hok hw hgw HR
    go_enter Try.func95, Try.ntmps95
    go_wp2_with (refine ldI rfl (.tmp 2) rfl w.heap.size rfl Hm.out (hp_old (hp_new rfl)) ?_)
    refine (groupOf_yes g HO.out cs ⟨Hm.out⟩ _ [xs] _ (RdLL.lit1 ((Hr.out.alloc _).alloc _) _ _ (by simp)) HA.out).mono ?_
    rintro e w1 ⟨⟨G, vo, vt, rfl, hG, hle⟩, hb⟩
    have B1 := hidd (bel_then HB.out hb)
    have Z1 := hidd (hp_bel HZ.out hb)
    have HG := hidd hG
    clear hb hG
    go_wp2_with fail
    refine (machine_any g HO.out G vo vt _ xs HN.out (by omega) _ HG.out (Hr.out.below B1.out)).mono ?_
    rintro e w2 ⟨rfl, hb⟩
    have B2 := hidd (bel_then B1.out hb)
    have Z2 := hidd (hp_bel Z1.out hb)
    obtain ⟨M, hM⟩ : ∃ M, M = g.moM xs := ⟨_, rfl⟩
    rw [← hM] at HR2 ⊢
    clear hb hM
    go_wp2_with (refine stC rfl (.tmp 4) (.tmp 22) rfl _ M.1 Z2.out (Mc.cells_size _) (by rfl) (by rfl) ?_)
    refine bodyPost_ret (v := .tuple #[.agg M.1.cells, .int .i64 M.2]) (results_cell_tmp rfl _ _ (w.heap.size + 1) 27 _ (0, 0) _ _ rfl rfl (setRow_heap _ _ _ _ _ _ Z2.out) Try.underlying27 rfl (cells98i _)) rfl ⟨by rw [HR2.out], ?_⟩
    exact bel_row B2.out (by omega) _
  · have HR : Hid (mowR m xs = _) := hidd (if_neg hc)
    have Hc := hidd hc
    clear hc
    go_enter Try.func95, Try.ntmps95
    go_wp2_with (refine ldI rfl (.tmp 2) rfl w.heap.size rfl Hm.out (hp_old (hp_new rfl)) ?_)
    refine (groupOf_no m cs Hm.out _ [xs] _ (RdLL.lit1 ((Hr.out.alloc _).alloc _) _ _ (by simp)) Hc.out).mono ?_
    rintro e w1 ⟨rfl, hb⟩
    have B1 := hidd (bel_then HB.out hb)
    have Z1 := hidd (hp_bel HZ.out hb)
    clear hb
    go_wp2_with (refine stC rfl (.tmp 4) (.tmp 17) rfl _ Mc.zero Z1.out (Mc.cells_size _) (by rfl) (by rw [← zeroM_cells]; rfl) ?_)
    refine bodyPost_ret (v := .tuple #[.agg Mc.zero.cells, .int .i64 1]) (results_cell_tmp rfl _ _ (w.heap.size + 1) 27 _ (0, 0) _ _ rfl rfl (setRow_heap _ _ _ _ _ _ Z1.out) Try.underlying27 rfl (cells98i _)) rfl ⟨by rw [HR.out], ?_⟩
    exact bel_row B1.out (by omega) _

set_option maxRecDepth 100000 in
set_option maxHeartbeats 1000000 in
theorem specMachineOfWord_any (m : Mc) (cs : Array Value) (hm : m.Is cs) (v : Value) (xs : List Int) (w : World) (hr : RdI w v xs) :
    Calls Try.prog 94 #[.agg cs, v] w fun e w' => e = .returned (.tuple #[.agg (mowR m xs).1.cells, .int .i64 (mowR m xs).2]) ∧ Below w.heap.size w w' := by
  obtain rfl := hm.eq_cells
  have Hm := hidd hm
  have Hr := hidd hr
  obtain ⟨A0, c0, rfl, hq0⟩ := hr
  clear hm hq0
  have HB := hidd (show Below w.heap.size w (((w.alloc (.cells m.cells 27)).alloc (.cells Try.zeroCells27 27)).alloc (.cells #[.slice A0 xs.length c0] 30)) from ((bel_alloc' _ _).alloc (by simp) _).alloc (by simp; omega) _)
  have HZ := hidd (show (((w.alloc (.cells m.cells 27)).alloc (.cells Try.zeroCells27 27)).alloc (.cells #[.slice A0 xs.length c0] 30)).heap[w.heap.size + 1]? = some (.cells Mc.zero.cells 27 (0, 0)) by rw [← zeroC_M]; exact hp_old (hp_new (by simp)))
  have HK := hidd (show (((w.alloc (.cells m.cells 27)).alloc (.cells Try.zeroCells27 27)).alloc (.cells #[.slice A0 xs.length c0] 30)).heap[w.heap.size]? = some (.cells m.cells 27 (0, 0)) from hp_old (hp_old (hp_new rfl)))
  by_cases hc : codeW m [xs] = 0
  · have HR : Hid (mowR m xs = _) := hidd (if_pos hc)
    have Hc := hidd hc
    obtain ⟨g, rfl, hok, hw⟩ := codeW_zero hc
    have hgw := hw xs (List.mem_singleton.2 rfl)
    have HN := hidd (Gm.Nums.of hgw)
    have h40 := (gwB_mem hgw).1
    have HO := hidd hok
    have HR2 : Hid (mowR g.mc xs = g.moM xs) := hidd HR.out
    clear hc hok hw hgw HR
    go_enter Try.func94, Try.ntmps94
    go_wp2_with (refine ldI rfl (.tmp 2) rfl w.heap.size rfl Hm.out (hp_old (hp_new rfl)) ?_)
    refine (l02Code_any _ _ Hm.out _ [xs] _ ?_).mono ?_
    · exact RdLL.lit1 ((Hr.out.alloc _).alloc _) _ _ (by simp)
    rintro e w1 ⟨rfl, hb⟩
    rw [Hc.out]
    have B1 := hidd (bel_then HB.out hb)
    have Z1 := hidd (hp_bel HZ.out hb)
    have K1 := hidd (hp_bel HK.out hb)
    clear hb
    go_wp2_with (refine ldC rfl (.tmp 2) rfl _ g.mc K1.out (by rfl) ?_)
    refine (l02Machine_any g HO.out _ xs HN.out (by omega) _ (Hr.out.below B1.out)).mono ?_
    rintro e w2 ⟨rfl, hb⟩
    have B2 := hidd (bel_then B1.out hb)
    have Z2 := hidd (hp_bel Z1.out hb)
    obtain ⟨M, hM⟩ : ∃ M, M = g.moM xs := ⟨_, rfl⟩
    rw [← hM] at HR2 ⊢
    have Z3 := hidd (hp_old Z2.out : (w2.alloc (.cells M.1.cells 27)).heap[w.heap.size + 1]? = _)
    have B3 := hidd (bel_then B2.out (bel_alloc' w2 (.cells M.1.cells 27)))
    clear hb hM
    go_wp2_with (first | ((with_reducible show wpList _ _ _ _ _ (World.alloc _ _)); refine stNew rfl (.tmp 7) (.tmp 21) (by rfl) M.1 w2.heap.size rfl (by rw [zeroC_M]; exact Mc.cells_size _) (by rfl) (by rfl) ?_) | (refine ldC rfl (.tmp 7) rfl _ M.1 (hp_new rfl) (by rfl) ?_) | (refine stC rfl (.tmp 4) (.tmp 23) rfl _ M.1 Z3.out (Mc.cells_size _) (by rfl) (by rfl) ?_))
    refine bodyPost_ret (v := .tuple #[.agg M.1.cells, .int .i64 M.2]) (results_cell_tmp rfl _ _ (w.heap.size + 1) 27 _ (0, 0) _ _ rfl rfl (setRow_heap _ _ _ _ _ _ Z3.out) Try.underlying27 rfl (cells98i _)) rfl ⟨by rw [HR2.out], ?_⟩
    exact bel_row B3.out (by omega) _
  · have HR : Hid (mowR m xs = _) := hidd (if_neg hc)
    have Hc := hidd (codeW_one hc)
    clear hc
    go_enter Try.func94, Try.ntmps94
    go_wp2_with (refine ldI rfl (.tmp 2) rfl w.heap.size rfl Hm.out (hp_old (hp_new rfl)) ?_)
    refine (l02Code_any _ _ Hm.out _ [xs] _ ?_).mono ?_
    · exact RdLL.lit1 ((Hr.out.alloc _).alloc _) _ _ (by simp)
    rintro e w1 ⟨rfl, hb⟩
    rw [Hc.out]
    have B1 := hidd (bel_then HB.out hb)
    have Z1 := hidd (hp_bel HZ.out hb)
    clear hb
    go_wp2_with (refine stC rfl (.tmp 4) (.tmp 15) rfl _ Mc.zero Z1.out (Mc.cells_size _) (by rfl) (by rw [← zeroM_cells]; rfl) ?_)
    refine bodyPost_ret (v := .tuple #[.agg Mc.zero.cells, .int .i64 1]) (results_cell_tmp rfl _ _ (w.heap.size + 1) 27 _ (0, 0) _ _ rfl rfl (setRow_heap _ _ _ _ _ _ Z1.out) Try.underlying27 rfl (cells98i _)) rfl ⟨by rw [HR.out], ?_⟩
    exact bel_row B1.out (by omega) _
end Go.Proofs.Ytjnnbjlombopnaa
