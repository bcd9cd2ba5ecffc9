/- Walks: LastingSections, of the program and of the reference. -/
import Derived.Test.YtjnnbjlombopnaaLsw
import Derived.Test.YtjnnbjlombopnaaBE
namespace Go.Proofs.Ytjnnbjlombopnaa
open Go.RowKit
set_option linter.unusedSimpArgs false

def lasR (m : Mc) (xs : List Int) : List (List Int) × Int := if codeW m [xs] = 0 then m.gm.las xs else ([], 1)
theorem lasR_szs (m : Mc) (xs : List Int) : szs (lasR m xs).1 ≤ 1048576 := by
  unfold lasR
  split
  · rename_i h
    obtain ⟨g, rfl, hok, hw⟩ := codeW_zero h
    have hgw := hw xs (List.mem_singleton.2 rfl)
    have h40 := (gwB_mem hgw).1
    show szs (g.las xs).1 ≤ _
    obtain ⟨h1, h2⟩ := Gm.las_len hok (Gm.Nums.of hgw)
    have h3 := szs_const (xss := (g.las xs).1) (c := 40) (fun ys hy => Nat.le_trans (h2 ys hy).2 h40)
    have := Nat.mul_le_mul_right 40 h1
    omega
  · exact Nat.zero_le _

set_option maxRecDepth 100000 in
set_option maxHeartbeats 1000000 in
theorem implLastingSections_any (m : Mc) (cs : Array Value) (hm : m.Is cs) (v : Value) (xs : List Int) (w : World) (hr : RdI w v xs) :
    Calls Try.prog 93 #[.agg cs, v] w fun e w' => (∃ a rows, e = .returned (.tuple #[a, .int .i64 (lasR m xs).2]) ∧ LLr w' w.heap.size a rows (lasR m xs).1) ∧ Below w.heap.size w w' := by
  have Hm := hidd hm
  have Hr := hidd hr
  obtain ⟨A0, c0, rfl, hq0⟩ := hr
  clear hm hq0
  by_cases hc : codeW m [xs] = 0
  · have HR : Hid (lasR m xs = _) := hidd (if_pos hc)
    obtain ⟨g, rfl, hok, hw⟩ := codeW_zero hc
    have hgw := hw xs (List.mem_singleton.2 rfl)
    have HN := hidd (Gm.Nums.of hgw)
    have h40 := (gwB_mem hgw).1
    have HA := hidd (show [xs].all (gwB g.s) = true by simp [hgw])
    have HO := hidd hok
    have HR2 : Hid (lasR g.mc xs = g.las xs) := hidd HR.out
    clear hc hok hw hgw HR
    go_enter Try.func93, Try.ntmps93
    go_wp2_with (refine ldI rfl (.tmp 2) rfl w.heap.size rfl Hm.out (hp_new rfl) ?_)
    refine (groupOf_yes g HO.out cs ⟨Hm.out⟩ _ [xs] _ (RdLL.lit1 (Hr.out.alloc _) _ _ (by simp)) HA.out).mono ?_
    rintro e w1 ⟨⟨G, vo, vt, rfl, hG, hle⟩, hb⟩
    have B1 := hidd (bel_then ((bel_alloc w (.cells cs 27)).alloc (by simp) _) hb)
    have HG := hidd hG
    clear hb hG
    go_wp2_with fail
    refine (lasting_any g HO.out G vo vt _ xs HN.out (by omega) _ HG.out (Hr.out.below B1.out)).mono ?_
    rintro e w2 ⟨⟨a, ra, rfl, ho⟩, hb⟩
    have Ho := hidd (ho.mono B1.out.size)
    have B2 := hidd (bel_then B1.out hb)
    clear ho hb
    go_wp2_with fail
    go_ret2
    exact ⟨⟨_, ra, by rw [HR2.out]; rfl, by rw [HR2.out]; exact Ho.out⟩, B2.out⟩
  · have HR : Hid (lasR m xs = _) := hidd (if_neg hc)
    have Hc := hidd hc
    clear hc
    go_enter Try.func93, Try.ntmps93
    go_wp2_with (refine ldI rfl (.tmp 2) rfl w.heap.size rfl Hm.out (hp_new rfl) ?_)
    refine (groupOf_no m cs Hm.out _ [xs] _ (RdLL.lit1 (Hr.out.alloc _) _ _ (by simp)) Hc.out).mono ?_
    rintro e w1 ⟨rfl, hb⟩
    have B1 := hidd (bel_then ((bel_alloc w (.cells cs 27)).alloc (by simp) _) hb)
    clear hb
    go_wp2_with fail
    go_ret2
    exact ⟨⟨_, [], by rw [HR.out]; rfl, by rw [HR.out]; exact LLr.nil _ _⟩, B1.out⟩

set_option maxRecDepth 100000 in
set_option maxHeartbeats 1000000 in
theorem specLastingSections_any (m : Mc) (cs : Array Value) (hm : m.Is cs) (v : Value) (xs : List Int) (w : World) (hr : RdI w v xs) :
    Calls Try.prog 92 #[.agg cs, v] w fun e w' => (∃ a rows, e = .returned (.tuple #[a, .int .i64 (lasR m xs).2]) ∧ LLr w' w.heap.size a rows (lasR m xs).1) ∧ Below w.heap.size w w' := by
  obtain rfl := hm.eq_cells
  have Hm := hidd hm
  have Hr := hidd hr
  obtain ⟨A0, c0, rfl, hq0⟩ := hr
  clear hm hq0
  by_cases hc : codeW m [xs] = 0
  · have HR : Hid (lasR m xs = _) := hidd (if_pos hc)
    have Hc := hidd hc
    obtain ⟨g, rfl, hok, hw⟩ := codeW_zero hc
    have hgw := hw xs (List.mem_singleton.2 rfl)
    have HN := hidd (Gm.Nums.of hgw)
    have h40 := (gwB_mem hgw).1
    have HO := hidd hok
    have HR2 : Hid (lasR g.mc xs = g.las xs) := hidd HR.out
    clear hc hok hw hgw HR
    go_enter Try.func92, Try.ntmps92
    go_wp2_with (refine ldI rfl (.tmp 2) rfl w.heap.size rfl Hm.out (hp_new rfl) ?_)
    refine (l02Code_any _ _ Hm.out _ [xs] _ ?_).mono ?_
    · exact RdLL.lit1 (Hr.out.alloc _) _ _ (by simp)
    rintro e w1 ⟨rfl, hb⟩
    rw [Hc.out]
    have B1 := hidd (bel_then ((bel_alloc w (.cells g.mc.cells 27)).alloc (by simp) _) hb)
    have K1 := hidd (hp_bel (hp_old (hp_new rfl)) hb : w1.heap[w.heap.size]? = some (.cells g.mc.cells 27 (0, 0)))
    clear hb
    go_wp2_with (refine ldC rfl (.tmp 2) rfl _ g.mc K1.out (by rfl) ?_)
    refine (l04Lasting_any g HO.out _ xs HN.out (by omega) _ (Hr.out.below B1.out)).mono ?_
    rintro e w2 ⟨⟨a, ra, rfl, ho⟩, hb⟩
    have Ho := hidd (ho.mono B1.out.size)
    have B2 := hidd (bel_then B1.out hb)
    clear ho hb
    by_cases h0 : (g.las xs).2 = 0
    · have hd : decide ((g.las xs).2 = 0) = true := decide_eq_true h0
      rw [hd]
      have HE := hidd (show g.las xs = ((g.las xs).1, 0) by rw [← h0])
      clear hd h0
      go_wp2_with fail
      go_ret2
      exact ⟨⟨_, ra, by rw [HR2.out, HE.out]; rfl, by rw [HR2.out]; exact Ho.out⟩, B2.out⟩
    · have hd : decide ((g.las xs).2 = 0) = false := decide_eq_false h0
      rw [hd]
      have HE := hidd (show g.las xs = ([], 3) from Gm.las_bad h0)
      clear hd h0
      go_wp2_with fail
      go_ret2
      exact ⟨⟨_, [], by rw [HR2.out, HE.out]; rfl, by rw [HR2.out, HE.out]; exact LLr.nil _ _⟩, B2.out⟩
  · have HR : Hid (lasR m xs = _) := hidd (if_neg hc)
    have Hc := hidd (codeW_one hc)
    clear hc
    go_enter Try.func92, Try.ntmps92
    go_wp2_with (refine ldI rfl (.tmp 2) rfl w.heap.size rfl Hm.out (hp_new rfl) ?_)
    refine (l02Code_any _ _ Hm.out _ [xs] _ ?_).mono ?_
    · exact RdLL.lit1 (Hr.out.alloc _) _ _ (by simp)
    rintro e w1 ⟨rfl, hb⟩
    rw [Hc.out]
    have B1 := hidd (bel_then ((bel_alloc w (.cells m.cells 27)).alloc (by simp) _) hb)
    clear hb
    go_wp2_with fail
    go_ret2
    exact ⟨⟨_, [], by rw [HR.out]; rfl, by rw [HR.out]; exact LLr.nil _ _⟩, B1.out⟩
end Go.Proofs.Ytjnnbjlombopnaa
