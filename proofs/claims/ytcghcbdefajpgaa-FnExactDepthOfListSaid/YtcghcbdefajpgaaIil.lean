/- Walks: IsInList, of the program. -/
import Derived.Test.YtcghcbdefajpgaaLof
import Derived.Test.YtcghcbdefajpgaaBA
namespace Go.Proofs.Ytcghcbdefajpgaa
open Go.RowKit
set_option linter.unusedSimpArgs false

theorem codeW_single (m : Mc) (xs : List Int) : codeW m [xs] = if m.gwB xs = true then 0 else 1 := by
  unfold codeW Mc.gwB
  simp
noncomputable def ilR (m : Mc) (xs : List Int) (xss : List (List Int)) : Bool × Int :=
  if codeW m [xs] = 0 then (if codeW m xss = 0 then (if m.gm.lofC xss = 0 then (m.gm.inB (m.gm.mks xss) xs, (m.gm.moM xs).2) else (false, m.gm.lofC xss)) else (false, 1)) else (false, 1)
theorem Gm.allR_one (g : Gm) (ms : List Mc) (u : List Int) : g.allR ms [u] = (g.inB ms u, (g.moM u).2) := by
  unfold Gm.allR
  split
  · rename_i h
    rw [h, Gm.inB_code h]; rfl
  · rename_i h
    rw [Bool.not_eq_true] at h
    rw [h]
theorem Gm.lofC_cases (g : Gm) (xss : List (List Int)) : g.lofC xss = 0 ∧ xss.length ≤ 32 ∨ g.lofC xss = 2 ∧ 32 < xss.length ∨ g.lofC xss = 3 ∧ xss.length ≤ 32 := by
  unfold Gm.lofC
  split
  · exact .inr (.inl ⟨rfl, by assumption⟩)
  · split
    · exact .inl ⟨rfl, by omega⟩
    · exact .inr (.inr ⟨rfl, by omega⟩)

set_option maxRecDepth 100000 in
set_option maxHeartbeats 1000000 in
theorem listOf_no (m : Mc) (cs : Array Value) (hm : m.Is cs) (v : Value) (xss : List (List Int)) (w : World) (hr : RdLL w v xss) (hc : codeW m xss ≠ 0) :
    Calls Try.prog 21 #[.agg cs, v] w fun e w' => e = .returned (.tuple #[.pointer none, .int .i64 1]) ∧ Below w.heap.size w w' := by
  have Hm := hidd hm
  have Hr := hidd hr
  have Hc := hidd hc
  obtain ⟨A, c, rows, rfl, h1, h2, h3⟩ := hr
  clear hm hc h1 h2 h3
  go_enter Try.func21, Try.ntmps21
  go_wp2_with (refine ldI rfl (.tmp 2) rfl w.heap.size rfl Hm.out (hp_new rfl) ?_)
  refine (groupOf_no m cs Hm.out _ xss _ (Hr.out.below (bel_alloc' _ _)) Hc.out).mono ?_
  rintro e w1 ⟨rfl, hb⟩
  have B1 := hidd (bel_then (bel_alloc' w (.cells cs 31)) hb)
  clear hb
  go_wp2_with fail
  go_ret2
  exact ⟨rfl, B1.out⟩

set_option maxRecDepth 100000 in
set_option maxHeartbeats 1000000 in
theorem implIsInList_any (m : Mc) (cs : Array Value) (hm : m.Is cs) (v v2 : Value) (xs : List Int) (xss : List (List Int)) (w : World) (hr : RdI w v xs) (hr2 : RdLL w v2 xss) :
    Calls Try.prog 10 #[.agg cs, v, v2] w fun e w' => e = .returned (.tuple #[.bool (ilR m xs xss).1, .int .i64 (ilR m xs xss).2]) ∧ Below w.heap.size w w' := by
  obtain rfl := hm.eq_cells
  have Hm := hidd hm
  have Hr := hidd hr
  have Hr2 := hidd hr2
  obtain ⟨A0, c0, rfl, hq0⟩ := hr
  obtain ⟨A2, c2, rows, rfl, hq1, hq2, hq3⟩ := hr2
  clear hm hq0 hq1 hq2 hq3
  cases hg : m.gwB xs with
  | false =>
    have HR := hidd (show ilR m xs xss = (false, 1) from if_neg (by rw [codeW_single, hg]; decide))
    have HG := hidd hg
    clear hg
    go_enter Try.func10, Try.ntmps10
    go_wp2_with (refine ldI rfl (.tmp 3) rfl w.heap.size rfl Hm.out (hp_new rfl) ?_)
    refine (implIsGroupWord_any _ _ Hm.out _ xs _ (Hr.out.below (bel_alloc' _ _))).mono ?_
    rintro e w1 ⟨rfl, hb⟩
    rw [HG.out]
    have B1 := hidd (bel_then (bel_alloc' w (.cells m.cells 31)) hb)
    clear hb
    go_wp2_with fail
    go_ret2
    exact ⟨by rw [HR.out]; rfl, B1.out⟩
  | true =>
    have hc1 : codeW m [xs] = 0 := by rw [codeW_single, hg]; rfl
    have HR := hidd (show ilR m xs xss = _ from if_pos hc1)
    have HG := hidd hg
    have Hc1 := hidd hc1
    clear hg hc1
    go_enter Try.func10, Try.ntmps10
    go_wp2_with (refine ldI rfl (.tmp 3) rfl w.heap.size rfl Hm.out (hp_new rfl) ?_)
    refine (implIsGroupWord_any _ _ Hm.out _ xs _ (Hr.out.below (bel_alloc' _ _))).mono ?_
    rintro e w1 ⟨rfl, hb⟩
    rw [HG.out]
    have B1 := hidd (bel_then (bel_alloc' w (.cells m.cells 31)) hb)
    have K1 := hidd (hp_bel (show (w.alloc (.cells m.cells 31)).heap[w.heap.size]? = _ from hp_new rfl) hb)
    clear hb
    go_wp2_with (refine ldI rfl (.tmp 3) rfl w.heap.size rfl Hm.out K1.out ?_)
    by_cases hc : codeW m xss = 0
    · have HR2 := hidd (HR.out.trans (if_pos hc))
      obtain ⟨g, rfl, hok, hw⟩ := codeW_zero hc
      have hgx : gwB g.s xs = true := by
        have h := HG.out
        unfold Mc.gwB at h
        rw [Bool.and_eq_true] at h
        exact h.2
      have HN := hidd (Gm.Nums.of hgx)
      have h40 := (gwB_mem hgx).1
      have HA := hidd (List.all_eq_true.2 hw)
      have HO := hidd hok
      have HNs := hidd (fun u (hu : u ∈ xss) => Gm.Nums.of (hw u hu))
      have HR3 : Hid (ilR g.mc xs xss = if g.lofC xss = 0 then (g.inB (g.mks xss) xs, (g.moM xs).2) else (false, g.lofC xss)) := hidd HR2.out
      clear hc hok hw hgx HR HR2
      refine (listOf_yes g HO.out _ xss HA.out _ (Hr2.out.below B1.out)).mono ?_
      rintro e w2 ⟨⟨p, rfl, hq⟩, hb⟩
      have B2 := hidd (bel_then B1.out hb)
      rcases g.lofC_cases xss with ⟨hz, hl⟩ | ⟨hz, hl⟩ | ⟨hz, hl⟩
      · obtain ⟨l, G, vo, vt, vm, rfl, hG, hL, hV⟩ := hq hz
        rw [hz] at HR3 ⊢
        rw [if_pos rfl] at HR3
        have HG2 := hidd hG
        have HL := hidd hL
        have HV := hidd hV
        have HMs := hidd (Gm.mks_is HO.out HNs.out)
        clear hq hb hG hL hV hz
        go_wp2_with fail
        have Z := hidd (bel_then B2.out (bel_alloc' w2 (.cells #[.slice A0 xs.length c0] 26)))
        refine (hasAll_any g HO.out G vo vt l _ vm (g.mks xss) w1.heap.size HMs.out (by simp [Gm.mks]; omega) _ [xs] (fun u hu => by rw [List.mem_singleton.1 hu]; exact ⟨HN.out, by omega⟩) (by simp) _ (HG2.out.below (bel_alloc' _ _)) (hp_old HL.out) (HV.out.below (bel_alloc' _ _)) (RdLL.lit1 (Hr.out.below B2.out) _ _ (by simp))).mono ?_
        rintro e w3 ⟨rfl, hb⟩
        rw [Gm.allR_one]
        have B3 := hidd (bel_then Z.out hb)
        clear hb
        go_wp2_with fail
        go_ret2
        exact ⟨by rw [HR3.out]; rfl, B3.out⟩
      all_goals
        rw [hz] at HR3 ⊢
        rw [if_neg (by decide)] at HR3
        clear hq hb hz
        go_wp2_with fail
        go_ret2
        exact ⟨by rw [HR3.out]; rfl, B2.out⟩
    · have HR2 := hidd (HR.out.trans (if_neg hc))
      refine (listOf_no m _ Hm.out _ xss _ (Hr2.out.below B1.out) hc).mono ?_
      rintro e w2 ⟨rfl, hb⟩
      have B2 := hidd (bel_then B1.out hb)
      clear hb hc HR
      go_wp2_with fail
      go_ret2
      exact ⟨by rw [HR2.out]; rfl, B2.out⟩
end Go.Proofs.Ytcghcbdefajpgaa
