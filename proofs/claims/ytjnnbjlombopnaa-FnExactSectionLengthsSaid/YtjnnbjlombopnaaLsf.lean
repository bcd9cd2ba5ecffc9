/- Walks: SectionsOfLevel, of the program and of the reference. -/
import Derived.Test.YtjnnbjlombopnaaLss
import Derived.Test.YtjnnbjlombopnaaBE
namespace Go.Proofs.Ytjnnbjlombopnaa
open Go.RowKit
set_option linter.unusedSimpArgs false

def lcC (m : Mc) (xs : List Int) (n : Int) : Int := if codeW m [xs] = 0 then (if 0 ≤ n ∧ n ≤ 5 then 0 else 2) else 1
set_option maxRecDepth 100000 in
set_option maxHeartbeats 1000000 in
theorem l04Code_any (m : Mc) (cs : Array Value) (hm : m.Is cs) (v : Value) (xs : List Int) (n : Int) (w : World) (hr : RdI w v xs) :
    Calls Try.prog 157 #[.agg cs, v, .int .i64 n] w fun e w' => e = .returned (.int .i64 (lcC m xs n)) ∧ Below w.heap.size w w' := by
  obtain rfl := hm.eq_cells
  have Hm := hidd hm
  have Hr := hidd hr
  obtain ⟨A0, c0, rfl, hq0⟩ := hr
  clear hm hq0
  by_cases hc : codeW m [xs] = 0
  · have HR : Hid (lcC m xs n = _) := hidd (if_pos hc)
    have Hc := hidd hc
    clear hc
    by_cases hn : 0 ≤ n ∧ n ≤ 5
    · rw [if_pos hn] at HR
      go_enter Try.func157, Try.ntmps157
      go_wp2_with (refine ldI rfl (.tmp 3) rfl w.heap.size rfl Hm.out (hp_new rfl) ?_)
      refine (l02Code_any _ _ Hm.out _ [xs] _ ?_).mono ?_
      · exact RdLL.lit1 (Hr.out.alloc _) _ _ (by simp)
      rintro e w1 ⟨rfl, hb⟩
      rw [Hc.out]
      have B1 := hidd (bel_then ((bel_alloc w (.cells m.cells 27)).alloc (by simp) _) hb)
      clear hb
      go_wp2_with (go_at_call 131; refine (l01In_yes _ _ _ _ hn.1 hn.2).mono ?_; rintro e w9 ⟨rfl, rfl⟩)
      go_ret
      exact ⟨by rw [HR.out]; rfl, B1.out⟩
    · rw [if_neg hn] at HR
      go_enter Try.func157, Try.ntmps157
      go_wp2_with (refine ldI rfl (.tmp 3) rfl w.heap.size rfl Hm.out (hp_new rfl) ?_)
      refine (l02Code_any _ _ Hm.out _ [xs] _ ?_).mono ?_
      · exact RdLL.lit1 (Hr.out.alloc _) _ _ (by simp)
      rintro e w1 ⟨rfl, hb⟩
      rw [Hc.out]
      have B1 := hidd (bel_then ((bel_alloc w (.cells m.cells 27)).alloc (by simp) _) hb)
      clear hb
      go_wp2_with (go_at_call 131; refine (l01In_no _ _ _ _ (by omega)).mono ?_; rintro e w9 ⟨rfl, rfl⟩)
      go_ret
      exact ⟨by rw [HR.out]; rfl, B1.out⟩
  · have HR : Hid (lcC m xs n = _) := hidd (if_neg hc)
    have Hc := hidd (codeW_one hc)
    clear hc
    go_enter Try.func157, Try.ntmps157
    go_wp2_with (refine ldI rfl (.tmp 3) rfl w.heap.size rfl Hm.out (hp_new rfl) ?_)
    refine (l02Code_any _ _ Hm.out _ [xs] _ ?_).mono ?_
    · exact RdLL.lit1 (Hr.out.alloc _) _ _ (by simp)
    rintro e w1 ⟨rfl, hb⟩
    rw [Hc.out]
    have B1 := hidd (bel_then ((bel_alloc w (.cells m.cells 27)).alloc (by simp) _) hb)
    clear hb
    go_wp2_with fail
    go_ret
    exact ⟨by rw [HR.out]; rfl, B1.out⟩

def solR (m : Mc) (xs : List Int) (n : Int) : List (List Int) × Int := if codeW m [xs] = 0 then (if 0 ≤ n ∧ n ≤ 5 then (m.gm.lsc xs n.toNat, 0) else ([], 2)) else ([], 1)
theorem Gm.lsc_len {g : Gm} (hok : g.Ok) (u : List Int) {n : Nat} (hn : n ≤ 5) : (g.lsc u n).length ≤ 243 := Nat.le_trans (g.lvS_len u n _) (pow_bd hok.l3 hn)
theorem solR_szs (m : Mc) (xs : List Int) (n : Int) : szs (solR m xs n).1 ≤ 1048576 := by
  unfold solR
  split
  · rename_i h
    obtain ⟨g, rfl, hok, hw⟩ := codeW_zero h
    have hgw := hw xs (List.mem_singleton.2 rfl)
    have h40 := (gwB_mem hgw).1
    split
    · rename_i hn
      show szs (g.lsc xs n.toNat) ≤ _
      have h1 := szs_const (xss := g.lsc xs n.toNat) (c := 40) (fun ys hy => Nat.le_trans (Gm.lvS_wd hok (Gm.Nums.of hgw) _ _ ys hy).2 h40)
      have := Gm.lsc_len hok xs (show n.toNat ≤ 5 by omega)
      have := Nat.mul_le_mul_right 40 this
      omega
    · exact Nat.zero_le _
  · exact Nat.zero_le _

set_option maxRecDepth 100000 in
set_option maxHeartbeats 1000000 in
theorem implSectionsOfLevel_any (m : Mc) (cs : Array Value) (hm : m.Is cs) (v : Value) (xs : List Int) (n : Int) (w : World) (hr : RdI w v xs) :
    Calls Try.prog 89 #[.agg cs, v, .int .i64 n] w fun e w' => (∃ a rows, e = .returned (.tuple #[a, .int .i64 (solR m xs n).2]) ∧ LLr w' w.heap.size a rows (solR m xs n).1) ∧ Below w.heap.size w w' := by
  have Hm := hidd hm
  have Hr := hidd hr
  obtain ⟨A0, c0, rfl, hq0⟩ := hr
  clear hm hq0
  by_cases hc : codeW m [xs] = 0
  · have HR : Hid (solR m xs n = _) := hidd (if_pos hc)
    obtain ⟨g, rfl, hok, hw⟩ := codeW_zero hc
    have hgw := hw xs (List.mem_singleton.2 rfl)
    have HN := hidd (Gm.Nums.of hgw)
    have h40 := (gwB_mem hgw).1
    have HA := hidd (show [xs].all (gwB g.s) = true by simp [hgw])
    have HO := hidd hok
    clear hc hok hw hgw
    by_cases hn : 0 ≤ n ∧ n ≤ 5
    · rw [if_pos hn] at HR
      obtain ⟨hn0, hn5⟩ := hn
      obtain ⟨q, hq⟩ : ∃ q : Nat, n = q := ⟨n.toNat, by omega⟩
      subst hq
      have HR2 : Hid (solR g.mc xs (q : Int) = (g.lsc xs q, 0)) := hidd HR.out
      clear HR
      go_enter Try.func89, Try.ntmps89
      go_wp2_with (refine ldI rfl (.tmp 3) rfl w.heap.size rfl Hm.out (hp_new rfl) ?_)
      refine (groupOf_yes g HO.out cs ⟨Hm.out⟩ _ [xs] _ (RdLL.lit1 (Hr.out.alloc _) _ _ (by simp)) HA.out).mono ?_
      rintro e w1 ⟨⟨G, vo, vt, rfl, hG, hle⟩, hb⟩
      have B1 := hidd (bel_then ((bel_alloc w (.cells cs 27)).alloc (by simp) _) hb)
      have HG := hidd hG
      clear hb hG
      go_wp2_with (go_at_call 107; refine (within_yes _ _ _ _ (by omega) (by omega)).mono ?_; rintro e w9 ⟨rfl, rfl⟩)
      refine (sectionsOfLevel_any g HO.out G vo vt _ xs HN.out (by omega) q (by omega) _ HG.out (Hr.out.below B1.out)).mono ?_
      rintro e w2 ⟨⟨a, rows, rfl, ho⟩, hb⟩
      have Ho := hidd ho
      have B2 := hidd (bel_then B1.out hb)
      clear ho hb
      go_wp2_with fail
      go_ret2
      exact ⟨⟨_, rows, by rw [HR2.out]; rfl, by rw [HR2.out]; exact Ho.out.mono B1.out.size⟩, B2.out⟩
    · rw [if_neg hn] at HR
      have Hn := hidd hn
      clear hn
      go_enter Try.func89, Try.ntmps89
      go_wp2_with (refine ldI rfl (.tmp 3) rfl w.heap.size rfl Hm.out (hp_new rfl) ?_)
      refine (groupOf_yes g HO.out cs ⟨Hm.out⟩ _ [xs] _ (RdLL.lit1 (Hr.out.alloc _) _ _ (by simp)) HA.out).mono ?_
      rintro e w1 ⟨⟨G, vo, vt, rfl, hG, hle⟩, hb⟩
      have B1 := hidd (bel_then ((bel_alloc w (.cells cs 27)).alloc (by simp) _) hb)
      clear hb hG
      go_wp2_with (go_at_call 107; refine (within_no _ _ _ _ (by have := Hn.out; omega)).mono ?_; rintro e w9 ⟨rfl, rfl⟩)
      go_ret2
      exact ⟨⟨_, [], by rw [HR.out]; rfl, by rw [HR.out]; exact LLr.nil _ _⟩, B1.out⟩
  · have HR : Hid (solR m xs n = _) := hidd (if_neg hc)
    have Hc := hidd hc
    clear hc
    go_enter Try.func89, Try.ntmps89
    go_wp2_with (refine ldI rfl (.tmp 3) rfl w.heap.size rfl Hm.out (hp_new rfl) ?_)
    refine (groupOf_no m cs Hm.out _ [xs] _ (RdLL.lit1 (Hr.out.alloc _) _ _ (by simp)) Hc.out).mono ?_
    rintro e w1 ⟨rfl, hb⟩
    have B1 := hidd (bel_then ((bel_alloc w (.cells cs 27)).alloc (by simp) _) hb)
    clear hb
    go_wp2_with fail
    go_ret2
    exact ⟨⟨_, [], by rw [HR.out]; rfl, by rw [HR.out]; exact LLr.nil _ _⟩, B1.out⟩

set_option maxRecDepth 100000 in
set_option maxHeartbeats 1000000 in
theorem specSectionsOfLevel_any (m : Mc) (cs : Array Value) (hm : m.Is cs) (v : Value) (xs : List Int) (n : Int) (w : World) (hr : RdI w v xs) (hv : NilOk v) :
    Calls Try.prog 88 #[.agg cs, v, .int .i64 n] w fun e w' => (∃ a rows, e = .returned (.tuple #[a, .int .i64 (solR m xs n).2]) ∧ LLr w' w.heap.size a rows (solR m xs n).1) ∧ Below w.heap.size w w' := by
  obtain rfl := hm.eq_cells
  have Hm := hidd hm
  have Hr := hidd hr
  have Hv := hidd hv
  have HC := hidd (fun W (h : RdI W v xs) => l04Code_any m m.cells hm v xs n W h)
  obtain ⟨A0, c0, rfl, hq0⟩ := hr
  clear hm hq0 hv
  by_cases hc : codeW m [xs] = 0 ∧ 0 ≤ n ∧ n ≤ 5
  · have HR : Hid (solR m xs n = (m.gm.lsc xs n.toNat, 0)) := hidd (by unfold solR; rw [if_pos hc.1, if_pos hc.2])
    have hl0 : lcC m xs n = 0 := by unfold lcC; rw [if_pos hc.1, if_pos hc.2]
    rw [hl0] at HC
    obtain ⟨g, rfl, hok, hw⟩ := codeW_zero hc.1
    have hgw := hw xs (List.mem_singleton.2 rfl)
    have HN := hidd (Gm.Nums.of hgw)
    have h40 := (gwB_mem hgw).1
    have HO := hidd hok
    obtain ⟨q, hq⟩ : ∃ q : Nat, n = q := ⟨n.toNat, by omega⟩
    subst hq
    have hq5 : q ≤ 5 := by omega
    have HR2 : Hid (solR g.mc xs (q : Int) = (g.lsc xs q, 0)) := hidd HR.out
    clear hc hok hw hgw HR hl0
    go_enter Try.func88, Try.ntmps88
    go_wp2_with (refine ldI rfl (.tmp 3) rfl w.heap.size rfl Hm.out (hp_new rfl) ?_)
    refine (HC.out _ (Hr.out.alloc _)).mono ?_
    rintro e w1 ⟨rfl, hb⟩
    have B1 := hidd (bel_then (bel_alloc w (.cells g.mc.cells 27)) hb)
    have K1 := hidd (hp_bel (hp_new rfl) hb : w1.heap[w.heap.size]? = some (.cells g.mc.cells 27 (0, 0)))
    clear hb
    go_wp2_with (refine ldC rfl (.tmp 3) rfl _ g.mc K1.out (by rfl) ?_)
    refine (l04Sections_any g HO.out _ xs HN.out Hv.out (by omega) q hq5 _ (Hr.out.below B1.out)).mono ?_
    rintro e w2 ⟨⟨a, rows, rfl, ho⟩, hb⟩
    have Ho := hidd ho
    have B2 := hidd (bel_then B1.out hb)
    clear ho hb
    go_wp2_with fail
    go_ret2
    exact ⟨⟨_, rows, by rw [HR2.out]; rfl, by rw [HR2.out]; exact Ho.out.mono B1.out.size⟩, B2.out⟩
  · have HR : Hid (solR m xs n = ([], lcC m xs n)) := hidd (by
      unfold solR lcC
      by_cases h1 : codeW m [xs] = 0
      · rw [if_pos h1, if_pos h1, if_neg (fun h => hc ⟨h1, h⟩), if_neg (fun h => hc ⟨h1, h⟩)]
      · rw [if_neg h1, if_neg h1])
    have hne : ¬ lcC m xs n = 0 := by
      unfold lcC
      by_cases h1 : codeW m [xs] = 0
      · rw [if_pos h1, if_neg (fun h => hc ⟨h1, h⟩)]; decide
      · rw [if_neg h1]; decide
    obtain ⟨k, hk⟩ : ∃ k, k = lcC m xs n := ⟨_, rfl⟩
    rw [← hk] at HC HR hne
    have h1 : (k == 0) = false := by simp [hne]
    have h2 : (k != 0) = true := by simp [hne]
    clear hc hk hne
    go_enter Try.func88, Try.ntmps88
    go_wp2_with (refine ldI rfl (.tmp 3) rfl w.heap.size rfl Hm.out (hp_new rfl) ?_)
    refine (HC.out _ (Hr.out.alloc _)).mono ?_
    rintro e w1 ⟨rfl, hb⟩
    have B1 := hidd (bel_then (bel_alloc w (.cells m.cells 27)) hb)
    clear hb
    go_wp2_with fail
    go_ret2
    exact ⟨⟨_, [], by rw [HR.out]; rfl, by rw [HR.out]; exact LLr.nil _ _⟩, B1.out⟩
end Go.Proofs.Ytjnnbjlombopnaa
