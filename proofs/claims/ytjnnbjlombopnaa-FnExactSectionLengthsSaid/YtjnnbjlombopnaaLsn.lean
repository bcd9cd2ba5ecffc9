/- Walks: SectionLengths, of the program and of the reference. -/
import Derived.Test.YtjnnbjlombopnaaLsf
namespace Go.Proofs.Ytjnnbjlombopnaa
open Go.RowKit
set_option linter.unusedSimpArgs false

/-- The greatest length of the first k words. -/
def mxl (W : List (List Int)) : Nat → Nat
  | 0 => 0
  | k + 1 => max (mxl W k) (W.getD k []).length
def Gm.lgs (g : Gm) (u : List Int) (k : Nat) : List Int := upto (fun j => (mxl (g.lsc u j) (g.lsc u j).length : Int)) k
theorem Gm.lgs_succ (g : Gm) (u : List Int) (k : Nat) : ints (g.lgs u (k + 1)) = ints (g.lgs u k) ++ [.int .i64 (mxl (g.lsc u k) (g.lsc u k).length : Nat)] := by unfold Gm.lgs; rw [upto_succ, ints_append]; rfl
theorem Gm.lgs_len (g : Gm) (u : List Int) (k : Nat) : (g.lgs u k).length = k := by unfold Gm.lgs; rw [upto_len]
theorem mxl_le {W : List (List Int)} {L : Nat} (h : ∀ s ∈ W, s.length ≤ L) : ∀ k, k ≤ W.length → mxl W k ≤ L
  | 0, _ => Nat.zero_le _
  | k + 1, hk => by
    have h1 := mxl_le h k (by omega)
    have h2 : (W.getD k []).length ≤ L := by
      rw [List.getD_eq_getElem?_getD, List.getElem?_eq_getElem (by omega)]
      exact h _ (List.getElem_mem _)
    show max _ _ ≤ L
    omega
def slnR (m : Mc) (xs : List Int) (n : Int) : List Int × Int := if codeW m [xs] = 0 then (if 0 ≤ n ∧ n ≤ 5 then (m.gm.lgs xs (n.toNat + 1), 0) else ([], 2)) else ([], 1)
theorem slnR_len (m : Mc) (xs : List Int) (n : Int) : (slnR m xs n).1.length ≤ 1048576 := by
  unfold slnR
  split
  · split
    · rename_i hn
      show (Gm.lgs _ _ _).length ≤ _
      rw [Gm.lgs_len]; omega
    · exact Nat.zero_le _
  · exact Nat.zero_le _

set_option maxRecDepth 100000 in
set_option maxHeartbeats 1000000 in
theorem implSectionLengths_any (m : Mc) (cs : Array Value) (hm : m.Is cs) (v : Value) (xs : List Int) (n : Int) (w : World) (hr : RdI w v xs) :
    Calls Try.prog 87 #[.agg cs, v, .int .i64 n] w fun e w' => (∃ u, e = .returned (.tuple #[u, .int .i64 (slnR m xs n).2]) ∧ Own w' w.heap.size 2 u (ints (slnR m xs n).1)) ∧ Below w.heap.size w w' := by
  have Hm := hidd hm
  have Hr := hidd hr
  obtain ⟨A0, c0, rfl, hq0⟩ := hr
  clear hm hq0
  by_cases hc : codeW m [xs] = 0
  · have HR : Hid (slnR m xs n = _) := hidd (if_pos hc)
    obtain ⟨g, rfl, hok, hw⟩ := codeW_zero hc
    have hgw := hw xs (List.mem_singleton.2 rfl)
    have HN := hidd (Gm.Nums.of hgw)
    have h40 := (gwB_mem hgw).1
    have HA := hidd (show [xs].all (gwB g.s) = true by simp [hgw])
    have HO := hidd hok
    clear hc hok hw hgw
    by_cases hn : 0 ≤ n ∧ n ≤ 5
    · rw [if_pos hn] at HR
      obtain ⟨hn0, hn5⟩ := hn
      obtain ⟨q, hq⟩ : ∃ q : Nat, n = q := ⟨n.toNat, by omega⟩
      subst hq
      have HR2 : Hid (slnR g.mc xs (q : Int) = (g.lgs xs (q + 1), 0)) := hidd HR.out
      clear HR
      go_enter Try.func87, Try.ntmps87
      go_wp2_with (refine ldI rfl (.tmp 3) rfl w.heap.size rfl Hm.out (hp_new rfl) ?_)
      refine (groupOf_yes g HO.out cs ⟨Hm.out⟩ _ [xs] _ (RdLL.lit1 (Hr.out.alloc _) _ _ (by simp)) HA.out).mono ?_
      rintro e w1 ⟨⟨G, vo, vt, rfl, hG, hle⟩, hb⟩
      have B1 := hidd (bel_then ((bel_alloc w (.cells cs 27)).alloc (by simp) _) hb)
      have HG := hidd hG
      clear hb hG
      go_wp2_with (go_at_call 107; refine (within_yes _ _ _ _ (by omega) (by omega)).mono ?_; rintro e w9 ⟨rfl, rfl⟩)
      go_loopw [10, 30] (fun o y wr => ∃ k : Nat, k ≤ q + 1 ∧ y = .int .i64 k ∧ Hid (Own wr w1.heap.size 2 o (ints (g.lgs xs k))) ∧ Hid (Below w1.heap.size w1 wr)) (fun _ y _ => q + 1 - (intOf y).toNat)
      case atStart => exact ⟨0, Nat.zero_le _, rfl, hidd (Own.nil _ _ _), hidd (Below.refl _ _)⟩
      case round =>
        obtain ⟨k, hk, rfl, HU, Hb⟩ := hrel
        obtain ⟨wo, rfl⟩ : ∃ wo, wo = wr := ⟨_, rfl⟩
        by_cases hlt : k < q + 1
        · have i1 : (k : Int) < (q : Int) + 1 := by omega
          go_wp2_with fail
          refine (sectionsOfLevel_any g HO.out G vo vt _ xs HN.out (by omega) k (by omega) _ (HG.out.below Hb.out) ((Hr.out.below B1.out).below Hb.out)).mono ?_
          rintro e w2 ⟨⟨a, rows, rfl, ho⟩, hb⟩
          obtain ⟨Aq, cq, hqe⟩ := ho.v.slice
          rw [ho.len] at hqe
          subst hqe
          have HQ := hidd ho
          have HU2 := hidd (HU.out.below hb)
          have Hb2 := hidd (bel_then Hb.out hb)
          have HS := hidd (g.lgs_succ xs k)
          have hL := Gm.lsc_len HO.out xs (show k ≤ 5 by omega)
          have HW := hidd (fun s hs => (Gm.lvS_wd HO.out HN.out k _ s hs).2 : ∀ s ∈ g.lsc xs k, s.length ≤ xs.length)
          obtain ⟨W, hW⟩ : ∃ W, W = g.lsc xs k := ⟨_, rfl⟩
          simp only [← hW] at HQ HS hL HW ⊢
          clear ho hb HU Hb hW
          go_wp2_with fail
          go_loopw [12, 38] (fun x y wr => ∃ j : Nat, j ≤ W.length ∧ y = .int .i64 j ∧ x = .int .i64 (mxl W j : Nat) ∧ wr = w2) (fun _ y _ => W.length - (intOf y).toNat)
          case atStart => exact ⟨0, Nat.zero_le _, rfl, rfl, rfl⟩
          case round =>
            obtain ⟨j, hj, rfl, rfl, rfl⟩ := hrel
            by_cases hjl : j < W.length
            · have j1 : (j : Int) < W.length := by omega
              have hjr : j < rows.length := by rw [HQ.out.len]; exact hjl
              have hrow := HQ.out.row j rows[j] W[j] (List.getElem?_eq_getElem hjr) (List.getElem?_eq_getElem hjl)
              obtain ⟨bl, ol, rfl, hcell⟩ := HQ.out.v.rd.2.at_ (List.getElem?_eq_getElem hjr)
              obtain ⟨r, hrr⟩ : ∃ r, r = rows[j] := ⟨_, rfl⟩
              rw [← hrr] at hrow hcell
              obtain ⟨Ar, cr, rfl⟩ := hrow.slice
              rw [ints_length] at hcell
              have HM := hidd (show mxl W (j + 1) = max (mxl W j) (W[j]).length by rw [mxl, List.getD_eq_getElem?_getD, List.getElem?_eq_getElem hjl]; rfl)
              have hm1 := mxl_le HW.out j hj
              have hm2 := HW.out _ (List.getElem_mem hjl)
              obtain ⟨z, hz⟩ : ∃ z, z = (W[j]).length := ⟨_, rfl⟩
              obtain ⟨M, hMM⟩ : ∃ M, M = mxl W j := ⟨_, rfl⟩
              rw [← hz] at HM hcell hm2
              rw [← hMM] at HM hm1 ⊢
              clear hrow hrr hz hMM
              go_wp2_with fail
              go_roundw
              case rel =>
                refine ⟨j + 1, by omega, by go_num, ?_, trivial⟩
                rw [HM.out]
                congr 1
                split <;> omega
              case measure => first | (simp [intOf]; done) | (simp [intOf]; omega)
            · have he : j = W.length := by omega
              subst he
              clear hjl
              have hlen2 : (ints (g.lgs xs k)).length + 1 ≤ 1099511627776 := by rw [ints_length, g.lgs_len]; omega
              have hbase := Hb2.out.size
              go_wp2_with (at_builtin; refine app_own rfl _ _ _ rfl w1.heap.size 2 (.int .i64 0) 8 Try.underlying30 info_i64 rfl HU2.out rfl rfl rfl hlen2 (by decide) hbase ?_; intro v' w6 ho hgr hle6; have Ho2 := hidd ho; have b2 := hidd (bel_own HU2.out hgr hbase); clear ho hgr)
              go_roundw
              case rel => exact ⟨k + 1, by omega, by go_num, hidd (by rw [HS.out]; exact Ho2.out), hidd (Hb2.out.trans b2.out)⟩
              case measure => first | (simp [intOf]; done) | (simp [intOf]; omega)
        · have he : k = q + 1 := by omega
          subst he
          clear hlt
          go_wp2_with fail
          go_ret2
          exact ⟨⟨_, by rw [HR2.out]; rfl, by rw [HR2.out]; exact HU.out.mono B1.out.size⟩, bel_then B1.out Hb.out⟩
    · rw [if_neg hn] at HR
      have Hn := hidd hn
      clear hn
      go_enter Try.func87, Try.ntmps87
      go_wp2_with (refine ldI rfl (.tmp 3) rfl w.heap.size rfl Hm.out (hp_new rfl) ?_)
      refine (groupOf_yes g HO.out cs ⟨Hm.out⟩ _ [xs] _ (RdLL.lit1 (Hr.out.alloc _) _ _ (by simp)) HA.out).mono ?_
      rintro e w1 ⟨⟨G, vo, vt, rfl, hG, hle⟩, hb⟩
      have B1 := hidd (bel_then ((bel_alloc w (.cells cs 27)).alloc (by simp) _) hb)
      clear hb hG
      go_wp2_with (go_at_call 107; refine (within_no _ _ _ _ (by have := Hn.out; omega)).mono ?_; rintro e w9 ⟨rfl, rfl⟩)
      go_ret2
      exact ⟨⟨_, by rw [HR.out]; rfl, by rw [HR.out]; exact Own.nil _ _ _⟩, B1.out⟩
  · have HR : Hid (slnR m xs n = _) := hidd (if_neg hc)
    have Hc := hidd hc
    clear hc
    go_enter Try.func87, Try.ntmps87
    go_wp2_with (refine ldI rfl (.tmp 3) rfl w.heap.size rfl Hm.out (hp_new rfl) ?_)
    refine (groupOf_no m cs Hm.out _ [xs] _ (RdLL.lit1 (Hr.out.alloc _) _ _ (by simp)) Hc.out).mono ?_
    rintro e w1 ⟨rfl, hb⟩
    have B1 := hidd (bel_then ((bel_alloc w (.cells cs 27)).alloc (by simp) _) hb)
    clear hb
    go_wp2_with fail
    go_ret2
    exact ⟨⟨_, by rw [HR.out]; rfl, by rw [HR.out]; exact Own.nil _ _ _⟩, B1.out⟩

set_option maxRecDepth 100000 in
set_option maxHeartbeats 1000000 in
theorem specSectionLengths_any (m : Mc) (cs : Array Value) (hm : m.Is cs) (v : Value) (xs : List Int) (n : Int) (w : World) (hr : RdI w v xs) (hv : NilOk v) :
    Calls Try.prog 86 #[.agg cs, v, .int .i64 n] w fun e w' => (∃ u, e = .returned (.tuple #[u, .int .i64 (slnR m xs n).2]) ∧ Own w' w.heap.size 2 u (ints (slnR m xs n).1)) ∧ Below w.heap.size w w' := by
  obtain rfl := hm.eq_cells
  have Hm := hidd hm
  have Hr := hidd hr
  have Hv := hidd hv
  have HC := hidd (fun W (h : RdI W v xs) => l04Code_any m m.cells hm v xs n W h)
  obtain ⟨A0, c0, rfl, hq0⟩ := hr
  clear hm hq0 hv
  by_cases hc : codeW m [xs] = 0 ∧ 0 ≤ n ∧ n ≤ 5
  · have HR : Hid (slnR m xs n = (m.gm.lgs xs (n.toNat + 1), 0)) := hidd (by unfold slnR; rw [if_pos hc.1, if_pos hc.2])
    have hl0 : lcC m xs n = 0 := by unfold lcC; rw [if_pos hc.1, if_pos hc.2]
    rw [hl0] at HC
    obtain ⟨g, rfl, hok, hw⟩ := codeW_zero hc.1
    have hgw := hw xs (List.mem_singleton.2 rfl)
    have HN := hidd (Gm.Nums.of hgw)
    have h40 := (gwB_mem hgw).1
    have HO := hidd hok
    obtain ⟨q, hq⟩ : ∃ q : Nat, n = q := ⟨n.toNat, by omega⟩
    subst hq
    have hq5 : q ≤ 5 := by omega
    have HR2 : Hid (slnR g.mc xs (q : Int) = (g.lgs xs (q + 1), 0)) := hidd HR.out
    clear hc hok hw hgw HR hl0
    go_enter Try.func86, Try.ntmps86
    go_wp2_with (refine ldI rfl (.tmp 3) rfl w.heap.size rfl Hm.out (hp_new rfl) ?_)
    refine (HC.out _ (Hr.out.alloc _)).mono ?_
    rintro e w1 ⟨rfl, hb⟩
    have B1 := hidd (bel_then (bel_alloc w (.cells g.mc.cells 27)) hb)
    have K1 := hidd (hp_bel (hp_new rfl) hb : w1.heap[w.heap.size]? = some (.cells g.mc.cells 27 (0, 0)))
    clear hb
    go_wp2_with fail
    have U1 := hidd (Own.empty w1 2 w1.heap.size (Nat.le_refl _))
    have Bl1 := hidd (bel_alloc' w1 (.cells #[] 2))
    go_loopw [9, 10] (fun o y wr => ∃ k : Nat, k ≤ q + 1 ∧ y = .int .i64 k ∧ Hid (Own wr w1.heap.size 2 o (ints (g.lgs xs k))) ∧ Hid (Below w1.heap.size w1 wr)) (fun _ y _ => q + 1 - (intOf y).toNat)
    case atStart => exact ⟨0, Nat.zero_le _, rfl, hidd U1.out, Bl1⟩
    case round =>
      clear U1 Bl1
      obtain ⟨k, hk, rfl, HU, Hb⟩ := hrel
      obtain ⟨wo, rfl⟩ : ∃ wo, wo = wr := ⟨_, rfl⟩
      by_cases hlt : k < q + 1
      · have i1 : (k : Int) ≤ (q : Int) := by omega
        go_wp2_with (refine ldC rfl (.tmp 3) rfl _ g.mc (hp_bel K1.out Hb.out) (by rfl) ?_)
        refine (l04Sections_any g HO.out _ xs HN.out Hv.out (by omega) k (by omega) _ ((Hr.out.below B1.out).below Hb.out)).mono ?_
        rintro e w2 ⟨⟨a, rows, rfl, ho⟩, hb⟩
        obtain ⟨Aq, cq, hqe⟩ := ho.v.slice
        rw [ho.len] at hqe
        subst hqe
        have HQ := hidd ho
        have HU2 := hidd (HU.out.below hb)
        have Hb2 := hidd (bel_then Hb.out hb)
        have HS := hidd (g.lgs_succ xs k)
        have hL := Gm.lsc_len HO.out xs (show k ≤ 5 by omega)
        have HW := hidd (fun s hs => (Gm.lvS_wd HO.out HN.out k _ s hs).2 : ∀ s ∈ g.lsc xs k, s.length ≤ xs.length)
        obtain ⟨W, hW⟩ : ∃ W, W = g.lsc xs k := ⟨_, rfl⟩
        simp only [← hW] at HQ HS hL HW ⊢
        clear ho hb HU Hb hW
        go_wp2_with fail
        go_loopw [12, 13] (fun x y wr => ∃ j : Nat, j ≤ W.length ∧ y = .int .i64 j ∧ x = .int .i64 (mxl W j : Nat) ∧ wr = w2) (fun _ y _ => W.length - (intOf y).toNat)
        case atStart => exact ⟨0, Nat.zero_le _, rfl, rfl, rfl⟩
        case round =>
          obtain ⟨j, hj, rfl, rfl, rfl⟩ := hrel
          by_cases hjl : j < W.length
          · have j1 : (j : Int) < W.length := by omega
            have hjr : j < rows.length := by rw [HQ.out.len]; exact hjl
            have hrow := HQ.out.row j rows[j] W[j] (List.getElem?_eq_getElem hjr) (List.getElem?_eq_getElem hjl)
            obtain ⟨bl, ol, rfl, hcell⟩ := HQ.out.v.rd.2.at_ (List.getElem?_eq_getElem hjr)
            obtain ⟨r, hrr⟩ : ∃ r, r = rows[j] := ⟨_, rfl⟩
            rw [← hrr] at hrow hcell
            obtain ⟨Ar, cr, rfl⟩ := hrow.slice
            rw [ints_length] at hcell
            have HM := hidd (show mxl W (j + 1) = max (mxl W j) (W[j]).length by rw [mxl, List.getD_eq_getElem?_getD, List.getElem?_eq_getElem hjl]; rfl)
            have hm1 := mxl_le HW.out j hj
            have hm2 := HW.out _ (List.getElem_mem hjl)
            obtain ⟨z, hz⟩ : ∃ z, z = (W[j]).length := ⟨_, rfl⟩
            obtain ⟨M, hMM⟩ : ∃ M, M = mxl W j := ⟨_, rfl⟩
            rw [← hz] at HM hcell hm2
            rw [← hMM] at HM hm1 ⊢
            clear hrow hrr hz hMM
            go_wp2_with fail
            go_roundw
            case rel =>
              refine ⟨j + 1, by omega, by go_num, ?_, trivial⟩
              rw [HM.out]
              congr 1
              split <;> omega
            case measure => first | (simp [intOf]; done) | (simp [intOf]; omega)
          · have he : j = W.length := by omega
            subst he
            clear hjl
            have hlen2 : (ints (g.lgs xs k)).length + 1 ≤ 1099511627776 := by rw [ints_length, g.lgs_len]; omega
            have hbase := Hb2.out.size
            go_wp2_with (at_builtin; refine app_own rfl _ _ _ rfl w1.heap.size 2 (.int .i64 0) 8 Try.underlying30 info_i64 rfl HU2.out rfl rfl rfl hlen2 (by decide) hbase ?_; intro v' w6 ho hgr hle6; have Ho2 := hidd ho; have b2 := hidd (bel_own HU2.out hgr hbase); clear ho hgr)
            go_roundw
            case rel => exact ⟨k + 1, by omega, by go_num, hidd (by rw [HS.out]; exact Ho2.out), hidd (Hb2.out.trans b2.out)⟩
            case measure => first | (simp [intOf]; done) | (simp [intOf]; omega)
      · have he : k = q + 1 := by omega
        subst he
        have i1 : ¬ ((q + 1 : Nat) : Int) ≤ (q : Int) := by omega
        clear hlt
        go_wp2_with fail
        go_ret2
        exact ⟨⟨_, by rw [HR2.out]; rfl, by rw [HR2.out]; exact HU.out.mono B1.out.size⟩, bel_then B1.out Hb.out⟩
  · have HR : Hid (slnR m xs n = ([], lcC m xs n)) := hidd (by
      unfold slnR lcC
      by_cases h1 : codeW m [xs] = 0
      · rw [if_pos h1, if_pos h1, if_neg (fun h => hc ⟨h1, h⟩), if_neg (fun h => hc ⟨h1, h⟩)]
      · rw [if_neg h1, if_neg h1])
    have hne : ¬ lcC m xs n = 0 := by
      unfold lcC
      by_cases h1 : codeW m [xs] = 0
      · rw [if_pos h1, if_neg (fun h => hc ⟨h1, h⟩)]; decide
      · rw [if_neg h1]; decide
    obtain ⟨k, hk⟩ : ∃ k, k = lcC m xs n := ⟨_, rfl⟩
    rw [← hk] at HC HR hne
    have h1 : (k == 0) = false := by simp [hne]
    have h2 : (k != 0) = true := by simp [hne]
    clear hc hk hne
    go_enter Try.func86, Try.ntmps86
    go_wp2_with (refine ldI rfl (.tmp 3) rfl w.heap.size rfl Hm.out (hp_new rfl) ?_)
    refine (HC.out _ (Hr.out.alloc _)).mono ?_
    rintro e w1 ⟨rfl, hb⟩
    have B1 := hidd (bel_then (bel_alloc w (.cells m.cells 27)) hb)
    clear hb
    go_wp2_with fail
    go_ret2
    exact ⟨⟨_, by rw [HR.out]; rfl, by rw [HR.out]; exact Own.nil _ _ _⟩, B1.out⟩
end Go.Proofs.Ytjnnbjlombopnaa
