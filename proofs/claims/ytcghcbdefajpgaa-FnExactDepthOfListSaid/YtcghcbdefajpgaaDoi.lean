/- Walks: DepthOfList, of the program. -/
import Derived.Test.YtcghcbdefajpgaaDop
namespace Go.Proofs.Ytcghcbdefajpgaa
open Go.RowKit
set_option linter.unusedSimpArgs false

theorem dolClosure_any (u : Value) (ys : List Int) (w : World) (hu : RdI w u ys) :
    Calls Try.prog 29 #[u] w fun e w' => e = .returned (.bool (decide (40 < ys.length))) ∧ Below w.heap.size w w' := by
  have hl := hu.le
  obtain ⟨A', c', rfl, hq'⟩ := hu
  clear hq'
  by_cases h : 40 < ys.length
  · have i1 : (40 : Int) < ys.length := by omega
    rw [decide_eq_true h]
    go_enter Try.func29, Try.ntmps29
    go_wp2_with fail
    go_ret
    exact ⟨rfl, Below.refl _ _⟩
  · have i1 : ¬ (40 : Int) < ys.length := by omega
    rw [decide_eq_false h]
    go_enter Try.func29, Try.ntmps29
    go_wp2_with fail
    go_ret
    exact ⟨rfl, Below.refl _ _⟩

set_option maxRecDepth 100000 in
set_option maxHeartbeats 4000000 in
theorem implDepthOfList_any (m : Mc) (cs : Array Value) (hm : m.Is cs) (v : Value) (xss : List (List Int)) (w : World) (hr : RdLN w v xss) :
    Calls Try.prog 14 #[.agg cs, v] w fun e w' => e = .returned (.tuple #[.int .i64 (dolR m xss).1, .int .i64 (dolR m xss).2]) ∧ Below w.heap.size w w' := by
  obtain rfl := hm.eq_cells
  have Hm := hidd hm
  have Hr := hidd hr
  obtain ⟨A0, c0, rows0, rfl, hq1, hq2, hq3⟩ := hr
  clear hm hq1 hq2 hq3
  by_cases hc : codeW m xss = 0
  · have HR := hidd (show dolR m xss = _ from if_pos hc)
    obtain ⟨g, rfl, hok, hw⟩ := codeW_zero hc
    have HA := hidd (List.all_eq_true.2 hw)
    have HO := hidd hok
    have HNs := hidd (fun u (hu : u ∈ xss) => Gm.Nums.of (hw u hu))
    have H40 := hidd (fun u (hu : u ∈ xss) => (gwB_mem (hw u hu)).1)
    have HR3 : Hid (dolR g.mc xss = if g.lofC xss = 0 then (if lim xss = true then (0, 3) else g.depF (g.mks xss) (prods xss) 6 0) else (0, g.lofC xss)) := hidd HR.out
    clear hc hok hw HR
    go_enter Try.func14, Try.ntmps14
    go_wp2_with (refine ldI rfl (.tmp 2) rfl w.heap.size rfl Hm.out (hp_new rfl) ?_)
    refine (listOf_yes g HO.out _ xss HA.out _ (Hr.out.ll.below (bel_alloc' _ _))).mono ?_
    rintro e w1 ⟨⟨p, rfl, hq⟩, hb⟩
    have B1 := hidd (bel_then (bel_alloc' w (.cells g.mc.cells 31)) hb)
    rcases g.lofC_cases xss with ⟨hz, hl⟩ | ⟨hz, hl⟩ | ⟨hz, hl⟩
    · obtain ⟨l, G, vo, vt, vm, rfl, hG, hL, hV⟩ := hq hz
      rw [hz] at HR3 ⊢
      rw [if_pos rfl] at HR3
      have HMs := hidd (Gm.mks_is HO.out HNs.out)
      have HMl : Hid ((g.mks xss).length ≤ 1000) := hidd (by simp [Gm.mks]; omega)
      clear hq hb hz
      go_wp2_with fail
      refine (products_any _ xss hl (fun u hu => by have := H40.out u hu; omega) _ (Hr.out.below B1.out)).mono ?_
      rintro e w2 ⟨⟨a, rows, rfl, hP⟩, hb⟩
      have B2 := hidd (bel_then B1.out hb)
      have HPN : Hid (∀ u ∈ prods xss, g.Nums u ∧ u.length ≤ 1048576) := hidd (fun u hu => by
        obtain ⟨k, hk, rfl⟩ := List.mem_map.1 hu
        obtain ⟨a, b, h1, h2, h3⟩ := pk_mem (xss := xss) (List.mem_range.1 hk) (p := fun u => g.Nums u ∧ u.length ≤ 40) (fun u hu => ⟨HNs.out u hu, H40.out u hu⟩)
        rw [h3]
        exact ⟨h1.1.app h2.1, by rw [List.length_append]; omega⟩)
      have hPl : (prods xss).length ≤ 1024 := by
        rw [prods_len]
        exact Nat.mul_le_mul hl hl
      obtain ⟨Aw, cw, hae⟩ := hP.v.slice
      subst hae
      have hC := containsFunc65 29 #[] (fun _ _ => rfl) Aw cw rows (fun j => rows.getD j undef) (fun j => decide (40 < (pk xss j).length)) w2 hP.v.rd.2 (fun j hj => by rw [List.getElem?_eq_getElem hj, List.getD_eq_getElem?_getD, List.getElem?_eq_getElem hj]; rfl) (fun j W hj hb => by
        have hj2 : j < xss.length * xss.length := by rw [← prods_len, ← hP.len]; exact hj
        have hro := hP.row j rows[j] _ (List.getElem?_eq_getElem hj) (prods_get hj2)
        have e1 : rows.getD j undef = rows[j] := by rw [List.getD_eq_getElem?_getD, List.getElem?_eq_getElem hj]; rfl
        show Calls Try.prog 29 #[rows.getD j undef] W fun e w' => e = .returned (.bool (decide (40 < (pk xss j).length))) ∧ Below W.heap.size W w'
        rw [e1]
        exact dolClosure_any _ _ W (hro.below hb).rdI)
      rw [hP.len, prods_len, lim_any] at hC
      have HC := hidd hC
      have HP := hidd hP
      have HG2 := hidd (hG.below hb)
      have HL2 := hidd (hp_bel hL hb)
      have HV2 := hidd (hV.below hb)
      have hlen := hP.len
      rw [hP.len, prods_len]
      clear hb hC hP hG hL hV
      go_wp2_with fail
      refine HC.out.mono ?_
      rintro e w3 ⟨rfl, hb⟩
      have B3 := hidd (bel_then B2.out hb)
      have HP3 := hidd (HP.out.below hb)
      have HG3 := hidd (HG2.out.below hb)
      have HL3 := hidd (hp_bel HL2.out hb)
      have HV3 := hidd (HV2.out.below hb)
      clear hb HC HP HG2 HL2 HV2
      cases hlim : lim xss with
      | true =>
        have HR4 := hidd (show dolR g.mc xss = (0, 3) by rw [HR3.out, hlim]; rfl)
        clear hlim
        go_wp2_with fail
        go_ret2
        exact ⟨by rw [HR4.out]; rfl, B3.out⟩
      | false =>
        obtain ⟨ms, hms⟩ : ∃ ms, ms = g.mks xss := ⟨_, rfl⟩
        obtain ⟨ps, hps⟩ : ∃ ps, ps = prods xss := ⟨_, rfl⟩
        obtain ⟨T, hT⟩ : ∃ T, T = dolR g.mc xss := ⟨_, rfl⟩
        have HT : Hid (g.depF ms ps (6 - 0) 0 = T) := hidd (by rw [hT, HR3.out, hlim, hms, hps]; rfl)
        rw [← hps] at HP3 HPN hPl hlen
        rw [← hms] at HV3 HMs HMl
        have HTd := hidd hT
        rw [← prods_len, ← hps, ← hlen]
        clear hlim HR3 hms hps hT
        go_wp2_with fail
        go_loopw [28] (fun y wr => ∃ n : Nat, y = .int .i64 n ∧ n ≤ 6 ∧ Hid (g.depF ms ps (6 - n) n = T) ∧ Hid (Below w3.heap.size w3 wr)) (fun y _ => 6 - (intOf y).toNat)
        case atStart => exact ⟨0, rfl, Nat.zero_le _, HT, hidd (Below.refl _ _)⟩
        case round =>
          clear HT
          obtain ⟨n, rfl, hn, HT, Hb⟩ := hrel
          by_cases hlt : n < 6
          · have i1 : (n : Int) < 6 := by omega
            have HTs : Hid ((if (g.rowD ms n ps).1 = true then ((n : Int), (0 : Int)) else if (g.rowD ms n ps).2 = 0 then g.depF ms ps (6 - (n + 1)) (n + 1) else (0, (g.rowD ms n ps).2)) = T) := hidd (by
              have h := HT.out
              rw [show 6 - n = (6 - (n + 1)) + 1 by omega, Gm.depF] at h
              exact h)
            have HK : Hid (g.rowD ms n (ps.drop 0) = g.rowD ms n ps) := hidd rfl
            obtain ⟨R, hR⟩ : ∃ R, R = g.rowD ms n ps := ⟨_, rfl⟩
            rw [← hR] at HK HTs
            clear HT hR
            go_wp2_with fail
            go_loopw [10, 33] (fun x y wr => ∃ k : Nat, y = .int .i64 k ∧ x = .bool true ∧ k ≤ rows.length ∧ Hid (g.rowD ms n (ps.drop k) = R) ∧ Hid (Below w3.heap.size w3 wr)) (fun _ y _ => rows.length - (intOf y).toNat)
            case atStart => exact ⟨0, rfl, rfl, Nat.zero_le _, HK, Hb⟩
            case round =>
              clear HK Hb
              obtain ⟨k, rfl, rfl, hk, HK, Hb⟩ := hrel
              by_cases hkt : k < rows.length
              · have k1 : (k : Int) < rows.length := by omega
                have k0 : (0 : Int) ≤ k := by omega
                have hkp : k < ps.length := by rw [← hlen]; exact hkt
                have hri := ((HP3.out.row k rows[k] ps[k] (List.getElem?_eq_getElem hkt) (List.getElem?_eq_getElem hkp)).below Hb.out).rdI
                obtain ⟨bq, oq, rfl, hcell⟩ := (HP3.out.v.below Hb.out).rd.2.at_ (List.getElem?_eq_getElem hkt)
                have hun := HPN.out _ (List.getElem_mem hkp)
                have HKs := HK.out
                rw [List.drop_eq_getElem_cons hkp, Gm.rowD] at HKs
                obtain ⟨r, hrr⟩ : ∃ r, r = rows[k] := ⟨_, rfl⟩
                obtain ⟨u, huu⟩ : ∃ u, u = ps[k] := ⟨_, rfl⟩
                rw [← hrr] at hri hcell
                rw [← huu] at hri hun HKs
                have HS := hidd (sectionsOfLevel_any g HO.out G vo vt r u hun.1 hun.2 n (by omega) wr (HG3.out.below Hb.out) hri)
                have hle := Gm.lsc_le HO.out u (show n ≤ 5 by omega)
                have HWd : Hid (∀ s ∈ g.lsc u n, g.Nums s ∧ s.length ≤ 1048576) := hidd (fun s hs => by have h := Gm.lvS_wd HO.out hun.1 n (g.l ^ n) s hs; exact ⟨h.1, by have := h.2; omega⟩)
                have hac := g.allR_code ms (g.lsc u n)
                have HH := hidd (fun (X : World) (hb : Below wr.heap.size wr X) (a : Value) (ha : RdLL X a (g.lsc u n)) => hasAll_any g HO.out G vo vt l _ vm ms _ HMs.out HMl.out a (g.lsc u n) HWd.out (by omega) X ((HG3.out.below Hb.out).below hb) (hp_bel (hp_bel HL3.out Hb.out) hb) ((HV3.out.below Hb.out).below hb) ha)
                obtain ⟨L, hL⟩ : ∃ L, L = g.lsc u n := ⟨_, rfl⟩
                simp only [← hL] at HH hac HS HKs
                obtain ⟨M, hM⟩ : ∃ M, M = g.allR ms L := ⟨_, rfl⟩
                simp only [← hM] at HH hac HKs
                have HK2 := hidd HKs
                have Hac := hidd hac
                obtain ⟨Ar, cr, rfl, _⟩ := hri
                have c1 : wr.cell? ⟨l, 0, none⟩ = some (.pointer (some ⟨G, 0, none⟩)) := blkc (hp_bel HL3.out Hb.out) 0
                clear HKs hac hM hL hrr huu hun hle HWd HK
                go_wp2_with fail
                refine HS.out.mono ?_
                rintro e w4 ⟨⟨a, rs, rfl, ha⟩, hb4⟩
                have Hb4 := hidd (bel_then Hb.out hb4)
                have HH4 := hidd (HH.out w4 hb4 a ha.rd)
                obtain ⟨Aa, ca, hae⟩ := ha.v.slice
                subst hae
                clear hb4 HS HH hcell c1 ha
                go_wp2_with fail
                refine HH4.out.mono ?_
                rintro e w5 ⟨rfl, hb5⟩
                have Hb5 := hidd (bel_then Hb4.out hb5)
                clear hb5 HH4 Hb4 Hb
                obtain ⟨b, z⟩ := M
                by_cases hz0 : z = 0
                · subst hz0
                  cases b with
                  | true =>
                    have HK3 : Hid (g.rowD ms n (ps.drop (k + 1)) = R) := hidd (by have h := HK2.out; rwa [if_pos rfl] at h)
                    clear HK2 Hac
                    go_wp2_with fail
                    go_roundw
                    case rel => exact ⟨k + 1, by go_num, rfl, by omega, HK3, Hb5⟩
                    case measure => first | (simp [intOf]; done) | (simp [intOf]; omega)
                  | false =>
                    have HT3 : Hid (g.depF ms ps (6 - (n + 1)) (n + 1) = T) := hidd (by
                      have h := HK2.out
                      rw [if_neg (by exact Bool.false_ne_true)] at h
                      have h2 := HTs.out
                      rw [← h, if_neg (by decide), if_pos rfl] at h2
                      exact h2)
                    clear HK2 Hac HTs
                    go_wp2_with fail
                    go_roundw
                    case rel => exact ⟨n + 1, by go_num, by omega, HT3, Hb5⟩
                    case measure => first | (simp [intOf]; done) | (simp [intOf]; omega)
                · cases b with
                  | true => exact absurd (Hac.out rfl) hz0
                  | false =>
                    have HT3 : Hid (T = (0, z)) := hidd (by
                      have h := HK2.out
                      rw [if_neg (by exact Bool.false_ne_true)] at h
                      have h2 := HTs.out
                      rw [← h, if_neg (by exact Bool.false_ne_true), if_neg hz0] at h2
                      exact h2.symm)
                    have z1 : (z != 0) = true := by simp [hz0]
                    have z2 : (z == 0) = false := by simp [hz0]
                    clear HK2 Hac HTs hz0
                    go_wp2_with fail
                    go_ret2
                    exact ⟨by rw [← HTd.out, HT3.out]; rfl, bel_then B3.out Hb5.out⟩
              · have he : k = rows.length := by omega
                have HT3 : Hid (T = ((n : Int), 0)) := hidd (by
                  have h := HK.out
                  rw [List.drop_of_length_le (by omega)] at h
                  have h2 := HTs.out
                  rw [← h, Gm.rowD, if_pos rfl] at h2
                  exact h2.symm)
                subst he
                clear hkt HTs HK
                go_wp2_with fail
                go_ret2
                exact ⟨by rw [← HTd.out, HT3.out]; rfl, bel_then B3.out Hb.out⟩
          · have he : n = 6 := by omega
            subst he
            have HT3 : Hid (T = (0, 4)) := hidd HT.out.symm
            clear hlt HT
            go_wp2_with fail
            go_ret2
            exact ⟨by rw [← HTd.out, HT3.out]; rfl, bel_then B3.out Hb.out⟩
    all_goals
      rw [hz] at HR3 ⊢
      rw [if_neg (by decide)] at HR3
      clear hq hb hz
      go_wp2_with fail
      go_ret2
      exact ⟨by rw [HR3.out]; rfl, B1.out⟩
  · have HR := hidd (show dolR m xss = (0, 1) from if_neg hc)
    go_enter Try.func14, Try.ntmps14
    go_wp2_with (refine ldI rfl (.tmp 2) rfl w.heap.size rfl Hm.out (hp_new rfl) ?_)
    refine (listOf_no m _ Hm.out _ xss _ (Hr.out.ll.below (bel_alloc' _ _)) hc).mono ?_
    rintro e w1 ⟨rfl, hb⟩
    have B1 := hidd (bel_then (bel_alloc' w (.cells m.cells 31)) hb)
    clear hb hc
    go_wp2_with fail
    go_ret2
    exact ⟨by rw [HR.out]; rfl, B1.out⟩
end Go.Proofs.Ytcghcbdefajpgaa
