/- Walks: DepthOfList, of the reference. -/
import Derived.Test.YtcghcbdefajpgaaDsi
import Derived.Test.YtcghcbdefajpgaaLss
namespace Go.Proofs.Ytcghcbdefajpgaa
open Go.RowKit
set_option linter.unusedSimpArgs false

theorem codeW_one' {m : Mc} {xss : List (List Int)} (h : ¬ codeW m xss = 0) : codeW m xss = 1 := codeW_one h

set_option maxRecDepth 100000 in
set_option maxHeartbeats 4000000 in
theorem specDepthOfList_any (m : Mc) (cs : Array Value) (hm : m.Is cs) (v : Value) (xss : List (List Int)) (w : World) (hr : RdLN w v xss) :
    Calls Try.prog 13 #[.agg cs, v] w fun e w' => e = .returned (.tuple #[.int .i64 (dolR m xss).1, .int .i64 (dolR m xss).2]) ∧ Below w.heap.size w w' := by
  obtain rfl := hm.eq_cells
  have Hm := hidd hm
  have Hr := hidd hr
  obtain ⟨A0, c0, rows, rfl, hq1, hq2, hq3⟩ := hr
  have HQ1 := hidd hq1
  have HQ3 := hidd hq3
  clear hm hq1 hq3
  by_cases hc : codeW m xss = 0
  · have HR := hidd (show dolR m xss = _ from if_pos hc)
    have Hc := hidd hc
    obtain ⟨g, rfl, hok, hw⟩ := codeW_zero hc
    have HA := hidd (List.all_eq_true.2 hw)
    have HO := hidd hok
    have HNs := hidd (fun u (hu : u ∈ xss) => Gm.Nums.of (hw u hu))
    have H40 := hidd (fun u (hu : u ∈ xss) => (gwB_mem (hw u hu)).1)
    have HR3 : Hid (dolR g.mc xss = if g.lofC xss = 0 then (if lim xss = true then (0, 3) else g.depF (g.mks xss) (prods xss) 6 0) else (0, g.lofC xss)) := hidd HR.out
    clear hc hok hw HR
    go_enter Try.func13, Try.ntmps13
    go_wp2_with (refine ldI rfl (.tmp 2) rfl w.heap.size rfl Hm.out (hp_new rfl) ?_)
    refine (l04Given_yes g HO.out _ xss HA.out Hm.out Hc.out _ (Hr.out.ll.below (bel_alloc' _ _))).mono ?_
    rintro e w1 ⟨⟨a, b, ⟨Aa, na, ca, rfl⟩, ⟨Ab, nb, cb, rfl⟩, rfl, hq⟩, hb⟩
    have B1 := hidd (bel_then (bel_alloc' w (.cells g.mc.cells 31)) hb)
    have K1 := hidd (hp_bel (show (w.alloc (.cells g.mc.cells 31)).heap[w.heap.size]? = some (.cells g.mc.cells 31 (0, 0)) from hp_new rfl) hb)
    rcases g.lofC_cases xss with ⟨hz, hl⟩ | ⟨hz, hl⟩ | ⟨hz, hl⟩
    · obtain ⟨ea, hV⟩ := hq hz
      rw [hz] at HR3 ⊢
      rw [if_pos rfl] at HR3
      have HV := hidd hV
      have HMs := hidd (Gm.mks_is HO.out HNs.out)
      have HMl : Hid ((g.mks xss).length ≤ 1000) := hidd (by simp [Gm.mks]; omega)
      clear hq hb hV hz ea
      go_wp2_with (refine st143New rfl (.tmp 6) (.tmp 17) rfl w1.heap.size rfl (.slice Aa na ca) (.slice Ab nb cb) _ _ (by rfl) (by rfl) rfl rfl ?_)
      obtain ⟨lb, hlb⟩ : ∃ lb, lb = w1.heap.size := ⟨_, rfl⟩
      obtain ⟨w2, hw2⟩ : ∃ w2, w2 = w1.alloc (.cells #[.slice Aa na ca, .slice Ab nb cb] 45) := ⟨_, rfl⟩
      simp only [← hlb]
      rw [← hw2]
      have b2 : Below w1.heap.size w1 w2 := by rw [hw2]; exact bel_alloc' _ _
      have B2 := hidd (bel_then B1.out b2)
      have K2 := hidd (hp_bel K1.out b2)
      have L2 := hidd (show w2.heap[lb]? = some (.cells #[.slice Aa na ca, .slice Ab nb cb] 45 (0, 0)) by rw [hw2]; exact hp_new hlb)
      have HV2 := hidd (HV.out.below b2)
      clear hw2 b2 K1 hlb HV
      refine (l04All_any _ xss (fun u hu => by have := H40.out u hu; omega) _ (Hr.out.ll.below B2.out)).mono ?_
      rintro e w3 ⟨rfl, hb⟩
      have B3 := hidd (bel_then B2.out hb)
      have K3 := hidd (hp_bel K2.out hb)
      have L3 := hidd (hp_bel L2.out hb)
      have HV3 := hidd (HV2.out.below hb)
      clear hb K2 L2 HV2
      cases hlim : lim xss with
      | true =>
        have HR4 := hidd (show dolR g.mc xss = (0, 3) by rw [HR3.out, hlim]; rfl)
        rw [if_pos rfl]
        clear hlim
        go_wp2_with fail
        go_ret2
        exact ⟨by rw [HR4.out]; rfl, B3.out⟩
      | false =>
        rw [if_neg (by decide)]
        have HPN : Hid (∀ k, k < xss.length * xss.length → g.Nums (pk xss k) ∧ (pk xss k).length ≤ 80) := hidd (fun k hk => by
          obtain ⟨a, b, h1, h2, h3⟩ := pk_mem (xss := xss) hk (p := fun u => g.Nums u ∧ u.length ≤ 40) (fun u hu => ⟨HNs.out u hu, H40.out u hu⟩)
          rw [h3]
          exact ⟨h1.1.app h2.1, by rw [List.length_append]; omega⟩)
        obtain ⟨N, hN⟩ : ∃ N, N = xss.length * xss.length := ⟨_, rfl⟩
        have hN2 : N ≤ 1024 := by rw [hN]; exact Nat.mul_le_mul hl hl
        have hNw : IntKind.i64.wrap ((xss.length : Int) * xss.length) = (N : Int) := by
          rw [show ((xss.length : Int) * xss.length) = (N : Int) by rw [hN]; simp]
          exact IntWalk.i64_in _ (by omega)
        have HPG : Hid (∀ k, k < N → (prods xss)[k]? = some (pk xss k)) := hidd (fun k hk => prods_get (by omega))
        have hpl : (prods xss).length = N := by rw [prods_len, hN]
        obtain ⟨ms, hms⟩ : ∃ ms, ms = g.mks xss := ⟨_, rfl⟩
        obtain ⟨ps, hps⟩ : ∃ ps, ps = prods xss := ⟨_, rfl⟩
        obtain ⟨T, hT⟩ : ∃ T, T = dolR g.mc xss := ⟨_, rfl⟩
        have HT : Hid (g.depF ms ps (6 - 0) 0 = T) := hidd (by rw [hT, HR3.out, hlim, hms, hps]; rfl)
        rw [← hps] at HPG hpl
        rw [← hms] at HV3 HMs HMl
        have HTd := hidd hT
        rw [← hN] at HPN
        have HSq := hidd hN
        clear hlim HR3 hms hps hT hN
        go_wp2_with fail
        go_loopw [8] (fun y wr => ∃ n : Nat, y = .int .i64 n ∧ n ≤ 6 ∧ Hid (g.depF ms ps (6 - n) n = T) ∧ Hid (Below w3.heap.size w3 wr)) (fun y _ => 6 - (intOf y).toNat)
        case atStart => exact ⟨0, rfl, Nat.zero_le _, HT, hidd (Below.refl _ _)⟩
        case round =>
          clear HT
          obtain ⟨n, rfl, hn, HT, Hb⟩ := hrel
          by_cases hlt : n < 6
          · have i1 : (n : Int) ≤ 5 := by omega
            have HTs : Hid ((if (g.rowD ms n ps).1 = true then ((n : Int), (0 : Int)) else if (g.rowD ms n ps).2 = 0 then g.depF ms ps (6 - (n + 1)) (n + 1) else (0, (g.rowD ms n ps).2)) = T) := hidd (by
              have h := HT.out
              rw [show 6 - n = (6 - (n + 1)) + 1 by omega, Gm.depF] at h
              exact h)
            have HK : Hid (g.rowD ms n (ps.drop 0) = g.rowD ms n ps) := hidd rfl
            obtain ⟨R, hR⟩ : ∃ R, R = g.rowD ms n ps := ⟨_, rfl⟩
            rw [← hR] at HK HTs
            clear HT hR
            go_wp2_with fail
            go_loopw [9, 10] (fun x y wr => ∃ (k : Nat) (b : Bool), y = .int .i64 k ∧ x = .bool b ∧ k ≤ N ∧ Hid (if b = true then g.rowD ms n (ps.drop k) = R else R = (false, 0)) ∧ Hid (Below w3.heap.size w3 wr)) (fun _ y _ => N - (intOf y).toNat)
            case atStart => exact ⟨0, true, rfl, rfl, Nat.zero_le _, hidd HK.out, Hb⟩
            case round =>
              clear HK Hb
              obtain ⟨k, b, rfl, rfl, hk, HK, Hb⟩ := hrel
              cases b with
              | false =>
                have HR2 : Hid (R = (false, 0)) := hidd HK.out
                have HT3 : Hid (g.depF ms ps (6 - (n + 1)) (n + 1) = T) := hidd (by
                  have h2 := HTs.out
                  rw [HR2.out, if_neg (by decide), if_pos rfl] at h2
                  exact h2)
                clear HK HR2 HTs
                by_cases hkt : k < N
                · have k1 : (k : Int) < N := by omega
                  go_wp2_with fail
                  go_roundw
                  case rel => exact ⟨n + 1, by go_num, by omega, HT3, Hb⟩
                  case measure => first | (simp [intOf]; done) | (simp [intOf]; omega)
                · have k1 : ¬ (k : Int) < N := by omega
                  go_wp2_with fail
                  go_roundw
                  case rel => exact ⟨n + 1, by go_num, by omega, HT3, Hb⟩
                  case measure => first | (simp [intOf]; done) | (simp [intOf]; omega)
              | true =>
                have HK1 : Hid (g.rowD ms n (ps.drop k) = R) := hidd HK.out
                clear HK
                by_cases hkt : k < N
                · have k1 : (k : Int) < N := by omega
                  have k0 : (0 : Int) ≤ k := by omega
                  have hkp : k < ps.length := by rw [hpl]; exact hkt
                  obtain ⟨hd, hm⟩ := sq_lt (show k < xss.length * xss.length by rw [← HSq.out]; exact hkt)
                  have hpos : 0 < xss.length := by omega
                  have q1 : Int.tdiv (k : Int) (xss.length : Int) = ((k / xss.length : Nat) : Int) := by
                    rw [Int.tdiv_eq_ediv_of_nonneg (by omega)]; exact (Int.natCast_ediv _ _).symm
                  have q2 : Int.tmod (k : Int) (xss.length : Int) = ((k % xss.length : Nat) : Int) := by
                    rw [Int.tmod_eq_emod_of_nonneg (by omega)]; exact (Int.natCast_emod _ _).symm
                  have q3 : ¬ xss = [] := fun e => by rw [e] at hpos; cases hpos
                  have hun := HPN.out k hkt
                  have HKs := HK1.out
                  have hpe : ps[k] = pk xss k := by
                    have h := HPG.out k hkt
                    rw [List.getElem?_eq_getElem hkp] at h
                    exact Option.some.inj h
                  rw [List.drop_eq_getElem_cons hkp, Gm.rowD, hpe] at HKs
                  have hpk : pk xss k = xss.getD (k / xss.length) [] ++ xss.getD (k % xss.length) [] := rfl
                  obtain ⟨d, hdd⟩ : ∃ d, d = k / xss.length := ⟨_, rfl⟩
                  obtain ⟨f, hee⟩ : ∃ f, f = k % xss.length := ⟨_, rfl⟩
                  rw [← hdd] at hd q1 hpk
                  rw [← hee] at hm q2 hpk
                  clear hdd hee
                  have BB := bel_then B3.out Hb.out
                  have hdr : d < rows.length := by rw [hq2]; exact hd
                  have hmr : f < rows.length := by rw [hq2]; exact hm
                  obtain ⟨ra, na1⟩ := HQ3.out _ rows[d] xss[d] (List.getElem?_eq_getElem hdr) (List.getElem?_eq_getElem hd)
                  obtain ⟨rb, nb1⟩ := HQ3.out _ rows[f] xss[f] (List.getElem?_eq_getElem hmr) (List.getElem?_eq_getElem hm)
                  obtain ⟨bq, oq, rfl, hcell⟩ := (HQ1.out.below BB).at_ (List.getElem?_eq_getElem hdr)
                  obtain ⟨bq2, oq2, hA2, hcell2⟩ := (HQ1.out.below BB).at_ (List.getElem?_eq_getElem hmr)
                  simp only [Option.some.injEq, Addr.mk.injEq, and_true] at hA2
                  obtain ⟨rfl, rfl⟩ := hA2
                  rw [List.getD_eq_getElem?_getD, List.getD_eq_getElem?_getD, List.getElem?_eq_getElem hd, List.getElem?_eq_getElem hm] at hpk
                  simp only [Option.getD_some] at hpk
                  rw [hpk] at HKs hun
                  have HRa := ra.below BB
                  have HRb := rb.below BB
                  obtain ⟨r1, hr1⟩ : ∃ r1, r1 = rows[d] := ⟨_, rfl⟩
                  obtain ⟨r2, hr2⟩ : ∃ r2, r2 = rows[f] := ⟨_, rfl⟩
                  obtain ⟨xa, hxa⟩ : ∃ xa, xa = xss[d] := ⟨_, rfl⟩
                  obtain ⟨xb, hxb⟩ : ∃ xb, xb = xss[f] := ⟨_, rfl⟩
                  rw [← hr1, ← hxa] at HRa
                  rw [← hr2, ← hxb] at HRb
                  rw [← hr1] at na1 hcell
                  rw [← hr2] at nb1 hcell2
                  rw [← hxa, ← hxb] at HKs hun
                  obtain ⟨u, hu⟩ : ∃ u, u = xa ++ xb := ⟨_, rfl⟩
                  have hul : xa.length + xb.length ≤ 80 := by have := hun.2; rw [List.length_append] at this; exact this
                  rw [← hu] at HKs hun
                  have HUn := hidd hun
                  have hle := Gm.lsc_le HO.out u (show n ≤ 5 by omega)
                  have HWd : Hid (∀ s ∈ g.lsc u n, g.Nums s ∧ s.length ≤ 1048576) := hidd (fun s hs => by have h := Gm.lvS_wd HO.out HUn.out.1 n (g.l ^ n) s hs; exact ⟨h.1, by have := h.2; have := HUn.out.2; omega⟩)
                  have hac := g.allR_code ms (g.lsc u n)
                  have HSc := hidd (fun (X : World) (a : Value) (hn : NilOk a) (ha : RdI X a u) => l04Sections_any g HO.out a u HUn.out.1 hn (by have := HUn.out.2; omega) n (by omega) X ha)
                  have HH := hidd (fun (X : World) (hb : Below wr.heap.size wr X) (a : Value) (ha : RdLL X a (g.lsc u n)) => l04Inside_any g HO.out _ (.slice Aa na ca) (.slice Ab nb cb) ms HMs.out HMl.out a (g.lsc u n) HWd.out X ⟨_, _, _, rfl⟩ ((HV3.out.below Hb.out).below hb) ha)
                  obtain ⟨L, hL⟩ : ∃ L, L = g.lsc u n := ⟨_, rfl⟩
                  simp only [← hL] at HH hac HSc HKs
                  obtain ⟨M, hM⟩ : ∃ M, M = g.allR ms L := ⟨_, rfl⟩
                  simp only [← hM] at HH hac HKs
                  have HK2 := hidd HKs
                  have Hac := hidd hac
                  have Na := hidd na1
                  have Nb := hidd nb1
                  have HA1 := hidd HRa
                  have HA2 := hidd HRb
                  obtain ⟨Ar, cr, rfl, _⟩ := HRa
                  obtain ⟨Bs, cs2, rfl, _⟩ := HRb
                  have HX := hidd (fun (W : World) (hb : Below wr.heap.size wr W) => (⟨run_loadM (hp_bel K3.out (bel_then Hb.out hb)), run_loadL4 (hp_bel L3.out (bel_then Hb.out hb)), cell_bel hcell hb, cell_bel hcell2 hb⟩ : _ ∧ _ ∧ _ ∧ _))
                  have d1 : (d : Int) < xss.length := by omega
                  have d0 : (0 : Int) ≤ d := by omega
                  have e1 : (f : Int) < xss.length := by omega
                  have e0 : (0 : Int) ≤ f := by omega
                  have q4 : IntKind.i64.wrap (d : Int) = d := IntWalk.i64_in _ (by omega)
                  have q5 : IntKind.i64.wrap (f : Int) = f := IntWalk.i64_in _ (by omega)
                  clear HKs hac hM hL hr1 hr2 hxa hxb hun hle HWd HK1 na1 nb1 hpk hpe hcell hcell2 hdr hmr BB ra rb hpos
                  go_wp2_with fail
                  obtain ⟨wd, hwd⟩ : ∃ wd, wd = wr.drew := ⟨_, rfl⟩
                  have S0 : Below wr.heap.size wr wd := by rw [hwd]; exact drew_bel wr
                  refine wp_region_held (S := fun W => Below wr.heap.size wr W) (by kernel_rfl) ?_
                  change wpAnyH _ _ _ _ _ _ _ _ (World.drew _)
                  rw [← hwd]
                  clear hwd
                  refine wpAnyH_take (i := 0) (v := ?v0) rfl (by kernel_rfl) (by kernel_rfl) (by kernel_rfl) (fun _ _ _ h => h) (Or.inl ⟨by rfl, ?h0⟩) S0 ?_
                  case h0 => (intro w4 hS; have hx := HX.out w4 hS; have x1 := hx.1; have x2 := hx.2.1; have x3 := hx.2.2.1; have x4 := hx.2.2.2; clear hS hx; go_simp; first | done | with_reducible rfl)
                  simp only [Act.put, List.getElem_toArray, List.getElem_cons_succ, List.getElem_cons_zero, List.setIfInBounds_toArray, List.set_cons_zero, List.set_cons_succ]
                  refine wpAnyH_take (i := 1) (v := ?v1) rfl (by kernel_rfl) (by kernel_rfl) (by kernel_rfl) (fun _ _ _ h => h) (Or.inl ⟨by rfl, ?h1⟩) S0 ?_
                  case h1 => (intro w4 hS; have hx := HX.out w4 hS; have x1 := hx.1; have x2 := hx.2.1; have x3 := hx.2.2.1; have x4 := hx.2.2.2; clear hS hx; go_simp; first | done | with_reducible rfl)
                  simp only [Act.put, List.getElem_toArray, List.getElem_cons_succ, List.getElem_cons_zero, List.setIfInBounds_toArray, List.set_cons_zero, List.set_cons_succ]
                  refine wpAnyH_take (i := 2) (v := ?v2) rfl (by kernel_rfl) (by kernel_rfl) (by kernel_rfl) (fun _ _ _ h => h) (Or.inl ⟨by rfl, ?h2⟩) S0 ?_
                  case h2 => (intro w4 hS; have hx := HX.out w4 hS; have x1 := hx.1; have x2 := hx.2.1; have x3 := hx.2.2.1; have x4 := hx.2.2.2; clear hS hx; go_simp; first | done | with_reducible rfl)
                  simp only [Act.put, List.getElem_toArray, List.getElem_cons_succ, List.getElem_cons_zero, List.setIfInBounds_toArray, List.set_cons_zero, List.set_cons_succ]
                  refine wpAnyH_take (i := 3) (v := ?v3) rfl (by kernel_rfl) (by kernel_rfl) (by kernel_rfl) (fun _ _ _ h => h) (Or.inl ⟨by rfl, ?h3⟩) S0 ?_
                  case h3 => (intro w4 hS; have hx := HX.out w4 hS; have x1 := hx.1; have x2 := hx.2.1; have x3 := hx.2.2.1; have x4 := hx.2.2.2; clear hS hx; go_simp; first | done | with_reducible rfl)
                  simp only [Act.put, List.getElem_toArray, List.getElem_cons_succ, List.getElem_cons_zero, List.setIfInBounds_toArray, List.set_cons_zero, List.set_cons_succ]
                  refine wpAnyH_take (i := 4) (v := ?v4) rfl (by kernel_rfl) (by kernel_rfl) (by kernel_rfl) (fun _ _ _ h => h) (Or.inl ⟨by rfl, ?h4⟩) S0 ?_
                  case h4 => (intro w4 hS; have hx := HX.out w4 hS; have x1 := hx.1; have x2 := hx.2.1; have x3 := hx.2.2.1; have x4 := hx.2.2.2; clear hS hx; go_simp; first | done | with_reducible rfl)
                  simp only [Act.put, List.getElem_toArray, List.getElem_cons_succ, List.getElem_cons_zero, List.setIfInBounds_toArray, List.set_cons_zero, List.set_cons_succ]
                  refine wpAnyH_take (i := 5) (v := ?v5) rfl (by kernel_rfl) (by kernel_rfl) (by kernel_rfl) (fun _ _ _ h => h) (Or.inl ⟨by rfl, ?h5⟩) S0 ?_
                  case h5 => (intro w4 hS; have hx := HX.out w4 hS; have x1 := hx.1; have x2 := hx.2.1; have x3 := hx.2.2.1; have x4 := hx.2.2.2; clear hS hx; go_simp; first | done | with_reducible rfl)
                  simp only [Act.put, List.getElem_toArray, List.getElem_cons_succ, List.getElem_cons_zero, List.setIfInBounds_toArray, List.set_cons_zero, List.set_cons_succ]
                  refine wpAnyH_take (i := 6) (v := ?v6) rfl (by kernel_rfl) (by kernel_rfl) (by kernel_rfl) (fun _ _ _ h => h) (Or.inl ⟨by rfl, ?h6⟩) S0 ?_
                  case h6 => (intro w4 hS; have hx := HX.out w4 hS; have x1 := hx.1; have x2 := hx.2.1; have x3 := hx.2.2.1; have x4 := hx.2.2.2; clear hS hx; go_simp; first | done | with_reducible rfl)
                  simp only [Act.put, List.getElem_toArray, List.getElem_cons_succ, List.getElem_cons_zero, List.setIfInBounds_toArray, List.set_cons_zero, List.set_cons_succ]
                  refine wpAnyH_take (i := 7) (v := ?v7) rfl (by kernel_rfl) (by kernel_rfl) (by kernel_rfl) (fun _ _ _ h => h) (Or.inl ⟨by rfl, ?h7⟩) S0 ?_
                  case h7 => (intro w4 hS; have hx := HX.out w4 hS; have x1 := hx.1; have x2 := hx.2.1; have x3 := hx.2.2.1; have x4 := hx.2.2.2; clear hS hx; go_simp; first | done | with_reducible rfl)
                  simp only [Act.put, List.getElem_toArray, List.getElem_cons_succ, List.getElem_cons_zero, List.setIfInBounds_toArray, List.set_cons_zero, List.set_cons_succ]
                  refine wpAnyH_take (i := 8) (v := ?v8) rfl (by kernel_rfl) (by kernel_rfl) (by kernel_rfl) (fun _ _ _ h => h) (Or.inl ⟨by rfl, ?h8⟩) S0 ?_
                  case h8 => (intro w4 hS; have hx := HX.out w4 hS; have x1 := hx.1; have x2 := hx.2.1; have x3 := hx.2.2.1; have x4 := hx.2.2.2; clear hS hx; go_simp; first | done | with_reducible rfl)
                  simp only [Act.put, List.getElem_toArray, List.getElem_cons_succ, List.getElem_cons_zero, List.setIfInBounds_toArray, List.set_cons_zero, List.set_cons_succ]
                  refine wpAnyH_take (i := 9) (v := ?v9) rfl (by kernel_rfl) (by kernel_rfl) (by kernel_rfl) (fun _ _ _ h => h) (Or.inl ⟨by rfl, ?h9⟩) S0 ?_
                  case h9 => (intro w4 hS; have hx := HX.out w4 hS; have x1 := hx.1; have x2 := hx.2.1; have x3 := hx.2.2.1; have x4 := hx.2.2.2; clear hS hx; go_simp; first | done | with_reducible rfl)
                  simp only [Act.put, List.getElem_toArray, List.getElem_cons_succ, List.getElem_cons_zero, List.setIfInBounds_toArray, List.set_cons_zero, List.set_cons_succ]
                  refine wpAnyH_take (i := 10) (v := ?v10) rfl (by kernel_rfl) (by kernel_rfl) (by kernel_rfl) (fun _ _ _ h => h) (Or.inl ⟨by rfl, ?h10⟩) S0 ?_
                  case h10 => (intro w4 hS; have hx := HX.out w4 hS; have x1 := hx.1; have x2 := hx.2.1; have x3 := hx.2.2.1; have x4 := hx.2.2.2; clear hS hx; go_simp; first | done | with_reducible rfl)
                  simp only [Act.put, List.getElem_toArray, List.getElem_cons_succ, List.getElem_cons_zero, List.setIfInBounds_toArray, List.set_cons_zero, List.set_cons_succ]
                  refine wpAnyH_take (i := 11) (v := ?v11) rfl (by kernel_rfl) (by kernel_rfl) (by kernel_rfl) (fun _ _ _ h => h) (Or.inl ⟨by rfl, ?h11⟩) S0 ?_
                  case h11 => (intro w4 hS; have hx := HX.out w4 hS; have x1 := hx.1; have x2 := hx.2.1; have x3 := hx.2.2.1; have x4 := hx.2.2.2; clear hS hx; go_simp; first | done | with_reducible rfl)
                  simp only [Act.put, List.getElem_toArray, List.getElem_cons_succ, List.getElem_cons_zero, List.setIfInBounds_toArray, List.set_cons_zero, List.set_cons_succ]
                  refine wpAnyH_take (i := 12) (v := ?v12) rfl (by kernel_rfl) (by kernel_rfl) (by kernel_rfl) (fun _ _ _ h => h) (Or.inl ⟨by rfl, ?h12⟩) S0 ?_
                  case h12 => (intro w4 hS; have hx := HX.out w4 hS; have x1 := hx.1; have x2 := hx.2.1; have x3 := hx.2.2.1; have x4 := hx.2.2.2; clear hS hx; go_simp; first | done | with_reducible rfl)
                  simp only [Act.put, List.getElem_toArray, List.getElem_cons_succ, List.getElem_cons_zero, List.setIfInBounds_toArray, List.set_cons_zero, List.set_cons_succ]
                  refine wpAnyH_take (i := 13) (v := ?v13) rfl (by kernel_rfl) (by kernel_rfl) (by kernel_rfl) (fun _ _ _ h => h) (Or.inl ⟨by rfl, ?h13⟩) S0 ?_
                  case h13 => (intro w4 hS; have hx := HX.out w4 hS; have x1 := hx.1; have x2 := hx.2.1; have x3 := hx.2.2.1; have x4 := hx.2.2.2; clear hS hx; go_simp; first | done | with_reducible rfl)
                  simp only [Act.put, List.getElem_toArray, List.getElem_cons_succ, List.getElem_cons_zero, List.setIfInBounds_toArray, List.set_cons_zero, List.set_cons_succ]
                  refine wpAnyH_take (i := 14) (v := ?v14) rfl (by kernel_rfl) (by kernel_rfl) (by kernel_rfl) (fun _ _ _ h => h) (Or.inl ⟨by rfl, ?h14⟩) S0 ?_
                  case h14 => (intro w4 hS; have hx := HX.out w4 hS; have x1 := hx.1; have x2 := hx.2.1; have x3 := hx.2.2.1; have x4 := hx.2.2.2; clear hS hx; go_simp; first | done | with_reducible rfl)
                  simp only [Act.put, List.getElem_toArray, List.getElem_cons_succ, List.getElem_cons_zero, List.setIfInBounds_toArray, List.set_cons_zero, List.set_cons_succ]
                  refine wpAnyH_take (i := 15) (v := ?v15) rfl (by kernel_rfl) (by kernel_rfl) (by kernel_rfl) (fun _ _ _ h => h) (Or.inl ⟨by rfl, ?h15⟩) S0 ?_
                  case h15 => (intro w4 hS; have hx := HX.out w4 hS; have x1 := hx.1; have x2 := hx.2.1; have x3 := hx.2.2.1; have x4 := hx.2.2.2; clear hS hx; go_simp; first | done | with_reducible rfl)
                  simp only [Act.put, List.getElem_toArray, List.getElem_cons_succ, List.getElem_cons_zero, List.setIfInBounds_toArray, List.set_cons_zero, List.set_cons_succ]
                  refine wpAnyH_take (i := 16) (v := ?v16) rfl (by kernel_rfl) (by kernel_rfl) (by kernel_rfl) (fun _ _ _ h => h) (Or.inl ⟨by rfl, ?h16⟩) S0 ?_
                  case h16 => (intro w4 hS; have hx := HX.out w4 hS; have x1 := hx.1; have x2 := hx.2.1; have x3 := hx.2.2.1; have x4 := hx.2.2.2; clear hS hx; go_simp; first | done | with_reducible rfl)
                  simp only [Act.put, List.getElem_toArray, List.getElem_cons_succ, List.getElem_cons_zero, List.setIfInBounds_toArray, List.set_cons_zero, List.set_cons_succ]
                  refine wpAnyH_take (i := 19) (v := ?v19) rfl (by kernel_rfl) (by kernel_rfl) (by kernel_rfl) (fun _ _ _ h => h) (Or.inl ⟨by rfl, ?h19⟩) S0 ?_
                  case h19 => (intro w4 hS; have hx := HX.out w4 hS; have x1 := hx.1; have x2 := hx.2.1; have x3 := hx.2.2.1; have x4 := hx.2.2.2; clear hS hx; go_simp; first | done | with_reducible rfl)
                  simp only [Act.put, List.getElem_toArray, List.getElem_cons_succ, List.getElem_cons_zero, List.setIfInBounds_toArray, List.set_cons_zero, List.set_cons_succ]
                  refine wpAnyH_ready (rs := [17]) (by kernel_rfl) (by simp) (AllReadyH.cons rfl (fun K hK => ?_) AllReadyH.nil)
                  go_simp
                  have S2 : Below wr.heap.size wr (wd.alloc (.cells #[.slice Ar xa.length cr, .slice Bs xb.length cs2] 26)) := bel_then S0 (bel_alloc' wd _)
                  refine hK.out _ _ S2 (fun _ => ?_)
                  clear hK K
                  refine wpAnyH_ready (rs := [18]) (by kernel_rfl) (by simp) (AllReadyH.cons rfl (fun K hK => ?_) AllReadyH.nil)
                  go_simp
                  refine (l02Join_any _ [ints xa, ints xb] _ ?_ (two_one xa xb) (by rw [two_lens]; omega)).mono ?_
                  · exact RdVV.two (HA1.out.below S0) (HA2.out.below S0) Na.out Nb.out _ _ rfl
                  rintro e w4 ⟨⟨u4, rfl, ho⟩, hb⟩
                  rw [two_flat, ← hu] at ho
                  have S4 := hidd (bel_then S0 ((bel_alloc' wd _).trans (hb.mono (by simp))))
                  have O4 := hidd ho
                  refine hK.out _ _ S4.out (fun _ => ?_)
                  clear hK K hb ho S2
                  refine wpAnyH_ready (rs := [20]) (by kernel_rfl) (by simp) (AllReadyH.cons rfl (fun K hK => ?_) AllReadyH.nil)
                  go_simp
                  refine (HSc.out w4 u4 O4.out.nilOk O4.out.rdI).mono ?_
                  rintro e w5 ⟨⟨a5, rs5, rfl, ha5⟩, hb⟩
                  have S5 := hidd (bel_then S4.out hb)
                  have HA5 := hidd ha5.rd
                  refine hK.out _ _ S5.out (fun _ => ?_)
                  clear hK K hb ha5 HSc
                  refine wpAnyH_ready (rs := [21]) (by kernel_rfl) (by simp) (AllReadyH.cons rfl (fun K hK => ?_) AllReadyH.nil)
                  go_simp
                  refine (HH.out w5 S5.out a5 HA5.out).mono ?_
                  rintro e w6 ⟨rfl, hb⟩
                  have S6 := hidd (bel_then S5.out hb)
                  refine hK.out _ _ S6.out (fun _ => ?_)
                  clear hK K hb HH HX
                  refine wpAnyH_take (i := 22) (v := ?v22) rfl (by kernel_rfl) (by kernel_rfl) (by kernel_rfl) (fun _ _ _ h => h) (Or.inl ⟨by rfl, ?h22⟩) S6.out ?_
                  case h22 => (intro w4 hS; clear hS; go_simp; first | done | with_reducible rfl)
                  simp only [Act.put, List.getElem_toArray, List.getElem_cons_succ, List.getElem_cons_zero, List.setIfInBounds_toArray, List.set_cons_zero, List.set_cons_succ]
                  refine wpAnyH_take (i := 23) (v := ?v23) rfl (by kernel_rfl) (by kernel_rfl) (by kernel_rfl) (fun _ _ _ h => h) (Or.inl ⟨by rfl, ?h23⟩) S6.out ?_
                  case h23 => (intro w4 hS; clear hS; go_simp; first | done | with_reducible rfl)
                  simp only [Act.put, List.getElem_toArray, List.getElem_cons_succ, List.getElem_cons_zero, List.setIfInBounds_toArray, List.set_cons_zero, List.set_cons_succ]
                  refine wpAnyH_take (i := 25) (v := ?v25) rfl (by kernel_rfl) (by kernel_rfl) (by kernel_rfl) (fun _ _ _ h => h) (Or.inl ⟨by rfl, ?h25⟩) S6.out ?_
                  case h25 => (intro w4 hS; clear hS; go_simp; first | done | with_reducible rfl)
                  simp only [Act.put, List.getElem_toArray, List.getElem_cons_succ, List.getElem_cons_zero, List.setIfInBounds_toArray, List.set_cons_zero, List.set_cons_succ]
                  refine wpAnyH_take (i := 24) (v := ?v24) rfl (by kernel_rfl) (by kernel_rfl) (by kernel_rfl) (fun _ _ _ h => h) (Or.inl ⟨by rfl, ?h24⟩) S6.out ?_
                  case h24 => (intro w4 hS; clear hS; go_simp; first | done | with_reducible rfl)
                  simp only [Act.put, List.getElem_toArray, List.getElem_cons_succ, List.getElem_cons_zero, List.setIfInBounds_toArray, List.set_cons_zero, List.set_cons_succ]
                  refine wpAnyH_take (i := 26) (v := ?v26) rfl (by kernel_rfl) (by kernel_rfl) (by kernel_rfl) (fun _ _ _ h => h) (Or.inl ⟨by rfl, ?h26⟩) S6.out ?_
                  case h26 => (intro w4 hS; clear hS; go_simp; first | done | with_reducible rfl)
                  simp only [Act.put, List.getElem_toArray, List.getElem_cons_succ, List.getElem_cons_zero, List.setIfInBounds_toArray, List.set_cons_zero, List.set_cons_succ]
                  refine wpAnyH_done (by kernel_rfl) ?_ _
                  have Hb6 := hidd (bel_then Hb.out S6.out)
                  obtain ⟨b, z⟩ := M
                  clear HA1 HA2 Na Nb q1 q2 q3 q4 q5 d1 d0 e1 e0 S0 S4 S5 S6 O4 HA5 Hb
                  by_cases hz0 : z = 0
                  · subst hz0
                    cases b with
                    | true =>
                      have HK3 : Hid (g.rowD ms n (ps.drop (k + 1)) = R) := hidd (by have h := HK2.out; rwa [if_pos rfl] at h)
                      clear HK2 Hac
                      go_wp2_with fail
                      go_roundw
                      case rel => exact ⟨k + 1, true, by go_num, rfl, by omega, hidd HK3.out, Hb6⟩
                      case measure => first | (simp [intOf]; done) | (simp [intOf]; omega)
                    | false =>
                      have HK3 : Hid (R = (false, 0)) := hidd (by have h := HK2.out; rw [if_neg (by decide)] at h; exact h.symm)
                      clear HK2 Hac
                      go_wp2_with fail
                      go_roundw
                      case rel => exact ⟨k + 1, false, by go_num, rfl, by omega, hidd HK3.out, Hb6⟩
                      case measure => first | (simp [intOf]; done) | (simp [intOf]; omega)
                  · cases b with
                    | true => exact absurd (Hac.out rfl) hz0
                    | false =>
                      have HT3 : Hid (T = (0, z)) := hidd (by
                        have h := HK2.out
                        rw [if_neg (by exact Bool.false_ne_true)] at h
                        have h2 := HTs.out
                        rw [← h, if_neg (by exact Bool.false_ne_true), if_neg hz0] at h2
                        exact h2.symm)
                      have z1 : (z != 0) = true := by simp [hz0]
                      have z2 : (z == 0) = false := by simp [hz0]
                      clear HK2 Hac HTs hz0
                      go_wp2_with fail
                      go_ret2
                      exact ⟨by rw [← HTd.out, HT3.out]; rfl, bel_then B3.out Hb6.out⟩
                · have k1 : ¬ (k : Int) < N := by omega
                  have HT3 : Hid (T = ((n : Int), 0)) := hidd (by
                    have h := HK1.out
                    rw [List.drop_of_length_le (by omega)] at h
                    have h2 := HTs.out
                    rw [← h, Gm.rowD, if_pos rfl] at h2
                    exact h2.symm)
                  clear hkt HTs HK1
                  go_wp2_with fail
                  go_ret2
                  exact ⟨by rw [← HTd.out, HT3.out]; rfl, bel_then B3.out Hb.out⟩
          · have he : n = 6 := by omega
            subst he
            have HT3 : Hid (T = (0, 4)) := hidd HT.out.symm
            clear hlt HT
            go_wp2_with fail
            go_ret2
            exact ⟨by rw [← HTd.out, HT3.out]; rfl, bel_then B3.out Hb.out⟩
    all_goals
      rw [hz] at HR3 ⊢
      rw [if_neg (by decide)] at HR3
      have HB3 := hidd (bel_then B1.out (bel_alloc' w1 (.cells #[.slice Aa na ca, .slice Ab nb cb] 45)))
      clear hq hb hz
      go_wp2_with (refine st143New rfl (.tmp 6) (.tmp 17) rfl w1.heap.size rfl (.slice Aa na ca) (.slice Ab nb cb) _ _ (by rfl) (by rfl) rfl rfl ?_)
      go_ret2
      exact ⟨by rw [HR3.out]; rfl, HB3.out⟩
  · have HR := hidd (show dolR m xss = (0, 1) from if_neg hc)
    go_enter Try.func13, Try.ntmps13
    go_wp2_with (refine ldI rfl (.tmp 2) rfl w.heap.size rfl Hm.out (hp_new rfl) ?_)
    refine (l04Given_no m _ Hm.out _ xss _ (Hr.out.ll.below (bel_alloc' _ _)) hc).mono ?_
    rintro e w1 ⟨⟨a, b, ⟨Aa, na, ca, rfl⟩, ⟨Ab, nb, cb, rfl⟩, rfl⟩, hb⟩
    have B1 := hidd (bel_then (bel_alloc' w (.cells m.cells 31)) hb)
    have HB3 := hidd (bel_then B1.out (bel_alloc' w1 (.cells #[.slice Aa na ca, .slice Ab nb cb] 45)))
    clear hb hc
    go_wp2_with (refine st143New rfl (.tmp 6) (.tmp 17) rfl w1.heap.size rfl (.slice Aa na ca) (.slice Ab nb cb) _ _ (by rfl) (by rfl) rfl rfl ?_)
    go_ret2
    exact ⟨by rw [HR.out]; rfl, HB3.out⟩
end Go.Proofs.Ytcghcbdefajpgaa
