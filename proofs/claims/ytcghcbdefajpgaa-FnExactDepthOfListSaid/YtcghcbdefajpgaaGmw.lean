/- Walks: the machine of a word, of the program. -/
import Derived.Test.YtcghcbdefajpgaaMfr
import Derived.Test.YtcghcbdefajpgaaLsw
namespace Go.Proofs.Ytcghcbdefajpgaa
open Go.RowKit
set_option linter.unusedSimpArgs false

set_option maxRecDepth 100000 in
set_option maxHeartbeats 4000000 in
theorem machine_any (g : Gm) (hok : g.Ok) (G : Nat) (vo vt : Value) (v : Value) (u : List Int) (hu : g.Nums u) (hlen : u.length ≤ 1048576) (w : World) (hG : GrpAt w G g vo vt) (hr : RdI w v u) :
    Calls Try.prog 40 #[.pointer (some ⟨G, 0, none⟩), v] w fun e w' => e = .returned (.tuple #[.agg (g.moM u).1.cells, .int .i64 (g.moM u).2]) ∧ Below w.heap.size w w' := by
  have HO := hidd hok
  have HU := hidd hu
  have HG := hidd hG
  have HSc := hidd (fun W (hb : Below w.heap.size w W) => sections_any g hok G vo vt v u hu hlen (fun _ => true) 67 #[] #[] (enters_of Try.func67 (by kernel_rfl) rfl) W (hG.below hb) (hr.below hb) (fun s x W _ _ _ _ => by simpa using all_any x W))
  have l3 := hok.l3
  obtain ⟨A0, c0, rfl, hq0⟩ := hr
  clear hok hu hq0 hG
  go_enter Try.func40, Try.ntmps40
  go_wp2_with fail
  refine (HSc.out _ (bel_alloc' _ _)).mono ?_
  rintro e w1 ⟨⟨va, vb, ra, rb, rfl, ha, hb', hap⟩, hb⟩
  have hzw : w.heap.size ≤ (w.alloc (.cells Try.zeroCells31 31)).heap.size := by simp
  have B1 := hidd (bel_then (bel_alloc' _ _) hb)
  have Z1 := hidd (show w1.heap[w.heap.size]? = some (.cells Mc.zero.cells 31 (0, 0)) by rw [← zeroC_M]; exact hp_bel (hp_new rfl) hb)
  have HA := hidd (ha.mono hzw)
  have HB := hidd (hb'.mono hzw)
  clear ha hb' hb hzw HSc
  have hw1 := B1.out.size
  by_cases hc : (g.secs (fun _ => true) u).2.2 = 0
  · have HS := hidd (Gm.secs_ok HO.out HU.out hc)
    have HL := hidd (Gm.moM_ok hc)
    rw [hc]
    obtain ⟨W, hW⟩ : ∃ W, W = (g.secs (fun _ => true) u).1 := ⟨_, rfl⟩
    obtain ⟨R, hR⟩ : ∃ R, R = (g.secs (fun _ => true) u).2.1 := ⟨_, rfl⟩
    rw [← hW, ← hR] at HS HL
    rw [← hW] at HA
    rw [← hR] at HB
    have hle := HS.out.le
    have hpos := HS.out.pos
    have HWd := hidd HS.out.wd
    have HTb := hidd (Gm.sT_tb HO.out HS.out)
    have HNx := hidd (Gm.sT_nxs HS.out)
    have HOr := hidd (fun q => g.sT_or W R q)
    have HKs := hidd (show (g.sT W R).s = W.length from rfl)
    have HKl := hidd (show (g.sT W R).l = g.l from rfl)
    obtain ⟨K, hK⟩ : ∃ K, K = g.sT W R := ⟨_, rfl⟩
    rw [← hK] at HTb HNx HL HKs HKl
    simp only [← hK] at HOr
    obtain ⟨n, hn⟩ : ∃ n, n = W.length := ⟨_, rfl⟩
    rw [← hn] at hle hpos HNx HKs
    have Hn := hidd hn
    have hRn : R.length = n := by rw [hn]; exact HS.out.grf.1
    obtain ⟨Aa, ca, hae⟩ := HA.out.v.slice
    rw [HA.out.len, ← hn] at hae
    subst hae
    obtain ⟨Ab, cb, hbe⟩ := HB.out.v.slice
    rw [HB.out.len, hRn] at hbe
    subst hbe
    clear hc hW hR HS hn hK hRn
    go_wp2_with fail
    obtain ⟨tb, htb⟩ : ∃ tb, tb = w1.heap.size := ⟨_, rfl⟩
    obtain ⟨w2, hw2⟩ : ∃ w2, w2 = w1.alloc (.cells #[.slice Ab n cb, .slice none 0 0] 109) := ⟨_, rfl⟩
    simp only [← htb]
    rw [← hw2]
    have E2 := hidd (show tb + 1 ≤ w2.heap.size by rw [hw2, htb]; simp)
    have T2 := hidd (show w2.heap[tb]? = some (.cells #[.slice Ab n cb, .slice none 0 0] 109 (0, 0)) by rw [hw2]; exact hp_new htb)
    have b2 := hidd (show Below tb w1 w2 by rw [hw2, htb]; exact bel_alloc' _ _)
    have hwt : w.heap.size < tb := by rw [htb]; exact hp_lt Z1.out
    have Htb := hidd htb
    clear hw2 htb
    go_loopw [32] (fun y wr => ∃ (i : Nat) (vo : Value), y = .int .i64 i ∧ i ≤ n ∧ Hid (wr.heap[tb]? = some (.cells #[.slice Ab n cb, vo] 109 (0, 0))) ∧ Hid (OwnLL wr (tb + 1) vo (K.ous i)) ∧ Hid (Below tb w1 wr)) (fun y _ => n - (intOf y).toNat)
    case atStart => exact ⟨0, _, rfl, Nat.zero_le _, T2, hidd (OwnLL.nil _ _), b2⟩
    case round =>
      clear T2 b2 E2
      obtain ⟨i, vo2, rfl, hi, HT, HV, Hb⟩ := hrel
      obtain ⟨wo, rfl⟩ : ∃ wo, wo = wr := ⟨_, rfl⟩
      have HbW := hidd (show Below w1.heap.size w1 wo by rw [← Htb.out]; exact Hb.out)
      by_cases hlt : i < n
      · have i1 : (i : Int) < n := by omega
        have i0 : (0 : Int) ≤ i := by omega
        have hiW : i < W.length := by rw [← Hn.out]; exact hlt
        have hir : i < ra.length := by rw [HA.out.len]; exact hiW
        have hgs := HWd.out.get hiW
        have hrow := (HA.out.row i ra[i] (W.getD i []) (List.getElem?_eq_getElem hir) (by rw [List.getD_eq_getElem?_getD, List.getElem?_eq_getElem hiW]; rfl)).below HbW.out
        obtain ⟨bq, oq, rfl, hcell⟩ := (HA.out.v.rd.2.below HbW.out).at_ (List.getElem?_eq_getElem hir)
        obtain ⟨r, hrr⟩ : ∃ r, r = ra[i] := ⟨_, rfl⟩
        rw [← hrr] at hrow hcell
        have HE := hidd (show K.or i = upto (fun x => (g.im (W.getD i []) x : Int)) g.l from HOr.out i)
        obtain ⟨s, hs⟩ : ∃ s, s = W.getD i [] := ⟨_, rfl⟩
        rw [← hs] at hgs hrow HE
        have HGS := hidd hgs
        have Hrow := hidd hrow
        obtain ⟨Ar, cr, rfl⟩ := hrow.slice
        have cl := (HG.out.below (bel_then B1.out HbW.out)).m.l
        have HG1 := hidd (HG.out.below (bel_then B1.out HbW.out))
        clear hgs hrow hrr hs
        go_wp2_with fail
        clear cl hcell
        go_loopw [12, 41] (fun o y wr => ∃ x : Nat, y = .int .i64 x ∧ x ≤ g.l ∧ Hid (Own wr wo.heap.size 2 o (ints (upto (fun x => (g.im s x : Int)) x))) ∧ Hid (Below wo.heap.size wo wr)) (fun _ y _ => g.l - (intOf y).toNat)
        case atStart => exact ⟨0, rfl, Nat.zero_le _, hidd (Own.nil _ _ _), hidd (Below.refl _ _)⟩
        case round =>
          obtain ⟨x, rfl, hx, HU2, Hq⟩ := hrel
          by_cases hlx : x < g.l
          · have k1 : (x : Int) < g.l := by omega
            have HAt := hidd (at_any g HO.out G vo vt _ s HGS.out.1 (Nat.le_trans HGS.out.2 hlen) x hlx wr (HG1.out.below Hq.out) (Hrow.out.rdI.below Hq.out))
            have hlen2 : (ints (upto (fun x => (g.im s x : Int)) x)).length + 1 ≤ 1099511627776 := by rw [ints_length, upto_len]; omega
            go_wp2_with fail
            refine HAt.out.mono ?_
            rintro e w5 ⟨⟨sv, rfl, ho5⟩, hb5⟩
            obtain ⟨A5, c5, rfl⟩ := ho5.slice
            have Hq5 := hidd (bel_then Hq.out hb5)
            have HU5 := hidd (HU2.out.below hb5)
            have hbase := Hq5.out.size
            clear ho5 hb5 HAt HU2 Hq
            go_wp2_with (at_builtin; refine app_own rfl _ _ _ rfl wo.heap.size 2 (.int .i64 0) 8 Try.underlying26 info_i64 rfl HU5.out rfl rfl rfl hlen2 (by decide) hbase ?_; intro v' w6 ho hgr hle6; have Ho2 := hidd ho; have b6 := hidd (bel_own HU5.out hgr hbase); clear ho hgr)
            go_roundw
            case rel => exact ⟨x + 1, by go_num, by omega, hidd (by rw [upto_succ, ints_append]; exact Ho2.out), hidd (Hq5.out.trans b6.out)⟩
            case measure => first | (simp [intOf]; done) | (simp [intOf]; omega)
          · have he : x = g.l := by omega
            subst he
            clear hlx
            obtain ⟨rr, hv1, hv2, hv3, hv4⟩ := HV.out
            have HW1 := hidd (hv1.below Hq.out)
            have HW3 := hidd (fun j r xs h1 h2 => (hv3 j r xs h1 h2).below Hq.out : ∀ (j : Nat) (r : Value) (xs : List Int), rr[j]? = some r → (K.ous i)[j]? = some xs → Own wr (tb + 1) 2 r (ints xs))
            have HN := hidd (fun j t hj => by
              have hjl : j < (K.ous i).length := by rw [← hv2]; exact (List.getElem?_eq_some_iff.1 hj).1
              exact own_ne (hv3 j t _ hj (List.getElem?_eq_getElem hjl)) HU2.out (Nat.le_refl _) : ∀ (j : Nat) (t : Value), rr[j]? = some t → Apart t u12)
            have Hv2 := hidd hv2
            have Hv4 := hidd hv4
            have HTw := hidd (hp_bel HT.out Hq.out)
            have d1 : wr.cell? ⟨tb, 1, none⟩ = some vo2 := blkc HTw.out 1
            have d2 := blkf HTw.out 1
            have hzz := hp_lt HT.out
            have HU3 := hidd (HU2.out.mono (show tb + 1 ≤ wo.heap.size by omega))
            have hlen3 : rr.length + 1 ≤ 1099511627776 := by rw [hv2]; simp [Gm.ous]; omega
            have hbase : tb + 1 ≤ wr.heap.size := by have := Hq.out.size; omega
            have Hbq := hidd (show Below tb w1 wr from Hb.out.trans (Hq.out.mono (by omega)))
            obtain ⟨Ao, co, rfl⟩ := HU2.out.slice
            clear hv1 hv2 hv3 hv4 HU2 HV
            go_wp2_with (at_builtin; refine app_at rfl _ _ _ rfl (tb + 1) 26 (.slice none 0 0) 24 Try.underlying27 info_ints rfl HW1.out rfl rfl rfl hlen3 (by decide) hbase ?_; intro v' w8 ho hgr hle hli; obtain ⟨A4, c4, rfl⟩ := ho.slice; have H8 := hidd (OwnLL.push Hv2.out HW3.out Hv4.out HW1.out HU3.out HN.out ho hgr); rw [List.length_append, List.length_singleton] at H8; have T8 := hidd (kept_own hgr HTw.out (HW1.out.ne_low (by omega))); have b8 := hidd (Hbq.out.trans ((bel_own HW1.out hgr hbase).mono (by omega))); have d3 : w8.cell? ⟨tb, 1, none⟩ = some vo2 := blkc T8.out 1; have d4 := blkf T8.out 1; clear ho hgr hli)
            go_roundw
            case rel => exact ⟨i + 1, _, by go_num, by omega, hidd (hp_set T8.out 1 _), hidd (by rw [Gm.ous_succ, HE.out]; exact H8.out.far (T := tb) (o := 1) (Nat.lt_succ_self tb) _), hidd (b8.out.setCell (p := ⟨tb, 1, none⟩) (Nat.le_refl _) _)⟩
            case measure => first | (simp [intOf]; done) | (simp [intOf]; omega)
      · have he : n = i := by omega
        subst he
        have HTab := hidd (show TabAt wo tb (K.nxs K.s) (K.ous K.s) from ⟨_, _, HT.out, by rw [HKs.out, HNx.out]; exact HB.out.rd.below HbW.out, by rw [HKs.out]; exact HV.out.rdLL⟩)
        have cl := (HG.out.below (bel_then B1.out HbW.out)).m.l
        have hmf := machineFrom_any K HTb.out tb wo HTab.out
        rw [HKl.out] at hmf
        have HMf := hidd hmf
        have Z2 := hidd (hp_bel Z1.out HbW.out)
        have BW := hidd (bel_then B1.out HbW.out)
        clear hlt hmf HV HT Hb
        go_wp2_with fail
        refine HMf.out.mono ?_
        rintro e w5 ⟨rfl, hb5⟩
        have Z5 := hidd (hp_bel Z2.out hb5)
        have B5 := hidd (bel_then BW.out hb5)
        obtain ⟨M, hM⟩ : ∃ M, M = K.toM := ⟨_, rfl⟩
        rw [← hM] at HL ⊢
        clear hb5 HMf cl hM
        go_wp2_with (refine stC rfl (.tmp 4) (.tmp 74) rfl _ M.1 Z5.out (Mc.cells_size _) (by rfl) (by rfl) ?_)
        refine bodyPost_ret (v := .tuple #[.agg M.1.cells, .int .i64 M.2]) (results_cell_tmp rfl _ _ w.heap.size 31 _ (0, 0) _ _ rfl rfl (setRow_heap _ _ _ _ _ _ Z5.out) Try.underlying31 rfl (cells98i _)) rfl ⟨by rw [HL.out], ?_⟩
        exact bel_row B5.out (Nat.le_refl _) _
  · obtain ⟨h3, hM⟩ := Gm.moM_bad hc
    have HL := hidd hM
    rw [h3]
    clear hc h3 hM
    go_wp2_with (refine stC rfl (.tmp 4) (.tmp 25) rfl _ Mc.zero Z1.out (Mc.cells_size _) (by rfl) (by rw [← zeroM_cells]; rfl) ?_)
    refine bodyPost_ret (v := .tuple #[.agg Mc.zero.cells, .int .i64 3]) (results_cell_tmp rfl _ _ w.heap.size 31 _ (0, 0) _ _ rfl rfl (setRow_heap _ _ _ _ _ _ Z1.out) Try.underlying31 rfl (cells98i _)) rfl ⟨by rw [HL.out], ?_⟩
    exact bel_row B1.out (Nat.le_refl _) _
end Go.Proofs.Ytcghcbdefajpgaa
