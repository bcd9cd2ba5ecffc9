/- Walks: the lasting sections of a word, of the program and of the reference. -/
import Derived.Test.YtjnnbjlombopnaaLgr
import Derived.Test.YtjnnbjlombopnaaRcw
namespace Go.Proofs.Ytjnnbjlombopnaa
open Go.RowKit
set_option linter.unusedSimpArgs false

set_option maxHeartbeats 400000 in
theorem all_any (v : Value) (w : World) : Calls Try.prog 221 #[v] w fun e w' => e = .returned (.bool true) ∧ Below w.heap.size w w' := by
  go_enter Try.func221, Try.ntmps221
  go_wp2_with fail
  go_ret
  exact ⟨rfl, Below.refl _ _⟩

set_option maxRecDepth 100000 in
set_option maxHeartbeats 4000000 in
theorem l04Lasting_any (g : Gm) (hok : g.Ok) (v : Value) (u : List Int) (hu : g.Nums u) (hlen : u.length ≤ 1048576) (w : World) (hr : RdI w v u) :
    Calls Try.prog 161 #[.agg g.mc.cells, v] w fun e w' => (∃ a ra, e = .returned (.tuple #[a, .bool (decide ((g.las u).2 = 0))]) ∧ LLr w' w.heap.size a ra (g.las u).1) ∧ Below w.heap.size w w' := by
  have HO := hidd hok
  have Hr := hidd hr
  have HU := hidd hu
  have l3 := hok.l3
  obtain ⟨A0, c0, rfl, hq0⟩ := hr
  clear hok hu hq0
  go_enter Try.func161, Try.ntmps161
  go_wp2_with (refine ldC rfl (.tmp 2) rfl _ g.mc (hp_new rfl) (by rfl) ?_)
  refine (l04Graph_any g HO.out _ u HU.out hlen _ (Hr.out.alloc _)).mono ?_
  rintro e w1 ⟨⟨va, vb, ra, rb, rfl, ha, hb', hap⟩, hb⟩
  have B1 := hidd (bel_then (bel_alloc' w (.cells g.mc.cells 27)) hb)
  have hzw : w.heap.size ≤ (w.alloc (.cells g.mc.cells 27)).heap.size := by simp
  have HA := hidd (ha.mono hzw)
  have HB := hidd (hb'.mono hzw)
  clear ha hb' hb hzw
  have hw1 := B1.out.size
  by_cases hc : (g.secs (fun _ => true) u).2.2 = 0
  · have HS := hidd (Gm.secs_ok HO.out HU.out hc)
    have HL := hidd (show g.las u = (pick (g.secs (fun _ => true) u).1 (lsK (g.secs (fun _ => true) u).2.1 g.l (g.secs (fun _ => true) u).1.length (g.secs (fun _ => true) u).1.length) (g.secs (fun _ => true) u).1.length, 0) by unfold Gm.las; rw [hc])
    have hd : decide ((g.secs (fun _ => true) u).2.2 = 0) = true := decide_eq_true hc
    rw [hd]
    obtain ⟨W, hW⟩ : ∃ W, W = (g.secs (fun _ => true) u).1 := ⟨_, rfl⟩
    obtain ⟨R, hR⟩ : ∃ R, R = (g.secs (fun _ => true) u).2.1 := ⟨_, rfl⟩
    rw [← hW, ← hR] at HS HL
    rw [← hW] at HA
    rw [← hR] at HB
    have hle := HS.out.le
    have hpos := HS.out.pos
    have HGf := hidd HS.out.grf
    obtain ⟨n, hn⟩ : ∃ n, n = W.length := ⟨_, rfl⟩
    rw [← hn] at hle hpos HGf HL
    have Hn := hidd hn
    obtain ⟨Aa, ca, hae⟩ := HA.out.v.slice
    rw [HA.out.len, ← hn] at hae
    subst hae
    have HK := hidd (fun k (hk : k < n) => (rch_ok HGf.out hk).1)
    have HLn := hidd (fun k (hk : k ≤ n) => lsK_len HGf.out k hk)
    clear hc hd hW hR HS hn
    go_wp2_with (at_make; refine mk_own rfl _ _ _ rfl w1.heap.size 4 (.bool false) 1 Try.underlying100 infoB rfl n rfl rfl (by omega) (by omega) (Nat.le_refl _) ?_; intro w2 ho hg hlt1; have Ho := hidd (show Own w2 w1.heap.size 4 (.slice (some ⟨w1.heap.size, 0, none⟩) n n) (bvs (lsK R g.l n 0)) by simpa [bvs, lsK] using ho); have Bel := hidd ((Below.refl w1.heap.size w1).grown hg (Nat.le_refl _) (fun k hk => by cases hk)); clear ho hg)
    go_loopw [10] (fun y wr => ∃ k : Nat, y = .int .i64 k ∧ k ≤ n ∧ Hid (Own wr w1.heap.size 4 (.slice (some ⟨w1.heap.size, 0, none⟩) n n) (bvs (lsK R g.l n k))) ∧ Hid (Below w1.heap.size w1 wr)) (fun y _ => n - (intOf y).toNat)
    case atStart => exact ⟨0, rfl, Nat.zero_le _, Ho, Bel⟩
    case round =>
      clear Ho Bel
      obtain ⟨k, rfl, hk, HW, Hb⟩ := hrel
      obtain ⟨wo, rfl⟩ : ∃ wo, wo = wr := ⟨_, rfl⟩
      by_cases hlt : k < n
      · have i1 : (k : Int) < n := by omega
        have i0 : (0 : Int) ≤ k := by omega
        have HRc := hidd (l04Reached_any R g.l n k HGf.out (by omega) l3 hlt _ wo (HB.out.below Hb.out).rd)
        have HSu := hidd (show lsK R g.l n (k + 1) = if (rch R g.l n k).getD k false then orL (lsK R g.l n k) (rch R g.l n k) else lsK R g.l n k from rfl)
        have HSk := hidd (fun h => lsK_skip HGf.out hlt h)
        have HL1 := hidd (HLn.out k hk)
        have HL2 := hidd (HK.out k hlt)
        obtain ⟨M, hM⟩ : ∃ M, M = rch R g.l n k := ⟨_, rfl⟩
        obtain ⟨L, hL⟩ : ∃ L, L = lsK R g.l n k := ⟨_, rfl⟩
        rw [← hM] at HRc HSu HL2
        rw [← hL] at HSu HSk HL1 HW
        clear hM hL
        go_wp2_with fail
        refine HRc.out.mono ?_
        rintro e w3 ⟨⟨mb, rfl, hm⟩, hb⟩
        have HM := hidd hm
        have HW3 := hidd (HW.out.below hb)
        have Hb3 := hidd (bel_then Hb.out hb)
        have hne : mb ≠ w1.heap.size := by
          have h1 := hm.block mb rfl
          have h2 := HW.out.block w1.heap.size rfl
          omega
        have d1 := hm.cell (bvs_get (show k < M.length by rw [HL2.out]; exact hlt))
        have d3 := HW3.out.frozen k
        clear hm hb HW Hb HRc HSk
        cases hmk : M.getD k false with
        | false =>
          rw [hmk, if_neg (by decide)] at HSu
          rw [hmk] at d1
          clear hmk
          go_wp2_with fail
          go_roundw
          case rel => exact ⟨k + 1, by go_num, by omega, hidd (by rw [HSu.out]; exact HW3.out), Hb3⟩
          case measure => first | (simp [intOf]; done) | (simp [intOf]; omega)
        | true =>
          have HOr := hidd (orL_set HL1.out HL2.out hmk)
          rw [hmk, if_pos rfl] at HSu
          rw [hmk] at d1
          have HW4 := hidd (by have h := HW3.out.store k (.bool true); rw [bvs_set] at h; exact h)
          have HM4 := hidd (HM.out.far (p := ⟨w1.heap.size, k, none⟩) (by rw [show (Value.slice (some ⟨mb, 0, none⟩) n n).ownBlock = some mb from rfl]; exact fun e => hne (Option.some.inj e)) (.bool true))
          have Hb4 := hidd (Hb3.out.setCell (p := ⟨w1.heap.size, k, none⟩) (Nat.le_refl _) (.bool true))
          have HL3 := hidd (show (L.set k true).length = n by rw [List.length_set]; exact HL1.out)
          obtain ⟨w4, hw4⟩ : ∃ w4, w4 = w3.setCell ⟨w1.heap.size, k, none⟩ (.bool true) := ⟨_, rfl⟩
          rw [← hw4] at HW4 HM4 Hb4
          obtain ⟨L', hL'⟩ : ∃ L', L' = L.set k true := ⟨_, rfl⟩
          rw [← hL'] at HW4 HL3 HOr
          have HW5 : Hid (Own w4 w1.heap.size 4 (.slice (some ⟨w1.heap.size, 0, none⟩) n n) (bvs (orP L' M 0))) := hidd (by rw [orP_zero]; exact HW4.out)
          have d5 := HW3.out.cell (bvs_get (show k < L.length by rw [HL1.out]; exact hlt))
          clear hmk hL' HW3 HM Hb3 HW4
          go_wp2_with fail
          rw [← hw4]
          clear hw4 d1 d3 d5
          go_loopw [12] (fun y wr => ∃ i : Nat, y = .int .i64 i ∧ i ≤ n ∧ Hid (Own wr w1.heap.size 4 (.slice (some ⟨w1.heap.size, 0, none⟩) n n) (bvs (orP L' M i))) ∧ Hid (Own wr wo.heap.size 4 (.slice (some ⟨mb, 0, none⟩) n n) (bvs M)) ∧ Hid (Below w1.heap.size w1 wr)) (fun y _ => n - (intOf y).toNat)
          case atStart => exact ⟨0, rfl, Nat.zero_le _, HW5, HM4, Hb4⟩
          case round =>
            clear HW5 HM4 Hb4
            obtain ⟨i, rfl, hi, HW, HM, Hb⟩ := hrel
            by_cases hil : i < n
            · have j1 : (i : Int) < n := by omega
              have j0 : (0 : Int) ≤ i := by omega
              have hlp := orP_len HL3.out HL2.out hi
              have d1 := HW.out.cell (bvs_get (show i < (orP L' M i).length by rw [hlp]; exact hil))
              have d2 := HW.out.frozen i
              have d3 := HM.out.cell (bvs_get (show i < M.length by rw [HL2.out]; exact hil))
              rw [orP_get HL3.out HL2.out hi, if_neg (Nat.lt_irrefl i)] at d1
              have HSt := hidd (orP_set HL3.out HL2.out hil)
              have HFr := hidd (fun b => HM.out.far (p := ⟨w1.heap.size, i, none⟩) (by rw [show (Value.slice (some ⟨mb, 0, none⟩) n n).ownBlock = some mb from rfl]; exact fun e => hne (Option.some.inj e)) (.bool b))
              have HSo := hidd (fun b => HW.out.store i (.bool b))
              have HBs := hidd (fun b => Hb.out.setCell (p := ⟨w1.heap.size, i, none⟩) (Nat.le_refl _) (.bool b))
              clear hlp
              cases hb1 : L'.getD i false with
              | true =>
                rw [hb1] at d1
                rw [hb1, Bool.true_or] at HSt
                clear hb1
                go_wp2_with fail
                go_roundw
                case rel => exact ⟨i + 1, by go_num, by omega, hidd (by rw [← HSt.out, ← bvs_set]; exact HSo.out true), hidd (HFr.out true), hidd (HBs.out true)⟩
                case measure => first | (simp [intOf]; done) | (simp [intOf]; omega)
              | false =>
                rw [hb1] at d1
                rw [hb1, Bool.false_or] at HSt
                obtain ⟨b, hb2⟩ : ∃ b, b = M.getD i false := ⟨_, rfl⟩
                rw [← hb2] at d3 HSt
                clear hb1 hb2
                go_wp2_with fail
                go_roundw
                case rel => exact ⟨i + 1, by go_num, by omega, hidd (by rw [← HSt.out, ← bvs_set]; exact HSo.out b), hidd (HFr.out b), hidd (HBs.out b)⟩
                case measure => first | (simp [intOf]; done) | (simp [intOf]; omega)
            · have he : n = i := by omega
              subst he
              have HF := hidd (show orP L' M n = lsK R g.l n (k + 1) by rw [orP_all HL3.out HL2.out, HOr.out, HSu.out])
              clear hil
              go_wp2_with fail
              go_roundw
              case rel => exact ⟨k + 1, by go_num, by omega, hidd (by rw [← HF.out]; exact HW.out), Hb⟩
              case measure => first | (simp [intOf]; done) | (simp [intOf]; omega)
      · have he : n = k := by omega
        subst he
        have BW := hidd (bel_then B1.out Hb.out)
        have HQ := hidd (HA.out.below Hb.out)
        have hz := BW.out.size
        obtain ⟨K, hK⟩ : ∃ K, K = lsK R g.l n n := ⟨_, rfl⟩
        rw [← hK] at HW HL
        have HKl := hidd (show K.length = n by rw [hK]; exact HLn.out n (Nat.le_refl _))
        have E0 := hidd (show LLr (wo.alloc (.cells #[] 30)) w.heap.size (.slice (some ⟨wo.heap.size, 0, none⟩) 0 0) (pick ra K 0) (pick W K 0) from ⟨Own.empty wo 30 w.heap.size hz, rfl, fun j r xs h => by simp [pick] at h, fun i j r u h => by simp [pick] at h⟩)
        have A0 := hidd (show Apart (.slice Aa n ca) (.slice (some ⟨wo.heap.size, 0, none⟩) 0 0) from own_ne HQ.out.v (Own.empty wo 30 wo.heap.size (Nat.le_refl _)) (Nat.le_refl _))
        have Q0 := hidd (HQ.out.below (bel_alloc' wo (.cells #[] 30)))
        have W0 := hidd (HW.out.below (bel_alloc' wo (.cells #[] 30)))
        have C0 := hidd (bel_then BW.out (bel_alloc' wo (.cells #[] 30)))
        clear hlt hK HLn HK HGf HQ HW BW
        go_wp2_with fail
        go_loopw [13, 14] (fun o y wr => ∃ k : Nat, y = .int .i64 k ∧ k ≤ n ∧ Hid (LLr wr w.heap.size o (pick ra K k) (pick W K k)) ∧ Hid (LLr wr w.heap.size (.slice Aa n ca) ra W) ∧ Hid (Apart (.slice Aa n ca) o) ∧ Hid (Own wr w1.heap.size 4 (.slice (some ⟨w1.heap.size, 0, none⟩) n n) (bvs K)) ∧ Hid (Below w.heap.size w wr)) (fun _ y _ => n - (intOf y).toNat)
        case atStart => exact ⟨0, rfl, Nat.zero_le _, E0, Q0, A0, W0, C0⟩
        case round =>
          clear E0 Q0 A0 W0 C0
          obtain ⟨k, rfl, hk, HO2, HQ, HAp, HW, Hb⟩ := hrel
          by_cases hlt : k < n
          · have i1 : (k : Int) < n := by omega
            have i0 : (0 : Int) ≤ k := by omega
            have hkW : k < W.length := by rw [← Hn.out]; exact hlt
            have hkr : k < ra.length := by rw [HQ.out.len]; exact hkW
            have hrow := HQ.out.row k ra[k] W[k] (List.getElem?_eq_getElem hkr) (List.getElem?_eq_getElem hkW)
            have hoff := pick_off HQ.out (bs := K) (List.getElem?_eq_getElem hkr)
            have hy1 := fun h => pick_yes (bs := K) h (List.getElem?_eq_getElem hkr)
            have hy2 := fun h => pick_yes (bs := K) h (List.getElem?_eq_getElem hkW)
            obtain ⟨bq, oq, rfl, hcell⟩ := HQ.out.v.rd.2.at_ (List.getElem?_eq_getElem hkr)
            obtain ⟨r, hrr⟩ : ∃ r, r = ra[k] := ⟨_, rfl⟩
            rw [← hrr] at hrow hcell hoff hy1
            have Hrow := hidd hrow
            have Hoff := hidd hoff
            obtain ⟨Ar, cr, rfl⟩ := hrow.slice
            have d1 := HW.out.cell (bvs_get (show k < K.length by rw [HKl.out]; exact hlt))
            clear hrow hrr hoff
            cases hkk : K.getD k false with
            | true =>
              rw [hkk] at d1
              have HY1 := hidd (hy1 hkk)
              have HY2 := hidd (hy2 hkk)
              have hlen3 : (pick ra K k).length + 1 ≤ 1099511627776 := by have := pick_le ra K k; omega
              have hbase := Hb.out.size
              clear hkk hy1 hy2
              go_wp2_with (at_builtin; refine app_at rfl _ _ _ rfl w.heap.size 30 (.slice none 0 0) 24 Try.underlying65 info_ints rfl HO2.out.v rfl rfl rfl hlen3 (by decide) hbase ?_; intro v' w8 ho hgr hle hli; have H8 := hidd (HO2.out.push Hrow.out Hoff.out ho hgr); have Q8 := hidd (HQ.out.keepL HO2.out.v HAp.out hgr); have A8 := hidd (HAp.out.lies HQ.out.v (Nat.le_refl _) hli); have W8 := hidd (HW.out.grown hgr (HW.out.apart HO2.out.v (by decide))); have b8 := hidd (Hb.out.trans (bel_own HO2.out.v hgr hbase)); clear ho hgr hle hli)
              go_roundw
              case rel => exact ⟨k + 1, by go_num, by omega, hidd (by rw [HY1.out, HY2.out]; exact H8.out), Q8, A8, W8, b8⟩
              case measure => first | (simp [intOf]; done) | (simp [intOf]; omega)
            | false =>
              rw [hkk] at d1
              have HN1 := hidd (pick_no (W := ra) hkk)
              have HN2 := hidd (pick_no (W := W) hkk)
              clear hkk hy1 hy2
              go_wp2_with fail
              go_roundw
              case rel => exact ⟨k + 1, by go_num, by omega, hidd (by rw [HN1.out, HN2.out]; exact HO2.out), HQ, HAp, HW, Hb⟩
              case measure => first | (simp [intOf]; done) | (simp [intOf]; omega)
          · have he : n = k := by omega
            subst he
            clear hlt
            obtain ⟨Ao, co, rfl⟩ := HO2.out.v.slice
            go_wp2_with fail
            go_ret2
            exact ⟨⟨_, pick ra K n, by rw [HL.out]; rfl, by rw [HL.out]; exact HO2.out⟩, Hb.out⟩
  · have hd : decide ((g.secs (fun _ => true) u).2.2 = 0) = false := decide_eq_false hc
    rw [hd]
    have HL := hidd (Gm.las_bad hc)
    clear hc hd
    go_wp2_with fail
    go_ret2
    exact ⟨⟨_, [], by rw [HL.out]; rfl, by rw [HL.out]; exact LLr.nil _ _⟩, B1.out⟩

set_option maxRecDepth 100000 in
set_option maxHeartbeats 4000000 in
theorem lasting_any (g : Gm) (hok : g.Ok) (G : Nat) (vo vt : Value) (v : Value) (u : List Int) (hu : g.Nums u) (hlen : u.length ≤ 1048576) (w : World) (hG : GrpAt w G g vo vt) (hr : RdI w v u) :
    Calls Try.prog 162 #[.pointer (some ⟨G, 0, none⟩), v] w fun e w' => (∃ a ra, e = .returned (.tuple #[a, .int .i64 (g.las u).2]) ∧ LLr w' w.heap.size a ra (g.las u).1) ∧ Below w.heap.size w w' := by
  have HO := hidd hok
  have HU := hidd hu
  have HSc := hidd (sections_any g hok G vo vt v u hu hlen (fun _ => true) 221 #[] #[] (enters_of Try.func221 (by kernel_rfl) rfl) w hG hr (fun s x W _ _ _ _ => by simpa using all_any x W))
  have l3 := hok.l3
  obtain ⟨A0, c0, rfl, hq0⟩ := hr
  clear hok hu hq0 hG
  go_enter Try.func162, Try.ntmps162
  go_wp2_with fail
  refine HSc.out.mono ?_
  rintro e w1 ⟨⟨va, vb, ra, rb, rfl, ha, hb', hap⟩, hb⟩
  have B1 := hidd hb
  have HA := hidd ha
  have HB := hidd hb'
  clear ha hb' hb HSc
  have hw1 := B1.out.size
  by_cases hc : (g.secs (fun _ => true) u).2.2 = 0
  · have HS := hidd (Gm.secs_ok HO.out HU.out hc)
    have HL := hidd (show g.las u = (pick (g.secs (fun _ => true) u).1 (lsK (g.secs (fun _ => true) u).2.1 g.l (g.secs (fun _ => true) u).1.length (g.secs (fun _ => true) u).1.length) (g.secs (fun _ => true) u).1.length, 0) by unfold Gm.las; rw [hc])
    rw [hc]
    obtain ⟨W, hW⟩ : ∃ W, W = (g.secs (fun _ => true) u).1 := ⟨_, rfl⟩
    obtain ⟨R, hR⟩ : ∃ R, R = (g.secs (fun _ => true) u).2.1 := ⟨_, rfl⟩
    rw [← hW, ← hR] at HS HL
    rw [← hW] at HA
    rw [← hR] at HB
    have hle := HS.out.le
    have hpos := HS.out.pos
    have HGf := hidd HS.out.grf
    obtain ⟨n, hn⟩ : ∃ n, n = W.length := ⟨_, rfl⟩
    rw [← hn] at hle hpos HGf HL
    have Hn := hidd hn
    obtain ⟨Aa, ca, hae⟩ := HA.out.v.slice
    rw [HA.out.len, ← hn] at hae
    subst hae
    have HK := hidd (fun k (hk : k < n) => (rch_ok HGf.out hk).1)
    have HLn := hidd (fun k (hk : k ≤ n) => lsK_len HGf.out k hk)
    clear hc hW hR HS hn
    go_wp2_with (at_make; refine mk_own rfl _ _ _ rfl w1.heap.size 4 (.bool false) 1 Try.underlying100 infoB rfl n rfl rfl (by omega) (by omega) (Nat.le_refl _) ?_; intro w2 ho hg hlt1; have Ho := hidd (show Own w2 w1.heap.size 4 (.slice (some ⟨w1.heap.size, 0, none⟩) n n) (bvs (lsK R g.l n 0)) by simpa [bvs, lsK] using ho); have Bel := hidd ((Below.refl w1.heap.size w1).grown hg (Nat.le_refl _) (fun k hk => by cases hk)); clear ho hg)
    go_loopw [31] (fun y wr => ∃ k : Nat, y = .int .i64 k ∧ k ≤ n ∧ Hid (Own wr w1.heap.size 4 (.slice (some ⟨w1.heap.size, 0, none⟩) n n) (bvs (lsK R g.l n k))) ∧ Hid (Below w1.heap.size w1 wr)) (fun y _ => n - (intOf y).toNat)
    case atStart => exact ⟨0, rfl, Nat.zero_le _, Ho, Bel⟩
    case round =>
      clear Ho Bel
      obtain ⟨k, rfl, hk, HW, Hb⟩ := hrel
      obtain ⟨wo, rfl⟩ : ∃ wo, wo = wr := ⟨_, rfl⟩
      by_cases hlt : k < n
      · have i1 : (k : Int) < n := by omega
        have i0 : (0 : Int) ≤ k := by omega
        have HRc := hidd (reached_any R g.l n k HGf.out (by omega) l3 hlt _ wo (HB.out.below Hb.out).rd)
        have HSu := hidd (show lsK R g.l n (k + 1) = if (rch R g.l n k).getD k false then orL (lsK R g.l n k) (rch R g.l n k) else lsK R g.l n k from rfl)
        have HSk := hidd (fun h => lsK_skip HGf.out hlt h)
        have HL1 := hidd (HLn.out k hk)
        have HL2 := hidd (HK.out k hlt)
        obtain ⟨M, hM⟩ : ∃ M, M = rch R g.l n k := ⟨_, rfl⟩
        obtain ⟨L, hL⟩ : ∃ L, L = lsK R g.l n k := ⟨_, rfl⟩
        rw [← hM] at HRc HSu HL2
        rw [← hL] at HSu HSk HL1 HW
        clear hM hL
        have d0 := HW.out.cell (bvs_get (show k < L.length by rw [HL1.out]; exact hlt))
        cases hlk : L.getD k false with
        | true =>
          rw [hlk] at d0
          have HSk2 := hidd (HSk.out hlk)
          clear hlk HSk HSu HRc
          go_wp2_with fail
          go_roundw
          case rel => exact ⟨k + 1, by go_num, by omega, hidd (by rw [HSk2.out]; exact HW.out), Hb⟩
          case measure => first | (simp [intOf]; done) | (simp [intOf]; omega)
        | false =>
          rw [hlk] at d0
          clear hlk
          go_wp2_with fail
          clear d0
          refine HRc.out.mono ?_
          rintro e w3 ⟨⟨mb, rfl, hm⟩, hb⟩
          have HM := hidd hm
          have HW3 := hidd (HW.out.below hb)
          have Hb3 := hidd (bel_then Hb.out hb)
          have hne : mb ≠ w1.heap.size := by
            have h1 := hm.block mb rfl
            have h2 := HW.out.block w1.heap.size rfl
            omega
          have d1 := hm.cell (bvs_get (show k < M.length by rw [HL2.out]; exact hlt))
          have d3 := HW3.out.frozen k
          clear hm hb HW Hb HRc HSk
          cases hmk : M.getD k false with
          | false =>
            rw [hmk, if_neg (by decide)] at HSu
            rw [hmk] at d1
            clear hmk
            go_wp2_with fail
            go_roundw
            case rel => exact ⟨k + 1, by go_num, by omega, hidd (by rw [HSu.out]; exact HW3.out), Hb3⟩
            case measure => first | (simp [intOf]; done) | (simp [intOf]; omega)
          | true =>
            rw [hmk, if_pos rfl] at HSu
            rw [hmk] at d1
            have HW5 : Hid (Own w3 w1.heap.size 4 (.slice (some ⟨w1.heap.size, 0, none⟩) n n) (bvs (orP L M 0))) := hidd (by rw [orP_zero]; exact HW3.out)
            have HM4 := HM
            have Hb4 := Hb3
            have HL3 := HL1
            clear hmk HW3 HM Hb3
            go_wp2_with fail
            clear d1 d3
            go_loopw [47] (fun y wr => ∃ i : Nat, y = .int .i64 i ∧ i ≤ n ∧ Hid (Own wr w1.heap.size 4 (.slice (some ⟨w1.heap.size, 0, none⟩) n n) (bvs (orP L M i))) ∧ Hid (Own wr wo.heap.size 4 (.slice (some ⟨mb, 0, none⟩) n n) (bvs M)) ∧ Hid (Below w1.heap.size w1 wr)) (fun y _ => n - (intOf y).toNat)
            case atStart => exact ⟨0, rfl, Nat.zero_le _, HW5, HM4, Hb4⟩
            case round =>
              clear HW5 HM4 Hb4
              obtain ⟨i, rfl, hi, HW, HM, Hb⟩ := hrel
              by_cases hil : i < n
              · have j1 : (i : Int) < n := by omega
                have j0 : (0 : Int) ≤ i := by omega
                have hlp := orP_len HL3.out HL2.out hi
                have d1 := HW.out.cell (bvs_get (show i < (orP L M i).length by rw [hlp]; exact hil))
                have d2 := HW.out.frozen i
                have d3 := HM.out.cell (bvs_get (show i < M.length by rw [HL2.out]; exact hil))
                rw [orP_get HL3.out HL2.out hi, if_neg (Nat.lt_irrefl i)] at d1
                have HSt := hidd (orP_set HL3.out HL2.out hil)
                have HFr := hidd (fun b => HM.out.far (p := ⟨w1.heap.size, i, none⟩) (by rw [show (Value.slice (some ⟨mb, 0, none⟩) n n).ownBlock = some mb from rfl]; exact fun e => hne (Option.some.inj e)) (.bool b))
                have HSo := hidd (fun b => HW.out.store i (.bool b))
                have HBs := hidd (fun b => Hb.out.setCell (p := ⟨w1.heap.size, i, none⟩) (Nat.le_refl _) (.bool b))
                clear hlp
                cases hb1 : L.getD i false with
                | true =>
                  rw [hb1] at d1
                  rw [hb1, Bool.true_or] at HSt
                  clear hb1
                  go_wp2_with fail
                  go_roundw
                  case rel => exact ⟨i + 1, by go_num, by omega, hidd (by rw [← HSt.out, ← bvs_set]; exact HSo.out true), hidd (HFr.out true), hidd (HBs.out true)⟩
                  case measure => first | (simp [intOf]; done) | (simp [intOf]; omega)
                | false =>
                  rw [hb1] at d1
                  rw [hb1, Bool.false_or] at HSt
                  obtain ⟨b, hb2⟩ : ∃ b, b = M.getD i false := ⟨_, rfl⟩
                  rw [← hb2] at d3 HSt
                  clear hb1 hb2
                  go_wp2_with fail
                  go_roundw
                  case rel => exact ⟨i + 1, by go_num, by omega, hidd (by rw [← HSt.out, ← bvs_set]; exact HSo.out b), hidd (HFr.out b), hidd (HBs.out b)⟩
                  case measure => first | (simp [intOf]; done) | (simp [intOf]; omega)
              · have he : n = i := by omega
                subst he
                have HF := hidd (show orP L M n = lsK R g.l n (k + 1) by rw [orP_all HL3.out HL2.out, HSu.out])
                clear hil
                go_wp2_with fail
                go_roundw
                case rel => exact ⟨k + 1, by go_num, by omega, hidd (by rw [← HF.out]; exact HW.out), Hb⟩
                case measure => first | (simp [intOf]; done) | (simp [intOf]; omega)
      · have he : n = k := by omega
        subst he
        have BW := hidd (bel_then B1.out Hb.out)
        have HQ := hidd (HA.out.below Hb.out)
        have hz := BW.out.size
        obtain ⟨K, hK⟩ : ∃ K, K = lsK R g.l n n := ⟨_, rfl⟩
        rw [← hK] at HW HL
        have HKl := hidd (show K.length = n by rw [hK]; exact HLn.out n (Nat.le_refl _))
        have E0 := hidd (show LLr wo w.heap.size (.slice none 0 0) (pick ra K 0) (pick W K 0) from LLr.nil _ _)
        have A0 := hidd (show Apart (.slice Aa n ca) (.slice none 0 0) from Apart.symm (.inl rfl))
        have Q0 := HQ
        have W0 := HW
        have C0 := BW
        clear hlt hK HLn HK HGf HQ HW BW
        go_wp2_with fail
        go_loopw [13, 67] (fun o y wr => ∃ k : Nat, y = .int .i64 k ∧ k ≤ n ∧ Hid (LLr wr w.heap.size o (pick ra K k) (pick W K k)) ∧ Hid (LLr wr w.heap.size (.slice Aa n ca) ra W) ∧ Hid (Apart (.slice Aa n ca) o) ∧ Hid (Own wr w1.heap.size 4 (.slice (some ⟨w1.heap.size, 0, none⟩) n n) (bvs K)) ∧ Hid (Below w.heap.size w wr)) (fun _ y _ => n - (intOf y).toNat)
        case atStart => exact ⟨0, rfl, Nat.zero_le _, E0, Q0, A0, W0, C0⟩
        case round =>
          clear E0 Q0 A0 W0 C0
          obtain ⟨k, rfl, hk, HO2, HQ, HAp, HW, Hb⟩ := hrel
          by_cases hlt : k < n
          · have i1 : (k : Int) < n := by omega
            have i0 : (0 : Int) ≤ k := by omega
            have hkW : k < W.length := by rw [← Hn.out]; exact hlt
            have hkr : k < ra.length := by rw [HQ.out.len]; exact hkW
            have hrow := HQ.out.row k ra[k] W[k] (List.getElem?_eq_getElem hkr) (List.getElem?_eq_getElem hkW)
            have hoff := pick_off HQ.out (bs := K) (List.getElem?_eq_getElem hkr)
            have hy1 := fun h => pick_yes (bs := K) h (List.getElem?_eq_getElem hkr)
            have hy2 := fun h => pick_yes (bs := K) h (List.getElem?_eq_getElem hkW)
            obtain ⟨bq, oq, rfl, hcell⟩ := HQ.out.v.rd.2.at_ (List.getElem?_eq_getElem hkr)
            obtain ⟨r, hrr⟩ : ∃ r, r = ra[k] := ⟨_, rfl⟩
            rw [← hrr] at hrow hcell hoff hy1
            have Hrow := hidd hrow
            have Hoff := hidd hoff
            obtain ⟨Ar, cr, rfl⟩ := hrow.slice
            have d1 := HW.out.cell (bvs_get (show k < K.length by rw [HKl.out]; exact hlt))
            clear hrow hrr hoff
            cases hkk : K.getD k false with
            | true =>
              rw [hkk] at d1
              have HY1 := hidd (hy1 hkk)
              have HY2 := hidd (hy2 hkk)
              have hlen3 : (pick ra K k).length + 1 ≤ 1099511627776 := by have := pick_le ra K k; omega
              have hbase := Hb.out.size
              clear hkk hy1 hy2
              go_wp2_with (at_builtin; refine app_at rfl _ _ _ rfl w.heap.size 30 (.slice none 0 0) 24 Try.underlying65 info_ints rfl HO2.out.v rfl rfl rfl hlen3 (by decide) hbase ?_; intro v' w8 ho hgr hle hli; have H8 := hidd (HO2.out.push Hrow.out Hoff.out ho hgr); have Q8 := hidd (HQ.out.keepL HO2.out.v HAp.out hgr); have A8 := hidd (HAp.out.lies HQ.out.v (Nat.le_refl _) hli); have W8 := hidd (HW.out.grown hgr (HW.out.apart HO2.out.v (by decide))); have b8 := hidd (Hb.out.trans (bel_own HO2.out.v hgr hbase)); clear ho hgr hle hli)
              go_roundw
              case rel => exact ⟨k + 1, by go_num, by omega, hidd (by rw [HY1.out, HY2.out]; exact H8.out), Q8, A8, W8, b8⟩
              case measure => first | (simp [intOf]; done) | (simp [intOf]; omega)
            | false =>
              rw [hkk] at d1
              have HN1 := hidd (pick_no (W := ra) hkk)
              have HN2 := hidd (pick_no (W := W) hkk)
              clear hkk hy1 hy2
              go_wp2_with fail
              go_roundw
              case rel => exact ⟨k + 1, by go_num, by omega, hidd (by rw [HN1.out, HN2.out]; exact HO2.out), HQ, HAp, HW, Hb⟩
              case measure => first | (simp [intOf]; done) | (simp [intOf]; omega)
          · have he : n = k := by omega
            subst he
            clear hlt
            obtain ⟨Ao, co, rfl⟩ := HO2.out.v.slice
            go_wp2_with fail
            go_ret2
            exact ⟨⟨_, pick ra K n, by rw [HL.out]; rfl, by rw [HL.out]; exact HO2.out⟩, Hb.out⟩
  · have HL := hidd (Gm.las_bad hc)
    have h3 : (g.secs (fun _ => true) u).2.2 = 3 := by
      have h := congrArg Prod.snd HL.out
      exact h
    rw [h3]
    clear hc h3
    go_wp2_with fail
    go_ret2
    exact ⟨⟨_, [], by rw [HL.out]; rfl, by rw [HL.out]; exact LLr.nil _ _⟩, B1.out⟩
end Go.Proofs.Ytjnnbjlombopnaa
