/- Walks: ParseMachine, of the program. -/
import Derived.Test.YtighjpnjbgjgaaaDoorPsh
import Derived.Test.YtighjpnjbgjgaaaDoorRdt
namespace Go.Proofs.YtighjpnjbgjgaaaDoor
open Go.RowKit
set_option linter.unusedSimpArgs false

theorem prM_at {t : ByteArray} {b : UInt8} {r : List UInt8} (h : t.data.toList = b :: 58 :: r) : prM t = ⟨(b.toNat : Int) - 48, ((spl 44 r).length : Nat), rdN (spl 44 r), rdO (spl 44 r)⟩ := by
  unfold prM
  rw [h]
  rfl
theorem str_neq {a b : ByteArray} (h : ¬ a = b) : (a.toList == b.toList) = false := by
  rw [beq_eq_false_iff_ne]
  intro e
  rw [ByteArray.toList_eq, ByteArray.toList_eq] at e
  exact h (ByteArray.ext (Array.toList_inj.1 e))
theorem size_one {h : ByteArray} {b : UInt8} (e : h.data.toList = [b]) : h.size = 1 := by
  rw [← str_len, e]; rfl
theorem at_one {h : ByteArray} {b : UInt8} (e : h.data.toList = [b]) : h[0]'(by rw [size_one e]; decide) = b := by
  have h1 : 0 < h.data.toList.length := by rw [e]; exact Nat.zero_lt_one
  rw [← str_at (s := h) (k := 0) (by rw [size_one e]; decide)]
  simp only [e, List.getElem_cons_zero]

set_option maxRecDepth 100000 in
set_option maxHeartbeats 4000000 in
theorem implParseMachine_any (t : ByteArray) (hs : t.size ≤ 1048576) (mx : Int) (w : World) (hmx : w.cell? mlA = some (.int .i64 mx)) :
    Calls Tryd.prog 5 #[.string t] w fun e w' => e = .returned (.tuple #[.agg (prR t).1.cells, .int .i64 (prR t).2]) ∧ Below w.heap.size w w' := by
  have hz := zeroM_run
  have hz1 := zeroM_size
  have hz2 := zeroM_ne
  have Z := hidd (show (w.alloc (.cells zeroM 25)).heap[w.heap.size]? = some (.cells zeroM 25 (0, 0)) from hp_new rfl)
  have BZ := hidd (bel_alloc' w (.cells zeroM 25))
  have HMX := hidd (cell_belw hmx BZ.out)
  obtain ⟨R, hR⟩ : ∃ R, R = prR t := ⟨_, rfl⟩
  rw [← hR]
  have HR := hidd hR
  have HC := hidd (fun (W : World) (hb : W.cell? mlA = some (.int .i64 mx)) => cut_any t hs mx W hb)
  clear hmx hR
  go_enter Tryd.func5, Tryd.ntmps5
  go_wp2_with fail
  refine (HC.out _ HMX.out).mono ?_
  rintro e w1 ⟨⟨h, r, p, rfl, hh, hr, hp⟩, hb⟩
  have B1 := hidd (bel_then BZ.out hb)
  have Z1 := hidd (hp_bel Z.out hb)
  have HMX1 := hidd (cell_belw HMX.out hb)
  have hZ1 : w.heap.size < w1.heap.size := by
    have := hb.size
    have : (w.alloc (.cells zeroM 25)).heap.size = w.heap.size + 1 := by simp
    omega
  have hrs : r.size ≤ 1048576 := by
    rw [← str_len, hr]
    have ht := str_len t
    unfold Lib.cut
    split
    · simp only [List.length_drop]; omega
    · simp
  have Hh := hidd hh
  have Hr := hidd hr
  have Hp := hidd hp
  clear hb hh hr hp HC HMX
  go_wp2_with fail
  refine (split_any r hrs mx _ HMX1.out).mono ?_
  rintro e w2 ⟨bs, rfl, hps, hw2⟩
  have b2 : Below w1.heap.size w1 w2 := by rw [hw2]; exact bel_alloc' _ _
  have B2 := hidd (bel_then B1.out b2)
  have Z2 := hidd (hp_bel Z1.out b2)
  have hC := hidd (fun (j : Nat) (x : ByteArray) (hj : bs[j]? = some x) => show w2.cell? ⟨w1.heap.size, j, none⟩ = some (.string x) by
    rw [hw2, blkc (hp_new rfl) j]
    simp [List.getElem?_toArray, List.getElem?_map, hj])
  have hZ2 : w1.heap.size < w2.heap.size := by rw [hw2]; simp
  obtain ⟨sb, hsb⟩ : ∃ sb, sb = w1.heap.size := ⟨_, rfl⟩
  simp only [← hsb] at hC hZ2 hZ1 ⊢
  obtain ⟨n, hn⟩ : ∃ n, n = bs.length := ⟨_, rfl⟩
  simp only [← hn]
  obtain ⟨ps, hpsn⟩ : ∃ ps, ps = bs.map (·.data.toList) := ⟨_, rfl⟩
  rw [← hpsn] at hps
  have hpl : ps.length = n := by rw [hpsn, List.length_map, hn]
  have Hps := hidd (fun (j : Nat) (hj : j < bs.length) => show ps.getD j [] = bs[j].data.toList by rw [hpsn, List.getD_eq_getElem?_getD, List.getElem?_map, List.getElem?_eq_getElem hj]; rfl)
  have HS := hidd hps
  -- what is known of a machine's text
  have HY : Hid (prOk t → p = true ∧ h.size = 1 ∧ ∃ L, Hd t L ∧ n ≤ 16 ∧ ∀ q, q < n → (ps.getD q []).length = 2 * L) := hidd (fun ho => by
    obtain ⟨L, hd⟩ := prOk_hd ho
    have e := hd.data
    have hne : t[0]'(by have := hd.z; omega) ≠ 58 := fun e => by
      have h1 := congrArg UInt8.toNat e
      rw [hd.a] at h1
      have h2 : (58 : UInt8).toNat = 58 := rfl
      have := hd.l
      omega
    have hc := cut_hit hne (t.extract 2 t.size).data.toList
    rw [← e] at hc
    have h1 := Hh.out
    have h2 := Hr.out
    have h3 := Hp.out
    rw [hc] at h1 h2 h3
    obtain ⟨g1, g2⟩ := prOk_rows e hd.a (ps := ps) (by rw [HS.out, h2]) ho
    exact ⟨h3, size_one h1, L, hd, by omega, fun q hq => (g2 q (by omega)).1⟩)
  clear b2 hw2 hsb hps hpsn Z BZ Z1 HMX1
  have key : ∀ (hno : ¬ prOk t), R = (Mc.zero, 6) := fun hno => HR.out.trans (prR_no hno)
  cases p with
  | false =>
    have HN := hidd (key fun ho => by have := (HY.out ho).1; cases this)
    go_wp2_with (refine stC rfl (.tmp 2) (.tmp 32) rfl _ Mc.zero Z2.out zeroM_size (by rfl) (by rw [← zeroM_cells]; rfl) ?_)
    refine bodyPost_ret (v := .tuple #[.agg Mc.zero.cells, .int .i64 6]) (results_cell_tmp rfl _ _ w.heap.size 25 _ (0, 0) _ _ rfl rfl (setRow_heap _ _ _ _ _ _ Z2.out) Tryd.underlying25 rfl (cells98i _)) rfl ⟨by rw [HN.out], ?_⟩
    exact bel_row B2.out (Nat.le_refl _) _
  | true =>
    by_cases hh1 : h.size = 1
    · have j1 : (h.size : Int) = 1 := by omega
      by_cases h16 : 16 < n
      · have i1 : (16 : Int) < n := by omega
        have HN := hidd (key fun ho => by obtain ⟨_, _, L, _, h2, _⟩ := HY.out ho; omega)
        go_wp2_with (refine stC rfl (.tmp 2) (.tmp 32) rfl _ Mc.zero Z2.out zeroM_size (by rfl) (by rw [← zeroM_cells]; rfl) ?_)
        refine bodyPost_ret (v := .tuple #[.agg Mc.zero.cells, .int .i64 6]) (results_cell_tmp rfl _ _ w.heap.size 25 _ (0, 0) _ _ rfl rfl (setRow_heap _ _ _ _ _ _ Z2.out) Tryd.underlying25 rfl (cells98i _)) rfl ⟨by rw [HN.out], ?_⟩
        exact bel_row B2.out (Nat.le_refl _) _
      · have i1 : ¬ (16 : Int) < n := by omega
        obtain ⟨b, r0, hdt, hb58⟩ := cut_back (c := 58) (s := t.data.toList) Hp.out.symm (by rw [← Hh.out, str_len]; exact hh1)
        have hc := cut_hit hb58 r0
        rw [← hdt] at hc
        have hh' : h.data.toList = [b] := by rw [Hh.out, hc]
        have hr' : r.data.toList = r0 := by rw [Hr.out, hc]
        have hps' : ps = spl 44 r0 := by rw [HS.out, hr']
        have HPM := hidd (show prM t = ⟨(b.toNat : Int) - 48, (n : Nat), rdN ps, rdO ps⟩ by rw [prM_at hdt, ← hps', hpl])
        have hb256 := b.toNat_lt
        obtain ⟨L, hL⟩ : ∃ L : Int, L = (b.toNat : Int) - 48 := ⟨_, rfl⟩
        rw [← hL] at HPM
        have h00 : (0 : Int) < h.size := by omega
        have h01 : 0 < h.size := by omega
        have h0 : (h[0].toNat : Int) = L + 48 := by rw [at_one hh']; omega
        have w1' : IntKind.i64.wrap (L + 48) = L + 48 := IntWalk.i64_in _ (by omega)
        have w2' : IntKind.i64.wrap (L + 48 - 48) = L := by rw [IntWalk.i64_in _ (by omega)]; omega
        have w3' : IntKind.i64.wrap L = L := IntWalk.i64_in _ (by omega)
        have HLb := hidd (show -48 ≤ L ∧ L < 208 by omega)
        have hst : (storeM ⟨w2.heap.size, 0, none⟩ (.agg ((zeroM.setIfInBounds 0 (.int .i64 L)).setIfInBounds 1 (.int .i64 n)))).run Tryd.prog (w2.alloc (.cells zeroM 25)) = .ok () (w2.alloc (.cells (bld L n) 25)) := st_newM w2 L n
        have Hn := hidd hn
        clear hdt hb58 hc hh' hr' hps' hb256 hL hn
        go_wp2_with fail
        obtain ⟨ob, hob⟩ : ∃ ob, ob = w2.heap.size := ⟨_, rfl⟩
        obtain ⟨w3, hw3⟩ : ∃ w3, w3 = w2.alloc (.cells (bld L n) 25) := ⟨_, rfl⟩
        simp only [← hob]
        rw [← hw3]
        have b3 : Below w2.heap.size w2 w3 := by rw [hw3]; exact bel_alloc' _ _
        have B3 := hidd (bel_then B2.out b3)
        have Z3 := hidd (hp_bel Z2.out b3)
        have N3 := hidd (show w3.heap[ob]? = some (.cells (rdP L n ps 0 0).cells 25 (0, 0)) by rw [hw3, rdP_zero, ← bld_cells]; exact hp_new hob)
        have C3 := hidd (fun (j : Nat) (x : ByteArray) (hj : bs[j]? = some x) => show w3.cell? ⟨sb, j, none⟩ = some (.string x) from cell_belw (hC.out j x hj) b3)
        rw [← hob] at hZ2
        have hwo : w.heap.size < ob := by omega
        have hn16 : n ≤ 16 := by omega
        clear hst hw3 b3 hC Z2 B2 B1 hob hz hz1 hz2 h0 h00 h01 w1' w2' w3' j1 hh1 Hh Hr Hp hrs HS
        go_loopw [42] (fun y wr => ∃ q : Nat, y = .int .i64 q ∧ q ≤ n ∧ Hid (Below w.heap.size w wr) ∧ Hid (wr.heap[w.heap.size]? = some (.cells zeroM 25 (0, 0))) ∧ Hid (wr.heap[ob]? = some (.cells (rdP L n ps q 0).cells 25 (0, 0))) ∧ Hid (∀ (j : Nat) (x : ByteArray), bs[j]? = some x → wr.cell? ⟨sb, j, none⟩ = some (.string x))) (fun y _ => n - (intOf y).toNat)
        case atStart => exact ⟨0, rfl, Nat.zero_le _, B3, Z3, N3, C3⟩
        case round =>
          clear B3 Z3 N3 C3
          obtain ⟨q, rfl, hq, Hb, HZ, HN, HCr⟩ := hrel
          by_cases hlt : q < n
          · have q1 : (q : Int) < n := by omega
            have q0 : (0 : Int) ≤ q := by omega
            have q2 : (q : Int) < 16 := by omega
            have hqb : q < bs.length := by have := Hn.out; omega
            have hcell := HCr.out q bs[q] (List.getElem?_eq_getElem hqb)
            have hrow := Hps.out q hqb
            obtain ⟨row, hrw⟩ : ∃ row, row = bs[q] := ⟨_, rfl⟩
            rw [← hrw] at hcell hrow
            have HRow := hidd hrow
            have HRl := hidd (show (ps.getD q []).length = row.size by rw [hrow, str_len])
            have HGd : Hid (prOk t → row.size % 2 = 0 ∧ row.size ≤ 6) := hidd (fun ho => by
              obtain ⟨_, _, L', hd, _, h5⟩ := HY.out ho
              have h6 := h5 q hlt
              rw [HRl.out] at h6
              have := hd.l
              omega)
            obtain ⟨m, hm⟩ : ∃ m, m = row.size / 2 := ⟨_, rfl⟩
            obtain ⟨rm, hrm⟩ : ∃ rm, rm = row.size % 2 := ⟨_, rfl⟩
            have t1 : Int.tmod (row.size : Int) 2 = (rm : Int) := by rw [Int.tmod_eq_emod_of_nonneg (by omega)]; omega
            have t2 : Int.tdiv (row.size : Int) 2 = (m : Int) := by rw [Int.tdiv_eq_ediv_of_nonneg (by omega)]; omega
            have t3 : IntKind.i64.wrap (rm : Int) = rm := IntWalk.i64_in _ (by omega)
            clear hrw hrow hqb
            by_cases hr0 : rm = 0
            · have r0' : (rm : Int) = 0 := by omega
              by_cases h6 : 6 < row.size
              · have h6' : (6 : Int) < row.size := by omega
                have HX := hidd (key fun ho => by have := HGd.out ho; omega)
                clear hr0 h6 hm hrm
                go_wp2_with (refine stC rfl (.tmp 2) (.tmp 56) rfl _ Mc.zero HZ.out zeroM_size (by rfl) (by rw [← zeroM_cells]; rfl) ?_)
                refine bodyPost_ret (v := .tuple #[.agg Mc.zero.cells, .int .i64 6]) (results_cell_tmp rfl _ _ w.heap.size 25 _ (0, 0) _ _ rfl rfl (setRow_heap _ _ _ _ _ _ HZ.out) Tryd.underlying25 rfl (cells98i _)) rfl ⟨by rw [HX.out], ?_⟩
                exact bel_row Hb.out (Nat.le_refl _) _
              · have h6' : ¬ (6 : Int) < row.size := by omega
                have t4 : IntKind.i64.wrap (m : Int) = m := IntWalk.i64_in _ (by omega)
                have HQr := hidd (show 2 * m = row.size by omega)
                have hm3 : m ≤ 3 := by omega
                clear hr0 h6 hm hrm
                go_wp2_with fail
                go_loopw [60] (fun y wr => ∃ x : Nat, y = .int .i64 x ∧ x ≤ m ∧ Hid (Below w.heap.size w wr) ∧ Hid (wr.heap[w.heap.size]? = some (.cells zeroM 25 (0, 0))) ∧ Hid (wr.heap[ob]? = some (.cells (rdP L n ps q x).cells 25 (0, 0))) ∧ Hid (∀ (j : Nat) (x : ByteArray), bs[j]? = some x → wr.cell? ⟨sb, j, none⟩ = some (.string x))) (fun y _ => m - (intOf y).toNat)
                case atStart => exact ⟨0, rfl, Nat.zero_le _, Hb, HZ, HN, HCr⟩
                case round =>
                  clear hcell HN HZ Hb HCr
                  obtain ⟨x, rfl, hx, Hb, HZ, HN, HCr⟩ := hrel
                  by_cases hxl : x < m
                  · have x1 : (x : Int) < m := by omega
                    have x2 : (x : Int) < 3 := by omega
                    have x3 : (0 : Int) ≤ x := by omega
                    obtain ⟨y, hy⟩ : ∃ y, y = 2 * x := ⟨_, rfl⟩
                    obtain ⟨z, hzy⟩ : ∃ z, z = y + 1 := ⟨_, rfl⟩
                    have hm2 := HQr.out
                    have y1 : (y : Int) < row.size := by omega
                    have y0 : (0 : Int) ≤ y := by omega
                    have z1 : (z : Int) < row.size := by omega
                    have z0 : (0 : Int) ≤ z := by omega
                    have hyl : y < row.size := by omega
                    have hzl : z < row.size := by omega
                    have e2 : IntKind.i64.wrap (2 * (x : Int)) = (y : Int) := by rw [IntWalk.i64_in _ (by omega)]; omega
                    have e3 : IntKind.i64.wrap ((y : Int) + 1) = (z : Int) := by rw [IntWalk.i64_in _ (by omega)]; omega
                    have HR2 := hidd (show rdN ps q x = (row[z].toNat + 159) % 256 ∧ rdO ps q x = (row[y].toNat + 208) % 256 by subst hzy; subst hy; exact rd_str HRow.out (by omega))
                    have hr256 : row[y].toNat < 256 := row[y].toNat_lt
                    have hs256 : row[z].toNat < 256 := row[z].toNat_lt
                    have v1 : IntKind.u8.wrap ((row[y].toNat : Int) - 48) = (rdO ps q x : Nat) := by rw [IntKind.wrap_u8, HR2.out.2]; omega
                    have v2 : IntKind.u8.wrap ((row[z].toNat : Int) - 97) = (rdN ps q x : Nat) := by rw [IntKind.wrap_u8, HR2.out.1]; omega
                    have d1 := (blkc HN.out (50 + q * 3 + x)).trans ((Mc.cells_get _ _).trans (if_pos (by omega)))
                    have d2 := (blkc HN.out (2 + q * 3 + x)).trans ((Mc.cells_get _ _).trans (if_pos (by omega)))
                    obtain ⟨o1, ho1⟩ : ∃ o, o = (rdP L n ps q x).cellAt (50 + q * 3 + x) := ⟨_, rfl⟩
                    obtain ⟨o2, ho2⟩ : ∃ o, o = (rdP L n ps q x).cellAt (2 + q * 3 + x) := ⟨_, rfl⟩
                    rw [← ho1] at d1
                    rw [← ho2] at d2
                    have f1 := blkf HN.out (50 + q * 3 + x)
                    have f2 := blkf HN.out (2 + q * 3 + x)
                    clear ho1 ho2 hy hzy hm2
                    go_wp2_with fail
                    go_region
                    go_wp2_with fail
                    go_roundw
                    case rel =>
                      refine ⟨x + 1, by go_num, by omega, hidd (bel_drewN ((Hb.out.setCell (by dsimp only; omega) _).setCell (by dsimp only; omega) _) _), hidd (hp_far (hp_far HZ.out (by dsimp only; omega) _) (by dsimp only; omega) _), ?_, hidd (fun j y hj => ?_)⟩
                      · have h := blk_two HN.out (50 + q * 3 + x) (2 + q * 3 + x) (.int .u8 (rdO ps q x : Nat)) (.int .u8 (rdN ps q x : Nat))
                        rw [Mc.cells_setO _ _ _ _ (by omega) (by omega), Mc.cells_setN _ _ _ _ (by omega) (by omega), rdP_step] at h
                        exact hidd h
                      · show ((wr.setCell _ _).setCell _ _).cell? _ = _
                        rw [World.cell?_setCell_other _ _ _ _ (fun e => by have := congrArg Addr.block e; dsimp only at this; omega), World.cell?_setCell_other _ _ _ _ (fun e => by have := congrArg Addr.block e; dsimp only at this; omega)]
                        exact HCr.out j y hj
                    case measure => first | (simp [intOf]; done) | (simp [intOf]; omega)
                  · have he : x = m := by omega
                    have HRow2 := hidd (show (ps.getD q []).length ≤ 2 * x by have := HRl.out; have := HQr.out; omega)
                    have hx3 : ¬ (x : Int) < m := by omega
                    go_wp2_with fail
                    go_roundw
                    case rel => exact ⟨q + 1, by go_num, by omega, Hb, HZ, hidd (by rw [← rdP_row _ _ HRow2.out]; exact HN.out), HCr⟩
                    case measure => first | (simp [intOf]; done) | (simp [intOf]; omega)
            · have r0' : ¬ (rm : Int) = 0 := by omega
              have HX := hidd (key fun ho => by have := HGd.out ho; omega)
              clear hr0 hm hrm
              go_wp2_with (refine stC rfl (.tmp 2) (.tmp 56) rfl _ Mc.zero HZ.out zeroM_size (by rfl) (by rw [← zeroM_cells]; rfl) ?_)
              refine bodyPost_ret (v := .tuple #[.agg Mc.zero.cells, .int .i64 6]) (results_cell_tmp rfl _ _ w.heap.size 25 _ (0, 0) _ _ rfl rfl (setRow_heap _ _ _ _ _ _ HZ.out) Tryd.underlying25 rfl (cells98i _)) rfl ⟨by rw [HX.out], ?_⟩
              exact bel_row Hb.out (Nat.le_refl _) _
          · have he : q = n := by omega
            have HM := hidd (show rdP L n ps n 0 = prM t by have h := rdP_end L (ps.length : Nat) ps; rw [hpl] at h; rw [h, HPM.out])
            subst he
            have q1 : ¬ (q : Int) < q := by omega
            have HN2 : Hid (wr.heap[ob]? = some (.cells (prM t).cells 25 (0, 0))) := hidd (by rw [← HM.out]; exact HN.out)
            have HI0 : (prM t).Is (prM t).cells := by
              rw [← HM.out]
              exact rdP_is _ _ _ _ _ (WalkArith.wf_i64 (by have := HLb.out; omega)) (WalkArith.wf_i64 (by omega))
            have HI := hidd (fun (W : World) => implIsMachine_any (prM t) _ HI0 W)
            cases hok : (prM t).ok with
            | false =>
              have HX := hidd (key fun ho => by have := ho.1; rw [hok] at this; cases this)
              simp only [hok] at HI
              clear hlt HN HCr HI0 HM HPM hok
              go_wp2_with (refine ldC rfl (.tmp 8) rfl _ (prM t) HN2.out (by rfl) ?_)
              refine (HI.out _).mono ?_
              rintro e w5 ⟨rfl, hb5⟩
              have B5 := hidd (bel_then Hb.out hb5)
              have Z5 := hidd (hp_bel HZ.out hb5)
              clear hb5
              go_wp2_with (refine stC rfl (.tmp 2) (.tmp 95) rfl _ Mc.zero Z5.out zeroM_size (by rfl) (by rw [← zeroM_cells]; rfl) ?_)
              refine bodyPost_ret (v := .tuple #[.agg Mc.zero.cells, .int .i64 6]) (results_cell_tmp rfl _ _ w.heap.size 25 _ (0, 0) _ _ rfl rfl (setRow_heap _ _ _ _ _ _ Z5.out) Tryd.underlying25 rfl (cells98i _)) rfl ⟨by rw [HX.out], ?_⟩
              exact bel_row B5.out (Nat.le_refl _) _
            | true =>
              obtain ⟨g, hg, hgo⟩ := Mc.to_gm hok
              have HT := hidd (fun (W : World) => show Calls Tryd.prog 11 #[.agg (prM t).cells] W fun e w' => e = .returned (.string g.txt) ∧ Below W.heap.size W w' from machineText_any g hgo _ ⟨by rw [← hg]; exact HI0⟩ W)
              have HGm := hidd (show (prM t).gm = g by rw [hg]; rfl)
              simp only [hok] at HI
              obtain ⟨M, hM⟩ : ∃ M, M = prM t := ⟨_, rfl⟩
              rw [← hM] at HN2
              simp only [← hM] at HI HT
              have HMM := hidd hM
              have Hok := hidd hok
              by_cases ht : g.txt = t
              · have HX := hidd (show R = (M, 0) by rw [HR.out, hM]; exact prR_yes ⟨hok, by rw [HGm.out]; exact ht⟩)
                rw [ht] at HT
                clear hlt HN HCr HI0 HM HPM hok hM hg hgo ht
                go_wp2_with (refine ldC rfl (.tmp 8) rfl _ M HN2.out (by rfl) ?_)
                refine (HI.out _).mono ?_
                rintro e w5 ⟨rfl, hb5⟩
                have B5 := hidd (bel_then Hb.out hb5)
                have Z5 := hidd (hp_bel HZ.out hb5)
                have N5 := hidd (hp_bel HN2.out hb5)
                clear hb5
                go_wp2_with (refine ldC rfl (.tmp 8) rfl _ M N5.out (by rfl) ?_)
                refine (HT.out _).mono ?_
                rintro e w6 ⟨rfl, hb6⟩
                have B6 := hidd (bel_then B5.out hb6)
                have Z6 := hidd (hp_bel Z5.out hb6)
                have N6 := hidd (hp_bel N5.out hb6)
                clear hb6
                go_wp2_with (first | (refine ldC rfl (.tmp 8) rfl _ M N6.out (by rfl) ?_) | (refine stC rfl (.tmp 2) (.tmp 96) rfl _ M Z6.out zeroM_size (by rfl) (by rfl) ?_))
                refine bodyPost_ret (v := .tuple #[.agg M.cells, .int .i64 0]) (results_cell_tmp rfl _ _ w.heap.size 25 _ (0, 0) _ _ rfl rfl (setRow_heap _ _ _ _ _ _ Z6.out) Tryd.underlying25 rfl (cells98i _)) rfl ⟨by rw [HX.out], ?_⟩
                exact bel_row B6.out (Nat.le_refl _) _
              · have hne := str_neq ht
                have HX := hidd (key fun ho => ht (by have := ho.2; rwa [HGm.out] at this))
                clear hlt HN HCr HI0 HM HPM hok hM hg hgo ht
                go_wp2_with (refine ldC rfl (.tmp 8) rfl _ M HN2.out (by rfl) ?_)
                refine (HI.out _).mono ?_
                rintro e w5 ⟨rfl, hb5⟩
                have B5 := hidd (bel_then Hb.out hb5)
                have Z5 := hidd (hp_bel HZ.out hb5)
                have N5 := hidd (hp_bel HN2.out hb5)
                clear hb5
                go_wp2_with (refine ldC rfl (.tmp 8) rfl _ M N5.out (by rfl) ?_)
                refine (HT.out _).mono ?_
                rintro e w6 ⟨rfl, hb6⟩
                have B6 := hidd (bel_then B5.out hb6)
                have Z6 := hidd (hp_bel Z5.out hb6)
                clear hb6
                go_wp2_with (refine stC rfl (.tmp 2) (.tmp 95) rfl _ Mc.zero Z6.out zeroM_size (by rfl) (by rw [← zeroM_cells]; rfl) ?_)
                refine bodyPost_ret (v := .tuple #[.agg Mc.zero.cells, .int .i64 6]) (results_cell_tmp rfl _ _ w.heap.size 25 _ (0, 0) _ _ rfl rfl (setRow_heap _ _ _ _ _ _ Z6.out) Tryd.underlying25 rfl (cells98i _)) rfl ⟨by rw [HX.out], ?_⟩
                exact bel_row B6.out (Nat.le_refl _) _
    · have j1 : ¬ (h.size : Int) = 1 := by omega
      have HN := hidd (key fun ho => hh1 (HY.out ho).2.1)
      go_wp2_with (refine stC rfl (.tmp 2) (.tmp 32) rfl _ Mc.zero Z2.out zeroM_size (by rfl) (by rw [← zeroM_cells]; rfl) ?_)
      refine bodyPost_ret (v := .tuple #[.agg Mc.zero.cells, .int .i64 6]) (results_cell_tmp rfl _ _ w.heap.size 25 _ (0, 0) _ _ rfl rfl (setRow_heap _ _ _ _ _ _ Z2.out) Tryd.underlying25 rfl (cells98i _)) rfl ⟨by rw [HN.out], ?_⟩
      exact bel_row B2.out (Nat.le_refl _) _
end Go.Proofs.YtighjpnjbgjgaaaDoor
