/- Walks: the machine with a text of 3 letters, of the reference. -/
import Derived.Test.YtighjpnjbgjgaaaDoorRdt
namespace Go.Proofs.YtighjpnjbgjgaaaDoor
open Go.RowKit
set_option linter.unusedSimpArgs false

set_option maxRecDepth 100000 in
set_option maxHeartbeats 8000000 in
theorem l01Read_3 (t : ByteArray) (hs : t.size ≤ 1048576) (w : World) (hd : Hd t 3) :
    Calls Tryd.prog 7 #[.string t] w fun e w' => (∃ (b : Bool) (m : Mc), e = .returned (.tuple #[.agg m.cells, .bool b]) ∧ (b = true ↔ prOk t) ∧ (b = true → m = prM t)) ∧ Below w.heap.size w w' := by
  have hz := zeroM_run
  have hz1 := zeroM_size
  have hz2 := zeroM_ne
  have Z := hidd (show (w.alloc (.cells zeroM 25)).heap[w.heap.size]? = some (.cells zeroM 25 (0, 0)) from hp_new rfl)
  have BZ := hidd (bel_alloc' w (.cells zeroM 25))
  have HD := hidd hd
  have hzz := hd.z
  have t1 : 2 ≤ (t.size : Int) := by omega
  have t0 : (0 : Int) < t.size := by omega
  have t2 : (1 : Int) < t.size := by omega
  have t3 : ¬ (t.size : Int) < 2 := by omega
  have ha : (t[0]'(by omega)).toNat = 48 + 3 := hd.a
  have hb : (t[1]'(by omega)).toNat = 58 := hd.b
  clear hd
  obtain ⟨b0, hb0⟩ : ∃ b0, b0 = t[0]'(by omega) := ⟨_, rfl⟩
  have hdt : t.data.toList = t[0]'(by omega) :: 58 :: (t.extract 2 t.size).data.toList := HD.out.data
  rw [← hb0] at hdt ha
  have r1 : IntKind.u8.wrap 3 = 3 := IntWalk.u8_in _ (by omega)
  have r2 : IntKind.i64.wrap 3 = 3 := IntWalk.i64_in _ (by omega)
  have x1 : (t[1].toNat : Int) = 58 := by omega
  have x0 : (t[0].toNat : Int) = 51 := by rw [← hb0]; omega
  have HP0 := hidd (fun (ps : List (List UInt8)) (h : ps = spl 44 (t.extract 2 t.size).data.toList) => prOk_rows (L := 3) hdt ha h)
  have HB0 := hidd (fun (ho : (prM t).ok = true) => prOk_back hdt ho)
  have HA0 := hidd (show (b0.toNat : Int) - 48 = 3 by omega)
  have HPM := hidd (prM_hd HD.out)
  have HSp := hidd (fun (W : World) => l01Split_any (t.extract 2 t.size) (by rw [ByteArray.size_extract]; omega) W)
  clear hdt hb0 hb ha
  go_enter Tryd.func7, Tryd.ntmps7
  go_wp2_with fail
  refine (HSp.out _).mono ?_
  rintro e w1 ⟨⟨v, bs, rfl, ho, hp⟩, hb⟩
  have B1 := hidd (bel_then BZ.out hb)
  have Z1 := hidd (hp_bel Z.out hb)
  have hZ := hb.size
  have hZ2 : w.heap.size < w1.heap.size := by simp at hZ; omega
  obtain ⟨n, hn⟩ : ∃ n, n = bs.length := ⟨_, rfl⟩
  have hpl : (bs.map (·.data.toList)).length = n := by rw [List.length_map, hn]
  have hpos : 0 < n := by
    have := spl_ne 44 (t.extract 2 t.size).data.toList
    rw [← hp] at this
    rw [hn]
    cases bs with
    | nil => exact absurd rfl this
    | cons _ _ => simp
  obtain ⟨bA, oA, hcs, hlt⟩ : ∃ bA oA, (∀ (j : Nat) (x : ByteArray), bs[j]? = some x → w1.cell? ⟨bA, oA + j, none⟩ = some (.string x)) ∧ ∃ c, v = .slice (some ⟨bA, oA, none⟩) n c := by
    obtain ⟨A, c, e⟩ := ho.slice
    subst e
    obtain ⟨bA, oA, hA, _⟩ := ho.rd.2.at_ (j := 0) (v := .string (bs[0]'(by omega))) (by rw [List.getElem?_map, List.getElem?_eq_getElem (show 0 < bs.length by omega)]; rfl)
    subst hA
    refine ⟨bA, oA, fun j x hj => ?_, c, by rw [List.length_map, ← hn]⟩
    obtain ⟨b', o', e', h'⟩ := ho.rd.2.at_ (j := j) (v := .string x) (by rw [List.getElem?_map, hj]; rfl)
    simp only [Option.some.injEq, Addr.mk.injEq, and_true] at e'
    obtain ⟨rfl, rfl⟩ := e'
    exact h'
  obtain ⟨c, rfl⟩ := hlt
  obtain ⟨ps, hps⟩ : ∃ ps, ps = bs.map (·.data.toList) := ⟨_, rfl⟩
  rw [← hps] at hp hpl
  have HP := hidd (HP0.out ps hp)
  have HB := hidd (fun (ho : (prM t).ok = true) (hlen : ∀ q, q < ps.length → ((ps.getD q []).length : Int) = 2 * 3) => HB0.out ho (by rw [← hp, HA0.out]; exact hlen))
  have HPM2 := hidd (show prM t = ⟨3, (n : Nat), rdN ps, rdO ps⟩ by rw [HPM.out, ← hp, hpl]; rfl)
  have Hcs := hidd hcs
  have Hps := hidd (fun (j : Nat) (hj : j < bs.length) => show ps.getD j [] = bs[j].data.toList by rw [hps, List.getD_eq_getElem?_getD, List.getElem?_map, List.getElem?_eq_getElem hj]; rfl)
  have hbA : bA < w1.heap.size := World.block_lt_of_cell? w1 _ (hcs 0 (bs[0]'(by omega)) (List.getElem?_eq_getElem (by omega)))
  have hst : (storeM ⟨w1.heap.size, 0, none⟩ (.agg ((zeroM.setIfInBounds 0 (.int .i64 3)).setIfInBounds 1 (.int .i64 n)))).run Tryd.prog (w1.alloc (.cells zeroM 25)) = .ok () (w1.alloc (.cells (bld 3 n) 25)) := st_newM w1 3 n
  have Hn := hidd hn
  clear HSp hb ho hp hps hcs HP0 HB0 HPM BZ Z hn
  by_cases h16 : 16 < n
  · have i1 : (16 : Int) < n := by omega
    have HN := hidd (show ¬ prOk t from fun h => by have := (HP.out h).1; omega)
    clear h16
    have Z2 := hidd (show (w1.alloc (.cells (bld 3 n) 25)).heap[w.heap.size]? = some (.cells zeroM 25 (0, 0)) from hp_old Z1.out)
    have B2 := hidd (bel_then B1.out (bel_alloc' w1 (.cells (bld 3 n) 25)))
    go_wp2_with (refine stC rfl (.tmp 2) (.tmp 42) rfl _ Mc.zero Z2.out zeroM_size (by rfl) (by rw [← zeroM_cells]; rfl) ?_)
    refine bodyPost_ret (v := .tuple #[.agg Mc.zero.cells, .bool false]) (results_cell_tmp rfl _ _ w.heap.size 25 _ (0, 0) _ _ rfl rfl (setRow_heap _ _ _ _ _ _ Z2.out) Tryd.underlying25 rfl (cells98i _)) rfl ⟨⟨false, Mc.zero, rfl, ⟨(fun h => by cases h), fun h => absurd h HN.out⟩, (fun h => by cases h)⟩, ?_⟩
    exact bel_row B2.out (Nat.le_refl _) _
  · have i1 : ¬ (16 : Int) < n := by omega
    go_wp2_with fail
    obtain ⟨ob, hob⟩ : ∃ ob, ob = w1.heap.size := ⟨_, rfl⟩
    obtain ⟨w2, hw2⟩ : ∃ w2, w2 = w1.alloc (.cells (bld 3 n) 25) := ⟨_, rfl⟩
    simp only [← hob]
    rw [← hw2]
    have b2 : Below w1.heap.size w1 w2 := by rw [hw2]; exact bel_alloc' _ _
    have B2 := hidd (bel_then B1.out b2)
    have Z2 := hidd (hp_bel Z1.out b2)
    have N2 := hidd (show w2.heap[ob]? = some (.cells (rdP 3 n ps 0 0).cells 25 (0, 0)) by rw [hw2, rdP_zero, ← bld_cells]; exact hp_new hob)
    have C2 := hidd (fun (j : Nat) (x : ByteArray) (hj : bs[j]? = some x) => show w2.cell? ⟨bA, oA + j, none⟩ = some (.string x) from cell_belw (Hcs.out j x hj) b2)
    rw [← hob] at hbA hZ2
    clear hst hw2 b2 Hcs Z1 B1 hob hz hz1 hz2
    go_loopw [6] (fun y wr => ∃ q : Nat, y = .int .i64 q ∧ q ≤ n ∧ Hid (∀ j, j < q → (ps.getD j []).length = 2 * 3) ∧ Hid (Below w.heap.size w wr) ∧ Hid (wr.heap[w.heap.size]? = some (.cells zeroM 25 (0, 0))) ∧ Hid (wr.heap[ob]? = some (.cells (rdP 3 n ps q 0).cells 25 (0, 0))) ∧ Hid (∀ (j : Nat) (x : ByteArray), bs[j]? = some x → wr.cell? ⟨bA, oA + j, none⟩ = some (.string x))) (fun y _ => n - (intOf y).toNat)
    case atStart => exact ⟨0, rfl, Nat.zero_le _, hidd (fun j hj => absurd hj (Nat.not_lt_zero _)), B2, Z2, N2, C2⟩
    case round =>
      clear B2 Z2 N2 C2
      obtain ⟨q, rfl, hq, HL, Hb, HZ, HN, HCr⟩ := hrel
      by_cases hlt : q < n
      · have q1 : (q : Int) < n := by omega
        have q0 : (0 : Int) ≤ q := by omega
        have q2 : (q : Int) < 16 := by omega
        have hqb : q < bs.length := by have := Hn.out; omega
        have hcell := HCr.out q bs[q] (List.getElem?_eq_getElem hqb)
        have hrow := Hps.out q hqb
        obtain ⟨row, hrw⟩ : ∃ row, row = bs[q] := ⟨_, rfl⟩
        have HQr := hidd (show bs[q]? = some row by rw [hrw]; exact List.getElem?_eq_getElem hqb)
        rw [← hrw] at hcell hrow
        have hrl : (ps.getD q []).length = row.size := by rw [hrow, str_len]
        have c0 : wr.cell? ⟨ob, 0, none⟩ = some (.int .i64 3) := by rw [blkc HN.out, Mc.cells_get]; rfl
        have HRow := hidd hrow
        have HRl := hidd hrl
        clear hrw hrow hrl hqb
        by_cases hzr : row.size = 2 * 3
        · have e1 : IntKind.i64.wrap (2 * 3) = (row.size : Int) := by rw [IntWalk.i64_in _ (by omega)]; omega
          go_wp2_with fail
          go_quiet (fail)
          go_wp2_with fail
          go_loopw [7] (fun y wr => ∃ x : Nat, y = .int .i64 x ∧ x ≤ 3 ∧ Hid (Below w.heap.size w wr) ∧ Hid (wr.heap[w.heap.size]? = some (.cells zeroM 25 (0, 0))) ∧ Hid (wr.heap[ob]? = some (.cells (rdP 3 n ps q x).cells 25 (0, 0))) ∧ Hid (∀ (j : Nat) (x : ByteArray), bs[j]? = some x → wr.cell? ⟨bA, oA + j, none⟩ = some (.string x))) (fun y _ => 3 - (intOf y).toNat)
          case atStart => exact ⟨0, rfl, Nat.zero_le _, hidd (bel_drewN Hb.out _), hidd HZ.out, hidd HN.out, hidd HCr.out⟩
          case round =>
            clear hcell c0 HN HZ Hb HCr
            obtain ⟨x, rfl, hx, Hb, HZ, HN, HCr⟩ := hrel
            have c0 : wr.cell? ⟨ob, 0, none⟩ = some (.int .i64 3) := by rw [blkc HN.out, Mc.cells_get]; rfl
            by_cases hxl : x < 3
            · have x1 : (x : Int) < 3 := by omega
              have x2 : (x : Int) < 3 := by omega
              have x3 : (0 : Int) ≤ x := by omega
              have hcell := HCr.out q row HQr.out
              obtain ⟨y, hy⟩ : ∃ y, y = 2 * x := ⟨_, rfl⟩
              obtain ⟨z, hzy⟩ : ∃ z, z = y + 1 := ⟨_, rfl⟩
              have y1 : (y : Int) < row.size := by omega
              have y0 : (0 : Int) ≤ y := by omega
              have z1 : (z : Int) < row.size := by omega
              have z0 : (0 : Int) ≤ z := by omega
              have y1b : (y : Int) < 6 := by omega
              have z1b : (z : Int) < 6 := by omega
              have hyl : y < row.size := by omega
              have hzl : z < row.size := by omega
              have e2 : IntKind.i64.wrap (2 * (x : Int)) = (y : Int) := by rw [IntWalk.i64_in _ (by omega)]; omega
              have e3 : IntKind.i64.wrap ((y : Int) + 1) = (z : Int) := by rw [IntWalk.i64_in _ (by omega)]; omega
              have HR2 := hidd (show rdN ps q x = (row[z].toNat + 159) % 256 ∧ rdO ps q x = (row[y].toNat + 208) % 256 by subst hzy; subst hy; exact rd_str HRow.out (by omega))
              have HG := hidd (fun h => by
                have h1 := ((HP.out h).2 q (by omega)).2 x (by have := HRl.out; omega)
                subst hzy; subst hy
                simp only [HRow.out, str_at hyl, str_at hzl] at h1
                exact h1 : prOk t → 48 ≤ row[y].toNat ∧ row[y].toNat ≤ 50 ∧ 97 ≤ row[z].toNat ∧ row[z].toNat ≤ 112)
              have hr256 : row[y].toNat < 256 := row[y].toNat_lt
              have hs256 : row[z].toNat < 256 := row[z].toNat_lt
              by_cases hr : 48 ≤ row[y].toNat ∧ row[y].toNat ≤ 50 ∧ 97 ≤ row[z].toNat ∧ row[z].toNat ≤ 112
              · have n1 : ¬ (row[y].toNat : Int) < 48 := by omega
                have n2 : ¬ (50 : Int) < row[y].toNat := by omega
                have n3 : ¬ (row[z].toNat : Int) < 97 := by omega
                have n4 : ¬ (112 : Int) < row[z].toNat := by omega
                have v1 : IntKind.u8.wrap ((row[y].toNat : Int) - 48) = (rdO ps q x : Nat) := by rw [IntWalk.u8_in _ (by omega), HR2.out.2]; omega
                have v2 : IntKind.u8.wrap ((row[z].toNat : Int) - 97) = (rdN ps q x : Nat) := by rw [IntWalk.u8_in _ (by omega), HR2.out.1]; omega
                have d1 := (blkc HN.out (50 + q * 3 + x)).trans ((Mc.cells_get _ _).trans (if_pos (by omega)))
                have d2 := (blkc HN.out (2 + q * 3 + x)).trans ((Mc.cells_get _ _).trans (if_pos (by omega)))
                obtain ⟨o1, ho1⟩ : ∃ o, o = (rdP 3 n ps q x).cellAt (50 + q * 3 + x) := ⟨_, rfl⟩
                obtain ⟨o2, ho2⟩ : ∃ o, o = (rdP 3 n ps q x).cellAt (2 + q * 3 + x) := ⟨_, rfl⟩
                rw [← ho1] at d1
                rw [← ho2] at d2
                have f1 := blkf HN.out (50 + q * 3 + x)
                have f2 := blkf HN.out (2 + q * 3 + x)
                clear ho1 ho2 hr hy hzy
                go_wp2_with fail
                go_quiet (fail)
                go_wp2_with fail
                go_roundw
                case rel =>
                  refine ⟨x + 1, by go_num, by omega, hidd (((bel_drewN Hb.out _).setCell (by dsimp only; omega) _).setCell (by dsimp only; omega) _), hidd (hp_far (hp_far HZ.out (by dsimp only; omega) _) (by dsimp only; omega) _), ?_, hidd (fun j y hj => ?_)⟩
                  · have h := blk_two HN.out (50 + q * 3 + x) (2 + q * 3 + x) (.int .u8 (rdO ps q x : Nat)) (.int .u8 (rdN ps q x : Nat))
                    rw [Mc.cells_setO _ _ _ _ (by omega) (by omega), Mc.cells_setN _ _ _ _ (by omega) (by omega), rdP_step] at h
                    exact hidd h
                  · rw [World.cell?_setCell_other _ _ _ _ (fun e => by have := congrArg Addr.block e; dsimp only at this; omega), World.cell?_setCell_other _ _ _ _ (fun e => by have := congrArg Addr.block e; dsimp only at this; omega)]
                    exact HCr.out j y hj
                case measure => first | (simp [intOf]; done) | (simp [intOf]; omega)
              · have HX := hidd (show ¬ prOk t from fun h => hr (HG.out h))
                have hcs : (row[y].toNat : Int) < 48 ∨ (¬ (row[y].toNat : Int) < 48 ∧ (50 : Int) < row[y].toNat) ∨ (¬ (row[y].toNat : Int) < 48 ∧ ¬ (50 : Int) < row[y].toNat ∧ (row[z].toNat : Int) < 97) ∨ (¬ (row[y].toNat : Int) < 48 ∧ ¬ (50 : Int) < row[y].toNat ∧ ¬ (row[z].toNat : Int) < 97 ∧ (112 : Int) < row[z].toNat) := by omega
                clear hr hy hzy
                rcases hcs with n1 | ⟨n1, n2⟩ | ⟨n1, n2, n3⟩ | ⟨n1, n2, n3, n4⟩
                all_goals
                  go_wp2_with fail
                  go_quiet (fail)
                  go_wp2_with (refine stC rfl (.tmp 2) (.tmp 94) rfl _ Mc.zero HZ.out zeroM_size (by rfl) (by rw [← zeroM_cells]; rfl) ?_)
                  refine bodyPost_ret (v := .tuple #[.agg Mc.zero.cells, .bool false]) (results_cell_tmp rfl _ _ w.heap.size 25 _ (0, 0) _ _ rfl rfl (setRow_heap _ _ _ _ _ _ HZ.out) Tryd.underlying25 rfl (cells98i _)) rfl ⟨⟨false, Mc.zero, rfl, ⟨(fun h => by cases h), fun h => absurd h HX.out⟩, (fun h => by cases h)⟩, ?_⟩
                  exact bel_row (bel_drewN Hb.out _) (Nat.le_refl _) _
            · have he : x = 3 := by omega
              have HRow2 := hidd (show (ps.getD q []).length ≤ 2 * x by have := HRl.out; omega)
              have HLn := hidd (show (ps.getD q []).length = 2 * 3 by have := HRl.out; omega)
              have hx3 : ¬ (x : Int) < 3 := by omega
              go_wp2_with fail
              go_roundw
              case rel => exact ⟨q + 1, by go_num, by omega, hidd (fun j hj => by
                by_cases e : j = q
                · rw [e]; exact HLn.out
                · exact HL.out j (by omega)), Hb, HZ, hidd (by rw [← rdP_row _ _ HRow2.out]; exact HN.out), HCr⟩
              case measure => first | (simp [intOf]; done) | (simp [intOf]; omega)
        · have e1 : IntKind.i64.wrap (2 * 3) = 2 * 3 := IntWalk.i64_in _ (by omega)
          have k1 : ¬ (row.size : Int) = 2 * 3 := by omega
          have HX := hidd (show ¬ prOk t from fun h => by have := ((HP.out h).2 q (by omega)).1; have := HRl.out; omega)
          clear hzr
          go_wp2_with fail
          go_quiet (fail)
          go_wp2_with (refine stC rfl (.tmp 2) (.tmp 58) rfl _ Mc.zero HZ.out zeroM_size (by rfl) (by rw [← zeroM_cells]; rfl) ?_)
          refine bodyPost_ret (v := .tuple #[.agg Mc.zero.cells, .bool false]) (results_cell_tmp rfl _ _ w.heap.size 25 _ (0, 0) _ _ rfl rfl (setRow_heap _ _ _ _ _ _ HZ.out) Tryd.underlying25 rfl (cells98i _)) rfl ⟨⟨false, Mc.zero, rfl, ⟨(fun h => by cases h), fun h => absurd h HX.out⟩, (fun h => by cases h)⟩, ?_⟩
          exact bel_row (bel_drewN Hb.out _) (Nat.le_refl _) _
      · have he : q = n := by omega
        have HM := hidd (show rdP 3 n ps n 0 = prM t by have h := rdP_end 3 (ps.length : Nat) ps; rw [hpl] at h; rw [h, HPM2.out])
        subst he
        have HN2 : Hid (wr.heap[ob]? = some (.cells (prM t).cells 25 (0, 0))) := hidd (by rw [← HM.out]; exact HN.out)
        have HI0 : (prM t).Is (prM t).cells := by
          rw [← HM.out]
          exact rdP_is _ _ _ _ _ (WalkArith.wf_i64 (by omega)) (WalkArith.wf_i64 (by omega))
        have HI := hidd (fun (W : World) => l01Is_any (prM t) _ HI0 W)
        have HBk := hidd (fun (ho : (prM t).ok = true) => HB.out ho (fun j hj => by have := HL.out j (by omega); omega))
        have nlt : ¬ (q : Int) < q := by omega
        obtain ⟨M, hM⟩ : ∃ M, M = prM t := ⟨_, rfl⟩
        rw [← hM] at HN2
        simp only [← hM] at HI
        have HMM := hidd hM
        clear hlt HL HB HN HCr HI0 hM HM HPM2
        go_wp2_with fail
        have S0 : Below w.heap.size w wr.drew ∧ wr.drew.heap[ob]? = some (.cells M.cells 25 (0, 0)) := ⟨bel_then Hb.out (drew_bel wr), HN2.out⟩
        refine wp_region_held (S := fun W => Below w.heap.size w W ∧ W.heap[ob]? = some (.cells M.cells 25 (0, 0))) (by kernel_rfl) ?_
        change wpAnyH _ _ _ _ _ _ _ _ (World.drew _)
        refine wpAnyH_take (i := 0) (v := ?v0) rfl (by kernel_rfl) (by kernel_rfl) (by kernel_rfl) (fun _ _ _ h => h) (Or.inl ⟨by rfl, ?h0⟩) S0 ?_
        case h0 => (intro w4 hS; have y1 := run_loadM (W := w4) hS.2; clear hS; go_simp; first | done | with_reducible rfl)
        simp only [Act.put, List.getElem_toArray, List.getElem_cons_succ, List.getElem_cons_zero, List.setIfInBounds_toArray, List.set_cons_zero, List.set_cons_succ]
        refine wpAnyH_take (i := 1) (v := ?v1) rfl (by kernel_rfl) (by kernel_rfl) (by kernel_rfl) (fun _ _ _ h => h) (Or.inl ⟨by rfl, ?h1⟩) S0 ?_
        case h1 => (intro w4 hS; have y1 := run_loadM (W := w4) hS.2; clear hS; go_simp; first | done | with_reducible rfl)
        simp only [Act.put, List.getElem_toArray, List.getElem_cons_succ, List.getElem_cons_zero, List.setIfInBounds_toArray, List.set_cons_zero, List.set_cons_succ]
        refine wpAnyH_ready (rs := [2]) (by kernel_rfl) (by simp) (AllReadyH.cons rfl (fun K hK => ?_) AllReadyH.nil)
        go_simp
        refine (HI.out _).mono ?_
        rintro e w5 ⟨rfl, hb5⟩
        have S5 : Below w.heap.size w w5 ∧ w5.heap[ob]? = some (.cells M.cells 25 (0, 0)) := ⟨bel_then S0.1 hb5, hp_bel S0.2 hb5⟩
        have HZ5 := hidd (hp_bel (show wr.drew.heap[w.heap.size]? = some (.cells zeroM 25 (0, 0)) from HZ.out) hb5)
        refine hK.out _ _ S5 (fun _ => ?_)
        clear hK K hb5
        try simp only [Act.put, List.getElem_toArray, List.getElem_cons_succ, List.getElem_cons_zero, List.setIfInBounds_toArray, List.set_cons_zero, List.set_cons_succ]
        refine wpAnyH_ready (rs := [3]) (by kernel_rfl) (by simp) (AllReadyH.cons rfl (fun K hK => ?_) AllReadyH.nil)
        have hk := run_storeM (W := w5) (m := M) (m' := Mc.zero) (by rw [← zeroM_cells]; exact HZ5.out)
        go_simp
        have S6 : Below w.heap.size w (w5.setRow w.heap.size M.cells) ∧ (w5.setRow w.heap.size M.cells).heap[ob]? = some (.cells M.cells 25 (0, 0)) := ⟨bel_row S5.1 (Nat.le_refl _) _, hp_row S5.2 (by omega) _⟩
        refine hK.out _ _ S6 (fun _ => ?_)
        clear hK K hk
        try simp only [Act.put, List.getElem_toArray, List.getElem_cons_succ, List.getElem_cons_zero, List.setIfInBounds_toArray, List.set_cons_zero, List.set_cons_succ]
        have R6 := hidd (setRow_heap w5 w.heap.size _ M.cells _ _ HZ5.out)
        have B6 := hidd S6.1
        obtain ⟨w6, hw6⟩ : ∃ w6, w6 = w5.setRow w.heap.size M.cells := ⟨_, rfl⟩
        rw [← hw6] at S6 R6 B6 ⊢
        clear hw6
        refine wpAnyH_take (i := 4) (v := ?v4) rfl (by kernel_rfl) (by kernel_rfl) (by kernel_rfl) (fun _ _ _ h => h) (Or.inl ⟨by rfl, ?h4⟩) S6 ?_
        case h4 => (intro w4 hS; clear hS; go_simp; first | done | with_reducible rfl)
        simp only [Act.put, List.getElem_toArray, List.getElem_cons_succ, List.getElem_cons_zero, List.setIfInBounds_toArray, List.set_cons_zero, List.set_cons_succ]
        refine wpAnyH_done (by kernel_rfl) ?_ _
        clear S6 S5 S0
        go_wp2_with fail
        refine bodyPost_ret (v := .tuple #[.agg M.cells, .bool M.ok]) (results_cell_tmp rfl _ _ w.heap.size 25 _ (0, 0) _ _ rfl rfl R6.out Tryd.underlying25 rfl (cells98i _)) rfl ⟨⟨M.ok, M, rfl, ⟨fun ho => HBk.out (by rw [← HMM.out]; exact ho), fun h => by rw [HMM.out]; exact h.1⟩, fun _ => HMM.out⟩, B6.out⟩
end Go.Proofs.YtighjpnjbgjgaaaDoor
