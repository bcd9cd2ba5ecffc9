/- Walks: (*Machine).minimal; MinimalMachine, of the program and of the reference. -/
import Derived.Test.YtjnnbjlombopnaaBC
import Derived.Test.YtjnnbjlombopnaaBA
namespace Go.Proofs.Ytjnnbjlombopnaa
open Go.RowKit

/-- The numbers of the states below q. -/
def Gm.numL (g : Gm) (q : Nat) : List Int := (List.range q).map fun j => (g.num j : Int)
theorem Gm.numL_succ (g : Gm) (q : Nat) : ints (g.numL (q + 1)) = ints (g.numL q) ++ [.int .i64 (g.num q : Nat)] := by simp [Gm.numL, List.range_succ, ints]
theorem Gm.numL_len (g : Gm) (q : Nat) : (g.numL q).length = q := by simp [Gm.numL]
theorem Gm.reps_yes (g : Gm) {q : Nat} (h : g.isR q = true) : ints (g.repL (q + 1)) = ints (g.repL q) ++ [.int .i64 (q : Nat)] := by simp [Gm.repL, Gm.reps, List.range_succ, h, ints]
theorem Gm.reps_no (g : Gm) {q : Nat} (h : g.isR q = false) : g.repL (q + 1) = g.repL q := by simp [Gm.repL, Gm.reps, List.range_succ, h]
theorem Gm.repL_len (g : Gm) (q : Nat) : (g.repL q).length ≤ q := by
  unfold Gm.repL
  rw [List.length_map, g.reps_len]
  exact cnt_le _ _
theorem Gm.ga_mn (g : Gm) : gaM g (g.reps g.s) g.num = g.mn.mc := by
  have hl : (g.reps g.s).length = g.ns := g.reps_len g.s
  unfold gaM gaP Gm.mc
  rw [hl]
  have hr : ∀ i, (g.reps g.s).getD i 0 = g.rep i := fun i => by rw [List.getD_eq_getElem?_getD]; rfl
  congr 1
  · funext j y
    show (if _ then _ else _) = if _ then _ else _
    rw [hr]
    by_cases h : j < g.ns ∧ y < g.l
    · rw [if_pos (by omega), if_pos h]
    · rw [if_neg (by omega), if_neg h]
  · funext j y
    show (if _ then _ else _) = if _ then _ else _
    rw [hr]
    by_cases h : j < g.ns ∧ y < g.l
    · rw [if_pos (by omega), if_pos h]
    · rw [if_neg (by omega), if_neg h]
theorem Gm.reps_lt (g : Gm) {i : Nat} (h : i < (g.reps g.s).length) : (g.reps g.s).getD i 0 < g.s := by
  rw [List.getD_eq_getElem?_getD, List.getElem?_eq_getElem h]
  exact List.mem_range.1 (List.mem_filter.1 (List.getElem_mem h)).1

set_option linter.unusedSimpArgs false
set_option maxRecDepth 100000 in
set_option maxHeartbeats 2000000 in
theorem minimal_any (g : Gm) (hok : g.Ok) (b o : Nat) (w : World) (hA : g.At w b o) :
    Calls Try.prog 142 #[.pointer (some ⟨b, o, none⟩)] w fun e w' => (∃ u, e = .returned (.tuple #[.agg g.mn.mc.cells, u]) ∧ Own w' w.heap.size 2 u (ints (g.numL g.s))) ∧ Below w.heap.size w w' := by
  have HA := hidd hA
  have HO := hidd hok
  have s16 := hok.s16
  clear hA hok
  go_enter Try.func142, Try.ntmps142
  go_wp2_with fail
  refine (table_any g HO.out b o _ (HA.out.alloc _)).mono ?_
  rintro e w2 ⟨rfl, ht, hb⟩
  have B2 := hidd (bel_then (bel_alloc _ _) hb)
  have Z2 := hidd (show w2.heap[w.heap.size]? = some (.cells Mc.zero.cells 27 (0, 0)) by rw [← zeroC_M]; exact hp_bel (hp_new rfl) hb)
  obtain ⟨T, hTe⟩ : ∃ T, T = w.heap.size + 1 := ⟨_, rfl⟩
  rw [show (w.alloc (.cells Try.zeroCells27 27)).heap.size = T by rw [hTe]; simp] at ht ⊢
  have HT := hidd ht
  clear ht hb hTe
  go_wp2_with fail
  refine (least_any g HO.out.tb _ _ HT.out).mono ?_
  rintro e w3 ⟨⟨v, rfl, hv⟩, hb⟩
  have B3 := hidd (bel_then B2.out hb)
  have Z3 := hidd (hp_bel Z2.out hb)
  have T3 := hidd (HT.out.below hb)
  have V3 := hidd hv
  obtain ⟨Av, cv, ev, hvv⟩ := hv
  rw [ivL_len] at ev
  have HVV := hidd hvv
  clear hb hvv B2 Z2 HT
  subst ev
  go_wp2_with fail
  obtain ⟨ob, hob⟩ : ∃ ob, ob = w3.heap.size := ⟨_, rfl⟩
  rw [← hob]
  obtain ⟨w5, hw5⟩ : ∃ w5, w5 = (w3.alloc (.cells #[.slice Av g.s cv] 30)).alloc (.cells #[.slice none 0 0] 30) := ⟨_, rfl⟩
  rw [← hw5]
  have bel5 : Below w3.heap.size w3 w5 := by rw [hw5]; exact (bel_alloc' _ _).alloc (by simp) _
  have O5 := hidd (show w5.heap[ob]? = some (.cells #[.slice Av g.s cv] 30 (0, 0)) by rw [hw5]; exact hp_old (hp_new hob))
  have S5 := hidd (show w5.heap[ob + 1]? = some (.cells #[.slice none 0 0] 30 (0, 0)) by rw [hw5]; exact hp_new (by rw [hob]; simp))
  have E5 : ob + 2 = w5.heap.size := by rw [hw5, hob]; simp
  have hzlt := hp_lt Z3.out
  have hwo : w.heap.size < ob := by rw [hob]; exact hzlt
  have hol : w3.heap.size ≤ ob := by rw [hob]; exact Nat.le_refl _
  have B35 := hidd bel5
  clear hw5 hob bel5
  go_wp2_with fail
  go_loopw [18] (fun i wr => ∃ (q : Nat) (u : Value), q ≤ g.s ∧ i = .int .i64 q ∧ Hid (wr.heap[ob + 1]? = some (.cells #[u] 30 (0, 0))) ∧ Hid (Own wr (ob + 2) 2 u (ints (g.repL q))) ∧ Hid (Below (ob + 1) w5 wr)) (fun i _ => g.s - (intOf i).toNat)
  case atStart => exact ⟨0, _, Nat.zero_le _, rfl, S5, hidd (Own.nil _ _ _), hidd (Below.refl _ _)⟩
  case round =>
    clear S5
    obtain ⟨q, u, hq, rfl, HS, HU, Hb⟩ := hrel
    by_cases hqs : q < g.s
    · obtain ⟨bv, ov, rfl, c3⟩ := HVV.out.get (show q < (ivL g.lst g.s).length by rw [ivL_len]; exact hqs)
      rw [ivL_get _ hqs] at c3
      have hbv := hp_lt' c3
      dsimp only at hbv
      have c6 := (Hb.out.cell (p := ⟨bv, ov + q, none⟩) (by dsimp only; omega)).trans ((B35.out.cell (p := ⟨bv, ov + q, none⟩) hbv).trans c3)
      have s1 : wr.cell? ⟨ob + 1, 0, none⟩ = some u := blkc HS.out 0
      have s2 := blkf HS.out 0
      have hbase : ob + 2 ≤ wr.heap.size := by have := hp_lt HS.out; omega
      have hlen2 : (ints (g.repL q)).length + 1 ≤ 1099511627776 := by rw [ints_length]; have := g.repL_len q; omega
      have j1 : (q : Int) < g.s := by omega
      clear c3
      by_cases hr : g.lst q = q
      · have hd : ((q : Int) == (g.lst q : Int)) = true := beq_iff_eq.2 (by omega)
        have HR := hidd (g.reps_yes (show g.isR q = true from decide_eq_true hr))
        have Hr := hidd hr
        clear hr
        go_wp2_with (at_builtin; refine app_own rfl _ _ _ rfl (ob + 2) 2 (.int .i64 0) 8 Try.underlying30 info_i64 rfl HU.out rfl rfl rfl hlen2 (by decide) hbase ?_; intro v' w4 ho hgr hle; obtain ⟨A4, c4, rfl⟩ := ho.slice; have Ho2 := hidd ho; have hks := kept_own hgr HS.out (HU.out.ne_low (by omega)); have b2 := hidd (Hb.out.trans ((bel_own HU.out hgr hbase).mono (by omega))); clear ho hgr; have s3 : w4.cell? ⟨ob + 1, 0, none⟩ = some u := blkc hks 0; have s4 := blkf hks 0; have HS4 := hidd hks; clear hks)
        go_roundw
        case rel => exact ⟨q + 1, _, by omega, by go_num, hidd (hp_set HS4.out 0 _), hidd (by rw [HR.out]; have h := Ho2.out; rw [Hr.out, show (ints (g.repL q) ++ [Value.int .i64 (q : Nat)]).length = (ints (g.repL q)).length + 1 by simp] at h; exact h.far (p := ⟨ob + 1, 0, none⟩) (h.ne_low (show ob + 1 < ob + 2 by omega)) _), hidd (b2.out.setCell (p := ⟨ob + 1, 0, none⟩) (Nat.le_refl _) _)⟩
        case measure => simp [intOf]; omega
      · have hd : ((q : Int) == (g.lst q : Int)) = false := beq_eq_false_iff_ne.2 (by omega)
        have HR := hidd (g.reps_no (show g.isR q = false from decide_eq_false hr))
        clear hr
        go_wp2_with fail
        go_roundw
        case rel => exact ⟨q + 1, u, by omega, by go_num, HS, hidd (by rw [HR.out]; exact HU.out), Hb⟩
        case measure => simp [intOf]; omega
    · have he : q = g.s := by omega
      subst he
      have OW := hidd ((Hb.out.block ob (by omega)).trans O5.out)
      have c7 : wr.cell? ⟨ob, 0, none⟩ = some (.slice Av g.s cv) := blkc OW.out 0
      go_wp2_with fail
      clear c7
      obtain ⟨wp, rfl⟩ : ∃ wp : World, wp = wr := ⟨_, rfl⟩
      have BW3 := hidd (B35.out.trans (Hb.out.mono (by omega)))
      have BW := hidd (bel_then B3.out BW3.out)
      have TW := hidd (T3.out.below BW3.out)
      have VW := hidd (V3.out.below BW3.out)
      have ZW := hidd (hp_bel Z3.out BW3.out)
      have AW := hidd (HA.out.below BW.out HA.out.lt)
      have UW := hidd HU.out.rdI
      go_loopw [10, 34] (fun n i wr => ∃ q : Nat, q ≤ g.s ∧ i = .int .i64 q ∧ Hid (Own wr wp.heap.size 2 n (ints (g.numL q))) ∧ Hid (Below wp.heap.size wp wr)) (fun _ i _ => g.s - (intOf i).toNat)
      case atStart => exact ⟨0, Nat.zero_le _, rfl, hidd (Own.nil _ _ _), hidd (Below.refl _ _)⟩
      case round =>
        obtain ⟨q, hq, rfl, HN, Hb2⟩ := hrel
        by_cases hqs : q < g.s
        · have HCl := hidd (minimal1_any g q hqs (ob + 1) ob u (.slice Av g.s cv) 30 30 wr (hp_bel HS.out Hb2.out) (hp_bel OW.out Hb2.out) (UW.out.below Hb2.out) (VW.out.below Hb2.out))
          have hlen2 : (ints (g.numL q)).length + 1 ≤ 1099511627776 := by rw [ints_length, g.numL_len]; omega
          have HE := hidd (g.numL_succ q)
          go_wp2_with fail
          refine HCl.out.mono ?_
          rintro e w8 ⟨rfl, n8, e8⟩
          have b8 : Below wr.heap.size wr w8 := by rw [e8]; exact bel_drewN (Below.refl _ _) _
          have HN8 := hidd (HN.out.below b8)
          have Hb8 := hidd (bel_then Hb2.out b8)
          have hbase := Hb8.out.size
          clear e8 b8 HN Hb2
          go_wp2_with (at_builtin; refine app_own rfl _ _ _ rfl wp.heap.size 2 (.int .i64 0) 8 Try.underlying30 info_i64 rfl HN8.out rfl rfl rfl hlen2 (by decide) hbase ?_; intro v' w4 ho hgr hle; have Ho2 := hidd ho; have b2 := hidd (bel_own HN8.out hgr hbase); clear ho hgr)
          go_roundw
          case rel => exact ⟨q + 1, by omega, by go_num, hidd (by rw [HE.out]; exact Ho2.out), hidd (Hb8.out.trans b2.out)⟩
          case measure => simp [intOf]; omega
        · have he : q = g.s := by omega
          subst he
          obtain ⟨An, cn, rfl⟩ := HN.out.slice
          go_wp2_with fail
          have S0 := hidd (show g.At wr.drew b o ∧ wr.drew.heap[ob + 1]? = some (.cells #[u] 30 (0, 0)) from And.intro ((HA.out.below (bel_then BW.out Hb2.out) HA.out.lt).drewN 1) (hp_bel HS.out (bel_then Hb2.out (drew_bel wr))))
          refine wp_region_held (S := fun w' => g.At w' b o ∧ w'.heap[ob + 1]? = some (.cells #[u] 30 (0, 0))) (by kernel_rfl) ?_
          change wpAnyH _ _ _ _ _ _ _ _ (World.drew _)
          refine wpAnyH_take (i := 0) (v := ?v0) rfl (by kernel_rfl) (by kernel_rfl) (by kernel_rfl) (fun _ _ _ h => h) (Or.inl ⟨by rfl, ?h0⟩) S0.out ?_
          case h0 => (intro w2 hS; have k1 := hS.1.l; have k2 : w2.cell? ⟨ob + 1, 0, none⟩ = some u := blkc hS.2 0; clear hS; go_simp; first | done | with_reducible rfl)
          simp only [Act.put, List.getElem_toArray, List.getElem_cons_succ, List.getElem_cons_zero, List.setIfInBounds_toArray, List.set_cons_zero, List.set_cons_succ]
          refine wpAnyH_take (i := 1) (v := ?v1) rfl (by kernel_rfl) (by kernel_rfl) (by kernel_rfl) (fun _ _ _ h => h) (Or.inl ⟨by rfl, ?h1⟩) S0.out ?_
          case h1 => (intro w2 hS; have k1 := hS.1.l; have k2 : w2.cell? ⟨ob + 1, 0, none⟩ = some u := blkc hS.2 0; clear hS; go_simp; first | done | with_reducible rfl)
          simp only [Act.put, List.getElem_toArray, List.getElem_cons_succ, List.getElem_cons_zero, List.setIfInBounds_toArray, List.set_cons_zero, List.set_cons_succ]
          refine wpAnyH_take (i := 2) (v := ?v2) rfl (by kernel_rfl) (by kernel_rfl) (by kernel_rfl) (fun _ _ _ h => h) (Or.inl ⟨by rfl, ?h2⟩) S0.out ?_
          case h2 => (intro w2 hS; have k1 := hS.1.l; have k2 : w2.cell? ⟨ob + 1, 0, none⟩ = some u := blkc hS.2 0; clear hS; go_simp; first | done | with_reducible rfl)
          simp only [Act.put, List.getElem_toArray, List.getElem_cons_succ, List.getElem_cons_zero, List.setIfInBounds_toArray, List.set_cons_zero, List.set_cons_succ]
          refine wpAnyH_take (i := 3) (v := ?v3) rfl (by kernel_rfl) (by kernel_rfl) (by kernel_rfl) (fun _ _ _ h => h) (Or.inl ⟨by rfl, ?h3⟩) S0.out ?_
          case h3 => (intro w2 hS; have k1 := hS.1.l; have k2 : w2.cell? ⟨ob + 1, 0, none⟩ = some u := blkc hS.2 0; clear hS; go_simp; first | done | with_reducible rfl)
          simp only [Act.put, List.getElem_toArray, List.getElem_cons_succ, List.getElem_cons_zero, List.setIfInBounds_toArray, List.set_cons_zero, List.set_cons_succ]
          refine wpAnyH_take (i := 4) (v := ?v4) rfl (by kernel_rfl) (by kernel_rfl) (by kernel_rfl) (fun _ _ _ h => h) (Or.inl ⟨by rfl, ?h4⟩) S0.out ?_
          case h4 => (intro w2 hS; have k1 := hS.1.l; have k2 : w2.cell? ⟨ob + 1, 0, none⟩ = some u := blkc hS.2 0; clear hS; go_simp; first | done | with_reducible rfl)
          simp only [Act.put, List.getElem_toArray, List.getElem_cons_succ, List.getElem_cons_zero, List.setIfInBounds_toArray, List.set_cons_zero, List.set_cons_succ]
          refine wpAnyH_take (i := 5) (v := ?v5) rfl (by kernel_rfl) (by kernel_rfl) (by kernel_rfl) (fun _ _ _ h => h) (Or.inl ⟨by rfl, ?h5⟩) S0.out ?_
          case h5 => (intro w2 hS; have k1 := hS.1.l; have k2 : w2.cell? ⟨ob + 1, 0, none⟩ = some u := blkc hS.2 0; clear hS; go_simp; first | done | with_reducible rfl)
          simp only [Act.put, List.getElem_toArray, List.getElem_cons_succ, List.getElem_cons_zero, List.setIfInBounds_toArray, List.set_cons_zero, List.set_cons_succ]
          refine wpAnyH_take (i := 6) (v := ?v6) rfl (by kernel_rfl) (by kernel_rfl) (by kernel_rfl) (fun _ _ _ h => h) (Or.inl ⟨by rfl, ?h6⟩) S0.out ?_
          case h6 => (intro w2 hS; have k1 := hS.1.l; have k2 : w2.cell? ⟨ob + 1, 0, none⟩ = some u := blkc hS.2 0; clear hS; go_simp; first | done | with_reducible rfl)
          simp only [Act.put, List.getElem_toArray, List.getElem_cons_succ, List.getElem_cons_zero, List.setIfInBounds_toArray, List.set_cons_zero, List.set_cons_succ]
          refine wpAnyH_take (i := 8) (v := ?v8) rfl (by kernel_rfl) (by kernel_rfl) (by kernel_rfl) (fun _ _ _ h => h) (Or.inl ⟨by rfl, ?h8⟩) S0.out ?_
          case h8 => (intro w2 hS; have k1 := hS.1.l; have k2 : w2.cell? ⟨ob + 1, 0, none⟩ = some u := blkc hS.2 0; clear hS; go_simp; first | done | with_reducible rfl)
          simp only [Act.put, List.getElem_toArray, List.getElem_cons_succ, List.getElem_cons_zero, List.setIfInBounds_toArray, List.set_cons_zero, List.set_cons_succ]
          refine wpAnyH_ready (rs := [7]) (by kernel_rfl) (by simp) (AllReadyH.cons rfl (fun K hK => ?_) AllReadyH.nil)
          go_simp
          refine (gathered_any g HO.out.tb T (g.reps g.s) (fun i hi => g.reps_lt hi) (by rw [g.reps_len]; have := cnt_le g.isR g.s; omega) g.num (fun r hr => by have := g.num_lt hr; have := g.ns_le; omega) 201 #[.pointer (some ⟨ob + 1, 0, none⟩), .pointer (some ⟨ob, 0, none⟩)] (enters_of Try.func201 (by kernel_rfl) rfl) u _ ((TW.out.below Hb2.out).below (drew_bel wr)) ((UW.out.below Hb2.out).below (drew_bel wr)) ?_).mono ?_
          · intro r W hr hW
            have hW2 : Below wp.heap.size wp W := bel_then Hb2.out ((drew_bel wr).trans hW)
            exact minimal1_any g r hr (ob + 1) ob u (.slice Av g.s cv) 30 30 W (hp_bel HS.out hW2) (hp_bel OW.out hW2) (UW.out.below hW2) (VW.out.below hW2)
          rintro e w9 ⟨rfl, hb9⟩
          rw [g.ga_mn]
          have Hb9 := hidd (show Below wp.heap.size wp w9 from bel_then Hb2.out ((drew_bel wr).trans hb9))
          have N9 := hidd (HN.out.below ((drew_bel wr).trans hb9))
          refine hK.out _ _ ⟨HA.out.below (bel_then BW.out Hb9.out) HA.out.lt, hp_bel HS.out Hb9.out⟩ (fun _ => ?_)
          clear hK K hb9
          refine wpAnyH_ready (rs := [9]) (by kernel_rfl) (by simp) (AllReadyH.cons rfl (fun K hK => ?_) AllReadyH.nil)
          have hk := run_storeM (W := w9) (m := g.mn.mc) (hp_bel ZW.out Hb9.out)
          go_simp
          have hbw := HA.out.lt
          have SZ := hidd (show g.At (w9.setRow w.heap.size g.mn.mc.cells) b o ∧ (w9.setRow w.heap.size g.mn.mc.cells).heap[ob + 1]? = some (.cells #[u] 30 (0, 0)) from ⟨(HA.out.below (bel_then BW.out Hb9.out) HA.out.lt).same (fun i => by
            unfold World.cell?
            rw [setRow_other _ _ _ _ (show (⟨b, i, none⟩ : Addr).block ≠ w.heap.size by dsimp only; omega)]), hp_row (hp_bel HS.out Hb9.out) (by omega) _⟩)
          refine hK.out _ _ SZ.out (fun _ => ?_)
          clear hK K hk
          refine wpAnyH_take (i := 10) (v := ?v10) rfl (by kernel_rfl) (by kernel_rfl) (by kernel_rfl) (fun _ _ _ h => h) (Or.inl ⟨by rfl, ?h10⟩) SZ.out ?_
          case h10 => (intro w2 hS; clear hS; go_simp; first | done | with_reducible rfl)
          simp only [Act.put, List.getElem_toArray, List.getElem_cons_succ, List.getElem_cons_zero, List.setIfInBounds_toArray, List.set_cons_zero, List.set_cons_succ]
          refine wpAnyH_done (by kernel_rfl) ?_ _
          go_wp2_with fail
          refine bodyPost_ret (v := .tuple #[.agg g.mn.mc.cells, .slice An (ints (g.numL g.s)).length cn]) (results_cell_tmp rfl _ _ w.heap.size 27 _ (0, 0) _ _ rfl rfl (setRow_heap _ _ _ _ _ _ (hp_bel ZW.out Hb9.out)) Try.underlying27 rfl (cells98i _)) rfl ⟨⟨_, rfl, ?_⟩, ?_⟩
          · have hle := BW.out.size
            exact (N9.out.mono hle).grown (row := some w.heap.size) ⟨rfl, rfl, rfl, by simp [World.setRow], fun k hk hne => setRow_other _ _ _ _ (fun e => hne (by rw [e]))⟩ (.inr (N9.out.ne_low (Nat.lt_of_lt_of_le hzlt (by have := BW3.out.size; omega))))
          · exact bel_row (bel_then BW.out Hb9.out) (Nat.le_refl _) _

/-! ### MinimalMachine -/
def mnR (m : Mc) : Mc × List Int × Int := if m.ok then (m.gm.mn.mc, m.gm.numL m.gm.s, 0) else (Mc.zero, [], 1)
theorem Gm.mn_is {g : Gm} (hok : g.Ok) : g.mn.mc.Is g.mn.mc.cells := by
  have h16 := hok.s16
  have h3 := hok.l3
  have hns := g.ns_le
  have hnx : ∀ i x, g.mn.nx i x < 256 := fun i x => by
    show (if _ then _ else _) < 256
    split
    · have := cnt_le g.isR (g.lst (g.nx (g.rep i) x))
      have h2 : g.num (g.nx (g.rep i) x) ≤ g.nx (g.rep i) x := Nat.le_trans this (g.lst_le' _)
      rename_i h
      have h4 : g.rep i < g.s := by
        unfold Gm.rep
        have hl : i < (g.reps g.s).length := by rw [g.reps_len]; exact h.1
        rw [List.getElem?_eq_getElem hl]
        exact List.mem_range.1 (List.mem_filter.1 (List.getElem_mem hl)).1
      have h5 := hok.nlt _ _ h4 h.2
      omega
    · omega
  have hou : ∀ i x, g.mn.ou i x < 256 := fun i x => by
    show (if _ then _ else _) < 256
    split
    · rename_i h
      have h4 : g.rep i < g.s := by
        unfold Gm.rep
        have hl : i < (g.reps g.s).length := by rw [g.reps_len]; exact h.1
        rw [List.getElem?_eq_getElem hl]
        exact List.mem_range.1 (List.mem_filter.1 (List.getElem_mem hl)).1
      have h5 := hok.olt _ _ h4 h.2
      omega
    · omega
  exact Mc.Is.of_cells _ (fun q x _ _ => hnx q x) (fun q x _ _ => hou q x) (WalkArith.wf_i64 (by show -9223372036854775808 ≤ (g.l : Int) ∧ (g.l : Int) ≤ 9223372036854775807; omega)) (WalkArith.wf_i64 (by show -9223372036854775808 ≤ (g.ns : Int) ∧ (g.ns : Int) ≤ 9223372036854775807; omega))
theorem mnR_is (m : Mc) : (mnR m).1.Is (mnR m).1.cells := by
  unfold mnR
  cases h : m.ok with
  | false => exact Mc.zero_is
  | true =>
    obtain ⟨g, rfl, hok⟩ := Mc.to_gm h
    exact Gm.mn_is hok
theorem mnR_len (m : Mc) : (mnR m).2.1.length ≤ 1048576 := by
  unfold mnR
  cases h : m.ok with
  | false => exact Nat.zero_le _
  | true =>
    obtain ⟨g, rfl, hok⟩ := Mc.to_gm h
    show (g.numL g.s).length ≤ _
    rw [g.numL_len]
    have := hok.s16
    omega
theorem results_cell_tmp2 {P : Program} {fn : Func} {p t2 t3 : Tmp} {ty : TypeId} (h : fn.results = #[.cell p ty, .tmp t2, .tmp t3]) (tmps : Array Value) (w : World) (g : Nat) (t : TypeId) (cs : Array Value) (fr : Nat × Nat) (d : TypeDesc) (v v' : Value)
    (hp : tmps.getD p undef = .pointer (some ⟨g, 0, none⟩)) (hv : tmps.getD t2 undef = v) (hv' : tmps.getD t3 undef = v') (hg : w.heap[g]? = some (.cells cs t fr))
    (hu : P.underlying ty = some d) (hd : (match d with | .struct _ | .array _ _ => true | _ => false) = true) (hi : (P.info? ty).map (·.size) = some cs.size) :
    (results fn tmps).run P w = .ok (.tuple #[.agg cs, v, v']) w := by
  have hp' : tmps[p]?.getD undef = .pointer (some ⟨g, 0, none⟩) := by simpa using hp
  have hv2 : tmps[t2]?.getD undef = v := by simpa using hv
  have hv3 : tmps[t3]?.getD undef = v' := by simpa using hv'
  simp [results, h, hp', hv2, hv3, asAddr, run_loadVar_row w g t ty cs fr d hg hu hd hi]

set_option maxRecDepth 100000 in
set_option maxHeartbeats 1000000 in
theorem implMinimalMachine_any (m : Mc) (cs : Array Value) (hm : m.Is cs) (w : World) :
    Calls Try.prog 72 #[.agg cs] w fun e w' => (∃ u, e = .returned (.tuple #[.agg (mnR m).1.cells, u, .int .i64 (mnR m).2.2]) ∧ Own w' w.heap.size 2 u (ints (mnR m).2.1)) ∧ Below w.heap.size w w' := by
  have hz := zeroM_run
  have Hm := hidd hm
  clear hm
  cases hq : m.ok with
  | false =>
    have HR : Hid (mnR m = (Mc.zero, [], 1)) := hidd (by unfold mnR; rw [hq]; rfl)
    have Hq := hidd hq
    clear hq
    go_enter Try.func72, Try.ntmps72
    go_wp2_with (refine ldI rfl (.tmp 1) rfl w.heap.size rfl Hm.out (hp_old (hp_new rfl)) ?_)
    refine (implIsMachine_any _ cs Hm.out _).mono ?_
    rintro e w1 ⟨rfl, hb⟩
    rw [Hq.out]
    have B1 := hidd (bel_then ((bel_alloc w (.cells cs 27)).alloc (by simp) _) hb)
    have K0 := hidd (hp_bel (hp_new (by simp)) hb : w1.heap[w.heap.size + 1]? = some (.cells zeroM 27 (0, 0)))
    clear hb
    go_wp2_with (refine stC rfl (.tmp 2) (.tmp 10) rfl _ Mc.zero K0.out zeroM_size (by rfl) (by rw [← zeroM_cells]; rfl) ?_)
    refine bodyPost_ret (v := .tuple #[.agg Mc.zero.cells, .slice none 0 0, .int .i64 1]) (results_cell_tmp2 rfl _ _ (w.heap.size + 1) 27 _ (0, 0) _ _ _ rfl rfl rfl (setRow_heap _ _ _ _ _ _ K0.out) Try.underlying27 rfl (cells98i _)) rfl ⟨⟨_, by rw [HR.out], by rw [HR.out]; exact Own.nil _ _ _⟩, ?_⟩
    exact bel_row B1.out (by omega) _
  | true =>
    obtain ⟨g, rfl, hok⟩ := Mc.to_gm hq
    have HR : Hid (mnR g.mc = (g.mn.mc, g.numL g.s, 0)) := hidd (by unfold mnR; rw [hq]; rfl)
    have Hq := hidd hq
    have Hok := hidd hok
    clear hq hok
    go_enter Try.func72, Try.ntmps72
    go_wp2_with (refine ldI rfl (.tmp 1) rfl w.heap.size rfl Hm.out (hp_old (hp_new rfl)) ?_)
    refine (implIsMachine_any _ cs Hm.out _).mono ?_
    rintro e w1 ⟨rfl, hb⟩
    rw [Hq.out]
    have B1 := hidd (bel_then ((bel_alloc w (.cells cs 27)).alloc (by simp) _) hb)
    have K1 := hidd (hp_bel (hp_old (hp_new rfl)) hb : w1.heap[w.heap.size]? = some (.cells cs 27 (0, 0)))
    have K0 := hidd (hp_bel (hp_new (by simp)) hb : w1.heap[w.heap.size + 1]? = some (.cells zeroM 27 (0, 0)))
    clear hb
    go_wp2_with fail
    refine (minimal_any g Hok.out _ 0 _ (Gm.At.of_is ⟨Hm.out⟩ K1.out)).mono ?_
    rintro e w2 ⟨⟨u, rfl, hu⟩, hb⟩
    have B2 := hidd (bel_then B1.out hb)
    have K2 := hidd (hp_bel K0.out hb)
    have U2 := hidd hu
    have hz1 := B1.out.size
    clear hb hu
    go_wp2_with (first | ((with_reducible show wpList _ _ _ _ _ (World.alloc _ _)); refine stNew rfl (.tmp 5) (.tmp 13) (by rfl) g.mn.mc w2.heap.size rfl zeroM_size (by rfl) (by rfl) ?_) | (refine ldC rfl (.tmp 5) rfl _ g.mn.mc (hp_new rfl) (by rfl) ?_) | (refine stC rfl (.tmp 2) (.tmp 15) rfl _ g.mn.mc (hp_old K2.out) zeroM_size (by rfl) (by rfl) ?_))
    refine bodyPost_ret (v := .tuple #[.agg g.mn.mc.cells, u, .int .i64 0]) (results_cell_tmp2 rfl _ _ (w.heap.size + 1) 27 _ (0, 0) _ _ _ rfl rfl rfl (setRow_heap _ _ _ _ _ _ (hp_old K2.out)) Try.underlying27 rfl (cells98i _)) rfl ⟨⟨_, by rw [HR.out], ?_⟩, ?_⟩
    · rw [HR.out]
      have hlt := hp_lt K0.out
      exact ((U2.out.alloc _).mono hz1).grown (row := some (w.heap.size + 1)) ⟨rfl, rfl, rfl, by simp [World.setRow], fun k hk hne => setRow_other _ _ _ _ (fun e => hne (by rw [e]))⟩ (.inr (U2.out.ne_low hlt))
    · exact bel_row (bel_then B2.out (bel_alloc' _ _)) (by omega) _
end Go.Proofs.Ytjnnbjlombopnaa
