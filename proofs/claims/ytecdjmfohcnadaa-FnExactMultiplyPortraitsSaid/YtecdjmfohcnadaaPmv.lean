/- Walks: MultiplyPortraits, of the program and of the reference. -/
import Derived.Test.YtecdjmfohcnadaaPmu
namespace Go.Proofs.Ytecdjmfohcnadaa
open Go.RowKit
set_option linter.unusedSimpArgs false

set_option maxRecDepth 100000 in
set_option maxHeartbeats 2000000 in
theorem l03Product_any (d n : Nat) (hd : Dd d) (hn : n ≤ 4) (va vb : Value) (a b : List Int) (ha : isP d n a = true) (hb : isP d n b = true) (w : World) (hra : RdI w va a) (hrb : RdI w vb b) :
    Calls Try.prog 58 #[.int .i64 (d : Nat), .int .i64 (n : Nat), va, vb] w fun e w' => (∃ u, e = .returned u ∧ Own w' w.heap.size 2 u (ints (muL d n a b))) ∧ Below w.heap.size w w' := by
  have HD := hidd hd
  have d23 := hd.le
  have HA := hidd ha
  have HB := hidd hb
  have Hra := hidd hra
  have Hrb := hidd hrb
  obtain ⟨A, c, rfl, hq⟩ := hra
  obtain ⟨A', c', rfl, hq'⟩ := hrb
  clear hq hq' hd ha hb
  go_enter Try.func58, Try.ntmps58
  go_wp2_with fail
  have U1 := hidd (Own.empty' w 2 w.heap.size (Nat.le_refl _))
  have B1 := hidd (bel_alloc' w (.cells #[] 2))
  go_loopw [9, 10] (fun u y wr => ∃ i : Nat, i ≤ n ∧ y = .int .i64 i ∧ Hid (Own wr w.heap.size 2 u (ints (pby d (fun i k => (muF d a b i k : Int)) i))) ∧ Hid (Below w.heap.size w wr)) (fun _ y _ => n - (intOf y).toNat)
  case atStart => exact ⟨0, Nat.zero_le _, rfl, U1, B1⟩
  case round =>
    clear U1 B1
    obtain ⟨i, hi, rfl, HU, Hb⟩ := hrel
    obtain ⟨wo, rfl⟩ : ∃ wo, wo = wr := ⟨_, rfl⟩
    by_cases hlt : i < n
    · have i1 : (i : Int) < n := by omega
      have HP := hidd (fun W => l01Power_any d i d23.2 (by omega) W)
      have hN := pow_bd d23.2 (show i ≤ 5 by omega)
      obtain ⟨N, hNN⟩ : ∃ N, N = d ^ i := ⟨_, rfl⟩
      rw [← hNN] at HP hN
      have HN := hidd hNN
      clear hNN
      go_wp2_with fail
      go_loopw [9, 11] (fun u y wr => ∃ k : Nat, k ≤ N ∧ y = .int .i64 k ∧ Hid (Own wr w.heap.size 2 u (ints (pbK d (fun i k => (muF d a b i k : Int)) i k))) ∧ Hid (Below w.heap.size w wr)) (fun _ y _ => N - (intOf y).toNat)
      case atStart => exact ⟨0, Nat.zero_le _, rfl, hidd (by rw [pbK_zero]; exact HU.out), Hb⟩
      case round =>
        clear HU Hb
        obtain ⟨k, hk, rfl, HV, Hq⟩ := hrel
        by_cases hkl : k < N
        · have j1 : (k : Int) < N := by omega
          have hkd : k < d ^ i := by rw [← HN.out]; exact hkl
          have HK := hidd hkd
          clear hkd
          go_wp2_with (go_at_call 72; refine (HP.out _).mono ?_; rintro e w9 ⟨rfl, rfl⟩)
          refine (l01WordOf_any d d23.1 d23.2 i k (by omega) (by omega) wr).mono ?_
          rintro e w2 ⟨rfl, hb⟩
          have HV2 := hidd (HV.out.below hb)
          have Hq2 := hidd (bel_then Hq.out hb)
          clear hb HV Hq
          obtain ⟨m1, hm1, hc1⟩ := isP_get HA.out (pst_lt hlt HK.out)
          obtain ⟨m2, hm2, hc2⟩ := isP_get HB.out (pst_lt hlt (aN_lt HD.out a i k))
          have hlts := wd_lts (show 1 ≤ d by omega) d23.2 i k
          have HMF := hidd (show muF d a b i k = thN d m1 m2 by unfold muF; rw [hm1, hm2, Int.toNat_natCast, Int.toNat_natCast])
          have hat1 := l03At_any d HD.out _ a (wd d i k) hlts (by rw [wd_size]; omega) (by rw [wd_size, nbr_wd_all HD.out HK.out, isP_len HA.out]; exact pst_lt hlt HK.out) w2 (Hra.out.below Hq2.out)
          rw [wd_size, nbr_wd_all HD.out HK.out, hm1] at hat1
          have HAt1 := hidd hat1
          have HAc := hidd (l03Act_any d n HD.out hn _ a HA.out (wd d i k) hlts (by rw [wd_size]; omega) w2 (Hra.out.below Hq2.out))
          have HAt2 := hidd (fun W (hrW : RdI W (.slice A' b.length c') b) => by
            have := l03At_any d HD.out _ b (acT d a (wd d i k)) (acT_lts HD.out a _) (by rw [acT_size, wd_size]; omega) (by rw [acT_size, wd_size, nbr_acT HD.out a HK.out, isP_len HB.out]; exact pst_lt hlt (aN_lt HD.out a i k)) W hrW
            rw [acT_size, wd_size, nbr_acT HD.out a HK.out, hm2] at this
            exact this)
          have HTh := hidd (fun W => l03Then_any d m1 m2 HD.out hc1 hc2 W)
          have HS := hidd (pbK_succ d (fun i k => (muF d a b i k : Int)) i k)
          rw [HMF.out] at HS
          obtain ⟨T, hT⟩ : ∃ T, T = acT d a (wd d i k) := ⟨_, rfl⟩
          rw [← hT] at HAc HAt2
          obtain ⟨s, hs⟩ : ∃ s, s = wd d i k := ⟨_, rfl⟩
          rw [← hs] at HAt1 HAc ⊢
          obtain ⟨z, hz⟩ : ∃ z, z = thN d m1 m2 := ⟨_, rfl⟩
          rw [← hz] at HTh HS
          have hlen2 : (ints (pbK d (fun i k => (muF d a b i k : Int)) i k)).length + 1 ≤ 1099511627776 := by rw [ints_length]; have := pbK_len HD.out (fun i k => (muF d a b i k : Int)) (show i ≤ 4 by omega) (show k ≤ 243 by omega); omega
          clear hm1 hm2 hat1 hT hs hz hlts hc1 hc2
          go_wp2_with (go_at_call 76; refine HAt1.out.mono ?_; rintro e w9 ⟨rfl, rfl⟩)
          refine HAc.out.mono ?_
          rintro e w3 ⟨rfl, hb⟩
          have HV3 := hidd (HV2.out.below hb)
          have Hq3 := hidd (bel_then Hq2.out hb)
          clear hb HV2 Hq2 HAc HAt1
          have HAt2' := hidd (HAt2.out w3 (Hrb.out.below Hq3.out))
          go_wp2_with (go_at_call 76; refine HAt2'.out.mono ?_; rintro e w9 ⟨rfl, rfl⟩)
          refine (HTh.out _).mono ?_
          rintro e w4 ⟨rfl, hb⟩
          have HV4 := hidd (HV3.out.below hb)
          have Hq4 := hidd (bel_then Hq3.out hb)
          have hbase := Hq4.out.size
          clear hb HV3 Hq3 HAt2'
          go_wp2_with (at_builtin; refine app_own rfl _ _ _ rfl w.heap.size 2 (.int .i64 0) 8 Try.underlying22 info_i64 rfl HV4.out rfl rfl rfl hlen2 (by decide) hbase ?_; intro v' w6 ho hgr hle6; have Ho2 := hidd ho; have b2 := hidd (bel_own HV4.out hgr hbase); clear ho hgr)
          go_roundw
          case rel => exact ⟨k + 1, by omega, by go_num, hidd (by rw [HS.out]; exact Ho2.out), hidd (Hq4.out.trans b2.out)⟩
          case measure => first | (simp [intOf]; done) | (simp [intOf]; omega)
        · have he : k = N := by omega
          subst he
          have HE := hidd (show pbK d (fun i k => (muF d a b i k : Int)) i k = pby d (fun i k => (muF d a b i k : Int)) (i + 1) by rw [HN.out, pbK_end])
          clear hkl
          go_wp2_with (go_at_call 72; refine (HP.out _).mono ?_; rintro e w9 ⟨rfl, rfl⟩)
          go_roundw
          case rel => exact ⟨i + 1, by omega, by go_num, hidd (by rw [← HE.out]; exact HV.out), Hq⟩
          case measure => first | (simp [intOf]; done) | (simp [intOf]; omega)
    · have he : i = n := by omega
      subst he
      clear hlt
      go_wp2_with fail
      go_ret
      exact ⟨⟨_, rfl, HU.out⟩, Hb.out⟩

/-! ### MultiplyPortraits -/
def mpR (d n : Int) (a b : List Int) : List Int × Int := if codeP d n [a, b] = 0 then (muL d.toNat n.toNat a b, 0) else ([], codeP d n [a, b])
theorem muL_len (d n : Nat) (a b : List Int) : (muL d n a b).length = pst d n := pby_len _ _ _
theorem mpR_len (d n : Int) (a b : List Int) : (mpR d n a b).1.length ≤ 1048576 := by
  unfold mpR
  split
  · rename_i h
    obtain ⟨d', n', rfl, rfl, hd, _, _, _⟩ := codeP_zero h
    have := pst_bd hd (show n' ≤ 5 by omega)
    show (muL _ _ _ _).length ≤ _
    rw [muL_len, Int.toNat_natCast, Int.toNat_natCast]; omega
  · simp
set_option maxRecDepth 100000 in
set_option maxHeartbeats 1000000 in
theorem specMultiplyPortraits_any (d n : Int) (va vb : Value) (a b : List Int) (w : World) (hra : RdI w va a) (hrb : RdI w vb b) :
    Calls Try.prog 28 #[.int .i64 d, .int .i64 n, va, vb] w fun e w' => (∃ u, e = .returned (.tuple #[u, .int .i64 (mpR d n a b).2]) ∧ Own w' w.heap.size 2 u (ints (mpR d n a b).1)) ∧ Below w.heap.size w w' := by
  have Hra := hidd hra
  have Hrb := hidd hrb
  obtain ⟨A, c, rfl, hq⟩ := hra
  obtain ⟨A', c', rfl, hq'⟩ := hrb
  have HP := hidd (l03Code_any d n _ [a, b] _ (RdLL.lit2 Hra.out Hrb.out 22 w.heap.size rfl))
  clear hq hq'
  by_cases h0 : codeP d n [a, b] = 0
  · have HR : Hid (mpR d n a b = _) := hidd (if_pos h0)
    rw [h0] at HP
    obtain ⟨d', n', rfl, rfl, hd, hn1, hn4, hall⟩ := codeP_zero h0
    have HO := hidd (fun W (h1 : RdI W (.slice A a.length c) a) (h2 : RdI W (.slice A' b.length c') b) => l03Product_any d' n' hd hn4 _ _ a b (hall a (by simp)) (hall b (by simp)) W h1 h2)
    rw [Int.toNat_natCast, Int.toNat_natCast] at HR
    clear h0 hall hd
    go_enter Try.func28, Try.ntmps28
    go_wp2_with fail
    refine HP.out.mono ?_
    rintro e w1 ⟨rfl, q, e1⟩
    have B1 := hidd (show Below w.heap.size w w1 by rw [e1]; exact bel_drewN (bel_alloc' _ _) _)
    clear e1 HP
    go_wp2_with fail
    refine (HO.out _ (Hra.out.below B1.out) (Hrb.out.below B1.out)).mono ?_
    rintro e w2 ⟨⟨u, rfl, ho⟩, hb⟩
    go_wp2_with fail
    go_ret2
    exact ⟨⟨_, by rw [HR.out]; rfl, by rw [HR.out]; exact ho.mono B1.out.size⟩, bel_then B1.out hb⟩
  · have HR : Hid (mpR d n a b = ([], codeP d n [a, b])) := hidd (if_neg h0)
    obtain ⟨cd, hcd⟩ : ∃ cd, cd = codeP d n [a, b] := ⟨_, rfl⟩
    rw [← hcd] at HR HP h0
    have h1 : (cd == 0) = false := by simp [h0]
    have h2 : (cd != 0) = true := by simp [h0]
    clear h0 hcd
    go_enter Try.func28, Try.ntmps28
    go_wp2_with fail
    refine HP.out.mono ?_
    rintro e w1 ⟨rfl, q, e1⟩
    have B1 := hidd (show Below w.heap.size w w1 by rw [e1]; exact bel_drewN (bel_alloc' _ _) _)
    clear e1
    go_wp2_with fail
    go_ret2
    exact ⟨⟨_, by rw [HR.out]; rfl, by rw [HR.out]; exact Own.nil _ _ _⟩, B1.out⟩

theorem mul1_any (d n i : Nat) (hd : Dd d) (hn : n ≤ 4) (va vb : Value) (a b : List Int) (ha : isP d n a = true) (hb : isP d n b = true) (B C E : Nat) (w : World) (hra : RdI w va a) (hrb : RdI w vb b)
    {t t' t'' : TypeId} (hB : w.heap[B]? = some (.cells #[.int .i64 (d : Nat)] t (0, 0))) (hC : w.heap[C]? = some (.cells #[vb] t' (0, 0))) (hE : w.heap[E]? = some (.cells #[va] t'' (0, 0))) :
    Calls Try.prog 60 #[.string (wd d n i), .pointer (some ⟨B, 0, none⟩), .pointer (some ⟨C, 0, none⟩), .pointer (some ⟨E, 0, none⟩)] w fun e w' => e = .returned (.string (acT d b (acT d a (wd d n i)))) ∧ Below w.heap.size w w' := by
  have HB := hidd hB
  have HC := hidd hC
  have HE := hidd hE
  have Hra := hidd hra
  have Hrb := hidd hrb
  have d23 := hd.le
  have HA1 := hidd (fun W (h : RdI W va a) => act_any d n hd hn va a ha (wd d n i) (wd_lts (by omega) d23.2 n i) (by rw [wd_size]; exact Nat.le_refl _) W h)
  have HA2 := hidd (fun W (h : RdI W vb b) => act_any d n hd hn vb b hb (acT d a (wd d n i)) (acT_lts hd a _) (by rw [acT_size, wd_size]; exact Nat.le_refl _) W h)
  obtain ⟨A, c, rfl, hq⟩ := hra
  obtain ⟨A', c', rfl, hq'⟩ := hrb
  obtain ⟨T2, hT2⟩ : ∃ T, T = acT d b (acT d a (wd d n i)) := ⟨_, rfl⟩
  rw [← hT2] at HA2 ⊢
  obtain ⟨T1, hT1⟩ : ∃ T, T = acT d a (wd d n i) := ⟨_, rfl⟩
  rw [← hT1] at HA1 HA2
  obtain ⟨s, hs⟩ : ∃ s, s = wd d n i := ⟨_, rfl⟩
  rw [← hs] at HA1 ⊢
  clear hq hq' hB hC hE ha hb hd hT1 hT2 hs
  go_enter Try.func60, Try.ntmps60
  go_wp2_with fail
  have S1 := hidd (drew_bel' w)
  refine wp_region_held (S := fun w' => Below w.heap.size w w') (by kernel_rfl) ?_
  change wpAnyH _ _ _ _ _ _ _ _ (World.drew _)
  refine wpAnyH_take (i := 0) (v := ?v0) rfl (by kernel_rfl) (by kernel_rfl) (by kernel_rfl) (fun _ _ _ h => h) (Or.inl ⟨by rfl, ?h0⟩) S1.out ?_
  case h0 => (intro w2 hS; have c1 := run_loadI (hp_bel HB.out hS); have c2 := run_loadI (hp_bel HC.out hS); have c3 := run_loadI (hp_bel HE.out hS); clear hS; go_simp; first | done | with_reducible rfl)
  simp only [Act.put, List.getElem_toArray, List.getElem_cons_succ, List.getElem_cons_zero, List.setIfInBounds_toArray, List.set_cons_zero, List.set_cons_succ]
  refine wpAnyH_take (i := 1) (v := ?v1) rfl (by kernel_rfl) (by kernel_rfl) (by kernel_rfl) (fun _ _ _ h => h) (Or.inl ⟨by rfl, ?h1⟩) S1.out ?_
  case h1 => (intro w2 hS; have c1 := run_loadI (hp_bel HB.out hS); have c2 := run_loadI (hp_bel HC.out hS); have c3 := run_loadI (hp_bel HE.out hS); clear hS; go_simp; first | done | with_reducible rfl)
  simp only [Act.put, List.getElem_toArray, List.getElem_cons_succ, List.getElem_cons_zero, List.setIfInBounds_toArray, List.set_cons_zero, List.set_cons_succ]
  refine wpAnyH_take (i := 2) (v := ?v2) rfl (by kernel_rfl) (by kernel_rfl) (by kernel_rfl) (fun _ _ _ h => h) (Or.inl ⟨by rfl, ?h2⟩) S1.out ?_
  case h2 => (intro w2 hS; have c1 := run_loadI (hp_bel HB.out hS); have c2 := run_loadI (hp_bel HC.out hS); have c3 := run_loadI (hp_bel HE.out hS); clear hS; go_simp; first | done | with_reducible rfl)
  simp only [Act.put, List.getElem_toArray, List.getElem_cons_succ, List.getElem_cons_zero, List.setIfInBounds_toArray, List.set_cons_zero, List.set_cons_succ]
  refine wpAnyH_take (i := 3) (v := ?v3) rfl (by kernel_rfl) (by kernel_rfl) (by kernel_rfl) (fun _ _ _ h => h) (Or.inl ⟨by rfl, ?h3⟩) S1.out ?_
  case h3 => (intro w2 hS; have c1 := run_loadI (hp_bel HB.out hS); have c2 := run_loadI (hp_bel HC.out hS); have c3 := run_loadI (hp_bel HE.out hS); clear hS; go_simp; first | done | with_reducible rfl)
  simp only [Act.put, List.getElem_toArray, List.getElem_cons_succ, List.getElem_cons_zero, List.setIfInBounds_toArray, List.set_cons_zero, List.set_cons_succ]
  refine wpAnyH_take (i := 4) (v := ?v4) rfl (by kernel_rfl) (by kernel_rfl) (by kernel_rfl) (fun _ _ _ h => h) (Or.inl ⟨by rfl, ?h4⟩) S1.out ?_
  case h4 => (intro w2 hS; have c1 := run_loadI (hp_bel HB.out hS); have c2 := run_loadI (hp_bel HC.out hS); have c3 := run_loadI (hp_bel HE.out hS); clear hS; go_simp; first | done | with_reducible rfl)
  simp only [Act.put, List.getElem_toArray, List.getElem_cons_succ, List.getElem_cons_zero, List.setIfInBounds_toArray, List.set_cons_zero, List.set_cons_succ]
  refine wpAnyH_ready (rs := [5]) (by kernel_rfl) (by simp) (AllReadyH.cons rfl (fun K hK => ?_) AllReadyH.nil)
  go_simp
  refine (HA1.out _ (Hra.out.below S1.out)).mono ?_
  rintro e w2 ⟨rfl, hb⟩
  have S2 := hidd (bel_then S1.out hb)
  refine hK.out _ _ S2.out (fun _ => ?_)
  clear hK K hb S1
  refine wpAnyH_ready (rs := [6]) (by kernel_rfl) (by simp) (AllReadyH.cons rfl (fun K hK => ?_) AllReadyH.nil)
  go_simp
  refine (HA2.out _ (Hrb.out.below S2.out)).mono ?_
  rintro e w3 ⟨rfl, hb⟩
  have S3 := hidd (bel_then S2.out hb)
  refine hK.out _ _ S3.out (fun _ => ?_)
  clear hK K hb S2
  refine wpAnyH_take (i := 7) (v := ?v7) rfl (by kernel_rfl) (by kernel_rfl) (by kernel_rfl) (fun _ _ _ h => h) (Or.inl ⟨by rfl, ?h7⟩) S3.out ?_
  case h7 => (intro w4 hS; clear hS; go_simp; first | done | with_reducible rfl)
  simp only [Act.put, List.getElem_toArray, List.getElem_cons_succ, List.getElem_cons_zero, List.setIfInBounds_toArray, List.set_cons_zero, List.set_cons_succ]
  refine wpAnyH_done (by kernel_rfl) ?_ _
  go_wp2_with fail
  go_ret
  exact ⟨rfl, S3.out⟩
theorem prmK_muP {d : Nat} (hd : Dd d) (n : Nat) (a b : List Int) : prmK d n (fun s => acT d b (acT d a s)) (d ^ n) = muP d n a b := by
  unfold prmK muP
  refine List.map_congr_left fun k hk => ?_
  have hk := List.mem_range.1 hk
  have h := nbr_act hd b (acT_lts hd a (wd d n k)) n (by rw [acT_size, wd_size]; exact Nat.le_refl _)
  rw [h, nbr_acT hd a hk]
set_option maxRecDepth 100000 in
set_option maxHeartbeats 1000000 in
theorem implMultiplyPortraits_any (d n : Int) (va vb : Value) (a b : List Int) (w : World) (hra : RdI w va a) (hrb : RdI w vb b) :
    Calls Try.prog 29 #[.int .i64 d, .int .i64 n, va, vb] w fun e w' => (∃ u, e = .returned (.tuple #[u, .int .i64 (mpR d n a b).2]) ∧ Own w' w.heap.size 2 u (ints (mpR d n a b).1)) ∧ Below w.heap.size w w' := by
  have Hra := hidd hra
  have Hrb := hidd hrb
  obtain ⟨A, c, rfl, hq⟩ := hra
  obtain ⟨A', c', rfl, hq'⟩ := hrb
  clear hq hq'
  by_cases h0 : codeP d n [a, b] = 0
  · have HR : Hid (mpR d n a b = _) := hidd (if_pos h0)
    have H0 := hidd h0
    obtain ⟨d', n', rfl, rfl, hd, hn1, hn4, hall⟩ := codeP_zero h0
    have HD := hidd hd
    have d23 := hd.le
    have HA := hidd (hall a (by simp))
    have HB := hidd (hall b (by simp))
    rw [Int.toNat_natCast, Int.toNat_natCast] at HR
    clear h0 hall hd
    go_enter Try.func29, Try.ntmps29
    go_wp2_with fail
    obtain ⟨w0, hw0⟩ : ∃ w0, w0 = ((w.alloc (.cells #[.int .i64 (d' : Nat)] 2)).alloc (.cells #[.slice A a.length c] 22)).alloc (.cells #[.slice A' b.length c'] 22) := ⟨_, rfl⟩
    have hz0 : w0.heap.size = w.heap.size + 1 + 1 + 1 := by rw [hw0]; simp
    rw [← hw0, ← hz0]
    have B0 := hidd (show Below w.heap.size w w0 by rw [hw0]; exact ((bel_alloc' _ _).alloc (by simp) _).alloc (by simp; omega) _)
    have KB := hidd (show w0.heap[w.heap.size]? = some (.cells #[.int .i64 (d' : Nat)] 2 (0, 0)) by rw [hw0]; exact hp_old (hp_old (hp_new rfl)))
    have KE := hidd (show w0.heap[w.heap.size + 1]? = some (.cells #[.slice A a.length c] 22 (0, 0)) by rw [hw0]; exact hp_old (hp_new (by simp)))
    have KC := hidd (show w0.heap[w.heap.size + 1 + 1]? = some (.cells #[.slice A' b.length c'] 22 (0, 0)) by rw [hw0]; exact hp_new (by simp))
    clear hw0
    have hp := portraitCode_any (d' : Nat) n' _ [a, b] _ (RdLL.lit2 (Hra.out.below B0.out) (Hrb.out.below B0.out) 22 w0.heap.size rfl)
    rw [H0.out] at hp
    refine hp.mono ?_
    rintro e w1 ⟨rfl, hb⟩
    have B1 := hidd (bel_then (bel_alloc' w0 _) hb)
    clear hb hp hz0
    have c1 := run_loadI (hp_bel KB.out B1.out)
    go_wp2_with fail
    clear c1
    have S1 := hidd (show Below w0.heap.size w0 w1.drew from B1.out.trans ((drew_bel' w1).mono B1.out.size))
    refine wp_region_held (S := fun w' => Below w0.heap.size w0 w') (by kernel_rfl) ?_
    change wpAnyH _ _ _ _ _ _ _ _ (World.drew _)
    refine wpAnyH_take (i := 0) (v := ?v0) rfl (by kernel_rfl) (by kernel_rfl) (by kernel_rfl) (fun _ _ _ h => h) (Or.inl ⟨by rfl, ?h0⟩) S1.out ?_
    case h0 => (intro w2 hS; have c1 := run_loadI (hp_bel KB.out hS); clear hS; go_simp; first | done | with_reducible rfl)
    simp only [Act.put, List.getElem_toArray, List.getElem_cons_succ, List.getElem_cons_zero, List.setIfInBounds_toArray, List.set_cons_zero, List.set_cons_succ]
    refine wpAnyH_take (i := 1) (v := ?v1) rfl (by kernel_rfl) (by kernel_rfl) (by kernel_rfl) (fun _ _ _ h => h) (Or.inl ⟨by rfl, ?h1⟩) S1.out ?_
    case h1 => (intro w2 hS; have c1 := run_loadI (hp_bel KB.out hS); clear hS; go_simp; first | done | with_reducible rfl)
    simp only [Act.put, List.getElem_toArray, List.getElem_cons_succ, List.getElem_cons_zero, List.setIfInBounds_toArray, List.set_cons_zero, List.set_cons_succ]
    refine wpAnyH_take (i := 2) (v := ?v2) rfl (by kernel_rfl) (by kernel_rfl) (by kernel_rfl) (fun _ _ _ h => h) (Or.inl ⟨by rfl, ?h2⟩) S1.out ?_
    case h2 => (intro w2 hS; have c1 := run_loadI (hp_bel KB.out hS); clear hS; go_simp; first | done | with_reducible rfl)
    simp only [Act.put, List.getElem_toArray, List.getElem_cons_succ, List.getElem_cons_zero, List.setIfInBounds_toArray, List.set_cons_zero, List.set_cons_succ]
    refine wpAnyH_take (i := 3) (v := ?v3) rfl (by kernel_rfl) (by kernel_rfl) (by kernel_rfl) (fun _ _ _ h => h) (Or.inl ⟨by rfl, ?h3⟩) S1.out ?_
    case h3 => (intro w2 hS; have c1 := run_loadI (hp_bel KB.out hS); clear hS; go_simp; first | done | with_reducible rfl)
    simp only [Act.put, List.getElem_toArray, List.getElem_cons_succ, List.getElem_cons_zero, List.setIfInBounds_toArray, List.set_cons_zero, List.set_cons_succ]
    refine wpAnyH_take (i := 4) (v := ?v4) rfl (by kernel_rfl) (by kernel_rfl) (by kernel_rfl) (fun _ _ _ h => h) (Or.inl ⟨by rfl, ?h4⟩) S1.out ?_
    case h4 => (intro w2 hS; have c1 := run_loadI (hp_bel KB.out hS); clear hS; go_simp; first | done | with_reducible rfl)
    simp only [Act.put, List.getElem_toArray, List.getElem_cons_succ, List.getElem_cons_zero, List.setIfInBounds_toArray, List.set_cons_zero, List.set_cons_succ]
    refine wpAnyH_ready (rs := [5]) (by kernel_rfl) (by simp) (AllReadyH.cons rfl (fun K hK => ?_) AllReadyH.nil)
    go_simp
    have hp := permutation_any d' n' (d' ^ n') d23.1 d23.2 (by omega) rfl (fun s => acT d' b (acT d' a s)) (fun i _ => ⟨acT_lts HD.out b _, by rw [acT_size, acT_size, wd_size]⟩) 60 #[.pointer (some ⟨w.heap.size, 0, none⟩), .pointer (some ⟨w.heap.size + 1 + 1, 0, none⟩), .pointer (some ⟨w.heap.size + 1, 0, none⟩)] (fun _ _ => rfl) w1.drew (fun i W _ hb =>
      mul1_any d' n' i HD.out hn4 _ _ a b HA.out HB.out w.heap.size (w.heap.size + 1 + 1) (w.heap.size + 1) W (Hra.out.below (bel_then B0.out (bel_then S1.out hb))) (Hrb.out.below (bel_then B0.out (bel_then S1.out hb))) (hp_bel KB.out (bel_then S1.out hb)) (hp_bel KC.out (bel_then S1.out hb)) (hp_bel KE.out (bel_then S1.out hb)))
    rw [prmK_muP HD.out] at hp
    refine hp.mono ?_
    rintro e w2 ⟨⟨u, rfl, ho⟩, hb⟩
    have S2 := hidd (bel_then S1.out hb)
    have HU := hidd ho.rdI
    refine hK.out _ _ S2.out (fun _ => ?_)
    clear hK K hb ho hp S1
    refine wpAnyH_ready (rs := [6]) (by kernel_rfl) (by simp) (AllReadyH.cons rfl (fun K hK => ?_) AllReadyH.nil)
    go_simp
    refine (portraitFrom_any d' n' HD.out hn4 u (muP d' n' a b) w2 HU.out).mono ?_
    rintro e w3 ⟨⟨u3, rfl, ho⟩, hb⟩
    rw [mu_law HD.out HA.out HB.out] at ho ⊢
    have S3 := hidd (bel_then S2.out hb)
    have HO := hidd (show Own w3 w2.heap.size 2 u3 (ints (muL d' n' a b)) from ho)
    have hz2 := (bel_then B0.out S2.out).size
    refine hK.out _ _ S3.out (fun _ => ?_)
    clear hK K hb ho S2
    refine wpAnyH_take (i := 7) (v := ?v7) rfl (by kernel_rfl) (by kernel_rfl) (by kernel_rfl) (fun _ _ _ h => h) (Or.inl ⟨by rfl, ?h7⟩) S3.out ?_
    case h7 => (intro w2 hS; clear hS; go_simp; first | done | with_reducible rfl)
    simp only [Act.put, List.getElem_toArray, List.getElem_cons_succ, List.getElem_cons_zero, List.setIfInBounds_toArray, List.set_cons_zero, List.set_cons_succ]
    refine wpAnyH_take (i := 8) (v := ?v8) rfl (by kernel_rfl) (by kernel_rfl) (by kernel_rfl) (fun _ _ _ h => h) (Or.inl ⟨by rfl, ?h8⟩) S3.out ?_
    case h8 => (intro w2 hS; clear hS; go_simp; first | done | with_reducible rfl)
    simp only [Act.put, List.getElem_toArray, List.getElem_cons_succ, List.getElem_cons_zero, List.setIfInBounds_toArray, List.set_cons_zero, List.set_cons_succ]
    refine wpAnyH_take (i := 9) (v := ?v9) rfl (by kernel_rfl) (by kernel_rfl) (by kernel_rfl) (fun _ _ _ h => h) (Or.inl ⟨by rfl, ?h9⟩) S3.out ?_
    case h9 => (intro w2 hS; clear hS; go_simp; first | done | with_reducible rfl)
    simp only [Act.put, List.getElem_toArray, List.getElem_cons_succ, List.getElem_cons_zero, List.setIfInBounds_toArray, List.set_cons_zero, List.set_cons_succ]
    refine wpAnyH_take (i := 10) (v := ?v10) rfl (by kernel_rfl) (by kernel_rfl) (by kernel_rfl) (fun _ _ _ h => h) (Or.inl ⟨by rfl, ?h10⟩) S3.out ?_
    case h10 => (intro w2 hS; clear hS; go_simp; first | done | with_reducible rfl)
    simp only [Act.put, List.getElem_toArray, List.getElem_cons_succ, List.getElem_cons_zero, List.setIfInBounds_toArray, List.set_cons_zero, List.set_cons_succ]
    refine wpAnyH_take (i := 11) (v := ?v11) rfl (by kernel_rfl) (by kernel_rfl) (by kernel_rfl) (fun _ _ _ h => h) (Or.inl ⟨by rfl, ?h11⟩) S3.out ?_
    case h11 => (intro w2 hS; clear hS; go_simp; first | done | with_reducible rfl)
    simp only [Act.put, List.getElem_toArray, List.getElem_cons_succ, List.getElem_cons_zero, List.setIfInBounds_toArray, List.set_cons_zero, List.set_cons_succ]
    refine wpAnyH_done (by kernel_rfl) ?_ _
    go_wp2_with fail
    go_ret2
    exact ⟨⟨_, by rw [HR.out]; rfl, by rw [HR.out]; exact HO.out.mono hz2⟩, bel_then B0.out S3.out⟩
  · have HR : Hid (mpR d n a b = ([], codeP d n [a, b])) := hidd (if_neg h0)
    obtain ⟨cd, hcd⟩ : ∃ cd, cd = codeP d n [a, b] := ⟨_, rfl⟩
    rw [← hcd] at HR h0
    have H0 := hidd hcd.symm
    have h1 : (cd == 0) = false := by simp [h0]
    have h2 : (cd != 0) = true := by simp [h0]
    clear h0 hcd
    go_enter Try.func29, Try.ntmps29
    go_wp2_with fail
    obtain ⟨w0, hw0⟩ : ∃ w0, w0 = ((w.alloc (.cells #[.int .i64 d] 2)).alloc (.cells #[.slice A a.length c] 22)).alloc (.cells #[.slice A' b.length c'] 22) := ⟨_, rfl⟩
    have hz0 : w0.heap.size = w.heap.size + 1 + 1 + 1 := by rw [hw0]; simp
    rw [← hw0, ← hz0]
    have B0 := hidd (show Below w.heap.size w w0 by rw [hw0]; exact ((bel_alloc' _ _).alloc (by simp) _).alloc (by simp; omega) _)
    have _KB := hidd (show w0.heap[w.heap.size]? = some (.cells #[.int .i64 d] 2 (0, 0)) by rw [hw0]; exact hp_old (hp_old (hp_new rfl)))
    have _KE := hidd (show w0.heap[w.heap.size + 1]? = some (.cells #[.slice A a.length c] 22 (0, 0)) by rw [hw0]; exact hp_old (hp_new (by simp)))
    have _KC := hidd (show w0.heap[w.heap.size + 1 + 1]? = some (.cells #[.slice A' b.length c'] 22 (0, 0)) by rw [hw0]; exact hp_new (by simp))
    clear hw0
    have hp := portraitCode_any d n _ [a, b] _ (RdLL.lit2 (Hra.out.below B0.out) (Hrb.out.below B0.out) 22 w0.heap.size rfl)
    rw [H0.out] at hp
    refine hp.mono ?_
    rintro e w1 ⟨rfl, hb⟩
    have B1 := hidd (bel_then (bel_alloc' w0 _) hb)
    clear hb hp hz0
    go_wp2_with fail
    go_ret2
    exact ⟨⟨_, by rw [HR.out]; rfl, by rw [HR.out]; exact Own.nil _ _ _⟩, bel_then B0.out B1.out⟩
end Go.Proofs.Ytecdjmfohcnadaa
