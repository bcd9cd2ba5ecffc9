/- Walks: InvertPortrait, of the program and of the reference. -/
import Derived.Test.YtecdjmfohcnadaaPmu
namespace Go.Proofs.Ytecdjmfohcnadaa
open Go.RowKit
set_option linter.unusedSimpArgs false

/-! ### The permutation that leads back -/
def bcL (d a k : Nat) : List Nat := (List.range 3).map fun j => if j < d ∧ pim d (bkN d a) j < k then pim d (bkN d a) j else 0
def bcA (d a k : Nat) : Array Value := ((bcL d a k).map fun (x : Nat) => Value.int .u8 (x : Int)).toArray
theorem bcL_set {d a k : Nat} (hd : Dd d) (ha : a < pcn d) (hk : k < d) : (bcL d a k).set (pim d a k) k = bcL d a (k + 1) := by
  rcases hd with rfl | rfl
  · exact (by decide : ∀ a, a < 2 → ∀ k, k < 2 → (bcL 2 a k).set (pim 2 a k) k = bcL 2 a (k + 1)) a ha k hk
  · exact (by decide : ∀ a, a < 6 → ∀ k, k < 3 → (bcL 3 a k).set (pim 3 a k) k = bcL 3 a (k + 1)) a ha k hk
theorem bcL_zero {d a : Nat} : bcL d a 0 = [0, 0, 0] := by simp [bcL, List.range_succ]
theorem bcL_end {d a : Nat} (hd : Dd d) (ha : a < pcn d) : bcL d a d = [pim d (bkN d a) 0, pim d (bkN d a) 1, pim d (bkN d a) 2] := by
  rcases hd with rfl | rfl
  · exact (by decide : ∀ a, a < 2 → bcL 2 a 2 = [pim 2 (bkN 2 a) 0, pim 2 (bkN 2 a) 1, pim 2 (bkN 2 a) 2]) a ha
  · exact (by decide : ∀ a, a < 6 → bcL 3 a 3 = [pim 3 (bkN 3 a) 0, pim 3 (bkN 3 a) 1, pim 3 (bkN 3 a) 2]) a ha
theorem bcA_end {d a : Nat} (hd : Dd d) (ha : a < pcn d) : bcA d a d = imA d (bkN d a) := by unfold bcA; rw [bcL_end hd ha]; rfl
theorem bcA_set {d a k : Nat} (hd : Dd d) (ha : a < pcn d) (hk : k < d) : (bcA d a k).setIfInBounds (pim d a k) (.int .u8 (k : Int)) = bcA d a (k + 1) := by
  unfold bcA
  rw [← bcL_set hd ha hk, List.map_set, List.setIfInBounds_toArray]
theorem bcA_get (d a k : Nat) {y : Nat} (hy : y < 3) : ∃ x : Nat, (bcA d a k)[y]? = some (.int .u8 (x : Int)) := by
  have : y < (bcL d a k).length := by simp [bcL]; exact hy
  exact ⟨(bcL d a k)[y], by unfold bcA; rw [List.getElem?_toArray, List.getElem?_map, List.getElem?_eq_getElem this]; rfl⟩
theorem bcA_zero (d a : Nat) : bcA d a 0 = #[.int .u8 0, .int .u8 0, .int .u8 0] := by unfold bcA; rw [bcL_zero]; rfl
theorem z3_one : ∀ v ∈ (#[Value.int .u8 0, Value.int .u8 0, Value.int .u8 0] : Array Value).toList, v.oneCell' = true := by
  intro v hv
  simp at hv
  rw [hv]; rfl
set_option maxRecDepth 100000 in
set_option maxHeartbeats 2000000 in
theorem l03Back_any (d a : Nat) (hd : Dd d) (ha : a < pcn d) (w : World) :
    Calls Try.prog 89 #[.int .i64 (d : Nat), .int .i64 (a : Nat)] w fun e w' => e = .returned (.int .i64 (bkN d a : Nat)) ∧ Below w.heap.size w w' := by
  have HD := hidd hd
  have d23 := hd.le
  have HA := hidd ha
  have HT := hidd (bkN_spec (x := 0) hd ha (by omega)).1
  clear hd ha
  go_enter Try.func89, Try.ntmps89
  go_wp2_with fail
  refine (l03Images_any d a HD.out HA.out _).mono ?_
  rintro e w2 ⟨rfl, hb⟩
  have B2 := hidd hb
  clear hb
  go_wp2_with (refine stP2 rfl (.tmp 5) (.tmp 10) rfl w2.heap.size rfl rfl (hp_old (hp_new rfl)) rfl rfl (imA_one d a) ?_; intro w3 h3 h3o h3b; refine stP2 rfl (.tmp 6) (.tmp 11) rfl (w2.heap.size + 1) rfl rfl ((h3o _ (by omega)).trans (hp_new (by simp))) rfl rfl z3_one ?_; intro w5 h5 h5o h5b)
  have B5 := hidd (show Below w2.heap.size w2 w5 from h5b _ _ (h3b _ _ ((bel_alloc' w2 _).alloc (by simp) _) (Nat.le_refl _)) (by omega))
  have K1 := hidd (show w5.heap[w2.heap.size]? = some (.cells (imA d a) 46 (0, 0)) from (h5o _ (by omega)).trans h3)
  have K2 := hidd (show w5.heap[w2.heap.size + 1]? = some (.cells (bcA d a 0) 46 (0, 0)) by rw [bcA_zero]; exact h5)
  clear h3 h3o h3b h5 h5o h5b
  go_wp2_with fail
  go_loopw [7] (fun y wr => ∃ x : Nat, x ≤ d ∧ y = .int .i64 x ∧ Hid (wr.heap[w2.heap.size]? = some (.cells (imA d a) 46 (0, 0))) ∧ Hid (wr.heap[w2.heap.size + 1]? = some (.cells (bcA d a x) 46 (0, 0))) ∧ Hid (Below w2.heap.size w2 wr)) (fun y _ => d - (intOf y).toNat)
  case atStart => exact ⟨0, Nat.zero_le _, rfl, K1, K2, B5⟩
  case round =>
    clear K1 K2 B5
    obtain ⟨x, hx, rfl, H1, H2, Hb⟩ := hrel
    by_cases hlt : x < d
    · have i1 : (x : Int) < d := by omega
      have i2 : (x : Int) < 3 := by omega
      have i3 : (0 : Int) ≤ x := by omega
      have hy := pim_lt HD.out a x
      have c1 := (blkc H1.out x).trans (imA_get d a (show x < 3 by omega))
      obtain ⟨z, hz⟩ := bcA_get d a x (show pim d a x < 3 by omega)
      have c2 := (blkc H2.out (pim d a x)).trans hz
      have f2 := blkf H2.out (pim d a x)
      have HS := hidd (bcA_set HD.out HA.out hlt)
      obtain ⟨y, hyy⟩ : ∃ y, y = pim d a x := ⟨_, rfl⟩
      rw [← hyy] at hy c1 c2 f2 HS
      have i4 : (y : Int) < 3 := by omega
      have r1 : IntKind.u8.wrap (x : Int) = (x : Int) := IntWalk.u8_in _ (by omega)
      clear hyy hz
      go_wp2_with fail
      go_roundw
      case rel =>
        refine ⟨x + 1, by omega, by go_num, hidd (hp_far H1.out (by dsimp only; omega) _), hidd ?_, hidd (Hb.out.setCell (by dsimp only; omega) _)⟩
        have := hp_set H2.out y (.int .u8 (x : Int))
        rw [HS.out] at this
        exact this
      case measure => first | (simp [intOf]; done) | (simp [intOf]; omega)
    · have he : x = d := by omega
      subst he
      have K := H2.out
      rw [bcA_end HD.out HA.out] at K
      have hk := run_load3 K rfl
      clear hlt
      go_wp2_with fail
      refine (l03Number_any x (bkN x a) HD.out HT.out _).mono ?_
      rintro e w3 ⟨rfl, hb⟩
      go_wp2_with fail
      go_ret
      exact ⟨rfl, bel_then (bel_then B2.out Hb.out) hb⟩

/-! ### What has been put down -/
def IvI (d : Nat) (xs : List Int) (i k : Nat) (ys : List Int) : Prop := ∀ i' k', (i' < i ∨ (i' = i ∧ k' < k)) → k' < d ^ i' → ys.getD (pst d i' + aN d xs i' k') 0 = (bkN d (xs.getD (pst d i' + k') 0).toNat : Nat)
theorem getD_setI (ys : List Int) (p q : Nat) (z : Int) : (ys.set p z).getD q 0 = if p = q ∧ p < ys.length then z else ys.getD q 0 := by
  rw [List.getD_eq_getElem?_getD, List.getD_eq_getElem?_getD, List.getElem?_set]
  by_cases h : p = q
  · subst h
    by_cases h2 : p < ys.length
    · simp [h2]
    · simp [h2]
  · simp [h]
theorem IvI.step {d n : Nat} (hd : Dd d) {xs ys : List Int} (hx : isP d n xs = true) (hl : ys.length = pst d n) {i k : Nat} (hi : i < n) (hk : k < d ^ i) (h : IvI d xs i k ys) {m : Nat} (hm : xs.getD (pst d i + k) 0 = (m : Int)) :
    IvI d xs i (k + 1) (ys.set (pst d i + aN d xs i k) (bkN d m : Nat)) := by
  intro i' k' hik hk'
  have hb := aN_lt hd xs i k
  have hlt : pst d i + aN d xs i k < ys.length := by rw [hl]; exact pst_lt hi hb
  rw [getD_setI]
  by_cases e : i' = i ∧ k' = k
  · obtain ⟨rfl, rfl⟩ := e
    rw [if_pos ⟨rfl, hlt⟩, hm, Int.toNat_natCast]
  · rw [if_neg]
    · exact h i' k' (by omega) hk'
    · rintro ⟨h1, _⟩
      by_cases hii : i' = i
      · subst hii
        have h2 : aN d xs i' k = aN d xs i' k' := by omega
        have h3 := vN_aN hd hx i' (by omega) k hk
        have h4 := vN_aN hd hx i' (by omega) k' hk'
        rw [h2, h4] at h3
        omega
      · have h2 : pst d i' + aN d xs i' k' < pst d i := pst_lt (by omega) (aN_lt hd xs i' k')
        omega
theorem IvI.row {d : Nat} {xs ys : List Int} {i : Nat} (h : IvI d xs i (d ^ i) ys) : IvI d xs (i + 1) 0 ys := fun i' k' hik hk' => h i' k' (by
  by_cases e : i' = i
  · subst e; exact .inr ⟨rfl, hk'⟩
  · exact .inl (by omega)) hk'
theorem IvI.all {d n : Nat} (hd : Dd d) {xs ys : List Int} (hx : isP d n xs = true) (hl : ys.length = pst d n) (h : IvI d xs n 0 ys) : ys = bkL d n xs := by
  apply List.ext_getElem?
  intro p
  by_cases hp : p < pst d n
  · obtain ⟨i, j, hi, hj, rfl⟩ := pst_split d n hp
    unfold bkL
    rw [pby_get _ _ n hi hj]
    have h1 := h i (vN d xs i j) (.inl hi) (vN_lt hd xs i j)
    rw [aN_vN hd hx i (by omega) j hj, List.getD_eq_getElem?_getD, List.getElem?_eq_getElem (by omega), Option.getD_some] at h1
    rw [List.getElem?_eq_getElem (by omega), h1]
    rfl
  · rw [List.getElem?_eq_none (by omega), List.getElem?_eq_none (by unfold bkL; rw [pby_len]; omega)]
theorem ints_set (ys : List Int) (p : Nat) (z : Int) : (ints ys).set p (.int .i64 z) = ints (ys.set p z) := by simp [ints, List.map_set]
theorem ints_zero (n : Nat) : ints (List.replicate n 0) = List.replicate n (.int .i64 0) := by simp [ints]

set_option maxRecDepth 100000 in
set_option maxHeartbeats 2000000 in
theorem l03Inverse_any (d n : Nat) (hd : Dd d) (hn : n ≤ 4) (v : Value) (xs : List Int) (hx : isP d n xs = true) (w : World) (hr : RdI w v xs) :
    Calls Try.prog 61 #[.int .i64 (d : Nat), .int .i64 (n : Nat), v] w fun e w' => (∃ u, e = .returned u ∧ Own w' w.heap.size 2 u (ints (bkL d n xs))) ∧ Below w.heap.size w w' := by
  have HD := hidd hd
  have d23 := hd.le
  have HX := hidd hx
  have Hr := hidd hr
  have hx121 : xs.length ≤ 121 := by rw [isP_len hx]; exact pst_bd hd (by omega)
  obtain ⟨A, c, rfl, hq⟩ := hr
  have HLn := hidd (isP_len hx)
  obtain ⟨M, hM⟩ : ∃ M, M = xs.length := ⟨_, rfl⟩
  have HM := hidd (show M = pst d n by rw [hM]; exact isP_len hx)
  rw [← hM] at Hr hx121 ⊢
  clear hq hd hx hM
  go_enter Try.func61, Try.ntmps61
  go_wp2_with (at_make; refine mk_own rfl _ _ _ rfl w.heap.size 2 (.int .i64 0) 8 Try.underlying22 info_i64 rfl M rfl rfl (by omega) (by omega) (Nat.le_refl _) ?_; intro w1 ho hg hlt)
  have Ho := hidd (show Own w1 w.heap.size 2 (.slice (some ⟨w.heap.size, 0, none⟩) M M) (ints (List.replicate M 0)) by rw [ints_zero]; exact ho)
  have Bel := hidd ((Below.refl w.heap.size w).grown hg (Nat.le_refl _) (fun k hk => by cases hk))
  clear ho hg
  go_loopw [8] (fun y wr => ∃ i : Nat, i ≤ n ∧ y = .int .i64 i ∧ Hid (∃ ys, Own wr w.heap.size 2 (.slice (some ⟨w.heap.size, 0, none⟩) M M) (ints ys) ∧ ys.length = M ∧ IvI d xs i 0 ys) ∧ Hid (Below w.heap.size w wr)) (fun y _ => n - (intOf y).toNat)
  case atStart => exact ⟨0, Nat.zero_le _, rfl, hidd ⟨_, Ho.out, by simp, fun i' k' h _ => by omega⟩, Bel⟩
  case round =>
    clear Ho Bel
    obtain ⟨i, hi, rfl, HU, Hb⟩ := hrel
    obtain ⟨wo, rfl⟩ : ∃ wo, wo = wr := ⟨_, rfl⟩
    by_cases hlt : i < n
    · have i1 : (i : Int) < n := by omega
      have HP := hidd (fun W => l01Power_any d i d23.2 (by omega) W)
      have HSt := hidd (fun W => l03Start_any d i HD.out (by omega) W)
      have hN := pow_bd d23.2 (show i ≤ 5 by omega)
      obtain ⟨N, hNN⟩ : ∃ N, N = d ^ i := ⟨_, rfl⟩
      rw [← hNN] at HP hN
      have HN := hidd hNN
      clear hNN
      go_wp2_with fail
      go_loopw [9] (fun y wr => ∃ k : Nat, k ≤ N ∧ y = .int .i64 k ∧ Hid (∃ ys, Own wr w.heap.size 2 (.slice (some ⟨w.heap.size, 0, none⟩) M M) (ints ys) ∧ ys.length = M ∧ IvI d xs i k ys) ∧ Hid (Below w.heap.size w wr)) (fun y _ => N - (intOf y).toNat)
      case atStart => exact ⟨0, Nat.zero_le _, rfl, HU, Hb⟩
      case round =>
        clear HU Hb
        obtain ⟨k, hk, rfl, HV, Hq⟩ := hrel
        obtain ⟨ys, hoy, hly, hiv⟩ := HV.out
        have HO := hidd hoy
        have HY := hidd hiv
        have HLy := hidd hly
        clear HV hoy hly hiv
        by_cases hkl : k < N
        · have j1 : (k : Int) < N := by omega
          have hkd : k < d ^ i := by rw [← HN.out]; exact hkl
          have HK := hidd hkd
          clear hkd
          go_wp2_with (go_at_call 72; refine (HP.out _).mono ?_; rintro e w9 ⟨rfl, rfl⟩)
          refine (l01WordOf_any d d23.1 d23.2 i k (by omega) (by omega) wr).mono ?_
          rintro e w2 ⟨rfl, hb⟩
          have HO2 := hidd (HO.out.below hb)
          have Hq2 := hidd (bel_then Hq.out hb)
          clear hb HO Hq
          obtain ⟨m, hm, hmc⟩ := isP_get HX.out (pst_lt hlt HK.out)
          have hlts := wd_lts (show 1 ≤ d by omega) d23.2 i k
          have hat := fun W (h : RdI W (.slice A M c) xs) => l03At_any d HD.out _ xs (wd d i k) hlts (by rw [wd_size]; omega) (by rw [wd_size, nbr_wd_all HD.out HK.out, HLn.out]; exact pst_lt hlt HK.out) W h
          rw [wd_size, nbr_wd_all HD.out HK.out, hm] at hat
          have HAt := hidd hat
          have HAc := hidd (l03Act_any d n HD.out hn _ xs HX.out (wd d i k) hlts (by rw [wd_size]; omega) w2 (Hr.out.below Hq2.out))
          have hnb := fun W => l01NumberOf_any d d23.2 (acT d xs (wd d i k)) (acT_lts HD.out xs _) (by rw [acT_size, wd_size]; omega) W
          rw [acT_size, wd_size, nbr_acT HD.out xs HK.out] at hnb
          have HNB := hidd hnb
          have HBk := hidd (fun W => l03Back_any d m HD.out hmc W)
          have hidx : pst d i + aN d xs i k < M := by rw [HM.out]; exact pst_lt hlt (aN_lt HD.out xs i k)
          have HSt2 := hidd (HY.out.step HD.out HX.out (by rw [HLy.out, HM.out]) hlt HK.out hm)
          obtain ⟨T, hT⟩ : ∃ T, T = acT d xs (wd d i k) := ⟨_, rfl⟩
          rw [← hT] at HAc HNB
          obtain ⟨s, hs⟩ : ∃ s, s = wd d i k := ⟨_, rfl⟩
          rw [← hs] at HAt HAc ⊢
          obtain ⟨z, hz⟩ : ∃ z, z = aN d xs i k := ⟨_, rfl⟩
          rw [← hz] at HNB hidx HSt2
          obtain ⟨p, hp⟩ : ∃ p, p = pst d i := ⟨_, rfl⟩
          rw [← hp] at HSt hidx HSt2
          obtain ⟨y, hyy⟩ : ∃ y, y = bkN d m := ⟨_, rfl⟩
          rw [← hyy] at HBk HSt2
          have k1 : (p : Int) + (z : Int) < M := by omega
          have k2 : (0 : Int) ≤ (p : Int) + (z : Int) := by omega
          have k4 : ((p + z : Nat) : Int) < M := by omega
          clear hm hat hnb hT hs hz hp hyy hlts hmc
          go_wp2_with fail
          refine HAc.out.mono ?_
          rintro e w3 ⟨rfl, hb⟩
          have HO3 := hidd (HO2.out.below hb)
          have Hq3 := hidd (bel_then Hq2.out hb)
          clear hb HO2 Hq2 HAc
          have HAt3 := hidd (HAt.out w3 (Hr.out.below Hq3.out))
          go_wp2_with (first | (go_at_call 46; refine (HSt.out _).mono ?_; rintro e w9 ⟨rfl, rfl⟩) | (go_at_call 79; refine (HNB.out _).mono ?_; rintro e w9 ⟨rfl, rfl⟩) | (go_at_call 76; refine HAt3.out.mono ?_; rintro e w9 ⟨rfl, rfl⟩))
          refine (HBk.out _).mono ?_
          rintro e w4 ⟨rfl, hb⟩
          have HO4 := hidd (HO3.out.below hb)
          have Hq4 := hidd (bel_then Hq3.out hb)
          clear hb HO3 Hq3 HAt3
          have hyl : p + z < ys.length := by rw [HLy.out]; exact hidx
          have d1 := HO4.out.cell (j := p + z) (v := .int .i64 ys[p + z]) (by rw [ints_get, List.getElem?_eq_getElem hyl]; rfl)
          have d2 := HO4.out.frozen (p + z)
          go_wp2_with fail
          go_roundw
          case rel =>
            refine ⟨k + 1, by omega, by go_num, hidd ⟨_, ?_, ?_, HSt2.out⟩, hidd (Hq4.out.setCell (Nat.le_refl _) _)⟩
            · have := HO4.out.store (p + z) (.int .i64 (y : Nat))
              rw [ints_set] at this
              exact this
            · rw [List.length_set]; exact HLy.out
          case measure => first | (simp [intOf]; done) | (simp [intOf]; omega)
        · have he : k = N := by omega
          subst he
          have HE := hidd (show IvI d xs (i + 1) 0 ys from IvI.row (by rw [← HN.out]; exact HY.out))
          clear hkl
          go_wp2_with (go_at_call 72; refine (HP.out _).mono ?_; rintro e w9 ⟨rfl, rfl⟩)
          go_roundw
          case rel => exact ⟨i + 1, by omega, by go_num, hidd ⟨ys, HO.out, HLy.out, HE.out⟩, Hq⟩
          case measure => first | (simp [intOf]; done) | (simp [intOf]; omega)
    · have he : i = n := by omega
      subst he
      clear hlt
      obtain ⟨ys, hoy, hly, hiv⟩ := HU.out
      have HO := hidd hoy
      have HE := hidd (hiv.all HD.out HX.out (by rw [hly, HM.out]))
      clear hoy hly hiv HU
      go_wp2_with fail
      go_ret
      exact ⟨⟨_, rfl, by rw [← HE.out]; exact HO.out⟩, Hb.out⟩

/-! ### InvertPortrait -/
def inR (d n : Int) (xs : List Int) : List Int × Int := if codeP d n [xs] = 0 then (bkL d.toNat n.toNat xs, 0) else ([], codeP d n [xs])
theorem bkL_len (d n : Nat) (xs : List Int) : (bkL d n xs).length = pst d n := pby_len _ _ _
theorem inR_len (d n : Int) (xs : List Int) : (inR d n xs).1.length ≤ 1048576 := by
  unfold inR
  split
  · rename_i h
    obtain ⟨d', n', rfl, rfl, hd, _, _, _⟩ := codeP_zero h
    have := pst_bd hd (show n' ≤ 5 by omega)
    show (bkL _ _ _).length ≤ _
    rw [bkL_len, Int.toNat_natCast, Int.toNat_natCast]; omega
  · simp
set_option maxRecDepth 100000 in
set_option maxHeartbeats 1000000 in
theorem specInvertPortrait_any (d n : Int) (v : Value) (xs : List Int) (w : World) (hr : RdI w v xs) :
    Calls Try.prog 30 #[.int .i64 d, .int .i64 n, v] w fun e w' => (∃ u, e = .returned (.tuple #[u, .int .i64 (inR d n xs).2]) ∧ Own w' w.heap.size 2 u (ints (inR d n xs).1)) ∧ Below w.heap.size w w' := by
  have Hr := hidd hr
  obtain ⟨A, c, rfl, hr⟩ := hr
  have HP := hidd (l03Code_any d n _ [xs] _ (RdLL.lit1 ⟨A, c, rfl, hr⟩ 22 w.heap.size rfl))
  clear hr
  by_cases h0 : codeP d n [xs] = 0
  · have HR : Hid (inR d n xs = _) := hidd (if_pos h0)
    rw [h0] at HP
    obtain ⟨d', n', rfl, rfl, hd, hn1, hn4, hall⟩ := codeP_zero h0
    have HO := hidd (fun W (hrW : RdI W (.slice A xs.length c) xs) => l03Inverse_any d' n' hd hn4 _ xs (hall xs (List.mem_singleton.2 rfl)) W hrW)
    rw [Int.toNat_natCast, Int.toNat_natCast] at HR
    clear h0 hall hd
    go_enter Try.func30, Try.ntmps30
    go_wp2_with fail
    refine HP.out.mono ?_
    rintro e w1 ⟨rfl, q, e1⟩
    have B1 := hidd (show Below w.heap.size w w1 by rw [e1]; exact bel_drewN (bel_alloc' _ _) _)
    clear e1 HP
    go_wp2_with fail
    refine (HO.out _ (Hr.out.below B1.out)).mono ?_
    rintro e w2 ⟨⟨u, rfl, ho⟩, hb⟩
    go_wp2_with fail
    go_ret2
    exact ⟨⟨_, by rw [HR.out]; rfl, by rw [HR.out]; exact ho.mono B1.out.size⟩, bel_then B1.out hb⟩
  · have HR : Hid (inR d n xs = ([], codeP d n [xs])) := hidd (if_neg h0)
    obtain ⟨cd, hcd⟩ : ∃ cd, cd = codeP d n [xs] := ⟨_, rfl⟩
    rw [← hcd] at HR HP h0
    have h1 : (cd == 0) = false := by simp [h0]
    have h2 : (cd != 0) = true := by simp [h0]
    clear h0 hcd
    go_enter Try.func30, Try.ntmps30
    go_wp2_with fail
    refine HP.out.mono ?_
    rintro e w1 ⟨rfl, q, e1⟩
    have B1 := hidd (show Below w.heap.size w w1 by rw [e1]; exact bel_drewN (bel_alloc' _ _) _)
    clear e1
    go_wp2_with fail
    go_ret2
    exact ⟨⟨_, by rw [HR.out]; rfl, by rw [HR.out]; exact Own.nil _ _ _⟩, B1.out⟩

/-- The list that is turned back, so far. -/
def BvI (d n : Nat) (xs : List Int) (k : Nat) (ys : List Int) : Prop := ∀ k', k' < k → ys.getD (aN d xs n k') 0 = (k' : Int)
theorem BvI.step {d n : Nat} (hd : Dd d) {xs ys : List Int} (hx : isP d n xs = true) (hl : ys.length = d ^ n) {k : Nat} (hk : k < d ^ n) (h : BvI d n xs k ys) : BvI d n xs (k + 1) (ys.set (aN d xs n k) (k : Int)) := by
  intro k' hk'
  have hb := aN_lt hd xs n k
  rw [getD_setI]
  by_cases e : k' = k
  · subst e; rw [if_pos ⟨rfl, by omega⟩]
  · rw [if_neg]
    · exact h k' (by omega)
    · rintro ⟨h1, _⟩
      have h3 := vN_aN hd hx n (Nat.le_refl _) k hk
      have h4 := vN_aN hd hx n (Nat.le_refl _) k' (by omega)
      rw [h1, h4] at h3
      exact e h3
theorem BvI.all {d n : Nat} (hd : Dd d) {xs ys : List Int} (hx : isP d n xs = true) (hl : ys.length = d ^ n) (h : BvI d n xs (d ^ n) ys) : ys = bkP d n xs := by
  apply List.ext_getElem?
  intro p
  by_cases hp : p < d ^ n
  · have h1 := h (vN d xs n p) (vN_lt hd xs n p)
    rw [aN_vN hd hx n (Nat.le_refl _) p hp, List.getD_eq_getElem?_getD, List.getElem?_eq_getElem (by omega), Option.getD_some] at h1
    rw [List.getElem?_eq_getElem (by omega), h1]
    simp [bkP, hp]
  · rw [List.getElem?_eq_none (by omega), List.getElem?_eq_none (by simp [bkP]; omega)]
theorem BvI.all' {d n N : Nat} (hd : Dd d) {xs ys : List Int} (hx : isP d n xs = true) (hl : ys.length = d ^ n) (hN : N = d ^ n) (h : BvI d n xs N ys) : ys = bkP d n xs := BvI.all hd hx hl (by rw [← hN]; exact h)
set_option maxRecDepth 100000 in
set_option maxHeartbeats 2000000 in
theorem implInvertPortrait_any (d n : Int) (v : Value) (xs : List Int) (w : World) (hr : RdI w v xs) :
    Calls Try.prog 31 #[.int .i64 d, .int .i64 n, v] w fun e w' => (∃ u, e = .returned (.tuple #[u, .int .i64 (inR d n xs).2]) ∧ Own w' w.heap.size 2 u (ints (inR d n xs).1)) ∧ Below w.heap.size w w' := by
  have Hr := hidd hr
  obtain ⟨A, c, rfl, hr⟩ := hr
  have HP := hidd (portraitCode_any d n _ [xs] _ (RdLL.lit1 ⟨A, c, rfl, hr⟩ 22 w.heap.size rfl))
  clear hr
  by_cases h0 : codeP d n [xs] = 0
  · have HR : Hid (inR d n xs = _) := hidd (if_pos h0)
    rw [h0] at HP
    obtain ⟨d', n', rfl, rfl, hd, hn1, hn4, hall⟩ := codeP_zero h0
    have HD := hidd hd
    have HX := hidd (hall xs (List.mem_singleton.2 rfl))
    have HO := hidd (fun W (hrW : RdI W (.slice A xs.length c) xs) => ofPortrait_any d' n' hd hn4 _ xs (hall xs (List.mem_singleton.2 rfl)) W hrW)
    have hN := pow_bd hd.le.2 (show n' ≤ 5 by omega)
    have HPl := hidd (prP_len d' n' xs)
    have HPg := hidd (fun k hk => prP_get d' n' xs (k := k) hk)
    rw [Int.toNat_natCast, Int.toNat_natCast] at HR
    clear h0 hall hd
    go_enter Try.func31, Try.ntmps31
    go_wp2_with fail
    refine HP.out.mono ?_
    rintro e w1 ⟨rfl, hb⟩
    have B1 := hidd (bel_then (bel_alloc' _ _) hb)
    clear hb HP
    go_wp2_with fail
    refine (HO.out _ (Hr.out.below B1.out)).mono ?_
    rintro e w2 ⟨⟨u, rfl, ho⟩, hb⟩
    have B2 := hidd (bel_then B1.out hb)
    obtain ⟨A2, c2, rfl⟩ := ho.slice
    have Hu := hidd ho.rd.2
    rw [ints_length, HPl.out]
    obtain ⟨N, hNn⟩ : ∃ N, N = d' ^ n' := ⟨_, rfl⟩
    rw [← hNn] at hN ⊢
    have HN := hidd hNn
    clear ho hb hNn HO
    go_wp2_with (at_make; refine mk_own rfl _ _ _ rfl w2.heap.size 2 (.int .i64 0) 8 Try.underlying22 info_i64 rfl N rfl rfl (by omega) (by omega) (Nat.le_refl _) ?_; intro w3 ho hg hlt; have Ho := hidd (show Own w3 w2.heap.size 2 (.slice (some ⟨w2.heap.size, 0, none⟩) N N) (ints (List.replicate N 0)) by rw [ints_zero]; exact ho); have Bel := hidd ((Below.refl w2.heap.size w2).grown hg (Nat.le_refl _) (fun k hk => by cases hk)); clear ho hg)
    go_loopw [32] (fun y wr => ∃ k : Nat, k ≤ N ∧ y = .int .i64 k ∧ Hid (∃ ys, Own wr w2.heap.size 2 (.slice (some ⟨w2.heap.size, 0, none⟩) N N) (ints ys) ∧ ys.length = N ∧ BvI d' n' xs k ys) ∧ Hid (Below w2.heap.size w2 wr)) (fun y _ => N - (intOf y).toNat)
    case atStart => exact ⟨0, Nat.zero_le _, rfl, hidd ⟨_, Ho.out, by simp, fun k' h => absurd h (Nat.not_lt_zero _)⟩, Bel⟩
    case round =>
      clear Ho Bel
      obtain ⟨k, hk, rfl, HU, Hb⟩ := hrel
      obtain ⟨ys, hoy, hly, hiv⟩ := HU.out
      have HOy := hidd hoy
      have HLy := hidd hly
      have HIv := hidd hiv
      clear HU hoy hly hiv
      by_cases hlt : k < N
      · have i1 : (k : Int) < N := by omega
        have hkd : k < d' ^ n' := by rw [← HN.out]; exact hlt
        have hz := aN_lt HD.out xs n' k
        rw [← HN.out] at hz
        have HS := hidd (HIv.out.step HD.out HX.out (by rw [HLy.out, HN.out]) hkd)
        have hg := HPg.out k hkd
        have hcell : wr.cell? ⟨0, 0, none⟩ = wr.cell? ⟨0, 0, none⟩ := rfl
        have hkl : k < (prP d' n' xs).length := by rw [HPl.out]; exact hkd
        obtain ⟨b, o, rfl, hc0⟩ := (Hu.out.below Hb.out).get hkl
        have hx2 : (prP d' n' xs)[k] = (aN d' xs n' k : Nat) := by rw [← hg, List.getD_eq_getElem?_getD, List.getElem?_eq_getElem hkl]; rfl
        rw [hx2] at hc0
        obtain ⟨z, hzz⟩ : ∃ z, z = aN d' xs n' k := ⟨_, rfl⟩
        rw [← hzz] at hz hc0 HS
        have i2 : (z : Int) < N := by omega
        have i3 : (0 : Int) ≤ z := by omega
        have hyl : z < ys.length := by rw [HLy.out]; exact hz
        have d1 := HOy.out.cell (j := z) (v := .int .i64 ys[z]) (by rw [ints_get, List.getElem?_eq_getElem hyl]; rfl)
        have d2 := HOy.out.frozen z
        clear hg hcell hx2 hzz
        go_wp2_with fail
        go_roundw
        case rel =>
          refine ⟨k + 1, by omega, by go_num, hidd ⟨_, ?_, ?_, HS.out⟩, hidd (Hb.out.setCell (Nat.le_refl _) _)⟩
          · have := HOy.out.store z (.int .i64 (k : Nat))
            rw [ints_set] at this
            exact this
          · rw [List.length_set]; exact HLy.out
        case measure => first | (simp [intOf]; done) | (simp [intOf]; omega)
      · have he : k = N := by omega
        subst he
        have HE := hidd (BvI.all' HD.out HX.out (by rw [HLy.out, HN.out]) HN.out HIv.out)
        have HF := hidd (portraitFrom_any d' n' HD.out hn4 _ (bkP d' n' xs) wr (by rw [← HE.out]; exact HOy.out.rdI))
        rw [bk_law HD.out HX.out] at HF
        clear hlt
        go_wp2_with fail
        refine HF.out.mono ?_
        rintro e w4 ⟨⟨u4, rfl, ho⟩, hb⟩
        have HO4 := hidd (show Own w4 wr.heap.size 2 u4 (ints (bkL d' n' xs)) from ho)
        have Bw := hidd (bel_then B2.out Hb.out)
        have B4 := hidd (bel_then Bw.out hb)
        have hzz := Bw.out.size
        clear ho hb HF
        go_wp2_with fail
        go_ret2
        exact ⟨⟨_, by rw [HR.out]; rfl, by rw [HR.out]; exact HO4.out.mono hzz⟩, B4.out⟩
  · have HR : Hid (inR d n xs = ([], codeP d n [xs])) := hidd (if_neg h0)
    obtain ⟨cd, hcd⟩ : ∃ cd, cd = codeP d n [xs] := ⟨_, rfl⟩
    rw [← hcd] at HR HP h0
    have h1 : (cd == 0) = false := by simp [h0]
    have h2 : (cd != 0) = true := by simp [h0]
    clear h0 hcd
    go_enter Try.func31, Try.ntmps31
    go_wp2_with fail
    refine HP.out.mono ?_
    rintro e w1 ⟨rfl, hb⟩
    go_wp2_with fail
    go_ret2
    exact ⟨⟨_, by rw [HR.out]; rfl, by rw [HR.out]; exact Own.nil _ _ _⟩, bel_then (bel_alloc' _ _) hb⟩
end Go.Proofs.Ytecdjmfohcnadaa
