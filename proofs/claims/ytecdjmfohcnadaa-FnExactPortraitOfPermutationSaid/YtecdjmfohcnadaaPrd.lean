/- Walks: PortraitOfPermutation, of the program and of the reference. -/
import Derived.Test.YtecdjmfohcnadaaPmu
namespace Go.Proofs.Ytecdjmfohcnadaa
open Go.RowKit
set_option linter.unusedSimpArgs false

theorem pfR_lv {d n : Nat} {L : List Int} (h : lvB d n L = false) : pfR d n L = none := by unfold pfR; rw [h]; rfl
theorem pfI_len (d n : Nat) (L : List Int) (i k : Nat) : (pfI d n L i k).length = d := by simp [pfI]
theorem pfI_get {d n : Nat} (L : List Int) (i k : Nat) {x : Nat} (hx : x < d) : (pfI d n L i k).getD x 0 = L.getD ((k * d + x) * d ^ (n - i - 1)) 0 / (d ^ (n - i - 1) : Nat) % (d : Int) := by
  simp [pfI, List.getD_eq_getElem?_getD, hx]
/-- A place where the images are none ends it. -/
theorem pfR_bad {d n : Nat} (hd : Dd d) {L : List Int} {i k : Nat} (hi : i < n) (hk : k < d ^ i) (h : ¬ Goo d (pfI d n L i k) d) : pfR d n L = none := by
  unfold pfR
  split
  · rw [if_pos]
    have := pby_get d (fun i k => pno d (pfI d n L i k)) n hi hk
    rw [pno_neg hd h] at this
    exact List.contains_iff_mem.2 (List.mem_of_getElem? this)
  · rfl
/-- All places so far are permutations. -/
def AllP (d n : Nat) (L : List Int) (i k : Nat) : Prop := ∀ i' k', (i' < i ∨ (i' = i ∧ k' < k)) → k' < d ^ i' → pno d (pfI d n L i' k') ≠ -1
theorem AllP.con {d n : Nat} {L : List Int} (h : AllP d n L n 0) : (pfO d n L).contains (-1) = false := by
  rw [Bool.eq_false_iff]
  intro hc
  have hm := List.contains_iff_mem.1 hc
  unfold pfO at hm
  obtain ⟨i, k, a, b, e⟩ := pby_mem hm
  exact h i k (.inl a) b e.symm
abbrev PF (d n : Nat) (L : List Int) : Nat → Nat → Int := fun i k => pno d (pfI d n L i k)

set_option maxRecDepth 100000 in
set_option maxHeartbeats 4000000 in
theorem l03Read_any (d n : Nat) (hd : Dd d) (hn : n ≤ 4) (v : Value) (L : List Int) (w : World) (hr : RdI w v L) :
    Calls Try.prog 56 #[.int .i64 (d : Nat), .int .i64 (n : Nat), v] w fun e w' => (∃ u, e = .returned (.tuple #[u, .bool (pfR d n L).isSome]) ∧ Own w' w.heap.size 2 u (ints ((pfR d n L).getD []))) ∧ Below w.heap.size w w' := by
  have HD := hidd hd
  have d23 := hd.le
  have Hr := hidd hr
  have hle := hr.le
  have HP := hidd (fun W => l01Power_any d n d23.2 (by omega) W)
  have hN := pow_bd d23.2 (show n ≤ 5 by omega)
  have hN0 : 0 < d ^ n := Nat.pow_pos (by omega)
  obtain ⟨N, hNn⟩ : ∃ N, N = d ^ n := ⟨_, rfl⟩
  rw [← hNn] at HP hN hN0
  have HN := hidd hNn
  obtain ⟨A, c, rfl, hq⟩ := hr
  clear hq hd hNn
  by_cases hl : L.length = N
  · have HL := hidd hl
    rw [hl]
    rw [hl] at Hr hle
    clear hl
    go_enter Try.func56, Try.ntmps56
    go_wp2_with (go_at_call 72; refine (HP.out _).mono ?_; rintro e w9 ⟨rfl, rfl⟩)
    go_loopw [9] (fun i wr => ∃ k : Nat, k ≤ N ∧ i = .int .i64 k ∧ wr = w ∧ Hid (∀ j, (hj : j < L.length) → j < k → lvR N L[j] = true)) (fun i _ => N - (intOf i).toNat)
    case atStart => exact ⟨0, Nat.zero_le _, rfl, rfl, hidd (fun j _ hj => absurd hj (Nat.not_lt_zero _))⟩
    case round =>
      obtain ⟨k, hk, rfl, rfl, HQ⟩ := hrel
      by_cases hlt : k < N
      · have hkl : k < L.length := by rw [HL.out]; exact hlt
        obtain ⟨b, o, hA, hcl⟩ := Hr.out.rdS.get hkl
        subst hA
        have i1 : (k : Int) < N := by omega
        obtain ⟨x, hx⟩ : ∃ x, x = L[k] := ⟨_, rfl⟩
        rw [← hx] at hcl
        have HX := hidd hx
        clear hx
        by_cases h : 0 ≤ x ∧ x ≤ (N : Int) - 1
        · have HV := hidd (show lvR N x = true from decide_eq_true h)
          go_wp2_with (go_at_call 42; refine (l01In_yes _ _ _ _ h.1 h.2).mono ?_; rintro e w9 ⟨rfl, rfl⟩)
          go_roundw
          case rel =>
            refine ⟨k + 1, by omega, by go_num, trivial, hidd (fun j hj hjk => ?_)⟩
            by_cases e : j = k
            · subst e; rw [← HX.out]; exact HV.out
            · exact HQ.out j hj (by omega)
          case measure => first | (simp [intOf]; done) | (simp [intOf]; omega)
        · have HR := hidd (show pfR d n L = none from pfR_lv (by rw [lvB_iff, ← HN.out, all_no hkl (by rw [← HX.out]; exact decide_eq_false h), Bool.and_false]))
          go_wp2_with (go_at_call 42; refine (l01In_no _ _ _ _ (by omega)).mono ?_; rintro e w9 ⟨rfl, rfl⟩)
          go_ret2
          exact ⟨⟨_, by rw [HR.out]; rfl, by rw [HR.out]; exact Own.nil _ _ _⟩, Below.refl _ _⟩
      · have he : k = N := by omega
        subst he
        have HLr := hidd (show ∀ y ∈ L, 0 ≤ y ∧ y ≤ (k : Int) - 1 from fun y hy => by
          obtain ⟨j, hj, rfl⟩ := List.getElem_of_mem hy
          exact of_decide_eq_true (HQ.out j hj (by rw [← HL.out]; exact hj)))
        have HV : Hid (pfR d n L = _) := hidd (if_pos (by rw [lvB_iff, ← HN.out, HL.out, all_yes (fun j hj => HQ.out j hj (by rw [← HL.out]; exact hj))]; simp))
        clear hlt HQ
        obtain ⟨w0, rfl⟩ : ∃ w0, w0 = wr := ⟨_, rfl⟩
        go_wp2_with fail
        have U1 := hidd (Own.empty' w0 2 w0.heap.size (Nat.le_refl _))
        have Bl1 := hidd (bel_alloc' w0 (.cells #[] 2))
        go_loopw [10, 11] (fun u y wr => ∃ i : Nat, i ≤ n ∧ y = .int .i64 i ∧ Hid (Own wr w0.heap.size 2 u (ints (pby d (PF d n L) i))) ∧ Hid (AllP d n L i 0) ∧ Hid (Below w0.heap.size w0 wr)) (fun _ y _ => n - (intOf y).toNat)
        case atStart => exact ⟨0, Nat.zero_le _, rfl, hidd U1.out, hidd (fun i' k' h _ => by omega), Bl1⟩
        case round =>
          clear U1 Bl1
          obtain ⟨i, hi, rfl, HU, HA, Hb⟩ := hrel
          obtain ⟨wo, rfl⟩ : ∃ wo, wo = wr := ⟨_, rfl⟩
          by_cases hlt : i < n
          · have i1 : (i : Int) < n := by omega
            obtain ⟨j, hij⟩ : ∃ j, j = n - i - 1 := ⟨_, rfl⟩
            have e1 : (n : Int) - (i : Int) = (j : Int) + 1 := by omega
            have HP1 := hidd (fun W => l01Power_any d j d23.2 (by omega) W)
            have HP2 := hidd (fun W => l01Power_any d i d23.2 (by omega) W)
            have hj3 : (j : Int) ≤ 3 := by omega
            have hn4 : (n : Int) ≤ 4 := by omega
            have hi4 : (i : Int) ≤ 4 := by omega
            have hidx := fun K (hK : K < d ^ i) x (hx : x < d) => im_idx (n := n) hlt hK hx
            have hget := fun K x (hx : x < d) => pfI_get (n := n) L i K hx
            rw [← hij] at hidx hget
            rw [← HN.out] at hidx
            have hst0 : 0 < d ^ j := Nat.pow_pos (by omega)
            have hs243 := pow_bd d23.2 (show j ≤ 5 by omega)
            have hM243 := pow_bd d23.2 (show i ≤ 5 by omega)
            obtain ⟨st, hst⟩ : ∃ st, st = d ^ j := ⟨_, rfl⟩
            obtain ⟨M, hM⟩ : ∃ M, M = d ^ i := ⟨_, rfl⟩
            rw [← hst] at hidx hget hst0 hs243 HP1
            rw [← hM] at hidx HP2 hM243
            have HIx := hidd hidx
            have HGt := hidd hget
            have HM := hidd hM
            clear hidx hget hM hst hij
            go_wp2_with (go_at_call 72; refine (HP1.out _).mono ?_; rintro e w9 ⟨rfl, rfl⟩)
            go_loopw [10, 13] (fun u y wr => ∃ K : Nat, K ≤ M ∧ y = .int .i64 K ∧ Hid (Own wr w0.heap.size 2 u (ints (pbK d (PF d n L) i K))) ∧ Hid (AllP d n L i K) ∧ Hid (Below w0.heap.size w0 wr)) (fun _ y _ => M - (intOf y).toNat)
            case atStart => exact ⟨0, Nat.zero_le _, rfl, hidd (by rw [pbK_zero]; exact HU.out), HA, Hb⟩
            case round =>
              clear HU HA Hb
              obtain ⟨K, hK, rfl, HU, HA, Hb⟩ := hrel
              obtain ⟨wk, rfl⟩ : ∃ wk, wk = wr := ⟨_, rfl⟩
              by_cases hlK : K < M
              · have j1 : (K : Int) < M := by omega
                have HKd := hidd (show K < d ^ i by rw [← HM.out]; exact hlK)
                obtain ⟨X, hX⟩ : ∃ X, X = pfI d n L i K := ⟨_, rfl⟩
                have HX := hidd hX
                have HXg := hidd (fun x hx => HGt.out K x hx)
                rw [← hX] at HXg
                clear hX
                go_wp2_with (go_at_call 72; refine (HP2.out _).mono ?_; rintro e w9 ⟨rfl, rfl⟩)
                obtain ⟨w1, hw1⟩ : ∃ w1, w1 = (wk.alloc (.cells #[.int .u8 0, .int .u8 0, .int .u8 0] 46)).alloc (.cells #[.bool false, .bool false, .bool false] 47) := ⟨_, rfl⟩
                rw [← hw1]
                have B1 := hidd (show Below wk.heap.size wk w1 by rw [hw1]; exact (bel_alloc' _ _).alloc (by simp) _)
                have L1 := hidd (show w1.heap[wk.heap.size]? = some (.cells (lcA X 0) 46 (0, 0)) by rw [hw1]; exact hp_old (hp_new rfl))
                have M1 := hidd (show w1.heap[wk.heap.size + 1]? = some (.cells (mtA X 0) 47 (0, 0)) by rw [hw1]; exact hp_new (by simp))
                have HXl := hidd (show X.length = d by rw [HX.out]; exact pfI_len d n L i K)
                clear hw1
                go_loopw [16] (fun y wr => ∃ x : Nat, x ≤ d ∧ y = .int .i64 x ∧ Hid (Goo d X x) ∧ Hid (wr.heap[wk.heap.size]? = some (.cells (lcA X x) 46 (0, 0))) ∧ Hid (wr.heap[wk.heap.size + 1]? = some (.cells (mtA X x) 47 (0, 0))) ∧ Hid (Below wk.heap.size wk wr)) (fun y _ => d - (intOf y).toNat)
                case atStart => exact ⟨0, Nat.zero_le _, rfl, hidd (fun i hi => absurd hi (Nat.not_lt_zero _)), L1, M1, B1⟩
                case round =>
                  clear L1 M1 B1
                  obtain ⟨x, hx, rfl, HG, HL1, HM1, Hq⟩ := hrel
                  by_cases hlx : x < d
                  · have k1 : (x : Int) < d := by omega
                    have k2 : (x : Int) < 3 := by omega
                    have k3 : (0 : Int) ≤ x := by omega
                    have hz := HIx.out K hlK x hlx
                    have hXx := HXg.out x hlx
                    obtain ⟨f, hf⟩ : ∃ f, f = K * d := ⟨_, rfl⟩
                    have e3 : (K : Int) * (d : Int) = (f : Int) := by rw [hf, Int.natCast_mul]
                    rw [← hf] at hz hXx
                    obtain ⟨z, hzz⟩ : ∃ z, z = (f + x) * st := ⟨_, rfl⟩
                    have e4 : ((f : Int) + (x : Int)) * (st : Int) = (z : Int) := by rw [hzz, Int.natCast_mul, Int.natCast_add]
                    rw [← hzz] at hz hXx
                    have hfb : f + x ≤ z := by rw [hzz]; exact Nat.le_mul_of_pos_right _ hst0
                    have hzl : z < L.length := by rw [HL.out]; exact hz
                    obtain ⟨b, o, hA, hcl⟩ := ((Hr.out.below Hb.out).below Hq.out).rdS.get hzl
                    subst hA
                    obtain ⟨Y, hY⟩ : ∃ Y : Nat, L[z] = (Y : Int) := ⟨L[z].toNat, by have := (HLr.out _ (List.getElem_mem hzl)).1; omega⟩
                    have hYN := (HLr.out _ (List.getElem_mem hzl)).2
                    rw [hY] at hcl hYN
                    have hYk : Y < k := by omega
                    rw [show L.getD z 0 = (Y : Int) by rw [List.getD_eq_getElem?_getD, List.getElem?_eq_getElem hzl, Option.getD_some, hY]] at hXx
                    obtain ⟨q1, hq1⟩ : ∃ q1, q1 = Y / st := ⟨_, rfl⟩
                    obtain ⟨y, hyy⟩ : ∃ y, y = q1 % d := ⟨_, rfl⟩
                    have hq1b : q1 ≤ Y := by rw [hq1]; exact Nat.div_le_self _ _
                    have hyd : y < d := by rw [hyy]; exact Nat.mod_lt _ (by omega)
                    rw [show (Y : Int) / (st : Int) = (q1 : Int) by rw [hq1]; rfl, show (q1 : Int) % (d : Int) = (y : Int) by rw [hyy]; rfl] at hXx
                    have HX2 := hidd hXx
                    have w5r : (Y : Int).tdiv (st : Int) = (q1 : Int) := by rw [Int.tdiv_eq_ediv_of_nonneg (by omega), hq1]; rfl
                    have w6r : (q1 : Int).tmod (d : Int) = (y : Int) := by rw [Int.tmod_eq_emod_of_nonneg (by omega), hyy]; rfl
                    have z1 : ¬ st = 0 := by omega
                    have z2 : ¬ d = 0 := by omega
                    have z3 : ¬ (st : Int) = 0 := by omega
                    have z4 : ¬ (d : Int) = 0 := by omega
                    have i4 : (z : Int) < k := by omega
                    have hy3 : y < 3 := by omega
                    have j5 : (y : Int) < 3 := by omega
                    have c1 := (blkc HM1.out y).trans (mtA_get X x hy3)
                    have f1 := blkf HM1.out y
                    have f2 := blkf HL1.out x
                    have c2 := (blkc HL1.out x).trans (lcA_get X (show x < 3 by omega))
                    have r1 : IntKind.u8.wrap (y : Int) = (y : Int) := IntWalk.u8_in _ (by omega)
                    obtain ⟨m, hm⟩ : ∃ m, m = mtB X x y := ⟨_, rfl⟩
                    rw [← hm] at c1
                    have HMt := hidd hm
                    clear hm hXx hzz hf hY hq1 hyy
                    cases m with
                    | true =>
                      have HR := hidd (pfR_bad HD.out hlt HKd.out (fun hg => by
                        rw [← HX.out] at hg
                        obtain ⟨j, hj, e⟩ := mtB_yes HMt.out.symm
                        exact (hg x hlx).2 j hj (e.trans HX2.out.symm)))
                      go_wp2_with fail
                      go_ret2
                      exact ⟨⟨_, by rw [HR.out]; rfl, by rw [HR.out]; exact Own.nil _ _ _⟩, bel_then Hb.out Hq.out⟩
                    | false =>
                      go_wp2_with fail
                      go_roundw
                      case rel =>
                        refine ⟨x + 1, by omega, by go_num, hidd (fun i hi => ?_), hidd ?_, hidd ?_, hidd ((Hq.out.setCell (by dsimp only; omega) _).setCell (by dsimp only; omega) _)⟩
                        · by_cases e : i = x
                          · subst e
                            rw [HX2.out]
                            exact ⟨by omega, mtB_no HMt.out.symm⟩
                          · exact HG.out i (by omega)
                        · have := hp_set (hp_far HL1.out (p := ⟨wk.heap.size + 1, y, none⟩) (by dsimp only; omega) (.bool true)) x (.int .u8 (y : Int))
                          have hs := lcA_set (xs := X) (show x < 3 by omega)
                          rw [HX2.out] at hs
                          rw [hs] at this
                          exact this
                        · have := hp_far (hp_set HM1.out y (.bool true)) (p := ⟨wk.heap.size, x, none⟩) (by dsimp only; omega) (.int .u8 (y : Int))
                          rw [mtA_set hy3 HX2.out] at this
                          exact this
                      case measure => first | (simp [intOf]; done) | (simp [intOf]; omega)
                  · have he : x = d := by omega
                    subst he
                    obtain ⟨m, hm, e⟩ := goo_pil HD.out HXl.out HG.out
                    have HPn := hidd (show PF x n L i K = (m : Int) by rw [show PF x n L i K = pno x X by rw [HX.out]]; rw [e, pno_pil HD.out hm])
                    have K1 := HL1.out
                    rw [e, lcA_end HD.out] at K1
                    have hk3 := run_load3 K1 rfl
                    have HA2 := hidd (show AllP x n L i (K + 1) from fun i' k' hik hk' => by
                      by_cases e : i' = i ∧ k' = K
                      · obtain ⟨rfl, rfl⟩ := e
                        have := HPn.out
                        unfold PF at this
                        rw [this]; omega
                      · exact HA.out i' k' (by omega) hk')
                    have HS := hidd (pbK_succ x (PF x n L) i K)
                    have hlen2 : (ints (pbK x (PF x n L) i K)).length + 1 ≤ 1099511627776 := by rw [ints_length]; have := pbK_len HD.out (PF x n L) (show i ≤ 4 by omega) (show K ≤ 243 by omega); omega
                    rw [HPn.out] at HS
                    have HU1 := hidd (HU.out.below Hq.out)
                    have Hb1 := hidd (bel_then Hb.out Hq.out)
                    clear hlx e HX HXg HPn HA HU Hb
                    go_wp2_with fail
                    refine (l03Number_any x m HD.out hm _).mono ?_
                    rintro e w3 ⟨rfl, hb⟩
                    have HU2 := hidd (HU1.out.below hb)
                    have Hq2 := hidd (bel_then Hb1.out hb)
                    have hbase := Hq2.out.size
                    clear hb hk3 K1 HU1 Hb1
                    go_wp2_with (at_builtin; refine app_own rfl _ _ _ rfl w0.heap.size 2 (.int .i64 0) 8 Try.underlying22 info_i64 rfl HU2.out rfl rfl rfl hlen2 (by decide) hbase ?_; intro v' w6 ho hgr hle6; have Ho2 := hidd ho; have b2 := hidd (bel_own HU2.out hgr hbase); clear ho hgr)
                    go_roundw
                    case rel => exact ⟨K + 1, by omega, by go_num, hidd (by rw [HS.out]; exact Ho2.out), HA2, hidd (Hq2.out.trans b2.out)⟩
                    case measure => first | (simp [intOf]; done) | (simp [intOf]; omega)
              · have he : K = M := by omega
                subst he
                have HE := hidd (show pbK d (PF d n L) i K = pby d (PF d n L) (i + 1) by rw [HM.out, pbK_end])
                have HA2 := hidd (show AllP d n L (i + 1) 0 from fun i' k' hik hk' => HA.out i' k' (by
                  by_cases e : i' = i
                  · subst e; exact .inr ⟨rfl, by rw [HM.out]; exact hk'⟩
                  · exact .inl (by omega)) hk')
                clear hlK
                go_wp2_with (go_at_call 72; refine (HP2.out _).mono ?_; rintro e w9 ⟨rfl, rfl⟩)
                go_roundw
                case rel => exact ⟨i + 1, by omega, by go_num, hidd (by rw [← HE.out]; exact HU.out), HA2, Hb⟩
                case measure => first | (simp [intOf]; done) | (simp [intOf]; omega)
          · have he : i = n := by omega
            subst he
            have hcon := HA.out.con
            have HIp := hidd (isP_pno hcon)
            rw [if_neg (by rw [hcon]; decide)] at HV
            clear hcon HA hlt
            have HO := hidd (show Own wo w0.heap.size 2 _ (ints (pfO d i L)) from HU.out)
            clear HU
            obtain ⟨A2, c2, rfl⟩ := HO.out.slice
            go_wp2_with fail
            refine (l03Permutation_any d i HD.out hn _ _ HIp.out wo HO.out.rdI).mono ?_
            rintro e w3 ⟨⟨u3, rfl, ho3⟩, hb3⟩
            have HO3 := hidd (HO.out.below hb3)
            have Hb3 := hidd (bel_then Hb.out hb3)
            have HPl := hidd (show (prP d i (pfO d i L)).length = k by rw [HN.out]; simp [prP])
            have hR3 := ho3.rdI
            obtain ⟨P, hP⟩ : ∃ P, P = prP d i (pfO d i L) := ⟨_, rfl⟩
            rw [← hP] at HV HPl hR3 ho3
            obtain ⟨A3, c3, hu, hR3'⟩ := hR3
            rw [HPl.out] at hu
            subst hu
            have HR3 := hidd hR3'
            clear hb3 ho3 hP hR3' Hb HO
            go_wp2_with fail
            go_loopw [19] (fun y wr => ∃ q : Nat, q ≤ k ∧ y = .int .i64 q ∧ Hid (∀ j, j < q → P.getD j 0 = L.getD j 0) ∧ Hid (Below w3.heap.size w3 wr)) (fun y _ => k - (intOf y).toNat)
            case atStart => exact ⟨0, Nat.zero_le _, rfl, hidd (fun j hj => absurd hj (Nat.not_lt_zero _)), hidd (Below.refl _ _)⟩
            case round =>
              obtain ⟨q, hq, rfl, HE, Hb⟩ := hrel
              by_cases hlt : q < k
              · have i1 : (q : Int) < k := by omega
                have hqp : q < P.length := by rw [HPl.out]; exact hlt
                have hql : q < L.length := by rw [HL.out]; exact hlt
                obtain ⟨b1, o1, rfl, hc1⟩ := (HR3.out.below Hb.out).get hqp
                obtain ⟨b2, o2, hA, hc2⟩ := ((Hr.out.below Hb3.out).below Hb.out).rdS.get hql
                subst hA
                obtain ⟨x, hx⟩ : ∃ x, x = P[q] := ⟨_, rfl⟩
                obtain ⟨y, hy⟩ : ∃ y, y = L[q] := ⟨_, rfl⟩
                rw [← hx] at hc1
                rw [← hy] at hc2
                have HXY := hidd (show P.getD q 0 = x ∧ L.getD q 0 = y by
                  rw [List.getD_eq_getElem?_getD, List.getD_eq_getElem?_getD, List.getElem?_eq_getElem hqp, List.getElem?_eq_getElem hql, hx, hy]; exact ⟨rfl, rfl⟩)
                clear hx hy
                by_cases hxy : x = y
                · subst hxy
                  go_wp2_with fail
                  go_quiet (fail)
                  have bq := hidd (show Below wr.heap.size wr (wr.drewN nq) from bel_drewN (Below.refl _ _) _)
                  go_wp2_with fail
                  go_roundw
                  case rel =>
                    refine ⟨q + 1, by omega, by go_num, hidd (fun j hj => ?_), hidd (bel_then Hb.out bq.out)⟩
                    by_cases e : j = q
                    · subst e; rw [HXY.out.1, HXY.out.2]
                    · exact HE.out j (by omega)
                  case measure => first | (simp [intOf]; done) | (simp [intOf]; omega)
                · have hne : (x != y) = true := bne_iff_ne.2 hxy
                  have HR := hidd (show pfR d i L = none by
                    rw [HV.out, if_neg]
                    rintro rfl
                    exact hxy (HXY.out.1.symm.trans HXY.out.2))
                  go_wp2_with fail
                  go_quiet (fail)
                  have bq := hidd (show Below wr.heap.size wr (wr.drewN nq) from bel_drewN (Below.refl _ _) _)
                  go_wp2_with fail
                  go_ret2
                  exact ⟨⟨_, by rw [HR.out]; rfl, by rw [HR.out]; exact Own.nil _ _ _⟩, bel_then (bel_then Hb3.out Hb.out) bq.out⟩
              · have he : q = k := by omega
                subst he
                have hPL : P = L := by
                  apply List.ext_getElem?
                  intro j
                  by_cases hj : j < q
                  · have h1 := HE.out j hj
                    have a1 : j < P.length := by rw [HPl.out]; exact hj
                    have a2 : j < L.length := by rw [HL.out]; exact hj
                    rw [List.getD_eq_getElem?_getD, List.getD_eq_getElem?_getD, List.getElem?_eq_getElem a1, List.getElem?_eq_getElem a2] at h1
                    rw [List.getElem?_eq_getElem a1, List.getElem?_eq_getElem a2]
                    exact congrArg some h1
                  · rw [List.getElem?_eq_none (by rw [HPl.out]; omega), List.getElem?_eq_none (by rw [HL.out]; omega)]
                rw [if_pos hPL] at HV
                clear hPL hlt
                go_wp2_with fail
                go_ret2
                exact ⟨⟨_, by rw [HV.out]; rfl, by rw [HV.out]; exact HO3.out.below Hb.out⟩, bel_then Hb3.out Hb.out⟩
  · have HR := hidd (show pfR d n L = none from pfR_lv (by rw [lvB_iff, ← HN.out, decide_eq_false hl]; rfl))
    have i1 : ¬ (L.length : Int) = N := by omega
    clear hl
    go_enter Try.func56, Try.ntmps56
    go_wp2_with (go_at_call 72; refine (HP.out _).mono ?_; rintro e w9 ⟨rfl, rfl⟩)
    go_ret2
    exact ⟨⟨_, by rw [HR.out]; rfl, by rw [HR.out]; exact Own.nil _ _ _⟩, Below.refl _ _⟩
end Go.Proofs.Ytecdjmfohcnadaa
