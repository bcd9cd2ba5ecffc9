/- Walks: the signs of a portrait's levels, of the program and of the reference. -/
import Derived.Test.YtecdjmfohcnadaaPsg
namespace Go.Proofs.Ytecdjmfohcnadaa
open Go.RowKit
set_option linter.unusedSimpArgs false

/-- A slice's length is within its room. -/
def CapOk (v : Value) : Prop := ∀ A n c, v = .slice A n c → n ≤ c
theorem Own.capOk {w : World} {base : Nat} {e : TypeId} {v : Value} {vs : List Value} (h : Own w base e v vs) : CapOk v := fun A n c e2 => by
  rcases h.2 with ⟨h1, h2⟩ | ⟨g, cap, cur, h1, _, _, h3, _⟩
  · rw [h1] at e2; cases e2; exact Nat.le_refl _
  · rw [h1] at e2; cases e2; exact h3
theorem Own.empty' (w : World) (e : TypeId) (base : Nat) (hb : base ≤ w.heap.size) : Own (w.alloc (.cells #[] e)) base e (.slice (some ⟨w.heap.size, 0, none⟩) 0 0) [] :=
  ⟨rfl, .inr ⟨w.heap.size, 0, #[], rfl, hb, hp_new rfl, Nat.le_refl _, by unfold maxLen; omega, rfl, rfl⟩⟩
def sgS (d : Nat) (L : List Int) (i : Nat) : Nat → Nat
  | 0 => 0
  | j + 1 => sgS d L i j + odN d (L.getD (pst d i + j) 0).toNat
def sgK (d : Nat) (L : List Int) (k : Nat) : List Int := (List.range k).map fun i => (sgS d L i (d ^ i) % 2 : Nat)
theorem sgK_len (d : Nat) (L : List Int) (k : Nat) : (sgK d L k).length = k := by simp [sgK]
theorem sgK_succ (d : Nat) (L : List Int) (k : Nat) : sgK d L (k + 1) = sgK d L k ++ [((sgS d L k (d ^ k) % 2 : Nat) : Int)] := by simp [sgK, List.range_succ]
def sgR (d n : Int) (xs : List Int) : List Int × Int := if codeP d n [xs] = 0 then (sgK d.toNat xs n.toNat, 0) else ([], codeP d n [xs])
theorem codeP_le {d n : Int} {xss : List (List Int)} : codeP d n xss = 0 ∨ codeP d n xss = 1 ∨ codeP d n xss = 2 := by
  unfold codeP
  split
  · split
    · exact .inl rfl
    · exact .inr (.inl rfl)
  · exact .inr (.inr rfl)
theorem sgR_len (d n : Int) (xs : List Int) : (sgR d n xs).1.length ≤ 1048576 := by
  unfold sgR
  split
  · rename_i h
    obtain ⟨d', n', rfl, rfl, _, _, _, _⟩ := codeP_zero h
    show (sgK _ _ _).length ≤ _
    rw [sgK_len]; simp; omega
  · simp

set_option maxRecDepth 100000 in
set_option maxHeartbeats 2000000 in
theorem implSignsOf_any (d n : Int) (v : Value) (xs : List Int) (w : World) (hr : RdI w v xs) (hcap : CapOk v) :
    Calls Try.prog 19 #[.int .i64 d, .int .i64 n, v] w fun e w' => (∃ u, e = .returned (.tuple #[u, .int .i64 (sgR d n xs).2]) ∧ Own w' w.heap.size 2 u (ints (sgR d n xs).1)) ∧ Below w.heap.size w w' := by
  obtain ⟨A, c, rfl, hr⟩ := hr
  have hc := hcap A xs.length c rfl
  have Hr := hidd hr
  have HP := hidd (portraitCode_any d n _ [xs] _ (RdLL.lit1 ⟨A, c, rfl, hr⟩ 22 w.heap.size rfl))
  clear hr hcap
  by_cases h0 : codeP d n [xs] = 0
  · have HR : Hid (sgR d n xs = _) := hidd (if_pos h0)
    rw [h0] at HP
    obtain ⟨d', n', rfl, rfl, hd, hn1, hn4, hall⟩ := codeP_zero h0
    have hip := hall xs (List.mem_singleton.2 rfl)
    have HI := hidd hip
    have HD := hidd hd
    have HLn := hidd (isP_len hip)
    have hx121 : xs.length ≤ 121 := by rw [isP_len hip]; exact pst_bd hd (by omega)
    have HS := hidd (fun k (hk : k ≤ 5) W => size_any d' k hd hk W)
    have d23 := hd.le
    rw [Int.toNat_natCast, Int.toNat_natCast] at HR
    clear h0 hall hip hd
    go_enter Try.func19, Try.ntmps19
    go_wp2_with fail
    refine HP.out.mono ?_
    rintro e w1 ⟨rfl, hb⟩
    have B1 := hidd (bel_then (bel_alloc' _ _) hb)
    clear hb HP
    go_wp2_with fail
    go_loopw [9, 23] (fun u i wr => ∃ k : Nat, k ≤ n' ∧ i = .int .i64 k ∧ Hid (Own wr w1.heap.size 2 u (ints (sgK d' xs k))) ∧ Hid (Below w1.heap.size w1 wr)) (fun _ i _ => n' - (intOf i).toNat)
    case atStart => exact ⟨0, Nat.zero_le _, rfl, hidd (Own.nil _ _ _), hidd (Below.refl _ _)⟩
    case round =>
      obtain ⟨k, hk, rfl, HU, Hb⟩ := hrel
      obtain ⟨wo, rfl⟩ : ∃ wo, wo = wr := ⟨_, rfl⟩
      by_cases hlt : k < n'
      · have i1 : (k : Int) < n' := by omega
        have HS1 := hidd (HS.out k (by omega))
        have HS2 := hidd (HS.out (k + 1) (by omega))
        have hle : pst d' (k + 1) ≤ xs.length := by rw [HLn.out]; exact pst_mono d' hlt
        obtain ⟨p, hp⟩ : ∃ p, p = pst d' k := ⟨_, rfl⟩
        obtain ⟨q, hq⟩ : ∃ q, q = d' ^ k := ⟨_, rfl⟩
        have hpq : pst d' (k + 1) = p + q := by rw [hp, hq]; rfl
        rw [hpq] at hle HS2
        rw [← hp] at HS1
        have HPp := hidd hp
        have HQq := hidd hq
        have q0 : 0 < q := by rw [hq]; exact Nat.pow_pos (by omega)
        clear hp hq hpq
        obtain ⟨b, o, rfl, _⟩ := Hr.out.get (show p < xs.length by omega)
        have j1 : (p : Int) ≤ ((p + q : Nat) : Int) := by omega
        have j2 : ((p + q : Nat) : Int) ≤ c := by omega
        have j3 : (0 : Int) ≤ p := by omega
        go_wp2_with (go_at_call 37; first | (rw [show ((k : Int) + 1) = ((k + 1 : Nat) : Int) by omega]; refine (HS2.out _).mono ?_; rintro e w5 ⟨rfl, rfl⟩) | (refine (HS1.out _).mono ?_; rintro e w5 ⟨rfl, rfl⟩))
        rw [show p + q - p = q by omega]
        clear j1 j2 j3 HS1 HS2 i1
        go_loopw [11, 36] (fun s i wr => ∃ j : Nat, j ≤ q ∧ i = .int .i64 j ∧ s = .int .i64 (sgS d' xs k j % 2 : Nat) ∧ Hid (Below wo.heap.size wo wr)) (fun _ i _ => q - (intOf i).toNat)
        case atStart => exact ⟨0, Nat.zero_le _, rfl, rfl, hidd (Below.refl _ _)⟩
        case round =>
          obtain ⟨j, hj, rfl, rfl, Hq⟩ := hrel
          by_cases hjq : j < q
          · have j1 : (j : Int) < q := by omega
            have j2 : (0 : Int) ≤ j := by omega
            obtain ⟨m, hm, hmc⟩ := isP_get HI.out (show pst d' k + j < pst d' n' by rw [← HLn.out, ← HPp.out]; omega)
            rw [← HPp.out] at hm
            have hxs : xs[p + j]? = some (m : Int) := by
              rw [List.getElem?_eq_getElem (show p + j < xs.length by omega)]
              rw [List.getD_eq_getElem?_getD, List.getElem?_eq_getElem (show p + j < xs.length by omega)] at hm
              rw [← hm]; rfl
            have hcl : wr.cell? ⟨b, o + p + j, none⟩ = some (.int .i64 (m : Nat)) := by
              obtain ⟨b', o', e', hc0⟩ := ((((Hr.out.below B1.out).below Hb.out).below Hq.out)).at_ (j := p + j) (v := .int .i64 (m : Nat)) (by rw [ints_get, hxs]; rfl)
              cases e'
              rw [Nat.add_assoc]; exact hc0
            have HSS := hidd (show sgS d' xs k (j + 1) = sgS d' xs k j + odN d' m by rw [sgS, ← HPp.out, hm, Int.toNat_natCast])
            have hodd := isO_pil HD.out hmc
            have HPM := hidd (permutationsAt_any d' HD.out wr)
            have hc6 := @pcn_le d'
            obtain ⟨P, hPP⟩ : ∃ P, P = pcn d' := ⟨_, rfl⟩
            rw [← hPP] at hmc hc6
            have HPP := hidd hPP
            have j3 : (m : Int) < P := by omega
            have j4 : (0 : Int) ≤ m := by omega
            clear hm hxs hPP
            go_wp2_with fail
            refine HPM.out.mono ?_
            rintro e w5 ⟨⟨v, rfl, g, rfl, hpm⟩, hb⟩
            obtain ⟨b2, t2, hc1, hc2⟩ := hpm m (by rw [← HPP.out]; exact hmc)
            rw [← HPP.out]
            have HO := isOdd_any b2 (pil d' m) w5 hc2 (by rw [pil_len']; omega)
            rw [pil_len', hodd.1] at HO
            have HO := hidd HO
            have Hq2 := hidd (bel_then Hq.out hb)
            have hod1 := hodd.2
            obtain ⟨s, hs⟩ : ∃ s, s = sgS d' xs k j := ⟨_, rfl⟩
            rw [← hs] at HSS ⊢
            clear hpm hc2 hb HPM hs
            by_cases ho : odN d' m = 1
            · rw [decide_eq_true ho] at HO
              have HE := hidd (show 1 - ((s % 2 : Nat) : Int) = (((s + odN d' m) % 2 : Nat) : Int) by rw [ho]; omega)
              have hs2 : (s % 2 : Nat) ≤ 1 := by omega
              obtain ⟨z, hz⟩ : ∃ z, z = s % 2 := ⟨_, rfl⟩
              rw [← hz] at HE hs2 ⊢
              clear ho hodd hz hod1 hcl
              go_wp2_with fail
              refine HO.out.mono ?_
              rintro e w6 ⟨rfl, rfl⟩
              go_wp2_with fail
              go_roundw
              case rel => exact ⟨j + 1, by omega, by go_num, by rw [HSS.out, ← HE.out], Hq2⟩
              case measure => first | (simp [intOf]; done) | (simp [intOf]; omega)
            · rw [decide_eq_false ho] at HO
              have HE := hidd (show s % 2 = (s + odN d' m) % 2 by rw [show odN d' m = 0 by omega]; rfl)
              obtain ⟨z, hz⟩ : ∃ z, z = s % 2 := ⟨_, rfl⟩
              rw [← hz] at HE ⊢
              clear ho hodd hz hod1 hcl
              go_wp2_with fail
              refine HO.out.mono ?_
              rintro e w6 ⟨rfl, rfl⟩
              go_wp2_with fail
              go_roundw
              case rel => exact ⟨j + 1, by omega, by go_num, by rw [HSS.out, ← HE.out], Hq2⟩
              case measure => first | (simp [intOf]; done) | (simp [intOf]; omega)
          · have he : j = q := by omega
            subst he
            have HK := hidd (show ints (sgK d' xs (k + 1)) = ints (sgK d' xs k) ++ [.int .i64 (sgS d' xs k j % 2 : Nat)] by rw [sgK_succ, ints_append, ← HQq.out]; rfl)
            obtain ⟨z, hz⟩ : ∃ z, z = sgS d' xs k j % 2 := ⟨_, rfl⟩
            rw [← hz] at HK ⊢
            have Hb2 := hidd (bel_then Hb.out Hq.out)
            have HU2 := hidd (HU.out.below Hq.out)
            have hbase := Hb2.out.size
            have hlen2 : (ints (sgK d' xs k)).length + 1 ≤ 1099511627776 := by rw [ints_length, sgK_len]; omega
            clear hjq hz Hq HU Hb
            go_wp2_with (at_builtin; refine app_own rfl _ _ _ rfl w1.heap.size 2 (.int .i64 0) 8 Try.underlying22 info_i64 rfl HU2.out rfl rfl rfl hlen2 (by decide) hbase ?_; intro v' w6 ho hgr hle6; have Ho2 := hidd ho; have b2 := hidd (bel_own HU2.out hgr hbase); clear ho hgr)
            go_roundw
            case rel => exact ⟨k + 1, by omega, by go_num, hidd (by rw [HK.out]; exact Ho2.out), hidd (Hb2.out.trans b2.out)⟩
            case measure => first | (simp [intOf]; done) | (simp [intOf]; omega)
      · have he : k = n' := by omega
        subst he
        clear hlt
        go_wp2_with fail
        go_ret2
        exact ⟨⟨_, by rw [HR.out]; rfl, by rw [HR.out]; exact HU.out.mono B1.out.size⟩, bel_then B1.out Hb.out⟩
  · have HR : Hid (sgR d n xs = ([], codeP d n [xs])) := hidd (if_neg h0)
    obtain ⟨cd, hcd⟩ : ∃ cd, cd = codeP d n [xs] := ⟨_, rfl⟩
    rw [← hcd] at HR HP h0
    have h1 : (cd == 0) = false := by simp [h0]
    have h2 : (cd != 0) = true := by simp [h0]
    clear h0 hcd
    go_enter Try.func19, Try.ntmps19
    go_wp2_with fail
    refine HP.out.mono ?_
    rintro e w1 ⟨rfl, hb⟩
    go_wp2_with fail
    go_ret2
    exact ⟨⟨_, by rw [HR.out]; rfl, by rw [HR.out]; exact Own.nil _ _ _⟩, bel_then (bel_alloc' _ _) hb⟩

theorem sgS_le {d n : Nat} (hd : Dd d) {xs : List Int} (h : isP d n xs = true) {k : Nat} : ∀ j, pst d k + j ≤ pst d n → sgS d xs k j ≤ j
  | 0, _ => Nat.le_refl _
  | j + 1, hj => by
    have := sgS_le (n := n) (k := k) hd h j (by omega)
    obtain ⟨m, hm, hmc⟩ := isP_get h (show pst d k + j < pst d n by omega)
    have h2 := (isO_pil hd hmc).2
    rw [sgS, hm, Int.toNat_natCast]
    omega
set_option maxRecDepth 100000 in
set_option maxHeartbeats 2000000 in
theorem specSignsOf_any (d n : Int) (v : Value) (xs : List Int) (w : World) (hr : RdI w v xs) :
    Calls Try.prog 18 #[.int .i64 d, .int .i64 n, v] w fun e w' => (∃ u, e = .returned (.tuple #[u, .int .i64 (sgR d n xs).2]) ∧ Own w' w.heap.size 2 u (ints (sgR d n xs).1)) ∧ Below w.heap.size w w' := by
  obtain ⟨A, c, rfl, hr⟩ := hr
  have Hr := hidd hr
  have HP := hidd (l03Code_any d n _ [xs] _ (RdLL.lit1 ⟨A, c, rfl, hr⟩ 22 w.heap.size rfl))
  clear hr
  by_cases h0 : codeP d n [xs] = 0
  · have HR : Hid (sgR d n xs = _) := hidd (if_pos h0)
    rw [h0] at HP
    obtain ⟨d', n', rfl, rfl, hd, hn1, hn4, hall⟩ := codeP_zero h0
    have hip := hall xs (List.mem_singleton.2 rfl)
    have HI := hidd hip
    have HD := hidd hd
    have HLn := hidd (isP_len hip)
    have hx121 : xs.length ≤ 121 := by rw [isP_len hip]; exact pst_bd hd (by omega)
    have HS := hidd (fun k (hk : k ≤ 5) W => l03Start_any d' k hd hk W)
    have d23 := hd.le
    rw [Int.toNat_natCast, Int.toNat_natCast] at HR
    clear h0 hall hip hd
    go_enter Try.func18, Try.ntmps18
    go_wp2_with fail
    refine HP.out.mono ?_
    rintro e w1 ⟨rfl, hb⟩
    have hb : Below (w.alloc (.cells #[.slice A xs.length c] 22)).heap.size (w.alloc (.cells #[.slice A xs.length c] 22)) w1 := by obtain ⟨q, e⟩ := hb; rw [e]; exact bel_drewN (Below.refl _ _) _
    have B1 := hidd (bel_then (bel_alloc' _ _) hb)
    clear hb HP
    go_wp2_with fail
    have B2 := hidd (show Below w1.heap.size w1 (w1.alloc (.cells #[] 2)) from bel_alloc' _ _)
    have U2 := hidd (Own.empty' w1 2 w1.heap.size (Nat.le_refl _))
    go_loopw [9, 10] (fun u i wr => ∃ k : Nat, k ≤ n' ∧ i = .int .i64 k ∧ Hid (Own wr w1.heap.size 2 u (ints (sgK d' xs k))) ∧ Hid (Below w1.heap.size w1 wr)) (fun _ i _ => n' - (intOf i).toNat)
    case atStart => exact ⟨0, Nat.zero_le _, rfl, U2, B2⟩
    case round =>
      clear U2 B2
      obtain ⟨k, hk, rfl, HU, Hb⟩ := hrel
      obtain ⟨wo, rfl⟩ : ∃ wo, wo = wr := ⟨_, rfl⟩
      by_cases hlt : k < n'
      · have i1 : (k : Int) < n' := by omega
        have HS1 := hidd (HS.out k (by omega))
        have HS2 := hidd (HS.out (k + 1) (by omega))
        have hle : pst d' (k + 1) ≤ xs.length := by rw [HLn.out]; exact pst_mono d' hlt
        obtain ⟨p, hp⟩ : ∃ p, p = pst d' k := ⟨_, rfl⟩
        obtain ⟨q, hq⟩ : ∃ q, q = d' ^ k := ⟨_, rfl⟩
        have hpq : pst d' (k + 1) = p + q := by rw [hp, hq]; rfl
        rw [hpq] at hle HS2
        rw [← hp] at HS1
        have HPp := hidd hp
        have HQq := hidd hq
        have q0 : 0 < q := by rw [hq]; exact Nat.pow_pos (by omega)
        clear hp hq hpq
        obtain ⟨b, o, rfl, _⟩ := Hr.out.get (show p < xs.length by omega)
        go_wp2_with (go_at_call 46; refine (HS1.out _).mono ?_; rintro e w5 ⟨rfl, rfl⟩)
        clear HS1 i1
        go_loopw [11, 12] (fun s i wr => ∃ j : Nat, j ≤ q ∧ i = .int .i64 (p + j : Nat) ∧ s = .int .i64 (sgS d' xs k j : Nat) ∧ Hid (Below wo.heap.size wo wr)) (fun _ i _ => p + q - (intOf i).toNat)
        case atStart => exact ⟨0, Nat.zero_le _, rfl, rfl, hidd (Below.refl _ _)⟩
        case round =>
          obtain ⟨j, hj, rfl, rfl, Hq⟩ := hrel
          have hsb := sgS_le (n := n') HD.out HI.out (k := k) j (by rw [← HLn.out, ← HPp.out]; omega)
          by_cases hjq : j < q
          · have j1 : ((p + j : Nat) : Int) < ((p + q : Nat) : Int) := by omega
            have j2 : ((p + j : Nat) : Int) < xs.length := by omega
            obtain ⟨m, hm, hmc⟩ := isP_get HI.out (show pst d' k + j < pst d' n' by rw [← HLn.out, ← HPp.out]; omega)
            rw [← HPp.out] at hm
            have hxs : xs[p + j]? = some (m : Int) := by
              rw [List.getElem?_eq_getElem (show p + j < xs.length by omega)]
              rw [List.getD_eq_getElem?_getD, List.getElem?_eq_getElem (show p + j < xs.length by omega)] at hm
              rw [← hm]; rfl
            have hcl : wr.cell? ⟨b, o + (p + j), none⟩ = some (.int .i64 (m : Nat)) := by
              obtain ⟨b', o', e', hc0⟩ := ((((Hr.out.below B1.out).below Hb.out).below Hq.out)).at_ (j := p + j) (v := .int .i64 (m : Nat)) (by rw [ints_get, hxs]; rfl)
              cases e'
              exact hc0
            have HSS := hidd (show sgS d' xs k (j + 1) = sgS d' xs k j + odN d' m by rw [sgS, ← HPp.out, hm, Int.toNat_natCast])
            have hod1 := (isO_pil HD.out hmc).2
            have HO := hidd (fun W => l03Odd_any d' m HD.out hmc W)
            obtain ⟨s, hs⟩ : ∃ s, s = sgS d' xs k j := ⟨_, rfl⟩
            rw [← hs] at HSS hsb ⊢
            obtain ⟨z, hz⟩ : ∃ z, z = odN d' m := ⟨_, rfl⟩
            rw [← hz] at HSS hod1 HO
            obtain ⟨y, hy⟩ : ∃ y, y = p + j := ⟨_, rfl⟩
            rw [← hy] at j1 j2 hcl ⊢
            have HY := hidd hy
            clear hm hxs hs hz hy hmc
            go_wp2_with (first | (go_at_call 46; rw [show ((k : Int) + 1) = ((k + 1 : Nat) : Int) by omega]; refine (HS2.out _).mono ?_; rintro e w5 ⟨rfl, rfl⟩) | (go_at_call 47; refine (HO.out _).mono ?_; rintro e w6 ⟨rfl, hb⟩; have Hq2 := hidd (bel_then Hq.out hb); clear hb))
            go_roundw
            case rel => exact ⟨j + 1, by omega, by rw [HY.out]; go_num, by rw [HSS.out]; go_num, Hq2⟩
            case measure => first | (simp [intOf]; done) | (simp [intOf]; omega)
          · have he : j = q := by omega
            subst he
            have j1 : ¬ ((p + j : Nat) : Int) < ((p + j : Nat) : Int) := by omega
            have HK := hidd (show ints (sgK d' xs (k + 1)) = ints (sgK d' xs k) ++ [.int .i64 (sgS d' xs k j % 2 : Nat)] by rw [sgK_succ, ints_append, ← HQq.out]; rfl)
            obtain ⟨s, hs⟩ : ∃ s, s = sgS d' xs k j := ⟨_, rfl⟩
            rw [← hs] at HK hsb ⊢
            obtain ⟨z, hz⟩ : ∃ z, z = s % 2 := ⟨_, rfl⟩
            rw [← hz] at HK
            have e1 : (s : Int) % 2 = (z : Int) := by omega
            have e2 : (s : Int).tmod 2 = (z : Int) := by rw [Int.tmod_eq_emod_of_nonneg (by omega), e1]
            have Hb2 := hidd (bel_then Hb.out Hq.out)
            have HU2 := hidd (HU.out.below Hq.out)
            have hbase := Hb2.out.size
            have hlen2 : (ints (sgK d' xs k)).length + 1 ≤ 1099511627776 := by rw [ints_length, sgK_len]; omega
            clear hjq hz Hq HU Hb hs
            go_wp2_with (first | (go_at_call 46; rw [show ((k : Int) + 1) = ((k + 1 : Nat) : Int) by omega]; refine (HS2.out _).mono ?_; rintro e w5 ⟨rfl, rfl⟩) | (at_builtin; refine app_own rfl _ _ _ rfl w1.heap.size 2 (.int .i64 0) 8 Try.underlying22 info_i64 rfl HU2.out rfl rfl rfl hlen2 (by decide) hbase ?_; intro v' w6 ho hgr hle6; have Ho2 := hidd ho; have b2 := hidd (bel_own HU2.out hgr hbase); clear ho hgr))
            go_roundw
            case rel => exact ⟨k + 1, by omega, by go_num, hidd (by rw [HK.out]; exact Ho2.out), hidd (Hb2.out.trans b2.out)⟩
            case measure => first | (simp [intOf]; done) | (simp [intOf]; omega)
      · have he : k = n' := by omega
        subst he
        clear hlt
        go_wp2_with fail
        go_ret2
        exact ⟨⟨_, by rw [HR.out]; rfl, by rw [HR.out]; exact HU.out.mono B1.out.size⟩, bel_then B1.out Hb.out⟩
  · have HR : Hid (sgR d n xs = ([], codeP d n [xs])) := hidd (if_neg h0)
    obtain ⟨cd, hcd⟩ : ∃ cd, cd = codeP d n [xs] := ⟨_, rfl⟩
    rw [← hcd] at HR HP h0
    have h1 : (cd == 0) = false := by simp [h0]
    have h2 : (cd != 0) = true := by simp [h0]
    clear h0 hcd
    go_enter Try.func18, Try.ntmps18
    go_wp2_with fail
    refine HP.out.mono ?_
    rintro e w1 ⟨rfl, q, rfl⟩
    go_wp2_with fail
    go_ret2
    exact ⟨⟨_, by rw [HR.out]; rfl, by rw [HR.out]; exact Own.nil _ _ _⟩, bel_drewN (bel_alloc' _ _) _⟩
end Go.Proofs.Ytecdjmfohcnadaa
