/- Walks: the permutation of a level that a portrait makes, of the program and of the reference. -/
import Derived.Test.YtecdjmfohcnadaaPac
namespace Go.Proofs.Ytecdjmfohcnadaa
open Go.RowKit
set_option linter.unusedSimpArgs false

theorem tl_get (d : Nat) : ∀ (n k : Nat) {i : Nat}, i < n → (tl d n k)[i]? = some (48 + (k / d ^ (n - 1 - i) % d : Nat) : Int)
  | 0, _, i, h => absurd h (Nat.not_lt_zero _)
  | n + 1, k, 0, _ => by rw [tl]; simp
  | n + 1, k, i + 1, h => by
    rw [tl, List.getElem?_cons_succ, tl_get d n k (by omega), show n + 1 - 1 - (i + 1) = n - 1 - i by omega]
theorem lt_wd {d : Nat} (hd : Dd d) (n k : Nat) {i : Nat} (hi : i < n) : lt (wd d n k) i = k / d ^ (n - 1 - i) % d := by
  have h := hd.le
  have hl : i < (tl d n k).length := by rw [tl_len]; exact hi
  have hb := (bytes_get (xs := tl d n k) (fun x hx => by have := tl_byte d (by omega) h.2 n k x hx; omega) hl).1
  unfold wd
  rw [hb]
  have e := tl_get d n k hi
  rw [List.getElem?_eq_getElem hl] at e
  rw [Option.some.inj e]
  omega
theorem nbr_wd {d : Nat} (hd : Dd d) {n k : Nat} (hk : k < d ^ n) : ∀ i, i ≤ n → nbr d (wd d n k) i = k / d ^ (n - i)
  | 0, _ => by rw [nbr, Nat.sub_zero, Nat.div_eq_of_lt hk]
  | i + 1, hi => by
    have e : n - i = (n - (i + 1)) + 1 := by omega
    rw [nbr, nbr_wd hd hk i (by omega), lt_wd hd n k (by omega), e, Nat.pow_succ, ← Nat.div_div_eq_div_mul, show n - 1 - i = n - (i + 1) by omega]
    exact split_d
theorem nbr_wd_all {d : Nat} (hd : Dd d) {n k : Nat} (hk : k < d ^ n) : nbr d (wd d n k) n = k := by
  rw [nbr_wd hd hk n (Nat.le_refl _)]; simp
theorem nbr_acT {d : Nat} (hd : Dd d) (L : List Int) {n k : Nat} (hk : k < d ^ n) : nbr d (acT d L (wd d n k)) n = aN d L n k := by
  have h := hd.le
  have := nbr_act hd L (wd_lts (show 1 ≤ d by omega) h.2 n k) n (by rw [wd_size]; exact Nat.le_refl _)
  rw [this, nbr_wd_all hd hk]
theorem prmK_prP {d : Nat} (hd : Dd d) (n : Nat) (L : List Int) : prmK d n (acT d L) (d ^ n) = prP d n L := by
  unfold prmK prP
  refine List.map_congr_left fun k hk => ?_
  rw [nbr_acT hd L (List.mem_range.1 hk)]

theorem ofPortrait1_any (d n : Nat) (hd : Dd d) (hn : n ≤ 4) (v : Value) (xs : List Int) (hip : isP d n xs = true) (s : ByteArray) (hl : Lts d s) (hs : s.size ≤ n) (B C : Nat) (w : World) (hr : RdI w v xs)
    {t t' : TypeId} (hB : w.heap[B]? = some (.cells #[.int .i64 (d : Nat)] t (0, 0))) (hC : w.heap[C]? = some (.cells #[v] t' (0, 0))) :
    Calls Try.prog 81 #[.string s, .pointer (some ⟨B, 0, none⟩), .pointer (some ⟨C, 0, none⟩)] w fun e w' => e = .returned (.string (acT d xs s)) ∧ Below w.heap.size w w' := by
  have k1 := blkc hB 0
  have k2 := blkc hC 0
  have HA := hidd (act_any d n hd hn v xs hip s hl hs w hr)
  obtain ⟨A, c, rfl, hq⟩ := hr
  clear hB hC hq hip hl hs hd
  go_enter Try.func81, Try.ntmps81
  go_wp2_with fail
  refine HA.out.mono ?_
  rintro e w2 ⟨rfl, hb⟩
  clear k1 k2
  go_wp2_with fail
  go_ret
  exact ⟨rfl, hb⟩
set_option maxRecDepth 100000 in
set_option maxHeartbeats 1000000 in
theorem ofPortrait_any (d n : Nat) (hd : Dd d) (hn : n ≤ 4) (v : Value) (xs : List Int) (hip : isP d n xs = true) (w : World) (hr : RdI w v xs) :
    Calls Try.prog 55 #[.int .i64 (d : Nat), .int .i64 (n : Nat), v] w fun e w' => (∃ u, e = .returned u ∧ Own w' w.heap.size 2 u (ints (prP d n xs))) ∧ Below w.heap.size w w' := by
  have HR := hidd hr
  have HD := hidd hd
  have HI := hidd hip
  have d23 := hd.le
  obtain ⟨A0, c0, rfl, hq0⟩ := hr
  clear hip hq0 hd
  go_enter Try.func55, Try.ntmps55
  go_wp2_with fail
  obtain ⟨w2, hw2⟩ : ∃ w2, w2 = (w.alloc (.cells #[.int .i64 (d : Nat)] 2)).alloc (.cells #[.slice A0 xs.length c0] 22) := ⟨_, rfl⟩
  rw [← hw2]
  have B2 := hidd (show Below w.heap.size w w2 by rw [hw2]; exact (bel_alloc' _ _).alloc (by simp) _)
  have K1 := hidd (show w2.heap[w.heap.size]? = some (.cells #[.int .i64 (d : Nat)] 2 (0, 0)) by rw [hw2]; exact hp_old (hp_new rfl))
  have K2 := hidd (show w2.heap[w.heap.size + 1]? = some (.cells #[.slice A0 xs.length c0] 22 (0, 0)) by rw [hw2]; exact hp_new (by simp))
  clear hw2
  have hp := permutation_any d n (d ^ n) d23.1 d23.2 (by omega) rfl (acT d xs) (fun i _ => ⟨acT_lts HD.out xs _, by rw [acT_size, wd_size]⟩) 81 #[.pointer (some ⟨w.heap.size, 0, none⟩), .pointer (some ⟨w.heap.size + 1, 0, none⟩)] (fun _ _ => rfl) w2 (fun i W _ hb =>
    ofPortrait1_any d n HD.out hn _ xs HI.out (wd d n i) (wd_lts (by omega) d23.2 n i) (by rw [wd_size]; exact Nat.le_refl _) w.heap.size (w.heap.size + 1) W ((HR.out.below B2.out).below hb) (hp_bel K1.out hb) (hp_bel K2.out hb))
  rw [prmK_prP HD.out] at hp
  refine hp.mono ?_
  rintro e w3 ⟨⟨u, rfl, ho⟩, hb⟩
  clear hp
  go_wp2_with fail
  go_ret
  exact ⟨⟨_, rfl, ho.mono B2.out.size⟩, bel_then B2.out hb⟩

theorem prK_succ {d n k : Nat} (L : List Int) : (List.range (k + 1)).map (fun i => (aN d L n i : Int)) = (List.range k).map (fun i => (aN d L n i : Int)) ++ [(aN d L n k : Int)] := by simp [List.range_succ]
set_option maxRecDepth 100000 in
set_option maxHeartbeats 1000000 in
theorem l03Permutation_any (d n : Nat) (hd : Dd d) (hn : n ≤ 4) (v : Value) (xs : List Int) (hip : isP d n xs = true) (w : World) (hr : RdI w v xs) :
    Calls Try.prog 54 #[.int .i64 (d : Nat), .int .i64 (n : Nat), v] w fun e w' => (∃ u, e = .returned u ∧ Own w' w.heap.size 2 u (ints (prP d n xs))) ∧ Below w.heap.size w w' := by
  have Hr := hidd hr
  have HD := hidd hd
  have HI := hidd hip
  have d23 := hd.le
  have HW := hidd (fun W => l01Power_any d n d23.2 (by omega) W)
  have hN := pow_bd d23.2 (show n ≤ 5 by omega)
  have HE := hidd (show prP d n xs = (List.range (d ^ n)).map (fun i => (aN d xs n i : Int)) from rfl)
  obtain ⟨N, hNn⟩ : ∃ N, N = d ^ n := ⟨_, rfl⟩
  rw [← hNn] at HW hN HE
  have HN := hidd hNn
  obtain ⟨A, c, rfl, hq⟩ := hr
  clear hip hq hd hNn
  go_enter Try.func54, Try.ntmps54
  go_wp2_with fail
  have U1 := hidd (Own.empty' w 2 w.heap.size (Nat.le_refl _))
  have B1 := hidd (bel_alloc' w (.cells #[] 2))
  go_loopw [7, 8] (fun u i wr => ∃ k : Nat, k ≤ N ∧ i = .int .i64 k ∧ Hid (Own wr w.heap.size 2 u (ints ((List.range k).map (fun i => (aN d xs n i : Int))))) ∧ Hid (Below w.heap.size w wr)) (fun _ i _ => N - (intOf i).toNat)
  case atStart => exact ⟨0, Nat.zero_le _, rfl, U1, B1⟩
  case round =>
    clear U1 B1
    obtain ⟨k, hk, rfl, HU, Hb⟩ := hrel
    by_cases hlt : k < N
    · have i1 : (k : Int) < N := by omega
      have hkd : k < d ^ n := by rw [← HN.out]; exact hlt
      have HK := hidd hkd
      clear hkd
      go_wp2_with (go_at_call 72; refine (HW.out _).mono ?_; rintro e w9 ⟨rfl, rfl⟩)
      refine (l01WordOf_any d d23.1 d23.2 n k (by omega) (by omega) wr).mono ?_
      rintro e w2 ⟨rfl, hb⟩
      have HU2 := hidd (HU.out.below hb)
      have Hb2 := hidd (bel_then Hb.out hb)
      clear hb HU Hb
      go_wp2_with fail
      refine (l03Act_any d n HD.out hn _ xs HI.out (wd d n k) (wd_lts (by omega) d23.2 n k) (by rw [wd_size]; exact Nat.le_refl _) w2 (Hr.out.below Hb2.out)).mono ?_
      rintro e w3 ⟨rfl, hb⟩
      have HU3 := hidd (HU2.out.below hb)
      have Hb3 := hidd (bel_then Hb2.out hb)
      clear hb HU2 Hb2
      have hnb := l01NumberOf_any d d23.2 (acT d xs (wd d n k)) (acT_lts HD.out xs _) (by rw [acT_size, wd_size]; omega) w3
      rw [acT_size, wd_size, nbr_acT HD.out xs HK.out] at hnb
      have HNB := hidd hnb
      clear hnb
      have HS := hidd (show ints ((List.range (k + 1)).map (fun i => (aN d xs n i : Int))) = ints ((List.range k).map (fun i => (aN d xs n i : Int))) ++ [.int .i64 (aN d xs n k : Nat)] by rw [prK_succ, ints_append]; rfl)
      obtain ⟨T, hT⟩ : ∃ T, T = acT d xs (wd d n k) := ⟨_, rfl⟩
      rw [← hT] at HNB ⊢
      have hab : aN d xs n k ≤ 243 := by have := aN_lt HD.out xs n k; rw [← HN.out] at this; omega
      obtain ⟨z, hz⟩ : ∃ z, z = aN d xs n k := ⟨_, rfl⟩
      rw [← hz] at HNB HS hab
      have hlen2 : (ints ((List.range k).map (fun i => (aN d xs n i : Int)))).length + 1 ≤ 1099511627776 := by simp [ints]; omega
      have hbase := Hb3.out.size
      clear hT hz
      go_wp2_with (first | (go_at_call 79; refine HNB.out.mono ?_; rintro e w9 ⟨rfl, rfl⟩) | (at_builtin; refine app_own rfl _ _ _ rfl w.heap.size 2 (.int .i64 0) 8 Try.underlying22 info_i64 rfl HU3.out rfl rfl rfl hlen2 (by decide) hbase ?_; intro v' w6 ho hgr hle6; have Ho2 := hidd ho; have b2 := hidd (bel_own HU3.out hgr hbase); clear ho hgr))
      go_roundw
      case rel => exact ⟨k + 1, by omega, by go_num, hidd (by rw [HS.out]; exact Ho2.out), hidd (Hb3.out.trans b2.out)⟩
      case measure => first | (simp [intOf]; done) | (simp [intOf]; omega)
    · have he : k = N := by omega
      subst he
      clear hlt
      go_wp2_with (go_at_call 72; refine (HW.out _).mono ?_; rintro e w9 ⟨rfl, rfl⟩)
      go_ret
      exact ⟨⟨_, rfl, by rw [HE.out]; exact HU.out⟩, Hb.out⟩

/-! ### PermutationOfPortrait -/
def poR (d n : Int) (xs : List Int) : List Int × Int := if codeP d n [xs] = 0 then (prP d.toNat n.toNat xs, 0) else ([], codeP d n [xs])
theorem poR_len (d n : Int) (xs : List Int) : (poR d n xs).1.length ≤ 1048576 := by
  unfold poR
  split
  · rename_i h
    obtain ⟨d', n', rfl, rfl, hd, _, _, _⟩ := codeP_zero h
    have := pow_bd hd.le.2 (show n' ≤ 5 by omega)
    show (prP _ _ _).length ≤ _
    rw [prP_len, Int.toNat_natCast, Int.toNat_natCast]; omega
  · simp
set_option maxRecDepth 100000 in
set_option maxHeartbeats 1000000 in
theorem implPermutationOfPortrait_any (d n : Int) (v : Value) (xs : List Int) (w : World) (hr : RdI w v xs) :
    Calls Try.prog 25 #[.int .i64 d, .int .i64 n, v] w fun e w' => (∃ u, e = .returned (.tuple #[u, .int .i64 (poR d n xs).2]) ∧ Own w' w.heap.size 2 u (ints (poR d n xs).1)) ∧ Below w.heap.size w w' := by
  have Hr := hidd hr
  obtain ⟨A, c, rfl, hr⟩ := hr
  have HP := hidd (portraitCode_any d n _ [xs] _ (RdLL.lit1 ⟨A, c, rfl, hr⟩ 22 w.heap.size rfl))
  clear hr
  by_cases h0 : codeP d n [xs] = 0
  · have HR : Hid (poR d n xs = _) := hidd (if_pos h0)
    rw [h0] at HP
    obtain ⟨d', n', rfl, rfl, hd, hn1, hn4, hall⟩ := codeP_zero h0
    have HO := hidd (fun W (hrW : RdI W (.slice A xs.length c) xs) => ofPortrait_any d' n' hd hn4 _ xs (hall xs (List.mem_singleton.2 rfl)) W hrW)
    rw [Int.toNat_natCast, Int.toNat_natCast] at HR
    clear h0 hall hd
    go_enter Try.func25, Try.ntmps25
    go_wp2_with fail
    refine HP.out.mono ?_
    rintro e w1 ⟨rfl, hb⟩
    have B1 := hidd (bel_then (bel_alloc' _ _) (show Below (w.alloc (.cells #[.slice A xs.length c] 22)).heap.size (w.alloc (.cells #[.slice A xs.length c] 22)) w1 from hb))
    clear hb HP
    go_wp2_with fail
    refine (HO.out _ (Hr.out.below B1.out)).mono ?_
    rintro e w2 ⟨⟨u, rfl, ho⟩, hb⟩
    go_wp2_with fail
    go_ret2
    exact ⟨⟨_, by rw [HR.out]; rfl, by rw [HR.out]; exact ho.mono B1.out.size⟩, bel_then B1.out hb⟩
  · have HR : Hid (poR d n xs = ([], codeP d n [xs])) := hidd (if_neg h0)
    obtain ⟨cd, hcd⟩ : ∃ cd, cd = codeP d n [xs] := ⟨_, rfl⟩
    rw [← hcd] at HR HP h0
    have h1 : (cd == 0) = false := by simp [h0]
    have h2 : (cd != 0) = true := by simp [h0]
    clear h0 hcd
    go_enter Try.func25, Try.ntmps25
    go_wp2_with fail
    refine HP.out.mono ?_
    rintro e w1 ⟨rfl, hb⟩
    have B1 := hidd (bel_then (bel_alloc' _ _) (show Below (w.alloc (.cells #[.slice A xs.length c] 22)).heap.size (w.alloc (.cells #[.slice A xs.length c] 22)) w1 from hb))
    go_wp2_with fail
    go_ret2
    exact ⟨⟨_, by rw [HR.out]; rfl, by rw [HR.out]; exact Own.nil _ _ _⟩, B1.out⟩
set_option maxRecDepth 100000 in
set_option maxHeartbeats 1000000 in
theorem specPermutationOfPortrait_any (d n : Int) (v : Value) (xs : List Int) (w : World) (hr : RdI w v xs) :
    Calls Try.prog 24 #[.int .i64 d, .int .i64 n, v] w fun e w' => (∃ u, e = .returned (.tuple #[u, .int .i64 (poR d n xs).2]) ∧ Own w' w.heap.size 2 u (ints (poR d n xs).1)) ∧ Below w.heap.size w w' := by
  have Hr := hidd hr
  obtain ⟨A, c, rfl, hr⟩ := hr
  have HP := hidd (l03Code_any d n _ [xs] _ (RdLL.lit1 ⟨A, c, rfl, hr⟩ 22 w.heap.size rfl))
  clear hr
  by_cases h0 : codeP d n [xs] = 0
  · have HR : Hid (poR d n xs = _) := hidd (if_pos h0)
    rw [h0] at HP
    obtain ⟨d', n', rfl, rfl, hd, hn1, hn4, hall⟩ := codeP_zero h0
    have HO := hidd (fun W (hrW : RdI W (.slice A xs.length c) xs) => l03Permutation_any d' n' hd hn4 _ xs (hall xs (List.mem_singleton.2 rfl)) W hrW)
    rw [Int.toNat_natCast, Int.toNat_natCast] at HR
    clear h0 hall hd
    go_enter Try.func24, Try.ntmps24
    go_wp2_with fail
    refine HP.out.mono ?_
    rintro e w1 ⟨rfl, hb⟩
    have B1 := hidd (bel_then (bel_alloc' _ _) (show Below (w.alloc (.cells #[.slice A xs.length c] 22)).heap.size (w.alloc (.cells #[.slice A xs.length c] 22)) w1 from (by obtain ⟨q, e⟩ := hb; rw [e]; exact bel_drewN (Below.refl _ _) _)))
    clear hb HP
    go_wp2_with fail
    refine (HO.out _ (Hr.out.below B1.out)).mono ?_
    rintro e w2 ⟨⟨u, rfl, ho⟩, hb⟩
    go_wp2_with fail
    go_ret2
    exact ⟨⟨_, by rw [HR.out]; rfl, by rw [HR.out]; exact ho.mono B1.out.size⟩, bel_then B1.out hb⟩
  · have HR : Hid (poR d n xs = ([], codeP d n [xs])) := hidd (if_neg h0)
    obtain ⟨cd, hcd⟩ : ∃ cd, cd = codeP d n [xs] := ⟨_, rfl⟩
    rw [← hcd] at HR HP h0
    have h1 : (cd == 0) = false := by simp [h0]
    have h2 : (cd != 0) = true := by simp [h0]
    clear h0 hcd
    go_enter Try.func24, Try.ntmps24
    go_wp2_with fail
    refine HP.out.mono ?_
    rintro e w1 ⟨rfl, hb⟩
    have B1 := hidd (bel_then (bel_alloc' _ _) (show Below (w.alloc (.cells #[.slice A xs.length c] 22)).heap.size (w.alloc (.cells #[.slice A xs.length c] 22)) w1 from (by obtain ⟨q, e⟩ := hb; rw [e]; exact bel_drewN (Below.refl _ _) _)))
    go_wp2_with fail
    go_ret2
    exact ⟨⟨_, by rw [HR.out]; rfl, by rw [HR.out]; exact Own.nil _ _ _⟩, B1.out⟩
end Go.Proofs.Ytecdjmfohcnadaa
