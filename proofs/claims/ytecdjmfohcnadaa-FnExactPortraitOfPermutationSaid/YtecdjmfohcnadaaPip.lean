/- Walks: whether a list is a portrait, of the program and of the reference; the codes. -/
import Derived.Test.YtecdjmfohcnadaaPw
namespace Go.Proofs.Ytecdjmfohcnadaa
open Go.RowKit

theorem ipClosure_any (d : Nat) (hd : Dd d) (b : Nat) (k : Int) (w : World) {t : TypeId} (hb : w.heap[b]? = some (.cells #[.int .i64 (d : Nat)] t (0, 0))) :
    Calls Try.prog 39 #[.int .i64 k, .pointer (some ⟨b, 0, none⟩)] w fun e w' => e = .returned (.bool (!nuB d k)) ∧ Below w.heap.size w w' := by
  have k1 := blkc hb 0
  have HP := hidd (permutations_any d hd w)
  have hc := @pcn_le d
  have HL := hidd (@pms_len d)
  clear hb hd
  by_cases h : 0 ≤ k ∧ k ≤ (pcn d : Int) - 1
  · have H := hidd (show nuB d k = true from decide_eq_true h)
    go_enter Try.func39, Try.ntmps39
    go_wp2_with fail
    refine HP.out.mono ?_
    rintro e w1 ⟨⟨v, rfl, hr⟩, hb⟩
    obtain ⟨A, c, rows, rfl, _, _, _⟩ := hr
    rw [HL.out]
    go_wp2_with (go_at_call 40; refine (within_yes _ _ _ _ h.1 h.2).mono ?_; rintro e w2 ⟨rfl, rfl⟩)
    go_ret
    exact ⟨ret_b (by rw [H.out]; rfl), hb⟩
  · have H := hidd (show nuB d k = false from decide_eq_false h)
    go_enter Try.func39, Try.ntmps39
    go_wp2_with fail
    refine HP.out.mono ?_
    rintro e w1 ⟨⟨v, rfl, hr⟩, hb⟩
    obtain ⟨A, c, rows, rfl, _, _, _⟩ := hr
    rw [HL.out]
    go_wp2_with (go_at_call 40; refine (within_no _ _ _ _ (by omega)).mono ?_; rintro e w2 ⟨rfl, rfl⟩)
    go_ret
    exact ⟨ret_b (by rw [H.out]; rfl), hb⟩

/-- Whether letters, a depth and a list are a portrait. -/
def iptR (d n : Int) (xs : List Int) : Bool := szB d n && isP d.toNat n.toNat xs
theorem szB_nat {d n : Int} (h : szB d n = true) : ∃ d' n' : Nat, d = d' ∧ n = n' ∧ Dd d' ∧ 1 ≤ n' ∧ n' ≤ 4 := by
  have h1 := of_decide_eq_true h
  exact ⟨d.toNat, n.toNat, by omega, by omega, by unfold Dd; omega, by omega, by omega⟩
theorem any_not {p : Int → Bool} {xs : List Int} : (List.range xs.length).any (fun j => !p (xs.getD j 0)) = !xs.all p := by
  rw [Bool.eq_iff_iff]
  simp only [List.any_eq_true, List.mem_range, Bool.not_eq_true', ← Bool.not_eq_true, List.all_eq_true, Classical.not_forall]
  constructor
  · rintro ⟨j, hj, h⟩
    refine ⟨xs[j], List.getElem_mem hj, ?_⟩
    rwa [List.getD_eq_getElem?_getD, List.getElem?_eq_getElem hj, Option.getD_some] at h
  · rintro ⟨x, hx, h⟩
    obtain ⟨j, hj, rfl⟩ := List.getElem_of_mem hx
    exact ⟨j, hj, by rwa [List.getD_eq_getElem?_getD, List.getElem?_eq_getElem hj, Option.getD_some]⟩

set_option maxRecDepth 100000 in
set_option maxHeartbeats 1000000 in
theorem implIsPortrait_any (d n : Int) (v : Value) (xs : List Int) (w : World) (hr : RdI w v xs) :
    Calls Try.prog 14 #[.int .i64 d, .int .i64 n, v] w fun e w' => e = .returned (.bool (iptR d n xs)) ∧ Below w.heap.size w w' := by
  obtain ⟨A, c, rfl, hr⟩ := hr
  have Hr := hidd hr
  have hle := hr.1
  rw [ints_length] at hle
  clear hr
  cases hs : szB d n with
  | false =>
    have H := hidd hs
    have HD := hidd (areDepths_any d n (w.alloc (.cells #[.int .i64 d] 2)))
    rw [hs] at HD
    clear hs
    go_enter Try.func14, Try.ntmps14
    go_wp2_with (go_at_call 36; refine HD.out.mono ?_; rintro e w1 ⟨rfl, rfl⟩)
    go_ret
    exact ⟨ret_b (by unfold iptR; rw [H.out]; rfl), bel_alloc' _ _⟩
  | true =>
    obtain ⟨d', n', rfl, rfl, hd, h1, h4⟩ := szB_nat hs
    have H := hidd hs
    have HD := hidd (areDepths_any d' n' (w.alloc (.cells #[.int .i64 (d' : Nat)] 2)))
    rw [hs] at HD
    have HS := hidd (size_any d' n' hd (by omega) (w.alloc (.cells #[.int .i64 (d' : Nat)] 2)))
    have hst := pst_bd hd (show n' ≤ 5 by omega)
    have HDd := hidd hd
    obtain ⟨m, hm⟩ : ∃ m, m = pst d' n' := ⟨_, rfl⟩
    rw [← hm] at HS hst
    by_cases hl : xs.length = m
    · have HR := hidd (show iptR d' n' xs = xs.all (nuB d') by
        unfold iptR isP
        rw [H.out, Int.toNat_natCast, Int.toNat_natCast, decide_eq_true (by rw [hl, hm])]; simp)
      have i1 : (xs.length : Int) = m := by omega
      clear hs hd hm
      go_enter Try.func14, Try.ntmps14
      go_wp2_with (first | (go_at_call 36; refine HD.out.mono ?_; rintro e w1 ⟨rfl, rfl⟩) | (go_at_call 37; refine HS.out.mono ?_; rintro e w2 ⟨rfl, rfl⟩))
      have hcf := containsFunc64 39 #[.pointer (some ⟨w.heap.size, 0, none⟩)] (fun _ _ => rfl) A c (ints xs) (fun j => .int .i64 (xs.getD j 0)) (fun j => !nuB d' (xs.getD j 0)) (w.alloc (.cells #[.int .i64 (d' : Nat)] 2)) (Hr.out.below (bel_alloc' _ _)) (fun j hj => by
          rw [ints_length] at hj
          rw [ints_get, List.getElem?_eq_getElem hj, List.getD_eq_getElem?_getD, List.getElem?_eq_getElem hj]; rfl) (fun j W _ hb => ipClosure_any d' HDd.out w.heap.size _ W (hp_bel (hp_new rfl) hb))
      rw [ints_length, any_not, hl] at hcf
      refine hcf.mono ?_
      rintro e w3 ⟨rfl, hb⟩
      obtain ⟨r, hrr⟩ : ∃ r, r = xs.all (nuB d') := ⟨_, rfl⟩
      rw [← hrr] at HR ⊢
      clear hcf hrr
      go_wp2_with fail
      go_ret
      exact ⟨ret_b (by rw [HR.out]), bel_then (bel_alloc' _ _) hb⟩
    · have HR := hidd (show iptR d' n' xs = false by
        unfold iptR isP
        rw [H.out, Int.toNat_natCast, Int.toNat_natCast, decide_eq_false (by rw [← hm]; exact hl)]; simp)
      have i1 : ¬ (xs.length : Int) = m := by omega
      clear hs hd hm
      go_enter Try.func14, Try.ntmps14
      go_wp2_with (first | (go_at_call 36; refine HD.out.mono ?_; rintro e w1 ⟨rfl, rfl⟩) | (go_at_call 37; refine HS.out.mono ?_; rintro e w2 ⟨rfl, rfl⟩))
      go_ret
      exact ⟨ret_b (by rw [HR.out]), bel_alloc' _ _⟩

set_option maxRecDepth 100000 in
set_option maxHeartbeats 1000000 in
theorem l03Is_any (d n : Nat) (hd : Dd d) (hn : n ≤ 5) (v : Value) (xs : List Int) (w : World) (hr : RdI w v xs) :
    Calls Try.prog 35 #[.int .i64 (d : Nat), .int .i64 (n : Nat), v] w fun e w' => e = .returned (.bool (isP d n xs)) ∧ ∃ q, w' = w.drewN q := by
  obtain ⟨A, c, rfl, hr⟩ := hr
  have Hr := hidd hr
  have hle := hr.1
  rw [ints_length] at hle
  have HS := hidd (l03Start_any d n hd hn w)
  have hst := pst_bd hd hn
  have hc := @pcn_le d
  clear hr
  obtain ⟨m, hm⟩ : ∃ m, m = pst d n := ⟨_, rfl⟩
  rw [← hm] at HS hst
  by_cases hl : xs.length = m
  · have HR := hidd (show isP d n xs = xs.all (nuB d) by unfold isP; rw [decide_eq_true (by rw [hl, hm]), Bool.true_and])
    have HLl := hidd hl
    have i1 : (xs.length : Int) = m := by omega
    have HDc := hidd (fun q => l03Count_any d (w.drewN q))
    clear hm
    go_enter Try.func35, Try.ntmps35
    go_wp2_with (go_at_call 46; refine HS.out.mono ?_; rintro e w2 ⟨rfl, rfl⟩)
    go_loopw [7] (fun i wr => ∃ k : Nat, k ≤ m ∧ i = .int .i64 k ∧ Hid (∀ j, (hj : j < xs.length) → j < k → nuB d xs[j] = true) ∧ ∃ q, wr = w.drewN q) (fun i _ => m - (intOf i).toNat)
    case atStart => exact ⟨0, Nat.zero_le _, rfl, hidd (fun j _ hj => absurd hj (Nat.not_lt_zero _)), 0, rfl⟩
    case round =>
      obtain ⟨k, hk, rfl, HQ, q, hwq⟩ := hrel
      have HW := hidd hwq
      by_cases hlt : k < m
      · have hkl : k < xs.length := by omega
        obtain ⟨b, o, rfl, hcl⟩ := Hr.out.get hkl
        replace hcl : wr.cell? ⟨b, o + k, none⟩ = some (.int .i64 xs[k]) := by rw [hwq]; exact hcl
        clear hwq
        have i2 : (k : Int) < m := by omega
        have i3 : (0 : Int) ≤ k := by omega
        have i4 : (k : Int) < xs.length := by omega
        obtain ⟨x, hx⟩ : ∃ x, x = xs[k] := ⟨_, rfl⟩
        rw [← hx] at hcl
        have HX := hidd hx
        clear hx
        obtain ⟨p, hp⟩ : ∃ p, p = pcn d := ⟨_, rfl⟩
        have HP := hidd hp
        have hc6 : p ≤ 6 ∧ 2 ≤ p := by rw [hp]; exact ⟨hc.2, hc.1⟩
        have HC := hidd (fun W => l03Count_any d W)
        rw [← hp] at HC
        clear hp hc
        by_cases h : 0 ≤ x ∧ x ≤ (p : Int) - 1
        · have HN := hidd (show nuB d x = true from decide_eq_true (by rw [← HP.out]; exact h))
          have HI := hidd (fun W => l01In_yes x 0 ((p : Int) - 1) W h.1 h.2)
          go_wp2_with fail
          go_quiet ((first | (go_at_call 64; exact quietS (HC.out _)) | (go_at_call 42; exact quietS (HI.out _))))
          go_wp2_with fail
          go_roundw
          case rel =>
            refine ⟨k + 1, by omega, by go_num, hidd (fun j hj hjk => ?_), _, by rw [HW.out, World.drewN_drewN]⟩
            by_cases e : j = k
            · subst e; rw [← HX.out]; exact HN.out
            · exact HQ.out j hj (by omega)
          case measure => first | (simp [intOf]; done) | (simp [intOf]; omega)
        · have HN := hidd (show nuB d x = false from decide_eq_false (by rw [← HP.out]; exact h))
          have HI := hidd (fun W => l01In_no x 0 ((p : Int) - 1) W (by omega))
          go_wp2_with fail
          go_quiet ((first | (go_at_call 64; exact quietS (HC.out _)) | (go_at_call 42; exact quietS (HI.out _))))
          go_wp2_with fail
          go_ret
          exact ⟨ret_b (by rw [HR.out, all_no hkl (by rw [← HX.out]; exact HN.out)]), _, by rw [HW.out, World.drewN_drewN]⟩
      · have he : k = m := by omega
        subst he
        clear hlt hwq
        go_wp2_with fail
        go_ret
        exact ⟨ret_b (by rw [HR.out, all_yes (fun j hj => HQ.out j hj (by omega))]), _, HW.out⟩
  · have HR := hidd (show isP d n xs = false by unfold isP; rw [decide_eq_false (by rw [← hm]; exact hl), Bool.false_and])
    have i1 : ¬ (xs.length : Int) = m := by omega
    clear hm
    go_enter Try.func35, Try.ntmps35
    go_wp2_with (go_at_call 46; refine HS.out.mono ?_; rintro e w2 ⟨rfl, rfl⟩)
    go_ret
    exact ⟨ret_b (by rw [HR.out]), 0, rfl⟩
theorem specIsPortrait_any (d n : Int) (v : Value) (xs : List Int) (w : World) (hr : RdI w v xs) :
    Calls Try.prog 12 #[.int .i64 d, .int .i64 n, v] w fun e w' => e = .returned (.bool (iptR d n xs)) ∧ Below w.heap.size w w' := by
  have Hr := hidd hr
  obtain ⟨A, c, rfl, hq⟩ := hr
  clear hq
  cases hs : szB d n with
  | false =>
    have H := hidd hs
    have HD := hidd (l03Sizes_any d n w)
    rw [hs] at HD
    clear hs
    go_enter Try.func12, Try.ntmps12
    go_wp2_with (go_at_call 34; refine HD.out.mono ?_; rintro e w1 ⟨rfl, rfl⟩)
    go_ret
    exact ⟨ret_b (by unfold iptR; rw [H.out]; rfl), Below.refl _ _⟩
  | true =>
    obtain ⟨d', n', rfl, rfl, hd, h1, h4⟩ := szB_nat hs
    have H := hidd hs
    have HD := hidd (l03Sizes_any d' n' w)
    rw [hs] at HD
    have HI := hidd (l03Is_any d' n' hd (by omega) _ xs w Hr.out)
    obtain ⟨r, hrr⟩ : ∃ r, r = isP d' n' xs := ⟨_, rfl⟩
    have HR := hidd (show iptR d' n' xs = r by unfold iptR; rw [H.out, hrr]; simp)
    rw [← hrr] at HI
    clear hs hrr
    go_enter Try.func12, Try.ntmps12
    go_wp2_with (first | (go_at_call 34; refine HD.out.mono ?_; rintro e w1 ⟨rfl, rfl⟩) | (go_at_call 35; refine HI.out.mono ?_; rintro e w2 ⟨rfl, q, rfl⟩))
    go_ret
    exact ⟨ret_b (by rw [HR.out]), bel_drewN (Below.refl _ _) _⟩
end Go.Proofs.Ytecdjmfohcnadaa
