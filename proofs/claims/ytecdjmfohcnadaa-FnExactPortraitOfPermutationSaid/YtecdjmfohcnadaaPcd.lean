/- Walks: the codes of letters, a depth and portraits, of the program and of the reference. -/
import Derived.Test.YtecdjmfohcnadaaPip
namespace Go.Proofs.Ytecdjmfohcnadaa
open Go.RowKit

theorem codeP_bad {d n : Int} {xss : List (List Int)} (h : szB d n = false) : codeP d n xss = 2 := by unfold codeP; rw [h]; rfl
theorem codeP_no {d n : Int} {xss : List (List Int)} (h : szB d n = true) (h2 : xss.all (isP d.toNat n.toNat) = false) : codeP d n xss = 1 := by unfold codeP; rw [h, h2]; rfl
theorem codeP_yes {d n : Int} {xss : List (List Int)} (h : szB d n = true) (h2 : xss.all (isP d.toNat n.toNat) = true) : codeP d n xss = 0 := by unfold codeP; rw [h, h2]; rfl
theorem any_notL {p : List Int → Bool} {xss : List (List Int)} : (List.range xss.length).any (fun j => !p (xss.getD j [])) = !xss.all p := by
  rw [Bool.eq_iff_iff]
  simp only [List.any_eq_true, List.mem_range, Bool.not_eq_true', ← Bool.not_eq_true, List.all_eq_true, Classical.not_forall]
  constructor
  · rintro ⟨j, hj, h⟩
    refine ⟨xss[j], List.getElem_mem hj, ?_⟩
    rwa [List.getD_eq_getElem?_getD, List.getElem?_eq_getElem hj, Option.getD_some] at h
  · rintro ⟨x, hx, h⟩
    obtain ⟨j, hj, rfl⟩ := List.getElem_of_mem hx
    exact ⟨j, hj, by rwa [List.getD_eq_getElem?_getD, List.getElem?_eq_getElem hj, Option.getD_some]⟩
theorem pcClosure_any (d n : Int) (a b : Nat) (v : Value) (xs : List Int) (w : World) {t t' : TypeId} (ha : w.heap[a]? = some (.cells #[.int .i64 d] t (0, 0))) (hb : w.heap[b]? = some (.cells #[.int .i64 n] t' (0, 0))) (hr : RdI w v xs) :
    Calls Try.prog 74 #[v, .pointer (some ⟨a, 0, none⟩), .pointer (some ⟨b, 0, none⟩)] w fun e w' => e = .returned (.bool (!iptR d n xs)) ∧ Below w.heap.size w w' := by
  have k1 := blkc ha 0
  have k2 := blkc hb 0
  have HI := hidd (implIsPortrait_any d n v xs w hr)
  obtain ⟨A, c, rfl, hq⟩ := hr
  obtain ⟨r, hrr⟩ : ∃ r, r = iptR d n xs := ⟨_, rfl⟩
  rw [← hrr] at HI ⊢
  clear ha hb hq hrr
  go_enter Try.func74, Try.ntmps74
  go_wp2_with fail
  refine HI.out.mono ?_
  rintro e w1 ⟨rfl, hb⟩
  go_wp2_with fail
  go_ret
  exact ⟨rfl, hb⟩

set_option maxRecDepth 100000 in
set_option maxHeartbeats 1000000 in
theorem portraitCode_any (d n : Int) (v : Value) (xss : List (List Int)) (w : World) (hr : RdLL w v xss) :
    Calls Try.prog 48 #[.int .i64 d, .int .i64 n, v] w fun e w' => e = .returned (.int .i64 (codeP d n xss)) ∧ Below w.heap.size w w' := by
  have hle := hr.le
  obtain ⟨A, c, rows, rfl, h1, h2, h3⟩ := hr
  have H1 := hidd h1
  have H2 := hidd h2
  have H3 := hidd h3
  have HD := hidd (fun W => areDepths_any d n W)
  clear h1 h2 h3
  cases hs : szB d n with
  | false =>
    rw [hs] at HD
    have HC := hidd (codeP_bad (xss := xss) hs)
    clear hs
    go_enter Try.func48, Try.ntmps48
    go_wp2_with (go_at_call 36; refine (HD.out _).mono ?_; rintro e w1 ⟨rfl, rfl⟩)
    go_ret
    exact ⟨ret_i HC.out.symm, (bel_alloc' _ _).alloc (by simp) _⟩
  | true =>
    rw [hs] at HD
    have HS := hidd hs
    clear hs
    go_enter Try.func48, Try.ntmps48
    go_wp2_with (go_at_call 36; refine (HD.out _).mono ?_; rintro e w1 ⟨rfl, rfl⟩)
    obtain ⟨w1, hw1⟩ : ∃ w1, w1 = (w.alloc (.cells #[.int .i64 d] 2)).alloc (.cells #[.int .i64 n] 2) := ⟨_, rfl⟩
    rw [← hw1]
    have B1 := hidd (show Below w.heap.size w w1 by rw [hw1]; exact (bel_alloc' _ _).alloc (by simp) _)
    have K1 := hidd (show w1.heap[w.heap.size]? = some (.cells #[.int .i64 d] 2 (0, 0)) by rw [hw1]; exact hp_old (hp_new rfl))
    have K2 := hidd (show w1.heap[w.heap.size + 1]? = some (.cells #[.int .i64 n] 2 (0, 0)) by rw [hw1]; exact hp_new (by simp))
    clear hw1
    have hcf := containsFunc65 74 #[.pointer (some ⟨w.heap.size, 0, none⟩), .pointer (some ⟨w.heap.size + 1, 0, none⟩)] (fun _ _ => rfl) A c rows (fun j => rows.getD j undef) (fun j => !iptR d n (xss.getD j [])) w1 (H1.out.below B1.out) (fun j hj => by rw [List.getD_eq_getElem?_getD, List.getElem?_eq_getElem hj]; rfl) (fun j W hj hb => by
        have hj2 : j < xss.length := by rw [← H2.out]; exact hj
        have hr2 := H3.out j rows[j] _ (List.getElem?_eq_getElem hj) (List.getElem?_eq_getElem hj2)
        have e1 : rows.getD j undef = rows[j] := by rw [List.getD_eq_getElem?_getD, List.getElem?_eq_getElem hj]; rfl
        have e2 : xss.getD j [] = xss[j] := by rw [List.getD_eq_getElem?_getD, List.getElem?_eq_getElem hj2]; rfl
        show Calls Try.prog _ (#[rows.getD j undef] ++ _) W _
        simp only [e2]
        rw [e1]
        exact pcClosure_any d n w.heap.size (w.heap.size + 1) _ _ W (hp_bel K1.out hb) (hp_bel K2.out hb) ((hr2.below B1.out).below hb))
    rw [H2.out, any_notL] at hcf
    have he : xss.all (iptR d n) = xss.all (isP d.toNat n.toNat) := by
      congr 1
      funext xs
      unfold iptR
      rw [HS.out, Bool.true_and]
    rw [he] at hcf
    cases hq : xss.all (isP d.toNat n.toNat) with
    | true =>
      rw [hq] at hcf
      have HC := hidd (codeP_yes HS.out hq)
      clear hq he
      go_wp2_with (go_at_call 73; refine hcf.mono ?_; rintro e w3 ⟨rfl, hb⟩; clear hcf; have HB := hidd hb; clear hb)
      go_ret
      exact ⟨ret_i HC.out.symm, bel_then B1.out HB.out⟩
    | false =>
      rw [hq] at hcf
      have HC := hidd (codeP_no HS.out hq)
      clear hq he
      go_wp2_with (go_at_call 73; refine hcf.mono ?_; rintro e w3 ⟨rfl, hb⟩; clear hcf; have HB := hidd hb; clear hb)
      go_ret
      exact ⟨ret_i HC.out.symm, bel_then B1.out HB.out⟩

set_option maxRecDepth 100000 in
set_option maxHeartbeats 1000000 in
theorem l03Code_any (d n : Int) (v : Value) (xss : List (List Int)) (w : World) (hr : RdLL w v xss) :
    Calls Try.prog 45 #[.int .i64 d, .int .i64 n, v] w fun e w' => e = .returned (.int .i64 (codeP d n xss)) ∧ ∃ q, w' = w.drewN q := by
  have hle := hr.le
  obtain ⟨A, c, rows, rfl, h1, h2, h3⟩ := hr
  have H1 := hidd h1
  have H2 := hidd h2
  have H3 := hidd h3
  have HD := hidd (fun W => l03Sizes_any d n W)
  clear h1 h2 h3
  cases hs : szB d n with
  | false =>
    rw [hs] at HD
    have HC := hidd (codeP_bad (xss := xss) hs)
    clear hs
    go_enter Try.func45, Try.ntmps45
    go_wp2_with (go_at_call 34; refine (HD.out _).mono ?_; rintro e w1 ⟨rfl, rfl⟩)
    go_ret
    exact ⟨ret_i HC.out.symm, 0, rfl⟩
  | true =>
    rw [hs] at HD
    have HS := hidd hs
    obtain ⟨d', n', rfl, rfl, hd, hn1, hn4⟩ := szB_nat hs
    have HDd := hidd hd
    clear hs hd
    go_enter Try.func45, Try.ntmps45
    go_wp2_with (go_at_call 34; refine (HD.out _).mono ?_; rintro e w1 ⟨rfl, rfl⟩)
    go_loopw [7] (fun i wr => ∃ k : Nat, k ≤ xss.length ∧ i = .int .i64 k ∧ Hid (∀ j, (hj : j < xss.length) → j < k → isP d' n' xss[j] = true) ∧ Hid (∃ q, wr = w.drewN q)) (fun i _ => xss.length - (intOf i).toNat)
    case atStart => exact ⟨0, Nat.zero_le _, rfl, hidd (fun j _ hj => absurd hj (Nat.not_lt_zero _)), hidd ⟨0, rfl⟩⟩
    case round =>
      obtain ⟨k, hk, rfl, HQ, HW⟩ := hrel
      by_cases hlt : k < xss.length
      · have hkr : k < rows.length := by rw [H2.out]; exact hlt
        have hB : Below w.heap.size w wr := by obtain ⟨q, e⟩ := HW.out; rw [e]; exact bel_drewN (Below.refl _ _) _
        have hrow := (H3.out k rows[k] _ (List.getElem?_eq_getElem hkr) (List.getElem?_eq_getElem hlt)).below hB
        obtain ⟨b, o, rfl, hcell⟩ := (H1.out.below hB).at_ (List.getElem?_eq_getElem hkr)
        have i1 : (k : Int) < xss.length := by omega
        have i2 : (0 : Int) ≤ k := by omega
        obtain ⟨r, hrr⟩ : ∃ r, r = rows[k] := ⟨_, rfl⟩
        rw [← hrr] at hrow hcell
        have HI := hidd (l03Is_any d' n' HDd.out (by omega) r xss[k] wr hrow)
        clear hrr hrow hB
        cases hq : isP d' n' xss[k] with
        | true =>
          rw [hq] at HI
          have HQ2 := hidd hq
          clear hq
          go_wp2_with fail
          clear hcell
          refine HI.out.mono ?_
          rintro e w2 ⟨rfl, q, e2⟩
          have HW2 := hidd (show ∃ q, w2 = w.drewN q by obtain ⟨p, e3⟩ := HW.out; exact ⟨_, by rw [e2, e3, World.drewN_drewN]⟩)
          clear e2 HI
          go_wp2_with fail
          go_roundw
          case rel =>
            refine ⟨k + 1, by omega, by go_num, hidd (fun j hj hjk => ?_), HW2⟩
            by_cases e : j = k
            · subst e; exact HQ2.out
            · exact HQ.out j hj (by omega)
          case measure => first | (simp [intOf]; done) | (simp [intOf]; omega)
        | false =>
          rw [hq] at HI
          have HC := hidd (codeP_no HS.out (all_no hlt hq))
          clear hq
          go_wp2_with fail
          clear hcell
          refine HI.out.mono ?_
          rintro e w2 ⟨rfl, q, e2⟩
          have HW2 := hidd (show ∃ q, w2 = w.drewN q by obtain ⟨p, e3⟩ := HW.out; exact ⟨_, by rw [e2, e3, World.drewN_drewN]⟩)
          clear e2 HI
          go_wp2_with fail
          go_ret
          exact ⟨ret_i HC.out.symm, HW2.out⟩
      · have he : k = xss.length := by omega
        subst he
        have HC := hidd (codeP_yes (n := n') HS.out (all_yes (p := isP d' n') (fun j hj => HQ.out j hj (by omega))))
        clear hlt
        go_wp2_with fail
        go_ret
        exact ⟨ret_i HC.out.symm, HW.out⟩
end Go.Proofs.Ytecdjmfohcnadaa
