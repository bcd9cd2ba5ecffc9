/- Walks: the number of a permutation, of the program and of the reference. -/
import Derived.Test.YtecdjmfohcnadaaPim
import Derived.Test.YtecdjmfohcnadaaSeq
import Derived.Test.YtecdjmfohcnadaaE3
import Derived.Deep.RegionHeld3
namespace Go.Proofs.Ytecdjmfohcnadaa
open Go.RowKit
set_option linter.unusedSimpArgs false

/-! ### Of the program -/
/-- The number of a list of images of whatever length, or -1. -/
def pnX (xs : List Int) : Int := if xs.length = 2 ∨ xs.length = 3 then pno xs.length xs else -1
theorem pno_fidx (d : Nat) (xs : List Int) : fidx (fun k => decide ((pms d).getD k [] = xs)) (pcn d) = pno d xs := rfl
theorem pnClosure_any (b : Nat) (u v : Value) (xs ys : List Int) (w : World) {t : TypeId} (hb : w.heap[b]? = some (.cells #[v] t (0, 0))) (hr : RdI w v xs) (hu : RdI w u ys) :
    Calls Try.prog 70 #[u, .pointer (some ⟨b, 0, none⟩)] w fun e w' => e = .returned (.bool (decide (ys = xs))) ∧ Below w.heap.size w w' := by
  have k1 := blkc hb 0
  have HS := hidd (slicesEq_any u v ys xs w hu hr)
  obtain ⟨A, c, rfl, hq⟩ := hr
  obtain ⟨A', c', rfl, hq'⟩ := hu
  clear hb hq hq'
  go_enter Try.func70, Try.ntmps70
  go_wp2_with fail
  refine HS.out.mono ?_
  rintro e w1 ⟨rfl, n, rfl⟩
  go_wp2_with fail
  go_ret
  exact ⟨rfl, bel_drewN (Below.refl _ _) _⟩
set_option maxRecDepth 100000 in
set_option maxHeartbeats 1000000 in
theorem permutationNumber_any (v : Value) (xs : List Int) (w : World) (hr : RdI w v xs) :
    Calls Try.prog 44 #[v] w fun e w' => e = .returned (.int .i64 (pnX xs)) ∧ Below w.heap.size w w' := by
  have Hr := hidd hr
  have hle := hr.le
  obtain ⟨A, c, rfl, hq⟩ := hr
  clear hq
  by_cases h : xs.length = 2 ∨ xs.length = 3
  · have hd : Dd xs.length := h
    have HD := hidd hd
    have HX := hidd (show pnX xs = pno xs.length xs from if_pos h)
    have h23 := hd.le
    obtain ⟨d, hdd⟩ : ∃ d, d = xs.length := ⟨_, rfl⟩
    have HE := hidd hdd
    have HP := hidd (permutations_any xs.length hd (w.alloc (.cells #[.slice A xs.length c] 22)))
    clear h hd
    go_enter Try.func44, Try.ntmps44
    go_wp2_with (go_at_call 65; refine (areLetters_yes _ _ (by omega) (by omega)).mono ?_; rintro e w1 ⟨rfl, rfl⟩)
    refine HP.out.mono ?_
    rintro e w1 ⟨⟨u, rfl, hll⟩, hb⟩
    obtain ⟨A1, c1, rows, rfl, h1, h2, h3⟩ := hll
    have B1 := hidd hb
    have K1 := hidd (hp_bel (hp_new rfl) hb : w1.heap[w.heap.size]? = some (.cells #[.slice A xs.length c] 22 (0, 0)))
    clear hb
    rw [pms_len] at h2 ⊢
    go_wp2_with fail
    have hcf := indexFunc65 70 #[.pointer (some ⟨w.heap.size, 0, none⟩)] (fun _ _ => rfl) A1 c1 rows (fun j => rows.getD j undef) (fun k => decide ((pms xs.length).getD k [] = xs)) w1 h1 (fun j hj => by rw [List.getD_eq_getElem?_getD, List.getElem?_eq_getElem hj]; rfl) (fun j W hj hb => by
        have hj2 : j < (pms xs.length).length := by rw [pms_len]; omega
        have hr2 := h3 j rows[j] _ (List.getElem?_eq_getElem hj) (List.getElem?_eq_getElem hj2)
        have e1 : rows.getD j undef = rows[j] := by rw [List.getD_eq_getElem?_getD, List.getElem?_eq_getElem hj]; rfl
        have e2 : (pms xs.length).getD j [] = (pms xs.length)[j] := by rw [List.getD_eq_getElem?_getD, List.getElem?_eq_getElem hj2]; rfl
        show Calls Try.prog _ (#[rows.getD j undef] ++ _) W _
        simp only [e2]
        rw [e1]
        exact pnClosure_any w.heap.size _ _ xs _ W (hp_bel K1.out hb) (Hr.out.below (((bel_alloc' w (.cells #[.slice A xs.length c] 22)).trans (B1.out.mono (by simp))).trans (hb.mono (by have := B1.out.size; simp at this; omega)))) (hr2.below hb))
    rw [h2, pno_fidx] at hcf
    refine hcf.mono ?_
    rintro e w3 ⟨rfl, hb⟩
    clear hcf
    go_wp2_with fail
    go_ret
    exact ⟨ret_i HX.out.symm, bel_then (bel_then (bel_alloc' _ _) B1.out) hb⟩
  · have HX := hidd (show pnX xs = -1 from if_neg h)
    have i1 : (xs.length : Int) < 2 ∨ 3 < (xs.length : Int) := by omega
    clear h
    go_enter Try.func44, Try.ntmps44
    go_wp2_with (go_at_call 65; refine (areLetters_no _ _ i1).mono ?_; rintro e w1 ⟨rfl, rfl⟩)
    go_ret
    exact ⟨ret_i HX.out.symm, bel_alloc' _ _⟩
/-- What PermutationNumber answers. -/
def pnR (xs : List Int) : Int × Int := if pnX xs < 0 then (0, 2) else (pnX xs, 0)
theorem implPermutationNumber_any (v : Value) (xs : List Int) (w : World) (hr : RdI w v xs) :
    Calls Try.prog 17 #[v] w fun e w' => e = .returned (.tuple #[.int .i64 (pnR xs).1, .int .i64 (pnR xs).2]) ∧ Below w.heap.size w w' := by
  have HP := hidd (permutationNumber_any v xs w hr)
  obtain ⟨A, c, rfl, hq⟩ := hr
  clear hq
  obtain ⟨p, hp⟩ : ∃ p, p = pnX xs := ⟨_, rfl⟩
  rw [← hp] at HP
  by_cases h : p < 0
  · have H := hidd (show pnR xs = (0, 2) from if_pos (by rw [← hp]; exact h))
    clear hp
    go_enter Try.func17, Try.ntmps17
    go_wp2_with fail
    refine HP.out.mono ?_
    rintro e w1 ⟨rfl, hb⟩
    go_wp2_with fail
    go_ret2
    exact ⟨by rw [H.out]; rfl, hb⟩
  · have H := hidd (show pnR xs = (p, 0) by rw [hp]; exact if_neg (by rw [← hp]; exact h))
    have h0 : 0 ≤ p := by omega
    clear hp
    go_enter Try.func17, Try.ntmps17
    go_wp2_with fail
    refine HP.out.mono ?_
    rintro e w1 ⟨rfl, hb⟩
    go_wp2_with fail
    go_ret2
    exact ⟨by rw [H.out]; rfl, hb⟩

/-! ### Of the reference -/
def load3 (a : Addr) : Sem Value := loadVar 46 a
theorem loadVar_3 (a : Addr) : loadVar 46 a = load3 a := rfl
theorem run_load3 {W : World} {b : Nat} {cs : Array Value} {t : TypeId} {fr : Nat × Nat} (h : W.heap[b]? = some (.cells cs t fr)) (hs : cs.size = 3) : (load3 ⟨b, 0, none⟩).run Try.prog W = .ok (.agg cs) W := by
  have := run_loadVar_at (P := Try.prog) W b 0 3 t 46 cs fr _ h Try.underlying46 rfl (by kernel_rfl) (by omega)
  have e : cs.extract 0 (0 + 3) = cs := by rw [show 0 + 3 = cs.size by omega]; simp
  rw [e] at this
  exact this
attribute [go_sem ↓ high] loadVar_3
theorem imA_eq {d k n : Nat} (hd : Dd d) (hk : k < pcn d) (hn : n < pcn d) : (pim d k 0 = pim d n 0 ∧ pim d k 1 = pim d n 1 ∧ pim d k 2 = pim d n 2) ↔ k = n := by
  rcases hd with rfl | rfl
  · exact (by decide : ∀ k, k < 2 → ∀ n, n < 2 → ((pim 2 k 0 = pim 2 n 0 ∧ pim 2 k 1 = pim 2 n 1 ∧ pim 2 k 2 = pim 2 n 2) ↔ k = n)) k hk n hn
  · exact (by decide : ∀ k, k < 6 → ∀ n, n < 6 → ((pim 3 k 0 = pim 3 n 0 ∧ pim 3 k 1 = pim 3 n 1 ∧ pim 3 k 2 = pim 3 n 2) ↔ k = n)) k hk n hn
theorem run_eqIm {d k n : Nat} (hd : Dd d) (hk : k < pcn d) (hn : n < pcn d) (w : World) : (Op.equalIn 10000 46 (.agg (imA d k)) (.agg (imA d n))).run Try.prog w = .ok (decide (k = n)) w := by
  unfold imA
  rw [run_eq3]
  congr 1
  rw [decide_eq_decide]
  have := imA_eq hd hk hn
  omega
set_option maxRecDepth 100000 in
set_option maxHeartbeats 2000000 in
theorem l03Number_any (d n : Nat) (hd : Dd d) (hn : n < pcn d) (w : World) :
    Calls Try.prog 43 #[.int .i64 (d : Nat), .agg (imA d n)] w fun e w' => e = .returned (.int .i64 (n : Nat)) ∧ Below w.heap.size w w' := by
  have HD := hidd hd
  have hp6 := @pcn_le d
  obtain ⟨p, hp⟩ : ∃ p, p = pcn d := ⟨_, rfl⟩
  rw [← hp] at hn hp6
  have HP := hidd hp
  have HC := hidd (fun W => l03Count_any d W)
  rw [← hp] at HC
  clear hd hp
  go_enter Try.func43, Try.ntmps43
  go_wp2_with fail
  obtain ⟨w1, hw1⟩ : ∃ w1, w1 = w.alloc (.cells (imA d n) 46) := ⟨_, rfl⟩
  have hw1' := hw1
  try rw [← hw1]
  have B1 := hidd (show Below w.heap.size w w1 by rw [hw1]; exact bel_alloc' _ _)
  have K1 := hidd (show w1.heap[w.heap.size]? = some (.cells (imA d n) 46 (0, 0)) by rw [hw1]; exact hp_new rfl)
  clear hw1 hw1'
  go_loopw [5] (fun i wr => ∃ k : Nat, k ≤ n ∧ i = .int .i64 k ∧ Hid (Below w1.heap.size w1 wr)) (fun i _ => n - (intOf i).toNat)
  case atStart => exact ⟨0, Nat.zero_le _, rfl, hidd (Below.refl _ _)⟩
  case round =>
    obtain ⟨k, hk, rfl, Hb⟩ := hrel
    have i1 : (k : Int) < 6 := by omega
    have i2 : (k : Int) < p := by omega
    have i3 : ¬ (p : Int) - 1 < (k : Int) := by omega
    have r1 : IntKind.i64.wrap ((p : Int) - 1) = (p : Int) - 1 := IntWalk.i64_in _ (by omega)
    go_wp2_with fail
    have S0 := hidd (show wr.drew.heap[w.heap.size]? = some (.cells (imA d n) 46 (0, 0)) from hp_bel K1.out (Hb.out.trans ((drew_bel' wr).mono Hb.out.size)))
    refine wp_region_held (S := fun w' => w'.heap[w.heap.size]? = some (.cells (imA d n) 46 (0, 0))) (by kernel_rfl) ?_
    change wpAnyH _ _ _ _ _ _ _ _ (World.drew _)
    refine wpAnyH_take (i := 0) (v := ?v0) rfl (by kernel_rfl) (by kernel_rfl) (by kernel_rfl) (fun _ _ _ h => h) (Or.inl ⟨by rfl, ?h0⟩) S0.out ?_
    case h0 => (intro w2 hS; clear hS; go_simp; first | done | with_reducible rfl)
    simp only [Act.put, List.getElem_toArray, List.getElem_cons_succ, List.getElem_cons_zero, List.setIfInBounds_toArray, List.set_cons_zero, List.set_cons_succ]
    refine wpAnyH_take (i := 1) (v := ?v1) rfl (by kernel_rfl) (by kernel_rfl) (by kernel_rfl) (fun _ _ _ h => h) (Or.inl ⟨by rfl, ?h1⟩) S0.out ?_
    case h1 => (intro w2 hS; clear hS; go_simp; first | done | with_reducible rfl)
    simp only [Act.put, List.getElem_toArray, List.getElem_cons_succ, List.getElem_cons_zero, List.setIfInBounds_toArray, List.set_cons_zero, List.set_cons_succ]
    refine wpAnyH_take (i := 2) (v := ?v2) rfl (by kernel_rfl) (by kernel_rfl) (by kernel_rfl) (fun _ _ _ h => h) (Or.inl ⟨by rfl, ?h2⟩) S0.out ?_
    case h2 => (intro w2 hS; clear hS; go_simp; first | done | with_reducible rfl)
    simp only [Act.put, List.getElem_toArray, List.getElem_cons_succ, List.getElem_cons_zero, List.setIfInBounds_toArray, List.set_cons_zero, List.set_cons_succ]
    refine wpAnyH_take (i := 7) (v := ?v7) rfl (by kernel_rfl) (by kernel_rfl) (by kernel_rfl) (fun _ _ _ h => h) (Or.inl ⟨by rfl, ?h7⟩) S0.out ?_
    case h7 => (intro w2 hS; have hk := run_load3 (W := w2) hS rfl; clear hS; go_simp; first | done | with_reducible rfl)
    simp only [Act.put, List.getElem_toArray, List.getElem_cons_succ, List.getElem_cons_zero, List.setIfInBounds_toArray, List.set_cons_zero, List.set_cons_succ]
    refine wpAnyH_ready (rs := [3]) (by kernel_rfl) (by simp) (AllReadyH.cons rfl (fun K hK => ?_) AllReadyH.nil)
    go_simp
    refine (HC.out _).mono ?_
    rintro e w2 ⟨rfl, rfl⟩
    refine hK.out _ _ S0.out (fun _ => ?_)
    clear hK K
    refine wpAnyH_take (i := 4) (v := ?v4) rfl (by kernel_rfl) (by kernel_rfl) (by kernel_rfl) (fun _ _ _ h => h) (Or.inl ⟨by rfl, ?h4⟩) S0.out ?_
    case h4 => (intro w2 hS; clear hS; go_simp; first | done | with_reducible rfl)
    simp only [Act.put, List.getElem_toArray, List.getElem_cons_succ, List.getElem_cons_zero, List.setIfInBounds_toArray, List.set_cons_zero, List.set_cons_succ]
    refine wpAnyH_take (i := 5) (v := ?v5) rfl (by kernel_rfl) (by kernel_rfl) (by kernel_rfl) (fun _ _ _ h => h) (Or.inl ⟨by rfl, ?h5⟩) S0.out ?_
    case h5 => (intro w2 hS; clear hS; go_simp; first | done | with_reducible rfl)
    simp only [Act.put, List.getElem_toArray, List.getElem_cons_succ, List.getElem_cons_zero, List.setIfInBounds_toArray, List.set_cons_zero, List.set_cons_succ]
    refine wpAnyH_ready (rs := [6]) (by kernel_rfl) (by simp) (AllReadyH.cons rfl (fun K hK => ?_) AllReadyH.nil)
    go_simp
    simp only [if_neg (show ¬ ((p : Int) - 1 < (k : Int)) by omega)]
    refine (l03Images_any d k HD.out (by rw [← HP.out]; omega) _).mono ?_
    rintro e w2 ⟨rfl, hb⟩
    have b12 := (drew_bel' wr).trans hb
    have Hb2 := hidd (Hb.out.trans (b12.mono Hb.out.size))
    have K2 := hidd (hp_bel K1.out Hb2.out)
    refine hK.out _ _ K2.out (fun _ => ?_)
    clear hK K hb b12
    refine wpAnyH_ready (rs := [8]) (by kernel_rfl) (by simp) (AllReadyH.cons rfl (fun K hK => ?_) AllReadyH.nil)
    have hq := run_eqIm HD.out (show k < pcn d by rw [← HP.out]; omega) (show n < pcn d by rw [← HP.out]; omega) w2
    by_cases hkn : k = n
    · rw [decide_eq_true hkn] at hq
      have HK := hidd hkn
      clear hkn
      go_simp
      refine hK.out _ _ K2.out (fun _ => ?_)
      clear hK K hq
      refine wpAnyH_done (by kernel_rfl) ?_ _
      go_wp2_with (go_at_call 64; refine (HC.out _).mono ?_; rintro e w3 ⟨rfl, rfl⟩)
      go_ret
      exact ⟨ret_i (by rw [HK.out]), bel_then B1.out Hb2.out⟩
    · rw [decide_eq_false hkn] at hq
      have HK := hidd hkn
      clear hkn
      go_simp
      refine hK.out _ _ K2.out (fun _ => ?_)
      clear hK K hq
      refine wpAnyH_done (by kernel_rfl) ?_ _
      go_wp2_with fail
      go_roundw
      case rel => exact ⟨k + 1, by have := HK.out; omega, by go_num, Hb2⟩
      case measure => first | (simp [intOf]; done) | (have := HK.out; simp [intOf]; omega)
end Go.Proofs.Ytecdjmfohcnadaa
