/- Walks: the portrait of a level's permutation, of the program: the whole. -/
import Derived.Test.YtecdjmfohcnadaaPfg
namespace Go.Proofs.Ytecdjmfohcnadaa
open Go.RowKit
set_option linter.unusedSimpArgs false

def lvR (N : Nat) (k : Int) : Bool := decide (0 ≤ k ∧ k ≤ (N : Int) - 1)
theorem pf1_any (d n N : Nat) (hd : Dd d) (hn : n ≤ 4) (hN : N = d ^ n) (B C : Nat) (k : Int) (w : World) {t t' : TypeId} (hB : w.heap[B]? = some (.cells #[.int .i64 (d : Nat)] t (0, 0))) (hC : w.heap[C]? = some (.cells #[.int .i64 (n : Nat)] t' (0, 0))) :
    Calls Try.prog 82 #[.int .i64 k, .pointer (some ⟨B, 0, none⟩), .pointer (some ⟨C, 0, none⟩)] w fun e w' => e = .returned (.bool (!lvR N k)) ∧ Below w.heap.size w w' := by
  have c1 := run_loadI hB
  have c2 := run_loadI hC
  have HP := hidd (fun W => power_any d n hd.le.2 (by omega) W)
  have hb := pow_bd hd.le.2 (show n ≤ 5 by omega)
  have h0 : 0 < d ^ n := Nat.pow_pos (by have := hd.le; omega)
  rw [← hN] at HP hb h0
  clear hB hC hN hd
  by_cases h : 0 ≤ k ∧ k ≤ (N : Int) - 1
  · have H := hidd (show lvR N k = true from decide_eq_true h)
    go_enter Try.func82, Try.ntmps82
    go_wp2_with (first | (go_at_call 66; refine (HP.out _).mono ?_; rintro e w1 ⟨rfl, rfl⟩) | (go_at_call 40; refine (within_yes _ _ _ _ h.1 h.2).mono ?_; rintro e w1 ⟨rfl, rfl⟩))
    go_ret
    exact ⟨ret_b (by rw [H.out]; rfl), Below.refl _ _⟩
  · have H := hidd (show lvR N k = false from decide_eq_false h)
    go_enter Try.func82, Try.ntmps82
    go_wp2_with (first | (go_at_call 66; refine (HP.out _).mono ?_; rintro e w1 ⟨rfl, rfl⟩) | (go_at_call 40; refine (within_no _ _ _ _ (by omega)).mono ?_; rintro e w1 ⟨rfl, rfl⟩))
    go_ret
    exact ⟨ret_b (by rw [H.out]; rfl), Below.refl _ _⟩
theorem lvB_iff {d n : Nat} {L : List Int} : lvB d n L = (decide (L.length = d ^ n) && L.all (lvR (d ^ n))) := rfl
theorem isP_pno {d n : Nat} {L : List Int} (h : (pfO d n L).contains (-1) = false) : isP d n (pfO d n L) = true := by
  refine isP_by fun i k hi hk => ?_
  have hb := pno_bd d (pfI d n L i k)
  have hne : pno d (pfI d n L i k) ≠ -1 := fun e => by
    have hm : (-1 : Int) ∈ pfO d n L := by
      unfold pfO
      have := pby_get d (fun i k => pno d (pfI d n L i k)) n hi hk
      rw [← e]
      exact List.mem_of_getElem? this
    rw [List.contains_iff_mem.2 hm] at h
    cases h
  omega

theorem RdI.rdS {w : World} {A : Option Addr} {n c : Nat} {xs : List Int} (h : RdI w (.slice A n c) xs) : Rd w A (ints xs) := by
  obtain ⟨A', c', e, h⟩ := h
  cases e
  exact h
set_option maxRecDepth 100000 in
set_option maxHeartbeats 2000000 in
theorem portraitFrom_any (d n : Nat) (hd : Dd d) (hn : n ≤ 4) (v : Value) (L : List Int) (w : World) (hr : RdI w v L) :
    Calls Try.prog 57 #[.int .i64 (d : Nat), .int .i64 (n : Nat), v] w fun e w' => (∃ u, e = .returned (.tuple #[u, .bool (pfR d n L).isSome]) ∧ Own w' w.heap.size 2 u (ints ((pfR d n L).getD []))) ∧ Below w.heap.size w w' := by
  have HD := hidd hd
  have d23 := hd.le
  have Hr := hidd hr
  have hle := hr.le
  have HP := hidd (fun W => power_any d n d23.2 (by omega) W)
  obtain ⟨N, hN⟩ : ∃ N, N = d ^ n := ⟨_, rfl⟩
  rw [← hN] at HP
  have HN := hidd hN
  obtain ⟨A, c, rfl, hq⟩ := hr
  clear hq hd hN
  go_enter Try.func57, Try.ntmps57
  go_wp2_with fail
  obtain ⟨w1, hw1⟩ : ∃ w1, w1 = ((w.alloc (.cells #[.int .i64 (d : Nat)] 2)).alloc (.cells #[.int .i64 (n : Nat)] 2)).alloc (.cells #[.slice A L.length c] 22) := ⟨_, rfl⟩
  have B1 := hidd (show Below w.heap.size w w1 by rw [hw1]; exact ((bel_alloc' _ _).alloc (by simp) _).alloc (by simp; omega) _)
  have KB := hidd (show w1.heap[w.heap.size]? = some (.cells #[.int .i64 (d : Nat)] 2 (0, 0)) by rw [hw1]; exact hp_old (hp_old (hp_new rfl)))
  have KC := hidd (show w1.heap[w.heap.size + 1]? = some (.cells #[.int .i64 (n : Nat)] 2 (0, 0)) by rw [hw1]; exact hp_old (hp_new (by simp)))
  have KE := hidd (show w1.heap[w.heap.size + 1 + 1]? = some (.cells #[.slice A L.length c] 22 (0, 0)) by rw [hw1]; exact hp_new (by simp))
  try rw [← hw1]
  clear hw1
  have S1 := hidd (show Below w1.heap.size w1 w1.drew from drew_bel' w1)
  refine wp_region_held (S := fun w' => Below w1.heap.size w1 w') (by kernel_rfl) ?_
  change wpAnyH _ _ _ _ _ _ _ _ (World.drew _)
  refine wpAnyH_take (i := 0) (v := ?v0) rfl (by kernel_rfl) (by kernel_rfl) (by kernel_rfl) (fun _ _ _ h => h) (Or.inl ⟨by rfl, ?h0⟩) S1.out ?_
  case h0 => (intro w2 hS; have c1 := run_loadI (hp_bel KB.out hS); have c2 := run_loadI (hp_bel KC.out hS); have c3 := run_loadI (hp_bel KE.out hS); clear hS; go_simp; first | done | with_reducible rfl)
  simp only [Act.put, List.getElem_toArray, List.getElem_cons_succ, List.getElem_cons_zero, List.setIfInBounds_toArray, List.set_cons_zero, List.set_cons_succ]
  refine wpAnyH_take (i := 1) (v := ?v1) rfl (by kernel_rfl) (by kernel_rfl) (by kernel_rfl) (fun _ _ _ h => h) (Or.inl ⟨by rfl, ?h1⟩) S1.out ?_
  case h1 => (intro w2 hS; have c1 := run_loadI (hp_bel KB.out hS); have c2 := run_loadI (hp_bel KC.out hS); have c3 := run_loadI (hp_bel KE.out hS); clear hS; go_simp; first | done | with_reducible rfl)
  simp only [Act.put, List.getElem_toArray, List.getElem_cons_succ, List.getElem_cons_zero, List.setIfInBounds_toArray, List.set_cons_zero, List.set_cons_succ]
  refine wpAnyH_take (i := 2) (v := ?v2) rfl (by kernel_rfl) (by kernel_rfl) (by kernel_rfl) (fun _ _ _ h => h) (Or.inl ⟨by rfl, ?h2⟩) S1.out ?_
  case h2 => (intro w2 hS; have c1 := run_loadI (hp_bel KB.out hS); have c2 := run_loadI (hp_bel KC.out hS); have c3 := run_loadI (hp_bel KE.out hS); clear hS; go_simp; first | done | with_reducible rfl)
  simp only [Act.put, List.getElem_toArray, List.getElem_cons_succ, List.getElem_cons_zero, List.setIfInBounds_toArray, List.set_cons_zero, List.set_cons_succ]
  refine wpAnyH_take (i := 3) (v := ?v3) rfl (by kernel_rfl) (by kernel_rfl) (by kernel_rfl) (fun _ _ _ h => h) (Or.inl ⟨by rfl, ?h3⟩) S1.out ?_
  case h3 => (intro w2 hS; have c1 := run_loadI (hp_bel KB.out hS); have c2 := run_loadI (hp_bel KC.out hS); have c3 := run_loadI (hp_bel KE.out hS); clear hS; go_simp; first | done | with_reducible rfl)
  simp only [Act.put, List.getElem_toArray, List.getElem_cons_succ, List.getElem_cons_zero, List.setIfInBounds_toArray, List.set_cons_zero, List.set_cons_succ]
  refine wpAnyH_ready (rs := [4]) (by kernel_rfl) (by simp) (AllReadyH.cons rfl (fun K hK => ?_) AllReadyH.nil)
  go_simp
  refine (HP.out _).mono ?_
  rintro e w6 ⟨rfl, rfl⟩
  refine hK.out _ _ S1.out (fun _ => ?_)
  clear hK K
  by_cases hl : L.length = N
  · have hl2 : ((L.length : Int) != (N : Int)) = false := by rw [hl]; exact bne_self_eq_false _
    have HL := hidd hl
    clear hl
    refine wpAnyH_take (i := 5) (v := .bool false) rfl (by kernel_rfl) (by kernel_rfl) (by kernel_rfl) (fun _ _ _ h => h) (Or.inl ⟨by rfl, ?h5⟩) S1.out ?_
    case h5 => (intro w2 hS; clear hS; go_simp; first | done | with_reducible rfl)
    simp only [Act.put, List.getElem_toArray, List.getElem_cons_succ, List.getElem_cons_zero, List.setIfInBounds_toArray, List.set_cons_zero, List.set_cons_succ]
    refine wpAnyH_take (i := 6) (v := .bool false) rfl (by kernel_rfl) (by kernel_rfl) (by kernel_rfl) (fun _ _ _ h => h) (Or.inl ⟨by rfl, ?h6⟩) S1.out ?_
    case h6 => (intro w2 hS; clear hS; go_simp; first | done | with_reducible rfl)
    simp only [Act.put, List.getElem_toArray, List.getElem_cons_succ, List.getElem_cons_zero, List.setIfInBounds_toArray, List.set_cons_zero, List.set_cons_succ]
    clear hl2
    refine wpAnyH_take (i := 7) (v := ?v7) rfl (by kernel_rfl) (by kernel_rfl) (by kernel_rfl) (fun _ _ _ h => h) (Or.inl ⟨by rfl, ?h7⟩) S1.out ?_
    case h7 => (intro w2 hS; have c3 := run_loadI (hp_bel KE.out hS); clear hS; go_simp; first | done | with_reducible rfl)
    simp only [Act.put, List.getElem_toArray, List.getElem_cons_succ, List.getElem_cons_zero, List.setIfInBounds_toArray, List.set_cons_zero, List.set_cons_succ]
    refine wpAnyH_take (i := 8) (v := ?v8) rfl (by kernel_rfl) (by kernel_rfl) (by kernel_rfl) (fun _ _ _ h => h) (Or.inl ⟨by rfl, ?h8⟩) S1.out ?_
    case h8 => (intro w2 hS; have c3 := run_loadI (hp_bel KE.out hS); clear hS; go_simp; first | done | with_reducible rfl)
    simp only [Act.put, List.getElem_toArray, List.getElem_cons_succ, List.getElem_cons_zero, List.setIfInBounds_toArray, List.set_cons_zero, List.set_cons_succ]
    refine wpAnyH_ready (rs := [9]) (by kernel_rfl) (by simp) (AllReadyH.cons rfl (fun K hK => ?_) AllReadyH.nil)
    go_simp
    have hcf := containsFunc64 82 #[.pointer (some ⟨w.heap.size, 0, none⟩), .pointer (some ⟨w.heap.size + 1, 0, none⟩)] (fun _ _ => rfl) A c (ints L) (fun j => .int .i64 (L.getD j 0)) (fun j => !lvR N (L.getD j 0)) w1.drew ((Hr.out.below B1.out).below S1.out).rdS (fun j hj => by
          rw [ints_length] at hj
          rw [ints_get, List.getElem?_eq_getElem hj, List.getD_eq_getElem?_getD, List.getElem?_eq_getElem hj]; rfl) (fun j W _ hb => pf1_any d n N HD.out hn HN.out w.heap.size (w.heap.size + 1) _ W (hp_bel KB.out (bel_then S1.out hb)) (hp_bel KC.out (bel_then S1.out hb)))
    rw [ints_length, any_not] at hcf
    refine hcf.mono ?_
    rintro e w2 ⟨rfl, hb⟩
    have S2 := hidd (bel_then S1.out hb)
    clear hcf hb
    have HA := hidd (show lvB d n L = L.all (lvR N) by rw [lvB_iff, ← HN.out, HL.out]; simp)
    refine hK.out _ _ S2.out (fun _ => ?_)
    clear hK K S1
    cases ha : L.all (lvR N) with
    | false =>
      have HR := hidd (show pfR d n L = none by unfold pfR; rw [HA.out, ha]; rfl)
      clear ha
      refine wpAnyH_take (i := 10) (v := ?v10f) rfl (by kernel_rfl) (by kernel_rfl) (by kernel_rfl) (fun _ _ _ h => h) (Or.inl ⟨by rfl, ?h10f⟩) S2.out ?_
      case h10f => (intro w2 hS; clear hS; go_simp; first | done | with_reducible rfl)
      simp only [Act.put, List.getElem_toArray, List.getElem_cons_succ, List.getElem_cons_zero, List.setIfInBounds_toArray, List.set_cons_zero, List.set_cons_succ]
      refine wpAnyH_done (by kernel_rfl) ?_ _
      go_wp2_with fail
      go_ret2
      exact ⟨⟨_, by rw [HR.out]; rfl, by rw [HR.out]; exact Own.nil _ _ _⟩, bel_then B1.out S2.out⟩
    | true =>
      have HV : Hid (pfR d n L = _) := hidd (if_pos (by rw [HA.out, ha]))
      have HLr := hidd (show ∀ y ∈ L, 0 ≤ y ∧ y ≤ (d ^ n : Nat) - 1 from fun y hy => by
        have := List.all_eq_true.1 ha y hy
        rw [← HN.out]
        exact of_decide_eq_true this)
      clear ha HA
      refine wpAnyH_take (i := 10) (v := ?v10t) rfl (by kernel_rfl) (by kernel_rfl) (by kernel_rfl) (fun _ _ _ h => h) (Or.inl ⟨by rfl, ?h10t⟩) S2.out ?_
      case h10t => (intro w2 hS; clear hS; go_simp; first | done | with_reducible rfl)
      simp only [Act.put, List.getElem_toArray, List.getElem_cons_succ, List.getElem_cons_zero, List.setIfInBounds_toArray, List.set_cons_zero, List.set_cons_succ]
      refine wpAnyH_done (by kernel_rfl) ?_ _
      have c1 := run_loadI (hp_bel KB.out S2.out)
      have c2 := run_loadI (hp_bel KC.out S2.out)
      go_wp2_with fail
      clear c1 c2
      refine (portraitBy_any d n HD.out hn (fun i k => pno d (pfI d n L i k)) 84 #[.pointer (some ⟨w.heap.size, 0, none⟩), .pointer (some ⟨w.heap.size + 1, 0, none⟩), .pointer (some ⟨w.heap.size + 1 + 1, 0, none⟩)] (fun _ _ => rfl) w2 (fun i k W hi hk hb =>
        pf2_any d n i (n - i - 1) k HD.out hn (by omega) hk _ L (by rw [HL.out, HN.out]) HLr.out w.heap.size (w.heap.size + 1) (w.heap.size + 1 + 1) W (((Hr.out.below B1.out).below S2.out).below hb) (hp_bel KB.out (bel_then S2.out hb)) (hp_bel KC.out (bel_then S2.out hb)) (hp_bel KE.out (bel_then S2.out hb)))).mono ?_
      rintro e w3 ⟨⟨u, rfl, ho⟩, hb⟩
      have HO := hidd (show Own w3 w2.heap.size 2 u (ints (pfO d n L)) from ho)
      have B3 := hidd (bel_then S2.out hb)
      have HSz := hidd S2.out.size
      have HSl := hidd HO.out.slice
      clear ho hb S2
      have HRd := hidd HO.out.rdI
      have HM1 := hidd (bel_then B1.out B3.out)
      go_wp2_with fail
      have S3 := hidd (show Below w1.heap.size w1 w3.drew from B3.out.trans ((drew_bel' w3).mono B3.out.size))
      have HC := hidd (slicesContains_any u (pfO d n L) (-1) w3.drew (HRd.out.below (drew_bel' w3)))
      refine wp_region_held (S := fun w' => Below w1.heap.size w1 w') (by kernel_rfl) ?_
      change wpAnyH _ _ _ _ _ _ _ _ (World.drew _)
      refine wpAnyH_take (i := 0) (v := ?v0r) rfl (by kernel_rfl) (by kernel_rfl) (by kernel_rfl) (fun _ _ _ h => h) (Or.inl ⟨by rfl, ?h0r⟩) S3.out ?_
      case h0r => (intro w2 hS; clear hS; go_simp; first | done | with_reducible rfl)
      simp only [Act.put, List.getElem_toArray, List.getElem_cons_succ, List.getElem_cons_zero, List.setIfInBounds_toArray, List.set_cons_zero, List.set_cons_succ]
      refine wpAnyH_ready (rs := [1]) (by kernel_rfl) (by simp) (AllReadyH.cons rfl (fun K hK => ?_) AllReadyH.nil)
      go_simp
      refine HC.out.mono ?_
      rintro e w4 ⟨rfl, rfl⟩
      refine hK.out _ _ S3.out (fun _ => ?_)
      clear hK K HC
      cases hc : (pfO d n L).contains (-1) with
      | true =>
        have HR := hidd (show pfR d n L = none by rw [HV.out, if_pos hc])
        clear hc
        refine wpAnyH_take (i := 2) (v := ?v2c) rfl (by kernel_rfl) (by kernel_rfl) (by kernel_rfl) (fun _ _ _ h => h) (Or.inl ⟨by rfl, ?h2c⟩) S3.out ?_
        case h2c => (intro w2 hS; clear hS; go_simp; first | done | with_reducible rfl)
        simp only [Act.put, List.getElem_toArray, List.getElem_cons_succ, List.getElem_cons_zero, List.setIfInBounds_toArray, List.set_cons_zero, List.set_cons_succ]
        refine wpAnyH_take (i := 3) (v := undef) rfl (by kernel_rfl) (by kernel_rfl) (by kernel_rfl) (fun _ _ _ h => h) (Or.inr ⟨by rfl, rfl⟩) S3.out ?_
        simp only [Act.put, List.getElem_toArray, List.getElem_cons_succ, List.getElem_cons_zero, List.setIfInBounds_toArray, List.set_cons_zero, List.set_cons_succ]
        refine wpAnyH_take (i := 4) (v := undef) rfl (by kernel_rfl) (by kernel_rfl) (by kernel_rfl) (fun _ _ _ h => h) (Or.inr ⟨by rfl, rfl⟩) S3.out ?_
        simp only [Act.put, List.getElem_toArray, List.getElem_cons_succ, List.getElem_cons_zero, List.setIfInBounds_toArray, List.set_cons_zero, List.set_cons_succ]
        refine wpAnyH_take (i := 5) (v := undef) rfl (by kernel_rfl) (by kernel_rfl) (by kernel_rfl) (fun _ _ _ h => h) (Or.inr ⟨by rfl, rfl⟩) S3.out ?_
        simp only [Act.put, List.getElem_toArray, List.getElem_cons_succ, List.getElem_cons_zero, List.setIfInBounds_toArray, List.set_cons_zero, List.set_cons_succ]
        refine wpAnyH_take (i := 6) (v := undef) rfl (by kernel_rfl) (by kernel_rfl) (by kernel_rfl) (fun _ _ _ h => h) (Or.inr ⟨by rfl, rfl⟩) S3.out ?_
        simp only [Act.put, List.getElem_toArray, List.getElem_cons_succ, List.getElem_cons_zero, List.setIfInBounds_toArray, List.set_cons_zero, List.set_cons_succ]
        refine wpAnyH_take (i := 7) (v := undef) rfl (by kernel_rfl) (by kernel_rfl) (by kernel_rfl) (fun _ _ _ h => h) (Or.inr ⟨by rfl, rfl⟩) S3.out ?_
        simp only [Act.put, List.getElem_toArray, List.getElem_cons_succ, List.getElem_cons_zero, List.setIfInBounds_toArray, List.set_cons_zero, List.set_cons_succ]
        refine wpAnyH_take (i := 8) (v := undef) rfl (by kernel_rfl) (by kernel_rfl) (by kernel_rfl) (fun _ _ _ h => h) (Or.inr ⟨by rfl, rfl⟩) S3.out ?_
        simp only [Act.put, List.getElem_toArray, List.getElem_cons_succ, List.getElem_cons_zero, List.setIfInBounds_toArray, List.set_cons_zero, List.set_cons_succ]
        refine wpAnyH_take (i := 9) (v := undef) rfl (by kernel_rfl) (by kernel_rfl) (by kernel_rfl) (fun _ _ _ h => h) (Or.inr ⟨by rfl, rfl⟩) S3.out ?_
        simp only [Act.put, List.getElem_toArray, List.getElem_cons_succ, List.getElem_cons_zero, List.setIfInBounds_toArray, List.set_cons_zero, List.set_cons_succ]
        refine wpAnyH_take (i := 10) (v := ?v10c) rfl (by kernel_rfl) (by kernel_rfl) (by kernel_rfl) (fun _ _ _ h => h) (Or.inl ⟨by rfl, ?h10c⟩) S3.out ?_
        case h10c => (intro w2 hS; clear hS; go_simp; first | done | with_reducible rfl)
        simp only [Act.put, List.getElem_toArray, List.getElem_cons_succ, List.getElem_cons_zero, List.setIfInBounds_toArray, List.set_cons_zero, List.set_cons_succ]
        refine wpAnyH_done (by kernel_rfl) ?_ _
        go_wp2_with fail
        go_ret2
        exact ⟨⟨_, by rw [HR.out]; rfl, by rw [HR.out]; exact Own.nil _ _ _⟩, bel_then B1.out S3.out⟩
      | false =>
        have HIp := hidd (isP_pno hc)
        rw [if_neg (by rw [hc]; decide)] at HV
        clear hc
        refine wpAnyH_take (i := 2) (v := ?v2d) rfl (by kernel_rfl) (by kernel_rfl) (by kernel_rfl) (fun _ _ _ h => h) (Or.inl ⟨by rfl, ?h2d⟩) S3.out ?_
        case h2d => (intro w2 hS; clear hS; go_simp; first | done | with_reducible rfl)
        simp only [Act.put, List.getElem_toArray, List.getElem_cons_succ, List.getElem_cons_zero, List.setIfInBounds_toArray, List.set_cons_zero, List.set_cons_succ]
        refine wpAnyH_take (i := 3) (v := ?v3d) rfl (by kernel_rfl) (by kernel_rfl) (by kernel_rfl) (fun _ _ _ h => h) (Or.inl ⟨by rfl, ?h3d⟩) S3.out ?_
        case h3d => (intro w2 hS; have c1 := run_loadI (hp_bel KB.out hS); have c2 := run_loadI (hp_bel KC.out hS); have c3 := run_loadI (hp_bel KE.out hS); clear hS; go_simp; first | done | with_reducible rfl)
        simp only [Act.put, List.getElem_toArray, List.getElem_cons_succ, List.getElem_cons_zero, List.setIfInBounds_toArray, List.set_cons_zero, List.set_cons_succ]
        refine wpAnyH_take (i := 4) (v := ?v4d) rfl (by kernel_rfl) (by kernel_rfl) (by kernel_rfl) (fun _ _ _ h => h) (Or.inl ⟨by rfl, ?h4d⟩) S3.out ?_
        case h4d => (intro w2 hS; have c1 := run_loadI (hp_bel KB.out hS); have c2 := run_loadI (hp_bel KC.out hS); have c3 := run_loadI (hp_bel KE.out hS); clear hS; go_simp; first | done | with_reducible rfl)
        simp only [Act.put, List.getElem_toArray, List.getElem_cons_succ, List.getElem_cons_zero, List.setIfInBounds_toArray, List.set_cons_zero, List.set_cons_succ]
        refine wpAnyH_take (i := 5) (v := ?v5d) rfl (by kernel_rfl) (by kernel_rfl) (by kernel_rfl) (fun _ _ _ h => h) (Or.inl ⟨by rfl, ?h5d⟩) S3.out ?_
        case h5d => (intro w2 hS; clear hS; go_simp; first | done | with_reducible rfl)
        simp only [Act.put, List.getElem_toArray, List.getElem_cons_succ, List.getElem_cons_zero, List.setIfInBounds_toArray, List.set_cons_zero, List.set_cons_succ]
        refine wpAnyH_take (i := 7) (v := ?v7d) rfl (by kernel_rfl) (by kernel_rfl) (by kernel_rfl) (fun _ _ _ h => h) (Or.inl ⟨by rfl, ?h7d⟩) S3.out ?_
        case h7d => (intro w2 hS; have c1 := run_loadI (hp_bel KB.out hS); have c2 := run_loadI (hp_bel KC.out hS); have c3 := run_loadI (hp_bel KE.out hS); clear hS; go_simp; first | done | with_reducible rfl)
        simp only [Act.put, List.getElem_toArray, List.getElem_cons_succ, List.getElem_cons_zero, List.setIfInBounds_toArray, List.set_cons_zero, List.set_cons_succ]
        refine wpAnyH_ready (rs := [6]) (by kernel_rfl) (by simp) (AllReadyH.cons rfl (fun K hK => ?_) AllReadyH.nil)
        go_simp
        refine (ofPortrait_any d n HD.out hn u _ HIp.out _ (HRd.out.below (drew_bel' w3))).mono ?_
        rintro e w5 ⟨⟨u5, rfl, ho5⟩, hb⟩
        have S5 := hidd (bel_then S3.out hb)
        have HO5 := hidd (HO.out.below ((drew_bel' w3).trans hb))
        have HE := hidd (slicesEq_any u5 _ (prP d n (pfO d n L)) L w5 ho5.rdI ((Hr.out.below B1.out).below S5.out))
        refine hK.out _ _ S5.out (fun _ => ?_)
        clear hK K hb ho5 S3
        refine wpAnyH_ready (rs := [8]) (by kernel_rfl) (by simp) (AllReadyH.cons rfl (fun K hK => ?_) AllReadyH.nil)
        go_simp
        refine HE.out.mono ?_
        rintro e w6 ⟨rfl, q6, e6⟩
        have b6 : Below w5.heap.size w5 w6 := by rw [e6]; exact bel_drewN (Below.refl _ _) _
        have S6 := hidd (bel_then S5.out b6)
        have HO6 := hidd (HO5.out.below b6)
        refine hK.out _ _ S6.out (fun _ => ?_)
        clear hK K b6 HO5 S5 HE e6
        by_cases he : prP d n (pfO d n L) = L
        · have HR := hidd (show pfR d n L = some (pfO d n L) by rw [HV.out, if_pos he])
          rw [decide_eq_true he]
          clear he
          refine wpAnyH_take (i := 9) (v := ?v9g) rfl (by kernel_rfl) (by kernel_rfl) (by kernel_rfl) (fun _ _ _ h => h) (Or.inl ⟨by rfl, ?h9g⟩) S6.out ?_
          case h9g => (intro w2 hS; clear hS; go_simp; first | done | with_reducible rfl)
          simp only [Act.put, List.getElem_toArray, List.getElem_cons_succ, List.getElem_cons_zero, List.setIfInBounds_toArray, List.set_cons_zero, List.set_cons_succ]
          refine wpAnyH_take (i := 10) (v := ?v10g) rfl (by kernel_rfl) (by kernel_rfl) (by kernel_rfl) (fun _ _ _ h => h) (Or.inl ⟨by rfl, ?h10g⟩) S6.out ?_
          case h10g => (intro w2 hS; clear hS; go_simp; first | done | with_reducible rfl)
          simp only [Act.put, List.getElem_toArray, List.getElem_cons_succ, List.getElem_cons_zero, List.setIfInBounds_toArray, List.set_cons_zero, List.set_cons_succ]
          refine wpAnyH_done (by kernel_rfl) ?_ _
          go_wp2_with fail
          go_ret2
          exact ⟨⟨_, by rw [HR.out]; rfl, by rw [HR.out]; exact HO6.out.mono (by have h1 := B1.out.size; have h2 := HSz.out; omega)⟩, bel_then B1.out S6.out⟩
        · have HR := hidd (show pfR d n L = none by rw [HV.out, if_neg he])
          rw [decide_eq_false he]
          clear he
          refine wpAnyH_take (i := 9) (v := ?v9h) rfl (by kernel_rfl) (by kernel_rfl) (by kernel_rfl) (fun _ _ _ h => h) (Or.inl ⟨by rfl, ?h9h⟩) S6.out ?_
          case h9h => (intro w2 hS; clear hS; go_simp; first | done | with_reducible rfl)
          simp only [Act.put, List.getElem_toArray, List.getElem_cons_succ, List.getElem_cons_zero, List.setIfInBounds_toArray, List.set_cons_zero, List.set_cons_succ]
          refine wpAnyH_take (i := 10) (v := ?v10h) rfl (by kernel_rfl) (by kernel_rfl) (by kernel_rfl) (fun _ _ _ h => h) (Or.inl ⟨by rfl, ?h10h⟩) S6.out ?_
          case h10h => (intro w2 hS; clear hS; go_simp; first | done | with_reducible rfl)
          simp only [Act.put, List.getElem_toArray, List.getElem_cons_succ, List.getElem_cons_zero, List.setIfInBounds_toArray, List.set_cons_zero, List.set_cons_succ]
          refine wpAnyH_done (by kernel_rfl) ?_ _
          go_wp2_with fail
          go_ret2
          exact ⟨⟨_, by rw [HR.out]; rfl, by rw [HR.out]; exact Own.nil _ _ _⟩, bel_then B1.out S6.out⟩
  · have hl2 : ((L.length : Int) != (N : Int)) = true := bne_iff_ne.2 (by omega)
    have HR := hidd (show pfR d n L = none by unfold pfR; rw [lvB_iff, ← HN.out, decide_eq_false hl]; rfl)
    clear hl
    refine wpAnyH_take (i := 5) (v := .bool true) rfl (by kernel_rfl) (by kernel_rfl) (by kernel_rfl) (fun _ _ _ h => h) (Or.inl ⟨by rfl, ?h5z⟩) S1.out ?_
    case h5z => (intro w2 hS; clear hS; go_simp; first | done | with_reducible rfl)
    simp only [Act.put, List.getElem_toArray, List.getElem_cons_succ, List.getElem_cons_zero, List.setIfInBounds_toArray, List.set_cons_zero, List.set_cons_succ]
    refine wpAnyH_take (i := 6) (v := .bool true) rfl (by kernel_rfl) (by kernel_rfl) (by kernel_rfl) (fun _ _ _ h => h) (Or.inl ⟨by rfl, ?h6z⟩) S1.out ?_
    case h6z => (intro w2 hS; clear hS; go_simp; first | done | with_reducible rfl)
    simp only [Act.put, List.getElem_toArray, List.getElem_cons_succ, List.getElem_cons_zero, List.setIfInBounds_toArray, List.set_cons_zero, List.set_cons_succ]
    refine wpAnyH_take (i := 7) (v := undef) rfl (by kernel_rfl) (by kernel_rfl) (by kernel_rfl) (fun _ _ _ h => h) (Or.inr ⟨by rfl, rfl⟩) S1.out ?_
    simp only [Act.put, List.getElem_toArray, List.getElem_cons_succ, List.getElem_cons_zero, List.setIfInBounds_toArray, List.set_cons_zero, List.set_cons_succ]
    refine wpAnyH_take (i := 8) (v := undef) rfl (by kernel_rfl) (by kernel_rfl) (by kernel_rfl) (fun _ _ _ h => h) (Or.inr ⟨by rfl, rfl⟩) S1.out ?_
    simp only [Act.put, List.getElem_toArray, List.getElem_cons_succ, List.getElem_cons_zero, List.setIfInBounds_toArray, List.set_cons_zero, List.set_cons_succ]
    refine wpAnyH_take (i := 9) (v := undef) rfl (by kernel_rfl) (by kernel_rfl) (by kernel_rfl) (fun _ _ _ h => h) (Or.inr ⟨by rfl, rfl⟩) S1.out ?_
    simp only [Act.put, List.getElem_toArray, List.getElem_cons_succ, List.getElem_cons_zero, List.setIfInBounds_toArray, List.set_cons_zero, List.set_cons_succ]
    refine wpAnyH_take (i := 10) (v := .bool true) rfl (by kernel_rfl) (by kernel_rfl) (by kernel_rfl) (fun _ _ _ h => h) (Or.inl ⟨by rfl, ?h10z⟩) S1.out ?_
    case h10z => (intro w2 hS; clear hS; go_simp; first | done | with_reducible rfl)
    simp only [Act.put, List.getElem_toArray, List.getElem_cons_succ, List.getElem_cons_zero, List.setIfInBounds_toArray, List.set_cons_zero, List.set_cons_succ]
    refine wpAnyH_done (by kernel_rfl) ?_ _
    go_wp2_with fail
    go_ret2
    exact ⟨⟨_, by rw [HR.out]; rfl, by rw [HR.out]; exact Own.nil _ _ _⟩, bel_then B1.out S1.out⟩
end Go.Proofs.Ytecdjmfohcnadaa
