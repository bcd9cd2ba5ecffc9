/- Walks: what a portrait makes of a word, of the program and of the reference. -/
import Derived.Test.YtecdjmfohcnadaaPsi
import Derived.Test.YtecdjmfohcnadaaPim
import Derived.Deep.RegionHeld3
namespace Go.Proofs.Ytecdjmfohcnadaa
open Go.RowKit
set_option linter.unusedSimpArgs false

theorem nbr_le {d : Nat} (h3 : d ≤ 3) {s : ByteArray} (hl : Lts d s) {k : Nat} (hk : k ≤ s.size) (h5 : k ≤ 5) : nbr d s k ≤ 243 := by
  have := nbr_lt hl k hk
  have := pow_bd h3 h5
  omega
theorem place_any (d : Nat) (hd : Dd d) (s : ByteArray) (hl : Lts d s) (hs : s.size ≤ 5) (w : World) :
    Calls Try.prog 77 #[.int .i64 (d : Nat), .string s] w fun e w' => e = .returned (.int .i64 (pst d s.size + nbr d s s.size : Nat)) ∧ w = w' := by
  have h := hd.le
  have HS := hidd (fun W => size_any d s.size hd hs W)
  have HN := hidd (fun W => numberOf_any d h.2 s hl hs W)
  have b1 := pst_bd hd hs
  have b2 := nbr_le h.2 hl (Nat.le_refl _) hs
  obtain ⟨p, hp⟩ : ∃ p, p = pst d s.size := ⟨_, rfl⟩
  obtain ⟨q, hq⟩ : ∃ q, q = nbr d s s.size := ⟨_, rfl⟩
  rw [← hp] at HS b1 ⊢
  rw [← hq] at HN b2 ⊢
  clear hp hq hl hd
  go_enter Try.func77, Try.ntmps77
  go_wp2_with (first | (go_at_call 37; refine (HS.out _).mono ?_; rintro e w1 ⟨rfl, rfl⟩) | (go_at_call 85; refine (HN.out _).mono ?_; rintro e w1 ⟨rfl, rfl⟩))
  go_ret
  exact ⟨ret_i (by go_num), rfl⟩
theorem l03At_any (d : Nat) (hd : Dd d) (v : Value) (xs : List Int) (s : ByteArray) (hl : Lts d s) (hs : s.size ≤ 5) (hlt : pst d s.size + nbr d s s.size < xs.length) (w : World) (hr : RdI w v xs) :
    Calls Try.prog 76 #[.int .i64 (d : Nat), v, .string s] w fun e w' => e = .returned (.int .i64 (xs.getD (pst d s.size + nbr d s s.size) 0)) ∧ w = w' := by
  have h := hd.le
  obtain ⟨A, c, rfl, hr⟩ := hr
  obtain ⟨b, o, rfl, hc⟩ := hr.get hlt
  have hle := hr.1
  rw [ints_length] at hle
  have HS := hidd (fun W => l03Start_any d s.size hd hs W)
  have HN := hidd (fun W => l01NumberOf_any d h.2 s hl hs W)
  have b1 := pst_bd hd hs
  have b2 := nbr_le h.2 hl (Nat.le_refl _) hs
  have HX := hidd (show xs.getD (pst d s.size + nbr d s s.size) 0 = xs[pst d s.size + nbr d s s.size] by rw [List.getD_eq_getElem?_getD, List.getElem?_eq_getElem hlt]; rfl)
  obtain ⟨x, hx⟩ : ∃ x, x = xs[pst d s.size + nbr d s s.size] := ⟨_, rfl⟩
  rw [← hx] at hc HX
  rw [HX.out]
  obtain ⟨p, hp⟩ : ∃ p, p = pst d s.size := ⟨_, rfl⟩
  obtain ⟨q, hq⟩ : ∃ q, q = nbr d s s.size := ⟨_, rfl⟩
  rw [← hp] at HS b1 hlt hc
  rw [← hq] at HN b2 hlt hc
  have i1 : (p : Int) + (q : Int) < xs.length := by omega
  have i2 : (0 : Int) ≤ (p : Int) + (q : Int) := by omega
  have i3 : ((p : Int) + (q : Int)).toNat = p + q := by omega
  have j1 : ((p + q : Nat) : Int) < xs.length := by omega
  clear hp hq hl hd hr hx HX
  go_enter Try.func76, Try.ntmps76
  go_wp2_with (first | (go_at_call 46; refine (HS.out _).mono ?_; rintro e w1 ⟨rfl, rfl⟩) | (go_at_call 79; refine (HN.out _).mono ?_; rintro e w1 ⟨rfl, rfl⟩))
  go_ret
  exact ⟨rfl, rfl⟩

/-! ### A word's first letters -/
theorem pre_size {s : ByteArray} {k : Nat} (hk : k ≤ s.size) : (s.extract 0 k).size = k := by rw [ByteArray.size_extract]; omega
theorem pre_get {s : ByteArray} {k i : Nat} (hk : k ≤ s.size) (hi : i < k) : (s.extract 0 k)[i]'(by rw [pre_size hk]; exact hi) = s[i]'(by omega) := by
  rw [ByteArray.getElem_extract]
  congr 1
  omega
theorem pre_lt {s : ByteArray} {k i : Nat} (hk : k ≤ s.size) (hi : i < k) : lt (s.extract 0 k) i = lt s i := by
  unfold lt
  rw [getElem!_pos _ i (by rw [pre_size hk]; exact hi), getElem!_pos s i (by omega), pre_get hk hi]
theorem pre_lts {d : Nat} {s : ByteArray} (h : Lts d s) {k : Nat} (hk : k ≤ s.size) : Lts d (s.extract 0 k) := by
  have sz := pre_size hk
  refine ⟨fun i hi => ?_, fun i hi => ?_⟩
  · rw [pre_get hk (by omega)]
    exact h.lo i (by omega)
  · rw [pre_lt hk (by omega)]
    exact h.hi i (by omega)
theorem pre_nbr {d : Nat} {s : ByteArray} {k : Nat} (hk : k ≤ s.size) : ∀ i, i ≤ k → nbr d (s.extract 0 k) i = nbr d s i
  | 0, _ => rfl
  | i + 1, hi => by rw [nbr, nbr, pre_nbr hk i (by omega), pre_lt hk (by omega)]
theorem idx_lt {d n : Nat} {s : ByteArray} (hl : Lts d s) (hs : s.size ≤ n) {k : Nat} (hk : k < s.size) : pst d k + nbr d s k < pst d n := pst_lt (show k < n by omega) (nbr_lt hl k (by omega))

set_option maxRecDepth 100000 in
set_option maxHeartbeats 2000000 in
theorem act_any (d n : Nat) (hd : Dd d) (hn : n ≤ 4) (v : Value) (xs : List Int) (hip : isP d n xs = true) (s : ByteArray) (hl : Lts d s) (hs : s.size ≤ n) (w : World) (hr : RdI w v xs) :
    Calls Try.prog 53 #[.int .i64 (d : Nat), v, .string s] w fun e w' => e = .returned (.string (acT d xs s)) ∧ Below w.heap.size w w' := by
  obtain ⟨A, c, rfl, hr⟩ := hr
  have Hr := hidd hr
  have HD := hidd hd
  have HI := hidd hip
  have HL := hidd hl
  have HN := hidd (show (u8s (acB d xs s s.size)).length = s.size by rw [u8s_length, acB_len])
  have hle := hr.1
  rw [ints_length] at hle
  have d23 := hd.le
  clear hr hip hl hd
  go_enter Try.func53, Try.ntmps53
  go_wp2_with (at_make; refine mk_own rfl _ _ _ rfl w.heap.size 5 (.int .u8 0) 1 Try.underlying66 info_u8 rfl s.size rfl rfl (by omega) (by omega) (Nat.le_refl _) ?_; intro w1 ho hg hlt)
  have Ho := hidd ho
  have Bel := hidd ((Below.refl w.heap.size w).grown hg (Nat.le_refl _) (fun k hk => by cases hk))
  clear ho hg
  go_loopw [15] (fun i wr => ∃ k : Nat, k ≤ s.size ∧ i = .int .i64 k ∧ Hid (Own wr w.heap.size 5 (.slice (some ⟨w.heap.size, 0, none⟩) s.size s.size) (part (u8s (acB d xs s s.size)) s.size k (.int .u8 0))) ∧ Hid (Below w.heap.size w wr)) (fun i _ => s.size - (intOf i).toNat)
  case atStart => exact ⟨0, Nat.zero_le _, rfl, hidd (by rw [part_zero]; exact Ho.out), Bel⟩
  case round =>
    obtain ⟨k, hk, rfl, HU, Hb⟩ := hrel
    by_cases hlt : k < s.size
    · have i1 : (k : Int) < s.size := by omega
      have i2 : (k : Int) ≤ s.size := by omega
      have i3 : (0 : Int) ≤ k := by omega
      go_wp2_with fail
      refine wp_region_held (S := fun _ => True) (by kernel_rfl) ?_
      change wpAnyH _ _ _ _ _ _ _ _ (World.drew _)
      refine wpAnyH_take (i := 0) (v := ?v0) rfl (by kernel_rfl) (by kernel_rfl) (by kernel_rfl) (fun _ _ _ h => h) (Or.inl ⟨by rfl, ?h0⟩) trivial ?_
      case h0 => (intro w2 hS; clear hS; go_simp; first | done | with_reducible rfl)
      simp only [Act.put, List.getElem_toArray, List.getElem_cons_succ, List.getElem_cons_zero, List.setIfInBounds_toArray, List.set_cons_zero, List.set_cons_succ]
      refine wpAnyH_take (i := 2) (v := ?v2) rfl (by kernel_rfl) (by kernel_rfl) (by kernel_rfl) (fun _ _ _ h => h) (Or.inl ⟨by rfl, ?h2⟩) trivial ?_
      case h2 => (intro w2 hS; clear hS; go_simp; first | done | with_reducible rfl)
      simp only [Act.put, List.getElem_toArray, List.getElem_cons_succ, List.getElem_cons_zero, List.setIfInBounds_toArray, List.set_cons_zero, List.set_cons_succ]
      refine wpAnyH_take (i := 3) (v := ?v3) rfl (by kernel_rfl) (by kernel_rfl) (by kernel_rfl) (fun _ _ _ h => h) (Or.inl ⟨by rfl, ?h3⟩) trivial ?_
      case h3 => (intro w2 hS; clear hS; go_simp; first | done | with_reducible rfl)
      simp only [Act.put, List.getElem_toArray, List.getElem_cons_succ, List.getElem_cons_zero, List.setIfInBounds_toArray, List.set_cons_zero, List.set_cons_succ]
      refine wpAnyH_take (i := 4) (v := ?v4) rfl (by kernel_rfl) (by kernel_rfl) (by kernel_rfl) (fun _ _ _ h => h) (Or.inl ⟨by rfl, ?h4⟩) trivial ?_
      case h4 => (intro w2 hS; clear hS; go_simp; first | done | with_reducible rfl)
      simp only [Act.put, List.getElem_toArray, List.getElem_cons_succ, List.getElem_cons_zero, List.setIfInBounds_toArray, List.set_cons_zero, List.set_cons_succ]
      refine wpAnyH_take (i := 5) (v := ?v5) rfl (by kernel_rfl) (by kernel_rfl) (by kernel_rfl) (fun _ _ _ h => h) (Or.inl ⟨by rfl, ?h5⟩) trivial ?_
      case h5 => (intro w2 hS; clear hS; go_simp; first | done | with_reducible rfl)
      simp only [Act.put, List.getElem_toArray, List.getElem_cons_succ, List.getElem_cons_zero, List.setIfInBounds_toArray, List.set_cons_zero, List.set_cons_succ]
      refine wpAnyH_take (i := 6) (v := ?v6) rfl (by kernel_rfl) (by kernel_rfl) (by kernel_rfl) (fun _ _ _ h => h) (Or.inl ⟨by rfl, ?h6⟩) trivial ?_
      case h6 => (intro w2 hS; clear hS; go_simp; first | done | with_reducible rfl)
      simp only [Act.put, List.getElem_toArray, List.getElem_cons_succ, List.getElem_cons_zero, List.setIfInBounds_toArray, List.set_cons_zero, List.set_cons_succ]
      refine wpAnyH_ready (rs := [1]) (by kernel_rfl) (by simp) (AllReadyH.cons rfl (fun K hK => ?_) AllReadyH.nil)
      go_simp
      refine (permutationsAt_any d HD.out _).mono ?_
      rintro e w2 ⟨⟨v, rfl, g, rfl, hpm⟩, hb⟩
      have Hb2 := hidd (bel_then Hb.out ((drew_bel' wr).trans hb))
      have HU2 := hidd (HU.out.below ((drew_bel' wr).trans hb))
      obtain ⟨m, hm, hmc⟩ := isP_get HI.out (idx_lt HL.out hs hlt)
      obtain ⟨b2, t2, hc1, hc2⟩ := hpm m hmc
      have K1 := hidd hc1
      have K2 := hidd hc2
      refine hK.out _ _ trivial (fun _ => ?_)
      clear hK K hb hpm hc1 hc2 HU Hb
      refine wpAnyH_ready (rs := [7]) (by kernel_rfl) (by simp) (AllReadyH.cons rfl (fun K hK => ?_) AllReadyH.nil)
      go_simp
      have hpl := place_any d HD.out (s.extract 0 k) (pre_lts HL.out (Nat.le_of_lt hlt)) (by rw [pre_size (Nat.le_of_lt hlt)]; omega) w2
      rw [pre_size (Nat.le_of_lt hlt), pre_nbr (Nat.le_of_lt hlt) k (Nat.le_refl _)] at hpl
      refine hpl.mono ?_
      rintro e w3 ⟨rfl, rfl⟩
      have HM := hidd (show ptA d xs s k = m by unfold ptA; rw [hm, Int.toNat_natCast])
      have hPl : pst d k + nbr d s k < xs.length := by rw [isP_len HI.out]; exact idx_lt HL.out hs hlt
      obtain ⟨P, hP⟩ : ∃ P, P = pst d k + nbr d s k := ⟨_, rfl⟩
      rw [← hP] at hPl hm ⊢
      obtain ⟨b, o, rfl, hcl⟩ := (Hr.out.below Hb2.out).get hPl
      have hx : xs[P] = (m : Int) := by rw [← hm, List.getD_eq_getElem?_getD, List.getElem?_eq_getElem hPl]; rfl
      rw [hx] at hcl
      have i5 : (P : Int) < xs.length := by omega
      have i6 : (0 : Int) ≤ P := by omega
      have hc6 := @pcn_le d
      obtain ⟨Q, hQ⟩ : ∃ Q, Q = pcn d := ⟨_, rfl⟩
      rw [← hQ] at hmc hc6 ⊢
      have HQ := hidd hQ
      have i7 : (m : Int) < Q := by omega
      have i8 : (0 : Int) ≤ m := by omega
      refine hK.out _ _ trivial (fun _ => ?_)
      clear hK K hpl hP hm hx hQ
      refine wpAnyH_take (i := 8) (v := ?v8) rfl (by kernel_rfl) (by kernel_rfl) (by kernel_rfl) (fun _ _ _ h => h) (Or.inl ⟨by rfl, ?h8⟩) trivial ?_
      case h8 => (intro w2 hS; clear hS; go_simp; first | done | with_reducible rfl)
      simp only [Act.put, List.getElem_toArray, List.getElem_cons_succ, List.getElem_cons_zero, List.setIfInBounds_toArray, List.set_cons_zero, List.set_cons_succ]
      refine wpAnyH_ready (rs := [9]) (by kernel_rfl) (by simp) (AllReadyH.cons rfl (fun K hK => ?_) AllReadyH.nil)
      go_simp
      refine hK.out _ _ trivial (fun _ => ?_)
      clear hK K hcl
      refine wpAnyH_take (i := 10) (v := ?v10) rfl (by kernel_rfl) (by kernel_rfl) (by kernel_rfl) (fun _ _ _ h => h) (Or.inl ⟨by rfl, ?h10⟩) trivial ?_
      case h10 => (intro w2 hS; clear hS; go_simp; first | done | with_reducible rfl)
      simp only [Act.put, List.getElem_toArray, List.getElem_cons_succ, List.getElem_cons_zero, List.setIfInBounds_toArray, List.set_cons_zero, List.set_cons_succ]
      have hk1 := K1.out
      refine wpAnyH_ready (rs := [11]) (by kernel_rfl) (by simp) (AllReadyH.cons rfl (fun K hK => ?_) AllReadyH.nil)
      go_simp
      refine hK.out _ _ trivial (fun _ => ?_)
      clear hK K hk1
      refine wpAnyH_take (i := 12) (v := ?v12) rfl (by kernel_rfl) (by kernel_rfl) (by kernel_rfl) (fun _ _ _ h => h) (Or.inl ⟨by rfl, ?h12⟩) trivial ?_
      case h12 => (intro w2 hS; clear hS; go_simp; first | done | with_reducible rfl)
      simp only [Act.put, List.getElem_toArray, List.getElem_cons_succ, List.getElem_cons_zero, List.setIfInBounds_toArray, List.set_cons_zero, List.set_cons_succ]
      refine wpAnyH_done (by kernel_rfl) ?_ _
      have h48 := HL.out.lo k hlt
      have hc256 : s[k].toNat < 256 := s[k].toNat_lt
      have hlk := HL.out.hi k hlt
      have e1 := lt_of hlt h48
      have HA := hidd (show (u8s (acB d xs s s.size))[k]? = some (.int .u8 (48 + (pim d m (lt s k) : Int))) by rw [u8s_get, acB_get d xs s hlt, HM.out]; rfl)
      obtain ⟨x, hx⟩ : ∃ x, x = lt s k := ⟨_, rfl⟩
      rw [← hx] at hlk e1 HA
      have hcx : w2.cell? ⟨b2, x, none⟩ = some (.int .i64 (pim d m x : Nat)) := by
        rw [blkc K2.out, List.getElem?_toArray, ints_get]
        simp [pil, hlk]
      have hpm := pim_lt HD.out m x
      obtain ⟨y, hy⟩ : ∃ y, y = pim d m x := ⟨_, rfl⟩
      rw [← hy] at HA hcx hpm
      have i9 : (48 : Int) ≤ s[k].toNat := by omega
      have i10 : (s[k].toNat : Int) < 256 := by omega
      have i11 : (x : Int) < d := by omega
      have i12 : (0 : Int) ≤ x := by omega
      have d1 := HU2.out.cell (part_get (u8s (acB d xs s s.size)) s.size k (.int .u8 0) HN.out hlt)
      have d2 := HU2.out.frozen k
      clear hx hy i5 i6 i7 i8 hmc hPl
      go_wp2_with (go_at_call 78; refine (letter_any _ _ (by omega) (by omega)).mono ?_; rintro e w9 ⟨rfl, rfl⟩)
      go_roundw
      case rel =>
        refine ⟨k + 1, by omega, by go_num, hidd ?_, hidd (Hb2.out.setCell (Nat.le_refl _) _)⟩
        have := HU2.out.store k (.int .u8 (48 + (y : Nat) : Int))
        rwa [part_set (u8s (acB d xs s s.size)) s.size k (.int .u8 0) _ HN.out hlt HA.out] at this
      case measure => first | (simp [intOf]; done) | (simp [intOf]; omega)
    · have he : k = s.size := by omega
      subst he
      clear hlt
      have := HU.out
      rw [part_all _ _ _ HN.out] at this
      have h2 := this.rdU
      have hcv := run_toString h2
      clear this h2
      go_wp2_with fail
      go_ret
      exact ⟨rfl, Hb.out⟩

theorem acB_succ (d : Nat) (L : List Int) (w : ByteArray) (n : Nat) : acB d L w (n + 1) = acB d L w n ++ [48 + (pim d (ptA d L w n) (lt w n) : Int)] := by simp [acB, List.range_succ]
theorem imA_get (d m : Nat) {x : Nat} (hx : x < 3) : (imA d m)[x]? = some (.int .u8 (pim d m x : Nat)) := by
  have h : x = 0 ∨ x = 1 ∨ x = 2 := by omega
  rcases h with rfl | rfl | rfl <;> rfl
theorem imA_one (d m : Nat) : ∀ v ∈ (imA d m).toList, v.oneCell' = true := by
  intro v hv
  simp [imA] at hv
  rcases hv with rfl | rfl | rfl <;> rfl
theorem stP' {ops : Array Oper} {rest : List Oper} {o : Oper} {a : Act} {w : World} {Q : Exit → Act → World → Prop} (hgd : o.guard = none) (x y : Operand) (ho : o.op = .store 46 x y) (g : Nat) {old vs : Array Value} {t : TypeId} (hx : a.eval x = .pointer (some ⟨g, 0, none⟩)) (hy : a.eval y = .agg vs)
    (hg : w.heap[g]? = some (.cells old t (0, 0))) (h3 : old.size = 3) (hv : vs.size = 3) (h1 : ∀ v ∈ vs.toList, v.oneCell' = true)
    (h : ∀ w3, w3.heap[g]? = some (.cells vs t (0, 0)) → (∀ B a, Below B a w → B ≤ g → Below B a w3) → wpList Try.prog ops Q rest (a.put o.dst undef) w3) : wpList Try.prog ops Q (o :: rest) a w :=
  stP hgd x y ho g hx hy hg h3 hv h1 (h _ (hp_setRow hg) (fun _ _ hb hB => bel_row hb hB _))
set_option maxRecDepth 100000 in
set_option maxHeartbeats 2000000 in
theorem l03Act_any (d n : Nat) (hd : Dd d) (hn : n ≤ 4) (v : Value) (xs : List Int) (hip : isP d n xs = true) (s : ByteArray) (hl : Lts d s) (hs : s.size ≤ n) (w : World) (hr : RdI w v xs) :
    Calls Try.prog 51 #[.int .i64 (d : Nat), v, .string s] w fun e w' => e = .returned (.string (acT d xs s)) ∧ Below w.heap.size w w' := by
  have Hr := hidd hr
  obtain ⟨A, c, rfl, hr⟩ := hr
  have HD := hidd hd
  have HI := hidd hip
  have HL := hidd hl
  have hle := hr.1
  rw [ints_length] at hle
  have d23 := hd.le
  clear hr hip hl hd
  go_enter Try.func51, Try.ntmps51
  go_wp2_with fail
  have U1 := hidd (Own.empty' w 5 w.heap.size (Nat.le_refl _))
  have B1 := hidd (bel_alloc' w (.cells #[] 5))
  go_loopw [7, 8] (fun u i wr => ∃ k : Nat, k ≤ s.size ∧ i = .int .i64 k ∧ Hid (Own wr w.heap.size 5 u (u8s (acB d xs s k))) ∧ Hid (Below w.heap.size w wr)) (fun _ i _ => s.size - (intOf i).toNat)
  case atStart => exact ⟨0, Nat.zero_le _, rfl, U1, B1⟩
  case round =>
    clear U1 B1
    obtain ⟨k, hk, rfl, HU, Hb⟩ := hrel
    by_cases hlt : k < s.size
    · have i1 : (k : Int) < s.size := by omega
      have i2 : (k : Int) ≤ s.size := by omega
      have i3 : (0 : Int) ≤ k := by omega
      have hpl : pst d k + nbr d s k < xs.length := by rw [isP_len HI.out]; exact idx_lt HL.out hs hlt
      obtain ⟨m, hm, hmc⟩ := isP_get HI.out (idx_lt HL.out hs hlt)
      have hat := l03At_any d HD.out _ xs (s.extract 0 k) (pre_lts HL.out (Nat.le_of_lt hlt)) (by rw [pre_size (Nat.le_of_lt hlt)]; omega) (by rw [pre_size (Nat.le_of_lt hlt), pre_nbr (Nat.le_of_lt hlt) k (Nat.le_refl _)]; exact hpl) wr (Hr.out.below Hb.out)
      rw [pre_size (Nat.le_of_lt hlt), pre_nbr (Nat.le_of_lt hlt) k (Nat.le_refl _), hm] at hat
      have HAt := hidd hat
      have HM := hidd (show ptA d xs s k = m by unfold ptA; rw [hm, Int.toNat_natCast])
      have HMc := hidd hmc
      clear hat hm hmc hpl
      go_wp2_with (go_at_call 76; refine HAt.out.mono ?_; rintro e w9 ⟨rfl, rfl⟩)
      refine (l03Images_any d m HD.out HMc.out _).mono ?_
      rintro e w2 ⟨rfl, hb⟩
      have HU2 := hidd (HU.out.below hb)
      have Hb2 := hidd (bel_then Hb.out hb)
      clear hb HU Hb HAt
      have h48 := HL.out.lo k hlt
      have hc256 : s[k].toNat < 256 := s[k].toNat_lt
      have hlk := HL.out.hi k hlt
      have e1 := lt_of hlt h48
      have HA := hidd (show u8s (acB d xs s (k + 1)) = u8s (acB d xs s k) ++ [.int .u8 (48 + (pim d m (lt s k) : Int))] by rw [acB_succ, u8s_append, HM.out]; rfl)
      obtain ⟨x, hx⟩ : ∃ x, x = lt s k := ⟨_, rfl⟩
      rw [← hx] at hlk e1 HA
      have HG := hidd (imA_get d m (show x < 3 by omega))
      have hpm := pim_lt HD.out m x
      obtain ⟨y, hy⟩ : ∃ y, y = pim d m x := ⟨_, rfl⟩
      rw [← hy] at HA HG hpm
      have i9 : (48 : Int) ≤ s[k].toNat := by omega
      have i10 : (s[k].toNat : Int) < 256 := by omega
      have i11 : (x : Int) < 3 := by omega
      have i12 : (0 : Int) ≤ x := by omega
      have r1 : IntKind.u8.wrap ((s[k].toNat : Int) - 48) = (x : Int) := by rw [e1]; exact IntWalk.u8_in _ (by omega)
      have r2 : ((s[k].toNat : Int) - 48) % 256 = (x : Int) := by omega
      have hlen2 : (u8s (acB d xs s k)).length + 1 ≤ 1099511627776 := by rw [u8s_length, acB_len]; omega
      have hbase := Hb2.out.size
      clear hx hy
      go_wp2_with (first | (refine stP' rfl (.tmp 9) (.tmp 24) rfl w2.heap.size rfl rfl (hp_new rfl) rfl rfl (imA_one d m) ?_; intro w3 hw3 hbel; have b3 := hbel _ _ (bel_alloc' w2 _) (Nat.le_refl _); have HU3 := hidd (HU2.out.below b3); have Hb3 := hidd (bel_then Hb2.out b3); have hbase3 := Hb3.out.size; have hcx := (blkc hw3 x).trans HG.out; clear hbel b3 hw3) | (at_builtin; refine app_own rfl _ _ _ rfl w.heap.size 5 (.int .u8 0) 1 Try.underlying66 info_u8 rfl HU3.out rfl rfl rfl hlen2 (by decide) hbase3 ?_; intro v' w6 ho hgr hle6; have Ho2 := hidd ho; have b2 := hidd (bel_own HU3.out hgr hbase3); clear ho hgr))
      go_roundw
      case rel => exact ⟨k + 1, by omega, by go_num, hidd (by rw [HA.out]; exact Ho2.out), hidd (Hb3.out.trans b2.out)⟩
      case measure => first | (simp [intOf]; done) | (simp [intOf]; omega)
    · have he : k = s.size := by omega
      subst he
      clear hlt
      have h2 := HU.out.rdU
      have hcv := run_toString h2
      clear h2
      obtain ⟨A1, c1, rfl⟩ := HU.out.slice
      go_wp2_with fail
      go_ret
      exact ⟨rfl, Hb.out⟩
end Go.Proofs.Ytecdjmfohcnadaa
