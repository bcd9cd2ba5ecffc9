/- Walks: the portrait of a level's permutation, of the program: the images at a word. -/
import Derived.Test.YtecdjmfohcnadaaPof
import Derived.Test.YtecdjmfohcnadaaPnu
namespace Go.Proofs.Ytecdjmfohcnadaa
open Go.RowKit
set_option linter.unusedSimpArgs false

theorem run_loadI {W : World} {b : Nat} {x : Value} {t : TypeId} (h : W.heap[b]? = some (.cells #[x] t (0, 0))) : W.cell? ⟨b, 0, none⟩ = some x := by rw [blkc h]; rfl
theorem pow_split {d j k x : Nat} : k * d ^ (j + 1) + x * d ^ j = (k * d + x) * d ^ j := by
  rw [Nat.add_mul, Nat.pow_succ, Nat.mul_comm (d ^ j) d, Nat.mul_assoc]
theorem pfI_at {d n : Nat} (L : List Int) (i k : Nat) : pfI d n L i k = (List.range d).map fun x => L.getD ((k * d + x) * d ^ (n - i - 1)) 0 / (d ^ (n - i - 1) : Nat) % (d : Int) := rfl
theorem range_snoc {α : Type} (f : Nat → α) (k : Nat) : (List.range (k + 1)).map f = (List.range k).map f ++ [f k] := by simp [List.range_succ]
set_option maxRecDepth 100000 in
set_option maxHeartbeats 2000000 in
theorem pf2_any (d n i j k : Nat) (hd : Dd d) (hn : n ≤ 4) (hij : n = i + 1 + j) (hk : k < d ^ i) (v : Value) (L : List Int) (hL : L.length = d ^ n) (hLr : ∀ y ∈ L, 0 ≤ y ∧ y ≤ (d ^ n : Nat) - 1) (B C E : Nat) (w : World) (hr : RdI w v L)
    {t t' t'' : TypeId} (hB : w.heap[B]? = some (.cells #[.int .i64 (d : Nat)] t (0, 0))) (hC : w.heap[C]? = some (.cells #[.int .i64 (n : Nat)] t' (0, 0))) (hE : w.heap[E]? = some (.cells #[v] t'' (0, 0))) :
    Calls Try.prog 84 #[.string (wd d i k), .pointer (some ⟨B, 0, none⟩), .pointer (some ⟨C, 0, none⟩), .pointer (some ⟨E, 0, none⟩)] w fun e w' => e = .returned (.int .i64 (pno d (pfI d n L i k))) ∧ Below w.heap.size w w' := by
  have d23 := hd.le
  have HD := hidd hd
  have Hr := hidd hr
  have HB := hidd hB
  have HC := hidd hC
  have HE := hidd hE
  have HL := hidd hL
  have HLr := hidd hLr
  have hsz := wd_size d i k
  have HN := hidd (fun W => numberOf_any d d23.2 (wd d i k) (wd_lts (by omega) d23.2 i k) (by rw [wd_size]; omega) W)
  rw [wd_size, nbr_wd_all hd hk] at HN
  have HP1 := hidd (fun W => power_any d (j + 1) d23.2 (by omega) W)
  have HP0 := hidd (fun W => power_any d j d23.2 (by omega) W)
  have e1 : (n : Int) - (i : Int) = (j : Int) + 1 := by omega
  have hidx := fun x (hx : x < d) => im_idx (n := n) (show i < n by omega) hk hx
  have hNb := pow_bd d23.2 (show n ≤ 5 by omega)
  have HPf := hidd (pfI_at (d := d) (n := n) L i k)
  rw [show n - i - 1 = j by omega] at hidx HPf
  have hps := fun x => pow_split (d := d) (j := j) (k := k) (x := x)
  have hst0 : 0 < d ^ j := Nat.pow_pos (by omega)
  obtain ⟨N, hN⟩ : ∃ N, N = d ^ n := ⟨_, rfl⟩
  obtain ⟨st, hst⟩ : ∃ st, st = d ^ j := ⟨_, rfl⟩
  obtain ⟨p1, hp1⟩ : ∃ p1, p1 = d ^ (j + 1) := ⟨_, rfl⟩
  rw [← hN] at hidx hNb HL HLr
  rw [← hst] at hidx HPf hps hst0 HP0
  rw [← hp1] at hps HP1
  obtain ⟨f, hf⟩ : ∃ f, f = k * p1 := ⟨_, rfl⟩
  have e3 : (k : Int) * (p1 : Int) = (f : Int) := by rw [hf, Int.natCast_mul]
  have hfb : f < N := by
    have h0 := hidx 0 (by omega)
    rw [← hps, ← hf] at h0
    omega
  have HX := hidd (fun x (hx : x < d) => show f + x * st < N by have := hidx x hx; rw [← hps, ← hf] at this; exact this)
  have HY := hidd (fun x => show (k * d + x) * st = f + x * st by rw [← hps, hf])
  have hp243 : p1 ≤ 243 := by rw [hp1]; exact pow_bd d23.2 (by omega)
  have hs243 : st ≤ 243 := by rw [hst]; exact pow_bd d23.2 (by omega)
  have c1 := run_loadI hB
  have c2 := run_loadI hC
  obtain ⟨s, hs⟩ : ∃ s, s = wd d i k := ⟨_, rfl⟩
  rw [← hs] at HN hsz ⊢
  have hj3 : (j : Int) ≤ 3 := by omega
  have hn4 : (n : Int) ≤ 4 := by omega
  have hi4 : (i : Int) ≤ 4 := by omega
  clear hij hL hLr hr hB hC hE hd hk hidx hps hN hst hp1 hs hf
  go_enter Try.func84, Try.ntmps84
  go_wp2_with fail
  go_quiet ((first | (go_at_call 85; exact quietS (HN.out _)) | (go_at_call 66; rw [show ((j : Int) + 1) = ((j + 1 : Nat) : Int) by omega]; exact quietS (HP1.out _))))
  go_wp2_with fail
  have Bn := hidd (show Below w.heap.size w (w.drewN nq) from bel_drewN (Below.refl _ _) _)
  obtain ⟨w0, hw0⟩ : ∃ w0, w0 = w.drewN nq := ⟨_, rfl⟩
  rw [← hw0] at Bn ⊢
  have HF := hidd (fun x => show L.getD ((k * d + x) * st) 0 = L.getD (f + x * st) 0 by rw [HY.out])
  clear hw0 c1 c2 e3
  go_loopw [8, 23] (fun u y wr => ∃ x : Nat, x ≤ d ∧ y = .int .i64 x ∧ Hid (Own wr w0.heap.size 2 u (ints ((List.range x).map fun x => L.getD ((k * d + x) * st) 0 / (st : Int) % (d : Int)))) ∧ Hid (Below w0.heap.size w0 wr)) (fun _ y _ => d - (intOf y).toNat)
  case atStart => exact ⟨0, Nat.zero_le _, rfl, hidd (Own.nil _ _ _), hidd (Below.refl _ _)⟩
  case round =>
    obtain ⟨x, hx, rfl, HU, Hb⟩ := hrel
    have Bw := hidd (bel_then Bn.out Hb.out)
    by_cases hlt : x < d
    · have i1 : (x : Int) < d := by omega
      have c1 := run_loadI (hp_bel HB.out Bw.out)
      have c2 := run_loadI (hp_bel HC.out Bw.out)
      have c3 := run_loadI (hp_bel HE.out Bw.out)
      have hz := HX.out x hlt
      obtain ⟨z, hzz⟩ : ∃ z, z = x * st := ⟨_, rfl⟩
      rw [← hzz] at hz
      have e4 : (x : Int) * (st : Int) = (z : Int) := by rw [hzz, Int.natCast_mul]
      have hzl : f + z < L.length := by rw [HL.out]; exact hz
      obtain ⟨A, c, rfl, hrr⟩ := (Hr.out.below Bw.out)
      obtain ⟨b, o, rfl, hcl⟩ := hrr.get hzl
      obtain ⟨Y, hY⟩ : ∃ Y : Nat, L[f + z] = (Y : Int) := ⟨L[f + z].toNat, by have := (HLr.out _ (List.getElem_mem hzl)).1; omega⟩
      have hYN := (HLr.out _ (List.getElem_mem hzl)).2
      rw [hY] at hcl hYN
      have hle := hrr.1
      rw [ints_length] at hle
      have i2 : (f : Int) + (z : Int) < L.length := by omega
      have i3 : (0 : Int) ≤ (f : Int) + (z : Int) := by omega
      have i4 : ((f + z : Nat) : Int) < L.length := by omega
      have i5 : (z : Int) ≤ 243 := by omega
      have i6 : (f : Int) ≤ 243 := by omega
      have HGd := hidd (show L.getD ((k * d + x) * st) 0 = (Y : Int) by rw [HF.out, ← hzz, List.getD_eq_getElem?_getD, List.getElem?_eq_getElem hzl, Option.getD_some, hY])
      obtain ⟨q1, hq1⟩ : ∃ q1, q1 = Y / st := ⟨_, rfl⟩
      obtain ⟨r1, hr1⟩ : ∃ r1, r1 = q1 % d := ⟨_, rfl⟩
      have hq1b : q1 ≤ Y := by rw [hq1]; exact Nat.div_le_self _ _
      have hr1b : r1 < d := by rw [hr1]; exact Nat.mod_lt _ (by omega)
      have HSn := hidd (show ints ((List.range (x + 1)).map fun x => L.getD ((k * d + x) * st) 0 / (st : Int) % (d : Int)) = ints ((List.range x).map fun x => L.getD ((k * d + x) * st) 0 / (st : Int) % (d : Int)) ++ [.int .i64 (r1 : Nat)] by
        rw [range_snoc, ints_append, HGd.out, hr1, hq1]; rfl)
      have HQ1 := hidd (show (Y : Int) / (st : Int) = (q1 : Int) by rw [hq1]; rfl)
      have HR1 := hidd (show (q1 : Int) % (d : Int) = (r1 : Int) by rw [hr1]; rfl)
      have hlen2 : (ints ((List.range x).map fun x => L.getD ((k * d + x) * st) 0 / (st : Int) % (d : Int))).length + 1 ≤ 1099511627776 := by simp [ints]; omega
      clear hzz hY hrr hq1 hr1 HGd
      go_wp2_with fail
      go_quiet ((go_at_call 66; exact quietS (HP0.out _)))
      obtain ⟨w5, hw5⟩ : ∃ w5, w5 = wr.drewN nq := ⟨_, rfl⟩
      have b5 := hidd (show Below wr.heap.size wr w5 by rw [hw5]; exact bel_drewN (Below.refl _ _) _)
      rw [← hw5]
      clear hw5 c3 hcl i2 i3 i4 e4
      have S5 := hidd (show w5.drew.cell? ⟨B, 0, none⟩ = some (.int .i64 (d : Nat)) ∧ w5.drew.cell? ⟨C, 0, none⟩ = some (.int .i64 (n : Nat)) from ⟨run_loadI (hp_bel HB.out (bel_then Bw.out (b5.out.trans ((drew_bel' w5).mono b5.out.size)))), run_loadI (hp_bel HC.out (bel_then Bw.out (b5.out.trans ((drew_bel' w5).mono b5.out.size))))⟩)
      have HU5 := hidd (HU.out.below (b5.out.trans ((drew_bel' w5).mono b5.out.size)))
      have Hb5 := hidd (bel_then Hb.out b5.out)
      have hbase := Hb5.out.size
      have hst1 : (0 : Int) < st := by omega
      clear c1 c2 HU
      have hq := HQ1.out
      have hr := HR1.out
      have w1r : IntKind.i64.wrap ((j : Int) + 1) = (j : Int) + 1 := IntWalk.i64_in _ (by omega)
      have w2r : IntKind.i64.wrap ((j : Int) + 1 - 1) = (j : Int) := by rw [show (j : Int) + 1 - 1 = j by omega]; exact IntWalk.i64_in _ (by omega)
      have w2s : IntKind.i64.wrap (j : Int) = (j : Int) := IntWalk.i64_in _ (by omega)
      have w3r : IntKind.i64.wrap (q1 : Int) = (q1 : Int) := IntWalk.i64_in _ (by omega)
      have w4r : IntKind.i64.wrap (r1 : Int) = (r1 : Int) := IntWalk.i64_in _ (by omega)
      have w5r : (Y : Int).tdiv (st : Int) = (q1 : Int) := by rw [Int.tdiv_eq_ediv_of_nonneg (by omega), hq]
      have w6r : (q1 : Int).tmod (d : Int) = (r1 : Int) := by rw [Int.tmod_eq_emod_of_nonneg (by omega), hr]
      have z1 : ¬ st = 0 := by omega
      have z2 : ¬ d = 0 := by omega
      go_wp2_with fail
      refine wp_region_held (S := fun w' => w'.cell? ⟨B, 0, none⟩ = some (.int .i64 (d : Nat)) ∧ w'.cell? ⟨C, 0, none⟩ = some (.int .i64 (n : Nat))) (by kernel_rfl) ?_
      change wpAnyH _ _ _ _ _ _ _ _ (World.drew _)
      refine wpAnyH_take (i := 0) (v := ?v0) rfl (by kernel_rfl) (by kernel_rfl) (by kernel_rfl) (fun _ _ _ h => h) (Or.inl ⟨by rfl, ?h0⟩) S5.out ?_
      case h0 => (intro w2 hS; have c1 := hS.1; have c2 := hS.2; clear hS; go_simp; first | done | with_reducible rfl)
      simp only [Act.put, List.getElem_toArray, List.getElem_cons_succ, List.getElem_cons_zero, List.setIfInBounds_toArray, List.set_cons_zero, List.set_cons_succ]
      refine wpAnyH_take (i := 1) (v := ?v1) rfl (by kernel_rfl) (by kernel_rfl) (by kernel_rfl) (fun _ _ _ h => h) (Or.inl ⟨by rfl, ?h1⟩) S5.out ?_
      case h1 => (intro w2 hS; have c1 := hS.1; have c2 := hS.2; clear hS; go_simp; first | done | with_reducible rfl)
      simp only [Act.put, List.getElem_toArray, List.getElem_cons_succ, List.getElem_cons_zero, List.setIfInBounds_toArray, List.set_cons_zero, List.set_cons_succ]
      refine wpAnyH_take (i := 2) (v := ?v2) rfl (by kernel_rfl) (by kernel_rfl) (by kernel_rfl) (fun _ _ _ h => h) (Or.inl ⟨by rfl, ?h2⟩) S5.out ?_
      case h2 => (intro w2 hS; have c1 := hS.1; have c2 := hS.2; clear hS; go_simp; first | done | with_reducible rfl)
      simp only [Act.put, List.getElem_toArray, List.getElem_cons_succ, List.getElem_cons_zero, List.setIfInBounds_toArray, List.set_cons_zero, List.set_cons_succ]
      refine wpAnyH_take (i := 3) (v := ?v3) rfl (by kernel_rfl) (by kernel_rfl) (by kernel_rfl) (fun _ _ _ h => h) (Or.inl ⟨by rfl, ?h3⟩) S5.out ?_
      case h3 => (intro w2 hS; have c1 := hS.1; have c2 := hS.2; clear hS; go_simp; first | done | with_reducible rfl)
      simp only [Act.put, List.getElem_toArray, List.getElem_cons_succ, List.getElem_cons_zero, List.setIfInBounds_toArray, List.set_cons_zero, List.set_cons_succ]
      refine wpAnyH_take (i := 4) (v := ?v4) rfl (by kernel_rfl) (by kernel_rfl) (by kernel_rfl) (fun _ _ _ h => h) (Or.inl ⟨by rfl, ?h4⟩) S5.out ?_
      case h4 => (intro w2 hS; have c1 := hS.1; have c2 := hS.2; clear hS; go_simp; first | done | with_reducible rfl)
      simp only [Act.put, List.getElem_toArray, List.getElem_cons_succ, List.getElem_cons_zero, List.setIfInBounds_toArray, List.set_cons_zero, List.set_cons_succ]
      refine wpAnyH_take (i := 5) (v := ?v5) rfl (by kernel_rfl) (by kernel_rfl) (by kernel_rfl) (fun _ _ _ h => h) (Or.inl ⟨by rfl, ?h5⟩) S5.out ?_
      case h5 => (intro w2 hS; have c1 := hS.1; have c2 := hS.2; clear hS; go_simp; first | done | with_reducible rfl)
      simp only [Act.put, List.getElem_toArray, List.getElem_cons_succ, List.getElem_cons_zero, List.setIfInBounds_toArray, List.set_cons_zero, List.set_cons_succ]
      refine wpAnyH_take (i := 6) (v := ?v6) rfl (by kernel_rfl) (by kernel_rfl) (by kernel_rfl) (fun _ _ _ h => h) (Or.inl ⟨by rfl, ?h6⟩) S5.out ?_
      case h6 => (intro w2 hS; have c1 := hS.1; have c2 := hS.2; clear hS; go_simp; first | done | with_reducible rfl)
      simp only [Act.put, List.getElem_toArray, List.getElem_cons_succ, List.getElem_cons_zero, List.setIfInBounds_toArray, List.set_cons_zero, List.set_cons_succ]
      refine wpAnyH_take (i := 9) (v := ?v9) rfl (by kernel_rfl) (by kernel_rfl) (by kernel_rfl) (fun _ _ _ h => h) (Or.inl ⟨by rfl, ?h9⟩) S5.out ?_
      case h9 => (intro w2 hS; have c1 := hS.1; have c2 := hS.2; clear hS; go_simp; first | done | with_reducible rfl)
      simp only [Act.put, List.getElem_toArray, List.getElem_cons_succ, List.getElem_cons_zero, List.setIfInBounds_toArray, List.set_cons_zero, List.set_cons_succ]
      refine wpAnyH_ready (rs := [7]) (by kernel_rfl) (by simp) (AllReadyH.cons rfl (fun K hK => ?_) AllReadyH.nil)
      go_simp
      refine (HP0.out _).mono ?_
      rintro e w6 ⟨rfl, rfl⟩
      refine hK.out _ _ S5.out (fun _ => ?_)
      clear hK K
      refine wpAnyH_take (i := 8) (v := ?v8) rfl (by kernel_rfl) (by kernel_rfl) (by kernel_rfl) (fun _ _ _ h => h) (Or.inl ⟨by rfl, ?h8⟩) S5.out ?_
      case h8 => (intro w2 hS; clear hS; go_simp; first | done | with_reducible rfl)
      simp only [Act.put, List.getElem_toArray, List.getElem_cons_succ, List.getElem_cons_zero, List.setIfInBounds_toArray, List.set_cons_zero, List.set_cons_succ]
      refine wpAnyH_take (i := 10) (v := ?v10) rfl (by kernel_rfl) (by kernel_rfl) (by kernel_rfl) (fun _ _ _ h => h) (Or.inl ⟨by rfl, ?h10⟩) S5.out ?_
      case h10 => (intro w2 hS; clear hS; go_simp; first | done | with_reducible rfl)
      simp only [Act.put, List.getElem_toArray, List.getElem_cons_succ, List.getElem_cons_zero, List.setIfInBounds_toArray, List.set_cons_zero, List.set_cons_succ]
      refine wpAnyH_ready (rs := [11]) (by kernel_rfl) (by simp) (AllReadyH.cons rfl (fun K hK => ?_) AllReadyH.nil)
      go_simp
      obtain ⟨w6, hw6⟩ : ∃ w6, w6 = (w5.alloc (.cells #[.int .i64 (r1 : Nat)] 2)).drew := ⟨_, rfl⟩
      have b6 : Below w5.drew.heap.size w5.drew w6 := by rw [hw6]; exact bel_alloc' w5.drew _
      have P6 := hidd (show w6.heap[w5.heap.size]? = some (.cells #[.int .i64 (r1 : Nat)] 2 (0, 0)) by rw [hw6]; exact hp_new rfl)
      have S6 := hidd (show w6.cell? ⟨B, 0, none⟩ = some (.int .i64 (d : Nat)) ∧ w6.cell? ⟨C, 0, none⟩ = some (.int .i64 (n : Nat)) from ⟨(b6.cell (p := ⟨B, 0, none⟩) (World.block_lt_of_cell? _ _ S5.out.1)).trans S5.out.1, (b6.cell (p := ⟨C, 0, none⟩) (World.block_lt_of_cell? _ _ S5.out.2)).trans S5.out.2⟩)
      have HU6 := hidd (HU5.out.below b6)
      have Hb6 := hidd (Hb5.out.trans (((drew_bel' w5).trans b6).mono hbase))
      rw [← hw6]
      refine hK.out _ _ S6.out (fun _ => ?_)
      clear hK K hw6 b6 HU5 S5
      have hbase6 := Hb6.out.size
      refine wpAnyH_ready (rs := [12]) (by kernel_rfl) (by simp) (AllReadyH.cons rfl (fun K hK => ?_) AllReadyH.nil)
      refine step_app rfl _ _ _ rfl w0.heap.size 2 (.int .i64 0) 8 Try.underlying22 info_i64 rfl HU6.out P6.out rfl rfl rfl hlen2 (by decide) hbase6 ?_
      intro v' w7 ho hgr hle7 hli
      have HU7 := hidd (show Own w7 w0.heap.size 2 v' (ints ((List.range (x + 1)).map fun x => L.getD ((k * d + x) * st) 0 / (st : Int) % (d : Int))) by rw [HSn.out]; exact ho)
      have b7 := bel_own HU6.out hgr hbase6
      have Hb7 := hidd (Hb6.out.trans b7)
      have S7 := hidd (show w7.cell? ⟨B, 0, none⟩ = some (.int .i64 (d : Nat)) ∧ w7.cell? ⟨C, 0, none⟩ = some (.int .i64 (n : Nat)) from ⟨run_loadI (hp_bel HB.out (bel_then Bn.out Hb7.out)), run_loadI (hp_bel HC.out (bel_then Bn.out Hb7.out))⟩)
      clear ho hgr hle7 hli HU6 P6 S6 b7
      refine hK.out _ _ S7.out (fun _ => ?_)
      clear hK K
      refine wpAnyH_take (i := 13) (v := ?v13) rfl (by kernel_rfl) (by kernel_rfl) (by kernel_rfl) (fun _ _ _ h => h) (Or.inl ⟨by rfl, ?h13⟩) S7.out ?_
      case h13 => (intro w4 hS; clear hS; go_simp; first | done | with_reducible rfl)
      simp only [Act.put, List.getElem_toArray, List.getElem_cons_succ, List.getElem_cons_zero, List.setIfInBounds_toArray, List.set_cons_zero, List.set_cons_succ]
      refine wpAnyH_done (by kernel_rfl) ?_ _
      go_wp2_with fail
      go_roundw
      case rel => exact ⟨x + 1, by omega, by go_num, HU7, Hb7⟩
      case measure => first | (simp [intOf]; done) | (simp [intOf]; omega)
    · have he : x = d := by omega
      subst he
      have c1 := run_loadI (hp_bel HB.out Bw.out)
      have hlen := HPf.out
      have HPX := hidd (permutationNumber_any _ _ wr (HU.out.rdI))
      rw [← HPf.out] at HPX
      have HX2 := hidd (show pnX (pfI x n L i k) = pno x (pfI x n L i k) by
        have hl2 : (pfI x n L i k).length = x := by rw [HPf.out]; simp
        have hd := HD.out
        unfold pnX
        rw [hl2, if_pos (by unfold Dd at hd; exact hd)])
      obtain ⟨A1, c1', rfl⟩ := HU.out.slice
      clear hlt hlen
      go_wp2_with fail
      refine HPX.out.mono ?_
      rintro e w9 ⟨rfl, hb⟩
      go_wp2_with fail
      go_ret
      exact ⟨ret_i HX2.out, bel_then Bw.out hb⟩
end Go.Proofs.Ytecdjmfohcnadaa
