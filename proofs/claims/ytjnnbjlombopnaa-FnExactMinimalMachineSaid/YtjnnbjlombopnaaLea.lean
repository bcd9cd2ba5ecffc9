/- Walks: (*table).least. -/
import Derived.Test.YtjnnbjlombopnaaLik
import Derived.Deep.LoopGhost
namespace Go.Proofs.Ytjnnbjlombopnaa
open Go.RowKit

theorem Gm.cl_one (g : Gm) {q : Nat} (hq : q < g.s) : fidx (fun j => g.oe j q) g.s = (g.cl 1 q : Nat) := by
  have e : g.cl 1 q = first (fun r => g.oe q r) q := by
    refine first_congr fun r _ => ?_
    unfold rel
    simp [Ytjnnbjlombopnaa.cl]
  have h := first_spec (fun r => g.oe q r) q
  have e2 : first (fun j => g.oe j q) g.s = g.cl 1 q := by
    rw [e]
    refine first_eq (by omega) (fun _ => ?_) (fun r hr => ?_)
    · by_cases hv : first (fun r => g.oe q r) q < q
      · exact g.oeE.symm _ _ (h.2.1 hv)
      · rw [show first (fun r => g.oe q r) q = q by omega]; exact g.oeE.rfl' q
    · have := h.2.2 r hr
      cases hx : g.oe r q with
      | false => rfl
      | true => rw [g.oeE.symm _ _ hx] at this; cases this
  have hle : g.cl 1 q ≤ q := cl_le 1 q
  unfold fidx
  rw [e2, if_pos (by omega)]
theorem Gm.lk_cl (g : Gm) (k q : Nat) : lk g (g.cl (k + 1)) q = g.cl (k + 2) q := by
  refine first_congr fun r hr => ?_
  rw [Bool.eq_iff_iff, rel_iff]
  unfold lkB toTo
  simp only [Bool.and_eq_true, decide_eq_true_eq, List.all_eq_true, List.mem_range]
  constructor
  · rintro ⟨_, h2, h3⟩
    exact ⟨h2, ((rel_iff _ _ _).1 ((rnd_eq_iff g.oeE (g.cl k) q r).1 h2.symm)).2.1, h3⟩
  · rintro ⟨h2, _, h3⟩
    refine ⟨?_, h2, h3⟩
    have : g.cl (k + 1) r ≤ r := cl_le (k + 1) r
    have h2' : g.cl (k + 1) r = g.cl (k + 1) q := h2
    omega
theorem ivL_ints (C : Nat → Nat) (n : Nat) : ints (ivL C n) = (iv C n).toList := by
  simp [ivL, ints, iv, av]
/-- Nothing has turned in a round, up to q. -/
def stB (g : Gm) (k q : Nat) : Bool := (List.range q).all fun p => decide (g.cl (k + 2) p = g.cl (k + 1) p)
theorem stB_succ (g : Gm) (k q : Nat) : stB g k (q + 1) = (stB g k q && decide (g.cl (k + 2) q = g.cl (k + 1) q)) := by simp [stB, List.range_succ]
theorem stB_iff (g : Gm) (k q : Nat) : stB g k q = true ↔ ∀ p, p < q → g.cl (k + 2) p = g.cl (k + 1) p := by simp [stB]
theorem stB_lst {g : Gm} (hok : g.Tb) {k : Nat} (h : stB g k g.s = true) : ivL g.lst g.s = ivL (g.cl (k + 1)) g.s := by
  unfold ivL
  refine List.map_congr_left fun q hq => ?_
  have := lst_of_stands g.s g.oeE (k + 1) ((stB_iff g k g.s).1 h) hok.nlt q (List.mem_range.1 hq)
  show ((g.lst q : Nat) : Int) = (g.cl (k + 1) q : Nat)
  rw [show g.cl (k + 1) q = g.lst q from this]
theorem stB_more {g : Gm} (hok : g.Tb) {k : Nat} (hk : k ≤ g.s) (h : stB g k g.s = false) : k + 1 ≤ g.s := by
  rcases Nat.lt_or_ge k g.s with h1 | h1
  · exact h1
  · exfalso
    obtain rfl : k = g.s := by omega
    have h2 := cl_stands g.s g.oeE hok.nlt
    have h3 := cl_stands_from g.s g.s h2 hok.nlt
    have : stB g g.s g.s = true := (stB_iff g g.s g.s).2 fun p hp => by
      show cl g.l g.nx g.oe (g.s + 2) p = cl g.l g.nx g.oe (g.s + 1) p
      rw [h3 (g.s + 2) (by omega) p hp, h3 (g.s + 1) (by omega) p hp]
    rw [this] at h
    cases h
theorem hp_lt' {w : World} {a : Addr} {v : Value} (h : w.cell? a = some v) : a.block < w.heap.size := World.block_lt_of_cell? w a h
theorem iv_ifstep (f : Nat → Nat) (q n : Nat) : iv (fun j => if j < q + 1 then f j else 0) n = iv (updN (fun j => if j < q then f j else 0) q (f q)) n := iv_congr fun j _ => by
  unfold updN
  by_cases e : j = q
  · subst e; simp
  · simp only [if_neg e]
    by_cases h1 : j < q
    · rw [if_pos h1, if_pos (by omega)]
    · rw [if_neg h1, if_neg (by omega)]
theorem RdI.of_iv {w : World} {R n : Nat} {C : Nat → Nat} {t : TypeId} (h : w.heap[R]? = some (.cells (iv C n) t (0, 0))) (hn : n ≤ 1048576) : RdI w (.slice (some ⟨R, 0, none⟩) n n) (ivL C n) := by
  refine ⟨_, n, by rw [ivL_len], by rw [ints_length, ivL_len]; omega, fun _ => ⟨R, 0, rfl, fun j v hj => ?_⟩⟩
  rw [ivL_ints] at hj
  rw [blkc h, Nat.zero_add]
  simpa using hj
set_option maxRecDepth 100000 in
set_option maxHeartbeats 2000000 in
theorem least_any (g : Gm) (hok : g.Tb) (T : Nat) (w : World) (hT : TabAt w T (g.nxs g.s) (g.ous g.s)) :
    Calls Try.prog 133 #[.pointer (some ⟨T, 0, none⟩)] w fun e w' => (∃ v, e = .returned v ∧ RdI w' v (ivL g.lst g.s)) ∧ Below w.heap.size w w' := by
  have HTab := hidd hT
  obtain ⟨vn, vo, hT0, _, hO⟩ := hT
  have e2 : (g.ous g.s).length = g.s := by simp [Gm.ous]
  obtain ⟨Ao, co, ro, rfl, o1, o2, o3⟩ := hO
  rw [e2] at hT0
  have H0 := hidd hT0
  have O1 := hidd o1
  have O2 := hidd (o2.trans e2)
  have O3 := hidd o3
  have c1 : w.cell? ⟨T, 1, none⟩ = some (.slice Ao g.s co) := blkc hT0 1
  have c1' := (((Below.refl w.heap.size w).alloc (Nat.le_refl _) (.cells #[.pointer (some ⟨T, 0, none⟩)] 101)).cell (p := ⟨T, 1, none⟩) (hp_lt hT0)).trans c1
  have s16 := hok.sm
  have HO := hidd hok
  clear hT0 o1 o2 o3 hok
  go_enter Try.func133, Try.ntmps133
  go_wp2_with (at_make; refine mk_own rfl _ _ _ rfl (w.heap.size + 1) 2 (.int .i64 0) 8 Try.underlying30 info_i64 rfl g.s rfl rfl (by omega) (by omega) (by simp) ?_; intro w1 ho hg hlt; have d1 := ((bel_grown (Below.refl _ (w.alloc (.cells #[.pointer (some ⟨T, 0, none⟩)] 101))) hg (Nat.le_refl _) (fun k e => by cases e)).cell (p := ⟨T, 1, none⟩) (by have := hp_lt H0.out; simp; omega)).trans c1'; have d2 := ((bel_grown (Below.refl _ (w.alloc (.cells #[.pointer (some ⟨T, 0, none⟩)] 101))) hg (Nat.le_refl _) (fun k e => by cases e)).cell (p := ⟨w.heap.size, 0, none⟩) (by simp)).trans (blkc (hp_new rfl) 0))
  have B1 : Below w.heap.size w w1 := bel_then (bel_alloc w (.cells #[.pointer (some ⟨T, 0, none⟩)] 101)) (bel_grown (Below.refl _ _) hg (Nat.le_refl _) (fun k e => by cases e))
  have Bel := hidd B1
  have N1 := hidd (show w1.heap[w.heap.size]? = some (.cells #[.pointer (some ⟨T, 0, none⟩)] 101 (0, 0)) from hp_bel (hp_new rfl) (bel_grown (Below.refl _ (w.alloc (.cells #[.pointer (some ⟨T, 0, none⟩)] 101))) hg (Nat.le_refl _) (fun k e => by cases e)))
  have A1 := hidd (show w1.heap[w.heap.size + 1]? = some (.cells (iv (fun j => if j < 0 then g.cl 1 j else 0) g.s) 2 (0, 0)) by
    have ho' := ho
    rw [show (w.alloc (.cells #[.pointer (some ⟨T, 0, none⟩)] 101)).heap.size = w.heap.size + 1 by simp] at ho'
    obtain ⟨cur, h3, h6, h7⟩ := ho'.full
    rw [h3]
    have e : cur = iv (fun j => if j < 0 then g.cl 1 j else 0) g.s := by
      apply Array.toList_inj.1
      rw [h7]
      apply List.ext_getElem?
      intro j
      by_cases hj : j < g.s
      · rw [List.getElem?_replicate, if_pos hj]
        show _ = ((List.range g.s).map fun j => Value.int .i64 ((if j < 0 then g.cl 1 j else 0 : Nat) : Int))[j]?
        simp [hj]
      · rw [List.getElem?_eq_none (by simp; omega), List.getElem?_eq_none (by simp [iv, av]; omega)]
    rw [e])
  have hTs := hp_lt H0.out
  clear ho hg hlt d1 d2 c1 c1' B1
  go_loopw [19] (fun i wr => ∃ q : Nat, q ≤ g.s ∧ i = .int .i64 q ∧ Hid (Below w.heap.size w wr) ∧ Hid (wr.heap[w.heap.size]? = some (.cells #[.pointer (some ⟨T, 0, none⟩)] 101 (0, 0))) ∧ Hid (wr.heap[w.heap.size + 1]? = some (.cells (iv (fun j => if j < q then g.cl 1 j else 0) g.s) 2 (0, 0)))) (fun i _ => g.s - (intOf i).toNat)
  case atStart => exact ⟨0, Nat.zero_le _, rfl, Bel, N1, A1⟩
  case round =>
    clear Bel N1 A1
    obtain ⟨q, hq, rfl, Hb, HB, HA⟩ := hrel
    by_cases hqs : q < g.s
    · obtain ⟨qb, hqb⟩ : ∃ qb, qb = wr.heap.size := ⟨_, rfl⟩
      obtain ⟨wq, hwq⟩ : ∃ wq, wq = wr.alloc (.cells #[.int .i64 q] 3) := ⟨_, rfl⟩
      have bq : Below wr.heap.size wr wq := by rw [hwq]; exact bel_alloc _ _
      have Hbq := hidd (bel_then Hb.out bq)
      have HBq := hidd (hp_bel HB.out bq)
      have HAq := hidd (hp_bel HA.out bq)
      have HQ := hidd (show wq.heap[qb]? = some (.cells #[.int .i64 q] 3 (0, 0)) by rw [hwq]; exact hp_new hqb)
      have HC := hidd (show Calls Try.prog 195 #[.slice Ao g.s co, .func (.func 196) #[] #[.pointer (some ⟨w.heap.size, 0, none⟩), .pointer (some ⟨qb, 0, none⟩)]] wq.drew fun x w' => x = .returned (.int .i64 (g.cl 1 q : Nat)) ∧ Below wq.drew.heap.size wq.drew w' from by
        have h := indexFunc65 196 #[.pointer (some ⟨w.heap.size, 0, none⟩), .pointer (some ⟨qb, 0, none⟩)] (enters_of Try.func196 (by kernel_rfl) rfl) Ao co ro (fun j => ro.getD j default) (fun j => g.oe j q) wq.drew (O1.out.below (bel_drewN Hbq.out 1)) (fun j hj => by rw [List.getD_eq_getElem?_getD, List.getElem?_eq_getElem hj]; rfl) (fun j W hj hbl => by
          have hjs : j < g.s := by rw [← O2.out]; exact hj
          have hrd := O3.out j ro[j] (g.or j) (List.getElem?_eq_getElem hj) (by simp [Gm.ous, hjs])
          have hT' := (HTab.out.below (bel_drewN Hbq.out 1)).below hbl
          have hl := least1_any g T w.heap.size qb j q hqs W hT' 101 3 (hp_bel (w := wq.drew) HBq.out hbl) (hp_bel (w := wq.drew) HQ.out hbl) (ro.getD j default) (by
            rw [show ro.getD j default = ro[j] by rw [List.getD_eq_getElem?_getD, List.getElem?_eq_getElem hj]; rfl]
            exact (hrd.below (bel_drewN Hbq.out 1)).below hbl)
          exact hl.mono fun e w' ⟨h1, n, h2⟩ => ⟨h1, by rw [h2]; exact bel_drewN (Below.refl _ _) _⟩)
        rw [O2.out, g.cl_one hqs] at h
        exact h)
      have k1 : wq.cell? ⟨w.heap.size, 0, none⟩ = some (.pointer (some ⟨T, 0, none⟩)) := blkc HBq.out 0
      have k2 : wq.cell? ⟨qb, 0, none⟩ = some (.int .i64 q) := blkc HQ.out 0
      have k3 : wq.cell? ⟨T, 1, none⟩ = some (.slice Ao g.s co) := (Hbq.out.cell (p := ⟨T, 1, none⟩) hTs).trans (blkc H0.out 1)
      have j1 : (q : Int) < g.s := by omega
      clear bq
      go_wp2_with fail
      rw [← hwq, ← hqb]
      clear hwq hqb
      go_region_with ((go_at_call 195; refine HC.out.mono ?_; rintro e w5 ⟨rfl, hb5⟩; have m2 : w5.cell? ⟨qb, 0, none⟩ = some (.int .i64 q) := blkc (hp_bel (w := wq.drew) HQ.out hb5) 0; have m3 := (blkc (hp_bel (w := wq.drew) HAq.out hb5) q).trans (iv_get _ hqs); have m4 := blkf (hp_bel (w := wq.drew) HAq.out hb5) q; have HA5 := hidd (hp_bel (w := wq.drew) HAq.out hb5); have HB5 := hidd (hp_bel (w := wq.drew) HBq.out hb5); have Hb5 := hidd (bel_then (bel_drewN Hbq.out 1) hb5); clear hb5))
      all_goals
        go_wp2_with fail
        go_roundw
        case rel =>
          refine ⟨q + 1, by omega, by go_num, hidd (Hb5.out.setCell (by dsimp only; omega) _), hidd (hp_far HB5.out (by dsimp only; omega) _), hidd ?_⟩
          have h := hp_set HA5.out q (.int .i64 (g.cl 1 q : Nat))
          rw [iv_set] at h
          rw [iv_ifstep]
          exact h
        case measure => simp [intOf]; omega
    · have he : q = g.s := by omega
      subst he
      have HA' := hidd (show wr.heap[w.heap.size + 1]? = some (.cells (iv (g.cl 1) g.s) 2 (0, 0)) by
        have := HA.out
        rw [iv_congr (C' := g.cl 1) fun j hj => if_pos hj] at this
        exact this)
      clear HA
      go_wp2_with fail
      obtain ⟨wp, rfl⟩ : ∃ wp : World, wp = wr := ⟨_, rfl⟩
      have hwp := hp_lt HA'.out
      have V0 := hidd (RdI.of_iv HA'.out (by omega))
      go_loopg [3] (g.s + 1) (fun gk v wr => ∃ k : Nat, k ≤ g.s ∧ g.s + 1 - k ≤ gk ∧ Hid (RdI wr v (ivL (g.cl (k + 1)) g.s)) ∧ Hid (Below w.heap.size w wr) ∧ Hid (wr.heap[w.heap.size]? = some (.cells #[.pointer (some ⟨T, 0, none⟩)] 101 (0, 0))))
      case atStart => exact ⟨0, Nat.zero_le _, by omega, V0, Hb, HB⟩
      case round =>
        clear V0 Hb HB HA' hwp hq hqs
        obtain ⟨k, hk, hgk, HV, Hb, HB⟩ := hrel
        obtain ⟨Av, cv, ev, hvv⟩ := HV.out
        rw [ivL_len] at ev
        subst ev
        go_wp2_with (at_make; refine mk_own rfl _ _ _ rfl wr.heap.size 2 (.int .i64 0) 8 Try.underlying30 info_i64 rfl g.s rfl rfl (by omega) (by omega) (Nat.le_refl _) ?_; intro w2 ho hg hlt)
        obtain ⟨wb, hwb⟩ : ∃ wb : World, wb = wr := ⟨_, rfl⟩
        obtain ⟨nb, hnb⟩ : ∃ nb, nb = wr.heap.size := ⟨_, rfl⟩
        rw [← hnb] at ho ⊢
        rw [← hwb] at HV Hb HB hvv hg hlt hnb
        clear hwb
        have bw2 : Below wb.heap.size wb w2 := bel_grown (Below.refl _ _) hg (Nat.le_refl _) (fun k e => by cases e)
        have Hw2 := hidd bw2
        have HN2 := hidd (show w2.heap[nb]? = some (.cells (iv (fun j => if j < 0 then g.cl (k + 2) j else 0) g.s) 2 (0, 0)) by
          obtain ⟨cur, h3, h6, h7⟩ := ho.full
          rw [h3]
          have e : cur = iv (fun j => if j < 0 then g.cl (k + 2) j else 0) g.s := by
            apply Array.toList_inj.1
            rw [h7]
            apply List.ext_getElem?
            intro j
            by_cases hj : j < g.s
            · rw [List.getElem?_replicate, if_pos hj]
              show _ = ((List.range g.s).map fun j => Value.int .i64 ((if j < 0 then g.cl (k + 2) j else 0 : Nat) : Int))[j]?
              simp [hj]
            · rw [List.getElem?_eq_none (by simp; omega), List.getElem?_eq_none (by simp [iv, av]; omega)]
          rw [e])
        have hnb2 : wb.heap.size ≤ nb := by rw [hnb]; exact Nat.le_refl _
        have HVb := hidd hvv
        clear ho hg hlt bw2 hnb hvv
        go_loopw [6, 37] (fun sm i wr => ∃ q : Nat, q ≤ g.s ∧ sm = .bool (stB g k q) ∧ i = .int .i64 q ∧ Hid (Below wb.heap.size wb wr) ∧ Hid (wr.heap[nb]? = some (.cells (iv (fun j => if j < q then g.cl (k + 2) j else 0) g.s) 2 (0, 0)))) (fun _ i _ => g.s - (intOf i).toNat)
        case atStart => exact ⟨0, Nat.zero_le _, rfl, rfl, Hw2, HN2⟩
        case round =>
          clear Hw2 HN2
          obtain ⟨q, hq, rfl, rfl, Hw, HN⟩ := hrel
          by_cases hqs : q < g.s
          · have HTq := hidd ((HTab.out.below Hb.out).below Hw.out)
            have HVq := hidd (HV.out.below Hw.out)
            have HL := hidd (g.lk_cl k q)
            have k1 : wr.cell? ⟨w.heap.size, 0, none⟩ = some (.pointer (some ⟨T, 0, none⟩)) := blkc (hp_bel HB.out Hw.out) 0
            have hcv := fun n => (HVb.out.below (Hw.out.trans (bel_drewN (Below.refl _ wr) n))).get (show q < (ivL (g.cl (k + 1)) g.s).length by rw [ivL_len]; exact hqs)
            have Hcv := hidd hcv
            obtain ⟨bv, ov, eA, _⟩ := hcv 0
            subst eA
            clear hcv
            have hof : ∀ n, (wr.drewN n).cell? ⟨bv, ov + q, none⟩ = some (.int .i64 (g.cl (k + 1) q : Nat)) := fun n => by
              obtain ⟨b, o, e, h⟩ := Hcv.out n
              cases e
              rw [ivL_get _ hqs] at h
              exact h
            have hof0 : wr.cell? ⟨bv, ov + q, none⟩ = some (.int .i64 (g.cl (k + 1) q : Nat)) := hof 0
            have hbv := hp_lt' hof0
            have n1 := (blkc HN.out q).trans (iv_get _ hqs)
            have n2 := blkf HN.out q
            have j1 : (q : Int) < g.s := by omega
            clear k1 hof0 hbv
            have k1 : wr.cell? ⟨w.heap.size, 0, none⟩ = some (.pointer (some ⟨T, 0, none⟩)) := blkc (hp_bel HB.out Hw.out) 0
            have Hof := hidd hof
            clear hof
            go_wp2_with (go_at_call 198; refine (like_any g HO.out T (g.cl (k + 1)) q hqs (cl_le (k + 1) q) _ _ HTq.out HVq.out).mono ?_; rintro e w6 ⟨rfl, n6, rfl⟩; rw [HL.out])
            obtain ⟨w7, hw7⟩ : ∃ w7, w7 = (wr.drewN n6).setCell ⟨nb, q, none⟩ (.int .i64 (g.cl (k + 2) q : Nat)) := ⟨_, rfl⟩
            rw [← hw7]
            have Hw7 := hidd (show Below wb.heap.size wb w7 by rw [hw7]; exact (bel_drewN Hw.out n6).setCell hnb2 _)
            have HN7 := hidd (show w7.heap[nb]? = some (.cells (iv (fun j => if j < q + 1 then g.cl (k + 2) j else 0) g.s) 2 (0, 0)) by
              have h := hp_set (w := wr.drewN n6) HN.out q (.int .i64 (g.cl (k + 2) q : Nat))
              rw [iv_set, ← iv_ifstep] at h
              rw [hw7]
              exact h)
            have x1 : w7.cell? ⟨nb, q, none⟩ = some (.int .i64 (g.cl (k + 2) q : Nat)) := ((blkc HN7.out q).trans (iv_get _ hqs)).trans (by simp)
            have x2 : w7.cell? ⟨bv, ov + q, none⟩ = some (.int .i64 (g.cl (k + 1) q : Nat)) := by
              obtain ⟨b, o, e, h⟩ := (HVb.out.below Hw7.out).get (show q < (ivL (g.cl (k + 1)) g.s).length by rw [ivL_len]; exact hqs)
              cases e
              rw [ivL_get _ hqs] at h
              exact h
            clear hw7 k1 n1 n2
            have Hsu := hidd (stB_succ g k q)
            cases hs : stB g k q with
            | false =>
              have Hs := hidd hs
              clear hs
              go_wp2_with fail
              go_quiet (fail)
              go_wp2_with fail
              go_roundw
              case rel => exact ⟨q + 1, by omega, by rw [Hsu.out, Hs.out, Bool.false_and], by go_num, hidd (bel_drewN Hw7.out _), hidd HN7.out⟩
              case measure => simp [intOf]; omega
            | true =>
              have Hs := hidd hs
              clear hs
              by_cases heq : g.cl (k + 2) q = g.cl (k + 1) q
              · have hd : ((g.cl (k + 2) q : Int) == (g.cl (k + 1) q : Int)) = true := beq_iff_eq.2 (by omega)
                have Heq := hidd heq
                clear heq
                go_wp2_with fail
                go_quiet (fail)
                go_wp2_with fail
                go_roundw
                case rel => exact ⟨q + 1, by omega, by rw [Hsu.out, Hs.out, decide_eq_true Heq.out]; rfl, by go_num, hidd (bel_drewN Hw7.out _), hidd HN7.out⟩
                case measure => simp [intOf]; omega
              · have hd : ((g.cl (k + 2) q : Int) == (g.cl (k + 1) q : Int)) = false := beq_eq_false_iff_ne.2 (by omega)
                have Heq := hidd heq
                clear heq
                go_wp2_with fail
                go_quiet (fail)
                go_wp2_with fail
                go_roundw
                case rel => exact ⟨q + 1, by omega, by rw [Hsu.out, decide_eq_false Heq.out, Bool.and_false], by go_num, hidd (bel_drewN Hw7.out _), hidd HN7.out⟩
                case measure => simp [intOf]; omega
          · have he : q = g.s := by omega
            subst he
            cases hst : stB g k g.s with
            | true =>
              have HR := hidd (stB_lst HO.out hst)
              have HVw := hidd (HV.out.below Hw.out)
              clear hst
              go_wp2_with fail
              go_ret
              exact ⟨⟨_, rfl, by rw [HR.out]; exact HVw.out⟩, bel_then Hb.out Hw.out⟩
            | false =>
              have hks := stB_more HO.out hk hst
              have HN' := hidd (show wr.heap[nb]? = some (.cells (iv (g.cl (k + 2)) g.s) 2 (0, 0)) by
                have := HN.out
                rw [iv_congr (C' := g.cl (k + 2)) fun j hj => if_pos hj] at this
                exact this)
              have HV' := hidd (RdI.of_iv HN'.out (by omega))
              clear hst
              go_wp2_with fail
              go_roundg (g.s + 1 - (k + 1))
              case measure => omega
              case rel => exact ⟨k + 1, hks, Nat.le_refl _, HV', hidd (bel_then Hb.out Hw.out), hidd (hp_bel HB.out Hw.out)⟩
end Go.Proofs.Ytjnnbjlombopnaa
