/- Walks: the machine of a row of a table, of the program. -/
import Derived.Test.YtcghcbdefajpgaaBob
import Derived.Test.YtcghcbdefajpgaaBC
import Derived.Test.YtcghcbdefajpgaaBH
import Derived.Test.YtcghcbdefajpgaaMnm
namespace Go.Proofs.Ytcghcbdefajpgaa
open Go.RowKit
set_option linter.unusedSimpArgs false

set_option maxHeartbeats 400000 in
/-- The number of a state, as the closure of machineFrom tells it. -/
theorem machineFrom1_any (g : Gm) (q : Nat) (hq : q < g.s) (O : List Nat) (hm : g.lst q ∈ O) (sb ob : Nat) (sv ov : Value) (t u : TypeId) (w : World) (h1 : w.heap[sb]? = some (.cells #[sv] t (0, 0))) (h2 : w.heap[ob]? = some (.cells #[ov] u (0, 0))) (hs : RdI w sv (onl O)) (ho : RdI w ov (ivL g.lst g.s)) :
    Calls Try.prog 88 #[.int .i64 q, .pointer (some ⟨sb, 0, none⟩), .pointer (some ⟨ob, 0, none⟩)] w fun e w' => e = .returned (.int .i64 (ixO O (g.lst q) : Nat)) ∧ ∃ n, w' = w.drewN n := by
  have c1 : w.cell? ⟨sb, 0, none⟩ = some sv := blkc h1 0
  have c2 : w.cell? ⟨ob, 0, none⟩ = some ov := blkc h2 0
  have HE : Hid (∀ n, Calls Try.prog 89 #[sv, .int .i64 (g.lst q : Nat)] (w.drewN n) fun e w' => e = .returned (.int .i64 (ixO O (g.lst q) : Nat)) ∧ ∃ m, w' = w.drewN m) := hidd (fun n => (slicesIndex_any sv (onl O) (ixO O (g.lst q)) _ (onl_ix hm).1 (onl_ix hm).2 (w.drewN n) (hs.below (bel_drewN (Below.refl _ w) n))).mono fun e w' ⟨h1, h2⟩ => ⟨h1, n, h2.symm⟩)
  obtain ⟨A, c, rfl, hr⟩ := hs
  obtain ⟨B, d, rfl, hr'⟩ := ho
  obtain ⟨b, o, rfl, h3⟩ := hr'.get (show q < (ivL g.lst g.s).length by rw [ivL_len]; exact hq)
  rw [ivL_get _ hq] at h3
  rw [ivL_len] at c2
  have j1 : (q : Int) < g.s := by omega
  clear hr hr' h1 h2
  go_enter Try.func88, Try.ntmps88
  go_wp2
  go_quiet ((go_at_call 89; exact HE.out _))
  go_wp2
  go_ret
  exact ⟨rfl, _, rfl⟩

/-- A slice's block is neither of two. -/
def NB (v : Value) (a b : Nat) : Prop := v.ownBlock ≠ some a ∧ v.ownBlock ≠ some b
theorem NB.lies {v v' : Value} {a b H : Nat} (h : NB v a b) (hl : Lies H v v') (ha : a < H) (hb : b < H) : NB v' a b := by
  rcases hl with e | ⟨q, e, hq⟩
  · unfold NB; rw [e]; exact h
  · unfold NB
    rw [e]
    exact ⟨fun e => by have := Option.some.inj e; omega, fun e => by have := Option.some.inj e; omega⟩

set_option maxRecDepth 100000 in
set_option maxHeartbeats 4000000 in
theorem machineFrom_any (g : Gm) (hok : g.Tb) (T : Nat) (w : World) (hT : TabAt w T (g.nxs g.s) (g.ous g.s)) :
    Calls Try.prog 69 #[.pointer (some ⟨T, 0, none⟩), .int .i64 (g.l : Nat), .int .i64 0] w fun e w' => e = .returned (.tuple #[.agg g.toM.1.cells, .int .i64 g.toM.2]) ∧ Below w.heap.size w w' := by
  have HTab := hidd hT
  have HO := hidd hok
  have s1 := hok.s1
  have sm := hok.sm
  have l3 := hok.l3
  clear hT hok
  go_enter Try.func69, Try.ntmps69
  go_wp2_with fail
  refine (least_any g HO.out T _ (HTab.out.below (bel_alloc' _ _))).mono ?_
  rintro e w3 ⟨⟨v, rfl, hv⟩, hb⟩
  have B3 := hidd (bel_then (bel_alloc' _ _) hb)
  have Z3 := hidd (show w3.heap[w.heap.size]? = some (.cells Mc.zero.cells 31 (0, 0)) by rw [← zeroC_M]; exact hp_bel (hp_new rfl) hb)
  have T3 := hidd ((HTab.out.below (bel_alloc' _ _)).below hb)
  have V3 := hidd hv
  obtain ⟨Av, cv, ev, hvv⟩ := hv
  rw [ivL_len] at ev
  have HVV := hidd hvv
  subst ev
  clear hb hvv HTab
  obtain ⟨bv, ov, hAv, c0⟩ := HVV.out.get (show 0 < (ivL g.lst g.s).length by rw [ivL_len]; omega)
  subst hAv
  rw [ivL_get _ s1] at c0
  obtain ⟨vn, vo, hT0, hTn, _⟩ := T3.out
  obtain ⟨An, cn, rn, rfl, q1, q2, q3⟩ := hTn
  have e1 : (g.nxs g.s).length = g.s := by simp [Gm.nxs]
  rw [e1] at hT0 q2
  obtain ⟨bn, on, hAn, hxx⟩ := q1.at_ (List.getElem?_eq_getElem (show 0 < rn.length by rw [q2]; omega))
  subst hAn
  have HTc := hidd (blkc hT0 0 : w3.cell? ⟨T, 0, none⟩ = some (.slice (some ⟨bn, on, none⟩) g.s cn))
  have HRw := hidd (show ∀ s, s < g.s → ∃ Ar cr, w3.cell? ⟨bn, on + s, none⟩ = some (.slice Ar g.l cr) ∧ Rd w3 Ar (ints (g.nr s)) from fun s hss => by
    have hsr : s < rn.length := by rw [q2]; exact hss
    obtain ⟨b, o, hAn, hcr⟩ := q1.at_ (List.getElem?_eq_getElem hsr)
    obtain ⟨Ar, cr, er, hrr⟩ := q3 s rn[s] (g.nr s) (List.getElem?_eq_getElem hsr) (by simp [Gm.nxs, hss])
    rw [er, show (g.nr s).length = g.l by simp [Gm.nr]] at hcr
    cases hAn
    exact ⟨Ar, cr, hcr, hrr⟩)
  clear hxx hT0 q1 q2 q3 e1
  have s0 : (0 : Int) < g.s := by omega
  rw [Nat.add_zero] at c0
  have hbv : bv < w3.heap.size := hp_lt' c0
  have n1 : ¬ bv = w3.heap.size := by omega
  have n2 : ¬ w3.heap.size = bv := by omega
  have hzlt := hp_lt Z3.out
  go_wp2_with fail
  clear n1 n2 c0
  obtain ⟨ob, hob⟩ : ∃ ob, ob = w3.heap.size := ⟨_, rfl⟩
  simp only [← hob]
  obtain ⟨w5, hw5⟩ : ∃ w5, w5 = ((w3.alloc (.cells #[.slice (some ⟨bv, ov, none⟩) g.s cv] 26)).alloc (.cells #[.int .i64 (g.lst 0 : Nat)] 2)).alloc (.cells #[.slice (some ⟨ob + 1, 0, none⟩) 1 1] 26) := ⟨_, rfl⟩
  rw [← hw5]
  have bel5 : Below w3.heap.size w3 w5 := by rw [hw5]; exact ((bel_alloc' _ _).alloc (by simp) _).alloc (by simp; omega) _
  have O5 := hidd (show w5.heap[ob]? = some (.cells #[.slice (some ⟨bv, ov, none⟩) g.s cv] 26 (0, 0)) by rw [hw5]; exact hp_old (hp_old (hp_new hob)))
  have S5 := hidd (show w5.heap[ob + 1 + 1]? = some (.cells #[.slice (some ⟨ob + 1, 0, none⟩) 1 1] 26 (0, 0)) by rw [hw5]; exact hp_new (by rw [hob]; simp))
  have U5 := hidd (show Own w5 (ob + 1) 2 (.slice (some ⟨ob + 1, 0, none⟩) 1 1) (ints (onl (g.bo 0))) by
    rw [hw5]
    exact Own.of_full (vs := [.int .i64 (g.lst 0 : Nat)]) (hp_old (hp_new (by rw [hob]; simp))) rfl (Nat.le_refl _) (by omega))
  have N5 := hidd (show NB (.slice (some ⟨ob + 1, 0, none⟩) 1 1) ob (ob + 1 + 1) from ⟨by simp [Value.ownBlock], by simp [Value.ownBlock]⟩)
  have B35 := hidd (show Below ob w3 w5 by rw [hob]; exact bel5)
  have Hob := hidd hob
  have hwo : w.heap.size < ob := by rw [hob]; exact hzlt
  clear hw5 hob bel5
  go_loopw [10] (fun y wr => ∃ (k : Nat) (v : Value), y = .int .i64 k ∧ k ≤ (g.bo k).length ∧ Hid (wr.heap[ob]? = some (.cells #[.slice (some ⟨bv, ov, none⟩) g.s cv] 26 (0, 0))) ∧ Hid (wr.heap[ob + 1 + 1]? = some (.cells #[v] 26 (0, 0))) ∧ Hid (Own wr (ob + 1) 2 v (ints (onl (g.bo k)))) ∧ Hid (NB v ob (ob + 1 + 1)) ∧ Hid (Below ob w3 wr)) (fun y _ => g.s - (intOf y).toNat)
  case atStart => exact ⟨0, _, rfl, Nat.zero_le _, O5, S5, U5, N5, B35⟩
  case round =>
    clear O5 S5 U5 N5 B35
    obtain ⟨k, v, rfl, hk, HB, HS, HU, HN, Hb⟩ := hrel
    obtain ⟨A, c, hve⟩ := HU.out.slice
    rw [ints_length, onl_len] at hve
    subst hve
    have hOl := (Gm.bo_ok HO.out k).le
    have HT := hidd (T3.out.below (show Below w3.heap.size w3 wr by rw [← Hob.out]; exact Hb.out))
    have t1 : wr.cell? ⟨ob + 1 + 1, 0, none⟩ = some (.slice A (g.bo k).length c) := blkc HS.out 0
    by_cases hlt : k < (g.bo k).length
    · have i1 : (k : Int) < (g.bo k).length := by omega
      have i0 : (0 : Int) ≤ k := by omega
      have hstep := hidd (show g.bo (k + 1) = g.boX ((g.bo k).getD k 0) g.l (g.bo k) by rw [Gm.bo, if_pos hlt])
      have hss := Gm.bo_at HO.out hlt
      obtain ⟨ba, hAe, hcs⟩ : ∃ ba, A = some ⟨ba, 0, none⟩ ∧ wr.cell? ⟨ba, k, none⟩ = some (.int .i64 ((g.bo k).getD k 0 : Nat)) := by
        have hp : 0 < (ints (onl (g.bo k))).length := by rw [ints_length, onl_len]; omega
        obtain ⟨b', c', e', _, _⟩ := HU.out.form hp
        simp only [Value.slice.injEq] at e'
        refine ⟨b', e'.1, ?_⟩
        have h2 := HU.out
        rw [e'.1] at h2
        refine h2.cell ?_
        rw [ints_get, List.getElem?_eq_getElem (by rw [onl_len]; exact hlt), onl_get hlt]
        rfl
      subst hAe
      obtain ⟨s, hs⟩ : ∃ s, s = (g.bo k).getD k 0 := ⟨_, rfl⟩
      rw [← hs] at hstep hss hcs
      have BW := show Below w3.heap.size w3 wr by rw [← Hob.out]; exact Hb.out
      obtain ⟨Ar, cr, hcr0, hrr⟩ := HRw.out s hss
      have hcr := (BW.cell (p := ⟨bn, on + s, none⟩) (hp_lt' hcr0)).trans hcr0
      have t2 := (BW.cell (p := ⟨T, 0, none⟩) (hp_lt' HTc.out)).trans HTc.out
      have j1 : (s : Int) < g.s := by omega
      have j0 : (0 : Int) ≤ s := by omega
      have Hrr := hidd hrr
      have hxl := fun x (hx : x ≤ g.l) => Gm.boX_ok HO.out hss (Gm.bo_ok HO.out k) x hx
      have HX := hidd hxl
      clear hcr0 hrr hs BW hxl HT
      go_wp2_with fail
      go_quiet (fail)
      go_wp2_with fail
      clear t1 t2 hcr hcs
      go_loopw [37] (fun y wr => ∃ (x : Nat) (v : Value), y = .int .i64 x ∧ x ≤ g.l ∧ Hid (wr.heap[ob]? = some (.cells #[.slice (some ⟨bv, ov, none⟩) g.s cv] 26 (0, 0))) ∧ Hid (wr.heap[ob + 1 + 1]? = some (.cells #[v] 26 (0, 0))) ∧ Hid (Own wr (ob + 1) 2 v (ints (onl (g.boX s x (g.bo k))))) ∧ Hid (NB v ob (ob + 1 + 1)) ∧ Hid (Below ob w3 wr)) (fun y _ => g.l - (intOf y).toNat)
      case atStart => exact ⟨0, _, rfl, Nat.zero_le _, hidd HB.out, hidd HS.out, hidd (HU.out.below (bel_drewN (Below.refl _ _) _)), HN, hidd (bel_drewN Hb.out _)⟩
      case round =>
        clear HB HS HU HN Hb
        obtain ⟨x, v, rfl, hx, HB, HS, HU, HN, Hb⟩ := hrel
        obtain ⟨A, c, hve⟩ := HU.out.slice
        rw [ints_length, onl_len] at hve
        subst hve
        have hOl2 := (HX.out x hx).1.le
        by_cases hlx : x < g.l
        · have k1 : (x : Int) < g.l := by omega
          have k0 : (0 : Int) ≤ x := by omega
          have BW := show Below w3.heap.size w3 wr by rw [← Hob.out]; exact Hb.out
          have hxr : x < (g.nr s).length := by simp [Gm.nr, hlx]
          obtain ⟨b3, o3, hA3, h3⟩ := (Hrr.out.below BW).get hxr
          subst hA3
          rw [show (g.nr s)[x]'hxr = (g.nx s x : Int) by simp [Gm.nr]] at h3
          have hnr := HO.out.nlt s x hss hlx
          have HStp := hidd (show g.boX s (x + 1) (g.bo k) = if g.lst (g.nx s x) ∈ g.boX s x (g.bo k) then g.boX s x (g.bo k) else g.boX s x (g.bo k) ++ [g.lst (g.nx s x)] by rw [Gm.boX])
          obtain ⟨r, hr⟩ : ∃ r, r = g.nx s x := ⟨_, rfl⟩
          rw [← hr] at h3 hnr HStp
          obtain ⟨b4, o4, hA4, h4⟩ := (HVV.out.below BW).get (show r < (ivL g.lst g.s).length by rw [ivL_len]; exact hnr)
          cases hA4
          rw [ivL_get _ hnr] at h4
          have r1 : (r : Int) < g.s := by omega
          have r0 : (0 : Int) ≤ r := by omega
          obtain ⟨O, hO⟩ : ∃ O, O = g.boX s x (g.bo k) := ⟨_, rfl⟩
          rw [← hO] at HU HStp hOl2 HN
          have HS' := HS
          simp only [← hO] at HS ⊢
          have t1 : wr.cell? ⟨ob + 1 + 1, 0, none⟩ = some (.slice A O.length c) := blkc HS.out 0
          have t0 : wr.cell? ⟨ob, 0, none⟩ = some (.slice (some ⟨bv, ov, none⟩) g.s cv) := blkc HB.out 0
          have HE : Hid (∀ n, Calls Try.prog 86 #[.slice A O.length c, .int .i64 (g.lst r : Nat)] (wr.drewN n) fun e w' => e = .returned (.bool (decide (g.lst r ∈ O))) ∧ ∃ m, w' = wr.drewN m) := hidd (fun n => (slicesContains_any _ (onl O) _ (wr.drewN n) (by have h := HU.out.rdI; exact h.below (bel_drewN (Below.refl _ wr) n))).mono fun e w' ⟨h1, h2⟩ => ⟨by rw [h1, onl_has], n, h2.symm⟩)
          clear hr BW HS' hO
          by_cases hm : g.lst r ∈ O
          · rw [decide_eq_true hm] at HE
            rw [if_pos hm] at HStp
            clear hm
            go_wp2_with fail
            go_quiet ((go_at_call 86; exact HE.out _))
            go_wp2_with fail
            go_roundw
            case rel => exact ⟨x + 1, _, by go_num, by omega, hidd HB.out, hidd HS.out, hidd (by rw [HStp.out]; exact HU.out.below (bel_drewN (Below.refl _ _) _)), HN, hidd (bel_drewN Hb.out _)⟩
            case measure => first | (simp [intOf]; done) | (simp [intOf]; omega)
          · rw [decide_eq_false hm] at HE
            rw [if_neg hm] at HStp
            clear hm
            go_wp2_with fail
            go_quiet ((go_at_call 86; exact HE.out _))
            go_wp2_with fail
            refine wp_region_any (by kernel_rfl) ?_
            change wpAny _ _ _ _ _ _ _ (World.drew _)
            obtain ⟨wd, hwd⟩ : ∃ wd, wd = (wr.drewN nq).drew := ⟨_, rfl⟩
            have bwd : Below wr.heap.size wr wd := by rw [hwd]; exact (bel_drewN (Below.refl _ wr) _).trans ((drew_bel _).mono (Nat.le_refl _))
            rw [← hwd]
            have HBd := hidd (hp_bel HB.out bwd)
            have HSd := hidd (hp_bel HS.out bwd)
            have HUd := hidd (HU.out.below bwd)
            have h4d := (bwd.cell (p := ⟨bv, ov + r, none⟩) (hp_lt' h4)).trans h4
            have hsz := hp_lt HSd.out
            have Bd := hidd (show Below ob w3 wd from Hb.out.trans (bwd.mono (by have := hp_lt HS.out; omega)))
            have hbase : ob + 1 ≤ wd.heap.size := by omega
            have hlen2 : (ints (onl O)).length + 1 ≤ 1099511627776 := by rw [ints_length, onl_len]; omega
            have S0 := hidd (show wd.cell? ⟨ob + 1 + 1, 0, none⟩ = some (.slice A O.length c) ∧ wd.cell? ⟨ob, 0, none⟩ = some (.slice (some ⟨bv, ov, none⟩) g.s cv) ∧ wd.cell? ⟨bv, ov + r, none⟩ = some (.int .i64 (g.lst r : Nat)) from ⟨blkc HSd.out 0, blkc HBd.out 0, h4d⟩)
            clear hwd bwd t0 t1 h3 h4 HB HS HU HE Hb
            refine wpAny_of_C (S := fun W => W.cell? ⟨ob + 1 + 1, 0, none⟩ = some (.slice A O.length c) ∧ W.cell? ⟨ob, 0, none⟩ = some (.slice (some ⟨bv, ov, none⟩) g.s cv) ∧ W.cell? ⟨bv, ov + r, none⟩ = some (.int .i64 (g.lst r : Nat))) (ks := [3, 4, 5, 6]) _ _ _ _ ?_
            refine wpC_take (i := 0) 6 (v := ?v0) rfl (by kernel_rfl) (by kernel_rfl) (by kernel_rfl) (by kernel_rfl) (fun _ _ _ h => h) (Or.inl ⟨by rfl, ?h0⟩) S0.out ?_
            case h0 => (rintro wx ⟨hc1, hc2, hc3⟩; go_simp; first | done | with_reducible rfl)
            simp only [Act.put, List.getElem_toArray, List.getElem_cons_succ, List.getElem_cons_zero, List.setIfInBounds_toArray, List.set_cons_zero, List.set_cons_succ]
            refine wpC_take (i := 1) 3 (v := ?v1) rfl (by kernel_rfl) (by kernel_rfl) (by kernel_rfl) (by kernel_rfl) (fun _ _ _ h => h) (Or.inl ⟨by rfl, ?h1⟩) S0.out ?_
            case h1 => (rintro wx ⟨hc1, hc2, hc3⟩; go_simp; first | done | with_reducible rfl)
            simp only [Act.put, List.getElem_toArray, List.getElem_cons_succ, List.getElem_cons_zero, List.setIfInBounds_toArray, List.set_cons_zero, List.set_cons_succ]
            refine wpC_take (i := 2) 3 (v := ?v2) rfl (by kernel_rfl) (by kernel_rfl) (by kernel_rfl) (by kernel_rfl) (fun _ _ _ h => h) (Or.inl ⟨by rfl, ?h2⟩) S0.out ?_
            case h2 => (rintro wx ⟨hc1, hc2, hc3⟩; go_simp; first | done | with_reducible rfl)
            simp only [Act.put, List.getElem_toArray, List.getElem_cons_succ, List.getElem_cons_zero, List.setIfInBounds_toArray, List.set_cons_zero, List.set_cons_succ]
            refine wpC_take (i := 3) 4 (v := ?v3) rfl (by kernel_rfl) (by kernel_rfl) (by kernel_rfl) (by kernel_rfl) (fun _ _ _ h => h) (Or.inl ⟨by rfl, ?h3⟩) S0.out ?_
            case h3 => (rintro wx ⟨hc1, hc2, hc3⟩; go_simp; first | done | with_reducible rfl)
            simp only [Act.put, List.getElem_toArray, List.getElem_cons_succ, List.getElem_cons_zero, List.setIfInBounds_toArray, List.set_cons_zero, List.set_cons_succ]
            refine wpC_take (i := 4) 5 (v := ?v4) rfl (by kernel_rfl) (by kernel_rfl) (by kernel_rfl) (by kernel_rfl) (fun _ _ _ h => h) (Or.inl ⟨by rfl, ?h4⟩) S0.out ?_
            case h4 => (rintro wx ⟨hc1, hc2, hc3⟩; go_simp; first | done | with_reducible rfl)
            simp only [Act.put, List.getElem_toArray, List.getElem_cons_succ, List.getElem_cons_zero, List.setIfInBounds_toArray, List.set_cons_zero, List.set_cons_succ]
            refine wpC_one (i := 5) (by kernel_rfl) rfl ?_
            intro K hK
            go_simp
            obtain ⟨we, hwe⟩ : ∃ we, we = wd.alloc (.cells #[.int .i64 (g.lst r : Nat)] 2) := ⟨_, rfl⟩
            have bwe : Below wd.heap.size wd we := by rw [hwe]; exact bel_alloc' _ _
            have EN := hidd (show we.heap[wd.heap.size]? = some (.cells #[.int .i64 (g.lst r : Nat)] 2 (0, 0)) by rw [hwe]; exact hp_new rfl)
            rw [← hwe]
            clear hwe
            have S1 := hidd (show we.cell? ⟨ob + 1 + 1, 0, none⟩ = some (.slice A O.length c) ∧ we.cell? ⟨ob, 0, none⟩ = some (.slice (some ⟨bv, ov, none⟩) g.s cv) ∧ we.cell? ⟨bv, ov + r, none⟩ = some (.int .i64 (g.lst r : Nat)) from ⟨blkc (hp_bel HSd.out bwe) 0, blkc (hp_bel HBd.out bwe) 0, (bwe.cell (p := ⟨bv, ov + r, none⟩) (hp_lt' S0.out.2.2)).trans S0.out.2.2⟩)
            have HSe := hidd (hp_bel HSd.out bwe)
            have HBe := hidd (hp_bel HBd.out bwe)
            have HUe := hidd (HUd.out.below bwe)
            have Be := hidd (show Below ob w3 we from Bd.out.trans (bwe.mono (by omega)))
            have hze := bwe.size
            refine hK _ _ S1.out ?_
            clear hK K bwe HSd HBd HUd Bd S0
            refine wpC_one (i := 6) (by kernel_rfl) rfl ?_
            intro K hK
            refine step_app rfl _ _ _ rfl (ob + 1) 2 (.int .i64 0) 8 Try.underlying26 info_i64 rfl HUe.out EN.out rfl rfl rfl hlen2 (by decide) (by omega) ?_
            intro v' wf ho hgr hle hli
            have HSf := hidd (kept_own hgr HSe.out HN.out.2)
            have HBf := hidd (kept_own hgr HBe.out HN.out.1)
            have HNf := hidd (HN.out.lies hli (by omega) (by omega))
            have Bf := hidd (show Below ob w3 wf from Be.out.trans ((bel_own HUe.out hgr (by omega)).mono (by omega)))
            have HOf := hidd ho
            have c4 : wf.cell? ⟨bv, ov + r, none⟩ = some (.int .i64 (g.lst r : Nat)) := (Bf.out.cell (p := ⟨bv, ov + r, none⟩) (by show bv < ob; rw [Hob.out]; exact hbv)).trans ((Be.out.cell (p := ⟨bv, ov + r, none⟩) (by show bv < ob; rw [Hob.out]; exact hbv)).symm.trans S1.out.2.2)
            obtain ⟨A6, c6, e6⟩ := ho.slice
            rw [show (ints (onl O) ++ [Value.int .i64 (g.lst r : Nat)]).length = O.length + 1 by simp [ints_length, onl_len]] at e6
            refine hK _ _ ⟨blkc HSf.out 0, blkc HBf.out 0, c4⟩ ?_
            clear hK K hgr hli ho c4
            subst e6
            refine wpC_of_any _ _ _ _ (by decide) ?_
            simp only [Act.put, List.getElem_toArray, List.getElem_cons_succ, List.getElem_cons_zero, List.setIfInBounds_toArray, List.set_cons_zero, List.set_cons_succ]
            have t5 : wf.cell? ⟨ob + 1 + 1, 0, none⟩ = some (.slice A O.length c) := blkc HSf.out 0
            have t6 := blkf HSf.out 0
            refine wpAny_ready (rs := [7]) (by kernel_rfl) (by simp) (AllReady.cons rfl (fun K hK => ?_) AllReady.nil)
            go_simp
            refine hK _ _ ?_
            clear hK K t5 t6
            refine wpAny_done (by kernel_rfl) ?_ _
            go_wp2_with fail
            go_roundw
            case rel => exact ⟨x + 1, _, by go_num, by omega, hidd (hp_far HBf.out (by show ob ≠ ob + 1 + 1; omega) _), hidd (hp_set HSf.out 0 _), hidd (by rw [HStp.out, onl_push, ints_append]; exact HOf.out.far (p := ⟨ob + 1 + 1, 0, none⟩) HNf.out.2 _), HNf, hidd (Bf.out.setCell (p := ⟨ob + 1 + 1, 0, none⟩) (by show ob ≤ ob + 1 + 1; omega) _)⟩
            case measure => first | (simp [intOf]; done) | (simp [intOf]; omega)
        · have he : x = g.l := by omega
          subst he
          clear hlx
          go_wp2_with fail
          go_roundw
          case rel => exact ⟨k + 1, _, by go_num, by rw [hstep.out]; have := ((HX.out g.l (Nat.le_refl _)).2).length_le; omega, HB, HS, hidd (by rw [hstep.out]; exact HU.out), HN, Hb⟩
          case measure => first | (simp [intOf]; done) | (simp [intOf]; omega)
    · have HOf := Gm.bof_of HO.out (k := k) (by omega)
      rw [← HOf] at HU t1
      have HBk := hidd (HU.out.rdI)
      have HBl : Hid ((g.bo k).length = g.bof.length) := hidd (by rw [HOf])
      have BW := hidd (show Below w3.heap.size w3 wr by rw [← Hob.out]; exact Hb.out)
      have Zr := hidd (hp_bel Z3.out BW.out)
      have Br := hidd (bel_then B3.out BW.out)
      have HT2 := hidd HT.out
      simp only [HBl.out] at HS HBk t1 ⊢
      have i9 : ¬ (k : Int) < g.bof.length := by have := HBl.out; omega
      clear HOf hlt hk hOl HT
      by_cases h16 : 16 < g.bof.length
      · have HM := hidd (Gm.toM_big h16)
        have i1 : (16 : Int) < g.bof.length := by omega
        clear h16
        go_wp2_with (refine stC rfl (.tmp 6) (.tmp 59) rfl _ Mc.zero Zr.out (Mc.cells_size _) (by rfl) (by rw [← zeroM_cells]; rfl) ?_)
        refine bodyPost_ret (v := .tuple #[.agg Mc.zero.cells, .int .i64 3]) (results_cell_tmp rfl _ _ w.heap.size 31 _ (0, 0) _ _ rfl rfl (setRow_heap _ _ _ _ _ _ Zr.out) Try.underlying31 rfl (cells98i _)) rfl ⟨by rw [HM.out], ?_⟩
        exact bel_row Br.out (Nat.le_refl _) _
      · have HM := hidd (Gm.toM_ok h16)
        have i1 : ¬ (16 : Int) < g.bof.length := by omega
        have HGa := hidd (gathered_at g HO.out T g.bof (fun i hi => Gm.bof_lt HO.out hi) (by omega) g.nuO (fun i x hi hx => by have := Gm.nuO_lt HO.out hi hx; omega) 88 #[.pointer (some ⟨ob + 1 + 1, 0, none⟩), .pointer (some ⟨ob, 0, none⟩)] (enters_of Try.func88 (by kernel_rfl) rfl) _ wr HT2.out HBk.out (fun i x W hi hx hW => machineFrom1_any g _ (HO.out.nlt _ x (Gm.bof_lt HO.out hi) hx) g.bof ((Gm.bof_next HO.out hi).2.2 x hx) (ob + 1 + 1) ob _ _ _ _ W (hp_bel HS.out hW) (hp_bel HB.out hW) (HBk.out.below hW) ((V3.out.below BW.out).below hW)))
        clear h16
        go_wp2_with fail
        refine HGa.out.mono ?_
        rintro e w6 ⟨rfl, hb6⟩
        have Z6 := hidd (hp_bel Zr.out hb6)
        have B6 := hidd (bel_then Br.out hb6)
        clear hb6 HGa t1
        go_wp2_with (refine stC rfl (.tmp 6) (.tmp 64) rfl _ (gaM g g.bof g.nuO) Z6.out (Mc.cells_size _) (by rfl) (by rfl) ?_)
        refine bodyPost_ret (v := .tuple #[.agg (gaM g g.bof g.nuO).cells, .int .i64 0]) (results_cell_tmp rfl _ _ w.heap.size 31 _ (0, 0) _ _ rfl rfl (setRow_heap _ _ _ _ _ _ Z6.out) Try.underlying31 rfl (cells98i _)) rfl ⟨by rw [HM.out], ?_⟩
        exact bel_row B6.out (Nat.le_refl _) _
end Go.Proofs.Ytcghcbdefajpgaa
