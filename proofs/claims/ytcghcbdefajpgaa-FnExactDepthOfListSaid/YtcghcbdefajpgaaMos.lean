/- Walks: the machine of a word, of the reference. -/
import Derived.Test.YtcghcbdefajpgaaSpl
import Derived.Test.YtcghcbdefajpgaaRws
import Derived.Test.YtcghcbdefajpgaaMfr
import Derived.Test.YtcghcbdefajpgaaRcw
namespace Go.Proofs.Ytcghcbdefajpgaa
open Go.RowKit
set_option linter.unusedSimpArgs false

/-! ### Plain -/
def nbL (O : List Nat) (n : Nat) : List Int := (List.range n).map (nbO O)
theorem nbL_len (O : List Nat) (n : Nat) : (nbL O n).length = n := by simp [nbL]
theorem nbL_get (O : List Nat) {n j : Nat} (h : j < n) : (ints (nbL O n))[j]? = some (.int .i64 (nbO O j)) := by simp [nbL, ints, h]
theorem nbL_push {O : List Nat} {r n : Nat} (h : r ∉ O) : ints (nbL (O ++ [r]) n) = (ints (nbL O n)).set r (.int .i64 (O.length : Nat)) := by
  apply List.ext_getElem?
  intro j
  rw [List.getElem?_set]
  by_cases hj : j < n
  · rw [nbL_get _ hj, nbO_push h, nbL_get _ hj]
    by_cases e : r = j
    · subst e
      rw [if_pos rfl, if_pos rfl, if_pos (by rw [ints_length, nbL_len]; exact hj)]
    · rw [if_neg e, if_neg (fun e2 => e e2.symm)]
  · have h1 : (ints (nbL (O ++ [r]) n))[j]? = none := List.getElem?_eq_none (by rw [ints_length, nbL_len]; omega)
    have h2 : (ints (nbL O n))[j]? = none := List.getElem?_eq_none (by rw [ints_length, nbL_len]; omega)
    rw [h1, h2]
    split
    · rename_i e
      subst e
      rw [if_neg (by rw [ints_length, nbL_len]; exact hj)]
    · rfl
/-- The numbers as they are laid: -1 below i. -/
def mnL (n i : Nat) : List Int := (List.range n).map fun j => if j < i then -1 else 0
theorem mnL_len (n i : Nat) : (mnL n i).length = n := by simp [mnL]
theorem mnL_get (i : Nat) {n j : Nat} (h : j < n) : (ints (mnL n i))[j]? = some (.int .i64 (if j < i then -1 else 0)) := by simp [mnL, ints, h]
theorem mnL_set (n i : Nat) : (ints (mnL n i)).set i (.int .i64 (-1)) = ints (mnL n (i + 1)) := by
  apply List.ext_getElem?
  intro j
  rw [List.getElem?_set]
  by_cases hj : j < n
  · rw [mnL_get _ hj, mnL_get _ hj]
    by_cases e : i = j
    · subst e
      rw [if_pos rfl, if_pos (by rw [ints_length, mnL_len]; exact hj), if_pos (by omega)]
    · rw [if_neg e]
      by_cases h : j < i
      · rw [if_pos h, if_pos (by omega)]
      · rw [if_neg h, if_neg (by omega)]
  · have h1 : (ints (mnL n (i + 1)))[j]? = none := List.getElem?_eq_none (by rw [ints_length, mnL_len]; omega)
    have h2 : (ints (mnL n i))[j]? = none := List.getElem?_eq_none (by rw [ints_length, mnL_len]; omega)
    rw [h1, h2]
    split
    · rename_i e
      subst e
      rw [if_neg (by rw [ints_length, mnL_len]; exact hj)]
    · rfl
theorem mnL_zero {n : Nat} (h : 0 < n) : (ints (mnL n n)).set 0 (.int .i64 0) = ints (nbL [0] n) := by
  apply List.ext_getElem?
  intro j
  rw [List.getElem?_set]
  have e0 : nbO [0] 0 = 0 := rfl
  by_cases hj : j < n
  · rw [mnL_get _ hj, nbL_get _ hj, if_pos hj]
    by_cases e : 0 = j
    · subst e
      rw [if_pos rfl, if_pos (by rw [ints_length, mnL_len]; exact hj), e0]
    · rw [if_neg e, show nbO [0] j = -1 from if_neg (by simp; omega)]
  · have h1 : (ints (mnL n n))[j]? = none := List.getElem?_eq_none (by rw [ints_length, mnL_len]; omega)
    have h2 : (ints (nbL [0] n))[j]? = none := List.getElem?_eq_none (by rw [ints_length, nbL_len]; omega)
    rw [h1, h2, if_neg (by omega)]
theorem mnL_start (n : Nat) : (madeCells #[Value.int .i64 0] n) = (ints (mnL n 0)).toArray := by
  apply Array.toList_inj.1
  rw [toList_madeCells_one]
  apply List.ext_getElem?
  intro j
  rw [List.getElem?_replicate]
  by_cases hj : j < n
  · rw [if_pos hj, List.toList_toArray, mnL_get _ hj]; rfl
  · rw [if_neg hj, List.toList_toArray]
    exact (List.getElem?_eq_none (by rw [ints_length, mnL_len]; omega)).symm
theorem nbO_neg {O : List Nat} {r : Nat} (h : r ∉ O) : nbO O r = -1 := if_neg h
theorem nbO_pos {O : List Nat} {r : Nat} (h : r ∈ O) : nbO O r = (ixO O r : Nat) := if_pos h
theorem Gm.bo_zero (g : Gm) : g.bo 0 = [0] := by
  have := g.lst_le' 0
  show [g.lst 0] = [0]
  rw [show g.lst 0 = 0 by omega]
/-- The machine under way. -/
def gaQ (g : Gm) (k x : Nat) : Mc := (gaP g g.bof g.nuO k x).setS 0
theorem gaQ_zero (g : Gm) : gaQ g 0 0 = ⟨g.l, 0, fun _ _ => 0, fun _ _ => 0⟩ := by unfold gaQ; rw [gaP_zero]; rfl
theorem gaQ_row (g : Gm) (k : Nat) : gaQ g k g.l = gaQ g (k + 1) 0 := by unfold gaQ; rw [gaP_row]
theorem gaQ_step (g : Gm) {k x : Nat} (hx : x < g.l) : ((gaQ g k x).setO k x (g.ou (g.bof.getD k 0) x)).setN k x (g.nuO (g.nx (g.bof.getD k 0) x)) = gaQ g k (x + 1) := by
  unfold gaQ
  rw [← gaP_step g g.bof g.nuO (i := k) hx]
  rfl
theorem gaQ_end (g : Gm) : (gaQ g g.bof.length 0).setS (g.bof.length : Nat) = gaM g g.bof g.nuO := rfl

/-! ### Memory -/
structure Mi (wC wr : World) (n mb nb : Nat) (O : List Nat) (vq : Value) (m : Mc) : Prop where
  bel : Below wC.heap.size wC wr
  num : Own wr wC.heap.size 2 (.slice (some ⟨nb, 0, none⟩) n n) (ints (nbL O n))
  ord : Own wr wC.heap.size 2 vq (ints (onl O))
  ap : vq.ownBlock ≠ some nb
  hm : wr.heap[mb]? = some (.cells m.cells 31 (0, 0))
  bm : wC.heap.size ≤ mb
theorem Mi.drewN {wC wr : World} {n mb nb : Nat} {O : List Nat} {vq : Value} {m : Mc} (h : Mi wC wr n mb nb O vq m) (k : Nat) : Mi wC (wr.drewN k) n mb nb O vq m :=
  ⟨bel_drewN h.bel k, h.num.below (bel_drewN (Below.refl _ _) k), h.ord.below (bel_drewN (Below.refl _ _) k), h.ap, h.hm, h.bm⟩
theorem Mi.setM {wC wr : World} {n mb nb : Nat} {O : List Nat} {vq : Value} {m m' : Mc} (h : Mi wC wr n mb nb O vq m) (i : Nat) (v : Value) (he : m.cells.setIfInBounds i v = m'.cells) : Mi wC (wr.setCell ⟨mb, i, none⟩ v) n mb nb O vq m' :=
  ⟨h.bel.setCell (p := ⟨mb, i, none⟩) h.bm v, h.num.grown (grown_set _ _ _ _) (.inr (owns_off h.num h.hm (by decide))), h.ord.grown (grown_set _ _ _ _) (.inr (owns_off h.ord h.hm (by decide))), h.ap, by rw [← he]; exact hp_set h.hm i v, h.bm⟩
structure Mh (wC wr : World) (n mb nb : Nat) (O : List Nat) (vq : Value) (m : Mc) (r : Nat) : Prop where
  bel : Below wC.heap.size wC wr
  num : Own wr wC.heap.size 2 (.slice (some ⟨nb, 0, none⟩) n n) (ints (nbL (O ++ [r]) n))
  ord : Own wr wC.heap.size 2 vq (ints (onl O))
  ap : vq.ownBlock ≠ some nb
  hm : wr.heap[mb]? = some (.cells m.cells 31 (0, 0))
  bm : wC.heap.size ≤ mb
theorem Mi.mid {wC wr : World} {n mb nb : Nat} {O : List Nat} {vq : Value} {m : Mc} (h : Mi wC wr n mb nb O vq m) {r : Nat} (hr : r ∉ O) : Mh wC (wr.setCell ⟨nb, r, none⟩ (.int .i64 (O.length : Nat))) n mb nb O vq m r := by
  refine ⟨h.bel.setCell (p := ⟨nb, r, none⟩) (h.num.block nb rfl).1 _, ?_, h.ord.grown (grown_set _ _ _ _) (.inr h.ap), h.ap, hp_far h.hm (p := ⟨nb, r, none⟩) (fun e => owns_off h.num h.hm (by decide) (by rw [e]; rfl)) _, h.bm⟩
  rw [nbL_push hr]
  exact h.num.store r _
theorem Mh.push {wC wr w' : World} {n mb nb : Nat} {O : List Nat} {vq vq' : Value} {m : Mc} {r : Nat} (h : Mh wC wr n mb nb O vq m r) (ho : Own w' wC.heap.size 2 vq' (ints (onl O) ++ [.int .i64 (r : Nat)])) (hg : wr.grownBy w' vq.ownBlock) (hl : Lies wr.heap.size vq vq') (hz : wC.heap.size ≤ wr.heap.size) : Mi wC w' n mb nb (O ++ [r]) vq' m := by
  refine ⟨h.bel.trans (bel_own h.ord hg hz), h.num.grown hg (.inr (fun e => h.ap e.symm)), ?_, ?_, kept_own hg h.hm (owns_off h.ord h.hm (by decide)), h.bm⟩
  · rw [onl_push, ints_append]; exact ho
  · rcases hl with e | ⟨q, e, hq⟩
    · rw [e]; exact h.ap
    · rw [e]
      intro e2
      have := (h.num.block nb rfl).2
      have := Option.some.inj e2
      omega

/-- What goes on behind several ways is shown once. -/
theorem cut_cont (F : World → Nat → Nat → Prop) {P : World → Nat → Nat → Prop} {G : Prop} (hmain : (∀ W a b, F W a b → P W a b) → G) (hcont : ∀ W a b, F W a b → P W a b) : G := hmain hcont

set_option maxRecDepth 100000 in
set_option maxHeartbeats 20000000 in
theorem l02Machine_any (g : Gm) (hok : g.Ok) (v : Value) (u : List Int) (hu : g.Nums u) (hlen : u.length ≤ 1048576) (w : World) (hr : RdI w v u) :
    Calls Try.prog 33 #[.agg g.mc.cells, v] w fun e w' => e = .returned (.tuple #[.agg (g.moM u).1.cells, .int .i64 (g.moM u).2]) ∧ Below w.heap.size w w' := by
  have HO := hidd hok
  have Hr := hidd hr
  have HU := hidd hu
  have l3 := hok.l3
  obtain ⟨A0, c0, rfl, hq0⟩ := hr
  clear hok hu hq0
  go_enter Try.func33, Try.ntmps33
  go_wp2_with (refine ldC rfl (.tmp 2) rfl _ g.mc (hp_old (hp_new rfl)) (by rfl) ?_)
  refine (l02Rows_any g HO.out _ u HU.out hlen _ ((Hr.out.alloc _).alloc _)).mono ?_
  rintro e w1 ⟨⟨va, vb, rfl, ha, hb'⟩, hb⟩
  have B1 := hidd (bel_then ((bel_alloc' w (.cells g.mc.cells 31)).alloc (by simp) (.cells Try.zeroCells31 31)) hb)
  have Z1 := hidd (show w1.heap[w.heap.size + 1]? = some (.cells Mc.zero.cells 31 (0, 0)) by rw [← zeroC_M]; exact hp_bel (hp_new (by simp)) hb)
  have K1 := hidd (show w1.heap[w.heap.size]? = some (.cells g.mc.cells 31 (0, 0)) from hp_bel (hp_old (hp_new rfl)) hb)
  have HA := hidd ha
  have HB := hidd hb'
  clear ha hb' hb
  by_cases hc : (g.secs (fun _ => true) u).2.2 = 0
  · have HS := hidd (Gm.secs_ok HO.out HU.out hc)
    have HL := hidd (Gm.moM_ok hc)
    have hd : decide ((g.secs (fun _ => true) u).2.2 = 0) = true := decide_eq_true hc
    rw [hd]
    obtain ⟨W, hW⟩ : ∃ W, W = (g.secs (fun _ => true) u).1 := ⟨_, rfl⟩
    obtain ⟨R, hR⟩ : ∃ R, R = (g.secs (fun _ => true) u).2.1 := ⟨_, rfl⟩
    rw [← hW, ← hR] at HS HL
    rw [← hW] at HA
    rw [← hR] at HB
    have a1 := (Gm.At.of_is (Gm.is_cells HO.out) K1.out).l
    clear hc hd hW hR
    go_wp2_with fail
    refine (l02Split_any g HO.out HS.out va vb _ w1 HA.out HB.out).mono ?_
    rintro e wC ⟨⟨vc, rfl, hcl⟩, hb⟩
    have hp := HS.out.pos
    have h200 := HS.out.le
    have hRl := HS.out.grf.1
    have HTb := hidd (Gm.sT_tb HO.out HS.out)
    have hAC := HA.out.below hb
    have hBC := HB.out.below hb
    obtain ⟨bo, co, hvo, _, hbo⟩ := hAC.form (by rw [List.length_map]; exact hp)
    obtain ⟨bn, cn, hvn, _, hbn⟩ := hBC.form (by rw [List.length_map, hRl]; exact hp)
    obtain ⟨bc, cc, hvc, _, hbc⟩ := hcl.form (by rw [ints_length, ivL_len]; exact hp)
    rw [List.length_map] at hvo
    rw [List.length_map, hRl] at hvn
    rw [ints_length, ivL_len, show (g.sT W R).s = W.length from rfl] at hvc
    subst hvo hvn hvc
    have HXO := hidd (fun W' (hb : Below wC.heap.size wC W') q x (hq : q < W.length) (hx : x < g.l) => show W'.cell? ⟨bo, q * 3 + x, none⟩ = some (.int .u8 ((g.sT W R).ou q x : Nat)) by
      have h := (hAC.below hb).cell (j := q) (i := x) (cs := oR g (W.getD q [])) (x := .int .u8 (oF g (W.getD q []) g.l x)) (by rw [List.getElem?_map, List.getElem?_eq_getElem hq, List.getD_eq_getElem?_getD, List.getElem?_eq_getElem hq]; rfl) (a3_getL _ _ (by omega))
      rw [h]
      show some (Value.int .u8 (if x < g.l then _ else _)) = _
      rw [if_pos hx]
      rfl)
    have HXN := hidd (fun W' (hb : Below wC.heap.size wC W') q x (hq : q < W.length) (hx : x < g.l) => show W'.cell? ⟨bn, q * 3 + x, none⟩ = some (.int .i64 ((g.sT W R).nx q x : Nat)) by
      have hqR : q < R.length := by rw [hRl]; exact hq
      obtain ⟨z, hz, _⟩ := (HS.out.grf.2 q hq).2 x hx
      have h := (hBC.below hb).cell (j := q) (i := x) (cs := nR (R.getD q [])) (x := .int .i64 ((R.getD q []).getD x 0)) (by rw [List.getElem?_map, List.getElem?_eq_getElem hqR, List.getD_eq_getElem?_getD, List.getElem?_eq_getElem hqR]; rfl) (a3_getL _ _ (by omega))
      rw [h]
      show some (Value.int .i64 _) = some (Value.int .i64 (((R.getD q []).getD x 0).toNat : Nat))
      rw [hz, Int.toNat_natCast])
    have HXC := hidd (fun W' (hb : Below wC.heap.size wC W') q (hq : q < W.length) => show W'.cell? ⟨bc, q, none⟩ = some (.int .i64 ((g.sT W R).lst q : Nat)) from (hcl.below hb).cell (ivL_get? _ hq))
    obtain ⟨K, hK⟩ : ∃ K, K = g.sT W R := ⟨_, rfl⟩
    have HKs := hidd (show K.s = W.length by rw [hK]; rfl)
    have HKl := hidd (show K.l = g.l by rw [hK]; rfl)
    simp only [← hK] at HXO HXN HXC HTb HL
    obtain ⟨n, hnn⟩ : ∃ n, n = W.length := ⟨_, rfl⟩
    simp only [← hnn] at HXO HXN HXC HKs hp h200 ⊢
    have BC := hidd (bel_then B1.out hb)
    have ZC := hidd (hp_bel Z1.out hb)
    have KC := hidd (hp_bel K1.out hb)
    clear hb hAC hBC hcl HA HB HS hRl hK hnn a1
    go_wp2_with fail
    obtain ⟨i0, hi, hz0, hz1, hz2⟩ := info_parts info_i64
    have hmk := hidd (fun W => show (Instr.makeSlice 26 (.int .i64 (n : Nat)) (.int .i64 (n : Nat))).run Try.prog W = .ok (.slice (some ⟨W.heap.size, 0, none⟩) n n) (W.alloc (.cells (madeCells #[.int .i64 0] n) 2)) by
      have := run_make W 26 2 i0 (.int .i64 0) Try.underlying26 hi hz0 .i64 .i64 n n (by omega) (by omega) (by rw [hz2]; omega) (by omega)
      rw [hz1, Nat.mul_one, Int.toNat_natCast] at this
      exact this)
    clear hi hz0 hz1 hz2
    refine wp_region_held (S := fun _ => True) (by kernel_rfl) ?_
    change wpAnyH _ _ _ _ _ _ _ _ (World.drew _)
    refine wpAnyH_take (i := 1) (v := ?v1) rfl (by kernel_rfl) (by kernel_rfl) (by kernel_rfl) (fun _ _ _ h => h) (Or.inl ⟨by rfl, ?h1⟩) trivial ?_
    case h1 => (intro w4 hS; clear hS; go_simp; first | done | with_reducible rfl)
    simp only [Act.put, List.getElem_toArray, List.getElem_cons_succ, List.getElem_cons_zero, List.setIfInBounds_toArray, List.set_cons_zero, List.set_cons_succ]
    refine wpAnyH_take (i := 2) (v := ?v2) rfl (by kernel_rfl) (by kernel_rfl) (by kernel_rfl) (fun _ _ _ h => h) (Or.inl ⟨by rfl, ?h2⟩) trivial ?_
    case h2 => (intro w4 hS; clear hS; go_simp; first | done | with_reducible rfl)
    simp only [Act.put, List.getElem_toArray, List.getElem_cons_succ, List.getElem_cons_zero, List.setIfInBounds_toArray, List.set_cons_zero, List.set_cons_succ]
    refine cut_cont (fun W ob nb => Below wC.heap.size wC W ∧ wC.heap.size ≤ ob ∧ wC.heap.size ≤ nb ∧ ob ≠ nb ∧ W.heap[ob]? = some (.cells #[.int .i64 0] 2 (0, 0)) ∧ W.heap[nb]? = some (.cells (madeCells #[.int .i64 0] n) 2 (0, 0))) (fun cont => by
      obtain ⟨wd, hwd⟩ : ∃ wd, wd = wC.drew := ⟨_, rfl⟩
      have bd : Below wC.heap.size wC wd := by rw [hwd]; exact drew_bel wC
      rw [← hwd]
      clear hwd
      have zd := bd.size
      refine wpAnyH_ready (rs := [0, 3]) (by kernel_rfl) (by simp) (AllReadyH.cons rfl (fun K hK => ?_) (AllReadyH.cons rfl (fun K hK => ?_) AllReadyH.nil))
      · go_simp
        obtain ⟨ob, hob⟩ : ∃ ob, ob = wd.heap.size := ⟨_, rfl⟩
        obtain ⟨W1, hW1⟩ : ∃ W1, W1 = wd.alloc (.cells #[.int .i64 0] 2) := ⟨_, rfl⟩
        have h1 : W1.heap[ob]? = some (.cells #[.int .i64 0] 2 (0, 0)) := by rw [hW1]; exact hp_new hob
        have b1 : Below wC.heap.size wC W1 := by rw [hW1]; exact bel_then bd (bel_alloc' _ _)
        have z1 : wd.heap.size < W1.heap.size := by rw [hW1]; simp
        rw [← hob, ← hW1]
        have lo : wC.heap.size ≤ ob := by omega
        have lt1 := hp_lt h1
        refine hK.out _ _ trivial (fun _ => ?_)
        clear hK K hW1 hob
        try simp only [Act.put, List.getElem_toArray, List.getElem_cons_succ, List.getElem_cons_zero, List.setIfInBounds_toArray, List.set_cons_zero, List.set_cons_succ]
        refine wpAnyH_take (i := 4) (v := ?v4) rfl (by kernel_rfl) (by kernel_rfl) (by kernel_rfl) (fun _ _ _ h => h) (Or.inl ⟨by rfl, ?h4⟩) trivial ?_
        case h4 => (intro w4 hS; clear hS; go_simp; first | done | with_reducible rfl)
        simp only [Act.put, List.getElem_toArray, List.getElem_cons_succ, List.getElem_cons_zero, List.setIfInBounds_toArray, List.set_cons_zero, List.set_cons_succ]
        refine wpAnyH_ready (rs := [3]) (by kernel_rfl) (by simp) (AllReadyH.cons rfl (fun K hK => ?_) AllReadyH.nil)
        have hm := hmk.out W1
        go_simp
        obtain ⟨nb, hnb⟩ : ∃ nb, nb = W1.heap.size := ⟨_, rfl⟩
        obtain ⟨W2, hW2⟩ : ∃ W2, W2 = W1.alloc (.cells (madeCells #[.int .i64 0] n) 2) := ⟨_, rfl⟩
        have h2 : W2.heap[nb]? = some (.cells (madeCells #[.int .i64 0] n) 2 (0, 0)) := by rw [hW2]; exact hp_new hnb
        have h3 : W2.heap[ob]? = some (.cells #[.int .i64 0] 2 (0, 0)) := by rw [hW2]; exact hp_old h1
        have b2 : Below wC.heap.size wC W2 := by rw [hW2]; exact bel_then b1 (bel_alloc' _ _)
        have b3 := b1.size
        rw [← hnb, ← hW2]
        have ln : wC.heap.size ≤ nb := by omega
        have lne : ob ≠ nb := by omega
        refine hK.out _ _ trivial (fun _ => ?_)
        clear hK K hW2 hm hnb
        try simp only [Act.put, List.getElem_toArray, List.getElem_cons_succ, List.getElem_cons_zero, List.setIfInBounds_toArray, List.set_cons_zero, List.set_cons_succ]
        refine wpAnyH_take (i := 5) (v := ?v5) rfl (by kernel_rfl) (by kernel_rfl) (by kernel_rfl) (fun _ _ _ h => h) (Or.inl ⟨by rfl, ?h5⟩) trivial ?_
        case h5 => (intro w4 hS; clear hS; go_simp; first | done | with_reducible rfl)
        simp only [Act.put, List.getElem_toArray, List.getElem_cons_succ, List.getElem_cons_zero, List.setIfInBounds_toArray, List.set_cons_zero, List.set_cons_succ]
        refine wpAnyH_done (by kernel_rfl) ?_ _
        exact cont W2 ob nb ⟨b2, lo, ln, lne, h3, h2⟩
      · have hm := hmk.out wd
        go_simp
        obtain ⟨nb, hnb⟩ : ∃ nb, nb = wd.heap.size := ⟨_, rfl⟩
        obtain ⟨W1, hW1⟩ : ∃ W1, W1 = wd.alloc (.cells (madeCells #[.int .i64 0] n) 2) := ⟨_, rfl⟩
        have h1 : W1.heap[nb]? = some (.cells (madeCells #[.int .i64 0] n) 2 (0, 0)) := by rw [hW1]; exact hp_new hnb
        have b1 : Below wC.heap.size wC W1 := by rw [hW1]; exact bel_then bd (bel_alloc' _ _)
        have z1 : wd.heap.size < W1.heap.size := by rw [hW1]; simp
        rw [← hnb, ← hW1]
        have ln : wC.heap.size ≤ nb := by omega
        have lt1 := hp_lt h1
        refine hK.out _ _ trivial (fun _ => ?_)
        clear hK K hW1 hm hnb
        try simp only [Act.put, List.getElem_toArray, List.getElem_cons_succ, List.getElem_cons_zero, List.setIfInBounds_toArray, List.set_cons_zero, List.set_cons_succ]
        refine wpAnyH_ready (rs := [0]) (by kernel_rfl) (by simp) (AllReadyH.cons rfl (fun K hK => ?_) AllReadyH.nil)
        go_simp
        obtain ⟨ob, hob⟩ : ∃ ob, ob = W1.heap.size := ⟨_, rfl⟩
        obtain ⟨W2, hW2⟩ : ∃ W2, W2 = W1.alloc (.cells #[.int .i64 0] 2) := ⟨_, rfl⟩
        have h2 : W2.heap[ob]? = some (.cells #[.int .i64 0] 2 (0, 0)) := by rw [hW2]; exact hp_new hob
        have h3 : W2.heap[nb]? = some (.cells (madeCells #[.int .i64 0] n) 2 (0, 0)) := by rw [hW2]; exact hp_old h1
        have b2 : Below wC.heap.size wC W2 := by rw [hW2]; exact bel_then b1 (bel_alloc' _ _)
        have b3 := b1.size
        rw [← hob, ← hW2]
        have lo : wC.heap.size ≤ ob := by omega
        have lne : ob ≠ nb := by omega
        refine hK.out _ _ trivial (fun _ => ?_)
        clear hK K hW2 hob
        try simp only [Act.put, List.getElem_toArray, List.getElem_cons_succ, List.getElem_cons_zero, List.setIfInBounds_toArray, List.set_cons_zero, List.set_cons_succ]
        refine wpAnyH_take (i := 4) (v := ?v4b) rfl (by kernel_rfl) (by kernel_rfl) (by kernel_rfl) (fun _ _ _ h => h) (Or.inl ⟨by rfl, ?h4b⟩) trivial ?_
        case h4b => (intro w4 hS; clear hS; go_simp; first | done | with_reducible rfl)
        simp only [Act.put, List.getElem_toArray, List.getElem_cons_succ, List.getElem_cons_zero, List.setIfInBounds_toArray, List.set_cons_zero, List.set_cons_succ]
        refine wpAnyH_take (i := 5) (v := ?v5b) rfl (by kernel_rfl) (by kernel_rfl) (by kernel_rfl) (fun _ _ _ h => h) (Or.inl ⟨by rfl, ?h5b⟩) trivial ?_
        case h5b => (intro w4 hS; clear hS; go_simp; first | done | with_reducible rfl)
        simp only [Act.put, List.getElem_toArray, List.getElem_cons_succ, List.getElem_cons_zero, List.setIfInBounds_toArray, List.set_cons_zero, List.set_cons_succ]
        refine wpAnyH_done (by kernel_rfl) ?_ _
        exact cont W2 ob nb ⟨b2, lo, ln, lne, h2, h3⟩) ?_
    rintro w2 ob nb ⟨hb2, l1, l2, hne, h1, h2⟩
    have O0 := hidd (show Own w2 wC.heap.size 2 (.slice (some ⟨ob, 0, none⟩) 1 1) (ints [0]) from Own.of_full (vs := [.int .i64 0]) h1 rfl l1 (by omega))
    have N0 := hidd (show Own w2 wC.heap.size 2 (.slice (some ⟨nb, 0, none⟩) n n) (ints (mnL n 0)) from Own.of_full (by rw [← mnL_start]; exact h2) (by rw [ints_length, mnL_len]) l2 (by omega))
    have b0 := hidd hb2
    have hwC := BC.out.size
    have hzC := hp_lt ZC.out
    clear h1 h2 hb2 hmk
    go_wp2_with fail
    go_loopw [12] (fun y wr => ∃ i : Nat, y = .int .i64 i ∧ i ≤ n ∧ Hid (Own wr wC.heap.size 2 (.slice (some ⟨nb, 0, none⟩) n n) (ints (mnL n i))) ∧ Hid (Own wr wC.heap.size 2 (.slice (some ⟨ob, 0, none⟩) 1 1) (ints [0])) ∧ Hid (Below wC.heap.size wC wr)) (fun y _ => n - (intOf y).toNat)
    case atStart => exact ⟨0, rfl, Nat.zero_le _, N0, O0, b0⟩
    case round =>
      clear N0 O0 b0
      obtain ⟨i, rfl, hi, HN, HO2, Hb⟩ := hrel
      have hfar := fun (z : Value) (j : Nat) => HO2.out.far (p := ⟨nb, j, none⟩) (by intro h; have := Option.some.inj h; exact hne this) z
      by_cases hin : i < n
      · have j1 : (i : Int) < n := by omega
        have j0 : (0 : Int) ≤ i := by omega
        have d1 := HN.out.cell (mnL_get i hin)
        have d2 := HN.out.frozen i
        have HFr := hidd (hfar (.int .i64 (-1)) i)
        clear hfar
        go_wp2_with fail
        go_roundw
        case rel => exact ⟨i + 1, by go_num, by omega, hidd (by rw [← mnL_set]; exact HN.out.store i _), HFr, hidd (Hb.out.setCell (p := ⟨nb, i, none⟩) l2 _)⟩
        case measure => first | (simp [intOf]; done) | (simp [intOf]; omega)
      · have he : n = i := by omega
        subst he
        have HFr := hidd (hfar (.int .i64 0) 0)
        have d1 := HN.out.cell (mnL_get n hp)
        rw [if_pos hp] at d1
        have d2 := HN.out.frozen 0
        have j1 : (0 : Int) < n := by omega
        have a1 := (Gm.At.of_is (Gm.is_cells HO.out) (hp_bel KC.out Hb.out)).l
        have n1 : ¬ w.heap.size = nb := by omega
        have n2 : ¬ nb = w.heap.size := by omega
        obtain ⟨mb, hmb⟩ : ∃ mb, mb = wr.heap.size := ⟨_, rfl⟩
        have hbz := Hb.out.size
        obtain ⟨w5, hw5⟩ : ∃ w5, w5 = (wr.setCell ⟨nb, 0, none⟩ (.int .i64 0)).alloc (.cells (⟨g.l, 0, fun _ _ => 0, fun _ _ => 0⟩ : Mc).cells 31) := ⟨_, rfl⟩
        have MI0 := hidd (show Mi wC w5 n mb nb (K.bo 0) (.slice (some ⟨ob, 0, none⟩) 1 1) (gaQ K 0 0) by
          have h3 : Own (wr.setCell ⟨nb, 0, none⟩ (.int .i64 0)) wC.heap.size 2 (.slice (some ⟨nb, 0, none⟩) n n) (ints (nbL [0] n)) := by rw [← mnL_zero hp]; exact HN.out.store 0 _
          rw [hw5, K.bo_zero, gaQ_zero, HKl.out]
          exact ⟨bel_then (Hb.out.setCell (p := ⟨nb, 0, none⟩) l2 _) (bel_alloc' _ _), h3.alloc _, HFr.out.alloc _, fun h => hne (Option.some.inj h), hp_new (by rw [hmb]; simp), by omega⟩)
        clear hin hfar HN HFr HO2 Hb
        go_wp2_with (refine stNew rfl (.tmp 13) (.tmp 49) (by rfl) (⟨g.l, 0, fun _ _ => 0, fun _ _ => 0⟩ : Mc) wr.heap.size (by simp) (by rw [zeroC_M]; exact Mc.cells_size _) (by rfl) (by rw [← bldL, ← zeroC_M]; rfl) ?_)
        simp only [← hmb]
        rw [← hw5]
        clear hw5 d1 d2 n1 n2 a1 hne hmb
        go_loopw [10, 14] (fun q y wr => ∃ k : Nat, y = .int .i64 k ∧ (k ≤ 16 ∧ k ≤ (K.bo k).length) ∧ Hid (Mi wC wr n mb nb (K.bo k) q (gaQ K k 0))) (fun _ y _ => 17 - (intOf y).toNat)
        case atStart => exact ⟨0, rfl, ⟨Nat.zero_le _, Nat.zero_le _⟩, MI0⟩
        case round =>
          clear MI0
          obtain ⟨k, rfl, ⟨hk16, hk⟩, MI⟩ := hrel
          obtain ⟨A, c, hve⟩ := MI.out.ord.slice
          rw [ints_length, onl_len] at hve
          subst hve
          have i0 : (0 : Int) ≤ k := by omega
          have Zr := hidd (hp_bel ZC.out MI.out.bel)
          have Br := hidd (bel_then BC.out MI.out.bel)
          by_cases hlt : k < (K.bo k).length
          · have i1 : (k : Int) < (K.bo k).length := by omega
            have hbofl := (Gm.bo_bof HTb.out k).length_le
            by_cases h16 : k = 16
            · have i3 : (k : Int) = 16 := by omega
              have HM := hidd (K.toM_big (by omega))
              clear h16 hlt hk hk16 hbofl
              go_wp2_with (refine stC rfl (.tmp 4) (.tmp 58) rfl _ Mc.zero Zr.out (Mc.cells_size _) (by rfl) (by rw [← zeroM_cells]; rfl) ?_)
              refine bodyPost_ret (v := .tuple #[.agg Mc.zero.cells, .int .i64 3]) (results_cell_tmp rfl _ _ (w.heap.size + 1) 31 _ (0, 0) _ _ rfl rfl (setRow_heap _ _ _ _ _ _ Zr.out) Try.underlying31 rfl (cells98i _)) rfl ⟨by rw [HL.out, HM.out], ?_⟩
              exact bel_row Br.out (by omega) _
            · have hk15 : k < 16 := by omega
              have i2 : ¬ (k : Int) = 16 := by omega
              have hss := Gm.bo_at HTb.out hlt
              rw [HKs.out] at hss
              have HSt := hidd (show K.bo (k + 1) = K.boX ((K.bo k).getD k 0) K.l (K.bo k) by rw [Gm.bo, if_pos hlt])
              obtain ⟨s, hs⟩ : ∃ s, s = (K.bo k).getD k 0 := ⟨_, rfl⟩
              have Hs := hidd hs
              rw [← hs] at hss HSt
              have HXb := hidd (fun x (hx : x ≤ K.l) => Gm.boX_ok HTb.out (show s < K.s by rw [HKs.out]; exact hss) (Gm.bo_ok HTb.out k) x hx)
              have i22 : ((k : Int) == 16) = false := beq_eq_false_iff_ne.2 i2
              clear h16 hs hbofl
              go_wp2_with fail
              try rw [i22]
              clear i22
              go_loopw [10, 15] (fun q y wr => ∃ x : Nat, y = .int .i64 x ∧ x ≤ g.l ∧ Hid (Mi wC wr n mb nb (K.boX s x (K.bo k)) q (gaQ K k x))) (fun _ y _ => g.l - (intOf y).toNat)
              case atStart => exact ⟨0, rfl, Nat.zero_le _, MI⟩
              case round =>
                clear MI Zr Br
                obtain ⟨x, rfl, hx, MI⟩ := hrel
                have a1 := (Gm.At.of_is (Gm.is_cells HO.out) (hp_bel KC.out MI.out.bel)).l
                obtain ⟨A, c, hve⟩ := MI.out.ord.slice
                rw [ints_length, onl_len] at hve
                subst hve
                obtain ⟨hBX, hPX⟩ := HXb.out x (by rw [HKl.out]; exact hx)
                have hkO0 : k < (K.boX s x (K.bo k)).length := Nat.lt_of_lt_of_le hlt hPX.length_le
                have hsO0 : (K.boX s x (K.bo k)).getD k 0 = s := by rw [pre_getD hPX hlt]; exact Hs.out.symm
                obtain ⟨O, hO⟩ : ∃ O, O = K.boX s x (K.bo k) := ⟨_, rfl⟩
                by_cases hxg : x < g.l
                · have j1 : (x : Int) < g.l := by omega
                  have hxK : x < K.l := by rw [HKl.out]; exact hxg
                  have HStp := hidd (show K.boX s (x + 1) (K.bo k) = if K.lst (K.nx s x) ∈ K.boX s x (K.bo k) then K.boX s x (K.bo k) else K.boX s x (K.bo k) ++ [K.lst (K.nx s x)] by rw [Gm.boX])
                  have HPb := hidd (show K.boX s (x + 1) (K.bo k) <+: K.bof from by
                    have h1 := K.boX_pre s (K.bo k) (show x + 1 ≤ K.l by omega)
                    rw [← HSt.out] at h1
                    exact h1.trans (Gm.bo_bof HTb.out (k + 1)))
                  have HBo1 := hidd ((HXb.out (x + 1) (by omega)).1)
                  have hkO : k < (K.boX s (x + 1) (K.bo k)).length := Nat.lt_of_lt_of_le hlt (HXb.out (x + 1) (by omega)).2.length_le
                  have hsO : (K.boX s (x + 1) (K.bo k)).getD k 0 = s := by rw [pre_getD (HXb.out (x + 1) (by omega)).2 hlt]; exact Hs.out.symm
                  have hmem : K.lst (K.nx s x) ∈ K.boX s (x + 1) (K.bo k) := K.boX_mem s (K.bo k) (Nat.lt_succ_self x)
                  have hnr := HTb.out.nlt s x (show s < K.s by rw [HKs.out]; exact hss) hxK
                  have hll := K.lst_le' (K.nx s x)
                  rw [HKs.out] at hnr
                  have y1 := HXN.out wr MI.out.bel s x hss hxg
                  have y2 := HXC.out wr MI.out.bel (K.nx s x) hnr
                  obtain ⟨to, hto⟩ : ∃ to, to = K.lst (K.nx s x) := ⟨_, rfl⟩
                  rw [← hto] at y2 hll HStp hmem
                  have Hto := hidd hto
                  obtain ⟨r, hr⟩ : ∃ r, r = K.nx s x := ⟨_, rfl⟩
                  rw [← hr] at y1 y2 hnr hll
                  have htn : to < n := by omega
                  rw [← hO] at MI HStp hkO0 hsO0 hBX
                  obtain ⟨O', hO'⟩ : ∃ O', O' = K.boX s (x + 1) (K.bo k) := ⟨_, rfl⟩
                  have HO' := hidd hO'
                  obtain ⟨ga, cg, ege, _, _⟩ := MI.out.ord.form (by rw [ints_length, onl_len]; omega)
                  rw [ints_length, onl_len] at ege
                  simp only [Value.slice.injEq] at ege
                  obtain ⟨rfl, _, rfl⟩ := ege
                  have y3 : wr.cell? ⟨ga, k, none⟩ = some (.int .i64 (s : Nat)) := MI.out.ord.cell (by
                    rw [ints_get, List.getElem?_eq_getElem (by rw [onl_len]; exact hkO0), onl_get hkO0, hsO0]; rfl)
                  have hsn := hss
                  simp only [← hO]
                  have z1 : (k : Int) < O.length := by omega
                  have z2 : (s : Int) < n := by omega
                  have z3 : (0 : Int) ≤ s := by omega
                  have z4 : (x : Int) < 3 := by omega
                  have z5 : (0 : Int) ≤ x := by omega
                  have z6 : (r : Int) < n := by omega
                  have z7 : (0 : Int) ≤ r := by omega
                  have z8 : (to : Int) < n := by omega
                  have z9 : (0 : Int) ≤ to := by omega
                  have HpO := hidd hO
                  have HkO := hidd hkO
                  have HsO := hidd hsO
                  have Hmem := hidd hmem
                  clear hO hO' hkO hsO hmem hto hr
                  have y4 := MI.out.num.cell (nbL_get O htn)
                  by_cases hm : to ∈ O
                  · rw [if_pos hm] at HStp
                    rw [nbO_pos hm] at y4
                    obtain ⟨ix, hix⟩ : ∃ ix, ix = ixO O to := ⟨_, rfl⟩
                    rw [← hix] at y4
                    have z10 : ¬ (ix : Int) < 0 := by omega
                    clear hix hm
                    go_wp2_with fail
                    have heO : O' = O := by rw [HO'.out, HStp.out]
                    subst heO
                    clear y1 y2 y3 y4 a1 z1 z2 z3 z4 z5 z6 z7 z8 z9 z10
                    have hkO := HkO.out
                    have hsO := HsO.out
                    have hmem := Hmem.out
                    have hto := Hto.out
                    obtain ⟨W7, rfl⟩ : ∃ W7, W7 = wr := ⟨_, rfl⟩
                    have HMem := hidd (show to ∈ O' from by rw [HO'.out]; exact hmem)
                    have HPre := hidd (show O' <+: K.bof from by rw [HO'.out]; exact HPb.out)
                    have hBo := hidd (show K.Bo O' from by rw [HO'.out]; exact HBo1.out)
                    have HOk := hidd (show (ints (onl O'))[k]? = some (.int .i64 (s : Nat)) by
                      have hk2 : k < O'.length := by rw [HO'.out]; exact hkO
                      rw [ints_get, List.getElem?_eq_getElem (by rw [onl_len]; exact hk2), onl_get hk2]
                      have e : O'.getD k 0 = s := by rw [HO'.out]; exact hsO
                      rw [e]; rfl)
                    obtain ⟨nu, hnu⟩ : ∃ nu, nu = ixO O' to := ⟨_, rfl⟩
                    have hnl : nu < O'.length := by rw [hnu]; exact ((ixO_spec O' to).1 HMem.out).1
                    have hOl := hBo.out.le
                    have HNu := hidd (show (ints (nbL O' n))[to]? = some (.int .i64 (nu : Nat)) by rw [nbL_get _ htn, nbO_pos HMem.out, hnu])
                    have HGs := hidd (show ((gaQ K k x).setO k x (K.ou s x)).setN k x nu = gaQ K k (x + 1) by
                      have h := gaQ_step K (k := k) (x := x) (by rw [HKl.out]; exact hxg)
                      have e1 : K.bof.getD k 0 = s := by rw [pre_getD HPre.out (by rw [HO'.out]; exact hkO), HO'.out]; exact hsO
                      have e2 : K.nuO (K.nx s x) = nu := by
                        rw [hnu]
                        show ixO K.bof (K.lst (K.nx s x)) = ixO O' to
                        rw [show K.lst (K.nx s x) = to from hto.symm]
                        exact ixO_pre HPre.out HMem.out
                      rw [e1, e2] at h
                      exact h)
                    rw [HKs.out] at hOl
                    have r8 : IntKind.u8.wrap (nu : Int) = (nu : Int) := IntWalk.u8_in _ (by omega)
                    have q1 : (k : Int) < 16 := by omega
                    have q2 : (x : Int) < 3 := by omega
                    have q3 : (0 : Int) ≤ x := by omega
                    have q4 : (s : Int) < n := by omega
                    have q5 : (0 : Int) ≤ s := by omega
                    have q6 : (k : Int) < O'.length := by have := HO'.out; rw [this]; omega
                    have q7 : (to : Int) < n := by omega
                    have q8 : (0 : Int) ≤ to := by omega
                    clear hmem hto hnu
                    clear hkO hsO
                    obtain ⟨Wd, hWd⟩ : ∃ Wd, Wd = W7.drew := ⟨_, rfl⟩
                    have MId : Hid (Mi wC Wd n mb nb O' (.slice (some ⟨ga, 0, none⟩) O'.length c) (gaQ K k x)) := hidd (by rw [hWd]; exact MI.out.drewN 1)
                    have S4 := hidd (show Below wC.heap.size wC Wd ∧ Wd.cell? ⟨ga, k, none⟩ = some (.int .i64 (s : Nat)) from ⟨MId.out.bel, MId.out.ord.cell HOk.out⟩)
                    refine wp_region_held (S := fun W => Below wC.heap.size wC W ∧ W.cell? ⟨ga, k, none⟩ = some (.int .i64 (s : Nat))) (by kernel_rfl) ?_
                    change wpAnyH _ _ _ _ _ _ _ _ (World.drew _)
                    rw [← hWd]
                    clear hWd
                    refine wpAnyH_take (i := 0) (v := ?v0ap) rfl (by kernel_rfl) (by kernel_rfl) (by kernel_rfl) (fun _ _ _ h => h) (Or.inl ⟨by rfl, ?h0ap⟩) S4.out ?_
                    case h0ap => (intro w4 hS; have y1 := HXO.out w4 hS.1 s x hsn hxg; have y2 := hS.2; clear hS; go_simp; first | done | with_reducible rfl)
                    simp only [Act.put, List.getElem_toArray, List.getElem_cons_succ, List.getElem_cons_zero, List.setIfInBounds_toArray, List.set_cons_zero, List.set_cons_succ]
                    refine wpAnyH_take (i := 1) (v := ?v1ap) rfl (by kernel_rfl) (by kernel_rfl) (by kernel_rfl) (fun _ _ _ h => h) (Or.inl ⟨by rfl, ?h1ap⟩) S4.out ?_
                    case h1ap => (intro w4 hS; have y1 := HXO.out w4 hS.1 s x hsn hxg; have y2 := hS.2; clear hS; go_simp; first | done | with_reducible rfl)
                    simp only [Act.put, List.getElem_toArray, List.getElem_cons_succ, List.getElem_cons_zero, List.setIfInBounds_toArray, List.set_cons_zero, List.set_cons_succ]
                    refine wpAnyH_take (i := 2) (v := ?v2ap) rfl (by kernel_rfl) (by kernel_rfl) (by kernel_rfl) (fun _ _ _ h => h) (Or.inl ⟨by rfl, ?h2ap⟩) S4.out ?_
                    case h2ap => (intro w4 hS; have y1 := HXO.out w4 hS.1 s x hsn hxg; have y2 := hS.2; clear hS; go_simp; first | done | with_reducible rfl)
                    simp only [Act.put, List.getElem_toArray, List.getElem_cons_succ, List.getElem_cons_zero, List.setIfInBounds_toArray, List.set_cons_zero, List.set_cons_succ]
                    refine wpAnyH_take (i := 3) (v := ?v3ap) rfl (by kernel_rfl) (by kernel_rfl) (by kernel_rfl) (fun _ _ _ h => h) (Or.inl ⟨by rfl, ?h3ap⟩) S4.out ?_
                    case h3ap => (intro w4 hS; have y1 := HXO.out w4 hS.1 s x hsn hxg; have y2 := hS.2; clear hS; go_simp; first | done | with_reducible rfl)
                    simp only [Act.put, List.getElem_toArray, List.getElem_cons_succ, List.getElem_cons_zero, List.setIfInBounds_toArray, List.set_cons_zero, List.set_cons_succ]
                    refine wpAnyH_take (i := 4) (v := ?v4ap) rfl (by kernel_rfl) (by kernel_rfl) (by kernel_rfl) (fun _ _ _ h => h) (Or.inl ⟨by rfl, ?h4ap⟩) S4.out ?_
                    case h4ap => (intro w4 hS; have y1 := HXO.out w4 hS.1 s x hsn hxg; have y2 := hS.2; clear hS; go_simp; first | done | with_reducible rfl)
                    simp only [Act.put, List.getElem_toArray, List.getElem_cons_succ, List.getElem_cons_zero, List.setIfInBounds_toArray, List.set_cons_zero, List.set_cons_succ]
                    refine wpAnyH_take (i := 5) (v := ?v5ap) rfl (by kernel_rfl) (by kernel_rfl) (by kernel_rfl) (fun _ _ _ h => h) (Or.inl ⟨by rfl, ?h5ap⟩) S4.out ?_
                    case h5ap => (intro w4 hS; have y1 := HXO.out w4 hS.1 s x hsn hxg; have y2 := hS.2; clear hS; go_simp; first | done | with_reducible rfl)
                    simp only [Act.put, List.getElem_toArray, List.getElem_cons_succ, List.getElem_cons_zero, List.setIfInBounds_toArray, List.set_cons_zero, List.set_cons_succ]
                    refine wpAnyH_take (i := 6) (v := ?v6ap) rfl (by kernel_rfl) (by kernel_rfl) (by kernel_rfl) (fun _ _ _ h => h) (Or.inl ⟨by rfl, ?h6ap⟩) S4.out ?_
                    case h6ap => (intro w4 hS; have y1 := HXO.out w4 hS.1 s x hsn hxg; have y2 := hS.2; clear hS; go_simp; first | done | with_reducible rfl)
                    simp only [Act.put, List.getElem_toArray, List.getElem_cons_succ, List.getElem_cons_zero, List.setIfInBounds_toArray, List.set_cons_zero, List.set_cons_succ]
                    refine wpAnyH_take (i := 7) (v := ?v7ap) rfl (by kernel_rfl) (by kernel_rfl) (by kernel_rfl) (fun _ _ _ h => h) (Or.inl ⟨by rfl, ?h7ap⟩) S4.out ?_
                    case h7ap => (intro w4 hS; have y1 := HXO.out w4 hS.1 s x hsn hxg; have y2 := hS.2; clear hS; go_simp; first | done | with_reducible rfl)
                    simp only [Act.put, List.getElem_toArray, List.getElem_cons_succ, List.getElem_cons_zero, List.setIfInBounds_toArray, List.set_cons_zero, List.set_cons_succ]
                    refine wpAnyH_take (i := 8) (v := ?v8ap) rfl (by kernel_rfl) (by kernel_rfl) (by kernel_rfl) (fun _ _ _ h => h) (Or.inl ⟨by rfl, ?h8ap⟩) S4.out ?_
                    case h8ap => (intro w4 hS; have y1 := HXO.out w4 hS.1 s x hsn hxg; have y2 := hS.2; clear hS; go_simp; first | done | with_reducible rfl)
                    simp only [Act.put, List.getElem_toArray, List.getElem_cons_succ, List.getElem_cons_zero, List.setIfInBounds_toArray, List.set_cons_zero, List.set_cons_succ]
                    refine wpAnyH_take (i := 9) (v := ?v9ap) rfl (by kernel_rfl) (by kernel_rfl) (by kernel_rfl) (fun _ _ _ h => h) (Or.inl ⟨by rfl, ?h9ap⟩) S4.out ?_
                    case h9ap => (intro w4 hS; have y1 := HXO.out w4 hS.1 s x hsn hxg; have y2 := hS.2; clear hS; go_simp; first | done | with_reducible rfl)
                    simp only [Act.put, List.getElem_toArray, List.getElem_cons_succ, List.getElem_cons_zero, List.setIfInBounds_toArray, List.set_cons_zero, List.set_cons_succ]
                    refine wpAnyH_take (i := 10) (v := ?v10ap) rfl (by kernel_rfl) (by kernel_rfl) (by kernel_rfl) (fun _ _ _ h => h) (Or.inl ⟨by rfl, ?h10ap⟩) S4.out ?_
                    case h10ap => (intro w4 hS; have y1 := HXO.out w4 hS.1 s x hsn hxg; have y2 := hS.2; clear hS; go_simp; first | done | with_reducible rfl)
                    simp only [Act.put, List.getElem_toArray, List.getElem_cons_succ, List.getElem_cons_zero, List.setIfInBounds_toArray, List.set_cons_zero, List.set_cons_succ]
                    refine wpAnyH_take (i := 11) (v := ?v11ap) rfl (by kernel_rfl) (by kernel_rfl) (by kernel_rfl) (fun _ _ _ h => h) (Or.inl ⟨by rfl, ?h11ap⟩) S4.out ?_
                    case h11ap => (intro w4 hS; have y1 := HXO.out w4 hS.1 s x hsn hxg; have y2 := hS.2; clear hS; go_simp; first | done | with_reducible rfl)
                    simp only [Act.put, List.getElem_toArray, List.getElem_cons_succ, List.getElem_cons_zero, List.setIfInBounds_toArray, List.set_cons_zero, List.set_cons_succ]
                    refine wpAnyH_take (i := 12) (v := ?v12ap) rfl (by kernel_rfl) (by kernel_rfl) (by kernel_rfl) (fun _ _ _ h => h) (Or.inl ⟨by rfl, ?h12ap⟩) S4.out ?_
                    case h12ap => (intro w4 hS; have y1 := HXO.out w4 hS.1 s x hsn hxg; have y2 := hS.2; clear hS; go_simp; first | done | with_reducible rfl)
                    simp only [Act.put, List.getElem_toArray, List.getElem_cons_succ, List.getElem_cons_zero, List.setIfInBounds_toArray, List.set_cons_zero, List.set_cons_succ]
                    refine wpAnyH_take (i := 13) (v := ?v13ap) rfl (by kernel_rfl) (by kernel_rfl) (by kernel_rfl) (fun _ _ _ h => h) (Or.inl ⟨by rfl, ?h13ap⟩) S4.out ?_
                    case h13ap => (intro w4 hS; have y1 := HXO.out w4 hS.1 s x hsn hxg; have y2 := hS.2; clear hS; go_simp; first | done | with_reducible rfl)
                    simp only [Act.put, List.getElem_toArray, List.getElem_cons_succ, List.getElem_cons_zero, List.setIfInBounds_toArray, List.set_cons_zero, List.set_cons_succ]
                    have d1 := (blkc MId.out.hm (50 + k * 3 + x)).trans ((Mc.cells_get _ _).trans (if_pos (by omega)))
                    obtain ⟨x1, hx1⟩ : ∃ v, v = (gaQ K k x).cellAt (50 + k * 3 + x) := ⟨_, rfl⟩
                    rw [← hx1] at d1
                    have f1 := blkf MId.out.hm (50 + k * 3 + x)
                    have MJ := hidd (MId.out.setM (50 + k * 3 + x) (.int .u8 (K.ou s x : Nat)) (Mc.cells_setO _ k x (K.ou s x) (by omega) (by omega)))
                    clear hx1
                    refine wpAnyH_ready (rs := [14]) (by kernel_rfl) (by simp) (AllReadyH.cons rfl (fun K' hK => ?_) AllReadyH.nil)
                    go_simp
                    obtain ⟨W8, hW8⟩ : ∃ W8, W8 = Wd.setCell ⟨mb, 50 + k * 3 + x, none⟩ (.int .u8 (K.ou s x : Nat)) := ⟨_, rfl⟩
                    have MJ2 : Hid (Mi wC W8 n mb nb O' (.slice (some ⟨ga, 0, none⟩) O'.length c) ((gaQ K k x).setO k x (K.ou s x))) := hidd (by rw [hW8]; exact MJ.out)
                    rw [← hW8]
                    refine hK.out _ _ ⟨MJ2.out.bel, MJ2.out.ord.cell HOk.out⟩ (fun _ => ?_)
                    clear hK K' d1 f1 MJ hW8 MI MId S4
                    refine wpAnyH_done (by kernel_rfl) ?_ _
                    go_wp2_with fail
                    obtain ⟨We, hWe⟩ : ∃ We, We = W8.drew := ⟨_, rfl⟩
                    have MJd : Hid (Mi wC We n mb nb O' (.slice (some ⟨ga, 0, none⟩) O'.length c) ((gaQ K k x).setO k x (K.ou s x))) := hidd (by rw [hWe]; exact MJ2.out.drewN 1)
                    have S5 := hidd (show We.cell? ⟨nb, to, none⟩ = some (.int .i64 (nu : Nat)) from MJd.out.num.cell HNu.out)
                    refine wp_region_held (S := fun W => W.cell? ⟨nb, to, none⟩ = some (.int .i64 (nu : Nat))) (by kernel_rfl) ?_
                    change wpAnyH _ _ _ _ _ _ _ _ (World.drew _)
                    rw [← hWe]
                    clear hWe
                    refine wpAnyH_take (i := 0) (v := ?v0bp) rfl (by kernel_rfl) (by kernel_rfl) (by kernel_rfl) (fun _ _ _ h => h) (Or.inl ⟨by rfl, ?h0bp⟩) S5.out ?_
                    case h0bp => (intro w4 hS; have y2 := hS; clear hS; go_simp; first | done | with_reducible rfl)
                    simp only [Act.put, List.getElem_toArray, List.getElem_cons_succ, List.getElem_cons_zero, List.setIfInBounds_toArray, List.set_cons_zero, List.set_cons_succ]
                    refine wpAnyH_take (i := 1) (v := ?v1bp) rfl (by kernel_rfl) (by kernel_rfl) (by kernel_rfl) (fun _ _ _ h => h) (Or.inl ⟨by rfl, ?h1bp⟩) S5.out ?_
                    case h1bp => (intro w4 hS; have y2 := hS; clear hS; go_simp; first | done | with_reducible rfl)
                    simp only [Act.put, List.getElem_toArray, List.getElem_cons_succ, List.getElem_cons_zero, List.setIfInBounds_toArray, List.set_cons_zero, List.set_cons_succ]
                    refine wpAnyH_take (i := 2) (v := ?v2bp) rfl (by kernel_rfl) (by kernel_rfl) (by kernel_rfl) (fun _ _ _ h => h) (Or.inl ⟨by rfl, ?h2bp⟩) S5.out ?_
                    case h2bp => (intro w4 hS; have y2 := hS; clear hS; go_simp; first | done | with_reducible rfl)
                    simp only [Act.put, List.getElem_toArray, List.getElem_cons_succ, List.getElem_cons_zero, List.setIfInBounds_toArray, List.set_cons_zero, List.set_cons_succ]
                    refine wpAnyH_take (i := 3) (v := ?v3bp) rfl (by kernel_rfl) (by kernel_rfl) (by kernel_rfl) (fun _ _ _ h => h) (Or.inl ⟨by rfl, ?h3bp⟩) S5.out ?_
                    case h3bp => (intro w4 hS; have y2 := hS; clear hS; go_simp; first | done | with_reducible rfl)
                    simp only [Act.put, List.getElem_toArray, List.getElem_cons_succ, List.getElem_cons_zero, List.setIfInBounds_toArray, List.set_cons_zero, List.set_cons_succ]
                    refine wpAnyH_take (i := 4) (v := ?v4bp) rfl (by kernel_rfl) (by kernel_rfl) (by kernel_rfl) (fun _ _ _ h => h) (Or.inl ⟨by rfl, ?h4bp⟩) S5.out ?_
                    case h4bp => (intro w4 hS; have y2 := hS; clear hS; go_simp; first | done | with_reducible rfl)
                    simp only [Act.put, List.getElem_toArray, List.getElem_cons_succ, List.getElem_cons_zero, List.setIfInBounds_toArray, List.set_cons_zero, List.set_cons_succ]
                    refine wpAnyH_take (i := 5) (v := ?v5bp) rfl (by kernel_rfl) (by kernel_rfl) (by kernel_rfl) (fun _ _ _ h => h) (Or.inl ⟨by rfl, ?h5bp⟩) S5.out ?_
                    case h5bp => (intro w4 hS; have y2 := hS; clear hS; go_simp; first | done | with_reducible rfl)
                    simp only [Act.put, List.getElem_toArray, List.getElem_cons_succ, List.getElem_cons_zero, List.setIfInBounds_toArray, List.set_cons_zero, List.set_cons_succ]
                    refine wpAnyH_take (i := 6) (v := ?v6bp) rfl (by kernel_rfl) (by kernel_rfl) (by kernel_rfl) (fun _ _ _ h => h) (Or.inl ⟨by rfl, ?h6bp⟩) S5.out ?_
                    case h6bp => (intro w4 hS; have y2 := hS; clear hS; go_simp; first | done | with_reducible rfl)
                    simp only [Act.put, List.getElem_toArray, List.getElem_cons_succ, List.getElem_cons_zero, List.setIfInBounds_toArray, List.set_cons_zero, List.set_cons_succ]
                    refine wpAnyH_take (i := 7) (v := ?v7bp) rfl (by kernel_rfl) (by kernel_rfl) (by kernel_rfl) (fun _ _ _ h => h) (Or.inl ⟨by rfl, ?h7bp⟩) S5.out ?_
                    case h7bp => (intro w4 hS; have y2 := hS; clear hS; go_simp; first | done | with_reducible rfl)
                    simp only [Act.put, List.getElem_toArray, List.getElem_cons_succ, List.getElem_cons_zero, List.setIfInBounds_toArray, List.set_cons_zero, List.set_cons_succ]
                    refine wpAnyH_take (i := 8) (v := ?v8bp) rfl (by kernel_rfl) (by kernel_rfl) (by kernel_rfl) (fun _ _ _ h => h) (Or.inl ⟨by rfl, ?h8bp⟩) S5.out ?_
                    case h8bp => (intro w4 hS; have y2 := hS; clear hS; go_simp; first | done | with_reducible rfl)
                    simp only [Act.put, List.getElem_toArray, List.getElem_cons_succ, List.getElem_cons_zero, List.setIfInBounds_toArray, List.set_cons_zero, List.set_cons_succ]
                    refine wpAnyH_take (i := 9) (v := ?v9bp) rfl (by kernel_rfl) (by kernel_rfl) (by kernel_rfl) (fun _ _ _ h => h) (Or.inl ⟨by rfl, ?h9bp⟩) S5.out ?_
                    case h9bp => (intro w4 hS; have y2 := hS; clear hS; go_simp; first | done | with_reducible rfl)
                    simp only [Act.put, List.getElem_toArray, List.getElem_cons_succ, List.getElem_cons_zero, List.setIfInBounds_toArray, List.set_cons_zero, List.set_cons_succ]
                    have d1 := (blkc MJd.out.hm (2 + k * 3 + x)).trans ((Mc.cells_get _ _).trans (if_pos (by omega)))
                    obtain ⟨x1, hx1⟩ : ∃ v, v = ((gaQ K k x).setO k x (K.ou s x)).cellAt (2 + k * 3 + x) := ⟨_, rfl⟩
                    rw [← hx1] at d1
                    have f1 := blkf MJd.out.hm (2 + k * 3 + x)
                    have MK := hidd (MJd.out.setM (2 + k * 3 + x) (.int .u8 (nu : Nat)) (Mc.cells_setN _ k x nu (by omega) (by omega)))
                    clear hx1
                    refine wpAnyH_ready (rs := [10]) (by kernel_rfl) (by simp) (AllReadyH.cons rfl (fun K' hK => ?_) AllReadyH.nil)
                    go_simp
                    obtain ⟨W9, hW9⟩ : ∃ W9, W9 = We.setCell ⟨mb, 2 + k * 3 + x, none⟩ (.int .u8 (nu : Nat)) := ⟨_, rfl⟩
                    have MK2 : Hid (Mi wC W9 n mb nb O' (.slice (some ⟨ga, 0, none⟩) O'.length c) (((gaQ K k x).setO k x (K.ou s x)).setN k x nu)) := hidd (by rw [hW9]; exact MK.out)
                    rw [← hW9]
                    refine hK.out _ _ (MK2.out.num.cell HNu.out) (fun _ => ?_)
                    clear hK K' d1 f1 MK hW9 MJ2 MJd S5
                    refine wpAnyH_done (by kernel_rfl) ?_ _
                    go_wp2_with fail
                    go_roundw
                    case rel => exact ⟨x + 1, by go_num, by omega, hidd (by rw [← HO'.out, ← HGs.out]; exact MK2.out)⟩
                    case measure => first | (simp [intOf]; done) | (simp [intOf]; omega)
                  · rw [if_neg hm] at HStp
                    rw [nbO_neg hm] at y4
                    have y5 := MI.out.num.frozen to
                    have MH := hidd (MI.out.mid hm)
                    have hlen2 : (ints (onl O)).length + 1 ≤ 1099511627776 := by rw [ints_length, onl_len]; have := hBX.le; rw [HKs.out] at this; omega
                    have hbase := MH.out.bel.size
                    have HOe := hidd (show O' = O ++ [to] by rw [HO'.out, HStp.out])
                    have Hm := hidd hm
                    clear hm
                    go_wp2_with (at_builtin; refine app_atP rfl _ _ _ rfl wC.heap.size 2 (.int .i64 0) 8 Try.underlying26 info_i64 rfl MH.out.ord rfl rfl (by simp) rfl hlen2 (by decide) hbase ?_; intro v' w9 ho hgr hle hli; obtain ⟨A9, c9, e9⟩ := ho.slice; rw [show (ints (onl O) ++ [Value.int .i64 (to : Nat)]).length = O'.length by rw [HOe.out]; simp [ints_length, onl_len]] at e9; subst e9; have MI9 := hidd (show Mi wC w9 n mb nb O' (.slice A9 O'.length c9) (gaQ K k x) by have h := MH.out.push ho hgr hli hbase; rw [← HOe.out] at h; exact h); clear ho hgr hle hli)
                    have MI := MI9
                    obtain ⟨ga, cg, ege, _, _⟩ := MI.out.ord.form (by rw [ints_length, onl_len, HOe.out]; simp)
                    rw [ints_length, onl_len] at ege
                    simp only [Value.slice.injEq] at ege
                    obtain ⟨rfl, _, rfl⟩ := ege
                    clear y1 y2 y3 y4 y5 a1 z1 z2 z3 z4 z5 z6 z7 z8 z9
                    have hkO := HkO.out
                    have hsO := HsO.out
                    have hmem := Hmem.out
                    have hto := Hto.out
                    obtain ⟨W7, rfl⟩ : ∃ W7, W7 = w9 := ⟨_, rfl⟩
                    have HMem := hidd (show to ∈ O' from by rw [HO'.out]; exact hmem)
                    have HPre := hidd (show O' <+: K.bof from by rw [HO'.out]; exact HPb.out)
                    have hBo := hidd (show K.Bo O' from by rw [HO'.out]; exact HBo1.out)
                    have HOk := hidd (show (ints (onl O'))[k]? = some (.int .i64 (s : Nat)) by
                      have hk2 : k < O'.length := by rw [HO'.out]; exact hkO
                      rw [ints_get, List.getElem?_eq_getElem (by rw [onl_len]; exact hk2), onl_get hk2]
                      have e : O'.getD k 0 = s := by rw [HO'.out]; exact hsO
                      rw [e]; rfl)
                    obtain ⟨nu, hnu⟩ : ∃ nu, nu = ixO O' to := ⟨_, rfl⟩
                    have hnl : nu < O'.length := by rw [hnu]; exact ((ixO_spec O' to).1 HMem.out).1
                    have hOl := hBo.out.le
                    have HNu := hidd (show (ints (nbL O' n))[to]? = some (.int .i64 (nu : Nat)) by rw [nbL_get _ htn, nbO_pos HMem.out, hnu])
                    have HGs := hidd (show ((gaQ K k x).setO k x (K.ou s x)).setN k x nu = gaQ K k (x + 1) by
                      have h := gaQ_step K (k := k) (x := x) (by rw [HKl.out]; exact hxg)
                      have e1 : K.bof.getD k 0 = s := by rw [pre_getD HPre.out (by rw [HO'.out]; exact hkO), HO'.out]; exact hsO
                      have e2 : K.nuO (K.nx s x) = nu := by
                        rw [hnu]
                        show ixO K.bof (K.lst (K.nx s x)) = ixO O' to
                        rw [show K.lst (K.nx s x) = to from hto.symm]
                        exact ixO_pre HPre.out HMem.out
                      rw [e1, e2] at h
                      exact h)
                    rw [HKs.out] at hOl
                    have r8 : IntKind.u8.wrap (nu : Int) = (nu : Int) := IntWalk.u8_in _ (by omega)
                    have q1 : (k : Int) < 16 := by omega
                    have q2 : (x : Int) < 3 := by omega
                    have q3 : (0 : Int) ≤ x := by omega
                    have q4 : (s : Int) < n := by omega
                    have q5 : (0 : Int) ≤ s := by omega
                    have q6 : (k : Int) < O'.length := by have := HO'.out; rw [this]; omega
                    have q7 : (to : Int) < n := by omega
                    have q8 : (0 : Int) ≤ to := by omega
                    clear hmem hto hnu
                    clear hkO hsO
                    obtain ⟨Wd, hWd⟩ : ∃ Wd, Wd = W7.drew := ⟨_, rfl⟩
                    have MId : Hid (Mi wC Wd n mb nb O' (.slice (some ⟨ga, 0, none⟩) O'.length c9) (gaQ K k x)) := hidd (by rw [hWd]; exact MI.out.drewN 1)
                    have S4 := hidd (show Below wC.heap.size wC Wd ∧ Wd.cell? ⟨ga, k, none⟩ = some (.int .i64 (s : Nat)) from ⟨MId.out.bel, MId.out.ord.cell HOk.out⟩)
                    refine wp_region_held (S := fun W => Below wC.heap.size wC W ∧ W.cell? ⟨ga, k, none⟩ = some (.int .i64 (s : Nat))) (by kernel_rfl) ?_
                    change wpAnyH _ _ _ _ _ _ _ _ (World.drew _)
                    rw [← hWd]
                    clear hWd
                    refine wpAnyH_take (i := 0) (v := ?v0aq) rfl (by kernel_rfl) (by kernel_rfl) (by kernel_rfl) (fun _ _ _ h => h) (Or.inl ⟨by rfl, ?h0aq⟩) S4.out ?_
                    case h0aq => (intro w4 hS; have y1 := HXO.out w4 hS.1 s x hsn hxg; have y2 := hS.2; clear hS; go_simp; first | done | with_reducible rfl)
                    simp only [Act.put, List.getElem_toArray, List.getElem_cons_succ, List.getElem_cons_zero, List.setIfInBounds_toArray, List.set_cons_zero, List.set_cons_succ]
                    refine wpAnyH_take (i := 1) (v := ?v1aq) rfl (by kernel_rfl) (by kernel_rfl) (by kernel_rfl) (fun _ _ _ h => h) (Or.inl ⟨by rfl, ?h1aq⟩) S4.out ?_
                    case h1aq => (intro w4 hS; have y1 := HXO.out w4 hS.1 s x hsn hxg; have y2 := hS.2; clear hS; go_simp; first | done | with_reducible rfl)
                    simp only [Act.put, List.getElem_toArray, List.getElem_cons_succ, List.getElem_cons_zero, List.setIfInBounds_toArray, List.set_cons_zero, List.set_cons_succ]
                    refine wpAnyH_take (i := 2) (v := ?v2aq) rfl (by kernel_rfl) (by kernel_rfl) (by kernel_rfl) (fun _ _ _ h => h) (Or.inl ⟨by rfl, ?h2aq⟩) S4.out ?_
                    case h2aq => (intro w4 hS; have y1 := HXO.out w4 hS.1 s x hsn hxg; have y2 := hS.2; clear hS; go_simp; first | done | with_reducible rfl)
                    simp only [Act.put, List.getElem_toArray, List.getElem_cons_succ, List.getElem_cons_zero, List.setIfInBounds_toArray, List.set_cons_zero, List.set_cons_succ]
                    refine wpAnyH_take (i := 3) (v := ?v3aq) rfl (by kernel_rfl) (by kernel_rfl) (by kernel_rfl) (fun _ _ _ h => h) (Or.inl ⟨by rfl, ?h3aq⟩) S4.out ?_
                    case h3aq => (intro w4 hS; have y1 := HXO.out w4 hS.1 s x hsn hxg; have y2 := hS.2; clear hS; go_simp; first | done | with_reducible rfl)
                    simp only [Act.put, List.getElem_toArray, List.getElem_cons_succ, List.getElem_cons_zero, List.setIfInBounds_toArray, List.set_cons_zero, List.set_cons_succ]
                    refine wpAnyH_take (i := 4) (v := ?v4aq) rfl (by kernel_rfl) (by kernel_rfl) (by kernel_rfl) (fun _ _ _ h => h) (Or.inl ⟨by rfl, ?h4aq⟩) S4.out ?_
                    case h4aq => (intro w4 hS; have y1 := HXO.out w4 hS.1 s x hsn hxg; have y2 := hS.2; clear hS; go_simp; first | done | with_reducible rfl)
                    simp only [Act.put, List.getElem_toArray, List.getElem_cons_succ, List.getElem_cons_zero, List.setIfInBounds_toArray, List.set_cons_zero, List.set_cons_succ]
                    refine wpAnyH_take (i := 5) (v := ?v5aq) rfl (by kernel_rfl) (by kernel_rfl) (by kernel_rfl) (fun _ _ _ h => h) (Or.inl ⟨by rfl, ?h5aq⟩) S4.out ?_
                    case h5aq => (intro w4 hS; have y1 := HXO.out w4 hS.1 s x hsn hxg; have y2 := hS.2; clear hS; go_simp; first | done | with_reducible rfl)
                    simp only [Act.put, List.getElem_toArray, List.getElem_cons_succ, List.getElem_cons_zero, List.setIfInBounds_toArray, List.set_cons_zero, List.set_cons_succ]
                    refine wpAnyH_take (i := 6) (v := ?v6aq) rfl (by kernel_rfl) (by kernel_rfl) (by kernel_rfl) (fun _ _ _ h => h) (Or.inl ⟨by rfl, ?h6aq⟩) S4.out ?_
                    case h6aq => (intro w4 hS; have y1 := HXO.out w4 hS.1 s x hsn hxg; have y2 := hS.2; clear hS; go_simp; first | done | with_reducible rfl)
                    simp only [Act.put, List.getElem_toArray, List.getElem_cons_succ, List.getElem_cons_zero, List.setIfInBounds_toArray, List.set_cons_zero, List.set_cons_succ]
                    refine wpAnyH_take (i := 7) (v := ?v7aq) rfl (by kernel_rfl) (by kernel_rfl) (by kernel_rfl) (fun _ _ _ h => h) (Or.inl ⟨by rfl, ?h7aq⟩) S4.out ?_
                    case h7aq => (intro w4 hS; have y1 := HXO.out w4 hS.1 s x hsn hxg; have y2 := hS.2; clear hS; go_simp; first | done | with_reducible rfl)
                    simp only [Act.put, List.getElem_toArray, List.getElem_cons_succ, List.getElem_cons_zero, List.setIfInBounds_toArray, List.set_cons_zero, List.set_cons_succ]
                    refine wpAnyH_take (i := 8) (v := ?v8aq) rfl (by kernel_rfl) (by kernel_rfl) (by kernel_rfl) (fun _ _ _ h => h) (Or.inl ⟨by rfl, ?h8aq⟩) S4.out ?_
                    case h8aq => (intro w4 hS; have y1 := HXO.out w4 hS.1 s x hsn hxg; have y2 := hS.2; clear hS; go_simp; first | done | with_reducible rfl)
                    simp only [Act.put, List.getElem_toArray, List.getElem_cons_succ, List.getElem_cons_zero, List.setIfInBounds_toArray, List.set_cons_zero, List.set_cons_succ]
                    refine wpAnyH_take (i := 9) (v := ?v9aq) rfl (by kernel_rfl) (by kernel_rfl) (by kernel_rfl) (fun _ _ _ h => h) (Or.inl ⟨by rfl, ?h9aq⟩) S4.out ?_
                    case h9aq => (intro w4 hS; have y1 := HXO.out w4 hS.1 s x hsn hxg; have y2 := hS.2; clear hS; go_simp; first | done | with_reducible rfl)
                    simp only [Act.put, List.getElem_toArray, List.getElem_cons_succ, List.getElem_cons_zero, List.setIfInBounds_toArray, List.set_cons_zero, List.set_cons_succ]
                    refine wpAnyH_take (i := 10) (v := ?v10aq) rfl (by kernel_rfl) (by kernel_rfl) (by kernel_rfl) (fun _ _ _ h => h) (Or.inl ⟨by rfl, ?h10aq⟩) S4.out ?_
                    case h10aq => (intro w4 hS; have y1 := HXO.out w4 hS.1 s x hsn hxg; have y2 := hS.2; clear hS; go_simp; first | done | with_reducible rfl)
                    simp only [Act.put, List.getElem_toArray, List.getElem_cons_succ, List.getElem_cons_zero, List.setIfInBounds_toArray, List.set_cons_zero, List.set_cons_succ]
                    refine wpAnyH_take (i := 11) (v := ?v11aq) rfl (by kernel_rfl) (by kernel_rfl) (by kernel_rfl) (fun _ _ _ h => h) (Or.inl ⟨by rfl, ?h11aq⟩) S4.out ?_
                    case h11aq => (intro w4 hS; have y1 := HXO.out w4 hS.1 s x hsn hxg; have y2 := hS.2; clear hS; go_simp; first | done | with_reducible rfl)
                    simp only [Act.put, List.getElem_toArray, List.getElem_cons_succ, List.getElem_cons_zero, List.setIfInBounds_toArray, List.set_cons_zero, List.set_cons_succ]
                    refine wpAnyH_take (i := 12) (v := ?v12aq) rfl (by kernel_rfl) (by kernel_rfl) (by kernel_rfl) (fun _ _ _ h => h) (Or.inl ⟨by rfl, ?h12aq⟩) S4.out ?_
                    case h12aq => (intro w4 hS; have y1 := HXO.out w4 hS.1 s x hsn hxg; have y2 := hS.2; clear hS; go_simp; first | done | with_reducible rfl)
                    simp only [Act.put, List.getElem_toArray, List.getElem_cons_succ, List.getElem_cons_zero, List.setIfInBounds_toArray, List.set_cons_zero, List.set_cons_succ]
                    refine wpAnyH_take (i := 13) (v := ?v13aq) rfl (by kernel_rfl) (by kernel_rfl) (by kernel_rfl) (fun _ _ _ h => h) (Or.inl ⟨by rfl, ?h13aq⟩) S4.out ?_
                    case h13aq => (intro w4 hS; have y1 := HXO.out w4 hS.1 s x hsn hxg; have y2 := hS.2; clear hS; go_simp; first | done | with_reducible rfl)
                    simp only [Act.put, List.getElem_toArray, List.getElem_cons_succ, List.getElem_cons_zero, List.setIfInBounds_toArray, List.set_cons_zero, List.set_cons_succ]
                    have d1 := (blkc MId.out.hm (50 + k * 3 + x)).trans ((Mc.cells_get _ _).trans (if_pos (by omega)))
                    obtain ⟨x1, hx1⟩ : ∃ v, v = (gaQ K k x).cellAt (50 + k * 3 + x) := ⟨_, rfl⟩
                    rw [← hx1] at d1
                    have f1 := blkf MId.out.hm (50 + k * 3 + x)
                    have MJ := hidd (MId.out.setM (50 + k * 3 + x) (.int .u8 (K.ou s x : Nat)) (Mc.cells_setO _ k x (K.ou s x) (by omega) (by omega)))
                    clear hx1
                    refine wpAnyH_ready (rs := [14]) (by kernel_rfl) (by simp) (AllReadyH.cons rfl (fun K' hK => ?_) AllReadyH.nil)
                    go_simp
                    obtain ⟨W8, hW8⟩ : ∃ W8, W8 = Wd.setCell ⟨mb, 50 + k * 3 + x, none⟩ (.int .u8 (K.ou s x : Nat)) := ⟨_, rfl⟩
                    have MJ2 : Hid (Mi wC W8 n mb nb O' (.slice (some ⟨ga, 0, none⟩) O'.length c9) ((gaQ K k x).setO k x (K.ou s x))) := hidd (by rw [hW8]; exact MJ.out)
                    rw [← hW8]
                    refine hK.out _ _ ⟨MJ2.out.bel, MJ2.out.ord.cell HOk.out⟩ (fun _ => ?_)
                    clear hK K' d1 f1 MJ hW8 MI MId S4
                    refine wpAnyH_done (by kernel_rfl) ?_ _
                    go_wp2_with fail
                    obtain ⟨We, hWe⟩ : ∃ We, We = W8.drew := ⟨_, rfl⟩
                    have MJd : Hid (Mi wC We n mb nb O' (.slice (some ⟨ga, 0, none⟩) O'.length c9) ((gaQ K k x).setO k x (K.ou s x))) := hidd (by rw [hWe]; exact MJ2.out.drewN 1)
                    have S5 := hidd (show We.cell? ⟨nb, to, none⟩ = some (.int .i64 (nu : Nat)) from MJd.out.num.cell HNu.out)
                    refine wp_region_held (S := fun W => W.cell? ⟨nb, to, none⟩ = some (.int .i64 (nu : Nat))) (by kernel_rfl) ?_
                    change wpAnyH _ _ _ _ _ _ _ _ (World.drew _)
                    rw [← hWe]
                    clear hWe
                    refine wpAnyH_take (i := 0) (v := ?v0bq) rfl (by kernel_rfl) (by kernel_rfl) (by kernel_rfl) (fun _ _ _ h => h) (Or.inl ⟨by rfl, ?h0bq⟩) S5.out ?_
                    case h0bq => (intro w4 hS; have y2 := hS; clear hS; go_simp; first | done | with_reducible rfl)
                    simp only [Act.put, List.getElem_toArray, List.getElem_cons_succ, List.getElem_cons_zero, List.setIfInBounds_toArray, List.set_cons_zero, List.set_cons_succ]
                    refine wpAnyH_take (i := 1) (v := ?v1bq) rfl (by kernel_rfl) (by kernel_rfl) (by kernel_rfl) (fun _ _ _ h => h) (Or.inl ⟨by rfl, ?h1bq⟩) S5.out ?_
                    case h1bq => (intro w4 hS; have y2 := hS; clear hS; go_simp; first | done | with_reducible rfl)
                    simp only [Act.put, List.getElem_toArray, List.getElem_cons_succ, List.getElem_cons_zero, List.setIfInBounds_toArray, List.set_cons_zero, List.set_cons_succ]
                    refine wpAnyH_take (i := 2) (v := ?v2bq) rfl (by kernel_rfl) (by kernel_rfl) (by kernel_rfl) (fun _ _ _ h => h) (Or.inl ⟨by rfl, ?h2bq⟩) S5.out ?_
                    case h2bq => (intro w4 hS; have y2 := hS; clear hS; go_simp; first | done | with_reducible rfl)
                    simp only [Act.put, List.getElem_toArray, List.getElem_cons_succ, List.getElem_cons_zero, List.setIfInBounds_toArray, List.set_cons_zero, List.set_cons_succ]
                    refine wpAnyH_take (i := 3) (v := ?v3bq) rfl (by kernel_rfl) (by kernel_rfl) (by kernel_rfl) (fun _ _ _ h => h) (Or.inl ⟨by rfl, ?h3bq⟩) S5.out ?_
                    case h3bq => (intro w4 hS; have y2 := hS; clear hS; go_simp; first | done | with_reducible rfl)
                    simp only [Act.put, List.getElem_toArray, List.getElem_cons_succ, List.getElem_cons_zero, List.setIfInBounds_toArray, List.set_cons_zero, List.set_cons_succ]
                    refine wpAnyH_take (i := 4) (v := ?v4bq) rfl (by kernel_rfl) (by kernel_rfl) (by kernel_rfl) (fun _ _ _ h => h) (Or.inl ⟨by rfl, ?h4bq⟩) S5.out ?_
                    case h4bq => (intro w4 hS; have y2 := hS; clear hS; go_simp; first | done | with_reducible rfl)
                    simp only [Act.put, List.getElem_toArray, List.getElem_cons_succ, List.getElem_cons_zero, List.setIfInBounds_toArray, List.set_cons_zero, List.set_cons_succ]
                    refine wpAnyH_take (i := 5) (v := ?v5bq) rfl (by kernel_rfl) (by kernel_rfl) (by kernel_rfl) (fun _ _ _ h => h) (Or.inl ⟨by rfl, ?h5bq⟩) S5.out ?_
                    case h5bq => (intro w4 hS; have y2 := hS; clear hS; go_simp; first | done | with_reducible rfl)
                    simp only [Act.put, List.getElem_toArray, List.getElem_cons_succ, List.getElem_cons_zero, List.setIfInBounds_toArray, List.set_cons_zero, List.set_cons_succ]
                    refine wpAnyH_take (i := 6) (v := ?v6bq) rfl (by kernel_rfl) (by kernel_rfl) (by kernel_rfl) (fun _ _ _ h => h) (Or.inl ⟨by rfl, ?h6bq⟩) S5.out ?_
                    case h6bq => (intro w4 hS; have y2 := hS; clear hS; go_simp; first | done | with_reducible rfl)
                    simp only [Act.put, List.getElem_toArray, List.getElem_cons_succ, List.getElem_cons_zero, List.setIfInBounds_toArray, List.set_cons_zero, List.set_cons_succ]
                    refine wpAnyH_take (i := 7) (v := ?v7bq) rfl (by kernel_rfl) (by kernel_rfl) (by kernel_rfl) (fun _ _ _ h => h) (Or.inl ⟨by rfl, ?h7bq⟩) S5.out ?_
                    case h7bq => (intro w4 hS; have y2 := hS; clear hS; go_simp; first | done | with_reducible rfl)
                    simp only [Act.put, List.getElem_toArray, List.getElem_cons_succ, List.getElem_cons_zero, List.setIfInBounds_toArray, List.set_cons_zero, List.set_cons_succ]
                    refine wpAnyH_take (i := 8) (v := ?v8bq) rfl (by kernel_rfl) (by kernel_rfl) (by kernel_rfl) (fun _ _ _ h => h) (Or.inl ⟨by rfl, ?h8bq⟩) S5.out ?_
                    case h8bq => (intro w4 hS; have y2 := hS; clear hS; go_simp; first | done | with_reducible rfl)
                    simp only [Act.put, List.getElem_toArray, List.getElem_cons_succ, List.getElem_cons_zero, List.setIfInBounds_toArray, List.set_cons_zero, List.set_cons_succ]
                    refine wpAnyH_take (i := 9) (v := ?v9bq) rfl (by kernel_rfl) (by kernel_rfl) (by kernel_rfl) (fun _ _ _ h => h) (Or.inl ⟨by rfl, ?h9bq⟩) S5.out ?_
                    case h9bq => (intro w4 hS; have y2 := hS; clear hS; go_simp; first | done | with_reducible rfl)
                    simp only [Act.put, List.getElem_toArray, List.getElem_cons_succ, List.getElem_cons_zero, List.setIfInBounds_toArray, List.set_cons_zero, List.set_cons_succ]
                    have d1 := (blkc MJd.out.hm (2 + k * 3 + x)).trans ((Mc.cells_get _ _).trans (if_pos (by omega)))
                    obtain ⟨x1, hx1⟩ : ∃ v, v = ((gaQ K k x).setO k x (K.ou s x)).cellAt (2 + k * 3 + x) := ⟨_, rfl⟩
                    rw [← hx1] at d1
                    have f1 := blkf MJd.out.hm (2 + k * 3 + x)
                    have MK := hidd (MJd.out.setM (2 + k * 3 + x) (.int .u8 (nu : Nat)) (Mc.cells_setN _ k x nu (by omega) (by omega)))
                    clear hx1
                    refine wpAnyH_ready (rs := [10]) (by kernel_rfl) (by simp) (AllReadyH.cons rfl (fun K' hK => ?_) AllReadyH.nil)
                    go_simp
                    obtain ⟨W9, hW9⟩ : ∃ W9, W9 = We.setCell ⟨mb, 2 + k * 3 + x, none⟩ (.int .u8 (nu : Nat)) := ⟨_, rfl⟩
                    have MK2 : Hid (Mi wC W9 n mb nb O' (.slice (some ⟨ga, 0, none⟩) O'.length c9) (((gaQ K k x).setO k x (K.ou s x)).setN k x nu)) := hidd (by rw [hW9]; exact MK.out)
                    rw [← hW9]
                    refine hK.out _ _ (MK2.out.num.cell HNu.out) (fun _ => ?_)
                    clear hK K' d1 f1 MK hW9 MJ2 MJd S5
                    refine wpAnyH_done (by kernel_rfl) ?_ _
                    go_wp2_with fail
                    go_roundw
                    case rel => exact ⟨x + 1, by go_num, by omega, hidd (by rw [← HO'.out, ← HGs.out]; exact MK2.out)⟩
                    case measure => first | (simp [intOf]; done) | (simp [intOf]; omega)
                · have he : x = g.l := by omega
                  subst he
                  have HOe := hidd (show K.bo (k + 1) = K.boX s g.l (K.bo k) by rw [HSt.out, HKl.out])
                  have HGr := hidd (show gaQ K k g.l = gaQ K (k + 1) 0 by rw [← HKl.out, gaQ_row])
                  have hkk : k + 1 ≤ (K.bo (k + 1)).length := by rw [HOe.out]; omega
                  clear hxg hO hsO0 hkO0
                  go_wp2_with fail
                  go_roundw
                  case rel => exact ⟨k + 1, by go_num, ⟨by omega, hkk⟩, hidd (by rw [HOe.out, ← HGr.out]; exact MI.out)⟩
                  case measure => first | (simp [intOf]; done) | (simp [intOf]; omega)
          · have HOf := Gm.bof_of HTb.out (k := k) (by omega)
            have hkl : (K.bo k).length = k := by omega
            have HM := hidd (K.toM_ok (by rw [HOf]; omega))
            have i9 : ¬ (k : Int) < (K.bo k).length := by omega
            have d1 := (blkc MI.out.hm 1).trans ((Mc.cells_get _ _).trans (if_pos (by omega)))
            obtain ⟨x1, hx1⟩ : ∃ v, v = (gaQ K k 0).cellAt 1 := ⟨_, rfl⟩
            rw [← hx1] at d1
            have f1 := blkf MI.out.hm 1
            have MS := hidd (show Mi wC (wr.setCell ⟨mb, 1, none⟩ (.int .i64 ((K.bo k).length : Nat))) n mb nb (K.bo k) (.slice A (K.bo k).length c) (gaM K K.bof K.nuO) by
              have h := MI.out.setM 1 (.int .i64 ((K.bo k).length : Nat)) (Mc.cells_setS _ _)
              rw [← gaQ_end, show K.bof.length = k by rw [HOf]; exact hkl]
              rw [hkl] at h ⊢
              exact h)
            have Zs := hidd (hp_bel ZC.out MS.out.bel)
            have Bs := hidd (bel_then BC.out MS.out.bel)
            obtain ⟨M, hM⟩ : ∃ M, M = gaM K K.bof K.nuO := ⟨_, rfl⟩
            rw [← hM] at MS HM
            clear hx1 HOf hlt hM hk hk16 hkl
            go_wp2_with (first | (refine ldC rfl (.tmp 13) rfl _ M MS.out.hm (by rfl) ?_) | (refine stC rfl (.tmp 4) (.tmp 118) rfl _ M Zs.out (Mc.cells_size _) (by rfl) (by rfl) ?_))
            refine bodyPost_ret (v := .tuple #[.agg M.cells, .int .i64 0]) (results_cell_tmp rfl _ _ (w.heap.size + 1) 31 _ (0, 0) _ _ rfl rfl (setRow_heap _ _ _ _ _ _ Zs.out) Try.underlying31 rfl (cells98i _)) rfl ⟨by rw [HL.out, HM.out], ?_⟩
            exact bel_row Bs.out (by omega) _
  · obtain ⟨h3, hM⟩ := Gm.moM_bad hc
    have HL := hidd hM
    have hd : decide ((g.secs (fun _ => true) u).2.2 = 0) = false := decide_eq_false hc
    rw [hd]
    clear hc h3 hM hd
    go_wp2_with (refine stC rfl (.tmp 4) (.tmp 26) rfl _ Mc.zero Z1.out (Mc.cells_size _) (by rfl) (by rw [← zeroM_cells]; rfl) ?_)
    refine bodyPost_ret (v := .tuple #[.agg Mc.zero.cells, .int .i64 3]) (results_cell_tmp rfl _ _ (w.heap.size + 1) 31 _ (0, 0) _ _ rfl rfl (setRow_heap _ _ _ _ _ _ Z1.out) Try.underlying31 rfl (cells98i _)) rfl ⟨by rw [HL.out], ?_⟩
    exact bel_row B1.out (by omega) _
end Go.Proofs.Ytcghcbdefajpgaa
