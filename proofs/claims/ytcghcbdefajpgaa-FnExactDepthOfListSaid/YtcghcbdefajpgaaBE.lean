/- Small texts of the walks under one roof. -/
import Derived.Test.YtcghcbdefajpgaaBD
import Derived.Test.YtcghcbdefajpgaaBA
import Derived.IntWalk
import Derived.Test.YtcghcbdefajpgaaBC
import Derived.Deep.RegionHeld3
import Derived.Test.YtcghcbdefajpgaaBB
/- Walks: NormalWord, of the program and of the reference. -/
namespace Go.Proofs.Ytcghcbdefajpgaa
open Go.RowKit

def nwdR (m : Mc) (xs : List Int) : List Int × Int := if codeW m [xs] = 0 then (m.gm.nrm xs, 0) else ([], 1)
theorem nwdR_len (m : Mc) (xs : List Int) : (nwdR m xs).1.length ≤ 1048576 := by
  unfold nwdR
  split
  · rename_i h
    obtain ⟨g, rfl, hok, hw⟩ := codeW_zero h
    have h40 := (gwB_mem (hw xs (List.mem_singleton.2 rfl))).1
    have := g.nrm_len xs
    show (g.nrm xs).length ≤ _
    omega
  · exact Nat.zero_le _

set_option linter.unusedSimpArgs false
end Go.Proofs.Ytcghcbdefajpgaa

/- Walks: the step of one number and the section at a letter, of the reference. -/
namespace Go.Proofs.Ytcghcbdefajpgaa
open Go.RowKit

theorem Gm.stp_pos (g : Gm) (q x : Nat) : g.stp ((q : Int) + 1) x = (g.ou q x, (g.nx q x : Int) + 1) := by
  unfold Gm.stp
  rw [if_pos (by omega), show ((q : Int) + 1 - 1).toNat = q by omega]
theorem Gm.stp_neg (g : Gm) (q x : Nat) : g.stp (-((q : Int) + 1)) x = (g.inv.ou q x, -(g.inv.nx q x : Int) - 1) := by
  unfold Gm.stp
  rw [if_neg (by omega), show (-(-((q : Int) + 1)) - 1).toNat = q by omega]

theorem Gm.At.n0' {g : Gm} {w : World} {b : Nat} (h : g.At w b 0) (q x : Nat) (hq : q < 16) (hx : x < 3) : w.cell? ⟨b, 2 + q * 3 + x, none⟩ = some (.int .u8 (g.nx q x)) := by
  have := h.n q x hq hx
  rwa [Nat.zero_add] at this
theorem Gm.At.o0' {g : Gm} {w : World} {b : Nat} (h : g.At w b 0) (q x : Nat) (hq : q < 16) (hx : x < 3) : w.cell? ⟨b, 50 + q * 3 + x, none⟩ = some (.int .u8 (g.ou q x)) := by
  have := h.o q x hq hx
  rwa [Nat.zero_add] at this
set_option maxHeartbeats 1000000 in
theorem l02Step_any (g : Gm) (hok : g.Ok) (k : Int) (x : Nat) (hk : g.Num k) (hx : x < g.l) (w : World) :
    Calls Try.prog 91 #[.agg g.mc.cells, .agg g.inv.mc.cells, .int .i64 k, .int .u8 (x : Nat)] w fun e w' => e = .returned (.tuple #[.int .u8 ((g.stp k x).1 : Nat), .int .i64 (g.stp k x).2]) ∧ Below w.heap.size w w' := by
  have s16 := hok.s16
  have l3 := hok.l3
  have HI := hidd (g.is_cells hok)
  have HJ := hidd (g.inv.is_cells (Gm.inv_ok hok))
  have hio := Gm.inv_ok hok
  obtain ⟨n0, n1, n2⟩ := hk
  obtain ⟨q, hq⟩ : ∃ q, k.natAbs = q + 1 := ⟨k.natAbs - 1, by omega⟩
  have hqs : q < g.s := by omega
  have HST := hidd (fun W => l02State_any k q hq (by omega) W)
  have hs := Int.lt_or_gt_of_ne n0
  by_cases h1 : k = (q : Int) + 1
  · subst h1
    have HR := hidd (g.stp_pos q x)
    have hz := hok.nlt q x hqs hx
    have hy := hok.olt q x hqs hx
    obtain ⟨w2, hw2⟩ : ∃ w2, w2 = (w.alloc (.cells g.mc.cells 31)).alloc (.cells g.inv.mc.cells 31) := ⟨_, rfl⟩
    have B2 := hidd (show Below w.heap.size w w2 by rw [hw2]; exact (bel_alloc' _ _).alloc (by simp) _)
    have A2 := (Gm.At.of_is HI.out (show w2.heap[w.heap.size]? = some (.cells g.mc.cells 31 (0, 0)) by rw [hw2]; exact hp_old (hp_new rfl)))
    have a1 := A2.n0' q x (by omega) (by omega)
    have a2 := A2.o0' q x (by omega) (by omega)
    obtain ⟨z, hze⟩ : ∃ z, z = g.nx q x := ⟨_, rfl⟩
    obtain ⟨y, hye⟩ : ∃ y, y = g.ou q x := ⟨_, rfl⟩
    rw [← hze] at hz HR a1
    rw [← hye] at hy HR a2
    have j1 : (q : Int) < 16 := by omega
    have j2 : (x : Int) < 3 := by omega
    have j3 : (0 : Int) ≤ q := by omega
    have j4 : (0 : Int) ≤ x := by omega
    have hz2 : z < 256 := by omega
    clear hze hye hq n0 n1 n2 hs hok hio A2
    go_enter Try.func91, Try.ntmps91
    go_wp2_with fail
    rw [← hw2]
    clear hw2
    refine (HST.out _).mono ?_
    rintro e w3 ⟨rfl, rfl⟩
    go_wp2_with fail
    go_quiet (fail)
    go_wp2_with fail
    go_ret2
    exact ⟨by rw [HR.out]; rfl, bel_drewN B2.out _⟩
  · obtain rfl : k = -((q : Int) + 1) := by omega
    have HR := hidd (g.stp_neg q x)
    have hz : g.inv.nx q x < g.s := hio.nlt q x hqs hx
    have hy : g.inv.ou q x < g.l := hio.olt q x hqs hx
    obtain ⟨w2, hw2⟩ : ∃ w2, w2 = (w.alloc (.cells g.mc.cells 31)).alloc (.cells g.inv.mc.cells 31) := ⟨_, rfl⟩
    have B2 := hidd (show Below w.heap.size w w2 by rw [hw2]; exact (bel_alloc' _ _).alloc (by simp) _)
    have A2 := (Gm.At.of_is HJ.out (show w2.heap[w.heap.size + 1]? = some (.cells g.inv.mc.cells 31 (0, 0)) by rw [hw2]; exact hp_new (by simp)))
    have a1 := A2.n0' q x (by omega) (by omega)
    have a2 := A2.o0' q x (by omega) (by omega)
    obtain ⟨z, hze⟩ : ∃ z, z = g.inv.nx q x := ⟨_, rfl⟩
    obtain ⟨y, hye⟩ : ∃ y, y = g.inv.ou q x := ⟨_, rfl⟩
    rw [← hze] at hz HR a1
    rw [← hye] at hy HR a2
    have j1 : (q : Int) < 16 := by omega
    have j2 : (x : Int) < 3 := by omega
    have j3 : (0 : Int) ≤ q := by omega
    have j4 : (0 : Int) ≤ x := by omega
    have hz2 : z < 256 := by omega
    clear hze hye hq n0 n1 n2 hs hok hio A2 h1
    go_enter Try.func91, Try.ntmps91
    go_wp2_with fail
    rw [← hw2]
    clear hw2
    refine (HST.out _).mono ?_
    rintro e w3 ⟨rfl, rfl⟩
    go_wp2_with fail
    go_quiet (fail)
    go_wp2_with fail
    go_ret2
    exact ⟨by rw [HR.out, show -(z : Int) - 1 = -((z : Int) + 1) by omega]; rfl, bel_drewN B2.out _⟩

set_option linter.unusedSimpArgs false
set_option maxRecDepth 100000 in
set_option maxHeartbeats 1000000 in
/-- The image of a letter, and the section there. -/
theorem l02Led_any (g : Gm) (hok : g.Ok) (v : Value) (W : List Int) (hW : g.Nums W) (hlen : W.length ≤ 1048576) (x : Nat) (hx : x < g.l) (w : World) (hr : RdI w v W) :
    Calls Try.prog 73 #[.agg g.mc.cells, .agg g.inv.mc.cells, v, .int .u8 (x : Nat)] w fun e w' => (∃ u, e = .returned (.tuple #[.int .u8 (g.im W x : Nat), u]) ∧ Own w' w.heap.size 2 u (ints (g.sc W x))) ∧ Below w.heap.size w w' := by
  obtain ⟨A, c, rfl, hr⟩ := hr
  have Hr := hidd hr
  have HO := hidd hok
  have HW := hidd hW
  clear hr hok hW
  go_enter Try.func73, Try.ntmps73
  go_wp2_with fail
  obtain ⟨w2, hw2⟩ : ∃ w2, w2 = (w.alloc (.cells g.mc.cells 31)).alloc (.cells g.inv.mc.cells 31) := ⟨_, rfl⟩
  have hz2 : w2.heap.size = w.heap.size + 1 + 1 := by rw [hw2]; simp
  rw [← hw2, ← hz2]
  have b2 : Below w.heap.size w w2 := by rw [hw2]; exact (bel_alloc' _ _).alloc (by simp) _
  have M2 := hidd (show w2.heap[w.heap.size]? = some (.cells g.mc.cells 31 (0, 0)) by rw [hw2]; exact hp_old (hp_new rfl))
  have I2 := hidd (show w2.heap[w.heap.size + 1]? = some (.cells g.inv.mc.cells 31 (0, 0)) by rw [hw2]; exact hp_new (by simp))
  have O3 := hidd (show Own (w2.alloc (.cells #[] 2)) w2.heap.size 2 (.slice (some ⟨w2.heap.size, 0, none⟩) 0 0) (ints (g.lw W x 0)) from Own.empty w2 2 w2.heap.size (Nat.le_refl _))
  have b23 := hidd (bel_alloc' w2 (.cells #[] 2))
  obtain ⟨w3, hw3⟩ : ∃ w3, w3 = w2.alloc (.cells #[] 2) := ⟨_, rfl⟩
  rw [← hw3] at O3 b23 ⊢
  have B2 := hidd b2
  have R2 := hidd (Hr.out.below b2)
  clear hw2 hw3 b2 hz2
  go_loopw [3, 10, 11] (fun y u i wr => ∃ k : Nat, k ≤ W.length ∧ i = .int .i64 k ∧ y = .int .u8 (g.lx W x k : Nat) ∧ Hid (Own wr w2.heap.size 2 u (ints (g.lw W x k))) ∧ Hid (Below w2.heap.size w2 wr)) (fun _ _ i _ => W.length - (intOf i).toNat)
  case atStart => exact ⟨0, Nat.zero_le _, rfl, rfl, O3, b23⟩
  case round =>
    clear O3 b23
    obtain ⟨k, hk, rfl, rfl, HU, Hb⟩ := hrel
    by_cases hlt : k < W.length
    · obtain ⟨b, o, rfl, hc⟩ := (R2.out.below Hb.out).get hlt
      obtain ⟨a, ha⟩ : ∃ a, a = W[k] := ⟨_, rfl⟩
      rw [← ha] at hc
      have hD : W.getD k 0 = a := by rw [List.getD_eq_getElem?_getD, List.getElem?_eq_getElem hlt, ha]; rfl
      have hN := g.nums_getD HW.out hlt
      rw [hD] at hN
      have hX := Gm.lx_lt HO.out HW.out hx k hk
      have HA := hidd (l02Step_any g HO.out a (g.lx W x k) hN hX wr.drew)
      have HL := hidd (show g.lx W x (k + 1) = (g.stp a (g.lx W x k)).1 by show (g.stp (W.getD k 0) (g.lx W x k)).1 = _; rw [hD])
      have HS := hidd (show ints (g.lw W x (k + 1)) = ints (g.lw W x k) ++ [.int .i64 (g.stp a (g.lx W x k)).2] by rw [g.lw_succ, hD]; simp [ints])
      have j1 : (k : Int) < W.length := by omega
      have j2 : (0 : Int) ≤ k := by omega
      have S0 := hidd (show wr.drew.heap[w.heap.size]? = some (.cells g.mc.cells 31 (0, 0)) ∧ wr.drew.heap[w.heap.size + 1]? = some (.cells g.inv.mc.cells 31 (0, 0)) ∧ wr.drew.cell? ⟨b, o + k, none⟩ = some (.int .i64 a) from ⟨hp_bel M2.out (bel_then Hb.out (drew_bel wr)), hp_bel I2.out (bel_then Hb.out (drew_bel wr)), hc⟩)
      clear ha hD hN hc
      go_wp2_with fail
      refine wp_region_held (S := fun w' => w'.heap[w.heap.size]? = some (.cells g.mc.cells 31 (0, 0)) ∧ w'.heap[w.heap.size + 1]? = some (.cells g.inv.mc.cells 31 (0, 0)) ∧ w'.cell? ⟨b, o + k, none⟩ = some (.int .i64 a)) (by kernel_rfl) ?_
      change wpAnyH _ _ _ _ _ _ _ _ (World.drew _)
      refine wpAnyH_take (i := 0) (v := ?v0) rfl (by kernel_rfl) (by kernel_rfl) (by kernel_rfl) (fun _ _ _ h => h) (Or.inl ⟨by rfl, ?h0⟩) S0.out ?_
      case h0 => (intro w4 hS; have k1 := run_loadM (W := w4) hS.1; have k2 := run_loadM (W := w4) hS.2.1; have k3 := hS.2.2; clear hS; go_simp; first | done | with_reducible rfl)
      simp only [Act.put, List.getElem_toArray, List.getElem_cons_succ, List.getElem_cons_zero, List.setIfInBounds_toArray, List.set_cons_zero, List.set_cons_succ]
      refine wpAnyH_take (i := 1) (v := ?v1) rfl (by kernel_rfl) (by kernel_rfl) (by kernel_rfl) (fun _ _ _ h => h) (Or.inl ⟨by rfl, ?h1⟩) S0.out ?_
      case h1 => (intro w4 hS; have k1 := run_loadM (W := w4) hS.1; have k2 := run_loadM (W := w4) hS.2.1; have k3 := hS.2.2; clear hS; go_simp; first | done | with_reducible rfl)
      simp only [Act.put, List.getElem_toArray, List.getElem_cons_succ, List.getElem_cons_zero, List.setIfInBounds_toArray, List.set_cons_zero, List.set_cons_succ]
      refine wpAnyH_take (i := 2) (v := ?v2) rfl (by kernel_rfl) (by kernel_rfl) (by kernel_rfl) (fun _ _ _ h => h) (Or.inl ⟨by rfl, ?h2⟩) S0.out ?_
      case h2 => (intro w4 hS; have k1 := run_loadM (W := w4) hS.1; have k2 := run_loadM (W := w4) hS.2.1; have k3 := hS.2.2; clear hS; go_simp; first | done | with_reducible rfl)
      simp only [Act.put, List.getElem_toArray, List.getElem_cons_succ, List.getElem_cons_zero, List.setIfInBounds_toArray, List.set_cons_zero, List.set_cons_succ]
      refine wpAnyH_take (i := 3) (v := ?v3) rfl (by kernel_rfl) (by kernel_rfl) (by kernel_rfl) (fun _ _ _ h => h) (Or.inl ⟨by rfl, ?h3⟩) S0.out ?_
      case h3 => (intro w4 hS; have k1 := run_loadM (W := w4) hS.1; have k2 := run_loadM (W := w4) hS.2.1; have k3 := hS.2.2; clear hS; go_simp; first | done | with_reducible rfl)
      simp only [Act.put, List.getElem_toArray, List.getElem_cons_succ, List.getElem_cons_zero, List.setIfInBounds_toArray, List.set_cons_zero, List.set_cons_succ]
      refine wpAnyH_take (i := 4) (v := ?v4) rfl (by kernel_rfl) (by kernel_rfl) (by kernel_rfl) (fun _ _ _ h => h) (Or.inl ⟨by rfl, ?h4⟩) S0.out ?_
      case h4 => (intro w4 hS; have k1 := run_loadM (W := w4) hS.1; have k2 := run_loadM (W := w4) hS.2.1; have k3 := hS.2.2; clear hS; go_simp; first | done | with_reducible rfl)
      simp only [Act.put, List.getElem_toArray, List.getElem_cons_succ, List.getElem_cons_zero, List.setIfInBounds_toArray, List.set_cons_zero, List.set_cons_succ]
      refine wpAnyH_take (i := 5) (v := ?v5) rfl (by kernel_rfl) (by kernel_rfl) (by kernel_rfl) (fun _ _ _ h => h) (Or.inl ⟨by rfl, ?h5⟩) S0.out ?_
      case h5 => (intro w4 hS; have k1 := run_loadM (W := w4) hS.1; have k2 := run_loadM (W := w4) hS.2.1; have k3 := hS.2.2; clear hS; go_simp; first | done | with_reducible rfl)
      simp only [Act.put, List.getElem_toArray, List.getElem_cons_succ, List.getElem_cons_zero, List.setIfInBounds_toArray, List.set_cons_zero, List.set_cons_succ]
      refine wpAnyH_take (i := 6) (v := ?v6) rfl (by kernel_rfl) (by kernel_rfl) (by kernel_rfl) (fun _ _ _ h => h) (Or.inl ⟨by rfl, ?h6⟩) S0.out ?_
      case h6 => (intro w4 hS; have k1 := run_loadM (W := w4) hS.1; have k2 := run_loadM (W := w4) hS.2.1; have k3 := hS.2.2; clear hS; go_simp; first | done | with_reducible rfl)
      simp only [Act.put, List.getElem_toArray, List.getElem_cons_succ, List.getElem_cons_zero, List.setIfInBounds_toArray, List.set_cons_zero, List.set_cons_succ]
      refine wpAnyH_ready (rs := [7]) (by kernel_rfl) (by simp) (AllReadyH.cons rfl (fun K hK => ?_) AllReadyH.nil)
      go_simp
      refine HA.out.mono ?_
      rintro e w5 ⟨rfl, hb5⟩
      have b5 := (drew_bel wr).trans hb5
      have S5 := hidd (show w5.heap[w.heap.size]? = some (.cells g.mc.cells 31 (0, 0)) ∧ w5.heap[w.heap.size + 1]? = some (.cells g.inv.mc.cells 31 (0, 0)) ∧ w5.cell? ⟨b, o + k, none⟩ = some (.int .i64 a) from ⟨hp_bel S0.out.1 hb5, hp_bel S0.out.2.1 hb5, (hb5.cell (p := ⟨b, o + k, none⟩) (hp_lt' S0.out.2.2)).trans S0.out.2.2⟩)
      have HU5 := hidd (HU.out.below b5)
      have Hb5 := hidd (bel_then Hb.out b5)
      refine hK.out _ _ S5.out (fun _ => ?_)
      clear hK K hb5 b5 HA
      refine wpAnyH_take (i := 8) (v := ?v8) rfl (by kernel_rfl) (by kernel_rfl) (by kernel_rfl) (fun _ _ _ h => h) (Or.inl ⟨by rfl, ?h8⟩) S5.out ?_
      case h8 => (intro w4 hS; clear hS; go_simp; first | done | with_reducible rfl)
      simp only [Act.put, List.getElem_toArray, List.getElem_cons_succ, List.getElem_cons_zero, List.setIfInBounds_toArray, List.set_cons_zero, List.set_cons_succ]
      refine wpAnyH_take (i := 9) (v := ?v9) rfl (by kernel_rfl) (by kernel_rfl) (by kernel_rfl) (fun _ _ _ h => h) (Or.inl ⟨by rfl, ?h9⟩) S5.out ?_
      case h9 => (intro w4 hS; clear hS; go_simp; first | done | with_reducible rfl)
      simp only [Act.put, List.getElem_toArray, List.getElem_cons_succ, List.getElem_cons_zero, List.setIfInBounds_toArray, List.set_cons_zero, List.set_cons_succ]
      refine wpAnyH_take (i := 10) (v := ?v10) rfl (by kernel_rfl) (by kernel_rfl) (by kernel_rfl) (fun _ _ _ h => h) (Or.inl ⟨by rfl, ?h10⟩) S5.out ?_
      case h10 => (intro w4 hS; clear hS; go_simp; first | done | with_reducible rfl)
      simp only [Act.put, List.getElem_toArray, List.getElem_cons_succ, List.getElem_cons_zero, List.setIfInBounds_toArray, List.set_cons_zero, List.set_cons_succ]
      refine wpAnyH_take (i := 11) (v := ?v11) rfl (by kernel_rfl) (by kernel_rfl) (by kernel_rfl) (fun _ _ _ h => h) (Or.inl ⟨by rfl, ?h11⟩) S5.out ?_
      case h11 => (intro w4 hS; clear hS; go_simp; first | done | with_reducible rfl)
      simp only [Act.put, List.getElem_toArray, List.getElem_cons_succ, List.getElem_cons_zero, List.setIfInBounds_toArray, List.set_cons_zero, List.set_cons_succ]
      refine wpAnyH_take (i := 12) (v := ?v12) rfl (by kernel_rfl) (by kernel_rfl) (by kernel_rfl) (fun _ _ _ h => h) (Or.inl ⟨by rfl, ?h12⟩) S5.out ?_
      case h12 => (intro w4 hS; clear hS; go_simp; first | done | with_reducible rfl)
      simp only [Act.put, List.getElem_toArray, List.getElem_cons_succ, List.getElem_cons_zero, List.setIfInBounds_toArray, List.set_cons_zero, List.set_cons_succ]
      refine wpAnyH_done (by kernel_rfl) ?_ _
      have hlen2 : (ints (g.lw W x k)).length + 1 ≤ 1099511627776 := by rw [ints_length, g.lw_len]; omega
      have hbase := Hb5.out.size
      go_wp2_with (at_builtin; refine app_own rfl _ _ _ rfl w2.heap.size 2 (.int .i64 0) 8 Try.underlying26 info_i64 rfl HU5.out rfl rfl rfl hlen2 (by decide) hbase ?_; intro v' w6 ho hgr hle; have Ho2 := hidd ho; have b2 := hidd (bel_own HU5.out hgr hbase); clear ho hgr)
      go_roundw
      case rel => exact ⟨k + 1, by omega, by go_num, by rw [HL.out], hidd (by rw [HS.out]; exact Ho2.out), hidd (Hb5.out.trans b2.out)⟩
      case measure => simp [intOf]; omega
    · have he : k = W.length := by omega
      subst he
      go_wp2_with fail
      go_ret2
      exact ⟨⟨_, rfl, HU.out.mono B2.out.size⟩, bel_then B2.out Hb.out⟩
end Go.Proofs.Ytcghcbdefajpgaa

/- Walks: the image of a word under a group word, and the section there, of the program and of the reference. -/
namespace Go.Proofs.Ytcghcbdefajpgaa
open Go.RowKit

/-- The section behind the first k letters. -/
def Gm.gW (g : Gm) (W : List Int) (s : ByteArray) : Nat → List Int
  | 0 => W
  | k + 1 => g.sc (Gm.gW g W s k) (lt s k)
/-- The first n letters of the image, as bytes. -/
def Gm.gb (g : Gm) (W : List Int) (s : ByteArray) (n : Nat) : List Int := (List.range n).map fun k => 48 + (g.im (g.gW W s k) (lt s k) : Int)
def Gm.gim (g : Gm) (W : List Int) (s : ByteArray) : ByteArray := strOfNums (g.gb W s s.size)
theorem Gm.gb_len (g : Gm) (W : List Int) (s : ByteArray) (n : Nat) : (g.gb W s n).length = n := by simp [Gm.gb]
theorem Gm.gb_succ (g : Gm) (W : List Int) (s : ByteArray) (n : Nat) : g.gb W s (n + 1) = g.gb W s n ++ [48 + (g.im (g.gW W s n) (lt s n) : Int)] := by simp [Gm.gb, List.range_succ]
theorem Gm.gb_get (g : Gm) (W : List Int) (s : ByteArray) {n k : Nat} (hk : k < n) : (g.gb W s n)[k]? = some (48 + (g.im (g.gW W s k) (lt s k) : Int)) := by simp [Gm.gb, hk]
theorem Gm.gW_len (g : Gm) (W : List Int) (s : ByteArray) : ∀ k, (g.gW W s k).length = W.length
  | 0 => rfl
  | k + 1 => (g.sc_len _ _).trans (Gm.gW_len g W s k)
theorem Gm.gW_nums {g : Gm} (hok : g.Ok) {W : List Int} (hW : g.Nums W) {s : ByteArray} (hs : Lts g.l s) : ∀ k, k ≤ s.size → g.Nums (g.gW W s k)
  | 0, _ => hW
  | k + 1, hk => Gm.sc_nums hok (Gm.gW_nums hok hW hs k (by omega)) (hs.hi k (by omega))
theorem Gm.gim_size (g : Gm) (W : List Int) (s : ByteArray) : (g.gim W s).size = s.size := by unfold Gm.gim; rw [strOfNums_size, g.gb_len]

set_option maxRecDepth 100000 in
set_option maxHeartbeats 1000000 in
theorem image_any (g : Gm) (hok : g.Ok) (G : Nat) (vo vt : Value) (v : Value) (W : List Int) (hW : g.Nums W) (hlen : W.length ≤ 1048576) (s : ByteArray) (hl : Lts g.l s) (hs : s.size ≤ 1048576) (w : World) (hG : GrpAt w G g vo vt) (hr : RdI w v W) :
    Calls Try.prog 53 #[.pointer (some ⟨G, 0, none⟩), v, .string s] w fun e w' => (∃ u, e = .returned (.tuple #[.string (g.gim W s), u]) ∧ RdI w' u (g.gW W s s.size)) ∧ Below w.heap.size w w' := by
  have Hr := hidd hr
  have HG := hidd hG
  have HO := hidd hok
  have HW := hidd hW
  have HL := hidd hl
  have HN := hidd (g.gb_len W s s.size)
  clear hr hG hok hW hl
  go_enter Try.func53, Try.ntmps53
  go_wp2_with (at_make; refine mk_own rfl _ _ _ rfl w.heap.size 5 (.int .u8 0) 1 Try.underlying115 info_u8 rfl s.size rfl rfl (by omega) (by omega) (Nat.le_refl _) ?_; intro w1 ho hg hlt)
  have Ho := hidd ho
  have Bel := hidd ((Below.refl w.heap.size w).grown hg (Nat.le_refl _) (fun k hk => by cases hk))
  clear ho hg
  go_loopw [1, 16] (fun t i wr => ∃ k : Nat, k ≤ s.size ∧ i = .int .i64 k ∧ Hid (RdI wr t (g.gW W s k)) ∧ Hid (Own wr w.heap.size 5 (.slice (some ⟨w.heap.size, 0, none⟩) s.size s.size) (part (u8s (g.gb W s s.size)) s.size k (.int .u8 0))) ∧ Hid (Below w.heap.size w wr)) (fun _ i _ => s.size - (intOf i).toNat)
  case atStart => exact ⟨0, Nat.zero_le _, rfl, hidd (Hr.out.below Bel.out), hidd (by rw [part_zero]; exact Ho.out), Bel⟩
  case round =>
    clear Ho Bel
    obtain ⟨k, hk, rfl, HT, Hok, Hb⟩ := hrel
    by_cases hlt : k < s.size
    · have h48 := HL.out.lo k hlt
      have hc256 : s[k].toNat < 256 := s[k].toNat_lt
      have hlk := HL.out.hi k hlt
      have l3 := HO.out.l3
      have e2 : lt s k = s[k].toNat - 48 := by unfold lt; rw [getElem!_pos s k hlt]
      have HA := hidd (at_any g HO.out G vo vt _ (g.gW W s k) (Gm.gW_nums HO.out HW.out HL.out k hk) (by rw [g.gW_len]; exact hlen) (lt s k) hlk wr (HG.out.below Hb.out) HT.out)
      have him := Gm.im_lt HO.out (Gm.gW_nums HO.out HW.out HL.out k hk) hlk
      have HE := hidd (lt_of hlt h48)
      have i5 : (48 : Int) ≤ s[k].toNat := by omega
      have i6 : (s[k].toNat : Int) < 256 := by omega
      clear e2
      go_wp2_with fail
      rw [HE.out]
      refine HA.out.mono ?_
      rintro e w2 ⟨⟨u, rfl, hu⟩, hb⟩
      have Hok2 := hidd (Hok.out.below hb)
      have Hb2 := hidd (bel_then Hb.out hb)
      have HU := hidd (show RdI w2 u (g.gW W s (k + 1)) from hu.rdI)
      have d2 := Hok2.out.frozen k
      have d1 := Hok2.out.cell (part_get (u8s (g.gb W s s.size)) s.size k (.int .u8 0) (by rw [u8s_length]; exact HN.out) hlt)
      have HUf := hidd (hu.block)
      have hwr : w.heap.size < wr.heap.size := by
        obtain ⟨g', c', e', _, h'⟩ := Hok.out.form (by rw [part_length _ _ _ _ (by rw [u8s_length]; exact HN.out) hk]; omega)
        have h2 := congrArg Value.ownBlock e'
        have h3 : w.heap.size = g' := by simpa [Value.ownBlock] using h2
        omega
      obtain ⟨y, hy⟩ : ∃ y, y = g.im (g.gW W s k) (lt s k) := ⟨_, rfl⟩
      have HY := hidd hy
      rw [← hy] at him ⊢
      have Hu := hidd hu
      clear hb hu hy HA Hb Hok HT
      go_wp2_with (go_at_call 79; refine (letter_any _ _ (by omega) (by omega)).mono ?_; rintro e w3 ⟨rfl, rfl⟩)
      go_roundw
      case rel =>
        refine ⟨k + 1, by omega, by go_num, hidd ?_, hidd ?_, hidd (Hb2.out.setCell (Nat.le_refl _) _)⟩
        · exact (Hu.out.far (p := ⟨w.heap.size, k, none⟩) (fun h => by have := (HUf.out _ h).1; dsimp only at this; omega) _).rdI
        · have := Hok2.out.store k (.int .u8 (48 + (y : Int)))
          rwa [part_set (u8s (g.gb W s s.size)) s.size k (.int .u8 0) _ (by rw [u8s_length]; exact HN.out) hlt (by rw [u8s_get, g.gb_get W s hlt, HY.out]; rfl)] at this
      case measure => simp [intOf]; omega
    · have he : k = s.size := by omega
      subst he
      have := Hok.out
      rw [part_all _ _ _ (by rw [u8s_length]; exact HN.out)] at this
      have hcv := run_toString this.rdU
      clear this
      go_wp2_with fail
      go_ret2
      exact ⟨⟨_, rfl, HT.out⟩, Hb.out⟩

set_option maxHeartbeats 400000 in
theorem l01Own_any (v : Value) (xs : List Int) (hv : NilOk v) (hlen : xs.length ≤ 1048576) (w : World) (hr : RdI w v xs) :
    Calls Try.prog 72 #[v] w fun e w' => (∃ u, e = .returned u ∧ Own w' w.heap.size 2 u (ints xs)) ∧ Below w.heap.size w w' := by
  obtain ⟨A, c, rfl, hr⟩ := hr
  have Hr := hidd (hr.below (bel_alloc' w (.cells #[] 2)))
  have Ho := hidd (Own.empty w 2 w.heap.size (Nat.le_refl _))
  have HE := hidd (fun (h : A = none) => hv xs.length c (by rw [h]))
  have hlen2 : ([] : List Value).length + (ints xs).length ≤ 1099511627776 := by rw [ints_length]; simp; omega
  have Hl := hidd (ints_length xs)
  clear hr hv
  go_enter Try.func72, Try.ntmps72
  go_wp2_with (at_builtin; refine app_src rfl _ _ _ rfl w.heap.size 2 (.int .i64 0) 8 Try.underlying26 info_i64 rfl Ho.out Hr.out Hl.out.symm rfl rfl (ints_one xs) HE.out hlen2 (by decide) (by simp) ?_; intro v' w2 ho hgr; have Ho2 := hidd ho; have b2 := hidd ((bel_alloc' w (.cells #[] 2)).trans (bel_own Ho.out hgr (by simp))); clear ho hgr)
  go_ret
  exact ⟨⟨_, rfl, Ho2.out⟩, b2.out⟩

set_option linter.unusedSimpArgs false
set_option maxRecDepth 100000 in
set_option maxHeartbeats 1000000 in
theorem l02Act_any (g : Gm) (hok : g.Ok) (v : Value) (W : List Int) (hW : g.Nums W) (hv : NilOk v) (hlen : W.length ≤ 1048576) (s : ByteArray) (hl : Lts g.l s) (hs : s.size ≤ 1048576) (w : World) (hr : RdI w v W) :
    Calls Try.prog 46 #[.agg g.mc.cells, .agg g.inv.mc.cells, v, .string s] w fun e w' => (∃ u, e = .returned (.tuple #[.string (g.gim W s), u]) ∧ Own w' w.heap.size 2 u (ints (g.gW W s s.size))) ∧ Below w.heap.size w w' := by
  have Hr := hidd hr
  have HO := hidd hok
  have HW := hidd hW
  have HL := hidd hl
  have HV := hidd hv
  clear hr hok hW hl hv
  go_enter Try.func46, Try.ntmps46
  go_wp2_with fail
  obtain ⟨w2, hw2⟩ : ∃ w2, w2 = (w.alloc (.cells g.mc.cells 31)).alloc (.cells g.inv.mc.cells 31) := ⟨_, rfl⟩
  have hz2 : w2.heap.size = w.heap.size + 1 + 1 := by rw [hw2]; simp
  rw [← hw2, ← hz2]
  have b2 : Below w.heap.size w w2 := by rw [hw2]; exact (bel_alloc' _ _).alloc (by simp) _
  have M2 := hidd (show w2.heap[w.heap.size]? = some (.cells g.mc.cells 31 (0, 0)) by rw [hw2]; exact hp_old (hp_new rfl))
  have I2 := hidd (show w2.heap[w.heap.size + 1]? = some (.cells g.inv.mc.cells 31 (0, 0)) by rw [hw2]; exact hp_new (by simp))
  have O3 := hidd (show Own (w2.alloc (.cells #[] 5)) w2.heap.size 5 (.slice (some ⟨w2.heap.size, 0, none⟩) 0 0) (u8s (g.gb W s 0)) from Own.empty w2 5 w2.heap.size (Nat.le_refl _))
  have b23 := hidd (bel_alloc' w2 (.cells #[] 5))
  obtain ⟨w3, hw3⟩ : ∃ w3, w3 = w2.alloc (.cells #[] 5) := ⟨_, rfl⟩
  rw [← hw3] at O3 b23 ⊢
  have B2 := hidd b2
  have R3 := hidd ((Hr.out.below b2).below b23.out)
  clear hw2 hw3 b2 hz2
  refine (l01Own_any v W HV.out hlen w3 R3.out).mono ?_
  rintro e w4 ⟨⟨v4, rfl, hv4⟩, hb⟩
  have V4 := hidd (hv4.mono b23.out.size)
  have V4b := hidd hv4.block
  have b24 := hidd (bel_then b23.out hb)
  have O4 := hidd (O3.out.below hb)
  clear hb hv4
  go_wp2_with fail
  go_loopw [2, 10, 11] (fun t u i wr => ∃ k : Nat, k ≤ s.size ∧ i = .int .i64 k ∧ Hid (Own wr w2.heap.size 2 t (ints (g.gW W s k))) ∧ Hid (Own wr w2.heap.size 5 u (u8s (g.gb W s k))) ∧ Hid (Below w2.heap.size w2 wr)) (fun _ _ i _ => s.size - (intOf i).toNat)
  case atStart => exact ⟨0, Nat.zero_le _, rfl, V4, O4, b24⟩
  case round =>
    clear V4 O4 b24 O3 b23
    obtain ⟨k, hk, rfl, HT, HU, Hb⟩ := hrel
    by_cases hlt : k < s.size
    · have h48 := HL.out.lo k hlt
      have hc256 : s[k].toNat < 256 := s[k].toNat_lt
      have hlk := HL.out.hi k hlt
      have l3 := HO.out.l3
      have HE := hidd (lt_of hlt h48)
      have HA := hidd (l02Led_any g HO.out _ (g.gW W s k) (Gm.gW_nums HO.out HW.out HL.out k hk) (by rw [g.gW_len]; exact hlen) (lt s k) hlk wr.drew (HT.out.rdI.below (drew_bel wr)))
      have him := Gm.im_lt HO.out (Gm.gW_nums HO.out HW.out HL.out k hk) hlk
      have i5 : (48 : Int) ≤ s[k].toNat := by omega
      have i6 : (s[k].toNat : Int) < 256 := by omega
      have i7 : (k : Int) < s.size := by omega
      have i8 : (0 : Int) ≤ k := by omega
      have i9 : IntKind.u8.wrap ((s[k].toNat : Int) - 48) = (lt s k : Int) := by rw [HE.out]; exact IntWalk.u8_in _ (by omega)
      have S0 := hidd (show wr.drew.heap[w.heap.size]? = some (.cells g.mc.cells 31 (0, 0)) ∧ wr.drew.heap[w.heap.size + 1]? = some (.cells g.inv.mc.cells 31 (0, 0)) from ⟨hp_bel M2.out (bel_then Hb.out (drew_bel wr)), hp_bel I2.out (bel_then Hb.out (drew_bel wr))⟩)
      go_wp2_with fail
      refine wp_region_held (S := fun w' => w'.heap[w.heap.size]? = some (.cells g.mc.cells 31 (0, 0)) ∧ w'.heap[w.heap.size + 1]? = some (.cells g.inv.mc.cells 31 (0, 0))) (by kernel_rfl) ?_
      change wpAnyH _ _ _ _ _ _ _ _ (World.drew _)
      refine wpAnyH_take (i := 0) (v := ?v0) rfl (by kernel_rfl) (by kernel_rfl) (by kernel_rfl) (fun _ _ _ h => h) (Or.inl ⟨by rfl, ?h0⟩) S0.out ?_
      case h0 => (intro w4 hS; have k1 := run_loadM (W := w4) hS.1; have k2 := run_loadM (W := w4) hS.2; clear hS; go_simp; first | done | with_reducible rfl)
      simp only [Act.put, List.getElem_toArray, List.getElem_cons_succ, List.getElem_cons_zero, List.setIfInBounds_toArray, List.set_cons_zero, List.set_cons_succ]
      refine wpAnyH_take (i := 1) (v := ?v1) rfl (by kernel_rfl) (by kernel_rfl) (by kernel_rfl) (fun _ _ _ h => h) (Or.inl ⟨by rfl, ?h1⟩) S0.out ?_
      case h1 => (intro w4 hS; have k1 := run_loadM (W := w4) hS.1; have k2 := run_loadM (W := w4) hS.2; clear hS; go_simp; first | done | with_reducible rfl)
      simp only [Act.put, List.getElem_toArray, List.getElem_cons_succ, List.getElem_cons_zero, List.setIfInBounds_toArray, List.set_cons_zero, List.set_cons_succ]
      refine wpAnyH_take (i := 2) (v := ?v2) rfl (by kernel_rfl) (by kernel_rfl) (by kernel_rfl) (fun _ _ _ h => h) (Or.inl ⟨by rfl, ?h2⟩) S0.out ?_
      case h2 => (intro w4 hS; have k1 := run_loadM (W := w4) hS.1; have k2 := run_loadM (W := w4) hS.2; clear hS; go_simp; first | done | with_reducible rfl)
      simp only [Act.put, List.getElem_toArray, List.getElem_cons_succ, List.getElem_cons_zero, List.setIfInBounds_toArray, List.set_cons_zero, List.set_cons_succ]
      refine wpAnyH_take (i := 3) (v := ?v3) rfl (by kernel_rfl) (by kernel_rfl) (by kernel_rfl) (fun _ _ _ h => h) (Or.inl ⟨by rfl, ?h3⟩) S0.out ?_
      case h3 => (intro w4 hS; have k1 := run_loadM (W := w4) hS.1; have k2 := run_loadM (W := w4) hS.2; clear hS; go_simp; first | done | with_reducible rfl)
      simp only [Act.put, List.getElem_toArray, List.getElem_cons_succ, List.getElem_cons_zero, List.setIfInBounds_toArray, List.set_cons_zero, List.set_cons_succ]
      refine wpAnyH_take (i := 4) (v := ?v4) rfl (by kernel_rfl) (by kernel_rfl) (by kernel_rfl) (fun _ _ _ h => h) (Or.inl ⟨by rfl, ?h4⟩) S0.out ?_
      case h4 => (intro w4 hS; have k1 := run_loadM (W := w4) hS.1; have k2 := run_loadM (W := w4) hS.2; clear hS; go_simp; first | done | with_reducible rfl)
      simp only [Act.put, List.getElem_toArray, List.getElem_cons_succ, List.getElem_cons_zero, List.setIfInBounds_toArray, List.set_cons_zero, List.set_cons_succ]
      refine wpAnyH_take (i := 5) (v := ?v5) rfl (by kernel_rfl) (by kernel_rfl) (by kernel_rfl) (fun _ _ _ h => h) (Or.inl ⟨by rfl, ?h5⟩) S0.out ?_
      case h5 => (intro w4 hS; have k1 := run_loadM (W := w4) hS.1; have k2 := run_loadM (W := w4) hS.2; clear hS; go_simp; first | done | with_reducible rfl)
      simp only [Act.put, List.getElem_toArray, List.getElem_cons_succ, List.getElem_cons_zero, List.setIfInBounds_toArray, List.set_cons_zero, List.set_cons_succ]
      refine wpAnyH_take (i := 6) (v := ?v6) rfl (by kernel_rfl) (by kernel_rfl) (by kernel_rfl) (fun _ _ _ h => h) (Or.inl ⟨by rfl, ?h6⟩) S0.out ?_
      case h6 => (intro w4 hS; have k1 := run_loadM (W := w4) hS.1; have k2 := run_loadM (W := w4) hS.2; clear hS; go_simp; first | done | with_reducible rfl)
      simp only [Act.put, List.getElem_toArray, List.getElem_cons_succ, List.getElem_cons_zero, List.setIfInBounds_toArray, List.set_cons_zero, List.set_cons_succ]
      refine wpAnyH_ready (rs := [7]) (by kernel_rfl) (by simp) (AllReadyH.cons rfl (fun K hK => ?_) AllReadyH.nil)
      go_simp
      refine HA.out.mono ?_
      rintro e w5 ⟨⟨u5, rfl, hu5⟩, hb5⟩
      have b5 := (drew_bel wr).trans hb5
      have S5 := hidd (show w5.heap[w.heap.size]? = some (.cells g.mc.cells 31 (0, 0)) ∧ w5.heap[w.heap.size + 1]? = some (.cells g.inv.mc.cells 31 (0, 0)) from ⟨hp_bel S0.out.1 hb5, hp_bel S0.out.2 hb5⟩)
      have HU5 := hidd (HU.out.below b5)
      have Hb5 := hidd (bel_then Hb.out b5)
      have HT5 := hidd (show Own w5 w2.heap.size 2 u5 (ints (g.gW W s (k + 1))) from hu5.mono Hb.out.size)
      have HAp := hidd (own_ne HU.out hu5 (Nat.le_refl _))
      refine hK.out _ _ S5.out (fun _ => ?_)
      clear hK K hb5 b5 HA hu5 i9 S0
      obtain ⟨y, hy⟩ : ∃ y, y = g.im (g.gW W s k) (lt s k) := ⟨_, rfl⟩
      have HY := hidd (show u8s (g.gb W s (k + 1)) = u8s (g.gb W s k) ++ [.int .u8 (48 + (y : Nat))] by rw [g.gb_succ, u8s_append, hy]; rfl)
      rw [← hy] at him ⊢
      clear hy
      refine wpAnyH_take (i := 8) (v := ?v8) rfl (by kernel_rfl) (by kernel_rfl) (by kernel_rfl) (fun _ _ _ h => h) (Or.inl ⟨by rfl, ?h8⟩) S5.out ?_
      case h8 => (intro w4 hS; clear hS; go_simp; first | done | with_reducible rfl)
      simp only [Act.put, List.getElem_toArray, List.getElem_cons_succ, List.getElem_cons_zero, List.setIfInBounds_toArray, List.set_cons_zero, List.set_cons_succ]
      refine wpAnyH_take (i := 9) (v := ?v9) rfl (by kernel_rfl) (by kernel_rfl) (by kernel_rfl) (fun _ _ _ h => h) (Or.inl ⟨by rfl, ?h9⟩) S5.out ?_
      case h9 => (intro w4 hS; clear hS; go_simp; first | done | with_reducible rfl)
      simp only [Act.put, List.getElem_toArray, List.getElem_cons_succ, List.getElem_cons_zero, List.setIfInBounds_toArray, List.set_cons_zero, List.set_cons_succ]
      refine wpAnyH_take (i := 10) (v := ?v10) rfl (by kernel_rfl) (by kernel_rfl) (by kernel_rfl) (fun _ _ _ h => h) (Or.inl ⟨by rfl, ?h10⟩) S5.out ?_
      case h10 => (intro w4 hS; clear hS; go_simp; first | done | with_reducible rfl)
      simp only [Act.put, List.getElem_toArray, List.getElem_cons_succ, List.getElem_cons_zero, List.setIfInBounds_toArray, List.set_cons_zero, List.set_cons_succ]
      refine wpAnyH_take (i := 11) (v := ?v11) rfl (by kernel_rfl) (by kernel_rfl) (by kernel_rfl) (fun _ _ _ h => h) (Or.inl ⟨by rfl, ?h11⟩) S5.out ?_
      case h11 => (intro w4 hS; clear hS; go_simp; first | done | with_reducible rfl)
      simp only [Act.put, List.getElem_toArray, List.getElem_cons_succ, List.getElem_cons_zero, List.setIfInBounds_toArray, List.set_cons_zero, List.set_cons_succ]
      refine wpAnyH_take (i := 12) (v := ?v12) rfl (by kernel_rfl) (by kernel_rfl) (by kernel_rfl) (fun _ _ _ h => h) (Or.inl ⟨by rfl, ?h12⟩) S5.out ?_
      case h12 => (intro w4 hS; clear hS; go_simp; first | done | with_reducible rfl)
      simp only [Act.put, List.getElem_toArray, List.getElem_cons_succ, List.getElem_cons_zero, List.setIfInBounds_toArray, List.set_cons_zero, List.set_cons_succ]
      refine wpAnyH_done (by kernel_rfl) ?_ _
      have hlen2 : (u8s (g.gb W s k)).length + 1 ≤ 1099511627776 := by rw [u8s_length, g.gb_len]; omega
      have hbase := Hb5.out.size
      go_wp2_with (at_builtin; refine app_own rfl _ _ _ rfl w2.heap.size 5 (.int .u8 0) 1 Try.underlying115 info_u8 rfl HU5.out rfl rfl rfl hlen2 (by decide) hbase ?_; intro v' w6 ho hgr hle; have Ho2 := hidd ho; have b2 := hidd (bel_own HU5.out hgr hbase); have HT6 := hidd (HT5.out.grown hgr (HT5.out.apart HU5.out (by decide))); clear ho hgr)
      go_roundw
      case rel => exact ⟨k + 1, by omega, by go_num, HT6, hidd (by rw [HY.out]; exact Ho2.out), hidd (Hb5.out.trans b2.out)⟩
      case measure => simp [intOf]; omega
    · have he : k = s.size := by omega
      subst he
      have hcv := run_toString HU.out.rdU
      go_wp2_with fail
      go_ret2
      exact ⟨⟨_, rfl, HT.out.mono B2.out.size⟩, bel_then B2.out Hb.out⟩
end Go.Proofs.Ytcghcbdefajpgaa

/- Walks: powers, words of a level, their numbers; the words of a level in order. -/
namespace Go.Proofs.Ytcghcbdefajpgaa
open Go.RowKit

/-! ### Plain laws -/
theorem pow_bd {d n : Nat} (hd : d ≤ 3) (hn : n ≤ 5) : d ^ n ≤ 243 :=
  Nat.le_trans (Nat.pow_le_pow_left hd n) (Nat.pow_le_pow_right (by omega) hn : 3 ^ n ≤ 3 ^ 5)
/-- The last n letters of a number, as bytes. -/
def tl (d : Nat) : Nat → Nat → List Int
  | 0, _ => []
  | n + 1, k => (48 + (k / d ^ n % d : Nat) : Int) :: tl d n k
theorem tl_len (d : Nat) : ∀ n k, (tl d n k).length = n
  | 0, _ => rfl
  | n + 1, k => by rw [tl, List.length_cons, tl_len d n k]
theorem tl_snoc (d : Nat) : ∀ n k, tl d (n + 1) k = tl d n (k / d) ++ [(48 + (k % d : Nat) : Int)]
  | 0, k => by simp [tl]
  | n + 1, k => by
    rw [tl, tl_snoc d n k, tl, List.cons_append, Nat.div_div_eq_div_mul, Nat.pow_succ', Nat.mul_comm d]
theorem tl_byte (d : Nat) (hd : 1 ≤ d) (h3 : d ≤ 3) : ∀ n k, ∀ x ∈ tl d n k, 48 ≤ x ∧ x < 48 + d
  | 0, _, x, hx => by cases hx
  | n + 1, k, x, hx => by
    rw [tl] at hx
    rcases List.mem_cons.1 hx with rfl | hx
    · have := Nat.mod_lt (k / d ^ n) (show 0 < d by omega)
      omega
    · exact tl_byte d hd h3 n k x hx
/-- The word with a number. -/
def wd (d n k : Nat) : ByteArray := strOfNums (tl d n k)
theorem wd_size (d n k : Nat) : (wd d n k).size = n := by unfold wd; rw [strOfNums_size, tl_len]
theorem str_get (xs : List Int) {i : Nat} (h : i < xs.length) : (strOfNums xs)[i]'(by rw [strOfNums_size]; exact h) = UInt8.ofNat (xs[i]).toNat := by
  show (strOfNums xs).data[i]'_ = _
  simp [strOfNums]
theorem wd_lts {d : Nat} (hd : 1 ≤ d) (h3 : d ≤ 3) (n k : Nat) : Lts d (wd d n k) := by
  have key : ∀ i, (hi : i < (wd d n k).size) → 48 ≤ (wd d n k)[i].toNat ∧ (wd d n k)[i].toNat < 48 + d := fun i hi => by
    have hl : i < (tl d n k).length := by rw [wd_size] at hi; rw [tl_len]; exact hi
    have h := tl_byte d hd h3 n k _ (List.getElem_mem hl)
    have e : (wd d n k)[i] = UInt8.ofNat ((tl d n k)[i]).toNat := str_get _ hl
    rw [e, UInt8.toNat_ofNat']
    omega
  refine ⟨fun i hi => (key i hi).1, fun i hi => ?_⟩
  have := key i hi
  unfold lt
  rw [getElem!_pos _ i hi]
  omega
/-- The number of a word's first letters. -/
def nbr (d : Nat) (s : ByteArray) : Nat → Nat
  | 0 => 0
  | k + 1 => nbr d s k * d + lt s k
theorem nbr_lt {d : Nat} {s : ByteArray} (h : Lts d s) : ∀ k, k ≤ s.size → nbr d s k < d ^ k
  | 0, _ => by simp [nbr]
  | k + 1, hk => by
    have h1 := nbr_lt h k (by omega)
    have h2 := h.hi k (by omega)
    rw [nbr, Nat.pow_succ]
    have h3 : nbr d s k * d + d ≤ d ^ k * d := by
      have : (nbr d s k + 1) * d ≤ d ^ k * d := Nat.mul_le_mul_right d h1
      rw [Nat.add_mul, Nat.one_mul] at this
      exact this
    omega

/-! ### Powers -/
set_option maxHeartbeats 400000 in
theorem power_any (d n : Nat) (hd : d ≤ 3) (hn : n ≤ 5) (w : World) :
    Calls Try.prog 77 #[.int .i64 (d : Nat), .int .i64 (n : Nat)] w fun e w' => e = .returned (.int .i64 (d ^ n : Nat)) ∧ w = w' := by
  have HP := hidd (fun k (hk : k ≤ 5) => pow_bd hd hk)
  go_enter Try.func77, Try.ntmps77
  go_wp2
  go_loop [5, 7] (fun t i => ∃ k : Nat, k ≤ n ∧ i = .int .i64 k ∧ t = .int .i64 (d ^ k : Nat)) (fun _ i => n - (intOf i).toNat)
  case atStart => exact ⟨0, Nat.zero_le _, rfl, rfl⟩
  case round =>
    obtain ⟨k, hk, rfl, rfl⟩ := hrel
    by_cases hlt : k < n
    · obtain ⟨p, hp⟩ : ∃ p, p = d ^ k := ⟨_, rfl⟩
      obtain ⟨p', hp'⟩ : ∃ p, p = d ^ (k + 1) := ⟨_, rfl⟩
      have hb := HP.out (k + 1) (by omega)
      rw [← hp'] at hb
      have he : (p : Int) * (d : Int) = (p' : Int) := by rw [hp, hp', Nat.pow_succ, Int.natCast_mul]
      have HP' := hidd hp'
      rw [← hp]
      clear hp hp'
      go_wp2
      go_round
      case rel => exact ⟨k + 1, by omega, by go_num, by rw [HP'.out]⟩
      case measure => simp [intOf]; omega
    · have he : k = n := by omega
      subst he
      go_wp2
      go_ret
      exact ⟨rfl, rfl⟩
set_option maxHeartbeats 400000 in
theorem l01Power_any (d n : Nat) (hd : d ≤ 3) (hn : n ≤ 5) (w : World) :
    Calls Try.prog 45 #[.int .i64 (d : Nat), .int .i64 (n : Nat)] w fun e w' => e = .returned (.int .i64 (d ^ n : Nat)) ∧ w = w' := by
  have HP := hidd (fun k (hk : k ≤ 5) => pow_bd hd hk)
  go_enter Try.func45, Try.ntmps45
  go_wp2
  go_loop [1, 5] (fun i t => ∃ k m : Nat, k + m = n ∧ i = .int .i64 m ∧ t = .int .i64 (d ^ k : Nat)) (fun i _ => (intOf i).toNat)
  case atStart => exact ⟨0, n, by omega, rfl, rfl⟩
  case round =>
    obtain ⟨k, m, hk, rfl, rfl⟩ := hrel
    by_cases hlt : 0 < m
    · obtain ⟨m', rfl⟩ : ∃ m', m = m' + 1 := ⟨m - 1, by omega⟩
      obtain ⟨p, hp⟩ : ∃ p, p = d ^ k := ⟨_, rfl⟩
      obtain ⟨p', hp'⟩ : ∃ p, p = d ^ (k + 1) := ⟨_, rfl⟩
      have hb := HP.out (k + 1) (by omega)
      rw [← hp'] at hb
      have he : (p : Int) * (d : Int) = (p' : Int) := by rw [hp, hp', Nat.pow_succ, Int.natCast_mul]
      have HP' := hidd hp'
      rw [← hp]
      clear hp hp'
      go_wp2
      go_round
      case rel => exact ⟨k + 1, m', by omega, by go_num, by rw [HP'.out]⟩
      case measure => simp [intOf]
    · obtain rfl : m = 0 := by omega
      obtain rfl : k = n := by omega
      go_wp2
      go_ret
      exact ⟨rfl, rfl⟩

/-! ### The word of a number -/
theorem tl_step (d n j k : Nat) (hj : j < n) : (List.replicate (n - j) (Value.int .u8 0) ++ u8s (tl d j k)).set (n - j - 1) (.int .u8 (48 + (k / d ^ j % d : Nat) : Int)) = List.replicate (n - (j + 1)) (Value.int .u8 0) ++ u8s (tl d (j + 1) k) := by
  have e : n - j = (n - (j + 1)) + 1 := by omega
  rw [e, List.replicate_succ', List.append_assoc]
  rw [show n - (j + 1) + 1 - 1 = n - (j + 1) by omega, List.set_append_right _ _ (by simp)]
  simp [tl, u8s]
set_option maxRecDepth 100000 in
set_option maxHeartbeats 1000000 in
theorem wordOf_any (d n k : Nat) (hd : 2 ≤ d) (h3 : d ≤ 3) (hn : n ≤ 5) (hk : k ≤ 243) (w : World) :
    Calls Try.prog 78 #[.int .i64 (d : Nat), .int .i64 (n : Nat), .int .i64 (k : Nat)] w fun e w' => e = .returned (.string (wd d n k)) ∧ Below w.heap.size w w' := by
  go_enter Try.func78, Try.ntmps78
  go_wp2_with (at_make; refine mk_own rfl _ _ _ rfl w.heap.size 5 (.int .u8 0) 1 Try.underlying115 info_u8 rfl n rfl rfl (by omega) (by omega) (Nat.le_refl _) ?_; intro w1 ho hg hlt)
  have Ho := hidd ho
  have Bel := hidd ((Below.refl w.heap.size w).grown hg (Nat.le_refl _) (fun k hk => by cases hk))
  clear ho hg
  go_loopw [2, 8] (fun t i wr => ∃ j : Nat, j ≤ n ∧ i = .int .i64 ((n : Int) - 1 - j) ∧ t = .int .i64 (k / d ^ j : Nat) ∧ Hid (Own wr w.heap.size 5 (.slice (some ⟨w.heap.size, 0, none⟩) n n) (List.replicate (n - j) (Value.int .u8 0) ++ u8s (tl d j k))) ∧ Hid (Below w.heap.size w wr)) (fun _ i _ => (intOf i + 1).toNat)
  case atStart => exact ⟨0, Nat.zero_le _, by go_num, by simp, hidd (by simpa [tl, u8s] using Ho.out), Bel⟩
  case round =>
    clear Ho Bel
    obtain ⟨j, hj, rfl, rfl, HP, Hb⟩ := hrel
    by_cases hlt : j < n
    · obtain ⟨p, hp⟩ : ∃ p, p = k / d ^ j := ⟨_, rfl⟩
      have hpk : p ≤ k := by rw [hp]; exact Nat.div_le_self _ _
      obtain ⟨r, hr⟩ : ∃ r, r = p % d := ⟨_, rfl⟩
      obtain ⟨p', hp'⟩ : ∃ p', p' = p / d := ⟨_, rfl⟩
      have hrd : r < d := by rw [hr]; exact Nat.mod_lt _ (by omega)
      have e1 : (p : Int) % (d : Int) = (r : Int) := by rw [hr]; rfl
      have e2 : (p : Int) / (d : Int) = (p' : Int) := by rw [hp']; rfl
      have HS := hidd (tl_step d n j k hlt)
      have hpb : p' ≤ 243 := Nat.le_trans (by rw [hp']; exact Nat.div_le_self _ _) (Nat.le_trans hpk hk)
      have HR := hidd (show k / d ^ j % d = r by rw [← hp, hr])
      have HQ := hidd (show k / d ^ (j + 1) = p' by rw [hp', hp, Nat.div_div_eq_div_mul, Nat.pow_succ])
      obtain ⟨m, hm⟩ : ∃ m, n = m + j + 1 := ⟨n - j - 1, by omega⟩
      have hi : (n : Int) - 1 - (j : Int) = (m : Int) := by omega
      have d2 := HP.out.frozen m
      have d1 := HP.out.cell (j := m) (v := .int .u8 0) (by
        rw [List.getElem?_append_left (by rw [List.length_replicate]; omega), List.getElem?_replicate, if_pos (by omega)])
      have hmn : (m : Int) < n := by omega
      have HM := hidd hm
      rw [← hp, hi]
      clear hp hr hp' hm hi
      go_wp2_with (go_at_call 79; refine (letter_any _ _ (by omega) (by omega)).mono ?_; rintro e w3 ⟨rfl, rfl⟩)
      go_roundw
      case rel =>
        refine ⟨j + 1, by omega, ?_, by rw [HQ.out], hidd ?_, hidd (Hb.out.setCell (Nat.le_refl _) _)⟩
        · rw [show (n : Int) - 1 - ((j + 1 : Nat) : Int) = (m : Int) - 1 by have := HM.out; omega]
        · have := HP.out.store m (.int .u8 (48 + (r : Nat) : Int))
          have h2 := HS.out
          rw [HR.out, show n - j - 1 = m by have := HM.out; omega] at h2
          rw [h2] at this
          exact this
      case measure => first | (simp [intOf]; done) | (simp [intOf]; omega)
    · have he : j = n := by omega
      subst he
      have := HP.out
      rw [show j - j = 0 by omega, List.replicate_zero, List.nil_append] at this
      have hcv := run_toString this.rdU
      clear this
      have hi : (j : Int) - 1 - (j : Int) = -1 := by omega
      rw [hi]
      clear hi
      go_wp2_with fail
      go_ret
      exact ⟨rfl, Hb.out⟩

theorem strOfNums_append (xs ys : List Int) : strOfNums (xs ++ ys) = strOfNums xs ++ strOfNums ys := by
  apply ByteArray.ext
  apply Array.toList_inj.1
  rw [strOfNums_data, ByteArray.data_append, Array.toList_append, strOfNums_data, strOfNums_data, List.map_append]
theorem drew_bel' (w : World) : Below w.heap.size w w.drew := (bel_drewN (Below.refl _ w) 1)
theorem RdU.one {w : World} {g : Nat} {x : Int} {t : TypeId} (h : w.heap[g]? = some (.cells #[.int .u8 x] t (0, 0))) : RdU w (.slice (some ⟨g, 0, none⟩) 1 1) [x] :=
  ⟨_, 1, rfl, by simp [u8s], fun _ => ⟨g, 0, rfl, fun j v hj => by
    match j, hj with
    | 0, hj => rw [blkc h]; simpa [u8s] using hj⟩⟩
set_option linter.unusedSimpArgs false
set_option maxRecDepth 100000 in
set_option maxHeartbeats 1000000 in
theorem l01WordOf_any (d : Nat) (hd : 2 ≤ d) (h3 : d ≤ 3) : ∀ (n k : Nat), n ≤ 5 → k ≤ 243 → ∀ (w : World),
    Calls Try.prog 47 #[.int .i64 (d : Nat), .int .i64 (n : Nat), .int .i64 (k : Nat)] w fun e w' => e = .returned (.string (wd d n k)) ∧ Below w.heap.size w w'
  | 0, k, _, _, w => by
    go_enter Try.func47, Try.ntmps47
    go_wp2_with fail
    go_ret
    exact ⟨rfl, Below.refl _ _⟩
  | n + 1, k, hn, hk, w => by
    obtain ⟨p', hp'⟩ : ∃ p', p' = k / d := ⟨_, rfl⟩
    obtain ⟨r, hr⟩ : ∃ r, r = k % d := ⟨_, rfl⟩
    have hpk : p' ≤ k := by rw [hp']; exact Nat.div_le_self _ _
    have hrd : r < d := by rw [hr]; exact Nat.mod_lt _ (by omega)
    have e1 : (k : Int) % (d : Int) = (r : Int) := by rw [hr]; rfl
    have e2 : (k : Int) / (d : Int) = (p' : Int) := by rw [hp']; rfl
    have IH := hidd (fun W => l01WordOf_any d hd h3 n p' (by omega) (by omega) W)
    have HW := hidd (show tl d (n + 1) k = tl d n p' ++ [(48 + (r : Nat) : Int)] by rw [tl_snoc, hp', hr])
    have HC := hidd (show wd d n p' ++ strOfNums [(48 + (r : Nat) : Int)] = wd d (n + 1) k by unfold wd; rw [HW.out, strOfNums_append])
    have HZ := hidd (show ¬ 9223372036854775807 < (wd d n p').size + (strOfNums [(48 + (r : Nat) : Int)]).size by
      rw [wd_size, strOfNums_size, List.length_singleton]; omega)
    have d0 : ¬ d = 0 := by omega
    have r1 : IntKind.u8.wrap (48 + (r : Int)) = 48 + (r : Int) := IntWalk.u8_in _ (by omega)
    have r2 : IntKind.i64.wrap (p' : Int) = (p' : Int) := IntWalk.i64_in _ (by omega)
    have r3 : IntKind.i64.wrap (r : Int) = (r : Int) := IntWalk.i64_in _ (by omega)
    have r4 : IntKind.i64.wrap (48 + (r : Int)) = 48 + (r : Int) := IntWalk.i64_in _ (by omega)
    have r5 : IntKind.i64.wrap (n : Int) = (n : Int) := IntWalk.i64_in _ (by omega)
    have r6 : (k : Int).tmod (d : Int) = (r : Int) := by rw [Int.tmod_eq_emod_of_nonneg (by omega), e1]
    have r7 : (k : Int).tdiv (d : Int) = (p' : Int) := by rw [Int.tdiv_eq_ediv_of_nonneg (by omega), e2]
    clear hp' hr
    go_enter Try.func47, Try.ntmps47
    go_wp2_with fail
    refine wp_region_held (S := fun _ => True) (by kernel_rfl) ?_
    change wpAnyH _ _ _ _ _ _ _ _ (World.drew _)
    refine wpAnyH_take (i := 0) (v := ?v0) rfl (by kernel_rfl) (by kernel_rfl) (by kernel_rfl) (fun _ _ _ h => h) (Or.inl ⟨by rfl, ?h0⟩) trivial ?_
    case h0 => (intro w2 hS; clear hS; go_simp; first | done | with_reducible rfl)
    simp only [Act.put, List.getElem_toArray, List.getElem_cons_succ, List.getElem_cons_zero, List.setIfInBounds_toArray, List.set_cons_zero, List.set_cons_succ]
    refine wpAnyH_take (i := 1) (v := ?v1) rfl (by kernel_rfl) (by kernel_rfl) (by kernel_rfl) (fun _ _ _ h => h) (Or.inl ⟨by rfl, ?h1⟩) trivial ?_
    case h1 => (intro w2 hS; clear hS; go_simp; first | done | with_reducible rfl)
    simp only [Act.put, List.getElem_toArray, List.getElem_cons_succ, List.getElem_cons_zero, List.setIfInBounds_toArray, List.set_cons_zero, List.set_cons_succ]
    refine wpAnyH_take (i := 2) (v := ?v2) rfl (by kernel_rfl) (by kernel_rfl) (by kernel_rfl) (fun _ _ _ h => h) (Or.inl ⟨by rfl, ?h2⟩) trivial ?_
    case h2 => (intro w2 hS; clear hS; go_simp; first | done | with_reducible rfl)
    simp only [Act.put, List.getElem_toArray, List.getElem_cons_succ, List.getElem_cons_zero, List.setIfInBounds_toArray, List.set_cons_zero, List.set_cons_succ]
    refine wpAnyH_take (i := 3) (v := ?v3) rfl (by kernel_rfl) (by kernel_rfl) (by kernel_rfl) (fun _ _ _ h => h) (Or.inl ⟨by rfl, ?h3⟩) trivial ?_
    case h3 => (intro w2 hS; clear hS; go_simp; first | done | with_reducible rfl)
    simp only [Act.put, List.getElem_toArray, List.getElem_cons_succ, List.getElem_cons_zero, List.setIfInBounds_toArray, List.set_cons_zero, List.set_cons_succ]
    refine wpAnyH_take (i := 4) (v := ?v4) rfl (by kernel_rfl) (by kernel_rfl) (by kernel_rfl) (fun _ _ _ h => h) (Or.inl ⟨by rfl, ?h4⟩) trivial ?_
    case h4 => (intro w2 hS; clear hS; go_simp; first | done | with_reducible rfl)
    simp only [Act.put, List.getElem_toArray, List.getElem_cons_succ, List.getElem_cons_zero, List.setIfInBounds_toArray, List.set_cons_zero, List.set_cons_succ]
    refine wpAnyH_take (i := 5) (v := ?v5) rfl (by kernel_rfl) (by kernel_rfl) (by kernel_rfl) (fun _ _ _ h => h) (Or.inl ⟨by rfl, ?h5⟩) trivial ?_
    case h5 => (intro w2 hS; clear hS; go_simp; first | done | with_reducible rfl)
    simp only [Act.put, List.getElem_toArray, List.getElem_cons_succ, List.getElem_cons_zero, List.setIfInBounds_toArray, List.set_cons_zero, List.set_cons_succ]
    refine wpAnyH_take (i := 7) (v := ?v7) rfl (by kernel_rfl) (by kernel_rfl) (by kernel_rfl) (fun _ _ _ h => h) (Or.inl ⟨by rfl, ?h7⟩) trivial ?_
    case h7 => (intro w2 hS; clear hS; go_simp; first | done | with_reducible rfl)
    simp only [Act.put, List.getElem_toArray, List.getElem_cons_succ, List.getElem_cons_zero, List.setIfInBounds_toArray, List.set_cons_zero, List.set_cons_succ]
    refine wpAnyH_take (i := 8) (v := ?v8) rfl (by kernel_rfl) (by kernel_rfl) (by kernel_rfl) (fun _ _ _ h => h) (Or.inl ⟨by rfl, ?h8⟩) trivial ?_
    case h8 => (intro w2 hS; clear hS; go_simp; first | done | with_reducible rfl)
    simp only [Act.put, List.getElem_toArray, List.getElem_cons_succ, List.getElem_cons_zero, List.setIfInBounds_toArray, List.set_cons_zero, List.set_cons_succ]
    refine wpAnyH_take (i := 9) (v := ?v9) rfl (by kernel_rfl) (by kernel_rfl) (by kernel_rfl) (fun _ _ _ h => h) (Or.inl ⟨by rfl, ?h9⟩) trivial ?_
    case h9 => (intro w2 hS; clear hS; go_simp; first | done | with_reducible rfl)
    simp only [Act.put, List.getElem_toArray, List.getElem_cons_succ, List.getElem_cons_zero, List.setIfInBounds_toArray, List.set_cons_zero, List.set_cons_succ]
    refine wpAnyH_take (i := 10) (v := ?v10) rfl (by kernel_rfl) (by kernel_rfl) (by kernel_rfl) (fun _ _ _ h => h) (Or.inl ⟨by rfl, ?h10⟩) trivial ?_
    case h10 => (intro w2 hS; clear hS; go_simp; first | done | with_reducible rfl)
    simp only [Act.put, List.getElem_toArray, List.getElem_cons_succ, List.getElem_cons_zero, List.setIfInBounds_toArray, List.set_cons_zero, List.set_cons_succ]
    refine wpAnyH_take (i := 11) (v := ?v11) rfl (by kernel_rfl) (by kernel_rfl) (by kernel_rfl) (fun _ _ _ h => h) (Or.inl ⟨by rfl, ?h11⟩) trivial ?_
    case h11 => (intro w2 hS; clear hS; go_simp; first | done | with_reducible rfl)
    simp only [Act.put, List.getElem_toArray, List.getElem_cons_succ, List.getElem_cons_zero, List.setIfInBounds_toArray, List.set_cons_zero, List.set_cons_succ]
    refine wpAnyH_grow (fun _ _ _ h => h) 1 #[true, true, true, true, true, true, true, true, true, true, true, true, true, true, true, false] [Ft.val 6 15 (.string (wd d n p')), ⟨12, 21, false, fun v w => ∃ g, v = .slice (some ⟨g, 0, none⟩) 1 1 ∧ w.heap[g]? = some (.cells #[.int .u8 (48 + (r : Nat))] 5 (0, 0)), fun v w w' hb ⟨g, e, h⟩ => ⟨g, e, hp_bel h hb⟩⟩, Ft.val 13 22 (.string (strOfNums [(48 + (r : Nat) : Int)])), Ft.val 14 23 (.string (wd d (n + 1) k))] [6, 12, 13, 14] [15, 21, 22, 23] rfl rfl (by kernel_rfl) ?_ trivial ?_
    · simp only [List.forall_mem_cons]
      refine ⟨?_, ?_, ?_, ?_, fun _ h => by cases h⟩
      · refine ⟨_, rfl, rfl, fun u w2 hS hb hf K hK => ?_⟩
        simp only [putT, List.map_cons, List.map_nil, Ft.val, putF, List.foldl_cons, List.foldl_nil, Act.put, List.setIfInBounds_toArray, List.set_cons_zero, List.set_cons_succ] at hK ⊢
        clear hS hf
        go_simp
        refine (IH.out w2).mono ?_
        rintro e w3 ⟨rfl, hb3⟩
        exact hK _ _ hb3 rfl (fun h => by cases h)
      · refine ⟨_, rfl, rfl, fun u w2 hS hb hf K hK => ?_⟩
        simp only [putT, List.map_cons, List.map_nil, Ft.val, putF, List.foldl_cons, List.foldl_nil, Act.put, List.setIfInBounds_toArray, List.set_cons_zero, List.set_cons_succ] at hK ⊢
        clear hS hf
        go_simp
        exact hK _ _ (bel_alloc' _ _) ⟨_, rfl, hp_new rfl⟩ (fun h => by cases h)
      · refine ⟨_, rfl, rfl, fun u w2 hS hb hf K hK => ?_⟩
        obtain ⟨gb, e21, h21⟩ := fs_at hf 1 _ rfl (by kernel_rfl)
        have e21' : u 21 = .slice (some ⟨gb, 0, none⟩) 1 1 := e21
        have hcv := run_toString (RdU.one h21)
        simp only [putT, List.map_cons, List.map_nil, Ft.val, putF, List.foldl_cons, List.foldl_nil, Act.put, List.setIfInBounds_toArray, List.set_cons_zero, List.set_cons_succ] at hK ⊢
        rw [e21'] at hK ⊢
        clear hS hf e21 e21'
        go_simp
        exact hK _ _ (Below.refl _ _) rfl (fun h => by cases h)
      · refine ⟨_, rfl, rfl, fun u w2 hS hb hf K hK => ?_⟩
        have e15 : u 15 = .string (wd d n p') := fs_at hf 0 _ rfl (by kernel_rfl)
        have e22 : u 22 = .string (strOfNums [(48 + (r : Nat) : Int)]) := fs_at hf 2 _ rfl (by kernel_rfl)
        simp only [putT, List.map_cons, List.map_nil, Ft.val, putF, List.foldl_cons, List.foldl_nil, Act.put, List.setIfInBounds_toArray, List.set_cons_zero, List.set_cons_succ] at hK ⊢
        rw [e15, e22] at hK ⊢
        clear hS hf e15 e22
        go_simp
        rw [if_neg HZ.out, HC.out]
        exact hK _ _ (Below.refl _ _) rfl (fun h => by cases h)
    · intro u w2 hS hb hf hne
      have e23 : u 23 = .string (wd d (n + 1) k) := fs_all hf 3 _ rfl
      have hb2 := hidd ((drew_bel' w).trans hb)
      simp only [putT, List.map_cons, List.map_nil, Ft.val, putF, List.foldl_cons, List.foldl_nil, Act.put, List.setIfInBounds_toArray, List.set_cons_zero, List.set_cons_succ, List.getElem_toArray, List.getElem_cons_succ, List.getElem_cons_zero, e23]
      clear hf hne e23 hb hS
      refine wpAnyH_take (i := 15) (v := ?v15) rfl (by kernel_rfl) (by kernel_rfl) (by kernel_rfl) (fun _ _ _ h => h) (Or.inl ⟨by rfl, ?h15⟩) trivial ?_
      case h15 => (intro w2 hS; clear hS; go_simp; first | done | with_reducible rfl)
      simp only [Act.put, List.getElem_toArray, List.getElem_cons_succ, List.getElem_cons_zero, List.setIfInBounds_toArray, List.set_cons_zero, List.set_cons_succ]
      refine wpAnyH_done (by kernel_rfl) ?_ _
      go_wp2_with fail
      go_ret
      exact ⟨rfl, hb2.out⟩
end Go.Proofs.Ytcghcbdefajpgaa

/- Walks: powers, words of a level. -/

/- Walks: the words of a level in order, the permutation of a level. -/
namespace Go.Proofs.Ytcghcbdefajpgaa
open Go.RowKit

/-- The first k words of a level. -/
def lv (d n k : Nat) : List Value := (List.range k).map fun i => .string (wd d n i)
theorem lv_len (d n k : Nat) : (lv d n k).length = k := by simp [lv]
theorem lv_succ (d n k : Nat) : lv d n (k + 1) = lv d n k ++ [.string (wd d n k)] := by simp [lv, List.range_succ]
theorem lv_get (d n : Nat) {k i : Nat} (h : i < k) : (lv d n k)[i]? = some (.string (wd d n i)) := by simp [lv, h]
theorem info_str : (Try.prog.info? 9).map (fun i => (i.zero, i.size, i.bytes)) = some (some (.string ⟨#[]⟩), 1, 16) := by kernel_rfl

set_option maxRecDepth 100000 in
set_option maxHeartbeats 1000000 in
theorem level_any (d n N : Nat) (hd : 2 ≤ d) (h3 : d ≤ 3) (hn : n ≤ 5) (hN : N = d ^ n) (w : World) :
    Calls Try.prog 52 #[.int .i64 (d : Nat), .int .i64 (n : Nat)] w fun e w' => (∃ v, e = .returned v ∧ Own w' w.heap.size 9 v (lv d n N)) ∧ Below w.heap.size w w' := by
  have hN2 : N ≤ 243 := by rw [hN]; exact pow_bd h3 hn
  have HP := hidd (fun W => show Calls Try.prog 77 #[.int .i64 (d : Nat), .int .i64 (n : Nat)] W fun e w' => e = .returned (.int .i64 (N : Nat)) ∧ W = w' from hN ▸ power_any d n h3 hn W)
  clear hN
  go_enter Try.func52, Try.ntmps52
  go_wp2_with fail
  refine (HP.out w).mono ?_
  rintro e w1 ⟨rfl, rfl⟩
  go_wp2_with fail
  go_loopw [5, 10] (fun t i wr => ∃ k : Nat, k ≤ N ∧ i = .int .i64 k ∧ Hid (Own wr w.heap.size 9 t (lv d n k)) ∧ Hid (Below w.heap.size w wr)) (fun _ i _ => N - (intOf i).toNat)
  case atStart => exact ⟨0, Nat.zero_le _, rfl, hidd (Own.nil _ _ _), hidd (Below.refl _ _)⟩
  case round =>
    obtain ⟨k, hk, rfl, HU, Hb⟩ := hrel
    by_cases hlt : k < N
    · have i1 : (k : Int) < N := by omega
      go_wp2_with fail
      refine (wordOf_any d n k hd h3 hn (by omega) wr).mono ?_
      rintro e w2 ⟨rfl, hb⟩
      have HU2 := hidd (HU.out.below (hb))
      have Hb2 := hidd (bel_then Hb.out hb)
      have hlen2 : (lv d n k).length + 1 ≤ 1099511627776 := by rw [lv_len]; omega
      have hbase := Hb2.out.size
      clear hb HU Hb
      go_wp2_with (at_builtin; refine app_own rfl _ _ _ rfl w.heap.size 9 (.string ⟨#[]⟩) 16 Try.underlying90 info_str rfl HU2.out rfl rfl rfl hlen2 (by decide) hbase ?_; intro v' w6 ho hgr hle; have Ho2 := hidd ho; have b2 := hidd (bel_own HU2.out hgr hbase); clear ho hgr)
      go_roundw
      case rel => exact ⟨k + 1, by omega, by go_num, hidd (by rw [lv_succ]; exact Ho2.out), hidd (Hb2.out.trans b2.out)⟩
      case measure => first | (simp [intOf]; done) | (simp [intOf]; omega)
    · have he : k = N := by omega
      subst he
      go_wp2_with fail
      go_ret
      exact ⟨⟨_, rfl, HU.out⟩, Hb.out⟩

/-! ### The permutation of a level -/
def prmK (d n : Nat) (F : ByteArray → ByteArray) (k : Nat) : List Int := (List.range k).map fun i => (nbr d (F (wd d n i)) n : Int)
theorem prmK_len (d n : Nat) (F : ByteArray → ByteArray) (k : Nat) : (prmK d n F k).length = k := by simp [prmK]
theorem prmK_succ (d n : Nat) (F : ByteArray → ByteArray) (k : Nat) : prmK d n F (k + 1) = prmK d n F k ++ [(nbr d (F (wd d n k)) n : Int)] := by simp [prmK, List.range_succ]

end Go.Proofs.Ytcghcbdefajpgaa

/- Walks: levels and their permutations, beside the groups. -/

/- Walks: PermutationOf, of the program and of the reference. -/
namespace Go.Proofs.Ytcghcbdefajpgaa
open Go.RowKit

theorem bytes_lts {d : Nat} (h3 : d ≤ 3) (xs : List Int) (h : ∀ x ∈ xs, 48 ≤ x ∧ x < 48 + d) : Lts d (strOfNums xs) := by
  have key : ∀ i, (hi : i < (strOfNums xs).size) → 48 ≤ (strOfNums xs)[i].toNat ∧ (strOfNums xs)[i].toNat < 48 + d := fun i hi => by
    have hl : i < xs.length := by rw [strOfNums_size] at hi; exact hi
    have h := h _ (List.getElem_mem hl)
    have e : (strOfNums xs)[i] = UInt8.ofNat (xs[i]).toNat := str_get _ hl
    rw [e, UInt8.toNat_ofNat']
    omega
  refine ⟨fun i hi => (key i hi).1, fun i hi => ?_⟩
  have := key i hi
  unfold lt
  rw [getElem!_pos _ i hi]
  omega
theorem Gm.gim_lts {g : Gm} (hok : g.Ok) {W : List Int} (hW : g.Nums W) {s : ByteArray} (hs : Lts g.l s) : Lts g.l (g.gim W s) := by
  refine bytes_lts hok.l3 _ fun x hx => ?_
  obtain ⟨k, hk, rfl⟩ := List.mem_map.1 hx
  have := Gm.im_lt hok (Gm.gW_nums hok hW hs k (Nat.le_of_lt (List.mem_range.1 hk))) (hs.hi k (List.mem_range.1 hk))
  omega
/-- The permutation of a level. -/
def Gm.prm (g : Gm) (W : List Int) (n : Nat) : List Int := prmK g.l n (g.gim W) (g.l ^ n)

/-! ### The reference -/
set_option linter.unusedSimpArgs false
/-! ### PermutationOf -/
def pmoR (m : Mc) (xs : List Int) (n : Int) : List Int × Int := if codeW m [xs] = 0 then (if 0 ≤ n ∧ n ≤ 5 then (m.gm.prm xs n.toNat, 0) else ([], 2)) else ([], 1)
theorem Gm.prm_len (g : Gm) (W : List Int) (n : Nat) : (g.prm W n).length = g.l ^ n := prmK_len _ _ _ _
theorem pmoR_len (m : Mc) (xs : List Int) (n : Int) : (pmoR m xs n).1.length ≤ 1048576 := by
  unfold pmoR
  split
  · rename_i h
    obtain ⟨g, rfl, hok, hw⟩ := codeW_zero h
    split
    · rename_i hn
      show (g.prm xs n.toNat).length ≤ _
      rw [g.prm_len]
      have := pow_bd hok.l3 (show n.toNat ≤ 5 by omega)
      omega
    · exact Nat.zero_le _
  · exact Nat.zero_le _

set_option linter.unusedSimpArgs false
end Go.Proofs.Ytcghcbdefajpgaa

/- Walks: FirstDifference, of the program and of the reference. -/
namespace Go.Proofs.Ytcghcbdefajpgaa
open Go.RowKit

/-! ### Plain laws -/
theorem str_ne {a b : ByteArray} (h : ¬ a = b) : (a.toList == b.toList) = false := by
  rw [beq_eq_false_iff_ne]
  intro e
  rw [ByteArray.toList_eq, ByteArray.toList_eq] at e
  exact h (ByteArray.ext (Array.toList_inj.1 e))
def Gm.fne (g : Gm) (X Y : List Int) (n k : Nat) : Bool := decide (g.gim X (wd g.l n k) ≠ g.gim Y (wd g.l n k))
def Gm.fdk (g : Gm) (X Y : List Int) (n : Nat) : Nat := first (g.fne X Y n) (g.l ^ n)
def Gm.fdn (g : Gm) (X Y : List Int) : Nat := first (fun n => decide (g.fdk X Y n < g.l ^ n)) 6
/-- The first word where two group words differ. -/
def Gm.fd (g : Gm) (X Y : List Int) : ByteArray × Int := if g.fdn X Y < 6 then (wd g.l (g.fdn X Y) (g.fdk X Y (g.fdn X Y)), 0) else (⟨#[]⟩, 4)
/-- No difference in the levels before n. -/
def Gm.Sm (g : Gm) (X Y : List Int) (n k : Nat) : Prop := ∀ i, i < k → g.gim X (wd g.l n i) = g.gim Y (wd g.l n i)
theorem Gm.Sm.step {g : Gm} {X Y : List Int} {n k : Nat} (h : g.Sm X Y n k) (he : g.gim X (wd g.l n k) = g.gim Y (wd g.l n k)) : g.Sm X Y n (k + 1) := fun i hi => by
  by_cases h' : i = k
  · subst h'; exact he
  · exact h i (by omega)
theorem Gm.Sm.zero (g : Gm) (X Y : List Int) (n : Nat) : g.Sm X Y n 0 := fun i hi => by omega
theorem Gm.sm_zero (g : Gm) (X Y : List Int) (k : Nat) : g.Sm X Y 0 k := fun i hi => by
  have e : ∀ W, g.gim W (wd g.l 0 i) = ⟨#[]⟩ := fun W => by
    have h := g.gim_size W (wd g.l 0 i)
    rw [wd_size] at h
    have h2 : (g.gim W (wd g.l 0 i)).data.size = 0 := h
    exact ByteArray.ext (Array.eq_empty_of_size_eq_zero h2)
  rw [e, e]
def Gm.Sml (g : Gm) (X Y : List Int) (n : Nat) : Prop := ∀ r, r < n → g.Sm X Y r (g.l ^ r)
theorem Gm.Sml.step {g : Gm} {X Y : List Int} {n : Nat} (h : g.Sml X Y n) (he : g.Sm X Y n (g.l ^ n)) : g.Sml X Y (n + 1) := fun i hi => by
  by_cases h' : i = n
  · subst h'; exact he
  · exact h i (by omega)
theorem Gm.Sml.zero (g : Gm) (X Y : List Int) : g.Sml X Y 0 := fun i hi => by omega
theorem Gm.Sml.one (g : Gm) (X Y : List Int) : g.Sml X Y 1 := (Gm.Sml.zero g X Y).step (g.sm_zero X Y _)
theorem Gm.Sm.fdk {g : Gm} {X Y : List Int} {n : Nat} (h : g.Sm X Y n (g.l ^ n)) : ¬ g.fdk X Y n < g.l ^ n := fun hlt => by
  have h1 := (first_spec (g.fne X Y n) (g.l ^ n)).2.1 hlt
  have h2 := h (g.fdk X Y n) hlt
  unfold Gm.fne at h1
  exact of_decide_eq_true h1 h2
theorem Gm.fd_at {g : Gm} {X Y : List Int} {n k : Nat} (hn : n < 6) (hk : k < g.l ^ n) (hl : g.Sml X Y n) (hs : g.Sm X Y n k) (hne : ¬ g.gim X (wd g.l n k) = g.gim Y (wd g.l n k)) : g.fd X Y = (wd g.l n k, 0) := by
  have ek : g.fdk X Y n = k := first_eq (Nat.le_of_lt hk) (fun _ => decide_eq_true hne) (fun r hr => decide_eq_false (fun h => h (hs r hr)))
  have en : g.fdn X Y = n := first_eq (Nat.le_of_lt hn) (fun _ => decide_eq_true (by rw [ek]; exact hk)) (fun r hr => decide_eq_false (hl r hr).fdk)
  unfold Gm.fd
  rw [en, if_pos hn, ek]
theorem Gm.fd_no {g : Gm} {X Y : List Int} (hl : g.Sml X Y 6) : g.fd X Y = (⟨#[]⟩, 4) := by
  have en : g.fdn X Y = 6 := first_eq (Nat.le_refl _) (fun h => absurd h (by omega)) (fun r hr => decide_eq_false (hl r hr).fdk)
  unfold Gm.fd
  rw [en, if_neg (by omega)]
def fdR (m : Mc) (xs ys : List Int) : ByteArray × Int := if codeW m [xs, ys] = 0 then m.gm.fd xs ys else (⟨#[]⟩, 1)

theorem codeW_ne {m : Mc} {xss : List (List Int)} (h : ¬ codeW m xss = 0) : codeW m xss = 1 := codeW_one h

set_option linter.unusedSimpArgs false
end Go.Proofs.Ytcghcbdefajpgaa

/- A slice of slices with its rows in sight; a slice of numbers beside it. -/
namespace Go.Proofs.Ytcghcbdefajpgaa
open Go.RowKit

structure LLr (w : World) (B : Nat) (v : Value) (rows : List Value) (xss : List (List Int)) : Prop where
  v : Own w B 26 v rows
  len : rows.length = xss.length
  row : ∀ (j : Nat) (r : Value) (ys : List Int), rows[j]? = some r → xss[j]? = some ys → Own w B 2 r (ints ys)
  ap : ∀ (i j : Nat) (r u : Value), rows[i]? = some r → rows[j]? = some u → i ≠ j → Apart r u
/-- A slice lies apart from all rows. -/
def Off (u : Value) (rows : List Value) : Prop := ∀ (j : Nat) (r : Value), rows[j]? = some r → Apart r u
theorem LLr.ll {w : World} {B : Nat} {v : Value} {rows : List Value} {xss : List (List Int)} (h : LLr w B v rows xss) : OwnLL w B v xss := ⟨rows, h.v, h.len, h.row, h.ap⟩
theorem OwnLL.llr {w : World} {B : Nat} {v : Value} {xss : List (List Int)} (h : OwnLL w B v xss) : ∃ rows, LLr w B v rows xss := by
  obtain ⟨rows, h1, h2, h3, h4⟩ := h
  exact ⟨rows, h1, h2, h3, h4⟩
theorem LLr.nil (w : World) (B : Nat) : LLr w B (.slice none 0 0) [] [] := ⟨Own.nil _ _ _, rfl, fun j r xs h => by simp at h, fun i j r u h => by simp at h⟩
theorem LLr.below {w w' : World} {B : Nat} {v : Value} {rows : List Value} {xss : List (List Int)} (h : LLr w B v rows xss) (hb : Below w.heap.size w w') : LLr w' B v rows xss :=
  ⟨h.v.below hb, h.len, fun j r xs h1 h2 => (h.row j r xs h1 h2).below hb, h.ap⟩
theorem LLr.mono {w : World} {B B' : Nat} {v : Value} {rows : List Value} {xss : List (List Int)} (h : LLr w B v rows xss) (hb : B' ≤ B) : LLr w B' v rows xss :=
  ⟨h.v.mono hb, h.len, fun j r xs h1 h2 => (h.row j r xs h1 h2).mono hb, h.ap⟩
theorem LLr.rd {w : World} {B : Nat} {v : Value} {rows : List Value} {xss : List (List Int)} (h : LLr w B v rows xss) : RdLL w v xss := h.ll.rdLL
/-- A row stands for every list. -/
theorem LLr.list {w : World} {B : Nat} {v : Value} {rows : List Value} {xss : List (List Int)} (h : LLr w B v rows xss) {j : Nat} {r : Value} (hj : rows[j]? = some r) : ∃ ys, xss[j]? = some ys ∧ Own w B 2 r (ints ys) := by
  have hlt : j < xss.length := by
    rw [← h.len]
    exact (List.getElem?_eq_some_iff.1 hj).1
  exact ⟨xss[j], List.getElem?_eq_getElem hlt, h.row j r _ hj (List.getElem?_eq_getElem hlt)⟩
/-- A write to a slice of numbers apart from the rows leaves all as it was. -/
theorem LLr.keep {w w' : World} {B B' : Nat} {v u : Value} {rows us : List Value} {xss : List (List Int)} (h : LLr w B v rows xss) (hu : Own w B' 2 u us) (hoff : Off u rows) (hg : w.grownBy w' u.ownBlock) : LLr w' B v rows xss :=
  ⟨h.v.keep hg (h.v.apart hu (Ne.symm types_ne)), h.len, fun j r xs h1 h2 => (h.row j r xs h1 h2).keep hg (hoff j r h1), h.ap⟩
/-- One row is written anew. -/
theorem LLr.set {w w' : World} {B : Nat} {v r : Value} {rows : List Value} {xss : List (List Int)} {zs : List Int} (h : LLr w B v rows xss) {k : Nat} (hk : rows[k]? = some r) (ho : Own w' B 2 r (ints zs)) (hg : w.grownBy w' r.ownBlock) : LLr w' B v rows (xss.set k zs) := by
  obtain ⟨ys, _, hr⟩ := h.list hk
  refine ⟨h.v.keep hg (h.v.apart hr (Ne.symm types_ne)), by rw [List.length_set]; exact h.len, fun j u xs h1 h2 => ?_, h.ap⟩
  by_cases e : j = k
  · subst e
    rw [hk] at h1
    cases h1
    rw [List.getElem?_set_self (by rw [← h.len]; exact (List.getElem?_eq_some_iff.1 hk).1)] at h2
    cases h2
    exact ho
  · rw [List.getElem?_set_ne (Ne.symm e)] at h2
    exact (h.row j u xs h1 h2).keep hg (h.ap j k u r h1 hk e)

/-! ### A slice of numbers and a slice of slices, as they grow -/
structure W2 (w : World) (B : Nat) (u v : Value) (rows : List Value) (xs : List Int) (xss : List (List Int)) : Prop where
  im : Own w B 2 u (ints xs)
  ll : LLr w B v rows xss
  off : Off u rows
structure W3 (w : World) (B B' : Nat) (u v : Value) (rows : List Value) (xs : List Int) (xss : List (List Int)) (r : Value) (ys : List Int) : Prop where
  im : Own w B 2 u (ints xs)
  ll : LLr w B v rows xss
  off : Off u rows
  row : Own w B' 2 r (ints ys)
  ru : Apart r u
  new : ∀ (j : Nat) (u : Value), rows[j]? = some u → Apart u r
theorem W2.nil (w : World) (B : Nat) : W2 w B (.slice none 0 0) (.slice none 0 0) [] [] [] := ⟨Own.nil _ _ _, LLr.nil _ _, fun j r h => by simp at h⟩
theorem W2.below {w w' : World} {B : Nat} {u v : Value} {rows : List Value} {xs : List Int} {xss : List (List Int)} (h : W2 w B u v rows xs xss) (hb : Below w.heap.size w w') : W2 w' B u v rows xs xss := ⟨h.im.below hb, h.ll.below hb, h.off⟩
theorem W2.mono {w : World} {B B' : Nat} {u v : Value} {rows : List Value} {xs : List Int} {xss : List (List Int)} (h : W2 w B u v rows xs xss) (hb : B' ≤ B) : W2 w B' u v rows xs xss := ⟨h.im.mono hb, h.ll.mono hb, h.off⟩
theorem W2.half {w w2 : World} {B B' : Nat} {u v r : Value} {rows : List Value} {xs ys : List Int} {xss : List (List Int)} (h : W2 w B u v rows xs xss) (hr : Own w2 B' 2 r (ints ys)) (hB : w.heap.size ≤ B') (hb : Below w.heap.size w w2) : W3 w2 B B' u v rows xs xss r ys :=
  ⟨h.im.below hb, h.ll.below hb, h.off, hr, own_ne' h.im hr hB, fun j t hj => by obtain ⟨zs, _, ho⟩ := h.ll.list hj; exact own_ne ho hr hB⟩
theorem W3.below {w w' : World} {B B' : Nat} {u v r : Value} {rows : List Value} {xs ys : List Int} {xss : List (List Int)} (h : W3 w B B' u v rows xs xss r ys) (hb : Below w.heap.size w w') : W3 w' B B' u v rows xs xss r ys := ⟨h.im.below hb, h.ll.below hb, h.off, h.row.below hb, h.ru, h.new⟩
theorem W3.img {w w' : World} {B B' : Nat} {u u' v r : Value} {rows : List Value} {xs xs' ys : List Int} {xss : List (List Int)} (h : W3 w B B' u v rows xs xss r ys) (hu : Own w' B 2 u' (ints xs')) (hg : w.grownBy w' u.ownBlock) (hl : Lies w.heap.size u u') : W3 w' B B' u' v rows xs' xss r ys :=
  ⟨hu, h.ll.keep h.im h.off hg, fun j t hj => by obtain ⟨zs, _, ho⟩ := h.ll.list hj; exact (h.off j t hj).lies ho (Nat.le_refl _) hl, h.row.keep hg h.ru, h.ru.lies h.row (Nat.le_refl _) hl, h.new⟩
theorem W3.push {w w' : World} {B B' : Nat} {u v v' r : Value} {rows : List Value} {xs ys : List Int} {xss : List (List Int)} (h : W3 w B B' u v rows xs xss r ys) (hB : B ≤ B') (hv : Own w' B 26 v' (rows ++ [r])) (hg : w.grownBy w' v.ownBlock) : W2 w' B u v' (rows ++ [r]) xs (xss ++ [ys]) := by
  have get : ∀ (j : Nat) (t : Value), (rows ++ [r])[j]? = some t → (j < rows.length ∧ rows[j]? = some t) ∨ (j = rows.length ∧ t = r) := by
    intro j t hj
    rw [List.getElem?_append] at hj
    by_cases hlt : j < rows.length
    · rw [if_pos hlt] at hj; exact .inl ⟨hlt, hj⟩
    · rw [if_neg hlt] at hj
      match h : j - rows.length, hj with
      | 0, hj => simp at hj; exact .inr ⟨by omega, hj.symm⟩
  have hl := h.ll.len
  refine ⟨h.im.keep hg (h.im.apart h.ll.v types_ne), ⟨hv, by simp [hl], fun j t zs h1 h2 => ?_, fun i j t t' h1 h2 hne => ?_⟩, fun j t h1 => ?_⟩
  · rcases get j t h1 with ⟨hlt, h3⟩ | ⟨he, rfl⟩
    · rw [List.getElem?_append, if_pos (by omega)] at h2
      have ho := h.ll.row j t zs h3 h2
      exact ho.keep hg (ho.apart h.ll.v types_ne)
    · rw [List.getElem?_append, if_neg (by omega), show j - xss.length = 0 by omega] at h2
      simp at h2
      subst h2
      exact (h.row.keep hg (h.row.apart h.ll.v types_ne)).mono hB
  · rcases get i t h1 with ⟨hlt, h3⟩ | ⟨he, rfl⟩
    · rcases get j t' h2 with ⟨hlt2, h4⟩ | ⟨he2, rfl⟩
      · exact h.ll.ap i j t t' h3 h4 hne
      · exact h.new i t h3
    · rcases get j t' h2 with ⟨hlt2, h4⟩ | ⟨he2, rfl⟩
      · exact (h.new j t' h4).symm
      · omega
  · rcases get j t h1 with ⟨hlt, h3⟩ | ⟨he, rfl⟩
    · exact h.off j t h3
    · exact h.ru
end Go.Proofs.Ytcghcbdefajpgaa

/- The laws' helpers for slices of slices of numbers: compared, marked, the marks looked for. -/
namespace Go.Proofs.Ytcghcbdefajpgaa
open Go.RowKit

def szs (xss : List (List Int)) : Nat := (xss.map List.length).sum
theorem szs_nil : szs [] = 0 := rfl
theorem szs_take {xss : List (List Int)} {k : Nat} (h : k < xss.length) : szs (xss.take (k + 1)) = szs (xss.take k) + xss[k].length := by
  unfold szs
  rw [List.take_succ_eq_append_getElem h, List.map_append, List.sum_append]
  simp only [List.map_cons, List.map_nil, List.sum_cons, List.sum_nil, Nat.add_zero]
theorem szs_le (xss : List (List Int)) (k : Nat) : szs (xss.take k) ≤ szs xss := by
  have h : szs xss = szs (xss.take k) + szs (xss.drop k) := by
    have : xss = xss.take k ++ xss.drop k := (List.take_append_drop k xss).symm
    conv => lhs; rw [this]
    unfold szs
    rw [List.map_append, List.sum_append]
  omega
/-- The marks from s on, list by list. -/
def mkk (s : Int) (xss : List (List Int)) (k : Nat) : List (List Int) := (List.range xss.length).map fun j => if j < k then marks (s + szs (xss.take j)) (xss.getD j []).length else xss.getD j []
def mks (s : Int) (xss : List (List Int)) : List (List Int) := mkk s xss xss.length
theorem mkk_len (s : Int) (xss : List (List Int)) (k : Nat) : (mkk s xss k).length = xss.length := by simp [mkk]
theorem mkk_zero (s : Int) (xss : List (List Int)) : mkk s xss 0 = xss := by
  apply List.ext_getElem
  · rw [mkk_len]
  · intro i h1 h2
    simp [mkk, h2]
theorem mkk_get (s : Int) (xss : List (List Int)) {k : Nat} (h : k < xss.length) : (mkk s xss k)[k]? = some xss[k] := by simp [mkk, h]
theorem mkk_set (s : Int) (xss : List (List Int)) {k : Nat} (h : k < xss.length) : (mkk s xss k).set k (marks (s + szs (xss.take k)) xss[k].length) = mkk s xss (k + 1) := by
  apply List.ext_getElem
  · rw [List.length_set, mkk_len, mkk_len]
  · intro i h1 h2
    rw [mkk_len] at h2
    rw [List.getElem_set]
    by_cases e : k = i
    · subst e
      rw [if_pos rfl]
      simp [mkk, h]
    · rw [if_neg e]
      simp only [mkk, List.getElem_map, List.getElem_range]
      by_cases h3 : i < k
      · rw [if_pos h3, if_pos (by omega)]
      · rw [if_neg h3, if_neg (by omega)]
theorem mks_get (s : Int) (xss : List (List Int)) {k : Nat} (h : k < xss.length) : (mks s xss)[k]? = some (marks (s + szs (xss.take k)) xss[k].length) := by simp [mks, mkk, h]
/-- What lies apart from all rows is kept. -/
def KeptOff (w w2 : World) (rows : List Value) : Prop := ∀ (B : Nat) (e : TypeId) (u : Value) (us : List Value), Own w B e u us → (∀ (j : Nat) (r : Value), rows[j]? = some r → Apart u r) → Own w2 B e u us
theorem LLr.le {w : World} {B : Nat} {v : Value} {rows : List Value} {xss : List (List Int)} (h : LLr w B v rows xss) : xss.length ≤ 9223372036854775807 := by
  have := h.v.le
  rw [h.len] at this
  exact this
theorem LLr.keptOff {w w' : World} {B B' : Nat} {v v' : Value} {rows rows' : List Value} {xss xss' : List (List Int)} (h : LLr w B v rows xss) (hk : KeptOff w w' rows') (h' : LLr w B' v' rows' xss') (ha : ∀ (i j : Nat) (r r' : Value), rows[i]? = some r → rows'[j]? = some r' → Apart r r') : LLr w' B v rows xss :=
  ⟨hk _ _ _ _ h.v (fun j r hj => by obtain ⟨_, _, ho⟩ := h'.list hj; exact h.v.apart ho (Ne.symm types_ne)), h.len, fun j r xs h1 h2 => hk _ _ _ _ (h.row j r xs h1 h2) (fun i r' hi => ha j i r r' h1 hi), h.ap⟩

set_option linter.unusedSimpArgs false
set_option maxRecDepth 100000 in
set_option maxHeartbeats 1000000 in
theorem eqInt64SS_any (v v' : Value) (xss : List (List Int)) (w : World) (hl : xss.length ≤ 9223372036854775807) (hr : RdLL w v xss) (hr' : RdLL w v' xss) :
    Calls Try.prog 12 #[v, v'] w fun e w' => e = .returned (.bool true) ∧ Below w.heap.size w w' := by
  obtain ⟨A, c, rows, rfl, h1, h2, h3⟩ := hr
  obtain ⟨A', c', rows', rfl, h1', h2', h3'⟩ := hr'
  have H1 := hidd h1
  have H3 := hidd h3
  have H1' := hidd h1'
  have H3' := hidd h3'
  clear h1 h3 h1' h3'
  go_enter Try.func12, Try.ntmps12
  go_wp2_with fail
  go_loopw [5] (fun i wr => ∃ k : Nat, k ≤ xss.length ∧ i = .int .i64 k ∧ Hid (Below w.heap.size w wr)) (fun i _ => xss.length - (intOf i).toNat)
  case atStart => exact ⟨0, Nat.zero_le _, rfl, hidd (Below.refl w.heap.size w)⟩
  case round =>
    obtain ⟨k, hk, rfl, Hb⟩ := hrel
    by_cases hlt : k < xss.length
    · have i1 : (k : Int) < xss.length := by omega
      have i2 : (0 : Int) ≤ k := by omega
      have hkr : k < rows.length := by rw [h2]; exact hlt
      have hkr' : k < rows'.length := by rw [h2']; exact hlt
      have Hr := hidd (H3.out k rows[k] _ (List.getElem?_eq_getElem hkr) (List.getElem?_eq_getElem hlt))
      have Hr' := hidd (H3'.out k rows'[k] _ (List.getElem?_eq_getElem hkr') (List.getElem?_eq_getElem hlt))
      obtain ⟨b, o, rfl, hcell⟩ := H1.out.at_ (List.getElem?_eq_getElem hkr)
      obtain ⟨b', o', rfl, hcell'⟩ := H1'.out.at_ (List.getElem?_eq_getElem hkr')
      obtain ⟨r, hrr⟩ : ∃ r, r = rows[k] := ⟨_, rfl⟩
      obtain ⟨r', hrr'⟩ : ∃ r', r' = rows'[k] := ⟨_, rfl⟩
      rw [← hrr] at Hr hcell
      rw [← hrr'] at Hr' hcell'
      have HX := hidd (show ∀ W : World, Below w.heap.size w W → W.cell? ⟨b, o + k, none⟩ = some r ∧ W.cell? ⟨b', o' + k, none⟩ = some r' from fun W hW =>
        ⟨(hW.cell (p := ⟨b, o + k, none⟩) (World.block_lt_of_cell? _ _ hcell)).trans hcell, (hW.cell (p := ⟨b', o' + k, none⟩) (World.block_lt_of_cell? _ _ hcell')).trans hcell'⟩)
      have S0 := hidd (bel_then Hb.out (drew_bel wr))
      clear hrr hrr' hcell hcell'
      go_wp2_with fail
      refine wp_region_held (S := fun w' => Below w.heap.size w w') (by kernel_rfl) ?_
      change wpAnyH _ _ _ _ _ _ _ _ (World.drew _)
      refine wpAnyH_take (i := 0) (v := ?v0) rfl (by kernel_rfl) (by kernel_rfl) (by kernel_rfl) (fun _ _ _ h => h) (Or.inl ⟨by rfl, ?h0⟩) S0.out ?_
      case h0 => (intro w4 hS; obtain ⟨k1, k2⟩ := HX.out w4 hS; clear hS; go_simp; first | done | with_reducible rfl)
      simp only [Act.put, List.getElem_toArray, List.getElem_cons_succ, List.getElem_cons_zero, List.setIfInBounds_toArray, List.set_cons_zero, List.set_cons_succ]
      refine wpAnyH_take (i := 1) (v := ?v1) rfl (by kernel_rfl) (by kernel_rfl) (by kernel_rfl) (fun _ _ _ h => h) (Or.inl ⟨by rfl, ?h1⟩) S0.out ?_
      case h1 => (intro w4 hS; obtain ⟨k1, k2⟩ := HX.out w4 hS; clear hS; go_simp; first | done | with_reducible rfl)
      simp only [Act.put, List.getElem_toArray, List.getElem_cons_succ, List.getElem_cons_zero, List.setIfInBounds_toArray, List.set_cons_zero, List.set_cons_succ]
      refine wpAnyH_take (i := 2) (v := ?v2) rfl (by kernel_rfl) (by kernel_rfl) (by kernel_rfl) (fun _ _ _ h => h) (Or.inl ⟨by rfl, ?h2⟩) S0.out ?_
      case h2 => (intro w4 hS; obtain ⟨k1, k2⟩ := HX.out w4 hS; clear hS; go_simp; first | done | with_reducible rfl)
      simp only [Act.put, List.getElem_toArray, List.getElem_cons_succ, List.getElem_cons_zero, List.setIfInBounds_toArray, List.set_cons_zero, List.set_cons_succ]
      refine wpAnyH_take (i := 3) (v := ?v3) rfl (by kernel_rfl) (by kernel_rfl) (by kernel_rfl) (fun _ _ _ h => h) (Or.inl ⟨by rfl, ?h3⟩) S0.out ?_
      case h3 => (intro w4 hS; obtain ⟨k1, k2⟩ := HX.out w4 hS; clear hS; go_simp; first | done | with_reducible rfl)
      simp only [Act.put, List.getElem_toArray, List.getElem_cons_succ, List.getElem_cons_zero, List.setIfInBounds_toArray, List.set_cons_zero, List.set_cons_succ]
      refine wpAnyH_take (i := 4) (v := ?v4) rfl (by kernel_rfl) (by kernel_rfl) (by kernel_rfl) (fun _ _ _ h => h) (Or.inl ⟨by rfl, ?h4⟩) S0.out ?_
      case h4 => (intro w4 hS; obtain ⟨k1, k2⟩ := HX.out w4 hS; clear hS; go_simp; first | done | with_reducible rfl)
      simp only [Act.put, List.getElem_toArray, List.getElem_cons_succ, List.getElem_cons_zero, List.setIfInBounds_toArray, List.set_cons_zero, List.set_cons_succ]
      refine wpAnyH_take (i := 5) (v := ?v5) rfl (by kernel_rfl) (by kernel_rfl) (by kernel_rfl) (fun _ _ _ h => h) (Or.inl ⟨by rfl, ?h5⟩) S0.out ?_
      case h5 => (intro w4 hS; obtain ⟨k1, k2⟩ := HX.out w4 hS; clear hS; go_simp; first | done | with_reducible rfl)
      simp only [Act.put, List.getElem_toArray, List.getElem_cons_succ, List.getElem_cons_zero, List.setIfInBounds_toArray, List.set_cons_zero, List.set_cons_succ]
      refine wpAnyH_take (i := 6) (v := ?v6) rfl (by kernel_rfl) (by kernel_rfl) (by kernel_rfl) (fun _ _ _ h => h) (Or.inl ⟨by rfl, ?h6⟩) S0.out ?_
      case h6 => (intro w4 hS; obtain ⟨k1, k2⟩ := HX.out w4 hS; clear hS; go_simp; first | done | with_reducible rfl)
      simp only [Act.put, List.getElem_toArray, List.getElem_cons_succ, List.getElem_cons_zero, List.setIfInBounds_toArray, List.set_cons_zero, List.set_cons_succ]
      refine wpAnyH_take (i := 7) (v := ?v7) rfl (by kernel_rfl) (by kernel_rfl) (by kernel_rfl) (fun _ _ _ h => h) (Or.inl ⟨by rfl, ?h7⟩) S0.out ?_
      case h7 => (intro w4 hS; obtain ⟨k1, k2⟩ := HX.out w4 hS; clear hS; go_simp; first | done | with_reducible rfl)
      simp only [Act.put, List.getElem_toArray, List.getElem_cons_succ, List.getElem_cons_zero, List.setIfInBounds_toArray, List.set_cons_zero, List.set_cons_succ]
      refine wpAnyH_ready (rs := [8]) (by kernel_rfl) (by simp) (AllReadyH.cons rfl (fun K hK => ?_) AllReadyH.nil)
      go_simp
      refine (eqInt64S_any r r' xss[k] wr.drew (Hr.out.below S0.out) (Hr'.out.below S0.out)).mono ?_
      rintro e w5 ⟨rfl, hb5⟩
      have S5 := hidd (bel_then S0.out hb5)
      refine hK.out _ _ S5.out (fun _ => ?_)
      clear hK K hb5
      refine wpAnyH_take (i := 9) (v := ?v9) rfl (by kernel_rfl) (by kernel_rfl) (by kernel_rfl) (fun _ _ _ h => h) (Or.inl ⟨by rfl, ?h9⟩) S5.out ?_
      case h9 => (intro w4 hS; clear hS; go_simp; first | done | with_reducible rfl)
      simp only [Act.put, List.getElem_toArray, List.getElem_cons_succ, List.getElem_cons_zero, List.setIfInBounds_toArray, List.set_cons_zero, List.set_cons_succ]
      refine wpAnyH_done (by kernel_rfl) ?_ _
      go_wp2_with fail
      go_roundw
      case rel => exact ⟨k + 1, by omega, by go_num, S5⟩
      case measure => first | (simp [intOf]; done) | (simp [intOf]; omega)
    · have he : k = xss.length := by omega
      subst he
      clear hlt
      go_wp2_with fail
      go_ret
      exact ⟨rfl, Hb.out⟩
end Go.Proofs.Ytcghcbdefajpgaa

/- Walks: WreathOf, of the program and of the reference. -/
namespace Go.Proofs.Ytcghcbdefajpgaa
open Go.RowKit
theorem results_tmp3 {fn : Func} {t u x : Tmp} (h : fn.results = #[.tmp t, .tmp u, .tmp x]) (tmps : Array Value) (P : Program) (w : World) :
    (results fn tmps).run P w = .ok (.tuple #[tmps.getD t undef, tmps.getD u undef, tmps.getD x undef]) w := by
  simp [results, h]

/-- The images of the first letters, and the sections there. -/
def Gm.ims (g : Gm) (W : List Int) (n : Nat) : List Int := upto (fun x => (g.im W x : Int)) n
def Gm.scs (g : Gm) (W : List Int) (n : Nat) : List (List Int) := (List.range n).map (g.sc W)
theorem Gm.ims_succ (g : Gm) (W : List Int) (n : Nat) : ints (g.ims W (n + 1)) = ints (g.ims W n) ++ [.int .i64 (g.im W n : Nat)] := by unfold Gm.ims; rw [upto_succ, ints_append]; rfl
theorem Gm.scs_succ (g : Gm) (W : List Int) (n : Nat) : g.scs W (n + 1) = g.scs W n ++ [g.sc W n] := by simp [Gm.scs, List.range_succ]
theorem Gm.scs_len (g : Gm) (W : List Int) (n : Nat) : (g.scs W n).length = n := by simp [Gm.scs]
def wreR (m : Mc) (xs : List Int) : List Int × List (List Int) × Int := if codeW m [xs] = 0 then (m.gm.ims xs m.gm.l, m.gm.scs xs m.gm.l, 0) else ([], [], 1)

set_option linter.unusedSimpArgs false
theorem wreR_len (m : Mc) (xs : List Int) : (wreR m xs).1.length ≤ 1048576 := by
  unfold wreR
  split
  · rename_i h
    obtain ⟨g, rfl, hok, hw⟩ := codeW_zero h
    show (g.ims xs g.l).length ≤ _
    unfold Gm.ims
    rw [upto_len]
    have := hok.l3
    omega
  · exact Nat.zero_le _
theorem szs_const {xss : List (List Int)} {c : Nat} (h : ∀ xs ∈ xss, xs.length ≤ c) : szs xss ≤ xss.length * c := by
  induction xss with
  | nil => simp [szs]
  | cons x r ih =>
    have h1 := h x (by simp)
    have h2 := ih (fun xs hx => h xs (by simp [hx]))
    simp only [szs, List.map_cons, List.sum_cons, List.length_cons] at h2 ⊢
    rw [Nat.succ_mul]
    omega
theorem wreR_szs (m : Mc) (xs : List Int) : szs (wreR m xs).2.1 ≤ 1048576 := by
  unfold wreR
  split
  · rename_i h
    obtain ⟨g, rfl, hok, hw⟩ := codeW_zero h
    have h40 := (gwB_mem (hw xs (List.mem_singleton.2 rfl))).1
    show szs (g.scs xs g.l) ≤ _
    have h1 := szs_const (xss := g.scs xs g.l) (c := 40) (fun ys hy => by
      obtain ⟨k, _, rfl⟩ := List.mem_map.1 hy
      rw [g.sc_len]
      exact h40)
    rw [g.scs_len] at h1
    have := hok.l3
    omega
  · exact Nat.zero_le _
end Go.Proofs.Ytcghcbdefajpgaa
