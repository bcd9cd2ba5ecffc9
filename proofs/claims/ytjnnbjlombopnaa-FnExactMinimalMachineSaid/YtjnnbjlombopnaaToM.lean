/- Walks: the laws' copy of a machine returns the same cells. -/
import Derived.Test.YtjnnbjlombopnaaLib
import Derived.Test.YtjnnbjlombopnaaMc
namespace Go.Proofs.Ytjnnbjlombopnaa
open Go.RowKit

set_option maxHeartbeats 400000 in
theorem toByteA3_any (a b c : Int) (w : World) :
    Calls Try.prog 178 #[.agg #[.int .u8 a, .int .u8 b, .int .u8 c]] w fun e w' => e = .returned (.agg #[.int .u8 a, .int .u8 b, .int .u8 c]) ∧ Below w.heap.size w w' := by
  go_enter Try.func178, Try.ntmps178
  go_wp2
  go_rounds 4
  refine bodyPost_ret (v := .agg #[.int .u8 a, .int .u8 b, .int .u8 c]) (by simp [results, Try.results178, go_sem]) rfl ⟨rfl, ?_⟩
  exact (((Below.refl _ _).alloc (by simp) _).alloc (by simp) _).alloc (by simp; omega) _

set_option maxHeartbeats 400000 in
theorem toByteA3A16_any (cs : Array Value) (f : Nat → Nat) (hs : cs.size = 48) (hc : ∀ j, j < 48 → cs[j]? = some (.int .u8 (f j))) (w : World) :
    Calls Try.prog 105 #[.agg cs] w fun e w' => e = .returned (.agg cs) ∧ Below w.heap.size w w' := by
  have h1 : cs.all (·.oneCell') = true := by
    rw [Array.all_eq_true]
    intro i hi
    have := hc i (by omega)
    rw [Array.getElem?_eq_getElem hi] at this
    rw [Option.some.inj this]
    rfl
  have Hs := hidd hs
  have Hc := hidd hc
  have H1 := hidd h1
  clear hs hc h1
  go_enter Try.func105, Try.ntmps105
  go_wp2
  go_loopw [4] (fun i wr => ∃ (k : Nat) (ds : Array Value), k ≤ 16 ∧ i = .int .i64 k ∧ wr.heap[w.heap.size]? = some (.cells cs 23 (0, 0)) ∧ wr.heap[w.heap.size + 1]? = some (.cells (Array.replicate 48 (.int .u8 0)) 23 (0, 0)) ∧ wr.heap[w.heap.size + 1 + 1]? = some (.cells ds 23 (0, 0)) ∧ ds.size = 48 ∧ (∀ j, j < 48 → ds[j]? = some (.int .u8 (if j < k * 3 then f j else 0 : Nat))) ∧ Below w.heap.size w wr)
    (fun i _ => 16 - (intOf i).toNat)
  case atStart =>
    exact ⟨0, Array.replicate 48 (.int .u8 0), by omega, rfl, hp_old (hp_old (hp_new rfl)), hp_old (hp_new (by simp)), hp_new (by simp), by simp, fun j hj => by simp [hj], ((((Below.refl _ _).alloc (by simp) _).alloc (by simp) _).alloc (by simp; omega) _)⟩
  case round =>
    obtain ⟨k, ds, hk, rfl, hb0, hb1, hb2, hds, hcp, hbel⟩ := hrel
    by_cases hlt : k < 16
    · have c0 := (blkc hb0 (k * 3)).trans (Hc.out _ (by omega))
      have c1 := (blkc hb0 (k * 3 + 1)).trans (Hc.out _ (by omega))
      have c2 := (blkc hb0 (k * 3 + 2)).trans (Hc.out _ (by omega))
      have Hb0 := hidd hb0
      have Hb1 := hidd hb1
      have Hb2 := hidd hb2
      have Hcp := hidd hcp
      have Hds := hidd hds
      clear hb0 hb1 hb2 hcp hds
      go_wp2_with (go_at_call 178; refine (toByteA3_any _ _ _ _).mono ?_; rintro e w1 ⟨rfl, hb⟩; clear c0 c1 c2; have d0 := (blkc (hp_bel Hb2.out hb) (k * 3)).trans (Hcp.out _ (by omega)); have d1 := (blkc (hp_bel Hb2.out hb) (k * 3 + 1)).trans (Hcp.out _ (by omega)); have d2 := (blkc (hp_bel Hb2.out hb) (k * 3 + 2)).trans (Hcp.out _ (by omega)); have f0 := blkf (hp_bel Hb2.out hb) (k * 3); have f1 := blkf (hp_bel Hb2.out hb) (k * 3 + 1); have f2 := blkf (hp_bel Hb2.out hb) (k * 3 + 2))
      go_roundw
      case rel =>
        have g2 := hp_set (hp_set (hp_set (hp_bel Hb2.out hb) (k * 3) (.int .u8 (f (k * 3)))) (k * 3 + 1) (.int .u8 (f (k * 3 + 1)))) (k * 3 + 2) (.int .u8 (f (k * 3 + 2)))
        refine ⟨k + 1, _, by omega, by go_num, hp_far (hp_far (hp_far (hp_bel Hb0.out hb) (by dsimp only; omega) _) (by dsimp only; omega) _) (by dsimp only; omega) _, hp_far (hp_far (hp_far (hp_bel Hb1.out hb) (by dsimp only; omega) _) (by dsimp only; omega) _) (by dsimp only; omega) _, g2, by simp [Hds.out], ?_, ?_⟩
        · intro j hj
          simp only [Array.getElem?_setIfInBounds, Array.size_setIfInBounds, Hds.out]
          by_cases e0 : j = k * 3
          · subst e0; simp; omega
          · by_cases e1 : j = k * 3 + 1
            · subst e1; simp; rw [if_pos (by omega)]; exact ⟨hj, rfl⟩
            · by_cases e2 : j = k * 3 + 2
              · subst e2; simp; rw [if_pos (by omega)]; exact ⟨hj, rfl⟩
              · rw [if_neg (by omega), if_neg (by omega), if_neg (by omega), Hcp.out j hj]
                by_cases hh : j < k * 3
                · rw [if_pos hh, if_pos (by omega)]
                · rw [if_neg hh, if_neg (by omega)]
        · exact (((hbel.trans (hb.mono hbel.size)).setCell (by dsimp only; omega) _).setCell (by dsimp only; omega) _).setCell (by dsimp only; omega) _
      case measure => simp [intOf]; omega
    · have hk16 : k = 16 := by omega
      subst hk16
      have hds2 : ds = cs := by
        apply Array.ext_getElem?
        intro j
        by_cases hj : j < 48
        · rw [hcp j hj, Hc.out j hj, if_pos (by omega)]
        · rw [Array.getElem?_eq_none (by omega), Array.getElem?_eq_none (by have := Hs.out; omega)]
      subst hds2
      have Hb0 := hidd hb0
      have Hb1 := hidd hb1
      have Hb2 := hidd hb2
      clear hb0 hb1 hb2 hcp hds
      go_wp2_with (first | (refine wpList_load_row rfl 23 _ rfl _ rfl 23 _ _ _ Hb2.out Try.underlying23 rfl ?_ ?_; (rw [Hs.out]; kernel_rfl)) | (refine wpList_store_row rfl 23 _ _ rfl _ _ rfl rfl 23 _ Hb1.out ?_ ?_ H1.out ?_; (rw [Hs.out]; kernel_rfl); (simp [Hs.out])))
      refine bodyPost_ret (v := .agg ds) (results_cell_row rfl _ _ (w.heap.size + 1) 23 ds (0, 0) _ rfl (setRow_heap _ _ _ _ _ _ Hb1.out) Try.underlying23 rfl (by rw [Hs.out]; kernel_rfl)) rfl ⟨rfl, ?_⟩
      exact bel_row hbel (by omega) _

/-- A zero machine's cells. -/
def zeroM : Array Value := #[.int .i64 0, .int .i64 0] ++ Array.replicate 96 (.int .u8 0)
theorem zeroM_run (w : World) : (zeroValue 27).run Try.prog w = .ok (.agg zeroM) w := by kernel_rfl
theorem zeroM_size : zeroM.size = 98 := rfl
theorem all_one {vs : Array Value} (h : ∀ j, j < vs.size → ∃ v : Value, vs[j]? = some v ∧ v.oneCell' = true) : ∀ v ∈ vs.toList, v.oneCell' = true := by
  intro v hv
  obtain ⟨j, hj, rfl⟩ := List.getElem_of_mem hv
  obtain ⟨u, hu, hu1⟩ := h j (by simpa using hj)
  have : vs[j]? = some (vs.toList[j]) := by simp at hj; simp [hj]
  rw [hu] at this
  rw [← Option.some.inj this]; exact hu1
theorem Mc.Is.nxs {m : Mc} {cs : Array Value} (h : m.Is cs) : (cs.extract 2 50).size = 48 ∧ ∀ j, j < 48 → (cs.extract 2 50)[j]? = some (.int .u8 (m.nx (j / 3) (j % 3))) :=
  ⟨by simp [h.size], fun j hj => by rw [Array.getElem?_extract, if_pos (by have := h.size; omega), ← h.n (j / 3) (j % 3) (by omega) (by omega)]; congr 1; omega⟩
theorem Mc.Is.ous {m : Mc} {cs : Array Value} (h : m.Is cs) : (cs.extract 50 98).size = 48 ∧ ∀ j, j < 48 → (cs.extract 50 98)[j]? = some (.int .u8 (m.ou (j / 3) (j % 3))) :=
  ⟨by simp [h.size], fun j hj => by rw [Array.getElem?_extract, if_pos (by have := h.size; omega), ← h.o (j / 3) (j % 3) (by omega) (by omega)]; congr 1; omega⟩
theorem Mc.Is.cell {m : Mc} {cs : Array Value} (h : m.Is cs) : ∀ j, j < 98 → ∃ v : Value, cs[j]? = some v ∧ v.oneCell' = true := by
  intro j hj
  by_cases h0 : j = 0
  · subst h0; exact ⟨_, h.l, rfl⟩
  by_cases h1 : j = 1
  · subst h1; exact ⟨_, h.s, rfl⟩
  by_cases h2 : j < 50
  · refine ⟨.int .u8 (m.nx ((j - 2) / 3) ((j - 2) % 3)), ?_, rfl⟩
    rw [← h.n ((j - 2) / 3) ((j - 2) % 3) (by omega) (by omega)]; congr 1; omega
  · refine ⟨.int .u8 (m.ou ((j - 50) / 3) ((j - 50) % 3)), ?_, rfl⟩
    rw [← h.o ((j - 50) / 3) ((j - 50) % 3) (by omega) (by omega)]; congr 1; omega
theorem Mc.Is.all {m : Mc} {cs : Array Value} (h : m.Is cs) : cs.all (·.oneCell') = true := by
  rw [Array.all_eq_true]
  intro i hi
  obtain ⟨v, hv, h1⟩ := h.cell i (by have := h.size; omega)
  rw [Array.getElem?_eq_getElem hi] at hv
  rw [Option.some.inj hv]; exact h1
/-- What has been put together field by field is the machine again. -/
theorem Mc.Is.joined {m : Mc} {cs : Array Value} (h : m.Is cs) {zs : Array Value} (hz : zs.size = 98) :
    splice (splice ((zs.setIfInBounds 0 (.int .i64 m.L)).setIfInBounds 1 (.int .i64 m.S)) 2 (cs.extract 2 50)) 50 (cs.extract 50 98) = cs := by
  have s1 : ((zs.setIfInBounds 0 (.int .i64 m.L)).setIfInBounds 1 (.int .i64 m.S)).size = 98 := by simp [hz]
  have n1 := h.nxs.1
  have n2 := h.ous.1
  have s2 := splice_size ((zs.setIfInBounds 0 (.int .i64 m.L)).setIfInBounds 1 (.int .i64 m.S)) 2 (cs.extract 2 50) (by omega)
  apply Array.ext_getElem?
  intro j
  rw [splice_get _ _ _ (by omega), splice_get _ _ _ (by omega), n1, n2]
  by_cases h98 : j < 98
  · by_cases h0 : j = 0
    · subst h0; simp [hz]; exact h.l.symm
    by_cases h1 : j = 1
    · subst h1; simp [hz]; exact h.s.symm
    by_cases h2 : j < 50
    · rw [if_neg (by omega), if_pos (by omega), Array.getElem?_extract, if_pos (by have := h.size; omega)]
      congr 1; omega
    · rw [if_pos (by omega), Array.getElem?_extract, if_pos (by have := h.size; omega)]
      congr 1; omega
  · rw [if_neg (by omega), if_neg (by omega), Array.getElem?_eq_none (by omega), Array.getElem?_eq_none (by have := h.size; omega)]
set_option maxRecDepth 100000 in
set_option maxHeartbeats 400000 in
theorem toMachine_any (cs : Array Value) (m : Mc) (hm : m.Is cs) (w : World) :
    Calls Try.prog 33 #[.agg cs] w fun e w' => e = .returned (.agg cs) ∧ Below w.heap.size w w' := by
  have c0 := hm.l
  have c1 := hm.s
  have hz := zeroM_run
  have z0 : zeroM[0]? = some (.int .i64 0) := rfl
  have z1 : zeroM[1]? = some (.int .i64 0) := rfl
  have Hm := hidd hm
  clear hm
  go_enter Try.func33, Try.ntmps33
  go_wp2_with (first | (refine wpList_load_at rfl 23 (.tmp 10) rfl w.heap.size 2 48 rfl 25 cs (0, 0) _ (hp_old (hp_old (hp_new rfl))) Try.underlying23 rfl (by kernel_rfl) (by have := Hm.out.size; omega) ?_))
  clear c0 c1 hz z0 z1
  refine (toByteA3A16_any _ (fun j => m.nx (j / 3) (j % 3)) Hm.out.nxs.1 Hm.out.nxs.2 _).mono ?_
  rintro e w1 ⟨rfl, hb⟩
  have Hb := hidd hb
  have G0 := hidd (hp_bel (hp_old (hp_old (hp_new rfl))) hb : w1.heap[w.heap.size]? = some (.cells cs 25 (0, 0)))
  have G1 := hidd (hp_bel (hp_old (hp_new (by simp))) hb : w1.heap[w.heap.size + 1]? = some (.cells zeroM 27 (0, 0)))
  have G2 := hidd (hp_bel (hp_new (by simp)) hb : w1.heap[w.heap.size + 1 + 1]? = some (.cells ((zeroM.setIfInBounds 0 (Value.int IntKind.i64 m.L)).setIfInBounds 1 (Value.int IntKind.i64 m.S)) 27 (0, 0)))
  have bel1 : Below w.heap.size w w1 := ((((Below.refl w.heap.size w).alloc (by simp) _).alloc (by simp) _).alloc (by simp; omega) _).trans (hb.mono (by simp; omega))
  clear hb
  generalize hzs : (zeroM.setIfInBounds 0 (Value.int IntKind.i64 m.L)).setIfInBounds 1 (Value.int IntKind.i64 m.S) = zs at *
  have zsz : zs.size = 98 := by rw [← hzs]; simp [zeroM_size]
  have Hzs := hidd hzs
  have Zsz := hidd zsz
  clear hzs zsz
  go_wp2_with (first | (refine wpList_store_at rfl 23 _ _ rfl (w.heap.size + 1 + 1) 2 48 _ rfl rfl 27 zs G2.out (by kernel_rfl) Hm.out.nxs.1 (by rw [Zsz.out]; omega) ?_ ?_; exact all_one (fun j hj => ⟨_, Hm.out.nxs.2 j (by have := Hm.out.nxs.1; omega), rfl⟩)) | (refine wpList_load_at rfl 23 (.tmp 14) rfl w.heap.size 50 48 rfl 25 cs (0, 0) _ (hp_row G0.out (by omega) _) Try.underlying23 rfl (by kernel_rfl) (by have := Hm.out.size; omega) ?_))
  refine (toByteA3A16_any _ (fun j => m.ou (j / 3) (j % 3)) Hm.out.ous.1 Hm.out.ous.2 _).mono ?_
  rintro e w2 ⟨rfl, hb⟩
  have Hb2 := hidd hb
  have K1 := hidd (hp_bel (hp_row G1.out (by omega) _) hb)
  have K2 := hidd (hp_bel (setRow_heap _ _ _ _ _ _ G2.out) hb)
  have bel2 : Below w.heap.size w w2 := (bel_row bel1 (by omega) _).trans (hb.mono (by have := bel1.size; simpa [World.setRow] using this))
  clear hb
  have n1 := hidd (splice_size zs 2 (cs.extract 2 50) (by have a := Zsz.out; have b := Hm.out.nxs.1; omega))
  have J : splice (splice zs 2 (cs.extract 2 50)) 50 (cs.extract 50 98) = cs := by rw [← Hzs.out]; exact Hm.out.joined zeroM_size
  have HJ := hidd J
  clear J
  go_wp2_with (first | (refine wpList_store_at rfl 23 _ _ rfl (w.heap.size + 1 + 1) 50 48 _ rfl rfl 27 _ K2.out (by kernel_rfl) Hm.out.ous.1 (by have a := Zsz.out; have b := n1.out; omega) ?_ ?_; (exact all_one (fun j hj => ⟨_, Hm.out.ous.2 j (by have := Hm.out.ous.1; omega), rfl⟩)); rw [HJ.out]) | (refine wpList_load_row rfl 27 (.tmp 3) rfl (w.heap.size + 1 + 1) rfl 27 cs (0, 0) _ (setRow_heap _ _ _ _ _ _ K2.out) Try.underlying27 rfl (by rw [Hm.out.size]; kernel_rfl) ?_) | (refine wpList_store_row rfl 27 (.tmp 2) _ rfl (w.heap.size + 1) cs rfl rfl 27 zeroM (hp_row (g' := w.heap.size + 1 + 1) K1.out (by omega) cs) (by rw [Hm.out.size]; kernel_rfl) (by rw [Hm.out.size]; rfl) Hm.out.all ?_))
  refine bodyPost_ret (v := .agg cs) (results_cell_row rfl _ _ (w.heap.size + 1) 27 cs (0, 0) _ rfl (setRow_heap _ _ _ _ _ _ (hp_row (g' := w.heap.size + 1 + 1) K1.out (by omega) cs)) Try.underlying27 rfl (by rw [Hm.out.size]; kernel_rfl)) rfl ⟨rfl, ?_⟩
  exact bel_row (bel_row bel2 (by omega) _) (by omega) _

end Go.Proofs.Ytjnnbjlombopnaa
