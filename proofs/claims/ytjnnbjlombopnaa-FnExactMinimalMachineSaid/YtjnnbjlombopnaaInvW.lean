/- Walks: the inverse machine, of the program and of the reference; the laws' comparison of machines. -/
import Derived.Test.YtjnnbjlombopnaaInv
import Derived.Deep.RegionWith
namespace Go.Proofs.Ytjnnbjlombopnaa
open Go.RowKit

section
variable {P : Program}
theorem results_cell_tmp {fn : Func} {p t2 : Tmp} {ty : TypeId} (h : fn.results = #[.cell p ty, .tmp t2]) (tmps : Array Value) (w : World) (g : Nat) (t : TypeId) (cs : Array Value) (fr : Nat × Nat) (d : TypeDesc) (v : Value)
    (hp : tmps.getD p undef = .pointer (some ⟨g, 0, none⟩)) (hv : tmps.getD t2 undef = v) (hg : w.heap[g]? = some (.cells cs t fr))
    (hu : P.underlying ty = some d) (hd : (match d with | .struct _ | .array _ _ => true | _ => false) = true) (hi : (P.info? ty).map (·.size) = some cs.size) :
    (results fn tmps).run P w = .ok (.tuple #[.agg cs, v]) w := by
  have hp' : tmps[p]?.getD undef = .pointer (some ⟨g, 0, none⟩) := by simpa using hp
  have hv' : tmps[t2]?.getD undef = v := by simpa using hv
  simp [results, h, hp', hv', asAddr, run_loadVar_row w g t ty cs fr d hg hu hd hi]
end
theorem cells98i (m : Mc) : (Try.prog.info? 27).map (·.size) = some m.cells.size := by rw [m.cells_size]; kernel_rfl

/-- A whole machine is read out of a variable. -/
theorem ldC {ops : Array Oper} {rest : List Oper} {o : Oper} {a : Act} {w : World} {Q : Exit → Act → World → Prop} (hw : Region.wanted o (yielded ops a.tmps) = true) (x : Operand) (ho : o.op = .load 27 x) (g : Nat) (m : Mc) {t : TypeId} {fr : Nat × Nat}
    (hg : w.heap[g]? = some (.cells m.cells t fr)) (hx : a.eval x = .pointer (some ⟨g, 0, none⟩)) (h : wpList Try.prog ops Q rest (a.put o.dst (.agg m.cells)) w) : wpList Try.prog ops Q (o :: rest) a w := by
  have e : m.cells.extract 0 (0 + 98) = m.cells := by rw [← m.cells_size]; simp
  refine wpList_load_at_g hw 27 x ho g 0 98 hx t m.cells fr _ hg Try.underlying27 rfl (by kernel_rfl) (by rw [m.cells_size]; omega) ?_
  rw [e]; exact h
/-- A whole machine is written into a variable. -/
theorem stC {ops : Array Oper} {rest : List Oper} {o : Oper} {a : Act} {w : World} {Q : Exit → Act → World → Prop} (hgd : o.guard = none) (x y : Operand) (ho : o.op = .store 27 x y) (g : Nat) (m : Mc) {t : TypeId} {old : Array Value}
    (hg : w.heap[g]? = some (.cells old t (0, 0))) (hold : old.size = 98) (hx : a.eval x = .pointer (some ⟨g, 0, none⟩)) (hy : a.eval y = .agg m.cells) (h : wpList Try.prog ops Q rest (a.put o.dst undef) (w.setRow g m.cells)) : wpList Try.prog ops Q (o :: rest) a w := by
  have e : splice old 0 m.cells = m.cells := by
    apply Array.ext_getElem?
    intro j
    rw [splice_get _ _ _ (by rw [m.cells_size, hold]; omega), m.cells_size]
    by_cases hj : j < 98
    · rw [if_pos (by omega), Nat.sub_zero]
    · rw [if_neg (by omega), Array.getElem?_eq_none (by rw [hold]; omega), Array.getElem?_eq_none (by rw [m.cells_size]; omega)]
  refine wpList_store_at hgd 27 x y ho g 0 98 m.cells hx hy t old hg (by kernel_rfl) m.cells_size (by rw [hold]; omega) (all_mem m.cells_all) ?_
  rw [e]; exact h

/-- A whole machine is written into a variable that has just been laid. -/
theorem stNew {ops : Array Oper} {rest : List Oper} {o : Oper} {a : Act} {w : World} {Q : Exit → Act → World → Prop} (hgd : o.guard = none) (x y : Operand) (ho : o.op = .store 27 x y) (m : Mc) (n : Nat) (hn : n = w.heap.size) {t : TypeId} {zs : Array Value} (hz : zs.size = 98)
    (hx : a.eval x = .pointer (some ⟨n, 0, none⟩)) (hy : a.eval y = .agg m.cells) (h : wpList Try.prog ops Q rest (a.put o.dst undef) (w.alloc (.cells m.cells t))) : wpList Try.prog ops Q (o :: rest) a (w.alloc (.cells zs t)) := by
  refine stC hgd x y ho n m (hp_new hn) hz hx hy ?_
  rw [setRow_alloc _ _ hn]
  exact h

set_option maxRecDepth 100000 in
set_option maxHeartbeats 1000000 in
theorem inverse_any (g : Gm) (hok : g.Ok) (b o : Nat) (w : World) (hA : g.At w b o) :
    Calls Try.prog 113 #[.pointer (some ⟨b, o, none⟩)] w fun e w' => e = .returned (.agg g.inv.mc.cells) ∧ Below w.heap.size w w' := by
  have c0 := hA.l
  have c1 := hA.s
  have hz := zeroM_run
  have hz1 := zeroM_size
  have hz2 := zeroM_ne
  have hlt := hA.lt
  have hst := st_new_d (w.alloc (.cells zeroM 27)) (w.heap.size + 1) (by simp) g.l g.s
  have HA := hidd hA
  have HO := hidd hok
  clear hA hok
  go_enter Try.func113, Try.ntmps113
  go_wp2_with fail
  go_region
  clear hst
  obtain ⟨w1, hw1⟩ : ∃ w1, w1 = ((w.alloc (.cells zeroM 27)).alloc (.cells (bld g.l g.s) 27)).drew := ⟨_, rfl⟩
  rw [← hw1]
  have Bel := hidd (show Below w.heap.size w w1 by rw [hw1]; exact bel_drewN (((Below.refl _ _).alloc (Nat.le_refl _) _).alloc (by simp) _) 1)
  have N0 := hidd (show w1.heap[w.heap.size]? = some (.cells zeroM 27 (0, 0)) by rw [hw1]; exact hp_old (hp_new rfl))
  have N1 := hidd (show w1.heap[w.heap.size + 1]? = some (.cells (g.invP 0 0).cells 27 (0, 0)) by rw [hw1, g.invP_zero, ← bld_cells]; exact hp_new (w := w.alloc (.cells zeroM 27)) (by simp))
  have a1 := (HA.out.bel Bel.out).s
  clear hw1 hz hz1 hz2 c0 c1
  go_wp2_with fail
  go_loopw [20] (fun i wr => ∃ q : Nat, q ≤ g.s ∧ i = .int .i64 q ∧ Hid (Below w.heap.size w wr) ∧ Hid (wr.heap[w.heap.size]? = some (.cells zeroM 27 (0, 0))) ∧ Hid (wr.heap[w.heap.size + 1]? = some (.cells (g.invP q 0).cells 27 (0, 0)))) (fun i _ => g.s - (intOf i).toNat)
  case atStart => exact ⟨0, Nat.zero_le _, rfl, Bel.out, N0.out, N1.out⟩
  case round =>
    obtain ⟨q, hq, rfl, Hb, M0, M1⟩ := hrel
    have s16 := HO.out.s16
    have l3 := HO.out.l3
    clear a1
    by_cases hlt : q < g.s
    · have a1 := (HA.out.bel Hb.out).l
      go_wp2_with fail
      clear a1
      obtain ⟨wo, rfl⟩ : ∃ wo : World, wo = wr := ⟨_, rfl⟩
      go_loopw [27] (fun i wr => ∃ k : Nat, k ≤ g.l ∧ i = .int .i64 k ∧ Hid (Below w.heap.size w wr) ∧ Hid (wr.heap[w.heap.size]? = some (.cells zeroM 27 (0, 0))) ∧ Hid (wr.heap[w.heap.size + 1]? = some (.cells (g.invP q k).cells 27 (0, 0)))) (fun i _ => g.l - (intOf i).toNat)
      case atStart => exact ⟨0, Nat.zero_le _, rfl, Hb.out, M0.out, M1.out⟩
      case round =>
        obtain ⟨k, hk, rfl, Hb2, P0, P1⟩ := hrel
        by_cases hkl : k < g.l
        · have A2 := hidd (HA.out.bel Hb2.out)
          have hol := HO.out.olt q k hlt hkl
          go_wp2_with fail
          refine (mout_any g b o q k _ _ _ A2.out rfl rfl (by omega) (by omega)).mono ?_
          rintro e w2 ⟨rfl, rfl⟩
          have a2 := A2.out.n q k (by omega) (by omega)
          have hbl := HA.out.lt
          have d1 := (blkc P1.out (50 + q * 3 + g.ou q k)).trans ((Mc.cells_get _ _).trans (if_pos (by omega)))
          have d2 := (blkc P1.out (2 + q * 3 + g.ou q k)).trans ((Mc.cells_get _ _).trans (if_pos (by omega)))
          obtain ⟨x1, hx1⟩ : ∃ x, x = (g.invP q k).cellAt (50 + q * 3 + g.ou q k) := ⟨_, rfl⟩
          obtain ⟨x2, hx2⟩ : ∃ x, x = (g.invP q k).cellAt (2 + q * 3 + g.ou q k) := ⟨_, rfl⟩
          rw [← hx1] at d1
          rw [← hx2] at d2
          clear hx1 hx2
          have f1 := blkf P1.out (50 + q * 3 + g.ou q k)
          have f2 := blkf P1.out (2 + q * 3 + g.ou q k)
          have j1 : (q : Int) < 16 := by omega
          have j2 : (k : Int) < 3 := by omega
          have j3 : (g.ou q k : Int) < 3 := by omega
          have j4 : (0 : Int) ≤ q := by omega
          have j5 : (0 : Int) ≤ k := by omega
          have j6 : (0 : Int) ≤ (g.ou q k : Int) := by omega
          have hn256 := A2.out.nb q k (by omega) (by omega)
          go_wp2_with fail
          go_region
          go_wp2_with fail
          go_roundw
          case rel =>
            refine ⟨k + 1, by omega, by go_num, bel_drewN ((Hb2.out.setCell (by simp) _).setCell (by simp) _) 1, ?_, ?_⟩
            · exact hp_far (hp_far P0.out (by simp) _) (by simp) _
            · have := blk_two P1.out (50 + q * 3 + g.ou q k) (2 + q * 3 + g.ou q k) (.int .u8 (k : Nat)) (.int .u8 (g.nx q k : Nat))
              rw [Mc.cells_setO _ _ _ _ (by omega) (by omega), Mc.cells_setN _ _ _ _ (by omega) (by omega), g.invP_step HO.out q k hlt hkl] at this
              exact this
          case measure => simp [intOf]; omega
        · have he : k = g.l := by omega
          subst he
          go_wp2_with fail
          go_roundw
          case rel => exact ⟨q + 1, by omega, by go_num, Hb2.out, P0.out, by have := P1.out; rw [g.invP_row HO.out q hlt] at this; exact this⟩
          case measure => simp [intOf]; omega
    · have he : q = g.s := by omega
      subst he
      rw [g.invP_end] at M1
      go_wp2_with (first | (refine ldC rfl (.tmp 3) rfl _ g.inv.mc M1.out (by rfl) ?_) | (refine stC rfl (.tmp 2) (.tmp 56) rfl _ g.inv.mc M0.out zeroM_size (by rfl) (by rfl) ?_))
      refine bodyPost_ret (v := .agg g.inv.mc.cells) (results_cell_row rfl _ _ w.heap.size 27 _ (0, 0) _ rfl (setRow_heap _ _ _ _ _ _ M0.out) Try.underlying27 rfl (cells98i _)) rfl ⟨rfl, ?_⟩
      exact bel_row Hb.out (Nat.le_refl _) _
end Go.Proofs.Ytjnnbjlombopnaa
