/- Walks: (*table).gathered: the machine of some states of a table. -/
import Derived.Test.YtjnnbjlombopnaaSmn
import Derived.Shelf.Abstract
namespace Go.Proofs.Ytjnnbjlombopnaa
open Go.RowKit

/-- What has been gathered: the first i rows, and of row i the first x letters. -/
def gaP (g : Gm) (st : List Nat) (num : Nat → Nat) (i x : Nat) : Mc :=
  ⟨g.l, (st.length : Nat), fun j y => if (j < i ∨ (j = i ∧ y < x)) ∧ y < g.l then num (g.nx (st.getD j 0) y) else 0, fun j y => if (j < i ∨ (j = i ∧ y < x)) ∧ y < g.l then g.ou (st.getD j 0) y else 0⟩
def gaM (g : Gm) (st : List Nat) (num : Nat → Nat) : Mc := gaP g st num st.length 0
theorem gaP_zero (g : Gm) (st : List Nat) (num : Nat → Nat) : gaP g st num 0 0 = ⟨g.l, (st.length : Nat), fun _ _ => 0, fun _ _ => 0⟩ := by
  unfold gaP
  congr 1
  · funext j y; rw [if_neg (by omega)]
  · funext j y; rw [if_neg (by omega)]
theorem gaP_step (g : Gm) (st : List Nat) (num : Nat → Nat) {i x : Nat} (hx : x < g.l) : ((gaP g st num i x).setN i x (num (g.nx (st.getD i 0) x))).setO i x (g.ou (st.getD i 0) x) = gaP g st num i (x + 1) := by
  unfold gaP Mc.setN Mc.setO
  congr 1
  · funext j y
    by_cases e : j = i ∧ y = x
    · obtain ⟨rfl, rfl⟩ := e
      simp [hx]
    · simp only [if_neg e]
      by_cases h : (j < i ∨ (j = i ∧ y < x)) ∧ y < g.l
      · rw [if_pos h, if_pos (by omega)]
      · rw [if_neg h, if_neg (by omega)]
  · funext j y
    by_cases e : j = i ∧ y = x
    · obtain ⟨rfl, rfl⟩ := e
      simp [hx]
    · simp only [if_neg e]
      by_cases h : (j < i ∨ (j = i ∧ y < x)) ∧ y < g.l
      · rw [if_pos h, if_pos (by omega)]
      · rw [if_neg h, if_neg (by omega)]
theorem gaP_row (g : Gm) (st : List Nat) (num : Nat → Nat) (i : Nat) : gaP g st num i g.l = gaP g st num (i + 1) 0 := by
  unfold gaP
  congr 1
  · funext j y
    by_cases h : (j < i ∨ (j = i ∧ y < g.l)) ∧ y < g.l
    · rw [if_pos h, if_pos (by omega)]
    · rw [if_neg h, if_neg (by omega)]
  · funext j y
    by_cases h : (j < i ∨ (j = i ∧ y < g.l)) ∧ y < g.l
    · rw [if_pos h, if_pos (by omega)]
    · rw [if_neg h, if_neg (by omega)]
/-- A number in a list of states. -/
theorem ofNat_get (st : List Nat) {i : Nat} (h : i < st.length) : ((st.map fun (q : Nat) => (q : Int)))[i]'(by simpa using h) = (st.getD i 0 : Nat) := by
  simp [List.getD_eq_getElem?_getD, h]

theorem bldZ (L S : Int) : (Try.zeroCells27.setIfInBounds 0 (.int .i64 L)).setIfInBounds 1 (.int .i64 S) = (⟨L, S, fun _ _ => 0, fun _ _ => 0⟩ : Mc).cells := by
  rw [zeroC_M, ← zeroM_cells]
  exact bld_cells L S
structure GaI (w wr : World) (m : Mc) : Prop where
  bel : Below w.heap.size w wr
  hz : wr.heap[w.heap.size]? = some (.cells Mc.zero.cells 27 (0, 0))
  ho : wr.heap[w.heap.size + 1]? = some (.cells m.cells 27 (0, 0))
theorem GaI.drewN {w wr : World} {m : Mc} (h : GaI w wr m) (n : Nat) : GaI w (wr.drewN n) m := ⟨bel_drewN h.bel n, h.hz, h.ho⟩
theorem GaI.set {w wr : World} {m m' : Mc} (h : GaI w wr m) (i : Nat) (v : Value) (he : m.cells.setIfInBounds i v = m'.cells) : GaI w (wr.setCell ⟨w.heap.size + 1, i, none⟩ v) m' :=
  ⟨h.bel.setCell (by dsimp only; omega) _, hp_far h.hz (by dsimp only; omega) _, by rw [← he]; exact hp_set h.ho i _⟩

set_option linter.unusedSimpArgs false
set_option maxRecDepth 100000 in
set_option maxHeartbeats 2000000 in
theorem gathered_any (g : Gm) (hok : g.Tb) (T : Nat) (st : List Nat) (hst : ∀ i, i < st.length → st.getD i 0 < g.s) (h16 : st.length ≤ 16) (num : Nat → Nat) (hnum : ∀ r, r < g.s → num r < 256) (fn : Nat) (cap : Array Value) (eg : ∀ args w, (callFunc fn args).run Try.prog w = .ok (.enter fn args) w) (sv : Value) (w : World) (hT : TabAt w T (g.nxs g.s) (g.ous g.s)) (hs : RdI w sv (st.map fun (q : Nat) => (q : Int)))
    (hc : ∀ r W, r < g.s → Below w.heap.size w W → Calls Try.prog fn (#[.int .i64 (r : Nat)] ++ cap) W fun e W' => e = .returned (.int .i64 (num r : Nat)) ∧ ∃ n, W' = W.drewN n) :
    Calls Try.prog 203 #[.pointer (some ⟨T, 0, none⟩), .int .i64 (g.l : Nat), sv, .func (.func fn) #[] cap] w fun e w' => e = .returned (.agg (gaM g st num).cells) ∧ Below w.heap.size w w' := by
  obtain ⟨vn, vo, hT0, hN, hO⟩ := hT
  have e1 : (g.nxs g.s).length = g.s := by simp [Gm.nxs]
  have e2 : (g.ous g.s).length = g.s := by simp [Gm.ous]
  obtain ⟨An, cn, rn, rfl, n1, n2, n3⟩ := hN
  obtain ⟨Ao, co, ro, rfl, o1, o2, o3⟩ := hO
  rw [e1] at *
  rw [e2] at *
  have s16 := hok.sm
  have l3 := hok.l3
  have l2 := hok.l2
  have HO := hidd hok
  have H0 := hidd hT0
  -- the rows
  have rowN : ∀ p, p < g.s → ∃ Ar cr b o, An = some ⟨b, o, none⟩ ∧ w.cell? ⟨b, o + p, none⟩ = some (.slice Ar g.l cr) ∧ Rd w Ar (ints (g.nr p)) := fun p hp => by
    have hpr : p < rn.length := by rw [n2]; exact hp
    obtain ⟨b, o, hA, hcr⟩ := n1.at_ (List.getElem?_eq_getElem hpr)
    obtain ⟨Ar, cr, er, hrr⟩ := n3 p rn[p] (g.nr p) (List.getElem?_eq_getElem hpr) (by simp [Gm.nxs, hp])
    rw [er, show (g.nr p).length = g.l by simp [Gm.nr]] at hcr
    exact ⟨Ar, cr, b, o, hA, hcr, hrr⟩
  have rowO : ∀ p, p < g.s → ∃ Ar cr b o, Ao = some ⟨b, o, none⟩ ∧ w.cell? ⟨b, o + p, none⟩ = some (.slice Ar g.l cr) ∧ Rd w Ar (ints (g.or p)) := fun p hp => by
    have hpr : p < ro.length := by rw [o2]; exact hp
    obtain ⟨b, o, hA, hcr⟩ := o1.at_ (List.getElem?_eq_getElem hpr)
    obtain ⟨Ar, cr, er, hrr⟩ := o3 p ro[p] (g.or p) (List.getElem?_eq_getElem hpr) (by simp [Gm.ous, hp])
    rw [er, show (g.or p).length = g.l by simp [Gm.or]] at hcr
    exact ⟨Ar, cr, b, o, hA, hcr, hrr⟩
  have RN := hidd rowN
  have RO := hidd rowO
  have HC := hidd hc
  have Hst := hidd hst
  have Hnum := hidd hnum
  have Heg := hidd eg
  obtain ⟨As, cs, rfl, hss⟩ := hs
  rw [List.length_map]
  have HS := hidd hss
  clear hT0 n1 n2 n3 o1 o2 o3 hok rowN rowO hc hss hst hnum
  go_enter Try.func203, Try.ntmps203
  go_wp2_with ((with_reducible show wpList _ _ _ _ _ (World.alloc _ _)); refine stNew rfl (.tmp 9) (.tmp 17) (by rfl) (⟨g.l, (st.length : Nat), fun _ _ => 0, fun _ _ => 0⟩ : Mc) (w.heap.size + 1) (by simp) (by rw [zeroC_M]; exact Mc.cells_size _) (by rfl) (by rw [← bldZ]; rfl) ?_)
  rw [zeroC_M]
  obtain ⟨w1, hw1⟩ : ∃ w1, w1 = (w.alloc (.cells Mc.zero.cells 27)).alloc (.cells (⟨g.l, (st.length : Nat), fun _ _ => 0, fun _ _ => 0⟩ : Mc).cells 27) := ⟨_, rfl⟩
  rw [← hw1]
  have HI := hidd (show GaI w w1 (gaP g st num 0 0) by
    rw [hw1, gaP_zero]
    exact ⟨((Below.refl _ _).alloc (Nat.le_refl _) _).alloc (by simp) _, hp_old (hp_new rfl), hp_new (by simp)⟩)
  clear hw1 e1 e2
  go_loopw [20] (fun i wr => ∃ k : Nat, k ≤ st.length ∧ i = .int .i64 k ∧ Hid (GaI w wr (gaP g st num k 0))) (fun i _ => st.length - (intOf i).toNat)
  case atStart => exact ⟨0, Nat.zero_le _, rfl, HI⟩
  case round =>
    clear HI
    obtain ⟨k, hk, rfl, HI⟩ := hrel
    by_cases hks : k < st.length
    · obtain ⟨q, hq⟩ : ∃ q, q = st.getD k 0 := ⟨_, rfl⟩
      have hqs := Hst.out k hks
      have hget := HS.out.get (show k < (st.map fun (q : Nat) => (q : Int)).length by rw [List.length_map]; exact hks)
      obtain ⟨bs, os, rfl, cs1⟩ := hget
      rw [ofNat_get st hks] at cs1
      rw [← hq] at hqs cs1
      obtain ⟨Ar, cr, bn, on, rfl, cn1, hrn⟩ := RN.out q hqs
      have cs2 := (HI.out.bel.cell (p := ⟨bs, os + k, none⟩) (hp_lt' cs1)).trans cs1
      have cn2 := (HI.out.bel.cell (p := ⟨bn, on + q, none⟩) (hp_lt' cn1)).trans cn1
      have ct0 : w.cell? ⟨T, 0, none⟩ = some (.slice (some ⟨bn, on, none⟩) g.s cn) := blkc H0.out 0
      have ct1 : w.cell? ⟨T, 1, none⟩ = some (.slice Ao g.s co) := blkc H0.out 1
      have ct2 := (HI.out.bel.cell (p := ⟨T, 0, none⟩) (hp_lt' ct0)).trans ct0
      have j1 : (q : Int) < g.s := by omega
      have Hrn := hidd hrn
      have Hcs1 := hidd cs1
      have Hcn1 := hidd cn1
      have Hct1 := hidd ct1
      have Hq := hidd hq
      clear hrn cs1 cn1 ct0 ct1 hq
      go_wp2_with fail
      clear cs2 cn2 ct2
      obtain ⟨wo, rfl⟩ : ∃ wo : World, wo = wr := ⟨_, rfl⟩
      go_loopw [33] (fun i wr => ∃ x : Nat, x ≤ g.l ∧ i = .int .i64 x ∧ Hid (GaI w wr (gaP g st num k x))) (fun i _ => g.l - (intOf i).toNat)
      case atStart => exact ⟨0, Nat.zero_le _, rfl, HI⟩
      case round =>
        clear HI
        obtain ⟨x, hx, rfl, HI⟩ := hrel
        by_cases hxl : x < g.l
        · have hxr : x < (g.nr q).length := by simp [Gm.nr, hxl]
          obtain ⟨b3, o3, rfl, h3⟩ := Hrn.out.get hxr
          rw [show (g.nr q)[x]'hxr = (g.nx q x : Int) by simp [Gm.nr]] at h3
          have h3' := (HI.out.bel.cell (p := ⟨b3, o3 + x, none⟩) (hp_lt' h3)).trans h3
          obtain ⟨Ar2, cr2, bo, oo, rfl, co1, hro⟩ := RO.out q hqs
          have hxo : x < (g.or q).length := by simp [Gm.or, hxl]
          obtain ⟨b4, o4, rfl, h4⟩ := hro.get hxo
          rw [show (g.or q)[x]'hxo = (g.ou q x : Int) by simp [Gm.or]] at h4
          have HX := hidd (show ∀ W : World, Below w.heap.size w W → W.cell? ⟨T, 1, none⟩ = some (.slice (some ⟨bo, oo, none⟩) g.s co) ∧ W.cell? ⟨bo, oo + q, none⟩ = some (.slice (some ⟨b4, o4, none⟩) g.l cr2) ∧ W.cell? ⟨b4, o4 + x, none⟩ = some (.int .i64 (g.ou q x : Nat)) from fun W hW =>
            ⟨(hW.cell (p := ⟨T, 1, none⟩) (hp_lt' Hct1.out)).trans Hct1.out, (hW.cell (p := ⟨bo, oo + q, none⟩) (hp_lt' co1)).trans co1, (hW.cell (p := ⟨b4, o4 + x, none⟩) (hp_lt' h4)).trans h4⟩)
          have hnq := HO.out.nlt q x hqs hxl
          have hoq := HO.out.olt q x hqs hxl
          have hnn := Hnum.out _ hnq
          have HCq := hidd (HC.out (g.nx q x))
          have j2 : (x : Int) < g.l := by omega
          have j3 : (0 : Int) ≤ x := by omega
          have j4 : (0 : Int) ≤ q := by omega
          have j5 : (k : Int) < 16 := by omega
          have j6 : (0 : Int) ≤ k := by omega
          have j7 : (x : Int) < 3 := by omega
          have j8 : (g.ou q x : Int) < 256 := by omega
          have j9 : (num (g.nx q x) : Int) < 256 := by omega
          clear h3 co1 hro h4
          go_wp2_with fail
          clear h3'
          have r8 : IntKind.u8.wrap (g.ou q x : Int) = (g.ou q x : Int) := IntWalk.u8_in _ (by omega)
          have r9 : IntKind.u8.wrap (num (g.nx q x) : Int) = (num (g.nx q x) : Int) := IntWalk.u8_in _ (by omega)
          have S0 := hidd (bel_drewN HI.out.bel 1)
          refine wp_region_held (S := fun w' => Below w.heap.size w w') (by kernel_rfl) ?_
          change wpAnyH _ _ _ _ _ _ _ _ (World.drew _)
          refine wpAnyH_take (i := 0) (v := ?v0) rfl (by kernel_rfl) (by kernel_rfl) (by kernel_rfl) (fun _ _ _ h => h) (Or.inl ⟨by rfl, ?h0⟩) S0.out ?_
          case h0 => (intro w2 hS; obtain ⟨k1, k2, k3⟩ := HX.out w2 hS; clear hS; go_simp; first | done | with_reducible rfl)
          simp only [Act.put, List.getElem_toArray, List.getElem_cons_succ, List.getElem_cons_zero, List.setIfInBounds_toArray, List.set_cons_zero, List.set_cons_succ]
          refine wpAnyH_take (i := 1) (v := ?v1) rfl (by kernel_rfl) (by kernel_rfl) (by kernel_rfl) (fun _ _ _ h => h) (Or.inl ⟨by rfl, ?h1⟩) S0.out ?_
          case h1 => (intro w2 hS; obtain ⟨k1, k2, k3⟩ := HX.out w2 hS; clear hS; go_simp; first | done | with_reducible rfl)
          simp only [Act.put, List.getElem_toArray, List.getElem_cons_succ, List.getElem_cons_zero, List.setIfInBounds_toArray, List.set_cons_zero, List.set_cons_succ]
          refine wpAnyH_take (i := 2) (v := ?v2) rfl (by kernel_rfl) (by kernel_rfl) (by kernel_rfl) (fun _ _ _ h => h) (Or.inl ⟨by rfl, ?h2⟩) S0.out ?_
          case h2 => (intro w2 hS; obtain ⟨k1, k2, k3⟩ := HX.out w2 hS; clear hS; go_simp; first | done | with_reducible rfl)
          simp only [Act.put, List.getElem_toArray, List.getElem_cons_succ, List.getElem_cons_zero, List.setIfInBounds_toArray, List.set_cons_zero, List.set_cons_succ]
          refine wpAnyH_take (i := 3) (v := ?v3) rfl (by kernel_rfl) (by kernel_rfl) (by kernel_rfl) (fun _ _ _ h => h) (Or.inl ⟨by rfl, ?h3⟩) S0.out ?_
          case h3 => (intro w2 hS; obtain ⟨k1, k2, k3⟩ := HX.out w2 hS; clear hS; go_simp; first | done | with_reducible rfl)
          simp only [Act.put, List.getElem_toArray, List.getElem_cons_succ, List.getElem_cons_zero, List.setIfInBounds_toArray, List.set_cons_zero, List.set_cons_succ]
          refine wpAnyH_take (i := 4) (v := ?v4) rfl (by kernel_rfl) (by kernel_rfl) (by kernel_rfl) (fun _ _ _ h => h) (Or.inl ⟨by rfl, ?h4⟩) S0.out ?_
          case h4 => (intro w2 hS; obtain ⟨k1, k2, k3⟩ := HX.out w2 hS; clear hS; go_simp; first | done | with_reducible rfl)
          simp only [Act.put, List.getElem_toArray, List.getElem_cons_succ, List.getElem_cons_zero, List.setIfInBounds_toArray, List.set_cons_zero, List.set_cons_succ]
          refine wpAnyH_take (i := 5) (v := ?v5) rfl (by kernel_rfl) (by kernel_rfl) (by kernel_rfl) (fun _ _ _ h => h) (Or.inl ⟨by rfl, ?h5⟩) S0.out ?_
          case h5 => (intro w2 hS; obtain ⟨k1, k2, k3⟩ := HX.out w2 hS; clear hS; go_simp; first | done | with_reducible rfl)
          simp only [Act.put, List.getElem_toArray, List.getElem_cons_succ, List.getElem_cons_zero, List.setIfInBounds_toArray, List.set_cons_zero, List.set_cons_succ]
          refine wpAnyH_take (i := 8) (v := ?v8) rfl (by kernel_rfl) (by kernel_rfl) (by kernel_rfl) (fun _ _ _ h => h) (Or.inl ⟨by rfl, ?h8⟩) S0.out ?_
          case h8 => (intro w2 hS; obtain ⟨k1, k2, k3⟩ := HX.out w2 hS; clear hS; go_simp; first | done | with_reducible rfl)
          simp only [Act.put, List.getElem_toArray, List.getElem_cons_succ, List.getElem_cons_zero, List.setIfInBounds_toArray, List.set_cons_zero, List.set_cons_succ]
          refine wpAnyH_take (i := 9) (v := ?v9) rfl (by kernel_rfl) (by kernel_rfl) (by kernel_rfl) (fun _ _ _ h => h) (Or.inl ⟨by rfl, ?h9⟩) S0.out ?_
          case h9 => (intro w2 hS; obtain ⟨k1, k2, k3⟩ := HX.out w2 hS; clear hS; go_simp; first | done | with_reducible rfl)
          simp only [Act.put, List.getElem_toArray, List.getElem_cons_succ, List.getElem_cons_zero, List.setIfInBounds_toArray, List.set_cons_zero, List.set_cons_succ]
          refine wpAnyH_take (i := 10) (v := ?v10) rfl (by kernel_rfl) (by kernel_rfl) (by kernel_rfl) (fun _ _ _ h => h) (Or.inl ⟨by rfl, ?h10⟩) S0.out ?_
          case h10 => (intro w2 hS; obtain ⟨k1, k2, k3⟩ := HX.out w2 hS; clear hS; go_simp; first | done | with_reducible rfl)
          simp only [Act.put, List.getElem_toArray, List.getElem_cons_succ, List.getElem_cons_zero, List.setIfInBounds_toArray, List.set_cons_zero, List.set_cons_succ]
          refine wpAnyH_take (i := 11) (v := ?v11) rfl (by kernel_rfl) (by kernel_rfl) (by kernel_rfl) (fun _ _ _ h => h) (Or.inl ⟨by rfl, ?h11⟩) S0.out ?_
          case h11 => (intro w2 hS; obtain ⟨k1, k2, k3⟩ := HX.out w2 hS; clear hS; go_simp; first | done | with_reducible rfl)
          simp only [Act.put, List.getElem_toArray, List.getElem_cons_succ, List.getElem_cons_zero, List.setIfInBounds_toArray, List.set_cons_zero, List.set_cons_succ]
          refine wpAnyH_take (i := 12) (v := ?v12) rfl (by kernel_rfl) (by kernel_rfl) (by kernel_rfl) (fun _ _ _ h => h) (Or.inl ⟨by rfl, ?h12⟩) S0.out ?_
          case h12 => (intro w2 hS; obtain ⟨k1, k2, k3⟩ := HX.out w2 hS; clear hS; go_simp; first | done | with_reducible rfl)
          simp only [Act.put, List.getElem_toArray, List.getElem_cons_succ, List.getElem_cons_zero, List.setIfInBounds_toArray, List.set_cons_zero, List.set_cons_succ]
          refine wpAnyH_take (i := 13) (v := ?v13) rfl (by kernel_rfl) (by kernel_rfl) (by kernel_rfl) (fun _ _ _ h => h) (Or.inl ⟨by rfl, ?h13⟩) S0.out ?_
          case h13 => (intro w2 hS; obtain ⟨k1, k2, k3⟩ := HX.out w2 hS; clear hS; go_simp; first | done | with_reducible rfl)
          simp only [Act.put, List.getElem_toArray, List.getElem_cons_succ, List.getElem_cons_zero, List.setIfInBounds_toArray, List.set_cons_zero, List.set_cons_succ]
          refine wpAnyH_take (i := 14) (v := ?v14) rfl (by kernel_rfl) (by kernel_rfl) (by kernel_rfl) (fun _ _ _ h => h) (Or.inl ⟨by rfl, ?h14⟩) S0.out ?_
          case h14 => (intro w2 hS; obtain ⟨k1, k2, k3⟩ := HX.out w2 hS; clear hS; go_simp; first | done | with_reducible rfl)
          simp only [Act.put, List.getElem_toArray, List.getElem_cons_succ, List.getElem_cons_zero, List.setIfInBounds_toArray, List.set_cons_zero, List.set_cons_succ]
          refine wpAnyH_take (i := 15) (v := ?v15) rfl (by kernel_rfl) (by kernel_rfl) (by kernel_rfl) (fun _ _ _ h => h) (Or.inl ⟨by rfl, ?h15⟩) S0.out ?_
          case h15 => (intro w2 hS; obtain ⟨k1, k2, k3⟩ := HX.out w2 hS; clear hS; go_simp; first | done | with_reducible rfl)
          simp only [Act.put, List.getElem_toArray, List.getElem_cons_succ, List.getElem_cons_zero, List.setIfInBounds_toArray, List.set_cons_zero, List.set_cons_succ]
          refine wpAnyH_take (i := 16) (v := ?v16) rfl (by kernel_rfl) (by kernel_rfl) (by kernel_rfl) (fun _ _ _ h => h) (Or.inl ⟨by rfl, ?h16⟩) S0.out ?_
          case h16 => (intro w2 hS; obtain ⟨k1, k2, k3⟩ := HX.out w2 hS; clear hS; go_simp; first | done | with_reducible rfl)
          simp only [Act.put, List.getElem_toArray, List.getElem_cons_succ, List.getElem_cons_zero, List.setIfInBounds_toArray, List.set_cons_zero, List.set_cons_succ]
          refine wpAnyH_take (i := 17) (v := ?v17) rfl (by kernel_rfl) (by kernel_rfl) (by kernel_rfl) (fun _ _ _ h => h) (Or.inl ⟨by rfl, ?h17⟩) S0.out ?_
          case h17 => (intro w2 hS; obtain ⟨k1, k2, k3⟩ := HX.out w2 hS; clear hS; go_simp; first | done | with_reducible rfl)
          simp only [Act.put, List.getElem_toArray, List.getElem_cons_succ, List.getElem_cons_zero, List.setIfInBounds_toArray, List.set_cons_zero, List.set_cons_succ]
          refine wpAnyH_take (i := 18) (v := ?v18) rfl (by kernel_rfl) (by kernel_rfl) (by kernel_rfl) (fun _ _ _ h => h) (Or.inl ⟨by rfl, ?h18⟩) S0.out ?_
          case h18 => (intro w2 hS; obtain ⟨k1, k2, k3⟩ := HX.out w2 hS; clear hS; go_simp; first | done | with_reducible rfl)
          simp only [Act.put, List.getElem_toArray, List.getElem_cons_succ, List.getElem_cons_zero, List.setIfInBounds_toArray, List.set_cons_zero, List.set_cons_succ]
          refine wpAnyH_take (i := 19) (v := ?v19) rfl (by kernel_rfl) (by kernel_rfl) (by kernel_rfl) (fun _ _ _ h => h) (Or.inl ⟨by rfl, ?h19⟩) S0.out ?_
          case h19 => (intro w2 hS; obtain ⟨k1, k2, k3⟩ := HX.out w2 hS; clear hS; go_simp; first | done | with_reducible rfl)
          simp only [Act.put, List.getElem_toArray, List.getElem_cons_succ, List.getElem_cons_zero, List.setIfInBounds_toArray, List.set_cons_zero, List.set_cons_succ]
          refine wpAnyH_take (i := 20) (v := ?v20) rfl (by kernel_rfl) (by kernel_rfl) (by kernel_rfl) (fun _ _ _ h => h) (Or.inl ⟨by rfl, ?h20⟩) S0.out ?_
          case h20 => (intro w2 hS; obtain ⟨k1, k2, k3⟩ := HX.out w2 hS; clear hS; go_simp; first | done | with_reducible rfl)
          simp only [Act.put, List.getElem_toArray, List.getElem_cons_succ, List.getElem_cons_zero, List.setIfInBounds_toArray, List.set_cons_zero, List.set_cons_succ]
          refine wpAnyH_take (i := 23) (v := ?v23) rfl (by kernel_rfl) (by kernel_rfl) (by kernel_rfl) (fun _ _ _ h => h) (Or.inl ⟨by rfl, ?h23⟩) S0.out ?_
          case h23 => (intro w2 hS; obtain ⟨k1, k2, k3⟩ := HX.out w2 hS; clear hS; go_simp; first | done | with_reducible rfl)
          simp only [Act.put, List.getElem_toArray, List.getElem_cons_succ, List.getElem_cons_zero, List.setIfInBounds_toArray, List.set_cons_zero, List.set_cons_succ]
          refine wpAnyH_take (i := 24) (v := ?v24) rfl (by kernel_rfl) (by kernel_rfl) (by kernel_rfl) (fun _ _ _ h => h) (Or.inl ⟨by rfl, ?h24⟩) S0.out ?_
          case h24 => (intro w2 hS; obtain ⟨k1, k2, k3⟩ := HX.out w2 hS; clear hS; go_simp; first | done | with_reducible rfl)
          simp only [Act.put, List.getElem_toArray, List.getElem_cons_succ, List.getElem_cons_zero, List.setIfInBounds_toArray, List.set_cons_zero, List.set_cons_succ]
          refine wpAnyH_ready (rs := [6]) (by kernel_rfl) (by simp) (AllReadyH.cons rfl (fun K hK => ?_) AllReadyH.nil)
          go_simp
          refine (HCq.out _ hnq S0.out).mono ?_
          rintro e w5 ⟨rfl, n5, e5⟩
          have HI5 := hidd (show GaI w w5 (gaP g st num k x) by rw [e5]; exact (HI.out.drewN 1).drewN n5)
          refine hK.out _ _ HI5.out.bel (fun _ => ?_)
          clear e5 hK K
          refine wpAnyH_take (i := 7) (v := ?v7) rfl (by kernel_rfl) (by kernel_rfl) (by kernel_rfl) (fun _ _ _ h => h) (Or.inl ⟨by rfl, ?h7⟩) HI5.out.bel ?_
          case h7 => (intro w2 hS; clear hS; go_simp; first | done | with_reducible rfl)
          simp only [Act.put, List.getElem_toArray, List.getElem_cons_succ, List.getElem_cons_zero, List.setIfInBounds_toArray, List.set_cons_zero, List.set_cons_succ]
          refine wpAnyH_take (i := 21) (v := ?v21) rfl (by kernel_rfl) (by kernel_rfl) (by kernel_rfl) (fun _ _ _ h => h) (Or.inl ⟨by rfl, ?h21⟩) HI5.out.bel ?_
          case h21 => (intro w2 hS; clear hS; go_simp; first | done | with_reducible rfl)
          simp only [Act.put, List.getElem_toArray, List.getElem_cons_succ, List.getElem_cons_zero, List.setIfInBounds_toArray, List.set_cons_zero, List.set_cons_succ]
          have d1 := (blkc HI5.out.ho (2 + k * 3 + x)).trans ((Mc.cells_get _ _).trans (if_pos (by omega)))
          obtain ⟨x1, hx1⟩ : ∃ v, v = (gaP g st num k x).cellAt (2 + k * 3 + x) := ⟨_, rfl⟩
          rw [← hx1] at d1
          have f1 := blkf HI5.out.ho (2 + k * 3 + x)
          have HI6 := hidd (HI5.out.set (2 + k * 3 + x) (.int .u8 (num (g.nx q x) : Nat)) (Mc.cells_setN _ k x (num (g.nx q x)) (by omega) (by omega)))
          clear hx1
          refine wpAnyH_ready (rs := [22]) (by kernel_rfl) (by simp) (AllReadyH.cons rfl (fun K hK => ?_) AllReadyH.nil)
          go_simp
          refine hK.out _ _ HI6.out.bel (fun _ => ?_)
          clear hK K d1 f1
          obtain ⟨w6, hw6⟩ : ∃ w6, w6 = w5.setCell ⟨w.heap.size + 1, 2 + k * 3 + x, none⟩ (.int .u8 (num (g.nx q x) : Nat)) := ⟨_, rfl⟩
          rw [← hw6] at HI6 ⊢
          clear hw6
          refine wpAnyH_take (i := 25) (v := ?v25) rfl (by kernel_rfl) (by kernel_rfl) (by kernel_rfl) (fun _ _ _ h => h) (Or.inl ⟨by rfl, ?h25⟩) HI6.out.bel ?_
          case h25 => (intro w2 hS; clear hS; go_simp; first | done | with_reducible rfl)
          simp only [Act.put, List.getElem_toArray, List.getElem_cons_succ, List.getElem_cons_zero, List.setIfInBounds_toArray, List.set_cons_zero, List.set_cons_succ]
          have d1 := (blkc HI6.out.ho (50 + k * 3 + x)).trans ((Mc.cells_get _ _).trans (if_pos (by omega)))
          obtain ⟨x1, hx1⟩ : ∃ v, v = ((gaP g st num k x).setN k x (num (g.nx q x))).cellAt (50 + k * 3 + x) := ⟨_, rfl⟩
          rw [← hx1] at d1
          have f1 := blkf HI6.out.ho (50 + k * 3 + x)
          have HI7 := hidd (HI6.out.set (50 + k * 3 + x) (.int .u8 (g.ou q x : Nat)) (Mc.cells_setO _ k x (g.ou q x) (by omega) (by omega)))
          clear hx1
          refine wpAnyH_ready (rs := [26]) (by kernel_rfl) (by simp) (AllReadyH.cons rfl (fun K hK => ?_) AllReadyH.nil)
          go_simp
          refine hK.out _ _ HI7.out.bel (fun _ => ?_)
          clear hK K d1 f1
          refine wpAnyH_done (by kernel_rfl) ?_ _
          clear r8 r9
          go_wp2_with fail
          go_roundw
          case rel => exact ⟨x + 1, by omega, by go_num, hidd (by have := HI7.out; have e := gaP_step g st num (i := k) hxl; rw [← Hq.out] at e; rw [e] at this; exact this)⟩
          case measure => simp [intOf]; omega
        · have he : x = g.l := by omega
          subst he
          go_wp2_with fail
          go_roundw
          case rel => exact ⟨k + 1, by omega, by go_num, hidd (by have := HI.out; rw [gaP_row] at this; exact this)⟩
          case measure => simp [intOf]; omega
    · have he : k = st.length := by omega
      subst he
      go_wp2_with (first | (refine ldC rfl (.tmp 9) rfl _ (gaM g st num) HI.out.ho (by rfl) ?_) | (refine stC rfl (.tmp 8) (.tmp 65) rfl _ (gaM g st num) HI.out.hz (Mc.cells_size _) (by rfl) (by rfl) ?_))
      refine bodyPost_ret (v := .agg (gaM g st num).cells) (results_cell_row rfl _ _ w.heap.size 27 _ (0, 0) _ rfl (setRow_heap _ _ _ _ _ _ HI.out.hz) Try.underlying27 rfl (cells98i _)) rfl ⟨rfl, ?_⟩
      exact bel_row HI.out.bel (Nat.le_refl _) _
end Go.Proofs.Ytjnnbjlombopnaa
