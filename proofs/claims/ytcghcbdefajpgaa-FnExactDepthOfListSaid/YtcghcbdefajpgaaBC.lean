/- Small texts of the walks under one roof. -/
import Derived.Test.YtcghcbdefajpgaaBB
import Derived.BigQuiet
import Derived.Deep.RegionWith
import Derived.Deep.LoopGhost
import Derived.OrdersHeld
import Derived.WalkKit
import Derived.Below
import Derived.RegionTactic
import Derived.Deep.RegionHeld3
import Derived.Shelf.Abstract
/- Walks: the classes of equal states, of the reference. -/
namespace Go.Proofs.Ytcghcbdefajpgaa
open Go.RowKit

/-! ### Equal states of a machine -/
def Gm.oe (g : Gm) (q r : Nat) : Bool := (List.range g.l).all fun x => decide (g.ou q x = g.ou r x)
theorem Gm.oe_iff (g : Gm) (q r : Nat) : g.oe q r = true ↔ ∀ x, x < g.l → g.ou q x = g.ou r x := by simp [Gm.oe]
theorem Gm.oeE (g : Gm) : Eqv g.oe := ⟨fun q => (g.oe_iff q q).2 fun _ _ => rfl, fun q r h => (g.oe_iff r q).2 fun x hx => ((g.oe_iff q r).1 h x hx).symm, fun q r t h h2 => (g.oe_iff q t).2 fun x hx => ((g.oe_iff q r).1 h x hx).trans ((g.oe_iff r t).1 h2 x hx)⟩
def Gm.cl (g : Gm) : Nat → Nat → Nat := Ytcghcbdefajpgaa.cl g.l g.nx g.oe
def Gm.lst (g : Gm) (q : Nat) : Nat := Ytcghcbdefajpgaa.lst g.s g.l g.nx g.oe q
def iv (C : Nat → Nat) (n : Nat) : Array Value := av (fun j => .int .i64 (C j : Nat)) n
theorem iv_get (C : Nat → Nat) {n j : Nat} (h : j < n) : (iv C n)[j]? = some (.int .i64 (C j : Nat)) := av_get _ h
def updN (F : Nat → Nat) (q b : Nat) : Nat → Nat := fun j => if j = q then b else F j
theorem updN_same (F : Nat → Nat) (q b : Nat) : updN F q b q = b := by simp [updN]
theorem updN_ne (F : Nat → Nat) (b : Nat) {q j : Nat} (h : j ≠ q) : updN F q b j = F j := by simp [updN, h]
theorem iv_set (C : Nat → Nat) (n q b : Nat) : (iv C n).setIfInBounds q (.int .i64 (b : Nat)) = iv (updN C q b) n := by
  unfold iv
  rw [av_set]
  refine av_congr fun j _ => ?_
  unfold updN
  split <;> rfl
theorem iv_congr {C C' : Nat → Nat} {n : Nat} (h : ∀ j, j < n → C j = C' j) : iv C n = iv C' n := av_congr fun j hj => by rw [h j hj]

/-- The same outputs, and on to the same classes, for the first x letters. -/
def sameTo (g : Gm) (C : Nat → Nat) (q r x : Nat) : Bool := (List.range x).all fun y => decide (g.ou q y = g.ou r y) && decide (C (g.nx q y) = C (g.nx r y))
theorem sameTo_succ (g : Gm) (C : Nat → Nat) (q r x : Nat) : sameTo g C q r (x + 1) = (sameTo g C q r x && (decide (g.ou q x = g.ou r x) && decide (C (g.nx q x) = C (g.nx r x)))) := by simp [sameTo, List.range_succ]
theorem sameTo_no {g : Gm} {C : Nat → Nat} {q r x : Nat} (hx : x < g.l) (h : (decide (g.ou q x = g.ou r x) && decide (C (g.nx q x) = C (g.nx r x))) = false) : sameTo g C q r g.l = false := by
  unfold sameTo
  rw [List.all_eq_false]
  exact ⟨x, List.mem_range.2 hx, by rw [h]; simp⟩
theorem rel_same (g : Gm) (C : Nat → Nat) (q r : Nat) : rel g.l g.nx g.oe C q r = (decide (C r = C q) && sameTo g C q r g.l) := by
  rw [Bool.eq_iff_iff, rel_iff, Bool.and_eq_true, decide_eq_true_eq]
  unfold sameTo
  simp only [List.all_eq_true, List.mem_range, Bool.and_eq_true, decide_eq_true_eq, Gm.oe_iff]
  exact ⟨fun ⟨a, b, c⟩ => ⟨a, fun x hx => ⟨b x hx, c x hx⟩⟩, fun ⟨a, b⟩ => ⟨a, fun x hx => (b x hx).1, fun x hx => (b x hx).2⟩⟩

set_option maxRecDepth 100000 in
set_option maxHeartbeats 1000000 in
theorem l01Same_any (g : Gm) (hok : g.Ok) (cs : Array Value) (hg : g.Is cs) (C : Nat → Nat) (q r : Nat) (hq : q < g.s) (hr : r < g.s) (w : World) :
    Calls Try.prog 71 #[.agg cs, .agg (iv C 16), .int .i64 q, .int .i64 r] w fun e w' => e = .returned (.bool (sameTo g C q r g.l)) ∧ Below w.heap.size w w' := by
  have HG := hidd hg
  have HO := hidd hok
  have s16 := hok.s16
  have l3 := hok.l3
  clear hg hok
  go_enter Try.func71, Try.ntmps71
  go_wp2_with fail
  obtain ⟨w1, hw1⟩ : ∃ w1, w1 = (w.alloc (.cells cs 31)).alloc (.cells (iv C 16) 79) := ⟨_, rfl⟩
  rw [← hw1]
  have Bel := hidd (show Below w.heap.size w w1 by rw [hw1]; exact ((Below.refl _ _).alloc (Nat.le_refl _) _).alloc (by simp) _)
  have M1 := hidd (show w1.heap[w.heap.size]? = some (.cells cs 31 (0, 0)) by rw [hw1]; exact hp_old (hp_new rfl))
  have C1 := hidd (show w1.heap[w.heap.size + 1]? = some (.cells (iv C 16) 79 (0, 0)) by rw [hw1]; exact hp_new (by simp))
  clear hw1
  go_loopw [9] (fun i wr => ∃ x : Nat, x ≤ g.l ∧ i = .int .i64 x ∧ Hid (sameTo g C q r x = true) ∧ Hid (Below w.heap.size w wr) ∧ Hid (wr.heap[w.heap.size]? = some (.cells cs 31 (0, 0))) ∧ Hid (wr.heap[w.heap.size + 1]? = some (.cells (iv C 16) 79 (0, 0)))) (fun i _ => g.l - (intOf i).toNat)
  case atStart => exact ⟨0, Nat.zero_le _, rfl, hidd rfl, Bel, M1, C1⟩
  case round =>
    clear Bel M1 C1
    obtain ⟨x, hx, rfl, HS, Hb, HM, HC⟩ := hrel
    have A2 := hidd (Gm.At.of_is HG.out HM.out)
    have a1 := A2.out.l
    by_cases hxl : x < g.l
    · have n1 := A2.out.n q x (by omega) (by omega)
      have n2 := A2.out.n r x (by omega) (by omega)
      have o1 := A2.out.o q x (by omega) (by omega)
      have o2 := A2.out.o r x (by omega) (by omega)
      rw [Nat.zero_add] at n1 n2 o1 o2
      have d1 := (blkc HC.out (g.nx q x)).trans (iv_get C (by have := HO.out.nlt q x hq hxl; omega))
      have d2 := (blkc HC.out (g.nx r x)).trans (iv_get C (by have := HO.out.nlt r x hr hxl; omega))
      have j1 : (q : Int) < 16 := by omega
      have j2 : (r : Int) < 16 := by omega
      have j3 : (x : Int) < 3 := by omega
      have j4 : (g.nx q x : Int) < 16 := by have := HO.out.nlt q x hq hxl; omega
      have j5 : (g.nx r x : Int) < 16 := by have := HO.out.nlt r x hr hxl; omega
      have j6 : (0 : Int) ≤ q := by omega
      have j7 : (0 : Int) ≤ r := by omega
      have j8 : (0 : Int) ≤ x := by omega
      have j9 : (0 : Int) ≤ (g.nx q x : Int) := by omega
      have j10 : (0 : Int) ≤ (g.nx r x : Int) := by omega
      have hn256 := A2.out.nb q x (by omega) (by omega)
      have hn256' := A2.out.nb r x (by omega) (by omega)
      by_cases ho : g.ou q x = g.ou r x
      · have HOu := hidd ho
        have hd : ((g.ou q x : Int) != (g.ou r x : Int)) = false := bne_eq_false_iff_eq.2 (by omega)
        clear ho
        by_cases hc : C (g.nx q x) = C (g.nx r x)
        · have HCe := hidd hc
          have hd2 : ((C (g.nx q x) : Int) != (C (g.nx r x) : Int)) = false := bne_eq_false_iff_eq.2 (by omega)
          clear hc
          go_wp2_with fail
          go_quiet (fail)
          go_wp2_with fail
          go_roundw
          case rel => exact ⟨x + 1, by omega, by go_num, hidd (by rw [sameTo_succ, HS.out, HOu.out, HCe.out]; simp), hidd (bel_drewN Hb.out _), hidd HM.out, hidd HC.out⟩
          case measure => simp [intOf]; omega
        · have HCe := hidd hc
          have hd2 : ((C (g.nx q x) : Int) != (C (g.nx r x) : Int)) = true := bne_iff_ne.2 (by omega)
          clear hc
          go_wp2_with fail
          go_quiet (fail)
          go_wp2_with fail
          go_ret
          exact ⟨ret_b (sameTo_no hxl (by rw [decide_eq_false HCe.out, Bool.and_false])).symm, bel_drewN Hb.out _⟩
      · have HOu := hidd ho
        have hd : ((g.ou q x : Int) != (g.ou r x : Int)) = true := bne_iff_ne.2 (by omega)
        clear ho
        go_wp2_with fail
        go_quiet (fail)
        go_wp2_with fail
        go_ret
        exact ⟨ret_b (sameTo_no hxl (by rw [decide_eq_false HOu.out, Bool.false_and])).symm, bel_drewN Hb.out _⟩
    · have he : x = g.l := by omega
      subst he
      go_wp2_with fail
      go_ret
      exact ⟨ret_b HS.out.symm, Hb.out⟩
end Go.Proofs.Ytcghcbdefajpgaa

/- Walks: the classes of equal states, of the reference: the rounds. -/
namespace Go.Proofs.Ytcghcbdefajpgaa
open Go.RowKit

/-- A whole array out of a variable. -/
def loadA (a : Addr) : Sem Value := loadVar 79 a
theorem loadVar_A (a : Addr) : loadVar 79 a = loadA a := rfl
theorem run_loadA {W : World} {b : Nat} {C : Nat → Nat} {t : TypeId} {fr : Nat × Nat} (h : W.heap[b]? = some (.cells (iv C 16) t fr)) : (loadA ⟨b, 0, none⟩).run Try.prog W = .ok (.agg (iv C 16)) W := by
  have hs : (iv C 16).size = 16 := av_size _ _
  have := run_loadVar_at (P := Try.prog) W b 0 16 t 79 (iv C 16) fr _ h Try.underlying79 rfl (by kernel_rfl) (by rw [hs]; omega)
  have e : (iv C 16).extract 0 (0 + 16) = iv C 16 := by rw [show 0 + 16 = (iv C 16).size from hs.symm]; simp
  rw [e] at this
  exact this
attribute [go_sem ↓ high] loadVar_A
attribute [go_sem] run_loadA

def CI (g : Gm) (r : Nat) (C : Nat → Nat) : Prop := (∀ j, j < g.s → C j = g.cl r j) ∧ ∀ j, g.s ≤ j → C j = 0
def NI (g : Gm) (r q : Nat) (N : Nat → Nat) : Prop := (∀ j, j < q → N j = g.cl (r + 1) j) ∧ ∀ j, q ≤ j → N j = 0
theorem CI.start (g : Gm) : CI g 0 (fun _ => 0) := ⟨fun _ _ => rfl, fun _ _ => rfl⟩
theorem NI.start (g : Gm) (r : Nat) : NI g r 0 (fun _ => 0) := ⟨fun j hj => by omega, fun _ _ => rfl⟩
theorem NI.all {g : Gm} {r : Nat} {N : Nat → Nat} (h : NI g r g.s N) : CI g (r + 1) N := h
theorem sameTo_congr {g : Gm} (hok : g.Ok) {C C' : Nat → Nat} (h : ∀ j, j < g.s → C j = C' j) {q p : Nat} (hq : q < g.s) (hp : p < g.s) : sameTo g C q p g.l = sameTo g C' q p g.l := by
  unfold sameTo
  rw [Bool.eq_iff_iff]
  simp only [List.all_eq_true, List.mem_range, Bool.and_eq_true, decide_eq_true_eq]
  constructor
  · intro a x hx
    have := a x hx
    rw [h _ (hok.nlt q x hq hx), h _ (hok.nlt p x hp hx)] at this
    exact this
  · intro a x hx
    rw [h _ (hok.nlt q x hq hx), h _ (hok.nlt p x hp hx)]
    exact a x hx
/-- Whether p is like q in a round. -/
def lik (g : Gm) (C : Nat → Nat) (q p : Nat) : Bool := decide (C q = C p) && sameTo g C q p g.l
theorem lik_rel {g : Gm} (hok : g.Ok) {r : Nat} {C : Nat → Nat} (h : CI g r C) {q p : Nat} (hq : q < g.s) (hp : p < g.s) : lik g C q p = rel g.l g.nx g.oe (g.cl r) q p := by
  unfold lik
  rw [rel_same, ← sameTo_congr hok h.1 hq hp, h.1 q hq, h.1 p hp]
  congr 1
  rw [Bool.eq_iff_iff, decide_eq_true_eq, decide_eq_true_eq]
  exact eq_comm
theorem NI.hit {g : Gm} (hok : g.Ok) {r q p : Nat} {C N : Nat → Nat} (hc : CI g r C) (h : NI g r q N) (hq : q < g.s) (hp : p < q) (hl : lik g C q p = true) : NI g r (q + 1) (updN N q (N p)) := by
  rw [lik_rel hok hc hq (by omega)] at hl
  refine ⟨fun j hj => ?_, fun j hj => ?_⟩
  · by_cases e : j = q
    · subst e
      rw [updN_same, h.1 p hp]
      exact ((rnd_eq_iff g.oeE (g.cl r) j p).2 hl).symm
    · rw [updN_ne N _ e]; exact h.1 j (by omega)
  · rw [updN_ne N _ (by omega)]; exact h.2 j (by omega)
theorem NI.miss {g : Gm} (hok : g.Ok) {r q : Nat} {C N : Nat → Nat} (hc : CI g r C) (h : NI g r q N) (hq : q < g.s) (hl : ∀ p, p < q → lik g C q p = false) : NI g r (q + 1) (updN N q q) := by
  refine ⟨fun j hj => ?_, fun j hj => ?_⟩
  · by_cases e : j = q
    · subst e
      rw [updN_same]
      exact (first_eq (Nat.le_refl _) (fun h => absurd h (Nat.lt_irrefl _)) (fun p hp => (lik_rel hok hc hq (by omega)).symm.trans (hl p hp))).symm
    · rw [updN_ne N _ e]; exact h.1 j (by omega)
  · rw [updN_ne N _ (by omega)]; exact h.2 j (by omega)
theorem updN_updN (F : Nat → Nat) (q a b : Nat) : updN (updN F q a) q b = updN F q b := by
  funext j
  unfold updN
  split <;> rfl
/-- The least equal states, as the array of the reference says. -/
def Gm.ls16 (g : Gm) (q : Nat) : Nat := if q < g.s then g.lst q else 0
theorem CI.all {g : Gm} {C : Nat → Nat} (h : CI g (g.s + 1) C) : iv C 16 = iv g.ls16 16 := iv_congr fun j _ => by
  unfold Gm.ls16
  split
  · rename_i hj; exact h.1 j hj
  · rename_i hj; exact h.2 j (by omega)

set_option maxRecDepth 100000 in
set_option maxHeartbeats 2000000 in
theorem l01Classes_any (g : Gm) (hok : g.Ok) (cs : Array Value) (hg : g.Is cs) (w : World) :
    Calls Try.prog 43 #[.agg cs] w fun e w' => e = .returned (.agg (iv g.ls16 16)) ∧ Below w.heap.size w w' := by
  obtain rfl := hg.is.eq_cells
  have HG := hidd hg
  have HO := hidd hok
  have s16 := hok.s16
  have l3 := hok.l3
  clear hg hok
  go_enter Try.func43, Try.ntmps43
  go_wp2_with fail
  obtain ⟨w1, hw1⟩ : ∃ w1, w1 = ((w.alloc (.cells g.mc.cells 31)).alloc (.cells (iv (fun _ => 0) 16) 79)).alloc (.cells (iv (fun _ => 0) 16) 79) := ⟨_, rfl⟩
  rw [show (#[Value.int .i64 0, Value.int .i64 0, Value.int .i64 0, Value.int .i64 0, Value.int .i64 0, Value.int .i64 0, Value.int .i64 0, Value.int .i64 0, Value.int .i64 0, Value.int .i64 0, Value.int .i64 0, Value.int .i64 0, Value.int .i64 0, Value.int .i64 0, Value.int .i64 0, Value.int .i64 0] : Array Value) = iv (fun _ => 0) 16 from rfl, ← hw1]
  have Bel := hidd (show Below w.heap.size w w1 by rw [hw1]; exact (((Below.refl _ _).alloc (Nat.le_refl _) _).alloc (by simp) _).alloc (by simp; omega) _)
  have NA := hidd (show w1.heap[w.heap.size]? = some (.cells g.mc.cells 31 (0, 0)) by rw [hw1]; exact hp_old (hp_old (hp_new rfl)))
  have N0 := hidd (show w1.heap[w.heap.size + 1]? = some (.cells (iv (fun _ => 0) 16) 79 (0, 0)) by rw [hw1]; exact hp_old (hp_new (by simp)))
  have N1 := hidd (show w1.heap[w.heap.size + 1 + 1]? = some (.cells (iv (fun _ => 0) 16) 79 (0, 0)) by rw [hw1]; exact hp_new (by simp))
  clear hw1
  go_loopw [4] (fun i wr => ∃ (r : Nat) (C : Nat → Nat), r ≤ g.s + 1 ∧ i = .int .i64 r ∧ Hid (CI g r C) ∧ Hid (Below w.heap.size w wr) ∧ Hid (wr.heap[w.heap.size]? = some (.cells g.mc.cells 31 (0, 0))) ∧ Hid (wr.heap[w.heap.size + 1]? = some (.cells (iv (fun _ => 0) 16) 79 (0, 0))) ∧ Hid (wr.heap[w.heap.size + 1 + 1]? = some (.cells (iv C 16) 79 (0, 0)))) (fun i _ => g.s + 1 - (intOf i).toNat)
  case atStart => exact ⟨0, fun _ => 0, Nat.zero_le _, rfl, hidd (CI.start g), Bel, NA, N0, N1⟩
  case round =>
    clear Bel NA N0 N1
    obtain ⟨r, C, hr, rfl, HCI, Hb, HM, H0, HC⟩ := hrel
    have a1 := (Gm.At.of_is HG.out HM.out).s
    by_cases hrs : r ≤ g.s
    · go_wp2_with fail
      rw [show (#[Value.int .i64 0, Value.int .i64 0, Value.int .i64 0, Value.int .i64 0, Value.int .i64 0, Value.int .i64 0, Value.int .i64 0, Value.int .i64 0, Value.int .i64 0, Value.int .i64 0, Value.int .i64 0, Value.int .i64 0, Value.int .i64 0, Value.int .i64 0, Value.int .i64 0, Value.int .i64 0] : Array Value) = iv (fun _ => 0) 16 from rfl]
      clear a1
      obtain ⟨wo, hwo⟩ : ∃ wo, wo = wr.alloc (.cells (iv (fun _ => 0) 16) 79) := ⟨_, rfl⟩
      rw [← hwo]
      obtain ⟨nb, hnb⟩ : ∃ nb, nb = wr.heap.size := ⟨_, rfl⟩
      rw [← hnb]
      have hn2 : w.heap.size + 1 + 1 < nb := by rw [hnb]; exact hp_lt HC.out
      have bo : Below wr.heap.size wr wo := by rw [hwo]; exact bel_alloc _ _
      have Hb2 := hidd (bel_then Hb.out bo)
      have HM2 := hidd (hp_bel HM.out bo)
      have H02 := hidd (hp_bel H0.out bo)
      have HC2 := hidd (hp_bel HC.out bo)
      have HN2 := hidd (show wo.heap[nb]? = some (.cells (iv (fun _ => 0) 16) 79 (0, 0)) by rw [hwo]; exact hp_new hnb)
      clear hwo bo hnb Hb HM H0 HC
      go_loopw [6] (fun i wr => ∃ (q : Nat) (N : Nat → Nat), q ≤ g.s ∧ i = .int .i64 q ∧ Hid (NI g r q N) ∧ Hid (Below w.heap.size w wr) ∧ Hid (wr.heap[w.heap.size]? = some (.cells g.mc.cells 31 (0, 0))) ∧ Hid (wr.heap[w.heap.size + 1]? = some (.cells (iv (fun _ => 0) 16) 79 (0, 0))) ∧ Hid (wr.heap[w.heap.size + 1 + 1]? = some (.cells (iv C 16) 79 (0, 0))) ∧ Hid (wr.heap[nb]? = some (.cells (iv N 16) 79 (0, 0)))) (fun i _ => g.s - (intOf i).toNat)
      case atStart => exact ⟨0, fun _ => 0, Nat.zero_le _, rfl, hidd (NI.start g r), Hb2, HM2, H02, HC2, HN2⟩
      case round =>
        clear Hb2 HM2 H02 HC2 HN2
        obtain ⟨q, N, hq, rfl, HNI, Hb, HM, H0, HC, HN⟩ := hrel
        have a1 := (Gm.At.of_is HG.out HM.out).s
        by_cases hqs : q < g.s
        · have d1 := (blkc HN.out q).trans (iv_get N (by omega))
          have f1 := blkf HN.out q
          have j1 : (q : Int) < 16 := by omega
          have Hset := hidd (iv_set N 16 q q)
          go_wp2_with fail
          clear a1 d1 f1
          obtain ⟨wp, hwp⟩ : ∃ wp, wp = wr.setCell ⟨nb, q, none⟩ (.int .i64 q) := ⟨_, rfl⟩
          rw [← hwp]
          have Hb2 := hidd (show Below w.heap.size w wp by rw [hwp]; exact Hb.out.setCell (by dsimp only; omega) _)
          have HM2 := hidd (show wp.heap[w.heap.size]? = some (.cells g.mc.cells 31 (0, 0)) by rw [hwp]; exact hp_far HM.out (by dsimp only; omega) _)
          have H02 := hidd (show wp.heap[w.heap.size + 1]? = some (.cells (iv (fun _ => 0) 16) 79 (0, 0)) by rw [hwp]; exact hp_far H0.out (by dsimp only; omega) _)
          have HC2 := hidd (show wp.heap[w.heap.size + 1 + 1]? = some (.cells (iv C 16) 79 (0, 0)) by rw [hwp]; exact hp_far HC.out (by dsimp only; omega) _)
          have HN2 := hidd (show wp.heap[nb]? = some (.cells (iv (updN N q q) 16) 79 (0, 0)) by rw [hwp, ← Hset.out]; exact hp_set HN.out q _)
          clear hwp Hb HM H0 HC HN
          go_loopw [7] (fun i wr => ∃ p : Nat, p ≤ q ∧ i = .int .i64 p ∧ Hid (∀ p', p' < p → lik g C q p' = false) ∧ Hid (Below w.heap.size w wr) ∧ Hid (wr.heap[w.heap.size]? = some (.cells g.mc.cells 31 (0, 0))) ∧ Hid (wr.heap[w.heap.size + 1]? = some (.cells (iv (fun _ => 0) 16) 79 (0, 0))) ∧ Hid (wr.heap[w.heap.size + 1 + 1]? = some (.cells (iv C 16) 79 (0, 0))) ∧ Hid (wr.heap[nb]? = some (.cells (iv (updN N q q) 16) 79 (0, 0)))) (fun i _ => q - (intOf i).toNat)
          case atStart => exact ⟨0, Nat.zero_le _, rfl, hidd (fun p' h => by omega), Hb2, HM2, H02, HC2, HN2⟩
          case round =>
            clear Hb2 HM2 H02 HC2 HN2
            obtain ⟨p, hp, rfl, HL, Hb, HM, H0, HC, HN⟩ := hrel
            by_cases hpq : p < q
            · have c1 := (blkc HC.out q).trans (iv_get C (by omega))
              have c2 := (blkc HC.out p).trans (iv_get C (by omega))
              have j2 : (p : Int) < 16 := by omega
              have j3 : (p : Int) < q := by omega
              by_cases hc : C q = C p
              · have hd : ((C q : Int) == (C p : Int)) = true := beq_iff_eq.2 (by omega)
                have Hc := hidd hc
                clear hc
                have hk1 := run_loadM (W := wr.drew) HM.out
                have hk2 := run_loadA (W := wr.drew) HC.out
                have HS := hidd (l01Same_any g HO.out g.mc.cells HG.out C q p hqs (by omega) wr.drew)
                go_wp2_with fail
                go_region_with ((go_at_call 71; refine HS.out.mono ?_; rintro e w5 ⟨rfl, hb5⟩))
                all_goals
                  have Hb5 := hidd (bel_then (bel_drewN Hb.out 1) hb5)
                  have HM5 := hidd (hp_bel (w := wr.drew) HM.out hb5)
                  have H05 := hidd (hp_bel (w := wr.drew) H0.out hb5)
                  have HC5 := hidd (hp_bel (w := wr.drew) HC.out hb5)
                  have HN5 := hidd (hp_bel (w := wr.drew) HN.out hb5)
                  have e5 := (blkc HN5.out p).trans (iv_get (updN N q q) (by omega))
                  rw [updN_ne N q (by omega)] at e5
                  have d5 := (blkc HN5.out q).trans (iv_get (updN N q q) (by omega))
                  have f5 := blkf HN5.out q
                  have Hset5 := hidd ((iv_set (updN N q q) 16 q (N p)).trans (by rw [updN_updN]))
                  clear hb5 hk1 hk2
                  cases hs : sameTo g C q p g.l with
                  | true =>
                    have HX := hidd (HNI.out.hit HO.out HCI.out hqs hpq (by unfold lik; rw [hs, decide_eq_true Hc.out]; rfl))
                    clear hs
                    go_wp2_with fail
                    go_roundw
                    case rel => exact ⟨q + 1, updN N q (N p), by omega, by go_num, HX, hidd (Hb5.out.setCell (by dsimp only; omega) _), hidd (hp_far HM5.out (by dsimp only; omega) _), hidd (hp_far H05.out (by dsimp only; omega) _), hidd (hp_far HC5.out (by dsimp only; omega) _), hidd (by rw [← Hset5.out]; exact hp_set HN5.out q _)⟩
                    case measure => simp [intOf]; omega
                  | false =>
                    have HX := hidd (show ∀ p', p' < p + 1 → lik g C q p' = false from fun p' h => by
                      by_cases e : p' = p
                      · subst e; unfold lik; rw [hs, Bool.and_false]
                      · exact HL.out p' (by omega))
                    clear hs
                    go_wp2_with fail
                    go_roundw
                    case rel => exact ⟨p + 1, by omega, by go_num, HX, Hb5, HM5, H05, HC5, HN5⟩
                    case measure => simp [intOf]; omega
              · have hd : ((C q : Int) == (C p : Int)) = false := beq_eq_false_iff_ne.2 (by omega)
                have HX := hidd (show ∀ p', p' < p + 1 → lik g C q p' = false from fun p' h => by
                  by_cases e : p' = p
                  · subst e; unfold lik; rw [decide_eq_false hc, Bool.false_and]
                  · exact HL.out p' (by omega))
                clear hc
                go_wp2_with fail
                go_quiet (fail)
                go_wp2_with fail
                go_roundw
                case rel => exact ⟨p + 1, by omega, by go_num, HX, hidd (bel_drewN Hb.out _), hidd HM.out, hidd H0.out, hidd HC.out, hidd HN.out⟩
                case measure => simp [intOf]; omega
            · have he : p = q := by omega
              subst he
              have HX := hidd (HNI.out.miss HO.out HCI.out hqs HL.out)
              go_wp2_with fail
              go_roundw
              case rel => exact ⟨p + 1, updN N p p, by omega, by go_num, HX, Hb, HM, H0, HC, HN⟩
              case measure => simp [intOf]; omega
        · have he : q = g.s := by omega
          subst he
          have HX := hidd HNI.out.all
          have hk := run_loadA (W := wr) HN.out
          go_wp2_with (refine stAI rfl (.tmp 3) (.tmp 49) rfl (w.heap.size + 1 + 1) _ (fun _ => rfl) HC.out (av_size _ _) (by rfl) (by rfl) ?_)
          go_roundw
          case rel => exact ⟨r + 1, N, by omega, by go_num, HX, hidd (bel_row Hb.out (by omega) _), hidd ((setRow_other _ _ _ _ (by omega)).trans HM.out), hidd ((setRow_other _ _ _ _ (by omega)).trans H0.out), hidd (setRow_heap _ _ _ _ _ _ HC.out)⟩
          case measure => simp [intOf]; omega
    · have he : r = g.s + 1 := by omega
      subst he
      have HE := hidd HCI.out.all
      rw [HE.out] at HC
      have hk := run_loadA (W := wr) HC.out
      go_wp2_with (refine stAI rfl (.tmp 2) (.tmp 50) rfl (w.heap.size + 1) _ (fun _ => rfl) H0.out (av_size _ _) (by rfl) (by rfl) ?_)
      refine bodyPost_ret (v := .agg (iv g.ls16 16)) (results_cell_row rfl _ _ (w.heap.size + 1) 79 _ (0, 0) _ rfl (setRow_heap _ _ _ _ _ _ H0.out) Try.underlying79 rfl (a16iI _)) rfl ⟨rfl, ?_⟩
      exact bel_row Hb.out (by omega) _
end Go.Proofs.Ytcghcbdefajpgaa

/- Walks: the least equal states, of a table: comparing rows, the closure, like. -/
namespace Go.Proofs.Ytcghcbdefajpgaa
open Go.RowKit

theorem drewN_two (w : World) (a b : Nat) : ∃ n, (w.drewN a).drewN b = w.drewN n := ⟨a + b, by simp [World.drewN, Nat.add_assoc]⟩
set_option maxHeartbeats 400000 in
theorem slicesEqual_any (v v' : Value) (xs ys : List Int) (hxy : xs.length = ys.length) (w : World) (hr : RdI w v xs) (hr' : RdI w v' ys) :
    Calls Try.prog 56 #[v, v'] w fun e w' => e = .returned (.bool (decide (xs = ys))) ∧ ∃ n, w' = w.drewN n := by
  obtain ⟨A, c, rfl, hr⟩ := hr
  obtain ⟨A', c', rfl, hr'⟩ := hr'
  rw [← hxy]
  have hl := hr.1
  rw [ints_length] at hl
  have Hr := hidd hr
  have Hr' := hidd hr'
  have Hxy := hidd hxy
  clear hr hr' hxy
  go_enter Try.func56, Try.ntmps56
  go_wp2
  go_loopw [13] (fun i wr => ∃ k : Nat, k ≤ xs.length ∧ i = .int .i64 k ∧ Hid (∀ j, j < k → xs[j]? = ys[j]?) ∧ ∃ q, wr = w.drewN q) (fun i _ => xs.length - (intOf i).toNat)
  case atStart => exact ⟨0, Nat.zero_le _, rfl, hidd (fun j hj => by omega), 0, rfl⟩
  case round =>
    obtain ⟨k, hk, rfl, HE, q, rfl⟩ := hrel
    by_cases hlt : k < xs.length
    · have hlt2 : k < ys.length := by rw [← Hxy.out]; exact hlt
      obtain ⟨b, o, rfl, hc⟩ := Hr.out.get hlt
      obtain ⟨b', o', rfl, hc'⟩ := Hr'.out.get hlt2
      have i1 : (k : Int) < xs.length := by omega
      have i2 : (0 : Int) ≤ k := by omega
      obtain ⟨a, ha⟩ : ∃ a, a = xs[k] := ⟨_, rfl⟩
      obtain ⟨a', ha'⟩ : ∃ a, a = ys[k] := ⟨_, rfl⟩
      rw [← ha] at hc
      rw [← ha'] at hc'
      have Ha := hidd (show xs[k]? = some a by rw [ha]; exact List.getElem?_eq_getElem hlt)
      have Ha' := hidd (show ys[k]? = some a' by rw [ha']; exact List.getElem?_eq_getElem hlt2)
      clear ha ha'
      by_cases e : a = a'
      · subst e
        have hd : (a != a) = false := bne_self_eq_false a
        go_wp2
        go_quiet (fail)
        go_wp2
        go_roundw
        case rel => exact ⟨k + 1, by omega, by go_num, hidd (fun j hj => by
          by_cases e : j = k
          · subst e; rw [Ha.out, Ha'.out]
          · exact HE.out j (by omega)), _, rfl⟩
        case measure => simp [intOf]; omega
      · have hd : (a != a') = true := bne_iff_ne.2 e
        have He := hidd e
        clear e
        go_wp2
        go_quiet (fail)
        go_wp2
        go_ret
        exact ⟨ret_b (decide_eq_false fun h => by
          have h2 := Ha.out
          rw [h, Ha'.out] at h2
          exact He.out (by cases h2; rfl)).symm, drewN_two _ _ _⟩
    · go_wp2
      go_ret
      exact ⟨ret_b (decide_eq_true (List.ext_getElem? fun j => by
        by_cases hj : j < xs.length
        · exact HE.out j (by omega)
        · rw [List.getElem?_eq_none (by omega), List.getElem?_eq_none (by rw [← Hxy.out]; omega)])).symm, _, rfl⟩

theorem or_eq_iff (g : Gm) (q r : Nat) : decide (g.or q = g.or r) = g.oe q r := by
  rw [Bool.eq_iff_iff, decide_eq_true_eq, Gm.oe_iff]
  unfold Gm.or
  constructor
  · intro h x hx
    have := congrArg (fun l : List Int => l[x]?) h
    simp [hx] at this
    omega
  · intro h
    refine List.map_congr_left fun x hx => ?_
    rw [h x (List.mem_range.1 hx)]

set_option maxHeartbeats 1000000 in
/-- The closure that asks whether a row is like that of a state. -/
theorem least1_any (g : Gm) (T tb qb j q : Nat) (hq : q < g.s) (w : World) (hT : TabAt w T (g.nxs g.s) (g.ous g.s)) (t u : TypeId) (h1 : w.heap[tb]? = some (.cells #[.pointer (some ⟨T, 0, none⟩)] t (0, 0))) (h2 : w.heap[qb]? = some (.cells #[.int .i64 q] u (0, 0))) (v : Value) (hv : RdI w v (g.or j)) :
    Calls Try.prog 94 #[v, .pointer (some ⟨tb, 0, none⟩), .pointer (some ⟨qb, 0, none⟩)] w fun e w' => e = .returned (.bool (g.oe j q)) ∧ ∃ n, w' = w.drewN n := by
  obtain ⟨vn, vo, hT0, _, hO⟩ := hT
  have e2 : (g.ous g.s).length = g.s := by simp [Gm.ous]
  obtain ⟨Ao, co, ro, rfl, o1, o2, o3⟩ := hO
  rw [e2] at *
  have c1 : w.cell? ⟨T, 1, none⟩ = some (.slice Ao g.s co) := blkc hT0 1
  have c2 : w.cell? ⟨tb, 0, none⟩ = some (.pointer (some ⟨T, 0, none⟩)) := blkc h1 0
  have c3 : w.cell? ⟨qb, 0, none⟩ = some (.int .i64 q) := blkc h2 0
  have hqr : q < ro.length := by rw [o2]; exact hq
  obtain ⟨b, o, rfl, hcr⟩ := o1.at_ (List.getElem?_eq_getElem hqr)
  have HR := hidd (o3 q ro[q] (g.or q) (List.getElem?_eq_getElem hqr) (by simp [Gm.ous, hq]))
  obtain ⟨rv, hrv⟩ : ∃ rv, rv = ro[q] := ⟨_, rfl⟩
  rw [← hrv] at hcr HR
  obtain ⟨Ar, cr, er, hrr⟩ := HR.out
  have Hv := hidd hv
  have j1 : (q : Int) < g.s := by omega
  have HE : Hid (∀ n, Calls Try.prog 56 #[v, rv] (w.drewN n) fun e w' => e = .returned (.bool (g.oe j q)) ∧ ∃ m, w' = w.drewN m) := hidd (fun n => (slicesEqual_any v rv (g.or j) (g.or q) (by simp [Gm.or]) (w.drewN n) (hv.below (bel_drewN (Below.refl _ w) n)) (HR.out.below (bel_drewN (Below.refl _ w) n))).mono fun e w' ⟨h1, n', h2⟩ => ⟨by rw [h1, or_eq_iff], by rw [h2]; exact drewN_two _ _ _⟩)
  obtain ⟨Av, cv, rfl, hvv⟩ := hv
  subst er
  clear hT0 o1 o2 o3 h1 h2 hrv hrr hvv HR Hv
  go_enter Try.func94, Try.ntmps94
  go_wp2
  go_quiet ((go_at_call 56; exact HE.out _))
  go_wp2
  go_ret
  exact ⟨rfl, _, rfl⟩
end Go.Proofs.Ytcghcbdefajpgaa

/- Walks: (*table).like. -/
namespace Go.Proofs.Ytcghcbdefajpgaa
open Go.RowKit

/-- What is asked of a table: rows of letters that go on to rows. -/
structure Gm.Tb (g : Gm) : Prop where
  l2 : 2 ≤ g.l
  l3 : g.l ≤ 3
  s1 : 1 ≤ g.s
  sm : g.s ≤ 256
  nlt : ∀ q x, q < g.s → x < g.l → g.nx q x < g.s
  olt : ∀ q x, q < g.s → x < g.l → g.ou q x < g.l
theorem Gm.Ok.tb {g : Gm} (h : g.Ok) : g.Tb := ⟨h.l2, h.l3, h.s1, by have := h.s16; omega, h.nlt, h.olt⟩
def ivL (C : Nat → Nat) (n : Nat) : List Int := (List.range n).map fun j => (C j : Int)
theorem ivL_len (C : Nat → Nat) (n : Nat) : (ivL C n).length = n := by simp [ivL]
theorem ivL_get (C : Nat → Nat) {n j : Nat} (h : j < n) : (ivL C n)[j]'(by rw [ivL_len]; exact h) = (C j : Int) := by simp [ivL]
def toTo (g : Gm) (C : Nat → Nat) (q r x : Nat) : Bool := (List.range x).all fun y => decide (C (g.nx q y) = C (g.nx r y))
theorem toTo_succ (g : Gm) (C : Nat → Nat) (q r x : Nat) : toTo g C q r (x + 1) = (toTo g C q r x && decide (C (g.nx q x) = C (g.nx r x))) := by simp [toTo, List.range_succ]
/-- What like looks for. -/
def lkB (g : Gm) (C : Nat → Nat) (q r : Nat) : Bool := decide (C q ≤ r) && (decide (C r = C q) && toTo g C q r g.l)
def lk (g : Gm) (C : Nat → Nat) (q : Nat) : Nat := first (lkB g C q) q

set_option maxRecDepth 100000 in
set_option maxHeartbeats 2000000 in
theorem like_any (g : Gm) (hok : g.Tb) (T : Nat) (C : Nat → Nat) (q : Nat) (hq : q < g.s) (hC : C q ≤ q) (v : Value) (w : World) (hT : TabAt w T (g.nxs g.s) (g.ous g.s)) (hv : RdI w v (ivL C g.s)) :
    Calls Try.prog 95 #[.pointer (some ⟨T, 0, none⟩), v, .int .i64 q] w fun e w' => e = .returned (.int .i64 (lk g C q : Nat)) ∧ ∃ n, w' = w.drewN n := by
  obtain ⟨vn, vo, hT0, hN, _⟩ := hT
  have e1 : (g.nxs g.s).length = g.s := by simp [Gm.nxs]
  obtain ⟨An, cn, rn, rfl, n1, n2, n3⟩ := hN
  rw [e1] at hT0
  have c0 : w.cell? ⟨T, 0, none⟩ = some (.slice An g.s cn) := blkc hT0 0
  have s16 := hok.sm
  have l3 := hok.l3
  have HO := hidd hok
  have rows : ∀ p, p < g.s → ∃ Ar cr b o, An = some ⟨b, o, none⟩ ∧ w.cell? ⟨b, o + p, none⟩ = some (.slice Ar g.l cr) ∧ Rd w Ar (ints (g.nr p)) := fun p hp => by
    have hpr : p < rn.length := by rw [n2, e1]; exact hp
    obtain ⟨b, o, hA, hcr⟩ := n1.at_ (List.getElem?_eq_getElem hpr)
    obtain ⟨Ar, cr, er, hrr⟩ := n3 p rn[p] (g.nr p) (List.getElem?_eq_getElem hpr) (by simp [Gm.nxs, hp])
    rw [er, show (g.nr p).length = g.l by simp [Gm.nr]] at hcr
    exact ⟨Ar, cr, b, o, hA, hcr, hrr⟩
  obtain ⟨Aq, cq, bn, on, rfl, hcq, hrq⟩ := rows q hq
  have Rows := hidd rows
  have Hrq := hidd hrq
  obtain ⟨Av, cv, rfl, hvv⟩ := hv
  rw [ivL_len]
  have hqv : q < (ivL C g.s).length := by rw [ivL_len]; exact hq
  obtain ⟨bv, ov, rfl, hcv⟩ := hvv.get hqv
  rw [ivL_get C hq] at hcv
  have cells : ∀ p, p < g.s → w.cell? ⟨bv, ov + p, none⟩ = some (.int .i64 (C p : Nat)) := fun p hp => by
    obtain ⟨b, o, e, h⟩ := hvv.get (show p < (ivL C g.s).length by rw [ivL_len]; exact hp)
    cases e
    rw [ivL_get C hp] at h
    exact h
  have Cells := hidd cells
  have nxc : ∀ p x, p < g.s → x < g.l → ∀ Ar, Rd w Ar (ints (g.nr p)) → ∃ b o, Ar = some ⟨b, o, none⟩ ∧ w.cell? ⟨b, o + x, none⟩ = some (.int .i64 (g.nx p x : Nat)) := fun p x hp hx Ar h => by
    have hxl : x < (g.nr p).length := by simp [Gm.nr, hx]
    obtain ⟨b, o, e, h2⟩ := h.get hxl
    rw [show (g.nr p)[x]'hxl = (g.nx p x : Int) by simp [Gm.nr]] at h2
    exact ⟨b, o, e, h2⟩
  have Nxc := hidd nxc
  have j0 : (q : Int) < g.s := by omega
  clear rows hrq hvv cells nxc hT0 n1 n2 n3 hok
  go_enter Try.func95, Try.ntmps95
  go_wp2_with fail
  go_loopw [7] (fun i wr => ∃ r : Nat, r ≤ q ∧ C q ≤ r ∧ i = .int .i64 r ∧ Hid (∀ p, p < r → lkB g C q p = false) ∧ ∃ n, wr = w.drewN n) (fun i _ => q - (intOf i).toNat)
  case atStart => exact ⟨C q, hC, Nat.le_refl _, rfl, hidd (fun p hp => by unfold lkB; rw [decide_eq_false (by omega), Bool.false_and]), 0, rfl⟩
  case round =>
    obtain ⟨r, hr, hCr, rfl, HL, n, rfl⟩ := hrel
    by_cases hrq : r < q
    · have c1 := Cells.out r (by omega)
      have j1 : (r : Int) < g.s := by omega
      by_cases hc : C r = C q
      · have hd : ((C r : Int) != (C q : Int)) = false := bne_eq_false_iff_eq.2 (by omega)
        have Hc := hidd hc
        clear hc
        go_wp2_with fail
        go_quiet (fail)
        go_wp2_with fail
        obtain ⟨Ar, cr, b2, o2, eA, hcr2, hrr2⟩ := Rows.out r (by omega)
        cases eA
        have Hrr := hidd hrr2
        clear hrr2
        go_loopw [8, 37] (fun sm i wr => ∃ x : Nat, x ≤ g.l ∧ sm = .bool (toTo g C q r x) ∧ i = .int .i64 x ∧ ∃ n, wr = w.drewN n) (fun _ i _ => g.l - (intOf i).toNat)
        case atStart => exact ⟨0, Nat.zero_le _, rfl, rfl, _, rfl⟩
        case round =>
          obtain ⟨x, hx, rfl, rfl, n3, rfl⟩ := hrel
          by_cases hxl : x < g.l
          · obtain ⟨b3, o3, e3, h3⟩ := Nxc.out q x hq hxl _ Hrq.out
            obtain ⟨b4, o4, e4, h4⟩ := Nxc.out r x (by omega) hxl _ Hrr.out
            subst e3 e4
            have n5 := HO.out.nlt q x hq hxl
            have n6 := HO.out.nlt r x (by omega) hxl
            have h5 := Cells.out _ n5
            have h6 := Cells.out _ n6
            have j3 : (x : Int) < g.l := by omega
            have j5 : (g.nx q x : Int) < g.s := by omega
            have j6 : (g.nx r x : Int) < g.s := by omega
            have Hs := hidd (toTo_succ g C q r x)
            cases ht : toTo g C q r x with
            | false =>
              have Ht := hidd ht
              clear ht
              go_wp2_with fail
              go_quiet (fail)
              go_wp2_with fail
              go_roundw
              case rel => exact ⟨x + 1, by omega, by rw [Hs.out, Ht.out, Bool.false_and], by go_num, _, rfl⟩
              case measure => simp [intOf]; omega
            | true =>
              have Ht := hidd ht
              clear ht
              by_cases hc2 : C (g.nx q x) = C (g.nx r x)
              · have hd2 : ((C (g.nx q x) : Int) == (C (g.nx r x) : Int)) = true := beq_iff_eq.2 (by omega)
                have Hc2 := hidd hc2
                clear hc2
                go_wp2_with fail
                go_quiet (fail)
                go_wp2_with fail
                go_roundw
                case rel => exact ⟨x + 1, by omega, by rw [Hs.out, Ht.out, decide_eq_true Hc2.out]; rfl, by go_num, _, rfl⟩
                case measure => simp [intOf]; omega
              · have hd2 : ((C (g.nx q x) : Int) == (C (g.nx r x) : Int)) = false := beq_eq_false_iff_ne.2 (by omega)
                have Hc2 := hidd hc2
                clear hc2
                go_wp2_with fail
                go_quiet (fail)
                go_wp2_with fail
                go_roundw
                case rel => exact ⟨x + 1, by omega, by rw [Hs.out, decide_eq_false Hc2.out, Bool.and_false], by go_num, _, rfl⟩
                case measure => simp [intOf]; omega
          · have he : x = g.l := by omega
            subst he
            cases ht : toTo g C q r g.l with
            | true =>
              have Hl := hidd (show lkB g C q r = true by unfold lkB; rw [ht, decide_eq_true hCr, decide_eq_true Hc.out]; rfl)
              clear ht
              go_wp2_with fail
              go_ret
              exact ⟨ret_i (by unfold lk; rw [first_eq hr (fun _ => Hl.out) HL.out]), _, rfl⟩
            | false =>
              have HX := hidd (show ∀ p, p < r + 1 → lkB g C q p = false from fun p h => by
                by_cases e : p = r
                · subst e; unfold lkB; rw [ht, Bool.and_false, Bool.and_false]
                · exact HL.out p (by omega))
              clear ht
              go_wp2_with fail
              go_roundw
              case rel => exact ⟨r + 1, by omega, by omega, by go_num, HX, _, rfl⟩
              case measure => simp [intOf]; omega
      · have hd : ((C r : Int) != (C q : Int)) = true := bne_iff_ne.2 (by omega)
        have HX := hidd (show ∀ p, p < r + 1 → lkB g C q p = false from fun p h => by
          by_cases e : p = r
          · subst e; unfold lkB; rw [decide_eq_false hc, Bool.false_and, Bool.and_false]
          · exact HL.out p (by omega))
        clear hc
        go_wp2_with fail
        go_quiet (fail)
        go_wp2_with fail
        go_roundw
        case rel => exact ⟨r + 1, by omega, by omega, by go_num, HX, _, rfl⟩
        case measure => simp [intOf]; omega
    · have he : r = q := by omega
      subst he
      go_wp2_with fail
      go_ret
      exact ⟨ret_i (by unfold lk; rw [first_eq (Nat.le_refl _) (fun h => absurd h (Nat.lt_irrefl _)) HL.out]), _, rfl⟩
end Go.Proofs.Ytcghcbdefajpgaa

/- Walks: (*table).least. -/
namespace Go.Proofs.Ytcghcbdefajpgaa
open Go.RowKit

theorem Gm.cl_one (g : Gm) {q : Nat} (hq : q < g.s) : fidx (fun j => g.oe j q) g.s = (g.cl 1 q : Nat) := by
  have e : g.cl 1 q = first (fun r => g.oe q r) q := by
    refine first_congr fun r _ => ?_
    unfold rel
    simp [Ytcghcbdefajpgaa.cl]
  have h := first_spec (fun r => g.oe q r) q
  have e2 : first (fun j => g.oe j q) g.s = g.cl 1 q := by
    rw [e]
    refine first_eq (by omega) (fun _ => ?_) (fun r hr => ?_)
    · by_cases hv : first (fun r => g.oe q r) q < q
      · exact g.oeE.symm _ _ (h.2.1 hv)
      · rw [show first (fun r => g.oe q r) q = q by omega]; exact g.oeE.rfl' q
    · have := h.2.2 r hr
      cases hx : g.oe r q with
      | false => rfl
      | true => rw [g.oeE.symm _ _ hx] at this; cases this
  have hle : g.cl 1 q ≤ q := cl_le 1 q
  unfold fidx
  rw [e2, if_pos (by omega)]
theorem Gm.lk_cl (g : Gm) (k q : Nat) : lk g (g.cl (k + 1)) q = g.cl (k + 2) q := by
  refine first_congr fun r hr => ?_
  rw [Bool.eq_iff_iff, rel_iff]
  unfold lkB toTo
  simp only [Bool.and_eq_true, decide_eq_true_eq, List.all_eq_true, List.mem_range]
  constructor
  · rintro ⟨_, h2, h3⟩
    exact ⟨h2, ((rel_iff _ _ _).1 ((rnd_eq_iff g.oeE (g.cl k) q r).1 h2.symm)).2.1, h3⟩
  · rintro ⟨h2, _, h3⟩
    refine ⟨?_, h2, h3⟩
    have : g.cl (k + 1) r ≤ r := cl_le (k + 1) r
    have h2' : g.cl (k + 1) r = g.cl (k + 1) q := h2
    omega
theorem ivL_ints (C : Nat → Nat) (n : Nat) : ints (ivL C n) = (iv C n).toList := by
  simp [ivL, ints, iv, av]
/-- Nothing has turned in a round, up to q. -/
def stB (g : Gm) (k q : Nat) : Bool := (List.range q).all fun p => decide (g.cl (k + 2) p = g.cl (k + 1) p)
theorem stB_succ (g : Gm) (k q : Nat) : stB g k (q + 1) = (stB g k q && decide (g.cl (k + 2) q = g.cl (k + 1) q)) := by simp [stB, List.range_succ]
theorem stB_iff (g : Gm) (k q : Nat) : stB g k q = true ↔ ∀ p, p < q → g.cl (k + 2) p = g.cl (k + 1) p := by simp [stB]
theorem stB_lst {g : Gm} (hok : g.Tb) {k : Nat} (h : stB g k g.s = true) : ivL g.lst g.s = ivL (g.cl (k + 1)) g.s := by
  unfold ivL
  refine List.map_congr_left fun q hq => ?_
  have := lst_of_stands g.s g.oeE (k + 1) ((stB_iff g k g.s).1 h) hok.nlt q (List.mem_range.1 hq)
  show ((g.lst q : Nat) : Int) = (g.cl (k + 1) q : Nat)
  rw [show g.cl (k + 1) q = g.lst q from this]
theorem stB_more {g : Gm} (hok : g.Tb) {k : Nat} (hk : k ≤ g.s) (h : stB g k g.s = false) : k + 1 ≤ g.s := by
  rcases Nat.lt_or_ge k g.s with h1 | h1
  · exact h1
  · exfalso
    obtain rfl : k = g.s := by omega
    have h2 := cl_stands g.s g.oeE hok.nlt
    have h3 := cl_stands_from g.s g.s h2 hok.nlt
    have : stB g g.s g.s = true := (stB_iff g g.s g.s).2 fun p hp => by
      show cl g.l g.nx g.oe (g.s + 2) p = cl g.l g.nx g.oe (g.s + 1) p
      rw [h3 (g.s + 2) (by omega) p hp, h3 (g.s + 1) (by omega) p hp]
    rw [this] at h
    cases h
theorem hp_lt' {w : World} {a : Addr} {v : Value} (h : w.cell? a = some v) : a.block < w.heap.size := World.block_lt_of_cell? w a h
theorem iv_ifstep (f : Nat → Nat) (q n : Nat) : iv (fun j => if j < q + 1 then f j else 0) n = iv (updN (fun j => if j < q then f j else 0) q (f q)) n := iv_congr fun j _ => by
  unfold updN
  by_cases e : j = q
  · subst e; simp
  · simp only [if_neg e]
    by_cases h1 : j < q
    · rw [if_pos h1, if_pos (by omega)]
    · rw [if_neg h1, if_neg (by omega)]
theorem RdI.of_iv {w : World} {R n : Nat} {C : Nat → Nat} {t : TypeId} (h : w.heap[R]? = some (.cells (iv C n) t (0, 0))) (hn : n ≤ 1048576) : RdI w (.slice (some ⟨R, 0, none⟩) n n) (ivL C n) := by
  refine ⟨_, n, by rw [ivL_len], by rw [ints_length, ivL_len]; omega, fun _ => ⟨R, 0, rfl, fun j v hj => ?_⟩⟩
  rw [ivL_ints] at hj
  rw [blkc h, Nat.zero_add]
  simpa using hj
set_option maxRecDepth 100000 in
set_option maxHeartbeats 2000000 in
theorem least_any (g : Gm) (hok : g.Tb) (T : Nat) (w : World) (hT : TabAt w T (g.nxs g.s) (g.ous g.s)) :
    Calls Try.prog 82 #[.pointer (some ⟨T, 0, none⟩)] w fun e w' => (∃ v, e = .returned v ∧ RdI w' v (ivL g.lst g.s)) ∧ Below w.heap.size w w' := by
  have HTab := hidd hT
  obtain ⟨vn, vo, hT0, _, hO⟩ := hT
  have e2 : (g.ous g.s).length = g.s := by simp [Gm.ous]
  obtain ⟨Ao, co, ro, rfl, o1, o2, o3⟩ := hO
  rw [e2] at hT0
  have H0 := hidd hT0
  have O1 := hidd o1
  have O2 := hidd (o2.trans e2)
  have O3 := hidd o3
  have c1 : w.cell? ⟨T, 1, none⟩ = some (.slice Ao g.s co) := blkc hT0 1
  have c1' := (((Below.refl w.heap.size w).alloc (Nat.le_refl _) (.cells #[.pointer (some ⟨T, 0, none⟩)] 107)).cell (p := ⟨T, 1, none⟩) (hp_lt hT0)).trans c1
  have s16 := hok.sm
  have HO := hidd hok
  clear hT0 o1 o2 o3 hok
  go_enter Try.func82, Try.ntmps82
  go_wp2_with (at_make; refine mk_own rfl _ _ _ rfl (w.heap.size + 1) 2 (.int .i64 0) 8 Try.underlying26 info_i64 rfl g.s rfl rfl (by omega) (by omega) (by simp) ?_; intro w1 ho hg hlt; have d1 := ((bel_grown (Below.refl _ (w.alloc (.cells #[.pointer (some ⟨T, 0, none⟩)] 107))) hg (Nat.le_refl _) (fun k e => by cases e)).cell (p := ⟨T, 1, none⟩) (by have := hp_lt H0.out; simp; omega)).trans c1'; have d2 := ((bel_grown (Below.refl _ (w.alloc (.cells #[.pointer (some ⟨T, 0, none⟩)] 107))) hg (Nat.le_refl _) (fun k e => by cases e)).cell (p := ⟨w.heap.size, 0, none⟩) (by simp)).trans (blkc (hp_new rfl) 0))
  have B1 : Below w.heap.size w w1 := bel_then (bel_alloc w (.cells #[.pointer (some ⟨T, 0, none⟩)] 107)) (bel_grown (Below.refl _ _) hg (Nat.le_refl _) (fun k e => by cases e))
  have Bel := hidd B1
  have N1 := hidd (show w1.heap[w.heap.size]? = some (.cells #[.pointer (some ⟨T, 0, none⟩)] 107 (0, 0)) from hp_bel (hp_new rfl) (bel_grown (Below.refl _ (w.alloc (.cells #[.pointer (some ⟨T, 0, none⟩)] 107))) hg (Nat.le_refl _) (fun k e => by cases e)))
  have A1 := hidd (show w1.heap[w.heap.size + 1]? = some (.cells (iv (fun j => if j < 0 then g.cl 1 j else 0) g.s) 2 (0, 0)) by
    have ho' := ho
    rw [show (w.alloc (.cells #[.pointer (some ⟨T, 0, none⟩)] 107)).heap.size = w.heap.size + 1 by simp] at ho'
    obtain ⟨cur, h3, h6, h7⟩ := ho'.full
    rw [h3]
    have e : cur = iv (fun j => if j < 0 then g.cl 1 j else 0) g.s := by
      apply Array.toList_inj.1
      rw [h7]
      apply List.ext_getElem?
      intro j
      by_cases hj : j < g.s
      · rw [List.getElem?_replicate, if_pos hj]
        show _ = ((List.range g.s).map fun j => Value.int .i64 ((if j < 0 then g.cl 1 j else 0 : Nat) : Int))[j]?
        simp [hj]
      · rw [List.getElem?_eq_none (by simp; omega), List.getElem?_eq_none (by simp [iv, av]; omega)]
    rw [e])
  have hTs := hp_lt H0.out
  clear ho hg hlt d1 d2 c1 c1' B1
  go_loopw [19] (fun i wr => ∃ q : Nat, q ≤ g.s ∧ i = .int .i64 q ∧ Hid (Below w.heap.size w wr) ∧ Hid (wr.heap[w.heap.size]? = some (.cells #[.pointer (some ⟨T, 0, none⟩)] 107 (0, 0))) ∧ Hid (wr.heap[w.heap.size + 1]? = some (.cells (iv (fun j => if j < q then g.cl 1 j else 0) g.s) 2 (0, 0)))) (fun i _ => g.s - (intOf i).toNat)
  case atStart => exact ⟨0, Nat.zero_le _, rfl, Bel, N1, A1⟩
  case round =>
    clear Bel N1 A1
    obtain ⟨q, hq, rfl, Hb, HB, HA⟩ := hrel
    by_cases hqs : q < g.s
    · obtain ⟨qb, hqb⟩ : ∃ qb, qb = wr.heap.size := ⟨_, rfl⟩
      obtain ⟨wq, hwq⟩ : ∃ wq, wq = wr.alloc (.cells #[.int .i64 q] 3) := ⟨_, rfl⟩
      have bq : Below wr.heap.size wr wq := by rw [hwq]; exact bel_alloc _ _
      have Hbq := hidd (bel_then Hb.out bq)
      have HBq := hidd (hp_bel HB.out bq)
      have HAq := hidd (hp_bel HA.out bq)
      have HQ := hidd (show wq.heap[qb]? = some (.cells #[.int .i64 q] 3 (0, 0)) by rw [hwq]; exact hp_new hqb)
      have HC := hidd (show Calls Try.prog 51 #[.slice Ao g.s co, .func (.func 94) #[] #[.pointer (some ⟨w.heap.size, 0, none⟩), .pointer (some ⟨qb, 0, none⟩)]] wq.drew fun x w' => x = .returned (.int .i64 (g.cl 1 q : Nat)) ∧ Below wq.drew.heap.size wq.drew w' from by
        have h := indexFunc65 94 #[.pointer (some ⟨w.heap.size, 0, none⟩), .pointer (some ⟨qb, 0, none⟩)] (enters_of Try.func94 (by kernel_rfl) rfl) Ao co ro (fun j => ro.getD j default) (fun j => g.oe j q) wq.drew (O1.out.below (bel_drewN Hbq.out 1)) (fun j hj => by rw [List.getD_eq_getElem?_getD, List.getElem?_eq_getElem hj]; rfl) (fun j W hj hbl => by
          have hjs : j < g.s := by rw [← O2.out]; exact hj
          have hrd := O3.out j ro[j] (g.or j) (List.getElem?_eq_getElem hj) (by simp [Gm.ous, hjs])
          have hT' := (HTab.out.below (bel_drewN Hbq.out 1)).below hbl
          have hl := least1_any g T w.heap.size qb j q hqs W hT' 107 3 (hp_bel (w := wq.drew) HBq.out hbl) (hp_bel (w := wq.drew) HQ.out hbl) (ro.getD j default) (by
            rw [show ro.getD j default = ro[j] by rw [List.getD_eq_getElem?_getD, List.getElem?_eq_getElem hj]; rfl]
            exact (hrd.below (bel_drewN Hbq.out 1)).below hbl)
          exact hl.mono fun e w' ⟨h1, n, h2⟩ => ⟨h1, by rw [h2]; exact bel_drewN (Below.refl _ _) _⟩)
        rw [O2.out, g.cl_one hqs] at h
        exact h)
      have k1 : wq.cell? ⟨w.heap.size, 0, none⟩ = some (.pointer (some ⟨T, 0, none⟩)) := blkc HBq.out 0
      have k2 : wq.cell? ⟨qb, 0, none⟩ = some (.int .i64 q) := blkc HQ.out 0
      have k3 : wq.cell? ⟨T, 1, none⟩ = some (.slice Ao g.s co) := (Hbq.out.cell (p := ⟨T, 1, none⟩) hTs).trans (blkc H0.out 1)
      have j1 : (q : Int) < g.s := by omega
      clear bq
      go_wp2_with fail
      rw [← hwq, ← hqb]
      clear hwq hqb
      go_region_with ((go_at_call 51; refine HC.out.mono ?_; rintro e w5 ⟨rfl, hb5⟩; have m2 : w5.cell? ⟨qb, 0, none⟩ = some (.int .i64 q) := blkc (hp_bel (w := wq.drew) HQ.out hb5) 0; have m3 := (blkc (hp_bel (w := wq.drew) HAq.out hb5) q).trans (iv_get _ hqs); have m4 := blkf (hp_bel (w := wq.drew) HAq.out hb5) q; have HA5 := hidd (hp_bel (w := wq.drew) HAq.out hb5); have HB5 := hidd (hp_bel (w := wq.drew) HBq.out hb5); have Hb5 := hidd (bel_then (bel_drewN Hbq.out 1) hb5); clear hb5))
      all_goals
        go_wp2_with fail
        go_roundw
        case rel =>
          refine ⟨q + 1, by omega, by go_num, hidd (Hb5.out.setCell (by dsimp only; omega) _), hidd (hp_far HB5.out (by dsimp only; omega) _), hidd ?_⟩
          have h := hp_set HA5.out q (.int .i64 (g.cl 1 q : Nat))
          rw [iv_set] at h
          rw [iv_ifstep]
          exact h
        case measure => simp [intOf]; omega
    · have he : q = g.s := by omega
      subst he
      have HA' := hidd (show wr.heap[w.heap.size + 1]? = some (.cells (iv (g.cl 1) g.s) 2 (0, 0)) by
        have := HA.out
        rw [iv_congr (C' := g.cl 1) fun j hj => if_pos hj] at this
        exact this)
      clear HA
      go_wp2_with fail
      obtain ⟨wp, rfl⟩ : ∃ wp : World, wp = wr := ⟨_, rfl⟩
      have hwp := hp_lt HA'.out
      have V0 := hidd (RdI.of_iv HA'.out (by omega))
      go_loopg [3] (g.s + 1) (fun gk v wr => ∃ k : Nat, k ≤ g.s ∧ g.s + 1 - k ≤ gk ∧ Hid (RdI wr v (ivL (g.cl (k + 1)) g.s)) ∧ Hid (Below w.heap.size w wr) ∧ Hid (wr.heap[w.heap.size]? = some (.cells #[.pointer (some ⟨T, 0, none⟩)] 107 (0, 0))))
      case atStart => exact ⟨0, Nat.zero_le _, by omega, V0, Hb, HB⟩
      case round =>
        clear V0 Hb HB HA' hwp hq hqs
        obtain ⟨k, hk, hgk, HV, Hb, HB⟩ := hrel
        obtain ⟨Av, cv, ev, hvv⟩ := HV.out
        rw [ivL_len] at ev
        subst ev
        go_wp2_with (at_make; refine mk_own rfl _ _ _ rfl wr.heap.size 2 (.int .i64 0) 8 Try.underlying26 info_i64 rfl g.s rfl rfl (by omega) (by omega) (Nat.le_refl _) ?_; intro w2 ho hg hlt)
        obtain ⟨wb, hwb⟩ : ∃ wb : World, wb = wr := ⟨_, rfl⟩
        obtain ⟨nb, hnb⟩ : ∃ nb, nb = wr.heap.size := ⟨_, rfl⟩
        rw [← hnb] at ho ⊢
        rw [← hwb] at HV Hb HB hvv hg hlt hnb
        clear hwb
        have bw2 : Below wb.heap.size wb w2 := bel_grown (Below.refl _ _) hg (Nat.le_refl _) (fun k e => by cases e)
        have Hw2 := hidd bw2
        have HN2 := hidd (show w2.heap[nb]? = some (.cells (iv (fun j => if j < 0 then g.cl (k + 2) j else 0) g.s) 2 (0, 0)) by
          obtain ⟨cur, h3, h6, h7⟩ := ho.full
          rw [h3]
          have e : cur = iv (fun j => if j < 0 then g.cl (k + 2) j else 0) g.s := by
            apply Array.toList_inj.1
            rw [h7]
            apply List.ext_getElem?
            intro j
            by_cases hj : j < g.s
            · rw [List.getElem?_replicate, if_pos hj]
              show _ = ((List.range g.s).map fun j => Value.int .i64 ((if j < 0 then g.cl (k + 2) j else 0 : Nat) : Int))[j]?
              simp [hj]
            · rw [List.getElem?_eq_none (by simp; omega), List.getElem?_eq_none (by simp [iv, av]; omega)]
          rw [e])
        have hnb2 : wb.heap.size ≤ nb := by rw [hnb]; exact Nat.le_refl _
        have HVb := hidd hvv
        clear ho hg hlt bw2 hnb hvv
        go_loopw [6, 37] (fun sm i wr => ∃ q : Nat, q ≤ g.s ∧ sm = .bool (stB g k q) ∧ i = .int .i64 q ∧ Hid (Below wb.heap.size wb wr) ∧ Hid (wr.heap[nb]? = some (.cells (iv (fun j => if j < q then g.cl (k + 2) j else 0) g.s) 2 (0, 0)))) (fun _ i _ => g.s - (intOf i).toNat)
        case atStart => exact ⟨0, Nat.zero_le _, rfl, rfl, Hw2, HN2⟩
        case round =>
          clear Hw2 HN2
          obtain ⟨q, hq, rfl, rfl, Hw, HN⟩ := hrel
          by_cases hqs : q < g.s
          · have HTq := hidd ((HTab.out.below Hb.out).below Hw.out)
            have HVq := hidd (HV.out.below Hw.out)
            have HL := hidd (g.lk_cl k q)
            have k1 : wr.cell? ⟨w.heap.size, 0, none⟩ = some (.pointer (some ⟨T, 0, none⟩)) := blkc (hp_bel HB.out Hw.out) 0
            have hcv := fun n => (HVb.out.below (Hw.out.trans (bel_drewN (Below.refl _ wr) n))).get (show q < (ivL (g.cl (k + 1)) g.s).length by rw [ivL_len]; exact hqs)
            have Hcv := hidd hcv
            obtain ⟨bv, ov, eA, _⟩ := hcv 0
            subst eA
            clear hcv
            have hof : ∀ n, (wr.drewN n).cell? ⟨bv, ov + q, none⟩ = some (.int .i64 (g.cl (k + 1) q : Nat)) := fun n => by
              obtain ⟨b, o, e, h⟩ := Hcv.out n
              cases e
              rw [ivL_get _ hqs] at h
              exact h
            have hof0 : wr.cell? ⟨bv, ov + q, none⟩ = some (.int .i64 (g.cl (k + 1) q : Nat)) := hof 0
            have hbv := hp_lt' hof0
            have n1 := (blkc HN.out q).trans (iv_get _ hqs)
            have n2 := blkf HN.out q
            have j1 : (q : Int) < g.s := by omega
            clear k1 hof0 hbv
            have k1 : wr.cell? ⟨w.heap.size, 0, none⟩ = some (.pointer (some ⟨T, 0, none⟩)) := blkc (hp_bel HB.out Hw.out) 0
            have Hof := hidd hof
            clear hof
            go_wp2_with (go_at_call 95; refine (like_any g HO.out T (g.cl (k + 1)) q hqs (cl_le (k + 1) q) _ _ HTq.out HVq.out).mono ?_; rintro e w6 ⟨rfl, n6, rfl⟩; rw [HL.out])
            obtain ⟨w7, hw7⟩ : ∃ w7, w7 = (wr.drewN n6).setCell ⟨nb, q, none⟩ (.int .i64 (g.cl (k + 2) q : Nat)) := ⟨_, rfl⟩
            rw [← hw7]
            have Hw7 := hidd (show Below wb.heap.size wb w7 by rw [hw7]; exact (bel_drewN Hw.out n6).setCell hnb2 _)
            have HN7 := hidd (show w7.heap[nb]? = some (.cells (iv (fun j => if j < q + 1 then g.cl (k + 2) j else 0) g.s) 2 (0, 0)) by
              have h := hp_set (w := wr.drewN n6) HN.out q (.int .i64 (g.cl (k + 2) q : Nat))
              rw [iv_set, ← iv_ifstep] at h
              rw [hw7]
              exact h)
            have x1 : w7.cell? ⟨nb, q, none⟩ = some (.int .i64 (g.cl (k + 2) q : Nat)) := ((blkc HN7.out q).trans (iv_get _ hqs)).trans (by simp)
            have x2 : w7.cell? ⟨bv, ov + q, none⟩ = some (.int .i64 (g.cl (k + 1) q : Nat)) := by
              obtain ⟨b, o, e, h⟩ := (HVb.out.below Hw7.out).get (show q < (ivL (g.cl (k + 1)) g.s).length by rw [ivL_len]; exact hqs)
              cases e
              rw [ivL_get _ hqs] at h
              exact h
            clear hw7 k1 n1 n2
            have Hsu := hidd (stB_succ g k q)
            cases hs : stB g k q with
            | false =>
              have Hs := hidd hs
              clear hs
              go_wp2_with fail
              go_quiet (fail)
              go_wp2_with fail
              go_roundw
              case rel => exact ⟨q + 1, by omega, by rw [Hsu.out, Hs.out, Bool.false_and], by go_num, hidd (bel_drewN Hw7.out _), hidd HN7.out⟩
              case measure => simp [intOf]; omega
            | true =>
              have Hs := hidd hs
              clear hs
              by_cases heq : g.cl (k + 2) q = g.cl (k + 1) q
              · have hd : ((g.cl (k + 2) q : Int) == (g.cl (k + 1) q : Int)) = true := beq_iff_eq.2 (by omega)
                have Heq := hidd heq
                clear heq
                go_wp2_with fail
                go_quiet (fail)
                go_wp2_with fail
                go_roundw
                case rel => exact ⟨q + 1, by omega, by rw [Hsu.out, Hs.out, decide_eq_true Heq.out]; rfl, by go_num, hidd (bel_drewN Hw7.out _), hidd HN7.out⟩
                case measure => simp [intOf]; omega
              · have hd : ((g.cl (k + 2) q : Int) == (g.cl (k + 1) q : Int)) = false := beq_eq_false_iff_ne.2 (by omega)
                have Heq := hidd heq
                clear heq
                go_wp2_with fail
                go_quiet (fail)
                go_wp2_with fail
                go_roundw
                case rel => exact ⟨q + 1, by omega, by rw [Hsu.out, decide_eq_false Heq.out, Bool.and_false], by go_num, hidd (bel_drewN Hw7.out _), hidd HN7.out⟩
                case measure => simp [intOf]; omega
          · have he : q = g.s := by omega
            subst he
            cases hst : stB g k g.s with
            | true =>
              have HR := hidd (stB_lst HO.out hst)
              have HVw := hidd (HV.out.below Hw.out)
              clear hst
              go_wp2_with fail
              go_ret
              exact ⟨⟨_, rfl, by rw [HR.out]; exact HVw.out⟩, bel_then Hb.out Hw.out⟩
            | false =>
              have hks := stB_more HO.out hk hst
              have HN' := hidd (show wr.heap[nb]? = some (.cells (iv (g.cl (k + 2)) g.s) 2 (0, 0)) by
                have := HN.out
                rw [iv_congr (C' := g.cl (k + 2)) fun j hj => if_pos hj] at this
                exact this)
              have HV' := hidd (RdI.of_iv HN'.out (by omega))
              clear hst
              go_wp2_with fail
              go_roundg (g.s + 1 - (k + 1))
              case measure => omega
              case rel => exact ⟨k + 1, hks, Nat.le_refl _, HV', hidd (bel_then Hb.out Hw.out), hidd (hp_bel HB.out Hw.out)⟩
end Go.Proofs.Ytcghcbdefajpgaa

/- Plain laws: the minimal machine: its states are the least ones of their classes, in order; how they are numbered. -/
namespace Go.Proofs.Ytcghcbdefajpgaa
open Go.RowKit

/-- A state that is the least of its class. -/
def Gm.isR (g : Gm) (q : Nat) : Bool := decide (g.lst q = q)
/-- The number of a state in the minimal machine. -/
def Gm.num (g : Gm) (q : Nat) : Nat := cnt g.isR (g.lst q)
/-- How many states it has. -/
def Gm.ns (g : Gm) : Nat := cnt g.isR g.s
/-- The least ones below q. -/
def Gm.reps (g : Gm) (q : Nat) : List Nat := (List.range q).filter g.isR
theorem cnt_succ (p : Nat → Bool) (n : Nat) : cnt p (n + 1) = cnt p n + if p n then 1 else 0 := rfl
theorem Gm.reps_len (g : Gm) (q : Nat) : (g.reps q).length = cnt g.isR q := by
  induction q with
  | zero => rfl
  | succ q ih =>
    unfold Gm.reps at *
    rw [List.range_succ, List.filter_append, List.length_append, ih, cnt_succ]
    cases h : g.isR q <;> simp [h]
theorem cnt_lt {p : Nat → Bool} {a b : Nat} (h : a < b) (ha : p a = true) : cnt p a < cnt p b := by
  induction b with
  | zero => omega
  | succ b ih =>
    rw [cnt_succ]
    by_cases e : a = b
    · subst e; rw [ha]; simp
    · have := ih (by omega)
      omega
theorem cnt_inc {p : Nat → Bool} {a b : Nat} (h : a ≤ b) : cnt p a ≤ cnt p b := by
  induction b with
  | zero => have : a = 0 := by omega
            subst this; exact Nat.le_refl _
  | succ b ih =>
    rw [cnt_succ]
    by_cases e : a = b + 1
    · subst e; rw [cnt_succ]; exact Nat.le_refl _
    · have := ih (by omega)
      omega
theorem Gm.lst_lst (g : Gm) (q : Nat) : g.lst (g.lst q) = g.lst q := lst_idem g.s g.oeE q
theorem Gm.lst_le' (g : Gm) (q : Nat) : g.lst q ≤ q := lst_le g.s q
theorem Gm.isR_lst (g : Gm) (q : Nat) : g.isR (g.lst q) = true := decide_eq_true (g.lst_lst q)
theorem Gm.num_lt (g : Gm) {q : Nat} (hq : q < g.s) : g.num q < g.ns := cnt_lt (by have := g.lst_le' q; omega) (g.isR_lst q)
theorem Gm.num_lst (g : Gm) (q : Nat) : g.num (g.lst q) = g.num q := by unfold Gm.num; rw [g.lst_lst]
theorem Gm.num_rep (g : Gm) {q : Nat} (h : g.isR q = true) : g.num q = cnt g.isR q := by unfold Gm.num; rw [of_decide_eq_true h]
theorem Gm.ns_le (g : Gm) : g.ns ≤ g.s := cnt_le _ _
/-- Equal states have equal numbers, and no others. -/
theorem Gm.num_inj (g : Gm) {q r : Nat} (h : g.num q = g.num r) : g.lst q = g.lst r := by
  unfold Gm.num at h
  rcases Nat.lt_trichotomy (g.lst q) (g.lst r) with h1 | h1 | h1
  · have := cnt_lt h1 (g.isR_lst q); omega
  · exact h1
  · have := cnt_lt h1 (g.isR_lst r); omega
/-- The state of each number. -/
theorem Gm.reps_get (g : Gm) {q n : Nat} (hq : q < n) (h : g.isR q = true) : (g.reps n)[cnt g.isR q]? = some q := by
  induction n with
  | zero => omega
  | succ n ih =>
    unfold Gm.reps at *
    rw [List.range_succ, List.filter_append]
    by_cases e : q = n
    · subst e
      rw [List.getElem?_append_right (by rw [show ((List.range q).filter g.isR).length = cnt g.isR q from g.reps_len q]; exact Nat.le_refl _), show ((List.range q).filter g.isR).length = cnt g.isR q from g.reps_len q]
      simp [h]
    · have := ih (by omega)
      rw [List.getElem?_append_left (List.getElem?_eq_some_iff.1 this).1]
      exact this
/-- Equal states put out the same and go on to equal states. -/
theorem Gm.lst_same {g : Gm} (hok : g.Tb) {q r : Nat} (hq : q < g.s) (hr : r < g.s) (h : g.lst q = g.lst r) : ∀ x, x < g.l → g.ou q x = g.ou r x ∧ g.num (g.nx q x) = g.num (g.nx r x) := fun x hx => by
  have := (lst_eq_iff g.s g.oeE hok.nlt q r hq hr).1 h
  refine ⟨(g.oe_iff q r).1 this.1 x hx, ?_⟩
  unfold Gm.num
  rw [show g.lst (g.nx q x) = g.lst (g.nx r x) from this.2 x hx]
/-- The state that has a number. -/
def Gm.rep (g : Gm) (i : Nat) : Nat := ((g.reps g.s)[i]?).getD 0
theorem Gm.rep_num (g : Gm) {q : Nat} (hq : q < g.s) : g.rep (g.num q) = g.lst q := by
  unfold Gm.rep Gm.num
  rw [g.reps_get (Nat.lt_of_le_of_lt (g.lst_le' q) hq) (g.isR_lst q)]
  rfl
/-- The minimal machine. -/
def Gm.mn (g : Gm) : Gm where
  l := g.l
  s := g.ns
  nx := fun i x => if i < g.ns ∧ x < g.l then g.num (g.nx (g.rep i) x) else 0
  ou := fun i x => if i < g.ns ∧ x < g.l then g.ou (g.rep i) x else 0
theorem Gm.mn_nx {g : Gm} (hok : g.Ok) {q x : Nat} (hq : q < g.s) (hx : x < g.l) : g.mn.nx (g.num q) x = g.num (g.nx q x) := by
  have hl : g.lst q < g.s := Nat.lt_of_le_of_lt (g.lst_le' q) hq
  show (if _ then _ else _) = _
  rw [if_pos ⟨g.num_lt hq, hx⟩, g.rep_num hq]
  exact (g.lst_same hok.tb hl hq (g.lst_lst q) x hx).2
theorem Gm.mn_ou {g : Gm} (hok : g.Ok) {q x : Nat} (hq : q < g.s) (hx : x < g.l) : g.mn.ou (g.num q) x = g.ou q x := by
  have hl : g.lst q < g.s := Nat.lt_of_le_of_lt (g.lst_le' q) hq
  show (if _ then _ else _) = _
  rw [if_pos ⟨g.num_lt hq, hx⟩, g.rep_num hq]
  exact (g.lst_same hok.tb hl hq (g.lst_lst q) x hx).1
/-- Its first rows, and of row i the first x letters. -/
def Gm.mnP (g : Gm) (i x : Nat) : Mc := ⟨g.l, g.ns, fun j y => if j < i ∨ (j = i ∧ y < x) then g.mn.nx j y else 0, fun j y => if j < i ∨ (j = i ∧ y < x) then g.mn.ou j y else 0⟩
theorem Gm.mnP_zero (g : Gm) : g.mnP 0 0 = ⟨g.l, g.ns, fun _ _ => 0, fun _ _ => 0⟩ := by
  unfold Gm.mnP
  congr 1
  · funext j y; rw [if_neg (by omega)]
  · funext j y; rw [if_neg (by omega)]
theorem Gm.mnP_setN (g : Gm) (i x : Nat) : ((g.mnP i x).setO i x (g.mn.ou i x)).setN i x (g.mn.nx i x) = g.mnP i (x + 1) := by
  unfold Gm.mnP Mc.setN Mc.setO
  congr 1
  · funext j y
    by_cases e : j = i ∧ y = x
    · obtain ⟨rfl, rfl⟩ := e
      simp
    · simp only [if_neg e]
      by_cases h : j < i ∨ (j = i ∧ y < x)
      · rw [if_pos h, if_pos (by omega)]
      · rw [if_neg h, if_neg (by omega)]
  · funext j y
    by_cases e : j = i ∧ y = x
    · obtain ⟨rfl, rfl⟩ := e
      simp
    · simp only [if_neg e]
      by_cases h : j < i ∨ (j = i ∧ y < x)
      · rw [if_pos h, if_pos (by omega)]
      · rw [if_neg h, if_neg (by omega)]
theorem Mc.setN_setO (m : Mc) (q y v a b u : Nat) : (m.setN q y v).setO a b u = (m.setO a b u).setN q y v := rfl
theorem Gm.mn_far (g : Gm) {j y : Nat} (h : g.ns ≤ j ∨ g.l ≤ y) : g.mn.nx j y = 0 ∧ g.mn.ou j y = 0 := by
  constructor
  · show (if _ then _ else _) = _
    rw [if_neg (by omega)]
  · show (if _ then _ else _) = _
    rw [if_neg (by omega)]
theorem Gm.mnP_row (g : Gm) (i : Nat) : g.mnP i g.l = g.mnP (i + 1) 0 := by
  unfold Gm.mnP
  congr 1
  · funext j y
    by_cases h : j < i ∨ (j = i ∧ y < g.l)
    · rw [if_pos h, if_pos (by omega)]
    · rw [if_neg h]
      by_cases h2 : j < i + 1 ∨ (j = i + 1 ∧ y < 0)
      · rw [if_pos h2, (g.mn_far (by omega)).1]
      · rw [if_neg h2]
  · funext j y
    by_cases h : j < i ∨ (j = i ∧ y < g.l)
    · rw [if_pos h, if_pos (by omega)]
    · rw [if_neg h]
      by_cases h2 : j < i + 1 ∨ (j = i + 1 ∧ y < 0)
      · rw [if_pos h2, (g.mn_far (by omega)).2]
      · rw [if_neg h2]
theorem Gm.mnP_end (g : Gm) : g.mnP g.ns 0 = g.mn.mc := by
  unfold Gm.mnP Gm.mc
  congr 1
  · funext j y
    by_cases h : j < g.ns ∨ (j = g.ns ∧ y < 0)
    · rw [if_pos h]
    · rw [if_neg h, (g.mn_far (by omega)).1]
  · funext j y
    by_cases h : j < g.ns ∨ (j = g.ns ∧ y < 0)
    · rw [if_pos h]
    · rw [if_neg h, (g.mn_far (by omega)).2]
/-- What is written once more stays. -/
theorem Gm.mnP_again (g : Gm) {i j y : Nat} (h : j < i) : ((g.mnP i 0).setO j y (g.mn.ou j y)).setN j y (g.mn.nx j y) = g.mnP i 0 := by
  unfold Gm.mnP Mc.setN Mc.setO
  congr 1
  · funext a b
    by_cases e : a = j ∧ b = y
    · obtain ⟨rfl, rfl⟩ := e
      simp [h]
    · simp only [if_neg e]
  · funext a b
    by_cases e : a = j ∧ b = y
    · obtain ⟨rfl, rfl⟩ := e
      simp [h]
    · simp only [if_neg e]
end Go.Proofs.Ytcghcbdefajpgaa

/- Walks: slices.Index; the closure of minimal that tells a state's number. -/
namespace Go.Proofs.Ytcghcbdefajpgaa
open Go.RowKit

set_option maxHeartbeats 400000 in
/-- The first place of a number that stands in a list. -/
theorem slicesIndex_any (v : Value) (xs : List Int) (k : Nat) (y : Int) (hk : xs[k]? = some y) (hn : ∀ j, j < k → xs[j]? ≠ some y) (w : World) (hr : RdI w v xs) :
    Calls Try.prog 89 #[v, .int .i64 y] w fun e w' => e = .returned (.int .i64 (k : Nat)) ∧ w = w' := by
  obtain ⟨A, c, rfl, hr⟩ := hr
  have hl := hr.1
  rw [ints_length] at hl
  have hkl := (List.getElem?_eq_some_iff.1 hk).1
  have Hr := hidd hr
  have Hk := hidd hk
  have Hn := hidd hn
  clear hr hk hn
  go_enter Try.func89, Try.ntmps89
  go_wp2
  go_loopw [8] (fun i wr => ∃ j : Nat, j ≤ k ∧ i = .int .i64 j ∧ wr = w) (fun i _ => xs.length - (intOf i).toNat)
  case atStart => exact ⟨0, Nat.zero_le _, rfl, rfl⟩
  case round =>
    obtain ⟨j, hj, rfl, rfl⟩ := hrel
    have hjl : j < xs.length := by omega
    obtain ⟨b, o, rfl, hc⟩ := Hr.out.get hjl
    have i1 : (j : Int) < xs.length := by omega
    obtain ⟨a, ha⟩ : ∃ a, a = xs[j] := ⟨_, rfl⟩
    rw [← ha] at hc
    have Ha := hidd (show xs[j]? = some a by rw [ha]; exact List.getElem?_eq_getElem hjl)
    clear ha
    by_cases hjk : j = k
    · subst hjk
      have e : a = y := by have := Hk.out; rw [Ha.out] at this; cases this; rfl
      subst e
      go_wp2
      go_ret
      exact ⟨rfl, rfl⟩
    · have e : ¬ y = a := fun e => Hn.out j (by omega) (by rw [e]; exact Ha.out)
      go_wp2
      go_roundw
      case rel => exact ⟨j + 1, by omega, by go_num, trivial⟩
      case measure => simp [intOf]; omega

/-- The least states as a list of whole numbers. -/
def Gm.repL (g : Gm) (q : Nat) : List Int := (g.reps q).map fun (p : Nat) => (p : Int)
theorem Gm.repL_num (g : Gm) {q : Nat} (hq : q < g.s) : (g.repL g.s)[g.num q]? = some (g.lst q : Int) := by
  unfold Gm.repL Gm.num
  rw [List.getElem?_map, g.reps_get (Nat.lt_of_le_of_lt (g.lst_le' q) hq) (g.isR_lst q)]
  rfl
theorem Gm.repL_first (g : Gm) {q j : Nat} (hj : j < g.num q) : (g.repL g.s)[j]? ≠ some (g.lst q : Int) := by
  intro h
  unfold Gm.repL at h
  rw [List.getElem?_map] at h
  cases hr : (g.reps g.s)[j]? with
  | none => rw [hr] at h; cases h
  | some p =>
    rw [hr] at h
    have hp : p = g.lst q := by simp at h; omega
    have hm := List.mem_filter.1 (List.mem_of_getElem? hr)
    have hps : p < g.s := List.mem_range.1 hm.1
    have h2 := g.reps_get hps hm.2
    have hnd : (g.reps g.s).Nodup := (List.nodup_range).filter _
    have h3 := (List.getElem?_eq_some_iff.1 hr).1
    have h4 := (List.getElem?_eq_some_iff.1 h2).1
    have h5 : j = cnt g.isR p := by
      have hp' := List.pairwise_iff_getElem.1 hnd
      have e : (g.reps g.s)[j] = (g.reps g.s)[cnt g.isR p] := by rw [(List.getElem?_eq_some_iff.1 hr).2, (List.getElem?_eq_some_iff.1 h2).2]
      rcases Nat.lt_trichotomy j (cnt g.isR p) with h | h | h
      · exact absurd e (hp' _ _ h3 h4 h)
      · exact h
      · exact absurd e.symm (hp' _ _ h4 h3 h)
    unfold Gm.num at hj
    rw [← hp] at hj
    omega

end Go.Proofs.Ytcghcbdefajpgaa

/- A region that draws its order: each operation is shown once, by facts that hold behind it whatever else has come up. -/
namespace Go.Proofs.Ytcghcbdefajpgaa
open Go.RowKit

/-- A state with some temporaries written. -/
def putF (a : Act) (ds : List Nat) (u : Nat → Value) : Act := ds.foldl (fun a d => a.put (some d) (u d)) a
theorem putF_defers (ds : List Nat) (u : Nat → Value) : ∀ a : Act, (putF a ds u).defers = a.defers := by
  induction ds with
  | nil => intro a; rfl
  | cons d ds ih => intro a; exact ih _
theorem putF_size (ds : List Nat) (u : Nat → Value) : ∀ a : Act, (putF a ds u).tmps.size = a.tmps.size := by
  induction ds with
  | nil => intro a; rfl
  | cons d ds ih => intro a; exact (ih _).trans (by simp [Act.put])
theorem putF_get (ds : List Nat) (u : Nat → Value) : ∀ (a : Act) (j : Nat), (putF a ds u).tmps[j]? = if j ∈ ds ∧ j < a.tmps.size then some (u j) else a.tmps[j]? := by
  induction ds with
  | nil => intro a j; simp [putF]
  | cons d ds ih =>
    intro a j
    show (putF (a.put (some d) (u d)) ds u).tmps[j]? = _
    rw [ih]
    have hs : (a.put (some d) (u d)).tmps.size = a.tmps.size := by simp [Act.put]
    rw [hs]
    have hg : (a.put (some d) (u d)).tmps[j]? = if d = j then (if d < a.tmps.size then some (u d) else none) else a.tmps[j]? := by
      simp only [Act.put]
      exact Array.getElem?_setIfInBounds
    rw [hg]
    by_cases h1 : j < a.tmps.size
    · by_cases h2 : d = j
      · subst h2
        simp [h1]
      · by_cases h3 : j ∈ ds
        · simp [h1, h3]
        · have h4 : ¬ j = d := fun e => h2 e.symm
          simp [h1, h3, h2, h4]
    · have h5 : a.tmps[j]? = none := Array.getElem?_eq_none (by omega)
      by_cases h2 : d = j
      · subst h2; simp [h1]
      · simp [h1, h2]
theorem act_ext {a b : Act} (h1 : ∀ j : Nat, a.tmps[j]? = b.tmps[j]?) (h2 : a.defers = b.defers) : a = b := by
  cases a; cases b
  simp only at *
  subst h2
  congr 1
  exact Array.ext_getElem? h1
def updU (u : Nat → Value) : Option Nat → Value → (Nat → Value)
  | none, _ => u
  | some d, v => fun j => if j = d then v else u j
theorem putF_put (a : Act) (ds : List Nat) (u : Nat → Value) (dst : Option Nat) (v : Value) (hd : ∀ d, dst = some d → d ∈ ds) : (putF a ds u).put dst v = putF a ds (updU u dst v) := by
  cases dst with
  | none => rfl
  | some d =>
    have hm := hd d rfl
    refine act_ext (fun j => ?_) (by rw [putF_defers]; exact putF_defers ds u a)
    rw [putF_get]
    show ((putF a ds u).tmps.setIfInBounds d v)[j]? = _
    rw [Array.getElem?_setIfInBounds, putF_size, putF_get]
    by_cases h2 : d = j
    · subst h2
      by_cases h1 : d < a.tmps.size
      · simp [h1, hm, updU]
      · have h5 : a.tmps[d]? = none := Array.getElem?_eq_none (by omega)
        simp [h1]
    · have h4 : ¬ j = d := fun e => h2 e.symm
      simp [h2, updU, h4]
theorem putF_self (a : Act) (ds : List Nat) : putF a ds (fun d => a.tmps.getD d undef) = a := by
  refine act_ext (fun j => ?_) (putF_defers _ _ _)
  rw [putF_get]
  by_cases h : j ∈ ds ∧ j < a.tmps.size
  · rw [if_pos h]
    simp [h.2]
  · rw [if_neg h]

/-- How many have not come up. -/
def unl (l : Array Bool) : Nat := l.toList.countP (fun b => !b)
theorem cntL_set : ∀ (l : List Bool) (i : Nat), l[i]? = some false → (l.set i true).countP (fun b => !b) + 1 = l.countP (fun b => !b)
  | [], i, h => by simp at h
  | b :: l, 0, h => by
    simp at h
    subst h
    simp
  | b :: l, i + 1, h => by
    have := cntL_set l i (by simpa using h)
    simp only [List.set_cons_succ, List.countP_cons]
    omega
theorem getD_false {l : Array Bool} {i : Nat} (h : l.getD i true = false) : l[i]? = some false := by
  rw [Array.getD_eq_getD_getElem?] at h
  cases hh : l[i]? with
  | none => rw [hh] at h; cases h
  | some b => rw [hh] at h; rw [show b = false from h]
theorem unl_set {l : Array Bool} {i : Nat} (h : l.getD i true = false) : unl (l.setIfInBounds i true) + 1 = unl l := by
  unfold unl
  rw [Array.toList_setIfInBounds]
  exact cntL_set _ i (by rw [Array.getElem?_toList]; exact getD_false h)

section
variable {P : Program} {ops : Array Oper} {Q : Exit → Act → World → Prop} {md : Region.Mode}
/-- Each operation waits for earlier ones alone. -/
def inOrder (md : Region.Mode) (ops : Array Oper) : Bool := (List.range ops.size).all fun i => ((ops[i]?).map fun o => o.after.all fun e => !Region.binds md e || decide (e.on < i)).getD true
theorem all_come {l : Array Bool} (ho : inOrder md ops = true) (hr : Region.ready md ops l = []) : ∀ i, i < ops.size → l.getD i true = true := by
  intro i
  induction i using Nat.strongRecOn with
  | _ i ih =>
    intro hi
    cases h : l.getD i true with
    | true => rfl
    | false =>
      exfalso
      have hmem : i ∈ Region.ready md ops l := by
        refine mem_ready.2 ⟨h, ops[i], Array.getElem?_eq_getElem hi, fun e he hb => ?_⟩
        have h1 := List.all_eq_true.1 ho i (List.mem_range.2 hi)
        rw [Array.getElem?_eq_getElem hi] at h1
        simp only [Option.map_some, Option.getD_some, Array.all_eq_true_iff_forall_mem] at h1
        have h2 := h1 e he
        rw [hb] at h2
        simp at h2
        have h3 := ih e.on h2 (by omega)
        have hlt : i < l.size := (Array.getElem?_eq_some_iff.1 (getD_false h)).1
        have hlt2 : e.on < l.size := by omega
        rw [Array.getD_eq_getD_getElem?, Array.getElem?_eq_getElem hlt2] at h3 ⊢
        exact h3
      rw [hr] at hmem
      cases hmem

/-- The block that a value leads to. -/
def blkOf : Value → Option Nat
  | .pointer (some a) => some a.block
  | .slice (some a) _ _ => some a.block
  | _ => none
/-- What it leads to was laid between two worlds. -/
def Fresh (w w' : World) (v : Value) : Prop := ∀ k, blkOf v = some k → w.heap.size ≤ k ∧ k < w'.heap.size
/-- What is known of one operation once it has come up: of its value, and of the world from then on. -/
structure Ft where
  op : Nat
  dst : Nat
  fresh : Bool
  G : Value → World → Prop
  mono : ∀ v w w', Below w.heap.size w w' → G v w → G v w'
/-- The value alone is known. -/
def Ft.val (op dst : Nat) (x : Value) : Ft := ⟨op, dst, false, fun v _ => v = x, fun _ _ _ _ h => h⟩
/-- A block that was laid. -/
def Ft.blk (op dst : Nat) (B : Nat) (x : Obj) : Ft := ⟨op, dst, true, fun v w => ∃ g, v = .pointer (some ⟨g, 0, none⟩) ∧ B ≤ g ∧ w.heap[g]? = some x, fun _ _ _ hb ⟨g, h1, h2, h3⟩ => ⟨g, h1, h2, (hb.block g (Array.getElem?_eq_some_iff.1 h3).1).trans h3⟩⟩
def come (fs : List Ft) (l : Array Bool) : Array Bool := fs.foldl (fun l f => l.setIfInBounds f.op true) l
theorem come_size (fs : List Ft) : ∀ l : Array Bool, (come fs l).size = l.size := by
  induction fs with
  | nil => intro l; rfl
  | cons f fs ih => intro l; exact (ih _).trans (by simp)
theorem come_get (fs : List Ft) : ∀ (l : Array Bool) (j : Nat), (come fs l)[j]? = if (∃ f ∈ fs, f.op = j) ∧ j < l.size then some true else l[j]? := by
  induction fs with
  | nil => intro l j; simp [come]
  | cons f fs ih =>
    intro l j
    show (come fs (l.setIfInBounds f.op true))[j]? = _
    rw [ih, Array.getElem?_setIfInBounds, Array.size_setIfInBounds]
    by_cases h1 : j < l.size
    · by_cases h2 : f.op = j
      · subst h2; simp [h1]
      · by_cases h3 : ∃ f ∈ fs, f.op = j
        · simp [h1, h2, h3]
        · simp [h1, h2, h3]
    · by_cases h2 : f.op = j
      · subst h2; simp [h1]
      · simp [h1, h2]
theorem inj_of_nodup {α β : Type} (p : α → β) : ∀ (l : List α), (l.map p).Nodup → ∀ x ∈ l, ∀ y ∈ l, p x = p y → x = y
  | [], _, x, hx, _, _, _ => by cases hx
  | a :: l, h, x, hx, y, hy, e => by
    rw [List.map_cons, List.nodup_cons] at h
    rcases List.mem_cons.1 hx with e1 | h1
    · rcases List.mem_cons.1 hy with e2 | h2
      · rw [e1, e2]
      · exact absurd (List.mem_map.2 ⟨y, h2, by rw [← e, e1]⟩) h.1
    · rcases List.mem_cons.1 hy with e2 | h2
      · exact absurd (List.mem_map.2 ⟨x, h1, by rw [e, e2]⟩) h.1
      · exact inj_of_nodup p l h.2 x h1 y h2 e

section
variable {P : Program} {ops : Array Oper} {Q : Exit → Act → World → Prop} {md : Region.Mode}
theorem fs_at {fs : List Ft} {p q : Ft → Prop} (hf : ∀ g ∈ fs, p g → q g) (k : Nat) (f : Ft) (h : fs[k]? = some f) (hp : p f) : q f := hf f (List.mem_of_getElem? h) hp
theorem fs_all {fs : List Ft} {q : Ft → Prop} (hf : ∀ g ∈ fs, q g) (k : Nat) (f : Ft) (h : fs[k]? = some f) : q f := hf f (List.mem_of_getElem? h)
theorem fs_ne {fs : List Ft} {u : Nat → Value} (hf : ∀ f ∈ fs, ∀ g ∈ fs, f.fresh = true → g.fresh = true → f.op ≠ g.op → ∀ k, blkOf (u f.dst) = some k → blkOf (u g.dst) ≠ some k) (i j : Nat) (f g : Ft) (h : fs[i]? = some f) (h' : fs[j]? = some g) (hff : f.fresh = true) (hgf : g.fresh = true) (hne : f.op ≠ g.op) {a b : Nat} (ha : blkOf (u f.dst) = some a) (hb : blkOf (u g.dst) = some b) : a ≠ b := fun e => hf f (List.mem_of_getElem? h) g (List.mem_of_getElem? h') hff hgf hne a ha (by rw [hb, e])
/-- The state with what has come up. -/
def putT (a : Act) (fs : List Ft) (u : Nat → Value) : Act := putF a (fs.map (·.dst)) u
def waitsFor (md : Region.Mode) (o : Oper) (k : Nat) : Bool := o.after.any fun e => Region.binds md e && e.on == k
/-- One operation of the region is shown: what it waits for is known; behind it its own fact is. -/
def StepG (P : Program) (md : Region.Mode) (ops : Array Oper) (Q : Exit → Act → World → Prop) (S : World → Prop) (fs : List Ft) (a0 : Act) (w0 : World) (f : Ft) : Prop :=
  ∃ o, ops[f.op]? = some o ∧ o.dst = some f.dst ∧ ∀ (u : Nat → Value) (w : World), S w → Below w0.heap.size w0 w → (∀ g ∈ fs, waitsFor md o g.op = true → g.G (u g.dst) w) →
    ∀ K : Act → World → Prop, (∀ v w', Below w.heap.size w w' → f.G v w' → (f.fresh = true → Fresh w w' v) → K ((putT a0 fs u).put (some f.dst) v) w') →
      if Region.wanted o (yielded ops (putT a0 fs u).tmps) = true then Oper.wp P o (putT a0 fs u) w K Q else K ((putT a0 fs u).put o.dst undef) w
structure GrowI (fs : List Ft) (l0 l : Array Bool) (w0 w : World) (u : Nat → Value) : Prop where
  bel : Below w0.heap.size w0 w
  size : l.size = l0.size
  oth : ∀ j, (∀ f ∈ fs, f.op ≠ j) → l[j]? = l0[j]?
  facts : ∀ f ∈ fs, l.getD f.op false = true → f.G (u f.dst) w
  lt : ∀ f ∈ fs, l.getD f.op false = true → f.fresh = true → ∀ k, blkOf (u f.dst) = some k → k < w.heap.size
  ne : ∀ f ∈ fs, ∀ g ∈ fs, l.getD f.op false = true → l.getD g.op false = true → f.fresh = true → g.fresh = true → f.op ≠ g.op → ∀ k, blkOf (u f.dst) = some k → blkOf (u g.dst) ≠ some k
theorem getD_eq_of {l : Array Bool} {j : Nat} {d b : Bool} (h : l[j]? = some b) : l.getD j d = b := by rw [Array.getD_eq_getD_getElem?, h]; rfl
theorem getD_some {l : Array Bool} {j : Nat} (h : l.getD j false = true) : l[j]? = some true := by
  rw [Array.getD_eq_getD_getElem?] at h
  cases hh : l[j]? with
  | none => rw [hh] at h; cases h
  | some b => rw [hh] at h; rw [show b = true from h]

/-- The listing fits: a check that the kernel runs. -/
def growOk (md : Region.Mode) (ops : Array Oper) (os ds : List Nat) (n m : Nat) (l0 l1 : Array Bool) : Bool :=
  decide (os.foldl (fun l i => l.setIfInBounds i true) l0 = l1) && decide (unl l0 = n) && decide (unl l1 = m) && inOrder md ops && (os.all fun i => !(l0.getD i true)) && decide os.Nodup && decide ds.Nodup &&
  ((List.range ops.size).all fun j => l0.getD j true || os.contains j || os.all fun i => ((ops[j]?).map fun o => waitsFor md o i).getD true)
theorem come_eq (fs : List Ft) : ∀ l : Array Bool, come fs l = (fs.map (·.op)).foldl (fun l i => l.setIfInBounds i true) l := by
  induction fs with
  | nil => intro l; rfl
  | cons f fs ih => intro l; exact ih _
/-- Operations that make memory, or read what nobody writes, each shown once: whatever order they come up in. What else the region holds waits for all of them. -/
theorem wpAnyH_grow {S : World → Prop} (hS : ∀ w w', Below w.heap.size w w' → S w → S w') {n : Nat} (m : Nat) {l0 : Array Bool} (l1 : Array Bool) {a0 : Act} {w0 : World} (fs : List Ft)
    (os ds : List Nat) (hos : fs.map (·.op) = os) (hds : fs.map (·.dst) = ds) (hchk : growOk md ops os ds n m l0 l1 = true)
    (hs : ∀ f ∈ fs, StepG P md ops Q S fs a0 w0 f) (hS0 : S w0)
    (hend : ∀ u w, S w → Below w0.heap.size w0 w → (∀ f ∈ fs, f.G (u f.dst) w) → (∀ f ∈ fs, ∀ g ∈ fs, f.fresh = true → g.fresh = true → f.op ≠ g.op → ∀ k, blkOf (u f.dst) = some k → blkOf (u g.dst) ≠ some k) → wpAnyH P md ops Q S m l1 (putT a0 fs u) w) : wpAnyH P md ops Q S n l0 a0 w0 := by
  simp only [growOk, Bool.and_eq_true, decide_eq_true_eq] at hchk
  obtain ⟨⟨⟨⟨⟨⟨⟨hl1, hn⟩, hm⟩, ho⟩, hun⟩, hn1⟩, hn2⟩, hph⟩ := hchk
  subst hos
  subst hds
  rw [← come_eq] at hl1
  rw [List.all_map] at hun
  simp only [List.all_map, Function.comp_def] at hph
  have hun' : ∀ f ∈ fs, l0[f.op]? = some false := fun f hf => getD_false (by simpa using List.all_eq_true.1 hun f hf)
  have main : ∀ (n : Nat) (l : Array Bool) (u : Nat → Value) (w : World), unl l = n → S w → GrowI fs l0 l w0 w u → wpAnyH P md ops Q S n l (putT a0 fs u) w := by
    intro n
    induction n with
    | zero =>
      intro l u w hu hSw I
      have hall : ∀ f ∈ fs, l.getD f.op false = true := fun f hf => by
        have hlt : f.op < l.size := by rw [I.size]; exact (Array.getElem?_eq_some_iff.1 (hun' f hf)).1
        cases h : l[f.op]? with
        | none => rw [Array.getElem?_eq_none_iff] at h; omega
        | some b =>
          cases b with
          | true => exact getD_eq_of h
          | false =>
            have := unl_set (getD_eq_of (d := true) h)
            omega
      have e : l = l1 := by
        rw [← hl1]
        refine Array.ext_getElem? fun j => ?_
        rw [come_get]
        by_cases h : ∃ f ∈ fs, f.op = j
        · obtain ⟨f, hf, rfl⟩ := h
          rw [if_pos ⟨⟨f, hf, rfl⟩, (Array.getElem?_eq_some_iff.1 (hun' f hf)).1⟩]
          exact getD_some (hall f hf)
        · rw [if_neg (fun hh => h hh.1)]
          exact I.oth j fun f hf e => h ⟨f, hf, e⟩
      subst e
      rw [hu] at hm
      subst hm
      exact hend u w hSw I.bel (fun f hf => I.facts f hf (hall f hf)) (fun f hf g hg => I.ne f hf g hg (hall f hf) (hall g hg))
    | succ n ih =>
      intro l u w hu hSw I
      by_cases hall : ∀ f ∈ fs, l.getD f.op false = true
      · have e : l = l1 := by
          rw [← hl1]
          refine Array.ext_getElem? fun j => ?_
          rw [come_get]
          by_cases h : ∃ f ∈ fs, f.op = j
          · obtain ⟨f, hf, rfl⟩ := h
            rw [if_pos ⟨⟨f, hf, rfl⟩, (Array.getElem?_eq_some_iff.1 (hun' f hf)).1⟩]
            exact getD_some (hall f hf)
          · rw [if_neg (fun hh => h hh.1)]
            exact I.oth j fun f hf e => h ⟨f, hf, e⟩
        subst e
        rw [hu] at hm
        subst hm
        exact hend u w hSw I.bel (fun f hf => I.facts f hf (hall f hf)) (fun f hf g hg => I.ne f hf g hg (hall f hf) (hall g hg))
      · refine ⟨fun hr => absurd (fun f hf => ?_) hall, fun i hi => ?_⟩
        · obtain ⟨o, h1, _⟩ := hs f hf
          have := all_come ho hr f.op (Array.getElem?_eq_some_iff.1 h1).1
          have hlt : f.op < l.size := by rw [I.size]; exact (Array.getElem?_eq_some_iff.1 (hun' f hf)).1
          rw [Array.getD_eq_getD_getElem?, Array.getElem?_eq_getElem hlt] at this ⊢
          exact this
        · obtain ⟨h1, o, h2, h3⟩ := mem_ready.1 hi
          have him : ∃ f ∈ fs, f.op = i := by
            refine Decidable.byContradiction fun hc => hall fun f hf => ?_
            have hoth := I.oth i fun f hf e => hc ⟨f, hf, e⟩
            have h4 := List.all_eq_true.1 hph i (List.mem_range.2 (Array.getElem?_eq_some_iff.1 h2).1)
            have h5 : l0.getD i true = false := getD_eq_of (by rw [← hoth]; exact getD_false h1)
            have h6 : (fs.map (·.op)).contains i = false := by
              rw [Bool.eq_false_iff]
              intro h
              obtain ⟨f, hf, e⟩ := List.mem_map.1 (List.contains_iff_mem.1 h)
              exact hc ⟨f, hf, e⟩
            rw [h5, h6, Bool.false_or, Bool.false_or, h2] at h4
            have h7 := List.all_eq_true.1 h4 f hf
            simp only [Option.map_some, Option.getD_some, waitsFor] at h7
            obtain ⟨e, he, hb⟩ := Array.any_eq_true'.1 h7
            simp only [Bool.and_eq_true, beq_iff_eq] at hb
            have := h3 e he hb.1
            rwa [hb.2] at this
          obtain ⟨f, hf, rfl⟩ := him
          obtain ⟨o', ho', hd, hstep⟩ := hs f hf
          rw [h2] at ho'
          cases ho'
          refine wpOp_step h2 fun K hK => ?_
          refine hstep u w hSw I.bel (fun g hg hw => I.facts g hg ?_) K fun v w' hb hG hfr => hK _ _ ⟨hS _ _ hb hSw, ?_⟩
          · obtain ⟨e, he, hb⟩ := Array.any_eq_true'.1 hw
            simp only [Bool.and_eq_true, beq_iff_eq] at hb
            have := h3 e he hb.1
            rwa [hb.2] at this
          · rw [show (putT a0 fs u).put (some f.dst) v = putT a0 fs (updU u (some f.dst) v) from putF_put a0 _ u (some f.dst) v (fun d e => by cases e; exact List.mem_map.2 ⟨f, hf, rfl⟩)]
            have hus := unl_set h1
            have hold : ∀ g ∈ fs, g.op ≠ f.op → (l.setIfInBounds f.op true).getD g.op false = true → l.getD g.op false = true ∧ updU u (some f.dst) v g.dst = u g.dst := fun g hg e hgl => by
              have e3 : g.dst ≠ f.dst := fun h => e (by rw [inj_of_nodup (·.dst) fs hn2 g hg f hf h])
              refine ⟨?_, by simp [updU, e3]⟩
              rw [Array.getD_eq_getD_getElem?, Array.getElem?_setIfInBounds_ne (Ne.symm e)] at hgl
              rw [Array.getD_eq_getD_getElem?]
              exact hgl
            have hself : updU u (some f.dst) v f.dst = v := by simp [updU]
            refine ih _ _ _ (by omega) (hS _ _ hb hSw) ⟨I.bel.trans (hb.mono I.bel.size), by rw [Array.size_setIfInBounds]; exact I.size, fun j hj => ?_, fun g hg hgl => ?_, fun g hg hgl hgf k hk => ?_, fun g hg g' hg' hgl hgl' hgf hgf' hne k hk => ?_⟩
            · rw [Array.getElem?_setIfInBounds_ne (hj f hf)]
              exact I.oth j hj
            · by_cases e : g.op = f.op
              · have e2 := inj_of_nodup (·.op) fs hn1 g hg f hf e
                subst e2
                rw [hself]
                exact hG
              · obtain ⟨h5, h6⟩ := hold g hg e hgl
                rw [h6]
                exact g.mono _ _ _ hb (I.facts g hg h5)
            · by_cases e : g.op = f.op
              · have e2 := inj_of_nodup (·.op) fs hn1 g hg f hf e
                subst e2
                rw [hself] at hk
                exact (hfr hgf k hk).2
              · obtain ⟨h5, h6⟩ := hold g hg e hgl
                rw [h6] at hk
                exact Nat.lt_of_lt_of_le (I.lt g hg h5 hgf k hk) hb.size
            · by_cases e : g.op = f.op
              · have e2 := inj_of_nodup (·.op) fs hn1 g hg f hf e
                subst e2
                rw [hself] at hk
                obtain ⟨h5, h6⟩ := hold g' hg' (fun h => hne h.symm) hgl'
                rw [h6]
                intro h7
                have h8 := I.lt g' hg' h5 hgf' k h7
                have h9 := (hfr hgf k hk).1
                omega
              · obtain ⟨h5, h6⟩ := hold g hg e hgl
                rw [h6] at hk
                by_cases e' : g'.op = f.op
                · have e2 := inj_of_nodup (·.op) fs hn1 g' hg' f hf e'
                  subst e2
                  rw [hself]
                  intro h7
                  have h8 := I.lt g hg h5 hgf k hk
                  have h9 := (hfr hgf' k h7).1
                  omega
                · obtain ⟨h5', h6'⟩ := hold g' hg' e' hgl'
                  rw [h6']
                  exact I.ne g hg g' hg' h5 h5' hgf hgf' hne k hk
  have h := main n l0 (fun d => a0.tmps.getD d undef) w0 hn hS0 ⟨Below.refl _ _, rfl, fun _ _ => rfl, (fun f hf hl => by rw [getD_eq_of (hun' f hf)] at hl; cases hl), (fun f hf hl => by rw [getD_eq_of (hun' f hf)] at hl; cases hl), (fun f hf _ _ hl => by rw [getD_eq_of (hun' f hf)] at hl; cases hl)⟩
  have e : putT a0 fs (fun d => a0.tmps.getD d undef) = a0 := putF_self a0 _
  rw [e] at h
  exact h
end
end
end Go.Proofs.Ytcghcbdefajpgaa

/- Walks: the minimal machine, of the reference. -/
namespace Go.Proofs.Ytcghcbdefajpgaa
open Go.RowKit

/-- The numbers, as the array of the reference says. -/
def Gm.nmP (g : Gm) (q j : Nat) : Nat := if j < q then g.num j else 0
def Gm.nm16 (g : Gm) (j : Nat) : Nat := g.nmP g.s j
theorem Gm.nmP_step (g : Gm) (q : Nat) : updN (g.nmP q) q (g.num q) = g.nmP (q + 1) := by
  funext j
  unfold updN Gm.nmP
  by_cases e : j = q
  · subst e; simp
  · simp only [if_neg e]
    by_cases h : j < q
    · rw [if_pos h, if_pos (by omega)]
    · rw [if_neg h, if_neg (by omega)]
/-- What lies in memory. -/
structure SmI (g : Gm) (w0 wr : World) (cb nb ob : Nat) (N : Nat → Nat) (m : Mc) : Prop where
  bel : Below w0.heap.size w0 wr
  cl : w0.heap.size + 3 ≤ cb
  nl : w0.heap.size + 3 ≤ nb
  ol : w0.heap.size + 3 ≤ ob
  cn : cb ≠ nb
  co : cb ≠ ob
  no : nb ≠ ob
  hm : wr.heap[w0.heap.size]? = some (.cells g.mc.cells 31 (0, 0))
  h2 : wr.heap[w0.heap.size + 1]? = some (.cells Mc.zero.cells 31 (0, 0))
  h3 : wr.heap[w0.heap.size + 2]? = some (.cells (iv (fun _ => 0) 16) 79 (0, 0))
  hc : wr.heap[cb]? = some (.cells (iv g.ls16 16) 79 (0, 0))
  hn : wr.heap[nb]? = some (.cells (iv N 16) 79 (0, 0))
  ho : wr.heap[ob]? = some (.cells m.cells 31 (0, 0))
theorem SmI.drewN {g : Gm} {w0 wr : World} {cb nb ob : Nat} {N : Nat → Nat} {m : Mc} (h : SmI g w0 wr cb nb ob N m) (n : Nat) : SmI g w0 (wr.drewN n) cb nb ob N m :=
  ⟨bel_drewN h.bel n, h.cl, h.nl, h.ol, h.cn, h.co, h.no, h.hm, h.h2, h.h3, h.hc, h.hn, h.ho⟩
theorem SmI.setN {g : Gm} {w0 wr : World} {cb nb ob : Nat} {N : Nat → Nat} {m : Mc} (h : SmI g w0 wr cb nb ob N m) (q v : Nat) : SmI g w0 (wr.setCell ⟨nb, q, none⟩ (.int .i64 (v : Nat))) cb nb ob (updN N q v) m := by
  have hl := h.nl
  refine ⟨h.bel.setCell (by dsimp only; omega) _, h.cl, h.nl, h.ol, h.cn, h.co, h.no, hp_far h.hm (by dsimp only; omega) _, hp_far h.h2 (by dsimp only; omega) _, hp_far h.h3 (by dsimp only; omega) _, hp_far h.hc h.cn _, ?_, hp_far h.ho (Ne.symm h.no) _⟩
  rw [← iv_set]
  exact hp_set h.hn q _
theorem SmI.setO {g : Gm} {w0 wr : World} {cb nb ob : Nat} {N : Nat → Nat} {m m' : Mc} (h : SmI g w0 wr cb nb ob N m) (i : Nat) (v : Value) (he : m.cells.setIfInBounds i v = m'.cells) : SmI g w0 (wr.setCell ⟨ob, i, none⟩ v) cb nb ob N m' := by
  have hl := h.ol
  refine ⟨h.bel.setCell (by dsimp only; omega) _, h.cl, h.nl, h.ol, h.cn, h.co, h.no, hp_far h.hm (by dsimp only; omega) _, hp_far h.h2 (by dsimp only; omega) _, hp_far h.h3 (by dsimp only; omega) _, hp_far h.hc h.co _, hp_far h.hn h.no _, ?_⟩
  rw [← he]
  exact hp_set h.ho i _
/-- What the rows of states below q, and the first letters of q, have put down. -/
def Gm.mnQ (g : Gm) (q x : Nat) : Mc := if g.isR q = true then g.mnP (cnt g.isR q) x else g.mnP (cnt g.isR q) 0
theorem Gm.mnQ_zero (g : Gm) : g.mnQ 0 0 = ⟨g.l, g.ns, fun _ _ => 0, fun _ _ => 0⟩ := by
  unfold Gm.mnQ
  rw [show cnt g.isR 0 = 0 from rfl, g.mnP_zero]
  split <;> rfl
theorem Gm.mnQ_step {g : Gm} (hok : g.Ok) {q x : Nat} (hq : q < g.s) (hx : x < g.l) : ((g.mnQ q x).setO (g.num q) x (g.ou q x)).setN (g.num q) x (g.num (g.nx q x)) = g.mnQ q (x + 1) := by
  rw [← Gm.mn_ou hok hq hx, ← Gm.mn_nx hok hq hx]
  unfold Gm.mnQ
  by_cases h : g.isR q = true
  · rw [if_pos h, if_pos h, g.num_rep h, g.mnP_setN]
  · rw [if_neg h, if_neg h]
    refine g.mnP_again ?_
    unfold Gm.num
    have h1 : g.lst q < q := by
      have := g.lst_le' q
      have h2 : ¬ g.lst q = q := fun e => h (decide_eq_true e)
      omega
    exact cnt_lt h1 (g.isR_lst q)
theorem Gm.mnQ_row (g : Gm) (q : Nat) : g.mnQ q g.l = g.mnQ (q + 1) 0 := by
  unfold Gm.mnQ
  by_cases h : g.isR q = true
  · rw [if_pos h, g.mnP_row, cnt_succ, if_pos h]
    split <;> rfl
  · rw [if_neg h, cnt_succ, if_neg h, Nat.add_zero]
    split <;> rfl
theorem Gm.mnQ_end (g : Gm) : g.mnQ g.s 0 = g.mn.mc := by
  rw [← g.mnP_end]
  unfold Gm.mnQ Gm.ns
  split <;> rfl
/-- Before the rows: how many states there are. -/
def Gm.mnS (g : Gm) (q : Nat) : Mc := ⟨g.l, (cnt g.isR q : Nat), fun _ _ => 0, fun _ _ => 0⟩
theorem zeros16 : (#[Value.int .i64 0, Value.int .i64 0, Value.int .i64 0, Value.int .i64 0, Value.int .i64 0, Value.int .i64 0, Value.int .i64 0, Value.int .i64 0, Value.int .i64 0, Value.int .i64 0, Value.int .i64 0, Value.int .i64 0, Value.int .i64 0, Value.int .i64 0, Value.int .i64 0, Value.int .i64 0] : Array Value) = iv (fun _ => 0) 16 := rfl

/-- A whole array into a variable. -/
def storeA (a : Addr) (v : Value) : Sem Unit := storeVar 79 a v
theorem storeVar_A (a : Addr) (v : Value) : storeVar 79 a v = storeA a v := rfl
theorem splice_whole (old vs : Array Value) (h : old.size = vs.size) : splice old 0 vs = vs := by
  apply Array.ext_getElem?
  intro j
  rw [splice_get _ _ _ (by omega)]
  by_cases hj : j < vs.size
  · rw [if_pos (by omega), Nat.sub_zero]
  · rw [if_neg (by omega), Array.getElem?_eq_none (by omega), Array.getElem?_eq_none (by omega)]
theorem run_storeA {W : World} {b : Nat} {C C' : Nat → Nat} {t : TypeId} (h : W.heap[b]? = some (.cells (iv C' 16) t (0, 0))) : (storeA ⟨b, 0, none⟩ (.agg (iv C 16))).run Try.prog W = .ok () (W.setRow b (iv C 16)) := by
  have := run_storeVar_at (P := Try.prog) W b 0 16 t 79 (iv C' 16) (iv C 16) h (by kernel_rfl) (av_size _ _) (by rw [show (iv C' 16).size = 16 from av_size _ _]; omega) (av_one fun _ => rfl)
  rw [splice_whole (iv C' 16) (iv C 16) ((av_size _ _).trans (av_size _ _).symm)] at this
  exact this
attribute [go_sem ↓ high] storeVar_A
attribute [go_sem] run_storeA
def Mc.setS (m : Mc) (v : Int) : Mc := ⟨m.L, v, m.nx, m.ou⟩
theorem Mc.cells_setS (m : Mc) (v : Int) : m.cells.setIfInBounds 1 (.int .i64 v) = (m.setS v).cells := by
  apply Array.ext_getElem?
  intro i
  rw [Array.getElem?_setIfInBounds, m.cells_size, m.cells_get, Mc.cells_get]
  by_cases hi : 1 = i
  · subst hi
    rfl
  · rw [if_neg hi]
    by_cases h : i < 98
    · rw [if_pos h, if_pos h]
      unfold Mc.cellAt Mc.setS
      by_cases h0 : i = 0
      · simp only [if_pos h0]
      · simp only [if_neg h0, if_neg (fun e => hi (Eq.symm e) : ¬ i = 1)]
    · rw [if_neg h, if_neg h]
theorem bldL (L : Int) : Mc.zero.cells.setIfInBounds 0 (.int .i64 L) = (⟨L, 0, fun _ _ => 0, fun _ _ => 0⟩ : Mc).cells := by
  rw [← bld_cells, ← zeroM_cells]
  unfold bld
  apply Array.ext_getElem?
  intro j
  rw [Array.getElem?_setIfInBounds (i := 1)]
  by_cases h : 1 = j
  · subst h
    rw [if_pos rfl, Array.size_setIfInBounds, if_pos (by rw [zeroM_size]; omega), Array.getElem?_setIfInBounds_ne (by omega)]
    rfl
  · rw [if_neg h]
theorem zeroC_M : Try.zeroCells31 = Mc.zero.cells := by rw [← zeroM_cells]; kernel_rfl

theorem results_cell_cell {P : Program} {fn : Func} {p q : Tmp} {ty ty' : TypeId} (h : fn.results = #[.cell p ty, .cell q ty']) (tmps : Array Value) (w : World) (g g' : Nat) (t t' : TypeId) (cs cs' : Array Value) (fr fr' : Nat × Nat) (d d' : TypeDesc)
    (hp : tmps.getD p undef = .pointer (some ⟨g, 0, none⟩)) (hq : tmps.getD q undef = .pointer (some ⟨g', 0, none⟩)) (hg : w.heap[g]? = some (.cells cs t fr)) (hg' : w.heap[g']? = some (.cells cs' t' fr'))
    (hu : P.underlying ty = some d) (hd : (match d with | .struct _ | .array _ _ => true | _ => false) = true) (hi : (P.info? ty).map (·.size) = some cs.size)
    (hu' : P.underlying ty' = some d') (hd' : (match d' with | .struct _ | .array _ _ => true | _ => false) = true) (hi' : (P.info? ty').map (·.size) = some cs'.size) :
    (results fn tmps).run P w = .ok (.tuple #[.agg cs, .agg cs']) w := by
  have hp' : tmps[p]?.getD undef = .pointer (some ⟨g, 0, none⟩) := by simpa using hp
  have hq' : tmps[q]?.getD undef = .pointer (some ⟨g', 0, none⟩) := by simpa using hq
  simp [results, h, hp', hq', asAddr, run_loadVar_row w g t ty cs fr d hg hu hd hi, run_loadVar_row w g' t' ty' cs' fr' d' hg' hu' hd' hi']
set_option linter.unusedSimpArgs false
end Go.Proofs.Ytcghcbdefajpgaa

/- Walks: (*table).gathered: the machine of some states of a table. -/
namespace Go.Proofs.Ytcghcbdefajpgaa
open Go.RowKit

/-- What has been gathered: the first i rows, and of row i the first x letters. -/
def gaP (g : Gm) (st : List Nat) (num : Nat → Nat) (i x : Nat) : Mc :=
  ⟨g.l, (st.length : Nat), fun j y => if (j < i ∨ (j = i ∧ y < x)) ∧ y < g.l then num (g.nx (st.getD j 0) y) else 0, fun j y => if (j < i ∨ (j = i ∧ y < x)) ∧ y < g.l then g.ou (st.getD j 0) y else 0⟩
def gaM (g : Gm) (st : List Nat) (num : Nat → Nat) : Mc := gaP g st num st.length 0
theorem gaP_zero (g : Gm) (st : List Nat) (num : Nat → Nat) : gaP g st num 0 0 = ⟨g.l, (st.length : Nat), fun _ _ => 0, fun _ _ => 0⟩ := by
  unfold gaP
  congr 1
  · funext j y; rw [if_neg (by omega)]
  · funext j y; rw [if_neg (by omega)]
theorem gaP_step (g : Gm) (st : List Nat) (num : Nat → Nat) {i x : Nat} (hx : x < g.l) : ((gaP g st num i x).setN i x (num (g.nx (st.getD i 0) x))).setO i x (g.ou (st.getD i 0) x) = gaP g st num i (x + 1) := by
  unfold gaP Mc.setN Mc.setO
  congr 1
  · funext j y
    by_cases e : j = i ∧ y = x
    · obtain ⟨rfl, rfl⟩ := e
      simp [hx]
    · simp only [if_neg e]
      by_cases h : (j < i ∨ (j = i ∧ y < x)) ∧ y < g.l
      · rw [if_pos h, if_pos (by omega)]
      · rw [if_neg h, if_neg (by omega)]
  · funext j y
    by_cases e : j = i ∧ y = x
    · obtain ⟨rfl, rfl⟩ := e
      simp [hx]
    · simp only [if_neg e]
      by_cases h : (j < i ∨ (j = i ∧ y < x)) ∧ y < g.l
      · rw [if_pos h, if_pos (by omega)]
      · rw [if_neg h, if_neg (by omega)]
theorem gaP_row (g : Gm) (st : List Nat) (num : Nat → Nat) (i : Nat) : gaP g st num i g.l = gaP g st num (i + 1) 0 := by
  unfold gaP
  congr 1
  · funext j y
    by_cases h : (j < i ∨ (j = i ∧ y < g.l)) ∧ y < g.l
    · rw [if_pos h, if_pos (by omega)]
    · rw [if_neg h, if_neg (by omega)]
  · funext j y
    by_cases h : (j < i ∨ (j = i ∧ y < g.l)) ∧ y < g.l
    · rw [if_pos h, if_pos (by omega)]
    · rw [if_neg h, if_neg (by omega)]
/-- A number in a list of states. -/
theorem ofNat_get (st : List Nat) {i : Nat} (h : i < st.length) : ((st.map fun (q : Nat) => (q : Int)))[i]'(by simpa using h) = (st.getD i 0 : Nat) := by
  simp [List.getD_eq_getElem?_getD, h]

theorem bldZ (L S : Int) : (Try.zeroCells31.setIfInBounds 0 (.int .i64 L)).setIfInBounds 1 (.int .i64 S) = (⟨L, S, fun _ _ => 0, fun _ _ => 0⟩ : Mc).cells := by
  rw [zeroC_M, ← zeroM_cells]
  exact bld_cells L S
structure GaI (w wr : World) (m : Mc) : Prop where
  bel : Below w.heap.size w wr
  hz : wr.heap[w.heap.size]? = some (.cells Mc.zero.cells 31 (0, 0))
  ho : wr.heap[w.heap.size + 1]? = some (.cells m.cells 31 (0, 0))
theorem GaI.drewN {w wr : World} {m : Mc} (h : GaI w wr m) (n : Nat) : GaI w (wr.drewN n) m := ⟨bel_drewN h.bel n, h.hz, h.ho⟩
theorem GaI.set {w wr : World} {m m' : Mc} (h : GaI w wr m) (i : Nat) (v : Value) (he : m.cells.setIfInBounds i v = m'.cells) : GaI w (wr.setCell ⟨w.heap.size + 1, i, none⟩ v) m' :=
  ⟨h.bel.setCell (by dsimp only; omega) _, hp_far h.hz (by dsimp only; omega) _, by rw [← he]; exact hp_set h.ho i _⟩

set_option linter.unusedSimpArgs false
set_option maxRecDepth 100000 in
set_option maxHeartbeats 2000000 in
theorem gathered_at (g : Gm) (hok : g.Tb) (T : Nat) (st : List Nat) (hst : ∀ i, i < st.length → st.getD i 0 < g.s) (h16 : st.length ≤ 16) (num : Nat → Nat) (hnum : ∀ i x, i < st.length → x < g.l → num (g.nx (st.getD i 0) x) < 256) (fn : Nat) (cap : Array Value) (eg : ∀ args w, (callFunc fn args).run Try.prog w = .ok (.enter fn args) w) (sv : Value) (w : World) (hT : TabAt w T (g.nxs g.s) (g.ous g.s)) (hs : RdI w sv (st.map fun (q : Nat) => (q : Int)))
    (hc : ∀ i x W, i < st.length → x < g.l → Below w.heap.size w W → Calls Try.prog fn (#[.int .i64 (g.nx (st.getD i 0) x : Nat)] ++ cap) W fun e W' => e = .returned (.int .i64 (num (g.nx (st.getD i 0) x) : Nat)) ∧ ∃ n, W' = W.drewN n) :
    Calls Try.prog 87 #[.pointer (some ⟨T, 0, none⟩), .int .i64 (g.l : Nat), sv, .func (.func fn) #[] cap] w fun e w' => e = .returned (.agg (gaM g st num).cells) ∧ Below w.heap.size w w' := by
  obtain ⟨vn, vo, hT0, hN, hO⟩ := hT
  have e1 : (g.nxs g.s).length = g.s := by simp [Gm.nxs]
  have e2 : (g.ous g.s).length = g.s := by simp [Gm.ous]
  obtain ⟨An, cn, rn, rfl, n1, n2, n3⟩ := hN
  obtain ⟨Ao, co, ro, rfl, o1, o2, o3⟩ := hO
  rw [e1] at *
  rw [e2] at *
  have s16 := hok.sm
  have l3 := hok.l3
  have l2 := hok.l2
  have HO := hidd hok
  have H0 := hidd hT0
  -- the rows
  have rowN : ∀ p, p < g.s → ∃ Ar cr b o, An = some ⟨b, o, none⟩ ∧ w.cell? ⟨b, o + p, none⟩ = some (.slice Ar g.l cr) ∧ Rd w Ar (ints (g.nr p)) := fun p hp => by
    have hpr : p < rn.length := by rw [n2]; exact hp
    obtain ⟨b, o, hA, hcr⟩ := n1.at_ (List.getElem?_eq_getElem hpr)
    obtain ⟨Ar, cr, er, hrr⟩ := n3 p rn[p] (g.nr p) (List.getElem?_eq_getElem hpr) (by simp [Gm.nxs, hp])
    rw [er, show (g.nr p).length = g.l by simp [Gm.nr]] at hcr
    exact ⟨Ar, cr, b, o, hA, hcr, hrr⟩
  have rowO : ∀ p, p < g.s → ∃ Ar cr b o, Ao = some ⟨b, o, none⟩ ∧ w.cell? ⟨b, o + p, none⟩ = some (.slice Ar g.l cr) ∧ Rd w Ar (ints (g.or p)) := fun p hp => by
    have hpr : p < ro.length := by rw [o2]; exact hp
    obtain ⟨b, o, hA, hcr⟩ := o1.at_ (List.getElem?_eq_getElem hpr)
    obtain ⟨Ar, cr, er, hrr⟩ := o3 p ro[p] (g.or p) (List.getElem?_eq_getElem hpr) (by simp [Gm.ous, hp])
    rw [er, show (g.or p).length = g.l by simp [Gm.or]] at hcr
    exact ⟨Ar, cr, b, o, hA, hcr, hrr⟩
  have RN := hidd rowN
  have RO := hidd rowO
  have HC := hidd hc
  have Hst := hidd hst
  have Hnum := hidd hnum
  have Heg := hidd eg
  obtain ⟨As, cs, rfl, hss⟩ := hs
  rw [List.length_map]
  have HS := hidd hss
  clear hT0 n1 n2 n3 o1 o2 o3 hok rowN rowO hc hss hst hnum
  go_enter Try.func87, Try.ntmps87
  go_wp2_with ((with_reducible show wpList _ _ _ _ _ (World.alloc _ _)); refine stNew rfl (.tmp 9) (.tmp 17) (by rfl) (⟨g.l, (st.length : Nat), fun _ _ => 0, fun _ _ => 0⟩ : Mc) (w.heap.size + 1) (by simp) (by rw [zeroC_M]; exact Mc.cells_size _) (by rfl) (by rw [← bldZ]; rfl) ?_)
  rw [zeroC_M]
  obtain ⟨w1, hw1⟩ : ∃ w1, w1 = (w.alloc (.cells Mc.zero.cells 31)).alloc (.cells (⟨g.l, (st.length : Nat), fun _ _ => 0, fun _ _ => 0⟩ : Mc).cells 31) := ⟨_, rfl⟩
  rw [← hw1]
  have HI := hidd (show GaI w w1 (gaP g st num 0 0) by
    rw [hw1, gaP_zero]
    exact ⟨((Below.refl _ _).alloc (Nat.le_refl _) _).alloc (by simp) _, hp_old (hp_new rfl), hp_new (by simp)⟩)
  clear hw1 e1 e2
  go_loopw [20] (fun i wr => ∃ k : Nat, k ≤ st.length ∧ i = .int .i64 k ∧ Hid (GaI w wr (gaP g st num k 0))) (fun i _ => st.length - (intOf i).toNat)
  case atStart => exact ⟨0, Nat.zero_le _, rfl, HI⟩
  case round =>
    clear HI
    obtain ⟨k, hk, rfl, HI⟩ := hrel
    by_cases hks : k < st.length
    · obtain ⟨q, hq⟩ : ∃ q, q = st.getD k 0 := ⟨_, rfl⟩
      have hqs := Hst.out k hks
      have hget := HS.out.get (show k < (st.map fun (q : Nat) => (q : Int)).length by rw [List.length_map]; exact hks)
      obtain ⟨bs, os, rfl, cs1⟩ := hget
      rw [ofNat_get st hks] at cs1
      rw [← hq] at hqs cs1
      obtain ⟨Ar, cr, bn, on, rfl, cn1, hrn⟩ := RN.out q hqs
      have cs2 := (HI.out.bel.cell (p := ⟨bs, os + k, none⟩) (hp_lt' cs1)).trans cs1
      have cn2 := (HI.out.bel.cell (p := ⟨bn, on + q, none⟩) (hp_lt' cn1)).trans cn1
      have ct0 : w.cell? ⟨T, 0, none⟩ = some (.slice (some ⟨bn, on, none⟩) g.s cn) := blkc H0.out 0
      have ct1 : w.cell? ⟨T, 1, none⟩ = some (.slice Ao g.s co) := blkc H0.out 1
      have ct2 := (HI.out.bel.cell (p := ⟨T, 0, none⟩) (hp_lt' ct0)).trans ct0
      have j1 : (q : Int) < g.s := by omega
      have Hrn := hidd hrn
      have Hcs1 := hidd cs1
      have Hcn1 := hidd cn1
      have Hct1 := hidd ct1
      have Hq := hidd hq
      clear hrn cs1 cn1 ct0 ct1 hq
      go_wp2_with fail
      clear cs2 cn2 ct2
      obtain ⟨wo, rfl⟩ : ∃ wo : World, wo = wr := ⟨_, rfl⟩
      go_loopw [33] (fun i wr => ∃ x : Nat, x ≤ g.l ∧ i = .int .i64 x ∧ Hid (GaI w wr (gaP g st num k x))) (fun i _ => g.l - (intOf i).toNat)
      case atStart => exact ⟨0, Nat.zero_le _, rfl, HI⟩
      case round =>
        clear HI
        obtain ⟨x, hx, rfl, HI⟩ := hrel
        by_cases hxl : x < g.l
        · have hxr : x < (g.nr q).length := by simp [Gm.nr, hxl]
          obtain ⟨b3, o3, rfl, h3⟩ := Hrn.out.get hxr
          rw [show (g.nr q)[x]'hxr = (g.nx q x : Int) by simp [Gm.nr]] at h3
          have h3' := (HI.out.bel.cell (p := ⟨b3, o3 + x, none⟩) (hp_lt' h3)).trans h3
          obtain ⟨Ar2, cr2, bo, oo, rfl, co1, hro⟩ := RO.out q hqs
          have hxo : x < (g.or q).length := by simp [Gm.or, hxl]
          obtain ⟨b4, o4, rfl, h4⟩ := hro.get hxo
          rw [show (g.or q)[x]'hxo = (g.ou q x : Int) by simp [Gm.or]] at h4
          have HX := hidd (show ∀ W : World, Below w.heap.size w W → W.cell? ⟨T, 1, none⟩ = some (.slice (some ⟨bo, oo, none⟩) g.s co) ∧ W.cell? ⟨bo, oo + q, none⟩ = some (.slice (some ⟨b4, o4, none⟩) g.l cr2) ∧ W.cell? ⟨b4, o4 + x, none⟩ = some (.int .i64 (g.ou q x : Nat)) from fun W hW =>
            ⟨(hW.cell (p := ⟨T, 1, none⟩) (hp_lt' Hct1.out)).trans Hct1.out, (hW.cell (p := ⟨bo, oo + q, none⟩) (hp_lt' co1)).trans co1, (hW.cell (p := ⟨b4, o4 + x, none⟩) (hp_lt' h4)).trans h4⟩)
          have hnq := HO.out.nlt q x hqs hxl
          have hoq := HO.out.olt q x hqs hxl
          have hnn : num (g.nx q x) < 256 := by have h := Hnum.out k x hks hxl; rwa [← Hq.out] at h
          have HCq := hidd (show ∀ W, g.nx q x < g.s → Below w.heap.size w W → Calls Try.prog fn (#[.int .i64 (g.nx q x : Nat)] ++ cap) W fun e W' => e = .returned (.int .i64 (num (g.nx q x) : Nat)) ∧ ∃ n, W' = W.drewN n from fun W _ hW => by have h := HC.out k x W hks hxl hW; rwa [← Hq.out] at h)
          have j2 : (x : Int) < g.l := by omega
          have j3 : (0 : Int) ≤ x := by omega
          have j4 : (0 : Int) ≤ q := by omega
          have j5 : (k : Int) < 16 := by omega
          have j6 : (0 : Int) ≤ k := by omega
          have j7 : (x : Int) < 3 := by omega
          have j8 : (g.ou q x : Int) < 256 := by omega
          have j9 : (num (g.nx q x) : Int) < 256 := by omega
          clear h3 co1 hro h4
          go_wp2_with fail
          clear h3'
          have r8 : IntKind.u8.wrap (g.ou q x : Int) = (g.ou q x : Int) := IntWalk.u8_in _ (by omega)
          have r9 : IntKind.u8.wrap (num (g.nx q x) : Int) = (num (g.nx q x) : Int) := IntWalk.u8_in _ (by omega)
          have S0 := hidd (bel_drewN HI.out.bel 1)
          refine wp_region_held (S := fun w' => Below w.heap.size w w') (by kernel_rfl) ?_
          change wpAnyH _ _ _ _ _ _ _ _ (World.drew _)
          refine wpAnyH_take (i := 0) (v := ?v0) rfl (by kernel_rfl) (by kernel_rfl) (by kernel_rfl) (fun _ _ _ h => h) (Or.inl ⟨by rfl, ?h0⟩) S0.out ?_
          case h0 => (intro w2 hS; obtain ⟨k1, k2, k3⟩ := HX.out w2 hS; clear hS; go_simp; first | done | with_reducible rfl)
          simp only [Act.put, List.getElem_toArray, List.getElem_cons_succ, List.getElem_cons_zero, List.setIfInBounds_toArray, List.set_cons_zero, List.set_cons_succ]
          refine wpAnyH_take (i := 1) (v := ?v1) rfl (by kernel_rfl) (by kernel_rfl) (by kernel_rfl) (fun _ _ _ h => h) (Or.inl ⟨by rfl, ?h1⟩) S0.out ?_
          case h1 => (intro w2 hS; obtain ⟨k1, k2, k3⟩ := HX.out w2 hS; clear hS; go_simp; first | done | with_reducible rfl)
          simp only [Act.put, List.getElem_toArray, List.getElem_cons_succ, List.getElem_cons_zero, List.setIfInBounds_toArray, List.set_cons_zero, List.set_cons_succ]
          refine wpAnyH_take (i := 2) (v := ?v2) rfl (by kernel_rfl) (by kernel_rfl) (by kernel_rfl) (fun _ _ _ h => h) (Or.inl ⟨by rfl, ?h2⟩) S0.out ?_
          case h2 => (intro w2 hS; obtain ⟨k1, k2, k3⟩ := HX.out w2 hS; clear hS; go_simp; first | done | with_reducible rfl)
          simp only [Act.put, List.getElem_toArray, List.getElem_cons_succ, List.getElem_cons_zero, List.setIfInBounds_toArray, List.set_cons_zero, List.set_cons_succ]
          refine wpAnyH_take (i := 3) (v := ?v3) rfl (by kernel_rfl) (by kernel_rfl) (by kernel_rfl) (fun _ _ _ h => h) (Or.inl ⟨by rfl, ?h3⟩) S0.out ?_
          case h3 => (intro w2 hS; obtain ⟨k1, k2, k3⟩ := HX.out w2 hS; clear hS; go_simp; first | done | with_reducible rfl)
          simp only [Act.put, List.getElem_toArray, List.getElem_cons_succ, List.getElem_cons_zero, List.setIfInBounds_toArray, List.set_cons_zero, List.set_cons_succ]
          refine wpAnyH_take (i := 4) (v := ?v4) rfl (by kernel_rfl) (by kernel_rfl) (by kernel_rfl) (fun _ _ _ h => h) (Or.inl ⟨by rfl, ?h4⟩) S0.out ?_
          case h4 => (intro w2 hS; obtain ⟨k1, k2, k3⟩ := HX.out w2 hS; clear hS; go_simp; first | done | with_reducible rfl)
          simp only [Act.put, List.getElem_toArray, List.getElem_cons_succ, List.getElem_cons_zero, List.setIfInBounds_toArray, List.set_cons_zero, List.set_cons_succ]
          refine wpAnyH_take (i := 5) (v := ?v5) rfl (by kernel_rfl) (by kernel_rfl) (by kernel_rfl) (fun _ _ _ h => h) (Or.inl ⟨by rfl, ?h5⟩) S0.out ?_
          case h5 => (intro w2 hS; obtain ⟨k1, k2, k3⟩ := HX.out w2 hS; clear hS; go_simp; first | done | with_reducible rfl)
          simp only [Act.put, List.getElem_toArray, List.getElem_cons_succ, List.getElem_cons_zero, List.setIfInBounds_toArray, List.set_cons_zero, List.set_cons_succ]
          refine wpAnyH_take (i := 8) (v := ?v8) rfl (by kernel_rfl) (by kernel_rfl) (by kernel_rfl) (fun _ _ _ h => h) (Or.inl ⟨by rfl, ?h8⟩) S0.out ?_
          case h8 => (intro w2 hS; obtain ⟨k1, k2, k3⟩ := HX.out w2 hS; clear hS; go_simp; first | done | with_reducible rfl)
          simp only [Act.put, List.getElem_toArray, List.getElem_cons_succ, List.getElem_cons_zero, List.setIfInBounds_toArray, List.set_cons_zero, List.set_cons_succ]
          refine wpAnyH_take (i := 9) (v := ?v9) rfl (by kernel_rfl) (by kernel_rfl) (by kernel_rfl) (fun _ _ _ h => h) (Or.inl ⟨by rfl, ?h9⟩) S0.out ?_
          case h9 => (intro w2 hS; obtain ⟨k1, k2, k3⟩ := HX.out w2 hS; clear hS; go_simp; first | done | with_reducible rfl)
          simp only [Act.put, List.getElem_toArray, List.getElem_cons_succ, List.getElem_cons_zero, List.setIfInBounds_toArray, List.set_cons_zero, List.set_cons_succ]
          refine wpAnyH_take (i := 10) (v := ?v10) rfl (by kernel_rfl) (by kernel_rfl) (by kernel_rfl) (fun _ _ _ h => h) (Or.inl ⟨by rfl, ?h10⟩) S0.out ?_
          case h10 => (intro w2 hS; obtain ⟨k1, k2, k3⟩ := HX.out w2 hS; clear hS; go_simp; first | done | with_reducible rfl)
          simp only [Act.put, List.getElem_toArray, List.getElem_cons_succ, List.getElem_cons_zero, List.setIfInBounds_toArray, List.set_cons_zero, List.set_cons_succ]
          refine wpAnyH_take (i := 11) (v := ?v11) rfl (by kernel_rfl) (by kernel_rfl) (by kernel_rfl) (fun _ _ _ h => h) (Or.inl ⟨by rfl, ?h11⟩) S0.out ?_
          case h11 => (intro w2 hS; obtain ⟨k1, k2, k3⟩ := HX.out w2 hS; clear hS; go_simp; first | done | with_reducible rfl)
          simp only [Act.put, List.getElem_toArray, List.getElem_cons_succ, List.getElem_cons_zero, List.setIfInBounds_toArray, List.set_cons_zero, List.set_cons_succ]
          refine wpAnyH_take (i := 12) (v := ?v12) rfl (by kernel_rfl) (by kernel_rfl) (by kernel_rfl) (fun _ _ _ h => h) (Or.inl ⟨by rfl, ?h12⟩) S0.out ?_
          case h12 => (intro w2 hS; obtain ⟨k1, k2, k3⟩ := HX.out w2 hS; clear hS; go_simp; first | done | with_reducible rfl)
          simp only [Act.put, List.getElem_toArray, List.getElem_cons_succ, List.getElem_cons_zero, List.setIfInBounds_toArray, List.set_cons_zero, List.set_cons_succ]
          refine wpAnyH_take (i := 13) (v := ?v13) rfl (by kernel_rfl) (by kernel_rfl) (by kernel_rfl) (fun _ _ _ h => h) (Or.inl ⟨by rfl, ?h13⟩) S0.out ?_
          case h13 => (intro w2 hS; obtain ⟨k1, k2, k3⟩ := HX.out w2 hS; clear hS; go_simp; first | done | with_reducible rfl)
          simp only [Act.put, List.getElem_toArray, List.getElem_cons_succ, List.getElem_cons_zero, List.setIfInBounds_toArray, List.set_cons_zero, List.set_cons_succ]
          refine wpAnyH_take (i := 14) (v := ?v14) rfl (by kernel_rfl) (by kernel_rfl) (by kernel_rfl) (fun _ _ _ h => h) (Or.inl ⟨by rfl, ?h14⟩) S0.out ?_
          case h14 => (intro w2 hS; obtain ⟨k1, k2, k3⟩ := HX.out w2 hS; clear hS; go_simp; first | done | with_reducible rfl)
          simp only [Act.put, List.getElem_toArray, List.getElem_cons_succ, List.getElem_cons_zero, List.setIfInBounds_toArray, List.set_cons_zero, List.set_cons_succ]
          refine wpAnyH_take (i := 15) (v := ?v15) rfl (by kernel_rfl) (by kernel_rfl) (by kernel_rfl) (fun _ _ _ h => h) (Or.inl ⟨by rfl, ?h15⟩) S0.out ?_
          case h15 => (intro w2 hS; obtain ⟨k1, k2, k3⟩ := HX.out w2 hS; clear hS; go_simp; first | done | with_reducible rfl)
          simp only [Act.put, List.getElem_toArray, List.getElem_cons_succ, List.getElem_cons_zero, List.setIfInBounds_toArray, List.set_cons_zero, List.set_cons_succ]
          refine wpAnyH_take (i := 16) (v := ?v16) rfl (by kernel_rfl) (by kernel_rfl) (by kernel_rfl) (fun _ _ _ h => h) (Or.inl ⟨by rfl, ?h16⟩) S0.out ?_
          case h16 => (intro w2 hS; obtain ⟨k1, k2, k3⟩ := HX.out w2 hS; clear hS; go_simp; first | done | with_reducible rfl)
          simp only [Act.put, List.getElem_toArray, List.getElem_cons_succ, List.getElem_cons_zero, List.setIfInBounds_toArray, List.set_cons_zero, List.set_cons_succ]
          refine wpAnyH_take (i := 17) (v := ?v17) rfl (by kernel_rfl) (by kernel_rfl) (by kernel_rfl) (fun _ _ _ h => h) (Or.inl ⟨by rfl, ?h17⟩) S0.out ?_
          case h17 => (intro w2 hS; obtain ⟨k1, k2, k3⟩ := HX.out w2 hS; clear hS; go_simp; first | done | with_reducible rfl)
          simp only [Act.put, List.getElem_toArray, List.getElem_cons_succ, List.getElem_cons_zero, List.setIfInBounds_toArray, List.set_cons_zero, List.set_cons_succ]
          refine wpAnyH_take (i := 18) (v := ?v18) rfl (by kernel_rfl) (by kernel_rfl) (by kernel_rfl) (fun _ _ _ h => h) (Or.inl ⟨by rfl, ?h18⟩) S0.out ?_
          case h18 => (intro w2 hS; obtain ⟨k1, k2, k3⟩ := HX.out w2 hS; clear hS; go_simp; first | done | with_reducible rfl)
          simp only [Act.put, List.getElem_toArray, List.getElem_cons_succ, List.getElem_cons_zero, List.setIfInBounds_toArray, List.set_cons_zero, List.set_cons_succ]
          refine wpAnyH_take (i := 19) (v := ?v19) rfl (by kernel_rfl) (by kernel_rfl) (by kernel_rfl) (fun _ _ _ h => h) (Or.inl ⟨by rfl, ?h19⟩) S0.out ?_
          case h19 => (intro w2 hS; obtain ⟨k1, k2, k3⟩ := HX.out w2 hS; clear hS; go_simp; first | done | with_reducible rfl)
          simp only [Act.put, List.getElem_toArray, List.getElem_cons_succ, List.getElem_cons_zero, List.setIfInBounds_toArray, List.set_cons_zero, List.set_cons_succ]
          refine wpAnyH_take (i := 20) (v := ?v20) rfl (by kernel_rfl) (by kernel_rfl) (by kernel_rfl) (fun _ _ _ h => h) (Or.inl ⟨by rfl, ?h20⟩) S0.out ?_
          case h20 => (intro w2 hS; obtain ⟨k1, k2, k3⟩ := HX.out w2 hS; clear hS; go_simp; first | done | with_reducible rfl)
          simp only [Act.put, List.getElem_toArray, List.getElem_cons_succ, List.getElem_cons_zero, List.setIfInBounds_toArray, List.set_cons_zero, List.set_cons_succ]
          refine wpAnyH_take (i := 23) (v := ?v23) rfl (by kernel_rfl) (by kernel_rfl) (by kernel_rfl) (fun _ _ _ h => h) (Or.inl ⟨by rfl, ?h23⟩) S0.out ?_
          case h23 => (intro w2 hS; obtain ⟨k1, k2, k3⟩ := HX.out w2 hS; clear hS; go_simp; first | done | with_reducible rfl)
          simp only [Act.put, List.getElem_toArray, List.getElem_cons_succ, List.getElem_cons_zero, List.setIfInBounds_toArray, List.set_cons_zero, List.set_cons_succ]
          refine wpAnyH_take (i := 24) (v := ?v24) rfl (by kernel_rfl) (by kernel_rfl) (by kernel_rfl) (fun _ _ _ h => h) (Or.inl ⟨by rfl, ?h24⟩) S0.out ?_
          case h24 => (intro w2 hS; obtain ⟨k1, k2, k3⟩ := HX.out w2 hS; clear hS; go_simp; first | done | with_reducible rfl)
          simp only [Act.put, List.getElem_toArray, List.getElem_cons_succ, List.getElem_cons_zero, List.setIfInBounds_toArray, List.set_cons_zero, List.set_cons_succ]
          refine wpAnyH_ready (rs := [6]) (by kernel_rfl) (by simp) (AllReadyH.cons rfl (fun K hK => ?_) AllReadyH.nil)
          go_simp
          refine (HCq.out _ hnq S0.out).mono ?_
          rintro e w5 ⟨rfl, n5, e5⟩
          have HI5 := hidd (show GaI w w5 (gaP g st num k x) by rw [e5]; exact (HI.out.drewN 1).drewN n5)
          refine hK.out _ _ HI5.out.bel (fun _ => ?_)
          clear e5 hK K
          refine wpAnyH_take (i := 7) (v := ?v7) rfl (by kernel_rfl) (by kernel_rfl) (by kernel_rfl) (fun _ _ _ h => h) (Or.inl ⟨by rfl, ?h7⟩) HI5.out.bel ?_
          case h7 => (intro w2 hS; clear hS; go_simp; first | done | with_reducible rfl)
          simp only [Act.put, List.getElem_toArray, List.getElem_cons_succ, List.getElem_cons_zero, List.setIfInBounds_toArray, List.set_cons_zero, List.set_cons_succ]
          refine wpAnyH_take (i := 21) (v := ?v21) rfl (by kernel_rfl) (by kernel_rfl) (by kernel_rfl) (fun _ _ _ h => h) (Or.inl ⟨by rfl, ?h21⟩) HI5.out.bel ?_
          case h21 => (intro w2 hS; clear hS; go_simp; first | done | with_reducible rfl)
          simp only [Act.put, List.getElem_toArray, List.getElem_cons_succ, List.getElem_cons_zero, List.setIfInBounds_toArray, List.set_cons_zero, List.set_cons_succ]
          have d1 := (blkc HI5.out.ho (2 + k * 3 + x)).trans ((Mc.cells_get _ _).trans (if_pos (by omega)))
          obtain ⟨x1, hx1⟩ : ∃ v, v = (gaP g st num k x).cellAt (2 + k * 3 + x) := ⟨_, rfl⟩
          rw [← hx1] at d1
          have f1 := blkf HI5.out.ho (2 + k * 3 + x)
          have HI6 := hidd (HI5.out.set (2 + k * 3 + x) (.int .u8 (num (g.nx q x) : Nat)) (Mc.cells_setN _ k x (num (g.nx q x)) (by omega) (by omega)))
          clear hx1
          refine wpAnyH_ready (rs := [22]) (by kernel_rfl) (by simp) (AllReadyH.cons rfl (fun K hK => ?_) AllReadyH.nil)
          go_simp
          refine hK.out _ _ HI6.out.bel (fun _ => ?_)
          clear hK K d1 f1
          obtain ⟨w6, hw6⟩ : ∃ w6, w6 = w5.setCell ⟨w.heap.size + 1, 2 + k * 3 + x, none⟩ (.int .u8 (num (g.nx q x) : Nat)) := ⟨_, rfl⟩
          rw [← hw6] at HI6 ⊢
          clear hw6
          refine wpAnyH_take (i := 25) (v := ?v25) rfl (by kernel_rfl) (by kernel_rfl) (by kernel_rfl) (fun _ _ _ h => h) (Or.inl ⟨by rfl, ?h25⟩) HI6.out.bel ?_
          case h25 => (intro w2 hS; clear hS; go_simp; first | done | with_reducible rfl)
          simp only [Act.put, List.getElem_toArray, List.getElem_cons_succ, List.getElem_cons_zero, List.setIfInBounds_toArray, List.set_cons_zero, List.set_cons_succ]
          have d1 := (blkc HI6.out.ho (50 + k * 3 + x)).trans ((Mc.cells_get _ _).trans (if_pos (by omega)))
          obtain ⟨x1, hx1⟩ : ∃ v, v = ((gaP g st num k x).setN k x (num (g.nx q x))).cellAt (50 + k * 3 + x) := ⟨_, rfl⟩
          rw [← hx1] at d1
          have f1 := blkf HI6.out.ho (50 + k * 3 + x)
          have HI7 := hidd (HI6.out.set (50 + k * 3 + x) (.int .u8 (g.ou q x : Nat)) (Mc.cells_setO _ k x (g.ou q x) (by omega) (by omega)))
          clear hx1
          refine wpAnyH_ready (rs := [26]) (by kernel_rfl) (by simp) (AllReadyH.cons rfl (fun K hK => ?_) AllReadyH.nil)
          go_simp
          refine hK.out _ _ HI7.out.bel (fun _ => ?_)
          clear hK K d1 f1
          refine wpAnyH_done (by kernel_rfl) ?_ _
          clear r8 r9
          go_wp2_with fail
          go_roundw
          case rel => exact ⟨x + 1, by omega, by go_num, hidd (by have := HI7.out; have e := gaP_step g st num (i := k) hxl; rw [← Hq.out] at e; rw [e] at this; exact this)⟩
          case measure => simp [intOf]; omega
        · have he : x = g.l := by omega
          subst he
          go_wp2_with fail
          go_roundw
          case rel => exact ⟨k + 1, by omega, by go_num, hidd (by have := HI.out; rw [gaP_row] at this; exact this)⟩
          case measure => simp [intOf]; omega
    · have he : k = st.length := by omega
      subst he
      go_wp2_with (first | (refine ldC rfl (.tmp 9) rfl _ (gaM g st num) HI.out.ho (by rfl) ?_) | (refine stC rfl (.tmp 8) (.tmp 65) rfl _ (gaM g st num) HI.out.hz (Mc.cells_size _) (by rfl) (by rfl) ?_))
      refine bodyPost_ret (v := .agg (gaM g st num).cells) (results_cell_row rfl _ _ w.heap.size 31 _ (0, 0) _ rfl (setRow_heap _ _ _ _ _ _ HI.out.hz) Try.underlying31 rfl (cells98i _)) rfl ⟨rfl, ?_⟩
      exact bel_row HI.out.bel (Nat.le_refl _) _
theorem gathered_any (g : Gm) (hok : g.Tb) (T : Nat) (st : List Nat) (hst : ∀ i, i < st.length → st.getD i 0 < g.s) (h16 : st.length ≤ 16) (num : Nat → Nat) (hnum : ∀ r, r < g.s → num r < 256) (fn : Nat) (cap : Array Value) (eg : ∀ args w, (callFunc fn args).run Try.prog w = .ok (.enter fn args) w) (sv : Value) (w : World) (hT : TabAt w T (g.nxs g.s) (g.ous g.s)) (hs : RdI w sv (st.map fun (q : Nat) => (q : Int)))
    (hc : ∀ r W, r < g.s → Below w.heap.size w W → Calls Try.prog fn (#[.int .i64 (r : Nat)] ++ cap) W fun e W' => e = .returned (.int .i64 (num r : Nat)) ∧ ∃ n, W' = W.drewN n) :
    Calls Try.prog 87 #[.pointer (some ⟨T, 0, none⟩), .int .i64 (g.l : Nat), sv, .func (.func fn) #[] cap] w fun e w' => e = .returned (.agg (gaM g st num).cells) ∧ Below w.heap.size w w' :=
  gathered_at g hok T st hst h16 num (fun i x hi hx => hnum _ (hok.nlt _ x (hst i hi) hx)) fn cap eg sv w hT hs (fun i x W hi hx hW => hc _ W (hok.nlt _ x (hst i hi) hx) hW)
end Go.Proofs.Ytcghcbdefajpgaa
