/- Walks: the trivial states, of the reference. -/
import Derived.Test.YtjnnbjlombopnaaTab
import Derived.Test.YtjnnbjlombopnaaInvV
namespace Go.Proofs.Ytjnnbjlombopnaa
open Go.RowKit

/-! ### An array of so many cells -/
def av (f : Nat → Value) (n : Nat) : Array Value := ((List.range n).map f).toArray
theorem av_size (f : Nat → Value) (n : Nat) : (av f n).size = n := by simp [av]
theorem av_get (f : Nat → Value) {n j : Nat} (h : j < n) : (av f n)[j]? = some (f j) := by simp [av, h]
theorem av_set (f : Nat → Value) (n q : Nat) (v : Value) : (av f n).setIfInBounds q v = av (fun j => if j = q then v else f j) n := by
  apply Array.ext_getElem?
  intro j
  by_cases hj : j < n
  · rw [av_get _ hj, Array.getElem?_setIfInBounds]
    by_cases e : q = j
    · subst e
      simp [av, hj]
    · rw [if_neg e, av_get _ hj, if_neg (fun h => e h.symm)]
  · rw [Array.getElem?_eq_none (by simp [av]; omega), Array.getElem?_eq_none (by simp [av]; omega)]
theorem av_congr {f f' : Nat → Value} {n : Nat} (h : ∀ j, j < n → f j = f' j) : av f n = av f' n := by
  unfold av
  congr 1
  exact List.map_congr_left fun j hj => h j (List.mem_range.1 hj)
theorem av_one {f : Nat → Value} {n : Nat} (h : ∀ j, (f j).oneCell' = true) : ∀ v ∈ (av f n).toList, v.oneCell' = true := by
  intro v hv
  simp [av] at hv
  obtain ⟨j, _, rfl⟩ := hv
  exact h j
def bv (F : Nat → Bool) (n : Nat) : Array Value := av (fun j => .bool (F j)) n
def upd (F : Nat → Bool) (q : Nat) (b : Bool) : Nat → Bool := fun j => if j = q then b else F j
theorem upd_same (F : Nat → Bool) (q : Nat) (b : Bool) : upd F q b q = b := by simp [upd]
theorem upd_ne (F : Nat → Bool) (b : Bool) {q j : Nat} (h : j ≠ q) : upd F q b j = F j := by simp [upd, h]
theorem bv_set (F : Nat → Bool) (n q : Nat) (b : Bool) : (bv F n).setIfInBounds q (.bool b) = bv (upd F q b) n := by
  unfold bv
  rw [av_set]
  refine av_congr fun j _ => ?_
  unfold upd
  split <;> rfl
theorem bv_get (F : Nat → Bool) {n j : Nat} (h : j < n) : (bv F n)[j]? = some (.bool (F j)) := av_get _ h

theorem a16iB (f : Nat → Value) : (Try.prog.info? 98).map (·.size) = some (av f 16).size := by rw [av_size]; kernel_rfl
/-- A whole array is read out of a variable. -/
theorem ldAB {ops : Array Oper} {rest : List Oper} {o : Oper} {a : Act} {w : World} {Q : Exit → Act → World → Prop} (hw : Region.wanted o (yielded ops a.tmps) = true) (x : Operand) (ho : o.op = .load 98 x) (g : Nat) (f : Nat → Value) {t : TypeId} {fr : Nat × Nat}
    (hg : w.heap[g]? = some (.cells (av f 16) t fr)) (hx : a.eval x = .pointer (some ⟨g, 0, none⟩)) (h : wpList Try.prog ops Q rest (a.put o.dst (.agg (av f 16))) w) : wpList Try.prog ops Q (o :: rest) a w := by
  have e : (av f 16).extract 0 (0 + 16) = av f 16 := by rw [show 0 + 16 = (av f 16).size from (av_size f 16).symm]; simp
  refine wpList_load_at_g hw 98 x ho g 0 16 hx t (av f 16) fr _ hg Try.underlying98 rfl (by kernel_rfl) (by rw [av_size]; omega) ?_
  rw [e]; exact h
/-- A whole array is written into a variable. -/
theorem stAB {ops : Array Oper} {rest : List Oper} {o : Oper} {a : Act} {w : World} {Q : Exit → Act → World → Prop} (hgd : o.guard = none) (x y : Operand) (ho : o.op = .store 98 x y) (g : Nat) (f : Nat → Value) (hf : ∀ j, (f j).oneCell' = true) {t : TypeId} {old : Array Value}
    (hg : w.heap[g]? = some (.cells old t (0, 0))) (hold : old.size = 16) (hx : a.eval x = .pointer (some ⟨g, 0, none⟩)) (hy : a.eval y = .agg (av f 16)) (h : wpList Try.prog ops Q rest (a.put o.dst undef) (w.setRow g (av f 16))) : wpList Try.prog ops Q (o :: rest) a w := by
  have e : splice old 0 (av f 16) = av f 16 := by
    apply Array.ext_getElem?
    intro j
    rw [splice_get _ _ _ (by rw [av_size, hold]; omega), av_size]
    by_cases hj : j < 16
    · rw [if_pos (by omega), Nat.sub_zero]
    · rw [if_neg (by omega), Array.getElem?_eq_none (by rw [hold]; omega), Array.getElem?_eq_none (by rw [av_size]; omega)]
  refine wpList_store_at hgd 98 x y ho g 0 16 (av f 16) hx hy t old hg (by kernel_rfl) (av_size f 16) (by rw [hold]; omega) (av_one hf) ?_
  rw [e]; exact h
theorem a16iI (f : Nat → Value) : (Try.prog.info? 105).map (·.size) = some (av f 16).size := by rw [av_size]; kernel_rfl
/-- A whole array is read out of a variable. -/
theorem ldAI {ops : Array Oper} {rest : List Oper} {o : Oper} {a : Act} {w : World} {Q : Exit → Act → World → Prop} (hw : Region.wanted o (yielded ops a.tmps) = true) (x : Operand) (ho : o.op = .load 105 x) (g : Nat) (f : Nat → Value) {t : TypeId} {fr : Nat × Nat}
    (hg : w.heap[g]? = some (.cells (av f 16) t fr)) (hx : a.eval x = .pointer (some ⟨g, 0, none⟩)) (h : wpList Try.prog ops Q rest (a.put o.dst (.agg (av f 16))) w) : wpList Try.prog ops Q (o :: rest) a w := by
  have e : (av f 16).extract 0 (0 + 16) = av f 16 := by rw [show 0 + 16 = (av f 16).size from (av_size f 16).symm]; simp
  refine wpList_load_at_g hw 105 x ho g 0 16 hx t (av f 16) fr _ hg Try.underlying105 rfl (by kernel_rfl) (by rw [av_size]; omega) ?_
  rw [e]; exact h
/-- A whole array is written into a variable. -/
theorem stAI {ops : Array Oper} {rest : List Oper} {o : Oper} {a : Act} {w : World} {Q : Exit → Act → World → Prop} (hgd : o.guard = none) (x y : Operand) (ho : o.op = .store 105 x y) (g : Nat) (f : Nat → Value) (hf : ∀ j, (f j).oneCell' = true) {t : TypeId} {old : Array Value}
    (hg : w.heap[g]? = some (.cells old t (0, 0))) (hold : old.size = 16) (hx : a.eval x = .pointer (some ⟨g, 0, none⟩)) (hy : a.eval y = .agg (av f 16)) (h : wpList Try.prog ops Q rest (a.put o.dst undef) (w.setRow g (av f 16))) : wpList Try.prog ops Q (o :: rest) a w := by
  have e : splice old 0 (av f 16) = av f 16 := by
    apply Array.ext_getElem?
    intro j
    rw [splice_get _ _ _ (by rw [av_size, hold]; omega), av_size]
    by_cases hj : j < 16
    · rw [if_pos (by omega), Nat.sub_zero]
    · rw [if_neg (by omega), Array.getElem?_eq_none (by rw [hold]; omega), Array.getElem?_eq_none (by rw [av_size]; omega)]
  refine wpList_store_at hgd 105 x y ho g 0 16 (av f 16) hx hy t old hg (by kernel_rfl) (av_size f 16) (by rw [hold]; omega) (av_one hf) ?_
  rw [e]; exact h
/-! ### Trivial states of a machine -/
def Gm.idr (g : Gm) (q : Nat) : Bool := (List.range g.l).all fun x => decide (g.ou q x = x)
def Gm.tv (g : Gm) : Nat → Nat → Bool := Ytjnnbjlombopnaa.tv g.l g.nx g.idr
def Gm.tr (g : Gm) (q : Nat) : Bool := trv g.s g.l g.nx g.idr q
/-- The states that are trivial, as the array of the reference says. -/
def Gm.tr16 (g : Gm) (q : Nat) : Bool := decide (q < g.s) && g.tr q
theorem Gm.idr_iff (g : Gm) (q : Nat) : g.idr q = true ↔ ∀ x, x < g.l → g.ou q x = x := by simp [Gm.idr]

def TI (g : Gm) (r : Nat) (F : Nat → Bool) : Prop := (∀ j, g.s ≤ j → F j = false) ∧ (∀ q, q < g.s → g.tr q = true → F q = true) ∧ (∀ q, q < g.s → F q = true → ∀ j, j < r → g.tv j q = true)
def TQ (g : Gm) (r q : Nat) (F : Nat → Bool) : Prop := TI g r F ∧ ∀ p, p < q → F p = true → ∀ j, j < r + 1 → g.tv j p = true
def TX (g : Gm) (r q x : Nat) (F : Nat → Bool) : Prop := TQ g r q F ∧ (F q = true → ∀ y, y < x → g.ou q y = y ∧ ∀ j, j < r → g.tv j (g.nx q y) = true)
theorem TI.start (g : Gm) : TI g 0 (fun j => decide (j < g.s)) := ⟨fun j hj => by simp; omega, fun q hq _ => by simp [hq], fun q hq _ j hj => by omega⟩
theorem TI.row {g : Gm} {r : Nat} {F : Nat → Bool} (h : TI g r F) : TQ g r 0 F := ⟨h, fun p hp => by omega⟩
theorem TQ.row {g : Gm} {r q : Nat} {F : Nat → Bool} (h : TQ g r q F) : TX g r q 0 F := ⟨h, fun _ y hy => by omega⟩
theorem TX.step {g : Gm} (hok : g.Ok) {r q x : Nat} {F : Nat → Bool} (h : TX g r q x F) (hq : q < g.s) (hx : x < g.l) {b : Bool} (hb : b = (F q && (decide (g.ou q x = x) && F (g.nx q x)))) : TX g r q (x + 1) (upd F q b) := by
  obtain ⟨⟨⟨h1, h2, h3⟩, h4⟩, h5⟩ := h
  have hle : ∀ p, upd F q b p = true → F p = true := fun p hp => by
    by_cases e : p = q
    · subst e
      rw [upd_same, hb, Bool.and_eq_true] at hp
      exact hp.1
    · rwa [upd_ne F b e] at hp
  refine ⟨⟨⟨fun j hj => ?_, fun p hp ht => ?_, fun p hp hF => h3 p hp (hle p hF)⟩, fun p hp hF => ?_⟩, fun hF y hy => ?_⟩
  · rw [upd_ne F b (by omega)]; exact h1 j hj
  · by_cases e : p = q
    · subst e
      rw [upd_same, hb, h2 p hp ht, Bool.true_and, h2 _ (hok.nlt p x hp hx) (trv_next g.s hok.nlt hp hx ht), Bool.and_true]
      exact decide_eq_true ((g.idr_iff p).1 (trv_idr g.s ht) x hx)
    · rw [upd_ne F b e]; exact h2 p hp ht
  · exact h4 p hp (hle p hF)
  · rw [upd_same, hb] at hF
    simp only [Bool.and_eq_true, decide_eq_true_eq] at hF
    by_cases e : y < x
    · exact h5 hF.1 y e
    · obtain rfl : y = x := by omega
      exact ⟨hF.2.1, h3 _ (hok.nlt q y hq hx) hF.2.2⟩
theorem TX.row_end {g : Gm} {r q : Nat} {F : Nat → Bool} (h : TX g r q g.l F) (hq : q < g.s) : TQ g r (q + 1) F := by
  obtain ⟨h1, h2⟩ := h
  refine ⟨h1.1, fun p hp hF => ?_⟩
  by_cases e : p < q
  · exact h1.2 p e hF
  · obtain rfl : p = q := by omega
    have h3 := h2 hF
    intro j hj
    cases j with
    | zero => exact (g.idr_iff p).2 fun y hy => (h3 y hy).1
    | succ j => exact (tv_succ j p).2 ⟨h1.1.2.2 p hq hF j (by omega), fun y hy => (h3 y hy).2 j (by omega)⟩
theorem TQ.all {g : Gm} {r : Nat} {F : Nat → Bool} (h : TQ g r g.s F) : TI g (r + 1) F := ⟨h.1.1, h.1.2.1, fun q hq hF => h.2 q hq hF⟩
theorem TI.all {g : Gm} {F : Nat → Bool} (h : TI g (g.s + 1) F) : bv F 16 = bv g.tr16 16 := by
  refine av_congr fun j _ => ?_
  congr 1
  unfold Gm.tr16
  by_cases hj : j < g.s
  · rw [decide_eq_true hj, Bool.true_and, Bool.eq_iff_iff]
    exact ⟨fun hF => h.2.2 j hj hF g.s (Nat.lt_succ_self _), fun ht => h.2.1 j hj ht⟩
  · rw [decide_eq_false hj, Bool.false_and]
    exact h.1 j (by omega)

set_option maxRecDepth 100000 in
set_option maxHeartbeats 1000000 in
theorem l01Trivial_any (g : Gm) (hok : g.Ok) (cs : Array Value) (hg : g.Is cs) (w : World) :
    Calls Try.prog 124 #[.agg cs] w fun e w' => e = .returned (.agg (bv g.tr16 16)) ∧ Below w.heap.size w w' := by
  have c0 := hg.l
  have c1 := hg.s
  have HG := hidd hg
  have HO := hidd hok
  clear hg hok
  go_enter Try.func124, Try.ntmps124
  go_wp2_with fail
  obtain ⟨w1, hw1⟩ : ∃ w1, w1 = ((w.alloc (.cells cs 27)).alloc (.cells (bv (fun _ => false) 16) 98)).alloc (.cells (bv (fun _ => false) 16) 98) := ⟨_, rfl⟩
  rw [show (#[Value.bool false, Value.bool false, Value.bool false, Value.bool false, Value.bool false, Value.bool false, Value.bool false, Value.bool false, Value.bool false, Value.bool false, Value.bool false, Value.bool false, Value.bool false, Value.bool false, Value.bool false, Value.bool false] : Array Value) = bv (fun _ => false) 16 from rfl, ← hw1]
  have Bel := hidd (show Below w.heap.size w w1 by rw [hw1]; exact (((Below.refl _ _).alloc (Nat.le_refl _) _).alloc (by simp) _).alloc (by simp; omega) _)
  have NA := hidd (show w1.heap[w.heap.size]? = some (.cells cs 27 (0, 0)) by rw [hw1]; exact hp_old (hp_old (hp_new rfl)))
  have N0 := hidd (show w1.heap[w.heap.size + 1]? = some (.cells (bv (fun _ => false) 16) 98 (0, 0)) by rw [hw1]; exact hp_old (hp_new (by simp)))
  have N1 := hidd (show w1.heap[w.heap.size + 1 + 1]? = some (.cells (bv (fun _ => false) 16) 98 (0, 0)) by rw [hw1]; exact hp_new (by simp))
  clear hw1 c0 c1
  have s16 := HO.out.s16
  have l3 := HO.out.l3
  go_loopw [4] (fun i wr => ∃ q : Nat, q ≤ g.s ∧ i = .int .i64 q ∧ Hid (Below w.heap.size w wr) ∧ Hid (wr.heap[w.heap.size]? = some (.cells cs 27 (0, 0))) ∧ Hid (wr.heap[w.heap.size + 1]? = some (.cells (bv (fun _ => false) 16) 98 (0, 0))) ∧ Hid (wr.heap[w.heap.size + 1 + 1]? = some (.cells (bv (fun j => decide (j < q)) 16) 98 (0, 0)))) (fun i _ => g.s - (intOf i).toNat)
  case atStart => exact ⟨0, Nat.zero_le _, rfl, Bel, NA, N0, hidd (by rw [show (fun j => decide (j < 0)) = fun _ => false from by funext j; simp]; exact N1.out)⟩
  case round =>
    obtain ⟨q, hq, rfl, Hb, MA, M0, M1⟩ := hrel
    have a1 := (Gm.At.of_is HG.out MA.out).s
    by_cases hlt : q < g.s
    · have d1 := (blkc M1.out q).trans (bv_get _ (by omega))
      have f1 := blkf M1.out q
      have hqs : (q : Int) < g.s := by omega
      have j1 : (q : Int) < 16 := by omega
      have Heq := hidd (bv_set (fun j => decide (j < q)) 16 q true)
      have Hfe := hidd (show upd (fun j => decide (j < q)) q true = fun j => decide (j < q + 1) by
        funext j
        unfold upd
        by_cases e : j = q
        · subst e; simp
        · rw [if_neg e, Bool.eq_iff_iff]; simp only [decide_eq_true_eq]; omega)
      go_wp2_with fail
      go_roundw
      case rel =>
        refine ⟨q + 1, by omega, by go_num, hidd (Hb.out.setCell (by dsimp only; omega) _), hidd (hp_far MA.out (by dsimp only; omega) _), hidd (hp_far M0.out (by dsimp only; omega) _), hidd ?_⟩
        have := hp_set M1.out q (.bool true)
        rw [Heq.out, Hfe.out] at this
        exact this
      case measure => simp [intOf]; omega
    · have he : q = g.s := by omega
      subst he
      go_wp2_with fail
      clear a1
      have HT0 := hidd (TI.start g)
      obtain ⟨F0, hF0⟩ : ∃ F0 : Nat → Bool, F0 = fun j => decide (j < g.s) := ⟨_, rfl⟩
      rw [← hF0] at HT0 M1
      clear hF0
      obtain ⟨wo, rfl⟩ : ∃ wo : World, wo = wr := ⟨_, rfl⟩
      go_loopw [5] (fun i wr => ∃ (r : Nat) (F : Nat → Bool), r ≤ g.s + 1 ∧ i = .int .i64 r ∧ Hid (TI g r F) ∧ Hid (Below w.heap.size w wr) ∧ Hid (wr.heap[w.heap.size]? = some (.cells cs 27 (0, 0))) ∧ Hid (wr.heap[w.heap.size + 1]? = some (.cells (bv (fun _ => false) 16) 98 (0, 0))) ∧ Hid (wr.heap[w.heap.size + 1 + 1]? = some (.cells (bv (F) 16) 98 (0, 0)))) (fun i _ => g.s + 1 - (intOf i).toNat)
      case atStart => exact ⟨0, F0, Nat.zero_le _, rfl, HT0, Hb, MA, M0, M1⟩
      case round =>
        clear Hb MA M0 M1
        obtain ⟨r, F, hr, rfl, HTI, Hb, MA, M0, M1⟩ := hrel
        have a1 := (Gm.At.of_is HG.out MA.out).s
        by_cases hrs : r ≤ g.s
        · go_wp2_with fail
          clear a1
          obtain ⟨wo2, rfl⟩ : ∃ wo : World, wo = wr := ⟨_, rfl⟩
          have HTQ := hidd HTI.out.row
          go_loopw [6] (fun i wr => ∃ (q : Nat) (F : Nat → Bool), q ≤ g.s ∧ i = .int .i64 q ∧ Hid (TQ g r q F) ∧ Hid (Below w.heap.size w wr) ∧ Hid (wr.heap[w.heap.size]? = some (.cells cs 27 (0, 0))) ∧ Hid (wr.heap[w.heap.size + 1]? = some (.cells (bv (fun _ => false) 16) 98 (0, 0))) ∧ Hid (wr.heap[w.heap.size + 1 + 1]? = some (.cells (bv (F) 16) 98 (0, 0)))) (fun i _ => g.s - (intOf i).toNat)
          case atStart => exact ⟨0, F, Nat.zero_le _, rfl, HTQ, Hb, MA, M0, M1⟩
          case round =>
            clear Hb MA M0 M1 HTI HTQ F
            obtain ⟨q, F, hq, rfl, HTQ, Hb, MA, M0, M1⟩ := hrel
            have a1 := (Gm.At.of_is HG.out MA.out).s
            by_cases hqs : q < g.s
            · go_wp2_with fail
              clear a1
              obtain ⟨wo3, rfl⟩ : ∃ wo : World, wo = wr := ⟨_, rfl⟩
              have HTX := hidd HTQ.out.row
              go_loopw [7] (fun i wr => ∃ (x : Nat) (F : Nat → Bool), x ≤ g.l ∧ i = .int .i64 x ∧ Hid (TX g r q x F) ∧ Hid (Below w.heap.size w wr) ∧ Hid (wr.heap[w.heap.size]? = some (.cells cs 27 (0, 0))) ∧ Hid (wr.heap[w.heap.size + 1]? = some (.cells (bv (fun _ => false) 16) 98 (0, 0))) ∧ Hid (wr.heap[w.heap.size + 1 + 1]? = some (.cells (bv (F) 16) 98 (0, 0)))) (fun i _ => g.l - (intOf i).toNat)
              case atStart => exact ⟨0, F, Nat.zero_le _, rfl, HTX, Hb, MA, M0, M1⟩
              case round =>
                clear Hb MA M0 M1 HTQ HTX F
                obtain ⟨x, F, hx, rfl, HTX, Hb, MA, M0, M1⟩ := hrel
                have A2 := hidd (Gm.At.of_is HG.out MA.out)
                have a1 := A2.out.l
                by_cases hxl : x < g.l
                · have a2 := A2.out.n q x (by omega) (by omega)
                  have a3 := A2.out.o q x (by omega) (by omega)
                  rw [Nat.zero_add] at a2 a3
                  have hn256 := A2.out.nb q x (by omega) (by omega)
                  have ho256 := A2.out.ob q x (by omega) (by omega)
                  have hns := HO.out.nlt q x hqs hxl
                  have d1 := (blkc M1.out q).trans (bv_get _ (by omega))
                  have d2 := (blkc M1.out (g.nx q x)).trans (bv_get _ (by omega))
                  have f1 := blkf M1.out q
                  have j1 : (q : Int) < 16 := by omega
                  have j2 : (x : Int) < 3 := by omega
                  have j3 : (g.nx q x : Int) < 16 := by omega
                  have j4 : (0 : Int) ≤ q := by omega
                  have j5 : (0 : Int) ≤ x := by omega
                  have j6 : (0 : Int) ≤ (g.nx q x : Int) := by omega
                  have Hst := hidd (fun b hb => HTX.out.step HO.out hqs hxl (b := b) hb)
                  have Hset := hidd (fun b => bv_set F 16 q b)
                  have fin : ∀ (wz : World) (b : Bool), b = (F q && (decide (g.ou q x = x) && F (g.nx q x))) → wz = wr.setCell ⟨w.heap.size + 1 + 1, q, none⟩ (.bool b) → ∃ (x' : Nat) (F : Nat → Bool), x' ≤ g.l ∧ (Value.int .i64 ((x : Int) + 1)) = .int .i64 x' ∧ Hid (TX g r q x' F) ∧ Hid (Below w.heap.size w wz) ∧ Hid (wz.heap[w.heap.size]? = some (.cells cs 27 (0, 0))) ∧ Hid (wz.heap[w.heap.size + 1]? = some (.cells (bv (fun _ => false) 16) 98 (0, 0))) ∧ Hid (wz.heap[w.heap.size + 1 + 1]? = some (.cells (bv (F) 16) 98 (0, 0))) := by
                    intro wz b hb hwz
                    refine ⟨x + 1, upd F q b, by omega, by go_num, hidd (Hst.out b hb), ?_, ?_, ?_, ?_⟩
                    · rw [hwz]; exact Hb.out.setCell (by dsimp only; omega) _
                    · rw [hwz]; exact hp_far MA.out (by dsimp only; omega) _
                    · rw [hwz]; exact hp_far M0.out (by dsimp only; omega) _
                    · rw [hwz, ← Hset.out]; exact hp_set M1.out q (.bool b)
                  have Hfin := hidd fin
                  clear fin
                  cases hF : F q with
                  | false =>
                    rw [hF] at d1
                    have HF := hidd hF
                    clear hF
                    go_wp2_with fail
                    go_roundw
                    case rel => exact Hfin.out _ false (by rw [HF.out, Bool.false_and]) rfl
                    case measure => simp [intOf]; omega
                  | true =>
                    rw [hF] at d1
                    have HF := hidd hF
                    clear hF
                    by_cases hou : g.ou q x = x
                    · have HU := hidd hou
                      have hou2 : (g.ou q x : Int) = x := by omega
                      cases hF2 : F (g.nx q x) with
                      | false =>
                        rw [hF2] at d2
                        have HF2 := hidd hF2
                        clear hF2 hou
                        go_wp2_with fail
                        go_roundw
                        case rel => exact Hfin.out _ false (by rw [HF.out, HF2.out, Bool.and_false, Bool.and_false]) rfl
                        case measure => simp [intOf]; omega
                      | true =>
                        rw [hF2] at d2
                        have HF2 := hidd hF2
                        clear hF2 hou
                        go_wp2_with fail
                        go_roundw
                        case rel => exact Hfin.out _ true (by rw [HF.out, HF2.out, HU.out]; simp) rfl
                        case measure => simp [intOf]; omega
                    · have HU := hidd hou
                      have hou2 : ¬ ((g.ou q x : Int) = x) := by omega
                      clear hou
                      go_wp2_with fail
                      go_roundw
                      case rel => exact Hfin.out _ false (by rw [decide_eq_false HU.out, Bool.false_and, Bool.and_false]) rfl
                      case measure => simp [intOf]; omega
                · have he : x = g.l := by omega
                  subst he
                  have HE := hidd (HTX.out.row_end hqs)
                  go_wp2_with fail
                  go_roundw
                  case rel => exact ⟨q + 1, F, by omega, by go_num, HE, Hb, MA, M0, M1⟩
                  case measure => simp [intOf]; omega
            · have he : q = g.s := by omega
              subst he
              have HE := hidd HTQ.out.all
              go_wp2_with fail
              go_roundw
              case rel => exact ⟨r + 1, F, by omega, by go_num, HE, Hb, MA, M0, M1⟩
              case measure => simp [intOf]; omega
        · have he : r = g.s + 1 := by omega
          subst he
          have HE := hidd HTI.out.all
          rw [HE.out] at M1
          go_wp2_with (first | (refine ldAB rfl (.tmp 3) rfl _ _ M1.out (by rfl) ?_) | (refine stAB rfl (.tmp 2) (.tmp 61) rfl _ _ (fun _ => rfl) M0.out (av_size _ _) (by rfl) (by rfl) ?_))
          refine bodyPost_ret (v := .agg (bv g.tr16 16)) (results_cell_row rfl _ _ (w.heap.size + 1) 98 _ (0, 0) _ rfl (setRow_heap _ _ _ _ _ _ M0.out) Try.underlying98 rfl (a16iB _)) rfl ⟨rfl, ?_⟩
          exact bel_row Hb.out (by omega) _
end Go.Proofs.Ytjnnbjlombopnaa
