/- Walks: inverseOf of the program: a range over slices.Backward, by the kit's law for ranges over functions. -/
import Derived.RangeFuncBox
import Derived.RangeFuncLeaves
import Derived.RangeFuncNested
import Derived.Shelf.Abstract
import Derived.WalkKit
import Derived.OwnWalkIn
import Derived.TacticsInMore
import Derived.LoopNIn
import Derived.LoopIn
import Derived.Maps.AppendAt
import Derived.Test.YtjnnbjlombopnaaMul
namespace Go.Proofs.Ytjnnbjlombopnaa
open Go.RowKit Go.Shelf

attribute [local go_sem] Oper.semAt_some

/-- What a round is handed: a place and a number of a small size. -/
abbrev BkEl := { p : Nat × Int // -1000 ≤ p.2 ∧ p.2 ≤ 1000 }
def bkEnc (x : BkEl) : Array Value := #[.int .i64 (x.1.1 : Int), .int .i64 x.1.2]
/-- What a round that goes on keeps: what lay below n, and the box that the iterator reads. -/
def BkKeeps (n B : Nat) (W W' : World) : Prop := Below n W W' ∧ ∀ x : Obj, W.heap[B]? = some x → x.isCells = true → W'.heap[B]? = some x
theorem bkK_t {n B : Nat} {a b c : World} (h : BkKeeps n B a b) (k : BkKeeps n B b c) : BkKeeps n B a c := ⟨h.1.trans k.1, fun x h1 h2 => k.2 x (h.2 x h1 h2) h2⟩
theorem bkK_b {n B : Nat} {w : World} (hn : n ≤ w.heap.size) (W : World) (l : Nat) (o o' : Obj) (hl : w.heap.size ≤ l) (h : W.heap[l]? = some o) (hc : o.isCells = false) (hw : o.isWalk = false) : BkKeeps n B W (W.putObj l o') :=
  ⟨belowK_b hn W l o o' hl h hc hw, fun x h1 h2 => by
    have hne : B ≠ l := by
      rintro rfl
      rw [h] at h1
      cases h1
      rw [hc] at h2
      cases h2
    exact (World.putObj_heap_other hne).trans h1⟩
/-- The last k of zs, the last one first. -/
def lastOnes (zs : List Int) (k : Nat) : List Int := (zs.drop (zs.length - k)).reverse
theorem lastOnes_zero (zs : List Int) : lastOnes zs 0 = [] := by simp [lastOnes]
theorem lastOnes_all (zs : List Int) : lastOnes zs zs.length = zs.reverse := by simp [lastOnes]
theorem lastOnes_succ (zs : List Int) {k : Nat} (h : k < zs.length) : lastOnes zs (k + 1) = lastOnes zs k ++ [zs[zs.length - 1 - k]'(by omega)] := by
  unfold lastOnes
  rw [show zs.length - (k + 1) = zs.length - 1 - k by omega, List.drop_eq_getElem_cons (by omega), show zs.length - 1 - k + 1 = zs.length - k by omega]
  simp

set_option maxRecDepth 100000 in
set_option maxHeartbeats 4000000 in
theorem back_stops (F : Fence) (n : Nat) (hf : F.fn 230) (hro : F.round = none) (hn : 1 ≤ n) (Bs n₀ : Nat) (A : Option Addr) (c : Nat) (zs : List Int) (hlen : zs.length ≤ 1099511627776) (hz : ∀ x ∈ zs, -1000 ≤ x ∧ x ≤ 1000) (w : World) (hn₀ : n₀ ≤ w.heap.size)
    (hb : Boxed w Bs 30 (.slice A zs.length c)) (hcell : zs ≠ [] → ∃ b off, A = some ⟨b, off, none⟩ ∧ b < n₀ ∧ ∀ (j : Nat) (x : Int), zs[j]? = some x → w.cell? ⟨b, off + j, none⟩ = some (.int .i64 x)) :
    SeqStopsK F n Try.prog 230 #[.pointer (some ⟨Bs, 0, none⟩)] bkEnc (BkKeeps n₀ Bs) (fun ys => ys.map (fun y => y.1.2) = zs.reverse) (fun _ => True) zs.length w := fun l J Jx W hW _ _ hY h0 => by
  have HB := hidd (show Boxed W Bs 30 (.slice A zs.length c) from (hW.block Bs hb.lt).trans hb)
  have HC := hidd (show zs ≠ [] → ∃ b off, A = some ⟨b, off, none⟩ ∧ b < n₀ ∧ ∀ (j : Nat) (x : Int), zs[j]? = some x → W.cell? ⟨b, off + j, none⟩ = some (.int .i64 x) from fun hne => by
    obtain ⟨b, off, h1, h2, h3⟩ := hcell hne
    exact ⟨b, off, h1, h2, fun j x hj => (hW.cell (p := ⟨b, off + j, none⟩) (by show b < _; omega)).trans (h3 j x hj)⟩)
  have HZ := hidd hz
  have HY := hidd hY
  have H0 := hidd h0
  clear hz hY h0 hb hcell hW
  refine callsIn_of_wp Try.func230 rfl hf ?_ hro
  simp only [Try.ntmps230, List.size_toArray, List.length_cons, List.length_nil, Nat.reduceAdd, Nat.reduceSub, Array.replicate_succ, Array.replicate_zero, List.push_toArray, List.append_toArray, List.nil_append, List.cons_append]
  have hbc := HB.out.cell
  gi_wp2
  clear hbc
  gi_loopw [3] (fun i wr => ∃ (k : Nat) (pre : List BkEl), k ≤ zs.length ∧ i = .int .i64 ((zs.length : Int) - 1 - k) ∧ Hid (pre.map (fun y => y.1.2) = lastOnes zs k) ∧ Hid (J pre wr) ∧ Hid (Below n₀ W wr) ∧ Hid (Boxed wr Bs 30 (.slice A zs.length c))) (fun i _ => (intOf i + 1).toNat)
  case atStart => exact ⟨0, [], Nat.zero_le _, by go_num, by rw [lastOnes_zero]; rfl, H0.out, Below.refl _ _, HB.out⟩
  case round =>
    obtain ⟨k, pre, hk, rfl, Hp, HJ, Hb, HX⟩ := hrel
    by_cases hlt : k < zs.length
    · have hne : zs ≠ [] := fun e => by rw [e] at hlt; simp at hlt
      obtain ⟨b, off, rfl, hbn, hcc⟩ := HC.out hne
      have hj : zs.length - 1 - k < zs.length := by omega
      have hbd := HZ.out _ (List.getElem_mem hj)
      obtain ⟨x, hx⟩ : ∃ x, x = zs[zs.length - 1 - k]'hj := ⟨_, rfl⟩
      rw [← hx] at hbd
      have hpl : pre.length < zs.length := by
        have := congrArg List.length Hp.out
        simp [lastOnes] at this
        omega
      obtain ⟨fn, tmps, assign, body, hy, hR⟩ := HY.out pre ⟨(zs.length - 1 - k, x), hbd⟩ wr HJ.out hpl
      have hc1 := HX.out.cell
      have hc2 : wr.cell? ⟨b, off + (zs.length - 1 - k), none⟩ = some (.int .i64 x) := (Hb.out.cell (p := ⟨b, off + (zs.length - 1 - k), none⟩) hbn).trans (hcc _ x (by rw [List.getElem?_eq_getElem hj, hx]))
      have ei : ((zs.length : Int) - 1 - k).toNat = zs.length - 1 - k := by omega
      have ej : ((zs.length - 1 - k : Nat) : Int) = (zs.length : Int) - 1 - k := by omega
      have Hx := hidd hx
      clear hx
      simp only [bkEnc, ej] at hy
      gi_wp2
      refine hR.mono ?_
      rintro e W3 (⟨rfl, hJ3, hk3⟩ | ⟨rfl, hJx3⟩)
      · have HX3 := hidd (show Boxed W3 Bs 30 (.slice (some ⟨b, off, none⟩) zs.length c) from hk3.2 _ HX.out rfl)
        have Hb3 := hidd (Hb.out.trans hk3.1)
        have HJ3 := hidd hJ3
        clear hR hJ3 hk3 hc1 hc2 hy
        gi_wp2
        go_roundw
        case rel => exact ⟨k + 1, pre ++ [⟨(zs.length - 1 - k, x), hbd⟩], by omega, by go_num, hidd (by rw [lastOnes_succ zs hlt, List.map_append, Hp.out, ← Hx.out]; rfl), HJ3, Hb3, HX3⟩
        case measure => simp [intOf]; omega
      · gi_wp2
        refine bodyPost_ret (results_none rfl _ _ _) rfl ?_
        exact ⟨⟨_, rfl⟩, .inr ⟨_, trivial, hJx3⟩⟩
    · have he : k = zs.length := by omega
      subst he
      gi_wp2
      go_end0
      exact ⟨⟨_, rfl⟩, .inl ⟨pre, by rw [Hp.out, lastOnes_all], HJ.out⟩⟩

set_option maxRecDepth 100000 in
set_option maxHeartbeats 1000000 in
theorem backward_in (F : Fence) (n : Nat) (hf : F.fn 191) (hro : F.round = none) (A : Option Addr) (len cap : Nat) (w : World) :
    CallsIn F n Try.prog 191 #[.slice A len cap] w fun e w' => e = .returned (.func (.func 230) #[] #[.pointer (some ⟨w.heap.size, 0, none⟩)]) ∧ w' = w.alloc (.cells #[.slice A len cap] 30) := by
  refine callsIn_of_wp Try.func191 rfl hf ?_ hro
  simp only [Try.ntmps191, List.size_toArray, List.length_cons, List.length_nil, Nat.reduceAdd, Nat.reduceSub, Array.replicate_succ, Array.replicate_zero, List.push_toArray, List.append_toArray, List.nil_append, List.cons_append]
  gi_wp2
  go_ret
  exact ⟨rfl, rfl⟩

/-- The inverse of a word. -/
def invW (xs : List Int) : List Int := xs.reverse.map fun x => -x
def bkOut (ys : List BkEl) : List Int := ys.map fun y => -y.1.2
theorem bkOut_snoc (ys : List BkEl) (y : BkEl) : bkOut (ys ++ [y]) = bkOut ys ++ [-y.1.2] := by simp [bkOut]

set_option maxRecDepth 100000 in
set_option maxHeartbeats 4000000 in
theorem inverseOf_in (F : Fence) (n : Nat) (h1 : F.fn 128) (h2 : F.fn 191) (h3 : F.fn 230) (hro : F.round = none) (hn : 3 ≤ n) (v : Value) (xs : List Int) (hlen : xs.length ≤ 549755813888) (hz : ∀ x ∈ xs, -1000 ≤ x ∧ x ≤ 1000) (w : World) (hr : RdI w v xs) :
    CallsIn F n Try.prog 128 #[v] w fun e w' => ∃ v', e = .returned v' ∧ Own w' w.heap.size 2 v' (ints (invW xs)) ∧ Below w.heap.size w w' := by
  have hn1 : 1 ≤ n := by omega
  obtain ⟨A, c, rfl, hR⟩ := hr
  obtain ⟨i0, hi, hz0, hz1, hz2⟩ := info_parts info_i64
  have HR := hidd (show xs ≠ [] → ∃ b off, A = some ⟨b, off, none⟩ ∧ b < w.heap.size ∧ ∀ (j : Nat) (x : Int), xs[j]? = some x → w.cell? ⟨b, off + j, none⟩ = some (.int .i64 x) from fun hne => by
    obtain ⟨b, o, hA, hc⟩ := hR.2 (by simpa [ints] using hne)
    have h0 : 0 < xs.length := List.length_pos_iff.2 hne
    have := hc 0 (.int .i64 xs[0]) (by rw [ints_get, List.getElem?_eq_getElem h0]; rfl)
    exact ⟨b, o, hA, World.block_lt_of_cell? w _ this, fun j x hj => hc j _ (by rw [ints_get, hj]; rfl)⟩)
  have HZ := hidd hz
  clear hR hz
  refine callsIn_of_wp_marks Try.func128 rfl h1 ?_ hro
  simp only [Try.ntmps128, List.size_toArray, List.length_cons, List.length_nil, Nat.reduceAdd, Nat.reduceSub, Array.replicate_succ, Array.replicate_zero, List.push_toArray, List.append_toArray, List.nil_append, List.cons_append]
  gi_wp2_with (first | (gi_at_make; refine wpListIn_make_own _ rfl _ _ _ rfl w.heap.size 2 i0 (.int .i64 0) 1 Try.underlying30 hi hz0 hz1 .i64 .i64 _ xs.length rfl rfl rfl (by rw [hz2]; omega) (by unfold maxLen; omega) (Nat.le_refl _) ?_; intro w1 ho hg) | (gi_at_call 191; refine (backward_in F (n - 1) h2 hro _ _ _ _).mono ?_; rintro e w2 ⟨rfl, rfl⟩))
  have hlt1 : w.heap.size < w1.heap.size := (World.ownsRow.lt ho w.heap.size rfl).2
  have hrow0 := ho
  obtain ⟨ob, hob⟩ : ∃ ob, ob = w1.heap.size := ⟨_, rfl⟩
  have bO := Boxed.new w1 30 (.slice (some ⟨w.heap.size, 0, none⟩) 0 xs.length)
  have bI := Boxed.new (w1.alloc (.cells #[.slice (some ⟨w.heap.size, 0, none⟩) 0 xs.length] 30)) 30 (.slice A xs.length c)
  rw [World.size_alloc] at bI
  have hB0 : Below w.heap.size w ((w1.alloc (.cells #[.slice (some ⟨w.heap.size, 0, none⟩) 0 xs.length] 30)).alloc (.cells #[.slice A xs.length c] 30)) :=
    ((bel_grown (Below.refl _ w) hg (Nat.le_refl _) (fun k e => by cases e)).alloc (by omega) _).alloc (by simp; omega) _
  have hcells := HR.out
  refine wpIn_rangeFunc_ownG hro hn1 (gf := 230) (lb := #[.pointer (some ⟨w1.heap.size + 1, 0, none⟩)]) rfl h3 (enters_of Try.func230 (by kernel_rfl) rfl)
    (back_stops F (n - 1) h3 hro (by omega) (w1.heap.size + 1) w.heap.size A c xs (by omega) HZ.out _ (by simp; omega) bI (fun hne => by
      obtain ⟨b, off, e1, e2, e3⟩ := hcells hne
      exact ⟨b, off, e1, e2, fun j x hj => (hB0.cell (p := ⟨b, off + j, none⟩) e2).trans (e3 j x hj)⟩))
    bkK_t (bkK_b (by simp; omega)) (Below.refl _ _) (fun _ => rfl)
    (fun pre W => ((∃ v, Boxed W w1.heap.size 30 v ∧ W.ownsRow w.heap.size 2 1 v (ints (bkOut pre)).length (ints (bkOut pre)) ∧ True) ∧ Boxed W (w1.heap.size + 1) 30 (.slice A xs.length c)) ∧ Below w.heap.size w W)
    (fun _ _ _ => False)
    (OwnFrom.and (OwnFrom.and (Own.from (holdsRow_own w.heap.size w1.heap.size 30 2 1 (fun pre => (ints (bkOut pre)).length) (fun pre => ints (bkOut pre)) (fun _ _ => True)) _) (Own.from (fun s A B row hs hg hr => hs.kept hg (fun e => by obtain ⟨o, ho, hc⟩ := hr _ e.symm; rw [show A.heap[_]? = _ from hs] at ho; cases ho; cases hc)) _)) (ownFrom_below (Nat.le_refl _) (by simp; omega)))
    (fun _ _ _ _ _ hs _ _ => hs)
    ⟨⟨⟨_, bO.alloc _, (ho.alloc _).alloc _, trivial⟩, bI⟩, hB0⟩
    (fun x => { tmps := #[.slice A xs.length c, undef, .slice none 0 0, .pointer (some ⟨w1.heap.size, 0, none⟩), undef, .int .i64 x.1.2, .slice A xs.length c, .int .i64 xs.length, .slice (some ⟨w.heap.size, 0, none⟩) 0 xs.length, .slice A xs.length c, .func (.func 230) #[] #[.pointer (some ⟨w1.heap.size + 1, 0, none⟩)], .int .i64 (x.1.1 : Int), .int .i64 x.1.2, undef, undef, undef, undef, undef, undef], defers := [] }) ?assign ?body ?done ?stop
  case assign =>
    intro l x W K hK
    simp only [bkEnc]
    gi_wp2
    exact hK
  case body =>
    rintro l pre ⟨⟨ix, x⟩, hx1, hx2⟩ W ⟨⟨⟨v, hv, hrow, _⟩, hbx⟩, hB⟩ hpl
    have hc := hv.cell
    dsimp only at hx1 hx2
    have hlo : (ints (bkOut pre)).length ≤ pre.length := by simp [ints, bkOut]
    gi_wp2_with (gi_at_builtin; refine wpListIn_append_own _ rfl _ _ 30 rfl w.heap.size 2 i0 (.int .i64 0) 1 8 Try.underlying30 hi hz0 hz1 hz2 rfl (by decide) _ _ _ rfl (hrow.alloc _) ⟨W.heap.size, 0, none⟩ 1 1 [.int .i64 (-x)] rfl rfl (cell_one_new _ _ _) (by simp [Value.oneCell']) (by unfold maxLen; omega) (by omega) (by have := hB.size; simp; omega) ?_; intro v' w2 hown' hgrow _; obtain ⟨g', cap', rfl⟩ := ownsRow_succ hown'; obtain ⟨hv1, hv2, hr2, hk2, hb2⟩ := hv.appended (by decide) hrow hB.size (by omega) hown' hgrow; have hc1 := hv1.cell; have hf1 := hv1.frozen)
    have hbx2 := ((hbx.alloc (.cells #[.int .i64 (-x)] 2)).kept hgrow (hbx.not_row (by decide) hrow)).other (show w1.heap.size + 1 ≠ w1.heap.size by omega) (.slice (some ⟨g', 0, none⟩) ((ints (bkOut pre)).length + 1) cap')
    have el : (ints (bkOut (pre ++ [⟨(ix, x), hx1, hx2⟩]))) = ints (bkOut pre) ++ [.int .i64 (-x)] := by rw [bkOut_snoc, ints_append]; rfl
    refine ⟨hk2.from _, ⟨hb2, fun y h1 _ => ?_⟩, ⟨⟨_, hv2, ?_⟩, hbx2⟩, hB.trans hb2⟩
    · rw [show W.heap[_]? = _ from hbx] at h1
      cases h1
      exact hbx2
    · rw [el, List.length_append]
      exact hr2
  case done =>
    rintro D ys W hD hys ⟨⟨⟨v, hv, hrow, _⟩, _⟩, hB⟩ hK
    have hc := hv.cell
    gi_wp2
    refine ⟨by simp, .inl ⟨_, _, rfl, run_takeDeferred hK, ?_⟩⟩
    refine ⟨_, results_tmp rfl _ _ _, v, rfl, ?_, hB.trans (belowK_b (w := w) (Nat.le_refl _) W D _ _ (by simp at hD; omega) hK rfl rfl)⟩
    have e : invW xs = bkOut ys := by
      unfold invW bkOut
      rw [← hys, List.map_map]
      rfl
    rw [e]
    exact ownsRow_putObj hrow _ hK rfl
  case stop =>
    rintro D c pre W _ _ h _
    exact h.elim

theorem inverseOf_any (v : Value) (xs : List Int) (hlen : xs.length ≤ 549755813888) (hz : ∀ x ∈ xs, -1000 ≤ x ∧ x ≤ 1000) (w : World) (hr : RdI w v xs) :
    Calls Try.prog 128 #[v] w fun e w' => ∃ v', e = .returned v' ∧ Own w' w.heap.size 2 v' (ints (invW xs)) ∧ Below w.heap.size w w' :=
  (callsIn_wide (n := 3)).1 (inverseOf_in Fence.wide 3 trivial trivial trivial rfl (Nat.le_refl _) v xs hlen hz w hr)
end Go.Proofs.Ytjnnbjlombopnaa
