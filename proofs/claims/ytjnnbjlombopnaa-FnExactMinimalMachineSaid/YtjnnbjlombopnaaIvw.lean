/- Walks: InverseWord and CommutatorOf, of the program and of the reference. -/
import Derived.Test.YtjnnbjlombopnaaBack
namespace Go.Proofs.Ytjnnbjlombopnaa
open Go.RowKit

theorem invW_take (xs : List Int) {k : Nat} (h : k < xs.length) : ints ((lastOnes xs (k + 1)).map fun x => -x) = ints ((lastOnes xs k).map fun x => -x) ++ [.int .i64 (-(xs[xs.length - 1 - k]'(by omega)))] := by
  rw [lastOnes_succ xs h]
  simp [ints]
theorem lastOnes_len (xs : List Int) {k : Nat} (h : k ≤ xs.length) : (lastOnes xs k).length = k := by simp [lastOnes]; omega
theorem invW_len (xs : List Int) : (invW xs).length = xs.length := by simp [invW]
theorem gwB_small {g : Gm} (hok : g.Ok) {xs : List Int} (h : gwB g.s xs = true) : ∀ x ∈ xs, -1000 ≤ x ∧ x ≤ 1000 := fun x hx => by
  have h1 := (gwB_mem h).2 x hx
  have := hok.s16
  omega

set_option maxHeartbeats 1000000 in
theorem l02Inverse_any (v : Value) (xs : List Int) (hlen : xs.length ≤ 549755813888) (hz : ∀ x ∈ xs, -1000 ≤ x ∧ x ≤ 1000) (w : World) (hr : RdI w v xs) :
    Calls Try.prog 127 #[v] w fun e w' => ∃ v', e = .returned v' ∧ Own w' w.heap.size 2 v' (ints (invW xs)) ∧ Below w.heap.size w w' := by
  obtain ⟨A, c, rfl, hR⟩ := hr
  have HR := hidd hR
  have HZ := hidd hz
  clear hR hz
  go_enter Try.func127, Try.ntmps127
  go_wp2
  obtain ⟨w1, hw1⟩ : ∃ w1, w1 = w.alloc (.cells #[] 2) := ⟨_, rfl⟩
  rw [← hw1]
  have Bel := hidd (show Below w.heap.size w w1 by rw [hw1]; exact bel_alloc _ _)
  have Ho := hidd (show Own w1 w.heap.size 2 (.slice (some ⟨w.heap.size, 0, none⟩) 0 0) [] by rw [hw1]; exact Own.empty w 2 w.heap.size (Nat.le_refl _))
  clear hw1
  go_loopw [3, 4] (fun u i wr => ∃ k : Nat, k ≤ xs.length ∧ i = .int .i64 ((xs.length : Int) - 1 - k) ∧ Hid (Own wr w.heap.size 2 u (ints ((lastOnes xs k).map fun x => -x))) ∧ Hid (Below w.heap.size w wr)) (fun _ i _ => (intOf i + 1).toNat)
  case atStart => exact ⟨0, Nat.zero_le _, by go_num, hidd (by rw [lastOnes_zero]; exact Ho.out), Bel⟩
  case round =>
    obtain ⟨k, hk, rfl, Hok, Hb⟩ := hrel
    have hbase := Hb.out.size
    by_cases hlt : k < xs.length
    · have hj : xs.length - 1 - k < xs.length := by omega
      obtain ⟨b, o, rfl, hc⟩ := (HR.out.below Hb.out).get hj
      have hbd := HZ.out _ (List.getElem_mem hj)
      have Hf := hidd (invW_take xs hlt)
      obtain ⟨x, hx⟩ : ∃ x, x = xs[xs.length - 1 - k]'hj := ⟨_, rfl⟩
      rw [← hx] at hc hbd Hf
      clear hx
      have ei : ((xs.length : Int) - 1 - k).toNat = xs.length - 1 - k := by omega
      have hlen2 : (ints ((lastOnes xs k).map fun x => -x)).length + 1 ≤ 1099511627776 := by rw [ints_length, List.length_map, lastOnes_len xs hk]; omega
      go_wp2_with (at_builtin; refine app_own rfl _ _ _ rfl w.heap.size 2 (.int .i64 0) 8 Try.underlying30 info_i64 rfl Hok.out rfl rfl rfl hlen2 (by decide) hbase ?_; intro v' w2 ho hgr hle; have Ho2 := hidd ho; have b2 := hidd (bel_own Hok.out hgr hbase); clear ho hgr)
      go_roundw
      case rel => exact ⟨k + 1, by omega, by go_num, hidd (by rw [Hf.out]; exact Ho2.out), hidd (Hb.out.trans b2.out)⟩
      case measure => simp [intOf]; omega
    · have he : k = xs.length := by omega
      subst he
      have Ho2 := hidd (show Own wr w.heap.size 2 u3 (ints (invW xs)) by have := Hok.out; rw [lastOnes_all] at this; exact this)
      go_wp2
      go_ret
      exact ⟨_, rfl, Ho2.out, Hb.out⟩

/-! ### InverseWord -/
def ivwR (m : Mc) (xs : List Int) : List Int × Int := if codeW m [xs] = 0 then (invW xs, 0) else ([], 1)
theorem ivwR_len (m : Mc) (xs : List Int) (h : xs.length ≤ 1048576) : (ivwR m xs).1.length ≤ 1048576 := by
  unfold ivwR
  split
  · rw [invW_len]; exact h
  · exact Nat.zero_le _
set_option maxHeartbeats 400000 in
theorem specInverseWord_any (m : Mc) (cs : Array Value) (hm : m.Is cs) (v : Value) (xs : List Int) (w : World) (hr : RdI w v xs) :
    Calls Try.prog 54 #[.agg cs, v] w fun e w' => (∃ u, e = .returned (.tuple #[u, .int .i64 (ivwR m xs).2]) ∧ Own w' w.heap.size 2 u (ints (ivwR m xs).1)) ∧ Below w.heap.size w w' := by
  have Hm := hidd hm
  have Hr := hidd hr
  obtain ⟨A0, c0, rfl, hq0⟩ := hr
  clear hm hq0
  by_cases hc : codeW m [xs] = 0
  · have HR : Hid (ivwR m xs = _) := hidd (if_pos hc)
    obtain ⟨g, rfl, hok, hw⟩ := codeW_zero hc
    have Hc := hidd hc
    have HN := hidd (gwB_small hok (hw xs (List.mem_singleton.2 rfl)))
    have h40 := (gwB_mem (hw xs (List.mem_singleton.2 rfl))).1
    clear hc hok hw
    go_enter Try.func54, Try.ntmps54
    go_wp2_with (refine ldI rfl (.tmp 2) rfl w.heap.size rfl Hm.out (hp_new rfl) ?_)
    refine (l02Code_any _ _ Hm.out _ [xs] _ ?_).mono ?_
    · exact RdLL.lit1 (Hr.out.alloc _) _ _ (by simp)
    rintro e w1 ⟨rfl, hb⟩
    rw [Hc.out]
    have B1 := hidd (bel_then ((bel_alloc w (.cells cs 27)).alloc (by simp) _) hb)
    clear hb
    go_wp2_with fail
    refine (l02Inverse_any _ xs (by omega) HN.out _ (Hr.out.below B1.out)).mono ?_
    rintro e w2 ⟨u, rfl, ho, hb⟩
    have Ho := hidd ho
    clear ho
    go_wp2
    go_ret2
    exact ⟨⟨_, by rw [HR.out]; rfl, by rw [HR.out]; exact Ho.out.mono B1.out.size⟩, bel_then B1.out hb⟩
  · have HR : Hid (ivwR m xs = _) := hidd (if_neg hc)
    have Hc := hidd (codeW_one hc)
    clear hc
    go_enter Try.func54, Try.ntmps54
    go_wp2_with (refine ldI rfl (.tmp 2) rfl w.heap.size rfl Hm.out (hp_new rfl) ?_)
    refine (l02Code_any _ _ Hm.out _ [xs] _ ?_).mono ?_
    · exact RdLL.lit1 (Hr.out.alloc _) _ _ (by simp)
    rintro e w1 ⟨rfl, hb⟩
    rw [Hc.out]
    go_wp2
    go_ret2
    exact ⟨⟨_, by rw [HR.out]; rfl, by rw [HR.out]; exact Own.nil _ _ _⟩, bel_then ((bel_alloc w (.cells cs 27)).alloc (by simp) _) hb⟩
set_option maxHeartbeats 400000 in
theorem implInverseWord_any (m : Mc) (cs : Array Value) (hm : m.Is cs) (v : Value) (xs : List Int) (w : World) (hr : RdI w v xs) :
    Calls Try.prog 55 #[.agg cs, v] w fun e w' => (∃ u, e = .returned (.tuple #[u, .int .i64 (ivwR m xs).2]) ∧ Own w' w.heap.size 2 u (ints (ivwR m xs).1)) ∧ Below w.heap.size w w' := by
  have Hm := hidd hm
  have Hr := hidd hr
  clear hm hr
  by_cases hc : codeW m [xs] = 0
  · have HR : Hid (ivwR m xs = _) := hidd (if_pos hc)
    have Hc := hidd (show m.gwB xs = true by rw [gw_code]; exact decide_eq_true hc)
    obtain ⟨g, rfl, hok, hw⟩ := codeW_zero hc
    have HN := hidd (gwB_small hok (hw xs (List.mem_singleton.2 rfl)))
    have h40 := (gwB_mem (hw xs (List.mem_singleton.2 rfl))).1
    clear hc hok hw
    go_enter Try.func55, Try.ntmps55
    go_wp2_with (refine ldI rfl (.tmp 2) rfl w.heap.size rfl Hm.out (hp_new rfl) ?_)
    refine (implIsGroupWord_any _ _ Hm.out _ xs _ (Hr.out.alloc _)).mono ?_
    rintro e w1 ⟨rfl, hb⟩
    rw [Hc.out]
    have B1 := hidd (bel_then (bel_alloc _ _) hb)
    clear hb
    go_wp2_with fail
    refine (inverseOf_any v xs (by omega) HN.out _ (Hr.out.below B1.out)).mono ?_
    rintro e w2 ⟨u, rfl, ho, hb⟩
    have Ho := hidd ho
    clear ho
    go_wp2
    go_ret2
    exact ⟨⟨_, by rw [HR.out]; rfl, by rw [HR.out]; exact Ho.out.mono B1.out.size⟩, bel_then B1.out hb⟩
  · have HR : Hid (ivwR m xs = _) := hidd (if_neg hc)
    have Hc := hidd (show m.gwB xs = false by rw [gw_code]; exact decide_eq_false hc)
    clear hc
    go_enter Try.func55, Try.ntmps55
    go_wp2_with (refine ldI rfl (.tmp 2) rfl w.heap.size rfl Hm.out (hp_new rfl) ?_)
    refine (implIsGroupWord_any _ _ Hm.out _ xs _ (Hr.out.alloc _)).mono ?_
    rintro e w1 ⟨rfl, hb⟩
    rw [Hc.out]
    go_wp2
    go_ret2
    exact ⟨⟨_, by rw [HR.out]; rfl, by rw [HR.out]; exact Own.nil _ _ _⟩, bel_then (bel_alloc _ _) hb⟩
end Go.Proofs.Ytjnnbjlombopnaa
