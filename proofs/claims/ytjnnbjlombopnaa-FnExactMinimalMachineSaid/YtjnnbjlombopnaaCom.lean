/- Walks: CommutatorOf, of the program and of the reference. -/
import Derived.Test.YtjnnbjlombopnaaIvw
namespace Go.Proofs.Ytjnnbjlombopnaa
open Go.RowKit

/-- Four lists, one behind the other. -/
theorem RdVV.four {w : World} {v1 v2 v3 v4 : Value} {a b c d : List Int} (h1 : RdI w v1 a) (h2 : RdI w v2 b) (h3 : RdI w v3 c) (h4 : RdI w v4 d) (n1 : NilOk v1) (n2 : NilOk v2) (n3 : NilOk v3) (n4 : NilOk v4) (t : TypeId) (n : Nat) (hn : n = w.heap.size) :
    RdVV (w.alloc (.cells #[v1, v2, v3, v4] t)) (.slice (some ⟨n, 0, none⟩) 4 4) [ints a, ints b, ints c, ints d] :=
  RdVV.lit (rows := [v1, v2, v3, v4]) rfl (by simp) (fun j r us e1 e2 => by
    match j, e1, e2 with
    | 0, e1, e2 =>
      simp at e1 e2
      subst e1 e2
      exact h1.row n1
    | 1, e1, e2 =>
      simp at e1 e2
      subst e1 e2
      exact h2.row n2
    | 2, e1, e2 =>
      simp at e1 e2
      subst e1 e2
      exact h3.row n3
    | 3, e1, e2 =>
      simp at e1 e2
      subst e1 e2
      exact h4.row n4) t n 4 4 hn rfl
theorem four_one (a b c d : List Int) : ∀ us ∈ [ints a, ints b, ints c, ints d], ∀ u ∈ us, u.oneCell' = true := by
  intro us hus
  simp at hus
  rcases hus with rfl | rfl | rfl | rfl <;> exact ints_one _
def com (xs ys : List Int) : List Int := invW xs ++ (invW ys ++ (xs ++ ys))
theorem four_flat (xs ys : List Int) : [ints (invW xs), ints (invW ys), ints xs, ints ys].flatten = ints (com xs ys) := by simp [ints, com]
theorem four_lens (xs ys : List Int) : lens [ints (invW xs), ints (invW ys), ints xs, ints ys] [ints (invW xs), ints (invW ys), ints xs, ints ys].length = 2 * xs.length + 2 * ys.length := by
  simp [lens, ints_length, invW_len]
  omega
def comR (m : Mc) (xs ys : List Int) : List Int × Int := if codeW m [xs, ys] = 0 then limR (com xs ys) else ([], 1)
theorem comR_len (m : Mc) (xs ys : List Int) : (comR m xs ys).1.length ≤ 1048576 := by
  unfold comR
  split
  · exact limR_len _
  · exact Nat.zero_le _

set_option maxHeartbeats 1000000 in
theorem specCommutatorOf_any (m : Mc) (cs : Array Value) (hm : m.Is cs) (v u : Value) (xs ys : List Int) (w : World) (hr : RdI w v xs) (hr' : RdI w u ys) (hv : NilOk v) (hu : NilOk u) (hx : xs.length ≤ 1048576) (hy : ys.length ≤ 1048576) :
    Calls Try.prog 67 #[.agg cs, v, u] w fun e w' => (∃ v, e = .returned (.tuple #[v, .int .i64 (comR m xs ys).2]) ∧ Own w' w.heap.size 2 v (ints (comR m xs ys).1)) ∧ Below w.heap.size w w' := by
  have Hm := hidd hm
  have Hr := hidd hr
  have Hr' := hidd hr'
  have Hv := hidd hv
  have Hu := hidd hu
  obtain ⟨A0, c0, rfl, hq0⟩ := hr
  obtain ⟨A1, c1, rfl, hq1⟩ := hr'
  clear hm hq0 hq1 hv hu
  by_cases hc : codeW m [xs, ys] = 0
  · have HR : Hid (comR m xs ys = _) := hidd (if_pos hc)
    have Hc := hidd hc
    obtain ⟨g, rfl, hok, hw⟩ := codeW_zero hc
    have HN1 := hidd (gwB_small hok (hw xs (by simp)))
    have HN2 := hidd (gwB_small hok (hw ys (by simp)))
    clear hc hok hw
    go_enter Try.func67, Try.ntmps67
    go_wp2_with (refine ldI rfl (.tmp 3) rfl w.heap.size rfl Hm.out (hp_new rfl) ?_)
    refine (l02Code_any _ _ Hm.out _ [xs, ys] _ ?_).mono ?_
    · exact RdLL.lit2 (Hr.out.alloc _) (Hr'.out.alloc _) _ _ (by simp)
    rintro e w1 ⟨rfl, hb⟩
    rw [Hc.out]
    have B1 := hidd (bel_then ((bel_alloc w (.cells cs 27)).alloc (by simp) _) hb)
    clear hb
    go_wp2_with fail
    refine (l02Inverse_any _ xs (by omega) HN1.out _ (Hr.out.below B1.out)).mono ?_
    rintro e w3 ⟨u1, rfl, ho, hb⟩
    have Ho1 := hidd ho
    have B3 := hidd (bel_then B1.out hb)
    have S3 := hidd hb.size
    clear ho hb
    go_wp2_with fail
    refine (l02Inverse_any _ ys (by omega) HN2.out _ (Hr'.out.below B3.out)).mono ?_
    rintro e w4 ⟨u2, rfl, ho, hb⟩
    have Ho2 := hidd ho
    have Ho1 := hidd (Ho1.out.below hb)
    have B4 := hidd (bel_then B3.out hb)
    have S4 := hidd hb.size
    clear ho hb
    obtain ⟨A2, c2, rfl⟩ := Ho1.out.slice
    obtain ⟨A3, c3, rfl⟩ := Ho2.out.slice
    go_wp2_with fail
    refine (l02Join_any _ [ints (invW xs), ints (invW ys), ints xs, ints ys] _ ?_ (four_one _ _ _ _) (by rw [four_lens]; omega)).mono ?_
    · exact RdVV.four Ho1.out.rdI Ho2.out.rdI (Hr.out.below B4.out) (Hr'.out.below B4.out) Ho1.out.nilOk Ho2.out.nilOk Hv.out Hu.out _ _ rfl
    rintro e w5 ⟨⟨u3, rfl, ho⟩, hb⟩
    rw [four_flat] at ho
    have B5 := hidd (bel_then B4.out ((bel_alloc' w4 _).trans (hb.mono (by simp))))
    have Ho := hidd ho
    clear hb ho
    go_wp2_with fail
    refine (lim_s_any _ _ (com xs ys) _ Ho.out).mono ?_
    rintro e w6 ⟨⟨u4, rfl, ho⟩, rfl⟩
    have Ho3 := hidd ho
    clear ho
    go_wp2
    go_ret2
    exact ⟨⟨_, by rw [HR.out]; rfl, by rw [HR.out]; exact Ho3.out.mono (by have := B4.out.size; simp; omega)⟩, B5.out⟩
  · have HR : Hid (comR m xs ys = _) := hidd (if_neg hc)
    have Hc := hidd (codeW_one hc)
    clear hc
    go_enter Try.func67, Try.ntmps67
    go_wp2_with (refine ldI rfl (.tmp 3) rfl w.heap.size rfl Hm.out (hp_new rfl) ?_)
    refine (l02Code_any _ _ Hm.out _ [xs, ys] _ ?_).mono ?_
    · exact RdLL.lit2 (Hr.out.alloc _) (Hr'.out.alloc _) _ _ (by simp)
    rintro e w1 ⟨rfl, hb⟩
    rw [Hc.out]
    go_wp2
    go_ret2
    exact ⟨⟨_, by rw [HR.out]; rfl, by rw [HR.out]; exact Own.nil _ _ _⟩, bel_then ((bel_alloc w (.cells cs 27)).alloc (by simp) _) hb⟩

set_option maxHeartbeats 1000000 in
theorem implCommutatorOf_any (m : Mc) (cs : Array Value) (hm : m.Is cs) (v u : Value) (xs ys : List Int) (w : World) (hr : RdI w v xs) (hr' : RdI w u ys) (hv : NilOk v) (hu : NilOk u) (hx : xs.length ≤ 1048576) (hy : ys.length ≤ 1048576) :
    Calls Try.prog 68 #[.agg cs, v, u] w fun e w' => (∃ v, e = .returned (.tuple #[v, .int .i64 (comR m xs ys).2]) ∧ Own w' w.heap.size 2 v (ints (comR m xs ys).1)) ∧ Below w.heap.size w w' := by
  have Hm := hidd hm
  have Hr := hidd hr
  have Hr' := hidd hr'
  have Hv := hidd hv
  have Hu := hidd hu
  obtain ⟨A0, c0, rfl, hq0⟩ := hr
  obtain ⟨A1, c1, rfl, hq1⟩ := hr'
  clear hm hq0 hq1 hv hu
  have h2 := gw_code2 m xs ys
  cases h1 : m.gwB xs with
  | false =>
    have HR : Hid (comR m xs ys = _) := hidd (if_neg (by rw [h1] at h2; exact of_decide_eq_false h2.symm))
    have H1 := hidd h1
    clear h1 h2
    go_enter Try.func68, Try.ntmps68
    go_wp2_with (refine ldI rfl (.tmp 3) rfl w.heap.size rfl Hm.out (hp_new rfl) ?_)
    refine (implIsGroupWord_any _ _ Hm.out _ xs _ (Hr.out.alloc _)).mono ?_
    rintro e w1 ⟨rfl, hb⟩
    rw [H1.out]
    go_wp2
    go_ret2
    exact ⟨⟨_, by rw [HR.out]; rfl, by rw [HR.out]; exact Own.nil _ _ _⟩, bel_then (bel_alloc _ _) hb⟩
  | true =>
    rw [h1, Bool.true_and] at h2
    have H1 := hidd h1
    clear h1
    cases hb2 : m.gwB ys with
    | false =>
      have HR : Hid (comR m xs ys = _) := hidd (if_neg (by rw [hb2] at h2; exact of_decide_eq_false h2.symm))
      have H2 := hidd hb2
      clear hb2 h2
      go_enter Try.func68, Try.ntmps68
      go_wp2_with (refine ldI rfl (.tmp 3) rfl w.heap.size rfl Hm.out (hp_new rfl) ?_)
      refine (implIsGroupWord_any _ _ Hm.out _ xs _ (Hr.out.alloc _)).mono ?_
      rintro e w1 ⟨rfl, hb⟩
      rw [H1.out]
      have B1 := hidd (bel_then (bel_alloc _ _) hb)
      have K1 := hidd (hp_bel (hp_new rfl) hb : w1.heap[w.heap.size]? = some (.cells cs 27 (0, 0)))
      clear hb
      go_wp2_with (refine ldI rfl (.tmp 3) rfl w.heap.size rfl Hm.out K1.out ?_)
      refine (implIsGroupWord_any _ _ Hm.out _ ys _ (Hr'.out.below B1.out)).mono ?_
      rintro e w2 ⟨rfl, hb⟩
      rw [H2.out]
      go_wp2
      go_ret2
      exact ⟨⟨_, by rw [HR.out]; rfl, by rw [HR.out]; exact Own.nil _ _ _⟩, bel_then B1.out hb⟩
    | true =>
      have HR : Hid (comR m xs ys = _) := hidd (if_pos (by rw [hb2] at h2; exact of_decide_eq_true h2.symm))
      have H2 := hidd hb2
      have hcz : codeW m [xs, ys] = 0 := by rw [hb2] at h2; exact of_decide_eq_true h2.symm
      obtain ⟨g, rfl, hok, hw⟩ := codeW_zero hcz
      have HN1 := hidd (gwB_small hok (hw xs (by simp)))
      have HN2 := hidd (gwB_small hok (hw ys (by simp)))
      clear hb2 h2 hcz hok hw
      go_enter Try.func68, Try.ntmps68
      go_wp2_with (refine ldI rfl (.tmp 3) rfl w.heap.size rfl Hm.out (hp_new rfl) ?_)
      refine (implIsGroupWord_any _ _ Hm.out _ xs _ (Hr.out.alloc _)).mono ?_
      rintro e w1 ⟨rfl, hb⟩
      rw [H1.out]
      have B1 := hidd (bel_then (bel_alloc _ _) hb)
      have K1 := hidd (hp_bel (hp_new rfl) hb : w1.heap[w.heap.size]? = some (.cells cs 27 (0, 0)))
      clear hb
      go_wp2_with (refine ldI rfl (.tmp 3) rfl w.heap.size rfl Hm.out K1.out ?_)
      refine (implIsGroupWord_any _ _ Hm.out _ ys _ (Hr'.out.below B1.out)).mono ?_
      rintro e w2 ⟨rfl, hb⟩
      rw [H2.out]
      have B2 := hidd (bel_then B1.out hb)
      clear hb
      go_wp2_with fail
      refine (inverseOf_any _ xs (by omega) HN1.out _ (Hr.out.below B2.out)).mono ?_
      rintro e w3 ⟨u1, rfl, ho, hb⟩
      have Ho1 := hidd ho
      have B3 := hidd (bel_then B2.out hb)
      have S3 := hidd hb.size
      clear ho hb
      go_wp2_with fail
      refine (inverseOf_any _ ys (by omega) HN2.out _ (Hr'.out.below B3.out)).mono ?_
      rintro e w4 ⟨u2, rfl, ho, hb⟩
      have Ho2 := hidd ho
      have Ho1 := hidd (Ho1.out.below hb)
      have B4 := hidd (bel_then B3.out hb)
      have S4 := hidd hb.size
      clear ho hb
      obtain ⟨A2, c2, rfl⟩ := Ho1.out.slice
      obtain ⟨A3, c3, rfl⟩ := Ho2.out.slice
      go_wp2_with fail
      refine (concat64 _ [ints (invW xs), ints (invW ys), ints xs, ints ys] _ ?_ (four_one _ _ _ _) (by rw [four_lens]; omega)).mono ?_
      · exact RdVV.four Ho1.out.rdI Ho2.out.rdI (Hr.out.below B4.out) (Hr'.out.below B4.out) Ho1.out.nilOk Ho2.out.nilOk Hv.out Hu.out _ _ rfl
      rintro e w5 ⟨⟨u3, rfl, ho⟩, hb⟩
      rw [four_flat] at ho
      have B5 := hidd (bel_then B4.out ((bel_alloc' w4 _).trans (hb.mono (by simp))))
      have Ho := hidd ho
      clear hb ho
      go_wp2_with fail
      refine (lim_i_any _ _ (com xs ys) _ Ho.out).mono ?_
      rintro e w6 ⟨⟨u4, rfl, ho⟩, rfl⟩
      have Ho3 := hidd ho
      clear ho
      go_wp2
      go_ret2
      exact ⟨⟨_, by rw [HR.out]; rfl, by rw [HR.out]; exact Ho3.out.mono (by have := B4.out.size; simp; omega)⟩, B5.out⟩
end Go.Proofs.Ytjnnbjlombopnaa
