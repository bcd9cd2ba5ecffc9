/- Walks: MultiplyWords, of the program and of the reference. -/
import Derived.Test.YtjnnbjlombopnaaCat
import Derived.Test.YtjnnbjlombopnaaGtx
namespace Go.Proofs.Ytjnnbjlombopnaa
open Go.RowKit

/-- A nil slice has no capacity. -/
def NilOk (v : Value) : Prop := ∀ n c, v = .slice none n c → c = 0
theorem Own.nilOk {w : World} {base : Nat} {e : TypeId} {v : Value} {vs : List Value} (h : Own w base e v vs) : NilOk v := by
  intro n c hv
  rcases h.2 with ⟨h1, _⟩ | ⟨g, cap, cur, h1, _⟩
  · rw [h1] at hv; cases hv; rfl
  · rw [h1] at hv; cases hv
theorem RdI.row {w : World} {v : Value} {xs : List Int} (h : RdI w v xs) (hn : NilOk v) : ∃ (B : Option Addr) (d : Nat), v = .slice B (ints xs).length d ∧ (B = none → d = 0) ∧ Rd w B (ints xs) := by
  obtain ⟨A, c, e, hr⟩ := h
  exact ⟨A, c, by rw [ints_length]; exact e, fun hA => hn _ _ (by rw [e, hA]), hr⟩
theorem RdVV.lit {w : World} {rows : List Value} {uss : List (List Value)} (hl : rows.length = uss.length) (hl2 : rows.length ≤ 9223372036854775807)
    (h : ∀ (j : Nat) (r : Value) (us : List Value), rows[j]? = some r → uss[j]? = some us → ∃ (B : Option Addr) (d : Nat), r = .slice B us.length d ∧ (B = none → d = 0) ∧ Rd w B us) (t : TypeId) (n k c : Nat) (hn : n = w.heap.size) (hk : k = uss.length) :
    RdVV (w.alloc (.cells rows.toArray t)) (.slice (some ⟨n, 0, none⟩) k c) uss := by
  subst hk
  refine ⟨some ⟨n, 0, none⟩, c, rows, rfl, ⟨hl2, fun _ => ⟨n, 0, rfl, fun j v hj => ?_⟩⟩, hl, fun j r us h1 h2 => ?_⟩
  · rw [blkc (hp_new hn), Nat.zero_add]
    simpa using hj
  · obtain ⟨B, d, e1, e2, e3⟩ := h j r us h1 h2
    exact ⟨B, d, e1, e2, e3.below (bel_alloc _ _)⟩
theorem ints_one (xs : List Int) : ∀ u ∈ ints xs, u.oneCell' = true := by
  intro u hu
  unfold ints at hu
  rw [List.mem_map] at hu
  obtain ⟨x, _, rfl⟩ := hu
  rfl
theorem ints_flat (xss : List (List Int)) : (xss.map ints).flatten = ints xss.flatten := by
  induction xss with
  | nil => rfl
  | cons x xs ih => simp only [List.map_cons, List.flatten_cons, ih, ints_append]

/-! ### A list that is not too long -/
def limR (xs : List Int) : List Int × Int := if xs.length ≤ 40 then (xs, 0) else ([], 3)
theorem lim_i_any (base : Nat) (v : Value) (xs : List Int) (w : World) (ho : Own w base 2 v (ints xs)) :
    Calls Try.prog 136 #[v] w fun e w' => (∃ u, e = .returned (.tuple #[u, .int .i64 (limR xs).2]) ∧ Own w' base 2 u (ints (limR xs).1)) ∧ w = w' := by
  have hl := ho.le
  rw [ints_length] at hl
  obtain ⟨A, c, rfl⟩ := ho.slice
  rw [ints_length] at *
  have Ho := hidd ho
  clear ho
  by_cases h : xs.length ≤ 40
  · have HR := hidd (show limR xs = (xs, 0) from if_pos h)
    go_enter Try.func136, Try.ntmps136
    go_wp2
    go_ret2
    exact ⟨⟨_, by rw [HR.out]; rfl, by rw [HR.out]; exact Ho.out⟩, rfl⟩
  · have HR := hidd (show limR xs = ([], 3) from if_neg h)
    go_enter Try.func136, Try.ntmps136
    go_wp2
    go_ret2
    exact ⟨⟨_, by rw [HR.out]; rfl, by rw [HR.out]; exact Own.nil _ _ _⟩, rfl⟩
theorem lim_s_any (base : Nat) (v : Value) (xs : List Int) (w : World) (ho : Own w base 2 v (ints xs)) :
    Calls Try.prog 134 #[v] w fun e w' => (∃ u, e = .returned (.tuple #[u, .int .i64 (limR xs).2]) ∧ Own w' base 2 u (ints (limR xs).1)) ∧ w = w' := by
  have hl := ho.le
  rw [ints_length] at hl
  obtain ⟨A, c, rfl⟩ := ho.slice
  rw [ints_length] at *
  have Ho := hidd ho
  clear ho
  by_cases h : xs.length ≤ 40
  · have HR := hidd (show limR xs = (xs, 0) from if_pos h)
    go_enter Try.func134, Try.ntmps134
    go_wp2
    go_ret2
    exact ⟨⟨_, by rw [HR.out]; rfl, by rw [HR.out]; exact Ho.out⟩, rfl⟩
  · have HR := hidd (show limR xs = ([], 3) from if_neg h)
    go_enter Try.func134, Try.ntmps134
    go_wp2
    go_ret2
    exact ⟨⟨_, by rw [HR.out]; rfl, by rw [HR.out]; exact Own.nil _ _ _⟩, rfl⟩
set_option maxHeartbeats 1000000 in
theorem l02Join_any (v : Value) (uss : List (List Value)) (w : World) (hr : RdVV w v uss) (h1 : ∀ us ∈ uss, ∀ u ∈ us, u.oneCell' = true) (hlen : lens uss uss.length ≤ 1099511627776) :
    Calls Try.prog 135 #[v] w fun e w' => (∃ u, e = .returned u ∧ Own w' w.heap.size 2 u uss.flatten) ∧ Below w.heap.size w w' := by
  obtain ⟨A, c, rows, rfl, hr, hrl, hrows⟩ := hr
  have hl := hr.1
  rw [hrl] at hl
  have HR := hidd hr
  have HRL := hidd hrl
  have Hrows := hidd hrows
  have H1 := hidd h1
  have HL := hidd (lens_le uss)
  clear hr hrl hrows h1
  go_enter Try.func135, Try.ntmps135
  go_wp2
  obtain ⟨w1, hw1⟩ : ∃ w1, w1 = w.alloc (.cells #[] 2) := ⟨_, rfl⟩
  rw [← hw1]
  have Bel := hidd (show Below w.heap.size w w1 by rw [hw1]; exact bel_alloc _ _)
  have Ho := hidd (show Own w1 w.heap.size 2 (.slice (some ⟨w.heap.size, 0, none⟩) 0 0) [] by rw [hw1]; exact Own.empty w 2 w.heap.size (Nat.le_refl _))
  clear hw1
  go_loopw [3, 4] (fun u i wr => ∃ k : Nat, k ≤ uss.length ∧ i = .int .i64 k ∧ Hid (Own wr w.heap.size 2 u (uss.take k).flatten) ∧ Hid (Below w.heap.size w wr)) (fun _ i _ => uss.length - (intOf i).toNat)
  case atStart => exact ⟨0, Nat.zero_le _, rfl, Ho.out, Bel.out⟩
  case round =>
    obtain ⟨k, hk, rfl, Hok, Hb⟩ := hrel
    have hbase := Hb.out.size
    by_cases hlt : k < uss.length
    · have hkr : k < rows.length := by rw [HRL.out]; exact hlt
      obtain ⟨b, o, rfl, hc⟩ := (HR.out.below Hb.out).at_ (List.getElem?_eq_getElem hkr)
      obtain ⟨B, d, e2, e3, hr2⟩ := Hrows.out k rows[k] uss[k] (List.getElem?_eq_getElem hkr) (List.getElem?_eq_getElem hlt)
      rw [e2] at hc
      have Hf := hidd (flat_succ uss k uss[k] (List.getElem?_eq_getElem hlt))
      have Hr2 := hidd (hr2.below Hb.out)
      have E3 := hidd e3
      have ho1 := hidd (H1.out uss[k] (List.getElem_mem hlt))
      have hlen2 : (uss.take k).flatten.length + uss[k].length ≤ 1099511627776 := by
        rw [flat_len]
        have a := HL.out (k + 1) (by omega)
        rw [lens_succ uss k uss[k] (List.getElem?_eq_getElem hlt)] at a
        omega
      clear e2 e3 hr2
      go_wp2_with (at_builtin; refine app_src rfl _ _ _ rfl w.heap.size 2 (.int .i64 0) 8 Try.underlying30 info_i64 rfl Hok.out Hr2.out rfl rfl rfl ho1.out E3.out hlen2 (by decide) hbase ?_; intro v' w2 ho hgr; have Ho2 := hidd ho; have b2 := hidd (bel_own Hok.out hgr hbase); clear ho hgr)
      go_roundw
      case rel => exact ⟨k + 1, by omega, by go_num, by rw [Hf.out]; exact Ho2.out, Hb.out.trans b2.out⟩
      case measure => simp [intOf]; omega
    · have he : k = uss.length := by omega
      subst he
      have := Hok.out
      rw [List.take_of_length_le (Nat.le_refl _)] at this
      have Ho2 := hidd this
      clear this
      go_wp2
      go_ret
      exact ⟨⟨_, rfl, Ho2.out⟩, Hb.out⟩

/-! ### MultiplyWords -/
def mulR (m : Mc) (xs ys : List Int) : List Int × Int := if codeW m [xs, ys] = 0 then limR (xs ++ ys) else ([], 1)
theorem gw_code2 (m : Mc) (xs ys : List Int) : (m.gwB xs && m.gwB ys) = decide (codeW m [xs, ys] = 0) := by
  unfold Mc.gwB codeW
  cases h0 : m.ok <;> cases h1 : gwB m.S.toNat xs <;> cases h2 : gwB m.S.toNat ys <;> simp [h1, h2]
/-- Two lists, one behind the other. -/
theorem RdVV.two {w : World} {v u : Value} {xs ys : List Int} (h : RdI w v xs) (h' : RdI w u ys) (hv : NilOk v) (hu : NilOk u) (t : TypeId) (n : Nat) (hn : n = w.heap.size) :
    RdVV (w.alloc (.cells #[v, u] t)) (.slice (some ⟨n, 0, none⟩) 2 2) [ints xs, ints ys] :=
  RdVV.lit (rows := [v, u]) rfl (by simp) (fun j r us h1 h2 => by
    match j, h1, h2 with
    | 0, h1, h2 =>
      simp at h1 h2
      subst h1 h2
      exact h.row hv
    | 1, h1, h2 =>
      simp at h1 h2
      subst h1 h2
      exact h'.row hu) t n 2 2 hn rfl
theorem two_one (xs ys : List Int) : ∀ us ∈ [ints xs, ints ys], ∀ u ∈ us, u.oneCell' = true := by
  intro us hus
  simp at hus
  rcases hus with rfl | rfl
  · exact ints_one _
  · exact ints_one _
theorem two_flat (xs ys : List Int) : [ints xs, ints ys].flatten = ints (xs ++ ys) := by simp [ints]
theorem two_lens (xs ys : List Int) : lens [ints xs, ints ys] [ints xs, ints ys].length = xs.length + ys.length := by simp [lens, ints_length]

set_option maxHeartbeats 1000000 in
theorem specMultiplyWords_any (m : Mc) (cs : Array Value) (hm : m.Is cs) (v u : Value) (xs ys : List Int) (w : World) (hr : RdI w v xs) (hr' : RdI w u ys) (hv : NilOk v) (hu : NilOk u) (hx : xs.length ≤ 1048576) (hy : ys.length ≤ 1048576) :
    Calls Try.prog 60 #[.agg cs, v, u] w fun e w' => (∃ v, e = .returned (.tuple #[v, .int .i64 (mulR m xs ys).2]) ∧ Own w' w.heap.size 2 v (ints (mulR m xs ys).1)) ∧ Below w.heap.size w w' := by
  have Hm := hidd hm
  have Hr := hidd hr
  have Hr' := hidd hr'
  have Hv := hidd hv
  have Hu := hidd hu
  obtain ⟨A0, c0, rfl, hq0⟩ := hr
  obtain ⟨A1, c1, rfl, hq1⟩ := hr'
  clear hm hq0 hq1 hv hu
  by_cases hc : codeW m [xs, ys] = 0
  · have HR : Hid (mulR m xs ys = _) := hidd (if_pos hc)
    have Hc := hidd hc
    clear hc
    go_enter Try.func60, Try.ntmps60
    go_wp2_with (refine ldI rfl (.tmp 3) rfl w.heap.size rfl Hm.out (hp_new rfl) ?_)
    refine (l02Code_any _ _ Hm.out _ [xs, ys] _ ?_).mono ?_
    · exact RdLL.lit2 (Hr.out.alloc _) (Hr'.out.alloc _) _ _ (by simp)
    rintro e w1 ⟨rfl, hb⟩
    rw [Hc.out]
    have B1 := hidd (bel_then ((bel_alloc w (.cells cs 27)).alloc (by simp) _) hb)
    clear hb
    go_wp2_with fail
    refine (l02Join_any _ [ints xs, ints ys] _ ?_ (two_one xs ys) (by rw [two_lens]; omega)).mono ?_
    · exact RdVV.two (Hr.out.below B1.out) (Hr'.out.below B1.out) Hv.out Hu.out _ _ rfl
    rintro e w2 ⟨⟨u2, rfl, ho⟩, hb⟩
    rw [two_flat] at ho
    have B2 := hidd (bel_then B1.out ((bel_alloc' w1 _).trans (hb.mono (by simp))))
    have Ho := hidd ho
    clear hb ho
    go_wp2_with fail
    refine (lim_s_any _ _ (xs ++ ys) _ Ho.out).mono ?_
    rintro e w3 ⟨⟨u3, rfl, ho⟩, rfl⟩
    have Ho3 := hidd ho
    clear ho
    go_wp2
    go_ret2
    exact ⟨⟨_, by rw [HR.out]; rfl, by rw [HR.out]; exact Ho3.out.mono (by have := B1.out.size; simp; omega)⟩, B2.out⟩
  · have HR : Hid (mulR m xs ys = _) := hidd (if_neg hc)
    have Hc := hidd (codeW_one hc)
    clear hc
    go_enter Try.func60, Try.ntmps60
    go_wp2_with (refine ldI rfl (.tmp 3) rfl w.heap.size rfl Hm.out (hp_new rfl) ?_)
    refine (l02Code_any _ _ Hm.out _ [xs, ys] _ ?_).mono ?_
    · exact RdLL.lit2 (Hr.out.alloc _) (Hr'.out.alloc _) _ _ (by simp)
    rintro e w1 ⟨rfl, hb⟩
    rw [Hc.out]
    go_wp2
    go_ret2
    exact ⟨⟨_, by rw [HR.out]; rfl, by rw [HR.out]; exact Own.nil _ _ _⟩, bel_then ((bel_alloc w (.cells cs 27)).alloc (by simp) _) hb⟩

set_option maxHeartbeats 1000000 in
theorem implMultiplyWords_any (m : Mc) (cs : Array Value) (hm : m.Is cs) (v u : Value) (xs ys : List Int) (w : World) (hr : RdI w v xs) (hr' : RdI w u ys) (hv : NilOk v) (hu : NilOk u) (hx : xs.length ≤ 1048576) (hy : ys.length ≤ 1048576) :
    Calls Try.prog 61 #[.agg cs, v, u] w fun e w' => (∃ v, e = .returned (.tuple #[v, .int .i64 (mulR m xs ys).2]) ∧ Own w' w.heap.size 2 v (ints (mulR m xs ys).1)) ∧ Below w.heap.size w w' := by
  have Hm := hidd hm
  have Hr := hidd hr
  have Hr' := hidd hr'
  have Hv := hidd hv
  have Hu := hidd hu
  obtain ⟨A0, c0, rfl, hq0⟩ := hr
  obtain ⟨A1, c1, rfl, hq1⟩ := hr'
  clear hm hq0 hq1 hv hu
  have h2 := gw_code2 m xs ys
  cases h1 : m.gwB xs with
  | false =>
    have HR : Hid (mulR m xs ys = _) := hidd (if_neg (by rw [h1] at h2; exact of_decide_eq_false h2.symm))
    have H1 := hidd h1
    clear h1 h2
    go_enter Try.func61, Try.ntmps61
    go_wp2_with (refine ldI rfl (.tmp 3) rfl w.heap.size rfl Hm.out (hp_new rfl) ?_)
    refine (implIsGroupWord_any _ _ Hm.out _ xs _ (Hr.out.alloc _)).mono ?_
    rintro e w1 ⟨rfl, hb⟩
    rw [H1.out]
    go_wp2
    go_ret2
    exact ⟨⟨_, by rw [HR.out]; rfl, by rw [HR.out]; exact Own.nil _ _ _⟩, bel_then (bel_alloc _ _) hb⟩
  | true =>
    rw [h1, Bool.true_and] at h2
    have H1 := hidd h1
    clear h1
    cases hb2 : m.gwB ys with
    | false =>
      have HR : Hid (mulR m xs ys = _) := hidd (if_neg (by rw [hb2] at h2; exact of_decide_eq_false h2.symm))
      have H2 := hidd hb2
      clear hb2 h2
      go_enter Try.func61, Try.ntmps61
      go_wp2_with (refine ldI rfl (.tmp 3) rfl w.heap.size rfl Hm.out (hp_new rfl) ?_)
      refine (implIsGroupWord_any _ _ Hm.out _ xs _ (Hr.out.alloc _)).mono ?_
      rintro e w1 ⟨rfl, hb⟩
      rw [H1.out]
      have B1 := hidd (bel_then (bel_alloc _ _) hb)
      have K1 := hidd (hp_bel (hp_new rfl) hb : w1.heap[w.heap.size]? = some (.cells cs 27 (0, 0)))
      clear hb
      go_wp2_with (refine ldI rfl (.tmp 3) rfl w.heap.size rfl Hm.out K1.out ?_)
      refine (implIsGroupWord_any _ _ Hm.out _ ys _ (Hr'.out.below B1.out)).mono ?_
      rintro e w2 ⟨rfl, hb⟩
      rw [H2.out]
      go_wp2
      go_ret2
      exact ⟨⟨_, by rw [HR.out]; rfl, by rw [HR.out]; exact Own.nil _ _ _⟩, bel_then B1.out hb⟩
    | true =>
      have HR : Hid (mulR m xs ys = _) := hidd (if_pos (by rw [hb2] at h2; exact of_decide_eq_true h2.symm))
      have H2 := hidd hb2
      clear hb2 h2
      go_enter Try.func61, Try.ntmps61
      go_wp2_with (refine ldI rfl (.tmp 3) rfl w.heap.size rfl Hm.out (hp_new rfl) ?_)
      refine (implIsGroupWord_any _ _ Hm.out _ xs _ (Hr.out.alloc _)).mono ?_
      rintro e w1 ⟨rfl, hb⟩
      rw [H1.out]
      have B1 := hidd (bel_then (bel_alloc _ _) hb)
      have K1 := hidd (hp_bel (hp_new rfl) hb : w1.heap[w.heap.size]? = some (.cells cs 27 (0, 0)))
      clear hb
      go_wp2_with (refine ldI rfl (.tmp 3) rfl w.heap.size rfl Hm.out K1.out ?_)
      refine (implIsGroupWord_any _ _ Hm.out _ ys _ (Hr'.out.below B1.out)).mono ?_
      rintro e w2 ⟨rfl, hb⟩
      rw [H2.out]
      have B2 := hidd (bel_then B1.out hb)
      clear hb
      go_wp2_with fail
      refine (concat64 _ [ints xs, ints ys] _ ?_ (two_one xs ys) (by rw [two_lens]; omega)).mono ?_
      · exact RdVV.two (Hr.out.below B2.out) (Hr'.out.below B2.out) Hv.out Hu.out _ _ rfl
      rintro e w3 ⟨⟨u2, rfl, ho⟩, hb⟩
      rw [two_flat] at ho
      have B3 := hidd (bel_then B2.out ((bel_alloc' w2 _).trans (hb.mono (by simp))))
      have Ho := hidd ho
      clear hb ho
      go_wp2_with fail
      refine (lim_i_any _ _ (xs ++ ys) _ Ho.out).mono ?_
      rintro e w4 ⟨⟨u3, rfl, ho⟩, rfl⟩
      have Ho3 := hidd ho
      clear ho
      go_wp2
      go_ret2
      exact ⟨⟨_, by rw [HR.out]; rfl, by rw [HR.out]; exact Ho3.out.mono (by have := B2.out.size; simp; omega)⟩, B3.out⟩
theorem limR_len (xs : List Int) : (limR xs).1.length ≤ 1048576 := by
  unfold limR
  split
  · rename_i h; exact Nat.le_trans h (by omega)
  · exact Nat.zero_le _
theorem mulR_len (m : Mc) (xs ys : List Int) : (mulR m xs ys).1.length ≤ 1048576 := by
  unfold mulR
  split
  · exact limR_len _
  · exact Nat.zero_le _
end Go.Proofs.Ytjnnbjlombopnaa
