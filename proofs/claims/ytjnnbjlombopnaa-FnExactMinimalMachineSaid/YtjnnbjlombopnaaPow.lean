/- Walks: PowerWord, of the program and of the reference. -/
import Derived.Test.YtjnnbjlombopnaaRep
import Derived.Test.YtjnnbjlombopnaaOwn
namespace Go.Proofs.Ytjnnbjlombopnaa
open Go.RowKit

theorem repl_ints (xs : List Int) (c : Nat) : repl (ints xs) c = ints (repl xs c) := by
  induction c with
  | zero => simp [repl, ints]
  | succ c ih => rw [repl_succ, repl_succ, ints_append, ih]
def powL (xs : List Int) (k : Int) : List Int := repl (if k < 0 then invW xs else xs) k.natAbs
section
variable {P : Program} {w : World} {ops : Array Oper} {rest : List Oper} {o : Oper} {a : Act} {Q : Exit → Act → World → Prop}
/-- append(v, src...), with the word on where the new slice lies. -/
theorem app_srcL (hgd : o.guard = none) (s x : Operand) (t : TypeId) (hop : o.op = .call { callee := .builtin .append, args := #[s, x], argTypes := #[t, t] }) (base : Nat) (e : TypeId) (z : Value) (bytes : Nat) (h1 : P.underlying t = some (.slice e))
    (hinfo : (P.info? e).map (fun i => (i.zero, i.size, i.bytes)) = some (some z, 1, bytes)) (hz : z.cells.size = 1) {v : Value} {vs us : List Value} {A : Option Addr} {n c : Nat} (hown : Own w base e v vs) (hr : Rd w A us) (hn : n = us.length) (hs : a.eval s = v) (hx : a.eval x = .slice A n c) (h1c : ∀ u ∈ us, u.oneCell' = true)
    (hnil : A = none → c = 0) (hlen : vs.length + us.length ≤ 1099511627776) (hby : bytes ≤ 64) (hbase : base ≤ w.heap.size)
    (hK : ∀ v' w', Own w' base e v' (vs ++ us) → w.grownBy w' v.ownBlock → Lies w.heap.size v v' → wpList P ops Q rest (a.put o.dst v') w') : wpList P ops Q (o :: rest) a w := by
  obtain ⟨i, hi, hz0, hz1, hz2⟩ := info_parts hinfo
  subst hn
  have hmul : (vs.length + us.length) * bytes ≤ 1099511627776 * 64 := Nat.mul_le_mul hlen hby
  cases A with
  | none =>
    have hu : us = [] := by
      apply Decidable.byContradiction
      intro hne
      obtain ⟨b, o, h, _⟩ := hr.2 hne
      cases h
    subst hu
    rw [hnil rfl] at hx
    refine wpList_append_own_none hgd s x t hop base e i 1 h1 hi v vs.length vs hs hown hx ?_
    exact hK v w (by rw [List.append_nil]; exact hown) (World.grownBy.refl _ _) (Lies.refl _ _)
  | some ad =>
    refine wpList_append_own_at _ hgd s x t hop base e i z 1 bytes h1 hi hz0 hz1 hz2 hz (by decide) v vs.length vs hs hown ad us.length c us hx (by omega) ?_ h1c (by unfold maxLen; omega) (by omega) hbase ?_
    · intro j u hj
      obtain ⟨b, o, hA, hc⟩ := hr.2 (fun e => by rw [e] at hj; simp at hj)
      cases hA
      have hadd : (⟨b, o, none⟩ : Addr).add j = ⟨b, o + j, none⟩ := by unfold Addr.add; split <;> simp_all
      rw [hadd]; exact hc j u hj
    · intro v' w' ho hg _ hat
      have ho' : Own w' base e v' (vs ++ us) := by unfold Own; rw [List.length_append]; exact ho
      refine hK v' w' ho' hg ?_
      rcases hat with h | h
      · exact .inl h
      · exact .inr ⟨_, h, Nat.le_refl _⟩
end

set_option maxHeartbeats 1000000 in
theorem l02Power_any (v : Value) (xs : List Int) (k : Int) (hk : k.natAbs ≤ 1024) (hlen : xs.length ≤ 1024) (hz : ∀ x ∈ xs, -1000 ≤ x ∧ x ≤ 1000) (hv : NilOk v) (w : World) (hr : RdI w v xs) :
    Calls Try.prog 139 #[v, .int .i64 k] w fun e w' => ∃ v', e = .returned v' ∧ Own w' w.heap.size 2 v' (ints (powL xs k)) ∧ Below w.heap.size w w' := by
  obtain ⟨n, hn⟩ : ∃ n, n = k.natAbs := ⟨_, rfl⟩
  rw [← hn] at hk
  have Hr := hidd hr
  have Hz := hidd hz
  have Hv := hidd hv
  obtain ⟨A, c, rfl, hR⟩ := hr
  have HR0 := hidd hR
  clear hR hz hv
  by_cases hneg : k < 0
  · obtain rfl : k = -(n : Int) := by omega
    have HP := hidd (show ints (powL xs (-(n : Int))) = repl (ints (invW xs)) n by unfold powL; rw [if_pos hneg, ← hn, repl_ints])
    clear hn
    have hnp : ¬ (n = 0) := by omega
    go_enter Try.func139, Try.ntmps139
    go_wp2_with fail
    refine (l02Inverse_any _ xs (by omega) Hz.out _ (Hr.out.below (bel_alloc w _))).mono ?_
    rintro e w1 ⟨u, rfl, ho, hb⟩
    have HO := hidd (Own.below (Own.empty w 2 w.heap.size (Nat.le_refl _)) hb)
    have HA := hidd (own_ne (Own.empty w 2 w.heap.size (Nat.le_refl _)) ho (Nat.le_refl _))
    have B1 := hidd (bel_then (bel_alloc w (.cells #[] 2)) hb)
    have HN := hidd ho.nilOk
    have HI := hidd (ho.mono (bel_alloc w (.cells #[] 2)).size)
    obtain ⟨A1, c1, rfl⟩ := ho.slice
    clear ho hb
    have E3 := hidd (show A1 = none → c1 = 0 from fun h => HN.out _ _ (by rw [h]))
    go_wp2_with fail
    go_loopw [1, 5] (fun kk u wr => ∃ j : Nat, j ≤ n ∧ kk = .int .i64 ((n : Int) - j) ∧ Hid (Own wr w.heap.size 2 u (repl (ints (invW xs)) j)) ∧ Hid (Below w.heap.size w wr) ∧ Hid (Own wr w.heap.size 2 (.slice A1 (ints (invW xs)).length c1) (ints (invW xs))) ∧ Hid (Apart u (.slice A1 (ints (invW xs)).length c1))) (fun kk _ _ => (intOf kk).toNat)
    case atStart => exact ⟨0, Nat.zero_le _, by go_num, hidd (by simpa [repl] using HO.out), B1, HI, HA⟩
    case round =>
      obtain ⟨j, hj, rfl, Hok, Hb, HIr, HAr⟩ := hrel
      have hbase := Hb.out.size
      have HRd := hidd (show Rd wr A1 (ints (invW xs)) by have := HIr.out.rd; exact this.2)
      by_cases hlt : j < n
      · have hlen2 : (repl (ints (invW xs)) j).length + (ints (invW xs)).length ≤ 1099511627776 := by
          rw [repl_len, ints_length, invW_len]
          have : xs.length * j ≤ 1024 * 1024 := Nat.mul_le_mul (by omega) (by omega)
          omega
        go_wp2_with (at_builtin; refine app_srcL rfl _ _ _ rfl w.heap.size 2 (.int .i64 0) 8 Try.underlying30 info_i64 rfl Hok.out HRd.out rfl rfl rfl (ints_one _) E3.out hlen2 (by decide) hbase ?_; intro v' w2 ho hgr hli; have Ho2 := hidd ho; have b2 := hidd (bel_own Hok.out hgr hbase); have HI2 := hidd (HIr.out.keep hgr HAr.out.symm); have HA2 := hidd ((HAr.out.symm.lies HIr.out (Nat.le_refl _) hli).symm); clear ho hgr hli)
        go_roundw
        case rel => exact ⟨j + 1, by omega, by go_num, hidd (by rw [repl_snoc]; exact Ho2.out), hidd (Hb.out.trans b2.out), HI2, HA2⟩
        case measure => simp [intOf]; omega
      · have he : j = n := by omega
        subst he
        go_wp2_with fail
        go_ret
        exact ⟨_, rfl, by rw [HP.out]; exact Hok.out, Hb.out⟩
  · obtain rfl : k = (n : Int) := by omega
    have HP := hidd (show ints (powL xs (n : Int)) = repl (ints xs) n by unfold powL; rw [if_neg hneg, ← hn, repl_ints])
    clear hn
    go_enter Try.func139, Try.ntmps139
    go_wp2_with fail
    obtain ⟨w1, hw1⟩ : ∃ w1, w1 = w.alloc (.cells #[] 2) := ⟨_, rfl⟩
    rw [← hw1]
    have B1 := hidd (show Below w.heap.size w w1 by rw [hw1]; exact bel_alloc _ _)
    have HO := hidd (show Own w1 w.heap.size 2 (.slice (some ⟨w.heap.size, 0, none⟩) 0 0) [] by rw [hw1]; exact Own.empty w 2 w.heap.size (Nat.le_refl _))
    have E3 := hidd (show A = none → c = 0 from fun h => Hv.out _ _ (by rw [h]))
    clear hw1
    go_loopw [1, 5] (fun kk u wr => ∃ j : Nat, j ≤ n ∧ kk = .int .i64 ((n : Int) - j) ∧ Hid (Own wr w.heap.size 2 u (repl (ints xs) j)) ∧ Hid (Below w.heap.size w wr)) (fun kk _ _ => (intOf kk).toNat)
    case atStart => exact ⟨0, Nat.zero_le _, by go_num, hidd (by simpa [repl] using HO.out), B1⟩
    case round =>
      obtain ⟨j, hj, rfl, Hok, Hb⟩ := hrel
      have hbase := Hb.out.size
      have HRd := hidd (HR0.out.below Hb.out)
      by_cases hlt : j < n
      · have hlen2 : (repl (ints xs) j).length + (ints xs).length ≤ 1099511627776 := by
          rw [repl_len, ints_length]
          have : xs.length * j ≤ 1024 * 1024 := Nat.mul_le_mul (by omega) (by omega)
          omega
        go_wp2_with (at_builtin; refine app_srcL rfl _ _ _ rfl w.heap.size 2 (.int .i64 0) 8 Try.underlying30 info_i64 rfl Hok.out HRd.out (ints_length _).symm rfl rfl (ints_one _) E3.out hlen2 (by decide) hbase ?_; intro v' w2 ho hgr hli; have Ho2 := hidd ho; have b2 := hidd (bel_own Hok.out hgr hbase); clear ho hgr hli)
        go_roundw
        case rel => exact ⟨j + 1, by omega, by go_num, hidd (by rw [repl_snoc]; exact Ho2.out), hidd (Hb.out.trans b2.out)⟩
        case measure => simp [intOf]; omega
      · have he : j = n := by omega
        subst he
        go_wp2_with fail
        go_ret
        exact ⟨_, rfl, by rw [HP.out]; exact Hok.out, Hb.out⟩

/-! ### PowerWord -/
def powR (m : Mc) (xs : List Int) (k : Int) : List Int × Int := if codeW m [xs] = 0 then (if -40 ≤ k ∧ k ≤ 40 then limR (powL xs k) else ([], 2)) else ([], 1)
theorem powR_len (m : Mc) (xs : List Int) (k : Int) : (powR m xs k).1.length ≤ 1048576 := by
  unfold powR
  split
  · split
    · exact limR_len _
    · exact Nat.zero_le _
  · exact Nat.zero_le _
set_option maxHeartbeats 1000000 in
theorem specPowerWord_any (m : Mc) (cs : Array Value) (hm : m.Is cs) (v : Value) (xs : List Int) (k : Int) (w : World) (hr : RdI w v xs) (hv : NilOk v) :
    Calls Try.prog 69 #[.agg cs, v, .int .i64 k] w fun e w' => (∃ u, e = .returned (.tuple #[u, .int .i64 (powR m xs k).2]) ∧ Own w' w.heap.size 2 u (ints (powR m xs k).1)) ∧ Below w.heap.size w w' := by
  have Hm := hidd hm
  have Hr := hidd hr
  have Hv := hidd hv
  obtain ⟨A0, c0, rfl, hq0⟩ := hr
  clear hm hq0 hv
  by_cases hc : codeW m [xs] = 0
  · obtain ⟨g, rfl, hok, hw⟩ := codeW_zero hc
    have Hc := hidd hc
    have HN := hidd (gwB_small hok (hw xs (List.mem_singleton.2 rfl)))
    have h40 := (gwB_mem (hw xs (List.mem_singleton.2 rfl))).1
    by_cases hk : -40 ≤ k ∧ k ≤ 40
    · have HR : Hid (powR g.mc xs k = _) := hidd (by unfold powR; rw [if_pos hc, if_pos hk])
      have hk1 := hk.1
      have hk2 := hk.2
      clear hc hok hw hk
      go_enter Try.func69, Try.ntmps69
      go_wp2_with (refine ldI rfl (.tmp 3) rfl w.heap.size rfl Hm.out (hp_new rfl) ?_)
      refine (l02Code_any _ _ Hm.out _ [xs] _ ?_).mono ?_
      · exact RdLL.lit1 (Hr.out.alloc _) _ _ (by simp)
      rintro e w1 ⟨rfl, hb⟩
      rw [Hc.out]
      have B1 := hidd (bel_then ((bel_alloc w (.cells cs 27)).alloc (by simp) _) hb)
      clear hb
      go_wp2_with (go_at_call 131; refine (l01In_yes _ _ _ _ (by omega) (by omega)).mono ?_; rintro e w9 ⟨rfl, rfl⟩)
      refine (l02Power_any _ xs k (by omega) (by omega) HN.out Hv.out _ (Hr.out.below B1.out)).mono ?_
      rintro e w2 ⟨u, rfl, ho, hb⟩
      have Ho := hidd ho
      have B2 := hidd (bel_then B1.out hb)
      clear ho hb
      go_wp2_with fail
      refine (lim_s_any _ _ (powL xs k) _ Ho.out).mono ?_
      rintro e w3 ⟨⟨u3, rfl, ho⟩, rfl⟩
      have Ho3 := hidd ho
      clear ho
      go_wp2
      go_ret2
      exact ⟨⟨_, by rw [HR.out]; rfl, by rw [HR.out]; exact Ho3.out.mono B1.out.size⟩, B2.out⟩
    · have HR : Hid (powR g.mc xs k = _) := hidd (by unfold powR; rw [if_pos hc, if_neg hk])
      have Hk := hidd hk
      clear hc hok hw hk
      go_enter Try.func69, Try.ntmps69
      go_wp2_with (refine ldI rfl (.tmp 3) rfl w.heap.size rfl Hm.out (hp_new rfl) ?_)
      refine (l02Code_any _ _ Hm.out _ [xs] _ ?_).mono ?_
      · exact RdLL.lit1 (Hr.out.alloc _) _ _ (by simp)
      rintro e w1 ⟨rfl, hb⟩
      rw [Hc.out]
      have B1 := hidd (bel_then ((bel_alloc w (.cells cs 27)).alloc (by simp) _) hb)
      clear hb
      go_wp2_with (go_at_call 131; refine (l01In_no _ _ _ _ (by have := Hk.out; omega)).mono ?_; rintro e w9 ⟨rfl, rfl⟩)
      go_ret2
      exact ⟨⟨_, by rw [HR.out]; rfl, by rw [HR.out]; exact Own.nil _ _ _⟩, B1.out⟩
  · have HR : Hid (powR m xs k = _) := hidd (if_neg hc)
    have Hc := hidd (codeW_one hc)
    clear hc
    go_enter Try.func69, Try.ntmps69
    go_wp2_with (refine ldI rfl (.tmp 3) rfl w.heap.size rfl Hm.out (hp_new rfl) ?_)
    refine (l02Code_any _ _ Hm.out _ [xs] _ ?_).mono ?_
    · exact RdLL.lit1 (Hr.out.alloc _) _ _ (by simp)
    rintro e w1 ⟨rfl, hb⟩
    rw [Hc.out]
    go_wp2
    go_ret2
    exact ⟨⟨_, by rw [HR.out]; rfl, by rw [HR.out]; exact Own.nil _ _ _⟩, bel_then ((bel_alloc w (.cells cs 27)).alloc (by simp) _) hb⟩
set_option maxHeartbeats 1000000 in
theorem implPowerWord_any (m : Mc) (cs : Array Value) (hm : m.Is cs) (v : Value) (xs : List Int) (k : Int) (w : World) (hr : RdI w v xs) :
    Calls Try.prog 70 #[.agg cs, v, .int .i64 k] w fun e w' => (∃ u, e = .returned (.tuple #[u, .int .i64 (powR m xs k).2]) ∧ Own w' w.heap.size 2 u (ints (powR m xs k).1)) ∧ Below w.heap.size w w' := by
  have Hm := hidd hm
  have Hr := hidd hr
  clear hm hr
  by_cases hc : codeW m [xs] = 0
  · have Hc := hidd (show m.gwB xs = true by rw [gw_code]; exact decide_eq_true hc)
    obtain ⟨g, rfl, hok, hw⟩ := codeW_zero hc
    have HN := hidd (gwB_small hok (hw xs (List.mem_singleton.2 rfl)))
    have h40 := (gwB_mem (hw xs (List.mem_singleton.2 rfl))).1
    by_cases hk : -40 ≤ k ∧ k ≤ 40
    · have HR : Hid (powR g.mc xs k = _) := hidd (by unfold powR; rw [if_pos hc, if_pos hk])
      have hk1 := hk.1
      have hk2 := hk.2
      clear hc hok hw hk
      by_cases hneg : k < 0
      · obtain ⟨n, hn⟩ : ∃ n : Nat, k = -(n : Int) := ⟨k.natAbs, by omega⟩
        have HP := hidd (show powL xs k = repl (invW xs) n by unfold powL; rw [if_pos hneg, hn]; simp)
        subst hn
        have hnp : ¬ (n = 0) := by omega
        go_enter Try.func70, Try.ntmps70
        go_wp2_with (refine ldI rfl (.tmp 3) rfl w.heap.size rfl Hm.out (hp_new rfl) ?_)
        refine (implIsGroupWord_any _ _ Hm.out _ xs _ (Hr.out.alloc _)).mono ?_
        rintro e w1 ⟨rfl, hb⟩
        rw [Hc.out]
        have B1 := hidd (bel_then (bel_alloc _ _) hb)
        clear hb
        go_wp2_with (go_at_call 107; refine (within_yes _ _ _ _ (by omega) (by omega)).mono ?_; rintro e w9 ⟨rfl, rfl⟩)
        refine (inverseOf_any v xs (by omega) HN.out _ (Hr.out.below B1.out)).mono ?_
        rintro e w2 ⟨u, rfl, ho, hb⟩
        have HI := hidd ho.rdI
        have B2 := hidd (bel_then B1.out hb)
        clear ho hb
        go_wp2_with fail
        refine (repeat_any _ (invW xs) n (by rw [invW_len]; omega) (by omega) _ HI.out).mono ?_
        rintro e w3 ⟨u2, rfl, ho, hb⟩
        rw [repl_ints, ← HP.out] at ho
        have Ho := hidd ho
        have B3 := hidd (bel_then B2.out hb)
        clear ho hb
        go_wp2_with fail
        refine (lim_i_any _ _ (powL xs (-(n : Int))) _ Ho.out).mono ?_
        rintro e w4 ⟨⟨u3, rfl, ho⟩, rfl⟩
        have Ho3 := hidd ho
        clear ho
        go_wp2
        go_ret2
        exact ⟨⟨_, by rw [HR.out]; rfl, by rw [HR.out]; exact Ho3.out.mono B2.out.size⟩, B3.out⟩
      · obtain ⟨n, hn⟩ : ∃ n : Nat, k = (n : Int) := ⟨k.natAbs, by omega⟩
        have HP := hidd (show powL xs k = repl xs n by unfold powL; rw [if_neg hneg, hn]; simp)
        subst hn
        go_enter Try.func70, Try.ntmps70
        go_wp2_with (refine ldI rfl (.tmp 3) rfl w.heap.size rfl Hm.out (hp_new rfl) ?_)
        refine (implIsGroupWord_any _ _ Hm.out _ xs _ (Hr.out.alloc _)).mono ?_
        rintro e w1 ⟨rfl, hb⟩
        rw [Hc.out]
        have B1 := hidd (bel_then (bel_alloc _ _) hb)
        clear hb
        go_wp2_with (go_at_call 107; refine (within_yes _ _ _ _ (by omega) (by omega)).mono ?_; rintro e w9 ⟨rfl, rfl⟩)
        refine (repeat_any _ xs n (by omega) (by omega) _ (Hr.out.below B1.out)).mono ?_
        rintro e w3 ⟨u2, rfl, ho, hb⟩
        rw [repl_ints, ← HP.out] at ho
        have Ho := hidd ho
        have B3 := hidd (bel_then B1.out hb)
        clear ho hb
        go_wp2_with fail
        refine (lim_i_any _ _ (powL xs (n : Int)) _ Ho.out).mono ?_
        rintro e w4 ⟨⟨u3, rfl, ho⟩, rfl⟩
        have Ho3 := hidd ho
        clear ho
        go_wp2
        go_ret2
        exact ⟨⟨_, by rw [HR.out]; rfl, by rw [HR.out]; exact Ho3.out.mono B1.out.size⟩, B3.out⟩
    · have HR : Hid (powR g.mc xs k = _) := hidd (by unfold powR; rw [if_pos hc, if_neg hk])
      have Hk := hidd hk
      clear hc hok hw hk
      go_enter Try.func70, Try.ntmps70
      go_wp2_with (refine ldI rfl (.tmp 3) rfl w.heap.size rfl Hm.out (hp_new rfl) ?_)
      refine (implIsGroupWord_any _ _ Hm.out _ xs _ (Hr.out.alloc _)).mono ?_
      rintro e w1 ⟨rfl, hb⟩
      rw [Hc.out]
      have B1 := hidd (bel_then (bel_alloc _ _) hb)
      clear hb
      go_wp2_with (go_at_call 107; refine (within_no _ _ _ _ (by have := Hk.out; omega)).mono ?_; rintro e w9 ⟨rfl, rfl⟩)
      go_ret2
      exact ⟨⟨_, by rw [HR.out]; rfl, by rw [HR.out]; exact Own.nil _ _ _⟩, B1.out⟩
  · have HR : Hid (powR m xs k = _) := hidd (if_neg hc)
    have Hc := hidd (show m.gwB xs = false by rw [gw_code]; exact decide_eq_false hc)
    clear hc
    go_enter Try.func70, Try.ntmps70
    go_wp2_with (refine ldI rfl (.tmp 3) rfl w.heap.size rfl Hm.out (hp_new rfl) ?_)
    refine (implIsGroupWord_any _ _ Hm.out _ xs _ (Hr.out.alloc _)).mono ?_
    rintro e w1 ⟨rfl, hb⟩
    rw [Hc.out]
    go_wp2
    go_ret2
    exact ⟨⟨_, by rw [HR.out]; rfl, by rw [HR.out]; exact Own.nil _ _ _⟩, bel_then (bel_alloc _ _) hb⟩
end Go.Proofs.Ytjnnbjlombopnaa
