/- Walks: ParseGroup of the reference. -/
import Derived.Test.YtjnnbjlombopnaaPg
namespace Go.Proofs.Ytjnnbjlombopnaa
open Go.RowKit

/-- What the reference reads. -/
def rdR (g : Gm) (s : ByteArray) : List Int × Bool := if (pgx s).all (fun k => decide (k ≠ 0)) then (pgx s, gwB g.s (pgx s)) else ([], false)
theorem rdR_bad {g : Gm} {s : ByteArray} {k : Nat} (hk : k < s.size) (h : pch s[k].toNat = 0) : rdR g s = ([], false) := by
  unfold rdR
  rw [if_neg]
  intro hc
  have := List.all_eq_true.1 hc 0 (by
    unfold pgx pgt
    rw [List.mem_map]
    exact ⟨k, List.mem_range.2 hk, by rw [getElem!_pos s k hk]; exact h⟩)
  simp at this
theorem rdR_good {g : Gm} {s : ByteArray} (h : ∀ k, (hk : k < s.size) → pch s[k].toNat ≠ 0) : rdR g s = (pgx s, gwB g.s (pgx s)) := by
  unfold rdR
  rw [if_pos]
  rw [List.all_eq_true]
  intro x hx
  unfold pgx pgt at hx
  rw [List.mem_map] at hx
  obtain ⟨k, hk, rfl⟩ := hx
  have hk' := List.mem_range.1 hk
  rw [getElem!_pos s k hk']
  exact decide_eq_true (h k hk')
theorem rdR_true {g : Gm} {s : ByteArray} (h : (rdR g s).2 = true) : gwB g.s (pgx s) = true ∧ (rdR g s).1 = pgx s := by
  unfold rdR at *
  split at h
  · rename_i hc; rw [if_pos hc]; exact ⟨h, rfl⟩
  · cases h
theorem rdR_false {g : Gm} {s : ByteArray} (h : (rdR g s).2 = false) : gwB g.s (pgx s) = false := by
  unfold rdR at *
  split at h
  · exact h
  · rename_i hc
    have : (pgx s).all (numOk g.s) = false := by
      rw [Bool.eq_false_iff]
      intro h2
      apply hc
      rw [List.all_eq_true] at *
      intro x hx
      have := of_decide_eq_true (h2 x hx)
      exact decide_eq_true this.1
    unfold gwB
    rw [this, Bool.and_false]

set_option maxRecDepth 100000 in
set_option maxHeartbeats 1000000 in
theorem l02Read_any (g : Gm) (hok : g.Ok) (cs : Array Value) (hm : g.mc.Is cs) (s : ByteArray) (w : World) (hs : s.size ≤ 1048576) :
    Calls Try.prog 122 #[.agg cs, .string s] w fun e w' => (∃ v, e = .returned (.tuple #[v, .bool (rdR g s).2]) ∧ Own w' w.heap.size 2 v (ints (rdR g s).1)) ∧ Below w.heap.size w w' := by
  have Hm := hidd hm
  have HO := hidd hok
  clear hm hok
  go_enter Try.func122, Try.ntmps122
  go_wp2
  obtain ⟨w1, hw1⟩ : ∃ w1, w1 = (w.alloc (.cells cs 27)).alloc (.cells #[] 2) := ⟨_, rfl⟩
  rw [← hw1]
  have B1 := hidd (show Below w.heap.size w w1 by rw [hw1]; exact ((Below.refl _ _).alloc (Nat.le_refl _) _).alloc (by simp) _)
  have K1 := hidd (show w1.heap[w.heap.size]? = some (.cells cs 27 (0, 0)) by rw [hw1]; exact hp_old (hp_new rfl))
  have Ho := hidd (show Own w1 (w.heap.size + 1) 2 (.slice (some ⟨w.heap.size + 1, 0, none⟩) 0 0) [] by
    rw [hw1]
    have := Own.empty (w.alloc (.cells cs 27)) 2 (w.heap.size + 1) (by simp)
    simpa using this)
  have Z1 := hidd (show w1.heap.size = w.heap.size + 2 by rw [hw1]; simp)
  clear hw1
  go_loopw [6, 7] (fun u i wr => ∃ k : Nat, k ≤ s.size ∧ i = .int .i64 k ∧ Hid (∀ j, (hj : j < s.size) → j < k → pch s[j].toNat ≠ 0) ∧ Hid (Own wr (w.heap.size + 1) 2 u (ints (pgt s k))) ∧ Hid (Below (w.heap.size + 1) w1 wr)) (fun _ i _ => s.size - (intOf i).toNat)
  case atStart => exact ⟨0, Nat.zero_le _, rfl, fun j _ h => by omega, Ho.out, Below.refl _ _⟩
  case round =>
    obtain ⟨k, hk, rfl, Hgood, Hok, Hb⟩ := hrel
    have hbase : w.heap.size + 1 ≤ wr.heap.size := by have := Hb.out.size; have := Z1.out; omega
    by_cases hlt : k < s.size
    · have hc256 : s[k].toNat < 256 := s[k].toNat_lt
      have hp := pgt_succ s k hlt
      have hlen : (ints (pgt s k)).length + 1 ≤ 1099511627776 := by rw [ints_length, pgt_length]; omega
      have Hp := hidd hp
      clear hp
      by_cases ha : 97 ≤ s[k].toNat ∧ s[k].toNat ≤ 112
      · have E1 := hidd (show pch s[k].toNat = (s[k].toNat : Int) - 97 + 1 by unfold pch; rw [if_pos ha]; omega)
        have En := hidd (show pch s[k].toNat ≠ 0 by unfold pch; rw [if_pos ha]; omega)
        obtain ⟨ha1, ha2⟩ := ha
        have i1 : (97 : Int) ≤ s[k].toNat := by omega
        have i2 : (s[k].toNat : Int) ≤ 112 := by omega
        go_wp2_with (at_builtin; refine app_own rfl _ _ _ rfl (w.heap.size + 1) 2 (.int .i64 0) 8 Try.underlying30 info_i64 rfl Hok.out rfl rfl rfl hlen (by decide) hbase ?_; intro v' w2 ho hgr hle; have Ho2 := hidd ho; have b2 := hidd (bel_own Hok.out hgr hbase); clear ho hgr)
        go_roundw
        case rel => exact ⟨k + 1, by omega, by go_num, ltSucc' hlt Hgood.out En.out, by rw [Hp.out, ints_snoc, E1.out]; exact Ho2.out, Hb.out.trans b2.out⟩
        case measure => simp [intOf]; omega
      · by_cases hA : 65 ≤ s[k].toNat ∧ s[k].toNat ≤ 80
        · have E1 := hidd (show pch s[k].toNat = -((s[k].toNat : Int) - 65) - 1 by unfold pch; rw [if_neg ha, if_pos hA]; omega)
          have En := hidd (show pch s[k].toNat ≠ 0 by unfold pch; rw [if_neg ha, if_pos hA]; omega)
          obtain ⟨hA1, hA2⟩ := hA
          clear ha
          have i1 : (65 : Int) ≤ s[k].toNat := by omega
          have i2 : (s[k].toNat : Int) ≤ 80 := by omega
          go_wp2_with (at_builtin; refine app_own rfl _ _ _ rfl (w.heap.size + 1) 2 (.int .i64 0) 8 Try.underlying30 info_i64 rfl Hok.out rfl rfl rfl hlen (by decide) hbase ?_; intro v' w2 ho hgr hle; have Ho2 := hidd ho; have b2 := hidd (bel_own Hok.out hgr hbase); clear ho hgr)
          go_roundw
          case rel => exact ⟨k + 1, by omega, by go_num, ltSucc' hlt Hgood.out En.out, by rw [Hp.out, ints_snoc, E1.out]; exact Ho2.out, Hb.out.trans b2.out⟩
          case measure => simp [intOf]; omega
        · have HR := hidd (rdR_bad (g := g) hlt (show pch s[k].toNat = 0 by unfold pch; rw [if_neg ha, if_neg hA]))
          rcases (show s[k].toNat < 65 ∨ (80 < s[k].toNat ∧ s[k].toNat < 97) ∨ 112 < s[k].toNat by omega) with h | ⟨h, h'⟩ | h
          all_goals
            clear ha hA
            (try have i1 : (s[k].toNat : Int) < 65 := by omega)
            (try have i1 : (80 : Int) < s[k].toNat := by omega)
            (try have i2 : (s[k].toNat : Int) < 97 := by omega)
            (try have i1 : (112 : Int) < s[k].toNat := by omega)
            go_wp2
            go_ret2
            exact ⟨⟨_, by rw [HR.out]; rfl, by rw [HR.out]; exact Own.nil _ _ _⟩, B1.out.trans (Hb.out.mono (by omega))⟩
    · have he : k = s.size := by omega
      subst he
      have HR := hidd (rdR_good (g := g) (s := s) fun j hj => Hgood.out j hj (by omega))
      obtain ⟨r, hr⟩ : ∃ r, gwB g.s (pgx s) = r := ⟨_, rfl⟩
      have Hr := hidd hr
      clear hr
      go_wp2_with (refine ldI rfl (.tmp 2) rfl w.heap.size rfl Hm.out ((Hb.out.block w.heap.size (by omega)).trans K1.out) ?_)
      refine (l02Is_any g HO.out.s16 _ ⟨Hm.out⟩ _ (pgt s s.size) _ Hok.out.rdI).mono ?_
      rintro e w2 ⟨rfl, hb⟩
      go_wp2
      go_ret2
      exact ⟨⟨_, by rw [HR.out]; rfl, by rw [HR.out]; exact (Hok.out.below hb).mono (by omega)⟩, (B1.out.trans (Hb.out.mono (by omega))).trans (hb.mono (by omega))⟩

set_option maxHeartbeats 400000 in
theorem specParseGroup_any (m : Mc) (cs : Array Value) (hm : m.Is cs) (s : ByteArray) (w : World) (hs : s.size ≤ 1048576) :
    Calls Try.prog 48 #[.agg cs, .string s] w fun e w' => (∃ v, e = .returned (.tuple #[v, .int .i64 (pgR m s).2]) ∧ Own w' w.heap.size 2 v (ints (pgR m s).1)) ∧ Below w.heap.size w w' := by
  have Hm := hidd hm
  clear hm
  cases hq : m.ok with
  | false =>
    have HR := hidd (pgR_bad (s := s) hq)
    have Hq := hidd hq
    clear hq
    go_enter Try.func48, Try.ntmps48
    go_wp2_with (refine ldI rfl (.tmp 2) rfl w.heap.size rfl Hm.out (hp_new rfl) ?_)
    refine (l01Is_any _ _ Hm.out _).mono ?_
    rintro e w1 ⟨rfl, hb⟩
    rw [Hq.out]
    go_wp2
    go_ret2
    exact ⟨⟨_, by rw [HR.out]; rfl, by rw [HR.out]; exact Own.nil _ _ _⟩, bel_then (bel_alloc _ _) hb⟩
  | true =>
    obtain ⟨g, rfl, hok⟩ := Mc.to_gm hq
    have Hq := hidd hq
    have HO := hidd hok
    clear hq hok
    obtain ⟨r, hr⟩ : ∃ r, rdR g s = r := ⟨_, rfl⟩
    have Hr := hidd hr
    clear hr
    cases hc : r.2 with
    | true =>
      have Hc := hidd hc
      have h1 := rdR_true (g := g) (s := s) (by rw [Hr.out]; exact hc)
      have HR := hidd (pgR_yes Hq.out h1.1)
      have HX := hidd (show r.1 = pgx s by rw [← Hr.out]; exact h1.2)
      clear hc h1
      go_enter Try.func48, Try.ntmps48
      go_wp2_with (refine ldI rfl (.tmp 2) rfl w.heap.size rfl Hm.out (hp_new rfl) ?_)
      refine (l01Is_any _ _ Hm.out _).mono ?_
      rintro e w1 ⟨rfl, hb⟩
      rw [Hq.out]
      have B1 := hidd (bel_then (bel_alloc _ _) hb)
      have K1 := hidd (hp_bel (hp_new rfl) hb : w1.heap[w.heap.size]? = some (.cells cs 27 (0, 0)))
      clear hb
      go_wp2_with (refine ldI rfl (.tmp 2) rfl w.heap.size rfl Hm.out K1.out ?_)
      refine (l02Read_any g HO.out _ Hm.out s _ hs).mono ?_
      rintro e w2 ⟨⟨v, rfl, ho⟩, hb⟩
      rw [Hr.out] at ho ⊢
      rw [Hc.out]
      rw [HX.out] at ho
      have Ho := hidd ho
      clear ho
      go_wp2
      go_ret2
      exact ⟨⟨_, by rw [HR.out]; rfl, by rw [HR.out]; exact Ho.out.mono B1.out.size⟩, bel_then B1.out hb⟩
    | false =>
      have Hc := hidd hc
      have HR := hidd (pgR_no Hq.out (rdR_false (g := g) (s := s) (by rw [Hr.out]; exact hc)))
      clear hc
      go_enter Try.func48, Try.ntmps48
      go_wp2_with (refine ldI rfl (.tmp 2) rfl w.heap.size rfl Hm.out (hp_new rfl) ?_)
      refine (l01Is_any _ _ Hm.out _).mono ?_
      rintro e w1 ⟨rfl, hb⟩
      rw [Hq.out]
      have B1 := hidd (bel_then (bel_alloc _ _) hb)
      have K1 := hidd (hp_bel (hp_new rfl) hb : w1.heap[w.heap.size]? = some (.cells cs 27 (0, 0)))
      clear hb
      go_wp2_with (refine ldI rfl (.tmp 2) rfl w.heap.size rfl Hm.out K1.out ?_)
      refine (l02Read_any g HO.out _ Hm.out s _ hs).mono ?_
      rintro e w2 ⟨⟨v, rfl, ho⟩, hb⟩
      rw [Hr.out] at ho ⊢
      rw [Hc.out]
      clear ho
      go_wp2
      go_ret2
      exact ⟨⟨_, by rw [HR.out]; rfl, by rw [HR.out]; exact Own.nil _ _ _⟩, bel_then B1.out hb⟩
theorem pgR_len (m : Mc) (s : ByteArray) (hs : s.size ≤ 1048576) : (pgR m s).1.length ≤ 1048576 := by
  unfold pgR
  split
  · split
    · show (pgx s).length ≤ _
      unfold pgx; rw [pgt_length]; exact hs
    · exact Nat.zero_le _
  · exact Nat.zero_le _
end Go.Proofs.Ytjnnbjlombopnaa
