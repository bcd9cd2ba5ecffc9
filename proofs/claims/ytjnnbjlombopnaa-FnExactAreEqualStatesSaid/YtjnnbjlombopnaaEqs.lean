/- Walks: AreEqualStates, of the reference and of the program. -/
import Derived.Test.YtjnnbjlombopnaaLea
namespace Go.Proofs.Ytjnnbjlombopnaa
open Go.RowKit

def noWord : ByteArray := ⟨#[]⟩
def eqsR (m : Mc) (a b : Int) : Bool × Int := (decide (codeB m noWord [a, b] = 0) && decide (m.gm.lst a.toNat = m.gm.lst b.toNat), codeB m noWord [a, b])
theorem wordB_no (L : Int) : wordB L noWord = true := by
  simp only [wordB, noWord, lettersB, Bool.and_eq_true, List.all_eq_true, List.mem_range]
  exact ⟨fun x hx => absurd hx (Nat.not_lt_zero x), rfl⟩

set_option maxRecDepth 100000 in
set_option maxHeartbeats 1000000 in
theorem implAreEqualStates_any (m : Mc) (cs : Array Value) (hm : m.Is cs) (a b : Int) (w : World) :
    Calls Try.prog 59 #[.agg cs, .int .i64 a, .int .i64 b] w fun e w' => e = .returned (.tuple #[.bool (eqsR m a b).1, .int .i64 (eqsR m a b).2]) ∧ Below w.heap.size w w' := by
  have Hm := hidd hm
  clear hm
  by_cases hc : codeB m noWord [a, b] = 0
  · obtain ⟨h1, _, h3⟩ := codeB_zero hc
    obtain ⟨g, rfl, hok⟩ := Mc.to_gm h1
    have hab : (0 ≤ a ∧ a ≤ (g.s : Int) - 1) ∧ (0 ≤ b ∧ b ≤ (g.s : Int) - 1) := by
      simp only [List.all_cons, List.all_nil, Bool.and_true, Bool.and_eq_true, inS, decide_eq_true_eq] at h3
      exact h3
    obtain ⟨q, rfl⟩ : ∃ q : Nat, a = q := ⟨a.toNat, by omega⟩
    obtain ⟨r, rfl⟩ : ∃ r : Nat, b = r := ⟨b.toNat, by omega⟩
    have hq : q < g.s := by omega
    have hr : r < g.s := by omega
    have HR := hidd (show eqsR g.mc q r = (decide (g.lst q = g.lst r), 0) by unfold eqsR; rw [hc]; rfl)
    have Hc := hidd hc
    have HO := hidd hok
    clear h1 h3 hab hc hok
    go_enter Try.func59, Try.ntmps59
    go_wp2_with (refine ldI rfl (.tmp 3) rfl w.heap.size rfl Hm.out (hp_new rfl) ?_)
    refine (codeOf_any _ cs Hm.out noWord _ [(q : Int), (r : Int)] _ (by decide) ?_).mono ?_
    · exact RdI.lit2 _ _ _ _ _ (by simp)
    rintro e w1 ⟨rfl, hb⟩
    rw [Hc.out]
    have B1 := hidd (bel_then ((bel_alloc w (.cells cs 27)).alloc (by simp) _) hb)
    have K1 := hidd (hp_bel (hp_old (hp_new rfl)) hb : w1.heap[w.heap.size]? = some (.cells cs 27 (0, 0)))
    clear hb
    go_wp2_with fail
    refine (table_any g HO.out w.heap.size 0 _ (Gm.At.of_is ⟨Hm.out⟩ K1.out)).mono ?_
    rintro e w2 ⟨rfl, ht, hb⟩
    have B2 := hidd (bel_then B1.out hb)
    have HT := hidd ht
    clear ht hb
    go_wp2_with fail
    refine (least_any g HO.out _ _ HT.out).mono ?_
    rintro e w3 ⟨⟨v, rfl, hv⟩, hb⟩
    have B3 := hidd (bel_then B2.out hb)
    obtain ⟨Av, cv, rfl, hvv⟩ := hv
    rw [ivL_len]
    have cells : ∀ p, p < g.s → ∃ b o, Av = some ⟨b, o, none⟩ ∧ w3.cell? ⟨b, o + p, none⟩ = some (.int .i64 (g.lst p : Nat)) := fun p hp => by
      obtain ⟨b, o, e, h⟩ := hvv.get (show p < (ivL g.lst g.s).length by rw [ivL_len]; exact hp)
      rw [ivL_get _ hp] at h
      exact ⟨b, o, e, h⟩
    obtain ⟨bv, ov, rfl, c1⟩ := cells q hq
    obtain ⟨b', o', e', c2⟩ := cells r hr
    cases e'
    have j1 : (q : Int) < g.s := by omega
    have j2 : (r : Int) < g.s := by omega
    clear cells hvv hb
    by_cases he : g.lst q = g.lst r
    · have hd : ((g.lst q : Int) == (g.lst r : Int)) = true := beq_iff_eq.2 (by omega)
      have He := hidd he
      clear he
      go_wp2_with fail
      go_quiet (fail)
      go_wp2_with fail
      go_ret2
      exact ⟨by rw [HR.out, decide_eq_true He.out]; rfl, bel_drewN B3.out _⟩
    · have hd : ((g.lst q : Int) == (g.lst r : Int)) = false := beq_eq_false_iff_ne.2 (by omega)
      have He := hidd he
      clear he
      go_wp2_with fail
      go_quiet (fail)
      go_wp2_with fail
      go_ret2
      exact ⟨by rw [HR.out, decide_eq_false He.out]; rfl, bel_drewN B3.out _⟩
  · have HR := hidd (show eqsR m a b = (false, codeB m noWord [a, b]) by unfold eqsR; rw [decide_eq_false hc]; rfl)
    obtain ⟨c, hcc⟩ : ∃ c, codeB m noWord [a, b] = c := ⟨_, rfl⟩
    rw [hcc] at hc
    have h1 : (c == 0) = false := by simp [hc]
    have h2 : (c != 0) = true := by simp [hc]
    have Hc := hidd hcc
    clear hc hcc
    go_enter Try.func59, Try.ntmps59
    go_wp2_with (refine ldI rfl (.tmp 3) rfl w.heap.size rfl Hm.out (hp_new rfl) ?_)
    refine (codeOf_any _ cs Hm.out noWord _ [a, b] _ (by decide) ?_).mono ?_
    · exact RdI.lit2 _ _ _ _ _ (by simp)
    rintro e w1 ⟨rfl, hb⟩
    rw [Hc.out]
    go_wp2
    go_ret2
    exact ⟨by rw [HR.out, Hc.out]; rfl, bel_then ((bel_alloc w (.cells cs 27)).alloc (by simp) _) hb⟩
set_option maxRecDepth 100000 in
set_option maxHeartbeats 1000000 in
theorem specAreEqualStates_any (m : Mc) (cs : Array Value) (hm : m.Is cs) (a b : Int) (w : World) :
    Calls Try.prog 58 #[.agg cs, .int .i64 a, .int .i64 b] w fun e w' => e = .returned (.tuple #[.bool (eqsR m a b).1, .int .i64 (eqsR m a b).2]) ∧ Below w.heap.size w w' := by
  have Hm := hidd hm
  clear hm
  cases hok : m.ok with
  | false =>
    have HR := hidd (show eqsR m a b = (false, 1) by unfold eqsR; rw [codeB_bad hok]; rfl)
    have Hq := hidd hok
    clear hok
    go_enter Try.func58, Try.ntmps58
    go_wp2_with (refine ldI rfl (.tmp 3) rfl w.heap.size rfl Hm.out (hp_new rfl) ?_)
    refine (l01Is_any m cs Hm.out _).mono ?_
    rintro e w1 ⟨rfl, hb⟩
    rw [Hq.out]
    go_wp2
    go_ret2
    exact ⟨by rw [HR.out]; rfl, bel_then (bel_alloc _ _) hb⟩
  | true =>
    have Hq := hidd hok
    obtain ⟨g, rfl, hok'⟩ := Mc.to_gm hok
    have HO := hidd hok'
    have s16 := hok'.s16
    clear hok'
    by_cases ha : 0 ≤ a ∧ a ≤ (g.s : Int) - 1
    · by_cases hb : 0 ≤ b ∧ b ≤ (g.s : Int) - 1
      · have hall : [a, b].all (inS g.mc) = true := by
          simp only [List.all_cons, List.all_nil, Bool.and_true, Bool.and_eq_true, inS, decide_eq_true_eq]
          exact ⟨ha, hb⟩
        have hc := codeB_yes (s := noWord) hok (wordB_no _) hall
        obtain ⟨q, rfl⟩ : ∃ q : Nat, a = q := ⟨a.toNat, by omega⟩
        obtain ⟨r, rfl⟩ : ∃ r : Nat, b = r := ⟨b.toNat, by omega⟩
        have hq : q < g.s := by omega
        have hr : r < g.s := by omega
        have HR := hidd (show eqsR g.mc q r = (decide (g.lst q = g.lst r), 0) by unfold eqsR; rw [hc]; rfl)
        clear hc hall hok ha hb
        go_enter Try.func58, Try.ntmps58
        go_wp2_with (refine ldI rfl (.tmp 3) rfl w.heap.size rfl Hm.out (hp_new rfl) ?_)
        refine (l01Is_any g.mc cs Hm.out _).mono ?_
        rintro e w1 ⟨rfl, hb⟩
        rw [Hq.out]
        have B1 := hidd (bel_then (bel_alloc _ _) hb)
        have K1 := hidd (hp_bel (hp_new rfl) hb : w1.heap[w.heap.size]? = some (.cells cs 27 (0, 0)))
        clear hb
        have a1 := (Gm.At.of_is ⟨Hm.out⟩ K1.out : g.At w1 w.heap.size 0).s
        go_wp2_with (first | (go_at_call 131; refine (l01In_yes _ _ _ _ (by omega) (by omega)).mono ?_; rintro e w9 ⟨rfl, rfl⟩) | (refine ldI rfl (.tmp 3) rfl w.heap.size rfl Hm.out K1.out ?_))
        refine (l01Classes_any g HO.out cs ⟨Hm.out⟩ _).mono ?_
        rintro e w2 ⟨rfl, hb⟩
        have B2 := hidd (bel_then B1.out hb)
        clear hb
        go_wp2_with (refine stAI rfl (.tmp 8) (.tmp 29) rfl w2.heap.size _ (fun _ => rfl) (hp_new rfl) (by rfl) (by rfl) (by rfl) ?_)
        rw [setRow_alloc _ _ rfl]
        obtain ⟨w3, hw3⟩ : ∃ w3, w3 = w2.alloc (.cells (iv g.ls16 16) 105) := ⟨_, rfl⟩
        change Code.wp _ _ _ _ (w2.alloc (.cells (iv g.ls16 16) 105))
        rw [← hw3]
        have B3 := hidd (show Below w.heap.size w w3 by rw [hw3]; exact bel_then B2.out (bel_alloc _ _))
        have A3 : w3.heap[w2.heap.size]? = some (.cells (iv g.ls16 16) 105 (0, 0)) := by rw [hw3]; exact hp_new rfl
        have c1 := (blkc A3 q).trans (iv_get g.ls16 (by omega))
        have c2 := (blkc A3 r).trans (iv_get g.ls16 (by omega))
        rw [show g.ls16 q = g.lst q from if_pos hq] at c1
        rw [show g.ls16 r = g.lst r from if_pos hr] at c2
        have j1 : (q : Int) < 16 := by omega
        have j2 : (r : Int) < 16 := by omega
        clear hw3 A3 a1
        by_cases he : g.lst q = g.lst r
        · have hd : ((g.lst q : Int) == (g.lst r : Int)) = true := beq_iff_eq.2 (by omega)
          have He := hidd he
          clear he
          go_quiet (fail)
          go_wp2_with fail
          go_ret2
          exact ⟨by rw [HR.out, decide_eq_true He.out]; rfl, bel_drewN B3.out _⟩
        · have hd : ((g.lst q : Int) == (g.lst r : Int)) = false := beq_eq_false_iff_ne.2 (by omega)
          have He := hidd he
          clear he
          go_quiet (fail)
          go_wp2_with fail
          go_ret2
          exact ⟨by rw [HR.out, decide_eq_false He.out]; rfl, bel_drewN B3.out _⟩
      · have hall : [a, b].all (inS g.mc) = false := by
          rw [Bool.eq_false_iff]
          intro h
          simp only [List.all_cons, List.all_nil, Bool.and_true, Bool.and_eq_true, inS, decide_eq_true_eq] at h
          exact hb h.2
        have hc := codeB_no (s := noWord) hok (wordB_no _) hall
        have HR := hidd (show eqsR g.mc a b = (false, 2) by unfold eqsR; rw [hc]; rfl)
        have Hb := hidd hb
        have ha1 := ha.1
        have ha2 := ha.2
        clear hc hall hok hb ha
        go_enter Try.func58, Try.ntmps58
        go_wp2_with (refine ldI rfl (.tmp 3) rfl w.heap.size rfl Hm.out (hp_new rfl) ?_)
        refine (l01Is_any g.mc cs Hm.out _).mono ?_
        rintro e w1 ⟨rfl, hb⟩
        rw [Hq.out]
        have B1 := hidd (bel_then (bel_alloc _ _) hb)
        have K1 := hidd (hp_bel (hp_new rfl) hb : w1.heap[w.heap.size]? = some (.cells cs 27 (0, 0)))
        clear hb
        have a1 := (Gm.At.of_is ⟨Hm.out⟩ K1.out : g.At w1 w.heap.size 0).s
        go_wp2_with (first | (go_at_call 131; refine (l01In_yes _ _ _ _ (by omega) (by omega)).mono ?_; rintro e w9 ⟨rfl, rfl⟩) | (go_at_call 131; refine (l01In_no _ _ _ _ (by have := Hb.out; omega)).mono ?_; rintro e w9 ⟨rfl, rfl⟩))
        go_ret2
        exact ⟨by rw [HR.out]; rfl, B1.out⟩
    · have hall : [a, b].all (inS g.mc) = false := by
        rw [Bool.eq_false_iff]
        intro h
        simp only [List.all_cons, List.all_nil, Bool.and_true, Bool.and_eq_true, inS, decide_eq_true_eq] at h
        exact ha h.1
      have hc := codeB_no (s := noWord) hok (wordB_no _) hall
      have HR := hidd (show eqsR g.mc a b = (false, 2) by unfold eqsR; rw [hc]; rfl)
      have Ha := hidd ha
      clear hc hall hok ha
      go_enter Try.func58, Try.ntmps58
      go_wp2_with (refine ldI rfl (.tmp 3) rfl w.heap.size rfl Hm.out (hp_new rfl) ?_)
      refine (l01Is_any g.mc cs Hm.out _).mono ?_
      rintro e w1 ⟨rfl, hb⟩
      rw [Hq.out]
      have B1 := hidd (bel_then (bel_alloc _ _) hb)
      have K1 := hidd (hp_bel (hp_new rfl) hb : w1.heap[w.heap.size]? = some (.cells cs 27 (0, 0)))
      clear hb
      have a1 := (Gm.At.of_is ⟨Hm.out⟩ K1.out : g.At w1 w.heap.size 0).s
      go_wp2_with (go_at_call 131; refine (l01In_no _ _ _ _ (by have := Ha.out; omega)).mono ?_; rintro e w9 ⟨rfl, rfl⟩)
      go_ret2
      exact ⟨by rw [HR.out]; rfl, B1.out⟩
end Go.Proofs.Ytjnnbjlombopnaa
