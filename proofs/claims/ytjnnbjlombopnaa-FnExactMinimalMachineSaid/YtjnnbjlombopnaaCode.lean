/- Walks: IsGroupWord and the codes of arguments, of the program and of the reference. -/
import Derived.Test.YtjnnbjlombopnaaGw
namespace Go.Proofs.Ytjnnbjlombopnaa
open Go.RowKit

def numOk (s : Nat) (k : Int) : Bool := decide (k ≠ 0 ∧ -(s : Int) ≤ k ∧ k ≤ s)
def gwB (s : Nat) (xs : List Int) : Bool := decide (xs.length ≤ 40) && xs.all (numOk s)
theorem num_no0 {s : Nat} {k : Int} (h : k = 0) : numOk s k = false := by unfold numOk; simp [h]
theorem num_no1 {s : Nat} {k : Int} (h : ¬ (-(s : Int) ≤ k ∧ k ≤ s)) : numOk s k = false := by unfold numOk; simp only [decide_eq_false_iff_not]; omega
theorem num_yes {s : Nat} {k : Int} (h0 : ¬ k = 0) (h : -(s : Int) ≤ k ∧ k ≤ s) : numOk s k = true := by unfold numOk; simp only [decide_eq_true_eq]; omega
theorem all_no {α : Type} {p : α → Bool} {l : List α} {k : Nat} (hk : k < l.length) (h : p l[k] = false) : l.all p = false := by
  rw [Bool.eq_false_iff]
  intro hc
  have := List.all_eq_true.1 hc l[k] (List.getElem_mem hk)
  rw [h] at this; cases this
theorem all_yes {α : Type} {p : α → Bool} {l : List α} (h : ∀ k, (hk : k < l.length) → p l[k] = true) : l.all p = true :=
  List.all_eq_true.2 fun x hx => by
    obtain ⟨i, hi, rfl⟩ := List.getElem_of_mem hx
    exact h i hi
theorem ltSucc' {n : Nat} {p : (k : Nat) → k < n → Prop} {k : Nat} (hk : k < n) (h : ∀ j, (hj : j < n) → j < k → p j hj) (hp : p k hk) : ∀ j, (hj : j < n) → j < k + 1 → p j hj := by
  intro j hj hlt
  by_cases e : j = k
  · subst e; exact hp
  · exact h j hj (by omega)

set_option maxHeartbeats 1000000 in
theorem l02Numbers_any (g : Gm) (hok : g.s ≤ 16) (cs : Array Value) (hg : g.Is cs) (v : Value) (xs : List Int) (w : World) (hr : RdI w v xs) :
    Calls Try.prog 179 #[.agg cs, v] w fun e w' => e = .returned (.bool (xs.all (numOk g.s))) ∧ Below w.heap.size w w' := by
  obtain ⟨A, c, rfl, hr⟩ := hr
  have hl := hr.1
  rw [ints_length] at hl
  have c1 := hg.s
  have Hg := hidd hg
  have Hr := hidd hr
  clear hg hr
  go_enter Try.func179, Try.ntmps179
  go_wp2
  obtain ⟨w1, hw1⟩ : ∃ w1, w1 = w.alloc (.cells cs 27) := ⟨_, rfl⟩
  rw [← hw1]
  have Bel := hidd (show Below w.heap.size w w1 by rw [hw1]; exact (Below.refl _ _).alloc (Nat.le_refl _) _)
  have A1 := hidd (show g.At w1 w.heap.size 0 by rw [hw1]; exact Gm.At.of_is Hg.out (hp_new rfl))
  have R1 := hidd (Hr.out.below Bel.out)
  clear hw1 c1
  go_loopw [5] (fun i wr => ∃ k : Nat, k ≤ xs.length ∧ i = .int .i64 k ∧ Hid (∀ j, (hj : j < xs.length) → j < k → numOk g.s xs[j] = true) ∧ Hid (Below w1.heap.size w1 wr)) (fun i _ => xs.length - (intOf i).toNat)
  case atStart => exact ⟨0, Nat.zero_le _, rfl, fun j _ h => by omega, Below.refl _ _⟩
  case round =>
    obtain ⟨k, hk, rfl, Hn, Hb⟩ := hrel
    by_cases hlt : k < xs.length
    · obtain ⟨b, o, rfl, hc⟩ := (R1.out.below Hb.out).get hlt
      have i1 : (k : Int) < xs.length := by omega
      have i2 : (0 : Int) ≤ k := by omega
      have i3 : (g.s : Int) ≤ 16 := by omega
      have a1 := (A1.out.bel Hb.out).s
      obtain ⟨z, hz⟩ : ∃ z, z = xs[k] := ⟨_, rfl⟩
      rw [← hz] at hc
      have Hz := hidd hz
      clear hz
      by_cases h0 : z = 0
      · have H := hidd (num_no0 (s := g.s) h0)
        have b0 : (z == 0) = true := by simp [h0]
        have H0 := hidd h0
        clear h0
        go_wp2
        go_quiet (fail)
        go_wp2
        go_ret
        exact ⟨ret_b (all_no hlt (by rw [← Hz.out]; exact H.out)).symm, bel_then Bel.out (bel_drewN Hb.out _)⟩
      · have b0 : (z == 0) = false := by simp [h0]
        by_cases h1 : -(g.s : Int) ≤ z ∧ z ≤ g.s
        · have H := hidd (num_yes h0 h1)
          obtain ⟨h1a, h1b⟩ := h1
          clear h0
          go_wp2
          go_quiet ((go_at_call 131; exact quietS (l01In_yes _ _ _ _ (by omega) (by omega))))
          go_wp2
          go_roundw
          case rel => exact ⟨k + 1, by omega, by go_num, ltSucc' hlt Hn.out (by rw [← Hz.out]; exact H.out), bel_drewN Hb.out _⟩
          case measure => simp [intOf]; omega
        · have H := hidd (num_no1 h1)
          clear h0
          go_wp2
          go_quiet ((go_at_call 131; exact quietS (l01In_no _ _ _ _ (by omega))))
          go_wp2
          go_ret
          exact ⟨ret_b (all_no hlt (by rw [← Hz.out]; exact H.out)).symm, bel_then Bel.out (bel_drewN Hb.out _)⟩
    · go_wp2
      go_ret
      exact ⟨ret_b (all_yes fun j hj => Hn.out j hj (by omega)).symm, bel_then Bel.out Hb.out⟩

theorem l02Is_any (g : Gm) (hok : g.s ≤ 16) (cs : Array Value) (hg : g.Is cs) (v : Value) (xs : List Int) (w : World) (hr : RdI w v xs) :
    Calls Try.prog 109 #[.agg cs, v] w fun e w' => e = .returned (.bool (gwB g.s xs)) ∧ Below w.heap.size w w' := by
  obtain ⟨A, c, rfl, hr⟩ := hr
  have hl := hr.1
  rw [ints_length] at hl
  have Hg := hidd hg
  have Hr := hidd hr
  clear hg hr
  by_cases h40 : xs.length ≤ 40
  · go_enter Try.func109, Try.ntmps109
    go_wp2_with (refine ldI rfl (.tmp 2) rfl w.heap.size rfl Hg.out.is (hp_new rfl) ?_)
    refine (l02Numbers_any g hok cs Hg.out _ xs _ ⟨A, c, rfl, Hr.out.below ((Below.refl _ _).alloc (Nat.le_refl _) _)⟩).mono ?_
    rintro e w' ⟨rfl, hb⟩
    go_wp2
    go_ret
    exact ⟨ret_b (by unfold gwB; rw [decide_eq_true h40, Bool.true_and]), bel_then ((Below.refl _ _).alloc (Nat.le_refl _) _) hb⟩
  · go_enter Try.func109, Try.ntmps109
    go_wp2
    go_ret
    exact ⟨ret_b (by unfold gwB; rw [decide_eq_false h40, Bool.false_and]), (Below.refl _ _).alloc (Nat.le_refl _) _⟩
/-- A group word of something that need not be a machine. -/
def Mc.gwB (m : Mc) (xs : List Int) : Bool := m.ok && Ytjnnbjlombopnaa.gwB m.S.toNat xs
theorem specIsGroupWord_any (m : Mc) (cs : Array Value) (hm : m.Is cs) (v : Value) (xs : List Int) (w : World) (hr : RdI w v xs) :
    Calls Try.prog 35 #[.agg cs, v] w fun e w' => e = .returned (.bool (m.gwB xs)) ∧ Below w.heap.size w w' := by
  obtain ⟨A, c, rfl, hr⟩ := hr
  have Hm := hidd hm
  have Hr := hidd hr
  clear hm hr
  cases hq : m.ok with
  | false =>
    have Hq := hidd hq
    clear hq
    go_enter Try.func35, Try.ntmps35
    go_wp2_with (refine ldI rfl (.tmp 2) rfl w.heap.size rfl Hm.out (hp_new rfl) ?_)
    refine (l01Is_any m cs Hm.out _).mono ?_
    rintro e w' ⟨rfl, hb⟩
    rw [Hq.out]
    go_wp2
    go_ret
    exact ⟨ret_b (by unfold Mc.gwB; rw [Hq.out]; rfl), bel_then ((Below.refl _ _).alloc (Nat.le_refl _) _) hb⟩
  | true =>
    obtain ⟨g, rfl, hok⟩ := Mc.to_gm hq
    have Hq := hidd hq
    have Hok := hidd hok
    clear hq hok
    go_enter Try.func35, Try.ntmps35
    go_wp2_with (refine ldI rfl (.tmp 2) rfl w.heap.size rfl Hm.out (hp_new rfl) ?_)
    refine (l01Is_any g.mc cs Hm.out _).mono ?_
    rintro e w' ⟨rfl, hb⟩
    rw [Hq.out]
    have B1 := hidd (bel_then ((Below.refl _ _).alloc (Nat.le_refl _) _) hb)
    have K1 := hidd (hp_bel (hp_new rfl) hb : w'.heap[w.heap.size]? = some (.cells cs 27 (0, 0)))
    clear hb
    go_wp2_with (refine ldI rfl (.tmp 2) rfl w.heap.size rfl Hm.out K1.out ?_)
    refine (l02Is_any g Hok.out.s16 cs ⟨Hm.out⟩ _ xs _ ⟨A, c, rfl, Hr.out.below B1.out⟩).mono ?_
    rintro e w2 ⟨rfl, hb2⟩
    go_wp2
    go_ret
    exact ⟨ret_b (by unfold Mc.gwB; rw [Hq.out]; rfl), bel_then B1.out hb2⟩

/-! ### The program's -/
theorem gwClosure (g : Gm) (hok : g.s ≤ 16) (b : Nat) (k : Int) (w : World) (hA : g.At w b 0) :
    Calls Try.prog 111 #[.int .i64 k, .pointer (some ⟨b, 0, none⟩)] w fun e w' => e = .returned (.bool (!numOk g.s k)) ∧ Below w.heap.size w w' := by
  have a1 := hA.s
  have i3 : (g.s : Int) ≤ 16 := by omega
  clear hA
  by_cases h0 : k = 0
  · have H := hidd (num_no0 (s := g.s) h0)
    have b0 : (k == 0) = true := by simp [h0]
    clear h0
    go_enter Try.func111, Try.ntmps111
    go_wp2
    go_ret
    exact ⟨ret_b (by rw [H.out]; rfl), Below.refl _ _⟩
  · have b0 : (k == 0) = false := by simp [h0]
    by_cases h1 : -(g.s : Int) ≤ k ∧ k ≤ g.s
    · have H := hidd (num_yes h0 h1)
      obtain ⟨h1a, h1b⟩ := h1
      clear h0
      go_enter Try.func111, Try.ntmps111
      go_wp2_with (go_at_call 107; refine (within_yes _ _ _ _ (by omega) (by omega)).mono ?_; rintro e w1 ⟨rfl, rfl⟩)
      go_ret
      exact ⟨ret_b (by rw [H.out]; rfl), Below.refl _ _⟩
    · have H := hidd (num_no1 h1)
      clear h0
      go_enter Try.func111, Try.ntmps111
      go_wp2_with (go_at_call 107; refine (within_no _ _ _ _ (by omega)).mono ?_; rintro e w1 ⟨rfl, rfl⟩)
      go_ret
      exact ⟨ret_b (by rw [H.out]; rfl), Below.refl _ _⟩
theorem getD_lt {α : Type} {l : List α} {j : Nat} (d : α) (hj : j < l.length) : l.getD j d = l[j] := by rw [List.getD_eq_getElem?_getD, List.getElem?_eq_getElem hj, Option.getD_some]
theorem any_not {α : Type} (p : α → Bool) (l : List α) (d : α) : (List.range l.length).any (fun j => !p (l.getD j d)) = !l.all p := by
  rw [Bool.eq_iff_iff, Bool.not_eq_true', List.all_eq_false]
  simp only [List.any_eq_true, List.mem_range, Bool.not_eq_true']
  constructor
  · rintro ⟨j, hj, h⟩
    exact ⟨l.getD j d, by rw [getD_lt d hj]; exact List.getElem_mem hj, by rw [h]; exact Bool.false_ne_true⟩
  · rintro ⟨x, hx, h⟩
    obtain ⟨i, hi, rfl⟩ := List.getElem_of_mem hx
    exact ⟨i, hi, by rw [getD_lt d hi]; simpa using h⟩
theorem ints_e (xs : List Int) : ∀ j, j < (ints xs).length → (ints xs)[j]? = some ((fun j => .int .i64 (xs.getD j 0)) j) := by
  intro j hj
  rw [ints_length] at hj
  rw [ints_get, List.getElem?_eq_getElem hj]
  simp [List.getElem?_eq_getElem hj]
theorem implIsGroupWord_any (m : Mc) (cs : Array Value) (hm : m.Is cs) (v : Value) (xs : List Int) (w : World) (hr : RdI w v xs) :
    Calls Try.prog 37 #[.agg cs, v] w fun e w' => e = .returned (.bool (m.gwB xs)) ∧ Below w.heap.size w w' := by
  obtain ⟨A, c, rfl, hr⟩ := hr
  have hl := hr.1
  rw [ints_length] at hl
  have Hm := hidd hm
  have Hr := hidd hr
  clear hm hr
  cases hq : m.ok with
  | false =>
    have Hq := hidd hq
    clear hq
    go_enter Try.func37, Try.ntmps37
    go_wp2_with (refine ldI rfl (.tmp 2) rfl w.heap.size rfl Hm.out (hp_new rfl) ?_)
    refine (implIsMachine_any m cs Hm.out _).mono ?_
    rintro e w' ⟨rfl, hb⟩
    rw [Hq.out]
    go_wp2
    go_ret
    exact ⟨ret_b (by unfold Mc.gwB; rw [Hq.out]; rfl), bel_then ((Below.refl _ _).alloc (Nat.le_refl _) _) hb⟩
  | true =>
    obtain ⟨g, rfl, hok⟩ := Mc.to_gm hq
    have Hq := hidd hq
    have Hok := hidd hok
    clear hq hok
    go_enter Try.func37, Try.ntmps37
    go_wp2_with (refine ldI rfl (.tmp 2) rfl w.heap.size rfl Hm.out (hp_new rfl) ?_)
    refine (implIsMachine_any g.mc cs Hm.out _).mono ?_
    rintro e w' ⟨rfl, hb⟩
    rw [Hq.out]
    have B1 := hidd (bel_then ((Below.refl _ _).alloc (Nat.le_refl _) _) hb)
    have K1 := hidd (hp_bel (hp_new rfl) hb : w'.heap[w.heap.size]? = some (.cells cs 27 (0, 0)))
    clear hb
    by_cases h40 : xs.length ≤ 40
    · go_wp2_with fail
      rw [← ints_length xs]
      refine (containsFunc64 111 _ (enters_of Try.func111 (by kernel_rfl) rfl) A c (ints xs) _ (fun j => !numOk g.s (xs.getD j 0)) _ (Hr.out.below B1.out) (ints_e xs) ?_).mono ?_
      · intro j W hj hb
        exact gwClosure g Hok.out.s16 _ _ W (Gm.At.of_is ⟨Hm.out⟩ (hp_bel K1.out hb))
      rw [ints_length, any_not]
      rintro e w2 ⟨rfl, hb2⟩
      go_wp2
      go_ret
      exact ⟨ret_b (by unfold Mc.gwB Ytjnnbjlombopnaa.gwB; rw [Hq.out, decide_eq_true h40, Bool.true_and, Bool.true_and]; rfl), bel_then B1.out hb2⟩
    · go_wp2
      go_ret
      exact ⟨ret_b (by unfold Mc.gwB Ytjnnbjlombopnaa.gwB; rw [Hq.out, decide_eq_false h40]; rfl), B1.out⟩
end Go.Proofs.Ytjnnbjlombopnaa
