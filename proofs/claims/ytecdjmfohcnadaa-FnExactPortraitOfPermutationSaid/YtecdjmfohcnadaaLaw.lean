/- Walks of the laws' own helpers over slices of whole numbers: the copy, the comparison, the marks. -/
import Derived.Test.YtecdjmfohcnadaaSl
import Derived.BigQuiet
import Derived.Deep.QuietTactic
namespace Go.Proofs.Ytecdjmfohcnadaa
open Go.RowKit

theorem retv {v v' : Value} (h : v = v') : Ending.returned v = .returned v' := by rw [h]

set_option maxHeartbeats 400000 in
theorem toInt64S_any (v0 : Value) (xs : List Int) (w : World) (hr : RdI w v0 xs) (hn : xs.length ≤ 1048576) :
    Calls Try.prog 13 #[v0] w fun e w' => (∃ v, e = .returned v ∧ Own w' w.heap.size 2 v (ints xs)) ∧ Below w.heap.size w w' := by
  obtain ⟨A, c, rfl, hr⟩ := hr
  have Hr := hidd hr
  have Hl := hidd (ints_length xs)
  clear hr
  go_enter Try.func13, Try.ntmps13
  go_wp2_with (at_make; refine mk_own rfl _ _ _ rfl w.heap.size 2 (.int .i64 0) 8 Try.underlying22 info_i64 rfl xs.length rfl rfl (by omega) (by omega) (Nat.le_refl _) ?_; intro w1 ho hg hlt)
  have Ho := hidd ho
  have Bel := hidd ((Below.refl w.heap.size w).grown hg (Nat.le_refl _) (fun k hk => by cases hk))
  clear ho hg
  go_loopw [4] (fun i wr => ∃ k : Nat, k ≤ xs.length ∧ i = .int .i64 k ∧ Own wr w.heap.size 2 (.slice (some ⟨w.heap.size, 0, none⟩) xs.length xs.length) (part (ints xs) xs.length k (.int .i64 0)) ∧ Below w.heap.size w wr) (fun i _ => xs.length - (intOf i).toNat)
  case atStart => exact ⟨0, Nat.zero_le _, rfl, by rw [part_zero]; exact Ho.out, Bel.out⟩
  case round =>
    obtain ⟨k, hk, rfl, ho, hb⟩ := hrel
    have Hok := hidd ho
    have Hb := hidd hb
    clear ho hb
    by_cases hlt : k < xs.length
    · obtain ⟨b, o, rfl, hc⟩ := (Hr.out.below Hb.out).get hlt
      have d1 := Hok.out.cell (part_get (ints xs) xs.length k (.int .i64 0) Hl.out hlt)
      have d2 := Hok.out.frozen k
      go_wp2
      go_roundw
      case rel =>
        refine ⟨k + 1, by omega, by go_num, ?_, Hb.out.setCell (Nat.le_refl _) _⟩
        have := Hok.out.store k (.int .i64 xs[k])
        rwa [part_set (ints xs) xs.length k (.int .i64 0) (.int .i64 xs[k]) Hl.out hlt (by rw [ints_get, List.getElem?_eq_getElem hlt]; rfl)] at this
      case measure => simp [intOf]; omega
    · have he : k = xs.length := by omega
      subst he
      go_wp2
      go_ret
      refine ⟨⟨_, rfl, ?_⟩, Hb.out⟩
      have := Hok.out
      rwa [part_all _ _ _ Hl.out] at this

set_option maxHeartbeats 400000 in
theorem eqInt64S_any (v v' : Value) (xs : List Int) (w : World) (hr : RdI w v xs) (hr' : RdI w v' xs) :
    Calls Try.prog 15 #[v, v'] w fun e w' => e = .returned (.bool true) ∧ Below w.heap.size w w' := by
  obtain ⟨A, c, rfl, hr⟩ := hr
  obtain ⟨A', c', rfl, hr'⟩ := hr'
  have hl := hr.1
  rw [ints_length] at hl
  have Hr := hidd hr
  have Hr' := hidd hr'
  clear hr hr'
  go_enter Try.func15, Try.ntmps15
  go_wp2
  go_loopw [5] (fun i wr => ∃ k : Nat, k ≤ xs.length ∧ i = .int .i64 k ∧ ∃ q, wr = w.drewN q) (fun i _ => xs.length - (intOf i).toNat)
  case atStart => exact ⟨0, Nat.zero_le _, rfl, 0, rfl⟩
  case round =>
    obtain ⟨k, hk, rfl, q, rfl⟩ := hrel
    by_cases hlt : k < xs.length
    · obtain ⟨b, o, rfl, hc⟩ := Hr.out.get hlt
      obtain ⟨b', o', rfl, hc'⟩ := Hr'.out.get hlt
      have i1 : (k : Int) < xs.length := by omega
      have i2 : (0 : Int) ≤ k := by omega
      go_wp2
      go_quiet (fail)
      go_wp2
      go_roundw
      case rel => exact ⟨k + 1, by omega, by go_num, _, rfl⟩
      case measure => simp [intOf]; omega
    · go_wp2
      go_ret
      exact ⟨rfl, bel_drewN (Below.refl _ _) _⟩

/-- The marks from s on. -/
def marks (s : Int) (n : Nat) : List Int := (List.range n).map fun i : Nat => s + i
theorem marks_length (s : Int) (n : Nat) : (marks s n).length = n := by simp [marks]
theorem marks_get (s : Int) (n i : Nat) (h : i < n) : (marks s n)[i]? = some (s + i) := by simp [marks, h]
/-- The first k places marked, the rest as it was. -/
def marked (vs : List Value) (s : Int) (k : Nat) : List Value := ints (marks s k) ++ vs.drop k
theorem marked_zero (vs : List Value) (s : Int) : marked vs s 0 = vs := by simp [marked, marks, ints]
theorem marked_all (vs : List Value) (s : Int) : marked vs s vs.length = ints (marks s vs.length) := by simp [marked]
theorem marked_length (vs : List Value) (s : Int) (k : Nat) (hk : k ≤ vs.length) : (marked vs s k).length = vs.length := by simp [marked, ints_length, marks_length]; omega
theorem marked_get (vs : List Value) (s : Int) (k : Nat) : (marked vs s k)[k]? = vs[k]? := by
  unfold marked
  rw [List.getElem?_append_right (by rw [ints_length, marks_length]; omega), ints_length, marks_length]
  simp
theorem marked_set (vs : List Value) (s : Int) (k : Nat) (hk : k < vs.length) : (marked vs s k).set k (.int .i64 (s + k)) = marked vs s (k + 1) := by
  unfold marked
  rw [List.set_append_right _ _ (by rw [ints_length, marks_length]; omega), ints_length, marks_length, Nat.sub_self]
  have e : marks s (k + 1) = marks s k ++ [s + k] := by simp [marks, List.range_succ]
  have e2 : vs.drop k = vs[k] :: vs.drop (k + 1) := List.drop_eq_getElem_cons hk
  rw [e, ints_append, e2]
  rw [List.append_assoc]
  rfl

theorem _root_.Go.World.grownBy.setCell_own {w wr : World} {g n c : Nat} (h : w.grownBy wr (Value.slice (some ⟨g, 0, none⟩) n c).ownBlock) (k : Nat) (u : Value) : w.grownBy (wr.setCell ⟨g, k, none⟩ u) (Value.slice (some ⟨g, 0, none⟩) n c).ownBlock :=
  ⟨h.os, h.tape, h.output, by simpa [World.setCell] using h.size, fun i hi hne => by
    rw [Below.heap_setCell _ _ _ _ (fun e => hne (by rw [e]; rfl))]
    exact h.block i hi hne⟩

set_option maxHeartbeats 400000 in
theorem markInt64S_any (base : Nat) (s : Int) (v : Value) (xs : List Int) (w : World) (ho : Own w base 2 v (ints xs)) (hs0 : 0 ≤ s) (hs : s + xs.length ≤ 1099511627776) :
    Calls Try.prog 20 #[v, .int .i64 s] w fun e w' => e = .returned (.int .i64 (s + xs.length)) ∧ Own w' base 2 v (ints (marks s xs.length)) ∧ w.grownBy w' v.ownBlock := by
  obtain ⟨A, c, rfl⟩ := ho.slice
  rw [ints_length] at *
  have Ho := hidd ho
  have Hl := hidd (ints_length xs)
  clear ho
  go_enter Try.func20, Try.ntmps20
  go_wp2
  go_loopw [1, 5] (fun t i wr => ∃ k : Nat, k ≤ xs.length ∧ i = .int .i64 k ∧ t = .int .i64 (s + k) ∧ Hid (Own wr base 2 (.slice A xs.length c) (marked (ints xs) s k)) ∧ Hid (w.grownBy wr (Value.slice A xs.length c).ownBlock)) (fun _ i _ => xs.length - (intOf i).toNat)
  case atStart => exact ⟨0, Nat.zero_le _, rfl, by go_num, by rw [marked_zero]; exact Ho.out, World.grownBy.refl _ _⟩
  case round =>
    obtain ⟨k, hk, rfl, rfl, Hok, Hg⟩ := hrel
    by_cases hlt : k < xs.length
    · obtain ⟨g, c', h1, hb, hgl⟩ := Hok.out.form (by rw [marked_length _ _ _ (by rw [Hl.out]; exact hk), Hl.out]; omega)
      simp only [Value.slice.injEq] at h1
      obtain ⟨rfl, _, _⟩ := h1
      have d1 := Hok.out.cell (v := .int .i64 xs[k]) (by rw [marked_get, ints_get, List.getElem?_eq_getElem hlt]; rfl)
      have d2 := Hok.out.frozen k
      go_wp2
      go_roundw
      case rel =>
        refine ⟨k + 1, by omega, by go_num, by go_num, ?_, Hg.out.setCell_own k _⟩
        have := Hok.out.store k (.int .i64 (s + k))
        rwa [marked_set _ _ _ (by rw [Hl.out]; exact hlt)] at this
      case measure => simp [intOf]; omega
    · have he : k = xs.length := by omega
      subst he
      go_wp2
      go_ret
      refine ⟨rfl, ?_, Hg.out⟩
      have := Hok.out
      have e := marked_all (ints xs) s
      rw [Hl.out] at e
      rwa [e] at this

set_option maxHeartbeats 400000 in
theorem heldInt64S_any (v : Value) (s : Int) (n : Nat) (w : World) (hr : RdI w v (marks s n)) (hs0 : 0 ≤ s) (hs : s + n ≤ 1099511627776) :
    Calls Try.prog 21 #[v, .int .i64 s] w fun e w' => e = .returned (.int .i64 (s + n)) ∧ w = w' := by
  obtain ⟨A, c, rfl, hr⟩ := hr
  rw [marks_length]
  have Hr := hidd hr
  clear hr
  go_enter Try.func21, Try.ntmps21
  go_wp2
  go_loop [1, 5] (fun t i => ∃ k : Nat, k ≤ n ∧ i = .int .i64 k ∧ t = .int .i64 (s + k)) (fun _ i => n - (intOf i).toNat)
  case atStart => exact ⟨0, Nat.zero_le _, rfl, by go_num⟩
  case round =>
    obtain ⟨k, hk, rfl, rfl⟩ := hrel
    by_cases hlt : k < n
    · obtain ⟨b, o, rfl, hc⟩ := Hr.out.at_ (v := .int .i64 (s + k)) (by rw [ints_get, marks_get _ _ _ hlt]; rfl)
      go_wp2
      go_round
      case rel => exact ⟨k + 1, by omega, by go_num, by go_num⟩
      case measure => simp [intOf]; omega
    · have he : k = n := by omega
      subst he
      go_wp2
      go_ret
      exact ⟨rfl, rfl⟩

/-! ### What stays as it was where a slice of the law's own is written -/
theorem own_ne {wa wb : World} {ba bb : Nat} {ea eb : TypeId} {va vb : Value} {la lb : List Value} (ha : Own wa ba ea va la) (hb : Own wb bb eb vb lb) (h : wa.heap.size ≤ bb) : va.ownBlock = none ∨ va.ownBlock ≠ vb.ownBlock := by
  cases hv : va.ownBlock with
  | none => exact .inl rfl
  | some k =>
    right
    intro e
    have h1 := (ha.block k hv).2
    have h2 := (hb.block k e.symm).1
    omega
theorem own_ne' {wa wb : World} {ba bb : Nat} {ea eb : TypeId} {va vb : Value} {la lb : List Value} (ha : Own wa ba ea va la) (hb : Own wb bb eb vb lb) (h : wa.heap.size ≤ bb) : vb.ownBlock = none ∨ vb.ownBlock ≠ va.ownBlock := by
  rcases own_ne ha hb h with h1 | h1
  · cases hv : vb.ownBlock with
    | none => exact .inl rfl
    | some k => right; rw [h1]; exact fun e => by cases e
  · exact .inr (Ne.symm h1)
theorem bel_mark {w wa wb : World} {base : Nat} {e : TypeId} {v : Value} {vs : List Value} (B : Below w.heap.size w wa) (ho : Own wa base e v vs) (hg : wa.grownBy wb v.ownBlock) (hb : w.heap.size ≤ base) : Below w.heap.size w wb :=
  B.grown hg B.size (fun k hk => Nat.le_trans hb (ho.block k hk).1)
theorem hp_mark {wa wb : World} {base : Nat} {e : TypeId} {v : Value} {vs : List Value} {k : Nat} {x : Obj} (h : wa.heap[k]? = some x) (ho : Own wa base e v vs) (hg : wa.grownBy wb v.ownBlock) (hb : k < base) : wb.heap[k]? = some x :=
  (hg.block k (hp_lt h) (fun hh => by have := (ho.block k hh.symm).1; omega)).trans h
end Go.Proofs.Ytecdjmfohcnadaa
