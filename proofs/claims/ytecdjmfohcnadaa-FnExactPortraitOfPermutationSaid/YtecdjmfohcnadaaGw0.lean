/- Walks: slices.IndexFunc and ContainsFunc for whatever predicate; the words of letters. -/
import Derived.Test.YtecdjmfohcnadaaWi
import Derived.Test.YtecdjmfohcnadaaLaw
import Derived.Test.YtecdjmfohcnadaaPart
import Derived.Shelf.Abstract
namespace Go.Proofs.Ytecdjmfohcnadaa
open Go.RowKit

theorem quietS {P : Program} {f : FuncId} {args : Array Value} {w : World} {n : Nat} {v : Value}
    (h : Calls P f args (w.drewN n) fun e w' => e = .returned v ∧ w.drewN n = w') : Calls P f args (w.drewN n) fun e w'' => e = .returned v ∧ ∃ m, w'' = w.drewN m :=
  h.mono fun _ _ ⟨he, hm⟩ => ⟨he, n, hm.symm⟩

/-! ### A predicate that is handed to the library -/
def PredB (g : Nat) (lb : Array Value) (e : Nat → Value) (p : Nat → Bool) (n : Nat) (w : World) : Prop :=
  ∀ j W, j < n → Below w.heap.size w W → Calls Try.prog g (#[e j] ++ lb) W fun x w' => x = .returned (.bool (p j)) ∧ Below W.heap.size W w'
def fidx (p : Nat → Bool) (n : Nat) : Int := if first p n < n then (first p n : Nat) else -1
theorem fidx_hit {p : Nat → Bool} {n k : Nat} (hk : k < n) (h1 : p k = true) (h2 : ∀ j, j < k → p j = false) : fidx p n = k := by
  unfold fidx
  rw [first_eq (v := k) (by omega) (fun _ => h1) h2, if_pos hk]
theorem fidx_miss {p : Nat → Bool} {n : Nat} (h2 : ∀ j, j < n → p j = false) : fidx p n = -1 := by
  unfold fidx
  rw [first_eq (v := n) (Nat.le_refl _) (fun h => absurd h (Nat.lt_irrefl _)) h2, if_neg (Nat.lt_irrefl _)]
theorem fidx_any (p : Nat → Bool) (n : Nat) : decide (0 ≤ fidx p n) = (List.range n).any p := by
  unfold fidx
  obtain ⟨h1, h2, h3⟩ := first_spec p n
  rw [Bool.eq_iff_iff]
  simp only [List.any_eq_true, List.mem_range, decide_eq_true_eq]
  constructor
  · intro h
    by_cases hk : first p n < n
    · exact ⟨_, hk, h2 hk⟩
    · rw [if_neg hk] at h; omega
  · rintro ⟨k, hk, hp⟩
    have : first p n < n := by
      apply Decidable.byContradiction
      intro hc
      have := h3 k (by omega)
      rw [hp] at this; cases this
    rw [if_pos this]; omega
theorem fidx_bd (p : Nat → Bool) (n : Nat) : -1 ≤ fidx p n ∧ fidx p n < n ∨ fidx p n = -1 := by
  unfold fidx
  split
  · left; omega
  · right; rfl

set_option maxHeartbeats 400000 in
theorem indexFunc64 (g : Nat) (lb : Array Value) (eg : ∀ args w, (callFunc g args).run Try.prog w = .ok (.enter g args) w) (A : Option Addr) (c : Nat) (vs : List Value) (e : Nat → Value) (p : Nat → Bool) (w : World)
    (hr : Rd w A vs) (he : ∀ j, j < vs.length → vs[j]? = some (e j)) (hp : PredB g lb e p vs.length w) :
    Calls Try.prog 67 #[.slice A vs.length c, .func (.func g) #[] lb] w fun x w' => x = .returned (.int .i64 (fidx p vs.length)) ∧ Below w.heap.size w w' := by
  have hl := hr.1
  have Hr := hidd hr
  have He := hidd he
  have Hp := hidd hp
  clear hr he hp
  go_enter Try.func67, Try.ntmps67
  go_wp2
  go_loopw [8] (fun i wr => ∃ k : Nat, k ≤ vs.length ∧ i = .int .i64 k ∧ Hid (∀ j, j < k → p j = false) ∧ Hid (Below w.heap.size w wr)) (fun i _ => vs.length - (intOf i).toNat)
  case atStart => exact ⟨0, Nat.zero_le _, rfl, fun j hj => by omega, Below.refl _ _⟩
  case round =>
    obtain ⟨k, hk, rfl, Hn, Hb⟩ := hrel
    by_cases hlt : k < vs.length
    · obtain ⟨b, o, rfl, hc⟩ := (Hr.out.below Hb.out).at_ (He.out k hlt)
      have hcall := Hp.out k wr hlt Hb.out
      obtain ⟨ek, hek⟩ : ∃ y, y = e k := ⟨_, rfl⟩
      rw [← hek] at hc hcall
      clear hek
      cases hq : p k with
      | true =>
        rw [hq] at hcall
        have Hcall := hidd hcall
        have Hq := hidd hq
        clear hcall hq
        go_wp2_with (go_at_fn g; refine Hcall.out.mono ?_; rintro x w' ⟨rfl, hb'⟩)
        go_ret
        exact ⟨ret_i (fidx_hit hlt Hq.out Hn.out).symm, bel_then Hb.out (by assumption)⟩
      | false =>
        rw [hq] at hcall
        have Hcall := hidd hcall
        have Hq := hidd hq
        clear hcall hq
        go_wp2_with (go_at_fn g; refine Hcall.out.mono ?_; rintro x w' ⟨rfl, hb'⟩)
        go_roundw
        case rel =>
          refine ⟨k + 1, by omega, by go_num, fun j hj => ?_, bel_then Hb.out (by assumption)⟩
          by_cases e : j = k
          · subst e; exact Hq.out
          · exact Hn.out j (by omega)
        case measure => simp [intOf]; omega
    · go_wp2
      go_ret
      exact ⟨ret_i (fidx_miss fun j hj => Hn.out j (by omega)).symm, Hb.out⟩

theorem containsFunc64 (g : Nat) (lb : Array Value) (eg : ∀ args w, (callFunc g args).run Try.prog w = .ok (.enter g args) w) (A : Option Addr) (c : Nat) (vs : List Value) (e : Nat → Value) (p : Nat → Bool) (w : World)
    (hr : Rd w A vs) (he : ∀ j, j < vs.length → vs[j]? = some (e j)) (hp : PredB g lb e p vs.length w) :
    Calls Try.prog 38 #[.slice A vs.length c, .func (.func g) #[] lb] w fun x w' => x = .returned (.bool ((List.range vs.length).any p)) ∧ Below w.heap.size w w' := by
  rw [← fidx_any]
  have Hr := hidd hr
  have He := hidd he
  have Hp := hidd hp
  clear hr he hp
  go_enter Try.func38, Try.ntmps38
  go_wp2_with (go_at_call 67; refine (indexFunc64 g lb eg A c vs e p _ Hr.out He.out Hp.out).mono ?_; rintro x w' ⟨rfl, hb'⟩)
  go_ret
  exact ⟨rfl, by assumption⟩
set_option maxHeartbeats 400000 in
theorem indexFunc65 (g : Nat) (lb : Array Value) (eg : ∀ args w, (callFunc g args).run Try.prog w = .ok (.enter g args) w) (A : Option Addr) (c : Nat) (vs : List Value) (e : Nat → Value) (p : Nat → Bool) (w : World)
    (hr : Rd w A vs) (he : ∀ j, j < vs.length → vs[j]? = some (e j)) (hp : PredB g lb e p vs.length w) :
    Calls Try.prog 69 #[.slice A vs.length c, .func (.func g) #[] lb] w fun x w' => x = .returned (.int .i64 (fidx p vs.length)) ∧ Below w.heap.size w w' := by
  have hl := hr.1
  have Hr := hidd hr
  have He := hidd he
  have Hp := hidd hp
  clear hr he hp
  go_enter Try.func69, Try.ntmps69
  go_wp2
  go_loopw [8] (fun i wr => ∃ k : Nat, k ≤ vs.length ∧ i = .int .i64 k ∧ Hid (∀ j, j < k → p j = false) ∧ Hid (Below w.heap.size w wr)) (fun i _ => vs.length - (intOf i).toNat)
  case atStart => exact ⟨0, Nat.zero_le _, rfl, fun j hj => by omega, Below.refl _ _⟩
  case round =>
    obtain ⟨k, hk, rfl, Hn, Hb⟩ := hrel
    by_cases hlt : k < vs.length
    · obtain ⟨b, o, rfl, hc⟩ := (Hr.out.below Hb.out).at_ (He.out k hlt)
      have hcall := Hp.out k wr hlt Hb.out
      obtain ⟨ek, hek⟩ : ∃ y, y = e k := ⟨_, rfl⟩
      rw [← hek] at hc hcall
      clear hek
      cases hq : p k with
      | true =>
        rw [hq] at hcall
        have Hcall := hidd hcall
        have Hq := hidd hq
        clear hcall hq
        go_wp2_with (go_at_fn g; refine Hcall.out.mono ?_; rintro x w' ⟨rfl, hb'⟩)
        go_ret
        exact ⟨ret_i (fidx_hit hlt Hq.out Hn.out).symm, bel_then Hb.out (by assumption)⟩
      | false =>
        rw [hq] at hcall
        have Hcall := hidd hcall
        have Hq := hidd hq
        clear hcall hq
        go_wp2_with (go_at_fn g; refine Hcall.out.mono ?_; rintro x w' ⟨rfl, hb'⟩)
        go_roundw
        case rel =>
          refine ⟨k + 1, by omega, by go_num, fun j hj => ?_, bel_then Hb.out (by assumption)⟩
          by_cases e : j = k
          · subst e; exact Hq.out
          · exact Hn.out j (by omega)
        case measure => simp [intOf]; omega
    · go_wp2
      go_ret
      exact ⟨ret_i (fidx_miss fun j hj => Hn.out j (by omega)).symm, Hb.out⟩

theorem containsFunc65 (g : Nat) (lb : Array Value) (eg : ∀ args w, (callFunc g args).run Try.prog w = .ok (.enter g args) w) (A : Option Addr) (c : Nat) (vs : List Value) (e : Nat → Value) (p : Nat → Bool) (w : World)
    (hr : Rd w A vs) (he : ∀ j, j < vs.length → vs[j]? = some (e j)) (hp : PredB g lb e p vs.length w) :
    Calls Try.prog 73 #[.slice A vs.length c, .func (.func g) #[] lb] w fun x w' => x = .returned (.bool ((List.range vs.length).any p)) ∧ Below w.heap.size w w' := by
  rw [← fidx_any]
  have Hr := hidd hr
  have He := hidd he
  have Hp := hidd hp
  clear hr he hp
  go_enter Try.func73, Try.ntmps73
  go_wp2_with (go_at_call 69; refine (indexFunc65 g lb eg A c vs e p _ Hr.out He.out Hp.out).mono ?_; rintro x w' ⟨rfl, hb'⟩)
  go_ret
  exact ⟨rfl, by assumption⟩

/-! ### Words of letters -/
def lOk (d : Int) (s : ByteArray) (k : Nat) : Bool := decide (48 ≤ s[k]!.toNat ∧ (s[k]!.toNat : Int) - 48 < d)
def lettersB (d : Int) (s : ByteArray) : Bool := (List.range s.size).all (lOk d s)
def wordB (d : Int) (s : ByteArray) : Bool := lettersB d s && decide (s.size ≤ 40)
theorem letters_no {d : Int} {s : ByteArray} {k : Nat} (hk : k < s.size) (h : lOk d s k = false) : lettersB d s = false := by
  rw [Bool.eq_false_iff]
  intro hc
  have := List.all_eq_true.1 hc k (List.mem_range.2 hk)
  rw [h] at this; cases this
theorem letters_yes {d : Int} {s : ByteArray} (h : ∀ k, k < s.size → lOk d s k = true) : lettersB d s = true := List.all_eq_true.2 fun k hk => h k (List.mem_range.1 hk)
theorem lOk_yes {d : Int} {s : ByteArray} {k : Nat} (hk : k < s.size) (h1 : 48 ≤ s[k].toNat) (h2 : (s[k].toNat : Int) - 48 < d) : lOk d s k = true := by
  unfold lOk; rw [getElem!_pos s k hk]; exact decide_eq_true ⟨h1, h2⟩
theorem lOk_no {d : Int} {s : ByteArray} {k : Nat} (hk : k < s.size) (h : ¬ (48 ≤ s[k].toNat ∧ (s[k].toNat : Int) - 48 < d)) : lOk d s k = false := by
  unfold lOk; rw [getElem!_pos s k hk]; exact decide_eq_false h
theorem ltSucc {p : Nat → Prop} {k : Nat} (h : ∀ j, j < k → p j) (hk : p k) : ∀ j, j < k + 1 → p j := by
  intro j hj
  by_cases e : j = k
  · rw [e]; exact hk
  · exact h j (by omega)

set_option maxHeartbeats 400000 in
theorem isWord_any (d : Int) (s : ByteArray) (w : World) (hs : s.size ≤ 140737488351232) :
    Calls Try.prog 52 #[.int .i64 d, .string s] w fun e w' => e = .returned (.bool (wordB d s)) ∧ w = w' := by
  go_enter Try.func52, Try.ntmps52
  go_wp2
  go_loop [8] (fun i => ∃ k : Nat, k ≤ s.size ∧ i = .int .i64 k ∧ Hid (∀ j, j < k → lOk d s j = true)) (fun i => s.size - (intOf i).toNat)
  case atStart => exact ⟨0, Nat.zero_le _, rfl, fun j hj => by omega⟩
  case round =>
    obtain ⟨k, hk, rfl, Hn⟩ := hrel
    by_cases hlt : k < s.size
    · have hc256 : s[k].toNat < 256 := s[k].toNat_lt
      by_cases h1 : 48 ≤ s[k].toNat
      · by_cases h2 : (s[k].toNat : Int) - 48 < d
        · have H := hidd (lOk_yes hlt h1 h2)
          go_wp2
          go_round
          case rel => exact ⟨k + 1, by omega, by go_num, ltSucc Hn.out H.out⟩
          case measure => simp [intOf]; omega
        · have H := hidd (lOk_no (d := d) hlt (fun h => h2 h.2))
          go_wp2
          go_ret
          exact ⟨ret_b (by unfold wordB; rw [letters_no hlt H.out]; rfl), rfl⟩
      · have H := hidd (lOk_no (d := d) hlt (fun h => h1 h.1))
        have h1' : (s[k].toNat : Int) < 48 := by omega
        go_wp2
        go_ret
        exact ⟨ret_b (by unfold wordB; rw [letters_no hlt H.out]; rfl), rfl⟩
    · have H := hidd (letters_yes (d := d) (s := s) fun j hj => Hn.out j (by omega))
      go_wp2
      go_ret
      exact ⟨ret_b (by simp only [wordB, H.out, Bool.true_and, decide_eq_decide]; omega), rfl⟩
set_option maxHeartbeats 400000 in
theorem l01Letters_any (d : Int) (s : ByteArray) (w : World) (hs : s.size ≤ 140737488351232) :
    Calls Try.prog 75 #[.int .i64 d, .string s] w fun e w' => e = .returned (.bool (lettersB d s)) ∧ w = w' := by
  go_enter Try.func75, Try.ntmps75
  go_wp2
  go_loop [5] (fun i => ∃ k : Nat, k ≤ s.size ∧ i = .int .i64 k ∧ Hid (∀ j, j < k → lOk d s j = true)) (fun i => s.size - (intOf i).toNat)
  case atStart => exact ⟨0, Nat.zero_le _, rfl, fun j hj => by omega⟩
  case round =>
    obtain ⟨k, hk, rfl, Hn⟩ := hrel
    by_cases hlt : k < s.size
    · have hc256 : s[k].toNat < 256 := s[k].toNat_lt
      by_cases h1 : 48 ≤ s[k].toNat
      · by_cases h2 : (s[k].toNat : Int) - 48 < d
        · have H := hidd (lOk_yes hlt h1 h2)
          go_wp2
          go_round
          case rel => exact ⟨k + 1, by omega, by go_num, ltSucc Hn.out H.out⟩
          case measure => simp [intOf]; omega
        · have H := hidd (lOk_no (d := d) hlt (fun h => h2 h.2))
          go_wp2
          go_ret
          exact ⟨ret_b (by rw [letters_no hlt H.out]), rfl⟩
      · have H := hidd (lOk_no (d := d) hlt (fun h => h1 h.1))
        have h1' : (s[k].toNat : Int) < 48 := by omega
        go_wp2
        go_ret
        exact ⟨ret_b (by rw [letters_no hlt H.out]), rfl⟩
    · have H := hidd (letters_yes (d := d) (s := s) fun j hj => Hn.out j (by omega))
      go_wp2
      go_ret
      exact ⟨ret_b (by rw [H.out]), rfl⟩
end Go.Proofs.Ytecdjmfohcnadaa
