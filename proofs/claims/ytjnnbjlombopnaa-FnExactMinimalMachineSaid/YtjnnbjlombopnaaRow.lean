/- Walks: IsMachine of the program and of the reference both tell Mc.ok. -/
import Derived.Test.YtjnnbjlombopnaaLib
import Derived.Test.YtjnnbjlombopnaaMc
import Derived.BigQuiet
import Derived.Deep.QuietTactic
namespace Go.Proofs.Ytjnnbjlombopnaa
open Go.RowKit

/-- The letters that the entries ahead put out, as bits. -/
def Mc.seen (m : Mc) (q : Nat) : Nat → Nat
  | 0 => 0
  | k + 1 => if (q : Int) < m.S ∧ (k : Int) < m.L then m.seen q k ||| 2 ^ m.ou q k else m.seen q k

theorem Mc.seen_bit (m : Mc) (q : Nat) (v : Nat) : ∀ k, (m.seen q k).testBit v = decide (∃ y, y < k ∧ (q : Int) < m.S ∧ (y : Int) < m.L ∧ m.ou q y = v)
  | 0 => by simp [Mc.seen]
  | k + 1 => by
    have ih := Mc.seen_bit m q v k
    unfold Mc.seen
    by_cases h : (q : Int) < m.S ∧ (k : Int) < m.L
    · rw [if_pos h, Nat.testBit_or, ih, Nat.testBit_two_pow, ← Bool.decide_or]
      congr 1
      apply propext
      constructor
      · rintro (⟨y, h1, h2⟩ | h1)
        · exact ⟨y, by omega, h2⟩
        · exact ⟨k, by omega, h.1, h.2, h1⟩
      · rintro ⟨y, h1, h2, h3, h4⟩
        by_cases e : y = k
        · subst e; exact .inr h4
        · exact .inl ⟨y, by omega, h2, h3, h4⟩
    · rw [if_neg h, ih]
      congr 1
      apply propext
      constructor
      · rintro ⟨y, h1, h2⟩; exact ⟨y, by omega, h2⟩
      · rintro ⟨y, h1, h2, h3, h4⟩
        by_cases e : y = k
        · subst e; exact absurd ⟨h2, h3⟩ h
        · exact ⟨y, by omega, h2, h3, h4⟩

theorem Mc.entry_iff (m : Mc) (q k : Nat) : m.entryOk q k = true ↔
    if m.S ≤ q ∨ m.L ≤ k then m.nx q k = 0 ∧ m.ou q k = 0 else (m.nx q k : Int) < m.S ∧ (m.ou q k : Int) < m.L ∧ ∀ y, y < k → m.ou q y ≠ m.ou q k := by
  unfold Mc.entryOk
  split <;> simp [and_assoc]

theorem Mc.seen_lt (m : Mc) (q : Nat) (hL3 : m.L ≤ 3) : ∀ k, (∀ x, x < k → m.entryOk q x = true) → m.seen q k < 8
  | 0, _ => by simp [Mc.seen]
  | k + 1, h => by
    have ih := Mc.seen_lt m q hL3 k (fun x hx => h x (by omega))
    unfold Mc.seen
    split
    · rename_i hc
      have he := (m.entry_iff q k).1 (h k (by omega))
      rw [if_neg (by omega)] at he
      have ho : m.ou q k < 3 := by omega
      have h8 : 2 ^ m.ou q k < 2 ^ 3 := Nat.pow_lt_pow_right (by omega) ho
      exact Nat.or_lt_two_pow (n := 3) ih h8
    · exact ih

theorem bits_and8 : ∀ s, s < 8 → ∀ v, v < 3 → (bits BinOp.and IntKind.i64 ((s : Nat) / 2 ^ v : Int) 1 == 1) = s.testBit v := by decide
theorem bits_or8 : ∀ s, s < 8 → ∀ v, v < 3 → bits BinOp.or IntKind.i64 ((s : Nat) : Int) (wrap64 (2 ^ v)) = ((s ||| 2 ^ v : Nat) : Int) := by decide +kernel

section
variable {m : Mc} {q k : Nat}
theorem Mc.e1 (h : m.S ≤ q ∨ m.L ≤ k) (_ : m.nx q k = 0) (h2 : ((m.ou q k : Int) != 0) = true) : m.entryOk q k = false := by
  rw [Bool.eq_false_iff]
  intro hc
  have := (m.entry_iff q k).1 hc
  rw [if_pos h] at this
  simp [this.2] at h2
theorem Mc.e2 (h : m.S ≤ q ∨ m.L ≤ k) (h1 : m.nx q k = 0) (h2 : ((m.ou q k : Int) != 0) = false) : m.entryOk q k = true := by
  rw [Mc.entry_iff, if_pos h]
  exact ⟨h1, by simpa using h2⟩
theorem Mc.e3 (h : m.S ≤ q ∨ m.L ≤ k) (h1 : ¬ m.nx q k = 0) : m.entryOk q k = false := by
  rw [Bool.eq_false_iff]
  intro hc
  have := (m.entry_iff q k).1 hc
  rw [if_pos h] at this
  exact h1 this.1
theorem Mc.e7 (h : (q : Int) < m.S ∧ (k : Int) < m.L) (h1 : m.S ≤ m.nx q k) : m.entryOk q k = false := by
  rw [Bool.eq_false_iff]
  intro hc
  have := (m.entry_iff q k).1 hc
  rw [if_neg (by omega)] at this
  omega
theorem Mc.e6 (h : (q : Int) < m.S ∧ (k : Int) < m.L) (h1 : m.L ≤ m.ou q k) : m.entryOk q k = false := by
  rw [Bool.eq_false_iff]
  intro hc
  have := (m.entry_iff q k).1 hc
  rw [if_neg (by omega)] at this
  omega
theorem Mc.e_bit (hL3 : m.L ≤ 3) (hp : ∀ x, x < k → m.entryOk q x = true) (h : (q : Int) < m.S ∧ (k : Int) < m.L) (h1 : (m.nx q k : Int) < m.S) (h2 : (m.ou q k : Int) < m.L) :
    m.entryOk q k = !(bits BinOp.and IntKind.i64 ((m.seen q k : Int) / 2 ^ m.ou q k) 1 == 1) := by
  have b := bits_and8 (m.seen q k) (m.seen_lt q hL3 k hp) (m.ou q k) (by omega)
  rw [b, Mc.seen_bit, Bool.eq_iff_iff, Mc.entry_iff, if_neg (by omega)]
  simp only [Bool.not_eq_true', decide_eq_false_iff_not]
  constructor
  · rintro ⟨_, _, h3⟩ ⟨y, hy, _, _, e⟩
    exact h3 y hy e
  · intro h3
    exact ⟨h1, h2, fun y hy e => h3 ⟨y, hy, h.1, by omega, e⟩⟩
theorem Mc.e4 (hL3 : m.L ≤ 3) (hp : ∀ x, x < k → m.entryOk q x = true) (h : (q : Int) < m.S ∧ (k : Int) < m.L) (h1 : (m.nx q k : Int) < m.S) (h2 : (m.ou q k : Int) < m.L)
    (h3 : (m.S ≤ m.nx q k ∨ m.L ≤ m.ou q k) ∨ (bits BinOp.and IntKind.i64 ((m.seen q k : Int) / 2 ^ m.ou q k) 1 == 1) = true) : m.entryOk q k = false := by
  rw [Mc.e_bit hL3 hp h h1 h2]
  rcases h3 with h3 | h3
  · omega
  · rw [h3]; rfl
theorem Mc.e5 (hL3 : m.L ≤ 3) (hp : ∀ x, x < k → m.entryOk q x = true) (h : (q : Int) < m.S ∧ (k : Int) < m.L) (h1 : (m.nx q k : Int) < m.S) (h2 : (m.ou q k : Int) < m.L)
    (h3 : ((m.nx q k : Int) < m.S ∧ (m.ou q k : Int) < m.L) ∧ (bits BinOp.and IntKind.i64 ((m.seen q k : Int) / 2 ^ m.ou q k) 1 == 1) = false) : m.entryOk q k = true := by
  rw [Mc.e_bit hL3 hp h h1 h2, h3.2]; rfl
theorem Mc.s1 (h : m.S ≤ q ∨ m.L ≤ k) : (m.seen q (k + 1) : Int) = m.seen q k := by
  rw [Mc.seen, if_neg (by omega)]
theorem Mc.s2 (hL3 : m.L ≤ 3) (hp : ∀ x, x < k → m.entryOk q x = true) (h : (q : Int) < m.S ∧ (k : Int) < m.L) (h2 : (m.ou q k : Int) < m.L) :
    bits BinOp.or IntKind.i64 (m.seen q k) (wrap64 (2 ^ m.ou q k)) = (m.seen q (k + 1) : Int) := by
  rw [bits_or8 _ (m.seen_lt q hL3 k hp) _ (by omega), Mc.seen, if_pos h]
theorem Mc.row_false (hk : k < 3) (h : m.entryOk q k = false) : m.rowOk q = false := by
  rw [Bool.eq_false_iff]
  intro hc
  have := List.all_eq_true.1 hc k (List.mem_range.2 hk)
  rw [h] at this
  cases this
theorem Mc.ok_succ (h : ∀ x, x < k → m.entryOk q x = true) (he : m.entryOk q k = true) : ∀ x, x < k + 1 → m.entryOk q x = true := by
  intro x hx
  by_cases e : x = k
  · rw [e]; exact he
  · exact h x (by omega)
theorem Mc.row_true (h : ∀ x, x < 3 → m.entryOk q x = true) : m.rowOk q = true :=
  List.all_eq_true.2 fun x hx => h x (List.mem_range.1 hx)
end
theorem ret_s {k : IntKind} {a b : Int} (h : a = b) : Value.int k a = .int k b := by rw [h]
theorem ret_b {a b : Bool} (h : a = b) : Ending.returned (.bool a) = .returned (.bool b) := by rw [h]
theorem ret_i {k : IntKind} {a b : Int} (h : a = b) : Ending.returned (.int k a) = .returned (.int k b) := by rw [h]

set_option maxHeartbeats 400000 in
theorem isRow_any (m : Mc) (b o q : Nat) (w : World) (hm : m.At w b o) (hq : q < 16) (hL3 : m.L ≤ 3) :
    Calls Try.prog 108 #[.pointer (some ⟨b, o, none⟩), .int .i64 q] w fun e w' => e = .returned (.bool (m.rowOk q)) ∧ Below w.heap.size w w' := by
  have c0 := hm.l
  have c1 := hm.s
  have Hm := hidd hm
  clear hm
  go_enter Try.func108, Try.ntmps108
  go_wp2
  go_loopw [5, 9] (fun s i wr => ∃ k : Nat, k ≤ 3 ∧ i = .int .i64 k ∧ s = .int .i64 (m.seen q k) ∧ (∃ n, wr = w.drewN n) ∧ (∀ x, x < k → m.entryOk q x = true)) (fun _ i _ => 3 - (intOf i).toNat)
  case atStart => exact ⟨0, by omega, rfl, rfl, ⟨0, rfl⟩, fun x hx => by omega⟩
  case round =>
    obtain ⟨k, hk, rfl, rfl, ⟨n, rfl⟩, hok⟩ := hrel
    have Hok := hidd hok
    clear hok
    by_cases hlt : k < 3
    · have d1 := Hm.out.n q k hq hlt
      have d2 := Hm.out.o q k hq hlt
      have d3 := Hm.out.nb q k hq hlt
      have d4 := Hm.out.ob q k hq hlt
      have i1 : (q : Int) < 16 := by omega
      have i2 : (k : Int) < 3 := by omega
      have i3 : (0 : Int) ≤ q := by omega
      have i4 : (0 : Int) ≤ k := by omega
      go_wp2
      go_quiet (fail)
      go_wp2
      all_goals first
        | (go_ret
           refine ⟨ret_b (Mc.row_false hlt ?_).symm, bel_drewN (Below.refl _ _) _⟩
           first
             | (refine Mc.e1 ?_ ?_ ?_ <;> first | assumption | omega)
             | (refine Mc.e3 ?_ ?_ <;> first | assumption | omega)
             | (refine Mc.e4 hL3 Hok.out ?_ ?_ ?_ ?_ <;> first | assumption | omega)
             | (refine Mc.e6 ?_ ?_ <;> first | assumption | omega)
             | (refine Mc.e7 ?_ ?_ <;> first | assumption | omega))
        | (refine ⟨⟨k + 1, by omega, by go_num, ?_, ⟨_, rfl⟩, Mc.ok_succ Hok.out ?_⟩, by simp [intOf]; omega⟩
           · first
               | (refine ret_s (Mc.s1 ?_).symm <;> first | assumption | omega)
               | (refine ret_s (Mc.s2 hL3 Hok.out ?_ ?_) <;> first | assumption | omega)
           · first
               | (refine Mc.e2 ?_ ?_ ?_ <;> first | assumption | omega)
               | (refine Mc.e5 hL3 Hok.out ?_ ?_ ?_ ?_ <;> first | assumption | omega))
    · go_wp2
      go_ret
      exact ⟨ret_b (Mc.row_true fun x hx => Hok.out x (by omega)).symm, bel_drewN (Below.refl _ _) _⟩
end Go.Proofs.Ytjnnbjlombopnaa
