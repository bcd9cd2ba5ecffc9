/- Plain: the products of a list's words, whether one of them is too long, and the first level whose sections stand in the list. -/
import Derived.Test.YtcghcbdefajpgaaIil
import Derived.Test.YtcghcbdefajpgaaLsc
namespace Go.Proofs.Ytcghcbdefajpgaa

/-- The product number k: row k / n and row k mod n. -/
def pk (xss : List (List Int)) (k : Nat) : List Int := xss.getD (k / xss.length) [] ++ xss.getD (k % xss.length) []
def prK (xss : List (List Int)) (k : Nat) : List (List Int) := (List.range k).map (pk xss)
def prods (xss : List (List Int)) : List (List Int) := prK xss (xss.length * xss.length)
theorem pk_at {xss : List (List Int)} {i j : Nat} (hi : i < xss.length) (hj : j < xss.length) : pk xss (i * xss.length + j) = xss[i] ++ xss[j] := by
  have hp : 0 < xss.length := by omega
  unfold pk
  rw [show (i * xss.length + j) / xss.length = i by rw [Nat.mul_comm, Nat.mul_add_div hp, Nat.div_eq_of_lt hj, Nat.add_zero],
    show (i * xss.length + j) % xss.length = j by rw [Nat.mul_comm, Nat.mul_add_mod, Nat.mod_eq_of_lt hj]]
  rw [List.getD_eq_getElem?_getD, List.getD_eq_getElem?_getD, List.getElem?_eq_getElem hi, List.getElem?_eq_getElem hj]
  rfl
theorem prK_succ (xss : List (List Int)) (k : Nat) : prK xss (k + 1) = prK xss k ++ [pk xss k] := by
  unfold prK
  rw [List.range_succ, List.map_append]
  rfl
theorem prK_len (xss : List (List Int)) (k : Nat) : (prK xss k).length = k := by simp [prK]
theorem prods_len (xss : List (List Int)) : (prods xss).length = xss.length * xss.length := prK_len _ _
theorem prods_get {xss : List (List Int)} {k : Nat} (hk : k < xss.length * xss.length) : (prods xss)[k]? = some (pk xss k) := by
  unfold prods prK
  rw [List.getElem?_map, List.getElem?_range hk]
  rfl
theorem sq_lt {n k : Nat} (h : k < n * n) : k / n < n ∧ k % n < n := by
  have hn : 0 < n := Nat.pos_of_ne_zero fun e => by subst e; simp at h
  exact ⟨Nat.div_lt_of_lt_mul h, Nat.mod_lt _ hn⟩
theorem row_lt {n i j : Nat} (hi : i < n) (hj : j < n) : i * n + j < n * n := by
  have : (i + 1) * n ≤ n * n := Nat.mul_le_mul_right n hi
  rw [Nat.succ_mul] at this
  omega
theorem pk_mem {xss : List (List Int)} {k : Nat} (hk : k < xss.length * xss.length) {p : List Int → Prop} (h : ∀ u ∈ xss, p u) : ∃ a b, p a ∧ p b ∧ pk xss k = a ++ b := by
  obtain ⟨h1, h2⟩ := sq_lt hk
  refine ⟨xss[k / xss.length], xss[k % xss.length], h _ (List.getElem_mem h1), h _ (List.getElem_mem h2), ?_⟩
  unfold pk
  rw [List.getD_eq_getElem?_getD, List.getD_eq_getElem?_getD, List.getElem?_eq_getElem h1, List.getElem?_eq_getElem h2]
  rfl
/-! ### Too long -/
/-- The greatest length among the first k. -/
def mo (xss : List (List Int)) : Nat → Nat
  | 0 => 0
  | k + 1 => max (mo xss k) (xss.getD k []).length
theorem mo_ge (xss : List (List Int)) : ∀ k j, j < k → (xss.getD j []).length ≤ mo xss k
  | 0, j, h => absurd h (Nat.not_lt_zero _)
  | k + 1, j, h => by
    rw [mo]
    by_cases e : j = k
    · subst e; exact Nat.le_max_right _ _
    · exact Nat.le_trans (mo_ge xss k j (by omega)) (Nat.le_max_left _ _)
theorem mo_met (xss : List (List Int)) : ∀ k, mo xss k = 0 ∨ ∃ j, j < k ∧ (xss.getD j []).length = mo xss k
  | 0 => .inl rfl
  | k + 1 => by
    rw [mo]
    by_cases e : mo xss k ≤ (xss.getD k []).length
    · rw [Nat.max_eq_right e]; exact .inr ⟨k, by omega, rfl⟩
    · rw [Nat.max_eq_left (by omega)]
      rcases mo_met xss k with h | ⟨j, h1, h2⟩
      · exact .inl h
      · exact .inr ⟨j, by omega, h2⟩
def lim (xss : List (List Int)) : Bool := decide (40 < 2 * mo xss xss.length)
theorem lim_any (xss : List (List Int)) : ((List.range (xss.length * xss.length)).any fun k => decide (40 < (pk xss k).length)) = lim xss := by
  unfold lim
  rw [Bool.eq_iff_iff, List.any_eq_true, decide_eq_true_eq]
  constructor
  · rintro ⟨k, hk, h⟩
    rw [decide_eq_true_eq] at h
    obtain ⟨h1, h2⟩ := sq_lt (List.mem_range.1 hk)
    have e1 := mo_ge xss _ _ h1
    have e2 := mo_ge xss _ _ h2
    unfold pk at h
    rw [List.length_append] at h
    omega
  · intro h
    rcases mo_met xss xss.length with h0 | ⟨j, hj, he⟩
    · omega
    · refine ⟨j * xss.length + j, List.mem_range.2 (row_lt hj hj), ?_⟩
      rw [decide_eq_true_eq, pk_at hj hj, List.length_append]
      rw [List.getD_eq_getElem?_getD, List.getElem?_eq_getElem hj] at he
      simp only [Option.getD_some] at he
      omega

/-! ### The first level -/
theorem Gm.lsc_le {g : Gm} (hok : g.Ok) (u : List Int) {n : Nat} (hn : n ≤ 5) : (g.lsc u n).length ≤ 243 := Nat.le_trans (g.lvS_len u n _) (pow_bd hok.l3 hn)
noncomputable def Gm.rowD (g : Gm) (ms : List Mc) (n : Nat) : List (List Int) → Bool × Int
  | [] => (true, 0)
  | u :: us => if (g.allR ms (g.lsc u n)).1 = true then g.rowD ms n us else (false, (g.allR ms (g.lsc u n)).2)
theorem Gm.allR_code (g : Gm) (ms : List Mc) : ∀ us, (g.allR ms us).1 = true → (g.allR ms us).2 = 0
  | [], _ => rfl
  | u :: us, h => by
    rw [Gm.allR] at h ⊢
    split
    · rename_i h2
      rw [if_pos h2] at h
      exact Gm.allR_code g ms us h
    · rename_i h2
      rw [if_neg h2] at h
      cases h
noncomputable def Gm.depF (g : Gm) (ms : List Mc) (ps : List (List Int)) : Nat → Nat → Int × Int
  | 0, _ => (0, 4)
  | f + 1, n => if (g.rowD ms n ps).1 = true then ((n : Int), 0) else if (g.rowD ms n ps).2 = 0 then Gm.depF g ms ps f (n + 1) else (0, (g.rowD ms n ps).2)
noncomputable def dolR (m : Mc) (xss : List (List Int)) : Int × Int :=
  if codeW m xss = 0 then (if m.gm.lofC xss = 0 then (if lim xss = true then (0, 3) else m.gm.depF (m.gm.mks xss) (prods xss) 6 0) else (0, m.gm.lofC xss)) else (0, 1)
end Go.Proofs.Ytcghcbdefajpgaa
