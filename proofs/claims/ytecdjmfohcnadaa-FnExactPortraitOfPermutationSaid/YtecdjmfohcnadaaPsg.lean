/- Walks: the signs of a portrait's levels: small callees. -/
import Derived.Test.YtecdjmfohcnadaaPcd
namespace Go.Proofs.Ytecdjmfohcnadaa
open Go.RowKit

/-! ### Odd permutations -/
/-- The pairs of the first j places ahead of i; of all i. -/
def oR (xs : List Int) (i : Nat) (b : Bool) : Nat → Bool
  | 0 => b
  | j + 1 => oR xs i b j != decide (xs.getD i 0 < xs.getD j 0)
def oA (xs : List Int) : Nat → Bool
  | 0 => false
  | i + 1 => oR xs i (oA xs i) i
def isO (xs : List Int) : Bool := oA xs xs.length
def odN (d m : Nat) : Nat := if d = 2 then m else [0, 1, 1, 0, 0, 1].getD m 0
theorem isO_pil {d m : Nat} (hd : Dd d) (hm : m < pcn d) : isO (pil d m) = decide (odN d m = 1) ∧ odN d m ≤ 1 := by
  rcases hd with rfl | rfl
  · exact (by decide : ∀ m, m < 2 → isO (pil 2 m) = decide (odN 2 m = 1) ∧ odN 2 m ≤ 1) m hm
  · exact (by decide : ∀ m, m < 6 → isO (pil 3 m) = decide (odN 3 m = 1) ∧ odN 3 m ≤ 1) m hm
set_option maxRecDepth 100000 in
set_option maxHeartbeats 1000000 in
theorem isOdd_any (g : Nat) (xs : List Int) (w : World) {t : TypeId} (hg : w.heap[g]? = some (.cells (ints xs).toArray t (0, 0))) (hl : xs.length ≤ 3) :
    Calls Try.prog 49 #[.slice (some ⟨g, 0, none⟩) xs.length xs.length] w fun e w' => e = .returned (.bool (isO xs)) ∧ w = w' := by
  have HG := hidd (fun k (hk : k < xs.length) => show w.cell? ⟨g, k, none⟩ = some (.int .i64 (xs.getD k 0)) by
    rw [blkc hg, List.getElem?_toArray, ints_get, List.getElem?_eq_getElem hk, List.getD_eq_getElem?_getD, List.getElem?_eq_getElem hk]; rfl)
  have HO := hidd (show isO xs = oA xs xs.length from rfl)
  obtain ⟨n, hn⟩ : ∃ n, n = xs.length := ⟨_, rfl⟩
  rw [← hn] at HG HO hl ⊢
  clear hg hn
  go_enter Try.func49, Try.ntmps49
  go_wp2
  go_loop [3, 10] (fun b i => ∃ k : Nat, k ≤ n ∧ i = .int .i64 k ∧ b = .bool (oA xs k)) (fun _ i => n - (intOf i).toNat)
  case atStart => exact ⟨0, Nat.zero_le _, rfl, rfl⟩
  case round =>
    obtain ⟨k, hk, rfl, rfl⟩ := hrel
    by_cases hlt : k < n
    · have i1 : (k : Int) < n := by omega
      have i2 : (0 : Int) ≤ k := by omega
      have i3 : (k : Int) ≤ n := by omega
      have hc := HG.out k hlt
      obtain ⟨x, hx⟩ : ∃ x, x = xs.getD k 0 := ⟨_, rfl⟩
      rw [← hx] at hc
      have HX := hidd hx
      clear hx
      obtain ⟨b0, hb0⟩ : ∃ b, b = oA xs k := ⟨_, rfl⟩
      rw [← hb0]
      have HB0 := hidd hb0
      clear hb0
      clear hk hlt
      go_wp2
      go_loop [3, 19] (fun b i => ∃ j : Nat, j ≤ k ∧ i = .int .i64 j ∧ b = .bool (oR xs k b0 j)) (fun _ i => k - (intOf i).toNat)
      case atStart => exact ⟨0, Nat.zero_le _, rfl, rfl⟩
      case round =>
        obtain ⟨j, hj, rfl, rfl⟩ := hrel
        by_cases hlt : j < k
        · have j1 : (j : Int) < k := by omega
          have j2 : (0 : Int) ≤ j := by omega
          have hcj := HG.out j (by omega)
          obtain ⟨y, hy⟩ : ∃ y, y = xs.getD j 0 := ⟨_, rfl⟩
          rw [← hy] at hcj
          obtain ⟨b1, hb1⟩ : ∃ b, b = oR xs k b0 j := ⟨_, rfl⟩
          rw [← hb1]
          have HS := hidd (show oR xs k b0 (j + 1) = (b1 != decide (x < y)) by rw [oR, hb1, HX.out, hy])
          clear hb1 hy
          go_wp2
          go_round
          case rel => exact ⟨j + 1, by omega, by go_num, by rw [HS.out]; generalize decide (x < y) = z; cases b1 <;> cases z <;> rfl⟩
          case measure => first | (simp [intOf]; done) | (simp [intOf]; omega)
        · have he : j = k := by omega
          subst he
          have HS := hidd (show oA xs (j + 1) = oR xs j b0 j by rw [oA, ← HB0.out])
          clear hlt
          go_wp2
          go_round
          case rel => exact ⟨j + 1, by omega, by go_num, by rw [HS.out]⟩
          case measure => first | (simp [intOf]; done) | (simp [intOf]; omega)
    · have he : k = n := by omega
      subst he
      clear hlt
      go_wp2
      go_ret
      exact ⟨ret_b HO.out.symm, rfl⟩

set_option maxRecDepth 100000 in
set_option maxHeartbeats 1000000 in
theorem l03Odd_any (d m : Nat) (hd : Dd d) (hm : m < pcn d) (w : World) : Calls Try.prog 47 #[.int .i64 (d : Nat), .int .i64 (m : Nat)] w fun e w' => e = .returned (.int .i64 (odN d m : Nat)) ∧ Below w.heap.size w w' := by
  rcases hd with rfl | rfl
  · go_enter Try.func47, Try.ntmps47
    go_wp2
    go_ret
    exact ⟨rfl, Below.refl _ _⟩
  · have h : m = 0 ∨ m = 1 ∨ m = 2 ∨ m = 3 ∨ m = 4 ∨ m = 5 := by have : pcn 3 = 6 := rfl; omega
    clear hm
    rcases h with rfl | rfl | rfl | rfl | rfl | rfl
    · go_enter Try.func47, Try.ntmps47
      go_wp2
      go_ret
      exact ⟨rfl, bel_alloc' _ _⟩
    · go_enter Try.func47, Try.ntmps47
      go_wp2
      go_ret
      exact ⟨rfl, bel_alloc' _ _⟩
    · go_enter Try.func47, Try.ntmps47
      go_wp2
      go_ret
      exact ⟨rfl, bel_alloc' _ _⟩
    · go_enter Try.func47, Try.ntmps47
      go_wp2
      go_ret
      exact ⟨rfl, bel_alloc' _ _⟩
    · go_enter Try.func47, Try.ntmps47
      go_wp2
      go_ret
      exact ⟨rfl, bel_alloc' _ _⟩
    · go_enter Try.func47, Try.ntmps47
      go_wp2
      go_ret
      exact ⟨rfl, bel_alloc' _ _⟩

theorem pil_len' (d n : Nat) : (pil d n).length = d := by simp [pil]
/-! ### The permutations, with the cells of their rows -/
def PmAt (w : World) (v : Value) (d : Nat) : Prop := ∃ g, v = .slice (some ⟨g, 0, none⟩) (pcn d) (pcn d) ∧ ∀ m, m < pcn d → ∃ b t, w.cell? ⟨g, m, none⟩ = some (.slice (some ⟨b, 0, none⟩) d d) ∧ w.heap[b]? = some (.cells (ints (pil d m)).toArray t (0, 0))
set_option maxRecDepth 100000 in
set_option maxHeartbeats 1000000 in
theorem permutationsAt_any (d : Nat) (hd : Dd d) (w : World) : Calls Try.prog 41 #[.int .i64 (d : Nat)] w fun e w' => (∃ v, e = .returned v ∧ PmAt w' v d) ∧ Below w.heap.size w w' := by
  rcases hd with rfl | rfl
  · go_enter Try.func41, Try.ntmps41
    go_wp2_with fail
    go_ret
    refine ⟨⟨_, rfl, _, rfl, fun m hm => ?_⟩, (((bel_alloc' _ _).alloc (by simp) _).alloc (by simp; omega) _)⟩
    obtain _ | _ | m := m
    · exact ⟨_, _, (blkc (hp_new (by simp)) 0).trans rfl, hp_old (hp_old (hp_new rfl))⟩
    · exact ⟨_, _, (blkc (hp_new (by simp)) 1).trans rfl, hp_old (hp_new (by simp))⟩
    · exact absurd hm (by show ¬ m + 2 < 2; omega)
  · go_enter Try.func41, Try.ntmps41
    go_wp2_with fail
    go_ret
    refine ⟨⟨_, rfl, _, rfl, fun m hm => ?_⟩, (((((((bel_alloc' _ _).alloc (by simp) _).alloc (by simp; omega) _).alloc (by simp; omega) _).alloc (by simp; omega) _).alloc (by simp; omega) _).alloc (by simp; omega) _)⟩
    obtain _ | _ | _ | _ | _ | _ | m := m
    · exact ⟨_, _, (blkc (hp_new (by simp)) 0).trans rfl, hp_old (hp_old (hp_old (hp_old (hp_old (hp_old (hp_new rfl))))))⟩
    · exact ⟨_, _, (blkc (hp_new (by simp)) 1).trans rfl, hp_old (hp_old (hp_old (hp_old (hp_old (hp_new (by simp))))))⟩
    · exact ⟨_, _, (blkc (hp_new (by simp)) 2).trans rfl, hp_old (hp_old (hp_old (hp_old (hp_new (by simp)))))⟩
    · exact ⟨_, _, (blkc (hp_new (by simp)) 3).trans rfl, hp_old (hp_old (hp_old (hp_new (by simp))))⟩
    · exact ⟨_, _, (blkc (hp_new (by simp)) 4).trans rfl, hp_old (hp_old (hp_new (by simp)))⟩
    · exact ⟨_, _, (blkc (hp_new (by simp)) 5).trans rfl, hp_old (hp_new (by simp))⟩
    · exact absurd hm (by show ¬ m + 6 < 6; omega)
end Go.Proofs.Ytecdjmfohcnadaa
