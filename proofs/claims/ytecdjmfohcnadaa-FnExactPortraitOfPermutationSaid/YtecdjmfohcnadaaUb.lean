/- Walks: bytes, letters, words of letters. -/
import Derived.Test.YtecdjmfohcnadaaRl
import Derived.Test.YtecdjmfohcnadaaGw0
namespace Go.Proofs.Ytecdjmfohcnadaa
open Go.RowKit

/-! ### Bytes -/
def u8s (xs : List Int) : List Value := xs.map fun x => .int .u8 x
theorem u8s_length (xs : List Int) : (u8s xs).length = xs.length := by simp [u8s]
theorem u8s_get (xs : List Int) (j : Nat) : (u8s xs)[j]? = xs[j]?.map (Value.int .u8) := by simp [u8s]
theorem u8s_append (xs ys : List Int) : u8s (xs ++ ys) = u8s xs ++ u8s ys := by simp [u8s]
def RdU (w : World) (v : Value) (xs : List Int) : Prop := ∃ A c, v = .slice A xs.length c ∧ Rd w A (u8s xs)
theorem Own.rdU {w : World} {base : Nat} {e : TypeId} {v : Value} {xs : List Int} (h : Own w base e v (u8s xs)) : RdU w v xs := by
  obtain ⟨A, c, rfl⟩ := h.slice
  exact ⟨A, c, by rw [u8s_length], h.rd.2⟩
/-- A slice of bytes, as a string. -/
theorem run_toString {w : World} {v : Value} {xs : List Int} (h : RdU w v xs) : (convert 66 9 v).run Try.prog w = .ok (.string (strOfNums xs)) w := by
  obtain ⟨A, c, rfl, hl, hr⟩ := h
  by_cases hx : xs = []
  · subst hx
    cases A with
    | none => exact run_convert_bytes_nil w 66 5 Try.underlying66 Try.underlying5 _ _ _ Try.underlying9
    | some a =>
      have h0 : (loadCells a 0).run Try.prog w = .ok (([] : List Int).map (Value.int .u8)).toArray w := run_loadCells_list (P := Try.prog) w a [] (fun j v hj => by simp at hj)
      rw [show ([] : List Int).length = 0 from rfl, run_convert_bytes_string w 66 9 5 _ _ c Try.underlying66 Try.underlying5 Try.underlying9, run_bytesToString w a 0 c [] h0]
      rfl
  · obtain ⟨b, o, rfl, hc⟩ := hr (fun e => hx (by simpa [u8s] using e))
    exact run_convert_bytes_arg w 66 5 Try.underlying66 Try.underlying5 b o _ c xs rfl (fun i hi => by
      have := hc i (.int .u8 (xs.getD i 0)) (by rw [u8s_get, List.getElem?_eq_getElem hi, getD_lt 0 hi]; rfl)
      exact this) _ Try.underlying9

/-! ### Small callees -/
theorem letter_any (x : Int) (w : World) (h0 : 0 ≤ x) (h1 : x ≤ 200) : Calls Try.prog 78 #[.int .i64 x] w fun e w' => e = .returned (.int .u8 (48 + x)) ∧ w = w' := by
  go_enter Try.func78, Try.ntmps78
  go_wp2
  go_ret
  exact ⟨rfl, rfl⟩

def lt (s : ByteArray) (k : Nat) : Nat := s[k]!.toNat - 48
theorem lt_of {s : ByteArray} {k : Nat} (hk : k < s.size) (h : 48 ≤ s[k].toNat) : ((s[k].toNat : Int) - 48) = lt s k := by
  unfold lt; rw [getElem!_pos s k hk]; omega
/-- A word of letters, place by place. -/
structure Lts (l : Nat) (s : ByteArray) : Prop where
  lo : ∀ k, (hk : k < s.size) → 48 ≤ s[k].toNat
  hi : ∀ k, k < s.size → lt s k < l
theorem Lts.of {l : Nat} {s : ByteArray} (h : lettersB l s = true) : Lts l s := by
  have key : ∀ k, (hk : k < s.size) → 48 ≤ s[k].toNat ∧ (s[k].toNat : Int) - 48 < l := by
    intro k hk
    have := List.all_eq_true.1 h k (List.mem_range.2 hk)
    unfold lOk at this
    rw [getElem!_pos s k hk] at this
    exact of_decide_eq_true this
  refine ⟨fun k hk => (key k hk).1, fun k hk => ?_⟩
  have := key k hk
  unfold lt
  rw [getElem!_pos s k hk]
  omega
end Go.Proofs.Ytecdjmfohcnadaa
