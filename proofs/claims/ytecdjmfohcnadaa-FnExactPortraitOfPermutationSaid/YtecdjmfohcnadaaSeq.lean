/- Walks: slices.Equal over whole numbers. -/
import Derived.Test.YtecdjmfohcnadaaSl
import Derived.Test.YtecdjmfohcnadaaWi
import Derived.BigQuiet
import Derived.Deep.QuietTactic
namespace Go.Proofs.Ytecdjmfohcnadaa
open Go.RowKit

theorem drewN_twice (w : World) (a b : Nat) : ∃ n, (w.drewN a).drewN b = w.drewN n := ⟨a + b, by simp [World.drewN, Nat.add_assoc]⟩
set_option maxHeartbeats 400000 in
theorem slicesEqSame_any (v v' : Value) (xs ys : List Int) (hxy : xs.length = ys.length) (w : World) (hr : RdI w v xs) (hr' : RdI w v' ys) :
    Calls Try.prog 71 #[v, v'] w fun e w' => e = .returned (.bool (decide (xs = ys))) ∧ ∃ n, w' = w.drewN n := by
  obtain ⟨A, c, rfl, hr⟩ := hr
  obtain ⟨A', c', rfl, hr'⟩ := hr'
  rw [← hxy]
  have hl := hr.1
  rw [ints_length] at hl
  have Hr := hidd hr
  have Hr' := hidd hr'
  have Hxy := hidd hxy
  clear hr hr' hxy
  go_enter Try.func71, Try.ntmps71
  go_wp2
  go_loopw [13] (fun i wr => ∃ k : Nat, k ≤ xs.length ∧ i = .int .i64 k ∧ Hid (∀ j, j < k → xs[j]? = ys[j]?) ∧ ∃ q, wr = w.drewN q) (fun i _ => xs.length - (intOf i).toNat)
  case atStart => exact ⟨0, Nat.zero_le _, rfl, hidd (fun j hj => by omega), 0, rfl⟩
  case round =>
    obtain ⟨k, hk, rfl, HE, q, rfl⟩ := hrel
    by_cases hlt : k < xs.length
    · have hlt2 : k < ys.length := by rw [← Hxy.out]; exact hlt
      obtain ⟨b, o, rfl, hc⟩ := Hr.out.get hlt
      obtain ⟨b', o', rfl, hc'⟩ := Hr'.out.get hlt2
      have i1 : (k : Int) < xs.length := by omega
      have i2 : (0 : Int) ≤ k := by omega
      obtain ⟨a, ha⟩ : ∃ a, a = xs[k] := ⟨_, rfl⟩
      obtain ⟨a', ha'⟩ : ∃ a, a = ys[k] := ⟨_, rfl⟩
      rw [← ha] at hc
      rw [← ha'] at hc'
      have Ha := hidd (show xs[k]? = some a by rw [ha]; exact List.getElem?_eq_getElem hlt)
      have Ha' := hidd (show ys[k]? = some a' by rw [ha']; exact List.getElem?_eq_getElem hlt2)
      clear ha ha'
      by_cases e : a = a'
      · subst e
        have hd : (a != a) = false := bne_self_eq_false a
        go_wp2
        go_quiet (fail)
        go_wp2
        go_roundw
        case rel => exact ⟨k + 1, by omega, by go_num, hidd (fun j hj => by
          by_cases e : j = k
          · subst e; rw [Ha.out, Ha'.out]
          · exact HE.out j (by omega)), _, rfl⟩
        case measure => simp [intOf]; omega
      · have hd : (a != a') = true := bne_iff_ne.2 e
        have He := hidd e
        clear e
        go_wp2
        go_quiet (fail)
        go_wp2
        go_ret
        exact ⟨ret_b (decide_eq_false fun h => by
          have h2 := Ha.out
          rw [h, Ha'.out] at h2
          exact He.out (by cases h2; rfl)).symm, drewN_twice _ _ _⟩
    · go_wp2
      go_ret
      exact ⟨ret_b (decide_eq_true (List.ext_getElem? fun j => by
        by_cases hj : j < xs.length
        · exact HE.out j (by omega)
        · rw [List.getElem?_eq_none (by omega), List.getElem?_eq_none (by rw [← Hxy.out]; omega)])).symm, _, rfl⟩


theorem slicesEq_any (v v' : Value) (xs ys : List Int) (w : World) (hr : RdI w v xs) (hr' : RdI w v' ys) :
    Calls Try.prog 71 #[v, v'] w fun e w' => e = .returned (.bool (decide (xs = ys))) ∧ ∃ n, w' = w.drewN n := by
  by_cases hxy : xs.length = ys.length
  · exact slicesEqSame_any v v' xs ys hxy w hr hr'
  · have H := hidd (show decide (xs = ys) = false from decide_eq_false (fun e => hxy (by rw [e])))
    have i1 : ¬ (xs.length : Int) = ys.length := by omega
    have l1 := hr.le
    have l2 := hr'.le
    obtain ⟨A, c, rfl, hq⟩ := hr
    obtain ⟨A', c', rfl, hq'⟩ := hr'
    clear hxy hq hq'
    go_enter Try.func71, Try.ntmps71
    go_wp2
    go_ret
    exact ⟨ret_b H.out.symm, 0, rfl⟩
end Go.Proofs.Ytecdjmfohcnadaa
