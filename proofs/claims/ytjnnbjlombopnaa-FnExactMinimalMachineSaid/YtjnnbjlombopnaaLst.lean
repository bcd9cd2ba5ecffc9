/- Walks: the least equal states, of a table: comparing rows, the closure, like. -/
import Derived.Test.YtjnnbjlombopnaaClr
namespace Go.Proofs.Ytjnnbjlombopnaa
open Go.RowKit

theorem drewN_two (w : World) (a b : Nat) : ∃ n, (w.drewN a).drewN b = w.drewN n := ⟨a + b, by simp [World.drewN, Nat.add_assoc]⟩
set_option maxHeartbeats 400000 in
theorem slicesEqual_any (v v' : Value) (xs ys : List Int) (hxy : xs.length = ys.length) (w : World) (hr : RdI w v xs) (hr' : RdI w v' ys) :
    Calls Try.prog 197 #[v, v'] w fun e w' => e = .returned (.bool (decide (xs = ys))) ∧ ∃ n, w' = w.drewN n := by
  obtain ⟨A, c, rfl, hr⟩ := hr
  obtain ⟨A', c', rfl, hr'⟩ := hr'
  rw [← hxy]
  have hl := hr.1
  rw [ints_length] at hl
  have Hr := hidd hr
  have Hr' := hidd hr'
  have Hxy := hidd hxy
  clear hr hr' hxy
  go_enter Try.func197, Try.ntmps197
  go_wp2
  go_loopw [13] (fun i wr => ∃ k : Nat, k ≤ xs.length ∧ i = .int .i64 k ∧ Hid (∀ j, j < k → xs[j]? = ys[j]?) ∧ ∃ q, wr = w.drewN q) (fun i _ => xs.length - (intOf i).toNat)
  case atStart => exact ⟨0, Nat.zero_le _, rfl, hidd (fun j hj => by omega), 0, rfl⟩
  case round =>
    obtain ⟨k, hk, rfl, HE, q, rfl⟩ := hrel
    by_cases hlt : k < xs.length
    · have hlt2 : k < ys.length := by rw [← Hxy.out]; exact hlt
      obtain ⟨b, o, rfl, hc⟩ := Hr.out.get hlt
      obtain ⟨b', o', rfl, hc'⟩ := Hr'.out.get hlt2
      have i1 : (k : Int) < xs.length := by omega
      have i2 : (0 : Int) ≤ k := by omega
      obtain ⟨a, ha⟩ : ∃ a, a = xs[k] := ⟨_, rfl⟩
      obtain ⟨a', ha'⟩ : ∃ a, a = ys[k] := ⟨_, rfl⟩
      rw [← ha] at hc
      rw [← ha'] at hc'
      have Ha := hidd (show xs[k]? = some a by rw [ha]; exact List.getElem?_eq_getElem hlt)
      have Ha' := hidd (show ys[k]? = some a' by rw [ha']; exact List.getElem?_eq_getElem hlt2)
      clear ha ha'
      by_cases e : a = a'
      · subst e
        have hd : (a != a) = false := bne_self_eq_false a
        go_wp2
        go_quiet (fail)
        go_wp2
        go_roundw
        case rel => exact ⟨k + 1, by omega, by go_num, hidd (fun j hj => by
          by_cases e : j = k
          · subst e; rw [Ha.out, Ha'.out]
          · exact HE.out j (by omega)), _, rfl⟩
        case measure => simp [intOf]; omega
      · have hd : (a != a') = true := bne_iff_ne.2 e
        have He := hidd e
        clear e
        go_wp2
        go_quiet (fail)
        go_wp2
        go_ret
        exact ⟨ret_b (decide_eq_false fun h => by
          have h2 := Ha.out
          rw [h, Ha'.out] at h2
          exact He.out (by cases h2; rfl)).symm, drewN_two _ _ _⟩
    · go_wp2
      go_ret
      exact ⟨ret_b (decide_eq_true (List.ext_getElem? fun j => by
        by_cases hj : j < xs.length
        · exact HE.out j (by omega)
        · rw [List.getElem?_eq_none (by omega), List.getElem?_eq_none (by rw [← Hxy.out]; omega)])).symm, _, rfl⟩

theorem or_eq_iff (g : Gm) (q r : Nat) : decide (g.or q = g.or r) = g.oe q r := by
  rw [Bool.eq_iff_iff, decide_eq_true_eq, Gm.oe_iff]
  unfold Gm.or
  constructor
  · intro h x hx
    have := congrArg (fun l : List Int => l[x]?) h
    simp [hx] at this
    omega
  · intro h
    refine List.map_congr_left fun x hx => ?_
    rw [h x (List.mem_range.1 hx)]

set_option maxHeartbeats 1000000 in
/-- The closure that asks whether a row is like that of a state. -/
theorem least1_any (g : Gm) (T tb qb j q : Nat) (hq : q < g.s) (w : World) (hT : TabAt w T (g.nxs g.s) (g.ous g.s)) (t u : TypeId) (h1 : w.heap[tb]? = some (.cells #[.pointer (some ⟨T, 0, none⟩)] t (0, 0))) (h2 : w.heap[qb]? = some (.cells #[.int .i64 q] u (0, 0))) (v : Value) (hv : RdI w v (g.or j)) :
    Calls Try.prog 196 #[v, .pointer (some ⟨tb, 0, none⟩), .pointer (some ⟨qb, 0, none⟩)] w fun e w' => e = .returned (.bool (g.oe j q)) ∧ ∃ n, w' = w.drewN n := by
  obtain ⟨vn, vo, hT0, _, hO⟩ := hT
  have e2 : (g.ous g.s).length = g.s := by simp [Gm.ous]
  obtain ⟨Ao, co, ro, rfl, o1, o2, o3⟩ := hO
  rw [e2] at *
  have c1 : w.cell? ⟨T, 1, none⟩ = some (.slice Ao g.s co) := blkc hT0 1
  have c2 : w.cell? ⟨tb, 0, none⟩ = some (.pointer (some ⟨T, 0, none⟩)) := blkc h1 0
  have c3 : w.cell? ⟨qb, 0, none⟩ = some (.int .i64 q) := blkc h2 0
  have hqr : q < ro.length := by rw [o2]; exact hq
  obtain ⟨b, o, rfl, hcr⟩ := o1.at_ (List.getElem?_eq_getElem hqr)
  have HR := hidd (o3 q ro[q] (g.or q) (List.getElem?_eq_getElem hqr) (by simp [Gm.ous, hq]))
  obtain ⟨rv, hrv⟩ : ∃ rv, rv = ro[q] := ⟨_, rfl⟩
  rw [← hrv] at hcr HR
  obtain ⟨Ar, cr, er, hrr⟩ := HR.out
  have Hv := hidd hv
  have j1 : (q : Int) < g.s := by omega
  have HE : Hid (∀ n, Calls Try.prog 197 #[v, rv] (w.drewN n) fun e w' => e = .returned (.bool (g.oe j q)) ∧ ∃ m, w' = w.drewN m) := hidd (fun n => (slicesEqual_any v rv (g.or j) (g.or q) (by simp [Gm.or]) (w.drewN n) (hv.below (bel_drewN (Below.refl _ w) n)) (HR.out.below (bel_drewN (Below.refl _ w) n))).mono fun e w' ⟨h1, n', h2⟩ => ⟨by rw [h1, or_eq_iff], by rw [h2]; exact drewN_two _ _ _⟩)
  obtain ⟨Av, cv, rfl, hvv⟩ := hv
  subst er
  clear hT0 o1 o2 o3 h1 h2 hrv hrr hvv HR Hv
  go_enter Try.func196, Try.ntmps196
  go_wp2
  go_quiet ((go_at_call 197; exact HE.out _))
  go_wp2
  go_ret
  exact ⟨rfl, _, rfl⟩
end Go.Proofs.Ytjnnbjlombopnaa
