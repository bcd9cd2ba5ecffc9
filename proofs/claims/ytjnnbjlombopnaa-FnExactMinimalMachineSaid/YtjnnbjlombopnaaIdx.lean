/- Walks: slices.Index; the closure of minimal that tells a state's number. -/
import Derived.Test.YtjnnbjlombopnaaMin
namespace Go.Proofs.Ytjnnbjlombopnaa
open Go.RowKit

set_option maxHeartbeats 400000 in
/-- The first place of a number that stands in a list. -/
theorem slicesIndex_any (v : Value) (xs : List Int) (k : Nat) (y : Int) (hk : xs[k]? = some y) (hn : ∀ j, j < k → xs[j]? ≠ some y) (w : World) (hr : RdI w v xs) :
    Calls Try.prog 202 #[v, .int .i64 y] w fun e w' => e = .returned (.int .i64 (k : Nat)) ∧ w = w' := by
  obtain ⟨A, c, rfl, hr⟩ := hr
  have hl := hr.1
  rw [ints_length] at hl
  have hkl := (List.getElem?_eq_some_iff.1 hk).1
  have Hr := hidd hr
  have Hk := hidd hk
  have Hn := hidd hn
  clear hr hk hn
  go_enter Try.func202, Try.ntmps202
  go_wp2
  go_loopw [8] (fun i wr => ∃ j : Nat, j ≤ k ∧ i = .int .i64 j ∧ wr = w) (fun i _ => xs.length - (intOf i).toNat)
  case atStart => exact ⟨0, Nat.zero_le _, rfl, rfl⟩
  case round =>
    obtain ⟨j, hj, rfl, rfl⟩ := hrel
    have hjl : j < xs.length := by omega
    obtain ⟨b, o, rfl, hc⟩ := Hr.out.get hjl
    have i1 : (j : Int) < xs.length := by omega
    obtain ⟨a, ha⟩ : ∃ a, a = xs[j] := ⟨_, rfl⟩
    rw [← ha] at hc
    have Ha := hidd (show xs[j]? = some a by rw [ha]; exact List.getElem?_eq_getElem hjl)
    clear ha
    by_cases hjk : j = k
    · subst hjk
      have e : a = y := by have := Hk.out; rw [Ha.out] at this; cases this; rfl
      subst e
      go_wp2
      go_ret
      exact ⟨rfl, rfl⟩
    · have e : ¬ y = a := fun e => Hn.out j (by omega) (by rw [e]; exact Ha.out)
      go_wp2
      go_roundw
      case rel => exact ⟨j + 1, by omega, by go_num, trivial⟩
      case measure => simp [intOf]; omega

/-- The least states as a list of whole numbers. -/
def Gm.repL (g : Gm) (q : Nat) : List Int := (g.reps q).map fun (p : Nat) => (p : Int)
theorem Gm.repL_num (g : Gm) {q : Nat} (hq : q < g.s) : (g.repL g.s)[g.num q]? = some (g.lst q : Int) := by
  unfold Gm.repL Gm.num
  rw [List.getElem?_map, g.reps_get (Nat.lt_of_le_of_lt (g.lst_le' q) hq) (g.isR_lst q)]
  rfl
theorem Gm.repL_first (g : Gm) {q j : Nat} (hj : j < g.num q) : (g.repL g.s)[j]? ≠ some (g.lst q : Int) := by
  intro h
  unfold Gm.repL at h
  rw [List.getElem?_map] at h
  cases hr : (g.reps g.s)[j]? with
  | none => rw [hr] at h; cases h
  | some p =>
    rw [hr] at h
    have hp : p = g.lst q := by simp at h; omega
    have hm := List.mem_filter.1 (List.mem_of_getElem? hr)
    have hps : p < g.s := List.mem_range.1 hm.1
    have h2 := g.reps_get hps hm.2
    have hnd : (g.reps g.s).Nodup := (List.nodup_range).filter _
    have h3 := (List.getElem?_eq_some_iff.1 hr).1
    have h4 := (List.getElem?_eq_some_iff.1 h2).1
    have h5 : j = cnt g.isR p := by
      have hp' := List.pairwise_iff_getElem.1 hnd
      have e : (g.reps g.s)[j] = (g.reps g.s)[cnt g.isR p] := by rw [(List.getElem?_eq_some_iff.1 hr).2, (List.getElem?_eq_some_iff.1 h2).2]
      rcases Nat.lt_trichotomy j (cnt g.isR p) with h | h | h
      · exact absurd e (hp' _ _ h3 h4 h)
      · exact h
      · exact absurd e.symm (hp' _ _ h4 h3 h)
    unfold Gm.num at hj
    rw [← hp] at hj
    omega

set_option maxHeartbeats 400000 in
/-- The number of a state, as the closure of minimal tells it. -/
theorem minimal1_any (g : Gm) (q : Nat) (hq : q < g.s) (sb ob : Nat) (sv ov : Value) (t u : TypeId) (w : World) (h1 : w.heap[sb]? = some (.cells #[sv] t (0, 0))) (h2 : w.heap[ob]? = some (.cells #[ov] u (0, 0))) (hs : RdI w sv (g.repL g.s)) (ho : RdI w ov (ivL g.lst g.s)) :
    Calls Try.prog 201 #[.int .i64 q, .pointer (some ⟨sb, 0, none⟩), .pointer (some ⟨ob, 0, none⟩)] w fun e w' => e = .returned (.int .i64 (g.num q : Nat)) ∧ ∃ n, w' = w.drewN n := by
  have c1 : w.cell? ⟨sb, 0, none⟩ = some sv := blkc h1 0
  have c2 : w.cell? ⟨ob, 0, none⟩ = some ov := blkc h2 0
  have HE : Hid (∀ n, Calls Try.prog 202 #[sv, .int .i64 (g.lst q : Nat)] (w.drewN n) fun e w' => e = .returned (.int .i64 (g.num q : Nat)) ∧ ∃ m, w' = w.drewN m) := hidd (fun n => (slicesIndex_any sv (g.repL g.s) (g.num q) _ (g.repL_num hq) (fun j hj => g.repL_first hj) (w.drewN n) (hs.below (bel_drewN (Below.refl _ w) n))).mono fun e w' ⟨h1, h2⟩ => ⟨h1, n, h2.symm⟩)
  obtain ⟨A, c, rfl, hr⟩ := hs
  obtain ⟨B, d, rfl, hr'⟩ := ho
  obtain ⟨b, o, rfl, h3⟩ := hr'.get (show q < (ivL g.lst g.s).length by rw [ivL_len]; exact hq)
  rw [ivL_get _ hq] at h3
  rw [ivL_len] at c2
  have j1 : (q : Int) < g.s := by omega
  clear hr hr' h1 h2
  go_enter Try.func201, Try.ntmps201
  go_wp2
  go_quiet ((go_at_call 202; exact HE.out _))
  go_wp2
  go_ret
  exact ⟨rfl, _, rfl⟩
end Go.Proofs.Ytjnnbjlombopnaa
