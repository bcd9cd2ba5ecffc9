/- Walks: slices.Repeat of the program's dump, l02Power of the reference, PowerWord of both. -/
import Derived.Test.YtjnnbjlombopnaaCom
import Derived.Shelf.Bits.Mul64
import Derived.Shelf.Lay
import Derived.Ground.NamesProg
import Derived.Laws.CopyOwn
import Derived.Deep.RegionLaw
namespace Go.Proofs
open Go.Shelf Go.RowKit
shelf_lay Lays.n212 Nm 212 at Try as Try.laysMul
end Go.Proofs
namespace Go.Proofs.Ytjnnbjlombopnaa
open Go.RowKit

theorem bitsMul_any (x y N : Nat) (hN : N = x * y) (hx : x ≤ 1048576) (hy : y ≤ 1048576) (w : World) :
    Calls Try.prog 200 #[.int .u64 x, .int .u64 y] w fun e w' => e = .returned (.tuple #[.int .u64 0, .int .u64 (N : Int)]) ∧ w = w' := by
  subst hN
  have h := Any.bits_Mul Try.laysMul x y (by omega) (by omega) w
  have hb : x * y ≤ 1048576 * 1048576 := Nat.mul_le_mul hx hy
  rw [Nat.div_eq_of_lt (by omega), Nat.mod_eq_of_lt (by omega)] at h
  exact h.mono fun e w' ⟨h1, h2⟩ => ⟨h1, h2.symm⟩

/-! ### The list, so many times -/
def repl {α : Type} (l : List α) (c : Nat) : List α := (List.replicate c l).flatten
theorem repl_succ {α : Type} (l : List α) (c : Nat) : repl l (c + 1) = l ++ repl l c := by simp [repl, List.replicate_succ]
theorem repl_len {α : Type} (l : List α) (c : Nat) : (repl l c).length = l.length * c := by
  induction c with
  | zero => simp [repl]
  | succ c ih => rw [repl_succ, List.length_append, ih, Nat.mul_succ]; omega
theorem repl_get {α : Type} (l : List α) (c i : Nat) (h : i < l.length * c) : (repl l c)[i]? = l[i % l.length]? := by
  induction c generalizing i with
  | zero => simp at h
  | succ c ih =>
    rw [repl_succ, List.getElem?_append]
    by_cases hi : i < l.length
    · rw [if_pos hi, Nat.mod_eq_of_lt hi]
    · rw [if_neg hi, ih (i - l.length) (by rw [Nat.mul_succ] at h; omega), ← Nat.mod_eq_sub_mod (by omega)]
theorem repl_snoc {α : Type} (l : List α) (c : Nat) : repl l (c + 1) = repl l c ++ l := by
  induction c with
  | zero => simp [repl]
  | succ c ih => rw [repl_succ, ih, ← List.append_assoc, ← repl_succ, ih]
/-- The first m of it stand again at each multiple of the list's length. -/
theorem repl_shift {α : Type} (l : List α) (c n m : Nat) (hn : l.length ∣ n) (hm : n + m ≤ l.length * c) : ((repl l c).drop n).take m = (repl l c).take m := by
  apply List.ext_getElem?
  intro i
  rw [List.getElem?_take, List.getElem?_take]
  by_cases hi : i < m
  · rw [if_pos hi, if_pos hi, List.getElem?_drop, repl_get l c (n + i) (by omega), repl_get l c i (by omega)]
    obtain ⟨d, rfl⟩ := hn
    rw [Nat.mul_add_mod]
  · rw [if_neg hi, if_neg hi]
/-- A copy of what stands there behind it. -/
theorem part_splice (l : List Value) (n k m : Nat) (z : Value) (hl : l.length = n) (hk : k + m ≤ n) (cs : List Value) (hc : (l.drop k).take m = cs) : _root_.Go.splice (part l n k z) k cs = part l n (k + m) z := by
  subst hc
  have hm : ((l.drop k).take m).length = m := by simp; omega
  unfold _root_.Go.splice part
  rw [hm]
  have h1 : (l.take k ++ List.replicate (n - k) z).take k = l.take k := by
    have e : (l.take k).length = k := by simp; omega
    rw [List.take_append_of_le_length (by omega), List.take_of_length_le (by omega)]
  have h2 : (l.take k ++ List.replicate (n - k) z).drop (k + m) = List.replicate (n - (k + m)) z := by
    have e : (l.take k).length = k := by simp; omega
    rw [List.drop_append, e, show k + m - k = m by omega, List.drop_eq_nil_of_le (by rw [e]; omega), List.nil_append, List.drop_replicate]
    congr 1
    omega
  rw [h1, h2, ← List.append_assoc, List.take_add]
theorem part_take (l : List Value) (n k m : Nat) (z : Value) (hl : l.length = n) (hk : k ≤ n) (hm : m ≤ k) : (part l n k z).take m = l.take m := by
  unfold part
  rw [List.take_append_of_le_length (by simp; omega), List.take_take, Nat.min_eq_left hm]
theorem info_sz64 : (Try.prog.info? 2).map (·.size) = some 1 := by kernel_rfl

/-- A slice of the call's own that is as long as it is roomy. -/
theorem Own.full {w : World} {base g n : Nat} {e : TypeId} {vs : List Value} (h : Own w base e (.slice (some ⟨g, 0, none⟩) n n) vs) : ∃ cur : Array Value, w.heap[g]? = some (.cells cur e (0, 0)) ∧ cur.size = n ∧ cur.toList = vs := by
  have hn := h.rd.1
  rcases h.2 with ⟨h1, _⟩ | ⟨g', cap, cur, h1, _, h3, _, h5, h6, h7⟩
  · cases h1
  · simp only [Value.slice.injEq, Option.some.injEq, Addr.mk.injEq] at h1
    obtain ⟨⟨rfl, _⟩, h8, rfl⟩ := h1
    refine ⟨cur, h3, by omega, ?_⟩
    rw [Nat.mul_one, List.take_of_length_le (by rw [Array.length_toList, h6]; omega)] at h7
    exact h7
theorem Own.of_full {w : World} {base g n : Nat} {e : TypeId} {vs : List Value} (h : w.heap[g]? = some (.cells vs.toArray e (0, 0))) (hn : vs.length = n) (hb : base ≤ g) (hm : n ≤ 1099511627776) : Own w base e (.slice (some ⟨g, 0, none⟩) n n) vs :=
  ⟨by omega, .inr ⟨g, n, _, by rw [hn], hb, h, by omega, by unfold maxLen; omega, by simp [hn], by simp⟩⟩

theorem rep_prep {w w1 : World} {A : Option Addr} {xs : List Int} {c tot n0 : Nat} {L : List Value} (HR : Rd w A (ints xs)) (Htot : tot = xs.length * c) (hn1 : n0 ≤ tot) (hn2 : n0 ≤ xs.length) (HLd : L = (repl (ints xs) c).take n0) (hcl : L.length = n0)
    (ho : Own w1 w.heap.size 2 (.slice (some ⟨w.heap.size, 0, none⟩) tot tot) (List.replicate tot (.int .i64 0))) (hg : w.grownBy w1 none) :
    Hid (Below w.heap.size w w1) ∧ Hid (w1.heap[w.heap.size]? = some (.cells (List.replicate tot (Value.int .i64 0)).toArray 2 (0, 0))) ∧ Hid (0 < L.length → ∃ ad, A = some ad ∧ ∀ (j : Nat) (v : Value), L[j]? = some v → w1.cell? (ad.add j) = some v) := by
  have Bel : Below w.heap.size w w1 := bel_grown (Below.refl _ w) hg (Nat.le_refl _) (fun k e => by cases e)
  refine ⟨hidd Bel, hidd ?_, hidd fun hpos => ?_⟩
  · obtain ⟨cur, h3, h6, h7⟩ := ho.full
    rw [h3, ← h7]
  · rw [hcl] at hpos
    have hne : ints xs ≠ [] := fun e => by rw [← List.length_eq_zero_iff, ints_length] at e; omega
    obtain ⟨b, o, hA, hcc⟩ := (HR.below Bel).2 hne
    refine ⟨⟨b, o, none⟩, hA, fun j v hj => ?_⟩
    have ha : (⟨b, o, none⟩ : Addr).add j = ⟨b, o + j, none⟩ := by unfold Addr.add; split <;> simp_all
    rw [ha]
    rw [HLd, List.getElem?_take] at hj
    split at hj
    · rename_i hlt
      rw [repl_get (ints xs) c j (by rw [ints_length, ← Htot]; omega), ints_length, Nat.mod_eq_of_lt (by omega)] at hj
      exact hcc j v hj
    · cases hj
theorem repl_one (xs : List Int) (c : Nat) : ∀ v ∈ (repl (ints xs) c), v.oneCell' = true := fun v hv => by
  unfold repl at hv
  obtain ⟨l, hl1, hl2⟩ := List.mem_flatten.1 hv
  rw [List.mem_replicate] at hl1
  rw [hl1.2] at hl2
  exact ints_one xs v hl2

set_option linter.unusedSimpArgs false in
set_option maxRecDepth 100000 in
set_option maxHeartbeats 400000 in
theorem repeat_any (v : Value) (xs : List Int) (c : Nat) (hlen : xs.length ≤ 1048576) (hc : c ≤ 1048576) (w : World) (hr : RdI w v xs) :
    Calls Try.prog 140 #[v, .int .i64 c] w fun e w' => ∃ v', e = .returned v' ∧ Own w' w.heap.size 2 v' (repl (ints xs) c) ∧ Below w.heap.size w w' := by
  obtain ⟨A, d, rfl, hR⟩ := hr
  have HR := hidd hR
  clear hR
  have hb : xs.length * c ≤ 1048576 * 1048576 := Nat.mul_le_mul hlen hc
  obtain ⟨tot, htot⟩ : ∃ tot, tot = xs.length * c := ⟨_, rfl⟩
  rw [← htot] at hb
  have HL := hidd (show (repl (ints xs) c).length = tot by rw [repl_len, ints_length, htot])
  have hnn : ¬ ((c : Int) < 0) := by omega
  have Htot := hidd htot
  have HM := hidd (bitsMul_any xs.length c tot Htot.out hlen hc)
  obtain ⟨n0, hn0⟩ : ∃ n0, n0 = Nat.min xs.length tot := ⟨_, rfl⟩
  have hm : n0 = tot ∨ (xs.length ∣ n0 ∧ 0 < n0) := by
    rw [hn0, Htot.out]
    cases c with
    | zero => left; simp
    | succ c =>
      rcases Nat.eq_zero_or_pos xs.length with h0 | h0
      · left; rw [h0]; simp
      · right
        have : Nat.min xs.length (xs.length * (c + 1)) = xs.length := by rw [Nat.mul_succ]; exact Nat.min_eq_left (by omega)
        rw [this]
        exact ⟨Nat.dvd_refl _, h0⟩
  have hn1 : n0 ≤ tot := by rw [hn0]; exact Nat.min_le_right _ _
  have hn2 : n0 ≤ xs.length := by rw [hn0]; exact Nat.min_le_left _ _
  have hcl : ((repl (ints xs) c).take n0).length = n0 := by rw [List.length_take, HL.out]; omega
  obtain ⟨L, hLdef⟩ : ∃ L, L = (repl (ints xs) c).take n0 := ⟨_, rfl⟩
  rw [← hLdef] at hcl
  have HLd := hidd hLdef
  have HN3 := hidd (show L.length = Nat.min xs.length tot by rw [hcl, hn0])
  have HCL := hidd hcl
  have HM0 := hidd hm
  have H1c := hidd (repl_one xs c)
  have g0 := hidd (part_zero (repl (ints xs) c) tot (.int .i64 0))
  clear hLdef hn0 htot hm hcl
  go_enter Try.func140, Try.ntmps140
  go_wp2_with (first | (go_at_call 200; refine (HM.out _).mono ?_; rintro e w' ⟨rfl, rfl⟩) | (at_make; refine mk_own rfl _ _ _ rfl w.heap.size 2 (.int .i64 0) 8 Try.underlying30 info_i64 rfl tot rfl rfl (by omega) (by omega) (Nat.le_refl _) ?_; intro w1 ho hg hlt; obtain ⟨Bel, G1, HP⟩ := rep_prep HR.out Htot.out hn1 hn2 HLd.out HCL.out ho hg; clear ho hg) | (refine wpList_copy_splice rfl _ _ _ _ rfl 2 Try.underlying30 info_sz64 _ _ _ _ _ _ rfl rfl w.heap.size 0 (List.replicate tot (Value.int .i64 0)) 2 G1.out L HN3.out (fun h => ⟨rfl, HP.out h⟩) (by rw [HCL.out, List.length_replicate]; omega) (fun v hv => H1c.out v (by rw [HLd.out] at hv; exact List.mem_of_mem_take hv)) w.heap.size w Bel.out (Nat.le_refl _) ?_; intro w4 hg4 hb4; rw [HCL.out]; have HB4 := hidd hb4; clear hb4 G1 HP Bel))
  have HG4 := hidd (show w4.heap[w.heap.size]? = some (.cells (part (repl (ints xs) c) tot n0 (.int .i64 0)).toArray 2 (0, 0)) by
    have := hg4.out
    rw [← g0.out, part_splice (repl (ints xs) c) tot 0 n0 _ HL.out (by omega) L (by rw [HLd.out, List.drop_zero]), Nat.zero_add] at this
    exact this)
  clear hg4
  obtain ⟨R, hRdef⟩ : ∃ R, R = repl (ints xs) c := ⟨_, rfl⟩
  have HS := hidd (show ∀ n m, xs.length ∣ n → n + m ≤ tot → (R.drop n).take m = R.take m from fun n m h1 h2 => by
    rw [hRdef]
    exact repl_shift (ints xs) c n m (by rw [ints_length]; exact h1) (by rw [ints_length, ← Htot.out]; exact h2))
  have HRd := hidd hRdef
  rw [← hRdef] at HL H1c HG4 HLd g0
  clear hRdef
  go_loopw [8] (fun i wr => ∃ n : Nat, n ≤ tot ∧ i = .int .i64 n ∧ Hid (n = tot ∨ (xs.length ∣ n ∧ 0 < n)) ∧ Hid (wr.heap[w.heap.size]? = some (.cells (part R tot n (.int .i64 0)).toArray 2 (0, 0))) ∧ Hid (Below w.heap.size w wr)) (fun i _ => tot - (intOf i).toNat)
  case atStart => exact ⟨n0, hn1, rfl, HM0, HG4, HB4⟩
  case round =>
    obtain ⟨n, hn, rfl, Hn, HG, Hb⟩ := hrel
    by_cases hlt : n < tot
    · obtain ⟨hd, hpos⟩ : xs.length ∣ n ∧ 0 < n := by rcases Hn.out with h | h; omega; exact h
      have Hd := hidd hd
      obtain ⟨m, hm⟩ : ∃ m, m = Nat.min n (tot - n) := ⟨_, rfl⟩
      have hm1 : m ≤ n := by rw [hm]; exact Nat.min_le_left _ _
      have hm2 : n + m ≤ tot := by have : m ≤ tot - n := by rw [hm]; exact Nat.min_le_right _ _
                                   omega
      have hm3 : 0 < m := by rw [hm]; exact Nat.lt_min.2 ⟨hpos, by omega⟩
      have Hm4 := hidd (show n + m = tot ∨ (xs.length ∣ n + m ∧ 0 < n + m) by
        rcases Nat.le_total n (tot - n) with h | h
        · have e : m = n := by rw [hm]; exact Nat.min_eq_left h
          right
          rw [e]
          exact ⟨Nat.dvd_add Hd.out Hd.out, by omega⟩
        · have e : m = tot - n := by rw [hm]; exact Nat.min_eq_right h
          left
          omega)
      obtain ⟨C, hC⟩ : ∃ C, C = R.take m := ⟨_, rfl⟩
      have hcl2 : C.length = m := by rw [hC, List.length_take, HL.out]; omega
      have HCL2 := hidd hcl2
      have HC := hidd hC
      have HN := hidd (show C.length = Nat.min n (tot - n) by rw [hcl2, hm])
      have Hfit := hidd (show n + C.length ≤ (part R tot n (.int .i64 0)).length by rw [part_length _ _ _ _ HL.out hn, hcl2]; exact hm2)
      have HG' := hidd (show wr.drew.heap[w.heap.size]? = some (.cells (part R tot n (.int .i64 0)).toArray 2 (0, 0)) from hp_bel HG.out (bel_drewN (Below.refl _ wr) 1))
      have Hb' := hidd (bel_drewN Hb.out 1 : Below w.heap.size w wr.drew)
      have HX := hidd (show ∀ (j : Nat) (v : Value), C[j]? = some v → wr.drew.cell? ((⟨w.heap.size, 0, none⟩ : Addr).add j) = some v from fun j v hj => by
        have ha : (⟨w.heap.size, 0, none⟩ : Addr).add j = ⟨w.heap.size, 0 + j, none⟩ := by unfold Addr.add; split <;> simp_all
        rw [ha, blkc HG'.out, Nat.zero_add]
        have hjm : j < m := by rw [← hcl2]; exact (List.getElem?_eq_some_iff.1 hj).1
        have e : (part R tot n (.int .i64 0)).take m = C := by rw [part_take _ _ _ _ _ HL.out hn hm1, ← hC]
        rw [← e, List.getElem?_take, if_pos hjm] at hj
        simpa using hj)
      have HO := hidd (show ∀ v ∈ C, v.oneCell' = true from fun v hv => H1c.out v (by rw [HC.out] at hv; exact List.mem_of_mem_take hv))
      have HSp := hidd (show _root_.Go.splice (part R tot n (.int .i64 0)) n C = part R tot (n + m) (.int .i64 0) from part_splice R tot n m _ HL.out hm2 C (by rw [HS.out n m Hd.out hm2, ← hC]))
      clear hm hC hcl2 hd
      have Hne := hidd (show ¬ (tot = n) by omega)
      go_wp2_with fail
      refine wp_region_any (by kernel_rfl) ?_
      change wpAny _ _ _ _ _ _ _ (World.drew _)
      refine wpAny_take (i := 0) (v := ?_) rfl (by kernel_rfl) (by kernel_rfl) (by kernel_rfl) (fun _ _ _ h => h) (Or.inl ⟨by rfl, ?_⟩) ?_
      rotate_left
      · intro wx; go_simp; try with_reducible rfl
      try simp only [Act.put, List.getElem_toArray, List.getElem_cons_succ, List.getElem_cons_zero, List.setIfInBounds_toArray, List.set_cons_zero, List.set_cons_succ]
      refine wpAny_take (i := 1) (v := ?_) rfl (by kernel_rfl) (by kernel_rfl) (by kernel_rfl) (fun _ _ _ h => h) (Or.inl ⟨by rfl, ?_⟩) ?_
      rotate_left
      · intro wx; go_simp; try with_reducible rfl
      try simp only [Act.put, List.getElem_toArray, List.getElem_cons_succ, List.getElem_cons_zero, List.setIfInBounds_toArray, List.set_cons_zero, List.set_cons_succ]
      refine wpAny_take (i := 2) (v := ?_) rfl (by kernel_rfl) (by kernel_rfl) (by kernel_rfl) (fun _ _ _ h => h) (Or.inl ⟨by rfl, ?_⟩) ?_
      rotate_left
      · intro wx; go_simp; try with_reducible rfl
      try simp only [Act.put, List.getElem_toArray, List.getElem_cons_succ, List.getElem_cons_zero, List.setIfInBounds_toArray, List.set_cons_zero, List.set_cons_succ]
      refine wpAny_take (i := 3) (v := ?_) rfl (by kernel_rfl) (by kernel_rfl) (by kernel_rfl) (fun _ _ _ h => h) (Or.inl ⟨by rfl, ?_⟩) ?_
      rotate_left
      · intro wx; go_simp; try with_reducible rfl
      try simp only [Act.put, List.getElem_toArray, List.getElem_cons_succ, List.getElem_cons_zero, List.setIfInBounds_toArray, List.set_cons_zero, List.set_cons_succ]
      refine wpAny_take (i := 4) (v := ?_) rfl (by kernel_rfl) (by kernel_rfl) (by kernel_rfl) (fun _ _ _ h => h) (Or.inl ⟨by rfl, ?_⟩) ?_
      rotate_left
      · intro wx; go_simp; try with_reducible rfl
      try simp only [Act.put, List.getElem_toArray, List.getElem_cons_succ, List.getElem_cons_zero, List.setIfInBounds_toArray, List.set_cons_zero, List.set_cons_succ]
      refine wpAny_take (i := 5) (v := ?_) rfl (by kernel_rfl) (by kernel_rfl) (by kernel_rfl) (fun _ _ _ h => h) (Or.inl ⟨by rfl, ?_⟩) ?_
      rotate_left
      · intro wx; go_simp; try with_reducible rfl
      try simp only [Act.put, List.getElem_toArray, List.getElem_cons_succ, List.getElem_cons_zero, List.setIfInBounds_toArray, List.set_cons_zero, List.set_cons_succ]
      refine wpAny_take (i := 6) (v := ?_) rfl (by kernel_rfl) (by kernel_rfl) (by kernel_rfl) (fun _ _ _ h => h) (Or.inl ⟨by rfl, ?_⟩) ?_
      rotate_left
      · intro wx; go_simp; try with_reducible rfl
      try simp only [Act.put, List.getElem_toArray, List.getElem_cons_succ, List.getElem_cons_zero, List.setIfInBounds_toArray, List.set_cons_zero, List.set_cons_succ]
      refine wpAny_ready (rs := [7]) (by kernel_rfl) (by simp) (AllReady.cons rfl (fun K hK => ?_) AllReady.nil)
      refine step_copy_splice rfl (.tmp 41) (.tmp 44) 30 30 rfl 2 Try.underlying30 info_sz64 _ _ _ _ _ _ rfl rfl w.heap.size n (part R tot n (.int .i64 0)) 2 HG'.out C HN.out (fun _ => ⟨if_neg Hne.out, _, rfl, HX.out⟩) Hfit.out HO.out w.heap.size w Hb'.out (Nat.le_refl _) ?_
      intro w5 hg5 hb5
      rw [HCL2.out]
      have HG5 := hidd (show w5.heap[w.heap.size]? = some (.cells (part R tot (n + m) (.int .i64 0)).toArray 2 (0, 0)) by rw [← HSp.out]; exact hg5.out)
      have HB5 := hidd hb5
      clear hg5 hb5
      refine hK _ _ ?_
      clear hK K
      try simp only [Act.put, List.getElem_toArray, List.getElem_cons_succ, List.getElem_cons_zero, List.setIfInBounds_toArray, List.set_cons_zero, List.set_cons_succ]
      refine wpAny_take (i := 8) (v := ?_) rfl (by kernel_rfl) (by kernel_rfl) (by kernel_rfl) (fun _ _ _ h => h) (Or.inl ⟨by rfl, ?_⟩) ?_
      rotate_left
      · intro wx; go_simp; try with_reducible rfl
      try simp only [Act.put, List.getElem_toArray, List.getElem_cons_succ, List.getElem_cons_zero, List.setIfInBounds_toArray, List.set_cons_zero, List.set_cons_succ]
      refine wpAny_take (i := 9) (v := ?_) rfl (by kernel_rfl) (by kernel_rfl) (by kernel_rfl) (fun _ _ _ h => h) (Or.inl ⟨by rfl, ?_⟩) ?_
      rotate_left
      · intro wx; go_simp; try with_reducible rfl
      try simp only [Act.put, List.getElem_toArray, List.getElem_cons_succ, List.getElem_cons_zero, List.setIfInBounds_toArray, List.set_cons_zero, List.set_cons_succ]
      refine wpAny_done (by kernel_rfl) ?_ _
      go_wp2_with fail
      go_roundw
      case rel => exact ⟨n + m, hm2, by rw [show IntKind.i64.wrap ((n : Int) + m) = n + m by rw [IntKind.wrap_i64]; omega]; go_num, Hm4, HG5, HB5⟩
      case measure => rw [show IntKind.i64.wrap ((n : Int) + m) = n + m by rw [IntKind.wrap_i64]; omega]; simp [intOf]; omega
    · have he : n = tot := by omega
      subst he
      have Hf := hidd (show Own wr w.heap.size 2 (.slice (some ⟨w.heap.size, 0, none⟩) n n) R by
        refine Own.of_full ?_ HL.out (Nat.le_refl _) (by omega)
        rw [HG.out, part_all _ _ _ HL.out])
      go_wp2_with fail
      go_ret
      exact ⟨_, rfl, by rw [← HRd.out]; exact Hf.out, Hb.out⟩
end Go.Proofs.Ytjnnbjlombopnaa
