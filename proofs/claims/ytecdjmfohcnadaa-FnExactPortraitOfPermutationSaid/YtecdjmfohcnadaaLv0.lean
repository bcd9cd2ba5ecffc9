/- Walks: powers, words of a level, their numbers; the words of a level in order. -/
import Derived.Test.YtecdjmfohcnadaaUb
import Derived.IntWalk
import Derived.Test.YtecdjmfohcnadaaReg
import Derived.Deep.RegionHeld3
namespace Go.Proofs.Ytecdjmfohcnadaa
open Go.RowKit

/-! ### Plain laws -/
theorem pow_bd {d n : Nat} (hd : d ≤ 3) (hn : n ≤ 5) : d ^ n ≤ 243 :=
  Nat.le_trans (Nat.pow_le_pow_left hd n) (Nat.pow_le_pow_right (by omega) hn : 3 ^ n ≤ 3 ^ 5)
/-- The last n letters of a number, as bytes. -/
def tl (d : Nat) : Nat → Nat → List Int
  | 0, _ => []
  | n + 1, k => (48 + (k / d ^ n % d : Nat) : Int) :: tl d n k
theorem tl_len (d : Nat) : ∀ n k, (tl d n k).length = n
  | 0, _ => rfl
  | n + 1, k => by rw [tl, List.length_cons, tl_len d n k]
theorem tl_snoc (d : Nat) : ∀ n k, tl d (n + 1) k = tl d n (k / d) ++ [(48 + (k % d : Nat) : Int)]
  | 0, k => by simp [tl]
  | n + 1, k => by
    rw [tl, tl_snoc d n k, tl, List.cons_append, Nat.div_div_eq_div_mul, Nat.pow_succ', Nat.mul_comm d]
theorem tl_byte (d : Nat) (hd : 1 ≤ d) (h3 : d ≤ 3) : ∀ n k, ∀ x ∈ tl d n k, 48 ≤ x ∧ x < 48 + d
  | 0, _, x, hx => by cases hx
  | n + 1, k, x, hx => by
    rw [tl] at hx
    rcases List.mem_cons.1 hx with rfl | hx
    · have := Nat.mod_lt (k / d ^ n) (show 0 < d by omega)
      omega
    · exact tl_byte d hd h3 n k x hx
/-- The word with a number. -/
def wd (d n k : Nat) : ByteArray := strOfNums (tl d n k)
theorem wd_size (d n k : Nat) : (wd d n k).size = n := by unfold wd; rw [strOfNums_size, tl_len]
theorem str_get (xs : List Int) {i : Nat} (h : i < xs.length) : (strOfNums xs)[i]'(by rw [strOfNums_size]; exact h) = UInt8.ofNat (xs[i]).toNat := by
  show (strOfNums xs).data[i]'_ = _
  simp [strOfNums]
theorem wd_lts {d : Nat} (hd : 1 ≤ d) (h3 : d ≤ 3) (n k : Nat) : Lts d (wd d n k) := by
  have key : ∀ i, (hi : i < (wd d n k).size) → 48 ≤ (wd d n k)[i].toNat ∧ (wd d n k)[i].toNat < 48 + d := fun i hi => by
    have hl : i < (tl d n k).length := by rw [wd_size] at hi; rw [tl_len]; exact hi
    have h := tl_byte d hd h3 n k _ (List.getElem_mem hl)
    have e : (wd d n k)[i] = UInt8.ofNat ((tl d n k)[i]).toNat := str_get _ hl
    rw [e, UInt8.toNat_ofNat']
    omega
  refine ⟨fun i hi => (key i hi).1, fun i hi => ?_⟩
  have := key i hi
  unfold lt
  rw [getElem!_pos _ i hi]
  omega
/-- The number of a word's first letters. -/
def nbr (d : Nat) (s : ByteArray) : Nat → Nat
  | 0 => 0
  | k + 1 => nbr d s k * d + lt s k
theorem nbr_lt {d : Nat} {s : ByteArray} (h : Lts d s) : ∀ k, k ≤ s.size → nbr d s k < d ^ k
  | 0, _ => by simp [nbr]
  | k + 1, hk => by
    have h1 := nbr_lt h k (by omega)
    have h2 := h.hi k (by omega)
    rw [nbr, Nat.pow_succ]
    have h3 : nbr d s k * d + d ≤ d ^ k * d := by
      have : (nbr d s k + 1) * d ≤ d ^ k * d := Nat.mul_le_mul_right d h1
      rw [Nat.add_mul, Nat.one_mul] at this
      exact this
    omega

/-! ### Powers -/
set_option maxHeartbeats 400000 in
theorem power_any (d n : Nat) (hd : d ≤ 3) (hn : n ≤ 5) (w : World) :
    Calls Try.prog 66 #[.int .i64 (d : Nat), .int .i64 (n : Nat)] w fun e w' => e = .returned (.int .i64 (d ^ n : Nat)) ∧ w = w' := by
  have HP := hidd (fun k (hk : k ≤ 5) => pow_bd hd hk)
  go_enter Try.func66, Try.ntmps66
  go_wp2
  go_loop [5, 7] (fun t i => ∃ k : Nat, k ≤ n ∧ i = .int .i64 k ∧ t = .int .i64 (d ^ k : Nat)) (fun _ i => n - (intOf i).toNat)
  case atStart => exact ⟨0, Nat.zero_le _, rfl, rfl⟩
  case round =>
    obtain ⟨k, hk, rfl, rfl⟩ := hrel
    by_cases hlt : k < n
    · obtain ⟨p, hp⟩ : ∃ p, p = d ^ k := ⟨_, rfl⟩
      obtain ⟨p', hp'⟩ : ∃ p, p = d ^ (k + 1) := ⟨_, rfl⟩
      have hb := HP.out (k + 1) (by omega)
      rw [← hp'] at hb
      have he : (p : Int) * (d : Int) = (p' : Int) := by rw [hp, hp', Nat.pow_succ, Int.natCast_mul]
      have HP' := hidd hp'
      rw [← hp]
      clear hp hp'
      go_wp2
      go_round
      case rel => exact ⟨k + 1, by omega, by go_num, by rw [HP'.out]⟩
      case measure => simp [intOf]; omega
    · have he : k = n := by omega
      subst he
      go_wp2
      go_ret
      exact ⟨rfl, rfl⟩
set_option maxHeartbeats 400000 in
theorem l01Power_any (d n : Nat) (hd : d ≤ 3) (hn : n ≤ 5) (w : World) :
    Calls Try.prog 72 #[.int .i64 (d : Nat), .int .i64 (n : Nat)] w fun e w' => e = .returned (.int .i64 (d ^ n : Nat)) ∧ w = w' := by
  have HP := hidd (fun k (hk : k ≤ 5) => pow_bd hd hk)
  go_enter Try.func72, Try.ntmps72
  go_wp2
  go_loop [1, 5] (fun i t => ∃ k m : Nat, k + m = n ∧ i = .int .i64 m ∧ t = .int .i64 (d ^ k : Nat)) (fun i _ => (intOf i).toNat)
  case atStart => exact ⟨0, n, by omega, rfl, rfl⟩
  case round =>
    obtain ⟨k, m, hk, rfl, rfl⟩ := hrel
    by_cases hlt : 0 < m
    · obtain ⟨m', rfl⟩ : ∃ m', m = m' + 1 := ⟨m - 1, by omega⟩
      obtain ⟨p, hp⟩ : ∃ p, p = d ^ k := ⟨_, rfl⟩
      obtain ⟨p', hp'⟩ : ∃ p, p = d ^ (k + 1) := ⟨_, rfl⟩
      have hb := HP.out (k + 1) (by omega)
      rw [← hp'] at hb
      have he : (p : Int) * (d : Int) = (p' : Int) := by rw [hp, hp', Nat.pow_succ, Int.natCast_mul]
      have HP' := hidd hp'
      rw [← hp]
      clear hp hp'
      go_wp2
      go_round
      case rel => exact ⟨k + 1, m', by omega, by go_num, by rw [HP'.out]⟩
      case measure => simp [intOf]
    · obtain rfl : m = 0 := by omega
      obtain rfl : k = n := by omega
      go_wp2
      go_ret
      exact ⟨rfl, rfl⟩

/-! ### The number of a word -/
set_option maxHeartbeats 400000 in
theorem numberOf_any (d : Nat) (hd : d ≤ 3) (s : ByteArray) (hl : Lts d s) (hs : s.size ≤ 5) (w : World) :
    Calls Try.prog 85 #[.int .i64 (d : Nat), .string s] w fun e w' => e = .returned (.int .i64 (nbr d s s.size : Nat)) ∧ w = w' := by
  have HL := hidd hl
  have HB := hidd (fun k (hk : k ≤ s.size) => Nat.le_trans (Nat.le_of_lt (nbr_lt hl k hk)) (pow_bd hd (Nat.le_trans hk hs)))
  clear hl
  go_enter Try.func85, Try.ntmps85
  go_wp2
  go_loop [5, 9] (fun t i => ∃ k : Nat, k ≤ s.size ∧ i = .int .i64 k ∧ t = .int .i64 (nbr d s k : Nat)) (fun _ i => s.size - (intOf i).toNat)
  case atStart => exact ⟨0, Nat.zero_le _, rfl, rfl⟩
  case round =>
    obtain ⟨k, hk, rfl, rfl⟩ := hrel
    by_cases hlt : k < s.size
    · have h48 := HL.out.lo k hlt
      have hc256 : s[k].toNat < 256 := s[k].toNat_lt
      have hlk := HL.out.hi k hlt
      obtain ⟨p, hp⟩ : ∃ p, p = nbr d s k := ⟨_, rfl⟩
      obtain ⟨p2, hp2⟩ : ∃ p2, p2 = p * d := ⟨_, rfl⟩
      obtain ⟨p', hp'⟩ : ∃ p, p = nbr d s (k + 1) := ⟨_, rfl⟩
      have hb := HB.out (k + 1) (by omega)
      rw [← hp'] at hb
      have hq : p' = p2 + lt s k := by rw [hp', hp2, hp]; rfl
      have he : (p : Int) * (d : Int) = (p2 : Int) := by rw [hp2, Int.natCast_mul]
      have HE := hidd (lt_of hlt h48)
      have HP' := hidd hp'
      have HQ := hidd hq
      have i5 : (48 : Int) ≤ s[k].toNat := by omega
      have i6 : (s[k].toNat : Int) < 256 := by omega
      have i7 : (p2 : Int) ≤ 243 := by omega
      rw [← hp]
      clear hp hp' hp2 hq
      go_wp2
      go_round
      case rel => exact ⟨k + 1, by omega, by go_num, by
        rw [← HP'.out, HQ.out, HE.out] <;> go_num⟩
      case measure => simp [intOf]; omega
    · have he : k = s.size := by omega
      subst he
      go_wp2
      go_ret
      exact ⟨rfl, rfl⟩
set_option maxHeartbeats 400000 in
theorem l01NumberOf_any (d : Nat) (hd : d ≤ 3) (s : ByteArray) (hl : Lts d s) (hs : s.size ≤ 5) (w : World) :
    Calls Try.prog 79 #[.int .i64 (d : Nat), .string s] w fun e w' => e = .returned (.int .i64 (nbr d s s.size : Nat)) ∧ w = w' := by
  have HL := hidd hl
  have HB := hidd (fun k (hk : k ≤ s.size) => Nat.le_trans (Nat.le_of_lt (nbr_lt hl k hk)) (pow_bd hd (Nat.le_trans hk hs)))
  clear hl
  go_enter Try.func79, Try.ntmps79
  go_wp2
  go_loop [5, 6] (fun t i => ∃ k : Nat, k ≤ s.size ∧ i = .int .i64 k ∧ t = .int .i64 (nbr d s k : Nat)) (fun _ i => s.size - (intOf i).toNat)
  case atStart => exact ⟨0, Nat.zero_le _, rfl, rfl⟩
  case round =>
    obtain ⟨k, hk, rfl, rfl⟩ := hrel
    by_cases hlt : k < s.size
    · have h48 := HL.out.lo k hlt
      have hc256 : s[k].toNat < 256 := s[k].toNat_lt
      have hlk := HL.out.hi k hlt
      obtain ⟨p, hp⟩ : ∃ p, p = nbr d s k := ⟨_, rfl⟩
      obtain ⟨p2, hp2⟩ : ∃ p2, p2 = p * d := ⟨_, rfl⟩
      obtain ⟨p', hp'⟩ : ∃ p, p = nbr d s (k + 1) := ⟨_, rfl⟩
      have hb := HB.out (k + 1) (by omega)
      rw [← hp'] at hb
      have hq : p' = p2 + lt s k := by rw [hp', hp2, hp]; rfl
      have he : (p : Int) * (d : Int) = (p2 : Int) := by rw [hp2, Int.natCast_mul]
      have HE := hidd (lt_of hlt h48)
      have HP' := hidd hp'
      have HQ := hidd hq
      have i5 : (48 : Int) ≤ s[k].toNat := by omega
      have i6 : (s[k].toNat : Int) < 256 := by omega
      have i7 : (p2 : Int) ≤ 243 := by omega
      rw [← hp]
      clear hp hp' hp2 hq
      go_wp2
      go_round
      case rel => exact ⟨k + 1, by omega, by go_num, by
        rw [← HP'.out, HQ.out, HE.out] <;> go_num⟩
      case measure => simp [intOf]; omega
    · have he : k = s.size := by omega
      subst he
      go_wp2
      go_ret
      exact ⟨rfl, rfl⟩

/-! ### The word of a number -/
theorem tl_step (d n j k : Nat) (hj : j < n) : (List.replicate (n - j) (Value.int .u8 0) ++ u8s (tl d j k)).set (n - j - 1) (.int .u8 (48 + (k / d ^ j % d : Nat) : Int)) = List.replicate (n - (j + 1)) (Value.int .u8 0) ++ u8s (tl d (j + 1) k) := by
  have e : n - j = (n - (j + 1)) + 1 := by omega
  rw [e, List.replicate_succ', List.append_assoc]
  rw [show n - (j + 1) + 1 - 1 = n - (j + 1) by omega, List.set_append_right _ _ (by simp)]
  simp [tl, u8s]
set_option maxRecDepth 100000 in
set_option maxHeartbeats 1000000 in
theorem wordOf_any (d n k : Nat) (hd : 2 ≤ d) (h3 : d ≤ 3) (hn : n ≤ 5) (hk : k ≤ 243) (w : World) :
    Calls Try.prog 92 #[.int .i64 (d : Nat), .int .i64 (n : Nat), .int .i64 (k : Nat)] w fun e w' => e = .returned (.string (wd d n k)) ∧ Below w.heap.size w w' := by
  go_enter Try.func92, Try.ntmps92
  go_wp2_with (at_make; refine mk_own rfl _ _ _ rfl w.heap.size 5 (.int .u8 0) 1 Try.underlying66 info_u8 rfl n rfl rfl (by omega) (by omega) (Nat.le_refl _) ?_; intro w1 ho hg hlt)
  have Ho := hidd ho
  have Bel := hidd ((Below.refl w.heap.size w).grown hg (Nat.le_refl _) (fun k hk => by cases hk))
  clear ho hg
  go_loopw [2, 8] (fun t i wr => ∃ j : Nat, j ≤ n ∧ i = .int .i64 ((n : Int) - 1 - j) ∧ t = .int .i64 (k / d ^ j : Nat) ∧ Hid (Own wr w.heap.size 5 (.slice (some ⟨w.heap.size, 0, none⟩) n n) (List.replicate (n - j) (Value.int .u8 0) ++ u8s (tl d j k))) ∧ Hid (Below w.heap.size w wr)) (fun _ i _ => (intOf i + 1).toNat)
  case atStart => exact ⟨0, Nat.zero_le _, by go_num, by simp, hidd (by simpa [tl, u8s] using Ho.out), Bel⟩
  case round =>
    clear Ho Bel
    obtain ⟨j, hj, rfl, rfl, HP, Hb⟩ := hrel
    by_cases hlt : j < n
    · obtain ⟨p, hp⟩ : ∃ p, p = k / d ^ j := ⟨_, rfl⟩
      have hpk : p ≤ k := by rw [hp]; exact Nat.div_le_self _ _
      obtain ⟨r, hr⟩ : ∃ r, r = p % d := ⟨_, rfl⟩
      obtain ⟨p', hp'⟩ : ∃ p', p' = p / d := ⟨_, rfl⟩
      have hrd : r < d := by rw [hr]; exact Nat.mod_lt _ (by omega)
      have e1 : (p : Int) % (d : Int) = (r : Int) := by rw [hr]; rfl
      have e2 : (p : Int) / (d : Int) = (p' : Int) := by rw [hp']; rfl
      have HS := hidd (tl_step d n j k hlt)
      have hpb : p' ≤ 243 := Nat.le_trans (by rw [hp']; exact Nat.div_le_self _ _) (Nat.le_trans hpk hk)
      have HR := hidd (show k / d ^ j % d = r by rw [← hp, hr])
      have HQ := hidd (show k / d ^ (j + 1) = p' by rw [hp', hp, Nat.div_div_eq_div_mul, Nat.pow_succ])
      obtain ⟨m, hm⟩ : ∃ m, n = m + j + 1 := ⟨n - j - 1, by omega⟩
      have hi : (n : Int) - 1 - (j : Int) = (m : Int) := by omega
      have d2 := HP.out.frozen m
      have d1 := HP.out.cell (j := m) (v := .int .u8 0) (by
        rw [List.getElem?_append_left (by rw [List.length_replicate]; omega), List.getElem?_replicate, if_pos (by omega)])
      have hmn : (m : Int) < n := by omega
      have HM := hidd hm
      rw [← hp, hi]
      clear hp hr hp' hm hi
      go_wp2_with (go_at_call 78; refine (letter_any _ _ (by omega) (by omega)).mono ?_; rintro e w3 ⟨rfl, rfl⟩)
      go_roundw
      case rel =>
        refine ⟨j + 1, by omega, ?_, by rw [HQ.out], hidd ?_, hidd (Hb.out.setCell (Nat.le_refl _) _)⟩
        · rw [show (n : Int) - 1 - ((j + 1 : Nat) : Int) = (m : Int) - 1 by have := HM.out; omega]
        · have := HP.out.store m (.int .u8 (48 + (r : Nat) : Int))
          have h2 := HS.out
          rw [HR.out, show n - j - 1 = m by have := HM.out; omega] at h2
          rw [h2] at this
          exact this
      case measure => first | (simp [intOf]; done) | (simp [intOf]; omega)
    · have he : j = n := by omega
      subst he
      have := HP.out
      rw [show j - j = 0 by omega, List.replicate_zero, List.nil_append] at this
      have hcv := run_toString this.rdU
      clear this
      have hi : (j : Int) - 1 - (j : Int) = -1 := by omega
      rw [hi]
      clear hi
      go_wp2_with fail
      go_ret
      exact ⟨rfl, Hb.out⟩

theorem strOfNums_append (xs ys : List Int) : strOfNums (xs ++ ys) = strOfNums xs ++ strOfNums ys := by
  apply ByteArray.ext
  apply Array.toList_inj.1
  rw [strOfNums_data, ByteArray.data_append, Array.toList_append, strOfNums_data, strOfNums_data, List.map_append]
theorem drew_bel' (w : World) : Below w.heap.size w w.drew := (bel_drewN (Below.refl _ w) 1)
theorem RdU.one {w : World} {g : Nat} {x : Int} {t : TypeId} (h : w.heap[g]? = some (.cells #[.int .u8 x] t (0, 0))) : RdU w (.slice (some ⟨g, 0, none⟩) 1 1) [x] :=
  ⟨_, 1, rfl, by simp [u8s], fun _ => ⟨g, 0, rfl, fun j v hj => by
    match j, hj with
    | 0, hj => rw [blkc h]; simpa [u8s] using hj⟩⟩
set_option linter.unusedSimpArgs false
set_option maxRecDepth 100000 in
set_option maxHeartbeats 1000000 in
theorem l01WordOf_any (d : Nat) (hd : 2 ≤ d) (h3 : d ≤ 3) : ∀ (n k : Nat), n ≤ 5 → k ≤ 243 → ∀ (w : World),
    Calls Try.prog 80 #[.int .i64 (d : Nat), .int .i64 (n : Nat), .int .i64 (k : Nat)] w fun e w' => e = .returned (.string (wd d n k)) ∧ Below w.heap.size w w'
  | 0, k, _, _, w => by
    go_enter Try.func80, Try.ntmps80
    go_wp2_with fail
    go_ret
    exact ⟨rfl, Below.refl _ _⟩
  | n + 1, k, hn, hk, w => by
    obtain ⟨p', hp'⟩ : ∃ p', p' = k / d := ⟨_, rfl⟩
    obtain ⟨r, hr⟩ : ∃ r, r = k % d := ⟨_, rfl⟩
    have hpk : p' ≤ k := by rw [hp']; exact Nat.div_le_self _ _
    have hrd : r < d := by rw [hr]; exact Nat.mod_lt _ (by omega)
    have e1 : (k : Int) % (d : Int) = (r : Int) := by rw [hr]; rfl
    have e2 : (k : Int) / (d : Int) = (p' : Int) := by rw [hp']; rfl
    have IH := hidd (fun W => l01WordOf_any d hd h3 n p' (by omega) (by omega) W)
    have HW := hidd (show tl d (n + 1) k = tl d n p' ++ [(48 + (r : Nat) : Int)] by rw [tl_snoc, hp', hr])
    have HC := hidd (show wd d n p' ++ strOfNums [(48 + (r : Nat) : Int)] = wd d (n + 1) k by unfold wd; rw [HW.out, strOfNums_append])
    have HZ := hidd (show ¬ 9223372036854775807 < (wd d n p').size + (strOfNums [(48 + (r : Nat) : Int)]).size by
      rw [wd_size, strOfNums_size, List.length_singleton]; omega)
    have d0 : ¬ d = 0 := by omega
    have r1 : IntKind.u8.wrap (48 + (r : Int)) = 48 + (r : Int) := IntWalk.u8_in _ (by omega)
    have r2 : IntKind.i64.wrap (p' : Int) = (p' : Int) := IntWalk.i64_in _ (by omega)
    have r3 : IntKind.i64.wrap (r : Int) = (r : Int) := IntWalk.i64_in _ (by omega)
    have r4 : IntKind.i64.wrap (48 + (r : Int)) = 48 + (r : Int) := IntWalk.i64_in _ (by omega)
    have r5 : IntKind.i64.wrap (n : Int) = (n : Int) := IntWalk.i64_in _ (by omega)
    have r6 : (k : Int).tmod (d : Int) = (r : Int) := by rw [Int.tmod_eq_emod_of_nonneg (by omega), e1]
    have r7 : (k : Int).tdiv (d : Int) = (p' : Int) := by rw [Int.tdiv_eq_ediv_of_nonneg (by omega), e2]
    clear hp' hr
    go_enter Try.func80, Try.ntmps80
    go_wp2_with fail
    refine wp_region_held (S := fun _ => True) (by kernel_rfl) ?_
    change wpAnyH _ _ _ _ _ _ _ _ (World.drew _)
    refine wpAnyH_take (i := 0) (v := ?v0) rfl (by kernel_rfl) (by kernel_rfl) (by kernel_rfl) (fun _ _ _ h => h) (Or.inl ⟨by rfl, ?h0⟩) trivial ?_
    case h0 => (intro w2 hS; clear hS; go_simp; first | done | with_reducible rfl)
    simp only [Act.put, List.getElem_toArray, List.getElem_cons_succ, List.getElem_cons_zero, List.setIfInBounds_toArray, List.set_cons_zero, List.set_cons_succ]
    refine wpAnyH_take (i := 1) (v := ?v1) rfl (by kernel_rfl) (by kernel_rfl) (by kernel_rfl) (fun _ _ _ h => h) (Or.inl ⟨by rfl, ?h1⟩) trivial ?_
    case h1 => (intro w2 hS; clear hS; go_simp; first | done | with_reducible rfl)
    simp only [Act.put, List.getElem_toArray, List.getElem_cons_succ, List.getElem_cons_zero, List.setIfInBounds_toArray, List.set_cons_zero, List.set_cons_succ]
    refine wpAnyH_take (i := 2) (v := ?v2) rfl (by kernel_rfl) (by kernel_rfl) (by kernel_rfl) (fun _ _ _ h => h) (Or.inl ⟨by rfl, ?h2⟩) trivial ?_
    case h2 => (intro w2 hS; clear hS; go_simp; first | done | with_reducible rfl)
    simp only [Act.put, List.getElem_toArray, List.getElem_cons_succ, List.getElem_cons_zero, List.setIfInBounds_toArray, List.set_cons_zero, List.set_cons_succ]
    refine wpAnyH_take (i := 3) (v := ?v3) rfl (by kernel_rfl) (by kernel_rfl) (by kernel_rfl) (fun _ _ _ h => h) (Or.inl ⟨by rfl, ?h3⟩) trivial ?_
    case h3 => (intro w2 hS; clear hS; go_simp; first | done | with_reducible rfl)
    simp only [Act.put, List.getElem_toArray, List.getElem_cons_succ, List.getElem_cons_zero, List.setIfInBounds_toArray, List.set_cons_zero, List.set_cons_succ]
    refine wpAnyH_take (i := 4) (v := ?v4) rfl (by kernel_rfl) (by kernel_rfl) (by kernel_rfl) (fun _ _ _ h => h) (Or.inl ⟨by rfl, ?h4⟩) trivial ?_
    case h4 => (intro w2 hS; clear hS; go_simp; first | done | with_reducible rfl)
    simp only [Act.put, List.getElem_toArray, List.getElem_cons_succ, List.getElem_cons_zero, List.setIfInBounds_toArray, List.set_cons_zero, List.set_cons_succ]
    refine wpAnyH_take (i := 5) (v := ?v5) rfl (by kernel_rfl) (by kernel_rfl) (by kernel_rfl) (fun _ _ _ h => h) (Or.inl ⟨by rfl, ?h5⟩) trivial ?_
    case h5 => (intro w2 hS; clear hS; go_simp; first | done | with_reducible rfl)
    simp only [Act.put, List.getElem_toArray, List.getElem_cons_succ, List.getElem_cons_zero, List.setIfInBounds_toArray, List.set_cons_zero, List.set_cons_succ]
    refine wpAnyH_take (i := 7) (v := ?v7) rfl (by kernel_rfl) (by kernel_rfl) (by kernel_rfl) (fun _ _ _ h => h) (Or.inl ⟨by rfl, ?h7⟩) trivial ?_
    case h7 => (intro w2 hS; clear hS; go_simp; first | done | with_reducible rfl)
    simp only [Act.put, List.getElem_toArray, List.getElem_cons_succ, List.getElem_cons_zero, List.setIfInBounds_toArray, List.set_cons_zero, List.set_cons_succ]
    refine wpAnyH_take (i := 8) (v := ?v8) rfl (by kernel_rfl) (by kernel_rfl) (by kernel_rfl) (fun _ _ _ h => h) (Or.inl ⟨by rfl, ?h8⟩) trivial ?_
    case h8 => (intro w2 hS; clear hS; go_simp; first | done | with_reducible rfl)
    simp only [Act.put, List.getElem_toArray, List.getElem_cons_succ, List.getElem_cons_zero, List.setIfInBounds_toArray, List.set_cons_zero, List.set_cons_succ]
    refine wpAnyH_take (i := 9) (v := ?v9) rfl (by kernel_rfl) (by kernel_rfl) (by kernel_rfl) (fun _ _ _ h => h) (Or.inl ⟨by rfl, ?h9⟩) trivial ?_
    case h9 => (intro w2 hS; clear hS; go_simp; first | done | with_reducible rfl)
    simp only [Act.put, List.getElem_toArray, List.getElem_cons_succ, List.getElem_cons_zero, List.setIfInBounds_toArray, List.set_cons_zero, List.set_cons_succ]
    refine wpAnyH_take (i := 10) (v := ?v10) rfl (by kernel_rfl) (by kernel_rfl) (by kernel_rfl) (fun _ _ _ h => h) (Or.inl ⟨by rfl, ?h10⟩) trivial ?_
    case h10 => (intro w2 hS; clear hS; go_simp; first | done | with_reducible rfl)
    simp only [Act.put, List.getElem_toArray, List.getElem_cons_succ, List.getElem_cons_zero, List.setIfInBounds_toArray, List.set_cons_zero, List.set_cons_succ]
    refine wpAnyH_take (i := 11) (v := ?v11) rfl (by kernel_rfl) (by kernel_rfl) (by kernel_rfl) (fun _ _ _ h => h) (Or.inl ⟨by rfl, ?h11⟩) trivial ?_
    case h11 => (intro w2 hS; clear hS; go_simp; first | done | with_reducible rfl)
    simp only [Act.put, List.getElem_toArray, List.getElem_cons_succ, List.getElem_cons_zero, List.setIfInBounds_toArray, List.set_cons_zero, List.set_cons_succ]
    refine wpAnyH_grow (fun _ _ _ h => h) 1 #[true, true, true, true, true, true, true, true, true, true, true, true, true, true, true, false] [Ft.val 6 15 (.string (wd d n p')), ⟨12, 21, false, fun v w => ∃ g, v = .slice (some ⟨g, 0, none⟩) 1 1 ∧ w.heap[g]? = some (.cells #[.int .u8 (48 + (r : Nat))] 5 (0, 0)), fun v w w' hb ⟨g, e, h⟩ => ⟨g, e, hp_bel h hb⟩⟩, Ft.val 13 22 (.string (strOfNums [(48 + (r : Nat) : Int)])), Ft.val 14 23 (.string (wd d (n + 1) k))] [6, 12, 13, 14] [15, 21, 22, 23] rfl rfl (by kernel_rfl) ?_ trivial ?_
    · simp only [List.forall_mem_cons]
      refine ⟨?_, ?_, ?_, ?_, fun _ h => by cases h⟩
      · refine ⟨_, rfl, rfl, fun u w2 hS hb hf K hK => ?_⟩
        simp only [putT, List.map_cons, List.map_nil, Ft.val, putF, List.foldl_cons, List.foldl_nil, Act.put, List.setIfInBounds_toArray, List.set_cons_zero, List.set_cons_succ] at hK ⊢
        clear hS hf
        go_simp
        refine (IH.out w2).mono ?_
        rintro e w3 ⟨rfl, hb3⟩
        exact hK _ _ hb3 rfl (fun h => by cases h)
      · refine ⟨_, rfl, rfl, fun u w2 hS hb hf K hK => ?_⟩
        simp only [putT, List.map_cons, List.map_nil, Ft.val, putF, List.foldl_cons, List.foldl_nil, Act.put, List.setIfInBounds_toArray, List.set_cons_zero, List.set_cons_succ] at hK ⊢
        clear hS hf
        go_simp
        exact hK _ _ (bel_alloc' _ _) ⟨_, rfl, hp_new rfl⟩ (fun h => by cases h)
      · refine ⟨_, rfl, rfl, fun u w2 hS hb hf K hK => ?_⟩
        obtain ⟨gb, e21, h21⟩ := fs_at hf 1 _ rfl (by kernel_rfl)
        have e21' : u 21 = .slice (some ⟨gb, 0, none⟩) 1 1 := e21
        have hcv := run_toString (RdU.one h21)
        simp only [putT, List.map_cons, List.map_nil, Ft.val, putF, List.foldl_cons, List.foldl_nil, Act.put, List.setIfInBounds_toArray, List.set_cons_zero, List.set_cons_succ] at hK ⊢
        rw [e21'] at hK ⊢
        clear hS hf e21 e21'
        go_simp
        exact hK _ _ (Below.refl _ _) rfl (fun h => by cases h)
      · refine ⟨_, rfl, rfl, fun u w2 hS hb hf K hK => ?_⟩
        have e15 : u 15 = .string (wd d n p') := fs_at hf 0 _ rfl (by kernel_rfl)
        have e22 : u 22 = .string (strOfNums [(48 + (r : Nat) : Int)]) := fs_at hf 2 _ rfl (by kernel_rfl)
        simp only [putT, List.map_cons, List.map_nil, Ft.val, putF, List.foldl_cons, List.foldl_nil, Act.put, List.setIfInBounds_toArray, List.set_cons_zero, List.set_cons_succ] at hK ⊢
        rw [e15, e22] at hK ⊢
        clear hS hf e15 e22
        go_simp
        rw [if_neg HZ.out, HC.out]
        exact hK _ _ (Below.refl _ _) rfl (fun h => by cases h)
    · intro u w2 hS hb hf hne
      have e23 : u 23 = .string (wd d (n + 1) k) := fs_all hf 3 _ rfl
      have hb2 := hidd ((drew_bel' w).trans hb)
      simp only [putT, List.map_cons, List.map_nil, Ft.val, putF, List.foldl_cons, List.foldl_nil, Act.put, List.setIfInBounds_toArray, List.set_cons_zero, List.set_cons_succ, List.getElem_toArray, List.getElem_cons_succ, List.getElem_cons_zero, e23]
      clear hf hne e23 hb hS
      refine wpAnyH_take (i := 15) (v := ?v15) rfl (by kernel_rfl) (by kernel_rfl) (by kernel_rfl) (fun _ _ _ h => h) (Or.inl ⟨by rfl, ?h15⟩) trivial ?_
      case h15 => (intro w2 hS; clear hS; go_simp; first | done | with_reducible rfl)
      simp only [Act.put, List.getElem_toArray, List.getElem_cons_succ, List.getElem_cons_zero, List.setIfInBounds_toArray, List.set_cons_zero, List.set_cons_succ]
      refine wpAnyH_done (by kernel_rfl) ?_ _
      go_wp2_with fail
      go_ret
      exact ⟨rfl, hb2.out⟩
end Go.Proofs.Ytecdjmfohcnadaa
