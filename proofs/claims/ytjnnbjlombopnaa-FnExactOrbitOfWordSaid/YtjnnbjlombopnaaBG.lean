/- Small texts of the walks under one roof. -/
import Derived.Test.YtjnnbjlombopnaaBE
import Derived.Test.YtjnnbjlombopnaaBA
import Derived.Test.YtjnnbjlombopnaaBF
/- Plain laws: a word comes back to itself. -/
namespace Go.Proofs.Ytjnnbjlombopnaa
open Go.RowKit

theorem php : ∀ (N : Nat) (f : Nat → Nat), (∀ i, i ≤ N → f i < N) → ∃ i j, i < j ∧ j ≤ N ∧ f i = f j
  | 0, f, h => absurd (h 0 (Nat.le_refl _)) (Nat.not_lt_zero _)
  | N + 1, f, h => by
    by_cases hv : ∃ i, i ≤ N ∧ f i = f (N + 1)
    · obtain ⟨i, hi, e⟩ := hv
      exact ⟨i, N + 1, by omega, Nat.le_refl _, e⟩
    · have hne : ∀ i, i ≤ N → f i ≠ f (N + 1) := fun i hi e => hv ⟨i, hi, e⟩
      obtain ⟨i, j, hij, hj, e⟩ := php N (fun i => if f i < f (N + 1) then f i else f i - 1) (fun i hi => by
        have h1 := h i (by omega)
        have h2 := h (N + 1) (Nat.le_refl _)
        have h3 := hne i hi
        show (if f i < f (N + 1) then f i else f i - 1) < N
        split <;> omega)
      refine ⟨i, j, hij, by omega, ?_⟩
      have h1 := hne i (by omega)
      have h2 := hne j hj
      have e' : (if f i < f (N + 1) then f i else f i - 1) = (if f j < f (N + 1) then f j else f j - 1) := e
      split at e' <;> split at e' <;> omega
/-- Two words of letters that agree letter by letter are the same. -/
theorem words_eq {l : Nat} {s t : ByteArray} (hs : Lts l s) (ht : Lts l t) (hz : s.size = t.size) (h : ∀ k, k < s.size → lt s k = lt t k) : s = t := by
  apply ByteArray.ext
  apply Array.ext
  · exact hz
  · intro k h1 h2
    have a1 := hs.lo k h1
    have a2 := ht.lo k h2
    have a3 := h k h1
    unfold lt at a3
    rw [getElem!_pos s k h1, getElem!_pos t k h2] at a3
    have : s[k].toNat = t[k].toNat := by omega
    exact UInt8.toNat_inj.1 this
theorem nbr_inj {d : Nat} {s t : ByteArray} (hs : Lts d s) (ht : Lts d t) (hz : s.size = t.size) : ∀ n, n ≤ s.size → nbr d s n = nbr d t n → ∀ k, k < n → lt s k = lt t k
  | 0, _, _, k, hk => absurd hk (Nat.not_lt_zero _)
  | n + 1, hn, e, k, hk => by
    have h1 := hs.hi n (by omega)
    have h2 := ht.hi n (by omega)
    have e' : nbr d s n * d + lt s n = nbr d t n * d + lt t n := e
    have e1 : lt s n = lt t n := by
      have h3 := congrArg (· % d) e'
      simp only [Nat.mul_add_mod_self_right, Nat.mod_eq_of_lt h1, Nat.mod_eq_of_lt h2] at h3
      exact h3
    have e2 : nbr d s n = nbr d t n := by
      have h3 : nbr d s n * d = nbr d t n * d := by omega
      exact Nat.eq_of_mul_eq_mul_right (by omega) h3
    by_cases hk2 : k = n
    · subst hk2; exact e1
    · exact nbr_inj hs ht hz n (by omega) e2 k (by omega)
theorem Gm.act_size (g : Gm) (q : Nat) (s : ByteArray) : (g.act q s).size = s.size := by unfold Gm.act; rw [strOfNums_size, g.ob_length]
theorem Gm.act_lts {g : Gm} (hok : g.Ok) {q : Nat} (hq : q < g.s) {s : ByteArray} (hs : Lts g.l s) : Lts g.l (g.act q s) := by
  refine bytes_lts hok.l3 _ fun x hx => ?_
  obtain ⟨k, hk, rfl⟩ := List.mem_map.1 hx
  have hk := List.mem_range.1 hk
  have := hok.olt _ _ (Gm.st_lt hok hq hs k (by omega)) (hs.hi k hk)
  omega
theorem Gm.act_letter {g : Gm} (hok : g.Ok) {q : Nat} (hq : q < g.s) {s : ByteArray} (hs : Lts g.l s) {k : Nat} (hk : k < s.size) : lt (g.act q s) k = g.ou (g.st q s k) (lt s k) := by
  have hb : k < (g.ob q s s.size).length := by rw [g.ob_length]; exact hk
  have ho := hok.olt _ _ (Gm.st_lt hok hq hs k (by omega)) (hs.hi k hk)
  have l3 := hok.l3
  have hz : k < (g.act q s).size := by rw [g.act_size]; exact hk
  have e : (g.act q s)[k] = UInt8.ofNat ((g.ob q s s.size)[k]).toNat := str_get _ hb
  have e2 : (g.ob q s s.size)[k] = 48 + (g.ou (g.st q s k) (lt s k) : Int) := by
    have := g.ob_get q s s.size k hk
    rw [List.getElem?_eq_getElem hb] at this
    exact Option.some.inj this
  show (g.act q s)[k]!.toNat - 48 = _
  rw [getElem!_pos _ k hz, e, e2, UInt8.toNat_ofNat']
  omega
theorem Gm.act_inj {g : Gm} (hok : g.Ok) {q : Nat} (hq : q < g.s) {s t : ByteArray} (hs : Lts g.l s) (ht : Lts g.l t) (hz : s.size = t.size) (h : g.act q s = g.act q t) : s = t := by
  have key : ∀ n, n ≤ s.size → (∀ k, k < n → lt s k = lt t k) ∧ g.st q s n = g.st q t n := by
    intro n
    induction n with
    | zero => exact fun _ => ⟨fun k hk => absurd hk (Nat.not_lt_zero _), rfl⟩
    | succ n ih =>
      intro hn
      obtain ⟨h1, h2⟩ := ih (by omega)
      have a1 := Gm.act_letter hok hq hs (k := n) (by omega)
      have a2 := Gm.act_letter hok hq ht (k := n) (by omega)
      rw [h, a2, h2] at a1
      have e := hok.inj _ _ _ (Gm.st_lt hok hq ht n (by omega)) (ht.hi n (by omega)) (hs.hi n (by omega)) a1
      refine ⟨fun k hk => ?_, ?_⟩
      · by_cases hk2 : k = n
        · subst hk2; exact e.symm
        · exact h1 k (by omega)
      · show g.nx (g.st q s n) (lt s n) = g.nx (g.st q t n) (lt t n)
        rw [h2, e]
  exact words_eq hs ht hz (key s.size (Nat.le_refl _)).1
/-- The words of the orbit. -/
def Gm.oit (g : Gm) (q : Nat) (s : ByteArray) : Nat → ByteArray
  | 0 => s
  | k + 1 => g.act q (g.oit q s k)
theorem Gm.oit_ok {g : Gm} (hok : g.Ok) {q : Nat} (hq : q < g.s) {s : ByteArray} (hs : Lts g.l s) : ∀ k, Lts g.l (g.oit q s k) ∧ (g.oit q s k).size = s.size
  | 0 => ⟨hs, rfl⟩
  | k + 1 => by
    obtain ⟨h1, h2⟩ := Gm.oit_ok hok hq hs k
    exact ⟨Gm.act_lts hok hq h1, (g.act_size q _).trans h2⟩
theorem Gm.oit_back {g : Gm} (hok : g.Ok) {q : Nat} (hq : q < g.s) {s : ByteArray} (hs : Lts g.l s) : ∀ i m, g.oit q s i = g.oit q s (i + m) → g.oit q s m = s
  | 0, m, h => by rw [Nat.zero_add] at h; exact h.symm
  | i + 1, m, h => by
    rw [show i + 1 + m = (i + m) + 1 by omega] at h
    obtain ⟨a1, a2⟩ := Gm.oit_ok hok hq hs i
    obtain ⟨b1, b2⟩ := Gm.oit_ok hok hq hs (i + m)
    exact Gm.oit_back hok hq hs i m (Gm.act_inj hok hq a1 b1 (a2.trans b2.symm) h)
/-- How many words the orbit has. -/
def Gm.per (g : Gm) (q : Nat) (s : ByteArray) : Nat := first (fun k => decide (g.oit q s (k + 1) = s)) 243 + 1
theorem Gm.per_spec {g : Gm} (hok : g.Ok) {q : Nat} (hq : q < g.s) {s : ByteArray} (hs : Lts g.l s) (h5 : s.size ≤ 5) :
    1 ≤ g.per q s ∧ g.per q s ≤ 243 ∧ g.oit q s (g.per q s) = s ∧ ∀ k, 1 ≤ k → k < g.per q s → ¬ g.oit q s k = s := by
  have hN := pow_bd hok.l3 h5
  obtain ⟨i, j, hij, hj, e⟩ := php (g.l ^ s.size) (fun k => nbr g.l (g.oit q s k) s.size) (fun k _ => by
    obtain ⟨a1, a2⟩ := Gm.oit_ok hok hq hs k
    have := nbr_lt a1 s.size (by omega)
    exact this)
  obtain ⟨a1, a2⟩ := Gm.oit_ok hok hq hs i
  obtain ⟨b1, b2⟩ := Gm.oit_ok hok hq hs j
  have e2 := words_eq a1 b1 (a2.trans b2.symm) (fun k hk => nbr_inj a1 b1 (a2.trans b2.symm) s.size (by omega) e k (by omega))
  obtain ⟨m, rfl⟩ : ∃ m, j = i + m := ⟨j - i, by omega⟩
  have e3 := Gm.oit_back hok hq hs i m e2
  obtain ⟨c1, c2, c3⟩ := first_spec (fun k => decide (g.oit q s (k + 1) = s)) 243
  have hlt : first (fun k => decide (g.oit q s (k + 1) = s)) 243 < 243 := by
    apply Decidable.byContradiction
    intro hn
    have h1 := c3 (m - 1) (by omega)
    rw [show m - 1 + 1 = m by omega] at h1
    exact of_decide_eq_false h1 e3
  refine ⟨by unfold Gm.per; omega, by unfold Gm.per; omega, of_decide_eq_true (c2 hlt), fun k h1 h2 => ?_⟩
  unfold Gm.per at h2
  have h3 := c3 (k - 1) (by omega)
  rw [show k - 1 + 1 = k by omega] at h3
  exact of_decide_eq_false h3
end Go.Proofs.Ytjnnbjlombopnaa

/- Walks: OrbitOfWord, of the program and of the reference. -/
namespace Go.Proofs.Ytjnnbjlombopnaa
open Go.RowKit

def strs (xs : List ByteArray) : List Value := xs.map .string
theorem strs_len (xs : List ByteArray) : (strs xs).length = xs.length := by simp [strs]
theorem strs_append (xs ys : List ByteArray) : strs (xs ++ ys) = strs xs ++ strs ys := by simp [strs]
def Gm.orb (g : Gm) (q : Nat) (s : ByteArray) (k : Nat) : List ByteArray := (List.range k).map (g.oit q s)
theorem Gm.orb_len (g : Gm) (q : Nat) (s : ByteArray) (k : Nat) : (g.orb q s k).length = k := by simp [Gm.orb]
theorem Gm.orb_succ (g : Gm) (q : Nat) (s : ByteArray) (k : Nat) : strs (g.orb q s (k + 1)) = strs (g.orb q s k) ++ [.string (g.oit q s k)] := by simp [Gm.orb, strs, List.range_succ]
theorem Gm.orb_get (g : Gm) (q : Nat) (s : ByteArray) {k i : Nat} (h : i < k) : (strs (g.orb q s k))[i]? = some (.string (g.oit q s i)) := by simp [Gm.orb, strs, h]
def orbR (m : Mc) (a : Int) (s : ByteArray) : List ByteArray × Int := if codeB m s [a] = 0 then (if s.size ≤ 5 then (m.gm.orb a.toNat s (m.gm.per a.toNat s), 0) else ([], 3)) else ([], codeB m s [a])
def sliceLen : Value → Nat
  | .slice _ n _ => n
  | _ => 0

set_option maxRecDepth 100000 in
set_option maxHeartbeats 1000000 in
theorem implOrbitOfWord_any (m : Mc) (cs : Array Value) (hm : m.Is cs) (a : Int) (s : ByteArray) (w : World) (hs : s.size ≤ 1048576) :
    Calls Try.prog 63 #[.agg cs, .int .i64 a, .string s] w fun e w' => (∃ v, e = .returned (.tuple #[v, .int .i64 (orbR m a s).2]) ∧ Own w' w.heap.size 9 v (strs (orbR m a s).1)) ∧ Below w.heap.size w w' := by
  have Hm := hidd hm
  clear hm
  by_cases hc : codeB m s [a] = 0
  · obtain ⟨g, q, rfl, rfl, hok, hq, hl, h40⟩ := code_zero hc
    have HR : Hid (orbR g.mc q s = _) := hidd (if_pos hc)
    have Hc := hidd hc
    have Hok := hidd hok
    have Hq := hidd hq
    have Hl := hidd hl
    clear hc
    by_cases h5 : s.size ≤ 5
    · rw [if_pos h5] at HR
      have HP := hidd (Gm.per_spec hok hq hl h5)
      have HR2 : Hid (orbR g.mc q s = (g.orb q s (g.per q s), 0)) := hidd HR.out
      have HI := hidd (fun k => Gm.oit_ok hok hq hl k)
      clear hok hq hl HR
      go_enter Try.func63, Try.ntmps63
      go_wp2_with (refine ldI rfl (.tmp 3) rfl w.heap.size rfl Hm.out (hp_new rfl) ?_)
      refine (codeOf_any _ cs Hm.out s _ [(q : Int)] _ (by omega) ?_).mono ?_
      · exact RdI.lit1 _ _ _ _ (by simp)
      rintro e w1 ⟨rfl, hb⟩
      rw [Hc.out]
      have B1 := hidd (bel_then ((bel_alloc w (.cells cs 27)).alloc (by simp) _) hb)
      have K1 := hidd (hp_bel (hp_old (hp_new rfl)) hb : w1.heap[w.heap.size]? = some (.cells cs 27 (0, 0)))
      clear hb
      go_wp2_with fail
      obtain ⟨w2, hw2⟩ : ∃ w2, w2 = w1.alloc (.cells #[.string s] 9) := ⟨_, rfl⟩
      have O2 := hidd (show Own w2 w1.heap.size 9 (.slice (some ⟨w1.heap.size, 0, none⟩) 1 1) (strs (g.orb q s 1)) by
        rw [hw2]
        exact Own.of_full (hp_new rfl) rfl (Nat.le_refl _) (by omega))
      have b12 := hidd (show Below w1.heap.size w1 w2 by rw [hw2]; exact bel_alloc' _ _)
      try rw [← hw2]
      rw [show decide ((5 : Int) < (s.size : Int)) = false from decide_eq_false (by omega)]
      clear hw2
      go_loopw [9] (fun v wr => ∃ (k : Nat) (A : Option Addr) (c : Nat), 1 ≤ k ∧ k ≤ g.per q s ∧ v = .slice A k c ∧ Hid (Own wr w1.heap.size 9 v (strs (g.orb q s k))) ∧ Hid (Below w1.heap.size w1 wr)) (fun v _ => g.per q s - sliceLen v)
      case atStart => exact ⟨1, _, _, Nat.le_refl _, HP.out.1, rfl, O2, b12⟩
      case round =>
        clear O2 b12
        obtain ⟨k, A, c, hk1, hk, rfl, HU, Hb⟩ := hrel
        have hk243 := HP.out.2.1
        obtain ⟨j, rfl⟩ : ∃ j, k = j + 1 := ⟨k - 1, by omega⟩
        obtain ⟨b, o, rfl, hcell⟩ := HU.out.rd.2.at_ (g.orb_get q s (Nat.lt_succ_self j))
        have e1 : ((j + 1 : Nat) : Int) - 1 = (j : Int) := by omega
        have e2 : (j : Int) < ((j + 1 : Nat) : Int) := by omega
        have hA := hidd (Gm.At.of_is ⟨Hm.out⟩ (hp_bel K1.out Hb.out))
        go_wp2_with fail
        refine (lead_any g Hok.out _ 0 q _ (g.oit q s j) wr hA.out rfl Hq.out (HI.out j).1 (by have := (HI.out j).2; omega)).mono ?_
        rintro e w3 ⟨rfl, hb3⟩
        have HU3 := hidd (HU.out.below hb3)
        have Hb3 := hidd (bel_then Hb.out hb3)
        clear hcell hb3 HU Hb hA
        obtain ⟨T, hT⟩ : ∃ T, T = g.act q (g.oit q s j) := ⟨_, rfl⟩
        have HT := hidd (show T = g.oit q s (j + 1) from hT)
        rw [← hT]
        clear hT
        by_cases hst : T = s
        · have hper : j + 1 = g.per q s := by
            apply Decidable.byContradiction
            intro hne
            exact HP.out.2.2.2 (j + 1) hk1 (by omega) (by rw [← HT.out]; exact hst)
          have HE := hidd hper
          have hTs : (T.toList == s.toList) = true := by rw [hst]; exact beq_self_eq_true _
          have HS := hidd hst
          clear hst hper
          go_wp2_with fail
          go_ret2
          exact ⟨⟨_, by rw [HR2.out]; rfl, by rw [HR2.out, ← HE.out]; exact HU3.out.mono B1.out.size⟩, bel_then B1.out Hb3.out⟩
        · have hper : j + 1 ≠ g.per q s := fun hpe => hst (by rw [HT.out, hpe]; exact HP.out.2.2.1)
          have hTs := str_ne hst
          have hlen2 : (strs (g.orb q s (j + 1))).length + 1 ≤ 1099511627776 := by rw [strs_len, g.orb_len]; omega
          have hbase := Hb3.out.size
          have HO := hidd (show strs (g.orb q s (j + 1 + 1)) = strs (g.orb q s (j + 1)) ++ [.string T] by rw [g.orb_succ, HT.out])
          have HS := hidd hst
          clear hst
          go_wp2_with (at_builtin; refine app_own rfl _ _ _ rfl w1.heap.size 9 (.string ⟨#[]⟩) 16 Try.underlying56 info_str rfl HU3.out rfl rfl rfl hlen2 (by decide) hbase ?_; intro v' w6 ho hgr hle; have Ho2 := hidd (show Own w6 w1.heap.size 9 v' (strs (g.orb q s (j + 1 + 1))) by rw [HO.out]; exact ho); have b2 := hidd (bel_own HU3.out hgr hbase); clear ho hgr)
          obtain ⟨A', c', hv⟩ := Ho2.out.slice
          rw [strs_len, g.orb_len] at hv
          have HV := hidd hv
          clear hv
          go_roundw
          case rel => exact ⟨j + 1 + 1, A', c', by omega, by omega, HV.out, Ho2, hidd (Hb3.out.trans b2.out)⟩
          case measure => (rw [HV.out]; simp [sliceLen]; omega)
    · rw [if_neg h5] at HR
      have i5 : (5 : Int) < s.size := by omega
      clear hok hq hl
      go_enter Try.func63, Try.ntmps63
      go_wp2_with (refine ldI rfl (.tmp 3) rfl w.heap.size rfl Hm.out (hp_new rfl) ?_)
      refine (codeOf_any _ cs Hm.out s _ [(q : Int)] _ (by omega) ?_).mono ?_
      · exact RdI.lit1 _ _ _ _ (by simp)
      rintro e w1 ⟨rfl, hb⟩
      rw [Hc.out]
      have B1 := hidd (bel_then ((bel_alloc w (.cells cs 27)).alloc (by simp) _) hb)
      clear hb
      go_wp2_with fail
      go_ret2
      exact ⟨⟨_, by rw [HR.out]; rfl, by rw [HR.out]; exact Own.nil _ _ _⟩, B1.out⟩
  · have HR : Hid (orbR m a s = _) := hidd (if_neg hc)
    obtain ⟨c, hcc⟩ : ∃ c, codeB m s [a] = c := ⟨_, rfl⟩
    rw [hcc] at hc
    have h1 : (c == 0) = false := by simp [hc]
    have h2 : (c != 0) = true := by simp [hc]
    have Hc := hidd hcc
    clear hc hcc
    go_enter Try.func63, Try.ntmps63
    go_wp2_with (refine ldI rfl (.tmp 3) rfl w.heap.size rfl Hm.out (hp_new rfl) ?_)
    refine (codeOf_any _ cs Hm.out s _ [a] _ (by omega) ?_).mono ?_
    · exact RdI.lit1 _ _ _ _ (by simp)
    rintro e w1 ⟨rfl, hb⟩
    rw [Hc.out]
    go_wp2
    go_ret2
    exact ⟨⟨_, by rw [HR.out, Hc.out]; rfl, by rw [HR.out]; exact Own.nil _ _ _⟩, bel_then ((bel_alloc w (.cells cs 27)).alloc (by simp) _) hb⟩

set_option maxRecDepth 100000 in
set_option maxHeartbeats 1000000 in
theorem specOrbitOfWord_any (m : Mc) (cs : Array Value) (hm : m.Is cs) (a : Int) (s : ByteArray) (w : World) (hs : s.size ≤ 1048576) :
    Calls Try.prog 62 #[.agg cs, .int .i64 a, .string s] w fun e w' => (∃ v, e = .returned (.tuple #[v, .int .i64 (orbR m a s).2]) ∧ Own w' w.heap.size 9 v (strs (orbR m a s).1)) ∧ Below w.heap.size w w' := by
  have Hm := hidd hm
  clear hm
  by_cases hc : codeB m s [a] = 0
  · obtain ⟨g, q, rfl, rfl, hok, hq, hl, h40⟩ := code_zero hc
    have HR : Hid (orbR g.mc q s = _) := hidd (if_pos hc)
    have Hc := hidd hc
    have Hok := hidd hok
    have Hq := hidd hq
    have Hl := hidd hl
    clear hc
    by_cases h5 : s.size ≤ 5
    · rw [if_pos h5] at HR
      have HP := hidd (Gm.per_spec hok hq hl h5)
      have HR2 : Hid (orbR g.mc q s = (g.orb q s (g.per q s), 0)) := hidd HR.out
      have HI := hidd (fun k => Gm.oit_ok hok hq hl k)
      clear hok hq hl HR
      go_enter Try.func62, Try.ntmps62
      go_wp2_with (refine ldI rfl (.tmp 3) rfl w.heap.size rfl Hm.out (hp_new rfl) ?_)
      refine (l01Code_any _ cs Hm.out _ s _ (by omega)).mono ?_
      rintro e w1 ⟨rfl, hb⟩
      rw [Hc.out]
      have B1 := hidd (bel_then (bel_alloc _ _) hb)
      have K1 := hidd (hp_bel (hp_new rfl) hb : w1.heap[w.heap.size]? = some (.cells cs 27 (0, 0)))
      clear hb
      go_wp2_with fail
      obtain ⟨w2, hw2⟩ : ∃ w2, w2 = w1.alloc (.cells #[] 9) := ⟨_, rfl⟩
      have O2 := hidd (show Own w2 w1.heap.size 9 (.slice (some ⟨w1.heap.size, 0, none⟩) 0 0) (strs (g.orb q s 0)) by
        rw [hw2]
        exact Own.empty w1 9 w1.heap.size (Nat.le_refl _))
      have b12 := hidd (show Below w1.heap.size w1 w2 by rw [hw2]; exact bel_alloc' _ _)
      try rw [← hw2]
      rw [show decide ((5 : Int) < (s.size : Int)) = false from decide_eq_false (by omega)]
      clear hw2
      go_loopw [9, 10] (fun v t wr => ∃ (k : Nat) (A : Option Addr) (c : Nat) (T : ByteArray), k ≤ g.per q s ∧ v = .slice A k c ∧ t = .string T ∧ Hid (T = g.oit q s k) ∧ Hid (Own wr w1.heap.size 9 v (strs (g.orb q s k))) ∧ Hid (Below w1.heap.size w1 wr)) (fun v _ _ => g.per q s - sliceLen v)
      case atStart => exact ⟨0, _, _, s, Nat.zero_le _, rfl, rfl, hidd rfl, O2, b12⟩
      case round =>
        clear O2 b12
        obtain ⟨k, A, c, T, hk, rfl, rfl, HT, HU, Hb⟩ := hrel
        have hk243 := HP.out.2.1
        by_cases hend : k = g.per q s
        · have hst : T = s := by rw [HT.out, hend]; exact HP.out.2.2.1
          have h1 := HP.out.1
          have j1 : ¬ (k : Int) = 0 := by omega
          have j2 : ((k : Int) == 0) = false := beq_eq_false_iff_ne.2 j1
          have hTs : (T.toList == s.toList) = true := by rw [hst]; exact beq_self_eq_true _
          have HE := hidd hend
          clear hst hend
          go_wp2_with fail
          go_ret2
          exact ⟨⟨_, by rw [HR2.out]; rfl, by rw [HR2.out, ← HE.out]; exact HU.out.mono B1.out.size⟩, bel_then B1.out Hb.out⟩
        · have hTz : T.size ≤ 5 := by rw [HT.out, (HI.out k).2]; exact h5
          have hTl := hidd (show Lts g.l T by rw [HT.out]; exact (HI.out k).1)
          have hlen2 : (strs (g.orb q s k)).length + 1 ≤ 1099511627776 := by rw [strs_len, g.orb_len]; omega
          have hbase := Hb.out.size
          have HO := hidd (show strs (g.orb q s (k + 1)) = strs (g.orb q s k) ++ [.string T] by rw [g.orb_succ, HT.out])
          have hkp : k < g.per q s := by omega
          clear hend
          by_cases h0 : k = 0
          · have j1 : (k : Int) = 0 := by omega
            have j2 : ((k : Int) == 0) = true := by rw [j1]; rfl
            have H0 := hidd h0
            clear h0
            go_wp2_with (first | (at_builtin; refine app_own rfl _ _ _ rfl w1.heap.size 9 (.string ⟨#[]⟩) 16 Try.underlying56 info_str rfl HU.out rfl rfl rfl hlen2 (by decide) hbase ?_; intro v' w6 ho hgr hle; have Ho2 := hidd (show Own w6 w1.heap.size 9 v' (strs (g.orb q s (k + 1))) by rw [HO.out]; exact ho); have b6 := hidd (Hb.out.trans (bel_own HU.out hgr hbase)); clear ho hgr) | (refine ldI rfl (.tmp 3) rfl w.heap.size rfl Hm.out (hp_bel K1.out b6.out) ?_))
            obtain ⟨A', c', hv⟩ := Ho2.out.slice
            rw [strs_len, g.orb_len] at hv
            have HV := hidd hv
            clear hv
            refine (l01Act_any g Hok.out cs ⟨Hm.out⟩ q _ T _ rfl Hq.out hTl.out (by omega) (by omega)).mono ?_
            rintro e w7 ⟨rfl, hb7⟩
            have O7 := hidd (Ho2.out.below hb7)
            have b7 := hidd (bel_then b6.out hb7)
            clear hb7
            go_wp2_with fail
            go_roundw
            case rel => exact ⟨k + 1, A', c', _, by omega, HV.out, rfl, hidd (by rw [HT.out]; rfl), O7, b7⟩
            case measure => (rw [HV.out]; simp [sliceLen]; omega)
          · have j1 : ¬ (k : Int) = 0 := by omega
            have j2 : ((k : Int) == 0) = false := beq_eq_false_iff_ne.2 j1
            have hTs := str_ne (fun hst : T = s => HP.out.2.2.2 k (by omega) hkp (by rw [← HT.out]; exact hst))
            go_wp2_with (first | (at_builtin; refine app_own rfl _ _ _ rfl w1.heap.size 9 (.string ⟨#[]⟩) 16 Try.underlying56 info_str rfl HU.out rfl rfl rfl hlen2 (by decide) hbase ?_; intro v' w6 ho hgr hle; have Ho2 := hidd (show Own w6 w1.heap.size 9 v' (strs (g.orb q s (k + 1))) by rw [HO.out]; exact ho); have b6 := hidd (Hb.out.trans (bel_own HU.out hgr hbase)); clear ho hgr) | (refine ldI rfl (.tmp 3) rfl w.heap.size rfl Hm.out (hp_bel K1.out b6.out) ?_))
            obtain ⟨A', c', hv⟩ := Ho2.out.slice
            rw [strs_len, g.orb_len] at hv
            have HV := hidd hv
            clear hv
            refine (l01Act_any g Hok.out cs ⟨Hm.out⟩ q _ T _ rfl Hq.out hTl.out (by omega) (by omega)).mono ?_
            rintro e w7 ⟨rfl, hb7⟩
            have O7 := hidd (Ho2.out.below hb7)
            have b7 := hidd (bel_then b6.out hb7)
            clear hb7
            go_wp2_with fail
            go_roundw
            case rel => exact ⟨k + 1, A', c', _, by omega, HV.out, rfl, hidd (by rw [HT.out]; rfl), O7, b7⟩
            case measure => (rw [HV.out]; simp [sliceLen]; omega)
    · rw [if_neg h5] at HR
      have i5 : (5 : Int) < s.size := by omega
      clear hok hq hl
      go_enter Try.func62, Try.ntmps62
      go_wp2_with (refine ldI rfl (.tmp 3) rfl w.heap.size rfl Hm.out (hp_new rfl) ?_)
      refine (l01Code_any _ cs Hm.out _ s _ (by omega)).mono ?_
      rintro e w1 ⟨rfl, hb⟩
      rw [Hc.out]
      have B1 := hidd (bel_then (bel_alloc _ _) hb)
      clear hb
      go_wp2_with fail
      go_ret2
      exact ⟨⟨_, by rw [HR.out]; rfl, by rw [HR.out]; exact Own.nil _ _ _⟩, B1.out⟩
  · have HR : Hid (orbR m a s = _) := hidd (if_neg hc)
    obtain ⟨c, hcc⟩ : ∃ c, codeB m s [a] = c := ⟨_, rfl⟩
    rw [hcc] at hc
    have h1 : (c == 0) = false := by simp [hc]
    have h2 : (c != 0) = true := by simp [hc]
    have Hc := hidd hcc
    clear hc hcc
    go_enter Try.func62, Try.ntmps62
    go_wp2_with (refine ldI rfl (.tmp 3) rfl w.heap.size rfl Hm.out (hp_new rfl) ?_)
    refine (l01Code_any _ cs Hm.out _ s _ (by omega)).mono ?_
    rintro e w1 ⟨rfl, hb⟩
    rw [Hc.out]
    go_wp2
    go_ret2
    exact ⟨⟨_, by rw [HR.out, Hc.out]; rfl, by rw [HR.out]; exact Own.nil _ _ _⟩, bel_then (bel_alloc _ _) hb⟩

theorem orbR_len (m : Mc) (a : Int) (s : ByteArray) : (orbR m a s).1.length ≤ 1048576 := by
  unfold orbR
  split
  · rename_i h
    split
    · rename_i h5
      obtain ⟨g, q, rfl, rfl, hok, hq, hl, h40⟩ := code_zero h
      have h2 := (Gm.per_spec hok hq hl h5).2.1
      show (g.orb q s (g.per q s)).length ≤ _
      rw [g.orb_len]
      omega
    · exact Nat.zero_le _
  · exact Nat.zero_le _
end Go.Proofs.Ytjnnbjlombopnaa

/- The laws' helpers for slices of texts: compared, marked, the marks looked for. -/
namespace Go.Proofs.Ytjnnbjlombopnaa
open Go.RowKit

/-- The digits of a number ahead of others. -/
def dg : Nat → Nat → List Int → List Int
  | 0, _, acc => acc
  | f + 1, n, acc => if n = 0 then acc else dg f (n / 10) ((48 + (n % 10 : Nat) : Int) :: acc)
theorem dg_zero (f : Nat) (acc : List Int) : dg f 0 acc = acc := by cases f <;> simp [dg]
/-- The text of a mark. -/
def mkT (m : Nat) : ByteArray := if m = 0 then ⟨#[109, 48]⟩ else strOfNums (109 :: dg m m [])
theorem em : (⟨#[109]⟩ : ByteArray) = strOfNums [109] := rfl

set_option maxRecDepth 100000 in
set_option maxHeartbeats 1000000 in
theorem markText_any (m : Nat) (hm : m ≤ 1099511627776) (w : World) :
    Calls Try.prog 138 #[.int .i64 (m : Nat)] w fun e w' => e = .returned (.string (mkT m)) ∧ Below w.heap.size w w' := by
  by_cases h0 : m = 0
  · have HM := hidd (show mkT m = ⟨#[109, 48]⟩ by unfold mkT; rw [if_pos h0])
    have i1 : (m : Int) ≤ 0 := by omega
    clear h0
    go_enter Try.func138, Try.ntmps138
    go_wp2_with fail
    go_ret
    exact ⟨by rw [HM.out]; rfl, Below.refl _ _⟩
  · have HM := hidd (show mkT m = strOfNums (109 :: dg m m []) by unfold mkT; rw [if_neg h0])
    have i1 : ¬ (m : Int) ≤ 0 := by omega
    obtain ⟨D, hD⟩ : ∃ D, D = dg m m [] := ⟨_, rfl⟩
    have HD := hidd hD
    clear h0 hD
    go_enter Try.func138, Try.ntmps138
    go_wp2_with fail
    go_loopw [0, 3] (fun i t wr => ∃ (n f : Nat) (acc : List Int) (T : ByteArray), i = .int .i64 n ∧ t = .string T ∧ Hid (T = strOfNums acc) ∧ n ≤ f ∧ acc.length + n ≤ m ∧ Hid (dg f n acc = D) ∧ Hid (Below w.heap.size w wr)) (fun i _ _ => (intOf i).toNat)
    case atStart => exact ⟨m, m, [], ⟨#[]⟩, rfl, rfl, hidd rfl, Nat.le_refl _, by simp, hidd HD.out.symm, hidd (Below.refl _ _)⟩
    case round =>
      obtain ⟨n, f, acc, T, rfl, rfl, HT, hf, hl, HQ, Hb⟩ := hrel
      by_cases hn : n = 0
      · subst hn
        have i2 : ¬ ((0 : Nat) : Int) > 0 := by omega
        have HE := hidd (show acc = D by have := HQ.out; rwa [dg_zero] at this)
        have hz : ¬ 9223372036854775807 < 1 + T.size := by rw [HT.out, strOfNums_size]; omega
        go_wp2_with fail
        go_ret
        refine ⟨?_, Hb.out⟩
        rw [HM.out, ← HD.out, ← HE.out, HT.out, em, ← strOfNums_append]
        rfl
      · have i2 : (0 : Int) < n := by omega
        obtain ⟨f', rfl⟩ : ∃ f', f = f' + 1 := ⟨f - 1, by omega⟩
        obtain ⟨p, hp⟩ : ∃ p, p = n / 10 := ⟨_, rfl⟩
        obtain ⟨r, hr⟩ : ∃ r, r = n % 10 := ⟨_, rfl⟩
        have e1 : (n : Int) % 10 = (r : Int) := by omega
        have e2 : (n : Int) / 10 = (p : Int) := by omega
        have e3 : (n : Int).tmod 10 = (r : Int) := by rw [Int.tmod_eq_emod_of_nonneg (by omega), e1]
        have e4 : (n : Int).tdiv 10 = (p : Int) := by rw [Int.tdiv_eq_ediv_of_nonneg (by omega), e2]
        have hr10 : r < 10 := by omega
        have r1 : IntKind.u8.wrap (48 + (r : Int)) = 48 + (r : Int) := IntWalk.u8_in _ (by omega)
        have HQ2 := hidd (show dg f' p ((48 + (r : Nat) : Int) :: acc) = D by
          have := HQ.out
          rw [dg, if_neg hn, ← hp, ← hr] at this
          exact this)
        have hpn : p < n := by omega
        have hcv := run_toString (RdU.one (w := wr.alloc (.cells #[.int .u8 (48 + (r : Int))] 5)) (g := wr.heap.size) (x := 48 + (r : Int)) (hp_new rfl))
        have hz : ¬ 9223372036854775807 < (strOfNums [48 + (r : Int)]).size + T.size := by rw [HT.out, strOfNums_size, strOfNums_size]; simp; omega
        have HT2 := hidd (show strOfNums [48 + (r : Int)] ++ T = strOfNums ((48 + (r : Nat) : Int) :: acc) by rw [HT.out, ← strOfNums_append]; rfl)
        clear hp hr hn
        go_wp2_with fail
        go_roundw
        case rel => exact ⟨p, f', (48 + (r : Nat) : Int) :: acc, _, by go_num, rfl, HT2, by omega, by simp; omega, HQ2, hidd (bel_then Hb.out (bel_alloc' _ _))⟩
        case measure => first | (simp [intOf]; done) | (simp [intOf]; omega)

/-- Reads as a list of texts. -/
def RdS (w : World) (v : Value) (xs : List ByteArray) : Prop := ∃ A c, v = .slice A xs.length c ∧ Rd w A (strs xs)
theorem strs_get (xs : List ByteArray) {k : Nat} (h : k < xs.length) : (strs xs)[k]? = some (.string xs[k]) := by simp [strs, h]
theorem Own.rdS {w : World} {base : Nat} {e : TypeId} {v : Value} {xs : List ByteArray} (h : Own w base e v (strs xs)) : RdS w v xs := by
  obtain ⟨A, c, rfl⟩ := h.slice
  have h2 := h.rd.2
  rw [strs_len]
  exact ⟨A, c, rfl, h2⟩
theorem RdS.below {w w' : World} {v : Value} {xs : List ByteArray} (h : RdS w v xs) (hb : Below w.heap.size w w') : RdS w' v xs := by
  obtain ⟨A, c, rfl, hr⟩ := h
  exact ⟨A, c, rfl, hr.below hb⟩
/-- The marks from s on, as texts. -/
def mksT (s n : Nat) : List ByteArray := (List.range n).map fun i => mkT (s + i)
theorem mksT_len (s n : Nat) : (mksT s n).length = n := by simp [mksT]
theorem mksT_succ (s n : Nat) : mksT s (n + 1) = mksT s n ++ [mkT (s + n)] := by simp [mksT, List.range_succ]
/-- The first k marked. -/
def mtd (xs : List ByteArray) (s k : Nat) : List ByteArray := mksT s k ++ xs.drop k
theorem mtd_zero (xs : List ByteArray) (s : Nat) : mtd xs s 0 = xs := by simp [mtd, mksT]
theorem mtd_all (xs : List ByteArray) (s : Nat) : mtd xs s xs.length = mksT s xs.length := by simp [mtd]
theorem mtd_len (xs : List ByteArray) (s : Nat) {k : Nat} (hk : k ≤ xs.length) : (mtd xs s k).length = xs.length := by simp [mtd, mksT_len]; omega
theorem mtd_get (xs : List ByteArray) (s : Nat) {k : Nat} (hk : k < xs.length) : (strs (mtd xs s k))[k]? = some (.string xs[k]) := by
  unfold mtd
  rw [strs_append, List.getElem?_append_right (by rw [strs_len, mksT_len]; omega), strs_len, mksT_len]
  simp [strs, hk]
theorem mtd_set (xs : List ByteArray) (s : Nat) {k : Nat} (hk : k < xs.length) : (strs (mtd xs s k)).set k (.string (mkT (s + k))) = strs (mtd xs s (k + 1)) := by
  unfold mtd
  rw [strs_append, List.set_append_right _ _ (by rw [strs_len, mksT_len]; omega), strs_len, mksT_len, Nat.sub_self, mksT_succ, List.append_assoc, strs_append, List.drop_eq_getElem_cons hk]
  rfl

set_option maxHeartbeats 1000000 in
theorem eqStringS_any (v v' : Value) (xs : List ByteArray) (w : World) (hl : xs.length ≤ 9223372036854775807) (hr : RdS w v xs) (hr' : RdS w v' xs) :
    Calls Try.prog 64 #[v, v'] w fun e w' => e = .returned (.bool true) ∧ Below w.heap.size w w' := by
  obtain ⟨A, c, rfl, hr⟩ := hr
  obtain ⟨A', c', rfl, hr'⟩ := hr'
  have Hr := hidd hr
  have Hr' := hidd hr'
  clear hr hr'
  go_enter Try.func64, Try.ntmps64
  go_wp2
  go_loopw [5] (fun i wr => ∃ k : Nat, k ≤ xs.length ∧ i = .int .i64 k ∧ ∃ q, wr = w.drewN q) (fun i _ => xs.length - (intOf i).toNat)
  case atStart => exact ⟨0, Nat.zero_le _, rfl, 0, rfl⟩
  case round =>
    obtain ⟨k, hk, rfl, q, rfl⟩ := hrel
    by_cases hlt : k < xs.length
    · obtain ⟨b, o, rfl, hc⟩ := Hr.out.at_ (strs_get xs hlt)
      obtain ⟨b', o', rfl, hc'⟩ := Hr'.out.at_ (strs_get xs hlt)
      have i1 : (k : Int) < xs.length := by omega
      have i2 : (0 : Int) ≤ k := by omega
      go_wp2
      go_quiet (fail)
      go_wp2
      go_roundw
      case rel => exact ⟨k + 1, by omega, by go_num, _, rfl⟩
      case measure => first | (simp [intOf]; done) | (simp [intOf]; omega)
    · go_wp2
      go_ret
      exact ⟨rfl, bel_drewN (Below.refl _ _) _⟩

theorem bel_row_any {w w' : World} (h : Below w.heap.size w w') {row : Option Nat} : w.grownBy w' row := ⟨h.os, h.tape, h.output, h.size, fun k hk _ => h.block k hk⟩

set_option maxHeartbeats 1000000 in
theorem markStringS_any (base : Nat) (s : Nat) (v : Value) (xs : List ByteArray) (w : World) (ho : Own w base 9 v (strs xs)) (hs : s + xs.length ≤ 1099511627776) :
    Calls Try.prog 65 #[v, .int .i64 (s : Nat)] w fun e w' => e = .returned (.int .i64 ((s : Int) + (xs.length : Int))) ∧ Own w' base 9 v (strs (mksT s xs.length)) ∧ w.grownBy w' v.ownBlock := by
  obtain ⟨A, c, rfl⟩ := ho.slice
  rw [strs_len] at ho ⊢
  have Ho := hidd ho
  clear ho
  go_enter Try.func65, Try.ntmps65
  go_wp2_with fail
  go_loopw [1, 5] (fun t i wr => ∃ k : Nat, k ≤ xs.length ∧ i = .int .i64 k ∧ t = .int .i64 ((s : Int) + (k : Int)) ∧ Hid (Own wr base 9 (.slice A xs.length c) (strs (mtd xs s k))) ∧ Hid (w.grownBy wr (Value.slice A xs.length c).ownBlock)) (fun _ i _ => xs.length - (intOf i).toNat)
  case atStart => exact ⟨0, Nat.zero_le _, rfl, by go_num, hidd (by rw [mtd_zero]; exact Ho.out), hidd (World.grownBy.refl _ _)⟩
  case round =>
    obtain ⟨k, hk, rfl, rfl, Hok, Hb⟩ := hrel
    by_cases hlt : k < xs.length
    · have i1 : (k : Int) < xs.length := by omega
      obtain ⟨g, c', h1, hb, hgl⟩ := Hok.out.form (by rw [strs_len, mtd_len xs s hk]; omega)
      simp only [Value.slice.injEq] at h1
      obtain ⟨rfl, h8, h9⟩ := h1
      clear h8 h9
      have HM := markText_any (s + k) (by omega) wr
      rw [Int.natCast_add] at HM
      have HM := hidd HM
      obtain ⟨T, hT⟩ : ∃ T, T = mkT (s + k) := ⟨_, rfl⟩
      have HT := hidd hT
      rw [← hT] at HM
      clear hT
      go_wp2_with fail
      refine HM.out.mono ?_
      rintro e w2 ⟨rfl, hb2⟩
      have Hok2 := hidd (Hok.out.below hb2)
      have Hb2 := hidd (Hb.out.trans (bel_row_any hb2))
      have d1 := Hok2.out.cell (mtd_get xs s hlt)
      have d2 := Hok2.out.frozen k
      clear hb2 HM
      go_wp2_with fail
      go_roundw
      case rel =>
        refine ⟨k + 1, by omega, by go_num, by go_num, hidd ?_, hidd (Hb2.out.setCell_own k _)⟩
        have := Hok2.out.store k (.string T)
        rwa [HT.out, mtd_set xs s hlt, ← HT.out] at this
      case measure => first | (simp [intOf]; done) | (simp [intOf]; omega)
    · have he : k = xs.length := by omega
      subst he
      clear hlt
      go_wp2_with fail
      go_ret
      refine ⟨rfl, ?_, Hb.out⟩
      have := Hok.out
      rwa [mtd_all] at this

set_option linter.unusedSimpArgs false
set_option maxRecDepth 100000 in
set_option maxHeartbeats 1000000 in
theorem heldStringS_any (v : Value) (s n : Nat) (w : World) (hr : RdS w v (mksT s n)) (hs : s + n ≤ 1099511627776) :
    Calls Try.prog 66 #[v, .int .i64 (s : Nat)] w fun e w' => e = .returned (.int .i64 ((s : Int) + (n : Int))) ∧ Below w.heap.size w w' := by
  obtain ⟨A, c, rfl, hr⟩ := hr
  rw [mksT_len]
  have Hr := hidd hr
  clear hr
  go_enter Try.func66, Try.ntmps66
  go_wp2_with fail
  go_loopw [1, 5] (fun t i wr => ∃ k : Nat, k ≤ n ∧ i = .int .i64 k ∧ t = .int .i64 ((s : Int) + (k : Int)) ∧ Hid (Below w.heap.size w wr)) (fun _ i _ => n - (intOf i).toNat)
  case atStart => exact ⟨0, Nat.zero_le _, rfl, by go_num, hidd (Below.refl _ _)⟩
  case round =>
    obtain ⟨k, hk, rfl, rfl, Hb⟩ := hrel
    by_cases hlt : k < n
    · have i1 : (k : Int) < n := by omega
      have i2 : (0 : Int) ≤ k := by omega
      obtain ⟨b, o, rfl, hcell⟩ := Hr.out.at_ (v := .string (mkT (s + k))) (j := k) (by simp [strs, mksT, hlt])
      have HM := hidd (fun X => show Calls Try.prog 138 #[.int .i64 ((s : Int) + (k : Int))] X fun e w' => e = .returned (.string (mkT (s + k))) ∧ Below X.heap.size X w' by have h := markText_any (s + k) (by omega) X; rw [Int.natCast_add] at h; exact h)
      obtain ⟨T, hT⟩ : ∃ T, T = mkT (s + k) := ⟨_, rfl⟩
      rw [← hT] at HM hcell
      have HX := hidd (show ∀ W : World, Below w.heap.size w W → W.cell? ⟨b, o + k, none⟩ = some (.string T) from fun W hW => (hW.cell (p := ⟨b, o + k, none⟩) (World.block_lt_of_cell? _ _ hcell)).trans hcell)
      have S0 := hidd (bel_then Hb.out (drew_bel' wr))
      clear hT hcell
      go_wp2_with fail
      refine wp_region_held (S := fun w' => Below w.heap.size w w') (by kernel_rfl) ?_
      change wpAnyH _ _ _ _ _ _ _ _ (World.drew _)
      refine wpAnyH_take (i := 0) (v := ?v0) rfl (by kernel_rfl) (by kernel_rfl) (by kernel_rfl) (fun _ _ _ h => h) (Or.inl ⟨by rfl, ?h0⟩) S0.out ?_
      case h0 => (intro w4 hS; have k1 := HX.out w4 hS; clear hS; go_simp; first | done | with_reducible rfl)
      simp only [Act.put, List.getElem_toArray, List.getElem_cons_succ, List.getElem_cons_zero, List.setIfInBounds_toArray, List.set_cons_zero, List.set_cons_succ]
      refine wpAnyH_take (i := 1) (v := ?v1) rfl (by kernel_rfl) (by kernel_rfl) (by kernel_rfl) (fun _ _ _ h => h) (Or.inl ⟨by rfl, ?h1⟩) S0.out ?_
      case h1 => (intro w4 hS; have k1 := HX.out w4 hS; clear hS; go_simp; first | done | with_reducible rfl)
      simp only [Act.put, List.getElem_toArray, List.getElem_cons_succ, List.getElem_cons_zero, List.setIfInBounds_toArray, List.set_cons_zero, List.set_cons_succ]
      refine wpAnyH_take (i := 2) (v := ?v2) rfl (by kernel_rfl) (by kernel_rfl) (by kernel_rfl) (fun _ _ _ h => h) (Or.inl ⟨by rfl, ?h2⟩) S0.out ?_
      case h2 => (intro w4 hS; have k1 := HX.out w4 hS; clear hS; go_simp; first | done | with_reducible rfl)
      simp only [Act.put, List.getElem_toArray, List.getElem_cons_succ, List.getElem_cons_zero, List.setIfInBounds_toArray, List.set_cons_zero, List.set_cons_succ]
      refine wpAnyH_take (i := 3) (v := ?v3) rfl (by kernel_rfl) (by kernel_rfl) (by kernel_rfl) (fun _ _ _ h => h) (Or.inl ⟨by rfl, ?h3⟩) S0.out ?_
      case h3 => (intro w4 hS; have k1 := HX.out w4 hS; clear hS; go_simp; first | done | with_reducible rfl)
      simp only [Act.put, List.getElem_toArray, List.getElem_cons_succ, List.getElem_cons_zero, List.setIfInBounds_toArray, List.set_cons_zero, List.set_cons_succ]
      refine wpAnyH_take (i := 4) (v := ?v4) rfl (by kernel_rfl) (by kernel_rfl) (by kernel_rfl) (fun _ _ _ h => h) (Or.inl ⟨by rfl, ?h4⟩) S0.out ?_
      case h4 => (intro w4 hS; have k1 := HX.out w4 hS; clear hS; go_simp; first | done | with_reducible rfl)
      simp only [Act.put, List.getElem_toArray, List.getElem_cons_succ, List.getElem_cons_zero, List.setIfInBounds_toArray, List.set_cons_zero, List.set_cons_succ]
      refine wpAnyH_ready (rs := [5]) (by kernel_rfl) (by simp) (AllReadyH.cons rfl (fun K hK => ?_) AllReadyH.nil)
      go_simp
      refine (HM.out wr.drew).mono ?_
      rintro e w5 ⟨rfl, hb5⟩
      have S5 := hidd (bel_then S0.out hb5)
      refine hK.out _ _ S5.out (fun _ => ?_)
      clear hK K hb5
      refine wpAnyH_take (i := 6) (v := ?v6) rfl (by kernel_rfl) (by kernel_rfl) (by kernel_rfl) (fun _ _ _ h => h) (Or.inl ⟨by rfl, ?h6⟩) S5.out ?_
      case h6 => (intro w4 hS; clear hS; go_simp; first | done | with_reducible rfl)
      simp only [Act.put, List.getElem_toArray, List.getElem_cons_succ, List.getElem_cons_zero, List.setIfInBounds_toArray, List.set_cons_zero, List.set_cons_succ]
      refine wpAnyH_done (by kernel_rfl) ?_ _
      go_wp2_with fail
      go_roundw
      case rel => exact ⟨k + 1, by omega, by go_num, by go_num, S5⟩
      case measure => first | (simp [intOf]; done) | (simp [intOf]; omega)
    · have he : k = n := by omega
      subst he
      clear hlt
      go_wp2_with fail
      go_ret
      exact ⟨rfl, Hb.out⟩
end Go.Proofs.Ytjnnbjlombopnaa
