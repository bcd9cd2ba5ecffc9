/- Walks: the words of a level in order, the permutation of a level. -/
import Derived.Test.YtecdjmfohcnadaaLv0
import Derived.Test.YtecdjmfohcnadaaAp
namespace Go.Proofs.Ytecdjmfohcnadaa
open Go.RowKit

/-- The first k words of a level. -/
def lv (d n k : Nat) : List Value := (List.range k).map fun i => .string (wd d n i)
theorem lv_len (d n k : Nat) : (lv d n k).length = k := by simp [lv]
theorem lv_succ (d n k : Nat) : lv d n (k + 1) = lv d n k ++ [.string (wd d n k)] := by simp [lv, List.range_succ]
theorem lv_get (d n : Nat) {k i : Nat} (h : i < k) : (lv d n k)[i]? = some (.string (wd d n i)) := by simp [lv, h]
theorem info_str : (Try.prog.info? 9).map (fun i => (i.zero, i.size, i.bytes)) = some (some (.string ⟨#[]⟩), 1, 16) := by kernel_rfl

set_option maxRecDepth 100000 in
set_option maxHeartbeats 1000000 in
theorem level_any (d n N : Nat) (hd : 2 ≤ d) (h3 : d ≤ 3) (hn : n ≤ 5) (hN : N = d ^ n) (w : World) :
    Calls Try.prog 88 #[.int .i64 (d : Nat), .int .i64 (n : Nat)] w fun e w' => (∃ v, e = .returned v ∧ Own w' w.heap.size 9 v (lv d n N)) ∧ Below w.heap.size w w' := by
  have hN2 : N ≤ 243 := by rw [hN]; exact pow_bd h3 hn
  have HP := hidd (fun W => show Calls Try.prog 66 #[.int .i64 (d : Nat), .int .i64 (n : Nat)] W fun e w' => e = .returned (.int .i64 (N : Nat)) ∧ W = w' from hN ▸ power_any d n h3 hn W)
  clear hN
  go_enter Try.func88, Try.ntmps88
  go_wp2_with fail
  refine (HP.out w).mono ?_
  rintro e w1 ⟨rfl, rfl⟩
  go_wp2_with fail
  go_loopw [5, 10] (fun t i wr => ∃ k : Nat, k ≤ N ∧ i = .int .i64 k ∧ Hid (Own wr w.heap.size 9 t (lv d n k)) ∧ Hid (Below w.heap.size w wr)) (fun _ i _ => N - (intOf i).toNat)
  case atStart => exact ⟨0, Nat.zero_le _, rfl, hidd (Own.nil _ _ _), hidd (Below.refl _ _)⟩
  case round =>
    obtain ⟨k, hk, rfl, HU, Hb⟩ := hrel
    by_cases hlt : k < N
    · have i1 : (k : Int) < N := by omega
      go_wp2_with fail
      refine (wordOf_any d n k hd h3 hn (by omega) wr).mono ?_
      rintro e w2 ⟨rfl, hb⟩
      have HU2 := hidd (HU.out.below (hb))
      have Hb2 := hidd (bel_then Hb.out hb)
      have hlen2 : (lv d n k).length + 1 ≤ 1099511627776 := by rw [lv_len]; omega
      have hbase := Hb2.out.size
      clear hb HU Hb
      go_wp2_with (at_builtin; refine app_own rfl _ _ _ rfl w.heap.size 9 (.string ⟨#[]⟩) 16 Try.underlying75 info_str rfl HU2.out rfl rfl rfl hlen2 (by decide) hbase ?_; intro v' w6 ho hgr hle; have Ho2 := hidd ho; have b2 := hidd (bel_own HU2.out hgr hbase); clear ho hgr)
      go_roundw
      case rel => exact ⟨k + 1, by omega, by go_num, hidd (by rw [lv_succ]; exact Ho2.out), hidd (Hb2.out.trans b2.out)⟩
      case measure => first | (simp [intOf]; done) | (simp [intOf]; omega)
    · have he : k = N := by omega
      subst he
      go_wp2_with fail
      go_ret
      exact ⟨⟨_, rfl, HU.out⟩, Hb.out⟩

/-! ### The permutation of a level -/
def prmK (d n : Nat) (F : ByteArray → ByteArray) (k : Nat) : List Int := (List.range k).map fun i => (nbr d (F (wd d n i)) n : Int)
theorem prmK_len (d n : Nat) (F : ByteArray → ByteArray) (k : Nat) : (prmK d n F k).length = k := by simp [prmK]
theorem prmK_succ (d n : Nat) (F : ByteArray → ByteArray) (k : Nat) : prmK d n F (k + 1) = prmK d n F k ++ [(nbr d (F (wd d n k)) n : Int)] := by simp [prmK, List.range_succ]

set_option maxRecDepth 100000 in
set_option maxHeartbeats 1000000 in
theorem permutation_any (d n N : Nat) (hd : 2 ≤ d) (h3 : d ≤ 3) (hn : n ≤ 5) (hN : N = d ^ n) (F : ByteArray → ByteArray) (hF : ∀ i, i < N → Lts d (F (wd d n i)) ∧ (F (wd d n i)).size = n) (fn : Nat) (cap : Array Value) (eg : ∀ args w, (callFunc fn args).run Try.prog w = .ok (.enter fn args) w) (w : World)
    (hc : ∀ i W, i < N → Below w.heap.size w W → Calls Try.prog fn (#[.string (wd d n i)] ++ cap) W fun e W' => e = .returned (.string (F (wd d n i))) ∧ Below W.heap.size W W') :
    Calls Try.prog 59 #[.int .i64 (d : Nat), .int .i64 (n : Nat), .func (.func fn) #[] cap] w fun e w' => (∃ v, e = .returned v ∧ Own w' w.heap.size 2 v (ints (prmK d n F N))) ∧ Below w.heap.size w w' := by
  have hN2 : N ≤ 243 := by rw [hN]; exact pow_bd h3 hn
  have HP := hidd (level_any d n N hd h3 hn hN w)
  have HC := hidd hc
  have HF := hidd hF
  have Heg := hidd eg
  clear hN hc hF
  go_enter Try.func59, Try.ntmps59
  go_wp2_with fail
  refine HP.out.mono ?_
  rintro e w1 ⟨⟨v1, rfl, ho⟩, hb⟩
  have Hb1 := hidd hb
  obtain ⟨A, c, rfl⟩ := ho.slice
  have hs1 := lv_len d n N
  rw [hs1] at ho ⊢
  have Hs1 := hidd ho
  have RS := hidd ho.rd.2
  have Bo := hidd ho.block
  clear ho hb hs1 HP
  go_wp2_with fail
  go_loopw [7, 14] (fun t i wr => ∃ k : Nat, k ≤ N ∧ i = .int .i64 k ∧ Hid (Own wr w1.heap.size 2 t (ints (prmK d n F k))) ∧ Hid (Below w1.heap.size w1 wr)) (fun _ i _ => N - (intOf i).toNat)
  case atStart => exact ⟨0, Nat.zero_le _, rfl, hidd (Own.nil _ _ _), hidd (Below.refl _ _)⟩
  case round =>
    obtain ⟨k, hk, rfl, HU, Hb⟩ := hrel
    by_cases hlt : k < N
    · have i1 : (k : Int) < N := by omega
      obtain ⟨b, o, rfl, hcell⟩ := (RS.out.below Hb.out).at_ (lv_get d n hlt)
      go_wp2_with fail
      clear hcell
      have hcf := HC.out k wr hlt (bel_then Hb1.out Hb.out)
      obtain ⟨fl, fz⟩ := HF.out k hlt
      obtain ⟨y, hy⟩ : ∃ y, y = F (wd d n k) := ⟨_, rfl⟩
      have HY := hidd (show ints (prmK d n F (k + 1)) = ints (prmK d n F k) ++ [.int .i64 (nbr d y n : Nat)] by rw [prmK_succ, ints_append, hy]; rfl)
      rw [← hy] at fl fz hcf
      have hbd : nbr d y n ≤ 243 := by have h1 := nbr_lt fl n (by omega); have h2 := pow_bd h3 hn; omega
      refine hcf.mono ?_
      rintro e w2 ⟨rfl, hb⟩
      clear hcf hy
      have HN := hidd (numberOf_any d h3 y fl (by omega) w2)
      rw [fz] at HN
      have HU2 := hidd (HU.out.below hb)
      have Hb2 := hidd (bel_then Hb.out hb)
      have hlen2 : (ints (prmK d n F k)).length + 1 ≤ 1099511627776 := by rw [ints_length, prmK_len]; omega
      have hbase := Hb2.out.size
      clear hb HU Hb
      go_wp2_with fail
      refine HN.out.mono ?_
      rintro e w3 ⟨rfl, rfl⟩
      go_wp2_with (at_builtin; refine app_own rfl _ _ _ rfl w1.heap.size 2 (.int .i64 0) 8 Try.underlying22 info_i64 rfl HU2.out rfl rfl rfl hlen2 (by decide) hbase ?_; intro v' w6 ho hgr hle; have Ho2 := hidd ho; have b2 := hidd (bel_own HU2.out hgr hbase); clear ho hgr)
      go_roundw
      case rel => exact ⟨k + 1, by omega, by go_num, hidd (by rw [HY.out]; exact Ho2.out), hidd (Hb2.out.trans b2.out)⟩
      case measure => first | (simp [intOf]; done) | (simp [intOf]; omega)
    · have he : k = N := by omega
      subst he
      go_wp2_with fail
      go_ret
      exact ⟨⟨_, rfl, HU.out.mono Hb1.out.size⟩, bel_then Hb1.out Hb.out⟩
end Go.Proofs.Ytecdjmfohcnadaa
