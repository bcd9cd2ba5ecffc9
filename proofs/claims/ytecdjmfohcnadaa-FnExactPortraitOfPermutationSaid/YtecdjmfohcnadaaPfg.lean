/- Walks: the portrait of a level's permutation, of the program. -/
import Derived.Test.YtecdjmfohcnadaaPfr
import Derived.Test.YtecdjmfohcnadaaSix
namespace Go.Proofs.Ytecdjmfohcnadaa
open Go.RowKit
set_option linter.unusedSimpArgs false

def pbK (d : Nat) (F : Nat → Nat → Int) (i k : Nat) : List Int := pby d F i ++ (List.range k).map (F i)
theorem pbK_zero (d : Nat) (F : Nat → Nat → Int) (i : Nat) : pbK d F i 0 = pby d F i := by simp [pbK]
theorem pbK_end (d : Nat) (F : Nat → Nat → Int) (i : Nat) : pbK d F i (d ^ i) = pby d F (i + 1) := rfl
theorem pbK_succ (d : Nat) (F : Nat → Nat → Int) (i k : Nat) : ints (pbK d F i (k + 1)) = ints (pbK d F i k) ++ [.int .i64 (F i k)] := by
  unfold pbK
  rw [range_snoc, ← List.append_assoc, ints_append]
  rfl
theorem pbK_len {d : Nat} (hd : Dd d) (F : Nat → Nat → Int) {i k : Nat} (hi : i ≤ 4) (hk : k ≤ 243) : (pbK d F i k).length ≤ 1000 := by
  have := pst_bd hd (show i ≤ 5 by omega)
  unfold pbK
  rw [List.length_append, pby_len]
  simp
  omega
set_option maxRecDepth 100000 in
set_option maxHeartbeats 2000000 in
theorem portraitBy_any (d n : Nat) (hd : Dd d) (hn : n ≤ 4) (F : Nat → Nat → Int) (fn : Nat) (cap : Array Value) (eg : ∀ args w, (callFunc fn args).run Try.prog w = .ok (.enter fn args) w) (w : World)
    (hc : ∀ i k W, i < n → k < d ^ i → Below w.heap.size w W → Calls Try.prog fn (#[.string (wd d i k)] ++ cap) W fun e W' => e = .returned (.int .i64 (F i k)) ∧ Below W.heap.size W W') :
    Calls Try.prog 83 #[.int .i64 (d : Nat), .int .i64 (n : Nat), .func (.func fn) #[] cap] w fun e w' => (∃ v, e = .returned v ∧ Own w' w.heap.size 2 v (ints (pby d F n))) ∧ Below w.heap.size w w' := by
  have HD := hidd hd
  have d23 := hd.le
  have HC := hidd hc
  have Heg := hidd eg
  clear hc hd
  go_enter Try.func83, Try.ntmps83
  go_wp2_with fail
  go_loopw [7, 12] (fun u y wr => ∃ i : Nat, i ≤ n ∧ y = .int .i64 i ∧ Hid (Own wr w.heap.size 2 u (ints (pby d F i))) ∧ Hid (Below w.heap.size w wr)) (fun _ y _ => n - (intOf y).toNat)
  case atStart => exact ⟨0, Nat.zero_le _, rfl, hidd (Own.nil _ _ _), hidd (Below.refl _ _)⟩
  case round =>
    obtain ⟨i, hi, rfl, HU, Hb⟩ := hrel
    obtain ⟨wo, rfl⟩ : ∃ wo, wo = wr := ⟨_, rfl⟩
    by_cases hlt : i < n
    · have i1 : (i : Int) < n := by omega
      have HLv := hidd (level_any d i (d ^ i) d23.1 d23.2 (by omega) rfl wo)
      have hN := pow_bd d23.2 (show i ≤ 5 by omega)
      obtain ⟨N, hNN⟩ : ∃ N, N = d ^ i := ⟨_, rfl⟩
      rw [← hNN] at HLv hN
      have HN := hidd hNN
      clear hNN
      go_wp2_with fail
      refine HLv.out.mono ?_
      rintro e w1 ⟨⟨lv1, rfl, ho⟩, hb⟩
      obtain ⟨A, c, rfl⟩ := ho.slice
      rw [lv_len] at ho ⊢
      have Hs := hidd ho
      have HU1 := hidd (HU.out.below hb)
      have Hb1 := hidd (bel_then Hb.out hb)
      clear ho hb HU Hb HLv
      go_wp2_with fail
      go_loopw [7, 19] (fun u y wr => ∃ k : Nat, k ≤ N ∧ y = .int .i64 k ∧ Hid (Own wr w.heap.size 2 u (ints (pbK d F i k))) ∧ Hid (Own wr wo.heap.size 9 (.slice A N c) (lv d i N)) ∧ Hid (Below w.heap.size w wr)) (fun _ y _ => N - (intOf y).toNat)
      case atStart => exact ⟨0, Nat.zero_le _, rfl, hidd (by rw [pbK_zero]; exact HU1.out), Hs, Hb1⟩
      case round =>
        obtain ⟨k, hk, rfl, HV, Hv, Hq⟩ := hrel
        by_cases hkl : k < N
        · have j1 : (k : Int) < N := by omega
          obtain ⟨b, o, hA, hcell⟩ := Hv.out.rd.2.at_ (lv_get d i hkl)
          subst hA
          have hcf := HC.out i k wr hlt (by rw [← HN.out]; exact hkl) Hq.out
          have HS := hidd (pbK_succ d F i k)
          have hlen2 : (ints (pbK d F i k)).length + 1 ≤ 1099511627776 := by rw [ints_length]; have := pbK_len HD.out F (show i ≤ 4 by omega) (show k ≤ 243 by omega); omega
          obtain ⟨f, hf⟩ : ∃ f, f = F i k := ⟨_, rfl⟩
          rw [← hf] at hcf HS
          clear hf
          go_wp2_with fail
          clear hcell
          refine hcf.mono ?_
          rintro e w2 ⟨rfl, hb⟩
          have HV2 := hidd (HV.out.below hb)
          have Hv2 := hidd (Hv.out.below hb)
          have Hq2 := hidd (bel_then Hq.out hb)
          have hbase := Hq2.out.size
          clear hb hcf HV Hq Hv
          go_wp2_with (at_builtin; refine app_own rfl _ _ _ rfl w.heap.size 2 (.int .i64 0) 8 Try.underlying22 info_i64 rfl HV2.out rfl rfl rfl hlen2 (by decide) hbase ?_; intro v' w6 ho hgr hle6; have Ho2 := hidd ho; have b2 := hidd (bel_own HV2.out hgr hbase); have Hv3 := hidd (Hv2.out.grown hgr (Hv2.out.apart HV2.out (by decide))); clear ho hgr)
          go_roundw
          case rel => exact ⟨k + 1, by omega, by go_num, hidd (by rw [HS.out]; exact Ho2.out), Hv3, hidd (Hq2.out.trans b2.out)⟩
          case measure => first | (simp [intOf]; done) | (simp [intOf]; omega)
        · have he : k = N := by omega
          subst he
          have HE := hidd (show pbK d F i k = pby d F (i + 1) by rw [HN.out, pbK_end])
          clear hkl
          go_wp2_with fail
          go_roundw
          case rel => exact ⟨i + 1, by omega, by go_num, hidd (by rw [← HE.out]; exact HV.out), Hq⟩
          case measure => first | (simp [intOf]; done) | (simp [intOf]; omega)
    · have he : i = n := by omega
      subst he
      clear hlt
      go_wp2_with fail
      go_ret
      exact ⟨⟨_, rfl, HU.out⟩, Hb.out⟩
end Go.Proofs.Ytecdjmfohcnadaa
