/- Walks: the cycles of a list of numbers, IsOneCycle. -/
import Derived.Test.YtecdjmfohcnadaaPof
import Derived.Test.YtecdjmfohcnadaaSrt
namespace Go.Proofs.Ytecdjmfohcnadaa
open Go.RowKit
set_option linter.unusedSimpArgs false

def bvs (bs : List Bool) : List Value := bs.map Value.bool
theorem bvs_len (bs : List Bool) : (bvs bs).length = bs.length := by simp [bvs]
theorem bvs_set (bs : List Bool) (p : Nat) (b : Bool) : (bvs bs).set p (.bool b) = bvs (bs.set p b) := by simp [bvs, List.map_set]
theorem bvs_get {bs : List Bool} {p : Nat} (h : p < bs.length) : (bvs bs)[p]? = some (.bool (bs.getD p true)) := by simp [bvs, List.getD_eq_getElem?_getD, h]
theorem info_bool : (Try.prog.info? 4).map (fun i => (i.zero, i.size, i.bytes)) = some (some (.bool false), 1, 1) := by kernel_rfl
theorem int_ne_bool : 2 ≠ 4 := by decide
theorem own_far_bool {w : World} {base base' g n c : Nat} {u : Value} {vs ws : List Value} (h : Own w base 2 u vs) (h' : Own w base' 4 (.slice (some ⟨g, 0, none⟩) n c) ws) (j : Nat) (x : Value) : Own (w.setCell ⟨g, j, none⟩ x) base 2 u vs := by
  refine h.far ?_ x
  rcases h.apart h' int_ne_bool with e | e
  · rw [e]; exact fun h => by cases h
  · exact e
/-- Numbers of the list's own places. -/
def Inn (xs : List Int) : Prop := ∀ k, k < xs.length → ∃ r : Nat, xs.getD k 0 = r ∧ r < xs.length

set_option maxRecDepth 100000 in
set_option maxHeartbeats 2000000 in
theorem l03Cycles_any (v : Value) (xs : List Int) (hin : Inn xs) (hl : xs.length ≤ 1000) (hpos : 0 < (cyA xs xs.length).2.length) (w : World) (hr : RdI w v xs) :
    Calls Try.prog 62 #[v] w fun e w' => (∃ A c, e = .returned (.slice A (cyA xs xs.length).2.length c)) ∧ Below w.heap.size w w' := by
  obtain ⟨A, c, rfl, hr⟩ := hr
  have Hr := hidd hr
  have HI := hidd hin
  have HPo := hidd hpos
  have HC := hidd (cyA_out xs)
  have HLa := hidd (cyA_len xs)
  have HBd := hidd (fun k => cyR_bd xs (xs.length + 1) (cyA xs k).1 k)
  have HE := hidd (show (cyA xs xs.length).2.length = (cyA xs xs.length).2.length from rfl)
  obtain ⟨N, hN⟩ : ∃ N, N = xs.length := ⟨_, rfl⟩
  have HN := hidd hN
  rw [← hN] at hl HPo HE ⊢
  clear hr hin hpos hN
  go_enter Try.func62, Try.ntmps62
  go_wp2_with (at_make; refine mk_own rfl _ _ _ rfl w.heap.size 4 (.bool false) 1 Try.underlying77 info_bool rfl N rfl rfl (by omega) (by omega) (Nat.le_refl _) ?_; intro w1 ho hg hlt1; have Ho := hidd (show Own w1 w.heap.size 4 (.slice (some ⟨w.heap.size, 0, none⟩) N N) (bvs (cyA xs 0).1) by rw [show (cyA xs 0).1 = List.replicate xs.length false from rfl, ← HN.out]; simpa [bvs] using ho); have Bel := hidd ((Below.refl w.heap.size w).grown hg (Nat.le_refl _) (fun k hk => by cases hk)); clear ho hg)
  have U0 := hidd (Own.empty' w1 2 w.heap.size (Nat.le_of_lt hlt1))
  have B0 := hidd (Bel.out.trans ((bel_alloc' w1 (.cells #[] 2)).mono Bel.out.size))
  have W0 := hidd (Ho.out.alloc (.cells #[] 2))
  clear Ho Bel HE
  go_loopw [4, 5] (fun o i wr => ∃ k : Nat, k ≤ N ∧ i = .int .i64 k ∧ Hid (Own wr w.heap.size 2 o (ints (cyA xs k).2)) ∧ Hid (Own wr w.heap.size 4 (.slice (some ⟨w.heap.size, 0, none⟩) N N) (bvs (cyA xs k).1)) ∧ Hid (Below w.heap.size w wr)) (fun _ i _ => N - (intOf i).toNat)
  case atStart => exact ⟨0, Nat.zero_le _, rfl, U0, W0, B0⟩
  case round =>
    clear U0 W0 B0
    obtain ⟨k, hk, rfl, HU, HW, Hb⟩ := hrel
    by_cases hlt : k < N
    · have i1 : (k : Int) < N := by omega
      have HT1 := hidd (show (cyA xs (k + 1)).1 = (cyR xs (N + 1) (cyA xs k).1 k).1 by rw [HN.out]; rfl)
      have HT2 := hidd (show (cyA xs (k + 1)).2 = if 0 < (cyR xs (N + 1) (cyA xs k).1 k).2 then (cyA xs k).2 ++ [((cyR xs (N + 1) (cyA xs k).1 k).2 : Int)] else (cyA xs k).2 by rw [HN.out]; rfl)
      have hR2 := HBd.out k
      rw [← HN.out] at hR2
      obtain ⟨S, hS⟩ : ∃ S, S = (cyR xs (N + 1) (cyA xs k).1 k).1 := ⟨_, rfl⟩
      obtain ⟨R2, hR⟩ : ∃ R2, R2 = (cyR xs (N + 1) (cyA xs k).1 k).2 := ⟨_, rfl⟩
      rw [← hS] at HT1
      rw [← hR] at HT2 hR2
      have HS := hidd hS.symm
      have HR := hidd hR.symm
      clear hS hR
      have hou := HC.out k
      have hlen2 : (ints (cyA xs k).2).length + 1 ≤ 1099511627776 := by rw [ints_length]; omega
      go_wp2_with fail
      go_loopw [6, 7] (fun m a wr => ∃ (bs : List Bool) (f m' a' : Nat), m = .int .i64 m' ∧ a = .int .i64 a' ∧ a' < N ∧ m' ≤ R2 ∧ Hid (bs.length = N) ∧ Hid (unm bs < f) ∧ Hid ((cyR xs f bs a').1 = S ∧ m' + (cyR xs f bs a').2 = R2) ∧ Hid (Own wr w.heap.size 4 (.slice (some ⟨w.heap.size, 0, none⟩) N N) (bvs bs)) ∧ Hid (Own wr w.heap.size 2 u4 (ints (cyA xs k).2)) ∧ Hid (Below w.heap.size w wr)) (fun m _ _ => N + 2 - (intOf m).toNat)
      case atStart => exact ⟨_, N + 1, 0, k, rfl, rfl, hlt, Nat.zero_le _, hidd ((HLa.out k).trans HN.out.symm), hidd (by have h1 := unm_le (cyA xs k).1; have h2 := HLa.out k; rw [← HN.out] at h2; omega), hidd ⟨HS.out, by rw [Nat.zero_add]; exact HR.out⟩, HW, HU, Hb⟩
      case round =>
        clear HU HW Hb HS HR
        obtain ⟨bs, f, m, a, rfl, rfl, ha, hm, Hl, Hf, Hc, HW, HU, Hb⟩ := hrel
        obtain ⟨f', rfl⟩ : ∃ f', f = f' + 1 := ⟨f - 1, by have := Hf.out; omega⟩
        have a1 : (a : Int) < N := by omega
        have a2 : (0 : Int) ≤ a := by omega
        have hab : a < bs.length := by rw [Hl.out]; exact ha
        have d1 := HW.out.cell (bvs_get hab)
        have d2 := HW.out.frozen a
        cases hbv : bs.getD a true with
        | true =>
          rw [hbv] at d1
          have Hst := hidd (cyR_stop (L := xs) (f := f') hbv)
          have hc := Hc.out
          rw [Hst.out] at hc
          have HbS := hidd hc.1
          have hmR : m = R2 := by have := hc.2; simpa using this
          subst hmR
          clear hbv hc Hst Hc
          obtain ⟨B4, c4, rfl⟩ := HU.out.slice
          have hbase := Hb.out.size
          by_cases hp : 0 < m
          · rw [if_pos hp] at HT2
            have p1 : (0 : Int) < m := by omega
            clear hp
            go_wp2_with (at_builtin; refine app_own rfl _ _ _ rfl w.heap.size 2 (.int .i64 0) 8 Try.underlying22 info_i64 rfl HU.out rfl rfl rfl hlen2 (by decide) hbase ?_; intro v' w6 ho hgr hle6; have Ho2 := hidd ho; have b2 := hidd (bel_own HU.out hgr hbase); have HW2 := hidd (HW.out.grown hgr (HW.out.apart HU.out (by decide))); clear ho hgr)
            go_roundw
            case rel => exact ⟨k + 1, by omega, by go_num, hidd (by rw [HT2.out, ints_append]; exact Ho2.out), hidd (by rw [HT1.out, ← HbS.out]; exact HW2.out), hidd (Hb.out.trans b2.out)⟩
            case measure => first | (simp [intOf]; done) | (simp [intOf]; omega)
          · rw [if_neg hp] at HT2
            have p1 : ¬ (0 : Int) < m := by omega
            obtain rfl : m = 0 := by omega
            clear hp
            go_wp2_with fail
            go_roundw
            case rel => exact ⟨k + 1, by omega, by go_num, hidd (by rw [HT2.out]; exact HU.out), hidd (by rw [HT1.out, ← HbS.out]; exact HW.out), Hb⟩
            case measure => first | (simp [intOf]; done) | (simp [intOf]; omega)
        | false =>
          rw [hbv] at d1
          have Hon := hidd (cyR_on (L := xs) (f := f') hbv)
          have hun := hidd (unm_set hab hbv)
          have hax : a < xs.length := by rw [← HN.out]; exact ha
          obtain ⟨r, hr1, hr2⟩ := HI.out a hax
          rw [← HN.out] at hr2
          rw [hr1, Int.toNat_natCast] at Hon
          have hc := Hc.out
          rw [Hon.out.1, Hon.out.2] at hc
          have HC2 := hidd hc
          obtain ⟨b, o, rfl, hcl0⟩ := Hr.out.get hax
          have hx2 : xs[a] = (r : Int) := by rw [← hr1, List.getD_eq_getElem?_getD, List.getElem?_eq_getElem hax]; rfl
          rw [hx2] at hcl0
          have hbl : b < w.heap.size := World.block_lt_of_cell? _ _ hcl0
          have hcl := (Hb.out.cell (p := ⟨b, o + a, none⟩) hbl).trans hcl0
          have n1 : ¬ b = w.heap.size := by omega
          have n2 : ¬ w.heap.size = b := by omega
          have m1 : (m : Int) ≤ 1001 := by omega
          have hmm : m + 1 ≤ R2 := by omega
          have a3 : (a : Int) < xs.length := by omega
          clear hbv hc Hon Hc hcl0 hx2 hr1 hbl hax
          go_wp2_with fail
          go_roundw
          case rel =>
            refine ⟨bs.set a true, f', m + 1, r, by go_num, rfl, hr2, hmm, hidd (by rw [List.length_set]; exact Hl.out), hidd (by have h1 := hun.out; have h2 := Hf.out; omega), hidd ⟨HC2.out.1, by have := HC2.out.2; omega⟩, hidd ?_, hidd (own_far_bool HU.out HW.out a (.bool true)), hidd (Hb.out.setCell (Nat.le_refl _) _)⟩
            have := HW.out.store a (.bool true)
            rw [bvs_set] at this
            exact this
          case measure => first | (simp [intOf]; done) | (simp [intOf]; omega)
    · have he : k = N := by omega
      subst he
      clear hlt
      have hou := HC.out k
      have HSo := hidd (sort_any w.heap.size _ _ wr HU.out HPo.out (by omega) Hb.out.size)
      obtain ⟨B4, c4, rfl⟩ := HU.out.slice
      rw [ints_length] at HSo ⊢
      go_wp2_with fail
      go_ret
      exact ⟨⟨_, _, rfl⟩, Hb.out⟩
set_option maxRecDepth 100000 in
set_option maxHeartbeats 2000000 in
theorem cycles_any (v : Value) (xs : List Int) (hin : Inn xs) (hl : xs.length ≤ 1000) (hpos : 0 < (cyA xs xs.length).2.length) (w : World) (hr : RdI w v xs) :
    Calls Try.prog 63 #[v] w fun e w' => (∃ A c, e = .returned (.slice A (cyA xs xs.length).2.length c)) ∧ Below w.heap.size w w' := by
  obtain ⟨A, c, rfl, hr⟩ := hr
  have Hr := hidd hr
  have HI := hidd hin
  have HPo := hidd hpos
  have HC := hidd (cyA_out xs)
  have HLa := hidd (cyA_len xs)
  have HBd := hidd (fun k => cyR_bd xs (xs.length + 1) (cyA xs k).1 k)
  have HE := hidd (show (cyA xs xs.length).2.length = (cyA xs xs.length).2.length from rfl)
  obtain ⟨N, hN⟩ : ∃ N, N = xs.length := ⟨_, rfl⟩
  have HN := hidd hN
  rw [← hN] at hl HPo HE ⊢
  clear hr hin hpos hN
  go_enter Try.func63, Try.ntmps63
  go_wp2_with (at_make; refine mk_own rfl _ _ _ rfl w.heap.size 4 (.bool false) 1 Try.underlying77 info_bool rfl N rfl rfl (by omega) (by omega) (Nat.le_refl _) ?_; intro w1 ho hg hlt1; have Ho := hidd (show Own w1 w.heap.size 4 (.slice (some ⟨w.heap.size, 0, none⟩) N N) (bvs (cyA xs 0).1) by rw [show (cyA xs 0).1 = List.replicate xs.length false from rfl, ← HN.out]; simpa [bvs] using ho); have Bel := hidd ((Below.refl w.heap.size w).grown hg (Nat.le_refl _) (fun k hk => by cases hk)); clear ho hg)
  have U0 := hidd (Own.nil w1 w.heap.size 2)
  have B0 := hidd Bel.out
  have W0 := hidd Ho.out
  clear Ho Bel HE
  go_loopw [4, 13] (fun o i wr => ∃ k : Nat, k ≤ N ∧ i = .int .i64 k ∧ Hid (Own wr w.heap.size 2 o (ints (cyA xs k).2)) ∧ Hid (Own wr w.heap.size 4 (.slice (some ⟨w.heap.size, 0, none⟩) N N) (bvs (cyA xs k).1)) ∧ Hid (Below w.heap.size w wr)) (fun _ i _ => N - (intOf i).toNat)
  case atStart => exact ⟨0, Nat.zero_le _, rfl, U0, W0, B0⟩
  case round =>
    clear U0 W0 B0
    obtain ⟨k, hk, rfl, HU, HW, Hb⟩ := hrel
    by_cases hlt : k < N
    · have i1 : (k : Int) < N := by omega
      have HT1 := hidd (show (cyA xs (k + 1)).1 = (cyR xs (N + 1) (cyA xs k).1 k).1 by rw [HN.out]; rfl)
      have HT2 := hidd (show (cyA xs (k + 1)).2 = if 0 < (cyR xs (N + 1) (cyA xs k).1 k).2 then (cyA xs k).2 ++ [((cyR xs (N + 1) (cyA xs k).1 k).2 : Int)] else (cyA xs k).2 by rw [HN.out]; rfl)
      have hR2 := HBd.out k
      rw [← HN.out] at hR2
      obtain ⟨S, hS⟩ : ∃ S, S = (cyR xs (N + 1) (cyA xs k).1 k).1 := ⟨_, rfl⟩
      obtain ⟨R2, hR⟩ : ∃ R2, R2 = (cyR xs (N + 1) (cyA xs k).1 k).2 := ⟨_, rfl⟩
      rw [← hS] at HT1
      rw [← hR] at HT2 hR2
      have HS := hidd hS.symm
      have HR := hidd hR.symm
      clear hS hR
      have hou := HC.out k
      have hlen2 : (ints (cyA xs k).2).length + 1 ≤ 1099511627776 := by rw [ints_length]; omega
      go_wp2_with fail
      go_loopw [6, 7] (fun m a wr => ∃ (bs : List Bool) (f m' a' : Nat), m = .int .i64 m' ∧ a = .int .i64 a' ∧ a' < N ∧ m' ≤ R2 ∧ Hid (bs.length = N) ∧ Hid (unm bs < f) ∧ Hid ((cyR xs f bs a').1 = S ∧ m' + (cyR xs f bs a').2 = R2) ∧ Hid (Own wr w.heap.size 4 (.slice (some ⟨w.heap.size, 0, none⟩) N N) (bvs bs)) ∧ Hid (Own wr w.heap.size 2 u4 (ints (cyA xs k).2)) ∧ Hid (Below w.heap.size w wr)) (fun m _ _ => N + 2 - (intOf m).toNat)
      case atStart => exact ⟨_, N + 1, 0, k, rfl, rfl, hlt, Nat.zero_le _, hidd ((HLa.out k).trans HN.out.symm), hidd (by have h1 := unm_le (cyA xs k).1; have h2 := HLa.out k; rw [← HN.out] at h2; omega), hidd ⟨HS.out, by rw [Nat.zero_add]; exact HR.out⟩, HW, HU, Hb⟩
      case round =>
        clear HU HW Hb HS HR
        obtain ⟨bs, f, m, a, rfl, rfl, ha, hm, Hl, Hf, Hc, HW, HU, Hb⟩ := hrel
        obtain ⟨f', rfl⟩ : ∃ f', f = f' + 1 := ⟨f - 1, by have := Hf.out; omega⟩
        have a1 : (a : Int) < N := by omega
        have a2 : (0 : Int) ≤ a := by omega
        have hab : a < bs.length := by rw [Hl.out]; exact ha
        have d1 := HW.out.cell (bvs_get hab)
        have d2 := HW.out.frozen a
        cases hbv : bs.getD a true with
        | true =>
          rw [hbv] at d1
          have Hst := hidd (cyR_stop (L := xs) (f := f') hbv)
          have hc := Hc.out
          rw [Hst.out] at hc
          have HbS := hidd hc.1
          have hmR : m = R2 := by have := hc.2; simpa using this
          subst hmR
          clear hbv hc Hst Hc
          obtain ⟨B4, c4, rfl⟩ := HU.out.slice
          have hbase := Hb.out.size
          by_cases hp : 0 < m
          · rw [if_pos hp] at HT2
            have p1 : (0 : Int) < m := by omega
            clear hp
            go_wp2_with (at_builtin; refine app_own rfl _ _ _ rfl w.heap.size 2 (.int .i64 0) 8 Try.underlying22 info_i64 rfl HU.out rfl rfl rfl hlen2 (by decide) hbase ?_; intro v' w6 ho hgr hle6; have Ho2 := hidd ho; have b2 := hidd (bel_own HU.out hgr hbase); have HW2 := hidd (HW.out.grown hgr (HW.out.apart HU.out (by decide))); clear ho hgr)
            go_roundw
            case rel => exact ⟨k + 1, by omega, by go_num, hidd (by rw [HT2.out, ints_append]; exact Ho2.out), hidd (by rw [HT1.out, ← HbS.out]; exact HW2.out), hidd (Hb.out.trans b2.out)⟩
            case measure => first | (simp [intOf]; done) | (simp [intOf]; omega)
          · rw [if_neg hp] at HT2
            have p1 : ¬ (0 : Int) < m := by omega
            obtain rfl : m = 0 := by omega
            clear hp
            go_wp2_with fail
            go_roundw
            case rel => exact ⟨k + 1, by omega, by go_num, hidd (by rw [HT2.out]; exact HU.out), hidd (by rw [HT1.out, ← HbS.out]; exact HW.out), Hb⟩
            case measure => first | (simp [intOf]; done) | (simp [intOf]; omega)
        | false =>
          rw [hbv] at d1
          have Hon := hidd (cyR_on (L := xs) (f := f') hbv)
          have hun := hidd (unm_set hab hbv)
          have hax : a < xs.length := by rw [← HN.out]; exact ha
          obtain ⟨r, hr1, hr2⟩ := HI.out a hax
          rw [← HN.out] at hr2
          rw [hr1, Int.toNat_natCast] at Hon
          have hc := Hc.out
          rw [Hon.out.1, Hon.out.2] at hc
          have HC2 := hidd hc
          obtain ⟨b, o, rfl, hcl0⟩ := Hr.out.get hax
          have hx2 : xs[a] = (r : Int) := by rw [← hr1, List.getD_eq_getElem?_getD, List.getElem?_eq_getElem hax]; rfl
          rw [hx2] at hcl0
          have hbl : b < w.heap.size := World.block_lt_of_cell? _ _ hcl0
          have hcl := (Hb.out.cell (p := ⟨b, o + a, none⟩) hbl).trans hcl0
          have n1 : ¬ b = w.heap.size := by omega
          have n2 : ¬ w.heap.size = b := by omega
          have m1 : (m : Int) ≤ 1001 := by omega
          have hmm : m + 1 ≤ R2 := by omega
          have a3 : (a : Int) < xs.length := by omega
          clear hbv hc Hon Hc hcl0 hx2 hr1 hbl hax
          go_wp2_with fail
          go_roundw
          case rel =>
            refine ⟨bs.set a true, f', m + 1, r, by go_num, rfl, hr2, hmm, hidd (by rw [List.length_set]; exact Hl.out), hidd (by have h1 := hun.out; have h2 := Hf.out; omega), hidd ⟨HC2.out.1, by have := HC2.out.2; omega⟩, hidd ?_, hidd (own_far_bool HU.out HW.out a (.bool true)), hidd (Hb.out.setCell (Nat.le_refl _) _)⟩
            have := HW.out.store a (.bool true)
            rw [bvs_set] at this
            exact this
          case measure => first | (simp [intOf]; done) | (simp [intOf]; omega)
    · have he : k = N := by omega
      subst he
      clear hlt
      have hou := HC.out k
      have HSo := hidd (sort_any w.heap.size _ _ wr HU.out HPo.out (by omega) Hb.out.size)
      obtain ⟨B4, c4, rfl⟩ := HU.out.slice
      rw [ints_length] at HSo ⊢
      (go_wp2_with fail; refine HSo.out.mono ?_; rintro e w9 ⟨rfl, hb9⟩; have Hb := hidd (Hb.out.trans hb9); clear hb9; go_wp2_with fail)
      go_ret
      exact ⟨⟨_, _, rfl⟩, Hb.out⟩

/-! ### IsOneCycle -/
theorem cyA_pos (L : List Int) (h : 0 < L.length) : ∀ k, 0 < (cyA L (k + 1)).2.length
  | 0 => by
    have hb : (cyA L 0).1.getD 0 true = false := by
      show (List.replicate L.length false).getD 0 true = false
      rw [List.getD_eq_getElem?_getD, List.getElem?_replicate, if_pos h]; rfl
    have hr := (cyR_on (L := L) (f := L.length) hb).2
    show 0 < (if 0 < (cyR L (L.length + 1) (cyA L 0).1 0).2 then (cyA L 0).2 ++ [((cyR L (L.length + 1) (cyA L 0).1 0).2 : Int)] else (cyA L 0).2).length
    rw [if_pos (by omega), List.length_append]
    simp
  | k + 1 => by
    have ih := cyA_pos L h k
    show 0 < (if 0 < (cyR L (L.length + 1) (cyA L (k + 1)).1 (k + 1)).2 then (cyA L (k + 1)).2 ++ [((cyR L (L.length + 1) (cyA L (k + 1)).1 (k + 1)).2 : Int)] else (cyA L (k + 1)).2).length
    split
    · rw [List.length_append]; omega
    · exact ih
theorem prP_inn {d : Nat} (hd : Dd d) (n : Nat) (xs : List Int) : Inn (prP d n xs) := fun k hk => by
  rw [prP_len] at hk ⊢
  exact ⟨aN d xs n k, prP_get d n xs hk, aN_lt hd xs n k⟩
def icR (d n : Int) (xs : List Int) : Bool × Int := if codeP d n [xs] = 0 then (decide ((cyA (prP d.toNat n.toNat xs) (prP d.toNat n.toNat xs).length).2.length = 1), 0) else (false, codeP d n [xs])
set_option maxRecDepth 100000 in
set_option maxHeartbeats 1000000 in
theorem implIsOneCycle_any (d n : Int) (v : Value) (xs : List Int) (w : World) (hr : RdI w v xs) :
    Calls Try.prog 33 #[.int .i64 d, .int .i64 n, v] w fun e w' => e = .returned (.tuple #[.bool (icR d n xs).1, .int .i64 (icR d n xs).2]) ∧ Below w.heap.size w w' := by
  have Hr := hidd hr
  obtain ⟨A, c, rfl, hr⟩ := hr
  have HP := hidd (portraitCode_any d n _ [xs] _ (RdLL.lit1 ⟨A, c, rfl, hr⟩ 22 w.heap.size rfl))
  clear hr
  by_cases h0 : codeP d n [xs] = 0
  · have HR : Hid (icR d n xs = _) := hidd (if_pos h0)
    rw [h0] at HP
    obtain ⟨d', n', rfl, rfl, hd, hn1, hn4, hall⟩ := codeP_zero h0
    have HO := hidd (fun W (hrW : RdI W (.slice A xs.length c) xs) => ofPortrait_any d' n' hd hn4 _ xs (hall xs (List.mem_singleton.2 rfl)) W hrW)
    have hpl : 0 < (prP d' n' xs).length := by rw [prP_len]; exact Nat.pow_pos (by have := hd.le; omega)
    have hcp : 0 < (cyA (prP d' n' xs) (prP d' n' xs).length).2.length := by
      obtain ⟨m, hm⟩ : ∃ m, (prP d' n' xs).length = m + 1 := ⟨(prP d' n' xs).length - 1, by omega⟩
      rw [hm]
      exact cyA_pos _ hpl m
    have hcb := cyA_out (prP d' n' xs) (prP d' n' xs).length
    have hpb : (prP d' n' xs).length ≤ 1000 := by rw [prP_len]; have := pow_bd hd.le.2 (show n' ≤ 5 by omega); omega
    have HCy := hidd (fun u W (hu : RdI W u (prP d' n' xs)) => cycles_any u _ (prP_inn hd n' xs) hpb hcp W hu)
    rw [Int.toNat_natCast, Int.toNat_natCast] at HR
    obtain ⟨K, hK⟩ : ∃ K, K = (cyA (prP d' n' xs) (prP d' n' xs).length).2.length := ⟨_, rfl⟩
    rw [← hK] at HCy HR hcb
    have HD1 := hidd (show ((K : Int) == 1) = decide (K = 1) by rw [Bool.eq_iff_iff]; simp; omega)
    clear h0 hall hd hpl hcp hK
    go_enter Try.func33, Try.ntmps33
    go_wp2_with fail
    refine HP.out.mono ?_
    rintro e w1 ⟨rfl, hb⟩
    have B1 := hidd (bel_then (bel_alloc' _ _) (show Below (w.alloc (.cells #[.slice A xs.length c] 22)).heap.size (w.alloc (.cells #[.slice A xs.length c] 22)) w1 from hb))
    clear hb HP
    go_wp2_with fail
    refine (HO.out _ (Hr.out.below B1.out)).mono ?_
    rintro e w2 ⟨⟨u, rfl, ho⟩, hb⟩
    have B2 := hidd (bel_then B1.out hb)
    have Hu := hidd ho.rdI
    clear ho hb HO B1
    go_wp2_with fail
    refine (HCy.out u w2 Hu.out).mono ?_
    rintro e w3 ⟨⟨A3, c3, rfl⟩, hb⟩
    have B3 := hidd (bel_then B2.out hb)
    clear hb HCy B2
    by_cases hk1 : K = 1
    · subst hk1
      have HE := hidd (show icR d' n' xs = (true, 0) from HR.out)
      go_wp2_with fail
      go_ret2
      exact ⟨by rw [HE.out]; rfl, B3.out⟩
    · have HE := hidd (show icR d' n' xs = (false, 0) by rw [HR.out, decide_eq_false hk1])
      have hk2 : ((K : Int) == 1) = false := beq_eq_false_iff_ne.2 (by omega)
      have hk3 : ¬ (K : Int) = 1 := by omega
      clear hk1
      go_wp2_with fail
      go_ret2
      exact ⟨by rw [HE.out]; simp [hk2, hk3], B3.out⟩
  · have HR : Hid (icR d n xs = (false, codeP d n [xs])) := hidd (if_neg h0)
    obtain ⟨cd, hcd⟩ : ∃ cd, cd = codeP d n [xs] := ⟨_, rfl⟩
    rw [← hcd] at HR HP h0
    have h1 : (cd == 0) = false := by simp [h0]
    have h2 : (cd != 0) = true := by simp [h0]
    clear h0 hcd
    go_enter Try.func33, Try.ntmps33
    go_wp2_with fail
    refine HP.out.mono ?_
    rintro e w1 ⟨rfl, hb⟩
    have B1 := hidd (bel_then (bel_alloc' _ _) (show Below (w.alloc (.cells #[.slice A xs.length c] 22)).heap.size (w.alloc (.cells #[.slice A xs.length c] 22)) w1 from hb))
    go_wp2_with fail
    go_ret2
    exact ⟨by rw [HR.out]; rfl, B1.out⟩
set_option maxRecDepth 100000 in
set_option maxHeartbeats 1000000 in
theorem specIsOneCycle_any (d n : Int) (v : Value) (xs : List Int) (w : World) (hr : RdI w v xs) :
    Calls Try.prog 32 #[.int .i64 d, .int .i64 n, v] w fun e w' => e = .returned (.tuple #[.bool (icR d n xs).1, .int .i64 (icR d n xs).2]) ∧ Below w.heap.size w w' := by
  have Hr := hidd hr
  obtain ⟨A, c, rfl, hr⟩ := hr
  have HP := hidd (l03Code_any d n _ [xs] _ (RdLL.lit1 ⟨A, c, rfl, hr⟩ 22 w.heap.size rfl))
  clear hr
  by_cases h0 : codeP d n [xs] = 0
  · have HR : Hid (icR d n xs = _) := hidd (if_pos h0)
    rw [h0] at HP
    obtain ⟨d', n', rfl, rfl, hd, hn1, hn4, hall⟩ := codeP_zero h0
    have HO := hidd (fun W (hrW : RdI W (.slice A xs.length c) xs) => l03Permutation_any d' n' hd hn4 _ xs (hall xs (List.mem_singleton.2 rfl)) W hrW)
    have hpl : 0 < (prP d' n' xs).length := by rw [prP_len]; exact Nat.pow_pos (by have := hd.le; omega)
    have hcp : 0 < (cyA (prP d' n' xs) (prP d' n' xs).length).2.length := by
      obtain ⟨m, hm⟩ : ∃ m, (prP d' n' xs).length = m + 1 := ⟨(prP d' n' xs).length - 1, by omega⟩
      rw [hm]
      exact cyA_pos _ hpl m
    have hcb := cyA_out (prP d' n' xs) (prP d' n' xs).length
    have hpb : (prP d' n' xs).length ≤ 1000 := by rw [prP_len]; have := pow_bd hd.le.2 (show n' ≤ 5 by omega); omega
    have HCy := hidd (fun u W (hu : RdI W u (prP d' n' xs)) => l03Cycles_any u _ (prP_inn hd n' xs) hpb hcp W hu)
    rw [Int.toNat_natCast, Int.toNat_natCast] at HR
    obtain ⟨K, hK⟩ : ∃ K, K = (cyA (prP d' n' xs) (prP d' n' xs).length).2.length := ⟨_, rfl⟩
    rw [← hK] at HCy HR hcb
    have HD1 := hidd (show ((K : Int) == 1) = decide (K = 1) by rw [Bool.eq_iff_iff]; simp; omega)
    clear h0 hall hd hpl hcp hK
    go_enter Try.func32, Try.ntmps32
    go_wp2_with fail
    refine HP.out.mono ?_
    rintro e w1 ⟨rfl, hb⟩
    have B1 := hidd (bel_then (bel_alloc' _ _) (show Below (w.alloc (.cells #[.slice A xs.length c] 22)).heap.size (w.alloc (.cells #[.slice A xs.length c] 22)) w1 from (by obtain ⟨q, e⟩ := hb; rw [e]; exact bel_drewN (Below.refl _ _) _)))
    clear hb HP
    go_wp2_with fail
    refine (HO.out _ (Hr.out.below B1.out)).mono ?_
    rintro e w2 ⟨⟨u, rfl, ho⟩, hb⟩
    have B2 := hidd (bel_then B1.out hb)
    have Hu := hidd ho.rdI
    clear ho hb HO B1
    go_wp2_with fail
    refine (HCy.out u w2 Hu.out).mono ?_
    rintro e w3 ⟨⟨A3, c3, rfl⟩, hb⟩
    have B3 := hidd (bel_then B2.out hb)
    clear hb HCy B2
    by_cases hk1 : K = 1
    · subst hk1
      have HE := hidd (show icR d' n' xs = (true, 0) from HR.out)
      go_wp2_with fail
      go_ret2
      exact ⟨by rw [HE.out]; rfl, B3.out⟩
    · have HE := hidd (show icR d' n' xs = (false, 0) by rw [HR.out, decide_eq_false hk1])
      have hk2 : ((K : Int) == 1) = false := beq_eq_false_iff_ne.2 (by omega)
      have hk3 : ¬ (K : Int) = 1 := by omega
      clear hk1
      go_wp2_with fail
      go_ret2
      exact ⟨by rw [HE.out]; simp [hk2, hk3], B3.out⟩
  · have HR : Hid (icR d n xs = (false, codeP d n [xs])) := hidd (if_neg h0)
    obtain ⟨cd, hcd⟩ : ∃ cd, cd = codeP d n [xs] := ⟨_, rfl⟩
    rw [← hcd] at HR HP h0
    have h1 : (cd == 0) = false := by simp [h0]
    have h2 : (cd != 0) = true := by simp [h0]
    clear h0 hcd
    go_enter Try.func32, Try.ntmps32
    go_wp2_with fail
    refine HP.out.mono ?_
    rintro e w1 ⟨rfl, hb⟩
    have B1 := hidd (bel_then (bel_alloc' _ _) (show Below (w.alloc (.cells #[.slice A xs.length c] 22)).heap.size (w.alloc (.cells #[.slice A xs.length c] 22)) w1 from (by obtain ⟨q, e⟩ := hb; rw [e]; exact bel_drewN (Below.refl _ _) _)))
    go_wp2_with fail
    go_ret2
    exact ⟨by rw [HR.out]; rfl, B1.out⟩
end Go.Proofs.Ytecdjmfohcnadaa
