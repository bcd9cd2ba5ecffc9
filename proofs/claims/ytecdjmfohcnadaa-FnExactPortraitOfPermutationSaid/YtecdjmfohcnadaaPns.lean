/- Walks: the number of a permutation, of the reference. -/
import Derived.Test.YtecdjmfohcnadaaPnu
namespace Go.Proofs.Ytecdjmfohcnadaa
open Go.RowKit
set_option linter.unusedSimpArgs false

/-- Images of d letters, each one once, as far as place n. -/
def Goo (d : Nat) (xs : List Int) (n : Nat) : Prop := ∀ i, i < n → (0 ≤ xs.getD i 0 ∧ xs.getD i 0 ≤ (d : Int) - 1) ∧ ∀ j, j < i → xs.getD j 0 ≠ xs.getD i 0
theorem pil_len (d n : Nat) : (pil d n).length = d := by simp [pil]
theorem pil_goo {d n : Nat} (hd : Dd d) (hn : n < pcn d) : Goo d (pil d n) d := by
  rcases hd with rfl | rfl
  · exact (by decide : ∀ n, n < 2 → ∀ i, i < 2 → (0 ≤ (pil 2 n).getD i 0 ∧ (pil 2 n).getD i 0 ≤ ((2 : Nat) : Int) - 1) ∧ ∀ j, j < i → (pil 2 n).getD j 0 ≠ (pil 2 n).getD i 0) n hn
  · exact (by decide : ∀ n, n < 6 → ∀ i, i < 3 → (0 ≤ (pil 3 n).getD i 0 ∧ (pil 3 n).getD i 0 ≤ ((3 : Nat) : Int) - 1) ∧ ∀ j, j < i → (pil 3 n).getD j 0 ≠ (pil 3 n).getD i 0) n hn
theorem pno_neg {d : Nat} {xs : List Int} (hd : Dd d) (h : ¬ Goo d xs d) : pno d xs = -1 := by
  unfold pno
  split
  · rename_i hlt
    exfalso
    have h1 := (first_spec (fun k => decide ((pms d).getD k [] = xs)) (pcn d)).2.1 hlt
    have h2 : (pms d).getD (pix d xs) [] = xs := of_decide_eq_true h1
    rw [pil_eq hd hlt] at h2
    rw [← h2] at h
    exact h (pil_goo hd hlt)
  · rfl
theorem goo_pil {d : Nat} {xs : List Int} (hd : Dd d) (hl : xs.length = d) (h : Goo d xs d) : ∃ n, n < pcn d ∧ xs = pil d n := by
  rcases hd with rfl | rfl
  · match xs, hl with
    | [a, b], _ =>
      have h0 := h 0 (by omega)
      have h1 := h 1 (by omega)
      have h2 := h1.2 0 (by omega)
      simp at h0 h1 h2
      have c : (a = 0 ∧ b = 1) ∨ (a = 1 ∧ b = 0) := by omega
      rcases c with ⟨rfl, rfl⟩ | ⟨rfl, rfl⟩
      · exact ⟨0, by decide, by decide⟩
      · exact ⟨1, by decide, by decide⟩
  · match xs, hl with
    | [a, b, c], _ =>
      have h0 := h 0 (by omega)
      have h1 := h 1 (by omega)
      have h2 := h 2 (by omega)
      have e1 := h1.2 0 (by omega)
      have e2 := h2.2 0 (by omega)
      have e3 := h2.2 1 (by omega)
      simp at h0 h1 h2 e1 e2 e3
      have k : (a = 0 ∧ b = 1 ∧ c = 2) ∨ (a = 0 ∧ b = 2 ∧ c = 1) ∨ (a = 1 ∧ b = 0 ∧ c = 2) ∨ (a = 1 ∧ b = 2 ∧ c = 0) ∨ (a = 2 ∧ b = 0 ∧ c = 1) ∨ (a = 2 ∧ b = 1 ∧ c = 0) := by omega
      rcases k with ⟨rfl, rfl, rfl⟩ | ⟨rfl, rfl, rfl⟩ | ⟨rfl, rfl, rfl⟩ | ⟨rfl, rfl, rfl⟩ | ⟨rfl, rfl, rfl⟩ | ⟨rfl, rfl, rfl⟩
      · exact ⟨0, by decide, by decide⟩
      · exact ⟨1, by decide, by decide⟩
      · exact ⟨2, by decide, by decide⟩
      · exact ⟨3, by decide, by decide⟩
      · exact ⟨4, by decide, by decide⟩
      · exact ⟨5, by decide, by decide⟩
/-- The two arrays behind k places. -/
def lcA (xs : List Int) (k : Nat) : Array Value := #[.int .u8 (if 0 < k then xs.getD 0 0 else 0), .int .u8 (if 1 < k then xs.getD 1 0 else 0), .int .u8 (if 2 < k then xs.getD 2 0 else 0)]
def mtB (xs : List Int) (k : Nat) (v : Int) : Bool := (List.range k).any fun j => decide (xs.getD j 0 = v)
def mtA (xs : List Int) (k : Nat) : Array Value := #[.bool (mtB xs k 0), .bool (mtB xs k 1), .bool (mtB xs k 2)]
theorem mtB_succ (xs : List Int) (k : Nat) (v : Int) : mtB xs (k + 1) v = (mtB xs k v || decide (xs.getD k 0 = v)) := by simp [mtB, List.range_succ]
theorem mtB_no {xs : List Int} {k : Nat} {v : Int} (h : mtB xs k v = false) : ∀ j, j < k → xs.getD j 0 ≠ v := fun j hj e => by
  unfold mtB at h
  rw [List.any_eq_false] at h
  exact h j (List.mem_range.2 hj) (decide_eq_true e)
theorem mtB_yes {xs : List Int} {k : Nat} {v : Int} (h : mtB xs k v = true) : ∃ j, j < k ∧ xs.getD j 0 = v := by
  unfold mtB at h
  obtain ⟨j, hj, e⟩ := List.any_eq_true.1 h
  exact ⟨j, List.mem_range.1 hj, of_decide_eq_true e⟩
theorem mtA_get (xs : List Int) (k : Nat) {y : Nat} (hy : y < 3) : (mtA xs k)[y]? = some (.bool (mtB xs k y)) := by
  have h : y = 0 ∨ y = 1 ∨ y = 2 := by omega
  rcases h with rfl | rfl | rfl <;> rfl
theorem mtA_set {xs : List Int} {k y : Nat} (hy : y < 3) (h : xs.getD k 0 = y) : (mtA xs k).setIfInBounds y (.bool true) = mtA xs (k + 1) := by
  have h3 : y = 0 ∨ y = 1 ∨ y = 2 := by omega
  have h' : xs[k]?.getD 0 = (y : Int) := by rw [← List.getD_eq_getElem?_getD]; exact h
  unfold mtA
  rcases h3 with rfl | rfl | rfl <;> simp [mtB_succ, h']
theorem lcA_get (xs : List Int) {k : Nat} (hk : k < 3) : (lcA xs k)[k]? = some (.int .u8 0) := by
  have h3 : k = 0 ∨ k = 1 ∨ k = 2 := by omega
  rcases h3 with rfl | rfl | rfl <;> rfl
theorem lcA_set {xs : List Int} {k : Nat} (hk : k < 3) : (lcA xs k).setIfInBounds k (.int .u8 (xs.getD k 0)) = lcA xs (k + 1) := by
  have h3 : k = 0 ∨ k = 1 ∨ k = 2 := by omega
  unfold lcA
  rcases h3 with rfl | rfl | rfl <;> simp
theorem lcA_end {d n : Nat} (hd : Dd d) : lcA (pil d n) d = imA d n := by
  unfold lcA imA
  rcases hd with rfl | rfl
  · simp [pil]
    have : pim 2 n 2 = 0 := by
      unfold pim
      have : ∀ l ∈ pms 2, l.length ≤ 2 := by decide
      have hl : ((pms 2).getD n []).length ≤ 2 := by
        by_cases h : n < (pms 2).length
        · rw [List.getD_eq_getElem?_getD, List.getElem?_eq_getElem h]; exact this _ (List.getElem_mem h)
        · rw [List.getD_eq_getElem?_getD, List.getElem?_eq_none (by omega)]; simp
      rw [List.getD_eq_getElem?_getD (i := 2), List.getElem?_eq_none (by omega)]; rfl
    omega
  · simp [pil]

theorem pnR_bad {d : Nat} {xs : List Int} (hd : Dd d) (hX : pnX xs = pno d xs) (h : ¬ Goo d xs d) : pnR xs = (0, 2) := by
  unfold pnR
  rw [hX, pno_neg hd h]; rfl
theorem pnR_good {d n : Nat} {xs : List Int} (hd : Dd d) (hX : pnX xs = pno d xs) (hn : n < pcn d) (e : xs = pil d n) : pnR xs = ((n : Int), 0) := by
  unfold pnR
  rw [hX, e, pno_pil hd hn, if_neg (by omega)]
set_option maxRecDepth 100000 in
set_option maxHeartbeats 2000000 in
theorem specPermutationNumber_any (v : Value) (xs : List Int) (w : World) (hr : RdI w v xs) :
    Calls Try.prog 16 #[v] w fun e w' => e = .returned (.tuple #[.int .i64 (pnR xs).1, .int .i64 (pnR xs).2]) ∧ Below w.heap.size w w' := by
  obtain ⟨A, c, rfl, hr⟩ := hr
  have Hr := hidd hr
  have hle := hr.1
  rw [ints_length] at hle
  clear hr
  by_cases h : xs.length = 2 ∨ xs.length = 3
  · have hd : Dd xs.length := h
    have h23 := hd.le
    have HX : Hid (pnX xs = pno xs.length xs) := hidd (if_pos h)
    have HD := hidd hd
    have HH := hidd h
    clear hd
    rcases HH.out with h2 | h2
    · have i1 : (xs.length : Int) = 2 := by omega
      have HL := hidd h2
      have HD2 := hidd (show Dd 2 by unfold Dd; omega)
      rw [h2] at HX ⊢
      clear h HD
      go_enter Try.func16, Try.ntmps16
      go_wp2_with fail
      obtain ⟨w1, hw1⟩ : ∃ w1, w1 = (w.alloc (.cells #[.int .u8 0, .int .u8 0, .int .u8 0] 46)).alloc (.cells #[.bool false, .bool false, .bool false] 47) := ⟨_, rfl⟩
      rw [← hw1]
      have B1 := hidd (show Below w.heap.size w w1 by rw [hw1]; exact (bel_alloc' _ _).alloc (by simp) _)
      have L1 := hidd (show w1.heap[w.heap.size]? = some (.cells (lcA xs 0) 46 (0, 0)) by rw [hw1]; exact hp_old (hp_new rfl))
      have M1 := hidd (show w1.heap[w.heap.size + 1]? = some (.cells (mtA xs 0) 47 (0, 0)) by rw [hw1]; exact hp_new (by simp))
      clear hw1
      go_loopw [6] (fun i wr => ∃ k : Nat, k ≤ 2 ∧ i = .int .i64 k ∧ Hid (Goo 2 xs k) ∧ Hid (wr.heap[w.heap.size]? = some (.cells (lcA xs k) 46 (0, 0))) ∧ Hid (wr.heap[w.heap.size + 1]? = some (.cells (mtA xs k) 47 (0, 0))) ∧ Hid (Below w.heap.size w wr)) (fun i _ => 2 - (intOf i).toNat)
      case atStart => exact ⟨0, Nat.zero_le _, rfl, hidd (fun i hi => absurd hi (Nat.not_lt_zero _)), L1, M1, B1⟩
      case round =>
        clear L1 M1
        obtain ⟨k, hk, rfl, HG, HL1, HM1, Hb⟩ := hrel
        by_cases hlt : k < 2
        · have hkl : k < xs.length := by omega
          obtain ⟨b, o, rfl, hc0⟩ := Hr.out.get hkl
          have hbl : b < w.heap.size := World.block_lt_of_cell? _ _ hc0
          have hcl := (Hb.out.cell (p := ⟨b, o + k, none⟩) hbl).trans hc0
          have n1 : ¬ b = w.heap.size + 1 := by omega
          have n2 : ¬ w.heap.size + 1 = b := by omega
          clear hc0
          have i2 : (k : Int) < 2 := by omega
          have i3 : (0 : Int) ≤ k := by omega
          have i5 : (k : Int) < 3 := by omega
          obtain ⟨x, hx⟩ : ∃ x, x = xs.getD k 0 := ⟨_, rfl⟩
          have hx2 : xs[k] = x := by rw [hx, List.getD_eq_getElem?_getD, List.getElem?_eq_getElem hkl]; rfl
          rw [hx2] at hcl
          have HX2 := hidd hx
          clear hx hx2
          by_cases hin : 0 ≤ x ∧ x ≤ (2 : Int) - 1
          · obtain ⟨y, rfl⟩ : ∃ y : Nat, x = y := ⟨x.toNat, by omega⟩
            have hy3 : y < 3 := by omega
            have c1 := (blkc HM1.out y).trans (mtA_get xs k hy3)
            have f1 := blkf HM1.out y
            have f2 := blkf HL1.out k
            have c2 := (blkc HL1.out k).trans (lcA_get xs (show k < 3 by omega))
            have j1 : (y : Int) < 3 := by omega
            have j2 : (y : Int) ≤ 1 ∨ (y : Int) ≤ 2 := by omega
            have hI := hidd (fun W => l01In_yes (y : Int) 0 ((2 : Int) - 1) W hin.1 hin.2)
            obtain ⟨m, hm⟩ : ∃ m, m = mtB xs k y := ⟨_, rfl⟩
            rw [← hm] at c1
            have HM := hidd hm
            clear hm
            have r1 : IntKind.u8.wrap (y : Int) = (y : Int) := IntWalk.u8_in _ (by omega)
            cases m with
            | true =>
              have HR := hidd (pnR_bad HD2.out HX.out (fun hg => by
                obtain ⟨j, hj, e⟩ := mtB_yes HM.out.symm
                exact (hg k hlt).2 j hj (e.trans HX2.out)))
              go_wp2_with (go_at_call 42; refine (hI.out _).mono ?_; rintro e w3 ⟨rfl, rfl⟩)
              go_ret2
              exact ⟨by rw [HR.out]; rfl, Hb.out⟩
            | false =>
              go_wp2_with (go_at_call 42; refine (hI.out _).mono ?_; rintro e w3 ⟨rfl, rfl⟩)
              go_roundw
              case rel =>
                refine ⟨k + 1, by omega, by go_num, hidd (fun i hi => ?_), hidd ?_, hidd ?_, hidd ((Hb.out.setCell (by dsimp only; omega) _).setCell (by dsimp only; omega) _)⟩
                · by_cases e : i = k
                  · subst e
                    rw [← HX2.out]
                    exact ⟨hin, mtB_no HM.out.symm⟩
                  · exact HG.out i (by omega)
                · have := hp_set (hp_far HL1.out (p := ⟨w.heap.size + 1, y, none⟩) (by dsimp only; omega) (.bool true)) k (.int .u8 (y : Int))
                  have hs := lcA_set (xs := xs) (show k < 3 by omega)
                  rw [← HX2.out] at hs
                  rw [hs] at this
                  exact this
                · have := hp_far (hp_set HM1.out y (.bool true)) (p := ⟨w.heap.size, k, none⟩) (by dsimp only; omega) (.int .u8 (y : Int))
                  rw [mtA_set hy3 HX2.out.symm] at this
                  exact this
              case measure => first | (simp [intOf]; done) | (simp [intOf]; omega)
          · have HR := hidd (pnR_bad HD2.out HX.out (fun hg => hin (by rw [HX2.out]; exact (hg k hlt).1)))
            have hI := hidd (fun W => l01In_no x 0 ((2 : Int) - 1) W (by omega))
            go_wp2_with (go_at_call 42; refine (hI.out _).mono ?_; rintro e w3 ⟨rfl, rfl⟩)
            go_ret2
            exact ⟨by rw [HR.out]; rfl, Hb.out⟩
        · have he : k = 2 := by omega
          subst he
          obtain ⟨n, hn, e⟩ := goo_pil HD2.out HL.out HG.out
          have HR := hidd (pnR_good HD2.out HX.out hn e)
          have K := HL1.out
          rw [e, lcA_end HD2.out] at K
          have hk := run_load3 K rfl
          clear hlt e
          go_wp2_with fail
          refine (l03Number_any 2 n HD2.out hn _).mono ?_
          rintro e w3 ⟨rfl, hb⟩
          go_wp2_with fail
          go_ret2
          exact ⟨by rw [HR.out]; rfl, bel_then Hb.out hb⟩
    · have i1 : (xs.length : Int) = 3 := by omega
      have HL := hidd h2
      have HD2 := hidd (show Dd 3 by unfold Dd; omega)
      rw [h2] at HX ⊢
      clear h HD
      go_enter Try.func16, Try.ntmps16
      go_wp2_with fail
      obtain ⟨w1, hw1⟩ : ∃ w1, w1 = (w.alloc (.cells #[.int .u8 0, .int .u8 0, .int .u8 0] 46)).alloc (.cells #[.bool false, .bool false, .bool false] 47) := ⟨_, rfl⟩
      rw [← hw1]
      have B1 := hidd (show Below w.heap.size w w1 by rw [hw1]; exact (bel_alloc' _ _).alloc (by simp) _)
      have L1 := hidd (show w1.heap[w.heap.size]? = some (.cells (lcA xs 0) 46 (0, 0)) by rw [hw1]; exact hp_old (hp_new rfl))
      have M1 := hidd (show w1.heap[w.heap.size + 1]? = some (.cells (mtA xs 0) 47 (0, 0)) by rw [hw1]; exact hp_new (by simp))
      clear hw1
      go_loopw [6] (fun i wr => ∃ k : Nat, k ≤ 3 ∧ i = .int .i64 k ∧ Hid (Goo 3 xs k) ∧ Hid (wr.heap[w.heap.size]? = some (.cells (lcA xs k) 46 (0, 0))) ∧ Hid (wr.heap[w.heap.size + 1]? = some (.cells (mtA xs k) 47 (0, 0))) ∧ Hid (Below w.heap.size w wr)) (fun i _ => 3 - (intOf i).toNat)
      case atStart => exact ⟨0, Nat.zero_le _, rfl, hidd (fun i hi => absurd hi (Nat.not_lt_zero _)), L1, M1, B1⟩
      case round =>
        clear L1 M1
        obtain ⟨k, hk, rfl, HG, HL1, HM1, Hb⟩ := hrel
        by_cases hlt : k < 3
        · have hkl : k < xs.length := by omega
          obtain ⟨b, o, rfl, hc0⟩ := Hr.out.get hkl
          have hbl : b < w.heap.size := World.block_lt_of_cell? _ _ hc0
          have hcl := (Hb.out.cell (p := ⟨b, o + k, none⟩) hbl).trans hc0
          have n1 : ¬ b = w.heap.size + 1 := by omega
          have n2 : ¬ w.heap.size + 1 = b := by omega
          clear hc0
          have i2 : (k : Int) < 3 := by omega
          have i3 : (0 : Int) ≤ k := by omega
          have i5 : (k : Int) < 3 := by omega
          obtain ⟨x, hx⟩ : ∃ x, x = xs.getD k 0 := ⟨_, rfl⟩
          have hx2 : xs[k] = x := by rw [hx, List.getD_eq_getElem?_getD, List.getElem?_eq_getElem hkl]; rfl
          rw [hx2] at hcl
          have HX2 := hidd hx
          clear hx hx2
          by_cases hin : 0 ≤ x ∧ x ≤ (3 : Int) - 1
          · obtain ⟨y, rfl⟩ : ∃ y : Nat, x = y := ⟨x.toNat, by omega⟩
            have hy3 : y < 3 := by omega
            have c1 := (blkc HM1.out y).trans (mtA_get xs k hy3)
            have f1 := blkf HM1.out y
            have f2 := blkf HL1.out k
            have c2 := (blkc HL1.out k).trans (lcA_get xs (show k < 3 by omega))
            have j1 : (y : Int) < 3 := by omega
            have j2 : (y : Int) ≤ 1 ∨ (y : Int) ≤ 2 := by omega
            have hI := hidd (fun W => l01In_yes (y : Int) 0 ((3 : Int) - 1) W hin.1 hin.2)
            obtain ⟨m, hm⟩ : ∃ m, m = mtB xs k y := ⟨_, rfl⟩
            rw [← hm] at c1
            have HM := hidd hm
            clear hm
            have r1 : IntKind.u8.wrap (y : Int) = (y : Int) := IntWalk.u8_in _ (by omega)
            cases m with
            | true =>
              have HR := hidd (pnR_bad HD2.out HX.out (fun hg => by
                obtain ⟨j, hj, e⟩ := mtB_yes HM.out.symm
                exact (hg k hlt).2 j hj (e.trans HX2.out)))
              go_wp2_with (go_at_call 42; refine (hI.out _).mono ?_; rintro e w3 ⟨rfl, rfl⟩)
              go_ret2
              exact ⟨by rw [HR.out]; rfl, Hb.out⟩
            | false =>
              go_wp2_with (go_at_call 42; refine (hI.out _).mono ?_; rintro e w3 ⟨rfl, rfl⟩)
              go_roundw
              case rel =>
                refine ⟨k + 1, by omega, by go_num, hidd (fun i hi => ?_), hidd ?_, hidd ?_, hidd ((Hb.out.setCell (by dsimp only; omega) _).setCell (by dsimp only; omega) _)⟩
                · by_cases e : i = k
                  · subst e
                    rw [← HX2.out]
                    exact ⟨hin, mtB_no HM.out.symm⟩
                  · exact HG.out i (by omega)
                · have := hp_set (hp_far HL1.out (p := ⟨w.heap.size + 1, y, none⟩) (by dsimp only; omega) (.bool true)) k (.int .u8 (y : Int))
                  have hs := lcA_set (xs := xs) (show k < 3 by omega)
                  rw [← HX2.out] at hs
                  rw [hs] at this
                  exact this
                · have := hp_far (hp_set HM1.out y (.bool true)) (p := ⟨w.heap.size, k, none⟩) (by dsimp only; omega) (.int .u8 (y : Int))
                  rw [mtA_set hy3 HX2.out.symm] at this
                  exact this
              case measure => first | (simp [intOf]; done) | (simp [intOf]; omega)
          · have HR := hidd (pnR_bad HD2.out HX.out (fun hg => hin (by rw [HX2.out]; exact (hg k hlt).1)))
            have hI := hidd (fun W => l01In_no x 0 ((3 : Int) - 1) W (by omega))
            go_wp2_with (go_at_call 42; refine (hI.out _).mono ?_; rintro e w3 ⟨rfl, rfl⟩)
            go_ret2
            exact ⟨by rw [HR.out]; rfl, Hb.out⟩
        · have he : k = 3 := by omega
          subst he
          obtain ⟨n, hn, e⟩ := goo_pil HD2.out HL.out HG.out
          have HR := hidd (pnR_good HD2.out HX.out hn e)
          have K := HL1.out
          rw [e, lcA_end HD2.out] at K
          have hk := run_load3 K rfl
          clear hlt e
          go_wp2_with fail
          refine (l03Number_any 3 n HD2.out hn _).mono ?_
          rintro e w3 ⟨rfl, hb⟩
          go_wp2_with fail
          go_ret2
          exact ⟨by rw [HR.out]; rfl, bel_then Hb.out hb⟩
  · have HX := hidd (show pnX xs = -1 from if_neg h)
    have HR := hidd (show pnR xs = (0, 2) by unfold pnR; rw [HX.out]; rfl)
    have h1 : ¬ xs.length = 2 := by omega
    have h2 : ¬ xs.length = 3 := by omega
    have i1 : ((xs.length : Int) == 2) = false := beq_eq_false_iff_ne.2 (by omega)
    have i2 : ((xs.length : Int) == 3) = false := beq_eq_false_iff_ne.2 (by omega)
    have i3 : ((xs.length : Int) != 2) = true := bne_iff_ne.2 (by omega)
    have i4 : ((xs.length : Int) != 3) = true := bne_iff_ne.2 (by omega)
    clear h
    go_enter Try.func16, Try.ntmps16
    go_wp2_with fail
    go_ret2
    exact ⟨by rw [HR.out]; rfl, Below.refl _ _⟩
end Go.Proofs.Ytecdjmfohcnadaa
