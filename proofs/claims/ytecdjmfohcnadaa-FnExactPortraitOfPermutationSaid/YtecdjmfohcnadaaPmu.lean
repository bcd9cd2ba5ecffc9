/- Walks: the product of portraits, of the reference. -/
import Derived.Test.YtecdjmfohcnadaaPfh
import Derived.Test.YtecdjmfohcnadaaPns
namespace Go.Proofs.Ytecdjmfohcnadaa
open Go.RowKit
set_option linter.unusedSimpArgs false

theorem stP2 {ops : Array Oper} {rest : List Oper} {o : Oper} {a : Act} {w : World} {Q : Exit → Act → World → Prop} (hgd : o.guard = none) (x y : Operand) (ho : o.op = .store 46 x y) (g : Nat) {old vs : Array Value} {t : TypeId} (hx : a.eval x = .pointer (some ⟨g, 0, none⟩)) (hy : a.eval y = .agg vs)
    (hg : w.heap[g]? = some (.cells old t (0, 0))) (h3 : old.size = 3) (hv : vs.size = 3) (h1 : ∀ v ∈ vs.toList, v.oneCell' = true)
    (h : ∀ w3, w3.heap[g]? = some (.cells vs t (0, 0)) → (∀ j, j ≠ g → w3.heap[j]? = w.heap[j]?) → (∀ B a, Below B a w → B ≤ g → Below B a w3) → wpList Try.prog ops Q rest (a.put o.dst undef) w3) : wpList Try.prog ops Q (o :: rest) a w :=
  stP hgd x y ho g hx hy hg h3 hv h1 (h _ (hp_setRow hg) (fun j hj => setRow_other w g j _ hj) (fun _ _ hb hB => bel_row hb hB _))
theorem lcA_one (xs : List Int) (k : Nat) : ∀ v ∈ (lcA xs k).toList, v.oneCell' = true := by
  intro v hv
  simp [lcA] at hv
  rcases hv with rfl | rfl | rfl <;> rfl
set_option maxRecDepth 100000 in
set_option maxHeartbeats 2000000 in
theorem l03Then_any (d a b : Nat) (hd : Dd d) (ha : a < pcn d) (hb : b < pcn d) (w : World) :
    Calls Try.prog 87 #[.int .i64 (d : Nat), .int .i64 (a : Nat), .int .i64 (b : Nat)] w fun e w' => e = .returned (.int .i64 (thN d a b : Nat)) ∧ Below w.heap.size w w' := by
  have HD := hidd hd
  have d23 := hd.le
  have HA := hidd ha
  have HB := hidd hb
  have HT := hidd (thN_spec hd ha hb)
  clear hd ha hb
  go_enter Try.func87, Try.ntmps87
  go_wp2_with fail
  refine (l03Images_any d a HD.out HA.out _).mono ?_
  rintro e w1 ⟨rfl, hb⟩
  have B1 := hidd hb
  clear hb
  go_wp2_with fail
  refine (l03Images_any d b HD.out HB.out _).mono ?_
  rintro e w2 ⟨rfl, hb⟩
  have B2 := hidd (bel_then B1.out hb)
  clear hb B1
  go_wp2_with (refine stP2 rfl (.tmp 7) (.tmp 13) rfl w2.heap.size rfl rfl (hp_old (hp_old (hp_new rfl))) rfl rfl (imA_one d a) ?_; intro w3 h3 h3o h3b; refine stP2 rfl (.tmp 8) (.tmp 16) rfl (w2.heap.size + 1) rfl rfl ((h3o _ (by omega)).trans (hp_old (hp_new (by simp)))) rfl rfl (imA_one d b) ?_; intro w4 h4 h4o h4b; refine stP2 rfl (.tmp 9) (.tmp 17) rfl (w2.heap.size + 1 + 1) rfl rfl ((h4o _ (by omega)).trans ((h3o _ (by omega)).trans (hp_new (by simp)))) rfl rfl (lcA_one [] 0) ?_; intro w5 h5 h5o h5b)
  have B5 := hidd (show Below w2.heap.size w2 w5 from h5b _ _ (h4b _ _ (h3b _ _ (((bel_alloc' w2 _).alloc (by simp) _).alloc (by simp; omega) _) (Nat.le_refl _)) (by omega)) (by omega))
  have K1 := hidd (show w5.heap[w2.heap.size]? = some (.cells (imA d a) 46 (0, 0)) from (h5o _ (by omega)).trans ((h4o _ (by omega)).trans h3))
  have K2 := hidd (show w5.heap[w2.heap.size + 1]? = some (.cells (imA d b) 46 (0, 0)) from (h5o _ (by omega)).trans h4)
  have K3 := hidd (show w5.heap[w2.heap.size + 1 + 1]? = some (.cells (lcA (pil d (thN d a b)) 0) 46 (0, 0)) from h5)
  clear h3 h3o h3b h4 h4o h4b h5 h5o h5b
  go_wp2_with fail
  go_loopw [10] (fun y wr => ∃ x : Nat, x ≤ d ∧ y = .int .i64 x ∧ Hid (wr.heap[w2.heap.size]? = some (.cells (imA d a) 46 (0, 0))) ∧ Hid (wr.heap[w2.heap.size + 1]? = some (.cells (imA d b) 46 (0, 0))) ∧ Hid (wr.heap[w2.heap.size + 1 + 1]? = some (.cells (lcA (pil d (thN d a b)) x) 46 (0, 0))) ∧ Hid (Below w2.heap.size w2 wr)) (fun y _ => d - (intOf y).toNat)
  case atStart => exact ⟨0, Nat.zero_le _, rfl, K1, K2, K3, B5⟩
  case round =>
    clear K1 K2 K3 B5
    obtain ⟨x, hx, rfl, H1, H2, H3, Hb⟩ := hrel
    by_cases hlt : x < d
    · have i1 : (x : Int) < d := by omega
      have i2 : (x : Int) < 3 := by omega
      have i3 : (0 : Int) ≤ x := by omega
      have hy := pim_lt HD.out a x
      have HX := hidd (show (pil d (thN d a b)).getD x 0 = (pim d b (pim d a x) : Int) by
        rw [HT.out.2]; simp [hlt])
      have c1 := (blkc H1.out x).trans (imA_get d a (show x < 3 by omega))
      have hz := pim_lt HD.out b (pim d a x)
      have c2 := (blkc H2.out (pim d a x)).trans (imA_get d b (show pim d a x < 3 by omega))
      have c3 := (blkc H3.out x).trans (lcA_get (pil d (thN d a b)) (show x < 3 by omega))
      have f3 := blkf H3.out x
      obtain ⟨y, hyy⟩ : ∃ y, y = pim d a x := ⟨_, rfl⟩
      rw [← hyy] at hy c1 c2 HX hz
      obtain ⟨z, hzz⟩ : ∃ z, z = pim d b y := ⟨_, rfl⟩
      rw [← hzz] at hz c2 HX
      have i4 : (y : Int) < 3 := by omega
      clear hyy hzz
      go_wp2_with fail
      go_roundw
      case rel =>
        refine ⟨x + 1, by omega, by go_num, hidd (hp_far H1.out (by dsimp only; omega) _), hidd (hp_far H2.out (by dsimp only; omega) _), hidd ?_, hidd (Hb.out.setCell (by dsimp only; omega) _)⟩
        have := hp_set H3.out x (.int .u8 (z : Int))
        have hs := lcA_set (xs := pil d (thN d a b)) (show x < 3 by omega)
        rw [HX.out] at hs
        rw [hs] at this
        exact this
      case measure => first | (simp [intOf]; done) | (simp [intOf]; omega)
    · have he : x = d := by omega
      subst he
      have K := H3.out
      rw [lcA_end HD.out] at K
      have hk := run_load3 K rfl
      clear hlt
      go_wp2_with fail
      refine (l03Number_any x (thN x a b) HD.out HT.out.1 _).mono ?_
      rintro e w3 ⟨rfl, hb⟩
      go_wp2_with fail
      go_ret
      exact ⟨rfl, bel_then (bel_then B2.out Hb.out) hb⟩
end Go.Proofs.Ytecdjmfohcnadaa
