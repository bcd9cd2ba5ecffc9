/- Walks: the classes of equal rows of a word's table, of the reference. -/
import Derived.Test.YtcghcbdefajpgaaRwp
import Derived.Test.YtcghcbdefajpgaaBC
import Derived.ChangeKeysEq
namespace Go.Proofs.Ytcghcbdefajpgaa
open Go.RowKit
set_option linter.unusedSimpArgs false

/-! ### Arrays of three bytes, loaded and compared -/
def load3 (a : Addr) : Sem Value := loadVar 22 a
theorem loadVar_3 (a : Addr) : loadVar 22 a = load3 a := rfl
theorem OwnW.load3 {w : World} {base g n c : Nat} {es : List (List Value)} (h : OwnW w base 22 3 (.slice (some ⟨g, 0, none⟩) n c) es) {q : Nat} {cs : Array Value} (hs : cs.size = 3) (hq : es[q]? = some cs.toList) : (load3 ⟨g, q * 3, none⟩).run Try.prog w = .ok (.agg cs) w := by
  rcases id h.2.2 with ⟨h1, _⟩ | ⟨g', cap, cur, h1, _, hg, hn, hm, hz, _⟩
  · cases h1
  · simp only [Value.slice.injEq, Option.some.injEq, Addr.mk.injEq] at h1
    obtain ⟨⟨rfl, _⟩, _, _⟩ := h1
    have hql : q < es.length := (List.getElem?_eq_some_iff.1 hq).1
    have hlen : q * 3 + 3 ≤ cur.size := by rw [hz]; omega
    have := run_loadVar_at (P := Try.prog) w g (q * 3) 3 22 22 cur (0, 0) _ hg Try.underlying22 rfl (by kernel_rfl) (by omega)
    have e : cur.extract (q * 3) (q * 3 + 3) = cs := by
      apply Array.ext
      · simp; omega
      · intro i h1 h2
        have hc := h.cell (i := i) hq (by rw [Array.getElem?_toList]; exact Array.getElem?_eq_getElem h2)
        rw [blkc hg, Array.getElem?_eq_getElem (by omega)] at hc
        rw [Array.getElem_extract]
        exact Option.some.inj hc
    rw [e] at this
    exact this
attribute [go_sem ↓ high] loadVar_3
theorem run_eq3 (a b c a' b' c' : Int) (w : World) :
    (Op.equalIn 10000 22 (.agg #[.int .u8 a, .int .u8 b, .int .u8 c]) (.agg #[.int .u8 a', .int .u8 b', .int .u8 c'])).run Try.prog w = .ok (decide (a = a' ∧ b = b' ∧ c = c')) w := by
  have hp : Try.prog.plainKey 5 = true := by kernel_rfl
  have hc : Try.prog.cellsOf 5 = 1 := by kernel_rfl
  obtain ⟨i, hi, _⟩ := info_parts info_u8
  have pt : ∀ (xs : Array Value) (k : Nat) (v : Value), xs[k]? = some v → (Go.part 5 xs k).run Try.prog w = .ok v w := fun xs k v h => run_part_plain w hp h
  have eq : ∀ (x y : Int), (Op.equalIn 9999 5 (.int .u8 x) (.int .u8 y)).run Try.prog w = .ok (decide (x = y)) w := fun x y => by
    go_simp
    exact Bool.eq_iff_iff.2 (by simp)
  have p0 : ∀ (x y z : Value), (Go.part 5 #[x, y, z] (0 * 1)).run Try.prog w = .ok x w := fun x y z => pt _ 0 _ rfl
  have p1 : ∀ (x y z : Value), (Go.part 5 #[x, y, z] (1 * 1)).run Try.prog w = .ok y w := fun x y z => pt _ 1 _ rfl
  have p2 : ∀ (x y z : Value), (Go.part 5 #[x, y, z] (2 * 1)).run Try.prog w = .ok z w := fun x y z => pt _ 2 _ rfl
  rw [run_equalIn_array w 9999 _ _ Try.underlying22 hi, hc]
  show (Op.eqItems 9999 5 1 _ _ [0, 1, 2]).run Try.prog w = _
  simp only [Op.eqItems, Sem.run_bind, p0, p1, p2, eq, Result.andThen_ok]
  by_cases ha : a = a'
  · by_cases hb : b = b'
    · by_cases hc : c = c'
      · simp [ha, hb, hc, p0, p1, p2, eq, Sem.run_bind]
      · simp [ha, hb, hc, p0, p1, p2, eq, Sem.run_bind]
    · simp [ha, hb, p0, p1, p2, eq, Sem.run_bind]
  · simp [ha]

/-! ### Plain -/
/-- Something has turned in a round, up to q. -/
def chB (g : Gm) (k q : Nat) : Bool := (List.range q).any fun p => !decide (g.cl (k + 1) p = g.cl k p)
theorem chB_succ (g : Gm) (k q : Nat) : chB g k (q + 1) = (chB g k q || !decide (g.cl (k + 1) q = g.cl k q)) := by simp [chB, List.range_succ]
theorem chB_no {g : Gm} {k q : Nat} (h : chB g k q = false) : ∀ p, p < q → g.cl (k + 1) p = g.cl k p := fun p hp => by
  unfold chB at h
  rw [List.any_eq_false] at h
  have := h p (List.mem_range.2 hp)
  simpa using this
theorem chB_lst {g : Gm} (hok : g.Tb) {k : Nat} (h : chB g k g.s = false) : ivL g.lst g.s = ivL (g.cl (k + 1)) g.s := by
  unfold ivL
  refine List.map_congr_left fun q hq => ?_
  have hq' := List.mem_range.1 hq
  have := lst_of_stands g.s g.oeE k (chB_no h) hok.nlt q hq'
  have h2 := chB_no h q hq'
  show ((g.lst q : Nat) : Int) = (g.cl (k + 1) q : Nat)
  rw [h2, show g.cl k q = g.lst q from this]
theorem chB_more {g : Gm} (hok : g.Tb) {k : Nat} (hk : k ≤ g.s) (h : chB g k g.s = true) : k + 1 ≤ g.s := by
  rcases Nat.lt_or_ge k g.s with h1 | h1
  · exact h1
  · exfalso
    obtain rfl : k = g.s := by omega
    have h2 := cl_stands g.s g.oeE hok.nlt
    unfold chB at h
    rw [List.any_eq_true] at h
    obtain ⟨p, hp, hn⟩ := h
    have := h2 p (List.mem_range.1 hp)
    have h3 : g.cl (g.s + 1) p = g.cl g.s p := this
    rw [h3] at hn
    simp at hn
/-- Two rows answer alike at the first x letters. -/
def liB (g : Gm) (r i k x : Nat) : Bool := g.oe i k && (List.range x).all fun y => decide (g.cl r (g.nx i y) = g.cl r (g.nx k y))
theorem liB_zero (g : Gm) (r i k : Nat) : liB g r i k 0 = g.oe i k := by simp [liB]
theorem liB_succ (g : Gm) (r i k x : Nat) : liB g r i k (x + 1) = (liB g r i k x && decide (g.cl r (g.nx i x) = g.cl r (g.nx k x))) := by simp [liB, List.range_succ, Bool.and_assoc]
theorem cl_first (g : Gm) (r i : Nat) : g.cl (r + 1) i = first (fun k => liB g r i k g.l) i := rnd_plain g.oeE r i
theorem cl_hit {g : Gm} {r i k : Nat} (hk : k < i) (h : liB g r i k g.l = true) (hn : ∀ j, j < k → liB g r i j g.l = false) : g.cl (r + 1) i = k := by
  rw [cl_first]; exact first_eq (by omega) (fun _ => h) hn
theorem cl_miss {g : Gm} {r i : Nat} (hn : ∀ j, j < i → liB g r i j g.l = false) : g.cl (r + 1) i = i := by
  rw [cl_first]; exact first_eq (Nat.le_refl _) (fun h => absurd h (Nat.lt_irrefl _)) hn
/-- The list under way: done below i, t at i. -/
def clP (g : Gm) (r i t : Nat) : Nat → Nat := fun j => if j < i then g.cl (r + 1) j else if j = i then t else 0
theorem clP_set (g : Gm) (r i t : Nat) : updN (clP g r i t) i (g.cl (r + 1) i) = fun j => if j < i + 1 then g.cl (r + 1) j else 0 := by
  funext j
  unfold updN clP
  by_cases e : j = i
  · subst e; simp
  · simp only [if_neg e]
    by_cases h : j < i
    · rw [if_pos h, if_pos (by omega)]
    · rw [if_neg h, if_neg (by omega)]
theorem oe_rows (g : Gm) {W R : List (List Int)} {q r : Nat} (l2 : 2 ≤ g.l) (l3 : g.l ≤ 3) : decide (oF g (W.getD q []) g.l 0 = oF g (W.getD r []) g.l 0 ∧ oF g (W.getD q []) g.l 1 = oF g (W.getD r []) g.l 1 ∧ oF g (W.getD q []) g.l 2 = oF g (W.getD r []) g.l 2) = (g.sT W R).oe q r := by
  rw [Bool.eq_iff_iff, decide_eq_true_iff, Gm.oe_iff]
  have e : ∀ p x, (g.sT W R).ou p x = g.im (W.getD p []) x := fun _ _ => rfl
  have el : (g.sT W R).l = g.l := rfl
  rw [el]
  unfold oF
  constructor
  · rintro ⟨h0, h1, h2⟩ x hx
    rw [e, e]
    have hx3 : x = 0 ∨ x = 1 ∨ x = 2 := by omega
    rcases hx3 with rfl | rfl | rfl
    · rw [if_pos hx, if_pos hx] at h0; omega
    · rw [if_pos hx, if_pos hx] at h1; omega
    · rw [if_pos hx, if_pos hx] at h2; omega
  · intro h
    refine ⟨?_, ?_, ?_⟩
    · by_cases hx : 0 < g.l
      · rw [if_pos hx, if_pos hx]; have := h 0 hx; rw [e, e] at this; omega
      · rw [if_neg hx, if_neg hx]
    · by_cases hx : 1 < g.l
      · rw [if_pos hx, if_pos hx]; have := h 1 hx; rw [e, e] at this; omega
      · rw [if_neg hx, if_neg hx]
    · by_cases hx : 2 < g.l
      · rw [if_pos hx, if_pos hx]; have := h 2 hx; rw [e, e] at this; omega
      · rw [if_neg hx, if_neg hx]
theorem ints_ivL_set (f : Nat → Nat) (n i t : Nat) : (ints (ivL f n)).set i (.int .i64 (t : Nat)) = ints (ivL (updN f i t) n) := by
  have := congrArg Array.toList (iv_set f n i t)
  rw [ivL_ints, ivL_ints, ← this]
  simp
theorem ivL_get? (C : Nat → Nat) {n j : Nat} (h : j < n) : (ints (ivL C n))[j]? = some (.int .i64 (C j : Nat)) := by
  rw [ints_get, List.getElem?_eq_getElem (by rw [ivL_len]; exact h), ivL_get _ h]; rfl
theorem ints_zero (f : Nat → Nat) (n : Nat) (h : ∀ j, f j = 0) : ints (ivL f n) = List.replicate n (.int .i64 0) := by
  apply List.ext_getElem?
  intro j
  rw [List.getElem?_replicate]
  by_cases hj : j < n
  · rw [if_pos hj, ivL_get? _ hj, h j]; rfl
  · rw [if_neg hj]
    exact List.getElem?_eq_none (by rw [ints_length, ivL_len]; omega)
theorem ivL_congr {C C' : Nat → Nat} {n : Nat} (h : ∀ j, j < n → C j = C' j) : ivL C n = ivL C' n := List.map_congr_left fun j hj => by rw [h j (List.mem_range.1 hj)]
theorem run_eqO {g : Gm} {W R : List (List Int)} (l2 : 2 ≤ g.l) (l3 : g.l ≤ 3) (q r : Nat) (w : World) : (Op.equalIn 10000 22 (.agg (a3 .u8 (oF g (W.getD q []) g.l))) (.agg (a3 .u8 (oF g (W.getD r []) g.l)))).run Try.prog w = .ok ((g.sT W R).oe q r) w := by
  rw [← oe_rows g l2 l3]
  exact run_eq3 _ _ _ _ _ _ w

set_option maxRecDepth 100000 in
set_option maxHeartbeats 4000000 in
theorem l02Split_any (g : Gm) (hok : g.Ok) {L : Nat} {W R : List (List Int)} (hS : g.SecOk L W R) (vo vn : Value) (Bo : Nat) (w : World) (ho : OwnW w Bo 22 3 vo (W.map (oR g))) (hn : OwnW w Bo 102 3 vn (R.map nR)) :
    Calls Try.prog 60 #[.int .i64 (g.l : Nat), vo, vn] w fun e w' => (∃ a, e = .returned a ∧ Own w' w.heap.size 2 a (ints (ivL (g.sT W R).lst (g.sT W R).s))) ∧ Below w.heap.size w w' := by
  have HTb := hidd (Gm.sT_tb hok hS)
  have l2 := hok.l2
  have l3 := hok.l3
  have hp := hS.pos
  have h200 := hS.le
  have hRl := hS.grf.1
  have HE := hidd (fun q r W' => run_eqO (W := W) (R := R) l2 l3 q r W')
  obtain ⟨bo, co, hvo, _, hbo⟩ := ho.form (by rw [List.length_map]; exact hp)
  obtain ⟨bn, cn, hvn, _, hbn⟩ := hn.form (by rw [List.length_map, hRl]; exact hp)
  rw [List.length_map] at hvo
  rw [List.length_map, hRl] at hvn
  subst hvo hvn
  have HX3 := hidd (fun W' (hb : Below w.heap.size w W') q (hq : q < W.length) => (ho.below hb).load3 (cs := a3 .u8 (oF g (W.getD q []) g.l)) rfl (by rw [List.getElem?_map, List.getElem?_eq_getElem hq, List.getD_eq_getElem?_getD, List.getElem?_eq_getElem hq]; rfl))
  have HXN := hidd (fun W' (hb : Below w.heap.size w W') q x (hq : q < W.length) (hx : x < g.l) => show W'.cell? ⟨bn, q * 3 + x, none⟩ = some (.int .i64 ((g.sT W R).nx q x : Nat)) by
    have hqR : q < R.length := by rw [hRl]; exact hq
    obtain ⟨z, hz, _⟩ := (hS.grf.2 q hq).2 x hx
    have h := (hn.below hb).cell (j := q) (i := x) (cs := nR (R.getD q [])) (x := .int .i64 ((R.getD q []).getD x 0)) (by rw [List.getElem?_map, List.getElem?_eq_getElem hqR, List.getD_eq_getElem?_getD, List.getElem?_eq_getElem hqR]; rfl) (a3_getL _ _ (by omega))
    rw [h]
    show some (Value.int .i64 _) = some (Value.int .i64 (((R.getD q []).getD x 0).toNat : Nat))
    rw [hz, Int.toNat_natCast])
  have HNl := hidd (fun q x (hq : q < W.length) (hx : x < g.l) => HTb.out.nlt q x hq hx)
  obtain ⟨K, hK⟩ : ∃ K, K = g.sT W R := ⟨_, rfl⟩
  have HKs := hidd (show K.s = W.length by rw [hK]; rfl)
  have HKl := hidd (show K.l = g.l by rw [hK]; rfl)
  simp only [← hK] at HXN HE HNl HTb ⊢
  rw [HKs.out]

  obtain ⟨n, hnn⟩ : ∃ n, n = W.length := ⟨_, rfl⟩
  simp only [← hnn] at HX3 HXN hp h200 HKs HNl ⊢
  clear hS ho hn hRl hK hnn hok
  go_enter Try.func60, Try.ntmps60
  go_wp2_with (at_make; refine mk_own rfl _ _ _ rfl w.heap.size 2 (.int .i64 0) 8 Try.underlying26 info_i64 rfl n rfl rfl (by omega) (by omega) (Nat.le_refl _) ?_; intro w1 ho hg hlt1; have HC0 := hidd (show Own w1 w.heap.size 2 (.slice (some ⟨w.heap.size, 0, none⟩) n n) (ints (ivL (K.cl 0) n)) by rw [ints_zero (K.cl 0) n (fun _ => rfl)]; exact ho); have Bel := hidd ((Below.refl w.heap.size w).grown hg (Nat.le_refl _) (fun k hk => by cases hk)); clear ho hg)
  go_loopg [7, 8] (n + 1) (fun gk c b wr => ∃ (r : Nat) (fl : Bool), b = .bool fl ∧ (fl = true → r ≤ n ∧ n + 1 - r ≤ gk) ∧ Hid (fl = false → ivL K.lst n = ivL (K.cl r) n) ∧ Hid (Own wr w.heap.size 2 c (ints (ivL (K.cl r) n))) ∧ Hid (Below w.heap.size w wr))
  case atStart => exact ⟨0, true, rfl, fun _ => ⟨Nat.zero_le _, by omega⟩, hidd (fun h => by cases h), HC0, Bel⟩
  case round =>
    clear HC0 Bel
    obtain ⟨r, fl, rfl, hfl, HF, HC, Hb⟩ := hrel
    obtain ⟨Ac, cc, hce⟩ := HC.out.slice
    rw [ints_length, ivL_len] at hce
    subst hce
    cases fl with
    | false =>
      have HF2 := hidd (HF.out rfl)
      clear hfl HF
      go_wp2_with fail
      go_ret
      exact ⟨⟨_, rfl, by rw [HF2.out]; exact HC.out⟩, Hb.out⟩
    | true =>
      obtain ⟨hrn, hgk⟩ := hfl rfl
      clear hfl HF
      obtain ⟨wb, rfl⟩ : ∃ wb, wb = wr := ⟨_, rfl⟩
      go_wp2_with (at_make; refine mk_own rfl _ _ _ rfl wb.heap.size 2 (.int .i64 0) 8 Try.underlying26 info_i64 rfl n rfl rfl (by omega) (by omega) (Nat.le_refl _) ?_; intro w2 ho hg hlt2; have HN0 := hidd (show Own w2 wb.heap.size 2 (.slice (some ⟨wb.heap.size, 0, none⟩) n n) (ints (ivL (fun j => if j < 0 then K.cl (r + 1) j else 0) n)) by rw [ints_zero _ n (fun j => if_neg (Nat.not_lt_zero j))]; exact ho); have Bel := hidd ((Below.refl wb.heap.size wb).grown hg (Nat.le_refl _) (fun k hk => by cases hk)); clear ho hg hlt2)
      go_loopw [8, 10] (fun b y wr => ∃ i : Nat, y = .int .i64 i ∧ i ≤ n ∧ b = .bool (chB K r i) ∧ Hid (Own wr wb.heap.size 2 (.slice (some ⟨wb.heap.size, 0, none⟩) n n) (ints (ivL (fun j => if j < i then K.cl (r + 1) j else 0) n))) ∧ Hid (Below wb.heap.size wb wr)) (fun _ y _ => n - (intOf y).toNat)
      case atStart => exact ⟨0, rfl, Nat.zero_le _, rfl, HN0, Bel⟩
      case round =>
        clear HN0 Bel
        obtain ⟨i, rfl, hi, rfl, HN, Hq⟩ := hrel
        by_cases hin : i < n
        · have i1 : (i : Int) < n := by omega
          have i0 : (0 : Int) ≤ i := by omega
          have d1 := HN.out.cell (ivL_get? _ hin)
          have d2 := HN.out.frozen i
          have HN3 := hidd (by have h := HN.out.store i (.int .i64 (i : Nat)); rw [ints_ivL_set] at h; exact h)
          have HN4 := hidd (show Own (wr.setCell ⟨wb.heap.size, i, none⟩ (.int .i64 (i : Nat))) wb.heap.size 2 (.slice (some ⟨wb.heap.size, 0, none⟩) n n) (ints (ivL (clP K r i i) n)) by
            have h := HN3.out
            rwa [ivL_congr (C' := clP K r i i) fun j _ => by
              unfold updN clP
              by_cases e : j = i
              · subst e; simp
              · simp [e]] at h)
          have Hq3 := hidd (Hq.out.setCell (p := ⟨wb.heap.size, i, none⟩) (Nat.le_refl _) (.int .i64 (i : Nat)))
          obtain ⟨w3, hw3⟩ : ∃ w3, w3 = wr.setCell ⟨wb.heap.size, i, none⟩ (.int .i64 (i : Nat)) := ⟨_, rfl⟩
          rw [← hw3] at HN4 Hq3
          clear HN3 HN Hq
          go_wp2_with fail
          rw [← hw3]
          clear hw3 d1 d2
          go_loopw [11] (fun y wr => ∃ k : Nat, y = .int .i64 k ∧ k ≤ i ∧ Hid (∀ j, j < k → liB K r i j K.l = false) ∧ Hid (Own wr wb.heap.size 2 (.slice (some ⟨wb.heap.size, 0, none⟩) n n) (ints (ivL (clP K r i i) n))) ∧ Hid (Below wb.heap.size wb wr)) (fun y _ => i - (intOf y).toNat)
          case atStart => exact ⟨0, rfl, Nat.zero_le _, hidd (fun j hj => absurd hj (Nat.not_lt_zero _)), HN4, Hq3⟩
          case round =>
            clear HN4 Hq3
            obtain ⟨k, rfl, hk, HM, HN, Hq⟩ := hrel
            by_cases hki : k < i
            · have k1 : (k : Int) < i := by omega
              have k0 : (0 : Int) ≤ k := by omega
              have k2 : (k : Int) < n := by omega
              have hkn : k < n := by omega
              have HLi := hidd (liB_zero K r i k)
              have HE3 := hidd (fun W' => HE.out i k W')
              obtain ⟨sm, hsm⟩ : ∃ sm, sm = K.oe i k := ⟨_, rfl⟩
              simp only [← hsm] at HE3
              rw [← hsm] at HLi
              have HXi := hidd (fun W' hb => HX3.out W' hb i hin)
              have HXk := hidd (fun W' hb => HX3.out W' hb k hkn)
              obtain ⟨Ai, hAi⟩ : ∃ Ai, Ai = oF g (W.getD i []) g.l := ⟨_, rfl⟩
              obtain ⟨Ak, hAk⟩ : ∃ Ak, Ak = oF g (W.getD k []) g.l := ⟨_, rfl⟩
              simp only [← hAi, ← hAk] at HE3 HXi HXk
              clear hsm hAi hAk
              go_wp2_with fail
              have S0 := hidd (show Below w.heap.size w wr.drew from bel_drewN (bel_then Hb.out Hq.out) 1)
              refine wp_region_held (S := fun w' => Below w.heap.size w w') (by kernel_rfl) ?_
              change wpAnyH _ _ _ _ _ _ _ _ (World.drew _)
              refine wpAnyH_take (i := 0) (v := ?v0) rfl (by kernel_rfl) (by kernel_rfl) (by kernel_rfl) (fun _ _ _ h => h) (Or.inl ⟨by rfl, ?h0⟩) S0.out ?_
              case h0 => (intro w4 hS; have x1 := HXi.out w4 hS; have x2 := HXk.out w4 hS; have x3 := HE3.out w4; clear hS; go_simp; first | done | with_reducible rfl)
              simp only [Act.put, List.getElem_toArray, List.getElem_cons_succ, List.getElem_cons_zero, List.setIfInBounds_toArray, List.set_cons_zero, List.set_cons_succ]
              refine wpAnyH_take (i := 1) (v := ?v1) rfl (by kernel_rfl) (by kernel_rfl) (by kernel_rfl) (fun _ _ _ h => h) (Or.inl ⟨by rfl, ?h1⟩) S0.out ?_
              case h1 => (intro w4 hS; have x1 := HXi.out w4 hS; have x2 := HXk.out w4 hS; have x3 := HE3.out w4; clear hS; go_simp; first | done | with_reducible rfl)
              simp only [Act.put, List.getElem_toArray, List.getElem_cons_succ, List.getElem_cons_zero, List.setIfInBounds_toArray, List.set_cons_zero, List.set_cons_succ]
              refine wpAnyH_take (i := 2) (v := ?v2) rfl (by kernel_rfl) (by kernel_rfl) (by kernel_rfl) (fun _ _ _ h => h) (Or.inl ⟨by rfl, ?h2⟩) S0.out ?_
              case h2 => (intro w4 hS; have x1 := HXi.out w4 hS; have x2 := HXk.out w4 hS; have x3 := HE3.out w4; clear hS; go_simp; first | done | with_reducible rfl)
              simp only [Act.put, List.getElem_toArray, List.getElem_cons_succ, List.getElem_cons_zero, List.setIfInBounds_toArray, List.set_cons_zero, List.set_cons_succ]
              refine wpAnyH_take (i := 3) (v := ?v3) rfl (by kernel_rfl) (by kernel_rfl) (by kernel_rfl) (fun _ _ _ h => h) (Or.inl ⟨by rfl, ?h3⟩) S0.out ?_
              case h3 => (intro w4 hS; have x1 := HXi.out w4 hS; have x2 := HXk.out w4 hS; have x3 := HE3.out w4; clear hS; go_simp; first | done | with_reducible rfl)
              simp only [Act.put, List.getElem_toArray, List.getElem_cons_succ, List.getElem_cons_zero, List.setIfInBounds_toArray, List.set_cons_zero, List.set_cons_succ]
              refine wpAnyH_take (i := 4) (v := ?v4) rfl (by kernel_rfl) (by kernel_rfl) (by kernel_rfl) (fun _ _ _ h => h) (Or.inl ⟨by rfl, ?h4⟩) S0.out ?_
              case h4 => (intro w4 hS; have x1 := HXi.out w4 hS; have x2 := HXk.out w4 hS; have x3 := HE3.out w4; clear hS; go_simp; first | done | with_reducible rfl)
              simp only [Act.put, List.getElem_toArray, List.getElem_cons_succ, List.getElem_cons_zero, List.setIfInBounds_toArray, List.set_cons_zero, List.set_cons_succ]
              refine wpAnyH_take (i := 5) (v := ?v5) rfl (by kernel_rfl) (by kernel_rfl) (by kernel_rfl) (fun _ _ _ h => h) (Or.inl ⟨by rfl, ?h5⟩) S0.out ?_
              case h5 => (intro w4 hS; have x1 := HXi.out w4 hS; have x2 := HXk.out w4 hS; have x3 := HE3.out w4; clear hS; go_simp; first | done | with_reducible rfl)
              simp only [Act.put, List.getElem_toArray, List.getElem_cons_succ, List.getElem_cons_zero, List.setIfInBounds_toArray, List.set_cons_zero, List.set_cons_succ]
              refine wpAnyH_take (i := 6) (v := ?v6) rfl (by kernel_rfl) (by kernel_rfl) (by kernel_rfl) (fun _ _ _ h => h) (Or.inl ⟨by rfl, ?h6⟩) S0.out ?_
              case h6 => (intro w4 hS; have x1 := HXi.out w4 hS; have x2 := HXk.out w4 hS; have x3 := HE3.out w4; clear hS; go_simp; first | done | with_reducible rfl)
              simp only [Act.put, List.getElem_toArray, List.getElem_cons_succ, List.getElem_cons_zero, List.setIfInBounds_toArray, List.set_cons_zero, List.set_cons_succ]
              refine wpAnyH_take (i := 7) (v := ?v7) rfl (by kernel_rfl) (by kernel_rfl) (by kernel_rfl) (fun _ _ _ h => h) (Or.inl ⟨by rfl, ?h7⟩) S0.out ?_
              case h7 => (intro w4 hS; have x1 := HXi.out w4 hS; have x2 := HXk.out w4 hS; have x3 := HE3.out w4; clear hS; go_simp; first | done | with_reducible rfl)
              simp only [Act.put, List.getElem_toArray, List.getElem_cons_succ, List.getElem_cons_zero, List.setIfInBounds_toArray, List.set_cons_zero, List.set_cons_succ]
              refine wpAnyH_take (i := 8) (v := ?v8) rfl (by kernel_rfl) (by kernel_rfl) (by kernel_rfl) (fun _ _ _ h => h) (Or.inl ⟨by rfl, ?h8⟩) S0.out ?_
              case h8 => (intro w4 hS; have x1 := HXi.out w4 hS; have x2 := HXk.out w4 hS; have x3 := HE3.out w4; clear hS; go_simp; first | done | with_reducible rfl)
              simp only [Act.put, List.getElem_toArray, List.getElem_cons_succ, List.getElem_cons_zero, List.setIfInBounds_toArray, List.set_cons_zero, List.set_cons_succ]
              refine wpAnyH_take (i := 9) (v := ?v9) rfl (by kernel_rfl) (by kernel_rfl) (by kernel_rfl) (fun _ _ _ h => h) (Or.inl ⟨by rfl, ?h9⟩) S0.out ?_
              case h9 => (intro w4 hS; have x1 := HXi.out w4 hS; have x2 := HXk.out w4 hS; have x3 := HE3.out w4; clear hS; go_simp; first | done | with_reducible rfl)
              simp only [Act.put, List.getElem_toArray, List.getElem_cons_succ, List.getElem_cons_zero, List.setIfInBounds_toArray, List.set_cons_zero, List.set_cons_succ]
              refine wpAnyH_done (by kernel_rfl) ?_ _
              have HN5 := hidd (HN.out.below (drew_bel wr))
              have Hq5 := hidd (bel_drewN Hq.out 1)
              obtain ⟨wd, hwd⟩ : ∃ wd, wd = wr.drew := ⟨_, rfl⟩
              have HN6 : Hid (Own wd wb.heap.size 2 (.slice (some ⟨wb.heap.size, 0, none⟩) n n) (ints (ivL (clP K r i i) n))) := hidd (by rw [hwd]; exact HN5.out)
              have Hq6 : Hid (Below wb.heap.size wb wd) := hidd (by rw [hwd]; exact Hq5.out)
              rw [← hwd]
              have HS0 : Hid (sm = liB K r i k 0) := hidd HLi.out.symm
              clear hwd HN5 Hq5 S0 HE3 HXi HXk HN Hq HLi
              go_wp2_with fail
              go_loopw [12, 13] (fun b y wr => ∃ x : Nat, y = .int .i64 x ∧ x ≤ g.l ∧ b = .bool (liB K r i k x) ∧ Hid (Own wr wb.heap.size 2 (.slice (some ⟨wb.heap.size, 0, none⟩) n n) (ints (ivL (clP K r i i) n))) ∧ Hid (Below wb.heap.size wb wr)) (fun _ y _ => g.l - (intOf y).toNat)
              case atStart => exact ⟨0, rfl, Nat.zero_le _, by rw [HS0.out], HN6, Hq6⟩
              case round =>
                clear HN6 Hq6 HS0
                obtain ⟨x, rfl, hx, rfl, HN, Hq⟩ := hrel
                by_cases hxl : x < g.l
                · have k3 : (x : Int) < g.l := by omega
                  have k4 : (0 : Int) ≤ x := by omega
                  have k5 : (x : Int) < 3 := by omega
                  have HLs := hidd (liB_succ K r i k x)
                  cases hsm : liB K r i k x with
                  | false =>
                    have HLt := hidd (show liB K r i k (x + 1) = false by rw [HLs.out, hsm]; rfl)
                    clear hsm
                    go_wp2_with fail
                    go_quiet (fail)
                    go_wp2_with fail
                    go_roundw
                    case rel => exact ⟨x + 1, by go_num, by omega, by rw [HLt.out], hidd (HN.out.below (bel_drewN (Below.refl _ _) _)), hidd (bel_drewN Hq.out _)⟩
                    case measure => first | (simp [intOf]; done) | (simp [intOf]; omega)
                  | true =>
                    have HLt := hidd (show liB K r i k (x + 1) = decide (K.cl r (K.nx i x) = K.cl r (K.nx k x)) by rw [HLs.out, hsm]; rfl)
                    have hbw := bel_then Hb.out Hq.out
                    have y1 := HXN.out wr hbw i x hin hxl
                    have y2 := HXN.out wr hbw k x hkn hxl
                    have z1 := HNl.out i x hin hxl
                    have z2 := HNl.out k x hkn hxl
                    rw [HKs.out] at z1 z2
                    obtain ⟨bc, oc, hAc, hc1⟩ := (HC.out.rd.2.below Hq.out).at_ (ivL_get? (K.cl r) z1)
                    subst hAc
                    obtain ⟨bc2, oc2, hAc2, hc2⟩ := (HC.out.rd.2.below Hq.out).at_ (ivL_get? (K.cl r) z2)
                    cases hAc2
                    obtain ⟨p, hpe⟩ : ∃ p, p = K.nx i x := ⟨_, rfl⟩
                    obtain ⟨q, hqe⟩ : ∃ q, q = K.nx k x := ⟨_, rfl⟩
                    rw [← hpe] at y1 z1 hc1 HLt
                    rw [← hqe] at y2 z2 hc2 HLt
                    have z3 : (p : Int) < n := by omega
                    have z4 : (q : Int) < n := by omega
                    have z5 : (0 : Int) ≤ p := by omega
                    have z6 : (0 : Int) ≤ q := by omega
                    clear hsm hbw hpe hqe HLs
                    by_cases heq : K.cl r p = K.cl r q
                    · have hd : ((K.cl r p : Int) == (K.cl r q : Int)) = true := beq_iff_eq.2 (by omega)
                      have HLu := hidd (show liB K r i k (x + 1) = true by rw [HLt.out, decide_eq_true heq])
                      clear heq
                      go_wp2_with fail
                      go_quiet (fail)
                      go_wp2_with fail
                      go_roundw
                      case rel => exact ⟨x + 1, by go_num, by omega, by rw [HLu.out], hidd (HN.out.below (bel_drewN (Below.refl _ _) _)), hidd (bel_drewN Hq.out _)⟩
                      case measure => first | (simp [intOf]; done) | (simp [intOf]; omega)
                    · have hd : ((K.cl r p : Int) == (K.cl r q : Int)) = false := beq_eq_false_iff_ne.2 (by omega)
                      have HLu := hidd (show liB K r i k (x + 1) = false by rw [HLt.out, decide_eq_false heq])
                      clear heq
                      go_wp2_with fail
                      go_quiet (fail)
                      go_wp2_with fail
                      go_roundw
                      case rel => exact ⟨x + 1, by go_num, by omega, by rw [HLu.out], hidd (HN.out.below (bel_drewN (Below.refl _ _) _)), hidd (bel_drewN Hq.out _)⟩
                      case measure => first | (simp [intOf]; done) | (simp [intOf]; omega)
                · have he : x = g.l := by omega
                  subst he
                  have HKl2 := hidd (show liB K r i k K.l = liB K r i k g.l by rw [HKl.out])
                  cases hsm : liB K r i k g.l with
                  | false =>
                    have HM2 := hidd (show ∀ j, j < k + 1 → liB K r i j K.l = false from fun j hj => by
                      by_cases e : j = k
                      · rw [e, HKl2.out, hsm]
                      · exact HM.out j (by omega))
                    clear hsm hxl
                    go_wp2_with fail
                    go_roundw
                    case rel => exact ⟨k + 1, by go_num, by omega, HM2, HN, Hq⟩
                    case measure => first | (simp [intOf]; done) | (simp [intOf]; omega)
                  | true =>
                    have HR := hidd (cl_hit hki (by rw [HKl2.out, hsm]) HM.out)
                    have d1 := HN.out.cell (ivL_get? _ hin)
                    have d2 := HN.out.frozen i
                    have HN5 := hidd (show Own (wr.setCell ⟨wb.heap.size, i, none⟩ (.int .i64 (k : Nat))) wb.heap.size 2 (.slice (some ⟨wb.heap.size, 0, none⟩) n n) (ints (ivL (fun j => if j < i + 1 then K.cl (r + 1) j else 0) n)) by
                      have h := HN.out.store i (.int .i64 (k : Nat))
                      have e := clP_set K r i i
                      rw [HR.out] at e
                      rwa [ints_ivL_set, e] at h)
                    have Hq5 := hidd (Hq.out.setCell (p := ⟨wb.heap.size, i, none⟩) (Nat.le_refl _) (.int .i64 (k : Nat)))
                    obtain ⟨w7, hw7⟩ : ∃ w7, w7 = wr.setCell ⟨wb.heap.size, i, none⟩ (.int .i64 (k : Nat)) := ⟨_, rfl⟩
                    rw [← hw7] at HN5 Hq5
                    have e1 : w7.cell? ⟨wb.heap.size, i, none⟩ = some (.int .i64 (K.cl (r + 1) i : Nat)) := by
                      have h := HN5.out.cell (ivL_get? _ hin)
                      rwa [if_pos (by omega)] at h
                    obtain ⟨bc, oc, hAc, hcc⟩ := (HC.out.rd.2.below Hq5.out).at_ (ivL_get? _ hin)
                    subst hAc
                    clear hsm hxl
                    go_wp2_with fail
                    rw [← hw7]
                    clear hw7 d1 d2
                    cases hch : chB K r i with
                    | true =>
                      have HCh := hidd (show chB K r (i + 1) = true by rw [chB_succ, hch]; rfl)
                      clear hch
                      go_wp2_with fail
                      go_quiet (fail)
                      go_wp2_with fail
                      go_roundw
                      case rel => exact ⟨i + 1, by go_num, by omega, by rw [HCh.out], hidd (Own.below HN5.out (bel_drewN (Below.refl _ _) _)), hidd (bel_drewN Hq5.out _)⟩
                      case measure => first | (simp [intOf]; done) | (simp [intOf]; omega)
                    | false =>
                      have HCh := hidd (show chB K r (i + 1) = !decide (K.cl (r + 1) i = K.cl r i) by rw [chB_succ, hch]; rfl)
                      clear hch
                      by_cases heq : K.cl (r + 1) i = K.cl r i
                      · have hd : ((K.cl (r + 1) i : Int) != (K.cl r i : Int)) = false := by simp [heq]
                        have HCh2 := hidd (show chB K r (i + 1) = false by rw [HCh.out, decide_eq_true heq]; rfl)
                        clear heq
                        go_wp2_with fail
                        go_quiet (fail)
                        go_wp2_with fail
                        go_roundw
                        case rel => exact ⟨i + 1, by go_num, by omega, by rw [HCh2.out], hidd (Own.below HN5.out (bel_drewN (Below.refl _ _) _)), hidd (bel_drewN Hq5.out _)⟩
                        case measure => first | (simp [intOf]; done) | (simp [intOf]; omega)
                      · have hd : ((K.cl (r + 1) i : Int) != (K.cl r i : Int)) = true := by simp; omega
                        have HCh2 := hidd (show chB K r (i + 1) = true by rw [HCh.out, decide_eq_false heq]; rfl)
                        clear heq
                        go_wp2_with fail
                        go_quiet (fail)
                        go_wp2_with fail
                        go_roundw
                        case rel => exact ⟨i + 1, by go_num, by omega, by rw [HCh2.out], hidd (Own.below HN5.out (bel_drewN (Below.refl _ _) _)), hidd (bel_drewN Hq5.out _)⟩
                        case measure => first | (simp [intOf]; done) | (simp [intOf]; omega)
            · have he : i = k := by omega
              subst he
              have HR := hidd (cl_miss HM.out)
              have HN5 := hidd (show Own wr wb.heap.size 2 (.slice (some ⟨wb.heap.size, 0, none⟩) n n) (ints (ivL (fun j => if j < i + 1 then K.cl (r + 1) j else 0) n)) by
                have h := HN.out
                rwa [ivL_congr (C' := fun j => if j < i + 1 then K.cl (r + 1) j else 0) fun j _ => by
                  have e := congrFun (clP_set K r i i) j
                  rw [HR.out] at e
                  unfold updN at e
                  rw [← e]
                  by_cases e2 : j = i
                  · subst e2; simp [clP]
                  · simp [e2]] at h)
              have e1 : wr.cell? ⟨wb.heap.size, i, none⟩ = some (.int .i64 (K.cl (r + 1) i : Nat)) := by
                have h := HN5.out.cell (ivL_get? _ hin)
                rwa [if_pos (by omega)] at h
              obtain ⟨bc, oc, hAc, hcc⟩ := (HC.out.rd.2.below Hq.out).at_ (ivL_get? _ hin)
              subst hAc
              cases hch : chB K r i with
              | true =>
                have HCh := hidd (show chB K r (i + 1) = true by rw [chB_succ, hch]; rfl)
                clear hch
                go_wp2_with fail
                go_quiet (fail)
                go_wp2_with fail
                go_roundw
                case rel => exact ⟨i + 1, by go_num, by omega, by rw [HCh.out], hidd (Own.below HN5.out (bel_drewN (Below.refl _ _) _)), hidd (bel_drewN Hq.out _)⟩
                case measure => first | (simp [intOf]; done) | (simp [intOf]; omega)
              | false =>
                have HCh := hidd (show chB K r (i + 1) = !decide (K.cl (r + 1) i = K.cl r i) by rw [chB_succ, hch]; rfl)
                clear hch
                by_cases heq : K.cl (r + 1) i = K.cl r i
                · have hd : ((K.cl (r + 1) i : Int) != (K.cl r i : Int)) = false := by simp [heq]
                  have HCh2 := hidd (show chB K r (i + 1) = false by rw [HCh.out, decide_eq_true heq]; rfl)
                  clear heq
                  go_wp2_with fail
                  go_quiet (fail)
                  go_wp2_with fail
                  go_roundw
                  case rel => exact ⟨i + 1, by go_num, by omega, by rw [HCh2.out], hidd (Own.below HN5.out (bel_drewN (Below.refl _ _) _)), hidd (bel_drewN Hq.out _)⟩
                  case measure => first | (simp [intOf]; done) | (simp [intOf]; omega)
                · have hd : ((K.cl (r + 1) i : Int) != (K.cl r i : Int)) = true := by simp; omega
                  have HCh2 := hidd (show chB K r (i + 1) = true by rw [HCh.out, decide_eq_false heq]; rfl)
                  clear heq
                  go_wp2_with fail
                  go_quiet (fail)
                  go_wp2_with fail
                  go_roundw
                  case rel => exact ⟨i + 1, by go_num, by omega, by rw [HCh2.out], hidd (Own.below HN5.out (bel_drewN (Below.refl _ _) _)), hidd (bel_drewN Hq.out _)⟩
                  case measure => first | (simp [intOf]; done) | (simp [intOf]; omega)
        · have he : n = i := by omega
          subst he
          have HN5 := hidd (show Own wr w.heap.size 2 (.slice (some ⟨wb.heap.size, 0, none⟩) n n) (ints (ivL (K.cl (r + 1)) n)) by
            have h := HN.out.mono Hb.out.size
            rwa [ivL_congr (C' := K.cl (r + 1)) fun j hj => if_pos hj] at h)
          have HF2 := hidd (fun (h : chB K r n = false) => show ivL K.lst n = ivL (K.cl (r + 1)) n by
            have := chB_lst HTb.out (k := r) (by rw [HKs.out]; exact h)
            rwa [HKs.out] at this)
          have HM2 := hidd (fun (h : chB K r n = true) => show r + 1 ≤ n by
            have := chB_more HTb.out (k := r) (by rw [HKs.out]; exact hrn) (by rw [HKs.out]; exact h)
            rwa [HKs.out] at this)
          clear hin
          go_wp2_with fail
          go_roundg (n + 1 - (r + 1))
          case measure => omega
          case rel => exact ⟨r + 1, chB K r n, rfl, fun h => ⟨HM2.out h, Nat.le_refl _⟩, HF2, HN5, hidd (bel_then Hb.out Hq.out)⟩
end Go.Proofs.Ytcghcbdefajpgaa
