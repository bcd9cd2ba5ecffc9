/- The laws' helpers for arguments that are slices of slices of numbers: opened, weighed, copied. -/
import Derived.Test.YtcghcbdefajpgaaBE
import Derived.Test.YtcghcbdefajpgaaRwp
import Derived.Test.YtcghcbdefajpgaaBB
import Derived.Test.YtcghcbdefajpgaaOp0
import Derived.Deep.Matrix
namespace Go.Proofs.Ytcghcbdefajpgaa
open Go.ChangeShapes Go.WideShapes Go.ChangeAt Go.RowKit

section
variable {H : Type} {enc : TypeId × Value → H} {w : World} {base : Nat} {held : Bool}
set_option maxRecDepth 100000 in
theorem open_LL {v : Value} {d : DataW H} {p : List MemPlace} {r : Reach} {b : Nat} {W : World} (hv : Value.okWide Try.prog W r b 27 v) (h : DataW.Trod enc Try.prog w base (fun _ => true) held 27 v d p) :
    ∃ xss, RdLL w v xss := by
  obtain ⟨a0, n0, c0, rfl⟩ := okWide_slice Try.underlying27 hv
  obtain ⟨fuel, hf⟩ := h
  rcases Go.Deep.open_int_rows Try.underlying27 Try.underlying26 Try.underlying2 (by kernel_rfl) (by kernel_rfl) hf with ⟨h1, _⟩ | ⟨a, len, cap, A, L, C, Z, h1, _, hlc, hm, _, hc⟩
  · have e := congrArg (fun l : List Value => l[0]?) h1
    simp [Value.cells] at e
    obtain ⟨rfl, rfl, rfl⟩ := e
    exact ⟨[], none, 0, [], rfl, ⟨by simp, fun h => absurd rfl h⟩, rfl, fun j r xs h => by simp at h⟩
  · have e := congrArg (fun l : List Value => l[0]?) h1
    simp [Value.cells] at e
    obtain ⟨rfl, rfl, rfl⟩ := e
    refine ⟨(List.range n0).map fun r => (Z r).take (L r), some a, c0, (List.range n0).map fun r => .slice (A r) (L r) (C r), by simp, ⟨?_, ?_⟩, by simp, ?_⟩
    · simp; unfold maxLen at hm; omega
    · intro hne
      have hpos : 0 < n0 := by
        rcases Nat.eq_zero_or_pos n0 with h | h
        · subst h; exact absurd rfl hne
        · exact h
      have hs : a.spot = none := by
        have := (hc 0 (by omega)).1
        have e0 : a.add 0 = a := by simp [Addr.add]
        rw [e0] at this
        exact spot_none this
      refine ⟨a.block, a.off, ?_, fun j x hj => ?_⟩
      · cases a; simp_all
      · obtain ⟨hjl, hj2⟩ := List.getElem?_eq_some_iff.1 hj
        simp at hjl hj2
        subst hj2
        have := (hc j (by omega)).1
        rwa [add_plain hs] at this
    · intro j r xs h1 h2
      obtain ⟨hjl, hj2⟩ := List.getElem?_eq_some_iff.1 h1
      obtain ⟨_, hj3⟩ := List.getElem?_eq_some_iff.1 h2
      simp at hjl hj2 hj3
      subst hj2
      subst hj3
      obtain ⟨_, hL, hC, hZ, _, hn, hcell⟩ := hc j (by omega)
      have hl : ((Z j).take (L j)).length = L j := by rw [List.length_take]; omega
      refine ⟨A j, C j, by rw [hl], ?_, ?_⟩
      · rw [ints_length, hl]; unfold maxLen at hC; omega
      · intro hne
        have hpos : 0 < L j := by
          have : ints ((Z j).take (L j)) ≠ [] := hne
          have h2 : (ints ((Z j).take (L j))).length ≠ 0 := fun h => this (List.length_eq_zero_iff.1 h)
          rw [ints_length, hl] at h2
          omega
        cases hA : A j with
        | none => have := hn hA; omega
        | some a' =>
          have hce := (hcell a' hA).2
          have hs : a'.spot = none := by
            have := hce 0 (by omega)
            have e0 : a'.add 0 = a' := by simp [Addr.add]
            rw [e0] at this
            exact spot_none this
          refine ⟨a'.block, a'.off, ?_, fun i x hi => ?_⟩
          · cases a'; simp_all
          · rw [ints_get, List.getElem?_take] at hi
            by_cases hin : i < L j
            · rw [if_pos hin] at hi
              have := hce i (by omega)
              rw [add_plain hs] at this
              rw [this, ← hi, List.getElem?_eq_getElem (by omega)]
              rw [getD_lt' 0 (show i < (Z j).length by omega)]
              rfl
            · rw [if_neg hin] at hi; cases hi
end

set_option maxHeartbeats 400000 in
theorem szInt64S_any (v : Value) (xs : List Int) (n : Nat) (w : World) (hn : n ≤ 1048576) (hr : RdI w v xs) :
    Calls Try.prog 15 #[v, .int .i64 n] w fun e w' => e = .returned (.int .i64 (if xs.length ≤ n then (n : Int) - xs.length else -1)) ∧ Below w.heap.size w w' := by
  have hl := hr.le
  obtain ⟨A, c, rfl, _⟩ := hr
  by_cases h : xs.length ≤ n
  · rw [if_pos h]
    have h1 : ¬ ((n : Int) - xs.length < 0) := by omega
    have h2 : IntKind.i64.wrap ((n : Int) - xs.length) = (n : Int) - xs.length := IntWalk.i64_in _ (by omega)
    go_enter Try.func15, Try.ntmps15
    go_wp2
    go_ret
    exact ⟨rfl, Below.refl _ _⟩
  · rw [if_neg h]
    have h1 : ((n : Int) - xs.length < 0) := by omega
    have h2 : IntKind.i64.wrap ((n : Int) - xs.length) = (n : Int) - xs.length := IntWalk.i64_in _ (by omega)
    go_enter Try.func15, Try.ntmps15
    go_wp2
    go_ret
    exact ⟨rfl, Below.refl _ _⟩

set_option maxRecDepth 100000 in
set_option maxHeartbeats 1000000 in
theorem szInt64SS_any (v : Value) (xss : List (List Int)) (w : World) (hr : RdLL w v xss) :
    Calls Try.prog 5 #[v, .int .i64 1048576] w fun e w' => e = .returned (.int .i64 (if xss.length + szs xss ≤ 1048576 then 1048576 - (xss.length : Int) - szs xss else -1)) ∧ Below w.heap.size w w' := by
  have hl := hr.le
  obtain ⟨A, c, rows, rfl, h1, h2, h3⟩ := hr
  have H1 := hidd h1
  have H3 := hidd h3
  obtain ⟨R, hR⟩ : ∃ R, R = (if xss.length + szs xss ≤ 1048576 then 1048576 - (xss.length : Int) - szs xss else -1) := ⟨_, rfl⟩
  rw [← hR]
  have HR := hidd hR
  clear h1 h3 hR
  have e1 : IntKind.i64.wrap (1048576 - (xss.length : Int)) = 1048576 - (xss.length : Int) := IntWalk.i64_in _ (by omega)
  by_cases hb : 1048576 < xss.length
  · have i1 : (1048576 : Int) - xss.length < 0 := by omega
    have HE := hidd (show R = -1 by rw [HR.out, if_neg (by omega)])
    go_enter Try.func5, Try.ntmps5
    go_wp2
    go_ret
    exact ⟨ret_i HE.out.symm, Below.refl _ _⟩
  · have i1 : ¬ (1048576 : Int) - xss.length < 0 := by omega
    go_enter Try.func5, Try.ntmps5
    go_wp2
    clear e1
    go_loopw [1, 5] (fun y z wr => ∃ (i n : Nat), z = .int .i64 i ∧ y = .int .i64 n ∧ i ≤ xss.length ∧ n ≤ 1048576 ∧ xss.length + szs (xss.take i) + n = 1048576 ∧ Hid (Below w.heap.size w wr)) (fun _ z _ => xss.length - (intOf z).toNat)
    case atStart => exact ⟨0, 1048576 - xss.length, rfl, by congr 1; omega, Nat.zero_le _, by omega, by rw [List.take_zero, szs_nil]; omega, hidd (Below.refl _ _)⟩
    case round =>
      obtain ⟨i, n, rfl, rfl, hi, hn, hs, Hb⟩ := hrel
      by_cases hlt : i < xss.length
      · have i2 : (i : Int) < xss.length := by omega
        have i0 : (0 : Int) ≤ i := by omega
        have hir : i < rows.length := by rw [h2]; exact hlt
        have hri := (H3.out i rows[i] xss[i] (List.getElem?_eq_getElem hir) (List.getElem?_eq_getElem hlt)).below Hb.out
        obtain ⟨bq, oq, rfl, hcell⟩ := (H1.out.below Hb.out).at_ (List.getElem?_eq_getElem hir)
        obtain ⟨r, hrr⟩ : ∃ r, r = rows[i] := ⟨_, rfl⟩
        rw [← hrr] at hri hcell
        have HS := hidd (szs_take hlt)
        have HC := hidd (szInt64S_any r xss[i] n wr hn hri)
        have HL := hidd (szs_le xss (i + 1))
        obtain ⟨k, hk⟩ : ∃ k, k = xss[i].length := ⟨_, rfl⟩
        rw [← hk] at HS HC
        clear hrr hk hri
        go_wp2_with fail
        refine HC.out.mono ?_
        rintro e w2 ⟨rfl, hb2⟩
        have Hb2 := hidd (bel_then Hb.out hb2)
        clear hb2 HC hcell
        by_cases hk : k ≤ n
        · rw [if_pos hk]
          have i5 : ¬ ((n : Int) - k < 0) := by omega
          go_wp2_with fail
          go_roundw
          case rel => exact ⟨i + 1, n - k, by go_num, by congr 1; omega, by omega, by omega, by rw [HS.out]; omega, Hb2⟩
          case measure => first | (simp [intOf]; done) | (simp [intOf]; omega)
        · rw [if_neg hk]
          have HE := hidd (show R = -1 by rw [HR.out, if_neg (by have := HS.out; have := HL.out; omega)])
          go_wp2_with fail
          go_ret
          exact ⟨ret_i HE.out.symm, Hb2.out⟩
      · have he : i = xss.length := by omega
        have HE := hidd (show R = n by rw [HR.out]; rw [List.take_of_length_le (by omega)] at hs; rw [if_pos (by omega)]; omega)
        subst he
        clear hlt
        go_wp2_with fail
        go_ret
        exact ⟨ret_i HE.out.symm, Hb.out⟩

structure Fil (w : World) (B g n : Nat) (rows : List Value) (xss : List (List Int)) : Prop where
  own : Own w B 26 (.slice (some ⟨g, 0, none⟩) n n) (rows ++ List.replicate (n - rows.length) (.slice none 0 0))
  each : ∀ (j : Nat) (r : Value) (xs : List Int), rows[j]? = some r → xss[j]? = some xs → Own w B 2 r (ints xs)
  ap : ∀ (i j : Nat) (r u : Value), rows[i]? = some r → rows[j]? = some u → i ≠ j → Apart r u
theorem Fil.below {w w' : World} {B g n : Nat} {rows : List Value} {xss : List (List Int)} (h : Fil w B g n rows xss) (hb : Below w.heap.size w w') : Fil w' B g n rows xss :=
  ⟨h.own.below hb, fun j r xs h1 h2 => (h.each j r xs h1 h2).below hb, h.ap⟩
theorem Fil.push {w w' : World} {B g n : Nat} {rows : List Value} {xss : List (List Int)} {r : Value} (h : Fil w B g n rows xss) (hl : xss.length = n) (hi : rows.length < n) (hB : B ≤ w.heap.size) (hb : Below w.heap.size w w') (hr : Own w' w.heap.size 2 r (ints (xss[rows.length]'(by omega)))) : Fil (w'.setCell ⟨g, rows.length, none⟩ r) B g n (rows ++ [r]) xss := by
  have h' := h.below hb
  have hg : w'.grownBy (w'.setCell ⟨g, rows.length, none⟩ r) (Value.slice (some ⟨g, 0, none⟩) n n).ownBlock := grown_set _ _ _ _
  have get : ∀ (j : Nat) (t : Value), (rows ++ [r])[j]? = some t → (j < rows.length ∧ rows[j]? = some t) ∨ (j = rows.length ∧ t = r) := by
    intro j t hj
    rw [List.getElem?_append] at hj
    by_cases hlt : j < rows.length
    · rw [if_pos hlt] at hj; exact .inl ⟨hlt, hj⟩
    · rw [if_neg hlt] at hj
      match h : j - rows.length, hj with
      | 0, hj => simp at hj; exact .inr ⟨by omega, hj.symm⟩
  have kept : ∀ (B2 : Nat) (t : Value) (ys : List Int), Own w' B2 2 t (ints ys) → Own (w'.setCell ⟨g, rows.length, none⟩ r) B2 2 t (ints ys) := fun B2 t ys ho => ho.keep hg (ho.apart h'.own types_ne)
  have nw : ∀ (j : Nat) (t : Value), rows[j]? = some t → Apart t r := fun j t hj => by
    have hjl := (List.getElem?_eq_some_iff.1 hj).1
    exact own_ne (h.each j t _ hj (List.getElem?_eq_getElem (by omega))) hr (Nat.le_refl _)
  refine ⟨?_, fun j t zs h1 h2 => ?_, fun i j t t' h1 h2 hne => ?_⟩
  · have hs := h'.own.store rows.length r
    have e : (rows ++ List.replicate (n - rows.length) (Value.slice none 0 0)).set rows.length r = (rows ++ [r]) ++ List.replicate (n - (rows ++ [r]).length) (Value.slice none 0 0) := by
      rw [List.set_append_right _ _ (Nat.le_refl _), Nat.sub_self]
      obtain ⟨m, hm⟩ : ∃ m, n - rows.length = m + 1 := ⟨n - rows.length - 1, by omega⟩
      have hm2 : n - (rows ++ [r]).length = m := by simp; omega
      rw [hm, hm2, List.replicate_succ, List.set_cons_zero, List.append_assoc]
      rfl
    rwa [e] at hs
  · rcases get j t h1 with ⟨hlt, h3⟩ | ⟨he, rfl⟩
    · exact kept _ _ _ (h'.each j t zs h3 h2)
    · subst he
      rw [List.getElem?_eq_getElem (by omega)] at h2
      cases h2
      exact (kept _ _ _ hr).mono hB
  · rcases get i t h1 with ⟨_, h3⟩ | ⟨he, rfl⟩
    · rcases get j t' h2 with ⟨_, h4⟩ | ⟨he', rfl⟩
      · exact h.ap i j t t' h3 h4 hne
      · exact nw i t h3
    · rcases get j t' h2 with ⟨_, h4⟩ | ⟨he', rfl⟩
      · exact (nw j t' h4).symm
      · exact absurd (he.trans he'.symm) hne

set_option maxRecDepth 100000 in
set_option maxHeartbeats 1000000 in
theorem toInt64SS_any (v : Value) (xss : List (List Int)) (w : World) (hr : RdLL w v xss) (hn : xss.length + szs xss ≤ 1048576) :
    Calls Try.prog 9 #[v] w fun e w' => (∃ a rows, e = .returned a ∧ LLr w' w.heap.size a rows xss) ∧ Below w.heap.size w w' := by
  obtain ⟨A, c, rows, rfl, h1, h2, h3⟩ := hr
  have H1 := hidd h1
  have H3 := hidd h3
  clear h1 h3
  go_enter Try.func9, Try.ntmps9
  go_wp2_with (at_make; refine mk_own rfl _ _ _ rfl w.heap.size 26 (.slice none 0 0) 24 Try.underlying27 info_ints rfl xss.length rfl rfl (by omega) (by omega) (Nat.le_refl _) ?_; intro w1 ho hg hlt)
  have Ho := hidd (show Fil w1 w.heap.size w.heap.size xss.length [] xss from ⟨ho, fun j r xs h => by simp at h, fun i j r u h => by simp at h⟩)
  have Bel := hidd ((Below.refl w.heap.size w).grown hg (Nat.le_refl _) (fun k hk => by cases hk))
  clear ho hg
  go_loopw [4] (fun y wr => ∃ (i : Nat) (rs : List Value), y = .int .i64 i ∧ i ≤ xss.length ∧ rs.length = i ∧ Hid (Fil wr w.heap.size w.heap.size xss.length rs xss) ∧ Hid (Below w.heap.size w wr)) (fun y _ => xss.length - (intOf y).toNat)
  case atStart => exact ⟨0, [], rfl, Nat.zero_le _, rfl, Ho, Bel⟩
  case round =>
    clear Ho Bel
    obtain ⟨i, rs, rfl, hi, hrs, HF, Hb⟩ := hrel
    by_cases hlt : i < xss.length
    · have i2 : (i : Int) < xss.length := by omega
      have i0 : (0 : Int) ≤ i := by omega
      have hir : i < rows.length := by rw [h2]; exact hlt
      have hri := (H3.out i rows[i] xss[i] (List.getElem?_eq_getElem hir) (List.getElem?_eq_getElem hlt)).below Hb.out
      obtain ⟨bq, oq, rfl, hcell⟩ := (H1.out.below Hb.out).at_ (List.getElem?_eq_getElem hir)
      obtain ⟨r, hrr⟩ : ∃ r, r = rows[i] := ⟨_, rfl⟩
      rw [← hrr] at hri hcell
      have HS := hidd (szs_take hlt)
      have HL := hidd (szs_le xss (i + 1))
      have HC := hidd (toInt64S_any r xss[i] wr hri (by have := HS.out; have := HL.out; omega))
      clear hrr hri
      go_wp2_with fail
      refine HC.out.mono ?_
      rintro e w2 ⟨⟨t, rfl, ho⟩, hb2⟩
      subst hrs
      obtain ⟨At, ct, hve⟩ := ho.slice
      rw [ints_length] at hve
      subst hve
      have HF2 := hidd (HF.out.below hb2)
      have Hb2 := hidd (bel_then Hb.out hb2)
      have HP := hidd (HF.out.push rfl hlt Hb.out.size hb2 ho)
      have d1 := HF2.out.own.cell (j := rs.length) (v := .slice none 0 0) (by rw [List.getElem?_append_right (Nat.le_refl _), Nat.sub_self, List.getElem?_replicate, if_pos (by omega)])
      have d2 := HF2.out.own.frozen rs.length
      clear hb2 HC hcell ho
      go_wp2_with fail
      go_roundw
      case rel => exact ⟨rs.length + 1, rs ++ [_], by go_num, by omega, by simp, HP, hidd (Hb2.out.setCell (p := ⟨w.heap.size, rs.length, none⟩) (Nat.le_refl _) _)⟩
      case measure => first | (simp [intOf]; done) | (simp [intOf]; omega)
    · have he : i = xss.length := by omega
      have HE := hidd (show LLr wr w.heap.size (.slice (some ⟨w.heap.size, 0, none⟩) xss.length xss.length) rs xss from ⟨by have := HF.out.own; rwa [show xss.length - rs.length = 0 by omega, List.replicate_zero, List.append_nil] at this, by omega, HF.out.each, HF.out.ap⟩)
      subst he
      clear hlt
      go_wp2_with fail
      go_ret
      exact ⟨⟨_, rs, rfl, HE.out⟩, Hb.out⟩
end Go.Proofs.Ytcghcbdefajpgaa
