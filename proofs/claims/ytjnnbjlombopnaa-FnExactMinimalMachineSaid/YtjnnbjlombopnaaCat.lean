/- Walks: slices.Grow on a nil slice, slices.Concat; the reference's join. -/
import Derived.Test.YtjnnbjlombopnaaWords
import Derived.Lib.AppendZerosOnto
import Derived.Lib.SliceRun
import Derived.Laws.AppendOwnNone
namespace Go.Proofs.Ytjnnbjlombopnaa
open Go.RowKit

section
variable {P : Program} {w : World} {ops : Array Oper} {rest : List Oper} {o : Oper} {a : Act} {Q : Exit → Act → World → Prop}
/-- append(v, src...): a slice of the call's own, whatever is read behind it. -/
theorem app_src (hgd : o.guard = none) (s x : Operand) (t : TypeId) (hop : o.op = .call { callee := .builtin .append, args := #[s, x], argTypes := #[t, t] }) (base : Nat) (e : TypeId) (z : Value) (bytes : Nat) (h1 : P.underlying t = some (.slice e))
    (hinfo : (P.info? e).map (fun i => (i.zero, i.size, i.bytes)) = some (some z, 1, bytes)) (hz : z.cells.size = 1) {v : Value} {vs us : List Value} {A : Option Addr} {n c : Nat} (hown : Own w base e v vs) (hr : Rd w A us) (hn : n = us.length) (hs : a.eval s = v) (hx : a.eval x = .slice A n c) (h1c : ∀ u ∈ us, u.oneCell' = true)
    (hnil : A = none → c = 0) (hlen : vs.length + us.length ≤ 1099511627776) (hby : bytes ≤ 64) (hbase : base ≤ w.heap.size)
    (hK : ∀ v' w', Own w' base e v' (vs ++ us) → w.grownBy w' v.ownBlock → wpList P ops Q rest (a.put o.dst v') w') : wpList P ops Q (o :: rest) a w := by
  obtain ⟨i, hi, hz0, hz1, hz2⟩ := info_parts hinfo
  subst hn
  have hmul : (vs.length + us.length) * bytes ≤ 1099511627776 * 64 := Nat.mul_le_mul hlen hby
  cases A with
  | none =>
    have hu : us = [] := by
      apply Decidable.byContradiction
      intro hne
      obtain ⟨b, o, h, _⟩ := hr.2 hne
      cases h
    subst hu
    rw [hnil rfl] at hx
    refine wpList_append_own_none hgd s x t hop base e i 1 h1 hi v vs.length vs hs hown hx ?_
    exact hK v w (by rw [List.append_nil]; exact hown) (World.grownBy.refl _ _)
  | some ad =>
    refine wpList_append_own _ hgd s x t hop base e i z 1 bytes h1 hi hz0 hz1 hz2 hz (by decide) v vs.length vs hs hown ad us.length c us hx (by omega) ?_ h1c (by unfold maxLen; omega) (by omega) hbase ?_
    · intro j u hj
      obtain ⟨b, o, hA, hc⟩ := hr.2 (fun e => by rw [e] at hj; simp at hj)
      cases hA
      have hadd : (⟨b, o, none⟩ : Addr).add j = ⟨b, o + j, none⟩ := by unfold Addr.add; split <;> simp_all
      rw [hadd]; exact hc j u hj
    · intro v' w' ho hg _
      have ho' : Own w' base e v' (vs ++ us) := by unfold Own; rw [List.length_append]; exact ho
      exact hK v' w' ho' hg
end

/-! ### Grow on a nil slice -/
theorem infoE64 : (Try.prog.info? 2).map (fun i => (i.zero, i.size, i.bytes)) = some (some (.int .i64 0), 1, 8) := by kernel_rfl
set_option maxHeartbeats 2000000 in
set_option maxRecDepth 100000 in
theorem growNil64 (n : Nat) (N : Int) (hN : N = n) (w : World) (hn : n ≤ 1099511627776) :
    Calls Try.prog 199 #[.slice none 0 0, .int .i64 N] w fun e w' => (∃ v, e = .returned v ∧ Own w' w.heap.size 2 v []) ∧ Below w.heap.size w w' := by
  subst hN
  by_cases h0 : n = 0
  · subst h0
    go_enter Try.func199, Try.ntmps199
    go_wp2
    go_ret
    exact ⟨⟨_, rfl, Own.nil _ _ _⟩, Below.refl _ _⟩
  · obtain ⟨i0, hi, hz0, hz1, hz2⟩ := info_parts infoE64
    have hold : (Builtin.firstCells i0.size 0 (.slice none 0 0)).run Try.prog w.drew = .ok ([] : List Value).toArray w.drew := run_firstCells_none w.drew i0.size 0 0 0
    have hroom : 0 < 0 + n := by omega
    have hbig : (0 + n) * i0.bytes ≤ 140737488355328 := by
      rw [hz2]
      have : (0 + n) * 8 ≤ 1099511627776 * 8 := Nat.mul_le_mul_right _ (by omega)
      omega
    have hrz : ∀ ty, (Builtin.append_ #[30, 3] ty #[.slice none 0 0, .int .i64 (n : Int)]).run Try.prog w =
        .ok (.slice (some ⟨w.heap.size, 0, none⟩) n (grownCap w n 0 2)) (w.drew.alloc (.cells (([] : List Value).toArray ++ Builtin.zeroCells ((.int .i64 0) : Value).cells n ++ Builtin.zeroCells ((.int .i64 0) : Value).cells (grownCap w n 0 2 - n)) 2)) := fun ty => by
      have h := Lib.run_append_grow_zeros w 30 3 ty 2 i0 (.int .i64 0) .i64 .i64 Try.underlying30 Try.underlying3 hi hz0 none 0 0 [] hold n (by omega) (by rw [hz1]; omega) (by omega) (by omega)
        (by rw [hz2]; have : n * 8 ≤ 1099511627776 * 8 := Nat.mul_le_mul_right _ hn; omega)
        (by have := growslice_fits hroom hbig; simpa using this)
      simpa using h
    have hGn : n ≤ grownCap w n 0 2 := grownCap_ge w _ _ _
    have hG63 : grownCap w n 0 2 ≤ 9223372036854775807 := by
      have := grownCap_le_maxLen w n 0 2 (by unfold maxLen; omega)
      unfold maxLen at this
      omega
    obtain ⟨G, hG⟩ : ∃ G, G = grownCap w n 0 2 := ⟨_, rfl⟩
    rw [← hG] at hrz hGn hG63
    clear hG hold hbig hroom
    have hpos : (0 : Int) < n := by omega
    have i2 : (n : Int) ≤ 1099511627776 := by omega
    clear h0
    go_enter Try.func199, Try.ntmps199
    go_wp2_with (at_builtin; refine Lib.wpList_append_run _ rfl _ _ _ _ rfl _ _ rfl rfl _ _ (hrz _) ?_)
    go_ret
    have hsz : ∀ k, (Builtin.zeroCells #[(.int .i64 0)] k).size = k := fun k => by simp [Builtin.zeroCells]
    refine ⟨⟨_, rfl, rfl, .inr ⟨w.heap.size, G, _, rfl, Nat.le_refl _, hp_new (w := w.drew) rfl, Nat.zero_le _, by unfold maxLen; omega, ?_, rfl⟩⟩, (bel_drewN (Below.refl _ _) 1).alloc (Nat.le_refl _) _⟩
    simp only [Array.size_append, hsz]
    simp
    omega
theorem infoE65 : (Try.prog.info? 30).map (fun i => (i.zero, i.size, i.bytes)) = some (some (.slice none 0 0), 1, 24) := by kernel_rfl
set_option maxHeartbeats 2000000 in
set_option maxRecDepth 100000 in
theorem growNil65 (n : Nat) (N : Int) (hN : N = n) (w : World) (hn : n ≤ 1099511627776) :
    Calls Try.prog 227 #[.slice none 0 0, .int .i64 N] w fun e w' => (∃ v, e = .returned v ∧ Own w' w.heap.size 30 v []) ∧ Below w.heap.size w w' := by
  subst hN
  by_cases h0 : n = 0
  · subst h0
    go_enter Try.func227, Try.ntmps227
    go_wp2
    go_ret
    exact ⟨⟨_, rfl, Own.nil _ _ _⟩, Below.refl _ _⟩
  · obtain ⟨i0, hi, hz0, hz1, hz2⟩ := info_parts infoE65
    have hold : (Builtin.firstCells i0.size 0 (.slice none 0 0)).run Try.prog w.drew = .ok ([] : List Value).toArray w.drew := run_firstCells_none w.drew i0.size 0 0 0
    have hroom : 0 < 0 + n := by omega
    have hbig : (0 + n) * i0.bytes ≤ 140737488355328 := by
      rw [hz2]
      have : (0 + n) * 24 ≤ 1099511627776 * 24 := Nat.mul_le_mul_right _ (by omega)
      omega
    have hrz : ∀ ty, (Builtin.append_ #[65, 3] ty #[.slice none 0 0, .int .i64 (n : Int)]).run Try.prog w =
        .ok (.slice (some ⟨w.heap.size, 0, none⟩) n (grownCap w n 0 30)) (w.drew.alloc (.cells (([] : List Value).toArray ++ Builtin.zeroCells ((.slice none 0 0) : Value).cells n ++ Builtin.zeroCells ((.slice none 0 0) : Value).cells (grownCap w n 0 30 - n)) 30)) := fun ty => by
      have h := Lib.run_append_grow_zeros w 65 3 ty 30 i0 (.slice none 0 0) .i64 .i64 Try.underlying65 Try.underlying3 hi hz0 none 0 0 [] hold n (by omega) (by rw [hz1]; omega) (by omega) (by omega)
        (by rw [hz2]; have : n * 24 ≤ 1099511627776 * 24 := Nat.mul_le_mul_right _ hn; omega)
        (by have := growslice_fits hroom hbig; simpa using this)
      simpa using h
    have hGn : n ≤ grownCap w n 0 30 := grownCap_ge w _ _ _
    have hG63 : grownCap w n 0 30 ≤ 9223372036854775807 := by
      have := grownCap_le_maxLen w n 0 30 (by unfold maxLen; omega)
      unfold maxLen at this
      omega
    obtain ⟨G, hG⟩ : ∃ G, G = grownCap w n 0 30 := ⟨_, rfl⟩
    rw [← hG] at hrz hGn hG63
    clear hG hold hbig hroom
    have hpos : (0 : Int) < n := by omega
    have i2 : (n : Int) ≤ 1099511627776 := by omega
    clear h0
    go_enter Try.func227, Try.ntmps227
    go_wp2_with (at_builtin; refine Lib.wpList_append_run _ rfl _ _ _ _ rfl _ _ rfl rfl _ _ (hrz _) ?_)
    go_ret
    have hsz : ∀ k, (Builtin.zeroCells #[(.slice none 0 0)] k).size = k := fun k => by simp [Builtin.zeroCells]
    refine ⟨⟨_, rfl, rfl, .inr ⟨w.heap.size, G, _, rfl, Nat.le_refl _, hp_new (w := w.drew) rfl, Nat.zero_le _, by unfold maxLen; omega, ?_, rfl⟩⟩, (bel_drewN (Below.refl _ _) 1).alloc (Nat.le_refl _) _⟩
    simp only [Array.size_append, hsz]
    simp
    omega

/-! ### Concat -/
/-- A slice of slices reads as these lists of values. -/
def RdVV (w : World) (v : Value) (uss : List (List Value)) : Prop :=
  ∃ (A : Option Addr) (c : Nat) (rows : List Value), v = .slice A uss.length c ∧ Rd w A rows ∧ rows.length = uss.length ∧ ∀ (j : Nat) (r : Value) (us : List Value), rows[j]? = some r → uss[j]? = some us → ∃ (B : Option Addr) (d : Nat), r = .slice B us.length d ∧ (B = none → d = 0) ∧ Rd w B us
theorem RdVV.below {w w' : World} {v : Value} {uss : List (List Value)} (h : RdVV w v uss) (hb : Below w.heap.size w w') : RdVV w' v uss := by
  obtain ⟨A, c, rows, e, hr, hl, h⟩ := h
  refine ⟨A, c, rows, e, hr.below hb, hl, fun j r us h1 h2 => ?_⟩
  obtain ⟨B, d, e2, e3, hr2⟩ := h j r us h1 h2
  exact ⟨B, d, e2, e3, hr2.below hb⟩
/-- How many elements the first so many lists have. -/
def lens (uss : List (List Value)) (k : Nat) : Nat := ((uss.take k).map List.length).sum
theorem lens_succ (uss : List (List Value)) (k : Nat) (us : List Value) (h : uss[k]? = some us) : lens uss (k + 1) = lens uss k + us.length := by
  unfold lens
  rw [List.take_add_one, h]
  simp
theorem lens_le (uss : List (List Value)) (k : Nat) (hk : k ≤ uss.length) : lens uss k ≤ lens uss uss.length := by
  induction uss generalizing k with
  | nil => simp at hk; subst hk; exact Nat.le_refl _
  | cons u us ih =>
    cases k with
    | zero => exact Nat.zero_le _
    | succ k =>
      have := ih k (by simpa using hk)
      unfold lens at *
      simp only [List.take_succ_cons, List.map_cons, List.sum_cons, List.length_cons] at *
      omega
theorem flat_succ {α : Type} (uss : List (List α)) (k : Nat) (us : List α) (h : uss[k]? = some us) : (uss.take (k + 1)).flatten = (uss.take k).flatten ++ us := by
  rw [List.take_add_one, h]
  simp
theorem flat_len (uss : List (List Value)) (k : Nat) : (uss.take k).flatten.length = lens uss k := by
  unfold lens
  rw [List.length_flatten]

set_option maxHeartbeats 1000000 in
theorem concat64 (v : Value) (uss : List (List Value)) (w : World) (hr : RdVV w v uss) (h1 : ∀ us ∈ uss, ∀ u ∈ us, u.oneCell' = true) (hlen : lens uss uss.length ≤ 1099511627776) :
    Calls Try.prog 137 #[v] w fun e w' => (∃ u, e = .returned u ∧ Own w' w.heap.size 2 u uss.flatten) ∧ Below w.heap.size w w' := by
  obtain ⟨A, c, rows, rfl, hr, hrl, hrows⟩ := hr
  have hl := hr.1
  rw [hrl] at hl
  have HR := hidd hr
  have HRL := hidd hrl
  have Hrows := hidd hrows
  have H1 := hidd h1
  have HL := hidd (lens_le uss)
  clear hr hrl hrows h1
  go_enter Try.func137, Try.ntmps137
  go_wp2
  go_loop [3, 11] (fun t i => ∃ k : Nat, k ≤ uss.length ∧ i = .int .i64 k ∧ t = .int .i64 (lens uss k : Nat)) (fun _ i => uss.length - (intOf i).toNat)
  case atStart => exact ⟨0, Nat.zero_le _, rfl, rfl⟩
  case round =>
    obtain ⟨k, hk, rfl, rfl⟩ := hrel
    by_cases hlt : k < uss.length
    · have hkr : k < rows.length := by rw [HRL.out]; exact hlt
      obtain ⟨b, o, rfl, hc⟩ := HR.out.at_ (List.getElem?_eq_getElem hkr)
      obtain ⟨B, d, e2, e3, hr2⟩ := Hrows.out k rows[k] uss[k] (List.getElem?_eq_getElem hkr) (List.getElem?_eq_getElem hlt)
      rw [e2] at hc
      have Hs := hidd (lens_succ uss k uss[k] (List.getElem?_eq_getElem hlt))
      have hle := HL.out (k + 1) (by omega)
      rw [Hs.out] at hle
      clear e2 e3 hr2
      go_wp2
      go_round
      case rel => exact ⟨k + 1, by omega, by go_num, by rw [Hs.out]; go_num⟩
      case measure => simp [intOf]; omega
    · have he : k = uss.length := by omega
      subst he
      go_wp2_with fail
      refine (growNil64 (lens uss uss.length) _ rfl _ hlen).mono ?_
      rintro e w1 ⟨⟨u0, rfl, ho⟩, hb⟩
      have Ho := hidd ho
      have Bel := hidd hb
      clear ho hb
      go_wp2_with fail
      go_loopw [6, 27] (fun u i wr => ∃ k : Nat, k ≤ uss.length ∧ i = .int .i64 k ∧ Hid (Own wr w.heap.size 2 u (uss.take k).flatten) ∧ Hid (Below w.heap.size w wr)) (fun _ i _ => uss.length - (intOf i).toNat)
      case atStart => exact ⟨0, Nat.zero_le _, rfl, Ho.out, Bel.out⟩
      case round =>
        obtain ⟨k, hk, rfl, Hok, Hb⟩ := hrel
        have hbase := Hb.out.size
        by_cases hlt : k < uss.length
        · have hkr : k < rows.length := by rw [HRL.out]; exact hlt
          obtain ⟨b, o, rfl, hc⟩ := (HR.out.below Hb.out).at_ (List.getElem?_eq_getElem hkr)
          obtain ⟨B, d, e2, e3, hr2⟩ := Hrows.out k rows[k] uss[k] (List.getElem?_eq_getElem hkr) (List.getElem?_eq_getElem hlt)
          rw [e2] at hc
          have Hf := hidd (flat_succ uss k uss[k] (List.getElem?_eq_getElem hlt))
          have Hr2 := hidd (hr2.below Hb.out)
          have E3 := hidd e3
          have ho1 := hidd (H1.out uss[k] (List.getElem_mem hlt))
          have hlen2 : (uss.take k).flatten.length + uss[k].length ≤ 1099511627776 := by
            rw [flat_len]
            have a := HL.out (k + 1) (by omega)
            rw [lens_succ uss k uss[k] (List.getElem?_eq_getElem hlt)] at a
            omega
          clear e2 e3 hr2
          go_wp2_with (at_builtin; refine app_src rfl _ _ _ rfl w.heap.size 2 (.int .i64 0) 8 Try.underlying30 infoE64 rfl Hok.out Hr2.out rfl rfl rfl ho1.out E3.out hlen2 (by decide) hbase ?_; intro v' w2 ho hgr; have Ho2 := hidd ho; have b2 := hidd (bel_own Hok.out hgr hbase); clear ho hgr)
          go_roundw
          case rel => exact ⟨k + 1, by omega, by go_num, by rw [Hf.out]; exact Ho2.out, Hb.out.trans b2.out⟩
          case measure => simp [intOf]; omega
        · have he : k = uss.length := by omega
          subst he
          have := Hok.out
          rw [List.take_of_length_le (Nat.le_refl _)] at this
          have Ho2 := hidd this
          clear this
          go_wp2
          go_ret
          exact ⟨⟨_, rfl, Ho2.out⟩, Hb.out⟩
set_option maxHeartbeats 1000000 in
theorem concat65 (v : Value) (uss : List (List Value)) (w : World) (hr : RdVV w v uss) (h1 : ∀ us ∈ uss, ∀ u ∈ us, u.oneCell' = true) (hlen : lens uss uss.length ≤ 1099511627776) :
    Calls Try.prog 176 #[v] w fun e w' => (∃ u, e = .returned u ∧ Own w' w.heap.size 30 u uss.flatten) ∧ Below w.heap.size w w' := by
  obtain ⟨A, c, rows, rfl, hr, hrl, hrows⟩ := hr
  have hl := hr.1
  rw [hrl] at hl
  have HR := hidd hr
  have HRL := hidd hrl
  have Hrows := hidd hrows
  have H1 := hidd h1
  have HL := hidd (lens_le uss)
  clear hr hrl hrows h1
  go_enter Try.func176, Try.ntmps176
  go_wp2
  go_loop [3, 11] (fun t i => ∃ k : Nat, k ≤ uss.length ∧ i = .int .i64 k ∧ t = .int .i64 (lens uss k : Nat)) (fun _ i => uss.length - (intOf i).toNat)
  case atStart => exact ⟨0, Nat.zero_le _, rfl, rfl⟩
  case round =>
    obtain ⟨k, hk, rfl, rfl⟩ := hrel
    by_cases hlt : k < uss.length
    · have hkr : k < rows.length := by rw [HRL.out]; exact hlt
      obtain ⟨b, o, rfl, hc⟩ := HR.out.at_ (List.getElem?_eq_getElem hkr)
      obtain ⟨B, d, e2, e3, hr2⟩ := Hrows.out k rows[k] uss[k] (List.getElem?_eq_getElem hkr) (List.getElem?_eq_getElem hlt)
      rw [e2] at hc
      have Hs := hidd (lens_succ uss k uss[k] (List.getElem?_eq_getElem hlt))
      have hle := HL.out (k + 1) (by omega)
      rw [Hs.out] at hle
      clear e2 e3 hr2
      go_wp2
      go_round
      case rel => exact ⟨k + 1, by omega, by go_num, by rw [Hs.out]; go_num⟩
      case measure => simp [intOf]; omega
    · have he : k = uss.length := by omega
      subst he
      go_wp2_with fail
      refine (growNil65 (lens uss uss.length) _ rfl _ hlen).mono ?_
      rintro e w1 ⟨⟨u0, rfl, ho⟩, hb⟩
      have Ho := hidd ho
      have Bel := hidd hb
      clear ho hb
      go_wp2_with fail
      go_loopw [6, 27] (fun u i wr => ∃ k : Nat, k ≤ uss.length ∧ i = .int .i64 k ∧ Hid (Own wr w.heap.size 30 u (uss.take k).flatten) ∧ Hid (Below w.heap.size w wr)) (fun _ i _ => uss.length - (intOf i).toNat)
      case atStart => exact ⟨0, Nat.zero_le _, rfl, Ho.out, Bel.out⟩
      case round =>
        obtain ⟨k, hk, rfl, Hok, Hb⟩ := hrel
        have hbase := Hb.out.size
        by_cases hlt : k < uss.length
        · have hkr : k < rows.length := by rw [HRL.out]; exact hlt
          obtain ⟨b, o, rfl, hc⟩ := (HR.out.below Hb.out).at_ (List.getElem?_eq_getElem hkr)
          obtain ⟨B, d, e2, e3, hr2⟩ := Hrows.out k rows[k] uss[k] (List.getElem?_eq_getElem hkr) (List.getElem?_eq_getElem hlt)
          rw [e2] at hc
          have Hf := hidd (flat_succ uss k uss[k] (List.getElem?_eq_getElem hlt))
          have Hr2 := hidd (hr2.below Hb.out)
          have E3 := hidd e3
          have ho1 := hidd (H1.out uss[k] (List.getElem_mem hlt))
          have hlen2 : (uss.take k).flatten.length + uss[k].length ≤ 1099511627776 := by
            rw [flat_len]
            have a := HL.out (k + 1) (by omega)
            rw [lens_succ uss k uss[k] (List.getElem?_eq_getElem hlt)] at a
            omega
          clear e2 e3 hr2
          go_wp2_with (at_builtin; refine app_src rfl _ _ _ rfl w.heap.size 30 (.slice none 0 0) 24 Try.underlying65 infoE65 rfl Hok.out Hr2.out rfl rfl rfl ho1.out E3.out hlen2 (by decide) hbase ?_; intro v' w2 ho hgr; have Ho2 := hidd ho; have b2 := hidd (bel_own Hok.out hgr hbase); clear ho hgr)
          go_roundw
          case rel => exact ⟨k + 1, by omega, by go_num, by rw [Hf.out]; exact Ho2.out, Hb.out.trans b2.out⟩
          case measure => simp [intOf]; omega
        · have he : k = uss.length := by omega
          subst he
          have := Hok.out
          rw [List.take_of_length_le (Nat.le_refl _)] at this
          have Ho2 := hidd this
          clear this
          go_wp2
          go_ret
          exact ⟨⟨_, rfl, Ho2.out⟩, Hb.out⟩
end Go.Proofs.Ytjnnbjlombopnaa
