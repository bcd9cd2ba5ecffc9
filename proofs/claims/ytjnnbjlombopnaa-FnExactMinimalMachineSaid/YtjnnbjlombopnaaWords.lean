/- Walks: slices of slices; the codes of group words, of the program and of the reference. -/
import Derived.Test.YtjnnbjlombopnaaAct
import Derived.Test.YtjnnbjlombopnaaSem
import Derived.Deep.RegionWith
namespace Go.Proofs.Ytjnnbjlombopnaa
open Go.RowKit

/-- A slice value reads as these lists of whole numbers. -/
def RdLL (w : World) (v : Value) (xss : List (List Int)) : Prop :=
  ∃ (A : Option Addr) (c : Nat) (rows : List Value), v = .slice A xss.length c ∧ Rd w A rows ∧ rows.length = xss.length ∧ ∀ (j : Nat) (r : Value) (xs : List Int), rows[j]? = some r → xss[j]? = some xs → RdI w r xs
theorem RdLL.below {w w' : World} {v : Value} {xss : List (List Int)} (h : RdLL w v xss) (hb : Below w.heap.size w w') : RdLL w' v xss := by
  obtain ⟨A, c, rows, e, hr, hl, h⟩ := h
  exact ⟨A, c, rows, e, hr.below hb, hl, fun j r xs h1 h2 => (h j r xs h1 h2).below hb⟩
theorem RdLL.le {w : World} {v : Value} {xss : List (List Int)} (h : RdLL w v xss) : xss.length ≤ 9223372036854775807 := by
  obtain ⟨A, c, rows, e, hr, hl, h⟩ := h
  have := hr.1
  omega
theorem RdLL.lit1 {w : World} {v : Value} {xs : List Int} (h : RdI w v xs) (t : TypeId) (n : Nat) (hn : n = w.heap.size) : RdLL (w.alloc (.cells #[v] t)) (.slice (some ⟨n, 0, none⟩) 1 1) [xs] :=
  ⟨some ⟨n, 0, none⟩, 1, [v], rfl, ⟨by simp, fun _ => ⟨n, 0, rfl, fun j y hj => by
    match j, hj with
    | 0, hj =>
      rw [blkc (hp_new hn)]
      exact hj⟩⟩, rfl, fun j r ys h1 h2 => by
    match j, h1, h2 with
    | 0, h1, h2 =>
      simp at h1 h2
      subst h1 h2
      exact h.alloc _⟩
theorem RdLL.lit2 {w : World} {v u : Value} {xs ys : List Int} (h : RdI w v xs) (h' : RdI w u ys) (t : TypeId) (n : Nat) (hn : n = w.heap.size) : RdLL (w.alloc (.cells #[v, u] t)) (.slice (some ⟨n, 0, none⟩) 2 2) [xs, ys] :=
  ⟨some ⟨n, 0, none⟩, 2, [v, u], rfl, ⟨by simp, fun _ => ⟨n, 0, rfl, fun j y hj => by
    match j, hj with
    | 0, hj =>
      rw [blkc (hp_new hn)]
      exact hj
    | 1, hj =>
      rw [blkc (hp_new hn)]
      exact hj⟩⟩, rfl, fun j r zs h1 h2 => by
    match j, h1, h2 with
    | 0, h1, h2 =>
      simp at h1 h2
      subst h1 h2
      exact h.alloc _
    | 1, h1, h2 =>
      simp at h1 h2
      subst h1 h2
      exact h'.alloc _⟩
/-- The code of a machine and group words. -/
def codeW (m : Mc) (xss : List (List Int)) : Int := if m.ok && xss.all (gwB m.S.toNat) then 0 else 1
theorem codeW_bad {m : Mc} {xss : List (List Int)} (h : m.ok = false) : codeW m xss = 1 := by unfold codeW; rw [h]; rfl
theorem codeW_no {g : Gm} {xss : List (List Int)} (h : xss.all (gwB g.s) = false) : codeW g.mc xss = 1 := by
  unfold codeW
  rw [show g.mc.S.toNat = g.s from rfl, h, Bool.and_false]; rfl
theorem codeW_yes {g : Gm} {xss : List (List Int)} (h0 : g.mc.ok = true) (h : xss.all (gwB g.s) = true) : codeW g.mc xss = 0 := by
  unfold codeW
  rw [show g.mc.S.toNat = g.s from rfl, h, h0]; rfl
theorem codeW_zero {m : Mc} {xss : List (List Int)} (h : codeW m xss = 0) : ∃ g : Gm, m = g.mc ∧ g.Ok ∧ ∀ xs ∈ xss, gwB g.s xs = true := by
  unfold codeW at h
  cases h1 : m.ok with
  | false => rw [h1] at h; simp at h
  | true =>
    obtain ⟨g, rfl, hok⟩ := Mc.to_gm h1
    cases h2 : xss.all (gwB g.mc.S.toNat) with
    | false => rw [h2, Bool.and_false] at h; simp at h
    | true => exact ⟨g, rfl, hok, fun xs hx => List.all_eq_true.1 h2 xs hx⟩
theorem codeW_one {m : Mc} {xss : List (List Int)} (h : ¬ codeW m xss = 0) : codeW m xss = 1 := by
  unfold codeW at *
  split
  · rename_i hc; rw [if_pos hc] at h; exact absurd rfl h
  · rfl
theorem gwB_mem {s : Nat} {xs : List Int} (h : gwB s xs = true) : xs.length ≤ 40 ∧ ∀ k ∈ xs, k ≠ 0 ∧ -(s : Int) ≤ k ∧ k ≤ s := by
  unfold gwB at h
  rw [Bool.and_eq_true, List.all_eq_true] at h
  exact ⟨of_decide_eq_true h.1, fun k hk => of_decide_eq_true (h.2 k hk)⟩

set_option maxRecDepth 100000 in
set_option maxHeartbeats 1000000 in
theorem l02Code_any (m : Mc) (cs : Array Value) (hm : m.Is cs) (v : Value) (xss : List (List Int)) (w : World) (hr : RdLL w v xss) :
    Calls Try.prog 119 #[.agg cs, v] w fun e w' => e = .returned (.int .i64 (codeW m xss)) ∧ Below w.heap.size w w' := by
  obtain rfl := hm.eq_cells
  obtain ⟨A, c, rows, rfl, hr, hrl, hrows⟩ := hr
  have hl := hr.1
  rw [hrl] at hl
  have Hm := hidd hm
  have HR := hidd hr
  have HRL := hidd hrl
  have Hrows := hidd hrows
  clear hm hr hrl hrows
  cases hq : m.ok with
  | false =>
    have Hq := hidd hq
    clear hq
    go_enter Try.func119, Try.ntmps119
    go_wp2_with (refine ldI rfl (.tmp 2) rfl w.heap.size rfl Hm.out (hp_new rfl) ?_)
    refine (l01Is_any _ _ Hm.out _).mono ?_
    rintro e w1 ⟨rfl, hb⟩
    rw [Hq.out]
    go_wp2
    go_ret
    exact ⟨ret_i (codeW_bad Hq.out).symm, bel_then (bel_alloc _ _) hb⟩
  | true =>
    obtain ⟨g, rfl, hok⟩ := Mc.to_gm hq
    have Hq := hidd hq
    have HO := hidd hok
    clear hq hok
    go_enter Try.func119, Try.ntmps119
    go_wp2_with (refine ldI rfl (.tmp 2) rfl w.heap.size rfl Hm.out (hp_new rfl) ?_)
    refine (l01Is_any _ _ Hm.out _).mono ?_
    rintro e w1 ⟨rfl, hb⟩
    rw [Hq.out]
    have B1 := hidd (bel_then (bel_alloc _ _) hb)
    have K1 := hidd (hp_bel (hp_new rfl) hb : w1.heap[w.heap.size]? = some (.cells g.mc.cells 27 (0, 0)))
    clear hb
    go_wp2
    go_loopw [5] (fun i wr => ∃ k : Nat, k ≤ xss.length ∧ i = .int .i64 k ∧ Hid (∀ j, (hj : j < xss.length) → j < k → gwB g.s xss[j] = true) ∧ Hid (Below w1.heap.size w1 wr)) (fun i _ => xss.length - (intOf i).toNat)
    case atStart => exact ⟨0, Nat.zero_le _, rfl, fun j _ h => by omega, Below.refl _ _⟩
    case round =>
      obtain ⟨k, hk, rfl, Hn, Hb⟩ := hrel
      by_cases hlt : k < xss.length
      · have hkr : k < rows.length := by rw [HRL.out]; exact hlt
        have hrow : rows[k]? = some rows[k] := List.getElem?_eq_getElem hkr
        obtain ⟨b, o, rfl, hc⟩ := (HR.out.below (B1.out.trans (Hb.out.mono B1.out.size))).at_ hrow
        have R1 := hidd (((Hrows.out k rows[k] xss[k] hrow (List.getElem?_eq_getElem hlt)).below (B1.out.trans (Hb.out.mono B1.out.size))).below (bel_drewN (Below.refl wr.heap.size wr) 1))
        obtain ⟨rk, hrk⟩ : ∃ y, y = rows[k] := ⟨_, rfl⟩
        rw [← hrk] at hc R1
        clear hrow hrk
        have hk1 := run_loadM (W := wr.drew) (hp_bel K1.out (bel_drewN Hb.out 1))
        have i1 : (k : Int) < xss.length := by omega
        have i2 : (0 : Int) ≤ k := by omega
        have s16 := HO.out.s16
        cases hw : gwB g.s xss[k] with
        | true =>
          have Hw := hidd hw
          clear hw
          go_wp2
          go_region_with ((go_at_call 109; refine (l02Is_any g s16 g.mc.cells ⟨Hm.out⟩ rk xss[k] _ R1.out).mono ?_; rintro e w2 ⟨rfl, hb⟩; rw [Hw.out]))
          all_goals
            go_wp2
            go_roundw
            (case rel => exact ⟨k + 1, by omega, by go_num, ltSucc' hlt Hn.out Hw.out, bel_then (bel_drewN Hb.out 1) hb⟩)
            (case measure => simp [intOf]; omega)
        | false =>
          have Hw := hidd hw
          clear hw
          go_wp2
          go_region_with ((go_at_call 109; refine (l02Is_any g s16 g.mc.cells ⟨Hm.out⟩ rk xss[k] _ R1.out).mono ?_; rintro e w2 ⟨rfl, hb⟩; rw [Hw.out]))
          all_goals
            go_wp2
            go_ret
            exact ⟨ret_i (codeW_no (all_no hlt Hw.out)).symm, bel_then B1.out (bel_then (bel_drewN Hb.out 1) hb)⟩
      · go_wp2
        go_ret
        exact ⟨ret_i (codeW_yes Hq.out (all_yes fun j hj => Hn.out j hj (by omega))).symm, bel_then B1.out Hb.out⟩
end Go.Proofs.Ytjnnbjlombopnaa
