/- Small texts of the walks under one roof. -/
import Derived.Test.YtcghcbdefajpgaaBA
import Derived.Deep.RegionWith
import Derived.Maps.AppendAt
import Derived.Deep.AppendLies
import Derived.Lib.AppendZerosOnto
import Derived.Lib.SliceRun
import Derived.Laws.AppendOwnNone
import Derived.OrdersHeld
import Derived.Deep.RegionLaw
import Derived.RangeFuncBox
import Derived.RangeFuncLeaves
import Derived.RangeFuncNested
import Derived.Shelf.Abstract
import Derived.WalkKit
import Derived.OwnWalkIn
import Derived.TacticsInMore
import Derived.LoopNIn
import Derived.LoopIn
import Derived.Shelf.Bits.Mul64
import Derived.Shelf.Lay
import Derived.Ground.NamesProg
import Derived.Laws.CopyOwn
import Derived.BigRegion
/- Rules of the walk: a whole machine is read out of a variable and written into one in one step. -/
namespace Go.Proofs.Ytcghcbdefajpgaa
open Go.RowKit

/-- A whole machine out of a variable. -/
def loadM (a : Addr) : Sem Value := loadVar 31 a
theorem loadVar_M (a : Addr) : loadVar 31 a = loadM a := rfl
theorem run_loadM {W : World} {b : Nat} {m : Mc} {t : TypeId} {fr : Nat × Nat} (h : W.heap[b]? = some (.cells m.cells t fr)) : (loadM ⟨b, 0, none⟩).run Try.prog W = .ok (.agg m.cells) W := by
  have := run_loadVar_at (P := Try.prog) W b 0 98 t 31 m.cells fr _ h Try.underlying31 rfl (by kernel_rfl) (by rw [m.cells_size]; omega)
  have e : m.cells.extract 0 (0 + 98) = m.cells := by rw [← m.cells_size]; simp
  rw [e] at this
  exact this
/-- A whole machine into a variable. -/
def storeM (a : Addr) (v : Value) : Sem Unit := storeVar 31 a v
theorem storeVar_M (a : Addr) (v : Value) : storeVar 31 a v = storeM a v := rfl
theorem run_storeM {W : World} {b : Nat} {m m' : Mc} {t : TypeId} (h : W.heap[b]? = some (.cells m'.cells t (0, 0))) : (storeM ⟨b, 0, none⟩ (.agg m.cells)).run Try.prog W = .ok () (W.setRow b m.cells) := by
  have := run_storeVar_at (P := Try.prog) W b 0 98 t 31 m'.cells m.cells h (by kernel_rfl) m.cells_size (by rw [m'.cells_size]; omega) (all_mem m.cells_all)
  have e : splice m'.cells 0 m.cells = m.cells := by
    apply Array.ext_getElem?
    intro j
    rw [splice_get _ _ _ (by rw [m.cells_size, m'.cells_size]; omega), m.cells_size]
    by_cases hj : j < 98
    · rw [if_pos (by omega), Nat.sub_zero]
    · rw [if_neg (by omega), Array.getElem?_eq_none (by rw [m'.cells_size]; omega), Array.getElem?_eq_none (by rw [m.cells_size]; omega)]
  rw [e] at this
  exact this
/-- .. into one that has just been laid. -/
theorem run_storeM_new {w : World} {n : Nat} {m m' : Mc} {t : TypeId} (hn : n = w.heap.size) : (storeM ⟨n, 0, none⟩ (.agg m.cells)).run Try.prog (w.alloc (.cells m'.cells t)) = .ok () (w.alloc (.cells m.cells t)) := by
  rw [run_storeM (hp_new hn), setRow_alloc _ _ hn]
theorem heap_alloc_rule {w : World} {o : Obj} {n : Nat} {x : Obj} (h : w.heap[n]? = some x) : (w.alloc o).heap[n]? = some x := hp_old h
theorem heap_alloc_new' {w : World} {o : Obj} : (w.alloc o).heap[w.heap.size]? = some o := hp_new rfl
theorem heap_drew (w : World) (n : Nat) : w.drew.heap[n]? = w.heap[n]? := rfl
theorem heap_drewN (w : World) (k n : Nat) : (w.drewN k).heap[n]? = w.heap[n]? := rfl
theorem heap_setCell_rule {w : World} {p : Addr} {v : Value} {n : Nat} {x : Obj} (h : w.heap[n]? = some x) (hne : n ≠ p.block) : (w.setCell p v).heap[n]? = some x := hp_far h hne v
theorem zeroValue_M (w : World) : (zeroValue 31).run Try.prog w = .ok (.agg Mc.zero.cells) w := by
  rw [← zeroM_cells]; exact zeroM_run w
attribute [go_sem ↓ high] loadVar_M storeVar_M
attribute [go_sem] run_loadM run_storeM run_storeM_new zeroValue_M heap_drew heap_drewN
end Go.Proofs.Ytcghcbdefajpgaa

/- Walks: slices of slices; the codes of group words, of the program and of the reference. -/
namespace Go.Proofs.Ytcghcbdefajpgaa
open Go.RowKit

/-- The code of a machine and group words. -/
def codeW (m : Mc) (xss : List (List Int)) : Int := if m.ok && xss.all (gwB m.S.toNat) then 0 else 1
theorem codeW_bad {m : Mc} {xss : List (List Int)} (h : m.ok = false) : codeW m xss = 1 := by unfold codeW; rw [h]; rfl
theorem codeW_no {g : Gm} {xss : List (List Int)} (h : xss.all (gwB g.s) = false) : codeW g.mc xss = 1 := by
  unfold codeW
  rw [show g.mc.S.toNat = g.s from rfl, h, Bool.and_false]; rfl
theorem codeW_yes {g : Gm} {xss : List (List Int)} (h0 : g.mc.ok = true) (h : xss.all (gwB g.s) = true) : codeW g.mc xss = 0 := by
  unfold codeW
  rw [show g.mc.S.toNat = g.s from rfl, h, h0]; rfl
theorem codeW_zero {m : Mc} {xss : List (List Int)} (h : codeW m xss = 0) : ∃ g : Gm, m = g.mc ∧ g.Ok ∧ ∀ xs ∈ xss, gwB g.s xs = true := by
  unfold codeW at h
  cases h1 : m.ok with
  | false => rw [h1] at h; simp at h
  | true =>
    obtain ⟨g, rfl, hok⟩ := Mc.to_gm h1
    cases h2 : xss.all (gwB g.mc.S.toNat) with
    | false => rw [h2, Bool.and_false] at h; simp at h
    | true => exact ⟨g, rfl, hok, fun xs hx => List.all_eq_true.1 h2 xs hx⟩
theorem codeW_one {m : Mc} {xss : List (List Int)} (h : ¬ codeW m xss = 0) : codeW m xss = 1 := by
  unfold codeW at *
  split
  · rename_i hc; rw [if_pos hc] at h; exact absurd rfl h
  · rfl
theorem gwB_mem {s : Nat} {xs : List Int} (h : gwB s xs = true) : xs.length ≤ 40 ∧ ∀ k ∈ xs, k ≠ 0 ∧ -(s : Int) ≤ k ∧ k ≤ s := by
  unfold gwB at h
  rw [Bool.and_eq_true, List.all_eq_true] at h
  exact ⟨of_decide_eq_true h.1, fun k hk => of_decide_eq_true (h.2 k hk)⟩

set_option maxRecDepth 100000 in
set_option maxHeartbeats 1000000 in
theorem l02Code_any (m : Mc) (cs : Array Value) (hm : m.Is cs) (v : Value) (xss : List (List Int)) (w : World) (hr : RdLL w v xss) :
    Calls Try.prog 16 #[.agg cs, v] w fun e w' => e = .returned (.int .i64 (codeW m xss)) ∧ Below w.heap.size w w' := by
  obtain rfl := hm.eq_cells
  obtain ⟨A, c, rows, rfl, hr, hrl, hrows⟩ := hr
  have hl := hr.1
  rw [hrl] at hl
  have Hm := hidd hm
  have HR := hidd hr
  have HRL := hidd hrl
  have Hrows := hidd hrows
  clear hm hr hrl hrows
  cases hq : m.ok with
  | false =>
    have Hq := hidd hq
    clear hq
    go_enter Try.func16, Try.ntmps16
    go_wp2_with (refine ldI rfl (.tmp 2) rfl w.heap.size rfl Hm.out (hp_new rfl) ?_)
    refine (l01Is_any _ _ Hm.out _).mono ?_
    rintro e w1 ⟨rfl, hb⟩
    rw [Hq.out]
    go_wp2
    go_ret
    exact ⟨ret_i (codeW_bad Hq.out).symm, bel_then (bel_alloc _ _) hb⟩
  | true =>
    obtain ⟨g, rfl, hok⟩ := Mc.to_gm hq
    have Hq := hidd hq
    have HO := hidd hok
    clear hq hok
    go_enter Try.func16, Try.ntmps16
    go_wp2_with (refine ldI rfl (.tmp 2) rfl w.heap.size rfl Hm.out (hp_new rfl) ?_)
    refine (l01Is_any _ _ Hm.out _).mono ?_
    rintro e w1 ⟨rfl, hb⟩
    rw [Hq.out]
    have B1 := hidd (bel_then (bel_alloc _ _) hb)
    have K1 := hidd (hp_bel (hp_new rfl) hb : w1.heap[w.heap.size]? = some (.cells g.mc.cells 31 (0, 0)))
    clear hb
    go_wp2
    go_loopw [5] (fun i wr => ∃ k : Nat, k ≤ xss.length ∧ i = .int .i64 k ∧ Hid (∀ j, (hj : j < xss.length) → j < k → gwB g.s xss[j] = true) ∧ Hid (Below w1.heap.size w1 wr)) (fun i _ => xss.length - (intOf i).toNat)
    case atStart => exact ⟨0, Nat.zero_le _, rfl, fun j _ h => by omega, Below.refl _ _⟩
    case round =>
      obtain ⟨k, hk, rfl, Hn, Hb⟩ := hrel
      by_cases hlt : k < xss.length
      · have hkr : k < rows.length := by rw [HRL.out]; exact hlt
        have hrow : rows[k]? = some rows[k] := List.getElem?_eq_getElem hkr
        obtain ⟨b, o, rfl, hc⟩ := (HR.out.below (B1.out.trans (Hb.out.mono B1.out.size))).at_ hrow
        have R1 := hidd (((Hrows.out k rows[k] xss[k] hrow (List.getElem?_eq_getElem hlt)).below (B1.out.trans (Hb.out.mono B1.out.size))).below (bel_drewN (Below.refl wr.heap.size wr) 1))
        obtain ⟨rk, hrk⟩ : ∃ y, y = rows[k] := ⟨_, rfl⟩
        rw [← hrk] at hc R1
        clear hrow hrk
        have hk1 := run_loadM (W := wr.drew) (hp_bel K1.out (bel_drewN Hb.out 1))
        have i1 : (k : Int) < xss.length := by omega
        have i2 : (0 : Int) ≤ k := by omega
        have s16 := HO.out.s16
        cases hw : gwB g.s xss[k] with
        | true =>
          have Hw := hidd hw
          clear hw
          go_wp2
          go_region_with ((go_at_call 32; refine (l02Is_any g s16 g.mc.cells ⟨Hm.out⟩ rk xss[k] _ R1.out).mono ?_; rintro e w2 ⟨rfl, hb⟩; rw [Hw.out]))
          all_goals
            go_wp2
            go_roundw
            (case rel => exact ⟨k + 1, by omega, by go_num, ltSucc' hlt Hn.out Hw.out, bel_then (bel_drewN Hb.out 1) hb⟩)
            (case measure => simp [intOf]; omega)
        | false =>
          have Hw := hidd hw
          clear hw
          go_wp2
          go_region_with ((go_at_call 32; refine (l02Is_any g s16 g.mc.cells ⟨Hm.out⟩ rk xss[k] _ R1.out).mono ?_; rintro e w2 ⟨rfl, hb⟩; rw [Hw.out]))
          all_goals
            go_wp2
            go_ret
            exact ⟨ret_i (codeW_no (all_no hlt Hw.out)).symm, bel_then B1.out (bel_then (bel_drewN Hb.out 1) hb)⟩
      · go_wp2
        go_ret
        exact ⟨ret_i (codeW_yes Hq.out (all_yes fun j hj => Hn.out j hj (by omega))).symm, bel_then B1.out Hb.out⟩
end Go.Proofs.Ytcghcbdefajpgaa

/- Words of the walks: append to a slice of the call's own, with the word on where the new slice lies; slices of slices of the call's own. -/
namespace Go.Proofs.Ytcghcbdefajpgaa
open Go.RowKit

/-- The new slice lies where the old one lay, or in a block laid since a world of H blocks. -/
def Lies (H : Nat) (v v' : Value) : Prop := v'.ownBlock = v.ownBlock ∨ ∃ k, v'.ownBlock = some k ∧ H ≤ k
theorem Lies.trans {H : Nat} {v v' v'' : Value} (h : Lies H v v') (h' : Lies H v' v'') : Lies H v v'' := by
  rcases h' with e | e
  · rcases h with e2 | ⟨k, e2, e3⟩
    · exact .inl (e.trans e2)
    · exact .inr ⟨k, e.trans e2, e3⟩
  · exact .inr e
theorem Lies.refl (H : Nat) (v : Value) : Lies H v v := .inl rfl
theorem Lies.mono {H H' : Nat} {v v' : Value} (h : Lies H v v') (hh : H' ≤ H) : Lies H' v v' := by
  rcases h with e | ⟨k, e, h⟩
  · exact .inl e
  · exact .inr ⟨k, e, by omega⟩
/-- Two slices do not share a block. -/
def Apart (v u : Value) : Prop := v.ownBlock = none ∨ v.ownBlock ≠ u.ownBlock
theorem Apart.symm {v u : Value} (h : Apart v u) : Apart u v := by
  rcases h with e | e
  · cases hu : u.ownBlock with
    | none => exact .inl hu
    | some k => right; rw [hu, e]; exact fun h => by cases h
  · exact .inr (Ne.symm e)
/-- A slice that lay there stays apart from one that is appended to. -/
theorem Apart.lies {w : World} {base H : Nat} {e : TypeId} {v v' u : Value} {vs : List Value} (h : Apart u v) (hu : Own w base e u vs) (hH : w.heap.size ≤ H) (hl : Lies H v v') : Apart u v' := by
  rcases hl with e2 | ⟨k, e2, h2⟩
  · unfold Apart; rw [e2]; exact h
  · cases hb : u.ownBlock with
    | none => exact .inl hb
    | some j =>
      right
      rw [hb, e2]
      intro hh
      cases hh
      have := (hu.block k hb).2
      omega
/-- Slices of elements of different types are apart. -/
theorem Own.apart {w : World} {b b' : Nat} {e e' : TypeId} {v u : Value} {vs us : List Value} (h : Own w b e v vs) (h' : Own w b' e' u us) (hne : e ≠ e') : Apart v u := by
  rcases h.2 with ⟨h1, _⟩ | ⟨g, cap, cur, h1, _, hg, _⟩
  · left; rw [h1]; rfl
  · right
    rcases h'.2 with ⟨h2, _⟩ | ⟨g', cap', cur', h2, _, hg', _⟩
    · rw [h1, h2]; exact fun h => by cases h
    · rw [h1, h2]
      intro hh
      have : g = g' := by simpa [Value.ownBlock] using hh
      subst this
      rw [hg] at hg'
      cases hg'
      exact hne rfl
theorem Own.keep {w w' : World} {base : Nat} {e : TypeId} {v u : Value} {vs : List Value} (h : Own w base e u vs) (hg : w.grownBy w' v.ownBlock) (ha : Apart u v) : Own w' base e u vs := h.grown hg ha
theorem RdI.keep {w w' : World} {base : Nat} {e : TypeId} {v u : Value} {xs : List Int} (h : Own w base e u (ints xs)) (hg : w.grownBy w' v.ownBlock) (ha : Apart u v) : RdI w' u xs := (h.keep hg ha).rdI

section
variable {P : Program} {w : World} {ops : Array Oper} {rest : List Oper} {o : Oper} {a : Act} {Q : Exit → Act → World → Prop}
/-- append(v, u): behind the box of the variadic. -/
theorem app_at (hgd : o.guard = none) (s x : Operand) (t : TypeId) (hop : o.op = .call { callee := .builtin .append, args := #[s, x], argTypes := #[t, t] }) (base : Nat) (e : TypeId) (z : Value) (bytes : Nat) (h1 : P.underlying t = some (.slice e))
    (hinfo : (P.info? e).map (fun i => (i.zero, i.size, i.bytes)) = some (some z, 1, bytes)) (hz : z.cells.size = 1) {v u : Value} {vs : List Value} {te : TypeId} (hown : Own w base e v vs) (hs : a.eval s = v) (hx : a.eval x = .slice (some ⟨w.heap.size, 0, none⟩) 1 1) (h1c : u.oneCell' = true)
    (hlen : vs.length + 1 ≤ 1099511627776) (hby : bytes ≤ 64) (hbase : base ≤ w.heap.size)
    (hK : ∀ v' w', Own w' base e v' (vs ++ [u]) → w.grownBy w' v.ownBlock → w.heap.size < w'.heap.size → Lies w.heap.size v v' → wpList P ops Q rest (a.put o.dst v') w') : wpList P ops Q (o :: rest) a (w.alloc (.cells #[u] te)) := by
  obtain ⟨i, hi, hz0, hz1, hz2⟩ := info_parts hinfo
  refine wpList_append_own_at _ hgd s x t hop base e i z 1 bytes h1 hi hz0 hz1 hz2 hz (by decide) v vs.length vs hs (World.ownsRow.alloc hown _) ⟨w.heap.size, 0, none⟩ 1 1 [u] hx rfl ?_ ?_ ?_ ?_ ?_ ?_
  · intro j y hj
    match j, hj with
    | 0, hj =>
      simp at hj
      subst hj
      show (w.alloc (.cells #[u] te)).cell? ⟨w.heap.size, 0, none⟩ = some u
      rw [blkc (hp_new rfl)]
      rfl
  · intro y hy; simp at hy; subst hy; exact h1c
  · unfold maxLen; omega
  · have : (vs.length + 1) * bytes ≤ 1099511627776 * 64 := Nat.mul_le_mul hlen hby
    omega
  · simp; omega
  · intro v' w' ho hg _ hat
    have ho' : Own w' base e v' (vs ++ [u]) := by unfold Own; rw [List.length_append]; exact ho
    refine hK v' w' ho' ⟨hg.os, hg.tape, hg.output, ?_, fun k hk hr => ?_⟩ ?_ ?_
    · have := hg.size; simp at this; omega
    · rw [hg.block k (by simp; omega) hr, hpA, if_neg (by omega)]
    · have := hg.size; simp at this; omega
    · rcases hat with h | h
      · exact .inl h
      · exact .inr ⟨_, h, by simp⟩

/-- The same as one step of a region that draws; the element lies in block p. -/
theorem step_app {K : Act → World → Prop} {E : Prop} (hgd : o.guard = none) (s x : Operand) (t : TypeId) (hop : o.op = .call { callee := .builtin .append, args := #[s, x], argTypes := #[t, t] }) (base : Nat) (e : TypeId) (z : Value) (bytes : Nat) (h1 : P.underlying t = some (.slice e))
    (hinfo : (P.info? e).map (fun i => (i.zero, i.size, i.bytes)) = some (some z, 1, bytes)) (hz : z.cells.size = 1) {v u : Value} {vs : List Value} {te : TypeId} {p : Nat} (hown : Own w base e v vs) (hp : w.heap[p]? = some (.cells #[u] te (0, 0))) (hs : a.eval s = v) (hx : a.eval x = .slice (some ⟨p, 0, none⟩) 1 1) (h1c : u.oneCell' = true)
    (hlen : vs.length + 1 ≤ 1099511627776) (hby : bytes ≤ 64) (hbase : base ≤ w.heap.size)
    (hK : ∀ v' w', Own w' base e v' (vs ++ [u]) → w.grownBy w' v.ownBlock → w.heap.size ≤ w'.heap.size → Lies w.heap.size v v' → K (a.put o.dst v') w') :
    if Region.wanted o (yielded ops a.tmps) = true then Oper.wp P o a w K Q else E := by
  obtain ⟨i, hi, hz0, hz1, hz2⟩ := info_parts hinfo
  have hw : Region.wanted o (yielded ops a.tmps) = true := by simp [Region.wanted, hgd]
  rw [if_pos hw]
  obtain ⟨v', w', hr, h2, h3, h4, h5⟩ := run_append_own_at (P := P) w base t o.type e i z 1 bytes h1 hi hz0 hz1 hz2 hz (by decide) v vs.length vs hown ⟨p, 0, none⟩ 1 1 [u] rfl (fun j y hj => by
    match j, hj with
    | 0, hj =>
      simp at hj
      subst hj
      show w.cell? ⟨p, 0, none⟩ = some u
      rw [blkc hp]
      rfl) (fun y hy => by simp at hy; subst hy; exact h1c) (by unfold maxLen; omega) (by
    have : (vs.length + 1) * bytes ≤ 1099511627776 * 64 := Nat.mul_le_mul hlen hby
    omega) hbase
  have ho' : Own w' base e v' (vs ++ [u]) := by unfold Own; rw [List.length_append]; exact h2
  unfold Oper.wp execOp
  simp only [hop, resolve, invoke, builtin, Sem.run_bind, Sem.run_pure, Result.andThen_ok, List.map_toArray, List.map_cons, List.map_nil, hs, hx, hr]
  refine hK v' w' ho' h3 h3.size ?_
  rcases h5 with h | h
  · exact .inl h
  · exact .inr ⟨_, h, Nat.le_refl _⟩
end
end Go.Proofs.Ytcghcbdefajpgaa

/- Words of the walks: all on slices of the call's own. -/

/- Walks: slices.Grow on a nil slice, slices.Concat; the reference's join. -/
namespace Go.Proofs.Ytcghcbdefajpgaa
open Go.RowKit

section
variable {P : Program} {w : World} {ops : Array Oper} {rest : List Oper} {o : Oper} {a : Act} {Q : Exit → Act → World → Prop}
/-- append(v, src...): a slice of the call's own, whatever is read behind it. -/
theorem app_src (hgd : o.guard = none) (s x : Operand) (t : TypeId) (hop : o.op = .call { callee := .builtin .append, args := #[s, x], argTypes := #[t, t] }) (base : Nat) (e : TypeId) (z : Value) (bytes : Nat) (h1 : P.underlying t = some (.slice e))
    (hinfo : (P.info? e).map (fun i => (i.zero, i.size, i.bytes)) = some (some z, 1, bytes)) (hz : z.cells.size = 1) {v : Value} {vs us : List Value} {A : Option Addr} {n c : Nat} (hown : Own w base e v vs) (hr : Rd w A us) (hn : n = us.length) (hs : a.eval s = v) (hx : a.eval x = .slice A n c) (h1c : ∀ u ∈ us, u.oneCell' = true)
    (hnil : A = none → c = 0) (hlen : vs.length + us.length ≤ 1099511627776) (hby : bytes ≤ 64) (hbase : base ≤ w.heap.size)
    (hK : ∀ v' w', Own w' base e v' (vs ++ us) → w.grownBy w' v.ownBlock → wpList P ops Q rest (a.put o.dst v') w') : wpList P ops Q (o :: rest) a w := by
  obtain ⟨i, hi, hz0, hz1, hz2⟩ := info_parts hinfo
  subst hn
  have hmul : (vs.length + us.length) * bytes ≤ 1099511627776 * 64 := Nat.mul_le_mul hlen hby
  cases A with
  | none =>
    have hu : us = [] := by
      apply Decidable.byContradiction
      intro hne
      obtain ⟨b, o, h, _⟩ := hr.2 hne
      cases h
    subst hu
    rw [hnil rfl] at hx
    refine wpList_append_own_none hgd s x t hop base e i 1 h1 hi v vs.length vs hs hown hx ?_
    exact hK v w (by rw [List.append_nil]; exact hown) (World.grownBy.refl _ _)
  | some ad =>
    refine wpList_append_own _ hgd s x t hop base e i z 1 bytes h1 hi hz0 hz1 hz2 hz (by decide) v vs.length vs hs hown ad us.length c us hx (by omega) ?_ h1c (by unfold maxLen; omega) (by omega) hbase ?_
    · intro j u hj
      obtain ⟨b, o, hA, hc⟩ := hr.2 (fun e => by rw [e] at hj; simp at hj)
      cases hA
      have hadd : (⟨b, o, none⟩ : Addr).add j = ⟨b, o + j, none⟩ := by unfold Addr.add; split <;> simp_all
      rw [hadd]; exact hc j u hj
    · intro v' w' ho hg _
      have ho' : Own w' base e v' (vs ++ us) := by unfold Own; rw [List.length_append]; exact ho
      exact hK v' w' ho' hg
end

/-! ### Grow on a nil slice -/
theorem infoE64 : (Try.prog.info? 2).map (fun i => (i.zero, i.size, i.bytes)) = some (some (.int .i64 0), 1, 8) := by kernel_rfl
set_option maxHeartbeats 2000000 in
set_option maxRecDepth 100000 in
theorem growNil64 (n : Nat) (N : Int) (hN : N = n) (w : World) (hn : n ≤ 1099511627776) :
    Calls Try.prog 76 #[.slice none 0 0, .int .i64 N] w fun e w' => (∃ v, e = .returned v ∧ Own w' w.heap.size 2 v []) ∧ Below w.heap.size w w' := by
  subst hN
  by_cases h0 : n = 0
  · subst h0
    go_enter Try.func76, Try.ntmps76
    go_wp2
    go_ret
    exact ⟨⟨_, rfl, Own.nil _ _ _⟩, Below.refl _ _⟩
  · obtain ⟨i0, hi, hz0, hz1, hz2⟩ := info_parts infoE64
    have hold : (Builtin.firstCells i0.size 0 (.slice none 0 0)).run Try.prog w.drew = .ok ([] : List Value).toArray w.drew := run_firstCells_none w.drew i0.size 0 0 0
    have hroom : 0 < 0 + n := by omega
    have hbig : (0 + n) * i0.bytes ≤ 140737488355328 := by
      rw [hz2]
      have : (0 + n) * 8 ≤ 1099511627776 * 8 := Nat.mul_le_mul_right _ (by omega)
      omega
    have hrz : ∀ ty, (Builtin.append_ #[26, 3] ty #[.slice none 0 0, .int .i64 (n : Int)]).run Try.prog w =
        .ok (.slice (some ⟨w.heap.size, 0, none⟩) n (grownCap w n 0 2)) (w.drew.alloc (.cells (([] : List Value).toArray ++ Builtin.zeroCells ((.int .i64 0) : Value).cells n ++ Builtin.zeroCells ((.int .i64 0) : Value).cells (grownCap w n 0 2 - n)) 2)) := fun ty => by
      have h := Lib.run_append_grow_zeros w 26 3 ty 2 i0 (.int .i64 0) .i64 .i64 Try.underlying26 Try.underlying3 hi hz0 none 0 0 [] hold n (by omega) (by rw [hz1]; omega) (by omega) (by omega)
        (by rw [hz2]; have : n * 8 ≤ 1099511627776 * 8 := Nat.mul_le_mul_right _ hn; omega)
        (by have := growslice_fits hroom hbig; simpa using this)
      simpa using h
    have hGn : n ≤ grownCap w n 0 2 := grownCap_ge w _ _ _
    have hG63 : grownCap w n 0 2 ≤ 9223372036854775807 := by
      have := grownCap_le_maxLen w n 0 2 (by unfold maxLen; omega)
      unfold maxLen at this
      omega
    obtain ⟨G, hG⟩ : ∃ G, G = grownCap w n 0 2 := ⟨_, rfl⟩
    rw [← hG] at hrz hGn hG63
    clear hG hold hbig hroom
    have hpos : (0 : Int) < n := by omega
    have i2 : (n : Int) ≤ 1099511627776 := by omega
    clear h0
    go_enter Try.func76, Try.ntmps76
    go_wp2_with (at_builtin; refine Lib.wpList_append_run _ rfl _ _ _ _ rfl _ _ rfl rfl _ _ (hrz _) ?_)
    go_ret
    have hsz : ∀ k, (Builtin.zeroCells #[(.int .i64 0)] k).size = k := fun k => by simp [Builtin.zeroCells]
    refine ⟨⟨_, rfl, rfl, .inr ⟨w.heap.size, G, _, rfl, Nat.le_refl _, hp_new (w := w.drew) rfl, Nat.zero_le _, by unfold maxLen; omega, ?_, rfl⟩⟩, (bel_drewN (Below.refl _ _) 1).alloc (Nat.le_refl _) _⟩
    simp only [Array.size_append, hsz]
    simp
    omega
theorem infoE65 : (Try.prog.info? 26).map (fun i => (i.zero, i.size, i.bytes)) = some (some (.slice none 0 0), 1, 24) := by kernel_rfl
/-! ### Concat -/
/-- A slice of slices reads as these lists of values. -/
def RdVV (w : World) (v : Value) (uss : List (List Value)) : Prop :=
  ∃ (A : Option Addr) (c : Nat) (rows : List Value), v = .slice A uss.length c ∧ Rd w A rows ∧ rows.length = uss.length ∧ ∀ (j : Nat) (r : Value) (us : List Value), rows[j]? = some r → uss[j]? = some us → ∃ (B : Option Addr) (d : Nat), r = .slice B us.length d ∧ (B = none → d = 0) ∧ Rd w B us
theorem RdVV.below {w w' : World} {v : Value} {uss : List (List Value)} (h : RdVV w v uss) (hb : Below w.heap.size w w') : RdVV w' v uss := by
  obtain ⟨A, c, rows, e, hr, hl, h⟩ := h
  refine ⟨A, c, rows, e, hr.below hb, hl, fun j r us h1 h2 => ?_⟩
  obtain ⟨B, d, e2, e3, hr2⟩ := h j r us h1 h2
  exact ⟨B, d, e2, e3, hr2.below hb⟩
/-- How many elements the first so many lists have. -/
def lens (uss : List (List Value)) (k : Nat) : Nat := ((uss.take k).map List.length).sum
theorem lens_succ (uss : List (List Value)) (k : Nat) (us : List Value) (h : uss[k]? = some us) : lens uss (k + 1) = lens uss k + us.length := by
  unfold lens
  rw [List.take_add_one, h]
  simp
theorem lens_le (uss : List (List Value)) (k : Nat) (hk : k ≤ uss.length) : lens uss k ≤ lens uss uss.length := by
  induction uss generalizing k with
  | nil => simp at hk; subst hk; exact Nat.le_refl _
  | cons u us ih =>
    cases k with
    | zero => exact Nat.zero_le _
    | succ k =>
      have := ih k (by simpa using hk)
      unfold lens at *
      simp only [List.take_succ_cons, List.map_cons, List.sum_cons, List.length_cons] at *
      omega
theorem flat_succ {α : Type} (uss : List (List α)) (k : Nat) (us : List α) (h : uss[k]? = some us) : (uss.take (k + 1)).flatten = (uss.take k).flatten ++ us := by
  rw [List.take_add_one, h]
  simp
theorem flat_len (uss : List (List Value)) (k : Nat) : (uss.take k).flatten.length = lens uss k := by
  unfold lens
  rw [List.length_flatten]

set_option maxHeartbeats 1000000 in
theorem concat64 (v : Value) (uss : List (List Value)) (w : World) (hr : RdVV w v uss) (h1 : ∀ us ∈ uss, ∀ u ∈ us, u.oneCell' = true) (hlen : lens uss uss.length ≤ 1099511627776) :
    Calls Try.prog 50 #[v] w fun e w' => (∃ u, e = .returned u ∧ Own w' w.heap.size 2 u uss.flatten) ∧ Below w.heap.size w w' := by
  obtain ⟨A, c, rows, rfl, hr, hrl, hrows⟩ := hr
  have hl := hr.1
  rw [hrl] at hl
  have HR := hidd hr
  have HRL := hidd hrl
  have Hrows := hidd hrows
  have H1 := hidd h1
  have HL := hidd (lens_le uss)
  clear hr hrl hrows h1
  go_enter Try.func50, Try.ntmps50
  go_wp2
  go_loop [3, 11] (fun t i => ∃ k : Nat, k ≤ uss.length ∧ i = .int .i64 k ∧ t = .int .i64 (lens uss k : Nat)) (fun _ i => uss.length - (intOf i).toNat)
  case atStart => exact ⟨0, Nat.zero_le _, rfl, rfl⟩
  case round =>
    obtain ⟨k, hk, rfl, rfl⟩ := hrel
    by_cases hlt : k < uss.length
    · have hkr : k < rows.length := by rw [HRL.out]; exact hlt
      obtain ⟨b, o, rfl, hc⟩ := HR.out.at_ (List.getElem?_eq_getElem hkr)
      obtain ⟨B, d, e2, e3, hr2⟩ := Hrows.out k rows[k] uss[k] (List.getElem?_eq_getElem hkr) (List.getElem?_eq_getElem hlt)
      rw [e2] at hc
      have Hs := hidd (lens_succ uss k uss[k] (List.getElem?_eq_getElem hlt))
      have hle := HL.out (k + 1) (by omega)
      rw [Hs.out] at hle
      clear e2 e3 hr2
      go_wp2
      go_round
      case rel => exact ⟨k + 1, by omega, by go_num, by rw [Hs.out]; go_num⟩
      case measure => simp [intOf]; omega
    · have he : k = uss.length := by omega
      subst he
      go_wp2_with fail
      refine (growNil64 (lens uss uss.length) _ rfl _ hlen).mono ?_
      rintro e w1 ⟨⟨u0, rfl, ho⟩, hb⟩
      have Ho := hidd ho
      have Bel := hidd hb
      clear ho hb
      go_wp2_with fail
      go_loopw [6, 27] (fun u i wr => ∃ k : Nat, k ≤ uss.length ∧ i = .int .i64 k ∧ Hid (Own wr w.heap.size 2 u (uss.take k).flatten) ∧ Hid (Below w.heap.size w wr)) (fun _ i _ => uss.length - (intOf i).toNat)
      case atStart => exact ⟨0, Nat.zero_le _, rfl, Ho.out, Bel.out⟩
      case round =>
        obtain ⟨k, hk, rfl, Hok, Hb⟩ := hrel
        have hbase := Hb.out.size
        by_cases hlt : k < uss.length
        · have hkr : k < rows.length := by rw [HRL.out]; exact hlt
          obtain ⟨b, o, rfl, hc⟩ := (HR.out.below Hb.out).at_ (List.getElem?_eq_getElem hkr)
          obtain ⟨B, d, e2, e3, hr2⟩ := Hrows.out k rows[k] uss[k] (List.getElem?_eq_getElem hkr) (List.getElem?_eq_getElem hlt)
          rw [e2] at hc
          have Hf := hidd (flat_succ uss k uss[k] (List.getElem?_eq_getElem hlt))
          have Hr2 := hidd (hr2.below Hb.out)
          have E3 := hidd e3
          have ho1 := hidd (H1.out uss[k] (List.getElem_mem hlt))
          have hlen2 : (uss.take k).flatten.length + uss[k].length ≤ 1099511627776 := by
            rw [flat_len]
            have a := HL.out (k + 1) (by omega)
            rw [lens_succ uss k uss[k] (List.getElem?_eq_getElem hlt)] at a
            omega
          clear e2 e3 hr2
          go_wp2_with (at_builtin; refine app_src rfl _ _ _ rfl w.heap.size 2 (.int .i64 0) 8 Try.underlying26 infoE64 rfl Hok.out Hr2.out rfl rfl rfl ho1.out E3.out hlen2 (by decide) hbase ?_; intro v' w2 ho hgr; have Ho2 := hidd ho; have b2 := hidd (bel_own Hok.out hgr hbase); clear ho hgr)
          go_roundw
          case rel => exact ⟨k + 1, by omega, by go_num, by rw [Hf.out]; exact Ho2.out, Hb.out.trans b2.out⟩
          case measure => simp [intOf]; omega
        · have he : k = uss.length := by omega
          subst he
          have := Hok.out
          rw [List.take_of_length_le (Nat.le_refl _)] at this
          have Ho2 := hidd this
          clear this
          go_wp2
          go_ret
          exact ⟨⟨_, rfl, Ho2.out⟩, Hb.out⟩
end Go.Proofs.Ytcghcbdefajpgaa

/- A region that draws its order: a load may be taken first while no operation that waits for it has come up, where the cell is kept till then. -/
namespace Go.Proofs.Ytcghcbdefajpgaa
open Go.RowKit

section
variable {P : Program} {ops : Array Oper} {Q : Exit → Act → World → Prop} {md : Region.Mode} {S : World → Prop} {ks : List Nat}

/-- One of the operations ks has not come up. -/
def Waits (ks : List Nat) (l : Array Bool) : Prop := ∃ k ∈ ks, l.getD k true = false

/-- Whatever order is picked, and S holds behind each operation as long as one of ks has not come up. -/
def wpC (P : Program) (md : Region.Mode) (ops : Array Oper) (Q : Exit → Act → World → Prop) (S : World → Prop) (ks : List Nat) : Nat → Array Bool → Act → World → Prop
  | 0, l, a, w => Region.ready md ops l = [] ∧ Q .normal a w
  | n + 1, l, a, w =>
    (Region.ready md ops l = [] → Q .normal a w) ∧
    ∀ i ∈ Region.ready md ops l, wpOp P ops Q i (fun a' w' => (Waits ks (l.setIfInBounds i true) → S w') ∧ wpC P md ops Q S ks n (l.setIfInBounds i true) a' w') a w

theorem wpAny_of_C : ∀ (n : Nat) (l : Array Bool) (a : Act) (w : World), wpC P md ops Q S ks n l a w → wpAny P md ops Q n l a w
  | 0, _, _, _, h => h
  | n + 1, _, _, _, h => ⟨h.1, fun i hi => wpOp_mono (fun a' w' h' => wpAny_of_C n _ a' w' h'.2) (h.2 i hi)⟩

theorem wpC_of_any : ∀ (n : Nat) (l : Array Bool) (a : Act) (w : World), (∀ k ∈ ks, l.getD k true = true) → wpAny P md ops Q n l a w → wpC P md ops Q S ks n l a w
  | 0, _, _, _, _, h => h
  | n + 1, l, _, _, hk, h => ⟨h.1, fun i hi => wpOp_mono (fun a' w' h' => by
      have hk' : ∀ k ∈ ks, (l.setIfInBounds i true).getD k true = true := fun k hkm => by
        by_cases he : i = k
        · subst he; simp [Array.getD]
        · rw [getD_set_ne true he]; exact hk k hkm
      exact ⟨fun ⟨k, h1, h2⟩ => (by rw [hk' k h1] at h2; cases h2), wpC_of_any n _ a' w' hk' h'⟩) (h.2 i hi)⟩

theorem wpC_first {i k : Nat} {oi ok : Oper} {v : Value} (hi : ops[i]? = some oi) (hsel : ∀ (j : Nat) (o : Oper) cs b, ops[j]? = some o → o.op ≠ .select cs b)
    (hQ : ∀ c a w, Q (.panic c) (a.put oi.dst v) w → Q (.panic c) a w) (hk : k ∈ ks) (hki : k ≠ i) (hok : ops[k]? = some ok) (hon : ∃ e ∈ ok.after, Region.binds md e = true ∧ e.on = i) :
    ∀ (fuel : Nat) (listed : Array Bool) (a : Act) (w : World),
      (∀ j oj, ops[j]? = some oj → j ≠ i → listed.getD j true = false → (∀ e ∈ oj.after, Region.binds md e = true → e.on ≠ i) → oi.apart ops oj = true) →
      i ∈ Region.ready md ops listed → listed.getD k true = false → YieldsIf P ops S oi v a → S w →
      wpC P md ops Q S ks fuel (listed.setIfInBounds i true) (a.put oi.dst v) w → wpC P md ops Q S ks (fuel + 1) listed a w := by
  intro fuel
  induction fuel with
  | zero =>
    intro listed a w _ hr hkl hy hS H
    refine ⟨fun h => (by rw [h] at hr; cases hr), fun j hj => ?_⟩
    by_cases hji : j = i
    · subst hji; exact hy.wpOp hi hS ⟨fun _ => hS, H⟩
    · have := ready_mono hj hji
      rw [H.1] at this
      cases this
  | succ fuel ih =>
    intro listed a w hfree hr hkl hy hS H
    refine ⟨fun h => (by rw [h] at hr; cases hr), fun j hj => ?_⟩
    by_cases hji : j = i
    · subst hji; exact hy.wpOp hi hS ⟨fun _ => hS, H⟩
    · have h1 := H.2 j (ready_mono hj hji)
      obtain ⟨hjun, oj, hoj, hall⟩ := mem_ready.1 hj
      have hnot : ∀ e ∈ oj.after, Region.binds md e = true → e.on ≠ i := fun e he hb heq => by
        have h1 := hall e he hb
        have h0 := (mem_ready.1 hr).1
        rw [heq] at h1
        rcases Nat.lt_or_ge i listed.size with h' | h'
        · simp [h'] at h0 h1; rw [h0] at h1; cases h1
        · simp [Array.getElem?_eq_none h'] at h1
      have hjk : j ≠ k := by
        rintro rfl
        rw [hoj] at hok
        cases hok
        obtain ⟨e, he, hb, hon⟩ := hon
        exact hnot e he hb hon
      have hkl' : (listed.setIfInBounds j true).getD k true = false := by rw [getD_set_ne true hjk]; exact hkl
      have hW : Waits ks ((listed.setIfInBounds i true).setIfInBounds j true) := ⟨k, hk, by rw [getD_set_ne true hjk, getD_set_ne true (Ne.symm hki)]; exact hkl⟩
      have h2 := wpOp_putIf hoj (hfree j oj hoj hji hjun hnot) (fun cs b => hsel i oi cs b hi) (fun cs b => hsel j oj cs b hoj) hQ hy h1
      have hfree' : ∀ k ok, ops[k]? = some ok → k ≠ i → (listed.setIfInBounds j true).getD k true = false →
          (∀ e ∈ ok.after, Region.binds md e = true → e.on ≠ i) → oi.apart ops ok = true := fun k ok hk hki hun hno => by
        refine hfree k ok hk hki ?_ hno
        by_cases hjk : j = k
        · subst hjk; exact hjun
        · rw [getD_set_ne true hjk] at hun; exact hun
      refine wpOp_mono (fun a' w' h3 => ?_) h2
      have hS' := h3.2.1 hW
      refine ⟨fun _ => hS', ih (listed.setIfInBounds j true) a' w' hfree' (ready_mono hr (Ne.symm hji)) hkl' h3.1 hS' ?_⟩
      rw [Array.setIfInBounds_comm _ _ hji]
      exact h3.2.2

/-- Take the load i first; k waits for it. -/
theorem wpC_take {i : Nat} (k : Nat) {oi : Oper} {v : Value} {fuel : Nat} {listed : Array Bool} {a : Act} {w : World} (hi : ops[i]? = some oi)
    (hs : Region.noSelect ops = true) (hf : Region.free md ops listed i = true) (hr : (Region.ready md ops listed).contains i = true) (hkl : (ks.contains k && k != i && !listed.getD k true && ((ops[k]?).map fun o => o.after.any fun e => Region.binds md e && e.on == i).getD false) = true)
    (hQ : ∀ c a w, Q (.panic c) (a.put oi.dst v) w → Q (.panic c) a w) (hy : YieldsIf P ops S oi v a) (hS : S w)
    (h : wpC P md ops Q S ks fuel (listed.setIfInBounds i true) (a.put oi.dst v) w) : wpC P md ops Q S ks (fuel + 1) listed a w := by
  simp only [Bool.and_eq_true, bne_iff_ne, ne_eq, Bool.not_eq_true'] at hkl
  obtain ⟨⟨⟨h1, h2⟩, h3⟩, h4⟩ := hkl
  cases hok : ops[k]? with
  | none => rw [hok] at h4; simp at h4
  | some ok =>
    rw [hok] at h4
    simp only [Option.map_some, Option.getD_some] at h4
    rw [Array.any_eq_true'] at h4
    refine wpC_first (k := k) hi (Region.noSelect_spec hs) hQ (by simpa using h1) h2 hok ?_ fuel listed a w (Region.free_spec hi hf) (by simpa using hr) h3 hy hS h
    simpa using h4

theorem wpC_done {listed : Array Bool} {a : Act} {w : World} (hr : Region.ready md ops listed = []) (h : Q .normal a w) : ∀ fuel, wpC P md ops Q S ks fuel listed a w
  | 0 => ⟨hr, h⟩
  | _ + 1 => ⟨fun _ => h, by rw [hr]; simp⟩

/-- Those that may come up come up: each is a step; behind it S is shown and the rest follows. -/
theorem wpC_one {i : Nat} {o : Oper} {fuel : Nat} {listed : Array Bool} {a : Act} {w : World} (hr : Region.ready md ops listed = [i]) (ho : ops[i]? = some o)
    (h : ∀ K : Act → World → Prop, (∀ a w, S w → wpC P md ops Q S ks fuel (listed.setIfInBounds i true) a w → K a w) → if Region.wanted o (yielded ops a.tmps) = true then Oper.wp P o a w K Q else K (a.put o.dst undef) w) :
    wpC P md ops Q S ks (fuel + 1) listed a w := by
  refine ⟨fun h0 => (by rw [hr] at h0; cases h0), ?_⟩
  rw [hr]
  intro j hj
  rcases List.mem_singleton.1 hj with rfl
  exact wpOp_step ho fun K' hK => h K' fun a w hs hw => hK a w ⟨fun _ => hs, hw⟩
theorem wpC_two {i j : Nat} {o o' : Oper} {fuel : Nat} {listed : Array Bool} {a : Act} {w : World} (hr : Region.ready md ops listed = [i, j]) (ho : ops[i]? = some o) (ho' : ops[j]? = some o')
    (h : ∀ K : Act → World → Prop, (∀ a w, S w → wpC P md ops Q S ks fuel (listed.setIfInBounds i true) a w → K a w) → if Region.wanted o (yielded ops a.tmps) = true then Oper.wp P o a w K Q else K (a.put o.dst undef) w)
    (h' : ∀ K : Act → World → Prop, (∀ a w, S w → wpC P md ops Q S ks fuel (listed.setIfInBounds j true) a w → K a w) → if Region.wanted o' (yielded ops a.tmps) = true then Oper.wp P o' a w K Q else K (a.put o'.dst undef) w) :
    wpC P md ops Q S ks (fuel + 1) listed a w := by
  refine ⟨fun h0 => (by rw [hr] at h0; cases h0), ?_⟩
  rw [hr]
  intro k hk
  rcases List.mem_cons.1 hk with rfl | hk
  · exact wpOp_step ho fun K' hK => h K' fun a w hs hw => hK a w ⟨fun _ => hs, hw⟩
  · rcases List.mem_singleton.1 hk with rfl
    exact wpOp_step ho' fun K' hK => h' K' fun a w hs hw => hK a w ⟨fun _ => hs, hw⟩
end
end Go.Proofs.Ytcghcbdefajpgaa

/- Walks: the table of a machine. -/
namespace Go.Proofs.Ytcghcbdefajpgaa
open Go.RowKit

/-- A slice of slices of whole numbers of the call's own. -/
def OwnLL (w : World) (B : Nat) (v : Value) (xss : List (List Int)) : Prop :=
  ∃ rows : List Value, Own w B 26 v rows ∧ rows.length = xss.length ∧ (∀ (j : Nat) (r : Value) (xs : List Int), rows[j]? = some r → xss[j]? = some xs → Own w B 2 r (ints xs)) ∧ ∀ (i j : Nat) (r u : Value), rows[i]? = some r → rows[j]? = some u → i ≠ j → Apart r u
theorem OwnLL.nil (w : World) (B : Nat) : OwnLL w B (.slice none 0 0) [] := ⟨[], Own.nil _ _ _, rfl, fun j r xs h => by simp at h, fun i j r u h => by simp at h⟩
theorem OwnLL.rdLL {w : World} {B : Nat} {v : Value} {xss : List (List Int)} (h : OwnLL w B v xss) : RdLL w v xss := by
  obtain ⟨rows, ho, hl, hr, _⟩ := h
  obtain ⟨A, c, rfl⟩ := ho.slice
  exact ⟨A, c, rows, by rw [hl], ho.rd.2, hl, fun j r xs h1 h2 => (hr j r xs h1 h2).rdI⟩
theorem OwnLL.below {w w' : World} {B : Nat} {v : Value} {xss : List (List Int)} (h : OwnLL w B v xss) (hb : Below w.heap.size w w') : OwnLL w' B v xss := by
  obtain ⟨rows, ho, hl, hr, ha⟩ := h
  exact ⟨rows, ho.below hb, hl, fun j r xs h1 h2 => (hr j r xs h1 h2).below hb, ha⟩
theorem OwnLL.mono {w : World} {B B' : Nat} {v : Value} {xss : List (List Int)} (h : OwnLL w B v xss) (hb : B' ≤ B) : OwnLL w B' v xss := by
  obtain ⟨rows, ho, hl, hr, ha⟩ := h
  exact ⟨rows, ho.mono hb, hl, fun j r xs h1 h2 => (hr j r xs h1 h2).mono hb, ha⟩
theorem OwnLL.far {w : World} {B T o : Nat} {v : Value} {xss : List (List Int)} (h : OwnLL w B v xss) (hT : T < B) (u : Value) : OwnLL (w.setCell ⟨T, o, none⟩ u) B v xss := by
  obtain ⟨rows, ho, hl, hr, ha⟩ := h
  have ne : ∀ {e : TypeId} {v : Value} {vs : List Value}, Own w B e v vs → v.ownBlock ≠ some T := fun h hb => by have := (h.block T hb).1; omega
  exact ⟨rows, ho.far (ne ho) u, hl, fun j r xs h1 h2 => (hr j r xs h1 h2).far (ne (hr j r xs h1 h2)) u, ha⟩
theorem types_ne : 2 ≠ 26 := by decide
/-- One more list. -/
theorem OwnLL.push {w w' : World} {B : Nat} {v v' r : Value} {xss : List (List Int)} {xs : List Int} {rows : List Value} (hl : rows.length = xss.length) (hr : ∀ (j : Nat) (r : Value) (xs : List Int), rows[j]? = some r → xss[j]? = some xs → Own w B 2 r (ints xs))
    (ha : ∀ (i j : Nat) (r u : Value), rows[i]? = some r → rows[j]? = some u → i ≠ j → Apart r u) (hv : Own w B 26 v rows) (hx : Own w B 2 r (ints xs)) (hxa : ∀ (j : Nat) (u : Value), rows[j]? = some u → Apart u r) (hv' : Own w' B 26 v' (rows ++ [r])) (hg : w.grownBy w' v.ownBlock) : OwnLL w' B v' (xss ++ [xs]) := by
  have get : ∀ (j : Nat) (u : Value), (rows ++ [r])[j]? = some u → (j < rows.length ∧ rows[j]? = some u) ∨ (j = rows.length ∧ u = r) := by
    intro j u hj
    rw [List.getElem?_append] at hj
    by_cases hlt : j < rows.length
    · rw [if_pos hlt] at hj; exact .inl ⟨hlt, hj⟩
    · rw [if_neg hlt] at hj
      match h : j - rows.length, hj with
      | 0, hj => simp at hj; exact .inr ⟨by omega, hj.symm⟩
  refine ⟨rows ++ [r], hv', by simp [hl], fun j u ys h1 h2 => ?_, fun i j u u' h1 h2 hne => ?_⟩
  · rcases get j u h1 with ⟨hlt, h3⟩ | ⟨he, rfl⟩
    · rw [List.getElem?_append, if_pos (by omega)] at h2
      have ho := hr j u ys h3 h2
      exact ho.keep hg (ho.apart hv types_ne)
    · rw [List.getElem?_append, if_neg (by omega), show j - xss.length = 0 by omega] at h2
      simp at h2
      subst h2
      exact hx.keep hg (hx.apart hv types_ne)
  · rcases get i u h1 with ⟨hlt, h3⟩ | ⟨he, rfl⟩
    · rcases get j u' h2 with ⟨hlt2, h4⟩ | ⟨he2, rfl⟩
      · exact ha i j u u' h3 h4 hne
      · exact hxa i u h3
    · rcases get j u' h2 with ⟨hlt2, h4⟩ | ⟨he2, rfl⟩
      · exact (hxa j u' h4).symm
      · omega
/-- An append to another slice of slices leaves it as it was. -/
theorem OwnLL.keep {w w' : World} {B B' : Nat} {v u : Value} {xss : List (List Int)} {us : List Value} (h : OwnLL w B v xss) (hu : Own w B' 26 u us) (hg : w.grownBy w' u.ownBlock) (ha : Apart v u) : OwnLL w' B v xss := by
  obtain ⟨rows, ho, hl, hr, hap⟩ := h
  exact ⟨rows, ho.keep hg ha, hl, fun j r xs h1 h2 => (hr j r xs h1 h2).keep hg ((hr j r xs h1 h2).apart hu types_ne), hap⟩

/-- The rows of a machine. -/
def Gm.nr (g : Gm) (q : Nat) : List Int := (List.range g.l).map fun x => (g.nx q x : Int)
def Gm.or (g : Gm) (q : Nat) : List Int := (List.range g.l).map fun x => (g.ou q x : Int)
def Gm.nxs (g : Gm) (n : Nat) : List (List Int) := (List.range n).map g.nr
def Gm.ous (g : Gm) (n : Nat) : List (List Int) := (List.range n).map g.or
theorem ints_snoc' (xs : List Int) (x : Int) : ints (xs ++ [x]) = ints xs ++ [.int .i64 x] := by simp [ints]
theorem Gm.nxs_succ (g : Gm) (n : Nat) : g.nxs (n + 1) = g.nxs n ++ [g.nr n] := by simp [Gm.nxs, List.range_succ]
theorem Gm.ous_succ (g : Gm) (n : Nat) : g.ous (n + 1) = g.ous n ++ [g.or n] := by simp [Gm.ous, List.range_succ]
def upto (f : Nat → Int) (n : Nat) : List Int := (List.range n).map f
theorem upto_len (f : Nat → Int) (n : Nat) : (upto f n).length = n := by simp [upto]
theorem upto_succ (f : Nat → Int) (n : Nat) : upto f (n + 1) = upto f n ++ [f n] := by simp [upto, List.range_succ]
theorem OwnLL.snoc_nx {w : World} {B : Nat} {v : Value} {g : Gm} {q : Nat} (h : OwnLL w B v (g.nxs q ++ [upto (fun x => (g.nx q x : Int)) g.l])) : OwnLL w B v (g.nxs (q + 1)) := by rw [Gm.nxs_succ]; exact h
theorem OwnLL.snoc_ou {w : World} {B : Nat} {v : Value} {g : Gm} {q : Nat} (h : OwnLL w B v (g.ous q ++ [upto (fun x => (g.ou q x : Int)) g.l])) : OwnLL w B v (g.ous (q + 1)) := by rw [Gm.ous_succ]; exact h
/-- A table lies in block T. -/
def TabAt (w : World) (T : Nat) (nxt out : List (List Int)) : Prop := ∃ vn vo, w.heap[T]? = some (.cells #[vn, vo] 109 (0, 0)) ∧ RdLL w vn nxt ∧ RdLL w vo out
theorem TabAt.below {w w' : World} {T : Nat} {nxt out : List (List Int)} (h : TabAt w T nxt out) (hb : Below w.heap.size w w') : TabAt w' T nxt out := by
  obtain ⟨vn, vo, h1, h2, h3⟩ := h
  exact ⟨vn, vo, hp_bel h1 hb, h2.below hb, h3.below hb⟩

/-- The own block of a slice is none that lay there before its base. -/
theorem Own.ne_low {w : World} {B T : Nat} {e : TypeId} {v : Value} {vs : List Value} (h : Own w B e v vs) (hT : T < B) : v.ownBlock ≠ some T := fun hb => by have := (h.block T hb).1; omega
theorem Own.ne_new {w : World} {B : Nat} {e : TypeId} {v : Value} {vs : List Value} (h : Own w B e v vs) : v.ownBlock ≠ some w.heap.size := fun hb => by have := (h.block _ hb).2; omega
theorem kept_own {w w' : World} {v : Value} {p : Nat} {x : Obj} (hg : w.grownBy w' v.ownBlock) (h : w.heap[p]? = some x) (hne : v.ownBlock ≠ some p) : w'.heap[p]? = some x := (hg.block p (hp_lt h) (fun e => hne e.symm)).trans h
/-- A slice of rows, and a row to be appended to it. -/
structure Half (w : World) (B B' : Nat) (v : Value) (rows : List Value) (xss : List (List Int)) (r : Value) (xs : List Int) : Prop where
  len : rows.length = xss.length
  each : ∀ (j : Nat) (u : Value) (ys : List Int), rows[j]? = some u → xss[j]? = some ys → Own w B 2 u (ints ys)
  apart : ∀ (i j : Nat) (r u : Value), rows[i]? = some r → rows[j]? = some u → i ≠ j → Apart r u
  own : Own w B 26 v rows
  row : Own w B' 2 r (ints xs)
  new : ∀ (j : Nat) (u : Value), rows[j]? = some u → Apart u r
theorem Half.keep {w w' : World} {B B' B2 : Nat} {v r u : Value} {rows us : List Value} {xss : List (List Int)} {xs : List Int} (h : Half w B B' v rows xss r xs) (hu : Own w B2 26 u us) (hg : w.grownBy w' u.ownBlock) (ha : Apart v u) : Half w' B B' v rows xss r xs :=
  ⟨h.len, fun j r xs h1 h2 => (h.each j r xs h1 h2).keep hg ((h.each j r xs h1 h2).apart hu types_ne), h.apart, h.own.keep hg ha, h.row.keep hg (h.row.apart hu types_ne), h.new⟩
theorem Half.below {w w' : World} {B B' : Nat} {v r : Value} {rows : List Value} {xss : List (List Int)} {xs : List Int} (h : Half w B B' v rows xss r xs) (hb : Below w.heap.size w w') : Half w' B B' v rows xss r xs :=
  ⟨h.len, fun j r xs h1 h2 => (h.each j r xs h1 h2).below hb, h.apart, h.own.below hb, h.row.below hb, h.new⟩
theorem Half.push {w w' : World} {B B' : Nat} {v v' r : Value} {rows : List Value} {xss : List (List Int)} {xs : List Int} (h : Half w B B' v rows xss r xs) (hB : B ≤ B') (hv' : Own w' B 26 v' (rows ++ [r])) (hg : w.grownBy w' v.ownBlock) : OwnLL w' B v' (xss ++ [xs]) :=
  OwnLL.push h.len h.each h.apart h.own (h.row.mono hB) h.new hv' hg
theorem drew_bel (w : World) : Below w.heap.size w w.drew := (bel_drewN (Below.refl _ w) 1)
theorem info_ints : (Try.prog.info? 26).map (fun i => (i.zero, i.size, i.bytes)) = some (some (.slice none 0 0), 1, 24) := by kernel_rfl
theorem tcells {w : World} {T : Nat} {vn vo : Value} {t : TypeId} (h : w.heap[T]? = some (.cells #[vn, vo] t (0, 0))) : w.cell? ⟨T, 0, none⟩ = some vn ∧ w.cell? ⟨T, 1, none⟩ = some vo := ⟨by rw [blkc h]; rfl, by rw [blkc h]; rfl⟩

set_option linter.unusedSimpArgs false in
set_option maxRecDepth 100000 in
set_option maxHeartbeats 4000000 in
theorem table_any (g : Gm) (hok : g.Ok) (b o : Nat) (w : World) (hA : g.At w b o) :
    Calls Try.prog 80 #[.pointer (some ⟨b, o, none⟩)] w fun e w' => e = .returned (.pointer (some ⟨w.heap.size, 0, none⟩)) ∧ TabAt w' w.heap.size (g.nxs g.s) (g.ous g.s) ∧ Below w.heap.size w w' := by
  have c1 := (hA.alloc (.cells #[.slice none 0 0, .slice none 0 0] 109)).s
  have hlt := hA.lt
  have HA := hidd hA
  have HO := hidd hok
  clear hA hok
  go_enter Try.func80, Try.ntmps80
  go_wp2_with fail
  obtain ⟨w1, hw1⟩ : ∃ w1, w1 = w.alloc (.cells #[.slice none 0 0, .slice none 0 0] 109) := ⟨_, rfl⟩
  rw [← hw1]
  have Bel := hidd (show Below w.heap.size w w1 by rw [hw1]; exact bel_alloc _ _)
  have Z1 := hidd (show w1.heap.size = w.heap.size + 1 by rw [hw1]; simp)
  have N1 := hidd (show w1.heap[w.heap.size]? = some (.cells #[.slice none 0 0, .slice none 0 0] 109 (0, 0)) by rw [hw1]; exact hp_new rfl)
  clear hw1 c1
  go_loopw [14] (fun i wr => ∃ q : Nat, q ≤ g.s ∧ i = .int .i64 q ∧ Hid (∃ vn vo, wr.heap[w.heap.size]? = some (.cells #[vn, vo] 109 (0, 0)) ∧ OwnLL wr (w.heap.size + 1) vn (g.nxs q) ∧ OwnLL wr (w.heap.size + 1) vo (g.ous q) ∧ Apart vn vo) ∧ Hid (Below w.heap.size w wr) ∧ Hid (w.heap.size + 1 ≤ wr.heap.size)) (fun i _ => g.s - (intOf i).toNat)
  case atStart => exact ⟨0, Nat.zero_le _, rfl, ⟨_, _, N1.out, OwnLL.nil _ _, OwnLL.nil _ _, .inl rfl⟩, Bel.out, Nat.le_of_eq Z1.out.symm⟩
  case round =>
    obtain ⟨q, hq, rfl, HT, Hb, HZ⟩ := hrel
    have s16 := HO.out.s16
    have l3 := HO.out.l3
    by_cases hqs : q < g.s
    · have a1 := (HA.out.bel Hb.out).l
      go_wp2_with fail
      clear a1
      obtain ⟨wo, rfl⟩ : ∃ wo : World, wo = wr := ⟨_, rfl⟩
      go_loopw [5, 6, 21] (fun v u i wr => ∃ k : Nat, k ≤ g.l ∧ i = .int .i64 k ∧ Hid (Own wr wo.heap.size 2 v (ints (upto (fun x => (g.nx q x : Int)) k))) ∧ Hid (Own wr wo.heap.size 2 u (ints (upto (fun x => (g.ou q x : Int)) k))) ∧ Hid (Apart v u) ∧ Hid (Below wo.heap.size wo wr)) (fun _ _ i _ => g.l - (intOf i).toNat)
      case atStart => exact ⟨0, Nat.zero_le _, rfl, Own.nil _ _ _, Own.nil _ _ _, .inl rfl, Below.refl _ _⟩
      case round =>
        obtain ⟨k, hk, rfl, Hv, Hu, Hap, Hb2⟩ := hrel
        by_cases hkl : k < g.l
        · have A1 := hidd (HA.out.bel (bel_then Hb.out Hb2.out))
          have hbase := Hb2.out.size
          have len1 : (ints (upto (fun x => (g.nx q x : Int)) k)).length + 1 ≤ 1099511627776 := by rw [ints_length, upto_len]; omega
          have len2 : (ints (upto (fun x => (g.ou q x : Int)) k)).length + 1 ≤ 1099511627776 := by rw [ints_length, upto_len]; omega
          go_wp2_with fail
          refine (mnext_any g b o q k _ _ _ A1.out rfl rfl (by omega) (by omega)).mono ?_
          rintro e w2 ⟨rfl, rfl⟩
          go_wp2_with (at_builtin; refine app_at rfl _ _ _ rfl wo.heap.size 2 (.int .i64 0) 8 Try.underlying26 info_i64 rfl Hv.out rfl rfl rfl len1 (by decide) hbase ?_; intro v' w2 ho hgr hle hli; have Hv2 := hidd ho; have Hg2 := hidd hgr; have Hl2 := hidd hli; have b2 := hidd (bel_own Hv.out hgr hbase); clear ho hgr hli)
          have A2 := hidd (A1.out.below b2.out (by have := HA.out.lt; have := Hb.out.size; omega))
          refine (mout_any g b o q k _ _ _ A2.out rfl rfl (by omega) (by omega)).mono ?_
          rintro e w3 ⟨rfl, rfl⟩
          have Hu2 := hidd (Hu.out.keep Hg2.out Hap.out.symm)
          have Hap2 := hidd (Hap.out.symm.lies Hu.out (Nat.le_refl _) Hl2.out)
          have hbase2 : wo.heap.size ≤ w2.heap.size := by have := b2.out.size; omega
          go_wp2_with (at_builtin; refine app_at rfl _ _ _ rfl wo.heap.size 2 (.int .i64 0) 8 Try.underlying26 info_i64 rfl Hu2.out rfl rfl rfl len2 (by decide) hbase2 ?_; intro v'' w3 ho hgr hle2 hli; have Hu3 := hidd ho; have Hg3 := hidd hgr; have Hl3 := hidd hli; have b3 := hidd (bel_own Hu2.out hgr hbase2); clear ho hgr hli)
          go_roundw
          case rel =>
            refine ⟨k + 1, by omega, by go_num, ?_, ?_, ?_, (Hb2.out.trans b2.out).trans b3.out⟩
            · rw [upto_succ, ints_snoc']; exact Hv2.out.keep Hg3.out Hap2.out.symm
            · rw [upto_succ, ints_snoc']; exact Hu3.out
            · exact Hap2.out.symm.lies Hv2.out (Nat.le_refl _) Hl3.out
          case measure => simp [intOf]; omega
        · have he : k = g.l := by omega
          subst he
          --GEN
          obtain ⟨A5, c5, e5⟩ := Hv.out.slice
          obtain ⟨A6, c6, e6⟩ := Hu.out.slice
          subst e5 e6
          obtain ⟨vn, vo, hT, hn, hoo, hapo⟩ := HT.out
          obtain ⟨rn, n1, n2, n3, n4⟩ := hn
          obtain ⟨ro, o1, o2, o3, o4⟩ := hoo
          have LN := hidd (show rn.length + 1 ≤ 1099511627776 by rw [n2]; simp [Gm.nxs]; omega)
          have LO := hidd (show ro.length + 1 ≤ 1099511627776 by rw [o2]; simp [Gm.ous]; omega)
          have AN := hidd (show ∀ (j : Nat) (u : Value), rn[j]? = some u → Apart u (.slice A5 (ints (upto (fun x => (g.nx q x : Int)) g.l)).length c5) from fun j u hj => by
            have hjl := (List.getElem?_eq_some_iff.1 hj).1
            obtain ⟨ys, hy⟩ : ∃ ys, (g.nxs q)[j]? = some ys := ⟨_, List.getElem?_eq_getElem (by omega)⟩
            exact own_ne (n3 j u ys hj hy) Hv.out (Nat.le_refl _))
          have AO := hidd (show ∀ (j : Nat) (u : Value), ro[j]? = some u → Apart u (.slice A6 (ints (upto (fun x => (g.ou q x : Int)) g.l)).length c6) from fun j u hj => by
            have hjl := (List.getElem?_eq_some_iff.1 hj).1
            obtain ⟨ys, hy⟩ : ∃ ys, (g.ous q)[j]? = some ys := ⟨_, List.getElem?_eq_getElem (by omega)⟩
            exact own_ne (o3 j u ys hj hy) Hu.out (Nat.le_refl _))
          have HN := hidd ((Half.mk n2 (fun j r xs h1 h2 => (n3 j r xs h1 h2).below Hb2.out) n4 (n1.below Hb2.out) Hv.out AN.out).below (drew_bel wr))
          have HO := hidd ((Half.mk o2 (fun j r xs h1 h2 => (o3 j r xs h1 h2).below Hb2.out) o4 (o1.below Hb2.out) Hu.out AO.out).below (drew_bel wr))
          have HT := hidd (hp_bel (hp_bel hT Hb2.out) (drew_bel wr))
          have AP := hidd hapo
          have BE := hidd (bel_then (bel_then Hb.out Hb2.out) (drew_bel wr))
          have SZ := hidd (show w.heap.size + 1 ≤ wr.drew.heap.size by have := HZ.out; have := Hb2.out.size; have := (drew_bel wr).size; omega)
          clear hT n1 n2 n3 n4 o1 o2 o3 o4 hapo AN AO
          go_wp2_with fail
          refine wp_region_any (by kernel_rfl) ?_
          change wpAny _ _ _ _ _ _ _ (World.drew _)
          obtain ⟨W, hW⟩ : ∃ W, W = wr.drew := ⟨_, rfl⟩
          rw [← hW] at HN HO HT BE SZ
          rw [← hW]
          clear hW
          refine wpAny_take (i := 0) (v := ?_) rfl (by kernel_rfl) (by kernel_rfl) (by kernel_rfl) (fun _ _ _ h => h) (Or.inl ⟨by rfl, ?_⟩) ?_
          rotate_left
          · intro wx; go_simp; try with_reducible rfl
          try simp only [Act.put, List.setIfInBounds_toArray, List.set_cons_zero, List.set_cons_succ]
          refine wpAny_take (i := 1) (v := ?_) rfl (by kernel_rfl) (by kernel_rfl) (by kernel_rfl) (fun _ _ _ h => h) (Or.inl ⟨by rfl, ?_⟩) ?_
          rotate_left
          · intro wx; go_simp; try with_reducible rfl
          try simp only [Act.put, List.setIfInBounds_toArray, List.set_cons_zero, List.set_cons_succ]
          refine wpAny_take (i := 2) (v := ?_) rfl (by kernel_rfl) (by kernel_rfl) (by kernel_rfl) (fun _ _ _ h => h) (Or.inl ⟨by rfl, ?_⟩) ?_
          rotate_left
          · intro wx; go_simp; try with_reducible rfl
          try simp only [Act.put, List.setIfInBounds_toArray, List.set_cons_zero, List.set_cons_succ]
          refine wpAny_take (i := 3) (v := ?_) rfl (by kernel_rfl) (by kernel_rfl) (by kernel_rfl) (fun _ _ _ h => h) (Or.inl ⟨by rfl, ?_⟩) ?_
          rotate_left
          · intro wx; go_simp; try with_reducible rfl
          try simp only [Act.put, List.setIfInBounds_toArray, List.set_cons_zero, List.set_cons_succ]
          refine wpAny_take (i := 4) (v := ?_) rfl (by kernel_rfl) (by kernel_rfl) (by kernel_rfl) (fun _ _ _ h => h) (Or.inl ⟨by rfl, ?_⟩) ?_
          rotate_left
          · intro wx; go_simp; try with_reducible rfl
          try simp only [Act.put, List.setIfInBounds_toArray, List.set_cons_zero, List.set_cons_succ]
          refine wpAny_take (i := 6) (v := ?_) rfl (by kernel_rfl) (by kernel_rfl) (by kernel_rfl) (fun _ _ _ h => h) (Or.inl ⟨by rfl, ?_⟩) ?_
          rotate_left
          · intro wx; go_simp; try with_reducible rfl
          try simp only [Act.put, List.setIfInBounds_toArray, List.set_cons_zero, List.set_cons_succ]
          refine wpAny_take (i := 9) (v := ?_) rfl (by kernel_rfl) (by kernel_rfl) (by kernel_rfl) (fun _ _ _ h => h) (Or.inl ⟨by rfl, ?_⟩) ?_
          rotate_left
          · intro wx; go_simp; try with_reducible rfl
          try simp only [Act.put, List.setIfInBounds_toArray, List.set_cons_zero, List.set_cons_succ]
          refine wpAny_take (i := 10) (v := ?_) rfl (by kernel_rfl) (by kernel_rfl) (by kernel_rfl) (fun _ _ _ h => h) (Or.inl ⟨by rfl, ?_⟩) ?_
          rotate_left
          · intro wx; go_simp; try with_reducible rfl
          try simp only [Act.put, List.setIfInBounds_toArray, List.set_cons_zero, List.set_cons_succ]
          refine wpAny_take (i := 11) (v := ?_) rfl (by kernel_rfl) (by kernel_rfl) (by kernel_rfl) (fun _ _ _ h => h) (Or.inl ⟨by rfl, ?_⟩) ?_
          rotate_left
          · intro wx; go_simp; try with_reducible rfl
          try simp only [Act.put, List.setIfInBounds_toArray, List.set_cons_zero, List.set_cons_succ]
          refine wpAny_take (i := 13) (v := ?_) rfl (by kernel_rfl) (by kernel_rfl) (by kernel_rfl) (fun _ _ _ h => h) (Or.inl ⟨by rfl, ?_⟩) ?_
          rotate_left
          · intro wx; go_simp; try with_reducible rfl
          try simp only [Act.put, List.setIfInBounds_toArray, List.set_cons_zero, List.set_cons_succ]
          refine wpAny_of_C (S := fun W => W.cell? ⟨w.heap.size, 0, none⟩ = some vn ∧ W.cell? ⟨w.heap.size, 1, none⟩ = some vo) (ks := [8, 15]) _ _ _ _ ?_
          refine wpC_take (i := 5) 8 (v := ?_) rfl (by kernel_rfl) (by kernel_rfl) (by kernel_rfl) (by kernel_rfl) (fun _ _ _ h => h) (Or.inl ⟨by rfl, ?_⟩) (tcells HT.out) ?_
          rotate_left
          · rintro wx ⟨hc1, hc2⟩; go_simp; try with_reducible rfl
          try simp only [Act.put, List.setIfInBounds_toArray, List.set_cons_zero, List.set_cons_succ]
          refine wpC_take (i := 12) 15 (v := ?_) rfl (by kernel_rfl) (by kernel_rfl) (by kernel_rfl) (by kernel_rfl) (fun _ _ _ h => h) (Or.inl ⟨by rfl, ?_⟩) (tcells HT.out) ?_
          rotate_left
          · rintro wx ⟨hc1, hc2⟩; go_simp; try with_reducible rfl
          try simp only [Act.put, List.setIfInBounds_toArray, List.set_cons_zero, List.set_cons_succ]
          refine wpC_two (i := 7) (j := 14) (by kernel_rfl) rfl rfl ?_ ?_
          · intro K hK
            go_simp
            obtain ⟨W', hW⟩ : ∃ X, X = W.alloc (.cells #[(.slice A5 (ints (upto (fun x => (g.nx q x : Int)) g.l)).length c5)] 26) := ⟨_, rfl⟩
            have NN := hidd (HN.out.own.ne_new)
            have EN := hidd (show W'.heap[W.heap.size]? = some (.cells #[(.slice A5 (ints (upto (fun x => (g.nx q x : Int)) g.l)).length c5)] 26 (0, 0)) by rw [hW]; exact hp_new rfl)
            have bw : Below W.heap.size W W' := by rw [hW]; exact bel_alloc _ _
            rw [← hW]
            clear hW
            have HT := hidd (hp_bel HT.out bw)
            have HN := hidd (HN.out.below bw)
            have HO := hidd (HO.out.below bw)
            have BE := hidd (bel_then BE.out bw)
            have SZ := hidd (Nat.le_trans SZ.out bw.size)
            refine hK _ _ (tcells HT.out) ?_
            clear hK K bw
            try simp only [Act.put, List.setIfInBounds_toArray, List.set_cons_zero, List.set_cons_succ]
            obtain ⟨W, rfl⟩ : ∃ X, X = W' := ⟨_, rfl⟩
            refine wpC_two (i := 8) (j := 14) (by kernel_rfl) rfl rfl ?_ ?_
            · intro K hK
              refine step_app rfl _ _ _ rfl (w.heap.size + 1) 26 (.slice none 0 0) 24 Try.underlying27 info_ints rfl HN.out.own EN.out rfl rfl rfl LN.out (by decide) SZ.out ?_
              intro vn' W' ho hgr hle hli
              obtain ⟨AN, nN, cN, eN⟩ : ∃ A n c, vn' = .slice A n c := by obtain ⟨A, c, e⟩ := ho.slice; exact ⟨A, _, c, e⟩
              subst eN
              have PN := hidd (HN.out.push (by have := HZ.out; omega) ho hgr)
              have bw : Below (w.heap.size + 1) W W' := bel_own HN.out.own hgr SZ.out
              have HT := hidd (kept_own hgr HT.out (HN.out.own.ne_low (Nat.lt_succ_self _)))
              have HO2 := hidd (HO.out.keep HN.out.own hgr AP.out.symm)
              have AP := hidd (AP.out.symm.lies HO.out.own (Nat.le_refl _) hli)
              have HO := hidd HO2.out
              clear HO2
              have BE := hidd (BE.out.trans (bw.mono (Nat.le_succ _)))
              have SZ := hidd (Nat.le_trans SZ.out hle)
              refine hK _ _ (tcells HT.out) ?_
              clear hK K bw hgr ho hle hli HN EN
              try simp only [Act.put, List.setIfInBounds_toArray, List.set_cons_zero, List.set_cons_succ]
              obtain ⟨W, rfl⟩ : ∃ X, X = W' := ⟨_, rfl⟩
              refine wpC_one (i := 14) (by kernel_rfl) rfl ?_
              intro K hK
              go_simp
              obtain ⟨W', hW⟩ : ∃ X, X = W.alloc (.cells #[(.slice A6 (ints (upto (fun x => (g.ou q x : Int)) g.l)).length c6)] 26) := ⟨_, rfl⟩
              have NO := hidd (HO.out.own.ne_new)
              have EO := hidd (show W'.heap[W.heap.size]? = some (.cells #[(.slice A6 (ints (upto (fun x => (g.ou q x : Int)) g.l)).length c6)] 26 (0, 0)) by rw [hW]; exact hp_new rfl)
              have bw : Below W.heap.size W W' := by rw [hW]; exact bel_alloc _ _
              rw [← hW]
              clear hW
              have HT := hidd (hp_bel HT.out bw)
              have HO := hidd (HO.out.below bw)
              have PN := hidd (PN.out.below bw)
              have BE := hidd (bel_then BE.out bw)
              have SZ := hidd (Nat.le_trans SZ.out bw.size)
              refine hK _ _ (tcells HT.out) ?_
              clear hK K bw
              try simp only [Act.put, List.setIfInBounds_toArray, List.set_cons_zero, List.set_cons_succ]
              obtain ⟨W, rfl⟩ : ∃ X, X = W' := ⟨_, rfl⟩
              refine wpC_one (i := 15) (by kernel_rfl) rfl ?_
              intro K hK
              refine step_app rfl _ _ _ rfl (w.heap.size + 1) 26 (.slice none 0 0) 24 Try.underlying27 info_ints rfl HO.out.own EO.out rfl rfl rfl LO.out (by decide) SZ.out ?_
              intro vo' W' ho hgr hle hli
              obtain ⟨AO, nO, cO, eO⟩ : ∃ A n c, vo' = .slice A n c := by obtain ⟨A, c, e⟩ := ho.slice; exact ⟨A, _, c, e⟩
              subst eO
              have PO := hidd (HO.out.push (by have := HZ.out; omega) ho hgr)
              have bw : Below (w.heap.size + 1) W W' := bel_own HO.out.own hgr SZ.out
              have HT := hidd (kept_own hgr HT.out (HO.out.own.ne_low (Nat.lt_succ_self _)))
              have PN2 := hidd (PN.out.keep HO.out.own hgr AP.out.symm)
              have AP := hidd (show Apart (.slice AN nN cN) (.slice AO nO cO) by obtain ⟨us, hus, _⟩ := PN.out; exact AP.out.symm.lies hus (Nat.le_refl _) hli)
              have PN := hidd PN2.out
              clear PN2
              have BE := hidd (BE.out.trans (bw.mono (Nat.le_succ _)))
              have SZ := hidd (Nat.le_trans SZ.out hle)
              refine hK _ _ (tcells HT.out) ?_
              clear hK K bw hgr ho hle hli HO EO
              try simp only [Act.put, List.setIfInBounds_toArray, List.set_cons_zero, List.set_cons_succ]
              obtain ⟨W, rfl⟩ : ∃ X, X = W' := ⟨_, rfl⟩
              refine wpC_of_any _ _ _ _ (by decide) ?_
              refine wpAny_take (i := 16) (v := ?_) rfl (by kernel_rfl) (by kernel_rfl) (by kernel_rfl) (fun _ _ _ h => h) (Or.inl ⟨by rfl, ?_⟩) ?_
              rotate_left
              · intro wx; go_simp; try with_reducible rfl
              try simp only [Act.put, List.setIfInBounds_toArray, List.set_cons_zero, List.set_cons_succ]
              refine wpAny_take (i := 17) (v := ?_) rfl (by kernel_rfl) (by kernel_rfl) (by kernel_rfl) (fun _ _ _ h => h) (Or.inl ⟨by rfl, ?_⟩) ?_
              rotate_left
              · intro wx; go_simp; try with_reducible rfl
              try simp only [Act.put, List.setIfInBounds_toArray, List.set_cons_zero, List.set_cons_succ]
              have h1 := (tcells HT.out).1
              have h2 := blkf HT.out 0
              refine wpAny_ready (rs := [18]) (by kernel_rfl) (by simp) (AllReady.cons rfl (fun K hK => ?_) AllReady.nil)
              go_simp
              clear h1 h2
              refine hK _ _ ?_
              clear hK K
              try simp only [Act.put, List.setIfInBounds_toArray, List.set_cons_zero, List.set_cons_succ]
              refine wpAny_take (i := 19) (v := ?_) rfl (by kernel_rfl) (by kernel_rfl) (by kernel_rfl) (fun _ _ _ h => h) (Or.inl ⟨by rfl, ?_⟩) ?_
              rotate_left
              · intro wx; go_simp; try with_reducible rfl
              try simp only [Act.put, List.setIfInBounds_toArray, List.set_cons_zero, List.set_cons_succ]
              refine wpAny_take (i := 20) (v := ?_) rfl (by kernel_rfl) (by kernel_rfl) (by kernel_rfl) (fun _ _ _ h => h) (Or.inl ⟨by rfl, ?_⟩) ?_
              rotate_left
              · intro wx; go_simp; try with_reducible rfl
              try simp only [Act.put, List.setIfInBounds_toArray, List.set_cons_zero, List.set_cons_succ]
              have h1 := (tcells (hp_set HT.out 0 (.slice AN nN cN))).2
              have h2 := blkf (hp_set HT.out 0 (.slice AN nN cN)) 1
              refine wpAny_ready (rs := [21]) (by kernel_rfl) (by simp) (AllReady.cons rfl (fun K hK => ?_) AllReady.nil)
              go_simp
              clear h1 h2
              refine hK _ _ ?_
              clear hK K
              refine wpAny_done (by kernel_rfl) ?_ _
              go_wp2_with fail
              go_roundw
              case rel => exact ⟨q + 1, by omega, by go_num, ⟨_, _, hp_set (hp_set HT.out 0 _) 1 _, ((PN.out.far (Nat.lt_succ_self _) _).far (Nat.lt_succ_self _) _).snoc_nx, ((PO.out.far (Nat.lt_succ_self _) _).far (Nat.lt_succ_self _) _).snoc_ou, AP.out⟩, (BE.out.setCell (Nat.le_refl _) _).setCell (Nat.le_refl _) _, hidd (by simpa [World.setCell] using SZ.out)⟩
              case measure => simp [intOf]; omega
            · have ND := hidd (HN.out.own.ne_new)
              intro K hK
              go_simp
              obtain ⟨W', hW⟩ : ∃ X, X = W.alloc (.cells #[(.slice A6 (ints (upto (fun x => (g.ou q x : Int)) g.l)).length c6)] 26) := ⟨_, rfl⟩
              have NO := hidd (HO.out.own.ne_new)
              have EO := hidd (show W'.heap[W.heap.size]? = some (.cells #[(.slice A6 (ints (upto (fun x => (g.ou q x : Int)) g.l)).length c6)] 26 (0, 0)) by rw [hW]; exact hp_new rfl)
              have bw : Below W.heap.size W W' := by rw [hW]; exact bel_alloc _ _
              rw [← hW]
              clear hW
              have HT := hidd (hp_bel HT.out bw)
              have HN := hidd (HN.out.below bw)
              have HO := hidd (HO.out.below bw)
              have EN := hidd (hp_bel EN.out bw)
              have BE := hidd (bel_then BE.out bw)
              have SZ := hidd (Nat.le_trans SZ.out bw.size)
              refine hK _ _ (tcells HT.out) ?_
              clear hK K bw
              try simp only [Act.put, List.setIfInBounds_toArray, List.set_cons_zero, List.set_cons_succ]
              obtain ⟨W, rfl⟩ : ∃ X, X = W' := ⟨_, rfl⟩
              refine wpC_one (i := 8) (by kernel_rfl) rfl ?_
              intro K hK
              refine step_app rfl _ _ _ rfl (w.heap.size + 1) 26 (.slice none 0 0) 24 Try.underlying27 info_ints rfl HN.out.own EN.out rfl rfl rfl LN.out (by decide) SZ.out ?_
              intro vn' W' ho hgr hle hli
              obtain ⟨AN, nN, cN, eN⟩ : ∃ A n c, vn' = .slice A n c := by obtain ⟨A, c, e⟩ := ho.slice; exact ⟨A, _, c, e⟩
              subst eN
              have PN := hidd (HN.out.push (by have := HZ.out; omega) ho hgr)
              have bw : Below (w.heap.size + 1) W W' := bel_own HN.out.own hgr SZ.out
              have HT := hidd (kept_own hgr HT.out (HN.out.own.ne_low (Nat.lt_succ_self _)))
              have EO := hidd (kept_own hgr EO.out ND.out)
              have HO2 := hidd (HO.out.keep HN.out.own hgr AP.out.symm)
              have AP := hidd (AP.out.symm.lies HO.out.own (Nat.le_refl _) hli)
              have HO := hidd HO2.out
              clear HO2
              have BE := hidd (BE.out.trans (bw.mono (Nat.le_succ _)))
              have SZ := hidd (Nat.le_trans SZ.out hle)
              refine hK _ _ (tcells HT.out) ?_
              clear hK K bw hgr ho hle hli HN EN
              try simp only [Act.put, List.setIfInBounds_toArray, List.set_cons_zero, List.set_cons_succ]
              obtain ⟨W, rfl⟩ : ∃ X, X = W' := ⟨_, rfl⟩
              refine wpC_one (i := 15) (by kernel_rfl) rfl ?_
              intro K hK
              refine step_app rfl _ _ _ rfl (w.heap.size + 1) 26 (.slice none 0 0) 24 Try.underlying27 info_ints rfl HO.out.own EO.out rfl rfl rfl LO.out (by decide) SZ.out ?_
              intro vo' W' ho hgr hle hli
              obtain ⟨AO, nO, cO, eO⟩ : ∃ A n c, vo' = .slice A n c := by obtain ⟨A, c, e⟩ := ho.slice; exact ⟨A, _, c, e⟩
              subst eO
              have PO := hidd (HO.out.push (by have := HZ.out; omega) ho hgr)
              have bw : Below (w.heap.size + 1) W W' := bel_own HO.out.own hgr SZ.out
              have HT := hidd (kept_own hgr HT.out (HO.out.own.ne_low (Nat.lt_succ_self _)))
              have PN2 := hidd (PN.out.keep HO.out.own hgr AP.out.symm)
              have AP := hidd (show Apart (.slice AN nN cN) (.slice AO nO cO) by obtain ⟨us, hus, _⟩ := PN.out; exact AP.out.symm.lies hus (Nat.le_refl _) hli)
              have PN := hidd PN2.out
              clear PN2
              have BE := hidd (BE.out.trans (bw.mono (Nat.le_succ _)))
              have SZ := hidd (Nat.le_trans SZ.out hle)
              refine hK _ _ (tcells HT.out) ?_
              clear hK K bw hgr ho hle hli HO EO
              try simp only [Act.put, List.setIfInBounds_toArray, List.set_cons_zero, List.set_cons_succ]
              obtain ⟨W, rfl⟩ : ∃ X, X = W' := ⟨_, rfl⟩
              refine wpC_of_any _ _ _ _ (by decide) ?_
              refine wpAny_take (i := 16) (v := ?_) rfl (by kernel_rfl) (by kernel_rfl) (by kernel_rfl) (fun _ _ _ h => h) (Or.inl ⟨by rfl, ?_⟩) ?_
              rotate_left
              · intro wx; go_simp; try with_reducible rfl
              try simp only [Act.put, List.setIfInBounds_toArray, List.set_cons_zero, List.set_cons_succ]
              refine wpAny_take (i := 17) (v := ?_) rfl (by kernel_rfl) (by kernel_rfl) (by kernel_rfl) (fun _ _ _ h => h) (Or.inl ⟨by rfl, ?_⟩) ?_
              rotate_left
              · intro wx; go_simp; try with_reducible rfl
              try simp only [Act.put, List.setIfInBounds_toArray, List.set_cons_zero, List.set_cons_succ]
              have h1 := (tcells HT.out).1
              have h2 := blkf HT.out 0
              refine wpAny_ready (rs := [18]) (by kernel_rfl) (by simp) (AllReady.cons rfl (fun K hK => ?_) AllReady.nil)
              go_simp
              clear h1 h2
              refine hK _ _ ?_
              clear hK K
              try simp only [Act.put, List.setIfInBounds_toArray, List.set_cons_zero, List.set_cons_succ]
              refine wpAny_take (i := 19) (v := ?_) rfl (by kernel_rfl) (by kernel_rfl) (by kernel_rfl) (fun _ _ _ h => h) (Or.inl ⟨by rfl, ?_⟩) ?_
              rotate_left
              · intro wx; go_simp; try with_reducible rfl
              try simp only [Act.put, List.setIfInBounds_toArray, List.set_cons_zero, List.set_cons_succ]
              refine wpAny_take (i := 20) (v := ?_) rfl (by kernel_rfl) (by kernel_rfl) (by kernel_rfl) (fun _ _ _ h => h) (Or.inl ⟨by rfl, ?_⟩) ?_
              rotate_left
              · intro wx; go_simp; try with_reducible rfl
              try simp only [Act.put, List.setIfInBounds_toArray, List.set_cons_zero, List.set_cons_succ]
              have h1 := (tcells (hp_set HT.out 0 (.slice AN nN cN))).2
              have h2 := blkf (hp_set HT.out 0 (.slice AN nN cN)) 1
              refine wpAny_ready (rs := [21]) (by kernel_rfl) (by simp) (AllReady.cons rfl (fun K hK => ?_) AllReady.nil)
              go_simp
              clear h1 h2
              refine hK _ _ ?_
              clear hK K
              refine wpAny_done (by kernel_rfl) ?_ _
              go_wp2_with fail
              go_roundw
              case rel => exact ⟨q + 1, by omega, by go_num, ⟨_, _, hp_set (hp_set HT.out 0 _) 1 _, ((PN.out.far (Nat.lt_succ_self _) _).far (Nat.lt_succ_self _) _).snoc_nx, ((PO.out.far (Nat.lt_succ_self _) _).far (Nat.lt_succ_self _) _).snoc_ou, AP.out⟩, (BE.out.setCell (Nat.le_refl _) _).setCell (Nat.le_refl _) _, hidd (by simpa [World.setCell] using SZ.out)⟩
              case measure => simp [intOf]; omega
          · have ND := hidd (HN.out.own.ne_new)
            intro K hK
            go_simp
            obtain ⟨W', hW⟩ : ∃ X, X = W.alloc (.cells #[(.slice A6 (ints (upto (fun x => (g.ou q x : Int)) g.l)).length c6)] 26) := ⟨_, rfl⟩
            have NO := hidd (HO.out.own.ne_new)
            have EO := hidd (show W'.heap[W.heap.size]? = some (.cells #[(.slice A6 (ints (upto (fun x => (g.ou q x : Int)) g.l)).length c6)] 26 (0, 0)) by rw [hW]; exact hp_new rfl)
            have bw : Below W.heap.size W W' := by rw [hW]; exact bel_alloc _ _
            rw [← hW]
            clear hW
            have HT := hidd (hp_bel HT.out bw)
            have HN := hidd (HN.out.below bw)
            have HO := hidd (HO.out.below bw)
            have BE := hidd (bel_then BE.out bw)
            have SZ := hidd (Nat.le_trans SZ.out bw.size)
            refine hK _ _ (tcells HT.out) ?_
            clear hK K bw
            try simp only [Act.put, List.setIfInBounds_toArray, List.set_cons_zero, List.set_cons_succ]
            obtain ⟨W, rfl⟩ : ∃ X, X = W' := ⟨_, rfl⟩
            refine wpC_one (i := 7) (by kernel_rfl) rfl ?_
            intro K hK
            go_simp
            obtain ⟨W', hW⟩ : ∃ X, X = W.alloc (.cells #[(.slice A5 (ints (upto (fun x => (g.nx q x : Int)) g.l)).length c5)] 26) := ⟨_, rfl⟩
            have NN := hidd (HN.out.own.ne_new)
            have EN := hidd (show W'.heap[W.heap.size]? = some (.cells #[(.slice A5 (ints (upto (fun x => (g.nx q x : Int)) g.l)).length c5)] 26 (0, 0)) by rw [hW]; exact hp_new rfl)
            have bw : Below W.heap.size W W' := by rw [hW]; exact bel_alloc _ _
            rw [← hW]
            clear hW
            have HT := hidd (hp_bel HT.out bw)
            have HN := hidd (HN.out.below bw)
            have HO := hidd (HO.out.below bw)
            have EO := hidd (hp_bel EO.out bw)
            have BE := hidd (bel_then BE.out bw)
            have SZ := hidd (Nat.le_trans SZ.out bw.size)
            refine hK _ _ (tcells HT.out) ?_
            clear hK K bw
            try simp only [Act.put, List.setIfInBounds_toArray, List.set_cons_zero, List.set_cons_succ]
            obtain ⟨W, rfl⟩ : ∃ X, X = W' := ⟨_, rfl⟩
            refine wpC_one (i := 8) (by kernel_rfl) rfl ?_
            intro K hK
            refine step_app rfl _ _ _ rfl (w.heap.size + 1) 26 (.slice none 0 0) 24 Try.underlying27 info_ints rfl HN.out.own EN.out rfl rfl rfl LN.out (by decide) SZ.out ?_
            intro vn' W' ho hgr hle hli
            obtain ⟨AN, nN, cN, eN⟩ : ∃ A n c, vn' = .slice A n c := by obtain ⟨A, c, e⟩ := ho.slice; exact ⟨A, _, c, e⟩
            subst eN
            have PN := hidd (HN.out.push (by have := HZ.out; omega) ho hgr)
            have bw : Below (w.heap.size + 1) W W' := bel_own HN.out.own hgr SZ.out
            have HT := hidd (kept_own hgr HT.out (HN.out.own.ne_low (Nat.lt_succ_self _)))
            have EO := hidd (kept_own hgr EO.out ND.out)
            have HO2 := hidd (HO.out.keep HN.out.own hgr AP.out.symm)
            have AP := hidd (AP.out.symm.lies HO.out.own (Nat.le_refl _) hli)
            have HO := hidd HO2.out
            clear HO2
            have BE := hidd (BE.out.trans (bw.mono (Nat.le_succ _)))
            have SZ := hidd (Nat.le_trans SZ.out hle)
            refine hK _ _ (tcells HT.out) ?_
            clear hK K bw hgr ho hle hli HN EN
            try simp only [Act.put, List.setIfInBounds_toArray, List.set_cons_zero, List.set_cons_succ]
            obtain ⟨W, rfl⟩ : ∃ X, X = W' := ⟨_, rfl⟩
            refine wpC_one (i := 15) (by kernel_rfl) rfl ?_
            intro K hK
            refine step_app rfl _ _ _ rfl (w.heap.size + 1) 26 (.slice none 0 0) 24 Try.underlying27 info_ints rfl HO.out.own EO.out rfl rfl rfl LO.out (by decide) SZ.out ?_
            intro vo' W' ho hgr hle hli
            obtain ⟨AO, nO, cO, eO⟩ : ∃ A n c, vo' = .slice A n c := by obtain ⟨A, c, e⟩ := ho.slice; exact ⟨A, _, c, e⟩
            subst eO
            have PO := hidd (HO.out.push (by have := HZ.out; omega) ho hgr)
            have bw : Below (w.heap.size + 1) W W' := bel_own HO.out.own hgr SZ.out
            have HT := hidd (kept_own hgr HT.out (HO.out.own.ne_low (Nat.lt_succ_self _)))
            have PN2 := hidd (PN.out.keep HO.out.own hgr AP.out.symm)
            have AP := hidd (show Apart (.slice AN nN cN) (.slice AO nO cO) by obtain ⟨us, hus, _⟩ := PN.out; exact AP.out.symm.lies hus (Nat.le_refl _) hli)
            have PN := hidd PN2.out
            clear PN2
            have BE := hidd (BE.out.trans (bw.mono (Nat.le_succ _)))
            have SZ := hidd (Nat.le_trans SZ.out hle)
            refine hK _ _ (tcells HT.out) ?_
            clear hK K bw hgr ho hle hli HO EO
            try simp only [Act.put, List.setIfInBounds_toArray, List.set_cons_zero, List.set_cons_succ]
            obtain ⟨W, rfl⟩ : ∃ X, X = W' := ⟨_, rfl⟩
            refine wpC_of_any _ _ _ _ (by decide) ?_
            refine wpAny_take (i := 16) (v := ?_) rfl (by kernel_rfl) (by kernel_rfl) (by kernel_rfl) (fun _ _ _ h => h) (Or.inl ⟨by rfl, ?_⟩) ?_
            rotate_left
            · intro wx; go_simp; try with_reducible rfl
            try simp only [Act.put, List.setIfInBounds_toArray, List.set_cons_zero, List.set_cons_succ]
            refine wpAny_take (i := 17) (v := ?_) rfl (by kernel_rfl) (by kernel_rfl) (by kernel_rfl) (fun _ _ _ h => h) (Or.inl ⟨by rfl, ?_⟩) ?_
            rotate_left
            · intro wx; go_simp; try with_reducible rfl
            try simp only [Act.put, List.setIfInBounds_toArray, List.set_cons_zero, List.set_cons_succ]
            have h1 := (tcells HT.out).1
            have h2 := blkf HT.out 0
            refine wpAny_ready (rs := [18]) (by kernel_rfl) (by simp) (AllReady.cons rfl (fun K hK => ?_) AllReady.nil)
            go_simp
            clear h1 h2
            refine hK _ _ ?_
            clear hK K
            try simp only [Act.put, List.setIfInBounds_toArray, List.set_cons_zero, List.set_cons_succ]
            refine wpAny_take (i := 19) (v := ?_) rfl (by kernel_rfl) (by kernel_rfl) (by kernel_rfl) (fun _ _ _ h => h) (Or.inl ⟨by rfl, ?_⟩) ?_
            rotate_left
            · intro wx; go_simp; try with_reducible rfl
            try simp only [Act.put, List.setIfInBounds_toArray, List.set_cons_zero, List.set_cons_succ]
            refine wpAny_take (i := 20) (v := ?_) rfl (by kernel_rfl) (by kernel_rfl) (by kernel_rfl) (fun _ _ _ h => h) (Or.inl ⟨by rfl, ?_⟩) ?_
            rotate_left
            · intro wx; go_simp; try with_reducible rfl
            try simp only [Act.put, List.setIfInBounds_toArray, List.set_cons_zero, List.set_cons_succ]
            have h1 := (tcells (hp_set HT.out 0 (.slice AN nN cN))).2
            have h2 := blkf (hp_set HT.out 0 (.slice AN nN cN)) 1
            refine wpAny_ready (rs := [21]) (by kernel_rfl) (by simp) (AllReady.cons rfl (fun K hK => ?_) AllReady.nil)
            go_simp
            clear h1 h2
            refine hK _ _ ?_
            clear hK K
            refine wpAny_done (by kernel_rfl) ?_ _
            go_wp2_with fail
            go_roundw
            case rel => exact ⟨q + 1, by omega, by go_num, ⟨_, _, hp_set (hp_set HT.out 0 _) 1 _, ((PN.out.far (Nat.lt_succ_self _) _).far (Nat.lt_succ_self _) _).snoc_nx, ((PO.out.far (Nat.lt_succ_self _) _).far (Nat.lt_succ_self _) _).snoc_ou, AP.out⟩, (BE.out.setCell (Nat.le_refl _) _).setCell (Nat.le_refl _) _, hidd (by simpa [World.setCell] using SZ.out)⟩
            case measure => simp [intOf]; omega
          --NEG
    · have he : q = g.s := by omega
      subst he
      obtain ⟨vn, vo, hT, hn, hoo, _⟩ := HT.out
      have HT2 := hidd hT
      have HN := hidd hn
      have HOO := hidd hoo
      clear hT hn hoo
      go_wp2_with fail
      go_ret
      exact ⟨rfl, ⟨vn, vo, HT2.out, HN.out.rdLL, HOO.out.rdLL⟩, Hb.out⟩
end Go.Proofs.Ytcghcbdefajpgaa

/- Walks: the text of a group word, of the program and of the reference. -/
namespace Go.Proofs.Ytcghcbdefajpgaa
open Go.RowKit

def gch (k : Int) : Int := if 0 < k then 96 + k else 64 - k
def gtx (xs : List Int) : List Int := xs.map gch
theorem gtx_length (xs : List Int) : (gtx xs).length = xs.length := by simp [gtx]
theorem gtx_get (xs : List Int) (k : Nat) (hk : k < xs.length) : (gtx xs)[k]? = some (gch xs[k]) := by simp [gtx, hk]
/-- Numbers of states, or of their inverses. -/
def Nums (xs : List Int) : Prop := ∀ k, (hk : k < xs.length) → xs[k] ≠ 0 ∧ -16 ≤ xs[k] ∧ xs[k] ≤ 16
theorem Nums.of {g : Gm} (h : g.Ok) {xs : List Int} (hw : gwB g.s xs = true) : Nums xs := fun k hk => by
  have := (gwB_mem hw).2 _ (List.getElem_mem hk)
  have := h.s16
  omega
theorem take_succ_get {α : Type} (l : List α) (k : Nat) (hk : k < l.length) : l.take (k + 1) = l.take k ++ [l[k]] := by
  rw [List.take_add_one, List.getElem?_eq_getElem hk]; rfl

/-! ### GroupText -/
def gtR (m : Mc) (xs : List Int) : ByteArray × Int := if codeW m [xs] = 0 then (strOfNums (gtx xs), 0) else (⟨#[]⟩, 1)
theorem gw_code (m : Mc) (xs : List Int) : m.gwB xs = decide (codeW m [xs] = 0) := by
  unfold Mc.gwB codeW
  rw [all_one1]
  cases m.ok && gwB m.S.toNat xs <;> rfl
end Go.Proofs.Ytcghcbdefajpgaa

/- Walks: MultiplyWords, of the program and of the reference. -/
namespace Go.Proofs.Ytcghcbdefajpgaa
open Go.RowKit

/-- A nil slice has no capacity. -/
def NilOk (v : Value) : Prop := ∀ n c, v = .slice none n c → c = 0
theorem Own.nilOk {w : World} {base : Nat} {e : TypeId} {v : Value} {vs : List Value} (h : Own w base e v vs) : NilOk v := by
  intro n c hv
  rcases h.2 with ⟨h1, _⟩ | ⟨g, cap, cur, h1, _⟩
  · rw [h1] at hv; cases hv; rfl
  · rw [h1] at hv; cases hv
theorem RdI.row {w : World} {v : Value} {xs : List Int} (h : RdI w v xs) (hn : NilOk v) : ∃ (B : Option Addr) (d : Nat), v = .slice B (ints xs).length d ∧ (B = none → d = 0) ∧ Rd w B (ints xs) := by
  obtain ⟨A, c, e, hr⟩ := h
  exact ⟨A, c, by rw [ints_length]; exact e, fun hA => hn _ _ (by rw [e, hA]), hr⟩
theorem RdVV.lit {w : World} {rows : List Value} {uss : List (List Value)} (hl : rows.length = uss.length) (hl2 : rows.length ≤ 9223372036854775807)
    (h : ∀ (j : Nat) (r : Value) (us : List Value), rows[j]? = some r → uss[j]? = some us → ∃ (B : Option Addr) (d : Nat), r = .slice B us.length d ∧ (B = none → d = 0) ∧ Rd w B us) (t : TypeId) (n k c : Nat) (hn : n = w.heap.size) (hk : k = uss.length) :
    RdVV (w.alloc (.cells rows.toArray t)) (.slice (some ⟨n, 0, none⟩) k c) uss := by
  subst hk
  refine ⟨some ⟨n, 0, none⟩, c, rows, rfl, ⟨hl2, fun _ => ⟨n, 0, rfl, fun j v hj => ?_⟩⟩, hl, fun j r us h1 h2 => ?_⟩
  · rw [blkc (hp_new hn), Nat.zero_add]
    simpa using hj
  · obtain ⟨B, d, e1, e2, e3⟩ := h j r us h1 h2
    exact ⟨B, d, e1, e2, e3.below (bel_alloc _ _)⟩
theorem ints_one (xs : List Int) : ∀ u ∈ ints xs, u.oneCell' = true := by
  intro u hu
  unfold ints at hu
  rw [List.mem_map] at hu
  obtain ⟨x, _, rfl⟩ := hu
  rfl
theorem ints_flat (xss : List (List Int)) : (xss.map ints).flatten = ints xss.flatten := by
  induction xss with
  | nil => rfl
  | cons x xs ih => simp only [List.map_cons, List.flatten_cons, ih, ints_append]

/-! ### A list that is not too long -/
def limR (xs : List Int) : List Int × Int := if xs.length ≤ 40 then (xs, 0) else ([], 3)
set_option maxHeartbeats 1000000 in
theorem l02Join_any (v : Value) (uss : List (List Value)) (w : World) (hr : RdVV w v uss) (h1 : ∀ us ∈ uss, ∀ u ∈ us, u.oneCell' = true) (hlen : lens uss uss.length ≤ 1099511627776) :
    Calls Try.prog 26 #[v] w fun e w' => (∃ u, e = .returned u ∧ Own w' w.heap.size 2 u uss.flatten) ∧ Below w.heap.size w w' := by
  obtain ⟨A, c, rows, rfl, hr, hrl, hrows⟩ := hr
  have hl := hr.1
  rw [hrl] at hl
  have HR := hidd hr
  have HRL := hidd hrl
  have Hrows := hidd hrows
  have H1 := hidd h1
  have HL := hidd (lens_le uss)
  clear hr hrl hrows h1
  go_enter Try.func26, Try.ntmps26
  go_wp2
  obtain ⟨w1, hw1⟩ : ∃ w1, w1 = w.alloc (.cells #[] 2) := ⟨_, rfl⟩
  rw [← hw1]
  have Bel := hidd (show Below w.heap.size w w1 by rw [hw1]; exact bel_alloc _ _)
  have Ho := hidd (show Own w1 w.heap.size 2 (.slice (some ⟨w.heap.size, 0, none⟩) 0 0) [] by rw [hw1]; exact Own.empty w 2 w.heap.size (Nat.le_refl _))
  clear hw1
  go_loopw [3, 4] (fun u i wr => ∃ k : Nat, k ≤ uss.length ∧ i = .int .i64 k ∧ Hid (Own wr w.heap.size 2 u (uss.take k).flatten) ∧ Hid (Below w.heap.size w wr)) (fun _ i _ => uss.length - (intOf i).toNat)
  case atStart => exact ⟨0, Nat.zero_le _, rfl, Ho.out, Bel.out⟩
  case round =>
    obtain ⟨k, hk, rfl, Hok, Hb⟩ := hrel
    have hbase := Hb.out.size
    by_cases hlt : k < uss.length
    · have hkr : k < rows.length := by rw [HRL.out]; exact hlt
      obtain ⟨b, o, rfl, hc⟩ := (HR.out.below Hb.out).at_ (List.getElem?_eq_getElem hkr)
      obtain ⟨B, d, e2, e3, hr2⟩ := Hrows.out k rows[k] uss[k] (List.getElem?_eq_getElem hkr) (List.getElem?_eq_getElem hlt)
      rw [e2] at hc
      have Hf := hidd (flat_succ uss k uss[k] (List.getElem?_eq_getElem hlt))
      have Hr2 := hidd (hr2.below Hb.out)
      have E3 := hidd e3
      have ho1 := hidd (H1.out uss[k] (List.getElem_mem hlt))
      have hlen2 : (uss.take k).flatten.length + uss[k].length ≤ 1099511627776 := by
        rw [flat_len]
        have a := HL.out (k + 1) (by omega)
        rw [lens_succ uss k uss[k] (List.getElem?_eq_getElem hlt)] at a
        omega
      clear e2 e3 hr2
      go_wp2_with (at_builtin; refine app_src rfl _ _ _ rfl w.heap.size 2 (.int .i64 0) 8 Try.underlying26 info_i64 rfl Hok.out Hr2.out rfl rfl rfl ho1.out E3.out hlen2 (by decide) hbase ?_; intro v' w2 ho hgr; have Ho2 := hidd ho; have b2 := hidd (bel_own Hok.out hgr hbase); clear ho hgr)
      go_roundw
      case rel => exact ⟨k + 1, by omega, by go_num, by rw [Hf.out]; exact Ho2.out, Hb.out.trans b2.out⟩
      case measure => simp [intOf]; omega
    · have he : k = uss.length := by omega
      subst he
      have := Hok.out
      rw [List.take_of_length_le (Nat.le_refl _)] at this
      have Ho2 := hidd this
      clear this
      go_wp2
      go_ret
      exact ⟨⟨_, rfl, Ho2.out⟩, Hb.out⟩

/-! ### MultiplyWords -/
def mulR (m : Mc) (xs ys : List Int) : List Int × Int := if codeW m [xs, ys] = 0 then limR (xs ++ ys) else ([], 1)
theorem gw_code2 (m : Mc) (xs ys : List Int) : (m.gwB xs && m.gwB ys) = decide (codeW m [xs, ys] = 0) := by
  unfold Mc.gwB codeW
  cases h0 : m.ok <;> cases h1 : gwB m.S.toNat xs <;> cases h2 : gwB m.S.toNat ys <;> simp [h1, h2]
/-- Two lists, one behind the other. -/
theorem RdVV.two {w : World} {v u : Value} {xs ys : List Int} (h : RdI w v xs) (h' : RdI w u ys) (hv : NilOk v) (hu : NilOk u) (t : TypeId) (n : Nat) (hn : n = w.heap.size) :
    RdVV (w.alloc (.cells #[v, u] t)) (.slice (some ⟨n, 0, none⟩) 2 2) [ints xs, ints ys] :=
  RdVV.lit (rows := [v, u]) rfl (by simp) (fun j r us h1 h2 => by
    match j, h1, h2 with
    | 0, h1, h2 =>
      simp at h1 h2
      subst h1 h2
      exact h.row hv
    | 1, h1, h2 =>
      simp at h1 h2
      subst h1 h2
      exact h'.row hu) t n 2 2 hn rfl
theorem two_one (xs ys : List Int) : ∀ us ∈ [ints xs, ints ys], ∀ u ∈ us, u.oneCell' = true := by
  intro us hus
  simp at hus
  rcases hus with rfl | rfl
  · exact ints_one _
  · exact ints_one _
theorem two_flat (xs ys : List Int) : [ints xs, ints ys].flatten = ints (xs ++ ys) := by simp [ints]
theorem two_lens (xs ys : List Int) : lens [ints xs, ints ys] [ints xs, ints ys].length = xs.length + ys.length := by simp [lens, ints_length]

theorem limR_len (xs : List Int) : (limR xs).1.length ≤ 1048576 := by
  unfold limR
  split
  · rename_i h; exact Nat.le_trans h (by omega)
  · exact Nat.zero_le _
theorem mulR_len (m : Mc) (xs ys : List Int) : (mulR m xs ys).1.length ≤ 1048576 := by
  unfold mulR
  split
  · exact limR_len _
  · exact Nat.zero_le _
end Go.Proofs.Ytcghcbdefajpgaa

/- Walks: inverseOf of the program: a range over slices.Backward, by the kit's law for ranges over functions. -/
namespace Go.Proofs.Ytcghcbdefajpgaa
open Go.RowKit Go.Shelf

attribute [local go_sem] Oper.semAt_some

/-- What a round is handed: a place and a number of a small size. -/
abbrev BkEl := { p : Nat × Int // -1000 ≤ p.2 ∧ p.2 ≤ 1000 }
def bkEnc (x : BkEl) : Array Value := #[.int .i64 (x.1.1 : Int), .int .i64 x.1.2]
/-- What a round that goes on keeps: what lay below n, and the box that the iterator reads. -/
def BkKeeps (n B : Nat) (W W' : World) : Prop := Below n W W' ∧ ∀ x : Obj, W.heap[B]? = some x → x.isCells = true → W'.heap[B]? = some x
theorem bkK_t {n B : Nat} {a b c : World} (h : BkKeeps n B a b) (k : BkKeeps n B b c) : BkKeeps n B a c := ⟨h.1.trans k.1, fun x h1 h2 => k.2 x (h.2 x h1 h2) h2⟩
theorem bkK_b {n B : Nat} {w : World} (hn : n ≤ w.heap.size) (W : World) (l : Nat) (o o' : Obj) (hl : w.heap.size ≤ l) (h : W.heap[l]? = some o) (hc : o.isCells = false) (hw : o.isWalk = false) : BkKeeps n B W (W.putObj l o') :=
  ⟨belowK_b hn W l o o' hl h hc hw, fun x h1 h2 => by
    have hne : B ≠ l := by
      rintro rfl
      rw [h] at h1
      cases h1
      rw [hc] at h2
      cases h2
    exact (World.putObj_heap_other hne).trans h1⟩
/-- The last k of zs, the last one first. -/
def lastOnes (zs : List Int) (k : Nat) : List Int := (zs.drop (zs.length - k)).reverse
theorem lastOnes_zero (zs : List Int) : lastOnes zs 0 = [] := by simp [lastOnes]
theorem lastOnes_all (zs : List Int) : lastOnes zs zs.length = zs.reverse := by simp [lastOnes]
theorem lastOnes_succ (zs : List Int) {k : Nat} (h : k < zs.length) : lastOnes zs (k + 1) = lastOnes zs k ++ [zs[zs.length - 1 - k]'(by omega)] := by
  unfold lastOnes
  rw [show zs.length - (k + 1) = zs.length - 1 - k by omega, List.drop_eq_getElem_cons (by omega), show zs.length - 1 - k + 1 = zs.length - k by omega]
  simp

/-- The inverse of a word. -/
def invW (xs : List Int) : List Int := xs.reverse.map fun x => -x
def bkOut (ys : List BkEl) : List Int := ys.map fun y => -y.1.2
theorem bkOut_snoc (ys : List BkEl) (y : BkEl) : bkOut (ys ++ [y]) = bkOut ys ++ [-y.1.2] := by simp [bkOut]

end Go.Proofs.Ytcghcbdefajpgaa

/- Walks: InverseWord and CommutatorOf, of the program and of the reference. -/
namespace Go.Proofs.Ytcghcbdefajpgaa
open Go.RowKit

theorem invW_take (xs : List Int) {k : Nat} (h : k < xs.length) : ints ((lastOnes xs (k + 1)).map fun x => -x) = ints ((lastOnes xs k).map fun x => -x) ++ [.int .i64 (-(xs[xs.length - 1 - k]'(by omega)))] := by
  rw [lastOnes_succ xs h]
  simp [ints]
theorem lastOnes_len (xs : List Int) {k : Nat} (h : k ≤ xs.length) : (lastOnes xs k).length = k := by simp [lastOnes]; omega
theorem invW_len (xs : List Int) : (invW xs).length = xs.length := by simp [invW]
theorem gwB_small {g : Gm} (hok : g.Ok) {xs : List Int} (h : gwB g.s xs = true) : ∀ x ∈ xs, -1000 ≤ x ∧ x ≤ 1000 := fun x hx => by
  have h1 := (gwB_mem h).2 x hx
  have := hok.s16
  omega

/-! ### InverseWord -/
def ivwR (m : Mc) (xs : List Int) : List Int × Int := if codeW m [xs] = 0 then (invW xs, 0) else ([], 1)
theorem ivwR_len (m : Mc) (xs : List Int) (h : xs.length ≤ 1048576) : (ivwR m xs).1.length ≤ 1048576 := by
  unfold ivwR
  split
  · rw [invW_len]; exact h
  · exact Nat.zero_le _
end Go.Proofs.Ytcghcbdefajpgaa

/- Walks: CommutatorOf, of the program and of the reference. -/
namespace Go.Proofs.Ytcghcbdefajpgaa
open Go.RowKit

/-- Four lists, one behind the other. -/
theorem RdVV.four {w : World} {v1 v2 v3 v4 : Value} {a b c d : List Int} (h1 : RdI w v1 a) (h2 : RdI w v2 b) (h3 : RdI w v3 c) (h4 : RdI w v4 d) (n1 : NilOk v1) (n2 : NilOk v2) (n3 : NilOk v3) (n4 : NilOk v4) (t : TypeId) (n : Nat) (hn : n = w.heap.size) :
    RdVV (w.alloc (.cells #[v1, v2, v3, v4] t)) (.slice (some ⟨n, 0, none⟩) 4 4) [ints a, ints b, ints c, ints d] :=
  RdVV.lit (rows := [v1, v2, v3, v4]) rfl (by simp) (fun j r us e1 e2 => by
    match j, e1, e2 with
    | 0, e1, e2 =>
      simp at e1 e2
      subst e1 e2
      exact h1.row n1
    | 1, e1, e2 =>
      simp at e1 e2
      subst e1 e2
      exact h2.row n2
    | 2, e1, e2 =>
      simp at e1 e2
      subst e1 e2
      exact h3.row n3
    | 3, e1, e2 =>
      simp at e1 e2
      subst e1 e2
      exact h4.row n4) t n 4 4 hn rfl
theorem four_one (a b c d : List Int) : ∀ us ∈ [ints a, ints b, ints c, ints d], ∀ u ∈ us, u.oneCell' = true := by
  intro us hus
  simp at hus
  rcases hus with rfl | rfl | rfl | rfl <;> exact ints_one _
def com (xs ys : List Int) : List Int := invW xs ++ (invW ys ++ (xs ++ ys))
theorem four_flat (xs ys : List Int) : [ints (invW xs), ints (invW ys), ints xs, ints ys].flatten = ints (com xs ys) := by simp [ints, com]
theorem four_lens (xs ys : List Int) : lens [ints (invW xs), ints (invW ys), ints xs, ints ys] [ints (invW xs), ints (invW ys), ints xs, ints ys].length = 2 * xs.length + 2 * ys.length := by
  simp [lens, ints_length, invW_len]
  omega
def comR (m : Mc) (xs ys : List Int) : List Int × Int := if codeW m [xs, ys] = 0 then limR (com xs ys) else ([], 1)
theorem comR_len (m : Mc) (xs ys : List Int) : (comR m xs ys).1.length ≤ 1048576 := by
  unfold comR
  split
  · exact limR_len _
  · exact Nat.zero_le _

end Go.Proofs.Ytcghcbdefajpgaa

/- Walks: slices.Repeat of the program's dump, l02Power of the reference, PowerWord of both. -/
namespace Go.Proofs
open Go.Shelf Go.RowKit
end Go.Proofs
namespace Go.Proofs.Ytcghcbdefajpgaa
open Go.RowKit
/-! ### The list, so many times -/
def repl {α : Type} (l : List α) (c : Nat) : List α := (List.replicate c l).flatten
theorem repl_succ {α : Type} (l : List α) (c : Nat) : repl l (c + 1) = l ++ repl l c := by simp [repl, List.replicate_succ]
theorem repl_len {α : Type} (l : List α) (c : Nat) : (repl l c).length = l.length * c := by
  induction c with
  | zero => simp [repl]
  | succ c ih => rw [repl_succ, List.length_append, ih, Nat.mul_succ]; omega
theorem repl_get {α : Type} (l : List α) (c i : Nat) (h : i < l.length * c) : (repl l c)[i]? = l[i % l.length]? := by
  induction c generalizing i with
  | zero => simp at h
  | succ c ih =>
    rw [repl_succ, List.getElem?_append]
    by_cases hi : i < l.length
    · rw [if_pos hi, Nat.mod_eq_of_lt hi]
    · rw [if_neg hi, ih (i - l.length) (by rw [Nat.mul_succ] at h; omega), ← Nat.mod_eq_sub_mod (by omega)]
theorem repl_snoc {α : Type} (l : List α) (c : Nat) : repl l (c + 1) = repl l c ++ l := by
  induction c with
  | zero => simp [repl]
  | succ c ih => rw [repl_succ, ih, ← List.append_assoc, ← repl_succ, ih]
/-- The first m of it stand again at each multiple of the list's length. -/
theorem repl_shift {α : Type} (l : List α) (c n m : Nat) (hn : l.length ∣ n) (hm : n + m ≤ l.length * c) : ((repl l c).drop n).take m = (repl l c).take m := by
  apply List.ext_getElem?
  intro i
  rw [List.getElem?_take, List.getElem?_take]
  by_cases hi : i < m
  · rw [if_pos hi, if_pos hi, List.getElem?_drop, repl_get l c (n + i) (by omega), repl_get l c i (by omega)]
    obtain ⟨d, rfl⟩ := hn
    rw [Nat.mul_add_mod]
  · rw [if_neg hi, if_neg hi]
/-- A copy of what stands there behind it. -/
theorem part_splice (l : List Value) (n k m : Nat) (z : Value) (hl : l.length = n) (hk : k + m ≤ n) (cs : List Value) (hc : (l.drop k).take m = cs) : _root_.Go.splice (part l n k z) k cs = part l n (k + m) z := by
  subst hc
  have hm : ((l.drop k).take m).length = m := by simp; omega
  unfold _root_.Go.splice part
  rw [hm]
  have h1 : (l.take k ++ List.replicate (n - k) z).take k = l.take k := by
    have e : (l.take k).length = k := by simp; omega
    rw [List.take_append_of_le_length (by omega), List.take_of_length_le (by omega)]
  have h2 : (l.take k ++ List.replicate (n - k) z).drop (k + m) = List.replicate (n - (k + m)) z := by
    have e : (l.take k).length = k := by simp; omega
    rw [List.drop_append, e, show k + m - k = m by omega, List.drop_eq_nil_of_le (by rw [e]; omega), List.nil_append, List.drop_replicate]
    congr 1
    omega
  rw [h1, h2, ← List.append_assoc, List.take_add]
theorem part_take (l : List Value) (n k m : Nat) (z : Value) (hl : l.length = n) (hk : k ≤ n) (hm : m ≤ k) : (part l n k z).take m = l.take m := by
  unfold part
  rw [List.take_append_of_le_length (by simp; omega), List.take_take, Nat.min_eq_left hm]
theorem info_sz64 : (Try.prog.info? 2).map (·.size) = some 1 := by kernel_rfl

/-- A slice of the call's own that is as long as it is roomy. -/
theorem Own.full {w : World} {base g n : Nat} {e : TypeId} {vs : List Value} (h : Own w base e (.slice (some ⟨g, 0, none⟩) n n) vs) : ∃ cur : Array Value, w.heap[g]? = some (.cells cur e (0, 0)) ∧ cur.size = n ∧ cur.toList = vs := by
  have hn := h.rd.1
  rcases h.2 with ⟨h1, _⟩ | ⟨g', cap, cur, h1, _, h3, _, h5, h6, h7⟩
  · cases h1
  · simp only [Value.slice.injEq, Option.some.injEq, Addr.mk.injEq] at h1
    obtain ⟨⟨rfl, _⟩, h8, rfl⟩ := h1
    refine ⟨cur, h3, by omega, ?_⟩
    rw [Nat.mul_one, List.take_of_length_le (by rw [Array.length_toList, h6]; omega)] at h7
    exact h7
theorem Own.of_full {w : World} {base g n : Nat} {e : TypeId} {vs : List Value} (h : w.heap[g]? = some (.cells vs.toArray e (0, 0))) (hn : vs.length = n) (hb : base ≤ g) (hm : n ≤ 1099511627776) : Own w base e (.slice (some ⟨g, 0, none⟩) n n) vs :=
  ⟨by omega, .inr ⟨g, n, _, by rw [hn], hb, h, by omega, by unfold maxLen; omega, by simp [hn], by simp⟩⟩

theorem rep_prep {w w1 : World} {A : Option Addr} {xs : List Int} {c tot n0 : Nat} {L : List Value} (HR : Rd w A (ints xs)) (Htot : tot = xs.length * c) (hn1 : n0 ≤ tot) (hn2 : n0 ≤ xs.length) (HLd : L = (repl (ints xs) c).take n0) (hcl : L.length = n0)
    (ho : Own w1 w.heap.size 2 (.slice (some ⟨w.heap.size, 0, none⟩) tot tot) (List.replicate tot (.int .i64 0))) (hg : w.grownBy w1 none) :
    Hid (Below w.heap.size w w1) ∧ Hid (w1.heap[w.heap.size]? = some (.cells (List.replicate tot (Value.int .i64 0)).toArray 2 (0, 0))) ∧ Hid (0 < L.length → ∃ ad, A = some ad ∧ ∀ (j : Nat) (v : Value), L[j]? = some v → w1.cell? (ad.add j) = some v) := by
  have Bel : Below w.heap.size w w1 := bel_grown (Below.refl _ w) hg (Nat.le_refl _) (fun k e => by cases e)
  refine ⟨hidd Bel, hidd ?_, hidd fun hpos => ?_⟩
  · obtain ⟨cur, h3, h6, h7⟩ := ho.full
    rw [h3, ← h7]
  · rw [hcl] at hpos
    have hne : ints xs ≠ [] := fun e => by rw [← List.length_eq_zero_iff, ints_length] at e; omega
    obtain ⟨b, o, hA, hcc⟩ := (HR.below Bel).2 hne
    refine ⟨⟨b, o, none⟩, hA, fun j v hj => ?_⟩
    have ha : (⟨b, o, none⟩ : Addr).add j = ⟨b, o + j, none⟩ := by unfold Addr.add; split <;> simp_all
    rw [ha]
    rw [HLd, List.getElem?_take] at hj
    split at hj
    · rename_i hlt
      rw [repl_get (ints xs) c j (by rw [ints_length, ← Htot]; omega), ints_length, Nat.mod_eq_of_lt (by omega)] at hj
      exact hcc j v hj
    · cases hj
theorem repl_one (xs : List Int) (c : Nat) : ∀ v ∈ (repl (ints xs) c), v.oneCell' = true := fun v hv => by
  unfold repl at hv
  obtain ⟨l, hl1, hl2⟩ := List.mem_flatten.1 hv
  rw [List.mem_replicate] at hl1
  rw [hl1.2] at hl2
  exact ints_one xs v hl2

end Go.Proofs.Ytcghcbdefajpgaa

/- Walks: PowerWord, of the program and of the reference. -/
namespace Go.Proofs.Ytcghcbdefajpgaa
open Go.RowKit

theorem repl_ints (xs : List Int) (c : Nat) : repl (ints xs) c = ints (repl xs c) := by
  induction c with
  | zero => simp [repl, ints]
  | succ c ih => rw [repl_succ, repl_succ, ints_append, ih]
def powL (xs : List Int) (k : Int) : List Int := repl (if k < 0 then invW xs else xs) k.natAbs
section
variable {P : Program} {w : World} {ops : Array Oper} {rest : List Oper} {o : Oper} {a : Act} {Q : Exit → Act → World → Prop}
/-- append(v, src...), with the word on where the new slice lies. -/
theorem app_srcL (hgd : o.guard = none) (s x : Operand) (t : TypeId) (hop : o.op = .call { callee := .builtin .append, args := #[s, x], argTypes := #[t, t] }) (base : Nat) (e : TypeId) (z : Value) (bytes : Nat) (h1 : P.underlying t = some (.slice e))
    (hinfo : (P.info? e).map (fun i => (i.zero, i.size, i.bytes)) = some (some z, 1, bytes)) (hz : z.cells.size = 1) {v : Value} {vs us : List Value} {A : Option Addr} {n c : Nat} (hown : Own w base e v vs) (hr : Rd w A us) (hn : n = us.length) (hs : a.eval s = v) (hx : a.eval x = .slice A n c) (h1c : ∀ u ∈ us, u.oneCell' = true)
    (hnil : A = none → c = 0) (hlen : vs.length + us.length ≤ 1099511627776) (hby : bytes ≤ 64) (hbase : base ≤ w.heap.size)
    (hK : ∀ v' w', Own w' base e v' (vs ++ us) → w.grownBy w' v.ownBlock → Lies w.heap.size v v' → wpList P ops Q rest (a.put o.dst v') w') : wpList P ops Q (o :: rest) a w := by
  obtain ⟨i, hi, hz0, hz1, hz2⟩ := info_parts hinfo
  subst hn
  have hmul : (vs.length + us.length) * bytes ≤ 1099511627776 * 64 := Nat.mul_le_mul hlen hby
  cases A with
  | none =>
    have hu : us = [] := by
      apply Decidable.byContradiction
      intro hne
      obtain ⟨b, o, h, _⟩ := hr.2 hne
      cases h
    subst hu
    rw [hnil rfl] at hx
    refine wpList_append_own_none hgd s x t hop base e i 1 h1 hi v vs.length vs hs hown hx ?_
    exact hK v w (by rw [List.append_nil]; exact hown) (World.grownBy.refl _ _) (Lies.refl _ _)
  | some ad =>
    refine wpList_append_own_at _ hgd s x t hop base e i z 1 bytes h1 hi hz0 hz1 hz2 hz (by decide) v vs.length vs hs hown ad us.length c us hx (by omega) ?_ h1c (by unfold maxLen; omega) (by omega) hbase ?_
    · intro j u hj
      obtain ⟨b, o, hA, hc⟩ := hr.2 (fun e => by rw [e] at hj; simp at hj)
      cases hA
      have hadd : (⟨b, o, none⟩ : Addr).add j = ⟨b, o + j, none⟩ := by unfold Addr.add; split <;> simp_all
      rw [hadd]; exact hc j u hj
    · intro v' w' ho hg _ hat
      have ho' : Own w' base e v' (vs ++ us) := by unfold Own; rw [List.length_append]; exact ho
      refine hK v' w' ho' hg ?_
      rcases hat with h | h
      · exact .inl h
      · exact .inr ⟨_, h, Nat.le_refl _⟩
end
/-! ### PowerWord -/
def powR (m : Mc) (xs : List Int) (k : Int) : List Int × Int := if codeW m [xs] = 0 then (if -40 ≤ k ∧ k ≤ 40 then limR (powL xs k) else ([], 2)) else ([], 1)
theorem powR_len (m : Mc) (xs : List Int) (k : Int) : (powR m xs k).1.length ≤ 1048576 := by
  unfold powR
  split
  · split
    · exact limR_len _
    · exact Nat.zero_le _
  · exact Nat.zero_le _
end Go.Proofs.Ytcghcbdefajpgaa

/- Walks: the trivial states, of the reference. -/
namespace Go.Proofs.Ytcghcbdefajpgaa
open Go.RowKit

/-! ### An array of so many cells -/
def av (f : Nat → Value) (n : Nat) : Array Value := ((List.range n).map f).toArray
theorem av_size (f : Nat → Value) (n : Nat) : (av f n).size = n := by simp [av]
theorem av_get (f : Nat → Value) {n j : Nat} (h : j < n) : (av f n)[j]? = some (f j) := by simp [av, h]
theorem av_set (f : Nat → Value) (n q : Nat) (v : Value) : (av f n).setIfInBounds q v = av (fun j => if j = q then v else f j) n := by
  apply Array.ext_getElem?
  intro j
  by_cases hj : j < n
  · rw [av_get _ hj, Array.getElem?_setIfInBounds]
    by_cases e : q = j
    · subst e
      simp [av, hj]
    · rw [if_neg e, av_get _ hj, if_neg (fun h => e h.symm)]
  · rw [Array.getElem?_eq_none (by simp [av]; omega), Array.getElem?_eq_none (by simp [av]; omega)]
theorem av_congr {f f' : Nat → Value} {n : Nat} (h : ∀ j, j < n → f j = f' j) : av f n = av f' n := by
  unfold av
  congr 1
  exact List.map_congr_left fun j hj => h j (List.mem_range.1 hj)
theorem av_one {f : Nat → Value} {n : Nat} (h : ∀ j, (f j).oneCell' = true) : ∀ v ∈ (av f n).toList, v.oneCell' = true := by
  intro v hv
  simp [av] at hv
  obtain ⟨j, _, rfl⟩ := hv
  exact h j
def bv (F : Nat → Bool) (n : Nat) : Array Value := av (fun j => .bool (F j)) n
def upd (F : Nat → Bool) (q : Nat) (b : Bool) : Nat → Bool := fun j => if j = q then b else F j
theorem upd_same (F : Nat → Bool) (q : Nat) (b : Bool) : upd F q b q = b := by simp [upd]
theorem upd_ne (F : Nat → Bool) (b : Bool) {q j : Nat} (h : j ≠ q) : upd F q b j = F j := by simp [upd, h]
theorem bv_set (F : Nat → Bool) (n q : Nat) (b : Bool) : (bv F n).setIfInBounds q (.bool b) = bv (upd F q b) n := by
  unfold bv
  rw [av_set]
  refine av_congr fun j _ => ?_
  unfold upd
  split <;> rfl
theorem bv_get (F : Nat → Bool) {n j : Nat} (h : j < n) : (bv F n)[j]? = some (.bool (F j)) := av_get _ h

theorem a16iB (f : Nat → Value) : (Try.prog.info? 81).map (·.size) = some (av f 16).size := by rw [av_size]; kernel_rfl
/-- A whole array is read out of a variable. -/
theorem ldAB {ops : Array Oper} {rest : List Oper} {o : Oper} {a : Act} {w : World} {Q : Exit → Act → World → Prop} (hw : Region.wanted o (yielded ops a.tmps) = true) (x : Operand) (ho : o.op = .load 81 x) (g : Nat) (f : Nat → Value) {t : TypeId} {fr : Nat × Nat}
    (hg : w.heap[g]? = some (.cells (av f 16) t fr)) (hx : a.eval x = .pointer (some ⟨g, 0, none⟩)) (h : wpList Try.prog ops Q rest (a.put o.dst (.agg (av f 16))) w) : wpList Try.prog ops Q (o :: rest) a w := by
  have e : (av f 16).extract 0 (0 + 16) = av f 16 := by rw [show 0 + 16 = (av f 16).size from (av_size f 16).symm]; simp
  refine wpList_load_at_g hw 81 x ho g 0 16 hx t (av f 16) fr _ hg Try.underlying81 rfl (by kernel_rfl) (by rw [av_size]; omega) ?_
  rw [e]; exact h
/-- A whole array is written into a variable. -/
theorem stAB {ops : Array Oper} {rest : List Oper} {o : Oper} {a : Act} {w : World} {Q : Exit → Act → World → Prop} (hgd : o.guard = none) (x y : Operand) (ho : o.op = .store 81 x y) (g : Nat) (f : Nat → Value) (hf : ∀ j, (f j).oneCell' = true) {t : TypeId} {old : Array Value}
    (hg : w.heap[g]? = some (.cells old t (0, 0))) (hold : old.size = 16) (hx : a.eval x = .pointer (some ⟨g, 0, none⟩)) (hy : a.eval y = .agg (av f 16)) (h : wpList Try.prog ops Q rest (a.put o.dst undef) (w.setRow g (av f 16))) : wpList Try.prog ops Q (o :: rest) a w := by
  have e : splice old 0 (av f 16) = av f 16 := by
    apply Array.ext_getElem?
    intro j
    rw [splice_get _ _ _ (by rw [av_size, hold]; omega), av_size]
    by_cases hj : j < 16
    · rw [if_pos (by omega), Nat.sub_zero]
    · rw [if_neg (by omega), Array.getElem?_eq_none (by rw [hold]; omega), Array.getElem?_eq_none (by rw [av_size]; omega)]
  refine wpList_store_at hgd 81 x y ho g 0 16 (av f 16) hx hy t old hg (by kernel_rfl) (av_size f 16) (by rw [hold]; omega) (av_one hf) ?_
  rw [e]; exact h
theorem a16iI (f : Nat → Value) : (Try.prog.info? 79).map (·.size) = some (av f 16).size := by rw [av_size]; kernel_rfl
/-- A whole array is read out of a variable. -/
theorem ldAI {ops : Array Oper} {rest : List Oper} {o : Oper} {a : Act} {w : World} {Q : Exit → Act → World → Prop} (hw : Region.wanted o (yielded ops a.tmps) = true) (x : Operand) (ho : o.op = .load 79 x) (g : Nat) (f : Nat → Value) {t : TypeId} {fr : Nat × Nat}
    (hg : w.heap[g]? = some (.cells (av f 16) t fr)) (hx : a.eval x = .pointer (some ⟨g, 0, none⟩)) (h : wpList Try.prog ops Q rest (a.put o.dst (.agg (av f 16))) w) : wpList Try.prog ops Q (o :: rest) a w := by
  have e : (av f 16).extract 0 (0 + 16) = av f 16 := by rw [show 0 + 16 = (av f 16).size from (av_size f 16).symm]; simp
  refine wpList_load_at_g hw 79 x ho g 0 16 hx t (av f 16) fr _ hg Try.underlying79 rfl (by kernel_rfl) (by rw [av_size]; omega) ?_
  rw [e]; exact h
/-- A whole array is written into a variable. -/
theorem stAI {ops : Array Oper} {rest : List Oper} {o : Oper} {a : Act} {w : World} {Q : Exit → Act → World → Prop} (hgd : o.guard = none) (x y : Operand) (ho : o.op = .store 79 x y) (g : Nat) (f : Nat → Value) (hf : ∀ j, (f j).oneCell' = true) {t : TypeId} {old : Array Value}
    (hg : w.heap[g]? = some (.cells old t (0, 0))) (hold : old.size = 16) (hx : a.eval x = .pointer (some ⟨g, 0, none⟩)) (hy : a.eval y = .agg (av f 16)) (h : wpList Try.prog ops Q rest (a.put o.dst undef) (w.setRow g (av f 16))) : wpList Try.prog ops Q (o :: rest) a w := by
  have e : splice old 0 (av f 16) = av f 16 := by
    apply Array.ext_getElem?
    intro j
    rw [splice_get _ _ _ (by rw [av_size, hold]; omega), av_size]
    by_cases hj : j < 16
    · rw [if_pos (by omega), Nat.sub_zero]
    · rw [if_neg (by omega), Array.getElem?_eq_none (by rw [hold]; omega), Array.getElem?_eq_none (by rw [av_size]; omega)]
  refine wpList_store_at hgd 79 x y ho g 0 16 (av f 16) hx hy t old hg (by kernel_rfl) (av_size f 16) (by rw [hold]; omega) (av_one hf) ?_
  rw [e]; exact h
/-! ### Trivial states of a machine -/
def Gm.idr (g : Gm) (q : Nat) : Bool := (List.range g.l).all fun x => decide (g.ou q x = x)
def Gm.tv (g : Gm) : Nat → Nat → Bool := Ytcghcbdefajpgaa.tv g.l g.nx g.idr
def Gm.tr (g : Gm) (q : Nat) : Bool := trv g.s g.l g.nx g.idr q
/-- The states that are trivial, as the array of the reference says. -/
def Gm.tr16 (g : Gm) (q : Nat) : Bool := decide (q < g.s) && g.tr q
theorem Gm.idr_iff (g : Gm) (q : Nat) : g.idr q = true ↔ ∀ x, x < g.l → g.ou q x = x := by simp [Gm.idr]

def TI (g : Gm) (r : Nat) (F : Nat → Bool) : Prop := (∀ j, g.s ≤ j → F j = false) ∧ (∀ q, q < g.s → g.tr q = true → F q = true) ∧ (∀ q, q < g.s → F q = true → ∀ j, j < r → g.tv j q = true)
def TQ (g : Gm) (r q : Nat) (F : Nat → Bool) : Prop := TI g r F ∧ ∀ p, p < q → F p = true → ∀ j, j < r + 1 → g.tv j p = true
def TX (g : Gm) (r q x : Nat) (F : Nat → Bool) : Prop := TQ g r q F ∧ (F q = true → ∀ y, y < x → g.ou q y = y ∧ ∀ j, j < r → g.tv j (g.nx q y) = true)
theorem TI.start (g : Gm) : TI g 0 (fun j => decide (j < g.s)) := ⟨fun j hj => by simp; omega, fun q hq _ => by simp [hq], fun q hq _ j hj => by omega⟩
theorem TI.row {g : Gm} {r : Nat} {F : Nat → Bool} (h : TI g r F) : TQ g r 0 F := ⟨h, fun p hp => by omega⟩
theorem TQ.row {g : Gm} {r q : Nat} {F : Nat → Bool} (h : TQ g r q F) : TX g r q 0 F := ⟨h, fun _ y hy => by omega⟩
theorem TX.step {g : Gm} (hok : g.Ok) {r q x : Nat} {F : Nat → Bool} (h : TX g r q x F) (hq : q < g.s) (hx : x < g.l) {b : Bool} (hb : b = (F q && (decide (g.ou q x = x) && F (g.nx q x)))) : TX g r q (x + 1) (upd F q b) := by
  obtain ⟨⟨⟨h1, h2, h3⟩, h4⟩, h5⟩ := h
  have hle : ∀ p, upd F q b p = true → F p = true := fun p hp => by
    by_cases e : p = q
    · subst e
      rw [upd_same, hb, Bool.and_eq_true] at hp
      exact hp.1
    · rwa [upd_ne F b e] at hp
  refine ⟨⟨⟨fun j hj => ?_, fun p hp ht => ?_, fun p hp hF => h3 p hp (hle p hF)⟩, fun p hp hF => ?_⟩, fun hF y hy => ?_⟩
  · rw [upd_ne F b (by omega)]; exact h1 j hj
  · by_cases e : p = q
    · subst e
      rw [upd_same, hb, h2 p hp ht, Bool.true_and, h2 _ (hok.nlt p x hp hx) (trv_next g.s hok.nlt hp hx ht), Bool.and_true]
      exact decide_eq_true ((g.idr_iff p).1 (trv_idr g.s ht) x hx)
    · rw [upd_ne F b e]; exact h2 p hp ht
  · exact h4 p hp (hle p hF)
  · rw [upd_same, hb] at hF
    simp only [Bool.and_eq_true, decide_eq_true_eq] at hF
    by_cases e : y < x
    · exact h5 hF.1 y e
    · obtain rfl : y = x := by omega
      exact ⟨hF.2.1, h3 _ (hok.nlt q y hq hx) hF.2.2⟩
theorem TX.row_end {g : Gm} {r q : Nat} {F : Nat → Bool} (h : TX g r q g.l F) (hq : q < g.s) : TQ g r (q + 1) F := by
  obtain ⟨h1, h2⟩ := h
  refine ⟨h1.1, fun p hp hF => ?_⟩
  by_cases e : p < q
  · exact h1.2 p e hF
  · obtain rfl : p = q := by omega
    have h3 := h2 hF
    intro j hj
    cases j with
    | zero => exact (g.idr_iff p).2 fun y hy => (h3 y hy).1
    | succ j => exact (tv_succ j p).2 ⟨h1.1.2.2 p hq hF j (by omega), fun y hy => (h3 y hy).2 j (by omega)⟩
theorem TQ.all {g : Gm} {r : Nat} {F : Nat → Bool} (h : TQ g r g.s F) : TI g (r + 1) F := ⟨h.1.1, h.1.2.1, fun q hq hF => h.2 q hq hF⟩
theorem TI.all {g : Gm} {F : Nat → Bool} (h : TI g (g.s + 1) F) : bv F 16 = bv g.tr16 16 := by
  refine av_congr fun j _ => ?_
  congr 1
  unfold Gm.tr16
  by_cases hj : j < g.s
  · rw [decide_eq_true hj, Bool.true_and, Bool.eq_iff_iff]
    exact ⟨fun hF => h.2.2 j hj hF g.s (Nat.lt_succ_self _), fun ht => h.2.1 j hj ht⟩
  · rw [decide_eq_false hj, Bool.false_and]
    exact h.1 j (by omega)

set_option maxRecDepth 100000 in
set_option maxHeartbeats 1000000 in
theorem l01Trivial_any (g : Gm) (hok : g.Ok) (cs : Array Value) (hg : g.Is cs) (w : World) :
    Calls Try.prog 44 #[.agg cs] w fun e w' => e = .returned (.agg (bv g.tr16 16)) ∧ Below w.heap.size w w' := by
  have c0 := hg.l
  have c1 := hg.s
  have HG := hidd hg
  have HO := hidd hok
  clear hg hok
  go_enter Try.func44, Try.ntmps44
  go_wp2_with fail
  obtain ⟨w1, hw1⟩ : ∃ w1, w1 = ((w.alloc (.cells cs 31)).alloc (.cells (bv (fun _ => false) 16) 81)).alloc (.cells (bv (fun _ => false) 16) 81) := ⟨_, rfl⟩
  rw [show (#[Value.bool false, Value.bool false, Value.bool false, Value.bool false, Value.bool false, Value.bool false, Value.bool false, Value.bool false, Value.bool false, Value.bool false, Value.bool false, Value.bool false, Value.bool false, Value.bool false, Value.bool false, Value.bool false] : Array Value) = bv (fun _ => false) 16 from rfl, ← hw1]
  have Bel := hidd (show Below w.heap.size w w1 by rw [hw1]; exact (((Below.refl _ _).alloc (Nat.le_refl _) _).alloc (by simp) _).alloc (by simp; omega) _)
  have NA := hidd (show w1.heap[w.heap.size]? = some (.cells cs 31 (0, 0)) by rw [hw1]; exact hp_old (hp_old (hp_new rfl)))
  have N0 := hidd (show w1.heap[w.heap.size + 1]? = some (.cells (bv (fun _ => false) 16) 81 (0, 0)) by rw [hw1]; exact hp_old (hp_new (by simp)))
  have N1 := hidd (show w1.heap[w.heap.size + 1 + 1]? = some (.cells (bv (fun _ => false) 16) 81 (0, 0)) by rw [hw1]; exact hp_new (by simp))
  clear hw1 c0 c1
  have s16 := HO.out.s16
  have l3 := HO.out.l3
  go_loopw [4] (fun i wr => ∃ q : Nat, q ≤ g.s ∧ i = .int .i64 q ∧ Hid (Below w.heap.size w wr) ∧ Hid (wr.heap[w.heap.size]? = some (.cells cs 31 (0, 0))) ∧ Hid (wr.heap[w.heap.size + 1]? = some (.cells (bv (fun _ => false) 16) 81 (0, 0))) ∧ Hid (wr.heap[w.heap.size + 1 + 1]? = some (.cells (bv (fun j => decide (j < q)) 16) 81 (0, 0)))) (fun i _ => g.s - (intOf i).toNat)
  case atStart => exact ⟨0, Nat.zero_le _, rfl, Bel, NA, N0, hidd (by rw [show (fun j => decide (j < 0)) = fun _ => false from by funext j; simp]; exact N1.out)⟩
  case round =>
    obtain ⟨q, hq, rfl, Hb, MA, M0, M1⟩ := hrel
    have a1 := (Gm.At.of_is HG.out MA.out).s
    by_cases hlt : q < g.s
    · have d1 := (blkc M1.out q).trans (bv_get _ (by omega))
      have f1 := blkf M1.out q
      have hqs : (q : Int) < g.s := by omega
      have j1 : (q : Int) < 16 := by omega
      have Heq := hidd (bv_set (fun j => decide (j < q)) 16 q true)
      have Hfe := hidd (show upd (fun j => decide (j < q)) q true = fun j => decide (j < q + 1) by
        funext j
        unfold upd
        by_cases e : j = q
        · subst e; simp
        · rw [if_neg e, Bool.eq_iff_iff]; simp only [decide_eq_true_eq]; omega)
      go_wp2_with fail
      go_roundw
      case rel =>
        refine ⟨q + 1, by omega, by go_num, hidd (Hb.out.setCell (by dsimp only; omega) _), hidd (hp_far MA.out (by dsimp only; omega) _), hidd (hp_far M0.out (by dsimp only; omega) _), hidd ?_⟩
        have := hp_set M1.out q (.bool true)
        rw [Heq.out, Hfe.out] at this
        exact this
      case measure => simp [intOf]; omega
    · have he : q = g.s := by omega
      subst he
      go_wp2_with fail
      clear a1
      have HT0 := hidd (TI.start g)
      obtain ⟨F0, hF0⟩ : ∃ F0 : Nat → Bool, F0 = fun j => decide (j < g.s) := ⟨_, rfl⟩
      rw [← hF0] at HT0 M1
      clear hF0
      obtain ⟨wo, rfl⟩ : ∃ wo : World, wo = wr := ⟨_, rfl⟩
      go_loopw [5] (fun i wr => ∃ (r : Nat) (F : Nat → Bool), r ≤ g.s + 1 ∧ i = .int .i64 r ∧ Hid (TI g r F) ∧ Hid (Below w.heap.size w wr) ∧ Hid (wr.heap[w.heap.size]? = some (.cells cs 31 (0, 0))) ∧ Hid (wr.heap[w.heap.size + 1]? = some (.cells (bv (fun _ => false) 16) 81 (0, 0))) ∧ Hid (wr.heap[w.heap.size + 1 + 1]? = some (.cells (bv (F) 16) 81 (0, 0)))) (fun i _ => g.s + 1 - (intOf i).toNat)
      case atStart => exact ⟨0, F0, Nat.zero_le _, rfl, HT0, Hb, MA, M0, M1⟩
      case round =>
        clear Hb MA M0 M1
        obtain ⟨r, F, hr, rfl, HTI, Hb, MA, M0, M1⟩ := hrel
        have a1 := (Gm.At.of_is HG.out MA.out).s
        by_cases hrs : r ≤ g.s
        · go_wp2_with fail
          clear a1
          obtain ⟨wo2, rfl⟩ : ∃ wo : World, wo = wr := ⟨_, rfl⟩
          have HTQ := hidd HTI.out.row
          go_loopw [6] (fun i wr => ∃ (q : Nat) (F : Nat → Bool), q ≤ g.s ∧ i = .int .i64 q ∧ Hid (TQ g r q F) ∧ Hid (Below w.heap.size w wr) ∧ Hid (wr.heap[w.heap.size]? = some (.cells cs 31 (0, 0))) ∧ Hid (wr.heap[w.heap.size + 1]? = some (.cells (bv (fun _ => false) 16) 81 (0, 0))) ∧ Hid (wr.heap[w.heap.size + 1 + 1]? = some (.cells (bv (F) 16) 81 (0, 0)))) (fun i _ => g.s - (intOf i).toNat)
          case atStart => exact ⟨0, F, Nat.zero_le _, rfl, HTQ, Hb, MA, M0, M1⟩
          case round =>
            clear Hb MA M0 M1 HTI HTQ F
            obtain ⟨q, F, hq, rfl, HTQ, Hb, MA, M0, M1⟩ := hrel
            have a1 := (Gm.At.of_is HG.out MA.out).s
            by_cases hqs : q < g.s
            · go_wp2_with fail
              clear a1
              obtain ⟨wo3, rfl⟩ : ∃ wo : World, wo = wr := ⟨_, rfl⟩
              have HTX := hidd HTQ.out.row
              go_loopw [7] (fun i wr => ∃ (x : Nat) (F : Nat → Bool), x ≤ g.l ∧ i = .int .i64 x ∧ Hid (TX g r q x F) ∧ Hid (Below w.heap.size w wr) ∧ Hid (wr.heap[w.heap.size]? = some (.cells cs 31 (0, 0))) ∧ Hid (wr.heap[w.heap.size + 1]? = some (.cells (bv (fun _ => false) 16) 81 (0, 0))) ∧ Hid (wr.heap[w.heap.size + 1 + 1]? = some (.cells (bv (F) 16) 81 (0, 0)))) (fun i _ => g.l - (intOf i).toNat)
              case atStart => exact ⟨0, F, Nat.zero_le _, rfl, HTX, Hb, MA, M0, M1⟩
              case round =>
                clear Hb MA M0 M1 HTQ HTX F
                obtain ⟨x, F, hx, rfl, HTX, Hb, MA, M0, M1⟩ := hrel
                have A2 := hidd (Gm.At.of_is HG.out MA.out)
                have a1 := A2.out.l
                by_cases hxl : x < g.l
                · have a2 := A2.out.n q x (by omega) (by omega)
                  have a3 := A2.out.o q x (by omega) (by omega)
                  rw [Nat.zero_add] at a2 a3
                  have hn256 := A2.out.nb q x (by omega) (by omega)
                  have ho256 := A2.out.ob q x (by omega) (by omega)
                  have hns := HO.out.nlt q x hqs hxl
                  have d1 := (blkc M1.out q).trans (bv_get _ (by omega))
                  have d2 := (blkc M1.out (g.nx q x)).trans (bv_get _ (by omega))
                  have f1 := blkf M1.out q
                  have j1 : (q : Int) < 16 := by omega
                  have j2 : (x : Int) < 3 := by omega
                  have j3 : (g.nx q x : Int) < 16 := by omega
                  have j4 : (0 : Int) ≤ q := by omega
                  have j5 : (0 : Int) ≤ x := by omega
                  have j6 : (0 : Int) ≤ (g.nx q x : Int) := by omega
                  have Hst := hidd (fun b hb => HTX.out.step HO.out hqs hxl (b := b) hb)
                  have Hset := hidd (fun b => bv_set F 16 q b)
                  have fin : ∀ (wz : World) (b : Bool), b = (F q && (decide (g.ou q x = x) && F (g.nx q x))) → wz = wr.setCell ⟨w.heap.size + 1 + 1, q, none⟩ (.bool b) → ∃ (x' : Nat) (F : Nat → Bool), x' ≤ g.l ∧ (Value.int .i64 ((x : Int) + 1)) = .int .i64 x' ∧ Hid (TX g r q x' F) ∧ Hid (Below w.heap.size w wz) ∧ Hid (wz.heap[w.heap.size]? = some (.cells cs 31 (0, 0))) ∧ Hid (wz.heap[w.heap.size + 1]? = some (.cells (bv (fun _ => false) 16) 81 (0, 0))) ∧ Hid (wz.heap[w.heap.size + 1 + 1]? = some (.cells (bv (F) 16) 81 (0, 0))) := by
                    intro wz b hb hwz
                    refine ⟨x + 1, upd F q b, by omega, by go_num, hidd (Hst.out b hb), ?_, ?_, ?_, ?_⟩
                    · rw [hwz]; exact Hb.out.setCell (by dsimp only; omega) _
                    · rw [hwz]; exact hp_far MA.out (by dsimp only; omega) _
                    · rw [hwz]; exact hp_far M0.out (by dsimp only; omega) _
                    · rw [hwz, ← Hset.out]; exact hp_set M1.out q (.bool b)
                  have Hfin := hidd fin
                  clear fin
                  cases hF : F q with
                  | false =>
                    rw [hF] at d1
                    have HF := hidd hF
                    clear hF
                    go_wp2_with fail
                    go_roundw
                    case rel => exact Hfin.out _ false (by rw [HF.out, Bool.false_and]) rfl
                    case measure => simp [intOf]; omega
                  | true =>
                    rw [hF] at d1
                    have HF := hidd hF
                    clear hF
                    by_cases hou : g.ou q x = x
                    · have HU := hidd hou
                      have hou2 : (g.ou q x : Int) = x := by omega
                      cases hF2 : F (g.nx q x) with
                      | false =>
                        rw [hF2] at d2
                        have HF2 := hidd hF2
                        clear hF2 hou
                        go_wp2_with fail
                        go_roundw
                        case rel => exact Hfin.out _ false (by rw [HF.out, HF2.out, Bool.and_false, Bool.and_false]) rfl
                        case measure => simp [intOf]; omega
                      | true =>
                        rw [hF2] at d2
                        have HF2 := hidd hF2
                        clear hF2 hou
                        go_wp2_with fail
                        go_roundw
                        case rel => exact Hfin.out _ true (by rw [HF.out, HF2.out, HU.out]; simp) rfl
                        case measure => simp [intOf]; omega
                    · have HU := hidd hou
                      have hou2 : ¬ ((g.ou q x : Int) = x) := by omega
                      clear hou
                      go_wp2_with fail
                      go_roundw
                      case rel => exact Hfin.out _ false (by rw [decide_eq_false HU.out, Bool.false_and, Bool.and_false]) rfl
                      case measure => simp [intOf]; omega
                · have he : x = g.l := by omega
                  subst he
                  have HE := hidd (HTX.out.row_end hqs)
                  go_wp2_with fail
                  go_roundw
                  case rel => exact ⟨q + 1, F, by omega, by go_num, HE, Hb, MA, M0, M1⟩
                  case measure => simp [intOf]; omega
            · have he : q = g.s := by omega
              subst he
              have HE := hidd HTQ.out.all
              go_wp2_with fail
              go_roundw
              case rel => exact ⟨r + 1, F, by omega, by go_num, HE, Hb, MA, M0, M1⟩
              case measure => simp [intOf]; omega
        · have he : r = g.s + 1 := by omega
          subst he
          have HE := hidd HTI.out.all
          rw [HE.out] at M1
          go_wp2_with (first | (refine ldAB rfl (.tmp 3) rfl _ _ M1.out (by rfl) ?_) | (refine stAB rfl (.tmp 2) (.tmp 61) rfl _ _ (fun _ => rfl) M0.out (av_size _ _) (by rfl) (by rfl) ?_))
          refine bodyPost_ret (v := .agg (bv g.tr16 16)) (results_cell_row rfl _ _ (w.heap.size + 1) 81 _ (0, 0) _ rfl (setRow_heap _ _ _ _ _ _ M0.out) Try.underlying81 rfl (a16iB _)) rfl ⟨rfl, ?_⟩
          exact bel_row Hb.out (by omega) _
end Go.Proofs.Ytcghcbdefajpgaa

/- Walks: TrivialStates, of the reference. -/
namespace Go.Proofs.Ytcghcbdefajpgaa
open Go.RowKit

/-- The trivial states below k. -/
def Gm.trL (g : Gm) (k : Nat) : List Int := ((List.range k).filter g.tr).map fun (q : Nat) => (q : Int)
theorem Gm.trL_zero (g : Gm) : g.trL 0 = [] := rfl
theorem Gm.trL_yes (g : Gm) {k : Nat} (h : g.tr k = true) : ints (g.trL (k + 1)) = ints (g.trL k) ++ [.int .i64 k] := by simp [Gm.trL, List.range_succ, h, ints]
theorem Gm.trL_no (g : Gm) {k : Nat} (h : g.tr k = false) : g.trL (k + 1) = g.trL k := by simp [Gm.trL, List.range_succ, h]
theorem Gm.trL_len (g : Gm) (k : Nat) : (g.trL k).length ≤ k := by
  unfold Gm.trL
  rw [List.length_map]
  exact Nat.le_trans (List.length_filter_le _ _) (by simp)
theorem Mc.gm_or (m : Mc) : (m.ok = false) ∨ ∃ g : Gm, m = g.mc ∧ g.Ok := by
  cases h : m.ok with
  | false => exact .inl rfl
  | true => exact .inr (Mc.to_gm h)
def tsR (m : Mc) : List Int × Int := if m.ok then (m.gm.trL m.gm.s, 0) else ([], 1)
theorem tsR_len (m : Mc) : (tsR m).1.length ≤ 1048576 := by
  unfold tsR
  cases h : m.ok with
  | false => exact Nat.zero_le _
  | true =>
    obtain ⟨g, rfl, hok⟩ := Mc.to_gm h
    have := hok.s16
    have h2 := g.trL_len g.s
    show (g.trL g.s).length ≤ _
    omega

end Go.Proofs.Ytcghcbdefajpgaa

/- Walks: the trivial states of a table, TrivialStates of the program. -/
namespace Go.Proofs.Ytcghcbdefajpgaa
open Go.RowKit

def Gm.idrTo (g : Gm) (q x : Nat) : Bool := (List.range x).all fun y => decide (g.ou q y = y)
theorem Gm.idrTo_zero (g : Gm) (q : Nat) : g.idrTo q 0 = true := rfl
theorem Gm.idrTo_succ (g : Gm) (q x : Nat) : g.idrTo q (x + 1) = (g.idrTo q x && decide (g.ou q x = x)) := by simp [Gm.idrTo, List.range_succ]
theorem Gm.idrTo_all (g : Gm) (q : Nat) : g.idrTo q g.l = g.idr q := rfl
/-- The first rows' answers. -/
def Gm.idrs (g : Gm) (q : Nat) : Nat → Bool := fun j => decide (j < q) && g.idr j
theorem Gm.idrs_step (g : Gm) (q : Nat) : upd (g.idrs q) q (g.idr q) = g.idrs (q + 1) := by
  funext j
  unfold upd Gm.idrs
  by_cases e : j = q
  · subst e; simp
  · rw [if_neg e]
    congr 1
    rw [Bool.eq_iff_iff]
    simp only [decide_eq_true_eq]
    omega
theorem upd_upd (F : Nat → Bool) (q : Nat) (a b : Bool) : upd (upd F q a) q b = upd F q b := by
  funext j
  unfold upd
  split <;> rfl
theorem cnt_upd {F : Nat → Bool} {q n : Nat} (hq : q < n) (hF : F q = true) : cnt (upd F q false) n < cnt F n := by
  obtain ⟨a, b⟩ := cnt_mono (p := F) (p' := upd F q false) n (fun j _ h => by
    by_cases e : j = q
    · subst e; exact hF
    · rwa [upd_ne F false e] at h)
  rcases Nat.lt_or_ge (cnt (upd F q false) n) (cnt F n) with h | h
  · exact h
  · have := b (by omega) q hq
    rw [upd_same, hF] at this
    cases this
/-- What is kept: the trivial ones are in, and what is in keeps all letters. -/
def TS (g : Gm) (F : Nat → Bool) : Prop := (∀ q, q < g.s → g.tr q = true → F q = true) ∧ ∀ q, q < g.s → F q = true → g.idr q = true
theorem TS.start (g : Gm) : TS g (g.idrs g.s) := ⟨fun q hq ht => by unfold Gm.idrs; rw [decide_eq_true hq, Bool.true_and]; exact trv_idr g.s ht, fun q hq h => by unfold Gm.idrs at h; rw [Bool.and_eq_true] at h; exact h.2⟩
def Shut' (g : Gm) (F : Nat → Bool) (q : Nat) : Prop := ∀ p, p < q → F p = true → ∀ x, x < g.l → F (g.nx p x) = true
theorem TS.all {g : Gm} (hok : g.Ok) {F : Nat → Bool} (h : TS g F) (hs : Shut' g F g.s) : bv F g.s = bv g.tr g.s := by
  refine av_congr fun j hj => ?_
  congr 1
  rw [Bool.eq_iff_iff]
  exact ⟨fun hF => trv_of_closed g.s F h.2 (fun q x hq hx hF => hs q hq hF x hx) hok.nlt g.s j hj hF, h.1 j hj⟩
theorem TS.drop {g : Gm} (hok : g.Ok) {F : Nat → Bool} (h : TS g F) {q : Nat} (hq : q < g.s) (hx : (List.range g.l).any (fun x => !F (g.nx q x)) = true) : TS g (upd F q false) := by
  refine ⟨fun p hp ht => ?_, fun p hp hF => ?_⟩
  · by_cases e : p = q
    · subst e
      rw [List.any_eq_true] at hx
      obtain ⟨x, hx1, hx2⟩ := hx
      rw [h.1 _ (hok.nlt p x hp (List.mem_range.1 hx1)) (trv_next g.s hok.nlt hp (List.mem_range.1 hx1) ht)] at hx2
      cases hx2
    · rw [upd_ne F false e]; exact h.1 p hp ht
  · by_cases e : p = q
    · subst e; rw [upd_same] at hF; cases hF
    · rw [upd_ne F false e] at hF; exact h.2 p hp hF
theorem Shut'.step_no {g : Gm} {F : Nat → Bool} {q : Nat} (h : Shut' g F q) (hF : F q = false) : Shut' g F (q + 1) := fun p hp hp2 => by
  by_cases e : p = q
  · subst e; rw [hF] at hp2; cases hp2
  · exact h p (by omega) hp2
theorem Shut'.step_yes {g : Gm} {F : Nat → Bool} {q : Nat} (h : Shut' g F q) (hx : (List.range g.l).any (fun x => !F (g.nx q x)) = false) : Shut' g F (q + 1) := fun p hp hp2 x hxl => by
  by_cases e : p = q
  · subst e
    rw [List.any_eq_false] at hx
    have := hx x (List.mem_range.2 hxl)
    simpa using this
  · exact h p (by omega) hp2 x hxl
def bN : Value → Nat
  | .bool true => 1
  | _ => 0
open Classical in
/-- How many cells of a block hold true. -/
noncomputable def cntW (B n : Nat) (w : World) : Nat := cnt (fun j => decide (w.cell? ⟨B, j, none⟩ = some (.bool true))) n
theorem cnt_congr {p p' : Nat → Bool} (n : Nat) (h : ∀ j, j < n → p j = p' j) : cnt p n = cnt p' n := by
  induction n with
  | zero => rfl
  | succ n ih => unfold cnt; rw [ih (fun j hj => h j (by omega)), h n (by omega)]
theorem cntW_eq {B n : Nat} {w : World} {F : Nat → Bool} {t : TypeId} (h : w.heap[B]? = some (.cells (bv F n) t (0, 0))) : cntW B n w = cnt F n := by
  unfold cntW
  refine cnt_congr n fun j hj => ?_
  rw [blkc h, bv_get F hj]
  cases F j <;> simp

/-- The closure that asks whether a state is out. -/
theorem trivial1_any (F : Nat → Bool) (n B R q : Nat) (hq : q < n) (_hn : n ≤ 16) (t u : TypeId) (w : World) (hB : w.heap[B]? = some (.cells #[.slice (some ⟨R, 0, none⟩) n n] t (0, 0))) (hR : w.heap[R]? = some (.cells (bv F n) u (0, 0))) :
    Calls Try.prog 96 #[.int .i64 q, .pointer (some ⟨B, 0, none⟩)] w fun e w' => e = .returned (.bool (!F q)) ∧ w = w' := by
  have c1 := blkc hB 0
  have c2 := (blkc hR q).trans (bv_get F hq)
  have j1 : (q : Int) < n := by omega
  have c1' : w.cell? ⟨B, 0, none⟩ = some (.slice (some ⟨R, 0, none⟩) n n) := c1
  clear c1
  cases hF : F q with
  | true =>
    rw [hF] at c2
    clear hF
    go_enter Try.func96, Try.ntmps96
    go_wp2
    go_ret
    exact ⟨rfl, rfl⟩
  | false =>
    rw [hF] at c2
    clear hF
    go_enter Try.func96, Try.ntmps96
    go_wp2
    go_ret
    exact ⟨rfl, rfl⟩
theorem info_bool : (Try.prog.info? 4).map (fun i => (i.zero, i.size, i.bytes)) = some (some (.bool false), 1, 1) := by kernel_rfl

set_option maxRecDepth 100000 in
set_option maxHeartbeats 1000000 in
theorem tableTrivial_any (g : Gm) (hok : g.Ok) (T : Nat) (w : World) (hT : TabAt w T (g.nxs g.s) (g.ous g.s)) :
    Calls Try.prog 83 #[.pointer (some ⟨T, 0, none⟩)] w fun e w' => e = .returned (.slice (some ⟨w.heap.size, 0, none⟩) g.s g.s) ∧ w'.heap[w.heap.size]? = some (.cells (bv g.tr g.s) 4 (0, 0)) ∧ Below w.heap.size w w' := by
  obtain ⟨vn, vo, hT0, hN, hO⟩ := hT
  have e1 : (g.nxs g.s).length = g.s := by simp [Gm.nxs]
  have e2 : (g.ous g.s).length = g.s := by simp [Gm.ous]
  obtain ⟨An, cn, rn, rfl, n1, n2, n3⟩ := hN
  obtain ⟨Ao, co, ro, rfl, o1, o2, o3⟩ := hO
  rw [e1] at *
  rw [e2] at *
  have c0 : w.cell? ⟨T, 0, none⟩ = some (.slice An g.s cn) := blkc hT0 0
  have c1 : w.cell? ⟨T, 1, none⟩ = some (.slice Ao g.s co) := blkc hT0 1
  have H0 := hidd hT0
  have N1 := hidd n1
  have N3 := hidd n3
  have O1 := hidd o1
  have O3 := hidd o3
  have N2 := hidd n2
  have O2 := hidd o2
  have HO := hidd hok
  have s16 := hok.s16
  have l3 := hok.l3
  clear hT0 n1 n2 n3 o1 o2 o3 hok
  go_enter Try.func83, Try.ntmps83
  go_wp2_with (at_make; refine mk_own rfl _ _ _ rfl w.heap.size 4 (.bool false) 1 Try.underlying92 info_bool rfl g.s rfl rfl (by omega) (by omega) (Nat.le_refl _) ?_; intro w1 ho hg hlt; have d1 := (((bel_grown (Below.refl _ w) hg (Nat.le_refl _) (fun k e => by cases e)).alloc (Nat.le_of_lt hlt) (.cells #[.slice (some ⟨w.heap.size, 0, none⟩) g.s g.s] 92)).cell (p := ⟨T, 1, none⟩) (hp_lt H0.out)).trans c1)
  have B1 : Below w.heap.size w w1 := bel_grown (Below.refl _ w) hg (Nat.le_refl _) (fun k e => by cases e)
  obtain ⟨w2, hw2⟩ : ∃ w2, w2 = w1.alloc (.cells #[.slice (some ⟨w.heap.size, 0, none⟩) g.s g.s] 92) := ⟨_, rfl⟩
  rw [← hw2]
  have Hb2 := hidd (show Below w.heap.size w w2 by rw [hw2]; exact B1.alloc (by omega) _)
  have HB2 := hidd (show w2.heap[w1.heap.size]? = some (.cells #[.slice (some ⟨w.heap.size, 0, none⟩) g.s g.s] 92 (0, 0)) by rw [hw2]; exact hp_new rfl)
  have HA2 := hidd (show w2.heap[w.heap.size]? = some (.cells (bv (g.idrs 0) g.s) 4 (0, 0)) by
    obtain ⟨cur, h3, h6, h7⟩ := ho.full
    have e : cur = bv (g.idrs 0) g.s := by
      apply Array.toList_inj.1
      rw [h7]
      apply List.ext_getElem?
      intro j
      by_cases hj : j < g.s
      · rw [List.getElem?_replicate, if_pos hj]
        show _ = ((List.range g.s).map fun j => Value.bool (g.idrs 0 j))[j]?
        simp [hj, Gm.idrs]
      · rw [List.getElem?_eq_none (by simp; omega), List.getElem?_eq_none (by simp [bv, av]; omega)]
    rw [← e, hw2]
    exact hp_old h3)
  have hne : w.heap.size ≠ w1.heap.size := by omega
  have c11 := c1
  clear hw2 ho hg d1 c0 c1 B1
  go_loopw [22] (fun i wr => ∃ q : Nat, q ≤ g.s ∧ i = .int .i64 q ∧ Hid (Below w.heap.size w wr) ∧ Hid (wr.heap[w1.heap.size]? = some (.cells #[.slice (some ⟨w.heap.size, 0, none⟩) g.s g.s] 92 (0, 0))) ∧ Hid (wr.heap[w.heap.size]? = some (.cells (bv (g.idrs q) g.s) 4 (0, 0)))) (fun i _ => g.s - (intOf i).toNat)
  case atStart => exact ⟨0, Nat.zero_le _, rfl, Hb2, HB2, HA2⟩
  case round =>
    clear Hb2 HB2 HA2
    obtain ⟨q, hq, rfl, Hb, HB, HA⟩ := hrel
    by_cases hqs : q < g.s
    · have hqr : q < ro.length := by rw [O2.out]; exact hqs
      obtain ⟨b, o, rfl, hcr⟩ := (O1.out.below Hb.out).at_ (List.getElem?_eq_getElem hqr)
      obtain ⟨Ar, cr, er, hrr⟩ := O3.out q ro[q] (g.or q) (List.getElem?_eq_getElem hqr) (by simp [Gm.ous, hqs])
      have el : (g.or q).length = g.l := by simp [Gm.or]
      rw [el] at er
      rw [er] at hcr
      have HRow := hidd hrr
      have b1 := blkc HB.out 0
      have b1' : wr.cell? ⟨w1.heap.size, 0, none⟩ = some (.slice (some ⟨w.heap.size, 0, none⟩) g.s g.s) := b1
      have a1 := (blkc HA.out q).trans (bv_get _ hqs)
      have f1 := blkf HA.out q
      have j1 : (q : Int) < g.s := by omega
      have Hs := hidd (fun b => bv_set (g.idrs q) g.s q b)
      clear er hrr b1
      go_wp2_with fail
      obtain ⟨wo, hwo⟩ : ∃ wo, wo = wr.setCell ⟨w.heap.size, q, none⟩ (.bool true) := ⟨_, rfl⟩
      rw [← hwo]
      have Hb3 := hidd (show Below w.heap.size w wo by rw [hwo]; exact Hb.out.setCell (Nat.le_refl _) _)
      have HB3 := hidd (show wo.heap[w1.heap.size]? = some (.cells #[.slice (some ⟨w.heap.size, 0, none⟩) g.s g.s] 92 (0, 0)) by rw [hwo]; exact hp_far HB.out (fun e => hne e.symm) _)
      have HA3 := hidd (show wo.heap[w.heap.size]? = some (.cells (bv (upd (g.idrs q) q (g.idrTo q 0)) g.s) 4 (0, 0)) by rw [hwo, g.idrTo_zero, ← Hs.out]; exact hp_set HA.out q _)
      clear hwo b1' a1 f1 hcr
      go_loopw [32] (fun i wr => ∃ x : Nat, x ≤ g.l ∧ i = .int .i64 x ∧ Hid (Below w.heap.size w wr) ∧ Hid (wr.heap[w1.heap.size]? = some (.cells #[.slice (some ⟨w.heap.size, 0, none⟩) g.s g.s] 92 (0, 0))) ∧ Hid (wr.heap[w.heap.size]? = some (.cells (bv (upd (g.idrs q) q (g.idrTo q x)) g.s) 4 (0, 0)))) (fun i _ => g.l - (intOf i).toNat)
      case atStart => exact ⟨0, Nat.zero_le _, rfl, Hb3, HB3, HA3⟩
      case round =>
        clear Hb3 HB3 HA3 Hb HB HA
        obtain ⟨x, hx, rfl, Hb, HB, HA⟩ := hrel
        by_cases hxl : x < g.l
        · obtain ⟨b5, o5, rfl, hcx⟩ := (HRow.out.below Hb.out).get (show x < (g.or q).length by rw [el]; exact hxl)
          have ex : (g.or q)[x]'(by rw [el]; exact hxl) = (g.ou q x : Int) := by simp [Gm.or]
          rw [ex] at hcx
          have b1 : wr.cell? ⟨w1.heap.size, 0, none⟩ = some (.slice (some ⟨w.heap.size, 0, none⟩) g.s g.s) := blkc HB.out 0
          have a1 := (blkc HA.out q).trans (bv_get _ hqs)
          rw [upd_same] at a1
          have f1 := blkf HA.out q
          have Hs := hidd (fun b => (bv_set (upd (g.idrs q) q (g.idrTo q x)) g.s q b).trans (by rw [upd_upd]))
          have Hsucc := hidd (g.idrTo_succ q x)
          cases hF : g.idrTo q x with
          | false =>
            rw [hF] at a1
            have HF := hidd hF
            clear hF
            go_wp2_with fail
            go_region
            go_wp2_with fail
            go_roundw
            case rel =>
              refine ⟨x + 1, by omega, by go_num, hidd (bel_drewN (Hb.out.setCell (Nat.le_refl _) _) 1), hidd (hp_far HB.out (fun e => hne e.symm) _), hidd ?_⟩
              rw [show g.idrTo q (x + 1) = false by rw [Hsucc.out, HF.out, Bool.false_and]]
              have h := hp_set HA.out q (.bool false)
              rw [Hs.out] at h
              exact h
            case measure => simp [intOf]; omega
          | true =>
            rw [hF] at a1
            have HF := hidd hF
            clear hF
            by_cases hou : g.ou q x = x
            · have HU := hidd hou
              have hou2 : (g.ou q x : Int) = x := by omega
              clear hou
              go_wp2_with fail
              go_region
              go_wp2_with fail
              go_roundw
              case rel =>
                refine ⟨x + 1, by omega, by go_num, hidd (bel_drewN (Hb.out.setCell (Nat.le_refl _) _) 1), hidd (hp_far HB.out (fun e => hne e.symm) _), hidd ?_⟩
                rw [show g.idrTo q (x + 1) = true by rw [Hsucc.out, HF.out, HU.out]; simp]
                have h := hp_set HA.out q (.bool true)
                rw [Hs.out] at h
                exact h
              case measure => simp [intOf]; omega
            · have HU := hidd hou
              have hou2 : ¬ ((g.ou q x : Int) = x) := by omega
              clear hou
              go_wp2_with fail
              go_region
              go_wp2_with fail
              go_roundw
              case rel =>
                refine ⟨x + 1, by omega, by go_num, hidd (bel_drewN (Hb.out.setCell (Nat.le_refl _) _) 1), hidd (hp_far HB.out (fun e => hne e.symm) _), hidd ?_⟩
                rw [show g.idrTo q (x + 1) = ((g.ou q x : Int) == (x : Int)) by rw [Hsucc.out, decide_eq_false HU.out, Bool.and_false]; exact (beq_eq_false_iff_ne.2 hou2).symm]
                have h := hp_set HA.out q (.bool ((g.ou q x : Int) == (x : Int)))
                rw [Hs.out] at h
                exact h
              case measure => simp [intOf]; omega
        · have he : x = g.l := by omega
          subst he
          have HA' := hidd (show wr.heap[w.heap.size]? = some (.cells (bv (g.idrs (q + 1)) g.s) 4 (0, 0)) by have := HA.out; rw [g.idrTo_all, g.idrs_step] at this; exact this)
          go_wp2_with fail
          go_roundw
          case rel => exact ⟨q + 1, by omega, by go_num, Hb, HB, HA'⟩
          case measure => simp [intOf]; omega
    · have he : q = g.s := by omega
      subst he
      go_wp2_with fail
      have HT0 := hidd (TS.start g)
      obtain ⟨F0, hF0⟩ : ∃ F0 : Nat → Bool, F0 = g.idrs g.s := ⟨_, rfl⟩
      rw [← hF0] at HT0 HA
      clear hF0 hq hqs
      obtain ⟨ws, rfl⟩ : ∃ ws : World, ws = wr := ⟨_, rfl⟩
      go_loopw [8] (fun a wr => ∃ (F : Nat → Bool) (ag : Bool), a = .bool ag ∧ Hid (TS g F) ∧ Hid (ag = false → Shut' g F g.s) ∧ Hid (Below w.heap.size w wr) ∧ Hid (wr.heap[w1.heap.size]? = some (.cells #[.slice (some ⟨w.heap.size, 0, none⟩) g.s g.s] 92 (0, 0))) ∧ Hid (wr.heap[w.heap.size]? = some (.cells (bv (F) g.s) 4 (0, 0)))) (fun a wr => bN a + cntW w.heap.size g.s wr)
      case atStart => exact ⟨F0, true, rfl, HT0, (hidd (fun h => by cases h)), Hb, HB, HA⟩
      case round =>
        clear HT0 Hb HB HA
        obtain ⟨F, ag, rfl, HTS, HSh, Hb, HB, HA⟩ := hrel
        cases ag with
        | true =>
          have c0 := (Hb.out.cell (p := ⟨T, 0, none⟩) (hp_lt H0.out)).trans (show w.cell? ⟨T, 0, none⟩ = some (.slice An g.s cn) from blkc H0.out 0)
          go_wp2_with fail
          clear c0
          obtain ⟨wo, rfl⟩ : ∃ wo : World, wo = wr := ⟨_, rfl⟩
          have HAo := hidd (cntW_eq HA.out)
          go_loopw [8, 57] (fun a i wr => ∃ (q : Nat) (F' : Nat → Bool) (ag' : Bool), q ≤ g.s ∧ a = .bool ag' ∧ i = .int .i64 q ∧ Hid (TS g F') ∧ Hid (ag' = false → F' = F ∧ Shut' g F' q) ∧ Hid (ag' = true → cnt F' g.s < cnt F g.s) ∧ Hid (Below w.heap.size w wr) ∧ Hid (wr.heap[w1.heap.size]? = some (.cells #[.slice (some ⟨w.heap.size, 0, none⟩) g.s g.s] 92 (0, 0))) ∧ Hid (wr.heap[w.heap.size]? = some (.cells (bv (F') g.s) 4 (0, 0)))) (fun _ i _ => g.s - (intOf i).toNat)
          case atStart => exact ⟨0, F, false, Nat.zero_le _, rfl, rfl, HTS, (hidd (fun _ => ⟨rfl, fun p hp => by omega⟩)), (hidd (fun h => by cases h)), Hb, HB, HA⟩
          case round =>
            clear Hb HB HA
            obtain ⟨q, F', ag', hq, rfl, rfl, HTS', HSh', Hct, Hb, HB, HA⟩ := hrel
            by_cases hqs : q < g.s
            · have hqr : q < rn.length := by rw [N2.out]; exact hqs
              obtain ⟨b, o, rfl, hcr⟩ := (N1.out.below Hb.out).at_ (List.getElem?_eq_getElem hqr)
              obtain ⟨Ar, cr, er, hrr⟩ := N3.out q rn[q] (g.nr q) (List.getElem?_eq_getElem hqr) (by simp [Gm.nxs, hqs])
              have el : (g.nr q).length = g.l := by simp [Gm.nr]
              rw [el] at er
              rw [er] at hcr
              have HRow := hidd hrr
              have b1 : wr.cell? ⟨w1.heap.size, 0, none⟩ = some (.slice (some ⟨w.heap.size, 0, none⟩) g.s g.s) := blkc HB.out 0
              have a1 := (blkc HA.out q).trans (bv_get F' hqs)
              have j1 : (q : Int) < g.s := by omega
              clear er hrr
              cases hF : F' q with
              | false =>
                rw [hF] at a1
                have HF := hidd hF
                clear hF
                go_wp2_with fail
                go_roundw
                case rel => exact ⟨q + 1, F', ag', by omega, rfl, by go_num, HTS', hidd (fun h => ⟨(HSh'.out h).1, (HSh'.out h).2.step_no HF.out⟩), Hct, Hb, HB, HA⟩
                case measure => simp [intOf]; omega
              | true =>
                rw [hF] at a1
                have HF := hidd hF
                clear hF
                have HC := hidd (show Calls Try.prog 36 #[.slice Ar g.l cr, .func (.func 96) #[] #[.pointer (some ⟨w1.heap.size, 0, none⟩)]] wr fun x w' => x = .returned (.bool ((List.range g.l).any fun x => !F' (g.nx q x))) ∧ Below wr.heap.size wr w' from by
                  have h := containsFunc64 96 #[.pointer (some ⟨w1.heap.size, 0, none⟩)] (enters_of Try.func96 (by kernel_rfl) rfl) Ar cr (ints (g.nr q)) (fun j => .int .i64 (g.nx q j)) (fun j => !F' (g.nx q j)) wr (HRow.out.below Hb.out) (fun j hj => by
                    rw [ints_length, el] at hj
                    rw [ints_get]
                    simp [Gm.nr, hj]) (fun j W hj hbl => by
                    rw [ints_length, el] at hj
                    exact (trivial1_any F' g.s w1.heap.size w.heap.size (g.nx q j) (HO.out.nlt q j hqs hj) s16 _ _ W (hp_bel HB.out hbl) (hp_bel HA.out hbl)).mono fun e w' ⟨h1, h2⟩ => ⟨h1, by rw [← h2]; exact Below.refl _ _⟩)
                  rw [ints_length, el] at h
                  exact h)
                obtain ⟨bb, hbb⟩ : ∃ bb, bb = (List.range g.l).any fun x => !F' (g.nx q x) := ⟨_, rfl⟩
                rw [← hbb] at HC
                cases bb with
                | true =>
                  have HD := hidd (HTS'.out.drop HO.out hqs hbb.symm)
                  have Hlt := hidd (show cnt (upd F' q false) g.s < cnt F g.s by
                    have h := cnt_upd hqs HF.out
                    cases ag' with
                    | false => rw [(HSh'.out rfl).1] at h ⊢; exact h
                    | true => exact Nat.lt_trans h (Hct.out rfl))
                  have Hset := hidd (bv_set F' g.s q false)
                  clear hbb
                  go_wp2_with (go_at_call 36; refine HC.out.mono ?_; rintro e w5 ⟨rfl, hb5⟩; have HB5 := hidd (hp_bel HB.out hb5); have HA5 := hidd (hp_bel HA.out hb5); have Hbb := hidd (bel_then Hb.out hb5); have b5 : w5.cell? ⟨w1.heap.size, 0, none⟩ = some (.slice (some ⟨w.heap.size, 0, none⟩) g.s g.s) := blkc HB5.out 0; have a5 := (blkc HA5.out q).trans (bv_get F' hqs); have f5 := blkf HA5.out q; clear hb5)
                  go_roundw
                  case rel => exact ⟨q + 1, upd F' q false, true, by omega, rfl, by go_num, HD, hidd (fun h => by cases h), hidd (fun _ => Hlt.out), hidd (Hbb.out.setCell (Nat.le_refl _) _), hidd (hp_far HB5.out (fun e => hne e.symm) _), hidd (by rw [← Hset.out]; exact hp_set HA5.out q _)⟩
                  case measure => simp [intOf]; omega
                | false =>
                  have HD := hidd (fun (h : ag' = false) => (show F' = F ∧ Shut' g F' (q + 1) from ⟨(HSh'.out h).1, (HSh'.out h).2.step_yes hbb.symm⟩))
                  clear hbb
                  go_wp2_with (go_at_call 36; refine HC.out.mono ?_; rintro e w5 ⟨rfl, hb5⟩; have HB5 := hidd (hp_bel HB.out hb5); have HA5 := hidd (hp_bel HA.out hb5); have Hbb := hidd (bel_then Hb.out hb5); have b5 : w5.cell? ⟨w1.heap.size, 0, none⟩ = some (.slice (some ⟨w.heap.size, 0, none⟩) g.s g.s) := blkc HB5.out 0; have a5 := (blkc HA5.out q).trans (bv_get F' hqs); have f5 := blkf HA5.out q; clear hb5)
                  go_roundw
                  case rel => exact ⟨q + 1, F', ag', by omega, rfl, by go_num, HTS', HD, Hct, Hbb, HB5, HA5⟩
                  case measure => simp [intOf]; omega
            · have he : q = g.s := by omega
              subst he
              go_wp2_with fail
              go_roundw
              case rel => exact ⟨F', ag', rfl, HTS', hidd (fun h => (HSh'.out h).2), Hb, HB, HA⟩
              case measure =>
                rw [cntW_eq HA.out, HAo.out]
                cases ag' with
                | false => rw [(HSh'.out rfl).1]; show 0 + _ < 1 + _; omega
                | true => have := Hct.out rfl; show 1 + _ < 1 + _; omega
        | false =>
          have HA' := hidd (show wr.heap[w.heap.size]? = some (.cells (bv g.tr g.s) 4 (0, 0)) by have := HA.out; rw [HTS.out.all HO.out (HSh.out rfl)] at this; exact this)
          have b1 : wr.cell? ⟨w1.heap.size, 0, none⟩ = some (.slice (some ⟨w.heap.size, 0, none⟩) g.s g.s) := blkc HB.out 0
          go_wp2_with fail
          go_ret
          exact ⟨rfl, HA'.out, Hb.out⟩
end Go.Proofs.Ytcghcbdefajpgaa

/- Walks: TrivialStates of the program. -/
namespace Go.Proofs.Ytcghcbdefajpgaa
open Go.RowKit
end Go.Proofs.Ytcghcbdefajpgaa
