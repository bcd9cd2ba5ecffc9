/- Small texts of the walks under one roof. -/
import Derived.Test.YtcghcbdefajpgaaBC
import Derived.BigQuiet
import Derived.Deep.RegionHeld3
/- Plain laws: how numbers of group words act on letters; the normal word. -/
namespace Go.Proofs.Ytcghcbdefajpgaa
open Go.RowKit

/-- What a number makes of a letter, and the number that goes on. -/
def Gm.stp (g : Gm) (k : Int) (x : Nat) : Nat × Int :=
  if 0 < k then (g.ou (k - 1).toNat x, (g.nx (k - 1).toNat x : Int) + 1) else (g.inv.ou (-k - 1).toNat x, -(g.inv.nx (-k - 1).toNat x : Int) - 1)
/-- A number that stands for a state, or for the inverse of one. -/
def Gm.Num (g : Gm) (k : Int) : Prop := k ≠ 0 ∧ -(g.s : Int) ≤ k ∧ k ≤ g.s
def Gm.Nums (g : Gm) (W : List Int) : Prop := ∀ k ∈ W, g.Num k
theorem Gm.stp_ok {g : Gm} (hok : g.Ok) {k : Int} (hk : g.Num k) {x : Nat} (hx : x < g.l) : (g.stp k x).1 < g.l ∧ g.Num (g.stp k x).2 := by
  obtain ⟨h0, h1, h2⟩ := hk
  unfold Gm.stp
  by_cases h : 0 < k
  · rw [if_pos h]
    have a := hok.olt (k - 1).toNat x (by omega) hx
    have b := hok.nlt (k - 1).toNat x (by omega) hx
    refine ⟨a, ?_, ?_, ?_⟩ <;> simp only <;> omega
  · rw [if_neg h]
    have hi := Gm.inv_ok hok
    have a := hi.olt (-k - 1).toNat x (by show _ < g.s; omega) hx
    have b := hi.nlt (-k - 1).toNat x (by show _ < g.s; omega) hx
    have b' : g.inv.nx (-k - 1).toNat x < g.s := b
    refine ⟨a, ?_, ?_, ?_⟩ <;> simp only <;> omega
/-- The letter behind the first n numbers of a word. -/
def Gm.lx (g : Gm) (W : List Int) (x : Nat) : Nat → Nat
  | 0 => x
  | n + 1 => (g.stp (W.getD n 0) (Gm.lx g W x n)).1
/-- The section's first n numbers. -/
def Gm.lw (g : Gm) (W : List Int) (x n : Nat) : List Int := (List.range n).map fun k => (g.stp (W.getD k 0) (g.lx W x k)).2
/-- The image and the section at a letter. -/
def Gm.im (g : Gm) (W : List Int) (x : Nat) : Nat := g.lx W x W.length
def Gm.sc (g : Gm) (W : List Int) (x : Nat) : List Int := g.lw W x W.length
theorem Gm.lw_len (g : Gm) (W : List Int) (x n : Nat) : (g.lw W x n).length = n := by simp [Gm.lw]
theorem Gm.sc_len (g : Gm) (W : List Int) (x : Nat) : (g.sc W x).length = W.length := g.lw_len W x _
theorem Gm.lw_get (g : Gm) (W : List Int) (x : Nat) {n k : Nat} (h : k < n) : (g.lw W x n)[k]? = some (g.stp (W.getD k 0) (g.lx W x k)).2 := by simp [Gm.lw, h]
theorem Gm.lw_succ (g : Gm) (W : List Int) (x n : Nat) : g.lw W x (n + 1) = g.lw W x n ++ [(g.stp (W.getD n 0) (g.lx W x n)).2] := by simp [Gm.lw, List.range_succ]
theorem Gm.nums_getD {g : Gm} {W : List Int} (h : g.Nums W) {n : Nat} (hn : n < W.length) : g.Num (W.getD n 0) := by
  rw [List.getD_eq_getElem?_getD, List.getElem?_eq_getElem hn]
  exact h _ (List.getElem_mem hn)
theorem Gm.lx_lt {g : Gm} (hok : g.Ok) {W : List Int} (h : g.Nums W) {x : Nat} (hx : x < g.l) : ∀ n, n ≤ W.length → g.lx W x n < g.l
  | 0, _ => hx
  | n + 1, hn => (Gm.stp_ok hok (g.nums_getD h (by omega)) (Gm.lx_lt hok h hx n (by omega))).1
theorem Gm.im_lt {g : Gm} (hok : g.Ok) {W : List Int} (h : g.Nums W) {x : Nat} (hx : x < g.l) : g.im W x < g.l := Gm.lx_lt hok h hx _ (Nat.le_refl _)
theorem Gm.lw_nums {g : Gm} (hok : g.Ok) {W : List Int} (h : g.Nums W) {x : Nat} (hx : x < g.l) {n : Nat} (hn : n ≤ W.length) : g.Nums (g.lw W x n) := fun k hk => by
  unfold Gm.lw at hk
  obtain ⟨j, hj, rfl⟩ := List.mem_map.1 hk
  have hj := List.mem_range.1 hj
  exact (Gm.stp_ok hok (g.nums_getD h (by omega)) (Gm.lx_lt hok h hx j (by omega))).2
theorem Gm.sc_nums {g : Gm} (hok : g.Ok) {W : List Int} (h : g.Nums W) {x : Nat} (hx : x < g.l) : g.Nums (g.sc W x) := Gm.lw_nums hok h hx (Nat.le_refl _)

/-! ### The normal word -/
def Gm.nrN (g : Gm) (k : Int) : Int := if k < 0 then -((g.lst (k.natAbs - 1) : Int) + 1) else (g.lst (k.natAbs - 1) : Int) + 1
def Gm.nst (g : Gm) (L : List Int) (k : Int) : List Int :=
  if g.tr (k.natAbs - 1) = true then L else if L.getLast? = some (-g.nrN k) then L.dropLast else L ++ [g.nrN k]
def Gm.nrK (g : Gm) (W : List Int) (n : Nat) : List Int := (W.take n).foldl g.nst []
def Gm.nrm (g : Gm) (W : List Int) : List Int := W.foldl g.nst []
theorem Gm.nrK_zero (g : Gm) (W : List Int) : g.nrK W 0 = [] := rfl
theorem Gm.nrK_all (g : Gm) (W : List Int) : g.nrK W W.length = g.nrm W := by unfold Gm.nrK Gm.nrm; rw [List.take_length]
theorem Gm.nrK_succ (g : Gm) (W : List Int) {n : Nat} (h : n < W.length) : g.nrK W (n + 1) = g.nst (g.nrK W n) W[n] := by
  unfold Gm.nrK
  rw [List.take_succ_eq_append_getElem h, List.foldl_append]
  rfl
theorem Gm.nst_len (g : Gm) (L : List Int) (k : Int) : (g.nst L k).length ≤ L.length + 1 := by
  unfold Gm.nst
  split
  · omega
  · split
    · simp; omega
    · simp
theorem Gm.nrK_len (g : Gm) (W : List Int) : ∀ n, n ≤ W.length → (g.nrK W n).length ≤ n
  | 0, _ => by rw [g.nrK_zero]; exact Nat.le_refl _
  | n + 1, h => by
    rw [g.nrK_succ W (by omega)]
    have := g.nst_len (g.nrK W n) W[n]
    have := Gm.nrK_len g W n (by omega)
    omega
theorem Gm.nrm_len (g : Gm) (W : List Int) : (g.nrm W).length ≤ W.length := by
  rw [← g.nrK_all]; exact g.nrK_len W _ (Nat.le_refl _)
theorem Gm.nrN_num {g : Gm} {k : Int} (h : g.Num k) : g.Num (g.nrN k) := by
  obtain ⟨h0, h1, h2⟩ := h
  have := g.lst_le' (k.natAbs - 1)
  unfold Gm.nrN
  split
  · refine ⟨by omega, by omega, by omega⟩
  · refine ⟨by omega, by omega, by omega⟩
theorem Gm.nst_nums {g : Gm} {L : List Int} {k : Int} (h : g.Nums L) (hk : g.Num k) : g.Nums (g.nst L k) := by
  unfold Gm.nst
  split
  · exact h
  · split
    · exact fun x hx => h x (List.dropLast_subset L hx)
    · intro x hx
      rcases List.mem_append.1 hx with h1 | h1
      · exact h x h1
      · rw [List.mem_singleton.1 h1]; exact Gm.nrN_num hk
theorem Gm.nrK_nums {g : Gm} {W : List Int} (h : g.Nums W) : ∀ n, n ≤ W.length → g.Nums (g.nrK W n)
  | 0, _ => fun x hx => by rw [g.nrK_zero] at hx; cases hx
  | n + 1, hn => by
    rw [g.nrK_succ W (by omega)]
    exact Gm.nst_nums (Gm.nrK_nums h n (by omega)) (h _ (List.getElem_mem _))
theorem Gm.nrm_nums {g : Gm} {W : List Int} (h : g.Nums W) : g.Nums (g.nrm W) := by
  rw [← g.nrK_all]; exact Gm.nrK_nums h _ (Nat.le_refl _)
theorem Gm.Nums.of {g : Gm} {xs : List Int} (h : gwB g.s xs = true) : g.Nums xs := fun k hk => (gwB_mem h).2 k hk
theorem Gm.Nums.small {g : Gm} (hok : g.Ok) {xs : List Int} (h : g.Nums xs) : ∀ k ∈ xs, k ≠ 0 ∧ -16 ≤ k ∧ k ≤ 16 := fun k hk => by
  have := h k hk
  have h16 := hok.s16
  obtain ⟨a, b, c⟩ := this
  exact ⟨a, by omega, by omega⟩
end Go.Proofs.Ytcghcbdefajpgaa

/- Walks: a group in memory; apply, at. -/
namespace Go.Proofs.Ytcghcbdefajpgaa
open Go.RowKit

def bools (F : Nat → Bool) (n : Nat) : List Value := (List.range n).map fun j => .bool (F j)
theorem bools_len (F : Nat → Bool) (n : Nat) : (bools F n).length = n := by simp [bools]
theorem bools_get (F : Nat → Bool) {n j : Nat} (h : j < n) : (bools F n)[j]? = some (.bool (F j)) := by simp [bools, h]
/-- A slice that reads as these truths. -/
def RdB (w : World) (v : Value) (F : Nat → Bool) (n : Nat) : Prop := ∃ A c, v = .slice A n c ∧ Rd w A (bools F n)
theorem RdB.below {w w' : World} {v : Value} {F : Nat → Bool} {n : Nat} (h : RdB w v F n) (hb : Below w.heap.size w w') : RdB w' v F n := by
  obtain ⟨A, c, e, h⟩ := h
  exact ⟨A, c, e, h.below hb⟩
theorem RdB.get {w : World} {v : Value} {F : Nat → Bool} {n : Nat} (h : RdB w v F n) {j : Nat} (hj : j < n) : ∃ b o c, v = .slice (some ⟨b, o, none⟩) n c ∧ w.cell? ⟨b, o + j, none⟩ = some (.bool (F j)) := by
  obtain ⟨A, c, rfl, hr⟩ := h
  obtain ⟨b, o, rfl, hc⟩ := hr.at_ (bools_get F hj)
  exact ⟨b, o, c, rfl, hc⟩
/-- A group lies in a block: the machine, its inverse, the least equal states, the trivial ones. -/
structure GrpAt (w : World) (G : Nat) (g : Gm) (vo vt : Value) : Prop where
  m : g.At w G 0
  b : g.inv.At w G 98
  co : w.cell? ⟨G, 196, none⟩ = some vo
  ct : w.cell? ⟨G, 197, none⟩ = some vt
  ro : RdI w vo (ivL g.lst g.s)
  rt : RdB w vt g.tr g.s
theorem GrpAt.below {w w' : World} {G : Nat} {g : Gm} {vo vt : Value} (h : GrpAt w G g vo vt) (hb : Below w.heap.size w w') : GrpAt w' G g vo vt :=
  ⟨h.m.bel hb, h.b.bel hb, (hb.cell (p := ⟨G, 196, none⟩) h.m.lt).trans h.co, (hb.cell (p := ⟨G, 197, none⟩) h.m.lt).trans h.ct, h.ro.below hb, h.rt.below hb⟩
theorem GrpAt.lt {w : World} {G : Nat} {g : Gm} {vo vt : Value} (h : GrpAt w G g vo vt) : G < w.heap.size := h.m.lt

set_option maxHeartbeats 1000000 in
/-- What a number makes of a letter. -/
theorem apply_any (g : Gm) (hok : g.Ok) (G : Nat) (vo vt : Value) (k : Int) (x : Nat) (hk : g.Num k) (hx : x < g.l) (w : World) (hG : GrpAt w G g vo vt) :
    Calls Try.prog 85 #[.pointer (some ⟨G, 0, none⟩), .int .i64 k, .int .i64 (x : Nat)] w fun e w' => e = .returned (.tuple #[.int .i64 ((g.stp k x).1 : Nat), .int .i64 (g.stp k x).2]) ∧ ∃ n, w' = w.drewN n := by
  have s16 := hok.s16
  have l3 := hok.l3
  obtain ⟨h0, h1, h2⟩ := hk
  have HG := hidd hG
  by_cases hp : 0 < k
  · have HR := hidd (show g.stp k x = (g.ou (k - 1).toNat x, (g.nx (k - 1).toNat x : Int) + 1) from if_pos hp)
    have hn := hok.nlt (k - 1).toNat x (by omega) hx
    have Ho := hidd (fun n => mout_any g G 0 (k - 1).toNat x (k - 1) x (w.drewN n) (hG.m.drewN n) (by omega) rfl (by omega) (by omega))
    have Hn := hidd (fun n => mnext_any g G 0 (k - 1).toNat x (k - 1) x (w.drewN n) (hG.m.drewN n) (by omega) rfl (by omega) (by omega))
    obtain ⟨z, hz⟩ : ∃ z, z = g.nx (k - 1).toNat x := ⟨_, rfl⟩
    obtain ⟨y, hy⟩ : ∃ y, y = g.ou (k - 1).toNat x := ⟨_, rfl⟩
    rw [← hz] at hn HR Hn
    rw [← hy] at HR Ho
    clear hG hok hz hy
    go_enter Try.func85, Try.ntmps85
    go_wp2_with fail
    go_quiet ((first | (go_at_call 93; exact quietS (Ho.out _)) | (go_at_call 92; exact quietS (Hn.out _))))
    go_wp2_with fail
    go_ret2
    exact ⟨by rw [HR.out]; rfl, _, rfl⟩
  · have HR := hidd (show g.stp k x = (g.inv.ou (-k - 1).toNat x, -(g.inv.nx (-k - 1).toNat x : Int) - 1) from if_neg hp)
    have hi := Gm.inv_ok hok
    have hn : g.inv.nx (-k - 1).toNat x < g.s := hi.nlt (-k - 1).toNat x (by show _ < g.s; omega) hx
    have Ho := hidd (fun n => mout_any g.inv G 98 (-k - 1).toNat x (-k - 1) x (w.drewN n) (hG.b.drewN n) (by omega) rfl (by omega) (by omega))
    have Hn := hidd (fun n => mnext_any g.inv G 98 (-k - 1).toNat x (-k - 1) x (w.drewN n) (hG.b.drewN n) (by omega) rfl (by omega) (by omega))
    have hk0 : k < 0 := by omega
    obtain ⟨z, hz⟩ : ∃ z, z = g.inv.nx (-k - 1).toNat x := ⟨_, rfl⟩
    obtain ⟨y, hy⟩ : ∃ y, y = g.inv.ou (-k - 1).toNat x := ⟨_, rfl⟩
    rw [← hz] at hn HR Hn
    rw [← hy] at HR Ho
    clear hG hok hi hz hy
    go_enter Try.func85, Try.ntmps85
    go_wp2_with fail
    go_quiet ((first | (go_at_call 93; exact quietS (Ho.out _)) | (go_at_call 92; exact quietS (Hn.out _))))
    go_wp2_with fail
    go_ret2
    exact ⟨by rw [HR.out]; rfl, _, rfl⟩

theorem part_next (l : List Value) (n k : Nat) (z v : Value) (hl : l.length = n) (hk : k < n) (hv : l[k]? = some v) : (part l n k z).set k v = part l n (k + 1) z := part_set l n k z v hl hk hv
set_option maxHeartbeats 1000000 in
/-- The image of a letter, and the section there. -/
theorem at_any (g : Gm) (hok : g.Ok) (G : Nat) (vo vt : Value) (v : Value) (W : List Int) (hW : g.Nums W) (hlen : W.length ≤ 1048576) (x : Nat) (hx : x < g.l) (w : World) (hG : GrpAt w G g vo vt) (hr : RdI w v W) :
    Calls Try.prog 68 #[.pointer (some ⟨G, 0, none⟩), v, .int .i64 (x : Nat)] w fun e w' => (∃ u, e = .returned (.tuple #[.int .i64 (g.im W x : Nat), u]) ∧ Own w' w.heap.size 2 u (ints (g.sc W x))) ∧ Below w.heap.size w w' := by
  obtain ⟨A, c, rfl, hr⟩ := hr
  have Hr := hidd hr
  have HG := hidd hG
  have HO := hidd hok
  have HW := hidd hW
  have Hl := hidd (show (ints (g.sc W x)).length = W.length by rw [ints_length, g.sc_len])
  clear hr hG hok hW
  go_enter Try.func68, Try.ntmps68
  go_wp2_with (at_make; refine mk_own rfl _ _ _ rfl w.heap.size 2 (.int .i64 0) 8 Try.underlying26 info_i64 rfl W.length rfl rfl (by omega) (by omega) (Nat.le_refl _) ?_; intro w1 ho hg hlt)
  have Ho := hidd ho
  have Bel := hidd ((Below.refl w.heap.size w).grown hg (Nat.le_refl _) (fun k hk => by cases hk))
  clear ho hg
  go_loopw [2, 16] (fun y i wr => ∃ k : Nat, k ≤ W.length ∧ i = .int .i64 k ∧ y = .int .i64 (g.lx W x k : Nat) ∧ Hid (Own wr w.heap.size 2 (.slice (some ⟨w.heap.size, 0, none⟩) W.length W.length) (part (ints (g.sc W x)) W.length k (.int .i64 0))) ∧ Hid (Below w.heap.size w wr)) (fun _ i _ => W.length - (intOf i).toNat)
  case atStart => exact ⟨0, Nat.zero_le _, rfl, rfl, hidd (by rw [part_zero]; exact Ho.out), Bel⟩
  case round =>
    obtain ⟨k, hk, rfl, rfl, HP, Hb⟩ := hrel
    by_cases hlt : k < W.length
    · obtain ⟨b, o, rfl, hc⟩ := (Hr.out.below Hb.out).get hlt
      obtain ⟨a, ha⟩ : ∃ a, a = W[k] := ⟨_, rfl⟩
      rw [← ha] at hc
      have hD : W.getD k 0 = a := by rw [List.getD_eq_getElem?_getD, List.getElem?_eq_getElem hlt, ha]; rfl
      have hN := g.nums_getD HW.out hlt
      rw [hD] at hN
      have hX := Gm.lx_lt HO.out HW.out hx k hk
      have HA := hidd (apply_any g HO.out G vo vt a (g.lx W x k) hN hX wr (HG.out.below Hb.out))
      have HL := hidd (show g.lx W x (k + 1) = (g.stp a (g.lx W x k)).1 by show (g.stp (W.getD k 0) (g.lx W x k)).1 = _; rw [hD])
      have HS := hidd (show (ints (g.sc W x))[k]? = some (.int .i64 (g.stp a (g.lx W x k)).2) by rw [ints_get]; unfold Gm.sc; rw [g.lw_get W x hlt, hD]; rfl)
      have j1 : (k : Int) < W.length := by omega
      clear ha hD hN
      go_wp2_with fail
      refine HA.out.mono ?_
      rintro e w2 ⟨rfl, n2, e2⟩
      have HP2 := hidd (HP.out.below (show Below wr.heap.size wr w2 by rw [e2]; exact bel_drewN (Below.refl _ _) _))
      have Hb2 := hidd (show Below w.heap.size w w2 by rw [e2]; exact bel_drewN Hb.out _)
      clear e2 HP Hb HA
      have d1 := HP2.out.cell (part_get (ints (g.sc W x)) W.length k (.int .i64 0) Hl.out hlt)
      have d2 := HP2.out.frozen k
      go_wp2_with fail
      go_roundw
      case rel =>
        refine ⟨k + 1, by omega, by go_num, by rw [HL.out], hidd ?_, hidd (Hb2.out.setCell (Nat.le_refl _) _)⟩
        have := HP2.out.store k (.int .i64 (g.stp a (g.lx W x k)).2)
        rwa [part_set (ints (g.sc W x)) W.length k (.int .i64 0) _ Hl.out hlt HS.out] at this
      case measure => simp [intOf]; omega
    · have he : k = W.length := by omega
      subst he
      go_wp2_with fail
      go_ret2
      refine ⟨⟨_, rfl, ?_⟩, Hb.out⟩
      have := HP.out
      rwa [part_all _ _ _ Hl.out] at this
end Go.Proofs.Ytcghcbdefajpgaa

/- Walks: the normal word, of the program and of the reference. -/
namespace Go.Proofs.Ytcghcbdefajpgaa
open Go.RowKit

set_option maxHeartbeats 400000 in
/-- The state of a number. -/
theorem l02State_any (k : Int) (q : Nat) (h : k.natAbs = q + 1) (hq : q < 100) (w : World) :
    Calls Try.prog 74 #[.int .i64 k] w fun e w' => e = .returned (.int .i64 (q : Nat)) ∧ w = w' := by
  by_cases hp : 0 < k
  · obtain rfl : k = (q : Int) + 1 := by omega
    clear h hp
    go_enter Try.func74, Try.ntmps74
    go_wp2_with fail
    go_ret
    exact ⟨rfl, rfl⟩
  · obtain rfl : k = -((q : Int) + 1) := by omega
    clear h hp
    go_enter Try.func74, Try.ntmps74
    go_wp2_with fail
    go_ret
    exact ⟨rfl, rfl⟩

theorem Own.cut {w : World} {base : Nat} {e : TypeId} {A : Option Addr} {n c : Nat} {vs : List Value} {u : Value} (h : Own w base e (.slice A (n + 1) c) (vs ++ [u])) (hn : vs.length = n) : Own w base e (.slice A n c) vs := by
  subst hn
  refine ⟨by simp, ?_⟩
  rcases h.2 with ⟨h1, _⟩ | ⟨g, cap, cur, h1, hb, hg, hc, hm, hsz, ht⟩
  · cases h1
  · simp only [Value.slice.injEq] at h1
    obtain ⟨rfl, h2, rfl⟩ := h1
    refine .inr ⟨g, c, cur, rfl, hb, hg, by omega, hm, hsz, ?_⟩
    have e1 : (cur.toList.take ((vs ++ [u]).length * 1)).take (vs.length * 1) = vs := by rw [ht]; simp
    rw [List.take_take] at e1
    rw [show min (vs.length * 1) ((vs ++ [u]).length * 1) = vs.length * 1 by simp] at e1
    exact e1

theorem Own.capLe {w : World} {base : Nat} {e : TypeId} {A : Option Addr} {n c : Nat} {vs : List Value} (h : Own w base e (.slice A n c) vs) : n ≤ c := by
  have hn := h.rd.1
  rcases h.2 with ⟨h1, _⟩ | ⟨g, cap, cur, h1, hb, hg, hc, _⟩
  · cases h1; exact Nat.le_refl _
  · cases h1; exact hc
/-- What becomes of the normal word at a number. -/
theorem Gm.nst_tr (g : Gm) (L : List Int) {k : Int} {q : Nat} (h : k.natAbs = q + 1) (ht : g.tr q = true) : g.nst L k = L := by
  unfold Gm.nst
  rw [show k.natAbs - 1 = q by omega, if_pos ht]
theorem Gm.nst_cut (g : Gm) {L : List Int} {k n y : Int} {q : Nat} (h : k.natAbs = q + 1) (ht : g.tr q = false) (hn : g.nrN k = n) (hy : y = -n) : g.nst (L ++ [y]) k = L := by
  subst hy
  unfold Gm.nst
  rw [show k.natAbs - 1 = q by omega, if_neg (by rw [ht]; exact Bool.false_ne_true), hn, if_pos (by simp)]
  simp
theorem Gm.nst_nil (g : Gm) {k n : Int} {q : Nat} (h : k.natAbs = q + 1) (ht : g.tr q = false) (hn : g.nrN k = n) : g.nst [] k = [n] := by
  unfold Gm.nst
  rw [show k.natAbs - 1 = q by omega, if_neg (by rw [ht]; exact Bool.false_ne_true), hn, if_neg (by simp)]
  rfl
theorem Gm.nst_app (g : Gm) {L : List Int} {k n y : Int} {q : Nat} (h : k.natAbs = q + 1) (ht : g.tr q = false) (hn : g.nrN k = n) (hy : y ≠ -n) : g.nst (L ++ [y]) k = L ++ [y] ++ [n] := by
  unfold Gm.nst
  rw [show k.natAbs - 1 = q by omega, if_neg (by rw [ht]; exact Bool.false_ne_true), hn, if_neg (by simp [hy])]
theorem Gm.nrN_pos (g : Gm) (q : Nat) : g.nrN ((q : Int) + 1) = (g.lst q : Int) + 1 := by
  unfold Gm.nrN
  rw [if_neg (by omega), show ((q : Int) + 1).natAbs - 1 = q by omega]
theorem Gm.nrN_neg (g : Gm) (q : Nat) : g.nrN (-((q : Int) + 1)) = -((g.lst q : Int) + 1) := by
  unfold Gm.nrN
  rw [if_pos (by omega), show (-((q : Int) + 1)).natAbs - 1 = q by omega]
theorem list_snoc {α : Type} (L : List α) : L = [] ∨ ∃ L' y, L = L' ++ [y] := by
  rcases List.eq_nil_or_concat L with h | ⟨L', y, h⟩
  · exact .inl h
  · exact .inr ⟨L', y, by rw [h, List.concat_eq_append]⟩

set_option maxRecDepth 100000 in
set_option maxHeartbeats 2000000 in
theorem normal_any (g : Gm) (hok : g.Ok) (G : Nat) (vo vt : Value) (v : Value) (W : List Int) (hW : g.Nums W) (hlen : W.length ≤ 1048576) (w : World) (hG : GrpAt w G g vo vt) (hr : RdI w v W) :
    Calls Try.prog 54 #[.pointer (some ⟨G, 0, none⟩), v] w fun e w' => (∃ u, e = .returned u ∧ Own w' w.heap.size 2 u (ints (g.nrm W))) ∧ Below w.heap.size w w' := by
  obtain ⟨A, c, rfl, hr⟩ := hr
  have Hr := hidd hr
  have HG := hidd hG
  have HW := hidd hW
  have s16 := hok.s16
  have hro := hG.ro
  have hrt := hG.rt
  obtain ⟨Ao, co, rfl, hoo⟩ := hro
  obtain ⟨At, ct, rfl, htt⟩ := hrt
  have HOO := hidd hoo
  have HTT := hidd htt
  have HEnd := hidd (g.nrK_all W)
  clear hr hG hW hoo htt
  go_enter Try.func54, Try.ntmps54
  go_wp2_with fail
  go_loopw [5, 13] (fun u i wr => ∃ k : Nat, k ≤ W.length ∧ i = .int .i64 k ∧ Hid (Own wr w.heap.size 2 u (ints (g.nrK W k))) ∧ Hid (Below w.heap.size w wr)) (fun _ i _ => W.length - (intOf i).toNat)
  case atStart => exact ⟨0, Nat.zero_le _, rfl, hidd (Own.nil _ _ _), hidd (Below.refl _ _)⟩
  case round =>
    obtain ⟨k, hk, rfl, HU, Hb⟩ := hrel
    by_cases hlt : k < W.length
    · obtain ⟨b, o, rfl, hc⟩ := (Hr.out.below Hb.out).get hlt
      obtain ⟨a, ha⟩ : ∃ a, a = W[k] := ⟨_, rfl⟩
      rw [← ha] at hc
      have hN : g.Num a := by rw [ha]; exact HW.out _ (List.getElem_mem hlt)
      have HK := hidd (show g.nrK W (k + 1) = g.nst (g.nrK W k) a by rw [g.nrK_succ W hlt, ha])
      obtain ⟨n0, n1, n2⟩ := hN
      obtain ⟨q, hq⟩ : ∃ q, a.natAbs = q + 1 := ⟨a.natAbs - 1, by omega⟩
      have hqs : q < g.s := by omega
      have c6 : wr.cell? ⟨G, 196, none⟩ = some (.slice Ao (ivL g.lst g.s).length co) := (HG.out.below Hb.out).co
      rw [ivL_len] at c6
      have c7 : wr.cell? ⟨G, 197, none⟩ = some (.slice At g.s ct) := (HG.out.below Hb.out).ct
      obtain ⟨bo, oo, rfl, co1⟩ := (HOO.out.below Hb.out).get (show q < (ivL g.lst g.s).length by rw [ivL_len]; exact hqs)
      rw [ivL_get _ hqs] at co1
      obtain ⟨bt, ot, rfl, ct1⟩ := (HTT.out.below Hb.out).at_ (bools_get g.tr hqs)
      have hbase := Hb.out.size
      have hll := g.nrK_len W k hk
      have j1 : (q : Int) < g.s := by omega
      have hlst := g.lst_le' q
      clear ha
      cases ht : g.tr q with
      | true =>
        rw [ht] at ct1
        have HS := hidd (g.nst_tr (g.nrK W k) hq ht)
        clear ht
        rcases Int.lt_or_gt_of_ne n0 with hneg | hpos
        · obtain rfl : a = -((q : Int) + 1) := by omega
          clear hneg n0 n1 n2 hq
          go_wp2_with fail
          go_roundw
          case rel => exact ⟨k + 1, by omega, by go_num, hidd (by rw [HK.out, HS.out]; exact HU.out), Hb⟩
          case measure => simp [intOf]; omega
        · obtain rfl : a = (q : Int) + 1 := by omega
          clear hpos n0 n1 n2 hq
          go_wp2_with fail
          go_roundw
          case rel => exact ⟨k + 1, by omega, by go_num, hidd (by rw [HK.out, HS.out]; exact HU.out), Hb⟩
          case measure => simp [intOf]; omega
      | false =>
        rw [ht] at ct1
        obtain ⟨L, hL⟩ : ∃ L, L = g.nrK W k := ⟨_, rfl⟩
        rw [← hL] at HU HK hll
        clear hL
        have hsg := Int.lt_or_gt_of_ne n0
        by_cases hs0 : a = -((q : Int) + 1)
        · subst hs0
          have hnr := g.nrN_neg q
          rcases list_snoc L with rfl | ⟨L', y, rfl⟩
          · have HS := hidd (g.nst_nil hq ht hnr)
            clear hsg n0 n1 n2 hq hnr ht
            obtain ⟨Au, cu, eu⟩ := HU.out.slice
            rw [show (ints []).length = 0 from rfl] at eu
            subst eu
            have hlen2 : (ints []).length + 1 ≤ 1099511627776 := by decide
            go_wp2_with (at_builtin; refine app_own rfl _ _ _ rfl w.heap.size 2 (.int .i64 0) 8 Try.underlying26 info_i64 rfl HU.out rfl rfl rfl hlen2 (by decide) hbase ?_; intro v' w5 ho hgr hle; have Ho2 := hidd ho; have b2 := hidd (bel_own HU.out hgr hbase); clear ho hgr)
            go_roundw
            case rel => exact ⟨k + 1, by omega, by go_num, hidd (by rw [HK.out, HS.out]; exact Ho2.out), hidd (Hb.out.trans b2.out)⟩
            case measure => simp [intOf]; omega
          · obtain ⟨gb, cu, eu, hgb, hgl⟩ := HU.out.form (by simp [ints_length])
            rw [ints_length, List.length_append, List.length_singleton] at eu
            subst eu
            have cy : wr.cell? ⟨gb, L'.length, none⟩ = some (.int .i64 y) := HU.out.cell (by rw [ints_get]; simp)
            have hll2 : L'.length + 1 ≤ k := by simpa using hll
            have hcap := HU.out.capLe
            have hcap2 : (L'.length : Int) ≤ cu := by omega
            by_cases hy : y = (g.lst q : Int) + 1
            · have HS := hidd (g.nst_cut (L := L') (y := y) hq ht hnr (by omega))
              have HU2 := hidd (Own.cut (vs := ints L') (u := .int .i64 y) (by have := HU.out; rw [ints_append] at this; exact this) (ints_length _))
              subst hy
              clear hsg n0 n1 n2 hq hnr ht hll
              go_wp2_with fail
              go_roundw
              case rel => exact ⟨k + 1, by omega, by go_num, hidd (by rw [HK.out, HS.out]; exact HU2.out), Hb⟩
              case measure => simp [intOf]; omega
            · have HS := hidd (g.nst_app (L := L') (y := y) hq ht hnr (by omega))
              have hd : (y == ((g.lst q : Int) + 1)) = false := beq_eq_false_iff_ne.2 hy
              have hlen2 : (ints (L' ++ [y])).length + 1 ≤ 1099511627776 := by rw [ints_length]; simp; omega
              have Hy := hidd hy
              clear hsg n0 n1 n2 hq hnr ht hll hy
              go_wp2_with (at_builtin; refine app_own rfl _ _ _ rfl w.heap.size 2 (.int .i64 0) 8 Try.underlying26 info_i64 rfl HU.out rfl rfl rfl hlen2 (by decide) hbase ?_; intro v' w5 ho hgr hle; have Ho2 := hidd ho; have b2 := hidd (bel_own HU.out hgr hbase); clear ho hgr)
              go_roundw
              case rel => exact ⟨k + 1, by omega, by go_num, hidd (by rw [HK.out, HS.out, ints_append]; exact Ho2.out), hidd (Hb.out.trans b2.out)⟩
              case measure => simp [intOf]; omega
        by_cases hs1 : a = (q : Int) + 1
        · subst hs1
          have hnr := g.nrN_pos q
          rcases list_snoc L with rfl | ⟨L', y, rfl⟩
          · have HS := hidd (g.nst_nil hq ht hnr)
            clear hsg n0 n1 n2 hq hnr ht
            obtain ⟨Au, cu, eu⟩ := HU.out.slice
            rw [show (ints []).length = 0 from rfl] at eu
            subst eu
            have hlen2 : (ints []).length + 1 ≤ 1099511627776 := by decide
            go_wp2_with (at_builtin; refine app_own rfl _ _ _ rfl w.heap.size 2 (.int .i64 0) 8 Try.underlying26 info_i64 rfl HU.out rfl rfl rfl hlen2 (by decide) hbase ?_; intro v' w5 ho hgr hle; have Ho2 := hidd ho; have b2 := hidd (bel_own HU.out hgr hbase); clear ho hgr)
            go_roundw
            case rel => exact ⟨k + 1, by omega, by go_num, hidd (by rw [HK.out, HS.out]; exact Ho2.out), hidd (Hb.out.trans b2.out)⟩
            case measure => simp [intOf]; omega
          · obtain ⟨gb, cu, eu, hgb, hgl⟩ := HU.out.form (by simp [ints_length])
            rw [ints_length, List.length_append, List.length_singleton] at eu
            subst eu
            have cy : wr.cell? ⟨gb, L'.length, none⟩ = some (.int .i64 y) := HU.out.cell (by rw [ints_get]; simp)
            have hll2 : L'.length + 1 ≤ k := by simpa using hll
            have hcap := HU.out.capLe
            have hcap2 : (L'.length : Int) ≤ cu := by omega
            by_cases hy : y = -((g.lst q : Int) + 1)
            · have HS := hidd (g.nst_cut (L := L') (y := y) hq ht hnr (by omega))
              have HU2 := hidd (Own.cut (vs := ints L') (u := .int .i64 y) (by have := HU.out; rw [ints_append] at this; exact this) (ints_length _))
              subst hy
              clear hsg n0 n1 n2 hq hnr ht hll
              go_wp2_with fail
              go_roundw
              case rel => exact ⟨k + 1, by omega, by go_num, hidd (by rw [HK.out, HS.out]; exact HU2.out), Hb⟩
              case measure => simp [intOf]; omega
            · have HS := hidd (g.nst_app (L := L') (y := y) hq ht hnr (by omega))
              have hd : (y == (-((g.lst q : Int) + 1))) = false := beq_eq_false_iff_ne.2 hy
              have hlen2 : (ints (L' ++ [y])).length + 1 ≤ 1099511627776 := by rw [ints_length]; simp; omega
              have Hy := hidd hy
              clear hsg n0 n1 n2 hq hnr ht hll hy
              go_wp2_with (at_builtin; refine app_own rfl _ _ _ rfl w.heap.size 2 (.int .i64 0) 8 Try.underlying26 info_i64 rfl HU.out rfl rfl rfl hlen2 (by decide) hbase ?_; intro v' w5 ho hgr hle; have Ho2 := hidd ho; have b2 := hidd (bel_own HU.out hgr hbase); clear ho hgr)
              go_roundw
              case rel => exact ⟨k + 1, by omega, by go_num, hidd (by rw [HK.out, HS.out, ints_append]; exact Ho2.out), hidd (Hb.out.trans b2.out)⟩
              case measure => simp [intOf]; omega
        exact absurd (show a = -((q : Int) + 1) ∨ a = (q : Int) + 1 by omega) (by rintro (h | h); exact hs0 h; exact hs1 h)
    · have he : k = W.length := by omega
      subst he
      go_wp2_with fail
      go_ret
      exact ⟨⟨_, rfl, by rw [← HEnd.out]; exact HU.out⟩, Hb.out⟩
end Go.Proofs.Ytcghcbdefajpgaa

/- Walks: the normal word of the reference. -/
namespace Go.Proofs.Ytcghcbdefajpgaa
open Go.RowKit

set_option maxRecDepth 100000 in
set_option maxHeartbeats 2000000 in
theorem l02Normal_any (g : Gm) (hok : g.Ok) (v : Value) (W : List Int) (hW : g.Nums W) (hlen : W.length ≤ 1048576) (w : World) (hr : RdI w v W) :
    Calls Try.prog 48 #[v, .agg (iv g.ls16 16), .agg (bv g.tr16 16)] w fun e w' => (∃ u, e = .returned u ∧ Own w' w.heap.size 2 u (ints (g.nrm W))) ∧ Below w.heap.size w w' := by
  obtain ⟨A, c, rfl, hr⟩ := hr
  have Hr := hidd hr
  have HW := hidd hW
  have s16 := hok.s16
  have HEnd := hidd (g.nrK_all W)
  clear hr hW
  go_enter Try.func48, Try.ntmps48
  go_wp2_with fail
  obtain ⟨w2, hw2⟩ : ∃ w2, w2 = (w.alloc (.cells (iv g.ls16 16) 79)).alloc (.cells (bv g.tr16 16) 81) := ⟨_, rfl⟩
  have hz2 : w2.heap.size = w.heap.size + 1 + 1 := by rw [hw2]; simp
  rw [← hw2, ← hz2]
  have b2 : Below w.heap.size w w2 := by rw [hw2]; exact (bel_alloc' _ _).alloc (by simp) _
  have C2 := hidd (show w2.heap[w.heap.size]? = some (.cells (iv g.ls16 16) 79 (0, 0)) by rw [hw2]; exact hp_old (hp_new rfl))
  have T2 := hidd (show w2.heap[w.heap.size + 1]? = some (.cells (bv g.tr16 16) 81 (0, 0)) by rw [hw2]; exact hp_new (by simp))
  have O3 := hidd (show Own (w2.alloc (.cells #[] 2)) w2.heap.size 2 (.slice (some ⟨w2.heap.size, 0, none⟩) 0 0) (ints (g.nrK W 0)) from Own.empty w2 2 w2.heap.size (Nat.le_refl _))
  have b23 := hidd (bel_alloc' w2 (.cells #[] 2))
  obtain ⟨w3, hw3⟩ : ∃ w3, w3 = w2.alloc (.cells #[] 2) := ⟨_, rfl⟩
  rw [← hw3] at O3 b23 ⊢
  have B2 := hidd b2
  have R2 := hidd (Hr.out.below b2)
  clear hw2 hw3 b2 hz2
  go_loopw [7, 8] (fun u i wr => ∃ k : Nat, k ≤ W.length ∧ i = .int .i64 k ∧ Hid (Own wr w2.heap.size 2 u (ints (g.nrK W k))) ∧ Hid (Below w2.heap.size w2 wr)) (fun _ i _ => W.length - (intOf i).toNat)
  case atStart => exact ⟨0, Nat.zero_le _, rfl, O3, b23⟩
  case round =>
    clear O3 b23
    obtain ⟨k, hk, rfl, HU, Hb⟩ := hrel
    by_cases hlt : k < W.length
    · obtain ⟨b, o, rfl, hc⟩ := (R2.out.below Hb.out).get hlt
      obtain ⟨a, ha⟩ : ∃ a, a = W[k] := ⟨_, rfl⟩
      rw [← ha] at hc
      have hN : g.Num a := by rw [ha]; exact HW.out _ (List.getElem_mem hlt)
      have HK := hidd (show g.nrK W (k + 1) = g.nst (g.nrK W k) a by rw [g.nrK_succ W hlt, ha])
      obtain ⟨n0, n1, n2⟩ := hN
      obtain ⟨q, hq⟩ : ∃ q, a.natAbs = q + 1 := ⟨a.natAbs - 1, by omega⟩
      have hqs : q < g.s := by omega
      have co1 := (blkc (hp_bel C2.out Hb.out) q).trans (iv_get g.ls16 (by omega))
      rw [show g.ls16 q = g.lst q from if_pos hqs] at co1
      have ct1 := (blkc (hp_bel T2.out Hb.out) q).trans (bv_get g.tr16 (by omega))
      rw [show g.tr16 q = g.tr q by unfold Gm.tr16; rw [decide_eq_true hqs]; rfl] at ct1
      have HST := hidd (l02State_any a q hq (by omega) wr)
      have hbase := Hb.out.size
      have hll := g.nrK_len W k hk
      have j1 : (q : Int) < 16 := by omega
      have hlst := g.lst_le' q
      clear ha
      cases ht : g.tr q with
      | true =>
        rw [ht] at ct1
        have HS := hidd (g.nst_tr (g.nrK W k) hq ht)
        clear ht
        rcases Int.lt_or_gt_of_ne n0 with hneg | hpos
        · obtain rfl : a = -((q : Int) + 1) := by omega
          clear hneg n0 n1 n2 hq
          go_wp2_with (go_at_call 74; refine HST.out.mono ?_; rintro e w9 ⟨rfl, rfl⟩)
          go_roundw
          case rel => exact ⟨k + 1, by omega, by go_num, hidd (by rw [HK.out, HS.out]; exact HU.out), Hb⟩
          case measure => simp [intOf]; omega
        · obtain rfl : a = (q : Int) + 1 := by omega
          clear hpos n0 n1 n2 hq
          go_wp2_with (go_at_call 74; refine HST.out.mono ?_; rintro e w9 ⟨rfl, rfl⟩)
          go_roundw
          case rel => exact ⟨k + 1, by omega, by go_num, hidd (by rw [HK.out, HS.out]; exact HU.out), Hb⟩
          case measure => simp [intOf]; omega
      | false =>
        rw [ht] at ct1
        obtain ⟨L, hL⟩ : ∃ L, L = g.nrK W k := ⟨_, rfl⟩
        rw [← hL] at HU HK hll
        clear hL
        have hsg := Int.lt_or_gt_of_ne n0
        by_cases hs0 : a = -((q : Int) + 1)
        · subst hs0
          have hnr := g.nrN_neg q
          rcases list_snoc L with rfl | ⟨L', y, rfl⟩
          · have HS := hidd (g.nst_nil hq ht hnr)
            clear hsg n0 n1 n2 hq hnr ht
            obtain ⟨Au, cu, eu⟩ := HU.out.slice
            rw [show (ints []).length = 0 from rfl] at eu
            subst eu
            have hlen2 : (ints []).length + 1 ≤ 1099511627776 := by decide
            go_wp2_with (first | (go_at_call 74; refine HST.out.mono ?_; rintro e w9 ⟨rfl, rfl⟩) | (at_builtin; refine app_own rfl _ _ _ rfl w2.heap.size 2 (.int .i64 0) 8 Try.underlying26 info_i64 rfl HU.out rfl rfl rfl hlen2 (by decide) hbase ?_; intro v' w5 ho hgr hle; have Ho2 := hidd ho; have b2 := hidd (bel_own HU.out hgr hbase); clear ho hgr))
            go_roundw
            case rel => exact ⟨k + 1, by omega, by go_num, hidd (by rw [HK.out, HS.out]; exact Ho2.out), hidd (Hb.out.trans b2.out)⟩
            case measure => simp [intOf]; omega
          · obtain ⟨gb, cu, eu, hgb, hgl⟩ := HU.out.form (by simp [ints_length])
            rw [ints_length, List.length_append, List.length_singleton] at eu
            subst eu
            have cy : wr.cell? ⟨gb, L'.length, none⟩ = some (.int .i64 y) := HU.out.cell (by rw [ints_get]; simp)
            have hll2 : L'.length + 1 ≤ k := by simpa using hll
            have hcap := HU.out.capLe
            have hcap2 : (L'.length : Int) ≤ cu := by omega
            by_cases hy : y = (g.lst q : Int) + 1
            · have HS := hidd (g.nst_cut (L := L') (y := y) hq ht hnr (by omega))
              have HU2 := hidd (Own.cut (vs := ints L') (u := .int .i64 y) (by have := HU.out; rw [ints_append] at this; exact this) (ints_length _))
              subst hy
              clear hsg n0 n1 n2 hq hnr ht hll
              go_wp2_with (go_at_call 74; refine HST.out.mono ?_; rintro e w9 ⟨rfl, rfl⟩)
              go_roundw
              case rel => exact ⟨k + 1, by omega, by go_num, hidd (by rw [HK.out, HS.out]; exact HU2.out), Hb⟩
              case measure => simp [intOf]; omega
            · have HS := hidd (g.nst_app (L := L') (y := y) hq ht hnr (by omega))
              have hd : (y == ((g.lst q : Int) + 1)) = false := beq_eq_false_iff_ne.2 hy
              have hlen2 : (ints (L' ++ [y])).length + 1 ≤ 1099511627776 := by rw [ints_length]; simp; omega
              have Hy := hidd hy
              clear hsg n0 n1 n2 hq hnr ht hll hy
              go_wp2_with (first | (go_at_call 74; refine HST.out.mono ?_; rintro e w9 ⟨rfl, rfl⟩) | (at_builtin; refine app_own rfl _ _ _ rfl w2.heap.size 2 (.int .i64 0) 8 Try.underlying26 info_i64 rfl HU.out rfl rfl rfl hlen2 (by decide) hbase ?_; intro v' w5 ho hgr hle; have Ho2 := hidd ho; have b2 := hidd (bel_own HU.out hgr hbase); clear ho hgr))
              go_roundw
              case rel => exact ⟨k + 1, by omega, by go_num, hidd (by rw [HK.out, HS.out, ints_append]; exact Ho2.out), hidd (Hb.out.trans b2.out)⟩
              case measure => simp [intOf]; omega
        by_cases hs1 : a = (q : Int) + 1
        · subst hs1
          have hnr := g.nrN_pos q
          rcases list_snoc L with rfl | ⟨L', y, rfl⟩
          · have HS := hidd (g.nst_nil hq ht hnr)
            clear hsg n0 n1 n2 hq hnr ht
            obtain ⟨Au, cu, eu⟩ := HU.out.slice
            rw [show (ints []).length = 0 from rfl] at eu
            subst eu
            have hlen2 : (ints []).length + 1 ≤ 1099511627776 := by decide
            go_wp2_with (first | (go_at_call 74; refine HST.out.mono ?_; rintro e w9 ⟨rfl, rfl⟩) | (at_builtin; refine app_own rfl _ _ _ rfl w2.heap.size 2 (.int .i64 0) 8 Try.underlying26 info_i64 rfl HU.out rfl rfl rfl hlen2 (by decide) hbase ?_; intro v' w5 ho hgr hle; have Ho2 := hidd ho; have b2 := hidd (bel_own HU.out hgr hbase); clear ho hgr))
            go_roundw
            case rel => exact ⟨k + 1, by omega, by go_num, hidd (by rw [HK.out, HS.out]; exact Ho2.out), hidd (Hb.out.trans b2.out)⟩
            case measure => simp [intOf]; omega
          · obtain ⟨gb, cu, eu, hgb, hgl⟩ := HU.out.form (by simp [ints_length])
            rw [ints_length, List.length_append, List.length_singleton] at eu
            subst eu
            have cy : wr.cell? ⟨gb, L'.length, none⟩ = some (.int .i64 y) := HU.out.cell (by rw [ints_get]; simp)
            have hll2 : L'.length + 1 ≤ k := by simpa using hll
            have hcap := HU.out.capLe
            have hcap2 : (L'.length : Int) ≤ cu := by omega
            by_cases hy : y = -((g.lst q : Int) + 1)
            · have HS := hidd (g.nst_cut (L := L') (y := y) hq ht hnr (by omega))
              have HU2 := hidd (Own.cut (vs := ints L') (u := .int .i64 y) (by have := HU.out; rw [ints_append] at this; exact this) (ints_length _))
              subst hy
              clear hsg n0 n1 n2 hq hnr ht hll
              go_wp2_with (go_at_call 74; refine HST.out.mono ?_; rintro e w9 ⟨rfl, rfl⟩)
              go_roundw
              case rel => exact ⟨k + 1, by omega, by go_num, hidd (by rw [HK.out, HS.out]; exact HU2.out), Hb⟩
              case measure => simp [intOf]; omega
            · have HS := hidd (g.nst_app (L := L') (y := y) hq ht hnr (by omega))
              have hd : (y == (-((g.lst q : Int) + 1))) = false := beq_eq_false_iff_ne.2 hy
              have hlen2 : (ints (L' ++ [y])).length + 1 ≤ 1099511627776 := by rw [ints_length]; simp; omega
              have Hy := hidd hy
              clear hsg n0 n1 n2 hq hnr ht hll hy
              go_wp2_with (first | (go_at_call 74; refine HST.out.mono ?_; rintro e w9 ⟨rfl, rfl⟩) | (at_builtin; refine app_own rfl _ _ _ rfl w2.heap.size 2 (.int .i64 0) 8 Try.underlying26 info_i64 rfl HU.out rfl rfl rfl hlen2 (by decide) hbase ?_; intro v' w5 ho hgr hle; have Ho2 := hidd ho; have b2 := hidd (bel_own HU.out hgr hbase); clear ho hgr))
              go_roundw
              case rel => exact ⟨k + 1, by omega, by go_num, hidd (by rw [HK.out, HS.out, ints_append]; exact Ho2.out), hidd (Hb.out.trans b2.out)⟩
              case measure => simp [intOf]; omega
        exact absurd (show a = -((q : Int) + 1) ∨ a = (q : Int) + 1 by omega) (by rintro (h | h); exact hs0 h; exact hs1 h)
    · have he : k = W.length := by omega
      subst he
      go_wp2_with fail
      go_ret
      exact ⟨⟨_, rfl, by rw [← HEnd.out]; exact HU.out.mono B2.out.size⟩, bel_then B2.out Hb.out⟩
end Go.Proofs.Ytcghcbdefajpgaa

/- Walks: newGroup. -/
namespace Go.Proofs.Ytcghcbdefajpgaa
open Go.RowKit

theorem foldl_put (vs : List Value) : ∀ (o k : Nat) (cs : Array Value), o + k + vs.length ≤ cs.size → ∀ j : Nat, ((vs.zipIdx k).foldl (fun (cs : Array Value) (x : Value × Nat) => cs.setIfInBounds (o + x.2) x.1) cs)[j]? = if o + k ≤ j ∧ j < o + k + vs.length then vs[j - (o + k)]? else cs[j]? := by
  induction vs with
  | nil => intro o k cs h j; rw [if_neg (by simp only [List.length_nil]; omega)]; rfl
  | cons v vs ih =>
    intro o k cs h j
    simp only [List.length_cons] at h
    rw [List.zipIdx_cons, List.foldl_cons, ih o (k + 1) _ (by rw [Array.size_setIfInBounds]; omega)]
    simp only [List.length_cons]
    rw [Array.getElem?_setIfInBounds]
    by_cases h1 : j = o + k
    · subst h1
      rw [if_neg (by omega), if_pos rfl, if_pos (by omega), if_pos (by omega), Nat.sub_self]
      rfl
    · by_cases h2 : o + (k + 1) ≤ j ∧ j < o + (k + 1) + vs.length
      · rw [if_pos h2, if_pos (by omega), show j - (o + k) = (j - (o + (k + 1))) + 1 by omega]
        rfl
      · rw [if_neg h2, if_neg (by omega), if_neg (by omega)]
theorem foldl_splice (o : Nat) (cs vs : Array Value) (h : o + vs.size ≤ cs.size) : vs.zipIdx.foldl (fun (cs : Array Value) (x : Value × Nat) => cs.setIfInBounds (o + x.2) x.1) cs = splice cs o vs := by
  apply Array.ext_getElem?
  intro j
  rw [splice_get _ _ _ h, ← Array.foldl_toList, Array.toList_zipIdx, foldl_put vs.toList o 0 cs (by simpa using h) j]
  simp
theorem fill_one (place : Nat → Option (Nat × Nat)) (cells : Array Value) (i o n : Nat) (v : Value) (rest : List (Nat × Value)) (hp : place i = some (o, n)) (hn : v.cells.size = n) (ho : o + n ≤ cells.size) :
    Instr.fill place cells ((i, v) :: rest) = Instr.fill place (splice cells o v.cells) rest := by
  have hc : (decide (v.cells.size ≠ n) || decide (o + v.cells.size > cells.size)) = false := by simp; omega
  rw [Instr.fill]
  simp only [hp]
  rw [if_neg (by rw [hc]; exact Bool.false_ne_true)]
  rw [← foldl_splice o cells v.cells (by omega)]
/-- The cells of a group. -/
def grpC (a b : Array Value) (u v : Value) : Array Value := a ++ b ++ #[u, v]
def grpZ : Array Value := zeroM ++ zeroM ++ #[.slice none 0 0, .slice none 0 0]
theorem built_G (parts : List (Nat × Value)) : Try.prog.built 94 parts = Instr.fill (#[(0, 98), (98, 98), (196, 1), (197, 1)][·]?) grpZ parts := by kernel_rfl
def buildG (parts : Array (Nat × Value)) : Sem Value := Instr.build 94 parts
theorem build_G (parts : Array (Nat × Value)) : Instr.build 94 parts = buildG parts := rfl
attribute [go_sem ↓ high] build_G
theorem run_buildG (a b : Array Value) (u v : Value) (ha : a.size = 98) (hb : b.size = 98) (hu : u.cells = #[u]) (hv : v.cells = #[v]) (w : World) :
    (buildG #[(0, .agg a), (1, .agg b), (2, u), (3, v)]).run Try.prog w = .ok (.agg (grpC a b u v)) w := by
  refine run_build w _ _ _ ?_
  rw [built_G]
  have hz : grpZ.size = 198 := rfl
  show Instr.fill _ grpZ [(0, Value.agg a), (1, Value.agg b), (2, u), (3, v)] = _
  rw [fill_one _ _ 0 0 98 (Value.agg a) _ rfl ha (by omega)]
  have s1 : (splice grpZ 0 (Value.agg a).cells).size = 198 := by rw [splice_size _ _ _ (by show 0 + a.size ≤ _; omega)]; exact hz
  rw [fill_one _ _ 1 98 98 (Value.agg b) _ rfl hb (by omega)]
  have s2 : (splice (splice grpZ 0 (Value.agg a).cells) 98 (Value.agg b).cells).size = 198 := by rw [splice_size _ _ _ (by show 98 + b.size ≤ _; omega)]; exact s1
  rw [fill_one _ _ 2 196 1 _ _ rfl (by rw [hu]; rfl) (by omega)]
  have s3 : (splice (splice (splice grpZ 0 (Value.agg a).cells) 98 (Value.agg b).cells) 196 u.cells).size = 198 := by rw [splice_size _ _ _ (by rw [hu]; show 196 + 1 ≤ _; omega)]; exact s2
  rw [fill_one _ _ 3 197 1 _ _ rfl (by rw [hv]; rfl) (by omega)]
  show some _ = some _
  congr 1
  apply Array.ext_getElem?
  intro j
  rw [splice_get _ _ _ (by rw [hv]; show 197 + 1 ≤ _; omega), splice_get _ _ _ (by rw [hu]; show 196 + 1 ≤ _; omega), splice_get _ _ _ (by show 98 + b.size ≤ _; omega), splice_get _ _ _ (by show 0 + a.size ≤ _; omega), hu, hv]
  show (if 197 ≤ j ∧ j < 197 + 1 then #[v][j - 197]? else if 196 ≤ j ∧ j < 196 + 1 then #[u][j - 196]? else if 98 ≤ j ∧ j < 98 + b.size then b[j - 98]? else if 0 ≤ j ∧ j < 0 + a.size then a[j - 0]? else grpZ[j]?) = (a ++ b ++ #[u, v])[j]?
  rw [Array.getElem?_append, Array.getElem?_append, Array.size_append, ha, hb]
  by_cases h1 : j < 98
  · rw [if_neg (by omega), if_neg (by omega), if_neg (by omega), if_pos (by omega), if_pos (by omega), if_pos h1, Nat.sub_zero]
  · by_cases h2 : j < 196
    · rw [if_neg (by omega), if_neg (by omega), if_pos (by omega), if_pos (by omega), if_neg h1]
    · by_cases h3 : j = 196
      · subst h3; rfl
      · by_cases h4 : j = 197
        · subst h4; rfl
        · rw [if_neg (by omega), if_neg (by omega), if_neg (by omega), if_neg (by omega), if_neg (by omega), Array.getElem?_eq_none (by rw [hz]; omega), Array.getElem?_eq_none (by simp; omega)]
theorem Gm.At.of_cells {g : Gm} (hok : g.Ok) {w : World} {b o : Nat} (hc : ∀ i, i < 98 → w.cell? ⟨b, o + i, none⟩ = g.mc.cells[i]?) : g.At w b o := by
  have h := (g.is_cells hok).is
  refine ⟨(hc 0 (by omega)).trans h.l, (hc 1 (by omega)).trans h.s, fun q x hq hx => ?_, fun q x hq hx => ?_, h.nb, h.ob⟩
  · rw [show o + 2 + q * 3 + x = o + (2 + q * 3 + x) by omega]
    exact (hc _ (by omega)).trans (h.n q x hq hx)
  · rw [show o + 50 + q * 3 + x = o + (50 + q * 3 + x) by omega]
    exact (hc _ (by omega)).trans (h.o q x hq hx)
theorem grpC_get (a b : Array Value) (u v : Value) (ha : a.size = 98) (hb : b.size = 98) (j : Nat) : (grpC a b u v)[j]? = if j < 98 then a[j]? else if j < 196 then b[j - 98]? else #[u, v][j - 196]? := by
  unfold grpC
  rw [Array.getElem?_append, Array.getElem?_append, Array.size_append, ha, hb]
  by_cases h1 : j < 98
  · rw [if_pos (by omega), if_pos h1, if_pos h1]
  · by_cases h2 : j < 196
    · rw [if_pos (by omega), if_neg h1, if_neg h1, if_pos h2]
    · rw [if_neg (by omega), if_neg h1, if_neg h2]
theorem GrpAt.of {g : Gm} (hok : g.Ok) {w : World} {G : Nat} {vo vt : Value} {t : TypeId} (h : w.heap[G]? = some (.cells (grpC g.mc.cells g.inv.mc.cells vo vt) t (0, 0))) (ho : RdI w vo (ivL g.lst g.s)) (ht : RdB w vt g.tr g.s) : GrpAt w G g vo vt := by
  have k : ∀ i, w.cell? ⟨G, i, none⟩ = (grpC g.mc.cells g.inv.mc.cells vo vt)[i]? := fun i => blkc h i
  have kk := grpC_get g.mc.cells g.inv.mc.cells vo vt (Mc.cells_size _) (Mc.cells_size _)
  refine ⟨Gm.At.of_cells hok fun i hi => ?_, Gm.At.of_cells (Gm.inv_ok hok) fun i hi => ?_, ?_, ?_, ho, ht⟩
  · rw [k, kk, if_pos (by omega), Nat.zero_add]
  · rw [k, kk, if_neg (by omega), if_pos (by omega), show 98 + i - 98 = i by omega]
  · rw [k, kk]; rfl
  · rw [k, kk]; rfl
set_option linter.unusedSimpArgs false
set_option maxRecDepth 100000 in
set_option maxHeartbeats 2000000 in
theorem newGroup_any (g : Gm) (hok : g.Ok) (cs : Array Value) (hg : g.Is cs) (w : World) :
    Calls Try.prog 65 #[.agg cs] w fun e w' => (∃ G vo vt, e = .returned (.pointer (some ⟨G, 0, none⟩)) ∧ GrpAt w' G g vo vt ∧ w.heap.size ≤ G) ∧ Below w.heap.size w w' := by
  obtain rfl := hg.is.eq_cells
  have HG := hidd hg
  have HO := hidd hok
  clear hg hok
  go_enter Try.func65, Try.ntmps65
  go_wp2_with fail
  refine (table_any g HO.out w.heap.size 0 _ (Gm.At.of_is HG.out (hp_new rfl))).mono ?_
  rintro e w1 ⟨rfl, ht, hb⟩
  have B1 := hidd (bel_then (bel_alloc _ _) hb)
  have K1 := hidd (show w1.heap[w.heap.size]? = some (.cells g.mc.cells 31 (0, 0)) from hp_bel (hp_new rfl) hb)
  obtain ⟨T, hTe⟩ : ∃ T, T = (w.alloc (.cells g.mc.cells 31)).heap.size := ⟨_, rfl⟩
  rw [← hTe] at ht ⊢
  have HT := hidd ht
  clear ht hb hTe
  go_wp2_with fail
  have S0 := hidd (show w1.drew.heap[w.heap.size]? = some (.cells g.mc.cells 31 (0, 0)) from K1.out)
  refine wp_region_held (S := fun w' => w'.heap[w.heap.size]? = some (.cells g.mc.cells 31 (0, 0))) (by kernel_rfl) ?_
  change wpAnyH _ _ _ _ _ _ _ _ (World.drew _)
  refine wpAnyH_take (i := 0) (v := ?v0) rfl (by kernel_rfl) (by kernel_rfl) (by kernel_rfl) (fun _ _ _ h => h) (Or.inl ⟨by rfl, ?h0⟩) S0.out ?_
  case h0 => (intro w2 hS; have hk := run_loadM (W := w2) hS; clear hS; go_simp; first | done | with_reducible rfl)
  simp only [Act.put, List.getElem_toArray, List.getElem_cons_succ, List.getElem_cons_zero, List.setIfInBounds_toArray, List.set_cons_zero, List.set_cons_succ]
  refine wpAnyH_take (i := 2) (v := ?v2) rfl (by kernel_rfl) (by kernel_rfl) (by kernel_rfl) (fun _ _ _ h => h) (Or.inl ⟨by rfl, ?h2⟩) S0.out ?_
  case h2 => (intro w2 hS; have hk := run_loadM (W := w2) hS; clear hS; go_simp; first | done | with_reducible rfl)
  simp only [Act.put, List.getElem_toArray, List.getElem_cons_succ, List.getElem_cons_zero, List.setIfInBounds_toArray, List.set_cons_zero, List.set_cons_succ]
  refine wpAnyH_take (i := 4) (v := ?v4) rfl (by kernel_rfl) (by kernel_rfl) (by kernel_rfl) (fun _ _ _ h => h) (Or.inl ⟨by rfl, ?h4⟩) S0.out ?_
  case h4 => (intro w2 hS; have hk := run_loadM (W := w2) hS; clear hS; go_simp; first | done | with_reducible rfl)
  simp only [Act.put, List.getElem_toArray, List.getElem_cons_succ, List.getElem_cons_zero, List.setIfInBounds_toArray, List.set_cons_zero, List.set_cons_succ]
  refine wpAnyH_ready (rs := [1]) (by kernel_rfl) (by simp) (AllReadyH.cons rfl (fun K hK => ?_) AllReadyH.nil)
  go_simp
  refine (inverse_any g HO.out w.heap.size 0 _ (Gm.At.of_is HG.out S0.out)).mono ?_
  rintro e w2 ⟨rfl, hb⟩
  have b12 := (drew_bel w1).trans hb
  have B2 := hidd (bel_then B1.out b12)
  have S2 := hidd (hp_bel K1.out b12)
  have T2 := hidd (HT.out.below b12)
  refine hK.out _ _ S2.out (fun _ => ?_)
  clear hK K hb b12
  refine wpAnyH_ready (rs := [3]) (by kernel_rfl) (by simp) (AllReadyH.cons rfl (fun K hK => ?_) AllReadyH.nil)
  go_simp
  refine (least_any g HO.out.tb T _ T2.out).mono ?_
  rintro e w3 ⟨⟨v, rfl, hv⟩, hb⟩
  have B3 := hidd (bel_then B2.out hb)
  have S3 := hidd (hp_bel S2.out hb)
  have T3 := hidd (T2.out.below hb)
  have V3 := hidd hv
  refine hK.out _ _ S3.out (fun _ => ?_)
  clear hK K hb hv
  refine wpAnyH_ready (rs := [5]) (by kernel_rfl) (by simp) (AllReadyH.cons rfl (fun K hK => ?_) AllReadyH.nil)
  go_simp
  refine (tableTrivial_any g HO.out T _ T3.out).mono ?_
  rintro e w4 ⟨rfl, htr, hb⟩
  have B4 := hidd (bel_then B3.out hb)
  have S4 := hidd (hp_bel S3.out hb)
  have V4 := hidd (V3.out.below hb)
  have R4 := hidd (show RdB w4 (.slice (some ⟨w3.heap.size, 0, none⟩) g.s g.s) g.tr g.s from ⟨_, _, rfl, by rw [bools_len]; have := HO.out.s16; omega, fun _ => ⟨_, 0, rfl, fun j u hj => by
    rw [blkc htr, Nat.zero_add]
    have e : (bv g.tr g.s).toList = bools g.tr g.s := by simp [bv, av, bools]
    rw [← e] at hj
    simpa using hj⟩⟩)
  refine hK.out _ _ S4.out (fun _ => ?_)
  clear hK K hb htr
  obtain ⟨vt, hvt⟩ : ∃ vt, vt = Value.slice (some ⟨w3.heap.size, 0, none⟩) g.s g.s := ⟨_, rfl⟩
  rw [← hvt] at R4 ⊢
  clear hvt
  have hcv : v.cells = #[v] := by obtain ⟨A, c, rfl, _⟩ := V4.out; rfl
  have hct : vt.cells = #[vt] := by obtain ⟨A, c, rfl, _⟩ := R4.out; rfl
  have hbg := run_buildG g.mc.cells g.inv.mc.cells v vt (Mc.cells_size _) (Mc.cells_size _) hcv hct w4
  refine wpAnyH_ready (rs := [6]) (by kernel_rfl) (by simp) (AllReadyH.cons rfl (fun K hK => ?_) AllReadyH.nil)
  go_simp
  refine hK.out _ _ S4.out (fun _ => ?_)
  clear hK K hbg
  refine wpAnyH_ready (rs := [7]) (by kernel_rfl) (by simp) (AllReadyH.cons rfl (fun K hK => ?_) AllReadyH.nil)
  go_simp
  obtain ⟨w5, hw5⟩ : ∃ w5, w5 = w4.alloc (.cells (grpC g.mc.cells g.inv.mc.cells v vt) 94) := ⟨_, rfl⟩
  rw [← hw5]
  have b45 : Below w4.heap.size w4 w5 := by rw [hw5]; exact bel_alloc' _ _
  have S5 := hidd (hp_bel S4.out b45)
  have B5 := hidd (bel_then B4.out b45)
  have G5 := hidd (show GrpAt w5 w4.heap.size g v vt from GrpAt.of HO.out (by rw [hw5]; exact hp_new rfl) (V4.out.below b45) (R4.out.below b45))
  have hz4 := B4.out.size
  refine hK.out _ _ S5.out (fun _ => ?_)
  clear hK K hw5 b45
  refine wpAnyH_take (i := 8) (v := ?v8) rfl (by kernel_rfl) (by kernel_rfl) (by kernel_rfl) (fun _ _ _ h => h) (Or.inl ⟨by rfl, ?h8⟩) S5.out ?_
  case h8 => (intro w2 hS; clear hS; go_simp; first | done | with_reducible rfl)
  simp only [Act.put, List.getElem_toArray, List.getElem_cons_succ, List.getElem_cons_zero, List.setIfInBounds_toArray, List.set_cons_zero, List.set_cons_succ]
  refine wpAnyH_done (by kernel_rfl) ?_ _
  go_wp2_with fail
  go_ret
  exact ⟨⟨_, _, _, rfl, G5.out, hz4⟩, B5.out⟩

/-! ### groupOf -/
set_option maxHeartbeats 1000000 in
/-- The closure that asks whether a list is no group word. -/
theorem groupOf1_any (g : Gm) (hok : g.Ok) (b : Nat) (v : Value) (xs : List Int) (w : World) (t : TypeId) (hb : w.heap[b]? = some (.cells g.mc.cells t (0, 0))) (hr : RdI w v xs) :
    Calls Try.prog 64 #[v, .pointer (some ⟨b, 0, none⟩)] w fun e w' => e = .returned (.bool (!gwB g.s xs)) ∧ Below w.heap.size w w' := by
  have HB := hidd hb
  have Hr := hidd hr
  have HI := hidd (g.is_cells hok)
  have HE := hidd (show g.mc.gwB xs = gwB g.s xs by unfold Mc.gwB; rw [Gm.ok hok]; rfl)
  clear hb hr
  go_enter Try.func64, Try.ntmps64
  go_wp2_with (refine ldC rfl (.tmp 1) rfl _ g.mc HB.out (by rfl) ?_)
  refine (implIsGroupWord_any g.mc _ HI.out.is v xs _ Hr.out).mono ?_
  rintro e w1 ⟨rfl, hb1⟩
  rw [HE.out]
  have HB1 := hidd hb1
  clear hb1
  cases hx : gwB g.s xs with
  | true =>
    have Hx := hidd hx
    clear hx
    go_wp2_with fail
    go_ret
    exact ⟨ret_b (by rw [Hx.out]; rfl), HB1.out⟩
  | false =>
    have Hx := hidd hx
    clear hx
    go_wp2_with fail
    go_ret
    exact ⟨ret_b (by rw [Hx.out]; rfl), HB1.out⟩

/-- Whether one of some lists is no group word. -/
theorem badWords_any (g : Gm) (hok : g.Ok) (b : Nat) (A : Option Addr) (c : Nat) (rows : List Value) (xss : List (List Int)) (w : World) (hK : w.heap[b]? = some (.cells g.mc.cells 31 (0, 0))) (hr1 : Rd w A rows) (hr2 : rows.length = xss.length)
    (hr3 : ∀ (j : Nat) (r : Value) (xs : List Int), rows[j]? = some r → xss[j]? = some xs → RdI w r xs) :
    Calls Try.prog 28 #[.slice A xss.length c, .func (.func 64) #[] #[.pointer (some ⟨b, 0, none⟩)]] w fun e w' => e = .returned (.bool (!xss.all (gwB g.s))) ∧ Below w.heap.size w w' := by
  have h := containsFunc65 64 #[.pointer (some ⟨b, 0, none⟩)] (enters_of Try.func64 (by kernel_rfl) rfl) A c rows (fun j => rows.getD j default) (fun j => !gwB g.s (xss.getD j [])) w hr1 (fun j hj => by rw [List.getD_eq_getElem?_getD, List.getElem?_eq_getElem hj]; rfl) (fun j W hj hW => by
    have hjx : j < xss.length := by omega
    refine groupOf1_any g hok b _ _ W _ (hp_bel hK hW) ?_
    refine (hr3 j _ _ ?_ ?_).below hW
    · show rows[j]? = some (rows.getD j default)
      rw [List.getD_eq_getElem?_getD, List.getElem?_eq_getElem hj]; rfl
    · rw [List.getD_eq_getElem?_getD, List.getElem?_eq_getElem hjx]; rfl)
  rw [hr2, any_not (gwB g.s) xss []] at h
  exact h

set_option maxRecDepth 100000 in
set_option maxHeartbeats 1000000 in
theorem groupOf_no (m : Mc) (cs : Array Value) (hm : m.Is cs) (v : Value) (xss : List (List Int)) (w : World) (hr : RdLL w v xss) (hc : codeW m xss ≠ 0) :
    Calls Try.prog 39 #[.agg cs, v] w fun e w' => e = .returned (.tuple #[.pointer none, .int .i64 1]) ∧ Below w.heap.size w w' := by
  have Hm := hidd hm
  have Hr := hidd hr
  clear hm hr
  cases hq : m.ok with
  | false =>
    have Hq := hidd hq
    clear hq hc
    go_enter Try.func39, Try.ntmps39
    go_wp2_with (refine ldI rfl (.tmp 2) rfl w.heap.size rfl Hm.out (hp_new rfl) ?_)
    refine (implIsMachine_any m cs Hm.out _).mono ?_
    rintro e w' ⟨rfl, hb⟩
    rw [Hq.out]
    have HB := hidd (bel_then (bel_alloc _ _) hb)
    clear hb
    go_wp2_with fail
    go_ret2
    exact ⟨rfl, HB.out⟩
  | true =>
    obtain ⟨g, rfl, hok⟩ := Mc.to_gm hq
    have hall : xss.all (gwB g.s) = false := by
      cases h : xss.all (gwB g.s) with
      | false => rfl
      | true => exact absurd (codeW_yes hq h) hc
    have Hall := hidd hall
    have Hq := hidd hq
    have HO := hidd hok
    obtain rfl := Hm.out.eq_cells
    clear hq hc hall hok
    obtain ⟨A, c, rows, rfl, hr1, hr2, hr3⟩ := Hr.out
    have HR1 := hidd hr1
    have HR2 := hidd hr2
    have HR3 := hidd hr3
    clear hr1 hr2 hr3
    go_enter Try.func39, Try.ntmps39
    go_wp2_with (refine ldI rfl (.tmp 2) rfl w.heap.size rfl Hm.out (hp_new rfl) ?_)
    refine (implIsMachine_any g.mc _ Hm.out _).mono ?_
    rintro e w1 ⟨rfl, hb⟩
    rw [Hq.out]
    have B1 := hidd (bel_then (bel_alloc _ _) hb)
    have K1 := hidd (hp_bel (hp_new rfl) hb : w1.heap[w.heap.size]? = some (.cells g.mc.cells 31 (0, 0)))
    clear hb
    go_wp2_with fail
    refine (badWords_any g HO.out w.heap.size A c rows xss w1 K1.out (HR1.out.below B1.out) HR2.out (fun j r xs h1 h2 => (HR3.out j r xs h1 h2).below B1.out)).mono ?_
    rintro e w2 ⟨rfl, hb⟩
    rw [Hall.out]
    have HB := hidd (bel_then B1.out hb)
    clear hb
    go_wp2_with fail
    go_ret2
    exact ⟨rfl, HB.out⟩

set_option maxRecDepth 100000 in
set_option maxHeartbeats 1000000 in
theorem groupOf_yes (g : Gm) (hok : g.Ok) (cs : Array Value) (hg : g.Is cs) (v : Value) (xss : List (List Int)) (w : World) (hr : RdLL w v xss) (hall : xss.all (gwB g.s) = true) :
    Calls Try.prog 39 #[.agg cs, v] w fun e w' => (∃ G vo vt, e = .returned (.tuple #[.pointer (some ⟨G, 0, none⟩), .int .i64 0]) ∧ GrpAt w' G g vo vt ∧ w.heap.size ≤ G) ∧ Below w.heap.size w w' := by
  obtain rfl := hg.is.eq_cells
  have HG := hidd hg
  have HO := hidd hok
  have Hall := hidd hall
  have Hq := hidd (Gm.ok hok)
  obtain ⟨A, c, rows, rfl, hr1, hr2, hr3⟩ := hr
  have HR1 := hidd hr1
  have HR2 := hidd hr2
  have HR3 := hidd hr3
  clear hr1 hr2 hr3 hg hok hall
  go_enter Try.func39, Try.ntmps39
  go_wp2_with (refine ldI rfl (.tmp 2) rfl w.heap.size rfl HG.out.is (hp_new rfl) ?_)
  refine (implIsMachine_any g.mc _ HG.out.is _).mono ?_
  rintro e w1 ⟨rfl, hb⟩
  rw [Hq.out]
  have B1 := hidd (bel_then (bel_alloc _ _) hb)
  have K1 := hidd (hp_bel (hp_new rfl) hb : w1.heap[w.heap.size]? = some (.cells g.mc.cells 31 (0, 0)))
  clear hb
  go_wp2_with fail
  refine (badWords_any g HO.out w.heap.size A c rows xss w1 K1.out (HR1.out.below B1.out) HR2.out (fun j r xs h1 h2 => (HR3.out j r xs h1 h2).below B1.out)).mono ?_
  rintro e w2 ⟨rfl, hb⟩
  rw [Hall.out]
  have B2 := hidd (bel_then B1.out hb)
  have K2 := hidd (hp_bel K1.out hb)
  clear hb
  go_wp2_with (refine ldC rfl (.tmp 2) rfl _ g.mc K2.out (by rfl) ?_)
  refine (newGroup_any g HO.out _ HG.out _).mono ?_
  rintro e w3 ⟨⟨G, vo, vt, rfl, hG, hle⟩, hb⟩
  have B3 := hidd (bel_then B2.out hb)
  have HGr := hidd hG
  have hle2 : w.heap.size ≤ G := Nat.le_trans B2.out.size hle
  clear hb hG
  go_wp2_with fail
  go_ret2
  exact ⟨⟨G, vo, vt, rfl, HGr.out, hle2⟩, B3.out⟩
end Go.Proofs.Ytcghcbdefajpgaa
