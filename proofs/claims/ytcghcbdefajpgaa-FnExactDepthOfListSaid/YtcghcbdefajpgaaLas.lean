/- Plain laws: the lasting sections; memory of the reference's search (a queue, rows, a row under way). -/
import Derived.Test.YtcghcbdefajpgaaBH
import Derived.Test.YtcghcbdefajpgaaRgd
namespace Go.Proofs.Ytcghcbdefajpgaa
open Go.RowKit

/-! ### Two lists of marks joined place by place -/
def orP (a b : List Bool) (i : Nat) : List Bool := (orL a b).take i ++ a.drop i
theorem orP_len {a b : List Bool} {n : Nat} (h : a.length = n) (h2 : b.length = n) {i : Nat} (hi : i ≤ n) : (orP a b i).length = n := by
  unfold orP
  rw [List.length_append, List.length_take, List.length_drop, orL_len h h2]
  omega
theorem orP_get {a b : List Bool} {n : Nat} (h : a.length = n) (h2 : b.length = n) {i : Nat} (hi : i ≤ n) (r : Nat) : (orP a b i).getD r false = if r < i then (a.getD r false || b.getD r false) else a.getD r false := by
  have hl : ((orL a b).take i).length = i := by rw [List.length_take, orL_len h h2]; omega
  unfold orP
  rw [List.getD_eq_getElem?_getD, List.getElem?_append, hl]
  by_cases hr : r < i
  · rw [if_pos hr, if_pos hr, ← orL_get h h2, List.getElem?_take, if_pos hr, List.getD_eq_getElem?_getD]
  · rw [if_neg hr, if_neg hr, List.getElem?_drop, show i + (r - i) = r by omega, List.getD_eq_getElem?_getD]
theorem orP_zero (a b : List Bool) : orP a b 0 = a := by simp [orP]
theorem orP_all {a b : List Bool} {n : Nat} (h : a.length = n) (h2 : b.length = n) : orP a b n = orL a b := by
  unfold orP
  rw [List.take_of_length_le (by rw [orL_len h h2]; omega), List.drop_of_length_le (by omega), List.append_nil]
theorem bool_ext {a b : List Bool} (h : a.length = b.length) (hg : ∀ r, a.getD r false = b.getD r false) : a = b := by
  apply List.ext_getElem h
  intro r h1 h2
  have := hg r
  rwa [List.getD_eq_getElem?_getD, List.getD_eq_getElem?_getD, List.getElem?_eq_getElem h1, List.getElem?_eq_getElem h2] at this
theorem getD_setB (bs : List Bool) (a r : Nat) (b : Bool) : (bs.set a b).getD r false = if a = r ∧ a < bs.length then b else bs.getD r false := by
  rw [List.getD_eq_getElem?_getD, List.getD_eq_getElem?_getD, List.getElem?_set]
  by_cases h : a = r
  · subst h
    by_cases h2 : a < bs.length
    · simp [h2]
    · simp [h2]
  · simp [h]
theorem orP_set {a b : List Bool} {n : Nat} (h : a.length = n) (h2 : b.length = n) {i : Nat} (hi : i < n) : (orP a b i).set i (a.getD i false || b.getD i false) = orP a b (i + 1) := by
  have hl := orP_len h h2 (show i ≤ n by omega)
  refine bool_ext (by rw [List.length_set, hl, orP_len h h2 (by omega)]) fun r => ?_
  rw [getD_setB, hl, orP_get h h2 (by omega), orP_get h h2 (by omega)]
  by_cases e : i = r
  · subst e; rw [if_pos ⟨rfl, hi⟩, if_pos (by omega)]
  · rw [if_neg (fun hh => e hh.1)]
    by_cases e2 : r < i
    · rw [if_pos e2, if_pos (by omega)]
    · rw [if_neg e2, if_neg (by omega)]
/-- A mark set first makes no difference where it is met. -/
theorem orL_set {a b : List Bool} {n k : Nat} (h : a.length = n) (h2 : b.length = n) (hk : b.getD k false = true) : orL (a.set k true) b = orL a b := by
  refine bool_ext (by rw [orL_len (by rw [List.length_set]; exact h) h2, orL_len h h2]) fun r => ?_
  rw [orL_get (by rw [List.length_set]; exact h) h2, orL_get h h2, getD_set]
  by_cases e : k = r
  · subst e; rw [hk]; simp
  · rw [if_neg (fun hh => e hh.1)]

/-! ### The marked ones of a list -/
def pick {α : Type} (W : List α) (bs : List Bool) : Nat → List α
  | 0 => []
  | k + 1 => if bs.getD k false then pick W bs k ++ W[k]?.toList else pick W bs k
theorem pick_yes {α : Type} {W : List α} {bs : List Bool} {k : Nat} {x : α} (h : bs.getD k false = true) (hx : W[k]? = some x) : pick W bs (k + 1) = pick W bs k ++ [x] := by
  rw [pick, if_pos h, hx]; rfl
theorem pick_no {α : Type} {W : List α} {bs : List Bool} {k : Nat} (h : bs.getD k false = false) : pick W bs (k + 1) = pick W bs k := by
  rw [pick, h, if_neg (by decide)]
theorem pick_mem {α : Type} {W : List α} {bs : List Bool} : ∀ (k : Nat) (x : α), x ∈ pick W bs k → ∃ j, j < k ∧ W[j]? = some x
  | 0, x, h => by cases h
  | k + 1, x, h => by
    rw [pick] at h
    split at h
    · rcases List.mem_append.1 h with h | h
      · obtain ⟨j, h1, h2⟩ := pick_mem k x h
        exact ⟨j, by omega, h2⟩
      · exact ⟨k, by omega, Option.mem_toList.1 h⟩
    · obtain ⟨j, h1, h2⟩ := pick_mem k x h
      exact ⟨j, by omega, h2⟩
theorem pick_le {α : Type} (W : List α) (bs : List Bool) : ∀ k, (pick W bs k).length ≤ k
  | 0 => Nat.le_refl _
  | k + 1 => by
    have := pick_le W bs k
    rw [pick]
    split
    · rw [List.length_append]
      have : (W[k]?.toList).length ≤ 1 := by cases W[k]? <;> simp
      omega
    · omega
theorem pick_off {w : World} {B : Nat} {v : Value} {rows : List Value} {W : List (List Int)} (h : LLr w B v rows W) {bs : List Bool} {k : Nat} {r : Value} (hk : rows[k]? = some r) : ∀ (j : Nat) (u : Value), (pick rows bs k)[j]? = some u → Apart u r := fun j u hj => by
  obtain ⟨i, h1, h2⟩ := pick_mem k u (List.mem_of_getElem? hj)
  exact h.ap i k u r h2 hk (by omega)
/-- The lasting sections of a word, and the code. -/
def Gm.las (g : Gm) (u : List Int) : List (List Int) × Int :=
  (pick (g.secs (fun _ => true) u).1 (lsK (g.secs (fun _ => true) u).2.1 g.l (g.secs (fun _ => true) u).1.length (g.secs (fun _ => true) u).1.length) (g.secs (fun _ => true) u).1.length, (g.secs (fun _ => true) u).2.2)
theorem Gm.las_bad {g : Gm} {u : List Int} (h : (g.secs (fun _ => true) u).2.2 ≠ 0) : g.las u = ([], 3) := by
  have h5 : (g.secs (fun _ => true) u).2.2 ≠ 5 := Gm.bf_all _ _ _ _
  rcases g.secs_code (fun _ => true) u with h1 | ⟨h1, h2, h3⟩
  · exact absurd h1 h
  · have : (g.secs (fun _ => true) u).2.2 = 3 := h1.resolve_right h5
    unfold Gm.las
    rw [h2, this]
    rfl
theorem Gm.las_len {g : Gm} (hok : g.Ok) {u : List Int} (hu : g.Nums u) : (g.las u).1.length ≤ 200 ∧ ∀ s ∈ (g.las u).1, g.Nums s ∧ s.length ≤ u.length := by
  by_cases hc : (g.secs (fun _ => true) u).2.2 = 0
  · have hs := Gm.secs_ok hok hu hc
    have h1 := pick_le (g.secs (fun _ => true) u).1 (lsK (g.secs (fun _ => true) u).2.1 g.l (g.secs (fun _ => true) u).1.length (g.secs (fun _ => true) u).1.length) (g.secs (fun _ => true) u).1.length
    have h2 := hs.le
    refine ⟨Nat.le_trans h1 h2, fun s hm => ?_⟩
    obtain ⟨j, _, hj⟩ := pick_mem _ s hm
    exact hs.wd s (List.mem_of_getElem? hj)
  · rw [Gm.las_bad hc]
    exact ⟨Nat.zero_le _, fun s hs => by cases hs⟩

/-! ### Memory of the reference's search -/
structure Gq (w : World) (B : Nat) (vw vr : Value) (rw rr : List Value) (W R : List (List Int)) : Prop where
  q : LLr w B vw rw W
  n : LLr w B vr rr R
  a : Apart vr vw
theorem Gq.below {w w' : World} {B : Nat} {vw vr : Value} {rw rr : List Value} {W R : List (List Int)} (h : Gq w B vw vr rw rr W R) (hb : Below w.heap.size w w') : Gq w' B vw vr rw rr W R :=
  ⟨h.q.below hb, h.n.below hb, h.a⟩
structure Gr (w : World) (B : Nat) (vw vr : Value) (rw rr : List Value) (W R : List (List Int)) (B' : Nat) (u : Value) (xs : List Int) : Prop where
  qs : Gq w B vw vr rw rr W R
  ow : Own w B' 2 u (ints xs)
  uw : Off u rw
  un : Off u rr
  bb : B ≤ B'
theorem Gr.below {w w' : World} {B B' : Nat} {vw vr u : Value} {rw rr : List Value} {W R : List (List Int)} {xs : List Int} (h : Gr w B vw vr rw rr W R B' u xs) (hb : Below w.heap.size w w') : Gr w' B vw vr rw rr W R B' u xs :=
  ⟨h.qs.below hb, h.ow.below hb, h.uw, h.un, h.bb⟩
theorem Gq.row {w w2 : World} {B B' : Nat} {vw vr u : Value} {rw rr : List Value} {W R : List (List Int)} {xs : List Int} (h : Gq w B vw vr rw rr W R) (hu : Own w2 B' 2 u (ints xs)) (hB : w.heap.size ≤ B') (hBB : B ≤ B') (hb : Below w.heap.size w w2) : Gr w2 B vw vr rw rr W R B' u xs :=
  ⟨h.below hb, hu, fun j t hj => by obtain ⟨ys, _, ho⟩ := h.q.list hj; exact own_ne ho hu hB, fun j t hj => by obtain ⟨ys, _, ho⟩ := h.n.list hj; exact own_ne ho hu hB, hBB⟩
structure Gs (w : World) (B : Nat) (vw vr : Value) (rw rr : List Value) (W R : List (List Int)) (B' : Nat) (u : Value) (xs : List Int) (s : Value) (zs : List Int) : Prop where
  r : Gr w B vw vr rw rr W R B' u xs
  so : Own w B 2 s (ints zs)
  su : Apart s u
  sw : ∀ (j : Nat) (u : Value), rw[j]? = some u → Apart u s
theorem Gr.half {w w2 : World} {B B' : Nat} {vw vr u s : Value} {rw rr : List Value} {W R : List (List Int)} {xs zs : List Int} (h : Gr w B vw vr rw rr W R B' u xs) {B2 : Nat} (hs : Own w2 B2 2 s (ints zs)) (hB : w.heap.size ≤ B2) (hBB : B ≤ B2) (hb : Below w.heap.size w w2) : Gs w2 B vw vr rw rr W R B' u xs s zs :=
  ⟨h.below hb, hs.mono hBB, own_ne' h.ow hs hB, fun j t hj => by obtain ⟨ys, _, ho⟩ := h.qs.q.list hj; exact own_ne ho hs hB⟩
theorem Gs.below {w w' : World} {B B' : Nat} {vw vr u s : Value} {rw rr : List Value} {W R : List (List Int)} {xs zs : List Int} (h : Gs w B vw vr rw rr W R B' u xs s zs) (hb : Below w.heap.size w w') : Gs w' B vw vr rw rr W R B' u xs s zs :=
  ⟨h.r.below hb, h.so.below hb, h.su, h.sw⟩
theorem Gs.push {w w' : World} {B B' : Nat} {vw vw' vr u s : Value} {rw rr : List Value} {W R : List (List Int)} {xs zs : List Int} (h : Gs w B vw vr rw rr W R B' u xs s zs) (hv : Own w' B 26 vw' (rw ++ [s])) (hg : w.grownBy w' vw.ownBlock) (hl : Lies w.heap.size vw vw') :
    Gr w' B vw' vr (rw ++ [s]) rr (W ++ [zs]) R B' u xs :=
  ⟨⟨h.r.qs.q.push h.so h.sw hv hg, h.r.qs.n.keepL h.r.qs.q.v h.r.qs.a hg, h.r.qs.a.lies h.r.qs.n.v (Nat.le_refl _) hl⟩, h.r.ow.keep hg (h.r.ow.apart h.r.qs.q.v types_ne), h.r.uw.push h.su, h.r.un, h.r.bb⟩
theorem Gr.put {w w' : World} {B B' : Nat} {vw vr u u' : Value} {rw rr : List Value} {W R : List (List Int)} {xs xs' : List Int} (h : Gr w B vw vr rw rr W R B' u xs) (hu : Own w' B' 2 u' (ints xs')) (hg : w.grownBy w' u.ownBlock) (hl : Lies w.heap.size u u') : Gr w' B vw vr rw rr W R B' u' xs' :=
  ⟨⟨h.qs.q.keep h.ow h.uw hg, h.qs.n.keep h.ow h.un hg, h.qs.a⟩, hu, fun j t hj => by obtain ⟨ys, _, ho⟩ := h.qs.q.list hj; exact (h.uw j t hj).lies ho (Nat.le_refl _) hl, fun j t hj => by obtain ⟨ys, _, ho⟩ := h.qs.n.list hj; exact (h.un j t hj).lies ho (Nat.le_refl _) hl, h.bb⟩
theorem Gr.done {w w' : World} {B B' : Nat} {vw vr vr' u : Value} {rw rr : List Value} {W R : List (List Int)} {xs : List Int} (h : Gr w B vw vr rw rr W R B' u xs) (hv : Own w' B 26 vr' (rr ++ [u])) (hg : w.grownBy w' vr.ownBlock) (hl : Lies w.heap.size vr vr') : Gq w' B vw vr' rw (rr ++ [u]) W (R ++ [xs]) :=
  ⟨h.qs.q.keepL h.qs.n.v h.qs.a.symm hg, h.qs.n.push (h.ow.mono h.bb) h.un hv hg, (h.qs.a.symm.lies h.qs.q.v (Nat.le_refl _) hl).symm⟩
end Go.Proofs.Ytcghcbdefajpgaa
