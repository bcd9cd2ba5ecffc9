/- Memory of the reference's tables: arrays of three, slices of them, a queue beside them. -/
import Derived.Test.YtcghcbdefajpgaaBob
import Derived.Test.YtcghcbdefajpgaaBI
namespace Go.Proofs.Ytcghcbdefajpgaa
open Go.RowKit

def a3 (k : IntKind) (f : Nat → Int) : Array Value := #[.int k (f 0), .int k (f 1), .int k (f 2)]
theorem a3_size (k : IntKind) (f : Nat → Int) : (a3 k f).size = 3 := rfl
theorem a3_get (k : IntKind) (f : Nat → Int) {x : Nat} (hx : x < 3) : (a3 k f)[x]? = some (.int k (f x)) := by
  match x, hx with
  | 0, _ => rfl
  | 1, _ => rfl
  | 2, _ => rfl
theorem a3_getL (k : IntKind) (f : Nat → Int) {x : Nat} (hx : x < 3) : (a3 k f).toList[x]? = some (.int k (f x)) := by
  match x, hx with
  | 0, _ => rfl
  | 1, _ => rfl
  | 2, _ => rfl
theorem a3_congr {k : IntKind} {f f' : Nat → Int} (h : ∀ x, x < 3 → f x = f' x) : a3 k f = a3 k f' := by
  unfold a3
  rw [h 0 (by omega), h 1 (by omega), h 2 (by omega)]
theorem a3_set (k : IntKind) (f : Nat → Int) {x : Nat} (hx : x < 3) (v : Int) : (a3 k f).setIfInBounds x (.int k v) = a3 k (fun y => if y = x then v else f y) := by
  match x, hx with
  | 0, _ => rfl
  | 1, _ => rfl
  | 2, _ => rfl
theorem a3_one (k : IntKind) (f : Nat → Int) : ∀ u ∈ (a3 k f).toList, u.oneCell' = true := fun u hu => by
  simp [a3] at hu
  rcases hu with rfl | rfl | rfl <;> rfl
def oF (g : Gm) (s : List Int) (n : Nat) : Nat → Int := fun x => if x < n then (g.im s x : Nat) else 0
def nF (row : List Int) : Nat → Int := fun x => row.getD x 0
theorem oF_set (g : Gm) (s : List Int) {x : Nat} (hx : x < 3) : (a3 .u8 (oF g s x)).setIfInBounds x (.int .u8 (g.im s x : Nat)) = a3 .u8 (oF g s (x + 1)) := by
  rw [a3_set _ _ hx]
  refine a3_congr fun y hy => ?_
  unfold oF
  by_cases e : y = x
  · subst e; rw [if_pos rfl, if_pos (by omega)]
  · rw [if_neg e]
    by_cases h : y < x
    · rw [if_pos h, if_pos (by omega)]
    · rw [if_neg h, if_neg (by omega)]
theorem nF_set {row : List Int} {x : Nat} (hr : row.length = x) (hx : x < 3) (v : Int) : (a3 .i64 (nF row)).setIfInBounds x (.int .i64 v) = a3 .i64 (nF (row ++ [v])) := by
  rw [a3_set _ _ hx]
  refine a3_congr fun y hy => ?_
  unfold nF
  rw [getD_snoc, hr]
  by_cases e : y = x
  · subst e; simp
  · rw [if_neg e]
    by_cases h : y < x
    · rw [if_pos h]
    · rw [if_neg h, if_neg e, List.getD_eq_getElem?_getD, List.getElem?_eq_none (by omega)]; rfl
def oR (g : Gm) (s : List Int) : List Value := (a3 .u8 (oF g s g.l)).toList
def nR (row : List Int) : List Value := (a3 .i64 (nF row)).toList
theorem LLr.keepW {w w' : World} {B B' : Nat} {e : TypeId} {k : Nat} {v u : Value} {rows : List Value} {xss : List (List Int)} {es : List (List Value)} (h : LLr w B v rows xss) (hu : OwnW w B' e k u es) (h1 : 2 ≠ e) (h2 : 26 ≠ e) (hg : w.grownBy w' u.ownBlock) : LLr w' B v rows xss :=
  ⟨h.v.grown hg (h.v.apartW hu h2), h.len, fun j r xs h3 h4 => (h.row j r xs h3 h4).grown hg ((h.row j r xs h3 h4).apartW hu h1), h.ap⟩
/-- A block that holds other cells is no slice's. -/
theorem owns_off {w : World} {base : Nat} {e t : TypeId} {k : Nat} {v : Value} {n : Nat} {xs : List Value} {p : Nat} {cs : Array Value} {fr : Nat × Nat} (h : w.ownsRow base e k v n xs) (hp : w.heap[p]? = some (.cells cs t fr)) (hne : e ≠ t) : v.ownBlock ≠ some p := fun hv => by
  obtain ⟨c, hc⟩ := owns_block h hv
  rw [hc] at hp
  cases hp
  exact hne rfl
theorem grown_set (w : World) (p i : Nat) (v : Value) : w.grownBy (w.setCell ⟨p, i, none⟩ v) (some p) := ⟨rfl, rfl, rfl, by simp [World.setCell], fun k _ hk => Below.heap_setCell _ _ _ _ (fun e => hk (by rw [e]))⟩
theorem LLr.farB {w : World} {B p i : Nat} {v : Value} {rows : List Value} {xss : List (List Int)} {cs : Array Value} {t : TypeId} {fr : Nat × Nat} (h : LLr w B v rows xss) (hp : w.heap[p]? = some (.cells cs t fr)) (h1 : 2 ≠ t) (h2 : 26 ≠ t) (x : Value) : LLr (w.setCell ⟨p, i, none⟩ x) B v rows xss :=
  ⟨h.v.grown (grown_set w p i x) (.inr (owns_off h.v hp h2)), h.len, fun j r xs h3 h4 => (h.row j r xs h3 h4).grown (grown_set w p i x) (.inr (owns_off (h.row j r xs h3 h4) hp h1)), h.ap⟩

structure Rq (w : World) (B : Nat) (vq vo vn : Value) (rw : List Value) (W : List (List Int)) (es fs : List (List Value)) : Prop where
  q : LLr w B vq rw W
  o : OwnW w B 22 3 vo es
  n : OwnW w B 102 3 vn fs
theorem Rq.below {w w' : World} {B : Nat} {vq vo vn : Value} {rw : List Value} {W : List (List Int)} {es fs : List (List Value)} (h : Rq w B vq vo vn rw W es fs) (hb : Below w.heap.size w w') : Rq w' B vq vo vn rw W es fs := ⟨h.q.below hb, h.o.below hb, h.n.below hb⟩
theorem Rq.pushO {w w' : World} {B : Nat} {vq vo vo' vn : Value} {rw : List Value} {W : List (List Int)} {es es' fs : List (List Value)} (h : Rq w B vq vo vn rw W es fs) (ho : OwnW w' B 22 3 vo' es') (hg : w.grownBy w' vo.ownBlock) : Rq w' B vq vo' vn rw W es' fs :=
  ⟨h.q.keepW h.o (by decide) (by decide) hg, ho, h.n.grown hg (h.n.apart h.o (by decide))⟩
theorem Rq.pushN {w w' : World} {B : Nat} {vq vo vn vn' : Value} {rw : List Value} {W : List (List Int)} {es fs fs' : List (List Value)} (h : Rq w B vq vo vn rw W es fs) (ho : OwnW w' B 102 3 vn' fs') (hg : w.grownBy w' vn.ownBlock) : Rq w' B vq vo vn' rw W es fs' :=
  ⟨h.q.keepW h.n (by decide) (by decide) hg, h.o.grown hg (h.o.apart h.n (by decide)), ho⟩
theorem Rq.pushQ {w w' : World} {B : Nat} {vq vq' vo vn s : Value} {rw : List Value} {W : List (List Int)} {es fs : List (List Value)} {zs : List Int} (h : Rq w B vq vo vn rw W es fs) (hs : Own w B 2 s (ints zs)) (hn : ∀ (j : Nat) (u : Value), rw[j]? = some u → Apart u s) (hv : Own w' B 26 vq' (rw ++ [s])) (hg : w.grownBy w' vq.ownBlock) : Rq w' B vq' vo vn (rw ++ [s]) (W ++ [zs]) es fs :=
  ⟨h.q.push hs hn hv hg, h.o.grown hg (h.o.apartI h.q.v (by decide)), h.n.grown hg (h.n.apartI h.q.v (by decide))⟩
/-- .. with a row of images and one of places under way. -/
structure Ri (g : Gm) (w : World) (B : Nat) (vq vo vn : Value) (rw : List Value) (W : List (List Int)) (es fs : List (List Value)) (p q : Nat) (s : List Int) (x : Nat) (row : List Int) : Prop where
  r : Rq w B vq vo vn rw W es fs
  hp : w.heap[p]? = some (.cells (a3 .u8 (oF g s x)) 22 (0, 0))
  hq : w.heap[q]? = some (.cells (a3 .i64 (nF row)) 102 (0, 0))
  no : vo.ownBlock ≠ some p
  nn : vn.ownBlock ≠ some q
  len : row.length = x
  bp : B ≤ p
  bq : B ≤ q
theorem Ri.below {g : Gm} {w w' : World} {B : Nat} {vq vo vn : Value} {rw : List Value} {W : List (List Int)} {es fs : List (List Value)} {p q : Nat} {s : List Int} {x : Nat} {row : List Int} (h : Ri g w B vq vo vn rw W es fs p q s x row) (hb : Below w.heap.size w w') : Ri g w' B vq vo vn rw W es fs p q s x row :=
  ⟨h.r.below hb, hp_bel h.hp hb, hp_bel h.hq hb, h.no, h.nn, h.len, h.bp, h.bq⟩
theorem Ri.pushQ {g : Gm} {w w' : World} {B : Nat} {vq vq' vo vn s' : Value} {rw : List Value} {W : List (List Int)} {es fs : List (List Value)} {p q : Nat} {s zs : List Int} {x : Nat} {row : List Int} (h : Ri g w B vq vo vn rw W es fs p q s x row) (hs : Own w B 2 s' (ints zs)) (hn : ∀ (j : Nat) (u : Value), rw[j]? = some u → Apart u s') (hv : Own w' B 26 vq' (rw ++ [s'])) (hg : w.grownBy w' vq.ownBlock) :
    Ri g w' B vq' vo vn (rw ++ [s']) (W ++ [zs]) es fs p q s x row :=
  ⟨h.r.pushQ hs hn hv hg, kept_own hg h.hp (owns_off h.r.q.v h.hp (by decide)), kept_own hg h.hq (owns_off h.r.q.v h.hq (by decide)), h.no, h.nn, h.len, h.bp, h.bq⟩
theorem Ri.ne {g : Gm} {w : World} {B : Nat} {vq vo vn : Value} {rw : List Value} {W : List (List Int)} {es fs : List (List Value)} {p q : Nat} {s : List Int} {x : Nat} {row : List Int} (h : Ri g w B vq vo vn rw W es fs p q s x row) : p ≠ q := fun e => by
  have h1 := h.hp
  have h2 := h.hq
  rw [e, h2] at h1
  cases h1
/-- Both rows written at x. -/
theorem Ri.set {g : Gm} {w : World} {B : Nat} {vq vo vn : Value} {rw : List Value} {W : List (List Int)} {es fs : List (List Value)} {p q : Nat} {s : List Int} {x : Nat} {row : List Int} (h : Ri g w B vq vo vn rw W es fs p q s x row) (hx : x < 3) (v : Int) :
    Ri g ((w.setCell ⟨p, x, none⟩ (.int .u8 (g.im s x : Nat))).setCell ⟨q, x, none⟩ (.int .i64 v)) B vq vo vn rw W es fs p q s (x + 1) (row ++ [v]) := by
  have hne := h.ne
  have q1 := h.r.q.farB (i := x) h.hp (by decide) (by decide) (.int .u8 (g.im s x : Nat))
  have hq1 := hp_far h.hq (p := ⟨p, x, none⟩) (by exact fun e => hne e.symm) (.int .u8 (g.im s x : Nat))
  have hp1 := hp_set h.hp x (.int .u8 (g.im s x : Nat))
  refine ⟨⟨q1.farB hq1 (by decide) (by decide) _, (h.r.o.grown (grown_set _ _ _ _) (.inr h.no)).grown (grown_set _ _ _ _) (.inr ?_), (h.r.n.grown (grown_set _ _ _ _) (.inr ?_)).grown (grown_set _ _ _ _) (.inr h.nn)⟩, ?_, ?_, h.no, h.nn, ?_, h.bp, h.bq⟩
  · exact owns_off h.r.o.2 h.hq (by decide)
  · exact owns_off h.r.n.2 h.hp (by decide)
  · rw [oF_set g s hx] at hp1
    exact hp_far hp1 (p := ⟨q, x, none⟩) (by exact fun e => hne e) _
  · have := hp_set hq1 x (.int .i64 v)
    rwa [nF_set h.len hx] at this
  · rw [List.length_append, h.len]; rfl
end Go.Proofs.Ytcghcbdefajpgaa
