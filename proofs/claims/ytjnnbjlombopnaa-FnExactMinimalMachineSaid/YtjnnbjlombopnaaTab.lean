/- Walks: the table of a machine. -/
import Derived.Test.YtjnnbjlombopnaaOwn
import Derived.Test.YtjnnbjlombopnaaCat
import Derived.Test.YtjnnbjlombopnaaOrd
import Derived.Deep.RegionLaw
namespace Go.Proofs.Ytjnnbjlombopnaa
open Go.RowKit

/-- A slice of slices of whole numbers of the call's own. -/
def OwnLL (w : World) (B : Nat) (v : Value) (xss : List (List Int)) : Prop :=
  ∃ rows : List Value, Own w B 30 v rows ∧ rows.length = xss.length ∧ (∀ (j : Nat) (r : Value) (xs : List Int), rows[j]? = some r → xss[j]? = some xs → Own w B 2 r (ints xs)) ∧ ∀ (i j : Nat) (r u : Value), rows[i]? = some r → rows[j]? = some u → i ≠ j → Apart r u
theorem OwnLL.nil (w : World) (B : Nat) : OwnLL w B (.slice none 0 0) [] := ⟨[], Own.nil _ _ _, rfl, fun j r xs h => by simp at h, fun i j r u h => by simp at h⟩
theorem OwnLL.rdLL {w : World} {B : Nat} {v : Value} {xss : List (List Int)} (h : OwnLL w B v xss) : RdLL w v xss := by
  obtain ⟨rows, ho, hl, hr, _⟩ := h
  obtain ⟨A, c, rfl⟩ := ho.slice
  exact ⟨A, c, rows, by rw [hl], ho.rd.2, hl, fun j r xs h1 h2 => (hr j r xs h1 h2).rdI⟩
theorem OwnLL.below {w w' : World} {B : Nat} {v : Value} {xss : List (List Int)} (h : OwnLL w B v xss) (hb : Below w.heap.size w w') : OwnLL w' B v xss := by
  obtain ⟨rows, ho, hl, hr, ha⟩ := h
  exact ⟨rows, ho.below hb, hl, fun j r xs h1 h2 => (hr j r xs h1 h2).below hb, ha⟩
theorem OwnLL.mono {w : World} {B B' : Nat} {v : Value} {xss : List (List Int)} (h : OwnLL w B v xss) (hb : B' ≤ B) : OwnLL w B' v xss := by
  obtain ⟨rows, ho, hl, hr, ha⟩ := h
  exact ⟨rows, ho.mono hb, hl, fun j r xs h1 h2 => (hr j r xs h1 h2).mono hb, ha⟩
theorem OwnLL.far {w : World} {B T o : Nat} {v : Value} {xss : List (List Int)} (h : OwnLL w B v xss) (hT : T < B) (u : Value) : OwnLL (w.setCell ⟨T, o, none⟩ u) B v xss := by
  obtain ⟨rows, ho, hl, hr, ha⟩ := h
  have ne : ∀ {e : TypeId} {v : Value} {vs : List Value}, Own w B e v vs → v.ownBlock ≠ some T := fun h hb => by have := (h.block T hb).1; omega
  exact ⟨rows, ho.far (ne ho) u, hl, fun j r xs h1 h2 => (hr j r xs h1 h2).far (ne (hr j r xs h1 h2)) u, ha⟩
theorem types_ne : 2 ≠ 30 := by decide
/-- One more list. -/
theorem OwnLL.push {w w' : World} {B : Nat} {v v' r : Value} {xss : List (List Int)} {xs : List Int} {rows : List Value} (hl : rows.length = xss.length) (hr : ∀ (j : Nat) (r : Value) (xs : List Int), rows[j]? = some r → xss[j]? = some xs → Own w B 2 r (ints xs))
    (ha : ∀ (i j : Nat) (r u : Value), rows[i]? = some r → rows[j]? = some u → i ≠ j → Apart r u) (hv : Own w B 30 v rows) (hx : Own w B 2 r (ints xs)) (hxa : ∀ (j : Nat) (u : Value), rows[j]? = some u → Apart u r) (hv' : Own w' B 30 v' (rows ++ [r])) (hg : w.grownBy w' v.ownBlock) : OwnLL w' B v' (xss ++ [xs]) := by
  have get : ∀ (j : Nat) (u : Value), (rows ++ [r])[j]? = some u → (j < rows.length ∧ rows[j]? = some u) ∨ (j = rows.length ∧ u = r) := by
    intro j u hj
    rw [List.getElem?_append] at hj
    by_cases hlt : j < rows.length
    · rw [if_pos hlt] at hj; exact .inl ⟨hlt, hj⟩
    · rw [if_neg hlt] at hj
      match h : j - rows.length, hj with
      | 0, hj => simp at hj; exact .inr ⟨by omega, hj.symm⟩
  refine ⟨rows ++ [r], hv', by simp [hl], fun j u ys h1 h2 => ?_, fun i j u u' h1 h2 hne => ?_⟩
  · rcases get j u h1 with ⟨hlt, h3⟩ | ⟨he, rfl⟩
    · rw [List.getElem?_append, if_pos (by omega)] at h2
      have ho := hr j u ys h3 h2
      exact ho.keep hg (ho.apart hv types_ne)
    · rw [List.getElem?_append, if_neg (by omega), show j - xss.length = 0 by omega] at h2
      simp at h2
      subst h2
      exact hx.keep hg (hx.apart hv types_ne)
  · rcases get i u h1 with ⟨hlt, h3⟩ | ⟨he, rfl⟩
    · rcases get j u' h2 with ⟨hlt2, h4⟩ | ⟨he2, rfl⟩
      · exact ha i j u u' h3 h4 hne
      · exact hxa i u h3
    · rcases get j u' h2 with ⟨hlt2, h4⟩ | ⟨he2, rfl⟩
      · exact (hxa j u' h4).symm
      · omega
/-- An append to another slice of slices leaves it as it was. -/
theorem OwnLL.keep {w w' : World} {B B' : Nat} {v u : Value} {xss : List (List Int)} {us : List Value} (h : OwnLL w B v xss) (hu : Own w B' 30 u us) (hg : w.grownBy w' u.ownBlock) (ha : Apart v u) : OwnLL w' B v xss := by
  obtain ⟨rows, ho, hl, hr, hap⟩ := h
  exact ⟨rows, ho.keep hg ha, hl, fun j r xs h1 h2 => (hr j r xs h1 h2).keep hg ((hr j r xs h1 h2).apart hu types_ne), hap⟩

/-- The rows of a machine. -/
def Gm.nr (g : Gm) (q : Nat) : List Int := (List.range g.l).map fun x => (g.nx q x : Int)
def Gm.or (g : Gm) (q : Nat) : List Int := (List.range g.l).map fun x => (g.ou q x : Int)
def Gm.nxs (g : Gm) (n : Nat) : List (List Int) := (List.range n).map g.nr
def Gm.ous (g : Gm) (n : Nat) : List (List Int) := (List.range n).map g.or
theorem ints_snoc' (xs : List Int) (x : Int) : ints (xs ++ [x]) = ints xs ++ [.int .i64 x] := by simp [ints]
theorem Gm.nxs_succ (g : Gm) (n : Nat) : g.nxs (n + 1) = g.nxs n ++ [g.nr n] := by simp [Gm.nxs, List.range_succ]
theorem Gm.ous_succ (g : Gm) (n : Nat) : g.ous (n + 1) = g.ous n ++ [g.or n] := by simp [Gm.ous, List.range_succ]
def upto (f : Nat → Int) (n : Nat) : List Int := (List.range n).map f
theorem upto_len (f : Nat → Int) (n : Nat) : (upto f n).length = n := by simp [upto]
theorem upto_succ (f : Nat → Int) (n : Nat) : upto f (n + 1) = upto f n ++ [f n] := by simp [upto, List.range_succ]
theorem OwnLL.snoc_nx {w : World} {B : Nat} {v : Value} {g : Gm} {q : Nat} (h : OwnLL w B v (g.nxs q ++ [upto (fun x => (g.nx q x : Int)) g.l])) : OwnLL w B v (g.nxs (q + 1)) := by rw [Gm.nxs_succ]; exact h
theorem OwnLL.snoc_ou {w : World} {B : Nat} {v : Value} {g : Gm} {q : Nat} (h : OwnLL w B v (g.ous q ++ [upto (fun x => (g.ou q x : Int)) g.l])) : OwnLL w B v (g.ous (q + 1)) := by rw [Gm.ous_succ]; exact h
/-- A table lies in block T. -/
def TabAt (w : World) (T : Nat) (nxt out : List (List Int)) : Prop := ∃ vn vo, w.heap[T]? = some (.cells #[vn, vo] 171 (0, 0)) ∧ RdLL w vn nxt ∧ RdLL w vo out
theorem TabAt.below {w w' : World} {T : Nat} {nxt out : List (List Int)} (h : TabAt w T nxt out) (hb : Below w.heap.size w w') : TabAt w' T nxt out := by
  obtain ⟨vn, vo, h1, h2, h3⟩ := h
  exact ⟨vn, vo, hp_bel h1 hb, h2.below hb, h3.below hb⟩

/-- The own block of a slice is none that lay there before its base. -/
theorem Own.ne_low {w : World} {B T : Nat} {e : TypeId} {v : Value} {vs : List Value} (h : Own w B e v vs) (hT : T < B) : v.ownBlock ≠ some T := fun hb => by have := (h.block T hb).1; omega
theorem Own.ne_new {w : World} {B : Nat} {e : TypeId} {v : Value} {vs : List Value} (h : Own w B e v vs) : v.ownBlock ≠ some w.heap.size := fun hb => by have := (h.block _ hb).2; omega
theorem kept_own {w w' : World} {v : Value} {p : Nat} {x : Obj} (hg : w.grownBy w' v.ownBlock) (h : w.heap[p]? = some x) (hne : v.ownBlock ≠ some p) : w'.heap[p]? = some x := (hg.block p (hp_lt h) (fun e => hne e.symm)).trans h
/-- A slice of rows, and a row to be appended to it. -/
structure Half (w : World) (B B' : Nat) (v : Value) (rows : List Value) (xss : List (List Int)) (r : Value) (xs : List Int) : Prop where
  len : rows.length = xss.length
  each : ∀ (j : Nat) (u : Value) (ys : List Int), rows[j]? = some u → xss[j]? = some ys → Own w B 2 u (ints ys)
  apart : ∀ (i j : Nat) (r u : Value), rows[i]? = some r → rows[j]? = some u → i ≠ j → Apart r u
  own : Own w B 30 v rows
  row : Own w B' 2 r (ints xs)
  new : ∀ (j : Nat) (u : Value), rows[j]? = some u → Apart u r
theorem Half.keep {w w' : World} {B B' B2 : Nat} {v r u : Value} {rows us : List Value} {xss : List (List Int)} {xs : List Int} (h : Half w B B' v rows xss r xs) (hu : Own w B2 30 u us) (hg : w.grownBy w' u.ownBlock) (ha : Apart v u) : Half w' B B' v rows xss r xs :=
  ⟨h.len, fun j r xs h1 h2 => (h.each j r xs h1 h2).keep hg ((h.each j r xs h1 h2).apart hu types_ne), h.apart, h.own.keep hg ha, h.row.keep hg (h.row.apart hu types_ne), h.new⟩
theorem Half.below {w w' : World} {B B' : Nat} {v r : Value} {rows : List Value} {xss : List (List Int)} {xs : List Int} (h : Half w B B' v rows xss r xs) (hb : Below w.heap.size w w') : Half w' B B' v rows xss r xs :=
  ⟨h.len, fun j r xs h1 h2 => (h.each j r xs h1 h2).below hb, h.apart, h.own.below hb, h.row.below hb, h.new⟩
theorem Half.push {w w' : World} {B B' : Nat} {v v' r : Value} {rows : List Value} {xss : List (List Int)} {xs : List Int} (h : Half w B B' v rows xss r xs) (hB : B ≤ B') (hv' : Own w' B 30 v' (rows ++ [r])) (hg : w.grownBy w' v.ownBlock) : OwnLL w' B v' (xss ++ [xs]) :=
  OwnLL.push h.len h.each h.apart h.own (h.row.mono hB) h.new hv' hg
theorem drew_bel (w : World) : Below w.heap.size w w.drew := (bel_drewN (Below.refl _ w) 1)
theorem info_ints : (Try.prog.info? 30).map (fun i => (i.zero, i.size, i.bytes)) = some (some (.slice none 0 0), 1, 24) := by kernel_rfl
theorem tcells {w : World} {T : Nat} {vn vo : Value} {t : TypeId} (h : w.heap[T]? = some (.cells #[vn, vo] t (0, 0))) : w.cell? ⟨T, 0, none⟩ = some vn ∧ w.cell? ⟨T, 1, none⟩ = some vo := ⟨by rw [blkc h]; rfl, by rw [blkc h]; rfl⟩

set_option linter.unusedSimpArgs false in
set_option maxRecDepth 100000 in
set_option maxHeartbeats 4000000 in
theorem table_any (g : Gm) (hok : g.Ok) (b o : Nat) (w : World) (hA : g.At w b o) :
    Calls Try.prog 125 #[.pointer (some ⟨b, o, none⟩)] w fun e w' => e = .returned (.pointer (some ⟨w.heap.size, 0, none⟩)) ∧ TabAt w' w.heap.size (g.nxs g.s) (g.ous g.s) ∧ Below w.heap.size w w' := by
  have c1 := (hA.alloc (.cells #[.slice none 0 0, .slice none 0 0] 171)).s
  have hlt := hA.lt
  have HA := hidd hA
  have HO := hidd hok
  clear hA hok
  go_enter Try.func125, Try.ntmps125
  go_wp2_with fail
  obtain ⟨w1, hw1⟩ : ∃ w1, w1 = w.alloc (.cells #[.slice none 0 0, .slice none 0 0] 171) := ⟨_, rfl⟩
  rw [← hw1]
  have Bel := hidd (show Below w.heap.size w w1 by rw [hw1]; exact bel_alloc _ _)
  have Z1 := hidd (show w1.heap.size = w.heap.size + 1 by rw [hw1]; simp)
  have N1 := hidd (show w1.heap[w.heap.size]? = some (.cells #[.slice none 0 0, .slice none 0 0] 171 (0, 0)) by rw [hw1]; exact hp_new rfl)
  clear hw1 c1
  go_loopw [14] (fun i wr => ∃ q : Nat, q ≤ g.s ∧ i = .int .i64 q ∧ Hid (∃ vn vo, wr.heap[w.heap.size]? = some (.cells #[vn, vo] 171 (0, 0)) ∧ OwnLL wr (w.heap.size + 1) vn (g.nxs q) ∧ OwnLL wr (w.heap.size + 1) vo (g.ous q) ∧ Apart vn vo) ∧ Hid (Below w.heap.size w wr) ∧ Hid (w.heap.size + 1 ≤ wr.heap.size)) (fun i _ => g.s - (intOf i).toNat)
  case atStart => exact ⟨0, Nat.zero_le _, rfl, ⟨_, _, N1.out, OwnLL.nil _ _, OwnLL.nil _ _, .inl rfl⟩, Bel.out, Nat.le_of_eq Z1.out.symm⟩
  case round =>
    obtain ⟨q, hq, rfl, HT, Hb, HZ⟩ := hrel
    have s16 := HO.out.s16
    have l3 := HO.out.l3
    by_cases hqs : q < g.s
    · have a1 := (HA.out.bel Hb.out).l
      go_wp2_with fail
      clear a1
      obtain ⟨wo, rfl⟩ : ∃ wo : World, wo = wr := ⟨_, rfl⟩
      go_loopw [5, 6, 21] (fun v u i wr => ∃ k : Nat, k ≤ g.l ∧ i = .int .i64 k ∧ Hid (Own wr wo.heap.size 2 v (ints (upto (fun x => (g.nx q x : Int)) k))) ∧ Hid (Own wr wo.heap.size 2 u (ints (upto (fun x => (g.ou q x : Int)) k))) ∧ Hid (Apart v u) ∧ Hid (Below wo.heap.size wo wr)) (fun _ _ i _ => g.l - (intOf i).toNat)
      case atStart => exact ⟨0, Nat.zero_le _, rfl, Own.nil _ _ _, Own.nil _ _ _, .inl rfl, Below.refl _ _⟩
      case round =>
        obtain ⟨k, hk, rfl, Hv, Hu, Hap, Hb2⟩ := hrel
        by_cases hkl : k < g.l
        · have A1 := hidd (HA.out.bel (bel_then Hb.out Hb2.out))
          have hbase := Hb2.out.size
          have len1 : (ints (upto (fun x => (g.nx q x : Int)) k)).length + 1 ≤ 1099511627776 := by rw [ints_length, upto_len]; omega
          have len2 : (ints (upto (fun x => (g.ou q x : Int)) k)).length + 1 ≤ 1099511627776 := by rw [ints_length, upto_len]; omega
          go_wp2_with fail
          refine (mnext_any g b o q k _ _ _ A1.out rfl rfl (by omega) (by omega)).mono ?_
          rintro e w2 ⟨rfl, rfl⟩
          go_wp2_with (at_builtin; refine app_at rfl _ _ _ rfl wo.heap.size 2 (.int .i64 0) 8 Try.underlying30 info_i64 rfl Hv.out rfl rfl rfl len1 (by decide) hbase ?_; intro v' w2 ho hgr hle hli; have Hv2 := hidd ho; have Hg2 := hidd hgr; have Hl2 := hidd hli; have b2 := hidd (bel_own Hv.out hgr hbase); clear ho hgr hli)
          have A2 := hidd (A1.out.below b2.out (by have := HA.out.lt; have := Hb.out.size; omega))
          refine (mout_any g b o q k _ _ _ A2.out rfl rfl (by omega) (by omega)).mono ?_
          rintro e w3 ⟨rfl, rfl⟩
          have Hu2 := hidd (Hu.out.keep Hg2.out Hap.out.symm)
          have Hap2 := hidd (Hap.out.symm.lies Hu.out (Nat.le_refl _) Hl2.out)
          have hbase2 : wo.heap.size ≤ w2.heap.size := by have := b2.out.size; omega
          go_wp2_with (at_builtin; refine app_at rfl _ _ _ rfl wo.heap.size 2 (.int .i64 0) 8 Try.underlying30 info_i64 rfl Hu2.out rfl rfl rfl len2 (by decide) hbase2 ?_; intro v'' w3 ho hgr hle2 hli; have Hu3 := hidd ho; have Hg3 := hidd hgr; have Hl3 := hidd hli; have b3 := hidd (bel_own Hu2.out hgr hbase2); clear ho hgr hli)
          go_roundw
          case rel =>
            refine ⟨k + 1, by omega, by go_num, ?_, ?_, ?_, (Hb2.out.trans b2.out).trans b3.out⟩
            · rw [upto_succ, ints_snoc']; exact Hv2.out.keep Hg3.out Hap2.out.symm
            · rw [upto_succ, ints_snoc']; exact Hu3.out
            · exact Hap2.out.symm.lies Hv2.out (Nat.le_refl _) Hl3.out
          case measure => simp [intOf]; omega
        · have he : k = g.l := by omega
          subst he
          --GEN
          obtain ⟨A5, c5, e5⟩ := Hv.out.slice
          obtain ⟨A6, c6, e6⟩ := Hu.out.slice
          subst e5 e6
          obtain ⟨vn, vo, hT, hn, hoo, hapo⟩ := HT.out
          obtain ⟨rn, n1, n2, n3, n4⟩ := hn
          obtain ⟨ro, o1, o2, o3, o4⟩ := hoo
          have LN := hidd (show rn.length + 1 ≤ 1099511627776 by rw [n2]; simp [Gm.nxs]; omega)
          have LO := hidd (show ro.length + 1 ≤ 1099511627776 by rw [o2]; simp [Gm.ous]; omega)
          have AN := hidd (show ∀ (j : Nat) (u : Value), rn[j]? = some u → Apart u (.slice A5 (ints (upto (fun x => (g.nx q x : Int)) g.l)).length c5) from fun j u hj => by
            have hjl := (List.getElem?_eq_some_iff.1 hj).1
            obtain ⟨ys, hy⟩ : ∃ ys, (g.nxs q)[j]? = some ys := ⟨_, List.getElem?_eq_getElem (by omega)⟩
            exact own_ne (n3 j u ys hj hy) Hv.out (Nat.le_refl _))
          have AO := hidd (show ∀ (j : Nat) (u : Value), ro[j]? = some u → Apart u (.slice A6 (ints (upto (fun x => (g.ou q x : Int)) g.l)).length c6) from fun j u hj => by
            have hjl := (List.getElem?_eq_some_iff.1 hj).1
            obtain ⟨ys, hy⟩ : ∃ ys, (g.ous q)[j]? = some ys := ⟨_, List.getElem?_eq_getElem (by omega)⟩
            exact own_ne (o3 j u ys hj hy) Hu.out (Nat.le_refl _))
          have HN := hidd ((Half.mk n2 (fun j r xs h1 h2 => (n3 j r xs h1 h2).below Hb2.out) n4 (n1.below Hb2.out) Hv.out AN.out).below (drew_bel wr))
          have HO := hidd ((Half.mk o2 (fun j r xs h1 h2 => (o3 j r xs h1 h2).below Hb2.out) o4 (o1.below Hb2.out) Hu.out AO.out).below (drew_bel wr))
          have HT := hidd (hp_bel (hp_bel hT Hb2.out) (drew_bel wr))
          have AP := hidd hapo
          have BE := hidd (bel_then (bel_then Hb.out Hb2.out) (drew_bel wr))
          have SZ := hidd (show w.heap.size + 1 ≤ wr.drew.heap.size by have := HZ.out; have := Hb2.out.size; have := (drew_bel wr).size; omega)
          clear hT n1 n2 n3 n4 o1 o2 o3 o4 hapo AN AO
          go_wp2_with fail
          refine wp_region_any (by kernel_rfl) ?_
          change wpAny _ _ _ _ _ _ _ (World.drew _)
          obtain ⟨W, hW⟩ : ∃ W, W = wr.drew := ⟨_, rfl⟩
          rw [← hW] at HN HO HT BE SZ
          rw [← hW]
          clear hW
          refine wpAny_take (i := 0) (v := ?_) rfl (by kernel_rfl) (by kernel_rfl) (by kernel_rfl) (fun _ _ _ h => h) (Or.inl ⟨by rfl, ?_⟩) ?_
          rotate_left
          · intro wx; go_simp; try with_reducible rfl
          try simp only [Act.put, List.setIfInBounds_toArray, List.set_cons_zero, List.set_cons_succ]
          refine wpAny_take (i := 1) (v := ?_) rfl (by kernel_rfl) (by kernel_rfl) (by kernel_rfl) (fun _ _ _ h => h) (Or.inl ⟨by rfl, ?_⟩) ?_
          rotate_left
          · intro wx; go_simp; try with_reducible rfl
          try simp only [Act.put, List.setIfInBounds_toArray, List.set_cons_zero, List.set_cons_succ]
          refine wpAny_take (i := 2) (v := ?_) rfl (by kernel_rfl) (by kernel_rfl) (by kernel_rfl) (fun _ _ _ h => h) (Or.inl ⟨by rfl, ?_⟩) ?_
          rotate_left
          · intro wx; go_simp; try with_reducible rfl
          try simp only [Act.put, List.setIfInBounds_toArray, List.set_cons_zero, List.set_cons_succ]
          refine wpAny_take (i := 3) (v := ?_) rfl (by kernel_rfl) (by kernel_rfl) (by kernel_rfl) (fun _ _ _ h => h) (Or.inl ⟨by rfl, ?_⟩) ?_
          rotate_left
          · intro wx; go_simp; try with_reducible rfl
          try simp only [Act.put, List.setIfInBounds_toArray, List.set_cons_zero, List.set_cons_succ]
          refine wpAny_take (i := 4) (v := ?_) rfl (by kernel_rfl) (by kernel_rfl) (by kernel_rfl) (fun _ _ _ h => h) (Or.inl ⟨by rfl, ?_⟩) ?_
          rotate_left
          · intro wx; go_simp; try with_reducible rfl
          try simp only [Act.put, List.setIfInBounds_toArray, List.set_cons_zero, List.set_cons_succ]
          refine wpAny_take (i := 6) (v := ?_) rfl (by kernel_rfl) (by kernel_rfl) (by kernel_rfl) (fun _ _ _ h => h) (Or.inl ⟨by rfl, ?_⟩) ?_
          rotate_left
          · intro wx; go_simp; try with_reducible rfl
          try simp only [Act.put, List.setIfInBounds_toArray, List.set_cons_zero, List.set_cons_succ]
          refine wpAny_take (i := 9) (v := ?_) rfl (by kernel_rfl) (by kernel_rfl) (by kernel_rfl) (fun _ _ _ h => h) (Or.inl ⟨by rfl, ?_⟩) ?_
          rotate_left
          · intro wx; go_simp; try with_reducible rfl
          try simp only [Act.put, List.setIfInBounds_toArray, List.set_cons_zero, List.set_cons_succ]
          refine wpAny_take (i := 10) (v := ?_) rfl (by kernel_rfl) (by kernel_rfl) (by kernel_rfl) (fun _ _ _ h => h) (Or.inl ⟨by rfl, ?_⟩) ?_
          rotate_left
          · intro wx; go_simp; try with_reducible rfl
          try simp only [Act.put, List.setIfInBounds_toArray, List.set_cons_zero, List.set_cons_succ]
          refine wpAny_take (i := 11) (v := ?_) rfl (by kernel_rfl) (by kernel_rfl) (by kernel_rfl) (fun _ _ _ h => h) (Or.inl ⟨by rfl, ?_⟩) ?_
          rotate_left
          · intro wx; go_simp; try with_reducible rfl
          try simp only [Act.put, List.setIfInBounds_toArray, List.set_cons_zero, List.set_cons_succ]
          refine wpAny_take (i := 13) (v := ?_) rfl (by kernel_rfl) (by kernel_rfl) (by kernel_rfl) (fun _ _ _ h => h) (Or.inl ⟨by rfl, ?_⟩) ?_
          rotate_left
          · intro wx; go_simp; try with_reducible rfl
          try simp only [Act.put, List.setIfInBounds_toArray, List.set_cons_zero, List.set_cons_succ]
          refine wpAny_of_C (S := fun W => W.cell? ⟨w.heap.size, 0, none⟩ = some vn ∧ W.cell? ⟨w.heap.size, 1, none⟩ = some vo) (ks := [8, 15]) _ _ _ _ ?_
          refine wpC_take (i := 5) 8 (v := ?_) rfl (by kernel_rfl) (by kernel_rfl) (by kernel_rfl) (by kernel_rfl) (fun _ _ _ h => h) (Or.inl ⟨by rfl, ?_⟩) (tcells HT.out) ?_
          rotate_left
          · rintro wx ⟨hc1, hc2⟩; go_simp; try with_reducible rfl
          try simp only [Act.put, List.setIfInBounds_toArray, List.set_cons_zero, List.set_cons_succ]
          refine wpC_take (i := 12) 15 (v := ?_) rfl (by kernel_rfl) (by kernel_rfl) (by kernel_rfl) (by kernel_rfl) (fun _ _ _ h => h) (Or.inl ⟨by rfl, ?_⟩) (tcells HT.out) ?_
          rotate_left
          · rintro wx ⟨hc1, hc2⟩; go_simp; try with_reducible rfl
          try simp only [Act.put, List.setIfInBounds_toArray, List.set_cons_zero, List.set_cons_succ]
          refine wpC_two (i := 7) (j := 14) (by kernel_rfl) rfl rfl ?_ ?_
          · intro K hK
            go_simp
            obtain ⟨W', hW⟩ : ∃ X, X = W.alloc (.cells #[(.slice A5 (ints (upto (fun x => (g.nx q x : Int)) g.l)).length c5)] 30) := ⟨_, rfl⟩
            have NN := hidd (HN.out.own.ne_new)
            have EN := hidd (show W'.heap[W.heap.size]? = some (.cells #[(.slice A5 (ints (upto (fun x => (g.nx q x : Int)) g.l)).length c5)] 30 (0, 0)) by rw [hW]; exact hp_new rfl)
            have bw : Below W.heap.size W W' := by rw [hW]; exact bel_alloc _ _
            rw [← hW]
            clear hW
            have HT := hidd (hp_bel HT.out bw)
            have HN := hidd (HN.out.below bw)
            have HO := hidd (HO.out.below bw)
            have BE := hidd (bel_then BE.out bw)
            have SZ := hidd (Nat.le_trans SZ.out bw.size)
            refine hK _ _ (tcells HT.out) ?_
            clear hK K bw
            try simp only [Act.put, List.setIfInBounds_toArray, List.set_cons_zero, List.set_cons_succ]
            obtain ⟨W, rfl⟩ : ∃ X, X = W' := ⟨_, rfl⟩
            refine wpC_two (i := 8) (j := 14) (by kernel_rfl) rfl rfl ?_ ?_
            · intro K hK
              refine step_app rfl _ _ _ rfl (w.heap.size + 1) 30 (.slice none 0 0) 24 Try.underlying65 info_ints rfl HN.out.own EN.out rfl rfl rfl LN.out (by decide) SZ.out ?_
              intro vn' W' ho hgr hle hli
              obtain ⟨AN, nN, cN, eN⟩ : ∃ A n c, vn' = .slice A n c := by obtain ⟨A, c, e⟩ := ho.slice; exact ⟨A, _, c, e⟩
              subst eN
              have PN := hidd (HN.out.push (by have := HZ.out; omega) ho hgr)
              have bw : Below (w.heap.size + 1) W W' := bel_own HN.out.own hgr SZ.out
              have HT := hidd (kept_own hgr HT.out (HN.out.own.ne_low (Nat.lt_succ_self _)))
              have HO2 := hidd (HO.out.keep HN.out.own hgr AP.out.symm)
              have AP := hidd (AP.out.symm.lies HO.out.own (Nat.le_refl _) hli)
              have HO := hidd HO2.out
              clear HO2
              have BE := hidd (BE.out.trans (bw.mono (Nat.le_succ _)))
              have SZ := hidd (Nat.le_trans SZ.out hle)
              refine hK _ _ (tcells HT.out) ?_
              clear hK K bw hgr ho hle hli HN EN
              try simp only [Act.put, List.setIfInBounds_toArray, List.set_cons_zero, List.set_cons_succ]
              obtain ⟨W, rfl⟩ : ∃ X, X = W' := ⟨_, rfl⟩
              refine wpC_one (i := 14) (by kernel_rfl) rfl ?_
              intro K hK
              go_simp
              obtain ⟨W', hW⟩ : ∃ X, X = W.alloc (.cells #[(.slice A6 (ints (upto (fun x => (g.ou q x : Int)) g.l)).length c6)] 30) := ⟨_, rfl⟩
              have NO := hidd (HO.out.own.ne_new)
              have EO := hidd (show W'.heap[W.heap.size]? = some (.cells #[(.slice A6 (ints (upto (fun x => (g.ou q x : Int)) g.l)).length c6)] 30 (0, 0)) by rw [hW]; exact hp_new rfl)
              have bw : Below W.heap.size W W' := by rw [hW]; exact bel_alloc _ _
              rw [← hW]
              clear hW
              have HT := hidd (hp_bel HT.out bw)
              have HO := hidd (HO.out.below bw)
              have PN := hidd (PN.out.below bw)
              have BE := hidd (bel_then BE.out bw)
              have SZ := hidd (Nat.le_trans SZ.out bw.size)
              refine hK _ _ (tcells HT.out) ?_
              clear hK K bw
              try simp only [Act.put, List.setIfInBounds_toArray, List.set_cons_zero, List.set_cons_succ]
              obtain ⟨W, rfl⟩ : ∃ X, X = W' := ⟨_, rfl⟩
              refine wpC_one (i := 15) (by kernel_rfl) rfl ?_
              intro K hK
              refine step_app rfl _ _ _ rfl (w.heap.size + 1) 30 (.slice none 0 0) 24 Try.underlying65 info_ints rfl HO.out.own EO.out rfl rfl rfl LO.out (by decide) SZ.out ?_
              intro vo' W' ho hgr hle hli
              obtain ⟨AO, nO, cO, eO⟩ : ∃ A n c, vo' = .slice A n c := by obtain ⟨A, c, e⟩ := ho.slice; exact ⟨A, _, c, e⟩
              subst eO
              have PO := hidd (HO.out.push (by have := HZ.out; omega) ho hgr)
              have bw : Below (w.heap.size + 1) W W' := bel_own HO.out.own hgr SZ.out
              have HT := hidd (kept_own hgr HT.out (HO.out.own.ne_low (Nat.lt_succ_self _)))
              have PN2 := hidd (PN.out.keep HO.out.own hgr AP.out.symm)
              have AP := hidd (show Apart (.slice AN nN cN) (.slice AO nO cO) by obtain ⟨us, hus, _⟩ := PN.out; exact AP.out.symm.lies hus (Nat.le_refl _) hli)
              have PN := hidd PN2.out
              clear PN2
              have BE := hidd (BE.out.trans (bw.mono (Nat.le_succ _)))
              have SZ := hidd (Nat.le_trans SZ.out hle)
              refine hK _ _ (tcells HT.out) ?_
              clear hK K bw hgr ho hle hli HO EO
              try simp only [Act.put, List.setIfInBounds_toArray, List.set_cons_zero, List.set_cons_succ]
              obtain ⟨W, rfl⟩ : ∃ X, X = W' := ⟨_, rfl⟩
              refine wpC_of_any _ _ _ _ (by decide) ?_
              refine wpAny_take (i := 16) (v := ?_) rfl (by kernel_rfl) (by kernel_rfl) (by kernel_rfl) (fun _ _ _ h => h) (Or.inl ⟨by rfl, ?_⟩) ?_
              rotate_left
              · intro wx; go_simp; try with_reducible rfl
              try simp only [Act.put, List.setIfInBounds_toArray, List.set_cons_zero, List.set_cons_succ]
              refine wpAny_take (i := 17) (v := ?_) rfl (by kernel_rfl) (by kernel_rfl) (by kernel_rfl) (fun _ _ _ h => h) (Or.inl ⟨by rfl, ?_⟩) ?_
              rotate_left
              · intro wx; go_simp; try with_reducible rfl
              try simp only [Act.put, List.setIfInBounds_toArray, List.set_cons_zero, List.set_cons_succ]
              have h1 := (tcells HT.out).1
              have h2 := blkf HT.out 0
              refine wpAny_ready (rs := [18]) (by kernel_rfl) (by simp) (AllReady.cons rfl (fun K hK => ?_) AllReady.nil)
              go_simp
              clear h1 h2
              refine hK _ _ ?_
              clear hK K
              try simp only [Act.put, List.setIfInBounds_toArray, List.set_cons_zero, List.set_cons_succ]
              refine wpAny_take (i := 19) (v := ?_) rfl (by kernel_rfl) (by kernel_rfl) (by kernel_rfl) (fun _ _ _ h => h) (Or.inl ⟨by rfl, ?_⟩) ?_
              rotate_left
              · intro wx; go_simp; try with_reducible rfl
              try simp only [Act.put, List.setIfInBounds_toArray, List.set_cons_zero, List.set_cons_succ]
              refine wpAny_take (i := 20) (v := ?_) rfl (by kernel_rfl) (by kernel_rfl) (by kernel_rfl) (fun _ _ _ h => h) (Or.inl ⟨by rfl, ?_⟩) ?_
              rotate_left
              · intro wx; go_simp; try with_reducible rfl
              try simp only [Act.put, List.setIfInBounds_toArray, List.set_cons_zero, List.set_cons_succ]
              have h1 := (tcells (hp_set HT.out 0 (.slice AN nN cN))).2
              have h2 := blkf (hp_set HT.out 0 (.slice AN nN cN)) 1
              refine wpAny_ready (rs := [21]) (by kernel_rfl) (by simp) (AllReady.cons rfl (fun K hK => ?_) AllReady.nil)
              go_simp
              clear h1 h2
              refine hK _ _ ?_
              clear hK K
              refine wpAny_done (by kernel_rfl) ?_ _
              go_wp2_with fail
              go_roundw
              case rel => exact ⟨q + 1, by omega, by go_num, ⟨_, _, hp_set (hp_set HT.out 0 _) 1 _, ((PN.out.far (Nat.lt_succ_self _) _).far (Nat.lt_succ_self _) _).snoc_nx, ((PO.out.far (Nat.lt_succ_self _) _).far (Nat.lt_succ_self _) _).snoc_ou, AP.out⟩, (BE.out.setCell (Nat.le_refl _) _).setCell (Nat.le_refl _) _, hidd (by simpa [World.setCell] using SZ.out)⟩
              case measure => simp [intOf]; omega
            · have ND := hidd (HN.out.own.ne_new)
              intro K hK
              go_simp
              obtain ⟨W', hW⟩ : ∃ X, X = W.alloc (.cells #[(.slice A6 (ints (upto (fun x => (g.ou q x : Int)) g.l)).length c6)] 30) := ⟨_, rfl⟩
              have NO := hidd (HO.out.own.ne_new)
              have EO := hidd (show W'.heap[W.heap.size]? = some (.cells #[(.slice A6 (ints (upto (fun x => (g.ou q x : Int)) g.l)).length c6)] 30 (0, 0)) by rw [hW]; exact hp_new rfl)
              have bw : Below W.heap.size W W' := by rw [hW]; exact bel_alloc _ _
              rw [← hW]
              clear hW
              have HT := hidd (hp_bel HT.out bw)
              have HN := hidd (HN.out.below bw)
              have HO := hidd (HO.out.below bw)
              have EN := hidd (hp_bel EN.out bw)
              have BE := hidd (bel_then BE.out bw)
              have SZ := hidd (Nat.le_trans SZ.out bw.size)
              refine hK _ _ (tcells HT.out) ?_
              clear hK K bw
              try simp only [Act.put, List.setIfInBounds_toArray, List.set_cons_zero, List.set_cons_succ]
              obtain ⟨W, rfl⟩ : ∃ X, X = W' := ⟨_, rfl⟩
              refine wpC_one (i := 8) (by kernel_rfl) rfl ?_
              intro K hK
              refine step_app rfl _ _ _ rfl (w.heap.size + 1) 30 (.slice none 0 0) 24 Try.underlying65 info_ints rfl HN.out.own EN.out rfl rfl rfl LN.out (by decide) SZ.out ?_
              intro vn' W' ho hgr hle hli
              obtain ⟨AN, nN, cN, eN⟩ : ∃ A n c, vn' = .slice A n c := by obtain ⟨A, c, e⟩ := ho.slice; exact ⟨A, _, c, e⟩
              subst eN
              have PN := hidd (HN.out.push (by have := HZ.out; omega) ho hgr)
              have bw : Below (w.heap.size + 1) W W' := bel_own HN.out.own hgr SZ.out
              have HT := hidd (kept_own hgr HT.out (HN.out.own.ne_low (Nat.lt_succ_self _)))
              have EO := hidd (kept_own hgr EO.out ND.out)
              have HO2 := hidd (HO.out.keep HN.out.own hgr AP.out.symm)
              have AP := hidd (AP.out.symm.lies HO.out.own (Nat.le_refl _) hli)
              have HO := hidd HO2.out
              clear HO2
              have BE := hidd (BE.out.trans (bw.mono (Nat.le_succ _)))
              have SZ := hidd (Nat.le_trans SZ.out hle)
              refine hK _ _ (tcells HT.out) ?_
              clear hK K bw hgr ho hle hli HN EN
              try simp only [Act.put, List.setIfInBounds_toArray, List.set_cons_zero, List.set_cons_succ]
              obtain ⟨W, rfl⟩ : ∃ X, X = W' := ⟨_, rfl⟩
              refine wpC_one (i := 15) (by kernel_rfl) rfl ?_
              intro K hK
              refine step_app rfl _ _ _ rfl (w.heap.size + 1) 30 (.slice none 0 0) 24 Try.underlying65 info_ints rfl HO.out.own EO.out rfl rfl rfl LO.out (by decide) SZ.out ?_
              intro vo' W' ho hgr hle hli
              obtain ⟨AO, nO, cO, eO⟩ : ∃ A n c, vo' = .slice A n c := by obtain ⟨A, c, e⟩ := ho.slice; exact ⟨A, _, c, e⟩
              subst eO
              have PO := hidd (HO.out.push (by have := HZ.out; omega) ho hgr)
              have bw : Below (w.heap.size + 1) W W' := bel_own HO.out.own hgr SZ.out
              have HT := hidd (kept_own hgr HT.out (HO.out.own.ne_low (Nat.lt_succ_self _)))
              have PN2 := hidd (PN.out.keep HO.out.own hgr AP.out.symm)
              have AP := hidd (show Apart (.slice AN nN cN) (.slice AO nO cO) by obtain ⟨us, hus, _⟩ := PN.out; exact AP.out.symm.lies hus (Nat.le_refl _) hli)
              have PN := hidd PN2.out
              clear PN2
              have BE := hidd (BE.out.trans (bw.mono (Nat.le_succ _)))
              have SZ := hidd (Nat.le_trans SZ.out hle)
              refine hK _ _ (tcells HT.out) ?_
              clear hK K bw hgr ho hle hli HO EO
              try simp only [Act.put, List.setIfInBounds_toArray, List.set_cons_zero, List.set_cons_succ]
              obtain ⟨W, rfl⟩ : ∃ X, X = W' := ⟨_, rfl⟩
              refine wpC_of_any _ _ _ _ (by decide) ?_
              refine wpAny_take (i := 16) (v := ?_) rfl (by kernel_rfl) (by kernel_rfl) (by kernel_rfl) (fun _ _ _ h => h) (Or.inl ⟨by rfl, ?_⟩) ?_
              rotate_left
              · intro wx; go_simp; try with_reducible rfl
              try simp only [Act.put, List.setIfInBounds_toArray, List.set_cons_zero, List.set_cons_succ]
              refine wpAny_take (i := 17) (v := ?_) rfl (by kernel_rfl) (by kernel_rfl) (by kernel_rfl) (fun _ _ _ h => h) (Or.inl ⟨by rfl, ?_⟩) ?_
              rotate_left
              · intro wx; go_simp; try with_reducible rfl
              try simp only [Act.put, List.setIfInBounds_toArray, List.set_cons_zero, List.set_cons_succ]
              have h1 := (tcells HT.out).1
              have h2 := blkf HT.out 0
              refine wpAny_ready (rs := [18]) (by kernel_rfl) (by simp) (AllReady.cons rfl (fun K hK => ?_) AllReady.nil)
              go_simp
              clear h1 h2
              refine hK _ _ ?_
              clear hK K
              try simp only [Act.put, List.setIfInBounds_toArray, List.set_cons_zero, List.set_cons_succ]
              refine wpAny_take (i := 19) (v := ?_) rfl (by kernel_rfl) (by kernel_rfl) (by kernel_rfl) (fun _ _ _ h => h) (Or.inl ⟨by rfl, ?_⟩) ?_
              rotate_left
              · intro wx; go_simp; try with_reducible rfl
              try simp only [Act.put, List.setIfInBounds_toArray, List.set_cons_zero, List.set_cons_succ]
              refine wpAny_take (i := 20) (v := ?_) rfl (by kernel_rfl) (by kernel_rfl) (by kernel_rfl) (fun _ _ _ h => h) (Or.inl ⟨by rfl, ?_⟩) ?_
              rotate_left
              · intro wx; go_simp; try with_reducible rfl
              try simp only [Act.put, List.setIfInBounds_toArray, List.set_cons_zero, List.set_cons_succ]
              have h1 := (tcells (hp_set HT.out 0 (.slice AN nN cN))).2
              have h2 := blkf (hp_set HT.out 0 (.slice AN nN cN)) 1
              refine wpAny_ready (rs := [21]) (by kernel_rfl) (by simp) (AllReady.cons rfl (fun K hK => ?_) AllReady.nil)
              go_simp
              clear h1 h2
              refine hK _ _ ?_
              clear hK K
              refine wpAny_done (by kernel_rfl) ?_ _
              go_wp2_with fail
              go_roundw
              case rel => exact ⟨q + 1, by omega, by go_num, ⟨_, _, hp_set (hp_set HT.out 0 _) 1 _, ((PN.out.far (Nat.lt_succ_self _) _).far (Nat.lt_succ_self _) _).snoc_nx, ((PO.out.far (Nat.lt_succ_self _) _).far (Nat.lt_succ_self _) _).snoc_ou, AP.out⟩, (BE.out.setCell (Nat.le_refl _) _).setCell (Nat.le_refl _) _, hidd (by simpa [World.setCell] using SZ.out)⟩
              case measure => simp [intOf]; omega
          · have ND := hidd (HN.out.own.ne_new)
            intro K hK
            go_simp
            obtain ⟨W', hW⟩ : ∃ X, X = W.alloc (.cells #[(.slice A6 (ints (upto (fun x => (g.ou q x : Int)) g.l)).length c6)] 30) := ⟨_, rfl⟩
            have NO := hidd (HO.out.own.ne_new)
            have EO := hidd (show W'.heap[W.heap.size]? = some (.cells #[(.slice A6 (ints (upto (fun x => (g.ou q x : Int)) g.l)).length c6)] 30 (0, 0)) by rw [hW]; exact hp_new rfl)
            have bw : Below W.heap.size W W' := by rw [hW]; exact bel_alloc _ _
            rw [← hW]
            clear hW
            have HT := hidd (hp_bel HT.out bw)
            have HN := hidd (HN.out.below bw)
            have HO := hidd (HO.out.below bw)
            have BE := hidd (bel_then BE.out bw)
            have SZ := hidd (Nat.le_trans SZ.out bw.size)
            refine hK _ _ (tcells HT.out) ?_
            clear hK K bw
            try simp only [Act.put, List.setIfInBounds_toArray, List.set_cons_zero, List.set_cons_succ]
            obtain ⟨W, rfl⟩ : ∃ X, X = W' := ⟨_, rfl⟩
            refine wpC_one (i := 7) (by kernel_rfl) rfl ?_
            intro K hK
            go_simp
            obtain ⟨W', hW⟩ : ∃ X, X = W.alloc (.cells #[(.slice A5 (ints (upto (fun x => (g.nx q x : Int)) g.l)).length c5)] 30) := ⟨_, rfl⟩
            have NN := hidd (HN.out.own.ne_new)
            have EN := hidd (show W'.heap[W.heap.size]? = some (.cells #[(.slice A5 (ints (upto (fun x => (g.nx q x : Int)) g.l)).length c5)] 30 (0, 0)) by rw [hW]; exact hp_new rfl)
            have bw : Below W.heap.size W W' := by rw [hW]; exact bel_alloc _ _
            rw [← hW]
            clear hW
            have HT := hidd (hp_bel HT.out bw)
            have HN := hidd (HN.out.below bw)
            have HO := hidd (HO.out.below bw)
            have EO := hidd (hp_bel EO.out bw)
            have BE := hidd (bel_then BE.out bw)
            have SZ := hidd (Nat.le_trans SZ.out bw.size)
            refine hK _ _ (tcells HT.out) ?_
            clear hK K bw
            try simp only [Act.put, List.setIfInBounds_toArray, List.set_cons_zero, List.set_cons_succ]
            obtain ⟨W, rfl⟩ : ∃ X, X = W' := ⟨_, rfl⟩
            refine wpC_one (i := 8) (by kernel_rfl) rfl ?_
            intro K hK
            refine step_app rfl _ _ _ rfl (w.heap.size + 1) 30 (.slice none 0 0) 24 Try.underlying65 info_ints rfl HN.out.own EN.out rfl rfl rfl LN.out (by decide) SZ.out ?_
            intro vn' W' ho hgr hle hli
            obtain ⟨AN, nN, cN, eN⟩ : ∃ A n c, vn' = .slice A n c := by obtain ⟨A, c, e⟩ := ho.slice; exact ⟨A, _, c, e⟩
            subst eN
            have PN := hidd (HN.out.push (by have := HZ.out; omega) ho hgr)
            have bw : Below (w.heap.size + 1) W W' := bel_own HN.out.own hgr SZ.out
            have HT := hidd (kept_own hgr HT.out (HN.out.own.ne_low (Nat.lt_succ_self _)))
            have EO := hidd (kept_own hgr EO.out ND.out)
            have HO2 := hidd (HO.out.keep HN.out.own hgr AP.out.symm)
            have AP := hidd (AP.out.symm.lies HO.out.own (Nat.le_refl _) hli)
            have HO := hidd HO2.out
            clear HO2
            have BE := hidd (BE.out.trans (bw.mono (Nat.le_succ _)))
            have SZ := hidd (Nat.le_trans SZ.out hle)
            refine hK _ _ (tcells HT.out) ?_
            clear hK K bw hgr ho hle hli HN EN
            try simp only [Act.put, List.setIfInBounds_toArray, List.set_cons_zero, List.set_cons_succ]
            obtain ⟨W, rfl⟩ : ∃ X, X = W' := ⟨_, rfl⟩
            refine wpC_one (i := 15) (by kernel_rfl) rfl ?_
            intro K hK
            refine step_app rfl _ _ _ rfl (w.heap.size + 1) 30 (.slice none 0 0) 24 Try.underlying65 info_ints rfl HO.out.own EO.out rfl rfl rfl LO.out (by decide) SZ.out ?_
            intro vo' W' ho hgr hle hli
            obtain ⟨AO, nO, cO, eO⟩ : ∃ A n c, vo' = .slice A n c := by obtain ⟨A, c, e⟩ := ho.slice; exact ⟨A, _, c, e⟩
            subst eO
            have PO := hidd (HO.out.push (by have := HZ.out; omega) ho hgr)
            have bw : Below (w.heap.size + 1) W W' := bel_own HO.out.own hgr SZ.out
            have HT := hidd (kept_own hgr HT.out (HO.out.own.ne_low (Nat.lt_succ_self _)))
            have PN2 := hidd (PN.out.keep HO.out.own hgr AP.out.symm)
            have AP := hidd (show Apart (.slice AN nN cN) (.slice AO nO cO) by obtain ⟨us, hus, _⟩ := PN.out; exact AP.out.symm.lies hus (Nat.le_refl _) hli)
            have PN := hidd PN2.out
            clear PN2
            have BE := hidd (BE.out.trans (bw.mono (Nat.le_succ _)))
            have SZ := hidd (Nat.le_trans SZ.out hle)
            refine hK _ _ (tcells HT.out) ?_
            clear hK K bw hgr ho hle hli HO EO
            try simp only [Act.put, List.setIfInBounds_toArray, List.set_cons_zero, List.set_cons_succ]
            obtain ⟨W, rfl⟩ : ∃ X, X = W' := ⟨_, rfl⟩
            refine wpC_of_any _ _ _ _ (by decide) ?_
            refine wpAny_take (i := 16) (v := ?_) rfl (by kernel_rfl) (by kernel_rfl) (by kernel_rfl) (fun _ _ _ h => h) (Or.inl ⟨by rfl, ?_⟩) ?_
            rotate_left
            · intro wx; go_simp; try with_reducible rfl
            try simp only [Act.put, List.setIfInBounds_toArray, List.set_cons_zero, List.set_cons_succ]
            refine wpAny_take (i := 17) (v := ?_) rfl (by kernel_rfl) (by kernel_rfl) (by kernel_rfl) (fun _ _ _ h => h) (Or.inl ⟨by rfl, ?_⟩) ?_
            rotate_left
            · intro wx; go_simp; try with_reducible rfl
            try simp only [Act.put, List.setIfInBounds_toArray, List.set_cons_zero, List.set_cons_succ]
            have h1 := (tcells HT.out).1
            have h2 := blkf HT.out 0
            refine wpAny_ready (rs := [18]) (by kernel_rfl) (by simp) (AllReady.cons rfl (fun K hK => ?_) AllReady.nil)
            go_simp
            clear h1 h2
            refine hK _ _ ?_
            clear hK K
            try simp only [Act.put, List.setIfInBounds_toArray, List.set_cons_zero, List.set_cons_succ]
            refine wpAny_take (i := 19) (v := ?_) rfl (by kernel_rfl) (by kernel_rfl) (by kernel_rfl) (fun _ _ _ h => h) (Or.inl ⟨by rfl, ?_⟩) ?_
            rotate_left
            · intro wx; go_simp; try with_reducible rfl
            try simp only [Act.put, List.setIfInBounds_toArray, List.set_cons_zero, List.set_cons_succ]
            refine wpAny_take (i := 20) (v := ?_) rfl (by kernel_rfl) (by kernel_rfl) (by kernel_rfl) (fun _ _ _ h => h) (Or.inl ⟨by rfl, ?_⟩) ?_
            rotate_left
            · intro wx; go_simp; try with_reducible rfl
            try simp only [Act.put, List.setIfInBounds_toArray, List.set_cons_zero, List.set_cons_succ]
            have h1 := (tcells (hp_set HT.out 0 (.slice AN nN cN))).2
            have h2 := blkf (hp_set HT.out 0 (.slice AN nN cN)) 1
            refine wpAny_ready (rs := [21]) (by kernel_rfl) (by simp) (AllReady.cons rfl (fun K hK => ?_) AllReady.nil)
            go_simp
            clear h1 h2
            refine hK _ _ ?_
            clear hK K
            refine wpAny_done (by kernel_rfl) ?_ _
            go_wp2_with fail
            go_roundw
            case rel => exact ⟨q + 1, by omega, by go_num, ⟨_, _, hp_set (hp_set HT.out 0 _) 1 _, ((PN.out.far (Nat.lt_succ_self _) _).far (Nat.lt_succ_self _) _).snoc_nx, ((PO.out.far (Nat.lt_succ_self _) _).far (Nat.lt_succ_self _) _).snoc_ou, AP.out⟩, (BE.out.setCell (Nat.le_refl _) _).setCell (Nat.le_refl _) _, hidd (by simpa [World.setCell] using SZ.out)⟩
            case measure => simp [intOf]; omega
          --NEG
    · have he : q = g.s := by omega
      subst he
      obtain ⟨vn, vo, hT, hn, hoo, _⟩ := HT.out
      have HT2 := hidd hT
      have HN := hidd hn
      have HOO := hidd hoo
      clear hT hn hoo
      go_wp2_with fail
      go_ret
      exact ⟨rfl, ⟨vn, vo, HT2.out, HN.out.rdLL, HOO.out.rdLL⟩, Hb.out⟩
end Go.Proofs.Ytjnnbjlombopnaa
