/- A region that draws its order, a third time: here an operation may wait for one that is named later. -/
import Derived.Test.YtcghcbdefajpgaaBI
namespace Go.Proofs.Ytcghcbdefajpgaa
open Go.RowKit

section
variable {P : Program} {ops : Array Oper} {Q : Exit → Act → World → Prop} {md : Region.Mode}
def inOrderR (rk : List Nat) (md : Region.Mode) (ops : Array Oper) : Bool := (List.range ops.size).all fun i => ((ops[i]?).map fun o => o.after.all fun e => !Region.binds md e || (decide (rk.getD e.on 0 < rk.getD i 0) && decide (e.on < ops.size))).getD true
theorem all_comeR (rk : List Nat) {l : Array Bool} (hsz : l.size = ops.size) (ho : inOrderR rk md ops = true) (hr : Region.ready md ops l = []) : ∀ (n i : Nat), rk.getD i 0 = n → i < ops.size → l.getD i true = true := by
  intro n
  induction n using Nat.strongRecOn with
  | _ n ih =>
    intro i hn hi
    cases h : l.getD i true with
    | true => rfl
    | false =>
      exfalso
      have hmem : i ∈ Region.ready md ops l := by
        refine mem_ready.2 ⟨h, ops[i], Array.getElem?_eq_getElem hi, fun e he hb => ?_⟩
        have h1 := List.all_eq_true.1 ho i (List.mem_range.2 hi)
        rw [Array.getElem?_eq_getElem hi] at h1
        simp only [Option.map_some, Option.getD_some, Array.all_eq_true_iff_forall_mem] at h1
        have h2 := h1 e he
        rw [hb, Bool.not_true, Bool.false_or, Bool.and_eq_true, decide_eq_true_eq, decide_eq_true_eq] at h2
        have h3 := ih (rk.getD e.on 0) (by rw [← hn]; exact h2.1) e.on rfl h2.2
        have hlt2 : e.on < l.size := by rw [hsz]; exact h2.2
        rw [Array.getD_eq_getD_getElem?, Array.getElem?_eq_getElem hlt2] at h3 ⊢
        exact h3
      rw [hr] at hmem
      cases hmem
/-- The listing fits: a check that the kernel runs. -/
def growOkR (rk : List Nat) (md : Region.Mode) (ops : Array Oper) (os ds : List Nat) (n m : Nat) (l0 l1 : Array Bool) : Bool :=
  decide (os.foldl (fun l i => l.setIfInBounds i true) l0 = l1) && decide (unl l0 = n) && decide (unl l1 = m) && decide (l0.size = ops.size) && inOrderR rk md ops && (os.all fun i => !(l0.getD i true)) && decide os.Nodup && decide ds.Nodup &&
  ((List.range ops.size).all fun j => l0.getD j true || os.contains j || ((List.range ops.size).any fun k => ((ops[j]?).map fun o => waitsFor md o k).getD false && !os.contains k && !(l0.getD k true)) || os.all fun i => ((ops[j]?).map fun o => waitsFor md o i || os.any fun k => waitsFor md o k && ((ops[k]?).map fun o' => waitsFor md o' i).getD false).getD true)
/-- Operations that make memory, or read what nobody writes, each shown once: whatever order they come up in. What else the region holds waits for all of them. -/
theorem wpAnyH_growR (rk : List Nat) {S : World → Prop} (hS : ∀ w w', Below w.heap.size w w' → S w → S w') {n : Nat} (m : Nat) {l0 : Array Bool} (l1 : Array Bool) {a0 : Act} {w0 : World} (fs : List Ft)
    (os ds : List Nat) (hos : fs.map (·.op) = os) (hds : fs.map (·.dst) = ds) (hchk : growOkR rk md ops os ds n m l0 l1 = true)
    (hs : ∀ f ∈ fs, StepG P md ops Q S fs a0 w0 f) (hS0 : S w0)
    (hend : ∀ u w, S w → Below w0.heap.size w0 w → (∀ f ∈ fs, f.G (u f.dst) w) → (∀ f ∈ fs, ∀ g ∈ fs, f.fresh = true → g.fresh = true → f.op ≠ g.op → ∀ k, blkOf (u f.dst) = some k → blkOf (u g.dst) ≠ some k) → wpAnyH P md ops Q S m l1 (putT a0 fs u) w) : wpAnyH P md ops Q S n l0 a0 w0 := by
  simp only [growOkR, Bool.and_eq_true, decide_eq_true_eq] at hchk
  obtain ⟨⟨⟨⟨⟨⟨⟨⟨hl1, hn⟩, hm⟩, hsz⟩, ho⟩, hun⟩, hn1⟩, hn2⟩, hph⟩ := hchk
  subst hos
  subst hds
  rw [← come_eq] at hl1
  rw [List.all_map] at hun
  simp only [List.all_map, Function.comp_def] at hph
  have hun' : ∀ f ∈ fs, l0[f.op]? = some false := fun f hf => getD_false (by simpa using List.all_eq_true.1 hun f hf)
  have main : ∀ (n : Nat) (l : Array Bool) (u : Nat → Value) (w : World), unl l = n → S w → GrowI fs l0 l w0 w u → (∀ f ∈ fs, l.getD f.op false = true → ∀ g ∈ fs, ∀ o, ops[f.op]? = some o → waitsFor md o g.op = true → l.getD g.op false = true) → wpAnyH P md ops Q S n l (putT a0 fs u) w := by
    intro n
    induction n with
    | zero =>
      intro l u w hu hSw I C
      have hall : ∀ f ∈ fs, l.getD f.op false = true := fun f hf => by
        have hlt : f.op < l.size := by rw [I.size]; exact (Array.getElem?_eq_some_iff.1 (hun' f hf)).1
        cases h : l[f.op]? with
        | none => rw [Array.getElem?_eq_none_iff] at h; omega
        | some b =>
          cases b with
          | true => exact getD_eq_of h
          | false =>
            have := unl_set (getD_eq_of (d := true) h)
            omega
      have e : l = l1 := by
        rw [← hl1]
        refine Array.ext_getElem? fun j => ?_
        rw [come_get]
        by_cases h : ∃ f ∈ fs, f.op = j
        · obtain ⟨f, hf, rfl⟩ := h
          rw [if_pos ⟨⟨f, hf, rfl⟩, (Array.getElem?_eq_some_iff.1 (hun' f hf)).1⟩]
          exact getD_some (hall f hf)
        · rw [if_neg (fun hh => h hh.1)]
          exact I.oth j fun f hf e => h ⟨f, hf, e⟩
      subst e
      rw [hu] at hm
      subst hm
      exact hend u w hSw I.bel (fun f hf => I.facts f hf (hall f hf)) (fun f hf g hg => I.ne f hf g hg (hall f hf) (hall g hg))
    | succ n ih =>
      intro l u w hu hSw I C
      by_cases hall : ∀ f ∈ fs, l.getD f.op false = true
      · have e : l = l1 := by
          rw [← hl1]
          refine Array.ext_getElem? fun j => ?_
          rw [come_get]
          by_cases h : ∃ f ∈ fs, f.op = j
          · obtain ⟨f, hf, rfl⟩ := h
            rw [if_pos ⟨⟨f, hf, rfl⟩, (Array.getElem?_eq_some_iff.1 (hun' f hf)).1⟩]
            exact getD_some (hall f hf)
          · rw [if_neg (fun hh => h hh.1)]
            exact I.oth j fun f hf e => h ⟨f, hf, e⟩
        subst e
        rw [hu] at hm
        subst hm
        exact hend u w hSw I.bel (fun f hf => I.facts f hf (hall f hf)) (fun f hf g hg => I.ne f hf g hg (hall f hf) (hall g hg))
      · refine ⟨fun hr => absurd (fun f hf => ?_) hall, fun i hi => ?_⟩
        · obtain ⟨o, h1, _⟩ := hs f hf
          have := all_comeR rk (I.size.trans hsz) ho hr _ f.op rfl (Array.getElem?_eq_some_iff.1 h1).1
          have hlt : f.op < l.size := by rw [I.size]; exact (Array.getElem?_eq_some_iff.1 (hun' f hf)).1
          rw [Array.getD_eq_getD_getElem?, Array.getElem?_eq_getElem hlt] at this ⊢
          exact this
        · obtain ⟨h1, o, h2, h3⟩ := mem_ready.1 hi
          have him : ∃ f ∈ fs, f.op = i := by
            refine Decidable.byContradiction fun hc => hall fun f hf => ?_
            have hoth := I.oth i fun f hf e => hc ⟨f, hf, e⟩
            have h4 := List.all_eq_true.1 hph i (List.mem_range.2 (Array.getElem?_eq_some_iff.1 h2).1)
            have h5 : l0.getD i true = false := getD_eq_of (by rw [← hoth]; exact getD_false h1)
            have h6 : (fs.map (·.op)).contains i = false := by
              rw [Bool.eq_false_iff]
              intro h
              obtain ⟨f, hf, e⟩ := List.mem_map.1 (List.contains_iff_mem.1 h)
              exact hc ⟨f, hf, e⟩
            rw [h5, h6, Bool.false_or, Bool.false_or, h2] at h4
            have up : ∀ p, waitsFor md o p = true → l.getD p true = true := fun p hp => by
              unfold waitsFor at hp
              obtain ⟨e, he, hb⟩ := Array.any_eq_true'.1 hp
              simp only [Bool.and_eq_true, beq_iff_eq] at hb
              have := h3 e he hb.1
              rw [hb.2] at this
              exact getD_eq_of (getD_some this)
            rcases (Bool.or_eq_true _ _).mp h4 with h4 | h4
            · exfalso
              obtain ⟨k, _, hk⟩ := List.any_eq_true.1 h4
              simp only [Option.map_some, Option.getD_some, Bool.and_eq_true, Bool.not_eq_true'] at hk
              have hk2 := I.oth k fun f hf e => by
                have := hk.1.2
                rw [Bool.eq_false_iff] at this
                exact this (List.contains_iff_mem.2 (List.mem_map.2 ⟨f, hf, e⟩))
              have hk3 := up k hk.1.1
              rw [Array.getD_eq_getD_getElem?, hk2, ← Array.getD_eq_getD_getElem?, hk.2] at hk3
              cases hk3
            clear up
            have h7 := List.all_eq_true.1 h4 f hf
            simp only [Option.map_some, Option.getD_some, Bool.or_eq_true] at h7
            have up : ∀ p, waitsFor md o p = true → l.getD p false = true := fun p hp => by
              unfold waitsFor at hp
              obtain ⟨e, he, hb⟩ := Array.any_eq_true'.1 hp
              simp only [Bool.and_eq_true, beq_iff_eq] at hb
              have := h3 e he hb.1
              rwa [hb.2] at this
            rcases h7 with h7 | h7
            · exact up _ h7
            · obtain ⟨p, hp, h8⟩ := List.any_eq_true.1 h7
              obtain ⟨f', hf', rfl⟩ := List.mem_map.1 hp
              simp only [Bool.and_eq_true] at h8
              obtain ⟨o', h9, _⟩ := hs f' hf'
              rw [h9] at h8
              exact C f' hf' (up _ h8.1) f hf o' h9 (by simpa using h8.2)
          obtain ⟨f, hf, rfl⟩ := him
          obtain ⟨o', ho', hd, hstep⟩ := hs f hf
          rw [h2] at ho'
          cases ho'
          refine wpOp_step h2 fun K hK => ?_
          refine hstep u w hSw I.bel (fun g hg hw => I.facts g hg ?_) K fun v w' hb hG hfr => hK _ _ ⟨hS _ _ hb hSw, ?_⟩
          · obtain ⟨e, he, hb⟩ := Array.any_eq_true'.1 hw
            simp only [Bool.and_eq_true, beq_iff_eq] at hb
            have := h3 e he hb.1
            rwa [hb.2] at this
          · rw [show (putT a0 fs u).put (some f.dst) v = putT a0 fs (updU u (some f.dst) v) from putF_put a0 _ u (some f.dst) v (fun d e => by cases e; exact List.mem_map.2 ⟨f, hf, rfl⟩)]
            have hus := unl_set h1
            have hold : ∀ g ∈ fs, g.op ≠ f.op → (l.setIfInBounds f.op true).getD g.op false = true → l.getD g.op false = true ∧ updU u (some f.dst) v g.dst = u g.dst := fun g hg e hgl => by
              have e3 : g.dst ≠ f.dst := fun h => e (by rw [inj_of_nodup (·.dst) fs hn2 g hg f hf h])
              refine ⟨?_, by simp [updU, e3]⟩
              rw [Array.getD_eq_getD_getElem?, Array.getElem?_setIfInBounds_ne (Ne.symm e)] at hgl
              rw [Array.getD_eq_getD_getElem?]
              exact hgl
            have hself : updU u (some f.dst) v f.dst = v := by simp [updU]
            have C2 : ∀ p ∈ fs, (l.setIfInBounds f.op true).getD p.op false = true → ∀ q ∈ fs, ∀ o, ops[p.op]? = some o → waitsFor md o q.op = true → (l.setIfInBounds f.op true).getD q.op false = true := fun p hp hl q hq o2 ho2 hw2 => by
              have hql : q.op < (l.setIfInBounds f.op true).size := by rw [Array.size_setIfInBounds, I.size]; exact (Array.getElem?_eq_some_iff.1 (hun' q hq)).1
              have old : l.getD q.op false = true → (l.setIfInBounds f.op true).getD q.op false = true := fun h => by
                have h2 := getD_some h
                by_cases e : f.op = q.op
                · rw [e, Array.getD_eq_getD_getElem?, Array.getElem?_setIfInBounds, if_pos rfl, if_pos (by rw [Array.size_setIfInBounds] at hql; exact hql)]; rfl
                · rw [Array.getD_eq_getD_getElem?, Array.getElem?_setIfInBounds_ne e, h2]; rfl
              by_cases e : p.op = f.op
              · rw [e, h2] at ho2
                cases ho2
                unfold waitsFor at hw2
                obtain ⟨e5, he5, hb5⟩ := Array.any_eq_true'.1 hw2
                simp only [Bool.and_eq_true, beq_iff_eq] at hb5
                have h6 := h3 e5 he5 hb5.1
                rw [hb5.2] at h6
                exact old h6
              · exact old (C p hp (hold p hp e hl).1 q hq o2 ho2 hw2)
            refine ih _ _ _ (by omega) (hS _ _ hb hSw) ⟨I.bel.trans (hb.mono I.bel.size), by rw [Array.size_setIfInBounds]; exact I.size, fun j hj => ?_, fun g hg hgl => ?_, fun g hg hgl hgf k hk => ?_, fun g hg g' hg' hgl hgl' hgf hgf' hne k hk => ?_⟩ C2
            · rw [Array.getElem?_setIfInBounds_ne (hj f hf)]
              exact I.oth j hj
            · by_cases e : g.op = f.op
              · have e2 := inj_of_nodup (·.op) fs hn1 g hg f hf e
                subst e2
                rw [hself]
                exact hG
              · obtain ⟨h5, h6⟩ := hold g hg e hgl
                rw [h6]
                exact g.mono _ _ _ hb (I.facts g hg h5)
            · by_cases e : g.op = f.op
              · have e2 := inj_of_nodup (·.op) fs hn1 g hg f hf e
                subst e2
                rw [hself] at hk
                exact (hfr hgf k hk).2
              · obtain ⟨h5, h6⟩ := hold g hg e hgl
                rw [h6] at hk
                exact Nat.lt_of_lt_of_le (I.lt g hg h5 hgf k hk) hb.size
            · by_cases e : g.op = f.op
              · have e2 := inj_of_nodup (·.op) fs hn1 g hg f hf e
                subst e2
                rw [hself] at hk
                obtain ⟨h5, h6⟩ := hold g' hg' (fun h => hne h.symm) hgl'
                rw [h6]
                intro h7
                have h8 := I.lt g' hg' h5 hgf' k h7
                have h9 := (hfr hgf k hk).1
                omega
              · obtain ⟨h5, h6⟩ := hold g hg e hgl
                rw [h6] at hk
                by_cases e' : g'.op = f.op
                · have e2 := inj_of_nodup (·.op) fs hn1 g' hg' f hf e'
                  subst e2
                  rw [hself]
                  intro h7
                  have h8 := I.lt g hg h5 hgf k hk
                  have h9 := (hfr hgf' k h7).1
                  omega
                · obtain ⟨h5', h6'⟩ := hold g' hg' e' hgl'
                  rw [h6']
                  exact I.ne g hg g' hg' h5 h5' hgf hgf' hne k hk
  have h := main n l0 (fun d => a0.tmps.getD d undef) w0 hn hS0 ⟨Below.refl _ _, rfl, fun _ _ => rfl, (fun f hf hl => by rw [getD_eq_of (hun' f hf)] at hl; cases hl), (fun f hf hl => by rw [getD_eq_of (hun' f hf)] at hl; cases hl), (fun f hf _ _ hl => by rw [getD_eq_of (hun' f hf)] at hl; cases hl)⟩ (fun f hf hl => by rw [getD_eq_of (hun' f hf)] at hl; cases hl)
  have e : putT a0 fs (fun d => a0.tmps.getD d undef) = a0 := putF_self a0 _
  rw [e] at h
  exact h
/-- The listing fits, where one fact may come late: a check that the kernel runs. -/
def growOkO (rk : List Nat) (opt : Nat) (md : Region.Mode) (ops : Array Oper) (os ds : List Nat) (n m : Nat) (l0 l1 l2 : Array Bool) : Bool :=
  decide (os.foldl (fun l i => l.setIfInBounds i true) l0 = l1) && decide ((os.filter fun i => i != opt).foldl (fun l i => l.setIfInBounds i true) l0 = l2) && decide (unl l2 = m + 1) && decide (unl l0 = n) && decide (unl l1 = m) && decide (l0.size = ops.size) && inOrderR rk md ops && (os.all fun i => !(l0.getD i true)) && decide os.Nodup && decide ds.Nodup &&
  ((List.range ops.size).all fun j => l0.getD j true || os.contains j || ((List.range ops.size).any fun k => ((ops[j]?).map fun o => waitsFor md o k).getD false && !os.contains k && !(l0.getD k true)) || os.all fun i => ((ops[j]?).map fun o => i == opt || (waitsFor md o i || os.any fun k => waitsFor md o k && ((ops[k]?).map fun o' => waitsFor md o' i).getD false)).getD true)
/-- Operations that make memory, or read what nobody writes, each shown once: whatever order they come up in. What else the region holds waits for all of them. -/
theorem wpAnyH_growO (rk : List Nat) (opt : Nat) {S : World → Prop} (hS : ∀ w w', Below w.heap.size w w' → S w → S w') {n : Nat} (m : Nat) {l0 : Array Bool} (l1 l2 : Array Bool) {a0 : Act} {w0 : World} (fs : List Ft)
    (os ds : List Nat) (hos : fs.map (·.op) = os) (hds : fs.map (·.dst) = ds) (hchk : growOkO rk opt md ops os ds n m l0 l1 l2 = true)
    (hs : ∀ f ∈ fs, StepG P md ops Q S fs a0 w0 f) (hS0 : S w0)
    (hend : ∀ u w, S w → Below w0.heap.size w0 w → (∀ f ∈ fs, f.G (u f.dst) w) → (∀ f ∈ fs, ∀ g ∈ fs, f.fresh = true → g.fresh = true → f.op ≠ g.op → ∀ k, blkOf (u f.dst) = some k → blkOf (u g.dst) ≠ some k) → wpAnyH P md ops Q S m l1 (putT a0 fs u) w)
    (hend0 : ∀ u w, S w → Below w0.heap.size w0 w → (∀ f ∈ fs, f.op ≠ opt → f.G (u f.dst) w) → (∀ f ∈ fs, ∀ g ∈ fs, f.op ≠ opt → g.op ≠ opt → f.fresh = true → g.fresh = true → f.op ≠ g.op → ∀ k, blkOf (u f.dst) = some k → blkOf (u g.dst) ≠ some k) → wpAnyH P md ops Q S (m + 1) l2 (putT a0 fs u) w) : wpAnyH P md ops Q S n l0 a0 w0 := by
  simp only [growOkO, Bool.and_eq_true, decide_eq_true_eq] at hchk
  obtain ⟨⟨⟨⟨⟨⟨⟨⟨⟨⟨hl1, hl2⟩, hm2⟩, hn⟩, hm⟩, hsz⟩, ho⟩, hun⟩, hn1⟩, hn2⟩, hph⟩ := hchk
  subst hos
  subst hds
  rw [← come_eq] at hl1
  have hl2' : come (fs.filter fun f => f.op != opt) l0 = l2 := by
    rw [come_eq, ← hl2, List.filter_map]
    rfl
  rw [List.all_map] at hun
  simp only [List.all_map, Function.comp_def] at hph
  have hun' : ∀ f ∈ fs, l0[f.op]? = some false := fun f hf => getD_false (by simpa using List.all_eq_true.1 hun f hf)
  have main : ∀ (n : Nat) (l : Array Bool) (u : Nat → Value) (w : World), unl l = n → S w → GrowI fs l0 l w0 w u → (∀ f ∈ fs, l.getD f.op false = true → ∀ g ∈ fs, ∀ o, ops[f.op]? = some o → waitsFor md o g.op = true → l.getD g.op false = true) → wpAnyH P md ops Q S n l (putT a0 fs u) w := by
    intro n
    induction n with
    | zero =>
      intro l u w hu hSw I C
      have hall : ∀ f ∈ fs, l.getD f.op false = true := fun f hf => by
        have hlt : f.op < l.size := by rw [I.size]; exact (Array.getElem?_eq_some_iff.1 (hun' f hf)).1
        cases h : l[f.op]? with
        | none => rw [Array.getElem?_eq_none_iff] at h; omega
        | some b =>
          cases b with
          | true => exact getD_eq_of h
          | false =>
            have := unl_set (getD_eq_of (d := true) h)
            omega
      have e : l = l1 := by
        rw [← hl1]
        refine Array.ext_getElem? fun j => ?_
        rw [come_get]
        by_cases h : ∃ f ∈ fs, f.op = j
        · obtain ⟨f, hf, rfl⟩ := h
          rw [if_pos ⟨⟨f, hf, rfl⟩, (Array.getElem?_eq_some_iff.1 (hun' f hf)).1⟩]
          exact getD_some (hall f hf)
        · rw [if_neg (fun hh => h hh.1)]
          exact I.oth j fun f hf e => h ⟨f, hf, e⟩
      subst e
      rw [hu] at hm
      subst hm
      exact hend u w hSw I.bel (fun f hf => I.facts f hf (hall f hf)) (fun f hf g hg => I.ne f hf g hg (hall f hf) (hall g hg))
    | succ n ih =>
      intro l u w hu hSw I C
      by_cases hall : ∀ f ∈ fs, l.getD f.op false = true
      · have e : l = l1 := by
          rw [← hl1]
          refine Array.ext_getElem? fun j => ?_
          rw [come_get]
          by_cases h : ∃ f ∈ fs, f.op = j
          · obtain ⟨f, hf, rfl⟩ := h
            rw [if_pos ⟨⟨f, hf, rfl⟩, (Array.getElem?_eq_some_iff.1 (hun' f hf)).1⟩]
            exact getD_some (hall f hf)
          · rw [if_neg (fun hh => h hh.1)]
            exact I.oth j fun f hf e => h ⟨f, hf, e⟩
        subst e
        rw [hu] at hm
        subst hm
        exact hend u w hSw I.bel (fun f hf => I.facts f hf (hall f hf)) (fun f hf g hg => I.ne f hf g hg (hall f hf) (hall g hg))
      by_cases hall2 : ∀ f ∈ fs, f.op ≠ opt → l.getD f.op false = true
      · have e : l = l2 := by
          rw [← hl2']
          refine Array.ext_getElem? fun j => ?_
          rw [come_get]
          by_cases h : ∃ f ∈ fs, f.op = j
          · obtain ⟨f, hf, rfl⟩ := h
            by_cases ho2 : f.op = opt
            · rw [if_neg (by rintro ⟨⟨f', hf', e'⟩, _⟩; have := (List.mem_filter.1 hf').2; rw [e', ho2] at this; simp at this), hun' f hf]
              cases hd : l.getD f.op false with
              | true =>
                exfalso
                refine hall fun f2 hf2 => ?_
                by_cases h3 : f2.op = opt
                · rw [h3, ← ho2]; exact hd
                · exact hall2 f2 hf2 h3
              | false =>
                have hlt : f.op < l.size := by rw [I.size]; exact (Array.getElem?_eq_some_iff.1 (hun' f hf)).1
                rw [Array.getD_eq_getD_getElem?, Array.getElem?_eq_getElem hlt] at hd
                rw [Array.getElem?_eq_getElem hlt]
                exact congrArg some hd
            · rw [if_pos ⟨⟨f, List.mem_filter.2 ⟨hf, by simp [ho2]⟩, rfl⟩, (Array.getElem?_eq_some_iff.1 (hun' f hf)).1⟩]
              exact getD_some (hall2 f hf ho2)
          · rw [if_neg (by rintro ⟨⟨f', hf', e'⟩, _⟩; exact h ⟨f', (List.mem_filter.1 hf').1, e'⟩)]
            exact I.oth j fun f hf e => h ⟨f, hf, e⟩
        subst e
        have : n = m := by omega
        subst this
        exact hend0 u w hSw I.bel (fun f hf hne => I.facts f hf (hall2 f hf hne)) (fun f hf g hg h1 h2 => I.ne f hf g hg (hall2 f hf h1) (hall2 g hg h2))
      · refine ⟨fun hr => absurd (fun f hf => ?_) hall, fun i hi => ?_⟩
        · obtain ⟨o, h1, _⟩ := hs f hf
          have := all_comeR rk (I.size.trans hsz) ho hr _ f.op rfl (Array.getElem?_eq_some_iff.1 h1).1
          have hlt : f.op < l.size := by rw [I.size]; exact (Array.getElem?_eq_some_iff.1 (hun' f hf)).1
          rw [Array.getD_eq_getD_getElem?, Array.getElem?_eq_getElem hlt] at this ⊢
          exact this
        · obtain ⟨h1, o, h2, h3⟩ := mem_ready.1 hi
          have him : ∃ f ∈ fs, f.op = i := by
            refine Decidable.byContradiction fun hc => hall2 fun f hf hfo => ?_
            have hoth := I.oth i fun f hf e => hc ⟨f, hf, e⟩
            have h4 := List.all_eq_true.1 hph i (List.mem_range.2 (Array.getElem?_eq_some_iff.1 h2).1)
            have h5 : l0.getD i true = false := getD_eq_of (by rw [← hoth]; exact getD_false h1)
            have h6 : (fs.map (·.op)).contains i = false := by
              rw [Bool.eq_false_iff]
              intro h
              obtain ⟨f, hf, e⟩ := List.mem_map.1 (List.contains_iff_mem.1 h)
              exact hc ⟨f, hf, e⟩
            rw [h5, h6, Bool.false_or, Bool.false_or, h2] at h4
            have up : ∀ p, waitsFor md o p = true → l.getD p true = true := fun p hp => by
              unfold waitsFor at hp
              obtain ⟨e, he, hb⟩ := Array.any_eq_true'.1 hp
              simp only [Bool.and_eq_true, beq_iff_eq] at hb
              have := h3 e he hb.1
              rw [hb.2] at this
              exact getD_eq_of (getD_some this)
            rcases (Bool.or_eq_true _ _).mp h4 with h4 | h4
            · exfalso
              obtain ⟨k, _, hk⟩ := List.any_eq_true.1 h4
              simp only [Option.map_some, Option.getD_some, Bool.and_eq_true, Bool.not_eq_true'] at hk
              have hk2 := I.oth k fun f hf e => by
                have := hk.1.2
                rw [Bool.eq_false_iff] at this
                exact this (List.contains_iff_mem.2 (List.mem_map.2 ⟨f, hf, e⟩))
              have hk3 := up k hk.1.1
              rw [Array.getD_eq_getD_getElem?, hk2, ← Array.getD_eq_getD_getElem?, hk.2] at hk3
              cases hk3
            clear up
            have h7 := List.all_eq_true.1 h4 f hf
            simp only [Option.map_some, Option.getD_some, Bool.or_eq_true] at h7
            replace h7 := h7.resolve_left (by simpa using hfo)
            have up : ∀ p, waitsFor md o p = true → l.getD p false = true := fun p hp => by
              unfold waitsFor at hp
              obtain ⟨e, he, hb⟩ := Array.any_eq_true'.1 hp
              simp only [Bool.and_eq_true, beq_iff_eq] at hb
              have := h3 e he hb.1
              rwa [hb.2] at this
            rcases h7 with h7 | h7
            · exact up _ h7
            · obtain ⟨p, hp, h8⟩ := List.any_eq_true.1 h7
              obtain ⟨f', hf', rfl⟩ := List.mem_map.1 hp
              simp only [Bool.and_eq_true] at h8
              obtain ⟨o', h9, _⟩ := hs f' hf'
              rw [h9] at h8
              exact C f' hf' (up _ h8.1) f hf o' h9 (by simpa using h8.2)
          obtain ⟨f, hf, rfl⟩ := him
          obtain ⟨o', ho', hd, hstep⟩ := hs f hf
          rw [h2] at ho'
          cases ho'
          refine wpOp_step h2 fun K hK => ?_
          refine hstep u w hSw I.bel (fun g hg hw => I.facts g hg ?_) K fun v w' hb hG hfr => hK _ _ ⟨hS _ _ hb hSw, ?_⟩
          · obtain ⟨e, he, hb⟩ := Array.any_eq_true'.1 hw
            simp only [Bool.and_eq_true, beq_iff_eq] at hb
            have := h3 e he hb.1
            rwa [hb.2] at this
          · rw [show (putT a0 fs u).put (some f.dst) v = putT a0 fs (updU u (some f.dst) v) from putF_put a0 _ u (some f.dst) v (fun d e => by cases e; exact List.mem_map.2 ⟨f, hf, rfl⟩)]
            have hus := unl_set h1
            have hold : ∀ g ∈ fs, g.op ≠ f.op → (l.setIfInBounds f.op true).getD g.op false = true → l.getD g.op false = true ∧ updU u (some f.dst) v g.dst = u g.dst := fun g hg e hgl => by
              have e3 : g.dst ≠ f.dst := fun h => e (by rw [inj_of_nodup (·.dst) fs hn2 g hg f hf h])
              refine ⟨?_, by simp [updU, e3]⟩
              rw [Array.getD_eq_getD_getElem?, Array.getElem?_setIfInBounds_ne (Ne.symm e)] at hgl
              rw [Array.getD_eq_getD_getElem?]
              exact hgl
            have hself : updU u (some f.dst) v f.dst = v := by simp [updU]
            have C2 : ∀ p ∈ fs, (l.setIfInBounds f.op true).getD p.op false = true → ∀ q ∈ fs, ∀ o, ops[p.op]? = some o → waitsFor md o q.op = true → (l.setIfInBounds f.op true).getD q.op false = true := fun p hp hl q hq o2 ho2 hw2 => by
              have hql : q.op < (l.setIfInBounds f.op true).size := by rw [Array.size_setIfInBounds, I.size]; exact (Array.getElem?_eq_some_iff.1 (hun' q hq)).1
              have old : l.getD q.op false = true → (l.setIfInBounds f.op true).getD q.op false = true := fun h => by
                have h2 := getD_some h
                by_cases e : f.op = q.op
                · rw [e, Array.getD_eq_getD_getElem?, Array.getElem?_setIfInBounds, if_pos rfl, if_pos (by rw [Array.size_setIfInBounds] at hql; exact hql)]; rfl
                · rw [Array.getD_eq_getD_getElem?, Array.getElem?_setIfInBounds_ne e, h2]; rfl
              by_cases e : p.op = f.op
              · rw [e, h2] at ho2
                cases ho2
                unfold waitsFor at hw2
                obtain ⟨e5, he5, hb5⟩ := Array.any_eq_true'.1 hw2
                simp only [Bool.and_eq_true, beq_iff_eq] at hb5
                have h6 := h3 e5 he5 hb5.1
                rw [hb5.2] at h6
                exact old h6
              · exact old (C p hp (hold p hp e hl).1 q hq o2 ho2 hw2)
            refine ih _ _ _ (by omega) (hS _ _ hb hSw) ⟨I.bel.trans (hb.mono I.bel.size), by rw [Array.size_setIfInBounds]; exact I.size, fun j hj => ?_, fun g hg hgl => ?_, fun g hg hgl hgf k hk => ?_, fun g hg g' hg' hgl hgl' hgf hgf' hne k hk => ?_⟩ C2
            · rw [Array.getElem?_setIfInBounds_ne (hj f hf)]
              exact I.oth j hj
            · by_cases e : g.op = f.op
              · have e2 := inj_of_nodup (·.op) fs hn1 g hg f hf e
                subst e2
                rw [hself]
                exact hG
              · obtain ⟨h5, h6⟩ := hold g hg e hgl
                rw [h6]
                exact g.mono _ _ _ hb (I.facts g hg h5)
            · by_cases e : g.op = f.op
              · have e2 := inj_of_nodup (·.op) fs hn1 g hg f hf e
                subst e2
                rw [hself] at hk
                exact (hfr hgf k hk).2
              · obtain ⟨h5, h6⟩ := hold g hg e hgl
                rw [h6] at hk
                exact Nat.lt_of_lt_of_le (I.lt g hg h5 hgf k hk) hb.size
            · by_cases e : g.op = f.op
              · have e2 := inj_of_nodup (·.op) fs hn1 g hg f hf e
                subst e2
                rw [hself] at hk
                obtain ⟨h5, h6⟩ := hold g' hg' (fun h => hne h.symm) hgl'
                rw [h6]
                intro h7
                have h8 := I.lt g' hg' h5 hgf' k h7
                have h9 := (hfr hgf k hk).1
                omega
              · obtain ⟨h5, h6⟩ := hold g hg e hgl
                rw [h6] at hk
                by_cases e' : g'.op = f.op
                · have e2 := inj_of_nodup (·.op) fs hn1 g' hg' f hf e'
                  subst e2
                  rw [hself]
                  intro h7
                  have h8 := I.lt g hg h5 hgf k hk
                  have h9 := (hfr hgf' k h7).1
                  omega
                · obtain ⟨h5', h6'⟩ := hold g' hg' e' hgl'
                  rw [h6']
                  exact I.ne g hg g' hg' h5 h5' hgf hgf' hne k hk
  have h := main n l0 (fun d => a0.tmps.getD d undef) w0 hn hS0 ⟨Below.refl _ _, rfl, fun _ _ => rfl, (fun f hf hl => by rw [getD_eq_of (hun' f hf)] at hl; cases hl), (fun f hf hl => by rw [getD_eq_of (hun' f hf)] at hl; cases hl), (fun f hf _ _ hl => by rw [getD_eq_of (hun' f hf)] at hl; cases hl)⟩ (fun f hf hl => by rw [getD_eq_of (hun' f hf)] at hl; cases hl)
  have e : putT a0 fs (fun d => a0.tmps.getD d undef) = a0 := putF_self a0 _
  rw [e] at h
  exact h

/-- A chain of writes, and one operation that may come up at whatever time. -/
theorem float_chain {S : World → Prop} (i : Nat) (A : (Nat → Value) → Act) (m : Nat) (js : Nat → Nat) (lA lB : Nat → Array Bool)
    (rA : ∀ k, k < m → Region.ready md ops (lA k) = [js k]) (rB : ∀ k, k < m → Region.ready md ops (lB k) = [i, js k]) (rBm : Region.ready md ops (lB m) = [i])
    (sA : ∀ k, k < m → (lA k).setIfInBounds (js k) true = lA (k + 1)) (sB : ∀ k, k < m → (lB k).setIfInBounds (js k) true = lB (k + 1)) (sBA : ∀ k, k ≤ m → (lB k).setIfInBounds i true = lA k)
    (Inv : Bool → Nat → (Nat → Value) → World → Prop) (hS : ∀ b k u w, Inv b k u w → S w)
    (hst : ∀ b k u w o, k < m → ops[js k]? = some o → Inv b k u w → ∀ K : Act → World → Prop, (∀ w', Inv b (k + 1) u w' → K (A u) w') → if Region.wanted o (yielded ops (A u).tmps) = true then Oper.wp P o (A u) w K Q else K ((A u).put o.dst undef) w)
    (hfl : ∀ k u w o, k ≤ m → ops[i]? = some o → Inv false k u w → ∀ K : Act → World → Prop, (∀ u' w', Inv true k u' w' → K (A u') w') → if Region.wanted o (yielded ops (A u).tmps) = true then Oper.wp P o (A u) w K Q else K ((A u).put o.dst undef) w)
    (n : Nat) (fin : ∀ u w, Inv true m u w → wpAnyH P md ops Q S n (lA m) (A u) w) :
    (∀ u w, Inv true 0 u w → wpAnyH P md ops Q S (n + m) (lA 0) (A u) w) ∧ (∀ u w, Inv false 0 u w → wpAnyH P md ops Q S (n + m + 1) (lB 0) (A u) w) := by
  have hA : ∀ r k, k + r = m → ∀ u w, Inv true k u w → wpAnyH P md ops Q S (n + r) (lA k) (A u) w := by
    intro r
    induction r with
    | zero => intro k hk u w h; rw [show k = m by omega] at h ⊢; exact fin u w h
    | succ r ih =>
      intro k hk u w h
      refine ⟨fun h0 => (by rw [rA k (by omega)] at h0; cases h0), fun j hj => ?_⟩
      obtain ⟨_, o, hoj, _⟩ := mem_ready.1 hj
      rw [rA k (by omega), List.mem_singleton] at hj
      subst hj
      refine wpOp_step hoj fun K hK => hst true k u w o (by omega) hoj h K fun w' h' => hK _ _ ⟨hS _ _ _ _ h', ?_⟩
      rw [sA k (by omega)]
      exact ih (k + 1) (by omega) u w' h'
  have hB : ∀ r k, k + r = m → ∀ u w, Inv false k u w → wpAnyH P md ops Q S (n + r + 1) (lB k) (A u) w := by
    intro r
    induction r with
    | zero =>
      intro k hk u w h
      have e : k = m := by omega
      subst e
      refine ⟨fun h0 => (by rw [rBm] at h0; cases h0), fun j hj => ?_⟩
      obtain ⟨_, o, hoj, _⟩ := mem_ready.1 hj
      rw [rBm, List.mem_singleton] at hj
      subst hj
      refine wpOp_step hoj fun K hK => hfl k u w o (Nat.le_refl _) hoj h K fun u' w' h' => hK _ _ ⟨hS _ _ _ _ h', ?_⟩
      rw [sBA k (Nat.le_refl _)]
      exact hA 0 k (by omega) u' w' h'
    | succ r ih =>
      intro k hk u w h
      refine ⟨fun h0 => (by rw [rB k (by omega)] at h0; cases h0), fun j hj => ?_⟩
      obtain ⟨_, o, hoj, _⟩ := mem_ready.1 hj
      rw [rB k (by omega)] at hj
      rcases List.mem_cons.1 hj with rfl | hj
      · refine wpOp_step hoj fun K hK => hfl k u w o (by omega) hoj h K fun u' w' h' => hK _ _ ⟨hS _ _ _ _ h', ?_⟩
        rw [sBA k (by omega)]
        exact hA (r + 1) k (by omega) u' w' h'
      · rw [List.mem_singleton] at hj
        subst hj
        refine wpOp_step hoj fun K hK => hst false k u w o (by omega) hoj h K fun w' h' => hK _ _ ⟨hS _ _ _ _ h', ?_⟩
        rw [sB k (by omega)]
        exact ih (k + 1) (by omega) u w' h'
  exact ⟨fun u w h => hA m 0 (by omega) u w h, fun u w h => hB m 0 (by omega) u w h⟩

/-- Both together: facts in whatever order, one of them late, and a chain of writes behind the others. -/
theorem wpAnyH_growF (rk : List Nat) (opt : Nat) {S : World → Prop} (hSb : ∀ w w', Below w.heap.size w w' → S w → S w') {n : Nat} (nf m : Nat) {l0 : Array Bool} {a0 : Act} {w0 : World} (fs : List Ft)
    (os ds : List Nat) (hos : fs.map (·.op) = os) (hds : fs.map (·.dst) = ds) (js : Nat → Nat) (lA lB : Nat → Array Bool) (hchk : growOkO rk opt md ops os ds n (nf + m) l0 (lA 0) (lB 0) = true)
    (hs : ∀ f ∈ fs, StepG P md ops Q S fs a0 w0 f) (hS0 : S w0)
    (rA : ∀ k, k < m → Region.ready md ops (lA k) = [js k]) (rB : ∀ k, k < m → Region.ready md ops (lB k) = [opt, js k]) (rBm : Region.ready md ops (lB m) = [opt])
    (sA : ∀ k, k < m → (lA k).setIfInBounds (js k) true = lA (k + 1)) (sB : ∀ k, k < m → (lB k).setIfInBounds (js k) true = lB (k + 1)) (sBA : ∀ k, k ≤ m → (lB k).setIfInBounds opt true = lA k)
    (Inv : Bool → Nat → (Nat → Value) → World → Prop) (hS : ∀ b k u w, Inv b k u w → S w)
    (hst : ∀ b k u w o, k < m → ops[js k]? = some o → Inv b k u w → ∀ K : Act → World → Prop, (∀ w', Inv b (k + 1) u w' → K (putT a0 fs u) w') → if Region.wanted o (yielded ops (putT a0 fs u).tmps) = true then Oper.wp P o (putT a0 fs u) w K Q else K ((putT a0 fs u).put o.dst undef) w)
    (hfl : ∀ k u w o, k ≤ m → ops[opt]? = some o → Inv false k u w → ∀ K : Act → World → Prop, (∀ u' w', Inv true k u' w' → K (putT a0 fs u') w') → if Region.wanted o (yielded ops (putT a0 fs u).tmps) = true then Oper.wp P o (putT a0 fs u) w K Q else K ((putT a0 fs u).put o.dst undef) w)
    (hi1 : ∀ u w, S w → Below w0.heap.size w0 w → (∀ f ∈ fs, f.G (u f.dst) w) → (∀ f ∈ fs, ∀ g ∈ fs, f.fresh = true → g.fresh = true → f.op ≠ g.op → ∀ k, blkOf (u f.dst) = some k → blkOf (u g.dst) ≠ some k) → Inv true 0 u w)
    (hi0 : ∀ u w, S w → Below w0.heap.size w0 w → (∀ f ∈ fs, f.op ≠ opt → f.G (u f.dst) w) → (∀ f ∈ fs, ∀ g ∈ fs, f.op ≠ opt → g.op ≠ opt → f.fresh = true → g.fresh = true → f.op ≠ g.op → ∀ k, blkOf (u f.dst) = some k → blkOf (u g.dst) ≠ some k) → Inv false 0 u w)
    (fin : ∀ u w, Inv true m u w → wpAnyH P md ops Q S nf (lA m) (putT a0 fs u) w) : wpAnyH P md ops Q S n l0 a0 w0 := by
  have F := float_chain (P := P) (md := md) (ops := ops) (Q := Q) opt (fun u => putT a0 fs u) m js lA lB rA rB rBm sA sB sBA Inv hS hst hfl nf fin
  exact wpAnyH_growO rk opt hSb (nf + m) (lA 0) (lB 0) fs os ds hos hds hchk hs hS0 (fun u w h1 h2 h3 h4 => F.1 u w (hi1 u w h1 h2 h3 h4)) (fun u w h1 h2 h3 h4 => F.2 u w (hi0 u w h1 h2 h3 h4))
theorem fs_neO {fs : List Ft} {u : Nat → Value} {opt : Nat} (hf : ∀ f ∈ fs, ∀ g ∈ fs, f.op ≠ opt → g.op ≠ opt → f.fresh = true → g.fresh = true → f.op ≠ g.op → ∀ k, blkOf (u f.dst) = some k → blkOf (u g.dst) ≠ some k) (i j : Nat) (f g : Ft) (h : fs[i]? = some f) (h' : fs[j]? = some g) (ho : f.op ≠ opt) (ho' : g.op ≠ opt) (hff : f.fresh = true) (hgf : g.fresh = true) (hne : f.op ≠ g.op) {a b : Nat} (ha : blkOf (u f.dst) = some a) (hb : blkOf (u g.dst) = some b) : a ≠ b := fun e => hf f (List.mem_of_getElem? h) g (List.mem_of_getElem? h') ho ho' hff hgf hne a ha (by rw [hb, e])
/-- A slice that was laid. -/
def Ft.sl (op dst : Nat) (B n : Nat) (x : Obj) : Ft := ⟨op, dst, true, fun v w => ∃ g, v = .slice (some ⟨g, 0, none⟩) n n ∧ B ≤ g ∧ w.heap[g]? = some x, fun _ _ _ hb ⟨g, h1, h2, h3⟩ => ⟨g, h1, h2, (hb.block g (Array.getElem?_eq_some_iff.1 h3).1).trans h3⟩⟩
end
end Go.Proofs.Ytcghcbdefajpgaa
