/- A region that draws its order: each operation is shown once, by facts that hold behind it whatever else has come up. -/
import Derived.OrdersHeld
import Derived.WalkKit
import Derived.Below
import Derived.RegionTactic
namespace Go.Proofs.Ytecdjmfohcnadaa
open Go.RowKit

/-- A state with some temporaries written. -/
def putF (a : Act) (ds : List Nat) (u : Nat → Value) : Act := ds.foldl (fun a d => a.put (some d) (u d)) a
theorem putF_defers (ds : List Nat) (u : Nat → Value) : ∀ a : Act, (putF a ds u).defers = a.defers := by
  induction ds with
  | nil => intro a; rfl
  | cons d ds ih => intro a; exact ih _
theorem putF_size (ds : List Nat) (u : Nat → Value) : ∀ a : Act, (putF a ds u).tmps.size = a.tmps.size := by
  induction ds with
  | nil => intro a; rfl
  | cons d ds ih => intro a; exact (ih _).trans (by simp [Act.put])
theorem putF_get (ds : List Nat) (u : Nat → Value) : ∀ (a : Act) (j : Nat), (putF a ds u).tmps[j]? = if j ∈ ds ∧ j < a.tmps.size then some (u j) else a.tmps[j]? := by
  induction ds with
  | nil => intro a j; simp [putF]
  | cons d ds ih =>
    intro a j
    show (putF (a.put (some d) (u d)) ds u).tmps[j]? = _
    rw [ih]
    have hs : (a.put (some d) (u d)).tmps.size = a.tmps.size := by simp [Act.put]
    rw [hs]
    have hg : (a.put (some d) (u d)).tmps[j]? = if d = j then (if d < a.tmps.size then some (u d) else none) else a.tmps[j]? := by
      simp only [Act.put]
      exact Array.getElem?_setIfInBounds
    rw [hg]
    by_cases h1 : j < a.tmps.size
    · by_cases h2 : d = j
      · subst h2
        simp [h1]
      · by_cases h3 : j ∈ ds
        · simp [h1, h3]
        · have h4 : ¬ j = d := fun e => h2 e.symm
          simp [h1, h3, h2, h4]
    · have h5 : a.tmps[j]? = none := Array.getElem?_eq_none (by omega)
      by_cases h2 : d = j
      · subst h2; simp [h1]
      · simp [h1, h2]
theorem act_ext {a b : Act} (h1 : ∀ j : Nat, a.tmps[j]? = b.tmps[j]?) (h2 : a.defers = b.defers) : a = b := by
  cases a; cases b
  simp only at *
  subst h2
  congr 1
  exact Array.ext_getElem? h1
def updU (u : Nat → Value) : Option Nat → Value → (Nat → Value)
  | none, _ => u
  | some d, v => fun j => if j = d then v else u j
theorem putF_put (a : Act) (ds : List Nat) (u : Nat → Value) (dst : Option Nat) (v : Value) (hd : ∀ d, dst = some d → d ∈ ds) : (putF a ds u).put dst v = putF a ds (updU u dst v) := by
  cases dst with
  | none => rfl
  | some d =>
    have hm := hd d rfl
    refine act_ext (fun j => ?_) (by rw [putF_defers]; exact putF_defers ds u a)
    rw [putF_get]
    show ((putF a ds u).tmps.setIfInBounds d v)[j]? = _
    rw [Array.getElem?_setIfInBounds, putF_size, putF_get]
    by_cases h2 : d = j
    · subst h2
      by_cases h1 : d < a.tmps.size
      · simp [h1, hm, updU]
      · have h5 : a.tmps[d]? = none := Array.getElem?_eq_none (by omega)
        simp [h1]
    · have h4 : ¬ j = d := fun e => h2 e.symm
      simp [h2, updU, h4]
theorem putF_self (a : Act) (ds : List Nat) : putF a ds (fun d => a.tmps.getD d undef) = a := by
  refine act_ext (fun j => ?_) (putF_defers _ _ _)
  rw [putF_get]
  by_cases h : j ∈ ds ∧ j < a.tmps.size
  · rw [if_pos h]
    simp [h.2]
  · rw [if_neg h]

/-- How many have not come up. -/
def unl (l : Array Bool) : Nat := l.toList.countP (fun b => !b)
theorem cntL_set : ∀ (l : List Bool) (i : Nat), l[i]? = some false → (l.set i true).countP (fun b => !b) + 1 = l.countP (fun b => !b)
  | [], i, h => by simp at h
  | b :: l, 0, h => by
    simp at h
    subst h
    simp
  | b :: l, i + 1, h => by
    have := cntL_set l i (by simpa using h)
    simp only [List.set_cons_succ, List.countP_cons]
    omega
theorem getD_false {l : Array Bool} {i : Nat} (h : l.getD i true = false) : l[i]? = some false := by
  rw [Array.getD_eq_getD_getElem?] at h
  cases hh : l[i]? with
  | none => rw [hh] at h; cases h
  | some b => rw [hh] at h; rw [show b = false from h]
theorem unl_set {l : Array Bool} {i : Nat} (h : l.getD i true = false) : unl (l.setIfInBounds i true) + 1 = unl l := by
  unfold unl
  rw [Array.toList_setIfInBounds]
  exact cntL_set _ i (by rw [Array.getElem?_toList]; exact getD_false h)

section
variable {P : Program} {ops : Array Oper} {Q : Exit → Act → World → Prop} {md : Region.Mode}
/-- Each operation waits for earlier ones alone. -/
def inOrder (md : Region.Mode) (ops : Array Oper) : Bool := (List.range ops.size).all fun i => ((ops[i]?).map fun o => o.after.all fun e => !Region.binds md e || decide (e.on < i)).getD true
theorem all_come {l : Array Bool} (ho : inOrder md ops = true) (hr : Region.ready md ops l = []) : ∀ i, i < ops.size → l.getD i true = true := by
  intro i
  induction i using Nat.strongRecOn with
  | _ i ih =>
    intro hi
    cases h : l.getD i true with
    | true => rfl
    | false =>
      exfalso
      have hmem : i ∈ Region.ready md ops l := by
        refine mem_ready.2 ⟨h, ops[i], Array.getElem?_eq_getElem hi, fun e he hb => ?_⟩
        have h1 := List.all_eq_true.1 ho i (List.mem_range.2 hi)
        rw [Array.getElem?_eq_getElem hi] at h1
        simp only [Option.map_some, Option.getD_some, Array.all_eq_true_iff_forall_mem] at h1
        have h2 := h1 e he
        rw [hb] at h2
        simp at h2
        have h3 := ih e.on h2 (by omega)
        have hlt : i < l.size := (Array.getElem?_eq_some_iff.1 (getD_false h)).1
        have hlt2 : e.on < l.size := by omega
        rw [Array.getD_eq_getD_getElem?, Array.getElem?_eq_getElem hlt2] at h3 ⊢
        exact h3
      rw [hr] at hmem
      cases hmem

/-- The block that a value leads to. -/
def blkOf : Value → Option Nat
  | .pointer (some a) => some a.block
  | .slice (some a) _ _ => some a.block
  | _ => none
/-- What it leads to was laid between two worlds. -/
def Fresh (w w' : World) (v : Value) : Prop := ∀ k, blkOf v = some k → w.heap.size ≤ k ∧ k < w'.heap.size
/-- What is known of one operation once it has come up: of its value, and of the world from then on. -/
structure Ft where
  op : Nat
  dst : Nat
  fresh : Bool
  G : Value → World → Prop
  mono : ∀ v w w', Below w.heap.size w w' → G v w → G v w'
/-- The value alone is known. -/
def Ft.val (op dst : Nat) (x : Value) : Ft := ⟨op, dst, false, fun v _ => v = x, fun _ _ _ _ h => h⟩
/-- A block that was laid. -/
def Ft.blk (op dst : Nat) (B : Nat) (x : Obj) : Ft := ⟨op, dst, true, fun v w => ∃ g, v = .pointer (some ⟨g, 0, none⟩) ∧ B ≤ g ∧ w.heap[g]? = some x, fun _ _ _ hb ⟨g, h1, h2, h3⟩ => ⟨g, h1, h2, (hb.block g (Array.getElem?_eq_some_iff.1 h3).1).trans h3⟩⟩
def come (fs : List Ft) (l : Array Bool) : Array Bool := fs.foldl (fun l f => l.setIfInBounds f.op true) l
theorem come_size (fs : List Ft) : ∀ l : Array Bool, (come fs l).size = l.size := by
  induction fs with
  | nil => intro l; rfl
  | cons f fs ih => intro l; exact (ih _).trans (by simp)
theorem come_get (fs : List Ft) : ∀ (l : Array Bool) (j : Nat), (come fs l)[j]? = if (∃ f ∈ fs, f.op = j) ∧ j < l.size then some true else l[j]? := by
  induction fs with
  | nil => intro l j; simp [come]
  | cons f fs ih =>
    intro l j
    show (come fs (l.setIfInBounds f.op true))[j]? = _
    rw [ih, Array.getElem?_setIfInBounds, Array.size_setIfInBounds]
    by_cases h1 : j < l.size
    · by_cases h2 : f.op = j
      · subst h2; simp [h1]
      · by_cases h3 : ∃ f ∈ fs, f.op = j
        · simp [h1, h2, h3]
        · simp [h1, h2, h3]
    · by_cases h2 : f.op = j
      · subst h2; simp [h1]
      · simp [h1, h2]
theorem inj_of_nodup {α β : Type} (p : α → β) : ∀ (l : List α), (l.map p).Nodup → ∀ x ∈ l, ∀ y ∈ l, p x = p y → x = y
  | [], _, x, hx, _, _, _ => by cases hx
  | a :: l, h, x, hx, y, hy, e => by
    rw [List.map_cons, List.nodup_cons] at h
    rcases List.mem_cons.1 hx with e1 | h1
    · rcases List.mem_cons.1 hy with e2 | h2
      · rw [e1, e2]
      · exact absurd (List.mem_map.2 ⟨y, h2, by rw [← e, e1]⟩) h.1
    · rcases List.mem_cons.1 hy with e2 | h2
      · exact absurd (List.mem_map.2 ⟨x, h1, by rw [e, e2]⟩) h.1
      · exact inj_of_nodup p l h.2 x h1 y h2 e

section
variable {P : Program} {ops : Array Oper} {Q : Exit → Act → World → Prop} {md : Region.Mode}
theorem fs_at {fs : List Ft} {p q : Ft → Prop} (hf : ∀ g ∈ fs, p g → q g) (k : Nat) (f : Ft) (h : fs[k]? = some f) (hp : p f) : q f := hf f (List.mem_of_getElem? h) hp
theorem fs_all {fs : List Ft} {q : Ft → Prop} (hf : ∀ g ∈ fs, q g) (k : Nat) (f : Ft) (h : fs[k]? = some f) : q f := hf f (List.mem_of_getElem? h)
theorem fs_ne {fs : List Ft} {u : Nat → Value} (hf : ∀ f ∈ fs, ∀ g ∈ fs, f.fresh = true → g.fresh = true → f.op ≠ g.op → ∀ k, blkOf (u f.dst) = some k → blkOf (u g.dst) ≠ some k) (i j : Nat) (f g : Ft) (h : fs[i]? = some f) (h' : fs[j]? = some g) (hff : f.fresh = true) (hgf : g.fresh = true) (hne : f.op ≠ g.op) {a b : Nat} (ha : blkOf (u f.dst) = some a) (hb : blkOf (u g.dst) = some b) : a ≠ b := fun e => hf f (List.mem_of_getElem? h) g (List.mem_of_getElem? h') hff hgf hne a ha (by rw [hb, e])
/-- The state with what has come up. -/
def putT (a : Act) (fs : List Ft) (u : Nat → Value) : Act := putF a (fs.map (·.dst)) u
def waitsFor (md : Region.Mode) (o : Oper) (k : Nat) : Bool := o.after.any fun e => Region.binds md e && e.on == k
/-- One operation of the region is shown: what it waits for is known; behind it its own fact is. -/
def StepG (P : Program) (md : Region.Mode) (ops : Array Oper) (Q : Exit → Act → World → Prop) (S : World → Prop) (fs : List Ft) (a0 : Act) (w0 : World) (f : Ft) : Prop :=
  ∃ o, ops[f.op]? = some o ∧ o.dst = some f.dst ∧ ∀ (u : Nat → Value) (w : World), S w → Below w0.heap.size w0 w → (∀ g ∈ fs, waitsFor md o g.op = true → g.G (u g.dst) w) →
    ∀ K : Act → World → Prop, (∀ v w', Below w.heap.size w w' → f.G v w' → (f.fresh = true → Fresh w w' v) → K ((putT a0 fs u).put (some f.dst) v) w') →
      if Region.wanted o (yielded ops (putT a0 fs u).tmps) = true then Oper.wp P o (putT a0 fs u) w K Q else K ((putT a0 fs u).put o.dst undef) w
structure GrowI (fs : List Ft) (l0 l : Array Bool) (w0 w : World) (u : Nat → Value) : Prop where
  bel : Below w0.heap.size w0 w
  size : l.size = l0.size
  oth : ∀ j, (∀ f ∈ fs, f.op ≠ j) → l[j]? = l0[j]?
  facts : ∀ f ∈ fs, l.getD f.op false = true → f.G (u f.dst) w
  lt : ∀ f ∈ fs, l.getD f.op false = true → f.fresh = true → ∀ k, blkOf (u f.dst) = some k → k < w.heap.size
  ne : ∀ f ∈ fs, ∀ g ∈ fs, l.getD f.op false = true → l.getD g.op false = true → f.fresh = true → g.fresh = true → f.op ≠ g.op → ∀ k, blkOf (u f.dst) = some k → blkOf (u g.dst) ≠ some k
theorem getD_eq_of {l : Array Bool} {j : Nat} {d b : Bool} (h : l[j]? = some b) : l.getD j d = b := by rw [Array.getD_eq_getD_getElem?, h]; rfl
theorem getD_some {l : Array Bool} {j : Nat} (h : l.getD j false = true) : l[j]? = some true := by
  rw [Array.getD_eq_getD_getElem?] at h
  cases hh : l[j]? with
  | none => rw [hh] at h; cases h
  | some b => rw [hh] at h; rw [show b = true from h]

/-- The listing fits: a check that the kernel runs. -/
def growOk (md : Region.Mode) (ops : Array Oper) (os ds : List Nat) (n m : Nat) (l0 l1 : Array Bool) : Bool :=
  decide (os.foldl (fun l i => l.setIfInBounds i true) l0 = l1) && decide (unl l0 = n) && decide (unl l1 = m) && inOrder md ops && (os.all fun i => !(l0.getD i true)) && decide os.Nodup && decide ds.Nodup &&
  ((List.range ops.size).all fun j => l0.getD j true || os.contains j || os.all fun i => ((ops[j]?).map fun o => waitsFor md o i).getD true)
theorem come_eq (fs : List Ft) : ∀ l : Array Bool, come fs l = (fs.map (·.op)).foldl (fun l i => l.setIfInBounds i true) l := by
  induction fs with
  | nil => intro l; rfl
  | cons f fs ih => intro l; exact ih _
/-- Operations that make memory, or read what nobody writes, each shown once: whatever order they come up in. What else the region holds waits for all of them. -/
theorem wpAnyH_grow {S : World → Prop} (hS : ∀ w w', Below w.heap.size w w' → S w → S w') {n : Nat} (m : Nat) {l0 : Array Bool} (l1 : Array Bool) {a0 : Act} {w0 : World} (fs : List Ft)
    (os ds : List Nat) (hos : fs.map (·.op) = os) (hds : fs.map (·.dst) = ds) (hchk : growOk md ops os ds n m l0 l1 = true)
    (hs : ∀ f ∈ fs, StepG P md ops Q S fs a0 w0 f) (hS0 : S w0)
    (hend : ∀ u w, S w → Below w0.heap.size w0 w → (∀ f ∈ fs, f.G (u f.dst) w) → (∀ f ∈ fs, ∀ g ∈ fs, f.fresh = true → g.fresh = true → f.op ≠ g.op → ∀ k, blkOf (u f.dst) = some k → blkOf (u g.dst) ≠ some k) → wpAnyH P md ops Q S m l1 (putT a0 fs u) w) : wpAnyH P md ops Q S n l0 a0 w0 := by
  simp only [growOk, Bool.and_eq_true, decide_eq_true_eq] at hchk
  obtain ⟨⟨⟨⟨⟨⟨⟨hl1, hn⟩, hm⟩, ho⟩, hun⟩, hn1⟩, hn2⟩, hph⟩ := hchk
  subst hos
  subst hds
  rw [← come_eq] at hl1
  rw [List.all_map] at hun
  simp only [List.all_map, Function.comp_def] at hph
  have hun' : ∀ f ∈ fs, l0[f.op]? = some false := fun f hf => getD_false (by simpa using List.all_eq_true.1 hun f hf)
  have main : ∀ (n : Nat) (l : Array Bool) (u : Nat → Value) (w : World), unl l = n → S w → GrowI fs l0 l w0 w u → wpAnyH P md ops Q S n l (putT a0 fs u) w := by
    intro n
    induction n with
    | zero =>
      intro l u w hu hSw I
      have hall : ∀ f ∈ fs, l.getD f.op false = true := fun f hf => by
        have hlt : f.op < l.size := by rw [I.size]; exact (Array.getElem?_eq_some_iff.1 (hun' f hf)).1
        cases h : l[f.op]? with
        | none => rw [Array.getElem?_eq_none_iff] at h; omega
        | some b =>
          cases b with
          | true => exact getD_eq_of h
          | false =>
            have := unl_set (getD_eq_of (d := true) h)
            omega
      have e : l = l1 := by
        rw [← hl1]
        refine Array.ext_getElem? fun j => ?_
        rw [come_get]
        by_cases h : ∃ f ∈ fs, f.op = j
        · obtain ⟨f, hf, rfl⟩ := h
          rw [if_pos ⟨⟨f, hf, rfl⟩, (Array.getElem?_eq_some_iff.1 (hun' f hf)).1⟩]
          exact getD_some (hall f hf)
        · rw [if_neg (fun hh => h hh.1)]
          exact I.oth j fun f hf e => h ⟨f, hf, e⟩
      subst e
      rw [hu] at hm
      subst hm
      exact hend u w hSw I.bel (fun f hf => I.facts f hf (hall f hf)) (fun f hf g hg => I.ne f hf g hg (hall f hf) (hall g hg))
    | succ n ih =>
      intro l u w hu hSw I
      by_cases hall : ∀ f ∈ fs, l.getD f.op false = true
      · have e : l = l1 := by
          rw [← hl1]
          refine Array.ext_getElem? fun j => ?_
          rw [come_get]
          by_cases h : ∃ f ∈ fs, f.op = j
          · obtain ⟨f, hf, rfl⟩ := h
            rw [if_pos ⟨⟨f, hf, rfl⟩, (Array.getElem?_eq_some_iff.1 (hun' f hf)).1⟩]
            exact getD_some (hall f hf)
          · rw [if_neg (fun hh => h hh.1)]
            exact I.oth j fun f hf e => h ⟨f, hf, e⟩
        subst e
        rw [hu] at hm
        subst hm
        exact hend u w hSw I.bel (fun f hf => I.facts f hf (hall f hf)) (fun f hf g hg => I.ne f hf g hg (hall f hf) (hall g hg))
      · refine ⟨fun hr => absurd (fun f hf => ?_) hall, fun i hi => ?_⟩
        · obtain ⟨o, h1, _⟩ := hs f hf
          have := all_come ho hr f.op (Array.getElem?_eq_some_iff.1 h1).1
          have hlt : f.op < l.size := by rw [I.size]; exact (Array.getElem?_eq_some_iff.1 (hun' f hf)).1
          rw [Array.getD_eq_getD_getElem?, Array.getElem?_eq_getElem hlt] at this ⊢
          exact this
        · obtain ⟨h1, o, h2, h3⟩ := mem_ready.1 hi
          have him : ∃ f ∈ fs, f.op = i := by
            refine Decidable.byContradiction fun hc => hall fun f hf => ?_
            have hoth := I.oth i fun f hf e => hc ⟨f, hf, e⟩
            have h4 := List.all_eq_true.1 hph i (List.mem_range.2 (Array.getElem?_eq_some_iff.1 h2).1)
            have h5 : l0.getD i true = false := getD_eq_of (by rw [← hoth]; exact getD_false h1)
            have h6 : (fs.map (·.op)).contains i = false := by
              rw [Bool.eq_false_iff]
              intro h
              obtain ⟨f, hf, e⟩ := List.mem_map.1 (List.contains_iff_mem.1 h)
              exact hc ⟨f, hf, e⟩
            rw [h5, h6, Bool.false_or, Bool.false_or, h2] at h4
            have h7 := List.all_eq_true.1 h4 f hf
            simp only [Option.map_some, Option.getD_some, waitsFor] at h7
            obtain ⟨e, he, hb⟩ := Array.any_eq_true'.1 h7
            simp only [Bool.and_eq_true, beq_iff_eq] at hb
            have := h3 e he hb.1
            rwa [hb.2] at this
          obtain ⟨f, hf, rfl⟩ := him
          obtain ⟨o', ho', hd, hstep⟩ := hs f hf
          rw [h2] at ho'
          cases ho'
          refine wpOp_step h2 fun K hK => ?_
          refine hstep u w hSw I.bel (fun g hg hw => I.facts g hg ?_) K fun v w' hb hG hfr => hK _ _ ⟨hS _ _ hb hSw, ?_⟩
          · obtain ⟨e, he, hb⟩ := Array.any_eq_true'.1 hw
            simp only [Bool.and_eq_true, beq_iff_eq] at hb
            have := h3 e he hb.1
            rwa [hb.2] at this
          · rw [show (putT a0 fs u).put (some f.dst) v = putT a0 fs (updU u (some f.dst) v) from putF_put a0 _ u (some f.dst) v (fun d e => by cases e; exact List.mem_map.2 ⟨f, hf, rfl⟩)]
            have hus := unl_set h1
            have hold : ∀ g ∈ fs, g.op ≠ f.op → (l.setIfInBounds f.op true).getD g.op false = true → l.getD g.op false = true ∧ updU u (some f.dst) v g.dst = u g.dst := fun g hg e hgl => by
              have e3 : g.dst ≠ f.dst := fun h => e (by rw [inj_of_nodup (·.dst) fs hn2 g hg f hf h])
              refine ⟨?_, by simp [updU, e3]⟩
              rw [Array.getD_eq_getD_getElem?, Array.getElem?_setIfInBounds_ne (Ne.symm e)] at hgl
              rw [Array.getD_eq_getD_getElem?]
              exact hgl
            have hself : updU u (some f.dst) v f.dst = v := by simp [updU]
            refine ih _ _ _ (by omega) (hS _ _ hb hSw) ⟨I.bel.trans (hb.mono I.bel.size), by rw [Array.size_setIfInBounds]; exact I.size, fun j hj => ?_, fun g hg hgl => ?_, fun g hg hgl hgf k hk => ?_, fun g hg g' hg' hgl hgl' hgf hgf' hne k hk => ?_⟩
            · rw [Array.getElem?_setIfInBounds_ne (hj f hf)]
              exact I.oth j hj
            · by_cases e : g.op = f.op
              · have e2 := inj_of_nodup (·.op) fs hn1 g hg f hf e
                subst e2
                rw [hself]
                exact hG
              · obtain ⟨h5, h6⟩ := hold g hg e hgl
                rw [h6]
                exact g.mono _ _ _ hb (I.facts g hg h5)
            · by_cases e : g.op = f.op
              · have e2 := inj_of_nodup (·.op) fs hn1 g hg f hf e
                subst e2
                rw [hself] at hk
                exact (hfr hgf k hk).2
              · obtain ⟨h5, h6⟩ := hold g hg e hgl
                rw [h6] at hk
                exact Nat.lt_of_lt_of_le (I.lt g hg h5 hgf k hk) hb.size
            · by_cases e : g.op = f.op
              · have e2 := inj_of_nodup (·.op) fs hn1 g hg f hf e
                subst e2
                rw [hself] at hk
                obtain ⟨h5, h6⟩ := hold g' hg' (fun h => hne h.symm) hgl'
                rw [h6]
                intro h7
                have h8 := I.lt g' hg' h5 hgf' k h7
                have h9 := (hfr hgf k hk).1
                omega
              · obtain ⟨h5, h6⟩ := hold g hg e hgl
                rw [h6] at hk
                by_cases e' : g'.op = f.op
                · have e2 := inj_of_nodup (·.op) fs hn1 g' hg' f hf e'
                  subst e2
                  rw [hself]
                  intro h7
                  have h8 := I.lt g hg h5 hgf k hk
                  have h9 := (hfr hgf' k h7).1
                  omega
                · obtain ⟨h5', h6'⟩ := hold g' hg' e' hgl'
                  rw [h6']
                  exact I.ne g hg g' hg' h5 h5' hgf hgf' hne k hk
  have h := main n l0 (fun d => a0.tmps.getD d undef) w0 hn hS0 ⟨Below.refl _ _, rfl, fun _ _ => rfl, (fun f hf hl => by rw [getD_eq_of (hun' f hf)] at hl; cases hl), (fun f hf hl => by rw [getD_eq_of (hun' f hf)] at hl; cases hl), (fun f hf _ _ hl => by rw [getD_eq_of (hun' f hf)] at hl; cases hl)⟩
  have e : putT a0 fs (fun d => a0.tmps.getD d undef) = a0 := putF_self a0 _
  rw [e] at h
  exact h
end
end
end Go.Proofs.Ytecdjmfohcnadaa
