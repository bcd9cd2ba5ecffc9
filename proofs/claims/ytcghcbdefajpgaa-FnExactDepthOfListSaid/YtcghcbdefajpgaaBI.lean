/- Small texts of the walks under one roof. -/
import Derived.Test.YtcghcbdefajpgaaBC
import Derived.Test.YtcghcbdefajpgaaBB
import Derived.Test.YtcghcbdefajpgaaBE
import Derived.Test.YtcghcbdefajpgaaBH
import Derived.StringKeys
import Derived.WalkArith
/- A region that draws its order, once more: here an operation may wait for another through a third. -/
namespace Go.Proofs.Ytcghcbdefajpgaa
open Go.RowKit

section
variable {P : Program} {ops : Array Oper} {Q : Exit → Act → World → Prop} {md : Region.Mode}
/-- The listing fits: a check that the kernel runs. -/
def growOkC (md : Region.Mode) (ops : Array Oper) (os ds : List Nat) (n m : Nat) (l0 l1 : Array Bool) : Bool :=
  decide (os.foldl (fun l i => l.setIfInBounds i true) l0 = l1) && decide (unl l0 = n) && decide (unl l1 = m) && inOrder md ops && (os.all fun i => !(l0.getD i true)) && decide os.Nodup && decide ds.Nodup &&
  ((List.range ops.size).all fun j => l0.getD j true || os.contains j || ((List.range ops.size).any fun k => ((ops[j]?).map fun o => waitsFor md o k).getD false && !os.contains k && !(l0.getD k true)) || os.all fun i => ((ops[j]?).map fun o => waitsFor md o i || os.any fun k => waitsFor md o k && ((ops[k]?).map fun o' => waitsFor md o' i).getD false).getD true)
/-- Operations that make memory, or read what nobody writes, each shown once: whatever order they come up in. What else the region holds waits for all of them. -/
theorem wpAnyH_growC {S : World → Prop} (hS : ∀ w w', Below w.heap.size w w' → S w → S w') {n : Nat} (m : Nat) {l0 : Array Bool} (l1 : Array Bool) {a0 : Act} {w0 : World} (fs : List Ft)
    (os ds : List Nat) (hos : fs.map (·.op) = os) (hds : fs.map (·.dst) = ds) (hchk : growOkC md ops os ds n m l0 l1 = true)
    (hs : ∀ f ∈ fs, StepG P md ops Q S fs a0 w0 f) (hS0 : S w0)
    (hend : ∀ u w, S w → Below w0.heap.size w0 w → (∀ f ∈ fs, f.G (u f.dst) w) → (∀ f ∈ fs, ∀ g ∈ fs, f.fresh = true → g.fresh = true → f.op ≠ g.op → ∀ k, blkOf (u f.dst) = some k → blkOf (u g.dst) ≠ some k) → wpAnyH P md ops Q S m l1 (putT a0 fs u) w) : wpAnyH P md ops Q S n l0 a0 w0 := by
  simp only [growOkC, Bool.and_eq_true, decide_eq_true_eq] at hchk
  obtain ⟨⟨⟨⟨⟨⟨⟨hl1, hn⟩, hm⟩, ho⟩, hun⟩, hn1⟩, hn2⟩, hph⟩ := hchk
  subst hos
  subst hds
  rw [← come_eq] at hl1
  rw [List.all_map] at hun
  simp only [List.all_map, Function.comp_def] at hph
  have hun' : ∀ f ∈ fs, l0[f.op]? = some false := fun f hf => getD_false (by simpa using List.all_eq_true.1 hun f hf)
  have main : ∀ (n : Nat) (l : Array Bool) (u : Nat → Value) (w : World), unl l = n → S w → GrowI fs l0 l w0 w u → (∀ f ∈ fs, l.getD f.op false = true → ∀ g ∈ fs, ∀ o, ops[f.op]? = some o → waitsFor md o g.op = true → l.getD g.op false = true) → wpAnyH P md ops Q S n l (putT a0 fs u) w := by
    intro n
    induction n with
    | zero =>
      intro l u w hu hSw I C
      have hall : ∀ f ∈ fs, l.getD f.op false = true := fun f hf => by
        have hlt : f.op < l.size := by rw [I.size]; exact (Array.getElem?_eq_some_iff.1 (hun' f hf)).1
        cases h : l[f.op]? with
        | none => rw [Array.getElem?_eq_none_iff] at h; omega
        | some b =>
          cases b with
          | true => exact getD_eq_of h
          | false =>
            have := unl_set (getD_eq_of (d := true) h)
            omega
      have e : l = l1 := by
        rw [← hl1]
        refine Array.ext_getElem? fun j => ?_
        rw [come_get]
        by_cases h : ∃ f ∈ fs, f.op = j
        · obtain ⟨f, hf, rfl⟩ := h
          rw [if_pos ⟨⟨f, hf, rfl⟩, (Array.getElem?_eq_some_iff.1 (hun' f hf)).1⟩]
          exact getD_some (hall f hf)
        · rw [if_neg (fun hh => h hh.1)]
          exact I.oth j fun f hf e => h ⟨f, hf, e⟩
      subst e
      rw [hu] at hm
      subst hm
      exact hend u w hSw I.bel (fun f hf => I.facts f hf (hall f hf)) (fun f hf g hg => I.ne f hf g hg (hall f hf) (hall g hg))
    | succ n ih =>
      intro l u w hu hSw I C
      by_cases hall : ∀ f ∈ fs, l.getD f.op false = true
      · have e : l = l1 := by
          rw [← hl1]
          refine Array.ext_getElem? fun j => ?_
          rw [come_get]
          by_cases h : ∃ f ∈ fs, f.op = j
          · obtain ⟨f, hf, rfl⟩ := h
            rw [if_pos ⟨⟨f, hf, rfl⟩, (Array.getElem?_eq_some_iff.1 (hun' f hf)).1⟩]
            exact getD_some (hall f hf)
          · rw [if_neg (fun hh => h hh.1)]
            exact I.oth j fun f hf e => h ⟨f, hf, e⟩
        subst e
        rw [hu] at hm
        subst hm
        exact hend u w hSw I.bel (fun f hf => I.facts f hf (hall f hf)) (fun f hf g hg => I.ne f hf g hg (hall f hf) (hall g hg))
      · refine ⟨fun hr => absurd (fun f hf => ?_) hall, fun i hi => ?_⟩
        · obtain ⟨o, h1, _⟩ := hs f hf
          have := all_come ho hr f.op (Array.getElem?_eq_some_iff.1 h1).1
          have hlt : f.op < l.size := by rw [I.size]; exact (Array.getElem?_eq_some_iff.1 (hun' f hf)).1
          rw [Array.getD_eq_getD_getElem?, Array.getElem?_eq_getElem hlt] at this ⊢
          exact this
        · obtain ⟨h1, o, h2, h3⟩ := mem_ready.1 hi
          have him : ∃ f ∈ fs, f.op = i := by
            refine Decidable.byContradiction fun hc => hall fun f hf => ?_
            have hoth := I.oth i fun f hf e => hc ⟨f, hf, e⟩
            have h4 := List.all_eq_true.1 hph i (List.mem_range.2 (Array.getElem?_eq_some_iff.1 h2).1)
            have h5 : l0.getD i true = false := getD_eq_of (by rw [← hoth]; exact getD_false h1)
            have h6 : (fs.map (·.op)).contains i = false := by
              rw [Bool.eq_false_iff]
              intro h
              obtain ⟨f, hf, e⟩ := List.mem_map.1 (List.contains_iff_mem.1 h)
              exact hc ⟨f, hf, e⟩
            rw [h5, h6, Bool.false_or, Bool.false_or, h2] at h4
            have up : ∀ p, waitsFor md o p = true → l.getD p true = true := fun p hp => by
              unfold waitsFor at hp
              obtain ⟨e, he, hb⟩ := Array.any_eq_true'.1 hp
              simp only [Bool.and_eq_true, beq_iff_eq] at hb
              have := h3 e he hb.1
              rw [hb.2] at this
              exact getD_eq_of (getD_some this)
            rcases (Bool.or_eq_true _ _).mp h4 with h4 | h4
            · exfalso
              obtain ⟨k, _, hk⟩ := List.any_eq_true.1 h4
              simp only [Option.map_some, Option.getD_some, Bool.and_eq_true, Bool.not_eq_true'] at hk
              have hk2 := I.oth k fun f hf e => by
                have := hk.1.2
                rw [Bool.eq_false_iff] at this
                exact this (List.contains_iff_mem.2 (List.mem_map.2 ⟨f, hf, e⟩))
              have hk3 := up k hk.1.1
              rw [Array.getD_eq_getD_getElem?, hk2, ← Array.getD_eq_getD_getElem?, hk.2] at hk3
              cases hk3
            clear up
            have h7 := List.all_eq_true.1 h4 f hf
            simp only [Option.map_some, Option.getD_some, Bool.or_eq_true] at h7
            have up : ∀ p, waitsFor md o p = true → l.getD p false = true := fun p hp => by
              unfold waitsFor at hp
              obtain ⟨e, he, hb⟩ := Array.any_eq_true'.1 hp
              simp only [Bool.and_eq_true, beq_iff_eq] at hb
              have := h3 e he hb.1
              rwa [hb.2] at this
            rcases h7 with h7 | h7
            · exact up _ h7
            · obtain ⟨p, hp, h8⟩ := List.any_eq_true.1 h7
              obtain ⟨f', hf', rfl⟩ := List.mem_map.1 hp
              simp only [Bool.and_eq_true] at h8
              obtain ⟨o', h9, _⟩ := hs f' hf'
              rw [h9] at h8
              exact C f' hf' (up _ h8.1) f hf o' h9 (by simpa using h8.2)
          obtain ⟨f, hf, rfl⟩ := him
          obtain ⟨o', ho', hd, hstep⟩ := hs f hf
          rw [h2] at ho'
          cases ho'
          refine wpOp_step h2 fun K hK => ?_
          refine hstep u w hSw I.bel (fun g hg hw => I.facts g hg ?_) K fun v w' hb hG hfr => hK _ _ ⟨hS _ _ hb hSw, ?_⟩
          · obtain ⟨e, he, hb⟩ := Array.any_eq_true'.1 hw
            simp only [Bool.and_eq_true, beq_iff_eq] at hb
            have := h3 e he hb.1
            rwa [hb.2] at this
          · rw [show (putT a0 fs u).put (some f.dst) v = putT a0 fs (updU u (some f.dst) v) from putF_put a0 _ u (some f.dst) v (fun d e => by cases e; exact List.mem_map.2 ⟨f, hf, rfl⟩)]
            have hus := unl_set h1
            have hold : ∀ g ∈ fs, g.op ≠ f.op → (l.setIfInBounds f.op true).getD g.op false = true → l.getD g.op false = true ∧ updU u (some f.dst) v g.dst = u g.dst := fun g hg e hgl => by
              have e3 : g.dst ≠ f.dst := fun h => e (by rw [inj_of_nodup (·.dst) fs hn2 g hg f hf h])
              refine ⟨?_, by simp [updU, e3]⟩
              rw [Array.getD_eq_getD_getElem?, Array.getElem?_setIfInBounds_ne (Ne.symm e)] at hgl
              rw [Array.getD_eq_getD_getElem?]
              exact hgl
            have hself : updU u (some f.dst) v f.dst = v := by simp [updU]
            have C2 : ∀ p ∈ fs, (l.setIfInBounds f.op true).getD p.op false = true → ∀ q ∈ fs, ∀ o, ops[p.op]? = some o → waitsFor md o q.op = true → (l.setIfInBounds f.op true).getD q.op false = true := fun p hp hl q hq o2 ho2 hw2 => by
              have hql : q.op < (l.setIfInBounds f.op true).size := by rw [Array.size_setIfInBounds, I.size]; exact (Array.getElem?_eq_some_iff.1 (hun' q hq)).1
              have old : l.getD q.op false = true → (l.setIfInBounds f.op true).getD q.op false = true := fun h => by
                have h2 := getD_some h
                by_cases e : f.op = q.op
                · rw [e, Array.getD_eq_getD_getElem?, Array.getElem?_setIfInBounds, if_pos rfl, if_pos (by rw [Array.size_setIfInBounds] at hql; exact hql)]; rfl
                · rw [Array.getD_eq_getD_getElem?, Array.getElem?_setIfInBounds_ne e, h2]; rfl
              by_cases e : p.op = f.op
              · rw [e, h2] at ho2
                cases ho2
                unfold waitsFor at hw2
                obtain ⟨e5, he5, hb5⟩ := Array.any_eq_true'.1 hw2
                simp only [Bool.and_eq_true, beq_iff_eq] at hb5
                have h6 := h3 e5 he5 hb5.1
                rw [hb5.2] at h6
                exact old h6
              · exact old (C p hp (hold p hp e hl).1 q hq o2 ho2 hw2)
            refine ih _ _ _ (by omega) (hS _ _ hb hSw) ⟨I.bel.trans (hb.mono I.bel.size), by rw [Array.size_setIfInBounds]; exact I.size, fun j hj => ?_, fun g hg hgl => ?_, fun g hg hgl hgf k hk => ?_, fun g hg g' hg' hgl hgl' hgf hgf' hne k hk => ?_⟩ C2
            · rw [Array.getElem?_setIfInBounds_ne (hj f hf)]
              exact I.oth j hj
            · by_cases e : g.op = f.op
              · have e2 := inj_of_nodup (·.op) fs hn1 g hg f hf e
                subst e2
                rw [hself]
                exact hG
              · obtain ⟨h5, h6⟩ := hold g hg e hgl
                rw [h6]
                exact g.mono _ _ _ hb (I.facts g hg h5)
            · by_cases e : g.op = f.op
              · have e2 := inj_of_nodup (·.op) fs hn1 g hg f hf e
                subst e2
                rw [hself] at hk
                exact (hfr hgf k hk).2
              · obtain ⟨h5, h6⟩ := hold g hg e hgl
                rw [h6] at hk
                exact Nat.lt_of_lt_of_le (I.lt g hg h5 hgf k hk) hb.size
            · by_cases e : g.op = f.op
              · have e2 := inj_of_nodup (·.op) fs hn1 g hg f hf e
                subst e2
                rw [hself] at hk
                obtain ⟨h5, h6⟩ := hold g' hg' (fun h => hne h.symm) hgl'
                rw [h6]
                intro h7
                have h8 := I.lt g' hg' h5 hgf' k h7
                have h9 := (hfr hgf k hk).1
                omega
              · obtain ⟨h5, h6⟩ := hold g hg e hgl
                rw [h6] at hk
                by_cases e' : g'.op = f.op
                · have e2 := inj_of_nodup (·.op) fs hn1 g' hg' f hf e'
                  subst e2
                  rw [hself]
                  intro h7
                  have h8 := I.lt g hg h5 hgf k hk
                  have h9 := (hfr hgf' k h7).1
                  omega
                · obtain ⟨h5', h6'⟩ := hold g' hg' e' hgl'
                  rw [h6']
                  exact I.ne g hg g' hg' h5 h5' hgf hgf' hne k hk
  have h := main n l0 (fun d => a0.tmps.getD d undef) w0 hn hS0 ⟨Below.refl _ _, rfl, fun _ _ => rfl, (fun f hf hl => by rw [getD_eq_of (hun' f hf)] at hl; cases hl), (fun f hf hl => by rw [getD_eq_of (hun' f hf)] at hl; cases hl), (fun f hf _ _ hl => by rw [getD_eq_of (hun' f hf)] at hl; cases hl)⟩ (fun f hf hl => by rw [getD_eq_of (hun' f hf)] at hl; cases hl)
  have e : putT a0 fs (fun d => a0.tmps.getD d undef) = a0 := putF_self a0 _
  rw [e] at h
  exact h
end
end Go.Proofs.Ytcghcbdefajpgaa

/- Words of the walks: arrays of sixteen as wholes; what the reference lays down before it searches. -/
namespace Go.Proofs.Ytcghcbdefajpgaa
open Go.RowKit

def storeB (a : Addr) (v : Value) : Sem Unit := storeVar 81 a v
theorem storeVar_B (a : Addr) (v : Value) : storeVar 81 a v = storeB a v := rfl
theorem run_storeB {W : World} {b : Nat} {C C' : Nat → Bool} {t : TypeId} (h : W.heap[b]? = some (.cells (bv C' 16) t (0, 0))) : (storeB ⟨b, 0, none⟩ (.agg (bv C 16))).run Try.prog W = .ok () (W.setRow b (bv C 16)) := by
  have := run_storeVar_at (P := Try.prog) W b 0 16 t 81 (bv C' 16) (bv C 16) h (by kernel_rfl) (av_size _ _) (by rw [show (bv C' 16).size = 16 from av_size _ _]; omega) (av_one fun _ => rfl)
  rw [splice_whole (bv C' 16) (bv C 16) ((av_size _ _).trans (av_size _ _).symm)] at this
  exact this
attribute [go_sem ↓ high] storeVar_B
attribute [go_sem] run_storeB
def loadB6 (a : Addr) : Sem Value := loadVar 81 a
theorem loadVar_B6 (a : Addr) : loadVar 81 a = loadB6 a := rfl
theorem run_loadB6 {W : World} {b : Nat} {cs : Array Value} {t : TypeId} {fr : Nat × Nat} (h : W.heap[b]? = some (.cells cs t fr)) (hs : cs.size = 16) : (loadB6 ⟨b, 0, none⟩).run Try.prog W = .ok (.agg cs) W := by
  have := run_loadVar_at (P := Try.prog) W b 0 16 t 81 cs fr _ h Try.underlying81 rfl (by kernel_rfl) (by omega)
  have e : cs.extract 0 (0 + 16) = cs := by rw [show 0 + 16 = cs.size by omega]; simp
  rw [e] at this
  exact this
attribute [go_sem ↓ high] loadVar_B6

/-- The inverse machine, the classes and the trivial states, each in a variable of its own. -/
structure P3 (g : Gm) (B : Nat) (w : World) (ib cb tb : Nat) : Prop where
  i : w.heap[ib]? = some (.cells g.inv.mc.cells 31 (0, 0))
  c : w.heap[cb]? = some (.cells (iv g.ls16 16) 79 (0, 0))
  t : w.heap[tb]? = some (.cells (bv g.tr16 16) 81 (0, 0))
  il : B ≤ ib
  cl : B ≤ cb
  tl : B ≤ tb
theorem P3.below {g : Gm} {B : Nat} {w w' : World} {ib cb tb : Nat} (h : P3 g B w ib cb tb) (hb : Below w.heap.size w w') : P3 g B w' ib cb tb :=
  ⟨hp_bel h.i hb, hp_bel h.c hb, hp_bel h.t hb, h.il, h.cl, h.tl⟩
theorem P3.ic {g : Gm} {B : Nat} {w : World} {ib cb tb : Nat} (h : P3 g B w ib cb tb) : (loadM ⟨ib, 0, none⟩).run Try.prog w = .ok (.agg g.inv.mc.cells) w ∧ (loadA ⟨cb, 0, none⟩).run Try.prog w = .ok (.agg (iv g.ls16 16)) w ∧ (loadB6 ⟨tb, 0, none⟩).run Try.prog w = .ok (.agg (bv g.tr16 16)) w :=
  ⟨run_loadM h.i, run_loadA h.c, run_loadB6 h.t (av_size _ _)⟩
end Go.Proofs.Ytcghcbdefajpgaa

/- Walks: the search for all sections of a word, of the program. -/
namespace Go.Proofs.Ytcghcbdefajpgaa
open Go.RowKit
set_option linter.unusedSimpArgs false

theorem LLr.lit1 {w : World} {B g : Nat} {v : Value} {xs : List Int} (h : Own w B 2 v (ints xs)) (hg : w.heap[g]? = some (.cells #[v] 26 (0, 0))) (hB : B ≤ g) : LLr w B (.slice (some ⟨g, 0, none⟩) 1 1) [v] [xs] := by
  refine ⟨Own.of_full (vs := [v]) hg rfl hB (by omega), rfl, fun j r ys h1 h2 => ?_, fun i j r u h1 h2 hne => ?_⟩
  · match j, h1, h2 with
    | 0, h1, h2 => simp at h1 h2; subst h1; subst h2; exact h
  · match i, j, h1, h2 with
    | 0, 0, _, _ => exact absurd rfl hne

theorem kyT_key {s : List Int} (h : s.length ≤ 1048576) : keyOf Try.prog 9 (.string (kyT s)) = some (kyL s) :=
  WideMaps.keyOf_string_mk Try.underlying9 (by unfold kyT; rw [strOfNums_size, kyB_len]; unfold maxLen; omega)
theorem zeroI64 (w : World) : (zeroValue 2).run Try.prog w = .ok (.int .i64 0) w := by kernel_rfl

set_option maxRecDepth 100000 in
set_option maxHeartbeats 4000000 in
theorem sections_any (g : Gm) (hok : g.Ok) (G : Nat) (vo vt : Value) (v : Value) (u : List Int) (hu : g.Nums u) (hlen : u.length ≤ 1048576) (fits : List Int → Bool) (fn : Nat) (bnd cap : Array Value) (eg : ∀ args w, (callFunc fn args).run Try.prog w = .ok (.enter fn args) w) (w : World) (hG : GrpAt w G g vo vt) (hr : RdI w v u)
    (hc : ∀ s x W, g.Nums s → s.length ≤ u.length → Below w.heap.size w W → RdI W x s → Calls Try.prog fn (bnd ++ #[x] ++ cap) W fun e W' => e = .returned (.bool (fits s)) ∧ Below W.heap.size W W') :
    Calls Try.prog 66 #[.pointer (some ⟨G, 0, none⟩), v, .func (.func fn) bnd cap] w fun e w' => (∃ a b ra rb, e = .returned (.tuple #[a, b, .int .i64 (g.secs fits u).2.2]) ∧ LLr w' w.heap.size a ra (g.secs fits u).1 ∧ LLr w' w.heap.size b rb (g.secs fits u).2.1 ∧ Apart b a) ∧ Below w.heap.size w w' := by
  have HO := hidd hok
  have HG := hidd hG
  have Hr := hidd hr
  have HU := hidd hu
  have HC := hidd hc
  have Heg := hidd eg
  have l3 := hok.l3
  obtain ⟨A0, c0, rfl, hq0⟩ := hr
  clear hok hG hu hc hq0
  go_enter Try.func66, Try.ntmps66
  go_wp2_with fail
  refine (normal_any g HO.out G vo vt _ u HU.out hlen w HG.out Hr.out).mono ?_
  rintro e w1 ⟨⟨s0, rfl, ho⟩, hb⟩
  have HN0 := hidd (show g.Nums (g.nrm u) ∧ (g.nrm u).length ≤ u.length from ⟨Gm.nrm_nums HU.out, g.nrm_len u⟩)
  have HS0 := hidd ho
  have B1 := hidd hb
  have hk0 := hidd (fun W (h : RdI W s0 (g.nrm u)) => key_any s0 (g.nrm u) (Gm.Nums.sml HO.out HN0.out.1) (Nat.le_trans HN0.out.2 hlen) W h)
  have hnm := (ho.block)
  obtain ⟨As, cs, rfl⟩ := ho.slice
  have hmm := @run_makeMap Try.prog
  clear ho hb hnm
  go_wp2_with fail
  obtain ⟨w2, hw2⟩ : ∃ w2, w2 = (w1.alloc (.cells #[.slice As (ints (g.nrm u)).length cs] 26)).alloc (.map #[] 0) := ⟨_, rfl⟩
  rw [← hw2]
  have b12 := hidd (show Below w1.heap.size w1 w2 by rw [hw2]; exact (bel_alloc' _ _).alloc (by simp) _)
  have HS2 := hidd (HS0.out.below b12.out)
  have HQ2 := hidd (LLr.lit1 (g := w1.heap.size) HS2.out (by rw [hw2]; exact hp_old (hp_new rfl)) B1.out.size)
  have HM2 := hidd (show Mp w2 (w1.heap.size + 1) 0 (.map [] : DataW Unit) by rw [hw2]; have := World.ownsMap_made (H := Unit) (w1.alloc (.cells #[.slice As (ints (g.nrm u)).length cs] 26)) Try.prog 9 (plainElem Try.prog 2); rw [show (w1.alloc (.cells #[.slice As (ints (g.nrm u)).length cs] 26)).heap.size = w1.heap.size + 1 by simp] at this; exact this)
  have B2 := hidd (bel_then B1.out b12.out)
  clear hw2 HS0
  refine (hk0.out w2 HS2.out.rdI).mono ?_
  rintro e w3 ⟨rfl, hb⟩
  have B3 := hidd (bel_then B2.out hb)
  have HQ3 := hidd (HQ2.out.below hb)
  have HM3 := hidd (HM2.out.below hb)
  have hz := b12.out.size
  clear hb HQ2 HM2 HS2 hk0 hmm
  obtain ⟨N0, hN0⟩ : ∃ N0, N0 = g.nrm u := ⟨_, rfl⟩
  rw [← hN0] at HQ3 HN0
  simp only [← hN0]
  have HK0 := hidd (show KeyMap ((DataW.map [] : DataW Unit).put (kyL N0) (.lit (.int .i64 (0 : Nat)))) [N0] from by
    have := KeyMap.nil.put (s := N0) (Gm.Nums.sml HO.out HN0.out.1) (by simp [plc])
    exact this)
  have hky := kyT_key (s := N0) (Nat.le_trans HN0.out.2 hlen)
  go_wp2_with (refine insert_own _ rfl _ _ _ _ rfl 9 2 (Maps.string_keyed Try.underlying9) Try.underlying127 _ (w1.heap.size + 1) 0 _ rfl HM3.out (by unfold maxLen; omega) _ _ _ rfl rfl hky _ [] (plainElem_int Try.underlying2 (by decide)) ?_; intro w4 hm4 hg4)
  have B4 := hidd (B3.out.grown hg4 B3.out.size (fun k hk => by cases hk; have := B1.out.size; omega))
  have hB1 := B1.out.size
  have HT : Hid (g.bf fits (201 - 0) 0 [N0] [] = g.secs fits u) := hidd (by rw [hN0]; rfl)
  have HW := hidd (show g.Wd u.length [N0] from fun s hs => by rw [List.mem_singleton.1 hs]; exact HN0.out)
  have HQ4 := hidd (show Qs w4 w.heap.size (.slice (some ⟨w1.heap.size, 0, none⟩) 1 1) (.slice none 0 0) [.slice As (ints N0).length cs] [] [N0] [] (w1.heap.size + 1) ((DataW.map [] : DataW Unit).put (kyL N0) (.lit (.int .i64 (0 : Nat)))) from
    ⟨HQ3.out.keepM HM3.out hg4, LLr.nil _ _, .inl rfl, hm4, HK0.out, by omega⟩)
  obtain ⟨b, hb⟩ : ∃ b, b = w1.heap.size + 1 := ⟨_, rfl⟩
  rw [← hb] at HQ4 ⊢
  obtain ⟨q0, hq0⟩ : ∃ q0 : Value, q0 = .slice (some ⟨w1.heap.size, 0, none⟩) 1 1 := ⟨_, rfl⟩
  simp only [← hq0] at HQ4 ⊢
  obtain ⟨T, hT⟩ : ∃ T, T = g.secs fits u := ⟨_, rfl⟩
  rw [← hT] at HT
  have HTe := hidd hT
  clear hm4 hg4 HK0 hN0 HQ3 HM3 hky B3 B2 b12 hz hb hq0 hT
  go_loopw [9, 11, 12] (fun q n y wr => ∃ (i : Nat) (W R : List (List Int)) (rw rr : List Value) (D : DataW Unit), y = .int .i64 i ∧ (i ≤ W.length ∧ W.length ≤ 200) ∧ Hid (R.length = i) ∧ Hid (g.Wd u.length W) ∧ Hid (g.bf fits (201 - i) i W R = T) ∧ Hid (Qs wr w.heap.size q n rw rr W R b D) ∧ Hid (Below w.heap.size w wr)) (fun _ _ y _ => 200 - (intOf y).toNat)
  case atStart => exact ⟨0, [N0], [], _, _, _, rfl, ⟨Nat.zero_le _, by simp⟩, hidd rfl, HW, HT, HQ4, B4⟩
  case round =>
    clear HW HT HQ4 B4 HN0 B1
    obtain ⟨i, W, R, rw, rr, D, rfl, ⟨hi, h200⟩, HRl, HW, HT, HQ, Hb⟩ := hrel
    obtain ⟨Aq, cq, hqe⟩ := HQ.out.q.v.slice
    rw [HQ.out.q.len] at hqe
    subst hqe
    obtain ⟨wo, rfl⟩ : ∃ wo, wo = wr := ⟨_, rfl⟩
    by_cases hlt : i < W.length
    · have i1 : (i : Int) < W.length := by omega
      obtain ⟨f, hf⟩ : ∃ f, 201 - i = f + 1 := ⟨200 - i, by omega⟩
      rw [hf] at HT
      have hgs := HW.out.get hlt
      obtain ⟨s, hs⟩ : ∃ s, s = W.getD i [] := ⟨_, rfl⟩
      have HS := hidd hs
      have HGS := hidd (show g.Nums s ∧ s.length ≤ u.length by rw [hs]; exact hgs)
      clear hgs hs
      have hir : i < rw.length := by rw [HQ.out.q.len]; exact hlt
      have hrow := HQ.out.q.row i rw[i] s (List.getElem?_eq_getElem hir) (by rw [HS.out, List.getD_eq_getElem?_getD, List.getElem?_eq_getElem hlt]; rfl)
      obtain ⟨bq, oq, rfl, hcell⟩ := HQ.out.q.v.rd.2.at_ (List.getElem?_eq_getElem hir)
      obtain ⟨r, hrr⟩ : ∃ r, r = rw[i] := ⟨_, rfl⟩
      rw [← hrr] at hrow hcell
      have HCf := hidd (HC.out s r wo HGS.out.1 HGS.out.2 Hb.out hrow.rdI)
      obtain ⟨Ar, cr, rfl⟩ := hrow.slice
      clear hrow hrr
      cases hfit : fits s with
      | false =>
        rw [hfit] at HCf
        have HE := hidd (HTe.out.symm.trans (HT.out.symm.trans (Gm.bf_bad hlt (by rw [← HS.out]; exact hfit))))
        clear hfit
        go_wp2_with fail
        refine HCf.out.mono ?_
        rintro e w5 ⟨rfl, hb⟩
        go_wp2_with fail
        refine bodyPost_ret (results_tmp3 rfl _ _ _) rfl ?_
        exact ⟨⟨_, _, [], [], by rw [HE.out]; rfl, by rw [HE.out]; exact LLr.nil _ _, by rw [HE.out]; exact LLr.nil _ _, .inl rfl⟩, bel_then Hb.out hb⟩
      | true =>
        rw [hfit] at HCf
        have HF := hidd hfit
        clear hfit
        go_wp2_with fail
        refine HCf.out.mono ?_
        rintro e w5 ⟨rfl, hb⟩
        have Hb5 := hidd (bel_then Hb.out hb)
        have HQ5 := hidd (HQ.out.below hb)
        have cl := (HG.out.below Hb5.out).m.l
        clear hb HCf Hb HQ hcell
        have hrl := HQ5.out.q.len
        go_wp2_with fail
        clear cl hrl
        go_loopw [9, 13, 47] (fun q ro y wr => ∃ (x : Nat) (W' : List (List Int)) (row : List Int) (rw' : List Value) (D' : DataW Unit), y = .int .i64 x ∧ x ≤ g.l ∧ (i < W'.length ∧ W'.length ≤ 200) ∧ Hid (W'.getD i [] = s) ∧ Hid (g.bfRow s x W = some (W', row)) ∧ Hid (row.length = x) ∧ Hid (g.Wd u.length W') ∧ Hid (Qr wr w.heap.size q u11 rw' rr W' R b D' w.heap.size ro row) ∧ Hid (Below w.heap.size w wr)) (fun _ _ y _ => g.l - (intOf y).toNat)
        case atStart => exact ⟨0, W, [], rw, D, rfl, Nat.zero_le _, ⟨hlt, h200⟩, hidd HS.out.symm, hidd rfl, hidd rfl, HW, hidd (HQ5.out.row (Nat.le_refl _)), Hb5⟩
        case round =>
          clear HW HQ5 Hb5
          obtain ⟨x, W', row, rw', D', rfl, hx, ⟨hi2, h2002⟩, HG1, HB, HRw, HW, HQ, Hb⟩ := hrel
          obtain ⟨wi, rfl⟩ : ∃ wi, wi = wr := ⟨_, rfl⟩
          obtain ⟨Aq, cq, hqe⟩ := HQ.out.qs.q.v.slice
          rw [HQ.out.qs.q.len] at hqe
          subst hqe
          by_cases hlx : x < g.l
          · have k1 : (x : Int) < g.l := by omega
            have i2 : (i : Int) < W'.length := by omega
            have hir : i < rw'.length := by rw [HQ.out.qs.q.len]; exact hi2
            have hrow := HQ.out.qs.q.row i rw'[i] s (List.getElem?_eq_getElem hir) (by rw [← HG1.out, List.getD_eq_getElem?_getD, List.getElem?_eq_getElem hi2]; rfl)
            obtain ⟨bq, oq, rfl, hcell⟩ := HQ.out.qs.q.v.rd.2.at_ (List.getElem?_eq_getElem hir)
            obtain ⟨r, hrr⟩ : ∃ r, r = rw'[i] := ⟨_, rfl⟩
            rw [← hrr] at hrow hcell
            have HAt := hidd (at_any g HO.out G vo vt r s HGS.out.1 (Nat.le_trans HGS.out.2 hlen) x hlx wi (HG.out.below Hb.out) hrow.rdI)
            obtain ⟨Ar, cr, rfl⟩ := hrow.slice
            clear hrow hrr
            go_wp2_with fail
            refine HAt.out.mono ?_
            rintro e w5 ⟨⟨sv, rfl, ho5⟩, hb5⟩
            obtain ⟨A5, c5, rfl⟩ := ho5.slice
            have Hb5 := hidd (bel_then Hb.out hb5)
            have HSc := hidd (show g.Nums (g.sc s x) ∧ (g.sc s x).length ≤ u.length from ⟨Gm.sc_nums HO.out HGS.out.1 hlx, by rw [g.sc_len]; exact HGS.out.2⟩)
            have HNm := hidd (normal_any g HO.out G vo vt _ (g.sc s x) HSc.out.1 (Nat.le_trans HSc.out.2 hlen) w5 (HG.out.below Hb5.out) ho5.rdI)
            have hb5' := hidd hb5
            clear ho5 hb5 hcell HAt
            go_wp2_with fail
            refine HNm.out.mono ?_
            rintro e w6 ⟨⟨nv, rfl, ho6⟩, hb6⟩
            obtain ⟨A6, c6, rfl⟩ := ho6.slice
            have HNs := hidd (Gm.nsc HO.out HGS.out hlx)
            have Hb6 := hidd (bel_then Hb5.out hb6)
            have HH := hidd (HQ.out.half ho6 hb5'.out.size (Nat.le_trans Hb.out.size hb5'.out.size) (bel_then hb5'.out hb6))
            have hseen := fun h => Gm.bfRow_seen HB.out h
            have hnew := fun h h' => Gm.bfRow_new HB.out h h'
            have hfull := fun h h' => Gm.bfRow_full HB.out h h'
            have HNs2 := hidd (HNs.out.1.sml HO.out)
            have hky := kyT_key (s := g.nrm (g.sc s x)) (Nat.le_trans HNs.out.2 hlen)
            obtain ⟨ns, hns⟩ : ∃ ns, ns = g.nrm (g.sc s x) := ⟨_, rfl⟩
            simp only [← hns] at HNs HNs2 HH hky hseen hnew hfull ho6 ⊢
            have HKy := hidd (fun W (h : RdI W (.slice A6 (ints ns).length c6) ns) => key_any _ ns HNs2.out (Nat.le_trans HNs.out.2 hlen) W h)
            have Hns := hidd hns
            clear HNm hb6 HSc HQ Hb5 Hb hns hb5'
            by_cases hp : plc W' ns < W'.length
            · have hh := HH.out.r.qs.k.has ns HNs2.out
              rw [decide_eq_true hp] at hh
              have HKat := hidd (HH.out.r.qs.k.at_ ns (.lit (.int .i64 0)) HNs2.out hp)
              have HBn := hidd (hseen hp)
              obtain ⟨p, hpe⟩ : ∃ p, p = plc W' ns := ⟨_, rfl⟩
              rw [← hpe] at HKat HBn hp
              clear hpe hseen hnew hfull
              go_wp2_with fail
              refine (HKy.out _ ho6.rdI).mono ?_
              rintro e w7 ⟨rfl, hb7⟩
              have HH7 := hidd (HH.out.below hb7)
              have Hb7 := hidd (bel_then Hb6.out hb7)
              clear hb7 HH ho6 Hb6
              have hlen2 : (ints row).length + 1 ≤ 1099511627776 := by rw [ints_length, HRw.out]; omega
              have hbase := Hb7.out.size
              go_wp2_with (first | (refine wpList_lookup_own_ok_int _ rfl _ _ _ rfl 9 2 .i64 (Maps.string_keyed Try.underlying9) Try.underlying127 Try.underlying2 (zeroI64 _) b _ _ rfl HH7.out.r.qs.m _ _ rfl hky ?_; intro c hat hwc; have hcc : c = (p : Int) := (by have h := hat; rw [HKat.out] at h; cases h; rfl); subst hcc; clear hat hwc) | (at_builtin; refine app_at rfl _ _ _ rfl w.heap.size 2 (.int .i64 0) 8 Try.underlying26 info_i64 rfl HH7.out.r.ow rfl rfl rfl hlen2 (by decide) hbase ?_; intro v' w8 ho hgr hle hli))
              have HQ8 := hidd (HH7.out.r.put (xs' := row ++ [(p : Int)]) (by rw [ints_append]; exact ho) hgr hli)
              have b8 := hidd (bel_own HH7.out.r.ow hgr hbase)
              go_roundw
              case rel => exact ⟨x + 1, W', _, _, _, by go_num, by omega, ⟨hi2, h2002⟩, HG1, HBn, hidd (by rw [List.length_append, HRw.out]; rfl), HW, HQ8, hidd (Hb7.out.trans b8.out)⟩
              case measure => first | (simp [intOf]; done) | (simp [intOf]; omega)
            · have hh := HH.out.r.qs.k.has ns HNs2.out
              rw [decide_eq_false hp] at hh
              by_cases h2 : W'.length = 200
              · have HE := hidd (HTe.out.symm.trans (HT.out.symm.trans (Gm.bf_full hlt (by rw [← HS.out]; exact HF.out) (by rw [← HS.out]; exact Gm.bfRow_none (hfull hp h2) g.l (by omega)))))
                have i5 : (W'.length : Int) = 200 := by omega
                clear hseen hnew hfull hp
                go_wp2_with fail
                refine (HKy.out _ ho6.rdI).mono ?_
                rintro e w7 ⟨rfl, hb7⟩
                have HH7 := hidd (HH.out.below hb7)
                have Hb7 := hidd (bel_then Hb6.out hb7)
                clear hb7 HH ho6 Hb6 h2
                go_wp2_with (refine wpList_lookup_own_ok_int _ rfl _ _ _ rfl 9 2 .i64 (Maps.string_keyed Try.underlying9) Try.underlying127 Try.underlying2 (zeroI64 _) b _ _ rfl HH7.out.r.qs.m _ _ rfl hky ?_; intro c hat hwc; clear hat hwc)
                refine bodyPost_ret (results_tmp3 rfl _ _ _) rfl ?_
                exact ⟨⟨_, _, [], [], by rw [HE.out]; rfl, by rw [HE.out]; exact LLr.nil _ _, by rw [HE.out]; exact LLr.nil _ _, .inl rfl⟩, Hb7.out⟩
              · have HBn := hidd (hnew hp h2)
                have Hp := hidd hp
                have i5 : ¬ (W'.length : Int) = 200 := by omega
                clear hseen hnew hfull hp h2
                go_wp2_with fail
                refine (HKy.out _ ho6.rdI).mono ?_
                rintro e w7 ⟨rfl, hb7⟩
                have HH7 := hidd (HH.out.below hb7)
                have Hb7 := hidd (bel_then Hb6.out hb7)
                clear hb7 HH ho6 Hb6
                go_wp2_with (refine wpList_lookup_own_ok_int _ rfl _ _ _ rfl 9 2 .i64 (Maps.string_keyed Try.underlying9) Try.underlying127 Try.underlying2 (zeroI64 _) b _ _ rfl HH7.out.r.qs.m _ _ rfl hky ?_; intro c hat hwc; clear hat hwc)
                refine (HKy.out _ HH7.out.so.rdI).mono ?_
                rintro e w8 ⟨rfl, hb8⟩
                have HH8 := hidd (HH7.out.below hb8)
                have Hb8 := hidd (bel_then Hb7.out hb8)
                clear hb8 HH7 Hb7
                have hwf : (Lit.int .i64 (W'.length : Nat)).wf = true := WalkArith.wf_i64 (by omega)
                have hlen3 : rw'.length + 1 ≤ 1099511627776 := by rw [HH8.out.r.qs.q.len]; omega
                have hlen2 : (ints row).length + 1 ≤ 1099511627776 := by rw [ints_length, HRw.out]; omega
                have hbase := Hb8.out.size
                go_wp2_with (first
                  | (refine wpList_mapUpdate_own _ rfl _ _ _ _ rfl 9 2 (Maps.string_keyed Try.underlying9) Try.underlying127 _ b _ _ rfl HH8.out.r.qs.m (by unfold maxLen; omega) _ _ _ rfl rfl hky _ [] (plainElem_int Try.underlying2 hwf) ?_; intro w9 hm9 hg9; have H9 := hidd (HH8.out.put HNs2.out Hp.out hm9 hg9); have b9 := hidd (Hb8.out.grown hg9 hbase (fun k hk => by cases hk; exact HH8.out.r.qs.mb)); have hbase9 := b9.out.size; clear hm9 hg9)
                  | (at_builtin; refine app_at rfl _ _ _ rfl w.heap.size 26 (.slice none 0 0) 24 Try.underlying27 info_ints rfl H9.out.q.v rfl rfl rfl hlen3 (by decide) hbase9 ?_; intro v' w10 ho hgr hle hli; have b10 := hidd (b9.out.trans (bel_own H9.out.q.v hgr hbase9)); have H10 := hidd (H9.out.push ho hgr hli); have hbase10 := b10.out.size; clear ho hgr hli hle)
                  | (at_builtin; refine app_at rfl _ _ _ rfl w.heap.size 2 (.int .i64 0) 8 Try.underlying26 info_i64 rfl H10.out.ow rfl rfl rfl hlen2 (by decide) hbase10 ?_; intro v'' w11 ho hgr hle hli; have b11 := hidd (b10.out.trans (bel_own H10.out.ow hgr hbase10)); have H11 := hidd (H10.out.put (xs' := row ++ [(W'.length : Int)]) (by rw [ints_append]; exact ho) hgr hli); clear ho hgr hli hle))
                go_roundw
                case rel => exact ⟨x + 1, W' ++ [ns], _, _, _, by go_num, by omega, ⟨by rw [List.length_append]; omega, by rw [List.length_append]; simp only [List.length_cons, List.length_nil]; omega⟩, hidd (by rw [getD_app hi2]; exact HG1.out), HBn, hidd (by rw [List.length_append, HRw.out]; rfl), hidd (HW.out.push HNs.out), H11, b11⟩
                case measure => first | (simp [intOf]; done) | (simp [intOf]; omega)
          · have he : x = g.l := by omega
            subst he
            have HT2 := hidd ((Gm.bf_on hlt (by rw [← HS.out]; exact HF.out) (by rw [← HS.out]; exact HB.out)).symm.trans HT.out)
            have hlen3 : rr.length + 1 ≤ 1099511627776 := by rw [HQ.out.qs.n.len, HRl.out]; omega
            have hbase := Hb.out.size
            obtain ⟨Ar, cr, rfl⟩ := HQ.out.ow.slice
            clear hlx
            go_wp2_with (at_builtin; refine app_at rfl _ _ _ rfl w.heap.size 26 (.slice none 0 0) 24 Try.underlying27 info_ints rfl HQ.out.qs.n.v rfl rfl rfl hlen3 (by decide) hbase ?_; intro v' w8 ho hgr hle hli; have H8 := hidd (HQ.out.done ho hgr hli); have b8 := hidd (Hb.out.trans (bel_own HQ.out.qs.n.v hgr hbase)); clear ho hgr hle hli)
            go_roundw
            case rel => exact ⟨i + 1, W', R ++ [row], _, _, _, by go_num, ⟨by omega, h2002⟩, hidd (by rw [List.length_append, HRl.out]; rfl), HW, hidd (by rw [show 201 - (i + 1) = f by omega]; exact HT2.out), H8, b8⟩
            case measure => first | (simp [intOf]; done) | (simp [intOf]; omega)
    · have he : i = W.length := by omega
      subst he
      obtain ⟨f, hf⟩ : ∃ f, 201 - W.length = f + 1 := ⟨200 - W.length, by omega⟩
      rw [hf] at HT
      have HE := hidd (HTe.out.symm.trans (HT.out.symm.trans (Gm.bf_end hlt)))
      clear hlt hf
      obtain ⟨An, cn, rfl⟩ := HQ.out.n.v.slice
      go_wp2_with fail
      refine bodyPost_ret (results_tmp3 rfl _ _ _) rfl ?_
      exact ⟨⟨_, _, rw, rr, by rw [HE.out]; rfl, by rw [HE.out]; exact HQ.out.q, by rw [HE.out]; exact HQ.out.n, HQ.out.a⟩, Hb.out⟩
end Go.Proofs.Ytcghcbdefajpgaa

/- Walks: whether a word is trivial, of the reference. -/
namespace Go.Proofs.Ytcghcbdefajpgaa
open Go.RowKit
set_option linter.unusedSimpArgs false

/-- Whether a word is trivial, and the code. -/
def Gm.tri (g : Gm) (u : List Int) : Bool × Int := if (g.secs g.still u).2.2 = 5 then (false, 0) else (decide ((g.secs g.still u).2.2 = 0), (g.secs g.still u).2.2)
end Go.Proofs.Ytcghcbdefajpgaa

/- Walks: IsTrivialWord, of the program and of the reference. -/
namespace Go.Proofs.Ytcghcbdefajpgaa
open Go.RowKit
def trwR (m : Mc) (xs : List Int) : Bool × Int := if codeW m [xs] = 0 then m.gm.tri xs else (false, 1)
set_option linter.unusedSimpArgs false
end Go.Proofs.Ytcghcbdefajpgaa
