/- A region that draws its order: a load may be taken first while no operation that waits for it has come up, where the cell is kept till then. -/
import Derived.Test.YtjnnbjlombopnaaOwn
import Derived.OrdersHeld
import Derived.Deep.RegionLaw
namespace Go.Proofs.Ytjnnbjlombopnaa
open Go.RowKit

section
variable {P : Program} {ops : Array Oper} {Q : Exit → Act → World → Prop} {md : Region.Mode} {S : World → Prop} {ks : List Nat}

/-- One of the operations ks has not come up. -/
def Waits (ks : List Nat) (l : Array Bool) : Prop := ∃ k ∈ ks, l.getD k true = false

/-- Whatever order is picked, and S holds behind each operation as long as one of ks has not come up. -/
def wpC (P : Program) (md : Region.Mode) (ops : Array Oper) (Q : Exit → Act → World → Prop) (S : World → Prop) (ks : List Nat) : Nat → Array Bool → Act → World → Prop
  | 0, l, a, w => Region.ready md ops l = [] ∧ Q .normal a w
  | n + 1, l, a, w =>
    (Region.ready md ops l = [] → Q .normal a w) ∧
    ∀ i ∈ Region.ready md ops l, wpOp P ops Q i (fun a' w' => (Waits ks (l.setIfInBounds i true) → S w') ∧ wpC P md ops Q S ks n (l.setIfInBounds i true) a' w') a w

theorem wpAny_of_C : ∀ (n : Nat) (l : Array Bool) (a : Act) (w : World), wpC P md ops Q S ks n l a w → wpAny P md ops Q n l a w
  | 0, _, _, _, h => h
  | n + 1, _, _, _, h => ⟨h.1, fun i hi => wpOp_mono (fun a' w' h' => wpAny_of_C n _ a' w' h'.2) (h.2 i hi)⟩

theorem wpC_of_any : ∀ (n : Nat) (l : Array Bool) (a : Act) (w : World), (∀ k ∈ ks, l.getD k true = true) → wpAny P md ops Q n l a w → wpC P md ops Q S ks n l a w
  | 0, _, _, _, _, h => h
  | n + 1, l, _, _, hk, h => ⟨h.1, fun i hi => wpOp_mono (fun a' w' h' => by
      have hk' : ∀ k ∈ ks, (l.setIfInBounds i true).getD k true = true := fun k hkm => by
        by_cases he : i = k
        · subst he; simp [Array.getD]
        · rw [getD_set_ne true he]; exact hk k hkm
      exact ⟨fun ⟨k, h1, h2⟩ => (by rw [hk' k h1] at h2; cases h2), wpC_of_any n _ a' w' hk' h'⟩) (h.2 i hi)⟩

theorem wpC_first {i k : Nat} {oi ok : Oper} {v : Value} (hi : ops[i]? = some oi) (hsel : ∀ (j : Nat) (o : Oper) cs b, ops[j]? = some o → o.op ≠ .select cs b)
    (hQ : ∀ c a w, Q (.panic c) (a.put oi.dst v) w → Q (.panic c) a w) (hk : k ∈ ks) (hki : k ≠ i) (hok : ops[k]? = some ok) (hon : ∃ e ∈ ok.after, Region.binds md e = true ∧ e.on = i) :
    ∀ (fuel : Nat) (listed : Array Bool) (a : Act) (w : World),
      (∀ j oj, ops[j]? = some oj → j ≠ i → listed.getD j true = false → (∀ e ∈ oj.after, Region.binds md e = true → e.on ≠ i) → oi.apart ops oj = true) →
      i ∈ Region.ready md ops listed → listed.getD k true = false → YieldsIf P ops S oi v a → S w →
      wpC P md ops Q S ks fuel (listed.setIfInBounds i true) (a.put oi.dst v) w → wpC P md ops Q S ks (fuel + 1) listed a w := by
  intro fuel
  induction fuel with
  | zero =>
    intro listed a w _ hr hkl hy hS H
    refine ⟨fun h => (by rw [h] at hr; cases hr), fun j hj => ?_⟩
    by_cases hji : j = i
    · subst hji; exact hy.wpOp hi hS ⟨fun _ => hS, H⟩
    · have := ready_mono hj hji
      rw [H.1] at this
      cases this
  | succ fuel ih =>
    intro listed a w hfree hr hkl hy hS H
    refine ⟨fun h => (by rw [h] at hr; cases hr), fun j hj => ?_⟩
    by_cases hji : j = i
    · subst hji; exact hy.wpOp hi hS ⟨fun _ => hS, H⟩
    · have h1 := H.2 j (ready_mono hj hji)
      obtain ⟨hjun, oj, hoj, hall⟩ := mem_ready.1 hj
      have hnot : ∀ e ∈ oj.after, Region.binds md e = true → e.on ≠ i := fun e he hb heq => by
        have h1 := hall e he hb
        have h0 := (mem_ready.1 hr).1
        rw [heq] at h1
        rcases Nat.lt_or_ge i listed.size with h' | h'
        · simp [h'] at h0 h1; rw [h0] at h1; cases h1
        · simp [Array.getElem?_eq_none h'] at h1
      have hjk : j ≠ k := by
        rintro rfl
        rw [hoj] at hok
        cases hok
        obtain ⟨e, he, hb, hon⟩ := hon
        exact hnot e he hb hon
      have hkl' : (listed.setIfInBounds j true).getD k true = false := by rw [getD_set_ne true hjk]; exact hkl
      have hW : Waits ks ((listed.setIfInBounds i true).setIfInBounds j true) := ⟨k, hk, by rw [getD_set_ne true hjk, getD_set_ne true (Ne.symm hki)]; exact hkl⟩
      have h2 := wpOp_putIf hoj (hfree j oj hoj hji hjun hnot) (fun cs b => hsel i oi cs b hi) (fun cs b => hsel j oj cs b hoj) hQ hy h1
      have hfree' : ∀ k ok, ops[k]? = some ok → k ≠ i → (listed.setIfInBounds j true).getD k true = false →
          (∀ e ∈ ok.after, Region.binds md e = true → e.on ≠ i) → oi.apart ops ok = true := fun k ok hk hki hun hno => by
        refine hfree k ok hk hki ?_ hno
        by_cases hjk : j = k
        · subst hjk; exact hjun
        · rw [getD_set_ne true hjk] at hun; exact hun
      refine wpOp_mono (fun a' w' h3 => ?_) h2
      have hS' := h3.2.1 hW
      refine ⟨fun _ => hS', ih (listed.setIfInBounds j true) a' w' hfree' (ready_mono hr (Ne.symm hji)) hkl' h3.1 hS' ?_⟩
      rw [Array.setIfInBounds_comm _ _ hji]
      exact h3.2.2

/-- Take the load i first; k waits for it. -/
theorem wpC_take {i : Nat} (k : Nat) {oi : Oper} {v : Value} {fuel : Nat} {listed : Array Bool} {a : Act} {w : World} (hi : ops[i]? = some oi)
    (hs : Region.noSelect ops = true) (hf : Region.free md ops listed i = true) (hr : (Region.ready md ops listed).contains i = true) (hkl : (ks.contains k && k != i && !listed.getD k true && ((ops[k]?).map fun o => o.after.any fun e => Region.binds md e && e.on == i).getD false) = true)
    (hQ : ∀ c a w, Q (.panic c) (a.put oi.dst v) w → Q (.panic c) a w) (hy : YieldsIf P ops S oi v a) (hS : S w)
    (h : wpC P md ops Q S ks fuel (listed.setIfInBounds i true) (a.put oi.dst v) w) : wpC P md ops Q S ks (fuel + 1) listed a w := by
  simp only [Bool.and_eq_true, bne_iff_ne, ne_eq, Bool.not_eq_true'] at hkl
  obtain ⟨⟨⟨h1, h2⟩, h3⟩, h4⟩ := hkl
  cases hok : ops[k]? with
  | none => rw [hok] at h4; simp at h4
  | some ok =>
    rw [hok] at h4
    simp only [Option.map_some, Option.getD_some] at h4
    rw [Array.any_eq_true'] at h4
    refine wpC_first (k := k) hi (Region.noSelect_spec hs) hQ (by simpa using h1) h2 hok ?_ fuel listed a w (Region.free_spec hi hf) (by simpa using hr) h3 hy hS h
    simpa using h4

theorem wpC_done {listed : Array Bool} {a : Act} {w : World} (hr : Region.ready md ops listed = []) (h : Q .normal a w) : ∀ fuel, wpC P md ops Q S ks fuel listed a w
  | 0 => ⟨hr, h⟩
  | _ + 1 => ⟨fun _ => h, by rw [hr]; simp⟩

/-- Those that may come up come up: each is a step; behind it S is shown and the rest follows. -/
theorem wpC_one {i : Nat} {o : Oper} {fuel : Nat} {listed : Array Bool} {a : Act} {w : World} (hr : Region.ready md ops listed = [i]) (ho : ops[i]? = some o)
    (h : ∀ K : Act → World → Prop, (∀ a w, S w → wpC P md ops Q S ks fuel (listed.setIfInBounds i true) a w → K a w) → if Region.wanted o (yielded ops a.tmps) = true then Oper.wp P o a w K Q else K (a.put o.dst undef) w) :
    wpC P md ops Q S ks (fuel + 1) listed a w := by
  refine ⟨fun h0 => (by rw [hr] at h0; cases h0), ?_⟩
  rw [hr]
  intro j hj
  rcases List.mem_singleton.1 hj with rfl
  exact wpOp_step ho fun K' hK => h K' fun a w hs hw => hK a w ⟨fun _ => hs, hw⟩
theorem wpC_two {i j : Nat} {o o' : Oper} {fuel : Nat} {listed : Array Bool} {a : Act} {w : World} (hr : Region.ready md ops listed = [i, j]) (ho : ops[i]? = some o) (ho' : ops[j]? = some o')
    (h : ∀ K : Act → World → Prop, (∀ a w, S w → wpC P md ops Q S ks fuel (listed.setIfInBounds i true) a w → K a w) → if Region.wanted o (yielded ops a.tmps) = true then Oper.wp P o a w K Q else K (a.put o.dst undef) w)
    (h' : ∀ K : Act → World → Prop, (∀ a w, S w → wpC P md ops Q S ks fuel (listed.setIfInBounds j true) a w → K a w) → if Region.wanted o' (yielded ops a.tmps) = true then Oper.wp P o' a w K Q else K (a.put o'.dst undef) w) :
    wpC P md ops Q S ks (fuel + 1) listed a w := by
  refine ⟨fun h0 => (by rw [hr] at h0; cases h0), ?_⟩
  rw [hr]
  intro k hk
  rcases List.mem_cons.1 hk with rfl | hk
  · exact wpOp_step ho fun K' hK => h K' fun a w hs hw => hK a w ⟨fun _ => hs, hw⟩
  · rcases List.mem_singleton.1 hk with rfl
    exact wpOp_step ho' fun K' hK => h' K' fun a w hs hw => hK a w ⟨fun _ => hs, hw⟩
end
end Go.Proofs.Ytjnnbjlombopnaa
