/- Walks: the images of a permutation, of the reference. -/
import Derived.Test.YtecdjmfohcnadaaPw
namespace Go.Proofs.Ytecdjmfohcnadaa
open Go.RowKit

theorem results_cell1 {P : Program} {fn : Func} {p : Tmp} {ty : TypeId} (h : fn.results = #[.cell p ty]) {tmps : Array Value} {w : World} {g : Nat} {t : TypeId} {cs : Array Value} {fr : Nat × Nat} {d : TypeDesc}
    (hp : tmps.getD p undef = .pointer (some ⟨g, 0, none⟩)) (hg : w.heap[g]? = some (.cells cs t fr)) (hu : P.underlying ty = some d) (hd : (match d with | .struct _ | .array _ _ => true | _ => false) = true) (hi : (P.info? ty).map (·.size) = some cs.size) :
    (results fn tmps).run P w = .ok (.agg cs) w := by
  have hp' : tmps[p]?.getD undef = .pointer (some ⟨g, 0, none⟩) := by simpa using hp
  simp [results, h, hp', asAddr, run_loadVar_row w g t ty cs fr d hg hu hd hi]
/-- The images, as the reference's array says. -/
def imA (d n : Nat) : Array Value := #[.int .u8 (pim d n 0 : Nat), .int .u8 (pim d n 1 : Nat), .int .u8 (pim d n 2 : Nat)]
def p18 : Array Value := #[.int .u8 0, .int .u8 1, .int .u8 2, .int .u8 0, .int .u8 2, .int .u8 1, .int .u8 1, .int .u8 0, .int .u8 2, .int .u8 1, .int .u8 2, .int .u8 0, .int .u8 2, .int .u8 0, .int .u8 1, .int .u8 2, .int .u8 1, .int .u8 0]
theorem p18_at : ∀ n, n < 6 → p18.extract (n * 3) (n * 3 + 3) = imA 3 n
  | 0, _ => rfl
  | 1, _ => rfl
  | 2, _ => rfl
  | 3, _ => rfl
  | 4, _ => rfl
  | 5, _ => rfl
  | n + 6, h => by omega
theorem ldP {ops : Array Oper} {rest : List Oper} {o : Oper} {a : Act} {w : World} {Q : Exit → Act → World → Prop} (hgd : o.guard = none) (x : Operand) (ho : o.op = .load 46 x) (g n : Nat) (hn : n < 6) (hx : a.eval x = .pointer (some ⟨g, n * 3, none⟩)) {t : TypeId} {fr : Nat × Nat}
    (hg : w.heap[g]? = some (.cells p18 t fr)) (h : wpList Try.prog ops Q rest (a.put o.dst (.agg (imA 3 n))) w) : wpList Try.prog ops Q (o :: rest) a w := by
  refine wpList_load_at hgd 46 x ho g (n * 3) 3 hx t p18 fr _ hg Try.underlying46 rfl (by kernel_rfl) (by show n * 3 + 3 ≤ 18; omega) ?_
  rw [p18_at n hn]
  exact h
theorem stP {ops : Array Oper} {rest : List Oper} {o : Oper} {a : Act} {w : World} {Q : Exit → Act → World → Prop} (hgd : o.guard = none) (x y : Operand) (ho : o.op = .store 46 x y) (g : Nat) {old vs : Array Value} {t : TypeId} (hx : a.eval x = .pointer (some ⟨g, 0, none⟩)) (hy : a.eval y = .agg vs)
    (hg : w.heap[g]? = some (.cells old t (0, 0))) (h3 : old.size = 3) (hv : vs.size = 3) (h1 : ∀ v ∈ vs.toList, v.oneCell' = true) (h : wpList Try.prog ops Q rest (a.put o.dst undef) (w.setRow g vs)) : wpList Try.prog ops Q (o :: rest) a w := by
  refine wpList_store_at hgd 46 x y ho g 0 3 vs hx hy t old hg (by kernel_rfl) hv (by omega) h1 ?_
  have e : splice old 0 vs = vs := by
    apply Array.ext_getElem?
    intro j
    rw [splice_get _ _ _ (by omega)]
    by_cases hj : j < 3
    · rw [if_pos (by omega), Nat.sub_zero]
    · rw [if_neg (by omega), Array.getElem?_eq_none (by omega), Array.getElem?_eq_none (by omega)]
  rw [e]
  exact h
theorem hp_setRow {w : World} {g : Nat} {t : TypeId} {old cs : Array Value} (h : w.heap[g]? = some (.cells old t (0, 0))) : (w.setRow g cs).heap[g]? = some (.cells cs t (0, 0)) := setRow_heap w g old cs t (0, 0) h
set_option maxRecDepth 100000 in
set_option maxHeartbeats 1000000 in
theorem l03Images_any (d n : Nat) (hd : Dd d) (hn : n < pcn d) (w : World) : Calls Try.prog 68 #[.int .i64 (d : Nat), .int .i64 (n : Nat)] w fun e w' => e = .returned (.agg (imA d n)) ∧ Below w.heap.size w w' := by
  rcases hd with rfl | rfl
  · have h : n = 0 ∨ n = 1 := by have : pcn 2 = 2 := rfl; omega
    rcases h with rfl | rfl
    · go_enter Try.func68, Try.ntmps68
      go_wp2_with fail
      refine bodyPost_ret (results_cell1 rfl (by rfl) (hp_new rfl) Try.underlying46 rfl (by kernel_rfl)) rfl ?_
      exact ⟨rfl, bel_alloc' _ _⟩
    · go_enter Try.func68, Try.ntmps68
      go_wp2_with fail
      refine bodyPost_ret (results_cell1 rfl (by rfl) (hp_new rfl) Try.underlying46 rfl (by kernel_rfl)) rfl ?_
      exact ⟨rfl, bel_alloc' _ _⟩
  · have h : n < 6 := hn
    have i1 : (n : Int) < 6 := by omega
    clear hn
    go_enter Try.func68, Try.ntmps68
    go_wp2_with (first | (refine ldP rfl (.tmp 20) rfl (w.heap.size + 1) n h rfl (hp_new (by simp)) ?_) | (refine stP rfl (.tmp 4) (.tmp 21) rfl w.heap.size rfl rfl (hp_old (hp_new rfl)) rfl rfl (by intro v hv; simp [imA] at hv; rcases hv with rfl | rfl | rfl <;> rfl) ?_))
    refine bodyPost_ret (results_cell1 rfl (by rfl) (hp_setRow (hp_old (hp_new rfl))) Try.underlying46 rfl (by kernel_rfl)) rfl ?_
    exact ⟨rfl, bel_row ((bel_alloc' _ _).alloc (by simp) _) (Nat.le_refl _) _⟩
end Go.Proofs.Ytecdjmfohcnadaa
