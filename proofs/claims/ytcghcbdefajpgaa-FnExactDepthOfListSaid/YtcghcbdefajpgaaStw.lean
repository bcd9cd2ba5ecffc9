/- A step of a region that draws: one wide element appended. -/
import Derived.Test.YtcghcbdefajpgaaWid
namespace Go.Proofs.Ytcghcbdefajpgaa
open Go.RowKit

section
variable {P : Program} {w : World} {ops : Array Oper} {o : Oper} {a : Act} {Q : Exit → Act → World → Prop}
theorem step_wide {K : Act → World → Prop} {E : Prop} (hgd : o.guard = none) (s x : Operand) (t : TypeId) (hop : o.op = .call { callee := .builtin .append, args := #[s, x], argTypes := #[t, t] }) (base : Nat) (e : TypeId) (z : Value) (k bytes : Nat) (h1 : P.underlying t = some (.slice e))
    (hinfo : (P.info? e).map (fun i => (i.zero, i.size, i.bytes)) = some (some z, k, bytes)) (hz : z.cells.size = k) (hk : 0 < k) {v : Value} {es : List (List Value)} {cs : Array Value} {te : TypeId} {p : Nat} (hown : OwnW w base e k v es) (hp : w.heap[p]? = some (.cells cs te (0, 0))) (hs : a.eval s = v) (hx : a.eval x = .slice (some ⟨p, 0, none⟩) 1 1) (hc : cs.size = k) (h1c : ∀ u ∈ cs.toList, u.oneCell' = true)
    (hlen : es.length + 1 ≤ 1073741824) (hby : bytes ≤ 65536) (hbase : base ≤ w.heap.size)
    (hK : ∀ v' w', OwnW w' base e k v' (es ++ [cs.toList]) → w.grownBy w' v.ownBlock → w.heap.size ≤ w'.heap.size → Lies w.heap.size v v' → K (a.put o.dst v') w') :
    if Region.wanted o (yielded ops a.tmps) = true then Oper.wp P o a w K Q else E := by
  cases hi : P.info? e with
  | none => rw [hi] at hinfo; cases hinfo
  | some i =>
  rw [hi] at hinfo
  simp only [Option.map_some, Option.some.injEq, Prod.mk.injEq] at hinfo
  obtain ⟨hz0, hz1, hz2⟩ := hinfo
  have hw : Region.wanted o (yielded ops a.tmps) = true := by simp [Region.wanted, hgd]
  rw [if_pos hw]
  obtain ⟨v', w', hr, h2, h3, h4, h5⟩ := run_append_own_at (P := P) w base t o.type e i z k bytes h1 hi hz0 hz1 hz2 hz hk v es.length es.flatten hown.2 ⟨p, 0, none⟩ 1 1 cs.toList (by simp [hc]) (fun j y hj => by
    have ha : (⟨p, 0, none⟩ : Addr).add j = ⟨p, j, none⟩ := by unfold Addr.add; split <;> simp_all
    rw [ha, blkc hp]
    simpa using hj) h1c (by unfold maxLen; omega) (by
    have : (es.length + 1) * bytes ≤ 1073741824 * 65536 := Nat.mul_le_mul hlen hby
    omega) hbase
  unfold Oper.wp execOp
  simp only [hop, resolve, invoke, builtin, Sem.run_bind, Sem.run_pure, Result.andThen_ok, List.map_toArray, List.map_cons, List.map_nil, hs, hx, hr]
  refine hK v' w' ⟨fun c hcm => ?_, ?_⟩ h3 h3.size ?_
  · rcases List.mem_append.1 hcm with h | h
    · exact hown.1 c h
    · rw [List.mem_singleton.1 h]; simp [hc]
  · rw [List.length_append, List.flatten_append]
    simpa using h2
  · rcases h5 with h | h
    · exact .inl h
    · exact .inr ⟨_, h, Nat.le_refl _⟩
end
end Go.Proofs.Ytcghcbdefajpgaa
