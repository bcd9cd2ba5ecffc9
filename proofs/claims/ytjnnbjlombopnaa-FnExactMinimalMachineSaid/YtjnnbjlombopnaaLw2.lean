/- Words of the laws' walks: what stays where a slice is marked. -/
import Derived.Test.YtjnnbjlombopnaaLaw
namespace Go.Proofs.Ytjnnbjlombopnaa
open Go.RowKit
theorem hp_mark' {wa wb wc : World} {base base' : Nat} {e e' : TypeId} {v : Value} {vs vs' : List Value} {k : Nat} {x : Obj} (h : wa.heap[k]? = some x) (ho : Own wa base e v vs) (hc : Own wc base' e' v vs') (hg : wa.grownBy wb v.ownBlock) (hk : k < base ∨ wc.heap.size ≤ k) : wb.heap[k]? = some x :=
  (hg.block k (hp_lt h) (fun hh => by
    have h1 := (ho.block k hh.symm).1
    have h2 := (hc.block k hh.symm).2
    omega)).trans h
end Go.Proofs.Ytjnnbjlombopnaa
