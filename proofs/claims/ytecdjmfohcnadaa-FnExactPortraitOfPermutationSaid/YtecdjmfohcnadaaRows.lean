/-
  No cell of these rows narrows 'for every input' (looked for: loops, veiled, ifaces, maps, wideKeys, modest, calm, conditions, laid).
  DERIVED. THE GIVEN ROWS OF THIS SEAT. 9 by the template 'for every input the law returns true; each argument reads behind the call as it read before'; 0 by the template 'total and deterministic' (their statements: YtecdjmfohcnadaaTotals.lean).
  GIVEN WITH THE SEED: the statements are not yours to turn. If you find one false, say at which input.
  Laid BY PROGRAM, IN A SANDBOX (cutbox-rows.mjs): the forced cells as the released guide's own fill.sh prints them over the translation 511405fe3fd73c81… (all of the seat's roots in one cut). By AI agents, Wed Nov 11 2026. No macro, syntax, notation, axiom, sorry.
-/
import Derived.Test.YtecdjmfohcnadaaChecked
import GoSem.Claim
import GoSem.ClaimJoined
import GoSem.ClaimMapViews
import Derived.JoinedTies
import Derived.KernelRfl
namespace Go.Proofs.Ytecdjmfohcnadaa
/- THE CELL 'sum', in the pinned program and in every row, IS THE sha256 OF THE DUMP (.gsa) THAT YtecdjmfohcnadaaProg.lean LOADS. Nothing in Lean hashes anything: it is a label: what it is worth is what the hold of that sum in a sandbox is worth. -/
noncomputable def Try.pinned : Pinned := { name := "ytecdjmfohcnadaa", sum := "511405fe3fd73c81190d0cb48b5692b015578fc1911ccdf8c0d9bab2b1e2bc66", checked := Try.checked }
namespace Rows
def none {H : Type} : Left H := { results := [], args := [] }

/-- 'laws.FnExactIsPortrait': WHATEVER THE INPUT: true; the input reads as it did. -/
def fnExactIsPortraitSpec : ChangeSpec := { name := "fnExactIsPortrait", fn := fun _ => fun
  | [d1, d2, d3] => { results := [.lit (.bool true)], args := [d1, d2, d3] }
  | _ => none }
def fnExactIsPortraitRow : OpenClaim := { program := "ytecdjmfohcnadaa", sum := "511405fe3fd73c81190d0cb48b5692b015578fc1911ccdf8c0d9bab2b1e2bc66", func := "loop.example/g01244/laws.FnExactIsPortrait", spec := "fnExactIsPortrait", unfollowed := true, recurses := true, apart := false }
def FnExactIsPortraitSaid : Prop := fnExactIsPortraitRow.holds Try.pinned (OpenSpec.ofChange fnExactIsPortraitSpec)

/-- ITS FALSE NEIGHBOUR: 'it returns false'. Refute it at one input. -/
def fnExactIsPortraitWrong : ChangeSpec := { name := "fnExactIsPortrait", fn := fun _ => fun
  | [d1, d2, d3] => { results := [.lit (.bool false)], args := [d1, d2, d3] }
  | _ => none }
def FnExactIsPortraitWrongFalsely : Prop := fnExactIsPortraitRow.holds Try.pinned (OpenSpec.ofChange fnExactIsPortraitWrong)

/-- 'laws.FnExactPermutationNumber': WHATEVER THE INPUT: true; the input reads as it did. -/
def fnExactPermutationNumberSpec : ChangeSpec := { name := "fnExactPermutationNumber", fn := fun _ => fun
  | [d] => { results := [.lit (.bool true)], args := [d] }
  | _ => none }
def fnExactPermutationNumberRow : OpenClaim := { program := "ytecdjmfohcnadaa", sum := "511405fe3fd73c81190d0cb48b5692b015578fc1911ccdf8c0d9bab2b1e2bc66", func := "loop.example/g01244/laws.FnExactPermutationNumber", spec := "fnExactPermutationNumber", unfollowed := true, recurses := true, apart := false }
def FnExactPermutationNumberSaid : Prop := fnExactPermutationNumberRow.holds Try.pinned (OpenSpec.ofChange fnExactPermutationNumberSpec)

/-- ITS FALSE NEIGHBOUR: 'it returns false'. Refute it at one input. -/
def fnExactPermutationNumberWrong : ChangeSpec := { name := "fnExactPermutationNumber", fn := fun _ => fun
  | [d] => { results := [.lit (.bool false)], args := [d] }
  | _ => none }
def FnExactPermutationNumberWrongFalsely : Prop := fnExactPermutationNumberRow.holds Try.pinned (OpenSpec.ofChange fnExactPermutationNumberWrong)

/-- 'laws.FnExactSignsOf': WHATEVER THE INPUT: true; the input reads as it did. -/
def fnExactSignsOfSpec : ChangeSpec := { name := "fnExactSignsOf", fn := fun _ => fun
  | [d1, d2, d3] => { results := [.lit (.bool true)], args := [d1, d2, d3] }
  | _ => none }
def fnExactSignsOfRow : OpenClaim := { program := "ytecdjmfohcnadaa", sum := "511405fe3fd73c81190d0cb48b5692b015578fc1911ccdf8c0d9bab2b1e2bc66", func := "loop.example/g01244/laws.FnExactSignsOf", spec := "fnExactSignsOf", unfollowed := true, recurses := true, apart := false }
def FnExactSignsOfSaid : Prop := fnExactSignsOfRow.holds Try.pinned (OpenSpec.ofChange fnExactSignsOfSpec)

/-- ITS FALSE NEIGHBOUR: 'it returns false'. Refute it at one input. -/
def fnExactSignsOfWrong : ChangeSpec := { name := "fnExactSignsOf", fn := fun _ => fun
  | [d1, d2, d3] => { results := [.lit (.bool false)], args := [d1, d2, d3] }
  | _ => none }
def FnExactSignsOfWrongFalsely : Prop := fnExactSignsOfRow.holds Try.pinned (OpenSpec.ofChange fnExactSignsOfWrong)

/-- 'laws.FnExactActPortrait': WHATEVER THE INPUT: true; the input reads as it did. -/
def fnExactActPortraitSpec : ChangeSpec := { name := "fnExactActPortrait", fn := fun _ => fun
  | [d1, d2, d3, d4] => { results := [.lit (.bool true)], args := [d1, d2, d3, d4] }
  | _ => none }
def fnExactActPortraitRow : OpenClaim := { program := "ytecdjmfohcnadaa", sum := "511405fe3fd73c81190d0cb48b5692b015578fc1911ccdf8c0d9bab2b1e2bc66", func := "loop.example/g01244/laws.FnExactActPortrait", spec := "fnExactActPortrait", unfollowed := true, recurses := true, apart := false }
def FnExactActPortraitSaid : Prop := fnExactActPortraitRow.holds Try.pinned (OpenSpec.ofChange fnExactActPortraitSpec)

/-- ITS FALSE NEIGHBOUR: 'it returns false'. Refute it at one input. -/
def fnExactActPortraitWrong : ChangeSpec := { name := "fnExactActPortrait", fn := fun _ => fun
  | [d1, d2, d3, d4] => { results := [.lit (.bool false)], args := [d1, d2, d3, d4] }
  | _ => none }
def FnExactActPortraitWrongFalsely : Prop := fnExactActPortraitRow.holds Try.pinned (OpenSpec.ofChange fnExactActPortraitWrong)

/-- 'laws.FnExactPermutationOfPortrait': WHATEVER THE INPUT: true; the input reads as it did. -/
def fnExactPermutationOfPortraitSpec : ChangeSpec := { name := "fnExactPermutationOfPortrait", fn := fun _ => fun
  | [d1, d2, d3] => { results := [.lit (.bool true)], args := [d1, d2, d3] }
  | _ => none }
def fnExactPermutationOfPortraitRow : OpenClaim := { program := "ytecdjmfohcnadaa", sum := "511405fe3fd73c81190d0cb48b5692b015578fc1911ccdf8c0d9bab2b1e2bc66", func := "loop.example/g01244/laws.FnExactPermutationOfPortrait", spec := "fnExactPermutationOfPortrait", unfollowed := true, recurses := true, apart := false }
def FnExactPermutationOfPortraitSaid : Prop := fnExactPermutationOfPortraitRow.holds Try.pinned (OpenSpec.ofChange fnExactPermutationOfPortraitSpec)

/-- ITS FALSE NEIGHBOUR: 'it returns false'. Refute it at one input. -/
def fnExactPermutationOfPortraitWrong : ChangeSpec := { name := "fnExactPermutationOfPortrait", fn := fun _ => fun
  | [d1, d2, d3] => { results := [.lit (.bool false)], args := [d1, d2, d3] }
  | _ => none }
def FnExactPermutationOfPortraitWrongFalsely : Prop := fnExactPermutationOfPortraitRow.holds Try.pinned (OpenSpec.ofChange fnExactPermutationOfPortraitWrong)

/-- 'laws.FnExactPortraitOfPermutation': WHATEVER THE INPUT: true; the input reads as it did. -/
def fnExactPortraitOfPermutationSpec : ChangeSpec := { name := "fnExactPortraitOfPermutation", fn := fun _ => fun
  | [d1, d2, d3] => { results := [.lit (.bool true)], args := [d1, d2, d3] }
  | _ => none }
def fnExactPortraitOfPermutationRow : OpenClaim := { program := "ytecdjmfohcnadaa", sum := "511405fe3fd73c81190d0cb48b5692b015578fc1911ccdf8c0d9bab2b1e2bc66", func := "loop.example/g01244/laws.FnExactPortraitOfPermutation", spec := "fnExactPortraitOfPermutation", unfollowed := true, recurses := true, apart := false }
def FnExactPortraitOfPermutationSaid : Prop := fnExactPortraitOfPermutationRow.holds Try.pinned (OpenSpec.ofChange fnExactPortraitOfPermutationSpec)

/-- ITS FALSE NEIGHBOUR: 'it returns false'. Refute it at one input. -/
def fnExactPortraitOfPermutationWrong : ChangeSpec := { name := "fnExactPortraitOfPermutation", fn := fun _ => fun
  | [d1, d2, d3] => { results := [.lit (.bool false)], args := [d1, d2, d3] }
  | _ => none }
def FnExactPortraitOfPermutationWrongFalsely : Prop := fnExactPortraitOfPermutationRow.holds Try.pinned (OpenSpec.ofChange fnExactPortraitOfPermutationWrong)

/-- 'laws.FnExactMultiplyPortraits': WHATEVER THE INPUT: true; the input reads as it did. -/
def fnExactMultiplyPortraitsSpec : ChangeSpec := { name := "fnExactMultiplyPortraits", fn := fun _ => fun
  | [d1, d2, d3, d4] => { results := [.lit (.bool true)], args := [d1, d2, d3, d4] }
  | _ => none }
def fnExactMultiplyPortraitsRow : OpenClaim := { program := "ytecdjmfohcnadaa", sum := "511405fe3fd73c81190d0cb48b5692b015578fc1911ccdf8c0d9bab2b1e2bc66", func := "loop.example/g01244/laws.FnExactMultiplyPortraits", spec := "fnExactMultiplyPortraits", unfollowed := true, recurses := true, apart := false }
def FnExactMultiplyPortraitsSaid : Prop := fnExactMultiplyPortraitsRow.holds Try.pinned (OpenSpec.ofChange fnExactMultiplyPortraitsSpec)

/-- ITS FALSE NEIGHBOUR: 'it returns false'. Refute it at one input. -/
def fnExactMultiplyPortraitsWrong : ChangeSpec := { name := "fnExactMultiplyPortraits", fn := fun _ => fun
  | [d1, d2, d3, d4] => { results := [.lit (.bool false)], args := [d1, d2, d3, d4] }
  | _ => none }
def FnExactMultiplyPortraitsWrongFalsely : Prop := fnExactMultiplyPortraitsRow.holds Try.pinned (OpenSpec.ofChange fnExactMultiplyPortraitsWrong)

/-- 'laws.FnExactInvertPortrait': WHATEVER THE INPUT: true; the input reads as it did. -/
def fnExactInvertPortraitSpec : ChangeSpec := { name := "fnExactInvertPortrait", fn := fun _ => fun
  | [d1, d2, d3] => { results := [.lit (.bool true)], args := [d1, d2, d3] }
  | _ => none }
def fnExactInvertPortraitRow : OpenClaim := { program := "ytecdjmfohcnadaa", sum := "511405fe3fd73c81190d0cb48b5692b015578fc1911ccdf8c0d9bab2b1e2bc66", func := "loop.example/g01244/laws.FnExactInvertPortrait", spec := "fnExactInvertPortrait", unfollowed := true, recurses := true, apart := false }
def FnExactInvertPortraitSaid : Prop := fnExactInvertPortraitRow.holds Try.pinned (OpenSpec.ofChange fnExactInvertPortraitSpec)

/-- ITS FALSE NEIGHBOUR: 'it returns false'. Refute it at one input. -/
def fnExactInvertPortraitWrong : ChangeSpec := { name := "fnExactInvertPortrait", fn := fun _ => fun
  | [d1, d2, d3] => { results := [.lit (.bool false)], args := [d1, d2, d3] }
  | _ => none }
def FnExactInvertPortraitWrongFalsely : Prop := fnExactInvertPortraitRow.holds Try.pinned (OpenSpec.ofChange fnExactInvertPortraitWrong)

/-- 'laws.FnExactIsOneCycle': WHATEVER THE INPUT: true; the input reads as it did. -/
def fnExactIsOneCycleSpec : ChangeSpec := { name := "fnExactIsOneCycle", fn := fun _ => fun
  | [d1, d2, d3] => { results := [.lit (.bool true)], args := [d1, d2, d3] }
  | _ => none }
def fnExactIsOneCycleRow : OpenClaim := { program := "ytecdjmfohcnadaa", sum := "511405fe3fd73c81190d0cb48b5692b015578fc1911ccdf8c0d9bab2b1e2bc66", func := "loop.example/g01244/laws.FnExactIsOneCycle", spec := "fnExactIsOneCycle", unfollowed := true, recurses := true, apart := false }
def FnExactIsOneCycleSaid : Prop := fnExactIsOneCycleRow.holds Try.pinned (OpenSpec.ofChange fnExactIsOneCycleSpec)

/-- ITS FALSE NEIGHBOUR: 'it returns false'. Refute it at one input. -/
def fnExactIsOneCycleWrong : ChangeSpec := { name := "fnExactIsOneCycle", fn := fun _ => fun
  | [d1, d2, d3] => { results := [.lit (.bool false)], args := [d1, d2, d3] }
  | _ => none }
def FnExactIsOneCycleWrongFalsely : Prop := fnExactIsOneCycleRow.holds Try.pinned (OpenSpec.ofChange fnExactIsOneCycleWrong)

/- THE SECOND FORM. 'bulk': how many values and letters a reading holds, each counted each time it is reached (what is shared counts as often as it is met; a slice's spare places count too). A statement '..UptoSaid' is the law's where the arguments, and the package variables that the reading takes, are together of bulk at most 1048576: NARROWER than '..Said'. Prove '..Said' where nothing that the law and all that it calls make is longer than what came in: it says more and counts as full. Else prove '..UptoSaid'. A law counts once. -/
mutual
def uptoBulk {H : Type} : DataW H → Nat
  | .lit (.string bytes) => bytes.length + 1
  | .lit _ => 1
  | .nil => 1
  | .ptr d => uptoBulk d + 1
  | .slice elems spare => uptoBulkAll elems + uptoBulkAll spare + 1
  | .agg parts => uptoBulkAll parts + 1
  | .iface _ d => uptoBulk d + 1
  | .map entries => uptoBulkEntries entries + 1
  | .held _ => 1
def uptoBulkAll {H : Type} : List (DataW H) → Nat
  | [] => 0
  | d :: r => uptoBulk d + uptoBulkAll r
def uptoBulkEntries {H : Type} : List (Lit × DataW H) → Nat
  | [] => 0
  | x :: r => uptoBulkEntry x + uptoBulkEntries r
def uptoBulkEntry {H : Type} : Lit × DataW H → Nat
  | (.string bytes, d) => bytes.length + uptoBulk d + 1
  | (_, d) => uptoBulk d + 1
 end
def uptoSmall : (H : Type) → List (DataW H) → Bool := fun _ ds => decide (uptoBulkAll ds ≤ 1048576)
def OpenSpec.upto (s : _root_.Go.ChangeSpec) : _root_.Go.OpenSpec := { _root_.Go.OpenSpec.ofChange s with cond := some uptoSmall }

/-- 'laws.FnExactIsPortrait', WHERE WHAT IT READS IS OF BULK AT MOST 1048576: true; the input reads as it did. -/
def fnExactIsPortraitUptoRow : OpenClaim := { program := "ytecdjmfohcnadaa", sum := "511405fe3fd73c81190d0cb48b5692b015578fc1911ccdf8c0d9bab2b1e2bc66", func := "loop.example/g01244/laws.FnExactIsPortrait", spec := "fnExactIsPortrait", unfollowed := true, recurses := true, apart := false, narrowed := true }
def FnExactIsPortraitUptoSaid : Prop := fnExactIsPortraitUptoRow.holds Try.pinned (OpenSpec.upto fnExactIsPortraitSpec)

/-- 'laws.FnExactPermutationNumber', WHERE WHAT IT READS IS OF BULK AT MOST 1048576: true; the input reads as it did. -/
def fnExactPermutationNumberUptoRow : OpenClaim := { program := "ytecdjmfohcnadaa", sum := "511405fe3fd73c81190d0cb48b5692b015578fc1911ccdf8c0d9bab2b1e2bc66", func := "loop.example/g01244/laws.FnExactPermutationNumber", spec := "fnExactPermutationNumber", unfollowed := true, recurses := true, apart := false, narrowed := true }
def FnExactPermutationNumberUptoSaid : Prop := fnExactPermutationNumberUptoRow.holds Try.pinned (OpenSpec.upto fnExactPermutationNumberSpec)

/-- 'laws.FnExactSignsOf', WHERE WHAT IT READS IS OF BULK AT MOST 1048576: true; the input reads as it did. -/
def fnExactSignsOfUptoRow : OpenClaim := { program := "ytecdjmfohcnadaa", sum := "511405fe3fd73c81190d0cb48b5692b015578fc1911ccdf8c0d9bab2b1e2bc66", func := "loop.example/g01244/laws.FnExactSignsOf", spec := "fnExactSignsOf", unfollowed := true, recurses := true, apart := false, narrowed := true }
def FnExactSignsOfUptoSaid : Prop := fnExactSignsOfUptoRow.holds Try.pinned (OpenSpec.upto fnExactSignsOfSpec)

/-- 'laws.FnExactActPortrait', WHERE WHAT IT READS IS OF BULK AT MOST 1048576: true; the input reads as it did. -/
def fnExactActPortraitUptoRow : OpenClaim := { program := "ytecdjmfohcnadaa", sum := "511405fe3fd73c81190d0cb48b5692b015578fc1911ccdf8c0d9bab2b1e2bc66", func := "loop.example/g01244/laws.FnExactActPortrait", spec := "fnExactActPortrait", unfollowed := true, recurses := true, apart := false, narrowed := true }
def FnExactActPortraitUptoSaid : Prop := fnExactActPortraitUptoRow.holds Try.pinned (OpenSpec.upto fnExactActPortraitSpec)

/-- 'laws.FnExactPermutationOfPortrait', WHERE WHAT IT READS IS OF BULK AT MOST 1048576: true; the input reads as it did. -/
def fnExactPermutationOfPortraitUptoRow : OpenClaim := { program := "ytecdjmfohcnadaa", sum := "511405fe3fd73c81190d0cb48b5692b015578fc1911ccdf8c0d9bab2b1e2bc66", func := "loop.example/g01244/laws.FnExactPermutationOfPortrait", spec := "fnExactPermutationOfPortrait", unfollowed := true, recurses := true, apart := false, narrowed := true }
def FnExactPermutationOfPortraitUptoSaid : Prop := fnExactPermutationOfPortraitUptoRow.holds Try.pinned (OpenSpec.upto fnExactPermutationOfPortraitSpec)

/-- 'laws.FnExactPortraitOfPermutation', WHERE WHAT IT READS IS OF BULK AT MOST 1048576: true; the input reads as it did. -/
def fnExactPortraitOfPermutationUptoRow : OpenClaim := { program := "ytecdjmfohcnadaa", sum := "511405fe3fd73c81190d0cb48b5692b015578fc1911ccdf8c0d9bab2b1e2bc66", func := "loop.example/g01244/laws.FnExactPortraitOfPermutation", spec := "fnExactPortraitOfPermutation", unfollowed := true, recurses := true, apart := false, narrowed := true }
def FnExactPortraitOfPermutationUptoSaid : Prop := fnExactPortraitOfPermutationUptoRow.holds Try.pinned (OpenSpec.upto fnExactPortraitOfPermutationSpec)

/-- 'laws.FnExactMultiplyPortraits', WHERE WHAT IT READS IS OF BULK AT MOST 1048576: true; the input reads as it did. -/
def fnExactMultiplyPortraitsUptoRow : OpenClaim := { program := "ytecdjmfohcnadaa", sum := "511405fe3fd73c81190d0cb48b5692b015578fc1911ccdf8c0d9bab2b1e2bc66", func := "loop.example/g01244/laws.FnExactMultiplyPortraits", spec := "fnExactMultiplyPortraits", unfollowed := true, recurses := true, apart := false, narrowed := true }
def FnExactMultiplyPortraitsUptoSaid : Prop := fnExactMultiplyPortraitsUptoRow.holds Try.pinned (OpenSpec.upto fnExactMultiplyPortraitsSpec)

/-- 'laws.FnExactInvertPortrait', WHERE WHAT IT READS IS OF BULK AT MOST 1048576: true; the input reads as it did. -/
def fnExactInvertPortraitUptoRow : OpenClaim := { program := "ytecdjmfohcnadaa", sum := "511405fe3fd73c81190d0cb48b5692b015578fc1911ccdf8c0d9bab2b1e2bc66", func := "loop.example/g01244/laws.FnExactInvertPortrait", spec := "fnExactInvertPortrait", unfollowed := true, recurses := true, apart := false, narrowed := true }
def FnExactInvertPortraitUptoSaid : Prop := fnExactInvertPortraitUptoRow.holds Try.pinned (OpenSpec.upto fnExactInvertPortraitSpec)

/-- 'laws.FnExactIsOneCycle', WHERE WHAT IT READS IS OF BULK AT MOST 1048576: true; the input reads as it did. -/
def fnExactIsOneCycleUptoRow : OpenClaim := { program := "ytecdjmfohcnadaa", sum := "511405fe3fd73c81190d0cb48b5692b015578fc1911ccdf8c0d9bab2b1e2bc66", func := "loop.example/g01244/laws.FnExactIsOneCycle", spec := "fnExactIsOneCycle", unfollowed := true, recurses := true, apart := false, narrowed := true }
def FnExactIsOneCycleUptoSaid : Prop := fnExactIsOneCycleUptoRow.holds Try.pinned (OpenSpec.upto fnExactIsOneCycleSpec)

end Rows
end Go.Proofs.Ytecdjmfohcnadaa
