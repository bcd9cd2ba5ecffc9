/-
  No cell of these rows narrows 'for every input' (looked for: loops, veiled, ifaces, maps, wideKeys, modest, calm, conditions, laid).
  DERIVED. THE GIVEN ROWS OF THIS SEAT. 6 by the template 'for every input the law returns true; each argument reads behind the call as it read before'; 0 by the template 'total and deterministic' (their statements: YtlkigmklcfnlbaaTotals.lean).
  GIVEN WITH THE SEED: the statements are not yours to turn. If you find one false, say at which input.
  Laid BY PROGRAM, IN A SANDBOX (cutbox-rows.mjs): the forced cells as the released guide's own fill.sh prints them over the translation 6e289c047b1761a6… (all of the seat's roots in one cut). By AI agents, Wed Nov 11 2026. No macro, syntax, notation, axiom, sorry.
-/
import Derived.Test.YtlkigmklcfnlbaaChecked
import GoSem.Claim
import GoSem.ClaimJoined
import GoSem.ClaimMapViews
import Derived.JoinedTies
import Derived.KernelRfl
namespace Go.Proofs.Ytlkigmklcfnlbaa
/- THE CELL 'sum', in the pinned program and in every row, IS THE sha256 OF THE DUMP (.gsa) THAT YtlkigmklcfnlbaaProg.lean LOADS. Nothing in Lean hashes anything: it is a label: what it is worth is what the hold of that sum in a sandbox is worth. -/
noncomputable def Try.pinned : Pinned := { name := "ytlkigmklcfnlbaa", sum := "6e289c047b1761a631e424c8c5f9b6766a1fd02aa3e32e959d75b3ed0a061a59", checked := Try.checked }
namespace Rows
def none {H : Type} : Left H := { results := [], args := [] }

/-- 'laws.FnExactConstants': WHATEVER THE INPUT: true; the input reads as it did. -/
def fnExactConstantsSpec : ChangeSpec := { name := "fnExactConstants", fn := fun _ => fun
  | [] => { results := [.lit (.bool true)], args := [] }
  | _ => none }
def fnExactConstantsRow : OpenClaim := { program := "ytlkigmklcfnlbaa", sum := "6e289c047b1761a631e424c8c5f9b6766a1fd02aa3e32e959d75b3ed0a061a59", func := "loop.example/g01244/laws.FnExactConstants", spec := "fnExactConstants", apart := false }
def FnExactConstantsSaid : Prop := fnExactConstantsRow.holds Try.pinned (OpenSpec.ofChange fnExactConstantsSpec)

/-- ITS FALSE NEIGHBOUR: 'it returns false'. Refute it at one input. -/
def fnExactConstantsWrong : ChangeSpec := { name := "fnExactConstants", fn := fun _ => fun
  | [] => { results := [.lit (.bool false)], args := [] }
  | _ => none }
def FnExactConstantsWrongFalsely : Prop := fnExactConstantsRow.holds Try.pinned (OpenSpec.ofChange fnExactConstantsWrong)

/-- 'laws.FnExactWordOfNumber': WHATEVER THE INPUT: true; the input reads as it did. -/
def fnExactWordOfNumberSpec : ChangeSpec := { name := "fnExactWordOfNumber", fn := fun _ => fun
  | [d1, d2, d3] => { results := [.lit (.bool true)], args := [d1, d2, d3] }
  | _ => none }
def fnExactWordOfNumberRow : OpenClaim := { program := "ytlkigmklcfnlbaa", sum := "6e289c047b1761a631e424c8c5f9b6766a1fd02aa3e32e959d75b3ed0a061a59", func := "loop.example/g01244/laws.FnExactWordOfNumber", spec := "fnExactWordOfNumber", recurses := true, apart := false }
def FnExactWordOfNumberSaid : Prop := fnExactWordOfNumberRow.holds Try.pinned (OpenSpec.ofChange fnExactWordOfNumberSpec)

/-- ITS FALSE NEIGHBOUR: 'it returns false'. Refute it at one input. -/
def fnExactWordOfNumberWrong : ChangeSpec := { name := "fnExactWordOfNumber", fn := fun _ => fun
  | [d1, d2, d3] => { results := [.lit (.bool false)], args := [d1, d2, d3] }
  | _ => none }
def FnExactWordOfNumberWrongFalsely : Prop := fnExactWordOfNumberRow.holds Try.pinned (OpenSpec.ofChange fnExactWordOfNumberWrong)

/-- 'laws.FnExactNumberOfWord': WHATEVER THE INPUT: true; the input reads as it did. -/
def fnExactNumberOfWordSpec : ChangeSpec := { name := "fnExactNumberOfWord", fn := fun _ => fun
  | [d1, d2] => { results := [.lit (.bool true)], args := [d1, d2] }
  | _ => none }
def fnExactNumberOfWordRow : OpenClaim := { program := "ytlkigmklcfnlbaa", sum := "6e289c047b1761a631e424c8c5f9b6766a1fd02aa3e32e959d75b3ed0a061a59", func := "loop.example/g01244/laws.FnExactNumberOfWord", spec := "fnExactNumberOfWord", apart := false }
def FnExactNumberOfWordSaid : Prop := fnExactNumberOfWordRow.holds Try.pinned (OpenSpec.ofChange fnExactNumberOfWordSpec)

/-- ITS FALSE NEIGHBOUR: 'it returns false'. Refute it at one input. -/
def fnExactNumberOfWordWrong : ChangeSpec := { name := "fnExactNumberOfWord", fn := fun _ => fun
  | [d1, d2] => { results := [.lit (.bool false)], args := [d1, d2] }
  | _ => none }
def FnExactNumberOfWordWrongFalsely : Prop := fnExactNumberOfWordRow.holds Try.pinned (OpenSpec.ofChange fnExactNumberOfWordWrong)

/-- 'laws.FnExactIsMachine': WHATEVER THE INPUT: true; the input reads as it did. -/
def fnExactIsMachineSpec : ChangeSpec := { name := "fnExactIsMachine", fn := fun _ => fun
  | [d] => { results := [.lit (.bool true)], args := [d] }
  | _ => none }
def fnExactIsMachineRow : OpenClaim := { program := "ytlkigmklcfnlbaa", sum := "6e289c047b1761a631e424c8c5f9b6766a1fd02aa3e32e959d75b3ed0a061a59", func := "loop.example/g01244/laws.FnExactIsMachine", spec := "fnExactIsMachine", apart := false }
def FnExactIsMachineSaid : Prop := fnExactIsMachineRow.holds Try.pinned (OpenSpec.ofChange fnExactIsMachineSpec)

/-- ITS FALSE NEIGHBOUR: 'it returns false'. Refute it at one input. -/
def fnExactIsMachineWrong : ChangeSpec := { name := "fnExactIsMachine", fn := fun _ => fun
  | [d] => { results := [.lit (.bool false)], args := [d] }
  | _ => none }
def FnExactIsMachineWrongFalsely : Prop := fnExactIsMachineRow.holds Try.pinned (OpenSpec.ofChange fnExactIsMachineWrong)

/-- 'laws.FnExactIsPortrait': WHATEVER THE INPUT: true; the input reads as it did. -/
def fnExactIsPortraitSpec : ChangeSpec := { name := "fnExactIsPortrait", fn := fun _ => fun
  | [d1, d2, d3] => { results := [.lit (.bool true)], args := [d1, d2, d3] }
  | _ => none }
def fnExactIsPortraitRow : OpenClaim := { program := "ytlkigmklcfnlbaa", sum := "6e289c047b1761a631e424c8c5f9b6766a1fd02aa3e32e959d75b3ed0a061a59", func := "loop.example/g01244/laws.FnExactIsPortrait", spec := "fnExactIsPortrait", unfollowed := true, recurses := true, apart := false }
def FnExactIsPortraitSaid : Prop := fnExactIsPortraitRow.holds Try.pinned (OpenSpec.ofChange fnExactIsPortraitSpec)

/-- ITS FALSE NEIGHBOUR: 'it returns false'. Refute it at one input. -/
def fnExactIsPortraitWrong : ChangeSpec := { name := "fnExactIsPortrait", fn := fun _ => fun
  | [d1, d2, d3] => { results := [.lit (.bool false)], args := [d1, d2, d3] }
  | _ => none }
def FnExactIsPortraitWrongFalsely : Prop := fnExactIsPortraitRow.holds Try.pinned (OpenSpec.ofChange fnExactIsPortraitWrong)

/-- 'laws.FnExactPermutationNumber': WHATEVER THE INPUT: true; the input reads as it did. -/
def fnExactPermutationNumberSpec : ChangeSpec := { name := "fnExactPermutationNumber", fn := fun _ => fun
  | [d] => { results := [.lit (.bool true)], args := [d] }
  | _ => none }
def fnExactPermutationNumberRow : OpenClaim := { program := "ytlkigmklcfnlbaa", sum := "6e289c047b1761a631e424c8c5f9b6766a1fd02aa3e32e959d75b3ed0a061a59", func := "loop.example/g01244/laws.FnExactPermutationNumber", spec := "fnExactPermutationNumber", unfollowed := true, recurses := true, apart := false }
def FnExactPermutationNumberSaid : Prop := fnExactPermutationNumberRow.holds Try.pinned (OpenSpec.ofChange fnExactPermutationNumberSpec)

/-- ITS FALSE NEIGHBOUR: 'it returns false'. Refute it at one input. -/
def fnExactPermutationNumberWrong : ChangeSpec := { name := "fnExactPermutationNumber", fn := fun _ => fun
  | [d] => { results := [.lit (.bool false)], args := [d] }
  | _ => none }
def FnExactPermutationNumberWrongFalsely : Prop := fnExactPermutationNumberRow.holds Try.pinned (OpenSpec.ofChange fnExactPermutationNumberWrong)

/- THE SECOND FORM. 'bulk': how many values and letters a reading holds, each counted each time it is reached (what is shared counts as often as it is met; a slice's spare places count too). A statement '..UptoSaid' is the law's where the arguments, and the package variables that the reading takes, are together of bulk at most 1048576: NARROWER than '..Said'. Prove '..Said' where nothing that the law and all that it calls make is longer than what came in: it says more and counts as full. Else prove '..UptoSaid'. A law counts once. -/
mutual
def uptoBulk {H : Type} : DataW H → Nat
  | .lit (.string bytes) => bytes.length + 1
  | .lit _ => 1
  | .nil => 1
  | .ptr d => uptoBulk d + 1
  | .slice elems spare => uptoBulkAll elems + uptoBulkAll spare + 1
  | .agg parts => uptoBulkAll parts + 1
  | .iface _ d => uptoBulk d + 1
  | .map entries => uptoBulkEntries entries + 1
  | .held _ => 1
def uptoBulkAll {H : Type} : List (DataW H) → Nat
  | [] => 0
  | d :: r => uptoBulk d + uptoBulkAll r
def uptoBulkEntries {H : Type} : List (Lit × DataW H) → Nat
  | [] => 0
  | x :: r => uptoBulkEntry x + uptoBulkEntries r
def uptoBulkEntry {H : Type} : Lit × DataW H → Nat
  | (.string bytes, d) => bytes.length + uptoBulk d + 1
  | (_, d) => uptoBulk d + 1
 end
def uptoSmall : (H : Type) → List (DataW H) → Bool := fun _ ds => decide (uptoBulkAll ds ≤ 1048576)
def OpenSpec.upto (s : _root_.Go.ChangeSpec) : _root_.Go.OpenSpec := { _root_.Go.OpenSpec.ofChange s with cond := some uptoSmall }

/-- 'laws.FnExactConstants', WHERE WHAT IT READS IS OF BULK AT MOST 1048576: true; the input reads as it did. -/
def fnExactConstantsUptoRow : OpenClaim := { program := "ytlkigmklcfnlbaa", sum := "6e289c047b1761a631e424c8c5f9b6766a1fd02aa3e32e959d75b3ed0a061a59", func := "loop.example/g01244/laws.FnExactConstants", spec := "fnExactConstants", apart := false, narrowed := true }
def FnExactConstantsUptoSaid : Prop := fnExactConstantsUptoRow.holds Try.pinned (OpenSpec.upto fnExactConstantsSpec)

/-- 'laws.FnExactWordOfNumber', WHERE WHAT IT READS IS OF BULK AT MOST 1048576: true; the input reads as it did. -/
def fnExactWordOfNumberUptoRow : OpenClaim := { program := "ytlkigmklcfnlbaa", sum := "6e289c047b1761a631e424c8c5f9b6766a1fd02aa3e32e959d75b3ed0a061a59", func := "loop.example/g01244/laws.FnExactWordOfNumber", spec := "fnExactWordOfNumber", recurses := true, apart := false, narrowed := true }
def FnExactWordOfNumberUptoSaid : Prop := fnExactWordOfNumberUptoRow.holds Try.pinned (OpenSpec.upto fnExactWordOfNumberSpec)

/-- 'laws.FnExactNumberOfWord', WHERE WHAT IT READS IS OF BULK AT MOST 1048576: true; the input reads as it did. -/
def fnExactNumberOfWordUptoRow : OpenClaim := { program := "ytlkigmklcfnlbaa", sum := "6e289c047b1761a631e424c8c5f9b6766a1fd02aa3e32e959d75b3ed0a061a59", func := "loop.example/g01244/laws.FnExactNumberOfWord", spec := "fnExactNumberOfWord", apart := false, narrowed := true }
def FnExactNumberOfWordUptoSaid : Prop := fnExactNumberOfWordUptoRow.holds Try.pinned (OpenSpec.upto fnExactNumberOfWordSpec)

/-- 'laws.FnExactIsMachine', WHERE WHAT IT READS IS OF BULK AT MOST 1048576: true; the input reads as it did. -/
def fnExactIsMachineUptoRow : OpenClaim := { program := "ytlkigmklcfnlbaa", sum := "6e289c047b1761a631e424c8c5f9b6766a1fd02aa3e32e959d75b3ed0a061a59", func := "loop.example/g01244/laws.FnExactIsMachine", spec := "fnExactIsMachine", apart := false, narrowed := true }
def FnExactIsMachineUptoSaid : Prop := fnExactIsMachineUptoRow.holds Try.pinned (OpenSpec.upto fnExactIsMachineSpec)

/-- 'laws.FnExactIsPortrait', WHERE WHAT IT READS IS OF BULK AT MOST 1048576: true; the input reads as it did. -/
def fnExactIsPortraitUptoRow : OpenClaim := { program := "ytlkigmklcfnlbaa", sum := "6e289c047b1761a631e424c8c5f9b6766a1fd02aa3e32e959d75b3ed0a061a59", func := "loop.example/g01244/laws.FnExactIsPortrait", spec := "fnExactIsPortrait", unfollowed := true, recurses := true, apart := false, narrowed := true }
def FnExactIsPortraitUptoSaid : Prop := fnExactIsPortraitUptoRow.holds Try.pinned (OpenSpec.upto fnExactIsPortraitSpec)

/-- 'laws.FnExactPermutationNumber', WHERE WHAT IT READS IS OF BULK AT MOST 1048576: true; the input reads as it did. -/
def fnExactPermutationNumberUptoRow : OpenClaim := { program := "ytlkigmklcfnlbaa", sum := "6e289c047b1761a631e424c8c5f9b6766a1fd02aa3e32e959d75b3ed0a061a59", func := "loop.example/g01244/laws.FnExactPermutationNumber", spec := "fnExactPermutationNumber", unfollowed := true, recurses := true, apart := false, narrowed := true }
def FnExactPermutationNumberUptoSaid : Prop := fnExactPermutationNumberUptoRow.holds Try.pinned (OpenSpec.upto fnExactPermutationNumberSpec)

end Rows
end Go.Proofs.Ytlkigmklcfnlbaa
