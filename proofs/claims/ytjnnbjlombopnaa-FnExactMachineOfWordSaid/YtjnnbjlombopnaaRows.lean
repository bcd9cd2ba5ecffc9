/-
  No cell of these rows narrows 'for every input' (looked for: loops, veiled, ifaces, maps, wideKeys, modest, calm, conditions, laid).
  DERIVED. THE GIVEN ROWS OF THIS SEAT. 29 by the template 'for every input the law returns true; each argument reads behind the call as it read before'; 0 by the template 'total and deterministic' (their statements: YtjnnbjlombopnaaTotals.lean).
  GIVEN WITH THE SEED: the statements are not yours to turn. If you find one false, say at which input.
  Laid BY PROGRAM, IN A SANDBOX (cutbox-rows.mjs): the forced cells as the released guide's own fill.sh prints them over the translation cbf20c2cc8c625bf… (all of the seat's roots in one cut). By AI agents, Wed Nov 11 2026. No macro, syntax, notation, axiom, sorry.
-/
import Derived.Test.YtjnnbjlombopnaaChecked
import GoSem.Claim
import GoSem.ClaimJoined
import GoSem.ClaimMapViews
import Derived.JoinedTies
import Derived.KernelRfl
namespace Go.Proofs.Ytjnnbjlombopnaa
/- THE CELL 'sum', in the pinned program and in every row, IS THE sha256 OF THE DUMP (.gsa) THAT YtjnnbjlombopnaaProg.lean LOADS. Nothing in Lean hashes anything: it is a label: what it is worth is what the hold of that sum in a sandbox is worth. -/
noncomputable def Try.pinned : Pinned := { name := "ytjnnbjlombopnaa", sum := "cbf20c2cc8c625bfcbcb4aba7af6bbae648f69f40ade7eac563e29b29f91ceee", checked := Try.checked }
namespace Rows
def none {H : Type} : Left H := { results := [], args := [] }

/-- 'laws.FnExactIsMachine': WHATEVER THE INPUT: true; the input reads as it did. -/
def fnExactIsMachineSpec : ChangeSpec := { name := "fnExactIsMachine", fn := fun _ => fun
  | [d] => { results := [.lit (.bool true)], args := [d] }
  | _ => none }
def fnExactIsMachineRow : OpenClaim := { program := "ytjnnbjlombopnaa", sum := "cbf20c2cc8c625bfcbcb4aba7af6bbae648f69f40ade7eac563e29b29f91ceee", func := "loop.example/g01244/laws.FnExactIsMachine", spec := "fnExactIsMachine", apart := false }
def FnExactIsMachineSaid : Prop := fnExactIsMachineRow.holds Try.pinned (OpenSpec.ofChange fnExactIsMachineSpec)

/-- ITS FALSE NEIGHBOUR: 'it returns false'. Refute it at one input. -/
def fnExactIsMachineWrong : ChangeSpec := { name := "fnExactIsMachine", fn := fun _ => fun
  | [d] => { results := [.lit (.bool false)], args := [d] }
  | _ => none }
def FnExactIsMachineWrongFalsely : Prop := fnExactIsMachineRow.holds Try.pinned (OpenSpec.ofChange fnExactIsMachineWrong)

/-- 'laws.FnExactIsGroupWord': WHATEVER THE INPUT: true; the input reads as it did. -/
def fnExactIsGroupWordSpec : ChangeSpec := { name := "fnExactIsGroupWord", fn := fun _ => fun
  | [d1, d2] => { results := [.lit (.bool true)], args := [d1, d2] }
  | _ => none }
def fnExactIsGroupWordRow : OpenClaim := { program := "ytjnnbjlombopnaa", sum := "cbf20c2cc8c625bfcbcb4aba7af6bbae648f69f40ade7eac563e29b29f91ceee", func := "loop.example/g01244/laws.FnExactIsGroupWord", spec := "fnExactIsGroupWord", unfollowed := true, recurses := true, apart := false }
def FnExactIsGroupWordSaid : Prop := fnExactIsGroupWordRow.holds Try.pinned (OpenSpec.ofChange fnExactIsGroupWordSpec)

/-- ITS FALSE NEIGHBOUR: 'it returns false'. Refute it at one input. -/
def fnExactIsGroupWordWrong : ChangeSpec := { name := "fnExactIsGroupWord", fn := fun _ => fun
  | [d1, d2] => { results := [.lit (.bool false)], args := [d1, d2] }
  | _ => none }
def FnExactIsGroupWordWrongFalsely : Prop := fnExactIsGroupWordRow.holds Try.pinned (OpenSpec.ofChange fnExactIsGroupWordWrong)

/-- 'laws.FnExactInverseMachine': WHATEVER THE INPUT: true; the input reads as it did. -/
def fnExactInverseMachineSpec : ChangeSpec := { name := "fnExactInverseMachine", fn := fun _ => fun
  | [d] => { results := [.lit (.bool true)], args := [d] }
  | _ => none }
def fnExactInverseMachineRow : OpenClaim := { program := "ytjnnbjlombopnaa", sum := "cbf20c2cc8c625bfcbcb4aba7af6bbae648f69f40ade7eac563e29b29f91ceee", func := "loop.example/g01244/laws.FnExactInverseMachine", spec := "fnExactInverseMachine", apart := false }
def FnExactInverseMachineSaid : Prop := fnExactInverseMachineRow.holds Try.pinned (OpenSpec.ofChange fnExactInverseMachineSpec)

/-- ITS FALSE NEIGHBOUR: 'it returns false'. Refute it at one input. -/
def fnExactInverseMachineWrong : ChangeSpec := { name := "fnExactInverseMachine", fn := fun _ => fun
  | [d] => { results := [.lit (.bool false)], args := [d] }
  | _ => none }
def FnExactInverseMachineWrongFalsely : Prop := fnExactInverseMachineRow.holds Try.pinned (OpenSpec.ofChange fnExactInverseMachineWrong)

/-- 'laws.FnExactActOnWord': WHATEVER THE INPUT: true; the input reads as it did. -/
def fnExactActOnWordSpec : ChangeSpec := { name := "fnExactActOnWord", fn := fun _ => fun
  | [d1, d2, d3] => { results := [.lit (.bool true)], args := [d1, d2, d3] }
  | _ => none }
def fnExactActOnWordRow : OpenClaim := { program := "ytjnnbjlombopnaa", sum := "cbf20c2cc8c625bfcbcb4aba7af6bbae648f69f40ade7eac563e29b29f91ceee", func := "loop.example/g01244/laws.FnExactActOnWord", spec := "fnExactActOnWord", unfollowed := true, recurses := true, apart := false }
def FnExactActOnWordSaid : Prop := fnExactActOnWordRow.holds Try.pinned (OpenSpec.ofChange fnExactActOnWordSpec)

/-- ITS FALSE NEIGHBOUR: 'it returns false'. Refute it at one input. -/
def fnExactActOnWordWrong : ChangeSpec := { name := "fnExactActOnWord", fn := fun _ => fun
  | [d1, d2, d3] => { results := [.lit (.bool false)], args := [d1, d2, d3] }
  | _ => none }
def FnExactActOnWordWrongFalsely : Prop := fnExactActOnWordRow.holds Try.pinned (OpenSpec.ofChange fnExactActOnWordWrong)

/-- 'laws.FnExactSectionAt': WHATEVER THE INPUT: true; the input reads as it did. -/
def fnExactSectionAtSpec : ChangeSpec := { name := "fnExactSectionAt", fn := fun _ => fun
  | [d1, d2, d3] => { results := [.lit (.bool true)], args := [d1, d2, d3] }
  | _ => none }
def fnExactSectionAtRow : OpenClaim := { program := "ytjnnbjlombopnaa", sum := "cbf20c2cc8c625bfcbcb4aba7af6bbae648f69f40ade7eac563e29b29f91ceee", func := "loop.example/g01244/laws.FnExactSectionAt", spec := "fnExactSectionAt", unfollowed := true, recurses := true, apart := false }
def FnExactSectionAtSaid : Prop := fnExactSectionAtRow.holds Try.pinned (OpenSpec.ofChange fnExactSectionAtSpec)

/-- ITS FALSE NEIGHBOUR: 'it returns false'. Refute it at one input. -/
def fnExactSectionAtWrong : ChangeSpec := { name := "fnExactSectionAt", fn := fun _ => fun
  | [d1, d2, d3] => { results := [.lit (.bool false)], args := [d1, d2, d3] }
  | _ => none }
def FnExactSectionAtWrongFalsely : Prop := fnExactSectionAtRow.holds Try.pinned (OpenSpec.ofChange fnExactSectionAtWrong)

/-- 'laws.FnExactGroupText': WHATEVER THE INPUT: true; the input reads as it did. -/
def fnExactGroupTextSpec : ChangeSpec := { name := "fnExactGroupText", fn := fun _ => fun
  | [d1, d2] => { results := [.lit (.bool true)], args := [d1, d2] }
  | _ => none }
def fnExactGroupTextRow : OpenClaim := { program := "ytjnnbjlombopnaa", sum := "cbf20c2cc8c625bfcbcb4aba7af6bbae648f69f40ade7eac563e29b29f91ceee", func := "loop.example/g01244/laws.FnExactGroupText", spec := "fnExactGroupText", unfollowed := true, recurses := true, apart := false }
def FnExactGroupTextSaid : Prop := fnExactGroupTextRow.holds Try.pinned (OpenSpec.ofChange fnExactGroupTextSpec)

/-- ITS FALSE NEIGHBOUR: 'it returns false'. Refute it at one input. -/
def fnExactGroupTextWrong : ChangeSpec := { name := "fnExactGroupText", fn := fun _ => fun
  | [d1, d2] => { results := [.lit (.bool false)], args := [d1, d2] }
  | _ => none }
def FnExactGroupTextWrongFalsely : Prop := fnExactGroupTextRow.holds Try.pinned (OpenSpec.ofChange fnExactGroupTextWrong)

/-- 'laws.FnExactParseGroup': WHATEVER THE INPUT: true; the input reads as it did. -/
def fnExactParseGroupSpec : ChangeSpec := { name := "fnExactParseGroup", fn := fun _ => fun
  | [d1, d2] => { results := [.lit (.bool true)], args := [d1, d2] }
  | _ => none }
def fnExactParseGroupRow : OpenClaim := { program := "ytjnnbjlombopnaa", sum := "cbf20c2cc8c625bfcbcb4aba7af6bbae648f69f40ade7eac563e29b29f91ceee", func := "loop.example/g01244/laws.FnExactParseGroup", spec := "fnExactParseGroup", inPlace := ["internal/bytealg.IndexByteString"], unfollowed := true, recurses := true, apart := false }
def FnExactParseGroupSaid : Prop := fnExactParseGroupRow.holds Try.pinned (OpenSpec.ofChange fnExactParseGroupSpec)

/-- ITS FALSE NEIGHBOUR: 'it returns false'. Refute it at one input. -/
def fnExactParseGroupWrong : ChangeSpec := { name := "fnExactParseGroup", fn := fun _ => fun
  | [d1, d2] => { results := [.lit (.bool false)], args := [d1, d2] }
  | _ => none }
def FnExactParseGroupWrongFalsely : Prop := fnExactParseGroupRow.holds Try.pinned (OpenSpec.ofChange fnExactParseGroupWrong)

/-- 'laws.FnExactTrivialStates': WHATEVER THE INPUT: true; the input reads as it did. -/
def fnExactTrivialStatesSpec : ChangeSpec := { name := "fnExactTrivialStates", fn := fun _ => fun
  | [d] => { results := [.lit (.bool true)], args := [d] }
  | _ => none }
def fnExactTrivialStatesRow : OpenClaim := { program := "ytjnnbjlombopnaa", sum := "cbf20c2cc8c625bfcbcb4aba7af6bbae648f69f40ade7eac563e29b29f91ceee", func := "loop.example/g01244/laws.FnExactTrivialStates", spec := "fnExactTrivialStates", unfollowed := true, recurses := true, apart := false }
def FnExactTrivialStatesSaid : Prop := fnExactTrivialStatesRow.holds Try.pinned (OpenSpec.ofChange fnExactTrivialStatesSpec)

/-- ITS FALSE NEIGHBOUR: 'it returns false'. Refute it at one input. -/
def fnExactTrivialStatesWrong : ChangeSpec := { name := "fnExactTrivialStates", fn := fun _ => fun
  | [d] => { results := [.lit (.bool false)], args := [d] }
  | _ => none }
def FnExactTrivialStatesWrongFalsely : Prop := fnExactTrivialStatesRow.holds Try.pinned (OpenSpec.ofChange fnExactTrivialStatesWrong)

/-- 'laws.FnExactInverseWord': WHATEVER THE INPUT: true; the input reads as it did. -/
def fnExactInverseWordSpec : ChangeSpec := { name := "fnExactInverseWord", fn := fun _ => fun
  | [d1, d2] => { results := [.lit (.bool true)], args := [d1, d2] }
  | _ => none }
def fnExactInverseWordRow : OpenClaim := { program := "ytjnnbjlombopnaa", sum := "cbf20c2cc8c625bfcbcb4aba7af6bbae648f69f40ade7eac563e29b29f91ceee", func := "loop.example/g01244/laws.FnExactInverseWord", spec := "fnExactInverseWord", unfollowed := true, recurses := true, apart := false }
def FnExactInverseWordSaid : Prop := fnExactInverseWordRow.holds Try.pinned (OpenSpec.ofChange fnExactInverseWordSpec)

/-- ITS FALSE NEIGHBOUR: 'it returns false'. Refute it at one input. -/
def fnExactInverseWordWrong : ChangeSpec := { name := "fnExactInverseWord", fn := fun _ => fun
  | [d1, d2] => { results := [.lit (.bool false)], args := [d1, d2] }
  | _ => none }
def FnExactInverseWordWrongFalsely : Prop := fnExactInverseWordRow.holds Try.pinned (OpenSpec.ofChange fnExactInverseWordWrong)

/-- 'laws.FnExactMachineText': WHATEVER THE INPUT: true; the input reads as it did. -/
def fnExactMachineTextSpec : ChangeSpec := { name := "fnExactMachineText", fn := fun _ => fun
  | [d] => { results := [.lit (.bool true)], args := [d] }
  | _ => none }
def fnExactMachineTextRow : OpenClaim := { program := "ytjnnbjlombopnaa", sum := "cbf20c2cc8c625bfcbcb4aba7af6bbae648f69f40ade7eac563e29b29f91ceee", func := "loop.example/g01244/laws.FnExactMachineText", spec := "fnExactMachineText", inPlace := ["internal/abi.NoEscape", "internal/bytealg.MakeNoZero"], recurses := true, apart := false }
def FnExactMachineTextSaid : Prop := fnExactMachineTextRow.holds Try.pinned (OpenSpec.ofChange fnExactMachineTextSpec)

/-- ITS FALSE NEIGHBOUR: 'it returns false'. Refute it at one input. -/
def fnExactMachineTextWrong : ChangeSpec := { name := "fnExactMachineText", fn := fun _ => fun
  | [d] => { results := [.lit (.bool false)], args := [d] }
  | _ => none }
def FnExactMachineTextWrongFalsely : Prop := fnExactMachineTextRow.holds Try.pinned (OpenSpec.ofChange fnExactMachineTextWrong)

/-- 'laws.FnExactAreEqualStates': WHATEVER THE INPUT: true; the input reads as it did. -/
def fnExactAreEqualStatesSpec : ChangeSpec := { name := "fnExactAreEqualStates", fn := fun _ => fun
  | [d1, d2, d3] => { results := [.lit (.bool true)], args := [d1, d2, d3] }
  | _ => none }
def fnExactAreEqualStatesRow : OpenClaim := { program := "ytjnnbjlombopnaa", sum := "cbf20c2cc8c625bfcbcb4aba7af6bbae648f69f40ade7eac563e29b29f91ceee", func := "loop.example/g01244/laws.FnExactAreEqualStates", spec := "fnExactAreEqualStates", unfollowed := true, recurses := true, apart := false }
def FnExactAreEqualStatesSaid : Prop := fnExactAreEqualStatesRow.holds Try.pinned (OpenSpec.ofChange fnExactAreEqualStatesSpec)

/-- ITS FALSE NEIGHBOUR: 'it returns false'. Refute it at one input. -/
def fnExactAreEqualStatesWrong : ChangeSpec := { name := "fnExactAreEqualStates", fn := fun _ => fun
  | [d1, d2, d3] => { results := [.lit (.bool false)], args := [d1, d2, d3] }
  | _ => none }
def FnExactAreEqualStatesWrongFalsely : Prop := fnExactAreEqualStatesRow.holds Try.pinned (OpenSpec.ofChange fnExactAreEqualStatesWrong)

/-- 'laws.FnExactMultiplyWords': WHATEVER THE INPUT: true; the input reads as it did. -/
def fnExactMultiplyWordsSpec : ChangeSpec := { name := "fnExactMultiplyWords", fn := fun _ => fun
  | [d1, d2, d3] => { results := [.lit (.bool true)], args := [d1, d2, d3] }
  | _ => none }
def fnExactMultiplyWordsRow : OpenClaim := { program := "ytjnnbjlombopnaa", sum := "cbf20c2cc8c625bfcbcb4aba7af6bbae648f69f40ade7eac563e29b29f91ceee", func := "loop.example/g01244/laws.FnExactMultiplyWords", spec := "fnExactMultiplyWords", unfollowed := true, recurses := true, apart := false }
def FnExactMultiplyWordsSaid : Prop := fnExactMultiplyWordsRow.holds Try.pinned (OpenSpec.ofChange fnExactMultiplyWordsSpec)

/-- ITS FALSE NEIGHBOUR: 'it returns false'. Refute it at one input. -/
def fnExactMultiplyWordsWrong : ChangeSpec := { name := "fnExactMultiplyWords", fn := fun _ => fun
  | [d1, d2, d3] => { results := [.lit (.bool false)], args := [d1, d2, d3] }
  | _ => none }
def FnExactMultiplyWordsWrongFalsely : Prop := fnExactMultiplyWordsRow.holds Try.pinned (OpenSpec.ofChange fnExactMultiplyWordsWrong)

/-- 'laws.FnExactOrbitOfWord': WHATEVER THE INPUT: true; the input reads as it did. -/
def fnExactOrbitOfWordSpec : ChangeSpec := { name := "fnExactOrbitOfWord", fn := fun _ => fun
  | [d1, d2, d3] => { results := [.lit (.bool true)], args := [d1, d2, d3] }
  | _ => none }
def fnExactOrbitOfWordRow : OpenClaim := { program := "ytjnnbjlombopnaa", sum := "cbf20c2cc8c625bfcbcb4aba7af6bbae648f69f40ade7eac563e29b29f91ceee", func := "loop.example/g01244/laws.FnExactOrbitOfWord", spec := "fnExactOrbitOfWord", unfollowed := true, recurses := true, apart := false }
def FnExactOrbitOfWordSaid : Prop := fnExactOrbitOfWordRow.holds Try.pinned (OpenSpec.ofChange fnExactOrbitOfWordSpec)

/-- ITS FALSE NEIGHBOUR: 'it returns false'. Refute it at one input. -/
def fnExactOrbitOfWordWrong : ChangeSpec := { name := "fnExactOrbitOfWord", fn := fun _ => fun
  | [d1, d2, d3] => { results := [.lit (.bool false)], args := [d1, d2, d3] }
  | _ => none }
def FnExactOrbitOfWordWrongFalsely : Prop := fnExactOrbitOfWordRow.holds Try.pinned (OpenSpec.ofChange fnExactOrbitOfWordWrong)

/-- 'laws.FnExactCommutatorOf': WHATEVER THE INPUT: true; the input reads as it did. -/
def fnExactCommutatorOfSpec : ChangeSpec := { name := "fnExactCommutatorOf", fn := fun _ => fun
  | [d1, d2, d3] => { results := [.lit (.bool true)], args := [d1, d2, d3] }
  | _ => none }
def fnExactCommutatorOfRow : OpenClaim := { program := "ytjnnbjlombopnaa", sum := "cbf20c2cc8c625bfcbcb4aba7af6bbae648f69f40ade7eac563e29b29f91ceee", func := "loop.example/g01244/laws.FnExactCommutatorOf", spec := "fnExactCommutatorOf", unfollowed := true, recurses := true, apart := false }
def FnExactCommutatorOfSaid : Prop := fnExactCommutatorOfRow.holds Try.pinned (OpenSpec.ofChange fnExactCommutatorOfSpec)

/-- ITS FALSE NEIGHBOUR: 'it returns false'. Refute it at one input. -/
def fnExactCommutatorOfWrong : ChangeSpec := { name := "fnExactCommutatorOf", fn := fun _ => fun
  | [d1, d2, d3] => { results := [.lit (.bool false)], args := [d1, d2, d3] }
  | _ => none }
def FnExactCommutatorOfWrongFalsely : Prop := fnExactCommutatorOfRow.holds Try.pinned (OpenSpec.ofChange fnExactCommutatorOfWrong)

/-- 'laws.FnExactPowerWord': WHATEVER THE INPUT: true; the input reads as it did. -/
def fnExactPowerWordSpec : ChangeSpec := { name := "fnExactPowerWord", fn := fun _ => fun
  | [d1, d2, d3] => { results := [.lit (.bool true)], args := [d1, d2, d3] }
  | _ => none }
def fnExactPowerWordRow : OpenClaim := { program := "ytjnnbjlombopnaa", sum := "cbf20c2cc8c625bfcbcb4aba7af6bbae648f69f40ade7eac563e29b29f91ceee", func := "loop.example/g01244/laws.FnExactPowerWord", spec := "fnExactPowerWord", unfollowed := true, recurses := true, apart := false }
def FnExactPowerWordSaid : Prop := fnExactPowerWordRow.holds Try.pinned (OpenSpec.ofChange fnExactPowerWordSpec)

/-- ITS FALSE NEIGHBOUR: 'it returns false'. Refute it at one input. -/
def fnExactPowerWordWrong : ChangeSpec := { name := "fnExactPowerWord", fn := fun _ => fun
  | [d1, d2, d3] => { results := [.lit (.bool false)], args := [d1, d2, d3] }
  | _ => none }
def FnExactPowerWordWrongFalsely : Prop := fnExactPowerWordRow.holds Try.pinned (OpenSpec.ofChange fnExactPowerWordWrong)

/-- 'laws.FnExactMinimalMachine': WHATEVER THE INPUT: true; the input reads as it did. -/
def fnExactMinimalMachineSpec : ChangeSpec := { name := "fnExactMinimalMachine", fn := fun _ => fun
  | [d] => { results := [.lit (.bool true)], args := [d] }
  | _ => none }
def fnExactMinimalMachineRow : OpenClaim := { program := "ytjnnbjlombopnaa", sum := "cbf20c2cc8c625bfcbcb4aba7af6bbae648f69f40ade7eac563e29b29f91ceee", func := "loop.example/g01244/laws.FnExactMinimalMachine", spec := "fnExactMinimalMachine", unfollowed := true, recurses := true, apart := false }
def FnExactMinimalMachineSaid : Prop := fnExactMinimalMachineRow.holds Try.pinned (OpenSpec.ofChange fnExactMinimalMachineSpec)

/-- ITS FALSE NEIGHBOUR: 'it returns false'. Refute it at one input. -/
def fnExactMinimalMachineWrong : ChangeSpec := { name := "fnExactMinimalMachine", fn := fun _ => fun
  | [d] => { results := [.lit (.bool false)], args := [d] }
  | _ => none }
def FnExactMinimalMachineWrongFalsely : Prop := fnExactMinimalMachineRow.holds Try.pinned (OpenSpec.ofChange fnExactMinimalMachineWrong)

/-- 'laws.FnExactNormalWord': WHATEVER THE INPUT: true; the input reads as it did. -/
def fnExactNormalWordSpec : ChangeSpec := { name := "fnExactNormalWord", fn := fun _ => fun
  | [d1, d2] => { results := [.lit (.bool true)], args := [d1, d2] }
  | _ => none }
def fnExactNormalWordRow : OpenClaim := { program := "ytjnnbjlombopnaa", sum := "cbf20c2cc8c625bfcbcb4aba7af6bbae648f69f40ade7eac563e29b29f91ceee", func := "loop.example/g01244/laws.FnExactNormalWord", spec := "fnExactNormalWord", unfollowed := true, recurses := true, apart := false }
def FnExactNormalWordSaid : Prop := fnExactNormalWordRow.holds Try.pinned (OpenSpec.ofChange fnExactNormalWordSpec)

/-- ITS FALSE NEIGHBOUR: 'it returns false'. Refute it at one input. -/
def fnExactNormalWordWrong : ChangeSpec := { name := "fnExactNormalWord", fn := fun _ => fun
  | [d1, d2] => { results := [.lit (.bool false)], args := [d1, d2] }
  | _ => none }
def FnExactNormalWordWrongFalsely : Prop := fnExactNormalWordRow.holds Try.pinned (OpenSpec.ofChange fnExactNormalWordWrong)

/-- 'laws.FnExactWreathOf': WHATEVER THE INPUT: true; the input reads as it did. -/
def fnExactWreathOfSpec : ChangeSpec := { name := "fnExactWreathOf", fn := fun _ => fun
  | [d1, d2] => { results := [.lit (.bool true)], args := [d1, d2] }
  | _ => none }
def fnExactWreathOfRow : OpenClaim := { program := "ytjnnbjlombopnaa", sum := "cbf20c2cc8c625bfcbcb4aba7af6bbae648f69f40ade7eac563e29b29f91ceee", func := "loop.example/g01244/laws.FnExactWreathOf", spec := "fnExactWreathOf", unfollowed := true, recurses := true, apart := false }
def FnExactWreathOfSaid : Prop := fnExactWreathOfRow.holds Try.pinned (OpenSpec.ofChange fnExactWreathOfSpec)

/-- ITS FALSE NEIGHBOUR: 'it returns false'. Refute it at one input. -/
def fnExactWreathOfWrong : ChangeSpec := { name := "fnExactWreathOf", fn := fun _ => fun
  | [d1, d2] => { results := [.lit (.bool false)], args := [d1, d2] }
  | _ => none }
def FnExactWreathOfWrongFalsely : Prop := fnExactWreathOfRow.holds Try.pinned (OpenSpec.ofChange fnExactWreathOfWrong)

/-- 'laws.FnExactFirstDifference': WHATEVER THE INPUT: true; the input reads as it did. -/
def fnExactFirstDifferenceSpec : ChangeSpec := { name := "fnExactFirstDifference", fn := fun _ => fun
  | [d1, d2, d3] => { results := [.lit (.bool true)], args := [d1, d2, d3] }
  | _ => none }
def fnExactFirstDifferenceRow : OpenClaim := { program := "ytjnnbjlombopnaa", sum := "cbf20c2cc8c625bfcbcb4aba7af6bbae648f69f40ade7eac563e29b29f91ceee", func := "loop.example/g01244/laws.FnExactFirstDifference", spec := "fnExactFirstDifference", unfollowed := true, recurses := true, apart := false }
def FnExactFirstDifferenceSaid : Prop := fnExactFirstDifferenceRow.holds Try.pinned (OpenSpec.ofChange fnExactFirstDifferenceSpec)

/-- ITS FALSE NEIGHBOUR: 'it returns false'. Refute it at one input. -/
def fnExactFirstDifferenceWrong : ChangeSpec := { name := "fnExactFirstDifference", fn := fun _ => fun
  | [d1, d2, d3] => { results := [.lit (.bool false)], args := [d1, d2, d3] }
  | _ => none }
def FnExactFirstDifferenceWrongFalsely : Prop := fnExactFirstDifferenceRow.holds Try.pinned (OpenSpec.ofChange fnExactFirstDifferenceWrong)

/-- 'laws.FnExactPermutationOf': WHATEVER THE INPUT: true; the input reads as it did. -/
def fnExactPermutationOfSpec : ChangeSpec := { name := "fnExactPermutationOf", fn := fun _ => fun
  | [d1, d2, d3] => { results := [.lit (.bool true)], args := [d1, d2, d3] }
  | _ => none }
def fnExactPermutationOfRow : OpenClaim := { program := "ytjnnbjlombopnaa", sum := "cbf20c2cc8c625bfcbcb4aba7af6bbae648f69f40ade7eac563e29b29f91ceee", func := "loop.example/g01244/laws.FnExactPermutationOf", spec := "fnExactPermutationOf", unfollowed := true, recurses := true, apart := false }
def FnExactPermutationOfSaid : Prop := fnExactPermutationOfRow.holds Try.pinned (OpenSpec.ofChange fnExactPermutationOfSpec)

/-- ITS FALSE NEIGHBOUR: 'it returns false'. Refute it at one input. -/
def fnExactPermutationOfWrong : ChangeSpec := { name := "fnExactPermutationOf", fn := fun _ => fun
  | [d1, d2, d3] => { results := [.lit (.bool false)], args := [d1, d2, d3] }
  | _ => none }
def FnExactPermutationOfWrongFalsely : Prop := fnExactPermutationOfRow.holds Try.pinned (OpenSpec.ofChange fnExactPermutationOfWrong)

/-- 'laws.FnExactIsTrivialWord': WHATEVER THE INPUT: true; the input reads as it did. -/
def fnExactIsTrivialWordSpec : ChangeSpec := { name := "fnExactIsTrivialWord", fn := fun _ => fun
  | [d1, d2] => { results := [.lit (.bool true)], args := [d1, d2] }
  | _ => none }
def fnExactIsTrivialWordRow : OpenClaim := { program := "ytjnnbjlombopnaa", sum := "cbf20c2cc8c625bfcbcb4aba7af6bbae648f69f40ade7eac563e29b29f91ceee", func := "loop.example/g01244/laws.FnExactIsTrivialWord", spec := "fnExactIsTrivialWord", unfollowed := true, recurses := true, apart := false }
def FnExactIsTrivialWordSaid : Prop := fnExactIsTrivialWordRow.holds Try.pinned (OpenSpec.ofChange fnExactIsTrivialWordSpec)

/-- ITS FALSE NEIGHBOUR: 'it returns false'. Refute it at one input. -/
def fnExactIsTrivialWordWrong : ChangeSpec := { name := "fnExactIsTrivialWord", fn := fun _ => fun
  | [d1, d2] => { results := [.lit (.bool false)], args := [d1, d2] }
  | _ => none }
def FnExactIsTrivialWordWrongFalsely : Prop := fnExactIsTrivialWordRow.holds Try.pinned (OpenSpec.ofChange fnExactIsTrivialWordWrong)

/-- 'laws.FnExactSectionLengths': WHATEVER THE INPUT: true; the input reads as it did. -/
def fnExactSectionLengthsSpec : ChangeSpec := { name := "fnExactSectionLengths", fn := fun _ => fun
  | [d1, d2, d3] => { results := [.lit (.bool true)], args := [d1, d2, d3] }
  | _ => none }
def fnExactSectionLengthsRow : OpenClaim := { program := "ytjnnbjlombopnaa", sum := "cbf20c2cc8c625bfcbcb4aba7af6bbae648f69f40ade7eac563e29b29f91ceee", func := "loop.example/g01244/laws.FnExactSectionLengths", spec := "fnExactSectionLengths", unfollowed := true, recurses := true, apart := false }
def FnExactSectionLengthsSaid : Prop := fnExactSectionLengthsRow.holds Try.pinned (OpenSpec.ofChange fnExactSectionLengthsSpec)

/-- ITS FALSE NEIGHBOUR: 'it returns false'. Refute it at one input. -/
def fnExactSectionLengthsWrong : ChangeSpec := { name := "fnExactSectionLengths", fn := fun _ => fun
  | [d1, d2, d3] => { results := [.lit (.bool false)], args := [d1, d2, d3] }
  | _ => none }
def FnExactSectionLengthsWrongFalsely : Prop := fnExactSectionLengthsRow.holds Try.pinned (OpenSpec.ofChange fnExactSectionLengthsWrong)

/-- 'laws.FnExactSectionsOfLevel': WHATEVER THE INPUT: true; the input reads as it did. -/
def fnExactSectionsOfLevelSpec : ChangeSpec := { name := "fnExactSectionsOfLevel", fn := fun _ => fun
  | [d1, d2, d3] => { results := [.lit (.bool true)], args := [d1, d2, d3] }
  | _ => none }
def fnExactSectionsOfLevelRow : OpenClaim := { program := "ytjnnbjlombopnaa", sum := "cbf20c2cc8c625bfcbcb4aba7af6bbae648f69f40ade7eac563e29b29f91ceee", func := "loop.example/g01244/laws.FnExactSectionsOfLevel", spec := "fnExactSectionsOfLevel", unfollowed := true, recurses := true, apart := false }
def FnExactSectionsOfLevelSaid : Prop := fnExactSectionsOfLevelRow.holds Try.pinned (OpenSpec.ofChange fnExactSectionsOfLevelSpec)

/-- ITS FALSE NEIGHBOUR: 'it returns false'. Refute it at one input. -/
def fnExactSectionsOfLevelWrong : ChangeSpec := { name := "fnExactSectionsOfLevel", fn := fun _ => fun
  | [d1, d2, d3] => { results := [.lit (.bool false)], args := [d1, d2, d3] }
  | _ => none }
def FnExactSectionsOfLevelWrongFalsely : Prop := fnExactSectionsOfLevelRow.holds Try.pinned (OpenSpec.ofChange fnExactSectionsOfLevelWrong)

/-- 'laws.FnExactAreEqualWords': WHATEVER THE INPUT: true; the input reads as it did. -/
def fnExactAreEqualWordsSpec : ChangeSpec := { name := "fnExactAreEqualWords", fn := fun _ => fun
  | [d1, d2, d3] => { results := [.lit (.bool true)], args := [d1, d2, d3] }
  | _ => none }
def fnExactAreEqualWordsRow : OpenClaim := { program := "ytjnnbjlombopnaa", sum := "cbf20c2cc8c625bfcbcb4aba7af6bbae648f69f40ade7eac563e29b29f91ceee", func := "loop.example/g01244/laws.FnExactAreEqualWords", spec := "fnExactAreEqualWords", unfollowed := true, recurses := true, apart := false }
def FnExactAreEqualWordsSaid : Prop := fnExactAreEqualWordsRow.holds Try.pinned (OpenSpec.ofChange fnExactAreEqualWordsSpec)

/-- ITS FALSE NEIGHBOUR: 'it returns false'. Refute it at one input. -/
def fnExactAreEqualWordsWrong : ChangeSpec := { name := "fnExactAreEqualWords", fn := fun _ => fun
  | [d1, d2, d3] => { results := [.lit (.bool false)], args := [d1, d2, d3] }
  | _ => none }
def FnExactAreEqualWordsWrongFalsely : Prop := fnExactAreEqualWordsRow.holds Try.pinned (OpenSpec.ofChange fnExactAreEqualWordsWrong)

/-- 'laws.FnExactLastingSections': WHATEVER THE INPUT: true; the input reads as it did. -/
def fnExactLastingSectionsSpec : ChangeSpec := { name := "fnExactLastingSections", fn := fun _ => fun
  | [d1, d2] => { results := [.lit (.bool true)], args := [d1, d2] }
  | _ => none }
def fnExactLastingSectionsRow : OpenClaim := { program := "ytjnnbjlombopnaa", sum := "cbf20c2cc8c625bfcbcb4aba7af6bbae648f69f40ade7eac563e29b29f91ceee", func := "loop.example/g01244/laws.FnExactLastingSections", spec := "fnExactLastingSections", unfollowed := true, recurses := true, apart := false }
def FnExactLastingSectionsSaid : Prop := fnExactLastingSectionsRow.holds Try.pinned (OpenSpec.ofChange fnExactLastingSectionsSpec)

/-- ITS FALSE NEIGHBOUR: 'it returns false'. Refute it at one input. -/
def fnExactLastingSectionsWrong : ChangeSpec := { name := "fnExactLastingSections", fn := fun _ => fun
  | [d1, d2] => { results := [.lit (.bool false)], args := [d1, d2] }
  | _ => none }
def FnExactLastingSectionsWrongFalsely : Prop := fnExactLastingSectionsRow.holds Try.pinned (OpenSpec.ofChange fnExactLastingSectionsWrong)

/-- 'laws.FnExactMachineOfWord': WHATEVER THE INPUT: true; the input reads as it did. -/
def fnExactMachineOfWordSpec : ChangeSpec := { name := "fnExactMachineOfWord", fn := fun _ => fun
  | [d1, d2] => { results := [.lit (.bool true)], args := [d1, d2] }
  | _ => none }
def fnExactMachineOfWordRow : OpenClaim := { program := "ytjnnbjlombopnaa", sum := "cbf20c2cc8c625bfcbcb4aba7af6bbae648f69f40ade7eac563e29b29f91ceee", func := "loop.example/g01244/laws.FnExactMachineOfWord", spec := "fnExactMachineOfWord", unfollowed := true, recurses := true, apart := false }
def FnExactMachineOfWordSaid : Prop := fnExactMachineOfWordRow.holds Try.pinned (OpenSpec.ofChange fnExactMachineOfWordSpec)

/-- ITS FALSE NEIGHBOUR: 'it returns false'. Refute it at one input. -/
def fnExactMachineOfWordWrong : ChangeSpec := { name := "fnExactMachineOfWord", fn := fun _ => fun
  | [d1, d2] => { results := [.lit (.bool false)], args := [d1, d2] }
  | _ => none }
def FnExactMachineOfWordWrongFalsely : Prop := fnExactMachineOfWordRow.holds Try.pinned (OpenSpec.ofChange fnExactMachineOfWordWrong)

/-- 'laws.FnExactIsInList': WHATEVER THE INPUT: true; the input reads as it did. -/
def fnExactIsInListSpec : ChangeSpec := { name := "fnExactIsInList", fn := fun _ => fun
  | [d1, d2, d3] => { results := [.lit (.bool true)], args := [d1, d2, d3] }
  | _ => none }
def fnExactIsInListRow : OpenClaim := { program := "ytjnnbjlombopnaa", sum := "cbf20c2cc8c625bfcbcb4aba7af6bbae648f69f40ade7eac563e29b29f91ceee", func := "loop.example/g01244/laws.FnExactIsInList", spec := "fnExactIsInList", unfollowed := true, recurses := true, apart := false }
def FnExactIsInListSaid : Prop := fnExactIsInListRow.holds Try.pinned (OpenSpec.ofChange fnExactIsInListSpec)

/-- ITS FALSE NEIGHBOUR: 'it returns false'. Refute it at one input. -/
def fnExactIsInListWrong : ChangeSpec := { name := "fnExactIsInList", fn := fun _ => fun
  | [d1, d2, d3] => { results := [.lit (.bool false)], args := [d1, d2, d3] }
  | _ => none }
def FnExactIsInListWrongFalsely : Prop := fnExactIsInListRow.holds Try.pinned (OpenSpec.ofChange fnExactIsInListWrong)

/-- 'laws.FnExactDepthOfList': WHATEVER THE INPUT: true; the input reads as it did. -/
def fnExactDepthOfListSpec : ChangeSpec := { name := "fnExactDepthOfList", fn := fun _ => fun
  | [d1, d2] => { results := [.lit (.bool true)], args := [d1, d2] }
  | _ => none }
def fnExactDepthOfListRow : OpenClaim := { program := "ytjnnbjlombopnaa", sum := "cbf20c2cc8c625bfcbcb4aba7af6bbae648f69f40ade7eac563e29b29f91ceee", func := "loop.example/g01244/laws.FnExactDepthOfList", spec := "fnExactDepthOfList", unfollowed := true, recurses := true, apart := false }
def FnExactDepthOfListSaid : Prop := fnExactDepthOfListRow.holds Try.pinned (OpenSpec.ofChange fnExactDepthOfListSpec)

/-- ITS FALSE NEIGHBOUR: 'it returns false'. Refute it at one input. -/
def fnExactDepthOfListWrong : ChangeSpec := { name := "fnExactDepthOfList", fn := fun _ => fun
  | [d1, d2] => { results := [.lit (.bool false)], args := [d1, d2] }
  | _ => none }
def FnExactDepthOfListWrongFalsely : Prop := fnExactDepthOfListRow.holds Try.pinned (OpenSpec.ofChange fnExactDepthOfListWrong)

/-- 'laws.FnExactIsClosedList': WHATEVER THE INPUT: true; the input reads as it did. -/
def fnExactIsClosedListSpec : ChangeSpec := { name := "fnExactIsClosedList", fn := fun _ => fun
  | [d1, d2] => { results := [.lit (.bool true)], args := [d1, d2] }
  | _ => none }
def fnExactIsClosedListRow : OpenClaim := { program := "ytjnnbjlombopnaa", sum := "cbf20c2cc8c625bfcbcb4aba7af6bbae648f69f40ade7eac563e29b29f91ceee", func := "loop.example/g01244/laws.FnExactIsClosedList", spec := "fnExactIsClosedList", unfollowed := true, recurses := true, apart := false }
def FnExactIsClosedListSaid : Prop := fnExactIsClosedListRow.holds Try.pinned (OpenSpec.ofChange fnExactIsClosedListSpec)

/-- ITS FALSE NEIGHBOUR: 'it returns false'. Refute it at one input. -/
def fnExactIsClosedListWrong : ChangeSpec := { name := "fnExactIsClosedList", fn := fun _ => fun
  | [d1, d2] => { results := [.lit (.bool false)], args := [d1, d2] }
  | _ => none }
def FnExactIsClosedListWrongFalsely : Prop := fnExactIsClosedListRow.holds Try.pinned (OpenSpec.ofChange fnExactIsClosedListWrong)

/- THE SECOND FORM. 'bulk': how many values and letters a reading holds, each counted each time it is reached (what is shared counts as often as it is met; a slice's spare places count too). A statement '..UptoSaid' is the law's where the arguments, and the package variables that the reading takes, are together of bulk at most 1048576: NARROWER than '..Said'. Prove '..Said' where nothing that the law and all that it calls make is longer than what came in: it says more and counts as full. Else prove '..UptoSaid'. A law counts once. -/
mutual
def uptoBulk {H : Type} : DataW H → Nat
  | .lit (.string bytes) => bytes.length + 1
  | .lit _ => 1
  | .nil => 1
  | .ptr d => uptoBulk d + 1
  | .slice elems spare => uptoBulkAll elems + uptoBulkAll spare + 1
  | .agg parts => uptoBulkAll parts + 1
  | .iface _ d => uptoBulk d + 1
  | .map entries => uptoBulkEntries entries + 1
  | .held _ => 1
def uptoBulkAll {H : Type} : List (DataW H) → Nat
  | [] => 0
  | d :: r => uptoBulk d + uptoBulkAll r
def uptoBulkEntries {H : Type} : List (Lit × DataW H) → Nat
  | [] => 0
  | x :: r => uptoBulkEntry x + uptoBulkEntries r
def uptoBulkEntry {H : Type} : Lit × DataW H → Nat
  | (.string bytes, d) => bytes.length + uptoBulk d + 1
  | (_, d) => uptoBulk d + 1
 end
def uptoSmall : (H : Type) → List (DataW H) → Bool := fun _ ds => decide (uptoBulkAll ds ≤ 1048576)
def OpenSpec.upto (s : _root_.Go.ChangeSpec) : _root_.Go.OpenSpec := { _root_.Go.OpenSpec.ofChange s with cond := some uptoSmall }

/-- 'laws.FnExactIsMachine', WHERE WHAT IT READS IS OF BULK AT MOST 1048576: true; the input reads as it did. -/
def fnExactIsMachineUptoRow : OpenClaim := { program := "ytjnnbjlombopnaa", sum := "cbf20c2cc8c625bfcbcb4aba7af6bbae648f69f40ade7eac563e29b29f91ceee", func := "loop.example/g01244/laws.FnExactIsMachine", spec := "fnExactIsMachine", apart := false, narrowed := true }
def FnExactIsMachineUptoSaid : Prop := fnExactIsMachineUptoRow.holds Try.pinned (OpenSpec.upto fnExactIsMachineSpec)

/-- 'laws.FnExactIsGroupWord', WHERE WHAT IT READS IS OF BULK AT MOST 1048576: true; the input reads as it did. -/
def fnExactIsGroupWordUptoRow : OpenClaim := { program := "ytjnnbjlombopnaa", sum := "cbf20c2cc8c625bfcbcb4aba7af6bbae648f69f40ade7eac563e29b29f91ceee", func := "loop.example/g01244/laws.FnExactIsGroupWord", spec := "fnExactIsGroupWord", unfollowed := true, recurses := true, apart := false, narrowed := true }
def FnExactIsGroupWordUptoSaid : Prop := fnExactIsGroupWordUptoRow.holds Try.pinned (OpenSpec.upto fnExactIsGroupWordSpec)

/-- 'laws.FnExactInverseMachine', WHERE WHAT IT READS IS OF BULK AT MOST 1048576: true; the input reads as it did. -/
def fnExactInverseMachineUptoRow : OpenClaim := { program := "ytjnnbjlombopnaa", sum := "cbf20c2cc8c625bfcbcb4aba7af6bbae648f69f40ade7eac563e29b29f91ceee", func := "loop.example/g01244/laws.FnExactInverseMachine", spec := "fnExactInverseMachine", apart := false, narrowed := true }
def FnExactInverseMachineUptoSaid : Prop := fnExactInverseMachineUptoRow.holds Try.pinned (OpenSpec.upto fnExactInverseMachineSpec)

/-- 'laws.FnExactActOnWord', WHERE WHAT IT READS IS OF BULK AT MOST 1048576: true; the input reads as it did. -/
def fnExactActOnWordUptoRow : OpenClaim := { program := "ytjnnbjlombopnaa", sum := "cbf20c2cc8c625bfcbcb4aba7af6bbae648f69f40ade7eac563e29b29f91ceee", func := "loop.example/g01244/laws.FnExactActOnWord", spec := "fnExactActOnWord", unfollowed := true, recurses := true, apart := false, narrowed := true }
def FnExactActOnWordUptoSaid : Prop := fnExactActOnWordUptoRow.holds Try.pinned (OpenSpec.upto fnExactActOnWordSpec)

/-- 'laws.FnExactSectionAt', WHERE WHAT IT READS IS OF BULK AT MOST 1048576: true; the input reads as it did. -/
def fnExactSectionAtUptoRow : OpenClaim := { program := "ytjnnbjlombopnaa", sum := "cbf20c2cc8c625bfcbcb4aba7af6bbae648f69f40ade7eac563e29b29f91ceee", func := "loop.example/g01244/laws.FnExactSectionAt", spec := "fnExactSectionAt", unfollowed := true, recurses := true, apart := false, narrowed := true }
def FnExactSectionAtUptoSaid : Prop := fnExactSectionAtUptoRow.holds Try.pinned (OpenSpec.upto fnExactSectionAtSpec)

/-- 'laws.FnExactGroupText', WHERE WHAT IT READS IS OF BULK AT MOST 1048576: true; the input reads as it did. -/
def fnExactGroupTextUptoRow : OpenClaim := { program := "ytjnnbjlombopnaa", sum := "cbf20c2cc8c625bfcbcb4aba7af6bbae648f69f40ade7eac563e29b29f91ceee", func := "loop.example/g01244/laws.FnExactGroupText", spec := "fnExactGroupText", unfollowed := true, recurses := true, apart := false, narrowed := true }
def FnExactGroupTextUptoSaid : Prop := fnExactGroupTextUptoRow.holds Try.pinned (OpenSpec.upto fnExactGroupTextSpec)

/-- 'laws.FnExactParseGroup', WHERE WHAT IT READS IS OF BULK AT MOST 1048576: true; the input reads as it did. -/
def fnExactParseGroupUptoRow : OpenClaim := { program := "ytjnnbjlombopnaa", sum := "cbf20c2cc8c625bfcbcb4aba7af6bbae648f69f40ade7eac563e29b29f91ceee", func := "loop.example/g01244/laws.FnExactParseGroup", spec := "fnExactParseGroup", inPlace := ["internal/bytealg.IndexByteString"], unfollowed := true, recurses := true, apart := false, narrowed := true }
def FnExactParseGroupUptoSaid : Prop := fnExactParseGroupUptoRow.holds Try.pinned (OpenSpec.upto fnExactParseGroupSpec)

/-- 'laws.FnExactTrivialStates', WHERE WHAT IT READS IS OF BULK AT MOST 1048576: true; the input reads as it did. -/
def fnExactTrivialStatesUptoRow : OpenClaim := { program := "ytjnnbjlombopnaa", sum := "cbf20c2cc8c625bfcbcb4aba7af6bbae648f69f40ade7eac563e29b29f91ceee", func := "loop.example/g01244/laws.FnExactTrivialStates", spec := "fnExactTrivialStates", unfollowed := true, recurses := true, apart := false, narrowed := true }
def FnExactTrivialStatesUptoSaid : Prop := fnExactTrivialStatesUptoRow.holds Try.pinned (OpenSpec.upto fnExactTrivialStatesSpec)

/-- 'laws.FnExactInverseWord', WHERE WHAT IT READS IS OF BULK AT MOST 1048576: true; the input reads as it did. -/
def fnExactInverseWordUptoRow : OpenClaim := { program := "ytjnnbjlombopnaa", sum := "cbf20c2cc8c625bfcbcb4aba7af6bbae648f69f40ade7eac563e29b29f91ceee", func := "loop.example/g01244/laws.FnExactInverseWord", spec := "fnExactInverseWord", unfollowed := true, recurses := true, apart := false, narrowed := true }
def FnExactInverseWordUptoSaid : Prop := fnExactInverseWordUptoRow.holds Try.pinned (OpenSpec.upto fnExactInverseWordSpec)

/-- 'laws.FnExactMachineText', WHERE WHAT IT READS IS OF BULK AT MOST 1048576: true; the input reads as it did. -/
def fnExactMachineTextUptoRow : OpenClaim := { program := "ytjnnbjlombopnaa", sum := "cbf20c2cc8c625bfcbcb4aba7af6bbae648f69f40ade7eac563e29b29f91ceee", func := "loop.example/g01244/laws.FnExactMachineText", spec := "fnExactMachineText", inPlace := ["internal/abi.NoEscape", "internal/bytealg.MakeNoZero"], recurses := true, apart := false, narrowed := true }
def FnExactMachineTextUptoSaid : Prop := fnExactMachineTextUptoRow.holds Try.pinned (OpenSpec.upto fnExactMachineTextSpec)

/-- 'laws.FnExactAreEqualStates', WHERE WHAT IT READS IS OF BULK AT MOST 1048576: true; the input reads as it did. -/
def fnExactAreEqualStatesUptoRow : OpenClaim := { program := "ytjnnbjlombopnaa", sum := "cbf20c2cc8c625bfcbcb4aba7af6bbae648f69f40ade7eac563e29b29f91ceee", func := "loop.example/g01244/laws.FnExactAreEqualStates", spec := "fnExactAreEqualStates", unfollowed := true, recurses := true, apart := false, narrowed := true }
def FnExactAreEqualStatesUptoSaid : Prop := fnExactAreEqualStatesUptoRow.holds Try.pinned (OpenSpec.upto fnExactAreEqualStatesSpec)

/-- 'laws.FnExactMultiplyWords', WHERE WHAT IT READS IS OF BULK AT MOST 1048576: true; the input reads as it did. -/
def fnExactMultiplyWordsUptoRow : OpenClaim := { program := "ytjnnbjlombopnaa", sum := "cbf20c2cc8c625bfcbcb4aba7af6bbae648f69f40ade7eac563e29b29f91ceee", func := "loop.example/g01244/laws.FnExactMultiplyWords", spec := "fnExactMultiplyWords", unfollowed := true, recurses := true, apart := false, narrowed := true }
def FnExactMultiplyWordsUptoSaid : Prop := fnExactMultiplyWordsUptoRow.holds Try.pinned (OpenSpec.upto fnExactMultiplyWordsSpec)

/-- 'laws.FnExactOrbitOfWord', WHERE WHAT IT READS IS OF BULK AT MOST 1048576: true; the input reads as it did. -/
def fnExactOrbitOfWordUptoRow : OpenClaim := { program := "ytjnnbjlombopnaa", sum := "cbf20c2cc8c625bfcbcb4aba7af6bbae648f69f40ade7eac563e29b29f91ceee", func := "loop.example/g01244/laws.FnExactOrbitOfWord", spec := "fnExactOrbitOfWord", unfollowed := true, recurses := true, apart := false, narrowed := true }
def FnExactOrbitOfWordUptoSaid : Prop := fnExactOrbitOfWordUptoRow.holds Try.pinned (OpenSpec.upto fnExactOrbitOfWordSpec)

/-- 'laws.FnExactCommutatorOf', WHERE WHAT IT READS IS OF BULK AT MOST 1048576: true; the input reads as it did. -/
def fnExactCommutatorOfUptoRow : OpenClaim := { program := "ytjnnbjlombopnaa", sum := "cbf20c2cc8c625bfcbcb4aba7af6bbae648f69f40ade7eac563e29b29f91ceee", func := "loop.example/g01244/laws.FnExactCommutatorOf", spec := "fnExactCommutatorOf", unfollowed := true, recurses := true, apart := false, narrowed := true }
def FnExactCommutatorOfUptoSaid : Prop := fnExactCommutatorOfUptoRow.holds Try.pinned (OpenSpec.upto fnExactCommutatorOfSpec)

/-- 'laws.FnExactPowerWord', WHERE WHAT IT READS IS OF BULK AT MOST 1048576: true; the input reads as it did. -/
def fnExactPowerWordUptoRow : OpenClaim := { program := "ytjnnbjlombopnaa", sum := "cbf20c2cc8c625bfcbcb4aba7af6bbae648f69f40ade7eac563e29b29f91ceee", func := "loop.example/g01244/laws.FnExactPowerWord", spec := "fnExactPowerWord", unfollowed := true, recurses := true, apart := false, narrowed := true }
def FnExactPowerWordUptoSaid : Prop := fnExactPowerWordUptoRow.holds Try.pinned (OpenSpec.upto fnExactPowerWordSpec)

/-- 'laws.FnExactMinimalMachine', WHERE WHAT IT READS IS OF BULK AT MOST 1048576: true; the input reads as it did. -/
def fnExactMinimalMachineUptoRow : OpenClaim := { program := "ytjnnbjlombopnaa", sum := "cbf20c2cc8c625bfcbcb4aba7af6bbae648f69f40ade7eac563e29b29f91ceee", func := "loop.example/g01244/laws.FnExactMinimalMachine", spec := "fnExactMinimalMachine", unfollowed := true, recurses := true, apart := false, narrowed := true }
def FnExactMinimalMachineUptoSaid : Prop := fnExactMinimalMachineUptoRow.holds Try.pinned (OpenSpec.upto fnExactMinimalMachineSpec)

/-- 'laws.FnExactNormalWord', WHERE WHAT IT READS IS OF BULK AT MOST 1048576: true; the input reads as it did. -/
def fnExactNormalWordUptoRow : OpenClaim := { program := "ytjnnbjlombopnaa", sum := "cbf20c2cc8c625bfcbcb4aba7af6bbae648f69f40ade7eac563e29b29f91ceee", func := "loop.example/g01244/laws.FnExactNormalWord", spec := "fnExactNormalWord", unfollowed := true, recurses := true, apart := false, narrowed := true }
def FnExactNormalWordUptoSaid : Prop := fnExactNormalWordUptoRow.holds Try.pinned (OpenSpec.upto fnExactNormalWordSpec)

/-- 'laws.FnExactWreathOf', WHERE WHAT IT READS IS OF BULK AT MOST 1048576: true; the input reads as it did. -/
def fnExactWreathOfUptoRow : OpenClaim := { program := "ytjnnbjlombopnaa", sum := "cbf20c2cc8c625bfcbcb4aba7af6bbae648f69f40ade7eac563e29b29f91ceee", func := "loop.example/g01244/laws.FnExactWreathOf", spec := "fnExactWreathOf", unfollowed := true, recurses := true, apart := false, narrowed := true }
def FnExactWreathOfUptoSaid : Prop := fnExactWreathOfUptoRow.holds Try.pinned (OpenSpec.upto fnExactWreathOfSpec)

/-- 'laws.FnExactFirstDifference', WHERE WHAT IT READS IS OF BULK AT MOST 1048576: true; the input reads as it did. -/
def fnExactFirstDifferenceUptoRow : OpenClaim := { program := "ytjnnbjlombopnaa", sum := "cbf20c2cc8c625bfcbcb4aba7af6bbae648f69f40ade7eac563e29b29f91ceee", func := "loop.example/g01244/laws.FnExactFirstDifference", spec := "fnExactFirstDifference", unfollowed := true, recurses := true, apart := false, narrowed := true }
def FnExactFirstDifferenceUptoSaid : Prop := fnExactFirstDifferenceUptoRow.holds Try.pinned (OpenSpec.upto fnExactFirstDifferenceSpec)

/-- 'laws.FnExactPermutationOf', WHERE WHAT IT READS IS OF BULK AT MOST 1048576: true; the input reads as it did. -/
def fnExactPermutationOfUptoRow : OpenClaim := { program := "ytjnnbjlombopnaa", sum := "cbf20c2cc8c625bfcbcb4aba7af6bbae648f69f40ade7eac563e29b29f91ceee", func := "loop.example/g01244/laws.FnExactPermutationOf", spec := "fnExactPermutationOf", unfollowed := true, recurses := true, apart := false, narrowed := true }
def FnExactPermutationOfUptoSaid : Prop := fnExactPermutationOfUptoRow.holds Try.pinned (OpenSpec.upto fnExactPermutationOfSpec)

/-- 'laws.FnExactIsTrivialWord', WHERE WHAT IT READS IS OF BULK AT MOST 1048576: true; the input reads as it did. -/
def fnExactIsTrivialWordUptoRow : OpenClaim := { program := "ytjnnbjlombopnaa", sum := "cbf20c2cc8c625bfcbcb4aba7af6bbae648f69f40ade7eac563e29b29f91ceee", func := "loop.example/g01244/laws.FnExactIsTrivialWord", spec := "fnExactIsTrivialWord", unfollowed := true, recurses := true, apart := false, narrowed := true }
def FnExactIsTrivialWordUptoSaid : Prop := fnExactIsTrivialWordUptoRow.holds Try.pinned (OpenSpec.upto fnExactIsTrivialWordSpec)

/-- 'laws.FnExactSectionLengths', WHERE WHAT IT READS IS OF BULK AT MOST 1048576: true; the input reads as it did. -/
def fnExactSectionLengthsUptoRow : OpenClaim := { program := "ytjnnbjlombopnaa", sum := "cbf20c2cc8c625bfcbcb4aba7af6bbae648f69f40ade7eac563e29b29f91ceee", func := "loop.example/g01244/laws.FnExactSectionLengths", spec := "fnExactSectionLengths", unfollowed := true, recurses := true, apart := false, narrowed := true }
def FnExactSectionLengthsUptoSaid : Prop := fnExactSectionLengthsUptoRow.holds Try.pinned (OpenSpec.upto fnExactSectionLengthsSpec)

/-- 'laws.FnExactSectionsOfLevel', WHERE WHAT IT READS IS OF BULK AT MOST 1048576: true; the input reads as it did. -/
def fnExactSectionsOfLevelUptoRow : OpenClaim := { program := "ytjnnbjlombopnaa", sum := "cbf20c2cc8c625bfcbcb4aba7af6bbae648f69f40ade7eac563e29b29f91ceee", func := "loop.example/g01244/laws.FnExactSectionsOfLevel", spec := "fnExactSectionsOfLevel", unfollowed := true, recurses := true, apart := false, narrowed := true }
def FnExactSectionsOfLevelUptoSaid : Prop := fnExactSectionsOfLevelUptoRow.holds Try.pinned (OpenSpec.upto fnExactSectionsOfLevelSpec)

/-- 'laws.FnExactAreEqualWords', WHERE WHAT IT READS IS OF BULK AT MOST 1048576: true; the input reads as it did. -/
def fnExactAreEqualWordsUptoRow : OpenClaim := { program := "ytjnnbjlombopnaa", sum := "cbf20c2cc8c625bfcbcb4aba7af6bbae648f69f40ade7eac563e29b29f91ceee", func := "loop.example/g01244/laws.FnExactAreEqualWords", spec := "fnExactAreEqualWords", unfollowed := true, recurses := true, apart := false, narrowed := true }
def FnExactAreEqualWordsUptoSaid : Prop := fnExactAreEqualWordsUptoRow.holds Try.pinned (OpenSpec.upto fnExactAreEqualWordsSpec)

/-- 'laws.FnExactLastingSections', WHERE WHAT IT READS IS OF BULK AT MOST 1048576: true; the input reads as it did. -/
def fnExactLastingSectionsUptoRow : OpenClaim := { program := "ytjnnbjlombopnaa", sum := "cbf20c2cc8c625bfcbcb4aba7af6bbae648f69f40ade7eac563e29b29f91ceee", func := "loop.example/g01244/laws.FnExactLastingSections", spec := "fnExactLastingSections", unfollowed := true, recurses := true, apart := false, narrowed := true }
def FnExactLastingSectionsUptoSaid : Prop := fnExactLastingSectionsUptoRow.holds Try.pinned (OpenSpec.upto fnExactLastingSectionsSpec)

/-- 'laws.FnExactMachineOfWord', WHERE WHAT IT READS IS OF BULK AT MOST 1048576: true; the input reads as it did. -/
def fnExactMachineOfWordUptoRow : OpenClaim := { program := "ytjnnbjlombopnaa", sum := "cbf20c2cc8c625bfcbcb4aba7af6bbae648f69f40ade7eac563e29b29f91ceee", func := "loop.example/g01244/laws.FnExactMachineOfWord", spec := "fnExactMachineOfWord", unfollowed := true, recurses := true, apart := false, narrowed := true }
def FnExactMachineOfWordUptoSaid : Prop := fnExactMachineOfWordUptoRow.holds Try.pinned (OpenSpec.upto fnExactMachineOfWordSpec)

/-- 'laws.FnExactIsInList', WHERE WHAT IT READS IS OF BULK AT MOST 1048576: true; the input reads as it did. -/
def fnExactIsInListUptoRow : OpenClaim := { program := "ytjnnbjlombopnaa", sum := "cbf20c2cc8c625bfcbcb4aba7af6bbae648f69f40ade7eac563e29b29f91ceee", func := "loop.example/g01244/laws.FnExactIsInList", spec := "fnExactIsInList", unfollowed := true, recurses := true, apart := false, narrowed := true }
def FnExactIsInListUptoSaid : Prop := fnExactIsInListUptoRow.holds Try.pinned (OpenSpec.upto fnExactIsInListSpec)

/-- 'laws.FnExactDepthOfList', WHERE WHAT IT READS IS OF BULK AT MOST 1048576: true; the input reads as it did. -/
def fnExactDepthOfListUptoRow : OpenClaim := { program := "ytjnnbjlombopnaa", sum := "cbf20c2cc8c625bfcbcb4aba7af6bbae648f69f40ade7eac563e29b29f91ceee", func := "loop.example/g01244/laws.FnExactDepthOfList", spec := "fnExactDepthOfList", unfollowed := true, recurses := true, apart := false, narrowed := true }
def FnExactDepthOfListUptoSaid : Prop := fnExactDepthOfListUptoRow.holds Try.pinned (OpenSpec.upto fnExactDepthOfListSpec)

/-- 'laws.FnExactIsClosedList', WHERE WHAT IT READS IS OF BULK AT MOST 1048576: true; the input reads as it did. -/
def fnExactIsClosedListUptoRow : OpenClaim := { program := "ytjnnbjlombopnaa", sum := "cbf20c2cc8c625bfcbcb4aba7af6bbae648f69f40ade7eac563e29b29f91ceee", func := "loop.example/g01244/laws.FnExactIsClosedList", spec := "fnExactIsClosedList", unfollowed := true, recurses := true, apart := false, narrowed := true }
def FnExactIsClosedListUptoSaid : Prop := fnExactIsClosedListUptoRow.holds Try.pinned (OpenSpec.upto fnExactIsClosedListSpec)

end Rows
end Go.Proofs.Ytjnnbjlombopnaa
