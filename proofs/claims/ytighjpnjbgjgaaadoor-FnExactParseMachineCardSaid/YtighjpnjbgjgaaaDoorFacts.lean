/- Closed facts on the loaded program that every row asks for: what its head says, read word by word. -/
import Derived.Test.YtighjpnjbgjgaaaDoorRows
import Derived.JoinedOf
import Derived.ProofKit
namespace Go.Proofs.YtighjpnjbgjgaaaDoor

theorem and2 {a b : Bool} (ha : a = true) (hb : b = true) : (a && b) = true := by rw [ha, hb]; rfl
set_option maxRecDepth 1000000 in
theorem head_words : ∃ l, Tryd.prog.initOrder.toList = l ∧ ∃ s rest, wordsSigns l = "harness".toList :: s :: "cut".toList :: rest ∧ isSumSigns s = true := by
  refine ⟨_, String.toList_ofList, ?_⟩
  exact ⟨_, _, rfl, by decide +kernel⟩
theorem behind : ∃ rest, behindMainWord (wordsSigns Tryd.prog.initOrder.toList) = "cut".toList :: rest := by
  obtain ⟨l, hl, s, rest, hw, hs⟩ := head_words
  refine ⟨rest, ?_⟩
  rw [hl, hw]
  simp only [behindMainWord]
  rw [if_pos]
  rw [hs]
  decide
theorem strips (rest : List (List Char)) : stripLifts liftWords ("cut".toList :: rest) = ([], "cut".toList :: rest) := by
  unfold liftWords
  repeat (rw [stripLifts, if_neg (by decide)])
  rw [stripLifts]
theorem noLater : Tryd.prog.laysLater = false := by kernel_rfl
theorem noReflect : Tryd.prog.bearsReflect = false := by kernel_rfl
theorem doorOk : Tryd.prog.doorFits [] = true := by kernel_rfl
section
variable (P : Program) (rest : List (List Char)) (h : behindMainWord (wordsSigns P.initOrder.toList) = "cut".toList :: rest)
include h
theorem headLifts_of : P.headLifts = [] := by
  unfold Program.headLifts
  rw [h, strips]
  simp
theorem mayEnter_of (h1 : P.laysLater = false) (h2 : P.bearsReflect = false) (h3 : P.doorFits [] = true) : P.mayEnter = true := by
  unfold Program.mayEnter
  rw [h]
  simp only [strips, h1, h2, h3]
  rw [show ("cut".toList == "gc".toList || "cut".toList == "spec".toList) = false from by decide, show ("cut".toList == "carried".toList) = false from by decide]
  simp
theorem make_of : P.make = some .cut := by
  unfold Program.make
  rw [h]
  simp only []
  rw [if_neg (by decide), if_pos (by simp)]
theorem lifts_of : P.liftsFinal = false := by
  unfold Program.liftsFinal
  rw [h, headLifts_of P rest h]
  simp only [List.head?_cons]
  rw [show (some "cut".toList == some "carried".toList) = false from by decide]
  simp
end
theorem mayEnter_ok : Tryd.prog.mayEnter = true := behind.elim fun rest h => mayEnter_of _ rest h noLater noReflect doorOk
theorem make_cut : Tryd.prog.make = some .cut := behind.elim fun rest h => make_of _ rest h
theorem lifts_no : Tryd.prog.liftsFinal = false := behind.elim fun rest h => lifts_of _ rest h
theorem f_laid : laidOutB Tryd.prog = true := by kernel_rfl
theorem f_maps : mapsRowed Tryd.prog = true := by kernel_rfl
theorem f_stops : (Tryd.prog.stops == []) = true := by kernel_rfl
theorem f_knobs : (Tryd.prog.stopKnobs == []) = true := by kernel_rfl
theorem f_plain : Tryd.prog.plainKeys = true := by kernel_rfl
theorem f_heard : Tryd.prog.stopsHeard = true := by kernel_rfl
/-- The closed facts of a row, each by itself. -/
theorem joined_of (P : Program) (f : FuncId) (fn : Func) (s : ChangeSpec) (c : OpenClaim)
    (k0 : (c.wf (OpenSpec.ofChange s)) = true)
    (k1 : (laidOutB P) = true)
    (k2 : (mapsRowed P) = true)
    (k3 : (fn.params.all (P.readableRec ·)) = true)
    (k4 : (namedTie P c.named s.vars) = true)
    (k5 : ((c.stops == [])) = true)
    (k6 : ((P.stops == [])) = true)
    (k7 : ((c.knobs == [])) = true)
    (k8 : ((P.stopKnobs == [])) = true)
    (k9 : ((c.inPlace == P.inPlace f)) = true)
    (k10 : ((c.unfollowed == P.unfollowed f)) = true)
    (k11 : ((c.recurses == P.recurses f)) = true)
    (k12 : ((c.named == P.varsNamed f)) = true)
    (k13 : ((c.maps == (fn.params.toList ++ s.plain.varTypes P).any (P.mapsRec ·))) = true)
    (k14 : ((c.ifaces == (fn.params.toList ++ s.plain.varTypes P).any (P.ifacesRec ·))) = true)
    (k15 : ((c.mapsOut == P.mapsAmong fn.resultTypes.toList)) = true)
    (k16 : ((c.loops == (fn.params.toList ++ s.plain.varTypes P).any (P.loopsFrom ·))) = true)
    (k17 : ((c.wideKeys == (fn.params.toList ++ s.plain.varTypes P ++ fn.resultTypes.toList).any (P.wideKeysFrom ·))) = true)
    (k18 : (s.vars.all (P.varReadable ·)) = true)
    (k19 : (fn.resultTypes.all (fun t => P.readableRec t && decide (t < P.types.size))) = true)
    (k20 : ((c.ifacesOut == fn.resultTypes.toList.any (P.ifacesRec ·))) = true)
    (k21 : ((c.loopsOut == fn.resultTypes.toList.any (P.loopsFrom ·))) = true)
    (k22 : ((c.plainKeys == P.plainKeys)) = true)
    (k23 : (c.shortTexts.isNone) = true)
    (k24 : (P.stopsHeard) = true)
    (k25 : (P.mayEnter) = true)
    (k26 : ((c.lifted == P.liftsFinal)) = true)
    (k27 : ((P.make == some c.make)) = true)
    (k28 : ((c.kinds == (if c.domain.isEmpty then [] else fn.params.toList.map fun t => match P.underlying t with | some (.int k) => some k | _ => none))) = true)
    (k29 : ((c.pinned == c.pinnedBy)) = true)
    (k30 : ((c.veiled == (fn.params.toList ++ s.plain.varTypes P ++ fn.resultTypes.toList).any (P.veiledRec ·))) = true)
    (k31 : (c.veiledFits P fn.params.toList (fn.params.toList ++ s.plain.varTypes P ++ fn.resultTypes.toList)) = true) : joinedFacts P f fn s c = true := by
  unfold joinedFacts
  exact (and2 (and2 (and2 (and2 (and2 (and2 (and2 (and2 (and2 (and2 (and2 (and2 (and2 (and2 (and2 (and2 (and2 (and2 (and2 (and2 (and2 (and2 (and2 (and2 (and2 (and2 (and2 (and2 (and2 (and2 (and2 k0 k1) k2) k3) k4) k5) k6) k7) k8) k9) k10) k11) k12) k13) k14) k15) k16) k17) k18) k19) k20) k21) k22) k23) k24) k25) k26) k27) k28) k29) k30) k31)
set_option maxRecDepth 100000 in
theorem joined_prog (f : FuncId) (fn : Func) (s : ChangeSpec) (c : OpenClaim)
    (k0 : (c.wf (OpenSpec.ofChange s)) = true)
    (k3 : (fn.params.all (Tryd.prog.readableRec ·)) = true)
    (k4 : (namedTie Tryd.prog c.named s.vars) = true)
    (k5 : ((c.stops == [])) = true)
    (k7 : ((c.knobs == [])) = true)
    (k9 : ((c.inPlace == Tryd.prog.inPlace f)) = true)
    (k10 : ((c.unfollowed == Tryd.prog.unfollowed f)) = true)
    (k11 : ((c.recurses == Tryd.prog.recurses f)) = true)
    (k12 : ((c.named == Tryd.prog.varsNamed f)) = true)
    (k13 : ((c.maps == (fn.params.toList ++ s.plain.varTypes Tryd.prog).any (Tryd.prog.mapsRec ·))) = true)
    (k14 : ((c.ifaces == (fn.params.toList ++ s.plain.varTypes Tryd.prog).any (Tryd.prog.ifacesRec ·))) = true)
    (k15 : ((c.mapsOut == Tryd.prog.mapsAmong fn.resultTypes.toList)) = true)
    (k16 : ((c.loops == (fn.params.toList ++ s.plain.varTypes Tryd.prog).any (Tryd.prog.loopsFrom ·))) = true)
    (k17 : ((c.wideKeys == (fn.params.toList ++ s.plain.varTypes Tryd.prog ++ fn.resultTypes.toList).any (Tryd.prog.wideKeysFrom ·))) = true)
    (k18 : (s.vars.all (Tryd.prog.varReadable ·)) = true)
    (k19 : (fn.resultTypes.all (fun t => Tryd.prog.readableRec t && decide (t < Tryd.prog.types.size))) = true)
    (k20 : ((c.ifacesOut == fn.resultTypes.toList.any (Tryd.prog.ifacesRec ·))) = true)
    (k21 : ((c.loopsOut == fn.resultTypes.toList.any (Tryd.prog.loopsFrom ·))) = true)
    (k22 : c.plainKeys = true)
    (k23 : (c.shortTexts.isNone) = true)
    (k26 : c.lifted = false)
    (k27 : c.make = .cut)
    (k28 : ((c.kinds == (if c.domain.isEmpty then [] else fn.params.toList.map fun t => match Tryd.prog.underlying t with | some (.int k) => some k | _ => none))) = true)
    (k29 : ((c.pinned == c.pinnedBy)) = true)
    (k30 : ((c.veiled == (fn.params.toList ++ s.plain.varTypes Tryd.prog ++ fn.resultTypes.toList).any (Tryd.prog.veiledRec ·))) = true)
    (k31 : (c.veiledFits Tryd.prog fn.params.toList (fn.params.toList ++ s.plain.varTypes Tryd.prog ++ fn.resultTypes.toList)) = true) : joinedFacts Tryd.prog f fn s c = true :=
  joined_of _ f fn s c k0 f_laid f_maps k3 k4 k5 f_stops k7 f_knobs k9 k10 k11 k12 k13 k14 k15 k16 k17 k18 k19 k20 k21 (by rw [k22, f_plain]; rfl) k23 f_heard mayEnter_ok (by rw [k26, lifts_no]; rfl) (by rw [k27, make_cut]; rfl) k28 k29 k30 k31
end Go.Proofs.YtighjpnjbgjgaaaDoor
