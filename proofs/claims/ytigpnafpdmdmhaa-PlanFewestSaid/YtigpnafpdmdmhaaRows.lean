/-
  No cell of these rows narrows 'for every input' (looked for: loops, veiled, ifaces, maps, wideKeys, modest, calm, conditions, laid).
  DERIVED. THE GIVEN ROWS OF THIS SEAT. 11 by the template 'for every input the law returns true; each argument reads behind the call as it read before'; 0 by the template 'total and deterministic' (their statements: YtigpnafpdmdmhaaTotals.lean).
  GIVEN WITH THE SEED: the statements are not yours to turn. If you find one false, say at which input.
  Laid BY PROGRAM, IN A SANDBOX (cutbox-rows.mjs): the forced cells as the released guide's own fill.sh prints them over the translation bad662647904e9bc… (all of the seat's roots in one cut). By AI agents, Wed Nov 11 2026. No macro, syntax, notation, axiom, sorry.
-/
import Derived.Test.YtigpnafpdmdmhaaChecked
import GoSem.Claim
import GoSem.ClaimJoined
import GoSem.ClaimMapViews
import Derived.JoinedTies
import Derived.KernelRfl
namespace Go.Proofs.Ytigpnafpdmdmhaa
/- THE CELL 'sum', in the pinned program and in every row, IS THE sha256 OF THE DUMP (.gsa) THAT YtigpnafpdmdmhaaProg.lean LOADS. Nothing in Lean hashes anything: it is a label: what it is worth is what the hold of that sum in a sandbox is worth. -/
noncomputable def Try.pinned : Pinned := { name := "ytigpnafpdmdmhaa", sum := "bad662647904e9bc6be864cb6af5d8b7291e3782f0dc8845d967e4cccf18b91b", checked := Try.checked }
namespace Rows
def none {H : Type} : Left H := { results := [], args := [] }

/-- 'tensilelaw09.PlanChances': WHATEVER THE INPUT: true; the input reads as it did. -/
def planChancesSpec : ChangeSpec := { name := "planChances", fn := fun _ => fun
  | [d1, d2] => { results := [.lit (.bool true)], args := [d1, d2] }
  | _ => none }
def planChancesRow : OpenClaim := { program := "ytigpnafpdmdmhaa", sum := "bad662647904e9bc6be864cb6af5d8b7291e3782f0dc8845d967e4cccf18b91b", func := "tensile/tensilelaw09.PlanChances", spec := "planChances", unfollowed := true, recurses := true, plainKeys := false, apart := false }
def PlanChancesSaid : Prop := planChancesRow.holds Try.pinned (OpenSpec.ofChange planChancesSpec)

/-- ITS FALSE NEIGHBOUR: 'it returns false'. Refute it at one input. -/
def planChancesWrong : ChangeSpec := { name := "planChances", fn := fun _ => fun
  | [d1, d2] => { results := [.lit (.bool false)], args := [d1, d2] }
  | _ => none }
def PlanChancesWrongFalsely : Prop := planChancesRow.holds Try.pinned (OpenSpec.ofChange planChancesWrong)

/-- 'tensilelaw09.PlanMeans': WHATEVER THE INPUT: true; the input reads as it did. -/
def planMeansSpec : ChangeSpec := { name := "planMeans", fn := fun _ => fun
  | [d1, d2] => { results := [.lit (.bool true)], args := [d1, d2] }
  | _ => none }
def planMeansRow : OpenClaim := { program := "ytigpnafpdmdmhaa", sum := "bad662647904e9bc6be864cb6af5d8b7291e3782f0dc8845d967e4cccf18b91b", func := "tensile/tensilelaw09.PlanMeans", spec := "planMeans", unfollowed := true, recurses := true, plainKeys := false, apart := false }
def PlanMeansSaid : Prop := planMeansRow.holds Try.pinned (OpenSpec.ofChange planMeansSpec)

/-- ITS FALSE NEIGHBOUR: 'it returns false'. Refute it at one input. -/
def planMeansWrong : ChangeSpec := { name := "planMeans", fn := fun _ => fun
  | [d1, d2] => { results := [.lit (.bool false)], args := [d1, d2] }
  | _ => none }
def PlanMeansWrongFalsely : Prop := planMeansRow.holds Try.pinned (OpenSpec.ofChange planMeansWrong)

/-- 'tensilelaw09.PlanPlays': WHATEVER THE INPUT: true; the input reads as it did. -/
def planPlaysSpec : ChangeSpec := { name := "planPlays", fn := fun _ => fun
  | [d1, d2] => { results := [.lit (.bool true)], args := [d1, d2] }
  | _ => none }
def planPlaysRow : OpenClaim := { program := "ytigpnafpdmdmhaa", sum := "bad662647904e9bc6be864cb6af5d8b7291e3782f0dc8845d967e4cccf18b91b", func := "tensile/tensilelaw09.PlanPlays", spec := "planPlays", unfollowed := true, recurses := true, plainKeys := false, apart := false }
def PlanPlaysSaid : Prop := planPlaysRow.holds Try.pinned (OpenSpec.ofChange planPlaysSpec)

/-- ITS FALSE NEIGHBOUR: 'it returns false'. Refute it at one input. -/
def planPlaysWrong : ChangeSpec := { name := "planPlays", fn := fun _ => fun
  | [d1, d2] => { results := [.lit (.bool false)], args := [d1, d2] }
  | _ => none }
def PlanPlaysWrongFalsely : Prop := planPlaysRow.holds Try.pinned (OpenSpec.ofChange planPlaysWrong)

/-- 'tensilelaw09.PlanDraws': WHATEVER THE INPUT: true; the input reads as it did. -/
def planDrawsSpec : ChangeSpec := { name := "planDraws", fn := fun _ => fun
  | [d1, d2] => { results := [.lit (.bool true)], args := [d1, d2] }
  | _ => none }
def planDrawsRow : OpenClaim := { program := "ytigpnafpdmdmhaa", sum := "bad662647904e9bc6be864cb6af5d8b7291e3782f0dc8845d967e4cccf18b91b", func := "tensile/tensilelaw09.PlanDraws", spec := "planDraws", unfollowed := true, recurses := true, plainKeys := false, apart := false }
def PlanDrawsSaid : Prop := planDrawsRow.holds Try.pinned (OpenSpec.ofChange planDrawsSpec)

/-- ITS FALSE NEIGHBOUR: 'it returns false'. Refute it at one input. -/
def planDrawsWrong : ChangeSpec := { name := "planDraws", fn := fun _ => fun
  | [d1, d2] => { results := [.lit (.bool false)], args := [d1, d2] }
  | _ => none }
def PlanDrawsWrongFalsely : Prop := planDrawsRow.holds Try.pinned (OpenSpec.ofChange planDrawsWrong)

/-- 'tensilelaw09.PlanMore': WHATEVER THE INPUT: true; the input reads as it did. -/
def planMoreSpec : ChangeSpec := { name := "planMore", fn := fun _ => fun
  | [d] => { results := [.lit (.bool true)], args := [d] }
  | _ => none }
def planMoreRow : OpenClaim := { program := "ytigpnafpdmdmhaa", sum := "bad662647904e9bc6be864cb6af5d8b7291e3782f0dc8845d967e4cccf18b91b", func := "tensile/tensilelaw09.PlanMore", spec := "planMore", unfollowed := true, recurses := true, plainKeys := false, apart := false }
def PlanMoreSaid : Prop := planMoreRow.holds Try.pinned (OpenSpec.ofChange planMoreSpec)

/-- ITS FALSE NEIGHBOUR: 'it returns false'. Refute it at one input. -/
def planMoreWrong : ChangeSpec := { name := "planMore", fn := fun _ => fun
  | [d] => { results := [.lit (.bool false)], args := [d] }
  | _ => none }
def PlanMoreWrongFalsely : Prop := planMoreRow.holds Try.pinned (OpenSpec.ofChange planMoreWrong)

/-- 'tensilelaw09.PlanResults': WHATEVER THE INPUT: true; the input reads as it did. -/
def planResultsSpec : ChangeSpec := { name := "planResults", fn := fun _ => fun
  | [d1, d2, d3] => { results := [.lit (.bool true)], args := [d1, d2, d3] }
  | _ => none }
def planResultsRow : OpenClaim := { program := "ytigpnafpdmdmhaa", sum := "bad662647904e9bc6be864cb6af5d8b7291e3782f0dc8845d967e4cccf18b91b", func := "tensile/tensilelaw09.PlanResults", spec := "planResults", unfollowed := true, recurses := true, plainKeys := false, apart := false }
def PlanResultsSaid : Prop := planResultsRow.holds Try.pinned (OpenSpec.ofChange planResultsSpec)

/-- ITS FALSE NEIGHBOUR: 'it returns false'. Refute it at one input. -/
def planResultsWrong : ChangeSpec := { name := "planResults", fn := fun _ => fun
  | [d1, d2, d3] => { results := [.lit (.bool false)], args := [d1, d2, d3] }
  | _ => none }
def PlanResultsWrongFalsely : Prop := planResultsRow.holds Try.pinned (OpenSpec.ofChange planResultsWrong)

/-- 'tensilelaw09.PlanBetween': WHATEVER THE INPUT: true; the input reads as it did. -/
def planBetweenSpec : ChangeSpec := { name := "planBetween", fn := fun _ => fun
  | [d1, d2] => { results := [.lit (.bool true)], args := [d1, d2] }
  | _ => none }
def planBetweenRow : OpenClaim := { program := "ytigpnafpdmdmhaa", sum := "bad662647904e9bc6be864cb6af5d8b7291e3782f0dc8845d967e4cccf18b91b", func := "tensile/tensilelaw09.PlanBetween", spec := "planBetween", unfollowed := true, recurses := true, plainKeys := false, apart := false }
def PlanBetweenSaid : Prop := planBetweenRow.holds Try.pinned (OpenSpec.ofChange planBetweenSpec)

/-- ITS FALSE NEIGHBOUR: 'it returns false'. Refute it at one input. -/
def planBetweenWrong : ChangeSpec := { name := "planBetween", fn := fun _ => fun
  | [d1, d2] => { results := [.lit (.bool false)], args := [d1, d2] }
  | _ => none }
def PlanBetweenWrongFalsely : Prop := planBetweenRow.holds Try.pinned (OpenSpec.ofChange planBetweenWrong)

/-- 'tensilelaw09.PlanSplit': WHATEVER THE INPUT: true; the input reads as it did. -/
def planSplitSpec : ChangeSpec := { name := "planSplit", fn := fun _ => fun
  | [d1, d2, d3, d4, d5] => { results := [.lit (.bool true)], args := [d1, d2, d3, d4, d5] }
  | _ => none }
def planSplitRow : OpenClaim := { program := "ytigpnafpdmdmhaa", sum := "bad662647904e9bc6be864cb6af5d8b7291e3782f0dc8845d967e4cccf18b91b", func := "tensile/tensilelaw09.PlanSplit", spec := "planSplit", unfollowed := true, recurses := true, plainKeys := false, apart := false }
def PlanSplitSaid : Prop := planSplitRow.holds Try.pinned (OpenSpec.ofChange planSplitSpec)

/-- ITS FALSE NEIGHBOUR: 'it returns false'. Refute it at one input. -/
def planSplitWrong : ChangeSpec := { name := "planSplit", fn := fun _ => fun
  | [d1, d2, d3, d4, d5] => { results := [.lit (.bool false)], args := [d1, d2, d3, d4, d5] }
  | _ => none }
def PlanSplitWrongFalsely : Prop := planSplitRow.holds Try.pinned (OpenSpec.ofChange planSplitWrong)

/-- 'tensilelaw09.PlanKinder': WHATEVER THE INPUT: true; the input reads as it did. -/
def planKinderSpec : ChangeSpec := { name := "planKinder", fn := fun _ => fun
  | [d1, d2, d3, d4] => { results := [.lit (.bool true)], args := [d1, d2, d3, d4] }
  | _ => none }
def planKinderRow : OpenClaim := { program := "ytigpnafpdmdmhaa", sum := "bad662647904e9bc6be864cb6af5d8b7291e3782f0dc8845d967e4cccf18b91b", func := "tensile/tensilelaw09.PlanKinder", spec := "planKinder", unfollowed := true, recurses := true, plainKeys := false, apart := false }
def PlanKinderSaid : Prop := planKinderRow.holds Try.pinned (OpenSpec.ofChange planKinderSpec)

/-- ITS FALSE NEIGHBOUR: 'it returns false'. Refute it at one input. -/
def planKinderWrong : ChangeSpec := { name := "planKinder", fn := fun _ => fun
  | [d1, d2, d3, d4] => { results := [.lit (.bool false)], args := [d1, d2, d3, d4] }
  | _ => none }
def PlanKinderWrongFalsely : Prop := planKinderRow.holds Try.pinned (OpenSpec.ofChange planKinderWrong)

/-- 'tensilelaw09.PlanNames': WHATEVER THE INPUT: true; the input reads as it did. -/
def planNamesSpec : ChangeSpec := { name := "planNames", fn := fun _ => fun
  | [] => { results := [.lit (.bool true)], args := [] }
  | _ => none }
def planNamesRow : OpenClaim := { program := "ytigpnafpdmdmhaa", sum := "bad662647904e9bc6be864cb6af5d8b7291e3782f0dc8845d967e4cccf18b91b", func := "tensile/tensilelaw09.PlanNames", spec := "planNames", unfollowed := true, recurses := true, plainKeys := false, apart := false }
def PlanNamesSaid : Prop := planNamesRow.holds Try.pinned (OpenSpec.ofChange planNamesSpec)

/-- ITS FALSE NEIGHBOUR: 'it returns false'. Refute it at one input. -/
def planNamesWrong : ChangeSpec := { name := "planNames", fn := fun _ => fun
  | [] => { results := [.lit (.bool false)], args := [] }
  | _ => none }
def PlanNamesWrongFalsely : Prop := planNamesRow.holds Try.pinned (OpenSpec.ofChange planNamesWrong)

/-- 'tensilelaw09.PlanFewest': WHATEVER THE INPUT: true; the input reads as it did. -/
def planFewestSpec : ChangeSpec := { name := "planFewest", fn := fun _ => fun
  | [d1, d2, d3, d4, d5] => { results := [.lit (.bool true)], args := [d1, d2, d3, d4, d5] }
  | _ => none }
def planFewestRow : OpenClaim := { program := "ytigpnafpdmdmhaa", sum := "bad662647904e9bc6be864cb6af5d8b7291e3782f0dc8845d967e4cccf18b91b", func := "tensile/tensilelaw09.PlanFewest", spec := "planFewest", unfollowed := true, recurses := true, plainKeys := false, apart := false }
def PlanFewestSaid : Prop := planFewestRow.holds Try.pinned (OpenSpec.ofChange planFewestSpec)

/-- ITS FALSE NEIGHBOUR: 'it returns false'. Refute it at one input. -/
def planFewestWrong : ChangeSpec := { name := "planFewest", fn := fun _ => fun
  | [d1, d2, d3, d4, d5] => { results := [.lit (.bool false)], args := [d1, d2, d3, d4, d5] }
  | _ => none }
def PlanFewestWrongFalsely : Prop := planFewestRow.holds Try.pinned (OpenSpec.ofChange planFewestWrong)

/- THE SECOND FORM. 'bulk': how many values and letters a reading holds, each counted each time it is reached (what is shared counts as often as it is met; a slice's spare places count too). A statement '..UptoSaid' is the law's where the arguments, and the package variables that the reading takes, are together of bulk at most 1048576: NARROWER than '..Said'. Prove '..Said' where nothing that the law and all that it calls make is longer than what came in: it says more and counts as full. Else prove '..UptoSaid'. A law counts once. -/
mutual
def uptoBulk {H : Type} : DataW H → Nat
  | .lit (.string bytes) => bytes.length + 1
  | .lit _ => 1
  | .nil => 1
  | .ptr d => uptoBulk d + 1
  | .slice elems spare => uptoBulkAll elems + uptoBulkAll spare + 1
  | .agg parts => uptoBulkAll parts + 1
  | .iface _ d => uptoBulk d + 1
  | .map entries => uptoBulkEntries entries + 1
  | .held _ => 1
def uptoBulkAll {H : Type} : List (DataW H) → Nat
  | [] => 0
  | d :: r => uptoBulk d + uptoBulkAll r
def uptoBulkEntries {H : Type} : List (Lit × DataW H) → Nat
  | [] => 0
  | x :: r => uptoBulkEntry x + uptoBulkEntries r
def uptoBulkEntry {H : Type} : Lit × DataW H → Nat
  | (.string bytes, d) => bytes.length + uptoBulk d + 1
  | (_, d) => uptoBulk d + 1
 end
def uptoSmall : (H : Type) → List (DataW H) → Bool := fun _ ds => decide (uptoBulkAll ds ≤ 1048576)
def OpenSpec.upto (s : _root_.Go.ChangeSpec) : _root_.Go.OpenSpec := { _root_.Go.OpenSpec.ofChange s with cond := some uptoSmall }

/-- 'tensilelaw09.PlanChances', WHERE WHAT IT READS IS OF BULK AT MOST 1048576: true; the input reads as it did. -/
def planChancesUptoRow : OpenClaim := { program := "ytigpnafpdmdmhaa", sum := "bad662647904e9bc6be864cb6af5d8b7291e3782f0dc8845d967e4cccf18b91b", func := "tensile/tensilelaw09.PlanChances", spec := "planChances", unfollowed := true, recurses := true, plainKeys := false, apart := false, narrowed := true }
def PlanChancesUptoSaid : Prop := planChancesUptoRow.holds Try.pinned (OpenSpec.upto planChancesSpec)

/-- 'tensilelaw09.PlanMeans', WHERE WHAT IT READS IS OF BULK AT MOST 1048576: true; the input reads as it did. -/
def planMeansUptoRow : OpenClaim := { program := "ytigpnafpdmdmhaa", sum := "bad662647904e9bc6be864cb6af5d8b7291e3782f0dc8845d967e4cccf18b91b", func := "tensile/tensilelaw09.PlanMeans", spec := "planMeans", unfollowed := true, recurses := true, plainKeys := false, apart := false, narrowed := true }
def PlanMeansUptoSaid : Prop := planMeansUptoRow.holds Try.pinned (OpenSpec.upto planMeansSpec)

/-- 'tensilelaw09.PlanPlays', WHERE WHAT IT READS IS OF BULK AT MOST 1048576: true; the input reads as it did. -/
def planPlaysUptoRow : OpenClaim := { program := "ytigpnafpdmdmhaa", sum := "bad662647904e9bc6be864cb6af5d8b7291e3782f0dc8845d967e4cccf18b91b", func := "tensile/tensilelaw09.PlanPlays", spec := "planPlays", unfollowed := true, recurses := true, plainKeys := false, apart := false, narrowed := true }
def PlanPlaysUptoSaid : Prop := planPlaysUptoRow.holds Try.pinned (OpenSpec.upto planPlaysSpec)

/-- 'tensilelaw09.PlanDraws', WHERE WHAT IT READS IS OF BULK AT MOST 1048576: true; the input reads as it did. -/
def planDrawsUptoRow : OpenClaim := { program := "ytigpnafpdmdmhaa", sum := "bad662647904e9bc6be864cb6af5d8b7291e3782f0dc8845d967e4cccf18b91b", func := "tensile/tensilelaw09.PlanDraws", spec := "planDraws", unfollowed := true, recurses := true, plainKeys := false, apart := false, narrowed := true }
def PlanDrawsUptoSaid : Prop := planDrawsUptoRow.holds Try.pinned (OpenSpec.upto planDrawsSpec)

/-- 'tensilelaw09.PlanMore', WHERE WHAT IT READS IS OF BULK AT MOST 1048576: true; the input reads as it did. -/
def planMoreUptoRow : OpenClaim := { program := "ytigpnafpdmdmhaa", sum := "bad662647904e9bc6be864cb6af5d8b7291e3782f0dc8845d967e4cccf18b91b", func := "tensile/tensilelaw09.PlanMore", spec := "planMore", unfollowed := true, recurses := true, plainKeys := false, apart := false, narrowed := true }
def PlanMoreUptoSaid : Prop := planMoreUptoRow.holds Try.pinned (OpenSpec.upto planMoreSpec)

/-- 'tensilelaw09.PlanResults', WHERE WHAT IT READS IS OF BULK AT MOST 1048576: true; the input reads as it did. -/
def planResultsUptoRow : OpenClaim := { program := "ytigpnafpdmdmhaa", sum := "bad662647904e9bc6be864cb6af5d8b7291e3782f0dc8845d967e4cccf18b91b", func := "tensile/tensilelaw09.PlanResults", spec := "planResults", unfollowed := true, recurses := true, plainKeys := false, apart := false, narrowed := true }
def PlanResultsUptoSaid : Prop := planResultsUptoRow.holds Try.pinned (OpenSpec.upto planResultsSpec)

/-- 'tensilelaw09.PlanBetween', WHERE WHAT IT READS IS OF BULK AT MOST 1048576: true; the input reads as it did. -/
def planBetweenUptoRow : OpenClaim := { program := "ytigpnafpdmdmhaa", sum := "bad662647904e9bc6be864cb6af5d8b7291e3782f0dc8845d967e4cccf18b91b", func := "tensile/tensilelaw09.PlanBetween", spec := "planBetween", unfollowed := true, recurses := true, plainKeys := false, apart := false, narrowed := true }
def PlanBetweenUptoSaid : Prop := planBetweenUptoRow.holds Try.pinned (OpenSpec.upto planBetweenSpec)

/-- 'tensilelaw09.PlanSplit', WHERE WHAT IT READS IS OF BULK AT MOST 1048576: true; the input reads as it did. -/
def planSplitUptoRow : OpenClaim := { program := "ytigpnafpdmdmhaa", sum := "bad662647904e9bc6be864cb6af5d8b7291e3782f0dc8845d967e4cccf18b91b", func := "tensile/tensilelaw09.PlanSplit", spec := "planSplit", unfollowed := true, recurses := true, plainKeys := false, apart := false, narrowed := true }
def PlanSplitUptoSaid : Prop := planSplitUptoRow.holds Try.pinned (OpenSpec.upto planSplitSpec)

/-- 'tensilelaw09.PlanKinder', WHERE WHAT IT READS IS OF BULK AT MOST 1048576: true; the input reads as it did. -/
def planKinderUptoRow : OpenClaim := { program := "ytigpnafpdmdmhaa", sum := "bad662647904e9bc6be864cb6af5d8b7291e3782f0dc8845d967e4cccf18b91b", func := "tensile/tensilelaw09.PlanKinder", spec := "planKinder", unfollowed := true, recurses := true, plainKeys := false, apart := false, narrowed := true }
def PlanKinderUptoSaid : Prop := planKinderUptoRow.holds Try.pinned (OpenSpec.upto planKinderSpec)

/-- 'tensilelaw09.PlanNames', WHERE WHAT IT READS IS OF BULK AT MOST 1048576: true; the input reads as it did. -/
def planNamesUptoRow : OpenClaim := { program := "ytigpnafpdmdmhaa", sum := "bad662647904e9bc6be864cb6af5d8b7291e3782f0dc8845d967e4cccf18b91b", func := "tensile/tensilelaw09.PlanNames", spec := "planNames", unfollowed := true, recurses := true, plainKeys := false, apart := false, narrowed := true }
def PlanNamesUptoSaid : Prop := planNamesUptoRow.holds Try.pinned (OpenSpec.upto planNamesSpec)

/-- 'tensilelaw09.PlanFewest', WHERE WHAT IT READS IS OF BULK AT MOST 1048576: true; the input reads as it did. -/
def planFewestUptoRow : OpenClaim := { program := "ytigpnafpdmdmhaa", sum := "bad662647904e9bc6be864cb6af5d8b7291e3782f0dc8845d967e4cccf18b91b", func := "tensile/tensilelaw09.PlanFewest", spec := "planFewest", unfollowed := true, recurses := true, plainKeys := false, apart := false, narrowed := true }
def PlanFewestUptoSaid : Prop := planFewestUptoRow.holds Try.pinned (OpenSpec.upto planFewestSpec)

end Rows
end Go.Proofs.Ytigpnafpdmdmhaa
