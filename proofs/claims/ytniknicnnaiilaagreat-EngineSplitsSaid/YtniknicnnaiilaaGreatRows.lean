/-
  No cell of these rows narrows 'for every input' (looked for: loops, veiled, ifaces, maps, wideKeys, modest, calm, conditions, laid).
  DERIVED. THE GIVEN ROWS OF THIS SEAT. 9 by the template 'for every input the law returns true; each argument reads behind the call as it read before'; 0 by the template 'total and deterministic' (their statements: YtniknicnnaiilaaGreatTotals.lean).
  GIVEN WITH THE SEED: the statements are not yours to turn. If you find one false, say at which input.
  Laid BY PROGRAM, IN A SANDBOX (cutbox-rows.mjs): the forced cells as the released guide's own fill.sh prints them over the translation db10a586fbe1941c… (all of the seat's roots in one cut). By AI agents, Wed Nov 11 2026. No macro, syntax, notation, axiom, sorry.
-/
import Derived.Test.YtniknicnnaiilaaGreatChecked
import GoSem.Claim
import GoSem.ClaimJoined
import GoSem.ClaimMapViews
import Derived.JoinedTies
import Derived.KernelRfl
namespace Go.Proofs.YtniknicnnaiilaaGreat
/- THE CELL 'sum', in the pinned program and in every row, IS THE sha256 OF THE DUMP (.gsa) THAT YtniknicnnaiilaaGreatProg.lean LOADS. Nothing in Lean hashes anything: it is a label: what it is worth is what the hold of that sum in a sandbox is worth. -/
noncomputable def Tryz.pinned : Pinned := { name := "ytniknicnnaiilaagreat", sum := "db10a586fbe1941c7b109bf063baa8c18d6a01c21af8e10db987f61a550d1607", checked := Tryz.checked }
namespace Rows
def none {H : Type} : Left H := { results := [], args := [] }

/-- 'teasellaw16.EngineChildren': WHATEVER THE INPUT: true; the input reads as it did. -/
def engineChildrenSpec : ChangeSpec := { name := "engineChildren", fn := fun _ => fun
  | [d1, d2, d3, d4, d5] => { results := [.lit (.bool true)], args := [d1, d2, d3, d4, d5] }
  | _ => none }
def engineChildrenRow : OpenClaim := { program := "ytniknicnnaiilaagreat", sum := "db10a586fbe1941c7b109bf063baa8c18d6a01c21af8e10db987f61a550d1607", func := "teasel/teasellaw16.EngineChildren", spec := "engineChildren", inPlace := ["maps.clone", "slices.overlaps[teasel/timers.Item]"], unfollowed := true, recurses := true, plainKeys := false, apart := false }
def EngineChildrenSaid : Prop := engineChildrenRow.holds Tryz.pinned (OpenSpec.ofChange engineChildrenSpec)

/-- ITS FALSE NEIGHBOUR: 'it returns false'. Refute it at one input. -/
def engineChildrenWrong : ChangeSpec := { name := "engineChildren", fn := fun _ => fun
  | [d1, d2, d3, d4, d5] => { results := [.lit (.bool false)], args := [d1, d2, d3, d4, d5] }
  | _ => none }
def EngineChildrenWrongFalsely : Prop := engineChildrenRow.holds Tryz.pinned (OpenSpec.ofChange engineChildrenWrong)

/-- 'teasellaw16.EngineContinues': WHATEVER THE INPUT: true; the input reads as it did. -/
def engineContinuesSpec : ChangeSpec := { name := "engineContinues", fn := fun _ => fun
  | [d1, d2] => { results := [.lit (.bool true)], args := [d1, d2] }
  | _ => none }
def engineContinuesRow : OpenClaim := { program := "ytniknicnnaiilaagreat", sum := "db10a586fbe1941c7b109bf063baa8c18d6a01c21af8e10db987f61a550d1607", func := "teasel/teasellaw16.EngineContinues", spec := "engineContinues", inPlace := ["maps.clone", "slices.overlaps[teasel/timers.Item]"], unfollowed := true, recurses := true, plainKeys := false, apart := false }
def EngineContinuesSaid : Prop := engineContinuesRow.holds Tryz.pinned (OpenSpec.ofChange engineContinuesSpec)

/-- ITS FALSE NEIGHBOUR: 'it returns false'. Refute it at one input. -/
def engineContinuesWrong : ChangeSpec := { name := "engineContinues", fn := fun _ => fun
  | [d1, d2] => { results := [.lit (.bool false)], args := [d1, d2] }
  | _ => none }
def EngineContinuesWrongFalsely : Prop := engineContinuesRow.holds Tryz.pinned (OpenSpec.ofChange engineContinuesWrong)

/-- 'teasellaw16.EngineHomes': WHATEVER THE INPUT: true; the input reads as it did. -/
def engineHomesSpec : ChangeSpec := { name := "engineHomes", fn := fun _ => fun
  | [d1, d2, d3] => { results := [.lit (.bool true)], args := [d1, d2, d3] }
  | _ => none }
def engineHomesRow : OpenClaim := { program := "ytniknicnnaiilaagreat", sum := "db10a586fbe1941c7b109bf063baa8c18d6a01c21af8e10db987f61a550d1607", func := "teasel/teasellaw16.EngineHomes", spec := "engineHomes", inPlace := ["maps.clone", "slices.overlaps[teasel/timers.Item]"], unfollowed := true, recurses := true, plainKeys := false, apart := false }
def EngineHomesSaid : Prop := engineHomesRow.holds Tryz.pinned (OpenSpec.ofChange engineHomesSpec)

/-- ITS FALSE NEIGHBOUR: 'it returns false'. Refute it at one input. -/
def engineHomesWrong : ChangeSpec := { name := "engineHomes", fn := fun _ => fun
  | [d1, d2, d3] => { results := [.lit (.bool false)], args := [d1, d2, d3] }
  | _ => none }
def EngineHomesWrongFalsely : Prop := engineHomesRow.holds Tryz.pinned (OpenSpec.ofChange engineHomesWrong)

/-- 'teasellaw16.EngineSame': WHATEVER THE INPUT: true; the input reads as it did. -/
def engineSameSpec : ChangeSpec := { name := "engineSame", fn := fun _ => fun
  | [d1, d2] => { results := [.lit (.bool true)], args := [d1, d2] }
  | _ => none }
def engineSameRow : OpenClaim := { program := "ytniknicnnaiilaagreat", sum := "db10a586fbe1941c7b109bf063baa8c18d6a01c21af8e10db987f61a550d1607", func := "teasel/teasellaw16.EngineSame", spec := "engineSame", inPlace := ["maps.clone", "slices.overlaps[teasel/timers.Item]"], unfollowed := true, recurses := true, plainKeys := false, apart := false }
def EngineSameSaid : Prop := engineSameRow.holds Tryz.pinned (OpenSpec.ofChange engineSameSpec)

/-- ITS FALSE NEIGHBOUR: 'it returns false'. Refute it at one input. -/
def engineSameWrong : ChangeSpec := { name := "engineSame", fn := fun _ => fun
  | [d1, d2] => { results := [.lit (.bool false)], args := [d1, d2] }
  | _ => none }
def EngineSameWrongFalsely : Prop := engineSameRow.holds Tryz.pinned (OpenSpec.ofChange engineSameWrong)

/-- 'teasellaw16.EngineOnce': WHATEVER THE INPUT: true; the input reads as it did. -/
def engineOnceSpec : ChangeSpec := { name := "engineOnce", fn := fun _ => fun
  | [d] => { results := [.lit (.bool true)], args := [d] }
  | _ => none }
def engineOnceRow : OpenClaim := { program := "ytniknicnnaiilaagreat", sum := "db10a586fbe1941c7b109bf063baa8c18d6a01c21af8e10db987f61a550d1607", func := "teasel/teasellaw16.EngineOnce", spec := "engineOnce", inPlace := ["maps.clone", "slices.overlaps[teasel/timers.Item]"], unfollowed := true, recurses := true, plainKeys := false, apart := false }
def EngineOnceSaid : Prop := engineOnceRow.holds Tryz.pinned (OpenSpec.ofChange engineOnceSpec)

/-- ITS FALSE NEIGHBOUR: 'it returns false'. Refute it at one input. -/
def engineOnceWrong : ChangeSpec := { name := "engineOnce", fn := fun _ => fun
  | [d] => { results := [.lit (.bool false)], args := [d] }
  | _ => none }
def EngineOnceWrongFalsely : Prop := engineOnceRow.holds Tryz.pinned (OpenSpec.ofChange engineOnceWrong)

/-- 'teasellaw16.EngineTimes': WHATEVER THE INPUT: true; the input reads as it did. -/
def engineTimesSpec : ChangeSpec := { name := "engineTimes", fn := fun _ => fun
  | [d1, d2] => { results := [.lit (.bool true)], args := [d1, d2] }
  | _ => none }
def engineTimesRow : OpenClaim := { program := "ytniknicnnaiilaagreat", sum := "db10a586fbe1941c7b109bf063baa8c18d6a01c21af8e10db987f61a550d1607", func := "teasel/teasellaw16.EngineTimes", spec := "engineTimes", inPlace := ["maps.clone", "slices.overlaps[teasel/timers.Item]"], unfollowed := true, recurses := true, plainKeys := false, apart := false }
def EngineTimesSaid : Prop := engineTimesRow.holds Tryz.pinned (OpenSpec.ofChange engineTimesSpec)

/-- ITS FALSE NEIGHBOUR: 'it returns false'. Refute it at one input. -/
def engineTimesWrong : ChangeSpec := { name := "engineTimes", fn := fun _ => fun
  | [d1, d2] => { results := [.lit (.bool false)], args := [d1, d2] }
  | _ => none }
def EngineTimesWrongFalsely : Prop := engineTimesRow.holds Tryz.pinned (OpenSpec.ofChange engineTimesWrong)

/-- 'teasellaw16.EngineLapses': WHATEVER THE INPUT: true; the input reads as it did. -/
def engineLapsesSpec : ChangeSpec := { name := "engineLapses", fn := fun _ => fun
  | [d1, d2, d3] => { results := [.lit (.bool true)], args := [d1, d2, d3] }
  | _ => none }
def engineLapsesRow : OpenClaim := { program := "ytniknicnnaiilaagreat", sum := "db10a586fbe1941c7b109bf063baa8c18d6a01c21af8e10db987f61a550d1607", func := "teasel/teasellaw16.EngineLapses", spec := "engineLapses", inPlace := ["maps.clone", "slices.overlaps[teasel/timers.Item]"], unfollowed := true, recurses := true, plainKeys := false, apart := false }
def EngineLapsesSaid : Prop := engineLapsesRow.holds Tryz.pinned (OpenSpec.ofChange engineLapsesSpec)

/-- ITS FALSE NEIGHBOUR: 'it returns false'. Refute it at one input. -/
def engineLapsesWrong : ChangeSpec := { name := "engineLapses", fn := fun _ => fun
  | [d1, d2, d3] => { results := [.lit (.bool false)], args := [d1, d2, d3] }
  | _ => none }
def EngineLapsesWrongFalsely : Prop := engineLapsesRow.holds Tryz.pinned (OpenSpec.ofChange engineLapsesWrong)

/-- 'teasellaw16.EngineSplits': WHATEVER THE INPUT: true; the input reads as it did. -/
def engineSplitsSpec : ChangeSpec := { name := "engineSplits", fn := fun _ => fun
  | [d1, d2, d3] => { results := [.lit (.bool true)], args := [d1, d2, d3] }
  | _ => none }
def engineSplitsRow : OpenClaim := { program := "ytniknicnnaiilaagreat", sum := "db10a586fbe1941c7b109bf063baa8c18d6a01c21af8e10db987f61a550d1607", func := "teasel/teasellaw16.EngineSplits", spec := "engineSplits", inPlace := ["maps.clone", "slices.overlaps[teasel/timers.Item]"], unfollowed := true, recurses := true, plainKeys := false, apart := false }
def EngineSplitsSaid : Prop := engineSplitsRow.holds Tryz.pinned (OpenSpec.ofChange engineSplitsSpec)

/-- ITS FALSE NEIGHBOUR: 'it returns false'. Refute it at one input. -/
def engineSplitsWrong : ChangeSpec := { name := "engineSplits", fn := fun _ => fun
  | [d1, d2, d3] => { results := [.lit (.bool false)], args := [d1, d2, d3] }
  | _ => none }
def EngineSplitsWrongFalsely : Prop := engineSplitsRow.holds Tryz.pinned (OpenSpec.ofChange engineSplitsWrong)

/-- 'teasellaw16.EngineGrows': WHATEVER THE INPUT: true; the input reads as it did. -/
def engineGrowsSpec : ChangeSpec := { name := "engineGrows", fn := fun _ => fun
  | [d] => { results := [.lit (.bool true)], args := [d] }
  | _ => none }
def engineGrowsRow : OpenClaim := { program := "ytniknicnnaiilaagreat", sum := "db10a586fbe1941c7b109bf063baa8c18d6a01c21af8e10db987f61a550d1607", func := "teasel/teasellaw16.EngineGrows", spec := "engineGrows", inPlace := ["maps.clone", "slices.overlaps[teasel/timers.Item]"], unfollowed := true, recurses := true, plainKeys := false, apart := false }
def EngineGrowsSaid : Prop := engineGrowsRow.holds Tryz.pinned (OpenSpec.ofChange engineGrowsSpec)

/-- ITS FALSE NEIGHBOUR: 'it returns false'. Refute it at one input. -/
def engineGrowsWrong : ChangeSpec := { name := "engineGrows", fn := fun _ => fun
  | [d] => { results := [.lit (.bool false)], args := [d] }
  | _ => none }
def EngineGrowsWrongFalsely : Prop := engineGrowsRow.holds Tryz.pinned (OpenSpec.ofChange engineGrowsWrong)

/- THE SECOND FORM. 'bulk': how many values and letters a reading holds, each counted each time it is reached (what is shared counts as often as it is met; a slice's spare places count too). A statement '..UptoSaid' is the law's where the arguments, and the package variables that the reading takes, are together of bulk at most 1048576: NARROWER than '..Said'. Prove '..Said' where nothing that the law and all that it calls make is longer than what came in: it says more and counts as full. Else prove '..UptoSaid'. A law counts once. -/
mutual
def uptoBulk {H : Type} : DataW H → Nat
  | .lit (.string bytes) => bytes.length + 1
  | .lit _ => 1
  | .nil => 1
  | .ptr d => uptoBulk d + 1
  | .slice elems spare => uptoBulkAll elems + uptoBulkAll spare + 1
  | .agg parts => uptoBulkAll parts + 1
  | .iface _ d => uptoBulk d + 1
  | .map entries => uptoBulkEntries entries + 1
  | .held _ => 1
def uptoBulkAll {H : Type} : List (DataW H) → Nat
  | [] => 0
  | d :: r => uptoBulk d + uptoBulkAll r
def uptoBulkEntries {H : Type} : List (Lit × DataW H) → Nat
  | [] => 0
  | x :: r => uptoBulkEntry x + uptoBulkEntries r
def uptoBulkEntry {H : Type} : Lit × DataW H → Nat
  | (.string bytes, d) => bytes.length + uptoBulk d + 1
  | (_, d) => uptoBulk d + 1
 end
def uptoSmall : (H : Type) → List (DataW H) → Bool := fun _ ds => decide (uptoBulkAll ds ≤ 1048576)
def OpenSpec.upto (s : _root_.Go.ChangeSpec) : _root_.Go.OpenSpec := { _root_.Go.OpenSpec.ofChange s with cond := some uptoSmall }

/-- 'teasellaw16.EngineChildren', WHERE WHAT IT READS IS OF BULK AT MOST 1048576: true; the input reads as it did. -/
def engineChildrenUptoRow : OpenClaim := { program := "ytniknicnnaiilaagreat", sum := "db10a586fbe1941c7b109bf063baa8c18d6a01c21af8e10db987f61a550d1607", func := "teasel/teasellaw16.EngineChildren", spec := "engineChildren", inPlace := ["maps.clone", "slices.overlaps[teasel/timers.Item]"], unfollowed := true, recurses := true, plainKeys := false, apart := false, narrowed := true }
def EngineChildrenUptoSaid : Prop := engineChildrenUptoRow.holds Tryz.pinned (OpenSpec.upto engineChildrenSpec)

/-- 'teasellaw16.EngineContinues', WHERE WHAT IT READS IS OF BULK AT MOST 1048576: true; the input reads as it did. -/
def engineContinuesUptoRow : OpenClaim := { program := "ytniknicnnaiilaagreat", sum := "db10a586fbe1941c7b109bf063baa8c18d6a01c21af8e10db987f61a550d1607", func := "teasel/teasellaw16.EngineContinues", spec := "engineContinues", inPlace := ["maps.clone", "slices.overlaps[teasel/timers.Item]"], unfollowed := true, recurses := true, plainKeys := false, apart := false, narrowed := true }
def EngineContinuesUptoSaid : Prop := engineContinuesUptoRow.holds Tryz.pinned (OpenSpec.upto engineContinuesSpec)

/-- 'teasellaw16.EngineHomes', WHERE WHAT IT READS IS OF BULK AT MOST 1048576: true; the input reads as it did. -/
def engineHomesUptoRow : OpenClaim := { program := "ytniknicnnaiilaagreat", sum := "db10a586fbe1941c7b109bf063baa8c18d6a01c21af8e10db987f61a550d1607", func := "teasel/teasellaw16.EngineHomes", spec := "engineHomes", inPlace := ["maps.clone", "slices.overlaps[teasel/timers.Item]"], unfollowed := true, recurses := true, plainKeys := false, apart := false, narrowed := true }
def EngineHomesUptoSaid : Prop := engineHomesUptoRow.holds Tryz.pinned (OpenSpec.upto engineHomesSpec)

/-- 'teasellaw16.EngineSame', WHERE WHAT IT READS IS OF BULK AT MOST 1048576: true; the input reads as it did. -/
def engineSameUptoRow : OpenClaim := { program := "ytniknicnnaiilaagreat", sum := "db10a586fbe1941c7b109bf063baa8c18d6a01c21af8e10db987f61a550d1607", func := "teasel/teasellaw16.EngineSame", spec := "engineSame", inPlace := ["maps.clone", "slices.overlaps[teasel/timers.Item]"], unfollowed := true, recurses := true, plainKeys := false, apart := false, narrowed := true }
def EngineSameUptoSaid : Prop := engineSameUptoRow.holds Tryz.pinned (OpenSpec.upto engineSameSpec)

/-- 'teasellaw16.EngineOnce', WHERE WHAT IT READS IS OF BULK AT MOST 1048576: true; the input reads as it did. -/
def engineOnceUptoRow : OpenClaim := { program := "ytniknicnnaiilaagreat", sum := "db10a586fbe1941c7b109bf063baa8c18d6a01c21af8e10db987f61a550d1607", func := "teasel/teasellaw16.EngineOnce", spec := "engineOnce", inPlace := ["maps.clone", "slices.overlaps[teasel/timers.Item]"], unfollowed := true, recurses := true, plainKeys := false, apart := false, narrowed := true }
def EngineOnceUptoSaid : Prop := engineOnceUptoRow.holds Tryz.pinned (OpenSpec.upto engineOnceSpec)

/-- 'teasellaw16.EngineTimes', WHERE WHAT IT READS IS OF BULK AT MOST 1048576: true; the input reads as it did. -/
def engineTimesUptoRow : OpenClaim := { program := "ytniknicnnaiilaagreat", sum := "db10a586fbe1941c7b109bf063baa8c18d6a01c21af8e10db987f61a550d1607", func := "teasel/teasellaw16.EngineTimes", spec := "engineTimes", inPlace := ["maps.clone", "slices.overlaps[teasel/timers.Item]"], unfollowed := true, recurses := true, plainKeys := false, apart := false, narrowed := true }
def EngineTimesUptoSaid : Prop := engineTimesUptoRow.holds Tryz.pinned (OpenSpec.upto engineTimesSpec)

/-- 'teasellaw16.EngineLapses', WHERE WHAT IT READS IS OF BULK AT MOST 1048576: true; the input reads as it did. -/
def engineLapsesUptoRow : OpenClaim := { program := "ytniknicnnaiilaagreat", sum := "db10a586fbe1941c7b109bf063baa8c18d6a01c21af8e10db987f61a550d1607", func := "teasel/teasellaw16.EngineLapses", spec := "engineLapses", inPlace := ["maps.clone", "slices.overlaps[teasel/timers.Item]"], unfollowed := true, recurses := true, plainKeys := false, apart := false, narrowed := true }
def EngineLapsesUptoSaid : Prop := engineLapsesUptoRow.holds Tryz.pinned (OpenSpec.upto engineLapsesSpec)

/-- 'teasellaw16.EngineSplits', WHERE WHAT IT READS IS OF BULK AT MOST 1048576: true; the input reads as it did. -/
def engineSplitsUptoRow : OpenClaim := { program := "ytniknicnnaiilaagreat", sum := "db10a586fbe1941c7b109bf063baa8c18d6a01c21af8e10db987f61a550d1607", func := "teasel/teasellaw16.EngineSplits", spec := "engineSplits", inPlace := ["maps.clone", "slices.overlaps[teasel/timers.Item]"], unfollowed := true, recurses := true, plainKeys := false, apart := false, narrowed := true }
def EngineSplitsUptoSaid : Prop := engineSplitsUptoRow.holds Tryz.pinned (OpenSpec.upto engineSplitsSpec)

/-- 'teasellaw16.EngineGrows', WHERE WHAT IT READS IS OF BULK AT MOST 1048576: true; the input reads as it did. -/
def engineGrowsUptoRow : OpenClaim := { program := "ytniknicnnaiilaagreat", sum := "db10a586fbe1941c7b109bf063baa8c18d6a01c21af8e10db987f61a550d1607", func := "teasel/teasellaw16.EngineGrows", spec := "engineGrows", inPlace := ["maps.clone", "slices.overlaps[teasel/timers.Item]"], unfollowed := true, recurses := true, plainKeys := false, apart := false, narrowed := true }
def EngineGrowsUptoSaid : Prop := engineGrowsUptoRow.holds Tryz.pinned (OpenSpec.upto engineGrowsSpec)

end Rows
end Go.Proofs.YtniknicnnaiilaaGreat
