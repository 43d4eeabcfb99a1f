/-
  No cell of these rows narrows 'for every input' (looked for: loops, veiled, ifaces, maps, wideKeys, modest, calm, conditions, laid).
  DERIVED. THE GIVEN ROWS OF THIS SEAT. 5 by the template 'for every input the law returns true; each argument reads behind the call as it read before'; 0 by the template 'total and deterministic' (their statements: YtikmniokbliolaaTotals.lean).
  GIVEN WITH THE SEED: the statements are not yours to turn. If you find one false, say at which input.
  Laid BY PROGRAM, IN A SANDBOX (cutbox-rows.mjs): the forced cells as the released guide's own fill.sh prints them over the translation a742539904e44f4a… (all of the seat's roots in one cut). By AI agents, Wed Nov 11 2026. No macro, syntax, notation, axiom, sorry.
-/
import Derived.Test.YtikmniokbliolaaChecked
import GoSem.Claim
import GoSem.ClaimJoined
import GoSem.ClaimMapViews
import Derived.JoinedTies
import Derived.KernelRfl
namespace Go.Proofs.Ytikmniokbliolaa
/- THE CELL 'sum', in the pinned program and in every row, IS THE sha256 OF THE DUMP (.gsa) THAT YtikmniokbliolaaProg.lean LOADS. Nothing in Lean hashes anything: it is a label: what it is worth is what the hold of that sum in a sandbox is worth. -/
noncomputable def Try.pinned : Pinned := { name := "ytikmniokbliolaa", sum := "a742539904e44f4aa350be236d77ee7768a8119574836e611b499c83e1282bf1", checked := Try.checked }
namespace Rows
def none {H : Type} : Left H := { results := [], args := [] }

/-- 'teasellaw15.TimersAcks': WHATEVER THE INPUT: true; the input reads as it did. -/
def timersAcksSpec : ChangeSpec := { name := "timersAcks", fn := fun _ => fun
  | [d1, d2] => { results := [.lit (.bool true)], args := [d1, d2] }
  | _ => none }
def timersAcksRow : OpenClaim := { program := "ytikmniokbliolaa", sum := "a742539904e44f4aa350be236d77ee7768a8119574836e611b499c83e1282bf1", func := "teasel/teasellaw15.TimersAcks", spec := "timersAcks", inPlace := ["slices.overlaps[teasel/timers.Item]"], unfollowed := true, recurses := true, plainKeys := false, apart := false }
def TimersAcksSaid : Prop := timersAcksRow.holds Try.pinned (OpenSpec.ofChange timersAcksSpec)

/-- ITS FALSE NEIGHBOUR: 'it returns false'. Refute it at one input. -/
def timersAcksWrong : ChangeSpec := { name := "timersAcks", fn := fun _ => fun
  | [d1, d2] => { results := [.lit (.bool false)], args := [d1, d2] }
  | _ => none }
def TimersAcksWrongFalsely : Prop := timersAcksRow.holds Try.pinned (OpenSpec.ofChange timersAcksWrong)

/-- 'teasellaw15.TimersDue': WHATEVER THE INPUT: true; the input reads as it did. -/
def timersDueSpec : ChangeSpec := { name := "timersDue", fn := fun _ => fun
  | [d1, d2] => { results := [.lit (.bool true)], args := [d1, d2] }
  | _ => none }
def timersDueRow : OpenClaim := { program := "ytikmniokbliolaa", sum := "a742539904e44f4aa350be236d77ee7768a8119574836e611b499c83e1282bf1", func := "teasel/teasellaw15.TimersDue", spec := "timersDue", inPlace := ["slices.overlaps[teasel/timers.Item]"], unfollowed := true, recurses := true, plainKeys := false, apart := false }
def TimersDueSaid : Prop := timersDueRow.holds Try.pinned (OpenSpec.ofChange timersDueSpec)

/-- ITS FALSE NEIGHBOUR: 'it returns false'. Refute it at one input. -/
def timersDueWrong : ChangeSpec := { name := "timersDue", fn := fun _ => fun
  | [d1, d2] => { results := [.lit (.bool false)], args := [d1, d2] }
  | _ => none }
def TimersDueWrongFalsely : Prop := timersDueRow.holds Try.pinned (OpenSpec.ofChange timersDueWrong)

/-- 'teasellaw15.TimersOrder': WHATEVER THE INPUT: true; the input reads as it did. -/
def timersOrderSpec : ChangeSpec := { name := "timersOrder", fn := fun _ => fun
  | [d1, d2, d3, d4] => { results := [.lit (.bool true)], args := [d1, d2, d3, d4] }
  | _ => none }
def timersOrderRow : OpenClaim := { program := "ytikmniokbliolaa", sum := "a742539904e44f4aa350be236d77ee7768a8119574836e611b499c83e1282bf1", func := "teasel/teasellaw15.TimersOrder", spec := "timersOrder", inPlace := ["slices.overlaps[teasel/timers.Item]"], unfollowed := true, recurses := true, plainKeys := false, apart := false }
def TimersOrderSaid : Prop := timersOrderRow.holds Try.pinned (OpenSpec.ofChange timersOrderSpec)

/-- ITS FALSE NEIGHBOUR: 'it returns false'. Refute it at one input. -/
def timersOrderWrong : ChangeSpec := { name := "timersOrder", fn := fun _ => fun
  | [d1, d2, d3, d4] => { results := [.lit (.bool false)], args := [d1, d2, d3, d4] }
  | _ => none }
def TimersOrderWrongFalsely : Prop := timersOrderRow.holds Try.pinned (OpenSpec.ofChange timersOrderWrong)

/-- 'teasellaw15.TimersPlays': WHATEVER THE INPUT: true; the input reads as it did. -/
def timersPlaysSpec : ChangeSpec := { name := "timersPlays", fn := fun _ => fun
  | [d] => { results := [.lit (.bool true)], args := [d] }
  | _ => none }
def timersPlaysRow : OpenClaim := { program := "ytikmniokbliolaa", sum := "a742539904e44f4aa350be236d77ee7768a8119574836e611b499c83e1282bf1", func := "teasel/teasellaw15.TimersPlays", spec := "timersPlays", inPlace := ["slices.overlaps[teasel/timers.Item]"], unfollowed := true, recurses := true, plainKeys := false, apart := false }
def TimersPlaysSaid : Prop := timersPlaysRow.holds Try.pinned (OpenSpec.ofChange timersPlaysSpec)

/-- ITS FALSE NEIGHBOUR: 'it returns false'. Refute it at one input. -/
def timersPlaysWrong : ChangeSpec := { name := "timersPlays", fn := fun _ => fun
  | [d] => { results := [.lit (.bool false)], args := [d] }
  | _ => none }
def TimersPlaysWrongFalsely : Prop := timersPlaysRow.holds Try.pinned (OpenSpec.ofChange timersPlaysWrong)

/-- 'teasellaw15.TimersDrops': WHATEVER THE INPUT: true; the input reads as it did. -/
def timersDropsSpec : ChangeSpec := { name := "timersDrops", fn := fun _ => fun
  | [d1, d2, d3] => { results := [.lit (.bool true)], args := [d1, d2, d3] }
  | _ => none }
def timersDropsRow : OpenClaim := { program := "ytikmniokbliolaa", sum := "a742539904e44f4aa350be236d77ee7768a8119574836e611b499c83e1282bf1", func := "teasel/teasellaw15.TimersDrops", spec := "timersDrops", inPlace := ["slices.overlaps[teasel/timers.Item]"], unfollowed := true, recurses := true, plainKeys := false, apart := false }
def TimersDropsSaid : Prop := timersDropsRow.holds Try.pinned (OpenSpec.ofChange timersDropsSpec)

/-- ITS FALSE NEIGHBOUR: 'it returns false'. Refute it at one input. -/
def timersDropsWrong : ChangeSpec := { name := "timersDrops", fn := fun _ => fun
  | [d1, d2, d3] => { results := [.lit (.bool false)], args := [d1, d2, d3] }
  | _ => none }
def TimersDropsWrongFalsely : Prop := timersDropsRow.holds Try.pinned (OpenSpec.ofChange timersDropsWrong)

/- THE SECOND FORM. 'bulk': how many values and letters a reading holds, each counted each time it is reached (what is shared counts as often as it is met; a slice's spare places count too). A statement '..UptoSaid' is the law's where the arguments, and the package variables that the reading takes, are together of bulk at most 1048576: NARROWER than '..Said'. Prove '..Said' where nothing that the law and all that it calls make is longer than what came in: it says more and counts as full. Else prove '..UptoSaid'. A law counts once. -/
mutual
def uptoBulk {H : Type} : DataW H → Nat
  | .lit (.string bytes) => bytes.length + 1
  | .lit _ => 1
  | .nil => 1
  | .ptr d => uptoBulk d + 1
  | .slice elems spare => uptoBulkAll elems + uptoBulkAll spare + 1
  | .agg parts => uptoBulkAll parts + 1
  | .iface _ d => uptoBulk d + 1
  | .map entries => uptoBulkEntries entries + 1
  | .held _ => 1
def uptoBulkAll {H : Type} : List (DataW H) → Nat
  | [] => 0
  | d :: r => uptoBulk d + uptoBulkAll r
def uptoBulkEntries {H : Type} : List (Lit × DataW H) → Nat
  | [] => 0
  | x :: r => uptoBulkEntry x + uptoBulkEntries r
def uptoBulkEntry {H : Type} : Lit × DataW H → Nat
  | (.string bytes, d) => bytes.length + uptoBulk d + 1
  | (_, d) => uptoBulk d + 1
 end
def uptoSmall : (H : Type) → List (DataW H) → Bool := fun _ ds => decide (uptoBulkAll ds ≤ 1048576)
def OpenSpec.upto (s : _root_.Go.ChangeSpec) : _root_.Go.OpenSpec := { _root_.Go.OpenSpec.ofChange s with cond := some uptoSmall }

/-- 'teasellaw15.TimersAcks', WHERE WHAT IT READS IS OF BULK AT MOST 1048576: true; the input reads as it did. -/
def timersAcksUptoRow : OpenClaim := { program := "ytikmniokbliolaa", sum := "a742539904e44f4aa350be236d77ee7768a8119574836e611b499c83e1282bf1", func := "teasel/teasellaw15.TimersAcks", spec := "timersAcks", inPlace := ["slices.overlaps[teasel/timers.Item]"], unfollowed := true, recurses := true, plainKeys := false, apart := false, narrowed := true }
def TimersAcksUptoSaid : Prop := timersAcksUptoRow.holds Try.pinned (OpenSpec.upto timersAcksSpec)

/-- 'teasellaw15.TimersDue', WHERE WHAT IT READS IS OF BULK AT MOST 1048576: true; the input reads as it did. -/
def timersDueUptoRow : OpenClaim := { program := "ytikmniokbliolaa", sum := "a742539904e44f4aa350be236d77ee7768a8119574836e611b499c83e1282bf1", func := "teasel/teasellaw15.TimersDue", spec := "timersDue", inPlace := ["slices.overlaps[teasel/timers.Item]"], unfollowed := true, recurses := true, plainKeys := false, apart := false, narrowed := true }
def TimersDueUptoSaid : Prop := timersDueUptoRow.holds Try.pinned (OpenSpec.upto timersDueSpec)

/-- 'teasellaw15.TimersOrder', WHERE WHAT IT READS IS OF BULK AT MOST 1048576: true; the input reads as it did. -/
def timersOrderUptoRow : OpenClaim := { program := "ytikmniokbliolaa", sum := "a742539904e44f4aa350be236d77ee7768a8119574836e611b499c83e1282bf1", func := "teasel/teasellaw15.TimersOrder", spec := "timersOrder", inPlace := ["slices.overlaps[teasel/timers.Item]"], unfollowed := true, recurses := true, plainKeys := false, apart := false, narrowed := true }
def TimersOrderUptoSaid : Prop := timersOrderUptoRow.holds Try.pinned (OpenSpec.upto timersOrderSpec)

/-- 'teasellaw15.TimersPlays', WHERE WHAT IT READS IS OF BULK AT MOST 1048576: true; the input reads as it did. -/
def timersPlaysUptoRow : OpenClaim := { program := "ytikmniokbliolaa", sum := "a742539904e44f4aa350be236d77ee7768a8119574836e611b499c83e1282bf1", func := "teasel/teasellaw15.TimersPlays", spec := "timersPlays", inPlace := ["slices.overlaps[teasel/timers.Item]"], unfollowed := true, recurses := true, plainKeys := false, apart := false, narrowed := true }
def TimersPlaysUptoSaid : Prop := timersPlaysUptoRow.holds Try.pinned (OpenSpec.upto timersPlaysSpec)

/-- 'teasellaw15.TimersDrops', WHERE WHAT IT READS IS OF BULK AT MOST 1048576: true; the input reads as it did. -/
def timersDropsUptoRow : OpenClaim := { program := "ytikmniokbliolaa", sum := "a742539904e44f4aa350be236d77ee7768a8119574836e611b499c83e1282bf1", func := "teasel/teasellaw15.TimersDrops", spec := "timersDrops", inPlace := ["slices.overlaps[teasel/timers.Item]"], unfollowed := true, recurses := true, plainKeys := false, apart := false, narrowed := true }
def TimersDropsUptoSaid : Prop := timersDropsUptoRow.holds Try.pinned (OpenSpec.upto timersDropsSpec)

end Rows
end Go.Proofs.Ytikmniokbliolaa
