/-
  No cell of these rows narrows 'for every input' (looked for: loops, veiled, ifaces, maps, wideKeys, modest, calm, conditions, laid).
  DERIVED. THE GIVEN ROWS OF THIS SEAT. 12 by the template 'for every input the law returns true; each argument reads behind the call as it read before'; 0 by the template 'total and deterministic' (their statements: YtchcbncelckgeaaTotals.lean).
  GIVEN WITH THE SEED: the statements are not yours to turn. If you find one false, say at which input.
  Laid BY PROGRAM, IN A SANDBOX (cutbox-rows.mjs): the forced cells as the released guide's own fill.sh prints them over the translation 9542a203036899fd… (all of the seat's roots in one cut). By AI agents, Wed Nov 11 2026. No macro, syntax, notation, axiom, sorry.
-/
import Derived.Test.YtchcbncelckgeaaChecked
import GoSem.Claim
import GoSem.ClaimJoined
import GoSem.ClaimMapViews
import Derived.JoinedTies
import Derived.KernelRfl
namespace Go.Proofs.Ytchcbncelckgeaa
/- THE CELL 'sum', in the pinned program and in every row, IS THE sha256 OF THE DUMP (.gsa) THAT YtchcbncelckgeaaProg.lean LOADS. Nothing in Lean hashes anything: it is a label: what it is worth is what the hold of that sum in a sandbox is worth. -/
noncomputable def Try.pinned : Pinned := { name := "ytchcbncelckgeaa", sum := "9542a203036899fd333657aba8a05b42c361b61b90eb3abfcc4706e3deaaae2e", checked := Try.checked }
namespace Rows
def none {H : Type} : Left H := { results := [], args := [] }

/-- 'backstitchkeep3.LeaveSets': WHATEVER THE INPUT: true; the input reads as it did. -/
def leaveSetsSpec : ChangeSpec := { name := "leaveSets", fn := fun _ => fun
  | [d1, d2, d3] => { results := [.lit (.bool true)], args := [d1, d2, d3] }
  | _ => none }
def leaveSetsRow : OpenClaim := { program := "ytchcbncelckgeaa", sum := "9542a203036899fd333657aba8a05b42c361b61b90eb3abfcc4706e3deaaae2e", func := "backstitch/backstitchkeep3.LeaveSets", spec := "leaveSets", apart := false }
def LeaveSetsSaid : Prop := leaveSetsRow.holds Try.pinned (OpenSpec.ofChange leaveSetsSpec)

/-- ITS FALSE NEIGHBOUR: 'it returns false'. Refute it at one input. -/
def leaveSetsWrong : ChangeSpec := { name := "leaveSets", fn := fun _ => fun
  | [d1, d2, d3] => { results := [.lit (.bool false)], args := [d1, d2, d3] }
  | _ => none }
def LeaveSetsWrongFalsely : Prop := leaveSetsRow.holds Try.pinned (OpenSpec.ofChange leaveSetsWrong)

/-- 'backstitchkeep3.LeaveMakes': WHATEVER THE INPUT: true; the input reads as it did. -/
def leaveMakesSpec : ChangeSpec := { name := "leaveMakes", fn := fun _ => fun
  | [d1, d2, d3] => { results := [.lit (.bool true)], args := [d1, d2, d3] }
  | _ => none }
def leaveMakesRow : OpenClaim := { program := "ytchcbncelckgeaa", sum := "9542a203036899fd333657aba8a05b42c361b61b90eb3abfcc4706e3deaaae2e", func := "backstitch/backstitchkeep3.LeaveMakes", spec := "leaveMakes", apart := false }
def LeaveMakesSaid : Prop := leaveMakesRow.holds Try.pinned (OpenSpec.ofChange leaveMakesSpec)

/-- ITS FALSE NEIGHBOUR: 'it returns false'. Refute it at one input. -/
def leaveMakesWrong : ChangeSpec := { name := "leaveMakes", fn := fun _ => fun
  | [d1, d2, d3] => { results := [.lit (.bool false)], args := [d1, d2, d3] }
  | _ => none }
def LeaveMakesWrongFalsely : Prop := leaveMakesRow.holds Try.pinned (OpenSpec.ofChange leaveMakesWrong)

/-- 'backstitchkeep3.LeaveBare': WHATEVER THE INPUT: true; the input reads as it did. -/
def leaveBareSpec : ChangeSpec := { name := "leaveBare", fn := fun _ => fun
  | [d1, d2, d3, d4] => { results := [.lit (.bool true)], args := [d1, d2, d3, d4] }
  | _ => none }
def leaveBareRow : OpenClaim := { program := "ytchcbncelckgeaa", sum := "9542a203036899fd333657aba8a05b42c361b61b90eb3abfcc4706e3deaaae2e", func := "backstitch/backstitchkeep3.LeaveBare", spec := "leaveBare", apart := false }
def LeaveBareSaid : Prop := leaveBareRow.holds Try.pinned (OpenSpec.ofChange leaveBareSpec)

/-- ITS FALSE NEIGHBOUR: 'it returns false'. Refute it at one input. -/
def leaveBareWrong : ChangeSpec := { name := "leaveBare", fn := fun _ => fun
  | [d1, d2, d3, d4] => { results := [.lit (.bool false)], args := [d1, d2, d3, d4] }
  | _ => none }
def LeaveBareWrongFalsely : Prop := leaveBareRow.holds Try.pinned (OpenSpec.ofChange leaveBareWrong)

/-- 'backstitchkeep3.LeaveOut': WHATEVER THE INPUT: true; the input reads as it did. -/
def leaveOutSpec : ChangeSpec := { name := "leaveOut", fn := fun _ => fun
  | [d1, d2, d3, d4] => { results := [.lit (.bool true)], args := [d1, d2, d3, d4] }
  | _ => none }
def leaveOutRow : OpenClaim := { program := "ytchcbncelckgeaa", sum := "9542a203036899fd333657aba8a05b42c361b61b90eb3abfcc4706e3deaaae2e", func := "backstitch/backstitchkeep3.LeaveOut", spec := "leaveOut", apart := false }
def LeaveOutSaid : Prop := leaveOutRow.holds Try.pinned (OpenSpec.ofChange leaveOutSpec)

/-- ITS FALSE NEIGHBOUR: 'it returns false'. Refute it at one input. -/
def leaveOutWrong : ChangeSpec := { name := "leaveOut", fn := fun _ => fun
  | [d1, d2, d3, d4] => { results := [.lit (.bool false)], args := [d1, d2, d3, d4] }
  | _ => none }
def LeaveOutWrongFalsely : Prop := leaveOutRow.holds Try.pinned (OpenSpec.ofChange leaveOutWrong)

/-- 'backstitchkeep3.NanboxInts': WHATEVER THE INPUT: true; the input reads as it did. -/
def nanboxIntsSpec : ChangeSpec := { name := "nanboxInts", fn := fun _ => fun
  | [d1, d2] => { results := [.lit (.bool true)], args := [d1, d2] }
  | _ => none }
def nanboxIntsRow : OpenClaim := { program := "ytchcbncelckgeaa", sum := "9542a203036899fd333657aba8a05b42c361b61b90eb3abfcc4706e3deaaae2e", func := "backstitch/backstitchkeep3.NanboxInts", spec := "nanboxInts", unfollowed := true, recurses := true, apart := false }
def NanboxIntsSaid : Prop := nanboxIntsRow.holds Try.pinned (OpenSpec.ofChange nanboxIntsSpec)

/-- ITS FALSE NEIGHBOUR: 'it returns false'. Refute it at one input. -/
def nanboxIntsWrong : ChangeSpec := { name := "nanboxInts", fn := fun _ => fun
  | [d1, d2] => { results := [.lit (.bool false)], args := [d1, d2] }
  | _ => none }
def NanboxIntsWrongFalsely : Prop := nanboxIntsRow.holds Try.pinned (OpenSpec.ofChange nanboxIntsWrong)

/-- 'backstitchkeep3.NanboxApart': WHATEVER THE INPUT: true; the input reads as it did. -/
def nanboxApartSpec : ChangeSpec := { name := "nanboxApart", fn := fun _ => fun
  | [d1, d2] => { results := [.lit (.bool true)], args := [d1, d2] }
  | _ => none }
def nanboxApartRow : OpenClaim := { program := "ytchcbncelckgeaa", sum := "9542a203036899fd333657aba8a05b42c361b61b90eb3abfcc4706e3deaaae2e", func := "backstitch/backstitchkeep3.NanboxApart", spec := "nanboxApart", apart := false }
def NanboxApartSaid : Prop := nanboxApartRow.holds Try.pinned (OpenSpec.ofChange nanboxApartSpec)

/-- ITS FALSE NEIGHBOUR: 'it returns false'. Refute it at one input. -/
def nanboxApartWrong : ChangeSpec := { name := "nanboxApart", fn := fun _ => fun
  | [d1, d2] => { results := [.lit (.bool false)], args := [d1, d2] }
  | _ => none }
def NanboxApartWrongFalsely : Prop := nanboxApartRow.holds Try.pinned (OpenSpec.ofChange nanboxApartWrong)

/-- 'backstitchkeep3.NanboxFloats': WHATEVER THE INPUT: true; the input reads as it did. -/
def nanboxFloatsSpec : ChangeSpec := { name := "nanboxFloats", fn := fun _ => fun
  | [d1, d2] => { results := [.lit (.bool true)], args := [d1, d2] }
  | _ => none }
def nanboxFloatsRow : OpenClaim := { program := "ytchcbncelckgeaa", sum := "9542a203036899fd333657aba8a05b42c361b61b90eb3abfcc4706e3deaaae2e", func := "backstitch/backstitchkeep3.NanboxFloats", spec := "nanboxFloats", apart := false }
def NanboxFloatsSaid : Prop := nanboxFloatsRow.holds Try.pinned (OpenSpec.ofChange nanboxFloatsSpec)

/-- ITS FALSE NEIGHBOUR: 'it returns false'. Refute it at one input. -/
def nanboxFloatsWrong : ChangeSpec := { name := "nanboxFloats", fn := fun _ => fun
  | [d1, d2] => { results := [.lit (.bool false)], args := [d1, d2] }
  | _ => none }
def NanboxFloatsWrongFalsely : Prop := nanboxFloatsRow.holds Try.pinned (OpenSpec.ofChange nanboxFloatsWrong)

/-- 'backstitchkeep3.NanboxBack': WHATEVER THE INPUT: true; the input reads as it did. -/
def nanboxBackSpec : ChangeSpec := { name := "nanboxBack", fn := fun _ => fun
  | [d1, d2] => { results := [.lit (.bool true)], args := [d1, d2] }
  | _ => none }
def nanboxBackRow : OpenClaim := { program := "ytchcbncelckgeaa", sum := "9542a203036899fd333657aba8a05b42c361b61b90eb3abfcc4706e3deaaae2e", func := "backstitch/backstitchkeep3.NanboxBack", spec := "nanboxBack", apart := false }
def NanboxBackSaid : Prop := nanboxBackRow.holds Try.pinned (OpenSpec.ofChange nanboxBackSpec)

/-- ITS FALSE NEIGHBOUR: 'it returns false'. Refute it at one input. -/
def nanboxBackWrong : ChangeSpec := { name := "nanboxBack", fn := fun _ => fun
  | [d1, d2] => { results := [.lit (.bool false)], args := [d1, d2] }
  | _ => none }
def NanboxBackWrongFalsely : Prop := nanboxBackRow.holds Try.pinned (OpenSpec.ofChange nanboxBackWrong)

/-- 'backstitchkeep3.MovesIdle': WHATEVER THE INPUT: true; the input reads as it did. -/
def movesIdleSpec : ChangeSpec := { name := "movesIdle", fn := fun _ => fun
  | [d1, d2] => { results := [.lit (.bool true)], args := [d1, d2] }
  | _ => none }
def movesIdleRow : OpenClaim := { program := "ytchcbncelckgeaa", sum := "9542a203036899fd333657aba8a05b42c361b61b90eb3abfcc4706e3deaaae2e", func := "backstitch/backstitchkeep3.MovesIdle", spec := "movesIdle", unfollowed := true, recurses := true, apart := false }
def MovesIdleSaid : Prop := movesIdleRow.holds Try.pinned (OpenSpec.ofChange movesIdleSpec)

/-- ITS FALSE NEIGHBOUR: 'it returns false'. Refute it at one input. -/
def movesIdleWrong : ChangeSpec := { name := "movesIdle", fn := fun _ => fun
  | [d1, d2] => { results := [.lit (.bool false)], args := [d1, d2] }
  | _ => none }
def MovesIdleWrongFalsely : Prop := movesIdleRow.holds Try.pinned (OpenSpec.ofChange movesIdleWrong)

/-- 'backstitchkeep3.MovesAll': WHATEVER THE INPUT: true; the input reads as it did. -/
def movesAllSpec : ChangeSpec := { name := "movesAll", fn := fun _ => fun
  | [d1, d2, d3] => { results := [.lit (.bool true)], args := [d1, d2, d3] }
  | _ => none }
def movesAllRow : OpenClaim := { program := "ytchcbncelckgeaa", sum := "9542a203036899fd333657aba8a05b42c361b61b90eb3abfcc4706e3deaaae2e", func := "backstitch/backstitchkeep3.MovesAll", spec := "movesAll", unfollowed := true, recurses := true, apart := false }
def MovesAllSaid : Prop := movesAllRow.holds Try.pinned (OpenSpec.ofChange movesAllSpec)

/-- ITS FALSE NEIGHBOUR: 'it returns false'. Refute it at one input. -/
def movesAllWrong : ChangeSpec := { name := "movesAll", fn := fun _ => fun
  | [d1, d2, d3] => { results := [.lit (.bool false)], args := [d1, d2, d3] }
  | _ => none }
def MovesAllWrongFalsely : Prop := movesAllRow.holds Try.pinned (OpenSpec.ofChange movesAllWrong)

/-- 'backstitchkeep3.LiveLoops': WHATEVER THE INPUT: true; the input reads as it did. -/
def liveLoopsSpec : ChangeSpec := { name := "liveLoops", fn := fun _ => fun
  | [d] => { results := [.lit (.bool true)], args := [d] }
  | _ => none }
def liveLoopsRow : OpenClaim := { program := "ytchcbncelckgeaa", sum := "9542a203036899fd333657aba8a05b42c361b61b90eb3abfcc4706e3deaaae2e", func := "backstitch/backstitchkeep3.LiveLoops", spec := "liveLoops", unfollowed := true, recurses := true, apart := false }
def LiveLoopsSaid : Prop := liveLoopsRow.holds Try.pinned (OpenSpec.ofChange liveLoopsSpec)

/-- ITS FALSE NEIGHBOUR: 'it returns false'. Refute it at one input. -/
def liveLoopsWrong : ChangeSpec := { name := "liveLoops", fn := fun _ => fun
  | [d] => { results := [.lit (.bool false)], args := [d] }
  | _ => none }
def LiveLoopsWrongFalsely : Prop := liveLoopsRow.holds Try.pinned (OpenSpec.ofChange liveLoopsWrong)

/-- 'backstitchkeep3.LiveLast': WHATEVER THE INPUT: true; the input reads as it did. -/
def liveLastSpec : ChangeSpec := { name := "liveLast", fn := fun _ => fun
  | [d] => { results := [.lit (.bool true)], args := [d] }
  | _ => none }
def liveLastRow : OpenClaim := { program := "ytchcbncelckgeaa", sum := "9542a203036899fd333657aba8a05b42c361b61b90eb3abfcc4706e3deaaae2e", func := "backstitch/backstitchkeep3.LiveLast", spec := "liveLast", unfollowed := true, recurses := true, apart := false }
def LiveLastSaid : Prop := liveLastRow.holds Try.pinned (OpenSpec.ofChange liveLastSpec)

/-- ITS FALSE NEIGHBOUR: 'it returns false'. Refute it at one input. -/
def liveLastWrong : ChangeSpec := { name := "liveLast", fn := fun _ => fun
  | [d] => { results := [.lit (.bool false)], args := [d] }
  | _ => none }
def LiveLastWrongFalsely : Prop := liveLastRow.holds Try.pinned (OpenSpec.ofChange liveLastWrong)

/- THE SECOND FORM. 'bulk': how many values and letters a reading holds, each counted each time it is reached (what is shared counts as often as it is met; a slice's spare places count too). A statement '..UptoSaid' is the law's where the arguments, and the package variables that the reading takes, are together of bulk at most 1048576: NARROWER than '..Said'. Prove '..Said' where nothing that the law and all that it calls make is longer than what came in: it says more and counts as full. Else prove '..UptoSaid'. A law counts once. -/
mutual
def uptoBulk {H : Type} : DataW H → Nat
  | .lit (.string bytes) => bytes.length + 1
  | .lit _ => 1
  | .nil => 1
  | .ptr d => uptoBulk d + 1
  | .slice elems spare => uptoBulkAll elems + uptoBulkAll spare + 1
  | .agg parts => uptoBulkAll parts + 1
  | .iface _ d => uptoBulk d + 1
  | .map entries => uptoBulkEntries entries + 1
  | .held _ => 1
def uptoBulkAll {H : Type} : List (DataW H) → Nat
  | [] => 0
  | d :: r => uptoBulk d + uptoBulkAll r
def uptoBulkEntries {H : Type} : List (Lit × DataW H) → Nat
  | [] => 0
  | x :: r => uptoBulkEntry x + uptoBulkEntries r
def uptoBulkEntry {H : Type} : Lit × DataW H → Nat
  | (.string bytes, d) => bytes.length + uptoBulk d + 1
  | (_, d) => uptoBulk d + 1
 end
def uptoSmall : (H : Type) → List (DataW H) → Bool := fun _ ds => decide (uptoBulkAll ds ≤ 1048576)
def OpenSpec.upto (s : _root_.Go.ChangeSpec) : _root_.Go.OpenSpec := { _root_.Go.OpenSpec.ofChange s with cond := some uptoSmall }

/-- 'backstitchkeep3.LeaveSets', WHERE WHAT IT READS IS OF BULK AT MOST 1048576: true; the input reads as it did. -/
def leaveSetsUptoRow : OpenClaim := { program := "ytchcbncelckgeaa", sum := "9542a203036899fd333657aba8a05b42c361b61b90eb3abfcc4706e3deaaae2e", func := "backstitch/backstitchkeep3.LeaveSets", spec := "leaveSets", apart := false, narrowed := true }
def LeaveSetsUptoSaid : Prop := leaveSetsUptoRow.holds Try.pinned (OpenSpec.upto leaveSetsSpec)

/-- 'backstitchkeep3.LeaveMakes', WHERE WHAT IT READS IS OF BULK AT MOST 1048576: true; the input reads as it did. -/
def leaveMakesUptoRow : OpenClaim := { program := "ytchcbncelckgeaa", sum := "9542a203036899fd333657aba8a05b42c361b61b90eb3abfcc4706e3deaaae2e", func := "backstitch/backstitchkeep3.LeaveMakes", spec := "leaveMakes", apart := false, narrowed := true }
def LeaveMakesUptoSaid : Prop := leaveMakesUptoRow.holds Try.pinned (OpenSpec.upto leaveMakesSpec)

/-- 'backstitchkeep3.LeaveBare', WHERE WHAT IT READS IS OF BULK AT MOST 1048576: true; the input reads as it did. -/
def leaveBareUptoRow : OpenClaim := { program := "ytchcbncelckgeaa", sum := "9542a203036899fd333657aba8a05b42c361b61b90eb3abfcc4706e3deaaae2e", func := "backstitch/backstitchkeep3.LeaveBare", spec := "leaveBare", apart := false, narrowed := true }
def LeaveBareUptoSaid : Prop := leaveBareUptoRow.holds Try.pinned (OpenSpec.upto leaveBareSpec)

/-- 'backstitchkeep3.LeaveOut', WHERE WHAT IT READS IS OF BULK AT MOST 1048576: true; the input reads as it did. -/
def leaveOutUptoRow : OpenClaim := { program := "ytchcbncelckgeaa", sum := "9542a203036899fd333657aba8a05b42c361b61b90eb3abfcc4706e3deaaae2e", func := "backstitch/backstitchkeep3.LeaveOut", spec := "leaveOut", apart := false, narrowed := true }
def LeaveOutUptoSaid : Prop := leaveOutUptoRow.holds Try.pinned (OpenSpec.upto leaveOutSpec)

/-- 'backstitchkeep3.NanboxInts', WHERE WHAT IT READS IS OF BULK AT MOST 1048576: true; the input reads as it did. -/
def nanboxIntsUptoRow : OpenClaim := { program := "ytchcbncelckgeaa", sum := "9542a203036899fd333657aba8a05b42c361b61b90eb3abfcc4706e3deaaae2e", func := "backstitch/backstitchkeep3.NanboxInts", spec := "nanboxInts", unfollowed := true, recurses := true, apart := false, narrowed := true }
def NanboxIntsUptoSaid : Prop := nanboxIntsUptoRow.holds Try.pinned (OpenSpec.upto nanboxIntsSpec)

/-- 'backstitchkeep3.NanboxApart', WHERE WHAT IT READS IS OF BULK AT MOST 1048576: true; the input reads as it did. -/
def nanboxApartUptoRow : OpenClaim := { program := "ytchcbncelckgeaa", sum := "9542a203036899fd333657aba8a05b42c361b61b90eb3abfcc4706e3deaaae2e", func := "backstitch/backstitchkeep3.NanboxApart", spec := "nanboxApart", apart := false, narrowed := true }
def NanboxApartUptoSaid : Prop := nanboxApartUptoRow.holds Try.pinned (OpenSpec.upto nanboxApartSpec)

/-- 'backstitchkeep3.NanboxFloats', WHERE WHAT IT READS IS OF BULK AT MOST 1048576: true; the input reads as it did. -/
def nanboxFloatsUptoRow : OpenClaim := { program := "ytchcbncelckgeaa", sum := "9542a203036899fd333657aba8a05b42c361b61b90eb3abfcc4706e3deaaae2e", func := "backstitch/backstitchkeep3.NanboxFloats", spec := "nanboxFloats", apart := false, narrowed := true }
def NanboxFloatsUptoSaid : Prop := nanboxFloatsUptoRow.holds Try.pinned (OpenSpec.upto nanboxFloatsSpec)

/-- 'backstitchkeep3.NanboxBack', WHERE WHAT IT READS IS OF BULK AT MOST 1048576: true; the input reads as it did. -/
def nanboxBackUptoRow : OpenClaim := { program := "ytchcbncelckgeaa", sum := "9542a203036899fd333657aba8a05b42c361b61b90eb3abfcc4706e3deaaae2e", func := "backstitch/backstitchkeep3.NanboxBack", spec := "nanboxBack", apart := false, narrowed := true }
def NanboxBackUptoSaid : Prop := nanboxBackUptoRow.holds Try.pinned (OpenSpec.upto nanboxBackSpec)

/-- 'backstitchkeep3.MovesIdle', WHERE WHAT IT READS IS OF BULK AT MOST 1048576: true; the input reads as it did. -/
def movesIdleUptoRow : OpenClaim := { program := "ytchcbncelckgeaa", sum := "9542a203036899fd333657aba8a05b42c361b61b90eb3abfcc4706e3deaaae2e", func := "backstitch/backstitchkeep3.MovesIdle", spec := "movesIdle", unfollowed := true, recurses := true, apart := false, narrowed := true }
def MovesIdleUptoSaid : Prop := movesIdleUptoRow.holds Try.pinned (OpenSpec.upto movesIdleSpec)

/-- 'backstitchkeep3.MovesAll', WHERE WHAT IT READS IS OF BULK AT MOST 1048576: true; the input reads as it did. -/
def movesAllUptoRow : OpenClaim := { program := "ytchcbncelckgeaa", sum := "9542a203036899fd333657aba8a05b42c361b61b90eb3abfcc4706e3deaaae2e", func := "backstitch/backstitchkeep3.MovesAll", spec := "movesAll", unfollowed := true, recurses := true, apart := false, narrowed := true }
def MovesAllUptoSaid : Prop := movesAllUptoRow.holds Try.pinned (OpenSpec.upto movesAllSpec)

/-- 'backstitchkeep3.LiveLoops', WHERE WHAT IT READS IS OF BULK AT MOST 1048576: true; the input reads as it did. -/
def liveLoopsUptoRow : OpenClaim := { program := "ytchcbncelckgeaa", sum := "9542a203036899fd333657aba8a05b42c361b61b90eb3abfcc4706e3deaaae2e", func := "backstitch/backstitchkeep3.LiveLoops", spec := "liveLoops", unfollowed := true, recurses := true, apart := false, narrowed := true }
def LiveLoopsUptoSaid : Prop := liveLoopsUptoRow.holds Try.pinned (OpenSpec.upto liveLoopsSpec)

/-- 'backstitchkeep3.LiveLast', WHERE WHAT IT READS IS OF BULK AT MOST 1048576: true; the input reads as it did. -/
def liveLastUptoRow : OpenClaim := { program := "ytchcbncelckgeaa", sum := "9542a203036899fd333657aba8a05b42c361b61b90eb3abfcc4706e3deaaae2e", func := "backstitch/backstitchkeep3.LiveLast", spec := "liveLast", unfollowed := true, recurses := true, apart := false, narrowed := true }
def LiveLastUptoSaid : Prop := liveLastUptoRow.holds Try.pinned (OpenSpec.upto liveLastSpec)

end Rows
end Go.Proofs.Ytchcbncelckgeaa
