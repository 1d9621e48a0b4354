/-
  No cell of these rows narrows 'for every input' (looked for: loops, veiled, ifaces, maps, wideKeys, modest, calm, conditions, laid).
  DERIVED. THE GIVEN ROWS OF THIS SEAT. 9 by the template 'for every input the law returns true; each argument reads behind the call as it read before'; 0 by the template 'total and deterministic' (their statements: YtecaemebamhamaaTotals.lean).
  GIVEN WITH THE SEED: the statements are not yours to turn. If you find one false, say at which input.
  Laid BY PROGRAM, IN A SANDBOX (cutbox-rows.mjs): the forced cells as the released guide's own fill.sh prints them over the translation ba50960e81780d3a… (all of the seat's roots in one cut). By AI agents, Wed Nov 11 2026. No macro, syntax, notation, axiom, sorry.
-/
import Derived.Test.YtecaemebamhamaaChecked
import GoSem.Claim
import GoSem.ClaimJoined
import GoSem.ClaimMapViews
import Derived.JoinedTies
import Derived.KernelRfl
namespace Go.Proofs.Ytecaemebamhamaa
/- THE CELL 'sum', in the pinned program and in every row, IS THE sha256 OF THE DUMP (.gsa) THAT YtecaemebamhamaaProg.lean LOADS. Nothing in Lean hashes anything: it is a label: what it is worth is what the hold of that sum in a sandbox is worth. -/
noncomputable def Try.pinned : Pinned := { name := "ytecaemebamhamaa", sum := "ba50960e81780d3a2799150af2fc7e7bc1a1f7fa1517d7bf48ec2341ca26b994", checked := Try.checked }
namespace Rows
def none {H : Type} : Left H := { results := [], args := [] }

/-- 'backstitchkeep3.OrderExits': WHATEVER THE INPUT: true; the input reads as it did. -/
def orderExitsSpec : ChangeSpec := { name := "orderExits", fn := fun _ => fun
  | [d] => { results := [.lit (.bool true)], args := [d] }
  | _ => none }
def orderExitsRow : OpenClaim := { program := "ytecaemebamhamaa", sum := "ba50960e81780d3a2799150af2fc7e7bc1a1f7fa1517d7bf48ec2341ca26b994", func := "backstitch/backstitchkeep3.OrderExits", spec := "orderExits", unfollowed := true, recurses := true, apart := false }
def OrderExitsSaid : Prop := orderExitsRow.holds Try.pinned (OpenSpec.ofChange orderExitsSpec)

/-- ITS FALSE NEIGHBOUR: 'it returns false'. Refute it at one input. -/
def orderExitsWrong : ChangeSpec := { name := "orderExits", fn := fun _ => fun
  | [d] => { results := [.lit (.bool false)], args := [d] }
  | _ => none }
def OrderExitsWrongFalsely : Prop := orderExitsRow.holds Try.pinned (OpenSpec.ofChange orderExitsWrong)

/-- 'backstitchkeep3.OrderWritten': WHATEVER THE INPUT: true; the input reads as it did. -/
def orderWrittenSpec : ChangeSpec := { name := "orderWritten", fn := fun _ => fun
  | [d] => { results := [.lit (.bool true)], args := [d] }
  | _ => none }
def orderWrittenRow : OpenClaim := { program := "ytecaemebamhamaa", sum := "ba50960e81780d3a2799150af2fc7e7bc1a1f7fa1517d7bf48ec2341ca26b994", func := "backstitch/backstitchkeep3.OrderWritten", spec := "orderWritten", unfollowed := true, recurses := true, apart := false }
def OrderWrittenSaid : Prop := orderWrittenRow.holds Try.pinned (OpenSpec.ofChange orderWrittenSpec)

/-- ITS FALSE NEIGHBOUR: 'it returns false'. Refute it at one input. -/
def orderWrittenWrong : ChangeSpec := { name := "orderWritten", fn := fun _ => fun
  | [d] => { results := [.lit (.bool false)], args := [d] }
  | _ => none }
def OrderWrittenWrongFalsely : Prop := orderWrittenRow.holds Try.pinned (OpenSpec.ofChange orderWrittenWrong)

/-- 'backstitchkeep3.OrderLess': WHATEVER THE INPUT: true; the input reads as it did. -/
def orderLessSpec : ChangeSpec := { name := "orderLess", fn := fun _ => fun
  | [d1, d2] => { results := [.lit (.bool true)], args := [d1, d2] }
  | _ => none }
def orderLessRow : OpenClaim := { program := "ytecaemebamhamaa", sum := "ba50960e81780d3a2799150af2fc7e7bc1a1f7fa1517d7bf48ec2341ca26b994", func := "backstitch/backstitchkeep3.OrderLess", spec := "orderLess", unfollowed := true, recurses := true, apart := false }
def OrderLessSaid : Prop := orderLessRow.holds Try.pinned (OpenSpec.ofChange orderLessSpec)

/-- ITS FALSE NEIGHBOUR: 'it returns false'. Refute it at one input. -/
def orderLessWrong : ChangeSpec := { name := "orderLess", fn := fun _ => fun
  | [d1, d2] => { results := [.lit (.bool false)], args := [d1, d2] }
  | _ => none }
def OrderLessWrongFalsely : Prop := orderLessRow.holds Try.pinned (OpenSpec.ofChange orderLessWrong)

/-- 'backstitchkeep3.OrderBack': WHATEVER THE INPUT: true; the input reads as it did. -/
def orderBackSpec : ChangeSpec := { name := "orderBack", fn := fun _ => fun
  | [d1, d2] => { results := [.lit (.bool true)], args := [d1, d2] }
  | _ => none }
def orderBackRow : OpenClaim := { program := "ytecaemebamhamaa", sum := "ba50960e81780d3a2799150af2fc7e7bc1a1f7fa1517d7bf48ec2341ca26b994", func := "backstitch/backstitchkeep3.OrderBack", spec := "orderBack", unfollowed := true, recurses := true, apart := false }
def OrderBackSaid : Prop := orderBackRow.holds Try.pinned (OpenSpec.ofChange orderBackSpec)

/-- ITS FALSE NEIGHBOUR: 'it returns false'. Refute it at one input. -/
def orderBackWrong : ChangeSpec := { name := "orderBack", fn := fun _ => fun
  | [d1, d2] => { results := [.lit (.bool false)], args := [d1, d2] }
  | _ => none }
def OrderBackWrongFalsely : Prop := orderBackRow.holds Try.pinned (OpenSpec.ofChange orderBackWrong)

/-- 'backstitchkeep3.OrderCut': WHATEVER THE INPUT: true; the input reads as it did. -/
def orderCutSpec : ChangeSpec := { name := "orderCut", fn := fun _ => fun
  | [d1, d2, d3] => { results := [.lit (.bool true)], args := [d1, d2, d3] }
  | _ => none }
def orderCutRow : OpenClaim := { program := "ytecaemebamhamaa", sum := "ba50960e81780d3a2799150af2fc7e7bc1a1f7fa1517d7bf48ec2341ca26b994", func := "backstitch/backstitchkeep3.OrderCut", spec := "orderCut", unfollowed := true, recurses := true, apart := false }
def OrderCutSaid : Prop := orderCutRow.holds Try.pinned (OpenSpec.ofChange orderCutSpec)

/-- ITS FALSE NEIGHBOUR: 'it returns false'. Refute it at one input. -/
def orderCutWrong : ChangeSpec := { name := "orderCut", fn := fun _ => fun
  | [d1, d2, d3] => { results := [.lit (.bool false)], args := [d1, d2, d3] }
  | _ => none }
def OrderCutWrongFalsely : Prop := orderCutRow.holds Try.pinned (OpenSpec.ofChange orderCutWrong)

/-- 'backstitchkeep3.ScanMore': WHATEVER THE INPUT: true; the input reads as it did. -/
def scanMoreSpec : ChangeSpec := { name := "scanMore", fn := fun _ => fun
  | [d1, d2] => { results := [.lit (.bool true)], args := [d1, d2] }
  | _ => none }
def scanMoreRow : OpenClaim := { program := "ytecaemebamhamaa", sum := "ba50960e81780d3a2799150af2fc7e7bc1a1f7fa1517d7bf48ec2341ca26b994", func := "backstitch/backstitchkeep3.ScanMore", spec := "scanMore", unfollowed := true, recurses := true, apart := false }
def ScanMoreSaid : Prop := scanMoreRow.holds Try.pinned (OpenSpec.ofChange scanMoreSpec)

/-- ITS FALSE NEIGHBOUR: 'it returns false'. Refute it at one input. -/
def scanMoreWrong : ChangeSpec := { name := "scanMore", fn := fun _ => fun
  | [d1, d2] => { results := [.lit (.bool false)], args := [d1, d2] }
  | _ => none }
def ScanMoreWrongFalsely : Prop := scanMoreRow.holds Try.pinned (OpenSpec.ofChange scanMoreWrong)

/-- 'backstitchkeep3.ScanLater': WHATEVER THE INPUT: true; the input reads as it did. -/
def scanLaterSpec : ChangeSpec := { name := "scanLater", fn := fun _ => fun
  | [d1, d2, d3] => { results := [.lit (.bool true)], args := [d1, d2, d3] }
  | _ => none }
def scanLaterRow : OpenClaim := { program := "ytecaemebamhamaa", sum := "ba50960e81780d3a2799150af2fc7e7bc1a1f7fa1517d7bf48ec2341ca26b994", func := "backstitch/backstitchkeep3.ScanLater", spec := "scanLater", unfollowed := true, recurses := true, apart := false }
def ScanLaterSaid : Prop := scanLaterRow.holds Try.pinned (OpenSpec.ofChange scanLaterSpec)

/-- ITS FALSE NEIGHBOUR: 'it returns false'. Refute it at one input. -/
def scanLaterWrong : ChangeSpec := { name := "scanLater", fn := fun _ => fun
  | [d1, d2, d3] => { results := [.lit (.bool false)], args := [d1, d2, d3] }
  | _ => none }
def ScanLaterWrongFalsely : Prop := scanLaterRow.holds Try.pinned (OpenSpec.ofChange scanLaterWrong)

/-- 'backstitchkeep3.ScanFewest': WHATEVER THE INPUT: true; the input reads as it did. -/
def scanFewestSpec : ChangeSpec := { name := "scanFewest", fn := fun _ => fun
  | [d1, d2] => { results := [.lit (.bool true)], args := [d1, d2] }
  | _ => none }
def scanFewestRow : OpenClaim := { program := "ytecaemebamhamaa", sum := "ba50960e81780d3a2799150af2fc7e7bc1a1f7fa1517d7bf48ec2341ca26b994", func := "backstitch/backstitchkeep3.ScanFewest", spec := "scanFewest", unfollowed := true, recurses := true, apart := false }
def ScanFewestSaid : Prop := scanFewestRow.holds Try.pinned (OpenSpec.ofChange scanFewestSpec)

/-- ITS FALSE NEIGHBOUR: 'it returns false'. Refute it at one input. -/
def scanFewestWrong : ChangeSpec := { name := "scanFewest", fn := fun _ => fun
  | [d1, d2] => { results := [.lit (.bool false)], args := [d1, d2] }
  | _ => none }
def ScanFewestWrongFalsely : Prop := scanFewestRow.holds Try.pinned (OpenSpec.ofChange scanFewestWrong)

/-- 'backstitchkeep3.ScanApart': WHATEVER THE INPUT: true; the input reads as it did. -/
def scanApartSpec : ChangeSpec := { name := "scanApart", fn := fun _ => fun
  | [d1, d2] => { results := [.lit (.bool true)], args := [d1, d2] }
  | _ => none }
def scanApartRow : OpenClaim := { program := "ytecaemebamhamaa", sum := "ba50960e81780d3a2799150af2fc7e7bc1a1f7fa1517d7bf48ec2341ca26b994", func := "backstitch/backstitchkeep3.ScanApart", spec := "scanApart", unfollowed := true, recurses := true, apart := false }
def ScanApartSaid : Prop := scanApartRow.holds Try.pinned (OpenSpec.ofChange scanApartSpec)

/-- ITS FALSE NEIGHBOUR: 'it returns false'. Refute it at one input. -/
def scanApartWrong : ChangeSpec := { name := "scanApart", fn := fun _ => fun
  | [d1, d2] => { results := [.lit (.bool false)], args := [d1, d2] }
  | _ => none }
def ScanApartWrongFalsely : Prop := scanApartRow.holds Try.pinned (OpenSpec.ofChange scanApartWrong)

/- THE SECOND FORM. 'bulk': how many values and letters a reading holds, each counted each time it is reached (what is shared counts as often as it is met; a slice's spare places count too). A statement '..UptoSaid' is the law's where the arguments, and the package variables that the reading takes, are together of bulk at most 1048576: NARROWER than '..Said'. Prove '..Said' where nothing that the law and all that it calls make is longer than what came in: it says more and counts as full. Else prove '..UptoSaid'. A law counts once. -/
mutual
def uptoBulk {H : Type} : DataW H → Nat
  | .lit (.string bytes) => bytes.length + 1
  | .lit _ => 1
  | .nil => 1
  | .ptr d => uptoBulk d + 1
  | .slice elems spare => uptoBulkAll elems + uptoBulkAll spare + 1
  | .agg parts => uptoBulkAll parts + 1
  | .iface _ d => uptoBulk d + 1
  | .map entries => uptoBulkEntries entries + 1
  | .held _ => 1
def uptoBulkAll {H : Type} : List (DataW H) → Nat
  | [] => 0
  | d :: r => uptoBulk d + uptoBulkAll r
def uptoBulkEntries {H : Type} : List (Lit × DataW H) → Nat
  | [] => 0
  | x :: r => uptoBulkEntry x + uptoBulkEntries r
def uptoBulkEntry {H : Type} : Lit × DataW H → Nat
  | (.string bytes, d) => bytes.length + uptoBulk d + 1
  | (_, d) => uptoBulk d + 1
 end
def uptoSmall : (H : Type) → List (DataW H) → Bool := fun _ ds => decide (uptoBulkAll ds ≤ 1048576)
def OpenSpec.upto (s : _root_.Go.ChangeSpec) : _root_.Go.OpenSpec := { _root_.Go.OpenSpec.ofChange s with cond := some uptoSmall }

/-- 'backstitchkeep3.OrderExits', WHERE WHAT IT READS IS OF BULK AT MOST 1048576: true; the input reads as it did. -/
def orderExitsUptoRow : OpenClaim := { program := "ytecaemebamhamaa", sum := "ba50960e81780d3a2799150af2fc7e7bc1a1f7fa1517d7bf48ec2341ca26b994", func := "backstitch/backstitchkeep3.OrderExits", spec := "orderExits", unfollowed := true, recurses := true, apart := false, narrowed := true }
def OrderExitsUptoSaid : Prop := orderExitsUptoRow.holds Try.pinned (OpenSpec.upto orderExitsSpec)

/-- 'backstitchkeep3.OrderWritten', WHERE WHAT IT READS IS OF BULK AT MOST 1048576: true; the input reads as it did. -/
def orderWrittenUptoRow : OpenClaim := { program := "ytecaemebamhamaa", sum := "ba50960e81780d3a2799150af2fc7e7bc1a1f7fa1517d7bf48ec2341ca26b994", func := "backstitch/backstitchkeep3.OrderWritten", spec := "orderWritten", unfollowed := true, recurses := true, apart := false, narrowed := true }
def OrderWrittenUptoSaid : Prop := orderWrittenUptoRow.holds Try.pinned (OpenSpec.upto orderWrittenSpec)

/-- 'backstitchkeep3.OrderLess', WHERE WHAT IT READS IS OF BULK AT MOST 1048576: true; the input reads as it did. -/
def orderLessUptoRow : OpenClaim := { program := "ytecaemebamhamaa", sum := "ba50960e81780d3a2799150af2fc7e7bc1a1f7fa1517d7bf48ec2341ca26b994", func := "backstitch/backstitchkeep3.OrderLess", spec := "orderLess", unfollowed := true, recurses := true, apart := false, narrowed := true }
def OrderLessUptoSaid : Prop := orderLessUptoRow.holds Try.pinned (OpenSpec.upto orderLessSpec)

/-- 'backstitchkeep3.OrderBack', WHERE WHAT IT READS IS OF BULK AT MOST 1048576: true; the input reads as it did. -/
def orderBackUptoRow : OpenClaim := { program := "ytecaemebamhamaa", sum := "ba50960e81780d3a2799150af2fc7e7bc1a1f7fa1517d7bf48ec2341ca26b994", func := "backstitch/backstitchkeep3.OrderBack", spec := "orderBack", unfollowed := true, recurses := true, apart := false, narrowed := true }
def OrderBackUptoSaid : Prop := orderBackUptoRow.holds Try.pinned (OpenSpec.upto orderBackSpec)

/-- 'backstitchkeep3.OrderCut', WHERE WHAT IT READS IS OF BULK AT MOST 1048576: true; the input reads as it did. -/
def orderCutUptoRow : OpenClaim := { program := "ytecaemebamhamaa", sum := "ba50960e81780d3a2799150af2fc7e7bc1a1f7fa1517d7bf48ec2341ca26b994", func := "backstitch/backstitchkeep3.OrderCut", spec := "orderCut", unfollowed := true, recurses := true, apart := false, narrowed := true }
def OrderCutUptoSaid : Prop := orderCutUptoRow.holds Try.pinned (OpenSpec.upto orderCutSpec)

/-- 'backstitchkeep3.ScanMore', WHERE WHAT IT READS IS OF BULK AT MOST 1048576: true; the input reads as it did. -/
def scanMoreUptoRow : OpenClaim := { program := "ytecaemebamhamaa", sum := "ba50960e81780d3a2799150af2fc7e7bc1a1f7fa1517d7bf48ec2341ca26b994", func := "backstitch/backstitchkeep3.ScanMore", spec := "scanMore", unfollowed := true, recurses := true, apart := false, narrowed := true }
def ScanMoreUptoSaid : Prop := scanMoreUptoRow.holds Try.pinned (OpenSpec.upto scanMoreSpec)

/-- 'backstitchkeep3.ScanLater', WHERE WHAT IT READS IS OF BULK AT MOST 1048576: true; the input reads as it did. -/
def scanLaterUptoRow : OpenClaim := { program := "ytecaemebamhamaa", sum := "ba50960e81780d3a2799150af2fc7e7bc1a1f7fa1517d7bf48ec2341ca26b994", func := "backstitch/backstitchkeep3.ScanLater", spec := "scanLater", unfollowed := true, recurses := true, apart := false, narrowed := true }
def ScanLaterUptoSaid : Prop := scanLaterUptoRow.holds Try.pinned (OpenSpec.upto scanLaterSpec)

/-- 'backstitchkeep3.ScanFewest', WHERE WHAT IT READS IS OF BULK AT MOST 1048576: true; the input reads as it did. -/
def scanFewestUptoRow : OpenClaim := { program := "ytecaemebamhamaa", sum := "ba50960e81780d3a2799150af2fc7e7bc1a1f7fa1517d7bf48ec2341ca26b994", func := "backstitch/backstitchkeep3.ScanFewest", spec := "scanFewest", unfollowed := true, recurses := true, apart := false, narrowed := true }
def ScanFewestUptoSaid : Prop := scanFewestUptoRow.holds Try.pinned (OpenSpec.upto scanFewestSpec)

/-- 'backstitchkeep3.ScanApart', WHERE WHAT IT READS IS OF BULK AT MOST 1048576: true; the input reads as it did. -/
def scanApartUptoRow : OpenClaim := { program := "ytecaemebamhamaa", sum := "ba50960e81780d3a2799150af2fc7e7bc1a1f7fa1517d7bf48ec2341ca26b994", func := "backstitch/backstitchkeep3.ScanApart", spec := "scanApart", unfollowed := true, recurses := true, apart := false, narrowed := true }
def ScanApartUptoSaid : Prop := scanApartUptoRow.holds Try.pinned (OpenSpec.upto scanApartSpec)

end Rows
end Go.Proofs.Ytecaemebamhamaa
