/-
  No cell of these rows narrows 'for every input' (looked for: loops, veiled, ifaces, maps, wideKeys, modest, calm, conditions, laid).
  DERIVED. THE GIVEN ROWS OF THIS SEAT. 11 by the template 'for every input the law returns true; each argument reads behind the call as it read before'; 0 by the template 'total and deterministic' (their statements: YtoleplbmkdhgeaaTotals.lean).
  GIVEN WITH THE SEED: the statements are not yours to turn. If you find one false, say at which input.
  Laid BY PROGRAM, IN A SANDBOX (cutbox-rows.mjs): the forced cells as the released guide's own fill.sh prints them over the translation 7750388a3fa0210c… (all of the seat's roots in one cut). By AI agents, Wed Nov 11 2026. No macro, syntax, notation, axiom, sorry.
-/
import Derived.Test.YtoleplbmkdhgeaaChecked
import GoSem.Claim
import GoSem.ClaimJoined
import GoSem.ClaimMapViews
import Derived.JoinedTies
import Derived.KernelRfl
namespace Go.Proofs.Ytoleplbmkdhgeaa
/- THE CELL 'sum', in the pinned program and in every row, IS THE sha256 OF THE DUMP (.gsa) THAT YtoleplbmkdhgeaaProg.lean LOADS. Nothing in Lean hashes anything: it is a label: what it is worth is what the hold of that sum in a sandbox is worth. -/
noncomputable def Try.pinned : Pinned := { name := "ytoleplbmkdhgeaa", sum := "7750388a3fa0210cce914585a55c70e43975dd98fe4440bfa852090cd6dc18dc", checked := Try.checked }
namespace Rows
def none {H : Type} : Left H := { results := [], args := [] }

/-- 'backstitchkeep3.WeakMore': WHATEVER THE INPUT: true; the input reads as it did. -/
def weakMoreSpec : ChangeSpec := { name := "weakMore", fn := fun _ => fun
  | [d1, d2, d3, d4] => { results := [.lit (.bool true)], args := [d1, d2, d3, d4] }
  | _ => none }
def weakMoreRow : OpenClaim := { program := "ytoleplbmkdhgeaa", sum := "7750388a3fa0210cce914585a55c70e43975dd98fe4440bfa852090cd6dc18dc", func := "backstitch/backstitchkeep3.WeakMore", spec := "weakMore", apart := false }
def WeakMoreSaid : Prop := weakMoreRow.holds Try.pinned (OpenSpec.ofChange weakMoreSpec)

/-- ITS FALSE NEIGHBOUR: 'it returns false'. Refute it at one input. -/
def weakMoreWrong : ChangeSpec := { name := "weakMore", fn := fun _ => fun
  | [d1, d2, d3, d4] => { results := [.lit (.bool false)], args := [d1, d2, d3, d4] }
  | _ => none }
def WeakMoreWrongFalsely : Prop := weakMoreRow.holds Try.pinned (OpenSpec.ofChange weakMoreWrong)

/-- 'backstitchkeep3.WeakLeast': WHATEVER THE INPUT: true; the input reads as it did. -/
def weakLeastSpec : ChangeSpec := { name := "weakLeast", fn := fun _ => fun
  | [d1, d2, d3] => { results := [.lit (.bool true)], args := [d1, d2, d3] }
  | _ => none }
def weakLeastRow : OpenClaim := { program := "ytoleplbmkdhgeaa", sum := "7750388a3fa0210cce914585a55c70e43975dd98fe4440bfa852090cd6dc18dc", func := "backstitch/backstitchkeep3.WeakLeast", spec := "weakLeast", unfollowed := true, recurses := true, apart := false }
def WeakLeastSaid : Prop := weakLeastRow.holds Try.pinned (OpenSpec.ofChange weakLeastSpec)

/-- ITS FALSE NEIGHBOUR: 'it returns false'. Refute it at one input. -/
def weakLeastWrong : ChangeSpec := { name := "weakLeast", fn := fun _ => fun
  | [d1, d2, d3] => { results := [.lit (.bool false)], args := [d1, d2, d3] }
  | _ => none }
def WeakLeastWrongFalsely : Prop := weakLeastRow.holds Try.pinned (OpenSpec.ofChange weakLeastWrong)

/-- 'backstitchkeep3.WeakOrder': WHATEVER THE INPUT: true; the input reads as it did. -/
def weakOrderSpec : ChangeSpec := { name := "weakOrder", fn := fun _ => fun
  | [d1, d2] => { results := [.lit (.bool true)], args := [d1, d2] }
  | _ => none }
def weakOrderRow : OpenClaim := { program := "ytoleplbmkdhgeaa", sum := "7750388a3fa0210cce914585a55c70e43975dd98fe4440bfa852090cd6dc18dc", func := "backstitch/backstitchkeep3.WeakOrder", spec := "weakOrder", apart := false }
def WeakOrderSaid : Prop := weakOrderRow.holds Try.pinned (OpenSpec.ofChange weakOrderSpec)

/-- ITS FALSE NEIGHBOUR: 'it returns false'. Refute it at one input. -/
def weakOrderWrong : ChangeSpec := { name := "weakOrder", fn := fun _ => fun
  | [d1, d2] => { results := [.lit (.bool false)], args := [d1, d2] }
  | _ => none }
def WeakOrderWrongFalsely : Prop := weakOrderRow.holds Try.pinned (OpenSpec.ofChange weakOrderWrong)

/-- 'backstitchkeep3.OwnsEdges': WHATEVER THE INPUT: true; the input reads as it did. -/
def ownsEdgesSpec : ChangeSpec := { name := "ownsEdges", fn := fun _ => fun
  | [d] => { results := [.lit (.bool true)], args := [d] }
  | _ => none }
def ownsEdgesRow : OpenClaim := { program := "ytoleplbmkdhgeaa", sum := "7750388a3fa0210cce914585a55c70e43975dd98fe4440bfa852090cd6dc18dc", func := "backstitch/backstitchkeep3.OwnsEdges", spec := "ownsEdges", recurses := true, apart := false }
def OwnsEdgesSaid : Prop := ownsEdgesRow.holds Try.pinned (OpenSpec.ofChange ownsEdgesSpec)

/-- ITS FALSE NEIGHBOUR: 'it returns false'. Refute it at one input. -/
def ownsEdgesWrong : ChangeSpec := { name := "ownsEdges", fn := fun _ => fun
  | [d] => { results := [.lit (.bool false)], args := [d] }
  | _ => none }
def OwnsEdgesWrongFalsely : Prop := ownsEdgesRow.holds Try.pinned (OpenSpec.ofChange ownsEdgesWrong)

/-- 'backstitchkeep3.OwnsTree': WHATEVER THE INPUT: true; the input reads as it did. -/
def ownsTreeSpec : ChangeSpec := { name := "ownsTree", fn := fun _ => fun
  | [d] => { results := [.lit (.bool true)], args := [d] }
  | _ => none }
def ownsTreeRow : OpenClaim := { program := "ytoleplbmkdhgeaa", sum := "7750388a3fa0210cce914585a55c70e43975dd98fe4440bfa852090cd6dc18dc", func := "backstitch/backstitchkeep3.OwnsTree", spec := "ownsTree", unfollowed := true, recurses := true, apart := false }
def OwnsTreeSaid : Prop := ownsTreeRow.holds Try.pinned (OpenSpec.ofChange ownsTreeSpec)

/-- ITS FALSE NEIGHBOUR: 'it returns false'. Refute it at one input. -/
def ownsTreeWrong : ChangeSpec := { name := "ownsTree", fn := fun _ => fun
  | [d] => { results := [.lit (.bool false)], args := [d] }
  | _ => none }
def OwnsTreeWrongFalsely : Prop := ownsTreeRow.holds Try.pinned (OpenSpec.ofChange ownsTreeWrong)

/-- 'backstitchkeep3.OwnsAway': WHATEVER THE INPUT: true; the input reads as it did. -/
def ownsAwaySpec : ChangeSpec := { name := "ownsAway", fn := fun _ => fun
  | [d1, d2] => { results := [.lit (.bool true)], args := [d1, d2] }
  | _ => none }
def ownsAwayRow : OpenClaim := { program := "ytoleplbmkdhgeaa", sum := "7750388a3fa0210cce914585a55c70e43975dd98fe4440bfa852090cd6dc18dc", func := "backstitch/backstitchkeep3.OwnsAway", spec := "ownsAway", unfollowed := true, recurses := true, apart := false }
def OwnsAwaySaid : Prop := ownsAwayRow.holds Try.pinned (OpenSpec.ofChange ownsAwaySpec)

/-- ITS FALSE NEIGHBOUR: 'it returns false'. Refute it at one input. -/
def ownsAwayWrong : ChangeSpec := { name := "ownsAway", fn := fun _ => fun
  | [d1, d2] => { results := [.lit (.bool false)], args := [d1, d2] }
  | _ => none }
def OwnsAwayWrongFalsely : Prop := ownsAwayRow.holds Try.pinned (OpenSpec.ofChange ownsAwayWrong)

/-- 'backstitchkeep3.HaulAlike': WHATEVER THE INPUT: true; the input reads as it did. -/
def haulAlikeSpec : ChangeSpec := { name := "haulAlike", fn := fun _ => fun
  | [d] => { results := [.lit (.bool true)], args := [d] }
  | _ => none }
def haulAlikeRow : OpenClaim := { program := "ytoleplbmkdhgeaa", sum := "7750388a3fa0210cce914585a55c70e43975dd98fe4440bfa852090cd6dc18dc", func := "backstitch/backstitchkeep3.HaulAlike", spec := "haulAlike", apart := false }
def HaulAlikeSaid : Prop := haulAlikeRow.holds Try.pinned (OpenSpec.ofChange haulAlikeSpec)

/-- ITS FALSE NEIGHBOUR: 'it returns false'. Refute it at one input. -/
def haulAlikeWrong : ChangeSpec := { name := "haulAlike", fn := fun _ => fun
  | [d] => { results := [.lit (.bool false)], args := [d] }
  | _ => none }
def HaulAlikeWrongFalsely : Prop := haulAlikeRow.holds Try.pinned (OpenSpec.ofChange haulAlikeWrong)

/-- 'backstitchkeep3.HaulTwice': WHATEVER THE INPUT: true; the input reads as it did. -/
def haulTwiceSpec : ChangeSpec := { name := "haulTwice", fn := fun _ => fun
  | [d] => { results := [.lit (.bool true)], args := [d] }
  | _ => none }
def haulTwiceRow : OpenClaim := { program := "ytoleplbmkdhgeaa", sum := "7750388a3fa0210cce914585a55c70e43975dd98fe4440bfa852090cd6dc18dc", func := "backstitch/backstitchkeep3.HaulTwice", spec := "haulTwice", apart := false }
def HaulTwiceSaid : Prop := haulTwiceRow.holds Try.pinned (OpenSpec.ofChange haulTwiceSpec)

/-- ITS FALSE NEIGHBOUR: 'it returns false'. Refute it at one input. -/
def haulTwiceWrong : ChangeSpec := { name := "haulTwice", fn := fun _ => fun
  | [d] => { results := [.lit (.bool false)], args := [d] }
  | _ => none }
def HaulTwiceWrongFalsely : Prop := haulTwiceRow.holds Try.pinned (OpenSpec.ofChange haulTwiceWrong)

/-- 'backstitchkeep3.HaulRoots': WHATEVER THE INPUT: true; the input reads as it did. -/
def haulRootsSpec : ChangeSpec := { name := "haulRoots", fn := fun _ => fun
  | [d1, d2] => { results := [.lit (.bool true)], args := [d1, d2] }
  | _ => none }
def haulRootsRow : OpenClaim := { program := "ytoleplbmkdhgeaa", sum := "7750388a3fa0210cce914585a55c70e43975dd98fe4440bfa852090cd6dc18dc", func := "backstitch/backstitchkeep3.HaulRoots", spec := "haulRoots", apart := false }
def HaulRootsSaid : Prop := haulRootsRow.holds Try.pinned (OpenSpec.ofChange haulRootsSpec)

/-- ITS FALSE NEIGHBOUR: 'it returns false'. Refute it at one input. -/
def haulRootsWrong : ChangeSpec := { name := "haulRoots", fn := fun _ => fun
  | [d1, d2] => { results := [.lit (.bool false)], args := [d1, d2] }
  | _ => none }
def HaulRootsWrongFalsely : Prop := haulRootsRow.holds Try.pinned (OpenSpec.ofChange haulRootsWrong)

/-- 'backstitchkeep3.HaulLess': WHATEVER THE INPUT: true; the input reads as it did. -/
def haulLessSpec : ChangeSpec := { name := "haulLess", fn := fun _ => fun
  | [d] => { results := [.lit (.bool true)], args := [d] }
  | _ => none }
def haulLessRow : OpenClaim := { program := "ytoleplbmkdhgeaa", sum := "7750388a3fa0210cce914585a55c70e43975dd98fe4440bfa852090cd6dc18dc", func := "backstitch/backstitchkeep3.HaulLess", spec := "haulLess", apart := false }
def HaulLessSaid : Prop := haulLessRow.holds Try.pinned (OpenSpec.ofChange haulLessSpec)

/-- ITS FALSE NEIGHBOUR: 'it returns false'. Refute it at one input. -/
def haulLessWrong : ChangeSpec := { name := "haulLess", fn := fun _ => fun
  | [d] => { results := [.lit (.bool false)], args := [d] }
  | _ => none }
def HaulLessWrongFalsely : Prop := haulLessRow.holds Try.pinned (OpenSpec.ofChange haulLessWrong)

/-- 'backstitchkeep3.HaulWhole': WHATEVER THE INPUT: true; the input reads as it did. -/
def haulWholeSpec : ChangeSpec := { name := "haulWhole", fn := fun _ => fun
  | [d] => { results := [.lit (.bool true)], args := [d] }
  | _ => none }
def haulWholeRow : OpenClaim := { program := "ytoleplbmkdhgeaa", sum := "7750388a3fa0210cce914585a55c70e43975dd98fe4440bfa852090cd6dc18dc", func := "backstitch/backstitchkeep3.HaulWhole", spec := "haulWhole", apart := false }
def HaulWholeSaid : Prop := haulWholeRow.holds Try.pinned (OpenSpec.ofChange haulWholeSpec)

/-- ITS FALSE NEIGHBOUR: 'it returns false'. Refute it at one input. -/
def haulWholeWrong : ChangeSpec := { name := "haulWhole", fn := fun _ => fun
  | [d] => { results := [.lit (.bool false)], args := [d] }
  | _ => none }
def HaulWholeWrongFalsely : Prop := haulWholeRow.holds Try.pinned (OpenSpec.ofChange haulWholeWrong)

/- THE SECOND FORM. 'bulk': how many values and letters a reading holds, each counted each time it is reached (what is shared counts as often as it is met; a slice's spare places count too). A statement '..UptoSaid' is the law's where the arguments, and the package variables that the reading takes, are together of bulk at most 1048576: NARROWER than '..Said'. Prove '..Said' where nothing that the law and all that it calls make is longer than what came in: it says more and counts as full. Else prove '..UptoSaid'. A law counts once. -/
mutual
def uptoBulk {H : Type} : DataW H → Nat
  | .lit (.string bytes) => bytes.length + 1
  | .lit _ => 1
  | .nil => 1
  | .ptr d => uptoBulk d + 1
  | .slice elems spare => uptoBulkAll elems + uptoBulkAll spare + 1
  | .agg parts => uptoBulkAll parts + 1
  | .iface _ d => uptoBulk d + 1
  | .map entries => uptoBulkEntries entries + 1
  | .held _ => 1
def uptoBulkAll {H : Type} : List (DataW H) → Nat
  | [] => 0
  | d :: r => uptoBulk d + uptoBulkAll r
def uptoBulkEntries {H : Type} : List (Lit × DataW H) → Nat
  | [] => 0
  | x :: r => uptoBulkEntry x + uptoBulkEntries r
def uptoBulkEntry {H : Type} : Lit × DataW H → Nat
  | (.string bytes, d) => bytes.length + uptoBulk d + 1
  | (_, d) => uptoBulk d + 1
 end
def uptoSmall : (H : Type) → List (DataW H) → Bool := fun _ ds => decide (uptoBulkAll ds ≤ 1048576)
def OpenSpec.upto (s : _root_.Go.ChangeSpec) : _root_.Go.OpenSpec := { _root_.Go.OpenSpec.ofChange s with cond := some uptoSmall }

/-- 'backstitchkeep3.WeakMore', WHERE WHAT IT READS IS OF BULK AT MOST 1048576: true; the input reads as it did. -/
def weakMoreUptoRow : OpenClaim := { program := "ytoleplbmkdhgeaa", sum := "7750388a3fa0210cce914585a55c70e43975dd98fe4440bfa852090cd6dc18dc", func := "backstitch/backstitchkeep3.WeakMore", spec := "weakMore", apart := false, narrowed := true }
def WeakMoreUptoSaid : Prop := weakMoreUptoRow.holds Try.pinned (OpenSpec.upto weakMoreSpec)

/-- 'backstitchkeep3.WeakLeast', WHERE WHAT IT READS IS OF BULK AT MOST 1048576: true; the input reads as it did. -/
def weakLeastUptoRow : OpenClaim := { program := "ytoleplbmkdhgeaa", sum := "7750388a3fa0210cce914585a55c70e43975dd98fe4440bfa852090cd6dc18dc", func := "backstitch/backstitchkeep3.WeakLeast", spec := "weakLeast", unfollowed := true, recurses := true, apart := false, narrowed := true }
def WeakLeastUptoSaid : Prop := weakLeastUptoRow.holds Try.pinned (OpenSpec.upto weakLeastSpec)

/-- 'backstitchkeep3.WeakOrder', WHERE WHAT IT READS IS OF BULK AT MOST 1048576: true; the input reads as it did. -/
def weakOrderUptoRow : OpenClaim := { program := "ytoleplbmkdhgeaa", sum := "7750388a3fa0210cce914585a55c70e43975dd98fe4440bfa852090cd6dc18dc", func := "backstitch/backstitchkeep3.WeakOrder", spec := "weakOrder", apart := false, narrowed := true }
def WeakOrderUptoSaid : Prop := weakOrderUptoRow.holds Try.pinned (OpenSpec.upto weakOrderSpec)

/-- 'backstitchkeep3.OwnsEdges', WHERE WHAT IT READS IS OF BULK AT MOST 1048576: true; the input reads as it did. -/
def ownsEdgesUptoRow : OpenClaim := { program := "ytoleplbmkdhgeaa", sum := "7750388a3fa0210cce914585a55c70e43975dd98fe4440bfa852090cd6dc18dc", func := "backstitch/backstitchkeep3.OwnsEdges", spec := "ownsEdges", recurses := true, apart := false, narrowed := true }
def OwnsEdgesUptoSaid : Prop := ownsEdgesUptoRow.holds Try.pinned (OpenSpec.upto ownsEdgesSpec)

/-- 'backstitchkeep3.OwnsTree', WHERE WHAT IT READS IS OF BULK AT MOST 1048576: true; the input reads as it did. -/
def ownsTreeUptoRow : OpenClaim := { program := "ytoleplbmkdhgeaa", sum := "7750388a3fa0210cce914585a55c70e43975dd98fe4440bfa852090cd6dc18dc", func := "backstitch/backstitchkeep3.OwnsTree", spec := "ownsTree", unfollowed := true, recurses := true, apart := false, narrowed := true }
def OwnsTreeUptoSaid : Prop := ownsTreeUptoRow.holds Try.pinned (OpenSpec.upto ownsTreeSpec)

/-- 'backstitchkeep3.OwnsAway', WHERE WHAT IT READS IS OF BULK AT MOST 1048576: true; the input reads as it did. -/
def ownsAwayUptoRow : OpenClaim := { program := "ytoleplbmkdhgeaa", sum := "7750388a3fa0210cce914585a55c70e43975dd98fe4440bfa852090cd6dc18dc", func := "backstitch/backstitchkeep3.OwnsAway", spec := "ownsAway", unfollowed := true, recurses := true, apart := false, narrowed := true }
def OwnsAwayUptoSaid : Prop := ownsAwayUptoRow.holds Try.pinned (OpenSpec.upto ownsAwaySpec)

/-- 'backstitchkeep3.HaulAlike', WHERE WHAT IT READS IS OF BULK AT MOST 1048576: true; the input reads as it did. -/
def haulAlikeUptoRow : OpenClaim := { program := "ytoleplbmkdhgeaa", sum := "7750388a3fa0210cce914585a55c70e43975dd98fe4440bfa852090cd6dc18dc", func := "backstitch/backstitchkeep3.HaulAlike", spec := "haulAlike", apart := false, narrowed := true }
def HaulAlikeUptoSaid : Prop := haulAlikeUptoRow.holds Try.pinned (OpenSpec.upto haulAlikeSpec)

/-- 'backstitchkeep3.HaulTwice', WHERE WHAT IT READS IS OF BULK AT MOST 1048576: true; the input reads as it did. -/
def haulTwiceUptoRow : OpenClaim := { program := "ytoleplbmkdhgeaa", sum := "7750388a3fa0210cce914585a55c70e43975dd98fe4440bfa852090cd6dc18dc", func := "backstitch/backstitchkeep3.HaulTwice", spec := "haulTwice", apart := false, narrowed := true }
def HaulTwiceUptoSaid : Prop := haulTwiceUptoRow.holds Try.pinned (OpenSpec.upto haulTwiceSpec)

/-- 'backstitchkeep3.HaulRoots', WHERE WHAT IT READS IS OF BULK AT MOST 1048576: true; the input reads as it did. -/
def haulRootsUptoRow : OpenClaim := { program := "ytoleplbmkdhgeaa", sum := "7750388a3fa0210cce914585a55c70e43975dd98fe4440bfa852090cd6dc18dc", func := "backstitch/backstitchkeep3.HaulRoots", spec := "haulRoots", apart := false, narrowed := true }
def HaulRootsUptoSaid : Prop := haulRootsUptoRow.holds Try.pinned (OpenSpec.upto haulRootsSpec)

/-- 'backstitchkeep3.HaulLess', WHERE WHAT IT READS IS OF BULK AT MOST 1048576: true; the input reads as it did. -/
def haulLessUptoRow : OpenClaim := { program := "ytoleplbmkdhgeaa", sum := "7750388a3fa0210cce914585a55c70e43975dd98fe4440bfa852090cd6dc18dc", func := "backstitch/backstitchkeep3.HaulLess", spec := "haulLess", apart := false, narrowed := true }
def HaulLessUptoSaid : Prop := haulLessUptoRow.holds Try.pinned (OpenSpec.upto haulLessSpec)

/-- 'backstitchkeep3.HaulWhole', WHERE WHAT IT READS IS OF BULK AT MOST 1048576: true; the input reads as it did. -/
def haulWholeUptoRow : OpenClaim := { program := "ytoleplbmkdhgeaa", sum := "7750388a3fa0210cce914585a55c70e43975dd98fe4440bfa852090cd6dc18dc", func := "backstitch/backstitchkeep3.HaulWhole", spec := "haulWhole", apart := false, narrowed := true }
def HaulWholeUptoSaid : Prop := haulWholeUptoRow.holds Try.pinned (OpenSpec.upto haulWholeSpec)

end Rows
end Go.Proofs.Ytoleplbmkdhgeaa
