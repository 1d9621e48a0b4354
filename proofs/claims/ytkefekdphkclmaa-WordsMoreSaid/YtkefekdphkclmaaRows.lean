/-
  No cell of these rows narrows 'for every input' (looked for: loops, veiled, ifaces, maps, wideKeys, modest, calm, conditions, laid).
  DERIVED. THE GIVEN ROWS OF THIS SEAT. 9 by the template 'for every input the law returns true; each argument reads behind the call as it read before'; 0 by the template 'total and deterministic' (their statements: YtkefekdphkclmaaTotals.lean).
  GIVEN WITH THE SEED: the statements are not yours to turn. If you find one false, say at which input.
  Laid BY PROGRAM, IN A SANDBOX (cutbox-rows.mjs): the forced cells as the released guide's own fill.sh prints them over the translation c0360e58d2217077… (all of the seat's roots in one cut). By AI agents, Wed Nov 11 2026. No macro, syntax, notation, axiom, sorry.
-/
import Derived.Test.YtkefekdphkclmaaChecked
import GoSem.Claim
import GoSem.ClaimJoined
import GoSem.ClaimMapViews
import Derived.JoinedTies
import Derived.KernelRfl
namespace Go.Proofs.Ytkefekdphkclmaa
/- THE CELL 'sum', in the pinned program and in every row, IS THE sha256 OF THE DUMP (.gsa) THAT YtkefekdphkclmaaProg.lean LOADS. Nothing in Lean hashes anything: it is a label: what it is worth is what the hold of that sum in a sandbox is worth. -/
noncomputable def Try.pinned : Pinned := { name := "ytkefekdphkclmaa", sum := "c0360e58d22170771dd6b5db251f779e3ddb233ee967ae20581ccff8c2b46f0c", checked := Try.checked }
namespace Rows
def none {H : Type} : Left H := { results := [], args := [] }

/-- 'backstitchkeep3.WordsMore': WHATEVER THE INPUT: true; the input reads as it did. -/
def wordsMoreSpec : ChangeSpec := { name := "wordsMore", fn := fun _ => fun
  | [d1, d2, d3] => { results := [.lit (.bool true)], args := [d1, d2, d3] }
  | _ => none }
def wordsMoreRow : OpenClaim := { program := "ytkefekdphkclmaa", sum := "c0360e58d22170771dd6b5db251f779e3ddb233ee967ae20581ccff8c2b46f0c", func := "backstitch/backstitchkeep3.WordsMore", spec := "wordsMore", apart := false }
def WordsMoreSaid : Prop := wordsMoreRow.holds Try.pinned (OpenSpec.ofChange wordsMoreSpec)

/-- ITS FALSE NEIGHBOUR: 'it returns false'. Refute it at one input. -/
def wordsMoreWrong : ChangeSpec := { name := "wordsMore", fn := fun _ => fun
  | [d1, d2, d3] => { results := [.lit (.bool false)], args := [d1, d2, d3] }
  | _ => none }
def WordsMoreWrongFalsely : Prop := wordsMoreRow.holds Try.pinned (OpenSpec.ofChange wordsMoreWrong)

/-- 'backstitchkeep3.WordsBack': WHATEVER THE INPUT: true; the input reads as it did. -/
def wordsBackSpec : ChangeSpec := { name := "wordsBack", fn := fun _ => fun
  | [d1, d2] => { results := [.lit (.bool true)], args := [d1, d2] }
  | _ => none }
def wordsBackRow : OpenClaim := { program := "ytkefekdphkclmaa", sum := "c0360e58d22170771dd6b5db251f779e3ddb233ee967ae20581ccff8c2b46f0c", func := "backstitch/backstitchkeep3.WordsBack", spec := "wordsBack", apart := false }
def WordsBackSaid : Prop := wordsBackRow.holds Try.pinned (OpenSpec.ofChange wordsBackSpec)

/-- ITS FALSE NEIGHBOUR: 'it returns false'. Refute it at one input. -/
def wordsBackWrong : ChangeSpec := { name := "wordsBack", fn := fun _ => fun
  | [d1, d2] => { results := [.lit (.bool false)], args := [d1, d2] }
  | _ => none }
def WordsBackWrongFalsely : Prop := wordsBackRow.holds Try.pinned (OpenSpec.ofChange wordsBackWrong)

/-- 'backstitchkeep3.WordsRead': WHATEVER THE INPUT: true; the input reads as it did. -/
def wordsReadSpec : ChangeSpec := { name := "wordsRead", fn := fun _ => fun
  | [d] => { results := [.lit (.bool true)], args := [d] }
  | _ => none }
def wordsReadRow : OpenClaim := { program := "ytkefekdphkclmaa", sum := "c0360e58d22170771dd6b5db251f779e3ddb233ee967ae20581ccff8c2b46f0c", func := "backstitch/backstitchkeep3.WordsRead", spec := "wordsRead", apart := false }
def WordsReadSaid : Prop := wordsReadRow.holds Try.pinned (OpenSpec.ofChange wordsReadSpec)

/-- ITS FALSE NEIGHBOUR: 'it returns false'. Refute it at one input. -/
def wordsReadWrong : ChangeSpec := { name := "wordsRead", fn := fun _ => fun
  | [d] => { results := [.lit (.bool false)], args := [d] }
  | _ => none }
def WordsReadWrongFalsely : Prop := wordsReadRow.holds Try.pinned (OpenSpec.ofChange wordsReadWrong)

/-- 'backstitchkeep3.WordsCut': WHATEVER THE INPUT: true; the input reads as it did. -/
def wordsCutSpec : ChangeSpec := { name := "wordsCut", fn := fun _ => fun
  | [d1, d2] => { results := [.lit (.bool true)], args := [d1, d2] }
  | _ => none }
def wordsCutRow : OpenClaim := { program := "ytkefekdphkclmaa", sum := "c0360e58d22170771dd6b5db251f779e3ddb233ee967ae20581ccff8c2b46f0c", func := "backstitch/backstitchkeep3.WordsCut", spec := "wordsCut", apart := false }
def WordsCutSaid : Prop := wordsCutRow.holds Try.pinned (OpenSpec.ofChange wordsCutSpec)

/-- ITS FALSE NEIGHBOUR: 'it returns false'. Refute it at one input. -/
def wordsCutWrong : ChangeSpec := { name := "wordsCut", fn := fun _ => fun
  | [d1, d2] => { results := [.lit (.bool false)], args := [d1, d2] }
  | _ => none }
def WordsCutWrongFalsely : Prop := wordsCutRow.holds Try.pinned (OpenSpec.ofChange wordsCutWrong)

/-- 'backstitchkeep3.WordsCells': WHATEVER THE INPUT: true; the input reads as it did. -/
def wordsCellsSpec : ChangeSpec := { name := "wordsCells", fn := fun _ => fun
  | [d1, d2] => { results := [.lit (.bool true)], args := [d1, d2] }
  | _ => none }
def wordsCellsRow : OpenClaim := { program := "ytkefekdphkclmaa", sum := "c0360e58d22170771dd6b5db251f779e3ddb233ee967ae20581ccff8c2b46f0c", func := "backstitch/backstitchkeep3.WordsCells", spec := "wordsCells", apart := false }
def WordsCellsSaid : Prop := wordsCellsRow.holds Try.pinned (OpenSpec.ofChange wordsCellsSpec)

/-- ITS FALSE NEIGHBOUR: 'it returns false'. Refute it at one input. -/
def wordsCellsWrong : ChangeSpec := { name := "wordsCells", fn := fun _ => fun
  | [d1, d2] => { results := [.lit (.bool false)], args := [d1, d2] }
  | _ => none }
def WordsCellsWrongFalsely : Prop := wordsCellsRow.holds Try.pinned (OpenSpec.ofChange wordsCellsWrong)

/-- 'backstitchkeep3.StoreGone': WHATEVER THE INPUT: true; the input reads as it did. -/
def storeGoneSpec : ChangeSpec := { name := "storeGone", fn := fun _ => fun
  | [d] => { results := [.lit (.bool true)], args := [d] }
  | _ => none }
def storeGoneRow : OpenClaim := { program := "ytkefekdphkclmaa", sum := "c0360e58d22170771dd6b5db251f779e3ddb233ee967ae20581ccff8c2b46f0c", func := "backstitch/backstitchkeep3.StoreGone", spec := "storeGone", unfollowed := true, recurses := true, apart := false }
def StoreGoneSaid : Prop := storeGoneRow.holds Try.pinned (OpenSpec.ofChange storeGoneSpec)

/-- ITS FALSE NEIGHBOUR: 'it returns false'. Refute it at one input. -/
def storeGoneWrong : ChangeSpec := { name := "storeGone", fn := fun _ => fun
  | [d] => { results := [.lit (.bool false)], args := [d] }
  | _ => none }
def StoreGoneWrongFalsely : Prop := storeGoneRow.holds Try.pinned (OpenSpec.ofChange storeGoneWrong)

/-- 'backstitchkeep3.StoreReads': WHATEVER THE INPUT: true; the input reads as it did. -/
def storeReadsSpec : ChangeSpec := { name := "storeReads", fn := fun _ => fun
  | [d1, d2, d3, d4] => { results := [.lit (.bool true)], args := [d1, d2, d3, d4] }
  | _ => none }
def storeReadsRow : OpenClaim := { program := "ytkefekdphkclmaa", sum := "c0360e58d22170771dd6b5db251f779e3ddb233ee967ae20581ccff8c2b46f0c", func := "backstitch/backstitchkeep3.StoreReads", spec := "storeReads", unfollowed := true, recurses := true, apart := false }
def StoreReadsSaid : Prop := storeReadsRow.holds Try.pinned (OpenSpec.ofChange storeReadsSpec)

/-- ITS FALSE NEIGHBOUR: 'it returns false'. Refute it at one input. -/
def storeReadsWrong : ChangeSpec := { name := "storeReads", fn := fun _ => fun
  | [d1, d2, d3, d4] => { results := [.lit (.bool false)], args := [d1, d2, d3, d4] }
  | _ => none }
def StoreReadsWrongFalsely : Prop := storeReadsRow.holds Try.pinned (OpenSpec.ofChange storeReadsWrong)

/-- 'backstitchkeep3.StoreMoves': WHATEVER THE INPUT: true; the input reads as it did. -/
def storeMovesSpec : ChangeSpec := { name := "storeMoves", fn := fun _ => fun
  | [d1, d2, d3] => { results := [.lit (.bool true)], args := [d1, d2, d3] }
  | _ => none }
def storeMovesRow : OpenClaim := { program := "ytkefekdphkclmaa", sum := "c0360e58d22170771dd6b5db251f779e3ddb233ee967ae20581ccff8c2b46f0c", func := "backstitch/backstitchkeep3.StoreMoves", spec := "storeMoves", unfollowed := true, recurses := true, apart := false }
def StoreMovesSaid : Prop := storeMovesRow.holds Try.pinned (OpenSpec.ofChange storeMovesSpec)

/-- ITS FALSE NEIGHBOUR: 'it returns false'. Refute it at one input. -/
def storeMovesWrong : ChangeSpec := { name := "storeMoves", fn := fun _ => fun
  | [d1, d2, d3] => { results := [.lit (.bool false)], args := [d1, d2, d3] }
  | _ => none }
def StoreMovesWrongFalsely : Prop := storeMovesRow.holds Try.pinned (OpenSpec.ofChange storeMovesWrong)

/-- 'backstitchkeep3.StoreNeeds': WHATEVER THE INPUT: true; the input reads as it did. -/
def storeNeedsSpec : ChangeSpec := { name := "storeNeeds", fn := fun _ => fun
  | [d1, d2] => { results := [.lit (.bool true)], args := [d1, d2] }
  | _ => none }
def storeNeedsRow : OpenClaim := { program := "ytkefekdphkclmaa", sum := "c0360e58d22170771dd6b5db251f779e3ddb233ee967ae20581ccff8c2b46f0c", func := "backstitch/backstitchkeep3.StoreNeeds", spec := "storeNeeds", unfollowed := true, recurses := true, apart := false }
def StoreNeedsSaid : Prop := storeNeedsRow.holds Try.pinned (OpenSpec.ofChange storeNeedsSpec)

/-- ITS FALSE NEIGHBOUR: 'it returns false'. Refute it at one input. -/
def storeNeedsWrong : ChangeSpec := { name := "storeNeeds", fn := fun _ => fun
  | [d1, d2] => { results := [.lit (.bool false)], args := [d1, d2] }
  | _ => none }
def StoreNeedsWrongFalsely : Prop := storeNeedsRow.holds Try.pinned (OpenSpec.ofChange storeNeedsWrong)

/- THE SECOND FORM. 'bulk': how many values and letters a reading holds, each counted each time it is reached (what is shared counts as often as it is met; a slice's spare places count too). A statement '..UptoSaid' is the law's where the arguments, and the package variables that the reading takes, are together of bulk at most 1048576: NARROWER than '..Said'. Prove '..Said' where nothing that the law and all that it calls make is longer than what came in: it says more and counts as full. Else prove '..UptoSaid'. A law counts once. -/
mutual
def uptoBulk {H : Type} : DataW H → Nat
  | .lit (.string bytes) => bytes.length + 1
  | .lit _ => 1
  | .nil => 1
  | .ptr d => uptoBulk d + 1
  | .slice elems spare => uptoBulkAll elems + uptoBulkAll spare + 1
  | .agg parts => uptoBulkAll parts + 1
  | .iface _ d => uptoBulk d + 1
  | .map entries => uptoBulkEntries entries + 1
  | .held _ => 1
def uptoBulkAll {H : Type} : List (DataW H) → Nat
  | [] => 0
  | d :: r => uptoBulk d + uptoBulkAll r
def uptoBulkEntries {H : Type} : List (Lit × DataW H) → Nat
  | [] => 0
  | x :: r => uptoBulkEntry x + uptoBulkEntries r
def uptoBulkEntry {H : Type} : Lit × DataW H → Nat
  | (.string bytes, d) => bytes.length + uptoBulk d + 1
  | (_, d) => uptoBulk d + 1
 end
def uptoSmall : (H : Type) → List (DataW H) → Bool := fun _ ds => decide (uptoBulkAll ds ≤ 1048576)
def OpenSpec.upto (s : _root_.Go.ChangeSpec) : _root_.Go.OpenSpec := { _root_.Go.OpenSpec.ofChange s with cond := some uptoSmall }

/-- 'backstitchkeep3.WordsMore', WHERE WHAT IT READS IS OF BULK AT MOST 1048576: true; the input reads as it did. -/
def wordsMoreUptoRow : OpenClaim := { program := "ytkefekdphkclmaa", sum := "c0360e58d22170771dd6b5db251f779e3ddb233ee967ae20581ccff8c2b46f0c", func := "backstitch/backstitchkeep3.WordsMore", spec := "wordsMore", apart := false, narrowed := true }
def WordsMoreUptoSaid : Prop := wordsMoreUptoRow.holds Try.pinned (OpenSpec.upto wordsMoreSpec)

/-- 'backstitchkeep3.WordsBack', WHERE WHAT IT READS IS OF BULK AT MOST 1048576: true; the input reads as it did. -/
def wordsBackUptoRow : OpenClaim := { program := "ytkefekdphkclmaa", sum := "c0360e58d22170771dd6b5db251f779e3ddb233ee967ae20581ccff8c2b46f0c", func := "backstitch/backstitchkeep3.WordsBack", spec := "wordsBack", apart := false, narrowed := true }
def WordsBackUptoSaid : Prop := wordsBackUptoRow.holds Try.pinned (OpenSpec.upto wordsBackSpec)

/-- 'backstitchkeep3.WordsRead', WHERE WHAT IT READS IS OF BULK AT MOST 1048576: true; the input reads as it did. -/
def wordsReadUptoRow : OpenClaim := { program := "ytkefekdphkclmaa", sum := "c0360e58d22170771dd6b5db251f779e3ddb233ee967ae20581ccff8c2b46f0c", func := "backstitch/backstitchkeep3.WordsRead", spec := "wordsRead", apart := false, narrowed := true }
def WordsReadUptoSaid : Prop := wordsReadUptoRow.holds Try.pinned (OpenSpec.upto wordsReadSpec)

/-- 'backstitchkeep3.WordsCut', WHERE WHAT IT READS IS OF BULK AT MOST 1048576: true; the input reads as it did. -/
def wordsCutUptoRow : OpenClaim := { program := "ytkefekdphkclmaa", sum := "c0360e58d22170771dd6b5db251f779e3ddb233ee967ae20581ccff8c2b46f0c", func := "backstitch/backstitchkeep3.WordsCut", spec := "wordsCut", apart := false, narrowed := true }
def WordsCutUptoSaid : Prop := wordsCutUptoRow.holds Try.pinned (OpenSpec.upto wordsCutSpec)

/-- 'backstitchkeep3.WordsCells', WHERE WHAT IT READS IS OF BULK AT MOST 1048576: true; the input reads as it did. -/
def wordsCellsUptoRow : OpenClaim := { program := "ytkefekdphkclmaa", sum := "c0360e58d22170771dd6b5db251f779e3ddb233ee967ae20581ccff8c2b46f0c", func := "backstitch/backstitchkeep3.WordsCells", spec := "wordsCells", apart := false, narrowed := true }
def WordsCellsUptoSaid : Prop := wordsCellsUptoRow.holds Try.pinned (OpenSpec.upto wordsCellsSpec)

/-- 'backstitchkeep3.StoreGone', WHERE WHAT IT READS IS OF BULK AT MOST 1048576: true; the input reads as it did. -/
def storeGoneUptoRow : OpenClaim := { program := "ytkefekdphkclmaa", sum := "c0360e58d22170771dd6b5db251f779e3ddb233ee967ae20581ccff8c2b46f0c", func := "backstitch/backstitchkeep3.StoreGone", spec := "storeGone", unfollowed := true, recurses := true, apart := false, narrowed := true }
def StoreGoneUptoSaid : Prop := storeGoneUptoRow.holds Try.pinned (OpenSpec.upto storeGoneSpec)

/-- 'backstitchkeep3.StoreReads', WHERE WHAT IT READS IS OF BULK AT MOST 1048576: true; the input reads as it did. -/
def storeReadsUptoRow : OpenClaim := { program := "ytkefekdphkclmaa", sum := "c0360e58d22170771dd6b5db251f779e3ddb233ee967ae20581ccff8c2b46f0c", func := "backstitch/backstitchkeep3.StoreReads", spec := "storeReads", unfollowed := true, recurses := true, apart := false, narrowed := true }
def StoreReadsUptoSaid : Prop := storeReadsUptoRow.holds Try.pinned (OpenSpec.upto storeReadsSpec)

/-- 'backstitchkeep3.StoreMoves', WHERE WHAT IT READS IS OF BULK AT MOST 1048576: true; the input reads as it did. -/
def storeMovesUptoRow : OpenClaim := { program := "ytkefekdphkclmaa", sum := "c0360e58d22170771dd6b5db251f779e3ddb233ee967ae20581ccff8c2b46f0c", func := "backstitch/backstitchkeep3.StoreMoves", spec := "storeMoves", unfollowed := true, recurses := true, apart := false, narrowed := true }
def StoreMovesUptoSaid : Prop := storeMovesUptoRow.holds Try.pinned (OpenSpec.upto storeMovesSpec)

/-- 'backstitchkeep3.StoreNeeds', WHERE WHAT IT READS IS OF BULK AT MOST 1048576: true; the input reads as it did. -/
def storeNeedsUptoRow : OpenClaim := { program := "ytkefekdphkclmaa", sum := "c0360e58d22170771dd6b5db251f779e3ddb233ee967ae20581ccff8c2b46f0c", func := "backstitch/backstitchkeep3.StoreNeeds", spec := "storeNeeds", unfollowed := true, recurses := true, apart := false, narrowed := true }
def StoreNeedsUptoSaid : Prop := storeNeedsUptoRow.holds Try.pinned (OpenSpec.upto storeNeedsSpec)

end Rows
end Go.Proofs.Ytkefekdphkclmaa
