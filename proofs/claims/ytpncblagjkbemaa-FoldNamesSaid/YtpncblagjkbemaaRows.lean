/-
  No cell of these rows narrows 'for every input' (looked for: loops, veiled, ifaces, maps, wideKeys, modest, calm, conditions, laid).
  DERIVED. THE GIVEN ROWS OF THIS SEAT. 11 by the template 'for every input the law returns true; each argument reads behind the call as it read before'; 0 by the template 'total and deterministic' (their statements: YtpncblagjkbemaaTotals.lean).
  GIVEN WITH THE SEED: the statements are not yours to turn. If you find one false, say at which input.
  Laid BY PROGRAM, IN A SANDBOX (cutbox-rows.mjs): the forced cells as the released guide's own fill.sh prints them over the translation 42ef369f21b0ce9d… (all of the seat's roots in one cut). By AI agents, Wed Nov 11 2026. No macro, syntax, notation, axiom, sorry.
-/
import Derived.Test.YtpncblagjkbemaaChecked
import GoSem.Claim
import GoSem.ClaimJoined
import GoSem.ClaimMapViews
import Derived.JoinedTies
import Derived.KernelRfl
namespace Go.Proofs.Ytpncblagjkbemaa
/- THE CELL 'sum', in the pinned program and in every row, IS THE sha256 OF THE DUMP (.gsa) THAT YtpncblagjkbemaaProg.lean LOADS. Nothing in Lean hashes anything: it is a label: what it is worth is what the hold of that sum in a sandbox is worth. -/
noncomputable def Try.pinned : Pinned := { name := "ytpncblagjkbemaa", sum := "42ef369f21b0ce9d6b7c4960a679d7ba1a3ee111856d1a4609a538c0fdea50f3", checked := Try.checked }
namespace Rows
def none {H : Type} : Left H := { results := [], args := [] }

/-- 'daybooklaw16.FoldTotals': WHATEVER THE INPUT: true; the input reads as it did. -/
def foldTotalsSpec : ChangeSpec := { name := "foldTotals", fn := fun _ => fun
  | [d] => { results := [.lit (.bool true)], args := [d] }
  | _ => none }
def foldTotalsRow : OpenClaim := { program := "ytpncblagjkbemaa", sum := "42ef369f21b0ce9d6b7c4960a679d7ba1a3ee111856d1a4609a538c0fdea50f3", func := "daybook/daybooklaw16.FoldTotals", spec := "foldTotals", inPlace := ["math/bits.Add64"], unfollowed := true, recurses := true, apart := false }
def FoldTotalsSaid : Prop := foldTotalsRow.holds Try.pinned (OpenSpec.ofChange foldTotalsSpec)

/-- ITS FALSE NEIGHBOUR: 'it returns false'. Refute it at one input. -/
def foldTotalsWrong : ChangeSpec := { name := "foldTotals", fn := fun _ => fun
  | [d] => { results := [.lit (.bool false)], args := [d] }
  | _ => none }
def FoldTotalsWrongFalsely : Prop := foldTotalsRow.holds Try.pinned (OpenSpec.ofChange foldTotalsWrong)

/-- 'daybooklaw16.FoldNames': WHATEVER THE INPUT: true; the input reads as it did. -/
def foldNamesSpec : ChangeSpec := { name := "foldNames", fn := fun _ => fun
  | [] => { results := [.lit (.bool true)], args := [] }
  | _ => none }
def foldNamesRow : OpenClaim := { program := "ytpncblagjkbemaa", sum := "42ef369f21b0ce9d6b7c4960a679d7ba1a3ee111856d1a4609a538c0fdea50f3", func := "daybook/daybooklaw16.FoldNames", spec := "foldNames", inPlace := ["internal/bytealg.abigen_runtime_cmpstring", "math/bits.Add64"], unfollowed := true, recurses := true, apart := false }
def FoldNamesSaid : Prop := foldNamesRow.holds Try.pinned (OpenSpec.ofChange foldNamesSpec)

/-- ITS FALSE NEIGHBOUR: 'it returns false'. Refute it at one input. -/
def foldNamesWrong : ChangeSpec := { name := "foldNames", fn := fun _ => fun
  | [] => { results := [.lit (.bool false)], args := [] }
  | _ => none }
def FoldNamesWrongFalsely : Prop := foldNamesRow.holds Try.pinned (OpenSpec.ofChange foldNamesWrong)

/-- 'daybooklaw14.RowsOf': WHATEVER THE INPUT: true; the input reads as it did. -/
def rowsOfSpec : ChangeSpec := { name := "rowsOf", fn := fun _ => fun
  | [d1, d2] => { results := [.lit (.bool true)], args := [d1, d2] }
  | _ => none }
def rowsOfRow : OpenClaim := { program := "ytpncblagjkbemaa", sum := "42ef369f21b0ce9d6b7c4960a679d7ba1a3ee111856d1a4609a538c0fdea50f3", func := "daybook/daybooklaw14.RowsOf", spec := "rowsOf", inPlace := ["internal/bytealg.abigen_runtime_cmpstring"], unfollowed := true, recurses := true, apart := false }
def RowsOfSaid : Prop := rowsOfRow.holds Try.pinned (OpenSpec.ofChange rowsOfSpec)

/-- ITS FALSE NEIGHBOUR: 'it returns false'. Refute it at one input. -/
def rowsOfWrong : ChangeSpec := { name := "rowsOf", fn := fun _ => fun
  | [d1, d2] => { results := [.lit (.bool false)], args := [d1, d2] }
  | _ => none }
def RowsOfWrongFalsely : Prop := rowsOfRow.holds Try.pinned (OpenSpec.ofChange rowsOfWrong)

/-- 'daybooklaw14.RowsPicks': WHATEVER THE INPUT: true; the input reads as it did. -/
def rowsPicksSpec : ChangeSpec := { name := "rowsPicks", fn := fun _ => fun
  | [d1, d2, d3] => { results := [.lit (.bool true)], args := [d1, d2, d3] }
  | _ => none }
def rowsPicksRow : OpenClaim := { program := "ytpncblagjkbemaa", sum := "42ef369f21b0ce9d6b7c4960a679d7ba1a3ee111856d1a4609a538c0fdea50f3", func := "daybook/daybooklaw14.RowsPicks", spec := "rowsPicks", inPlace := ["internal/bytealg.abigen_runtime_cmpstring"], unfollowed := true, recurses := true, apart := false }
def RowsPicksSaid : Prop := rowsPicksRow.holds Try.pinned (OpenSpec.ofChange rowsPicksSpec)

/-- ITS FALSE NEIGHBOUR: 'it returns false'. Refute it at one input. -/
def rowsPicksWrong : ChangeSpec := { name := "rowsPicks", fn := fun _ => fun
  | [d1, d2, d3] => { results := [.lit (.bool false)], args := [d1, d2, d3] }
  | _ => none }
def RowsPicksWrongFalsely : Prop := rowsPicksRow.holds Try.pinned (OpenSpec.ofChange rowsPicksWrong)

/-- 'daybooklaw14.RowsMeets': WHATEVER THE INPUT: true; the input reads as it did. -/
def rowsMeetsSpec : ChangeSpec := { name := "rowsMeets", fn := fun _ => fun
  | [d1, d2] => { results := [.lit (.bool true)], args := [d1, d2] }
  | _ => none }
def rowsMeetsRow : OpenClaim := { program := "ytpncblagjkbemaa", sum := "42ef369f21b0ce9d6b7c4960a679d7ba1a3ee111856d1a4609a538c0fdea50f3", func := "daybook/daybooklaw14.RowsMeets", spec := "rowsMeets", inPlace := ["internal/bytealg.abigen_runtime_cmpstring"], unfollowed := true, recurses := true, apart := false }
def RowsMeetsSaid : Prop := rowsMeetsRow.holds Try.pinned (OpenSpec.ofChange rowsMeetsSpec)

/-- ITS FALSE NEIGHBOUR: 'it returns false'. Refute it at one input. -/
def rowsMeetsWrong : ChangeSpec := { name := "rowsMeets", fn := fun _ => fun
  | [d1, d2] => { results := [.lit (.bool false)], args := [d1, d2] }
  | _ => none }
def RowsMeetsWrongFalsely : Prop := rowsMeetsRow.holds Try.pinned (OpenSpec.ofChange rowsMeetsWrong)

/-- 'daybooklaw14.RowsTurned': WHATEVER THE INPUT: true; the input reads as it did. -/
def rowsTurnedSpec : ChangeSpec := { name := "rowsTurned", fn := fun _ => fun
  | [d1, d2] => { results := [.lit (.bool true)], args := [d1, d2] }
  | _ => none }
def rowsTurnedRow : OpenClaim := { program := "ytpncblagjkbemaa", sum := "42ef369f21b0ce9d6b7c4960a679d7ba1a3ee111856d1a4609a538c0fdea50f3", func := "daybook/daybooklaw14.RowsTurned", spec := "rowsTurned", inPlace := ["internal/bytealg.abigen_runtime_cmpstring"], unfollowed := true, recurses := true, apart := false }
def RowsTurnedSaid : Prop := rowsTurnedRow.holds Try.pinned (OpenSpec.ofChange rowsTurnedSpec)

/-- ITS FALSE NEIGHBOUR: 'it returns false'. Refute it at one input. -/
def rowsTurnedWrong : ChangeSpec := { name := "rowsTurned", fn := fun _ => fun
  | [d1, d2] => { results := [.lit (.bool false)], args := [d1, d2] }
  | _ => none }
def RowsTurnedWrongFalsely : Prop := rowsTurnedRow.holds Try.pinned (OpenSpec.ofChange rowsTurnedWrong)

/-- 'daybooklaw14.RowsAgain': WHATEVER THE INPUT: true; the input reads as it did. -/
def rowsAgainSpec : ChangeSpec := { name := "rowsAgain", fn := fun _ => fun
  | [d1, d2] => { results := [.lit (.bool true)], args := [d1, d2] }
  | _ => none }
def rowsAgainRow : OpenClaim := { program := "ytpncblagjkbemaa", sum := "42ef369f21b0ce9d6b7c4960a679d7ba1a3ee111856d1a4609a538c0fdea50f3", func := "daybook/daybooklaw14.RowsAgain", spec := "rowsAgain", inPlace := ["internal/bytealg.abigen_runtime_cmpstring"], unfollowed := true, recurses := true, apart := false }
def RowsAgainSaid : Prop := rowsAgainRow.holds Try.pinned (OpenSpec.ofChange rowsAgainSpec)

/-- ITS FALSE NEIGHBOUR: 'it returns false'. Refute it at one input. -/
def rowsAgainWrong : ChangeSpec := { name := "rowsAgain", fn := fun _ => fun
  | [d1, d2] => { results := [.lit (.bool false)], args := [d1, d2] }
  | _ => none }
def RowsAgainWrongFalsely : Prop := rowsAgainRow.holds Try.pinned (OpenSpec.ofChange rowsAgainWrong)

/-- 'daybooklaw14.RowsParts': WHATEVER THE INPUT: true; the input reads as it did. -/
def rowsPartsSpec : ChangeSpec := { name := "rowsParts", fn := fun _ => fun
  | [d1, d2] => { results := [.lit (.bool true)], args := [d1, d2] }
  | _ => none }
def rowsPartsRow : OpenClaim := { program := "ytpncblagjkbemaa", sum := "42ef369f21b0ce9d6b7c4960a679d7ba1a3ee111856d1a4609a538c0fdea50f3", func := "daybook/daybooklaw14.RowsParts", spec := "rowsParts", inPlace := ["internal/bytealg.abigen_runtime_cmpstring"], unfollowed := true, recurses := true, apart := false }
def RowsPartsSaid : Prop := rowsPartsRow.holds Try.pinned (OpenSpec.ofChange rowsPartsSpec)

/-- ITS FALSE NEIGHBOUR: 'it returns false'. Refute it at one input. -/
def rowsPartsWrong : ChangeSpec := { name := "rowsParts", fn := fun _ => fun
  | [d1, d2] => { results := [.lit (.bool false)], args := [d1, d2] }
  | _ => none }
def RowsPartsWrongFalsely : Prop := rowsPartsRow.holds Try.pinned (OpenSpec.ofChange rowsPartsWrong)

/-- 'daybooklaw14.RowsNames': WHATEVER THE INPUT: true; the input reads as it did. -/
def rowsNamesSpec : ChangeSpec := { name := "rowsNames", fn := fun _ => fun
  | [] => { results := [.lit (.bool true)], args := [] }
  | _ => none }
def rowsNamesRow : OpenClaim := { program := "ytpncblagjkbemaa", sum := "42ef369f21b0ce9d6b7c4960a679d7ba1a3ee111856d1a4609a538c0fdea50f3", func := "daybook/daybooklaw14.RowsNames", spec := "rowsNames", inPlace := ["internal/bytealg.abigen_runtime_cmpstring"], unfollowed := true, recurses := true, apart := false }
def RowsNamesSaid : Prop := rowsNamesRow.holds Try.pinned (OpenSpec.ofChange rowsNamesSpec)

/-- ITS FALSE NEIGHBOUR: 'it returns false'. Refute it at one input. -/
def rowsNamesWrong : ChangeSpec := { name := "rowsNames", fn := fun _ => fun
  | [] => { results := [.lit (.bool false)], args := [] }
  | _ => none }
def RowsNamesWrongFalsely : Prop := rowsNamesRow.holds Try.pinned (OpenSpec.ofChange rowsNamesWrong)

/-- 'daybooklaw16.FoldGroups': WHATEVER THE INPUT: true; the input reads as it did. -/
def foldGroupsSpec : ChangeSpec := { name := "foldGroups", fn := fun _ => fun
  | [d1, d2] => { results := [.lit (.bool true)], args := [d1, d2] }
  | _ => none }
def foldGroupsRow : OpenClaim := { program := "ytpncblagjkbemaa", sum := "42ef369f21b0ce9d6b7c4960a679d7ba1a3ee111856d1a4609a538c0fdea50f3", func := "daybook/daybooklaw16.FoldGroups", spec := "foldGroups", inPlace := ["internal/bytealg.abigen_runtime_cmpstring"], unfollowed := true, recurses := true, apart := false }
def FoldGroupsSaid : Prop := foldGroupsRow.holds Try.pinned (OpenSpec.ofChange foldGroupsSpec)

/-- ITS FALSE NEIGHBOUR: 'it returns false'. Refute it at one input. -/
def foldGroupsWrong : ChangeSpec := { name := "foldGroups", fn := fun _ => fun
  | [d1, d2] => { results := [.lit (.bool false)], args := [d1, d2] }
  | _ => none }
def FoldGroupsWrongFalsely : Prop := foldGroupsRow.holds Try.pinned (OpenSpec.ofChange foldGroupsWrong)

/-- 'daybooklaw16.FoldSums': WHATEVER THE INPUT: true; the input reads as it did. -/
def foldSumsSpec : ChangeSpec := { name := "foldSums", fn := fun _ => fun
  | [d1, d2] => { results := [.lit (.bool true)], args := [d1, d2] }
  | _ => none }
def foldSumsRow : OpenClaim := { program := "ytpncblagjkbemaa", sum := "42ef369f21b0ce9d6b7c4960a679d7ba1a3ee111856d1a4609a538c0fdea50f3", func := "daybook/daybooklaw16.FoldSums", spec := "foldSums", inPlace := ["internal/bytealg.abigen_runtime_cmpstring", "math/bits.Add64"], unfollowed := true, recurses := true, apart := false }
def FoldSumsSaid : Prop := foldSumsRow.holds Try.pinned (OpenSpec.ofChange foldSumsSpec)

/-- ITS FALSE NEIGHBOUR: 'it returns false'. Refute it at one input. -/
def foldSumsWrong : ChangeSpec := { name := "foldSums", fn := fun _ => fun
  | [d1, d2] => { results := [.lit (.bool false)], args := [d1, d2] }
  | _ => none }
def FoldSumsWrongFalsely : Prop := foldSumsRow.holds Try.pinned (OpenSpec.ofChange foldSumsWrong)

/- THE SECOND FORM. 'bulk': how many values and letters a reading holds, each counted each time it is reached (what is shared counts as often as it is met; a slice's spare places count too). A statement '..UptoSaid' is the law's where the arguments, and the package variables that the reading takes, are together of bulk at most 1048576: NARROWER than '..Said'. Prove '..Said' where nothing that the law and all that it calls make is longer than what came in: it says more and counts as full. Else prove '..UptoSaid'. A law counts once. -/
mutual
def uptoBulk {H : Type} : DataW H → Nat
  | .lit (.string bytes) => bytes.length + 1
  | .lit _ => 1
  | .nil => 1
  | .ptr d => uptoBulk d + 1
  | .slice elems spare => uptoBulkAll elems + uptoBulkAll spare + 1
  | .agg parts => uptoBulkAll parts + 1
  | .iface _ d => uptoBulk d + 1
  | .map entries => uptoBulkEntries entries + 1
  | .held _ => 1
def uptoBulkAll {H : Type} : List (DataW H) → Nat
  | [] => 0
  | d :: r => uptoBulk d + uptoBulkAll r
def uptoBulkEntries {H : Type} : List (Lit × DataW H) → Nat
  | [] => 0
  | x :: r => uptoBulkEntry x + uptoBulkEntries r
def uptoBulkEntry {H : Type} : Lit × DataW H → Nat
  | (.string bytes, d) => bytes.length + uptoBulk d + 1
  | (_, d) => uptoBulk d + 1
 end
def uptoSmall : (H : Type) → List (DataW H) → Bool := fun _ ds => decide (uptoBulkAll ds ≤ 1048576)
def OpenSpec.upto (s : _root_.Go.ChangeSpec) : _root_.Go.OpenSpec := { _root_.Go.OpenSpec.ofChange s with cond := some uptoSmall }

/-- 'daybooklaw16.FoldTotals', WHERE WHAT IT READS IS OF BULK AT MOST 1048576: true; the input reads as it did. -/
def foldTotalsUptoRow : OpenClaim := { program := "ytpncblagjkbemaa", sum := "42ef369f21b0ce9d6b7c4960a679d7ba1a3ee111856d1a4609a538c0fdea50f3", func := "daybook/daybooklaw16.FoldTotals", spec := "foldTotals", inPlace := ["math/bits.Add64"], unfollowed := true, recurses := true, apart := false, narrowed := true }
def FoldTotalsUptoSaid : Prop := foldTotalsUptoRow.holds Try.pinned (OpenSpec.upto foldTotalsSpec)

/-- 'daybooklaw16.FoldNames', WHERE WHAT IT READS IS OF BULK AT MOST 1048576: true; the input reads as it did. -/
def foldNamesUptoRow : OpenClaim := { program := "ytpncblagjkbemaa", sum := "42ef369f21b0ce9d6b7c4960a679d7ba1a3ee111856d1a4609a538c0fdea50f3", func := "daybook/daybooklaw16.FoldNames", spec := "foldNames", inPlace := ["internal/bytealg.abigen_runtime_cmpstring", "math/bits.Add64"], unfollowed := true, recurses := true, apart := false, narrowed := true }
def FoldNamesUptoSaid : Prop := foldNamesUptoRow.holds Try.pinned (OpenSpec.upto foldNamesSpec)

/-- 'daybooklaw14.RowsOf', WHERE WHAT IT READS IS OF BULK AT MOST 1048576: true; the input reads as it did. -/
def rowsOfUptoRow : OpenClaim := { program := "ytpncblagjkbemaa", sum := "42ef369f21b0ce9d6b7c4960a679d7ba1a3ee111856d1a4609a538c0fdea50f3", func := "daybook/daybooklaw14.RowsOf", spec := "rowsOf", inPlace := ["internal/bytealg.abigen_runtime_cmpstring"], unfollowed := true, recurses := true, apart := false, narrowed := true }
def RowsOfUptoSaid : Prop := rowsOfUptoRow.holds Try.pinned (OpenSpec.upto rowsOfSpec)

/-- 'daybooklaw14.RowsPicks', WHERE WHAT IT READS IS OF BULK AT MOST 1048576: true; the input reads as it did. -/
def rowsPicksUptoRow : OpenClaim := { program := "ytpncblagjkbemaa", sum := "42ef369f21b0ce9d6b7c4960a679d7ba1a3ee111856d1a4609a538c0fdea50f3", func := "daybook/daybooklaw14.RowsPicks", spec := "rowsPicks", inPlace := ["internal/bytealg.abigen_runtime_cmpstring"], unfollowed := true, recurses := true, apart := false, narrowed := true }
def RowsPicksUptoSaid : Prop := rowsPicksUptoRow.holds Try.pinned (OpenSpec.upto rowsPicksSpec)

/-- 'daybooklaw14.RowsMeets', WHERE WHAT IT READS IS OF BULK AT MOST 1048576: true; the input reads as it did. -/
def rowsMeetsUptoRow : OpenClaim := { program := "ytpncblagjkbemaa", sum := "42ef369f21b0ce9d6b7c4960a679d7ba1a3ee111856d1a4609a538c0fdea50f3", func := "daybook/daybooklaw14.RowsMeets", spec := "rowsMeets", inPlace := ["internal/bytealg.abigen_runtime_cmpstring"], unfollowed := true, recurses := true, apart := false, narrowed := true }
def RowsMeetsUptoSaid : Prop := rowsMeetsUptoRow.holds Try.pinned (OpenSpec.upto rowsMeetsSpec)

/-- 'daybooklaw14.RowsTurned', WHERE WHAT IT READS IS OF BULK AT MOST 1048576: true; the input reads as it did. -/
def rowsTurnedUptoRow : OpenClaim := { program := "ytpncblagjkbemaa", sum := "42ef369f21b0ce9d6b7c4960a679d7ba1a3ee111856d1a4609a538c0fdea50f3", func := "daybook/daybooklaw14.RowsTurned", spec := "rowsTurned", inPlace := ["internal/bytealg.abigen_runtime_cmpstring"], unfollowed := true, recurses := true, apart := false, narrowed := true }
def RowsTurnedUptoSaid : Prop := rowsTurnedUptoRow.holds Try.pinned (OpenSpec.upto rowsTurnedSpec)

/-- 'daybooklaw14.RowsAgain', WHERE WHAT IT READS IS OF BULK AT MOST 1048576: true; the input reads as it did. -/
def rowsAgainUptoRow : OpenClaim := { program := "ytpncblagjkbemaa", sum := "42ef369f21b0ce9d6b7c4960a679d7ba1a3ee111856d1a4609a538c0fdea50f3", func := "daybook/daybooklaw14.RowsAgain", spec := "rowsAgain", inPlace := ["internal/bytealg.abigen_runtime_cmpstring"], unfollowed := true, recurses := true, apart := false, narrowed := true }
def RowsAgainUptoSaid : Prop := rowsAgainUptoRow.holds Try.pinned (OpenSpec.upto rowsAgainSpec)

/-- 'daybooklaw14.RowsParts', WHERE WHAT IT READS IS OF BULK AT MOST 1048576: true; the input reads as it did. -/
def rowsPartsUptoRow : OpenClaim := { program := "ytpncblagjkbemaa", sum := "42ef369f21b0ce9d6b7c4960a679d7ba1a3ee111856d1a4609a538c0fdea50f3", func := "daybook/daybooklaw14.RowsParts", spec := "rowsParts", inPlace := ["internal/bytealg.abigen_runtime_cmpstring"], unfollowed := true, recurses := true, apart := false, narrowed := true }
def RowsPartsUptoSaid : Prop := rowsPartsUptoRow.holds Try.pinned (OpenSpec.upto rowsPartsSpec)

/-- 'daybooklaw14.RowsNames', WHERE WHAT IT READS IS OF BULK AT MOST 1048576: true; the input reads as it did. -/
def rowsNamesUptoRow : OpenClaim := { program := "ytpncblagjkbemaa", sum := "42ef369f21b0ce9d6b7c4960a679d7ba1a3ee111856d1a4609a538c0fdea50f3", func := "daybook/daybooklaw14.RowsNames", spec := "rowsNames", inPlace := ["internal/bytealg.abigen_runtime_cmpstring"], unfollowed := true, recurses := true, apart := false, narrowed := true }
def RowsNamesUptoSaid : Prop := rowsNamesUptoRow.holds Try.pinned (OpenSpec.upto rowsNamesSpec)

/-- 'daybooklaw16.FoldGroups', WHERE WHAT IT READS IS OF BULK AT MOST 1048576: true; the input reads as it did. -/
def foldGroupsUptoRow : OpenClaim := { program := "ytpncblagjkbemaa", sum := "42ef369f21b0ce9d6b7c4960a679d7ba1a3ee111856d1a4609a538c0fdea50f3", func := "daybook/daybooklaw16.FoldGroups", spec := "foldGroups", inPlace := ["internal/bytealg.abigen_runtime_cmpstring"], unfollowed := true, recurses := true, apart := false, narrowed := true }
def FoldGroupsUptoSaid : Prop := foldGroupsUptoRow.holds Try.pinned (OpenSpec.upto foldGroupsSpec)

/-- 'daybooklaw16.FoldSums', WHERE WHAT IT READS IS OF BULK AT MOST 1048576: true; the input reads as it did. -/
def foldSumsUptoRow : OpenClaim := { program := "ytpncblagjkbemaa", sum := "42ef369f21b0ce9d6b7c4960a679d7ba1a3ee111856d1a4609a538c0fdea50f3", func := "daybook/daybooklaw16.FoldSums", spec := "foldSums", inPlace := ["internal/bytealg.abigen_runtime_cmpstring", "math/bits.Add64"], unfollowed := true, recurses := true, apart := false, narrowed := true }
def FoldSumsUptoSaid : Prop := foldSumsUptoRow.holds Try.pinned (OpenSpec.upto foldSumsSpec)

end Rows
end Go.Proofs.Ytpncblagjkbemaa
