/-
  No cell of these rows narrows 'for every input' (looked for: loops, veiled, ifaces, maps, wideKeys, modest, calm, conditions, laid).
  DERIVED. THE GIVEN ROWS OF THIS SEAT. 6 by the template 'for every input the law returns true; each argument reads behind the call as it read before'; 0 by the template 'total and deterministic' (their statements: YtkcpanaojehgiaaTotals.lean).
  GIVEN WITH THE SEED: the statements are not yours to turn. If you find one false, say at which input.
  Laid BY PROGRAM, IN A SANDBOX (cutbox-rows.mjs): the forced cells as the released guide's own fill.sh prints them over the translation 6abf12610611a0bb… (all of the seat's roots in one cut). By AI agents, Wed Nov 11 2026. No macro, syntax, notation, axiom, sorry.
-/
import Derived.Test.YtkcpanaojehgiaaChecked
import GoSem.Claim
import GoSem.ClaimJoined
import GoSem.ClaimMapViews
import Derived.JoinedTies
import Derived.KernelRfl
namespace Go.Proofs.Ytkcpanaojehgiaa
/- THE CELL 'sum', in the pinned program and in every row, IS THE sha256 OF THE DUMP (.gsa) THAT YtkcpanaojehgiaaProg.lean LOADS. Nothing in Lean hashes anything: it is a label: what it is worth is what the hold of that sum in a sandbox is worth. -/
noncomputable def Try.pinned : Pinned := { name := "ytkcpanaojehgiaa", sum := "6abf12610611a0bbb65a65421ec650251068a46498d9a447c330d6aa6697d8b4", checked := Try.checked }
namespace Rows
def none {H : Type} : Left H := { results := [], args := [] }

/-- 'daybooklaw07.SchemaAlters': WHATEVER THE INPUT: true; the input reads as it did. -/
def schemaAltersSpec : ChangeSpec := { name := "schemaAlters", fn := fun _ => fun
  | [d1, d2] => { results := [.lit (.bool true)], args := [d1, d2] }
  | _ => none }
def schemaAltersRow : OpenClaim := { program := "ytkcpanaojehgiaa", sum := "6abf12610611a0bbb65a65421ec650251068a46498d9a447c330d6aa6697d8b4", func := "daybook/daybooklaw07.SchemaAlters", spec := "schemaAlters", unfollowed := true, recurses := true, apart := false }
def SchemaAltersSaid : Prop := schemaAltersRow.holds Try.pinned (OpenSpec.ofChange schemaAltersSpec)

/-- ITS FALSE NEIGHBOUR: 'it returns false'. Refute it at one input. -/
def schemaAltersWrong : ChangeSpec := { name := "schemaAlters", fn := fun _ => fun
  | [d1, d2] => { results := [.lit (.bool false)], args := [d1, d2] }
  | _ => none }
def SchemaAltersWrongFalsely : Prop := schemaAltersRow.holds Try.pinned (OpenSpec.ofChange schemaAltersWrong)

/-- 'daybooklaw07.SchemaMakes': WHATEVER THE INPUT: true; the input reads as it did. -/
def schemaMakesSpec : ChangeSpec := { name := "schemaMakes", fn := fun _ => fun
  | [d1, d2, d3] => { results := [.lit (.bool true)], args := [d1, d2, d3] }
  | _ => none }
def schemaMakesRow : OpenClaim := { program := "ytkcpanaojehgiaa", sum := "6abf12610611a0bbb65a65421ec650251068a46498d9a447c330d6aa6697d8b4", func := "daybook/daybooklaw07.SchemaMakes", spec := "schemaMakes", inPlace := ["internal/bytealg.abigen_runtime_cmpstring"], unfollowed := true, recurses := true, apart := false }
def SchemaMakesSaid : Prop := schemaMakesRow.holds Try.pinned (OpenSpec.ofChange schemaMakesSpec)

/-- ITS FALSE NEIGHBOUR: 'it returns false'. Refute it at one input. -/
def schemaMakesWrong : ChangeSpec := { name := "schemaMakes", fn := fun _ => fun
  | [d1, d2, d3] => { results := [.lit (.bool false)], args := [d1, d2, d3] }
  | _ => none }
def SchemaMakesWrongFalsely : Prop := schemaMakesRow.holds Try.pinned (OpenSpec.ofChange schemaMakesWrong)

/-- 'daybooklaw07.SchemaHolds': WHATEVER THE INPUT: true; the input reads as it did. -/
def schemaHoldsSpec : ChangeSpec := { name := "schemaHolds", fn := fun _ => fun
  | [d] => { results := [.lit (.bool true)], args := [d] }
  | _ => none }
def schemaHoldsRow : OpenClaim := { program := "ytkcpanaojehgiaa", sum := "6abf12610611a0bbb65a65421ec650251068a46498d9a447c330d6aa6697d8b4", func := "daybook/daybooklaw07.SchemaHolds", spec := "schemaHolds", inPlace := ["internal/bytealg.abigen_runtime_cmpstring"], unfollowed := true, recurses := true, apart := false }
def SchemaHoldsSaid : Prop := schemaHoldsRow.holds Try.pinned (OpenSpec.ofChange schemaHoldsSpec)

/-- ITS FALSE NEIGHBOUR: 'it returns false'. Refute it at one input. -/
def schemaHoldsWrong : ChangeSpec := { name := "schemaHolds", fn := fun _ => fun
  | [d] => { results := [.lit (.bool false)], args := [d] }
  | _ => none }
def SchemaHoldsWrongFalsely : Prop := schemaHoldsRow.holds Try.pinned (OpenSpec.ofChange schemaHoldsWrong)

/-- 'daybooklaw07.SchemaLess': WHATEVER THE INPUT: true; the input reads as it did. -/
def schemaLessSpec : ChangeSpec := { name := "schemaLess", fn := fun _ => fun
  | [d1, d2, d3] => { results := [.lit (.bool true)], args := [d1, d2, d3] }
  | _ => none }
def schemaLessRow : OpenClaim := { program := "ytkcpanaojehgiaa", sum := "6abf12610611a0bbb65a65421ec650251068a46498d9a447c330d6aa6697d8b4", func := "daybook/daybooklaw07.SchemaLess", spec := "schemaLess", inPlace := ["internal/bytealg.abigen_runtime_cmpstring"], unfollowed := true, recurses := true, apart := false }
def SchemaLessSaid : Prop := schemaLessRow.holds Try.pinned (OpenSpec.ofChange schemaLessSpec)

/-- ITS FALSE NEIGHBOUR: 'it returns false'. Refute it at one input. -/
def schemaLessWrong : ChangeSpec := { name := "schemaLess", fn := fun _ => fun
  | [d1, d2, d3] => { results := [.lit (.bool false)], args := [d1, d2, d3] }
  | _ => none }
def SchemaLessWrongFalsely : Prop := schemaLessRow.holds Try.pinned (OpenSpec.ofChange schemaLessWrong)

/-- 'daybooklaw07.SchemaInstants': WHATEVER THE INPUT: true; the input reads as it did. -/
def schemaInstantsSpec : ChangeSpec := { name := "schemaInstants", fn := fun _ => fun
  | [d1, d2] => { results := [.lit (.bool true)], args := [d1, d2] }
  | _ => none }
def schemaInstantsRow : OpenClaim := { program := "ytkcpanaojehgiaa", sum := "6abf12610611a0bbb65a65421ec650251068a46498d9a447c330d6aa6697d8b4", func := "daybook/daybooklaw07.SchemaInstants", spec := "schemaInstants", inPlace := ["internal/bytealg.abigen_runtime_cmpstring"], unfollowed := true, recurses := true, apart := false }
def SchemaInstantsSaid : Prop := schemaInstantsRow.holds Try.pinned (OpenSpec.ofChange schemaInstantsSpec)

/-- ITS FALSE NEIGHBOUR: 'it returns false'. Refute it at one input. -/
def schemaInstantsWrong : ChangeSpec := { name := "schemaInstants", fn := fun _ => fun
  | [d1, d2] => { results := [.lit (.bool false)], args := [d1, d2] }
  | _ => none }
def SchemaInstantsWrongFalsely : Prop := schemaInstantsRow.holds Try.pinned (OpenSpec.ofChange schemaInstantsWrong)

/-- 'daybooklaw07.SchemaNames': WHATEVER THE INPUT: true; the input reads as it did. -/
def schemaNamesSpec : ChangeSpec := { name := "schemaNames", fn := fun _ => fun
  | [] => { results := [.lit (.bool true)], args := [] }
  | _ => none }
def schemaNamesRow : OpenClaim := { program := "ytkcpanaojehgiaa", sum := "6abf12610611a0bbb65a65421ec650251068a46498d9a447c330d6aa6697d8b4", func := "daybook/daybooklaw07.SchemaNames", spec := "schemaNames", inPlace := ["internal/bytealg.abigen_runtime_cmpstring"], unfollowed := true, recurses := true, apart := false }
def SchemaNamesSaid : Prop := schemaNamesRow.holds Try.pinned (OpenSpec.ofChange schemaNamesSpec)

/-- ITS FALSE NEIGHBOUR: 'it returns false'. Refute it at one input. -/
def schemaNamesWrong : ChangeSpec := { name := "schemaNames", fn := fun _ => fun
  | [] => { results := [.lit (.bool false)], args := [] }
  | _ => none }
def SchemaNamesWrongFalsely : Prop := schemaNamesRow.holds Try.pinned (OpenSpec.ofChange schemaNamesWrong)

/- THE SECOND FORM. 'bulk': how many values and letters a reading holds, each counted each time it is reached (what is shared counts as often as it is met; a slice's spare places count too). A statement '..UptoSaid' is the law's where the arguments, and the package variables that the reading takes, are together of bulk at most 1048576: NARROWER than '..Said'. Prove '..Said' where nothing that the law and all that it calls make is longer than what came in: it says more and counts as full. Else prove '..UptoSaid'. A law counts once. -/
mutual
def uptoBulk {H : Type} : DataW H → Nat
  | .lit (.string bytes) => bytes.length + 1
  | .lit _ => 1
  | .nil => 1
  | .ptr d => uptoBulk d + 1
  | .slice elems spare => uptoBulkAll elems + uptoBulkAll spare + 1
  | .agg parts => uptoBulkAll parts + 1
  | .iface _ d => uptoBulk d + 1
  | .map entries => uptoBulkEntries entries + 1
  | .held _ => 1
def uptoBulkAll {H : Type} : List (DataW H) → Nat
  | [] => 0
  | d :: r => uptoBulk d + uptoBulkAll r
def uptoBulkEntries {H : Type} : List (Lit × DataW H) → Nat
  | [] => 0
  | x :: r => uptoBulkEntry x + uptoBulkEntries r
def uptoBulkEntry {H : Type} : Lit × DataW H → Nat
  | (.string bytes, d) => bytes.length + uptoBulk d + 1
  | (_, d) => uptoBulk d + 1
 end
def uptoSmall : (H : Type) → List (DataW H) → Bool := fun _ ds => decide (uptoBulkAll ds ≤ 1048576)
def OpenSpec.upto (s : _root_.Go.ChangeSpec) : _root_.Go.OpenSpec := { _root_.Go.OpenSpec.ofChange s with cond := some uptoSmall }

/-- 'daybooklaw07.SchemaAlters', WHERE WHAT IT READS IS OF BULK AT MOST 1048576: true; the input reads as it did. -/
def schemaAltersUptoRow : OpenClaim := { program := "ytkcpanaojehgiaa", sum := "6abf12610611a0bbb65a65421ec650251068a46498d9a447c330d6aa6697d8b4", func := "daybook/daybooklaw07.SchemaAlters", spec := "schemaAlters", unfollowed := true, recurses := true, apart := false, narrowed := true }
def SchemaAltersUptoSaid : Prop := schemaAltersUptoRow.holds Try.pinned (OpenSpec.upto schemaAltersSpec)

/-- 'daybooklaw07.SchemaMakes', WHERE WHAT IT READS IS OF BULK AT MOST 1048576: true; the input reads as it did. -/
def schemaMakesUptoRow : OpenClaim := { program := "ytkcpanaojehgiaa", sum := "6abf12610611a0bbb65a65421ec650251068a46498d9a447c330d6aa6697d8b4", func := "daybook/daybooklaw07.SchemaMakes", spec := "schemaMakes", inPlace := ["internal/bytealg.abigen_runtime_cmpstring"], unfollowed := true, recurses := true, apart := false, narrowed := true }
def SchemaMakesUptoSaid : Prop := schemaMakesUptoRow.holds Try.pinned (OpenSpec.upto schemaMakesSpec)

/-- 'daybooklaw07.SchemaHolds', WHERE WHAT IT READS IS OF BULK AT MOST 1048576: true; the input reads as it did. -/
def schemaHoldsUptoRow : OpenClaim := { program := "ytkcpanaojehgiaa", sum := "6abf12610611a0bbb65a65421ec650251068a46498d9a447c330d6aa6697d8b4", func := "daybook/daybooklaw07.SchemaHolds", spec := "schemaHolds", inPlace := ["internal/bytealg.abigen_runtime_cmpstring"], unfollowed := true, recurses := true, apart := false, narrowed := true }
def SchemaHoldsUptoSaid : Prop := schemaHoldsUptoRow.holds Try.pinned (OpenSpec.upto schemaHoldsSpec)

/-- 'daybooklaw07.SchemaLess', WHERE WHAT IT READS IS OF BULK AT MOST 1048576: true; the input reads as it did. -/
def schemaLessUptoRow : OpenClaim := { program := "ytkcpanaojehgiaa", sum := "6abf12610611a0bbb65a65421ec650251068a46498d9a447c330d6aa6697d8b4", func := "daybook/daybooklaw07.SchemaLess", spec := "schemaLess", inPlace := ["internal/bytealg.abigen_runtime_cmpstring"], unfollowed := true, recurses := true, apart := false, narrowed := true }
def SchemaLessUptoSaid : Prop := schemaLessUptoRow.holds Try.pinned (OpenSpec.upto schemaLessSpec)

/-- 'daybooklaw07.SchemaInstants', WHERE WHAT IT READS IS OF BULK AT MOST 1048576: true; the input reads as it did. -/
def schemaInstantsUptoRow : OpenClaim := { program := "ytkcpanaojehgiaa", sum := "6abf12610611a0bbb65a65421ec650251068a46498d9a447c330d6aa6697d8b4", func := "daybook/daybooklaw07.SchemaInstants", spec := "schemaInstants", inPlace := ["internal/bytealg.abigen_runtime_cmpstring"], unfollowed := true, recurses := true, apart := false, narrowed := true }
def SchemaInstantsUptoSaid : Prop := schemaInstantsUptoRow.holds Try.pinned (OpenSpec.upto schemaInstantsSpec)

/-- 'daybooklaw07.SchemaNames', WHERE WHAT IT READS IS OF BULK AT MOST 1048576: true; the input reads as it did. -/
def schemaNamesUptoRow : OpenClaim := { program := "ytkcpanaojehgiaa", sum := "6abf12610611a0bbb65a65421ec650251068a46498d9a447c330d6aa6697d8b4", func := "daybook/daybooklaw07.SchemaNames", spec := "schemaNames", inPlace := ["internal/bytealg.abigen_runtime_cmpstring"], unfollowed := true, recurses := true, apart := false, narrowed := true }
def SchemaNamesUptoSaid : Prop := schemaNamesUptoRow.holds Try.pinned (OpenSpec.upto schemaNamesSpec)

end Rows
end Go.Proofs.Ytkcpanaojehgiaa
