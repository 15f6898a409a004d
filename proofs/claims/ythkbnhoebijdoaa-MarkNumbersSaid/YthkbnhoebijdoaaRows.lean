/-
  No cell of these rows narrows 'for every input' (looked for: loops, veiled, ifaces, maps, wideKeys, modest, calm, conditions, laid).
  DERIVED. THE GIVEN ROWS OF THIS SEAT. 6 by the template 'for every input the law returns true; each argument reads behind the call as it read before'; 0 by the template 'total and deterministic' (their statements: YthkbnhoebijdoaaTotals.lean).
  GIVEN WITH THE SEED: the statements are not yours to turn. If you find one false, say at which input.
  Laid BY PROGRAM, IN A SANDBOX (cutbox-rows.mjs): the forced cells as the released guide's own fill.sh prints them over the translation 8e3eedd26ec98d3e… (all of the seat's roots in one cut). By AI agents, Wed Nov 11 2026. No macro, syntax, notation, axiom, sorry.
-/
import Derived.Test.YthkbnhoebijdoaaChecked
import GoSem.Claim
import GoSem.ClaimJoined
import GoSem.ClaimMapViews
import Derived.JoinedTies
import Derived.KernelRfl
namespace Go.Proofs.Ythkbnhoebijdoaa
/- THE CELL 'sum', in the pinned program and in every row, IS THE sha256 OF THE DUMP (.gsa) THAT YthkbnhoebijdoaaProg.lean LOADS. Nothing in Lean hashes anything: it is a label: what it is worth is what the hold of that sum in a sandbox is worth. -/
noncomputable def Try.pinned : Pinned := { name := "ythkbnhoebijdoaa", sum := "8e3eedd26ec98d3ea82a1c606403a644e4f6f0cde0abb84e002b82da1801a9e1", checked := Try.checked }
namespace Rows
def none {H : Type} : Left H := { results := [], args := [] }

/-- 'storemanlaw25.MarkPlaces': WHATEVER THE INPUT: true; the input reads as it did. -/
def markPlacesSpec : ChangeSpec := { name := "markPlaces", fn := fun _ => fun
  | [d] => { results := [.lit (.bool true)], args := [d] }
  | _ => none }
def markPlacesRow : OpenClaim := { program := "ythkbnhoebijdoaa", sum := "8e3eedd26ec98d3ea82a1c606403a644e4f6f0cde0abb84e002b82da1801a9e1", func := "storeman/storemanlaw25.MarkPlaces", spec := "markPlaces", apart := false }
def MarkPlacesSaid : Prop := markPlacesRow.holds Try.pinned (OpenSpec.ofChange markPlacesSpec)

/-- ITS FALSE NEIGHBOUR: 'it returns false'. Refute it at one input. -/
def markPlacesWrong : ChangeSpec := { name := "markPlaces", fn := fun _ => fun
  | [d] => { results := [.lit (.bool false)], args := [d] }
  | _ => none }
def MarkPlacesWrongFalsely : Prop := markPlacesRow.holds Try.pinned (OpenSpec.ofChange markPlacesWrong)

/-- 'storemanlaw25.MarkNil': WHATEVER THE INPUT: true; the input reads as it did. -/
def markNilSpec : ChangeSpec := { name := "markNil", fn := fun _ => fun
  | [d] => { results := [.lit (.bool true)], args := [d] }
  | _ => none }
def markNilRow : OpenClaim := { program := "ythkbnhoebijdoaa", sum := "8e3eedd26ec98d3ea82a1c606403a644e4f6f0cde0abb84e002b82da1801a9e1", func := "storeman/storemanlaw25.MarkNil", spec := "markNil", apart := false }
def MarkNilSaid : Prop := markNilRow.holds Try.pinned (OpenSpec.ofChange markNilSpec)

/-- ITS FALSE NEIGHBOUR: 'it returns false'. Refute it at one input. -/
def markNilWrong : ChangeSpec := { name := "markNil", fn := fun _ => fun
  | [d] => { results := [.lit (.bool false)], args := [d] }
  | _ => none }
def MarkNilWrongFalsely : Prop := markNilRow.holds Try.pinned (OpenSpec.ofChange markNilWrong)

/-- 'storemanlaw25.MarkParts': WHATEVER THE INPUT: true; the input reads as it did. -/
def markPartsSpec : ChangeSpec := { name := "markParts", fn := fun _ => fun
  | [d1, d2] => { results := [.lit (.bool true)], args := [d1, d2] }
  | _ => none }
def markPartsRow : OpenClaim := { program := "ythkbnhoebijdoaa", sum := "8e3eedd26ec98d3ea82a1c606403a644e4f6f0cde0abb84e002b82da1801a9e1", func := "storeman/storemanlaw25.MarkParts", spec := "markParts", apart := false }
def MarkPartsSaid : Prop := markPartsRow.holds Try.pinned (OpenSpec.ofChange markPartsSpec)

/-- ITS FALSE NEIGHBOUR: 'it returns false'. Refute it at one input. -/
def markPartsWrong : ChangeSpec := { name := "markParts", fn := fun _ => fun
  | [d1, d2] => { results := [.lit (.bool false)], args := [d1, d2] }
  | _ => none }
def MarkPartsWrongFalsely : Prop := markPartsRow.holds Try.pinned (OpenSpec.ofChange markPartsWrong)

/-- 'storemanlaw25.MarkLives': WHATEVER THE INPUT: true; the input reads as it did. -/
def markLivesSpec : ChangeSpec := { name := "markLives", fn := fun _ => fun
  | [d1, d2] => { results := [.lit (.bool true)], args := [d1, d2] }
  | _ => none }
def markLivesRow : OpenClaim := { program := "ythkbnhoebijdoaa", sum := "8e3eedd26ec98d3ea82a1c606403a644e4f6f0cde0abb84e002b82da1801a9e1", func := "storeman/storemanlaw25.MarkLives", spec := "markLives", apart := false }
def MarkLivesSaid : Prop := markLivesRow.holds Try.pinned (OpenSpec.ofChange markLivesSpec)

/-- ITS FALSE NEIGHBOUR: 'it returns false'. Refute it at one input. -/
def markLivesWrong : ChangeSpec := { name := "markLives", fn := fun _ => fun
  | [d1, d2] => { results := [.lit (.bool false)], args := [d1, d2] }
  | _ => none }
def MarkLivesWrongFalsely : Prop := markLivesRow.holds Try.pinned (OpenSpec.ofChange markLivesWrong)

/-- 'storemanlaw25.MarkNumbers': WHATEVER THE INPUT: true; the input reads as it did. -/
def markNumbersSpec : ChangeSpec := { name := "markNumbers", fn := fun _ => fun
  | [] => { results := [.lit (.bool true)], args := [] }
  | _ => none }
def markNumbersRow : OpenClaim := { program := "ythkbnhoebijdoaa", sum := "8e3eedd26ec98d3ea82a1c606403a644e4f6f0cde0abb84e002b82da1801a9e1", func := "storeman/storemanlaw25.MarkNumbers", spec := "markNumbers", apart := false }
def MarkNumbersSaid : Prop := markNumbersRow.holds Try.pinned (OpenSpec.ofChange markNumbersSpec)

/-- ITS FALSE NEIGHBOUR: 'it returns false'. Refute it at one input. -/
def markNumbersWrong : ChangeSpec := { name := "markNumbers", fn := fun _ => fun
  | [] => { results := [.lit (.bool false)], args := [] }
  | _ => none }
def MarkNumbersWrongFalsely : Prop := markNumbersRow.holds Try.pinned (OpenSpec.ofChange markNumbersWrong)

/-- 'storemanlaw25.MarkKept': WHATEVER THE INPUT: true; the input reads as it did. -/
def markKeptSpec : ChangeSpec := { name := "markKept", fn := fun _ => fun
  | [d] => { results := [.lit (.bool true)], args := [d] }
  | _ => none }
def markKeptRow : OpenClaim := { program := "ythkbnhoebijdoaa", sum := "8e3eedd26ec98d3ea82a1c606403a644e4f6f0cde0abb84e002b82da1801a9e1", func := "storeman/storemanlaw25.MarkKept", spec := "markKept", apart := false }
def MarkKeptSaid : Prop := markKeptRow.holds Try.pinned (OpenSpec.ofChange markKeptSpec)

/-- ITS FALSE NEIGHBOUR: 'it returns false'. Refute it at one input. -/
def markKeptWrong : ChangeSpec := { name := "markKept", fn := fun _ => fun
  | [d] => { results := [.lit (.bool false)], args := [d] }
  | _ => none }
def MarkKeptWrongFalsely : Prop := markKeptRow.holds Try.pinned (OpenSpec.ofChange markKeptWrong)

/- THE SECOND FORM. 'bulk': how many values and letters a reading holds, each counted each time it is reached (what is shared counts as often as it is met; a slice's spare places count too). A statement '..UptoSaid' is the law's where the arguments, and the package variables that the reading takes, are together of bulk at most 1048576: NARROWER than '..Said'. Prove '..Said' where nothing that the law and all that it calls make is longer than what came in: it says more and counts as full. Else prove '..UptoSaid'. A law counts once. -/
mutual
def uptoBulk {H : Type} : DataW H → Nat
  | .lit (.string bytes) => bytes.length + 1
  | .lit _ => 1
  | .nil => 1
  | .ptr d => uptoBulk d + 1
  | .slice elems spare => uptoBulkAll elems + uptoBulkAll spare + 1
  | .agg parts => uptoBulkAll parts + 1
  | .iface _ d => uptoBulk d + 1
  | .map entries => uptoBulkEntries entries + 1
  | .held _ => 1
def uptoBulkAll {H : Type} : List (DataW H) → Nat
  | [] => 0
  | d :: r => uptoBulk d + uptoBulkAll r
def uptoBulkEntries {H : Type} : List (Lit × DataW H) → Nat
  | [] => 0
  | x :: r => uptoBulkEntry x + uptoBulkEntries r
def uptoBulkEntry {H : Type} : Lit × DataW H → Nat
  | (.string bytes, d) => bytes.length + uptoBulk d + 1
  | (_, d) => uptoBulk d + 1
 end
def uptoSmall : (H : Type) → List (DataW H) → Bool := fun _ ds => decide (uptoBulkAll ds ≤ 1048576)
def OpenSpec.upto (s : _root_.Go.ChangeSpec) : _root_.Go.OpenSpec := { _root_.Go.OpenSpec.ofChange s with cond := some uptoSmall }

/-- 'storemanlaw25.MarkPlaces', WHERE WHAT IT READS IS OF BULK AT MOST 1048576: true; the input reads as it did. -/
def markPlacesUptoRow : OpenClaim := { program := "ythkbnhoebijdoaa", sum := "8e3eedd26ec98d3ea82a1c606403a644e4f6f0cde0abb84e002b82da1801a9e1", func := "storeman/storemanlaw25.MarkPlaces", spec := "markPlaces", apart := false, narrowed := true }
def MarkPlacesUptoSaid : Prop := markPlacesUptoRow.holds Try.pinned (OpenSpec.upto markPlacesSpec)

/-- 'storemanlaw25.MarkNil', WHERE WHAT IT READS IS OF BULK AT MOST 1048576: true; the input reads as it did. -/
def markNilUptoRow : OpenClaim := { program := "ythkbnhoebijdoaa", sum := "8e3eedd26ec98d3ea82a1c606403a644e4f6f0cde0abb84e002b82da1801a9e1", func := "storeman/storemanlaw25.MarkNil", spec := "markNil", apart := false, narrowed := true }
def MarkNilUptoSaid : Prop := markNilUptoRow.holds Try.pinned (OpenSpec.upto markNilSpec)

/-- 'storemanlaw25.MarkParts', WHERE WHAT IT READS IS OF BULK AT MOST 1048576: true; the input reads as it did. -/
def markPartsUptoRow : OpenClaim := { program := "ythkbnhoebijdoaa", sum := "8e3eedd26ec98d3ea82a1c606403a644e4f6f0cde0abb84e002b82da1801a9e1", func := "storeman/storemanlaw25.MarkParts", spec := "markParts", apart := false, narrowed := true }
def MarkPartsUptoSaid : Prop := markPartsUptoRow.holds Try.pinned (OpenSpec.upto markPartsSpec)

/-- 'storemanlaw25.MarkLives', WHERE WHAT IT READS IS OF BULK AT MOST 1048576: true; the input reads as it did. -/
def markLivesUptoRow : OpenClaim := { program := "ythkbnhoebijdoaa", sum := "8e3eedd26ec98d3ea82a1c606403a644e4f6f0cde0abb84e002b82da1801a9e1", func := "storeman/storemanlaw25.MarkLives", spec := "markLives", apart := false, narrowed := true }
def MarkLivesUptoSaid : Prop := markLivesUptoRow.holds Try.pinned (OpenSpec.upto markLivesSpec)

/-- 'storemanlaw25.MarkNumbers', WHERE WHAT IT READS IS OF BULK AT MOST 1048576: true; the input reads as it did. -/
def markNumbersUptoRow : OpenClaim := { program := "ythkbnhoebijdoaa", sum := "8e3eedd26ec98d3ea82a1c606403a644e4f6f0cde0abb84e002b82da1801a9e1", func := "storeman/storemanlaw25.MarkNumbers", spec := "markNumbers", apart := false, narrowed := true }
def MarkNumbersUptoSaid : Prop := markNumbersUptoRow.holds Try.pinned (OpenSpec.upto markNumbersSpec)

/-- 'storemanlaw25.MarkKept', WHERE WHAT IT READS IS OF BULK AT MOST 1048576: true; the input reads as it did. -/
def markKeptUptoRow : OpenClaim := { program := "ythkbnhoebijdoaa", sum := "8e3eedd26ec98d3ea82a1c606403a644e4f6f0cde0abb84e002b82da1801a9e1", func := "storeman/storemanlaw25.MarkKept", spec := "markKept", apart := false, narrowed := true }
def MarkKeptUptoSaid : Prop := markKeptUptoRow.holds Try.pinned (OpenSpec.upto markKeptSpec)

end Rows
end Go.Proofs.Ythkbnhoebijdoaa
