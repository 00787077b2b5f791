/-
  No cell of these rows narrows 'for every input' (looked for: loops, veiled, ifaces, maps, wideKeys, modest, calm, conditions, laid).
  DERIVED. THE GIVEN ROWS OF THIS SEAT. 8 by the template 'for every input the law returns true; each argument reads behind the call as it read before'; 0 by the template 'total and deterministic' (their statements: YtljhbjkdifmonaaTotals.lean).
  GIVEN WITH THE SEED: the statements are not yours to turn. If you find one false, say at which input.
  Laid BY PROGRAM, IN A SANDBOX (cutbox-rows.mjs): the forced cells as the released guide's own fill.sh prints them over the translation 2c288d78efcacc19… (all of the seat's roots in one cut). By AI agents, Wed Nov 11 2026. No macro, syntax, notation, axiom, sorry.
-/
import Derived.Test.YtljhbjkdifmonaaChecked
import GoSem.Claim
import GoSem.ClaimJoined
import GoSem.ClaimMapViews
import Derived.JoinedTies
import Derived.KernelRfl
namespace Go.Proofs.Ytljhbjkdifmonaa
/- THE CELL 'sum', in the pinned program and in every row, IS THE sha256 OF THE DUMP (.gsa) THAT YtljhbjkdifmonaaProg.lean LOADS. Nothing in Lean hashes anything: it is a label: what it is worth is what the hold of that sum in a sandbox is worth. -/
noncomputable def Try.pinned : Pinned := { name := "ytljhbjkdifmonaa", sum := "2c288d78efcacc191d539207d10e28d0748ff688bbc3a21aa4eb02b38e2a8786", checked := Try.checked }
namespace Rows
def none {H : Type} : Left H := { results := [], args := [] }

/-- 'parquetlaw09.CycleLists': WHATEVER THE INPUT: true; the input reads as it did. -/
def cycleListsSpec : ChangeSpec := { name := "cycleLists", fn := fun _ => fun
  | [d] => { results := [.lit (.bool true)], args := [d] }
  | _ => none }
def cycleListsRow : OpenClaim := { program := "ytljhbjkdifmonaa", sum := "2c288d78efcacc191d539207d10e28d0748ff688bbc3a21aa4eb02b38e2a8786", func := "parquet/parquetlaw09.CycleLists", spec := "cycleLists", unfollowed := true, recurses := true, plainKeys := false, apart := false }
def CycleListsSaid : Prop := cycleListsRow.holds Try.pinned (OpenSpec.ofChange cycleListsSpec)

/-- ITS FALSE NEIGHBOUR: 'it returns false'. Refute it at one input. -/
def cycleListsWrong : ChangeSpec := { name := "cycleLists", fn := fun _ => fun
  | [d] => { results := [.lit (.bool false)], args := [d] }
  | _ => none }
def CycleListsWrongFalsely : Prop := cycleListsRow.holds Try.pinned (OpenSpec.ofChange cycleListsWrong)

/-- 'parquetlaw09.CycleKnown': WHATEVER THE INPUT: true; the input reads as it did. -/
def cycleKnownSpec : ChangeSpec := { name := "cycleKnown", fn := fun _ => fun
  | [] => { results := [.lit (.bool true)], args := [] }
  | _ => none }
def cycleKnownRow : OpenClaim := { program := "ytljhbjkdifmonaa", sum := "2c288d78efcacc191d539207d10e28d0748ff688bbc3a21aa4eb02b38e2a8786", func := "parquet/parquetlaw09.CycleKnown", spec := "cycleKnown", unfollowed := true, recurses := true, plainKeys := false, apart := false }
def CycleKnownSaid : Prop := cycleKnownRow.holds Try.pinned (OpenSpec.ofChange cycleKnownSpec)

/-- ITS FALSE NEIGHBOUR: 'it returns false'. Refute it at one input. -/
def cycleKnownWrong : ChangeSpec := { name := "cycleKnown", fn := fun _ => fun
  | [] => { results := [.lit (.bool false)], args := [] }
  | _ => none }
def CycleKnownWrongFalsely : Prop := cycleKnownRow.holds Try.pinned (OpenSpec.ofChange cycleKnownWrong)

/-- 'parquetlaw09.CyclePlaces': WHATEVER THE INPUT: true; the input reads as it did. -/
def cyclePlacesSpec : ChangeSpec := { name := "cyclePlaces", fn := fun _ => fun
  | [d1, d2] => { results := [.lit (.bool true)], args := [d1, d2] }
  | _ => none }
def cyclePlacesRow : OpenClaim := { program := "ytljhbjkdifmonaa", sum := "2c288d78efcacc191d539207d10e28d0748ff688bbc3a21aa4eb02b38e2a8786", func := "parquet/parquetlaw09.CyclePlaces", spec := "cyclePlaces", unfollowed := true, recurses := true, plainKeys := false, apart := false }
def CyclePlacesSaid : Prop := cyclePlacesRow.holds Try.pinned (OpenSpec.ofChange cyclePlacesSpec)

/-- ITS FALSE NEIGHBOUR: 'it returns false'. Refute it at one input. -/
def cyclePlacesWrong : ChangeSpec := { name := "cyclePlaces", fn := fun _ => fun
  | [d1, d2] => { results := [.lit (.bool false)], args := [d1, d2] }
  | _ => none }
def CyclePlacesWrongFalsely : Prop := cyclePlacesRow.holds Try.pinned (OpenSpec.ofChange cyclePlacesWrong)

/-- 'parquetlaw13.GenusSigns': WHATEVER THE INPUT: true; the input reads as it did. -/
def genusSignsSpec : ChangeSpec := { name := "genusSigns", fn := fun _ => fun
  | [d] => { results := [.lit (.bool true)], args := [d] }
  | _ => none }
def genusSignsRow : OpenClaim := { program := "ytljhbjkdifmonaa", sum := "2c288d78efcacc191d539207d10e28d0748ff688bbc3a21aa4eb02b38e2a8786", func := "parquet/parquetlaw13.GenusSigns", spec := "genusSigns", unfollowed := true, recurses := true, plainKeys := false, apart := false }
def GenusSignsSaid : Prop := genusSignsRow.holds Try.pinned (OpenSpec.ofChange genusSignsSpec)

/-- ITS FALSE NEIGHBOUR: 'it returns false'. Refute it at one input. -/
def genusSignsWrong : ChangeSpec := { name := "genusSigns", fn := fun _ => fun
  | [d] => { results := [.lit (.bool false)], args := [d] }
  | _ => none }
def GenusSignsWrongFalsely : Prop := genusSignsRow.holds Try.pinned (OpenSpec.ofChange genusSignsWrong)

/-- 'parquetlaw13.GenusLists': WHATEVER THE INPUT: true; the input reads as it did. -/
def genusListsSpec : ChangeSpec := { name := "genusLists", fn := fun _ => fun
  | [d] => { results := [.lit (.bool true)], args := [d] }
  | _ => none }
def genusListsRow : OpenClaim := { program := "ytljhbjkdifmonaa", sum := "2c288d78efcacc191d539207d10e28d0748ff688bbc3a21aa4eb02b38e2a8786", func := "parquet/parquetlaw13.GenusLists", spec := "genusLists", unfollowed := true, recurses := true, plainKeys := false, apart := false }
def GenusListsSaid : Prop := genusListsRow.holds Try.pinned (OpenSpec.ofChange genusListsSpec)

/-- ITS FALSE NEIGHBOUR: 'it returns false'. Refute it at one input. -/
def genusListsWrong : ChangeSpec := { name := "genusLists", fn := fun _ => fun
  | [d] => { results := [.lit (.bool false)], args := [d] }
  | _ => none }
def GenusListsWrongFalsely : Prop := genusListsRow.holds Try.pinned (OpenSpec.ofChange genusListsWrong)

/-- 'parquetlaw13.GenusOne': WHATEVER THE INPUT: true; the input reads as it did. -/
def genusOneSpec : ChangeSpec := { name := "genusOne", fn := fun _ => fun
  | [d] => { results := [.lit (.bool true)], args := [d] }
  | _ => none }
def genusOneRow : OpenClaim := { program := "ytljhbjkdifmonaa", sum := "2c288d78efcacc191d539207d10e28d0748ff688bbc3a21aa4eb02b38e2a8786", func := "parquet/parquetlaw13.GenusOne", spec := "genusOne", unfollowed := true, recurses := true, plainKeys := false, apart := false }
def GenusOneSaid : Prop := genusOneRow.holds Try.pinned (OpenSpec.ofChange genusOneSpec)

/-- ITS FALSE NEIGHBOUR: 'it returns false'. Refute it at one input. -/
def genusOneWrong : ChangeSpec := { name := "genusOne", fn := fun _ => fun
  | [d] => { results := [.lit (.bool false)], args := [d] }
  | _ => none }
def GenusOneWrongFalsely : Prop := genusOneRow.holds Try.pinned (OpenSpec.ofChange genusOneWrong)

/-- 'parquetlaw13.GenusKnown': WHATEVER THE INPUT: true; the input reads as it did. -/
def genusKnownSpec : ChangeSpec := { name := "genusKnown", fn := fun _ => fun
  | [] => { results := [.lit (.bool true)], args := [] }
  | _ => none }
def genusKnownRow : OpenClaim := { program := "ytljhbjkdifmonaa", sum := "2c288d78efcacc191d539207d10e28d0748ff688bbc3a21aa4eb02b38e2a8786", func := "parquet/parquetlaw13.GenusKnown", spec := "genusKnown", unfollowed := true, recurses := true, plainKeys := false, apart := false }
def GenusKnownSaid : Prop := genusKnownRow.holds Try.pinned (OpenSpec.ofChange genusKnownSpec)

/-- ITS FALSE NEIGHBOUR: 'it returns false'. Refute it at one input. -/
def genusKnownWrong : ChangeSpec := { name := "genusKnown", fn := fun _ => fun
  | [] => { results := [.lit (.bool false)], args := [] }
  | _ => none }
def GenusKnownWrongFalsely : Prop := genusKnownRow.holds Try.pinned (OpenSpec.ofChange genusKnownWrong)

/-- 'parquetlaw13.GenusProducts': WHATEVER THE INPUT: true; the input reads as it did. -/
def genusProductsSpec : ChangeSpec := { name := "genusProducts", fn := fun _ => fun
  | [d1, d2] => { results := [.lit (.bool true)], args := [d1, d2] }
  | _ => none }
def genusProductsRow : OpenClaim := { program := "ytljhbjkdifmonaa", sum := "2c288d78efcacc191d539207d10e28d0748ff688bbc3a21aa4eb02b38e2a8786", func := "parquet/parquetlaw13.GenusProducts", spec := "genusProducts", unfollowed := true, recurses := true, named := ["math/bits.divideError", "math/bits.overflowError"], plainKeys := false, apart := false }
def GenusProductsSaid : Prop := genusProductsRow.holds Try.pinned (OpenSpec.ofChange genusProductsSpec)

/-- ITS FALSE NEIGHBOUR: 'it returns false'. Refute it at one input. -/
def genusProductsWrong : ChangeSpec := { name := "genusProducts", fn := fun _ => fun
  | [d1, d2] => { results := [.lit (.bool false)], args := [d1, d2] }
  | _ => none }
def GenusProductsWrongFalsely : Prop := genusProductsRow.holds Try.pinned (OpenSpec.ofChange genusProductsWrong)

/- THE SECOND FORM. 'bulk': how many values and letters a reading holds, each counted each time it is reached (what is shared counts as often as it is met; a slice's spare places count too). A statement '..UptoSaid' is the law's where the arguments, and the package variables that the reading takes, are together of bulk at most 1048576: NARROWER than '..Said'. Prove '..Said' where nothing that the law and all that it calls make is longer than what came in: it says more and counts as full. Else prove '..UptoSaid'. A law counts once. -/
mutual
def uptoBulk {H : Type} : DataW H → Nat
  | .lit (.string bytes) => bytes.length + 1
  | .lit _ => 1
  | .nil => 1
  | .ptr d => uptoBulk d + 1
  | .slice elems spare => uptoBulkAll elems + uptoBulkAll spare + 1
  | .agg parts => uptoBulkAll parts + 1
  | .iface _ d => uptoBulk d + 1
  | .map entries => uptoBulkEntries entries + 1
  | .held _ => 1
def uptoBulkAll {H : Type} : List (DataW H) → Nat
  | [] => 0
  | d :: r => uptoBulk d + uptoBulkAll r
def uptoBulkEntries {H : Type} : List (Lit × DataW H) → Nat
  | [] => 0
  | x :: r => uptoBulkEntry x + uptoBulkEntries r
def uptoBulkEntry {H : Type} : Lit × DataW H → Nat
  | (.string bytes, d) => bytes.length + uptoBulk d + 1
  | (_, d) => uptoBulk d + 1
 end
def uptoSmall : (H : Type) → List (DataW H) → Bool := fun _ ds => decide (uptoBulkAll ds ≤ 1048576)
def OpenSpec.upto (s : _root_.Go.ChangeSpec) : _root_.Go.OpenSpec := { _root_.Go.OpenSpec.ofChange s with cond := some uptoSmall }

/-- 'parquetlaw09.CycleLists', WHERE WHAT IT READS IS OF BULK AT MOST 1048576: true; the input reads as it did. -/
def cycleListsUptoRow : OpenClaim := { program := "ytljhbjkdifmonaa", sum := "2c288d78efcacc191d539207d10e28d0748ff688bbc3a21aa4eb02b38e2a8786", func := "parquet/parquetlaw09.CycleLists", spec := "cycleLists", unfollowed := true, recurses := true, plainKeys := false, apart := false, narrowed := true }
def CycleListsUptoSaid : Prop := cycleListsUptoRow.holds Try.pinned (OpenSpec.upto cycleListsSpec)

/-- 'parquetlaw09.CycleKnown', WHERE WHAT IT READS IS OF BULK AT MOST 1048576: true; the input reads as it did. -/
def cycleKnownUptoRow : OpenClaim := { program := "ytljhbjkdifmonaa", sum := "2c288d78efcacc191d539207d10e28d0748ff688bbc3a21aa4eb02b38e2a8786", func := "parquet/parquetlaw09.CycleKnown", spec := "cycleKnown", unfollowed := true, recurses := true, plainKeys := false, apart := false, narrowed := true }
def CycleKnownUptoSaid : Prop := cycleKnownUptoRow.holds Try.pinned (OpenSpec.upto cycleKnownSpec)

/-- 'parquetlaw09.CyclePlaces', WHERE WHAT IT READS IS OF BULK AT MOST 1048576: true; the input reads as it did. -/
def cyclePlacesUptoRow : OpenClaim := { program := "ytljhbjkdifmonaa", sum := "2c288d78efcacc191d539207d10e28d0748ff688bbc3a21aa4eb02b38e2a8786", func := "parquet/parquetlaw09.CyclePlaces", spec := "cyclePlaces", unfollowed := true, recurses := true, plainKeys := false, apart := false, narrowed := true }
def CyclePlacesUptoSaid : Prop := cyclePlacesUptoRow.holds Try.pinned (OpenSpec.upto cyclePlacesSpec)

/-- 'parquetlaw13.GenusSigns', WHERE WHAT IT READS IS OF BULK AT MOST 1048576: true; the input reads as it did. -/
def genusSignsUptoRow : OpenClaim := { program := "ytljhbjkdifmonaa", sum := "2c288d78efcacc191d539207d10e28d0748ff688bbc3a21aa4eb02b38e2a8786", func := "parquet/parquetlaw13.GenusSigns", spec := "genusSigns", unfollowed := true, recurses := true, plainKeys := false, apart := false, narrowed := true }
def GenusSignsUptoSaid : Prop := genusSignsUptoRow.holds Try.pinned (OpenSpec.upto genusSignsSpec)

/-- 'parquetlaw13.GenusLists', WHERE WHAT IT READS IS OF BULK AT MOST 1048576: true; the input reads as it did. -/
def genusListsUptoRow : OpenClaim := { program := "ytljhbjkdifmonaa", sum := "2c288d78efcacc191d539207d10e28d0748ff688bbc3a21aa4eb02b38e2a8786", func := "parquet/parquetlaw13.GenusLists", spec := "genusLists", unfollowed := true, recurses := true, plainKeys := false, apart := false, narrowed := true }
def GenusListsUptoSaid : Prop := genusListsUptoRow.holds Try.pinned (OpenSpec.upto genusListsSpec)

/-- 'parquetlaw13.GenusOne', WHERE WHAT IT READS IS OF BULK AT MOST 1048576: true; the input reads as it did. -/
def genusOneUptoRow : OpenClaim := { program := "ytljhbjkdifmonaa", sum := "2c288d78efcacc191d539207d10e28d0748ff688bbc3a21aa4eb02b38e2a8786", func := "parquet/parquetlaw13.GenusOne", spec := "genusOne", unfollowed := true, recurses := true, plainKeys := false, apart := false, narrowed := true }
def GenusOneUptoSaid : Prop := genusOneUptoRow.holds Try.pinned (OpenSpec.upto genusOneSpec)

/-- 'parquetlaw13.GenusKnown', WHERE WHAT IT READS IS OF BULK AT MOST 1048576: true; the input reads as it did. -/
def genusKnownUptoRow : OpenClaim := { program := "ytljhbjkdifmonaa", sum := "2c288d78efcacc191d539207d10e28d0748ff688bbc3a21aa4eb02b38e2a8786", func := "parquet/parquetlaw13.GenusKnown", spec := "genusKnown", unfollowed := true, recurses := true, plainKeys := false, apart := false, narrowed := true }
def GenusKnownUptoSaid : Prop := genusKnownUptoRow.holds Try.pinned (OpenSpec.upto genusKnownSpec)

/-- 'parquetlaw13.GenusProducts', WHERE WHAT IT READS IS OF BULK AT MOST 1048576: true; the input reads as it did. -/
def genusProductsUptoRow : OpenClaim := { program := "ytljhbjkdifmonaa", sum := "2c288d78efcacc191d539207d10e28d0748ff688bbc3a21aa4eb02b38e2a8786", func := "parquet/parquetlaw13.GenusProducts", spec := "genusProducts", unfollowed := true, recurses := true, named := ["math/bits.divideError", "math/bits.overflowError"], plainKeys := false, apart := false, narrowed := true }
def GenusProductsUptoSaid : Prop := genusProductsUptoRow.holds Try.pinned (OpenSpec.upto genusProductsSpec)

end Rows
end Go.Proofs.Ytljhbjkdifmonaa
