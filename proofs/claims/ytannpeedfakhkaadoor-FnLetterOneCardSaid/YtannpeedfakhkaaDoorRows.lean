/-
  NARROWER THAN 'FOR EVERY INPUT', by the rows' own cells (each row's printed sentence says how): FnExactLetterTake: ifaces, laid · FnExactLetterAll: ifaces, laid · FnLetterHead: ifaces, laid · FnLetterOne: ifaces, laid · FnLetterText: ifaces, laid · FnLettersText: ifaces, laid · FnLetterPieces: ifaces, laid · FnLetterTake: ifaces, laid · FnLetterAll: ifaces, laid.
  DERIVED. THE GIVEN ROWS OF THIS SEAT. 9 by the template 'for every input the law returns true; each argument reads behind the call as it read before'; 0 by the template 'total and deterministic' (their statements: YtannpeedfakhkaaDoorTotals.lean).
  GIVEN WITH THE SEED: the statements are not yours to turn. If you find one false, say at which input.
  Laid BY PROGRAM, IN A SANDBOX (cutbox-rows.mjs): the forced cells as the released guide's own fill.sh prints them over the translation 0ff664a69e812e32… (all of the seat's roots in one cut). By AI agents, Wed Nov 11 2026. No macro, syntax, notation, axiom, sorry.
-/
import Derived.Test.YtannpeedfakhkaaDoorChecked
import GoSem.Claim
import GoSem.ClaimJoined
import GoSem.ClaimMapViews
import Derived.JoinedTies
import Derived.KernelRfl
namespace Go.Proofs.YtannpeedfakhkaaDoor
/- THE CELL 'sum', in the pinned program and in every row, IS THE sha256 OF THE DUMP (.gsa) THAT YtannpeedfakhkaaDoorProg.lean LOADS. Nothing in Lean hashes anything: it is a label: what it is worth is what the hold of that sum in a sandbox is worth. -/
noncomputable def Tryd.pinned : Pinned := { name := "ytannpeedfakhkaadoor", sum := "0ff664a69e812e32179646802ec119870212c91b6594eebe2383901482ff8a28", checked := Tryd.checked }
namespace Rows
def none {H : Type} : Left H := { results := [], args := [] }

/- WHAT THE LISTED PACKAGE-LEVEL VARIABLES READ AS WHEN THE CALL BEGINS. Each datum BY PROGRAM (the guide's laid-datum.mjs) off the statement by which the dump's own 'gosem.cut.vars' lays the variable. In a bare row this is a premise. The card (YtannpeedfakhkaaDoorCards.lean) ties it to the program's text. -/
def laid_loop_example_engrosser_impl_errMalformed {H : Type} : DataW H := .iface "*errors.errorString" (.ptr (.agg [.lit (.string [109, 97, 108, 102, 111, 114, 109, 101, 100, 32, 108, 101, 116, 116, 101, 114])]))

/-- 'laws.FnExactLetterTake': WHATEVER THE INPUT: true; the input reads as it did. -/
def fnExactLetterTakeSpec : ChangeSpec := { name := "fnExactLetterTake", vars := ["loop.example/engrosser/impl.errMalformed"], fn := fun _ => fun
  | [d, g1] => { results := [.lit (.bool true)], args := [d], vars := [g1] }
  | _ => none }
def fnExactLetterTakeRow : OpenClaim := { program := "ytannpeedfakhkaadoor", sum := "0ff664a69e812e32179646802ec119870212c91b6594eebe2383901482ff8a28", func := "loop.example/engrosser/laws.FnExactLetterTake", spec := "fnExactLetterTake", inPlace := ["internal/reflectlite.TypeOf"], unfollowed := true, recurses := true, named := ["loop.example/engrosser/impl.errMalformed"], ifaces := true, apart := false, laid := [("loop.example/engrosser/impl.errMalformed", laid_loop_example_engrosser_impl_errMalformed)] }
def FnExactLetterTakeSaid : Prop := fnExactLetterTakeRow.holds Tryd.pinned (OpenSpec.ofChange fnExactLetterTakeSpec)

/-- ITS FALSE NEIGHBOUR: 'it returns false'. Refute it at one input. -/
def fnExactLetterTakeWrong : ChangeSpec := { name := "fnExactLetterTake", vars := ["loop.example/engrosser/impl.errMalformed"], fn := fun _ => fun
  | [d, g1] => { results := [.lit (.bool false)], args := [d], vars := [g1] }
  | _ => none }
def FnExactLetterTakeWrongFalsely : Prop := fnExactLetterTakeRow.holds Tryd.pinned (OpenSpec.ofChange fnExactLetterTakeWrong)

/-- 'laws.FnExactLetterAll': WHATEVER THE INPUT: true; the input reads as it did. -/
def fnExactLetterAllSpec : ChangeSpec := { name := "fnExactLetterAll", vars := ["loop.example/engrosser/impl.errMalformed"], fn := fun _ => fun
  | [d, g1] => { results := [.lit (.bool true)], args := [d], vars := [g1] }
  | _ => none }
def fnExactLetterAllRow : OpenClaim := { program := "ytannpeedfakhkaadoor", sum := "0ff664a69e812e32179646802ec119870212c91b6594eebe2383901482ff8a28", func := "loop.example/engrosser/laws.FnExactLetterAll", spec := "fnExactLetterAll", inPlace := ["internal/reflectlite.TypeOf"], unfollowed := true, recurses := true, named := ["loop.example/engrosser/impl.errMalformed"], ifaces := true, apart := false, laid := [("loop.example/engrosser/impl.errMalformed", laid_loop_example_engrosser_impl_errMalformed)] }
def FnExactLetterAllSaid : Prop := fnExactLetterAllRow.holds Tryd.pinned (OpenSpec.ofChange fnExactLetterAllSpec)

/-- ITS FALSE NEIGHBOUR: 'it returns false'. Refute it at one input. -/
def fnExactLetterAllWrong : ChangeSpec := { name := "fnExactLetterAll", vars := ["loop.example/engrosser/impl.errMalformed"], fn := fun _ => fun
  | [d, g1] => { results := [.lit (.bool false)], args := [d], vars := [g1] }
  | _ => none }
def FnExactLetterAllWrongFalsely : Prop := fnExactLetterAllRow.holds Tryd.pinned (OpenSpec.ofChange fnExactLetterAllWrong)

/-- 'laws.FnLetterHead': WHATEVER THE INPUT: true; the input reads as it did. -/
def fnLetterHeadSpec : ChangeSpec := { name := "fnLetterHead", vars := ["loop.example/engrosser/impl.errMalformed"], fn := fun _ => fun
  | [d, g1] => { results := [.lit (.bool true)], args := [d], vars := [g1] }
  | _ => none }
def fnLetterHeadRow : OpenClaim := { program := "ytannpeedfakhkaadoor", sum := "0ff664a69e812e32179646802ec119870212c91b6594eebe2383901482ff8a28", func := "loop.example/engrosser/laws.FnLetterHead", spec := "fnLetterHead", inPlace := ["internal/reflectlite.TypeOf"], unfollowed := true, recurses := true, named := ["loop.example/engrosser/impl.errMalformed"], ifaces := true, apart := false, laid := [("loop.example/engrosser/impl.errMalformed", laid_loop_example_engrosser_impl_errMalformed)] }
def FnLetterHeadSaid : Prop := fnLetterHeadRow.holds Tryd.pinned (OpenSpec.ofChange fnLetterHeadSpec)

/-- ITS FALSE NEIGHBOUR: 'it returns false'. Refute it at one input. -/
def fnLetterHeadWrong : ChangeSpec := { name := "fnLetterHead", vars := ["loop.example/engrosser/impl.errMalformed"], fn := fun _ => fun
  | [d, g1] => { results := [.lit (.bool false)], args := [d], vars := [g1] }
  | _ => none }
def FnLetterHeadWrongFalsely : Prop := fnLetterHeadRow.holds Tryd.pinned (OpenSpec.ofChange fnLetterHeadWrong)

/-- 'laws.FnLetterOne': WHATEVER THE INPUT: true; the input reads as it did. -/
def fnLetterOneSpec : ChangeSpec := { name := "fnLetterOne", vars := ["loop.example/engrosser/impl.errMalformed"], fn := fun _ => fun
  | [d1, d2, g1] => { results := [.lit (.bool true)], args := [d1, d2], vars := [g1] }
  | _ => none }
def fnLetterOneRow : OpenClaim := { program := "ytannpeedfakhkaadoor", sum := "0ff664a69e812e32179646802ec119870212c91b6594eebe2383901482ff8a28", func := "loop.example/engrosser/laws.FnLetterOne", spec := "fnLetterOne", inPlace := ["internal/abi.NoEscape", "internal/reflectlite.TypeOf"], unfollowed := true, recurses := true, named := ["loop.example/engrosser/impl.errMalformed"], ifaces := true, apart := false, laid := [("loop.example/engrosser/impl.errMalformed", laid_loop_example_engrosser_impl_errMalformed)] }
def FnLetterOneSaid : Prop := fnLetterOneRow.holds Tryd.pinned (OpenSpec.ofChange fnLetterOneSpec)

/-- ITS FALSE NEIGHBOUR: 'it returns false'. Refute it at one input. -/
def fnLetterOneWrong : ChangeSpec := { name := "fnLetterOne", vars := ["loop.example/engrosser/impl.errMalformed"], fn := fun _ => fun
  | [d1, d2, g1] => { results := [.lit (.bool false)], args := [d1, d2], vars := [g1] }
  | _ => none }
def FnLetterOneWrongFalsely : Prop := fnLetterOneRow.holds Tryd.pinned (OpenSpec.ofChange fnLetterOneWrong)

/-- 'laws.FnLetterText': WHATEVER THE INPUT: true; the input reads as it did. -/
def fnLetterTextSpec : ChangeSpec := { name := "fnLetterText", vars := ["loop.example/engrosser/impl.errMalformed"], fn := fun _ => fun
  | [d1, d2, g1] => { results := [.lit (.bool true)], args := [d1, d2], vars := [g1] }
  | _ => none }
def fnLetterTextRow : OpenClaim := { program := "ytannpeedfakhkaadoor", sum := "0ff664a69e812e32179646802ec119870212c91b6594eebe2383901482ff8a28", func := "loop.example/engrosser/laws.FnLetterText", spec := "fnLetterText", inPlace := ["internal/abi.NoEscape", "internal/reflectlite.TypeOf"], unfollowed := true, recurses := true, named := ["loop.example/engrosser/impl.errMalformed"], ifaces := true, apart := false, laid := [("loop.example/engrosser/impl.errMalformed", laid_loop_example_engrosser_impl_errMalformed)] }
def FnLetterTextSaid : Prop := fnLetterTextRow.holds Tryd.pinned (OpenSpec.ofChange fnLetterTextSpec)

/-- ITS FALSE NEIGHBOUR: 'it returns false'. Refute it at one input. -/
def fnLetterTextWrong : ChangeSpec := { name := "fnLetterText", vars := ["loop.example/engrosser/impl.errMalformed"], fn := fun _ => fun
  | [d1, d2, g1] => { results := [.lit (.bool false)], args := [d1, d2], vars := [g1] }
  | _ => none }
def FnLetterTextWrongFalsely : Prop := fnLetterTextRow.holds Tryd.pinned (OpenSpec.ofChange fnLetterTextWrong)

/-- 'laws.FnLettersText': WHATEVER THE INPUT: true; the input reads as it did. -/
def fnLettersTextSpec : ChangeSpec := { name := "fnLettersText", vars := ["loop.example/engrosser/impl.errMalformed"], fn := fun _ => fun
  | [d, g1] => { results := [.lit (.bool true)], args := [d], vars := [g1] }
  | _ => none }
def fnLettersTextRow : OpenClaim := { program := "ytannpeedfakhkaadoor", sum := "0ff664a69e812e32179646802ec119870212c91b6594eebe2383901482ff8a28", func := "loop.example/engrosser/laws.FnLettersText", spec := "fnLettersText", inPlace := ["internal/abi.NoEscape", "internal/reflectlite.TypeOf"], unfollowed := true, recurses := true, named := ["loop.example/engrosser/impl.errMalformed"], ifaces := true, apart := false, laid := [("loop.example/engrosser/impl.errMalformed", laid_loop_example_engrosser_impl_errMalformed)] }
def FnLettersTextSaid : Prop := fnLettersTextRow.holds Tryd.pinned (OpenSpec.ofChange fnLettersTextSpec)

/-- ITS FALSE NEIGHBOUR: 'it returns false'. Refute it at one input. -/
def fnLettersTextWrong : ChangeSpec := { name := "fnLettersText", vars := ["loop.example/engrosser/impl.errMalformed"], fn := fun _ => fun
  | [d, g1] => { results := [.lit (.bool false)], args := [d], vars := [g1] }
  | _ => none }
def FnLettersTextWrongFalsely : Prop := fnLettersTextRow.holds Tryd.pinned (OpenSpec.ofChange fnLettersTextWrong)

/-- 'laws.FnLetterPieces': WHATEVER THE INPUT: true; the input reads as it did. -/
def fnLetterPiecesSpec : ChangeSpec := { name := "fnLetterPieces", vars := ["loop.example/engrosser/impl.errMalformed"], fn := fun _ => fun
  | [d1, d2, g1] => { results := [.lit (.bool true)], args := [d1, d2], vars := [g1] }
  | _ => none }
def fnLetterPiecesRow : OpenClaim := { program := "ytannpeedfakhkaadoor", sum := "0ff664a69e812e32179646802ec119870212c91b6594eebe2383901482ff8a28", func := "loop.example/engrosser/laws.FnLetterPieces", spec := "fnLetterPieces", inPlace := ["internal/reflectlite.TypeOf"], unfollowed := true, recurses := true, named := ["loop.example/engrosser/impl.errMalformed"], ifaces := true, apart := false, laid := [("loop.example/engrosser/impl.errMalformed", laid_loop_example_engrosser_impl_errMalformed)] }
def FnLetterPiecesSaid : Prop := fnLetterPiecesRow.holds Tryd.pinned (OpenSpec.ofChange fnLetterPiecesSpec)

/-- ITS FALSE NEIGHBOUR: 'it returns false'. Refute it at one input. -/
def fnLetterPiecesWrong : ChangeSpec := { name := "fnLetterPieces", vars := ["loop.example/engrosser/impl.errMalformed"], fn := fun _ => fun
  | [d1, d2, g1] => { results := [.lit (.bool false)], args := [d1, d2], vars := [g1] }
  | _ => none }
def FnLetterPiecesWrongFalsely : Prop := fnLetterPiecesRow.holds Tryd.pinned (OpenSpec.ofChange fnLetterPiecesWrong)

/-- 'laws.FnLetterTake': WHATEVER THE INPUT: true; the input reads as it did. -/
def fnLetterTakeSpec : ChangeSpec := { name := "fnLetterTake", vars := ["loop.example/engrosser/impl.errMalformed"], fn := fun _ => fun
  | [d1, d2, g1] => { results := [.lit (.bool true)], args := [d1, d2], vars := [g1] }
  | _ => none }
def fnLetterTakeRow : OpenClaim := { program := "ytannpeedfakhkaadoor", sum := "0ff664a69e812e32179646802ec119870212c91b6594eebe2383901482ff8a28", func := "loop.example/engrosser/laws.FnLetterTake", spec := "fnLetterTake", inPlace := ["internal/reflectlite.TypeOf", "internal/abi.NoEscape"], unfollowed := true, recurses := true, named := ["loop.example/engrosser/impl.errMalformed"], ifaces := true, apart := false, laid := [("loop.example/engrosser/impl.errMalformed", laid_loop_example_engrosser_impl_errMalformed)] }
def FnLetterTakeSaid : Prop := fnLetterTakeRow.holds Tryd.pinned (OpenSpec.ofChange fnLetterTakeSpec)

/-- ITS FALSE NEIGHBOUR: 'it returns false'. Refute it at one input. -/
def fnLetterTakeWrong : ChangeSpec := { name := "fnLetterTake", vars := ["loop.example/engrosser/impl.errMalformed"], fn := fun _ => fun
  | [d1, d2, g1] => { results := [.lit (.bool false)], args := [d1, d2], vars := [g1] }
  | _ => none }
def FnLetterTakeWrongFalsely : Prop := fnLetterTakeRow.holds Tryd.pinned (OpenSpec.ofChange fnLetterTakeWrong)

/-- 'laws.FnLetterAll': WHATEVER THE INPUT: true; the input reads as it did. -/
def fnLetterAllSpec : ChangeSpec := { name := "fnLetterAll", vars := ["loop.example/engrosser/impl.errMalformed"], fn := fun _ => fun
  | [d, g1] => { results := [.lit (.bool true)], args := [d], vars := [g1] }
  | _ => none }
def fnLetterAllRow : OpenClaim := { program := "ytannpeedfakhkaadoor", sum := "0ff664a69e812e32179646802ec119870212c91b6594eebe2383901482ff8a28", func := "loop.example/engrosser/laws.FnLetterAll", spec := "fnLetterAll", inPlace := ["internal/reflectlite.TypeOf", "internal/abi.NoEscape"], unfollowed := true, recurses := true, named := ["loop.example/engrosser/impl.errMalformed"], ifaces := true, apart := false, laid := [("loop.example/engrosser/impl.errMalformed", laid_loop_example_engrosser_impl_errMalformed)] }
def FnLetterAllSaid : Prop := fnLetterAllRow.holds Tryd.pinned (OpenSpec.ofChange fnLetterAllSpec)

/-- ITS FALSE NEIGHBOUR: 'it returns false'. Refute it at one input. -/
def fnLetterAllWrong : ChangeSpec := { name := "fnLetterAll", vars := ["loop.example/engrosser/impl.errMalformed"], fn := fun _ => fun
  | [d, g1] => { results := [.lit (.bool false)], args := [d], vars := [g1] }
  | _ => none }
def FnLetterAllWrongFalsely : Prop := fnLetterAllRow.holds Tryd.pinned (OpenSpec.ofChange fnLetterAllWrong)

/- THE SECOND FORM. 'bulk': how many values and letters a reading holds, each counted each time it is reached (what is shared counts as often as it is met; a slice's spare places count too). A statement '..UptoSaid' is the law's where the arguments, and the package variables that the reading takes, are together of bulk at most 1048576: NARROWER than '..Said'. Prove '..Said' where nothing that the law and all that it calls make is longer than what came in: it says more and counts as full. Else prove '..UptoSaid'. A law counts once. -/
mutual
def uptoBulk {H : Type} : DataW H → Nat
  | .lit (.string bytes) => bytes.length + 1
  | .lit _ => 1
  | .nil => 1
  | .ptr d => uptoBulk d + 1
  | .slice elems spare => uptoBulkAll elems + uptoBulkAll spare + 1
  | .agg parts => uptoBulkAll parts + 1
  | .iface _ d => uptoBulk d + 1
  | .map entries => uptoBulkEntries entries + 1
  | .held _ => 1
def uptoBulkAll {H : Type} : List (DataW H) → Nat
  | [] => 0
  | d :: r => uptoBulk d + uptoBulkAll r
def uptoBulkEntries {H : Type} : List (Lit × DataW H) → Nat
  | [] => 0
  | x :: r => uptoBulkEntry x + uptoBulkEntries r
def uptoBulkEntry {H : Type} : Lit × DataW H → Nat
  | (.string bytes, d) => bytes.length + uptoBulk d + 1
  | (_, d) => uptoBulk d + 1
 end
def uptoSmall : (H : Type) → List (DataW H) → Bool := fun _ ds => decide (uptoBulkAll ds ≤ 1048576)
def OpenSpec.upto (s : _root_.Go.ChangeSpec) : _root_.Go.OpenSpec := { _root_.Go.OpenSpec.ofChange s with cond := some uptoSmall }

/-- 'laws.FnExactLetterTake', WHERE WHAT IT READS IS OF BULK AT MOST 1048576: true; the input reads as it did. -/
def fnExactLetterTakeUptoRow : OpenClaim := { program := "ytannpeedfakhkaadoor", sum := "0ff664a69e812e32179646802ec119870212c91b6594eebe2383901482ff8a28", func := "loop.example/engrosser/laws.FnExactLetterTake", spec := "fnExactLetterTake", inPlace := ["internal/reflectlite.TypeOf"], unfollowed := true, recurses := true, named := ["loop.example/engrosser/impl.errMalformed"], ifaces := true, apart := false, laid := [("loop.example/engrosser/impl.errMalformed", laid_loop_example_engrosser_impl_errMalformed)], narrowed := true }
def FnExactLetterTakeUptoSaid : Prop := fnExactLetterTakeUptoRow.holds Tryd.pinned (OpenSpec.upto fnExactLetterTakeSpec)

/-- 'laws.FnExactLetterAll', WHERE WHAT IT READS IS OF BULK AT MOST 1048576: true; the input reads as it did. -/
def fnExactLetterAllUptoRow : OpenClaim := { program := "ytannpeedfakhkaadoor", sum := "0ff664a69e812e32179646802ec119870212c91b6594eebe2383901482ff8a28", func := "loop.example/engrosser/laws.FnExactLetterAll", spec := "fnExactLetterAll", inPlace := ["internal/reflectlite.TypeOf"], unfollowed := true, recurses := true, named := ["loop.example/engrosser/impl.errMalformed"], ifaces := true, apart := false, laid := [("loop.example/engrosser/impl.errMalformed", laid_loop_example_engrosser_impl_errMalformed)], narrowed := true }
def FnExactLetterAllUptoSaid : Prop := fnExactLetterAllUptoRow.holds Tryd.pinned (OpenSpec.upto fnExactLetterAllSpec)

/-- 'laws.FnLetterHead', WHERE WHAT IT READS IS OF BULK AT MOST 1048576: true; the input reads as it did. -/
def fnLetterHeadUptoRow : OpenClaim := { program := "ytannpeedfakhkaadoor", sum := "0ff664a69e812e32179646802ec119870212c91b6594eebe2383901482ff8a28", func := "loop.example/engrosser/laws.FnLetterHead", spec := "fnLetterHead", inPlace := ["internal/reflectlite.TypeOf"], unfollowed := true, recurses := true, named := ["loop.example/engrosser/impl.errMalformed"], ifaces := true, apart := false, laid := [("loop.example/engrosser/impl.errMalformed", laid_loop_example_engrosser_impl_errMalformed)], narrowed := true }
def FnLetterHeadUptoSaid : Prop := fnLetterHeadUptoRow.holds Tryd.pinned (OpenSpec.upto fnLetterHeadSpec)

/-- 'laws.FnLetterOne', WHERE WHAT IT READS IS OF BULK AT MOST 1048576: true; the input reads as it did. -/
def fnLetterOneUptoRow : OpenClaim := { program := "ytannpeedfakhkaadoor", sum := "0ff664a69e812e32179646802ec119870212c91b6594eebe2383901482ff8a28", func := "loop.example/engrosser/laws.FnLetterOne", spec := "fnLetterOne", inPlace := ["internal/abi.NoEscape", "internal/reflectlite.TypeOf"], unfollowed := true, recurses := true, named := ["loop.example/engrosser/impl.errMalformed"], ifaces := true, apart := false, laid := [("loop.example/engrosser/impl.errMalformed", laid_loop_example_engrosser_impl_errMalformed)], narrowed := true }
def FnLetterOneUptoSaid : Prop := fnLetterOneUptoRow.holds Tryd.pinned (OpenSpec.upto fnLetterOneSpec)

/-- 'laws.FnLetterText', WHERE WHAT IT READS IS OF BULK AT MOST 1048576: true; the input reads as it did. -/
def fnLetterTextUptoRow : OpenClaim := { program := "ytannpeedfakhkaadoor", sum := "0ff664a69e812e32179646802ec119870212c91b6594eebe2383901482ff8a28", func := "loop.example/engrosser/laws.FnLetterText", spec := "fnLetterText", inPlace := ["internal/abi.NoEscape", "internal/reflectlite.TypeOf"], unfollowed := true, recurses := true, named := ["loop.example/engrosser/impl.errMalformed"], ifaces := true, apart := false, laid := [("loop.example/engrosser/impl.errMalformed", laid_loop_example_engrosser_impl_errMalformed)], narrowed := true }
def FnLetterTextUptoSaid : Prop := fnLetterTextUptoRow.holds Tryd.pinned (OpenSpec.upto fnLetterTextSpec)

/-- 'laws.FnLettersText', WHERE WHAT IT READS IS OF BULK AT MOST 1048576: true; the input reads as it did. -/
def fnLettersTextUptoRow : OpenClaim := { program := "ytannpeedfakhkaadoor", sum := "0ff664a69e812e32179646802ec119870212c91b6594eebe2383901482ff8a28", func := "loop.example/engrosser/laws.FnLettersText", spec := "fnLettersText", inPlace := ["internal/abi.NoEscape", "internal/reflectlite.TypeOf"], unfollowed := true, recurses := true, named := ["loop.example/engrosser/impl.errMalformed"], ifaces := true, apart := false, laid := [("loop.example/engrosser/impl.errMalformed", laid_loop_example_engrosser_impl_errMalformed)], narrowed := true }
def FnLettersTextUptoSaid : Prop := fnLettersTextUptoRow.holds Tryd.pinned (OpenSpec.upto fnLettersTextSpec)

/-- 'laws.FnLetterPieces', WHERE WHAT IT READS IS OF BULK AT MOST 1048576: true; the input reads as it did. -/
def fnLetterPiecesUptoRow : OpenClaim := { program := "ytannpeedfakhkaadoor", sum := "0ff664a69e812e32179646802ec119870212c91b6594eebe2383901482ff8a28", func := "loop.example/engrosser/laws.FnLetterPieces", spec := "fnLetterPieces", inPlace := ["internal/reflectlite.TypeOf"], unfollowed := true, recurses := true, named := ["loop.example/engrosser/impl.errMalformed"], ifaces := true, apart := false, laid := [("loop.example/engrosser/impl.errMalformed", laid_loop_example_engrosser_impl_errMalformed)], narrowed := true }
def FnLetterPiecesUptoSaid : Prop := fnLetterPiecesUptoRow.holds Tryd.pinned (OpenSpec.upto fnLetterPiecesSpec)

/-- 'laws.FnLetterTake', WHERE WHAT IT READS IS OF BULK AT MOST 1048576: true; the input reads as it did. -/
def fnLetterTakeUptoRow : OpenClaim := { program := "ytannpeedfakhkaadoor", sum := "0ff664a69e812e32179646802ec119870212c91b6594eebe2383901482ff8a28", func := "loop.example/engrosser/laws.FnLetterTake", spec := "fnLetterTake", inPlace := ["internal/reflectlite.TypeOf", "internal/abi.NoEscape"], unfollowed := true, recurses := true, named := ["loop.example/engrosser/impl.errMalformed"], ifaces := true, apart := false, laid := [("loop.example/engrosser/impl.errMalformed", laid_loop_example_engrosser_impl_errMalformed)], narrowed := true }
def FnLetterTakeUptoSaid : Prop := fnLetterTakeUptoRow.holds Tryd.pinned (OpenSpec.upto fnLetterTakeSpec)

/-- 'laws.FnLetterAll', WHERE WHAT IT READS IS OF BULK AT MOST 1048576: true; the input reads as it did. -/
def fnLetterAllUptoRow : OpenClaim := { program := "ytannpeedfakhkaadoor", sum := "0ff664a69e812e32179646802ec119870212c91b6594eebe2383901482ff8a28", func := "loop.example/engrosser/laws.FnLetterAll", spec := "fnLetterAll", inPlace := ["internal/reflectlite.TypeOf", "internal/abi.NoEscape"], unfollowed := true, recurses := true, named := ["loop.example/engrosser/impl.errMalformed"], ifaces := true, apart := false, laid := [("loop.example/engrosser/impl.errMalformed", laid_loop_example_engrosser_impl_errMalformed)], narrowed := true }
def FnLetterAllUptoSaid : Prop := fnLetterAllUptoRow.holds Tryd.pinned (OpenSpec.upto fnLetterAllSpec)

end Rows
end Go.Proofs.YtannpeedfakhkaaDoor
