/-
  No cell of these rows narrows 'for every input' (looked for: loops, veiled, ifaces, maps, wideKeys, modest, calm, conditions, laid).
  DERIVED. THE GIVEN ROWS OF THIS SEAT. 7 by the template 'for every input the law returns true; each argument reads behind the call as it read before'; 0 by the template 'total and deterministic' (their statements: YtpjkcmmmpgncmaaTotals.lean).
  GIVEN WITH THE SEED: the statements are not yours to turn. If you find one false, say at which input.
  Laid BY PROGRAM, IN A SANDBOX (cutbox-rows.mjs): the forced cells as the released guide's own fill.sh prints them over the translation 696233af3f16de78… (all of the seat's roots in one cut). By AI agents, Wed Nov 11 2026. No macro, syntax, notation, axiom, sorry.
-/
import Derived.Test.YtpjkcmmmpgncmaaChecked
import GoSem.Claim
import GoSem.ClaimJoined
import GoSem.ClaimMapViews
import Derived.JoinedTies
import Derived.KernelRfl
namespace Go.Proofs.Ytpjkcmmmpgncmaa
/- THE CELL 'sum', in the pinned program and in every row, IS THE sha256 OF THE DUMP (.gsa) THAT YtpjkcmmmpgncmaaProg.lean LOADS. Nothing in Lean hashes anything: it is a label: what it is worth is what the hold of that sum in a sandbox is worth. -/
noncomputable def Try.pinned : Pinned := { name := "ytpjkcmmmpgncmaa", sum := "696233af3f16de785a336554145cca1f403792de56014859dfa5e1947974656f", checked := Try.checked }
namespace Rows
def none {H : Type} : Left H := { results := [], args := [] }

/-- 'laws.FnExactHallSame': WHATEVER THE INPUT: true; the input reads as it did. -/
def fnExactHallSameSpec : ChangeSpec := { name := "fnExactHallSame", fn := fun _ => fun
  | [d1, d2] => { results := [.lit (.bool true)], args := [d1, d2] }
  | _ => none }
def fnExactHallSameRow : OpenClaim := { program := "ytpjkcmmmpgncmaa", sum := "696233af3f16de785a336554145cca1f403792de56014859dfa5e1947974656f", func := "loop.example/engrosser/laws.FnExactHallSame", spec := "fnExactHallSame", unfollowed := true, recurses := true, apart := false }
def FnExactHallSameSaid : Prop := fnExactHallSameRow.holds Try.pinned (OpenSpec.ofChange fnExactHallSameSpec)

/-- ITS FALSE NEIGHBOUR: 'it returns false'. Refute it at one input. -/
def fnExactHallSameWrong : ChangeSpec := { name := "fnExactHallSame", fn := fun _ => fun
  | [d1, d2] => { results := [.lit (.bool false)], args := [d1, d2] }
  | _ => none }
def FnExactHallSameWrongFalsely : Prop := fnExactHallSameRow.holds Try.pinned (OpenSpec.ofChange fnExactHallSameWrong)

/-- 'laws.FnPastKeys': WHATEVER THE INPUT: true; the input reads as it did. -/
def fnPastKeysSpec : ChangeSpec := { name := "fnPastKeys", fn := fun _ => fun
  | [d] => { results := [.lit (.bool true)], args := [d] }
  | _ => none }
def fnPastKeysRow : OpenClaim := { program := "ytpjkcmmmpgncmaa", sum := "696233af3f16de785a336554145cca1f403792de56014859dfa5e1947974656f", func := "loop.example/engrosser/laws.FnPastKeys", spec := "fnPastKeys", unfollowed := true, recurses := true, apart := false }
def FnPastKeysSaid : Prop := fnPastKeysRow.holds Try.pinned (OpenSpec.ofChange fnPastKeysSpec)

/-- ITS FALSE NEIGHBOUR: 'it returns false'. Refute it at one input. -/
def fnPastKeysWrong : ChangeSpec := { name := "fnPastKeys", fn := fun _ => fun
  | [d] => { results := [.lit (.bool false)], args := [d] }
  | _ => none }
def FnPastKeysWrongFalsely : Prop := fnPastKeysRow.holds Try.pinned (OpenSpec.ofChange fnPastKeysWrong)

/-- 'laws.FnGramMany': WHATEVER THE INPUT: true; the input reads as it did. -/
def fnGramManySpec : ChangeSpec := { name := "fnGramMany", fn := fun _ => fun
  | [d] => { results := [.lit (.bool true)], args := [d] }
  | _ => none }
def fnGramManyRow : OpenClaim := { program := "ytpjkcmmmpgncmaa", sum := "696233af3f16de785a336554145cca1f403792de56014859dfa5e1947974656f", func := "loop.example/engrosser/laws.FnGramMany", spec := "fnGramMany", recurses := true, apart := false }
def FnGramManySaid : Prop := fnGramManyRow.holds Try.pinned (OpenSpec.ofChange fnGramManySpec)

/-- ITS FALSE NEIGHBOUR: 'it returns false'. Refute it at one input. -/
def fnGramManyWrong : ChangeSpec := { name := "fnGramMany", fn := fun _ => fun
  | [d] => { results := [.lit (.bool false)], args := [d] }
  | _ => none }
def FnGramManyWrongFalsely : Prop := fnGramManyRow.holds Try.pinned (OpenSpec.ofChange fnGramManyWrong)

/-- 'laws.FnHallOnly': WHATEVER THE INPUT: true; the input reads as it did. -/
def fnHallOnlySpec : ChangeSpec := { name := "fnHallOnly", fn := fun _ => fun
  | [d] => { results := [.lit (.bool true)], args := [d] }
  | _ => none }
def fnHallOnlyRow : OpenClaim := { program := "ytpjkcmmmpgncmaa", sum := "696233af3f16de785a336554145cca1f403792de56014859dfa5e1947974656f", func := "loop.example/engrosser/laws.FnHallOnly", spec := "fnHallOnly", recurses := true, apart := false }
def FnHallOnlySaid : Prop := fnHallOnlyRow.holds Try.pinned (OpenSpec.ofChange fnHallOnlySpec)

/-- ITS FALSE NEIGHBOUR: 'it returns false'. Refute it at one input. -/
def fnHallOnlyWrong : ChangeSpec := { name := "fnHallOnly", fn := fun _ => fun
  | [d] => { results := [.lit (.bool false)], args := [d] }
  | _ => none }
def FnHallOnlyWrongFalsely : Prop := fnHallOnlyRow.holds Try.pinned (OpenSpec.ofChange fnHallOnlyWrong)

/-- 'laws.FnPastNone': WHATEVER THE INPUT: true; the input reads as it did. -/
def fnPastNoneSpec : ChangeSpec := { name := "fnPastNone", fn := fun _ => fun
  | [d] => { results := [.lit (.bool true)], args := [d] }
  | _ => none }
def fnPastNoneRow : OpenClaim := { program := "ytpjkcmmmpgncmaa", sum := "696233af3f16de785a336554145cca1f403792de56014859dfa5e1947974656f", func := "loop.example/engrosser/laws.FnPastNone", spec := "fnPastNone", inPlace := ["slices.overlaps[loop.example/engrosser/impl.Ver]"], unfollowed := true, recurses := true, apart := false }
def FnPastNoneSaid : Prop := fnPastNoneRow.holds Try.pinned (OpenSpec.ofChange fnPastNoneSpec)

/-- ITS FALSE NEIGHBOUR: 'it returns false'. Refute it at one input. -/
def fnPastNoneWrong : ChangeSpec := { name := "fnPastNone", fn := fun _ => fun
  | [d] => { results := [.lit (.bool false)], args := [d] }
  | _ => none }
def FnPastNoneWrongFalsely : Prop := fnPastNoneRow.holds Try.pinned (OpenSpec.ofChange fnPastNoneWrong)

/-- 'laws.FnPastOnce': WHATEVER THE INPUT: true; the input reads as it did. -/
def fnPastOnceSpec : ChangeSpec := { name := "fnPastOnce", fn := fun _ => fun
  | [d] => { results := [.lit (.bool true)], args := [d] }
  | _ => none }
def fnPastOnceRow : OpenClaim := { program := "ytpjkcmmmpgncmaa", sum := "696233af3f16de785a336554145cca1f403792de56014859dfa5e1947974656f", func := "loop.example/engrosser/laws.FnPastOnce", spec := "fnPastOnce", inPlace := ["slices.overlaps[loop.example/engrosser/impl.Ver]", "internal/bytealg.abigen_runtime_cmpstring"], unfollowed := true, recurses := true, apart := false }
def FnPastOnceSaid : Prop := fnPastOnceRow.holds Try.pinned (OpenSpec.ofChange fnPastOnceSpec)

/-- ITS FALSE NEIGHBOUR: 'it returns false'. Refute it at one input. -/
def fnPastOnceWrong : ChangeSpec := { name := "fnPastOnce", fn := fun _ => fun
  | [d] => { results := [.lit (.bool false)], args := [d] }
  | _ => none }
def FnPastOnceWrongFalsely : Prop := fnPastOnceRow.holds Try.pinned (OpenSpec.ofChange fnPastOnceWrong)

/-- 'laws.FnPastFold': WHATEVER THE INPUT: true; the input reads as it did. -/
def fnPastFoldSpec : ChangeSpec := { name := "fnPastFold", fn := fun _ => fun
  | [d] => { results := [.lit (.bool true)], args := [d] }
  | _ => none }
def fnPastFoldRow : OpenClaim := { program := "ytpjkcmmmpgncmaa", sum := "696233af3f16de785a336554145cca1f403792de56014859dfa5e1947974656f", func := "loop.example/engrosser/laws.FnPastFold", spec := "fnPastFold", inPlace := ["internal/bytealg.abigen_runtime_cmpstring", "slices.overlaps[loop.example/engrosser/impl.Ver]"], unfollowed := true, recurses := true, apart := false }
def FnPastFoldSaid : Prop := fnPastFoldRow.holds Try.pinned (OpenSpec.ofChange fnPastFoldSpec)

/-- ITS FALSE NEIGHBOUR: 'it returns false'. Refute it at one input. -/
def fnPastFoldWrong : ChangeSpec := { name := "fnPastFold", fn := fun _ => fun
  | [d] => { results := [.lit (.bool false)], args := [d] }
  | _ => none }
def FnPastFoldWrongFalsely : Prop := fnPastFoldRow.holds Try.pinned (OpenSpec.ofChange fnPastFoldWrong)

/- THE SECOND FORM. 'bulk': how many values and letters a reading holds, each counted each time it is reached (what is shared counts as often as it is met; a slice's spare places count too). A statement '..UptoSaid' is the law's where the arguments, and the package variables that the reading takes, are together of bulk at most 1048576: NARROWER than '..Said'. Prove '..Said' where nothing that the law and all that it calls make is longer than what came in: it says more and counts as full. Else prove '..UptoSaid'. A law counts once. -/
mutual
def uptoBulk {H : Type} : DataW H → Nat
  | .lit (.string bytes) => bytes.length + 1
  | .lit _ => 1
  | .nil => 1
  | .ptr d => uptoBulk d + 1
  | .slice elems spare => uptoBulkAll elems + uptoBulkAll spare + 1
  | .agg parts => uptoBulkAll parts + 1
  | .iface _ d => uptoBulk d + 1
  | .map entries => uptoBulkEntries entries + 1
  | .held _ => 1
def uptoBulkAll {H : Type} : List (DataW H) → Nat
  | [] => 0
  | d :: r => uptoBulk d + uptoBulkAll r
def uptoBulkEntries {H : Type} : List (Lit × DataW H) → Nat
  | [] => 0
  | x :: r => uptoBulkEntry x + uptoBulkEntries r
def uptoBulkEntry {H : Type} : Lit × DataW H → Nat
  | (.string bytes, d) => bytes.length + uptoBulk d + 1
  | (_, d) => uptoBulk d + 1
 end
def uptoSmall : (H : Type) → List (DataW H) → Bool := fun _ ds => decide (uptoBulkAll ds ≤ 1048576)
def OpenSpec.upto (s : _root_.Go.ChangeSpec) : _root_.Go.OpenSpec := { _root_.Go.OpenSpec.ofChange s with cond := some uptoSmall }

/-- 'laws.FnExactHallSame', WHERE WHAT IT READS IS OF BULK AT MOST 1048576: true; the input reads as it did. -/
def fnExactHallSameUptoRow : OpenClaim := { program := "ytpjkcmmmpgncmaa", sum := "696233af3f16de785a336554145cca1f403792de56014859dfa5e1947974656f", func := "loop.example/engrosser/laws.FnExactHallSame", spec := "fnExactHallSame", unfollowed := true, recurses := true, apart := false, narrowed := true }
def FnExactHallSameUptoSaid : Prop := fnExactHallSameUptoRow.holds Try.pinned (OpenSpec.upto fnExactHallSameSpec)

/-- 'laws.FnPastKeys', WHERE WHAT IT READS IS OF BULK AT MOST 1048576: true; the input reads as it did. -/
def fnPastKeysUptoRow : OpenClaim := { program := "ytpjkcmmmpgncmaa", sum := "696233af3f16de785a336554145cca1f403792de56014859dfa5e1947974656f", func := "loop.example/engrosser/laws.FnPastKeys", spec := "fnPastKeys", unfollowed := true, recurses := true, apart := false, narrowed := true }
def FnPastKeysUptoSaid : Prop := fnPastKeysUptoRow.holds Try.pinned (OpenSpec.upto fnPastKeysSpec)

/-- 'laws.FnGramMany', WHERE WHAT IT READS IS OF BULK AT MOST 1048576: true; the input reads as it did. -/
def fnGramManyUptoRow : OpenClaim := { program := "ytpjkcmmmpgncmaa", sum := "696233af3f16de785a336554145cca1f403792de56014859dfa5e1947974656f", func := "loop.example/engrosser/laws.FnGramMany", spec := "fnGramMany", recurses := true, apart := false, narrowed := true }
def FnGramManyUptoSaid : Prop := fnGramManyUptoRow.holds Try.pinned (OpenSpec.upto fnGramManySpec)

/-- 'laws.FnHallOnly', WHERE WHAT IT READS IS OF BULK AT MOST 1048576: true; the input reads as it did. -/
def fnHallOnlyUptoRow : OpenClaim := { program := "ytpjkcmmmpgncmaa", sum := "696233af3f16de785a336554145cca1f403792de56014859dfa5e1947974656f", func := "loop.example/engrosser/laws.FnHallOnly", spec := "fnHallOnly", recurses := true, apart := false, narrowed := true }
def FnHallOnlyUptoSaid : Prop := fnHallOnlyUptoRow.holds Try.pinned (OpenSpec.upto fnHallOnlySpec)

/-- 'laws.FnPastNone', WHERE WHAT IT READS IS OF BULK AT MOST 1048576: true; the input reads as it did. -/
def fnPastNoneUptoRow : OpenClaim := { program := "ytpjkcmmmpgncmaa", sum := "696233af3f16de785a336554145cca1f403792de56014859dfa5e1947974656f", func := "loop.example/engrosser/laws.FnPastNone", spec := "fnPastNone", inPlace := ["slices.overlaps[loop.example/engrosser/impl.Ver]"], unfollowed := true, recurses := true, apart := false, narrowed := true }
def FnPastNoneUptoSaid : Prop := fnPastNoneUptoRow.holds Try.pinned (OpenSpec.upto fnPastNoneSpec)

/-- 'laws.FnPastOnce', WHERE WHAT IT READS IS OF BULK AT MOST 1048576: true; the input reads as it did. -/
def fnPastOnceUptoRow : OpenClaim := { program := "ytpjkcmmmpgncmaa", sum := "696233af3f16de785a336554145cca1f403792de56014859dfa5e1947974656f", func := "loop.example/engrosser/laws.FnPastOnce", spec := "fnPastOnce", inPlace := ["slices.overlaps[loop.example/engrosser/impl.Ver]", "internal/bytealg.abigen_runtime_cmpstring"], unfollowed := true, recurses := true, apart := false, narrowed := true }
def FnPastOnceUptoSaid : Prop := fnPastOnceUptoRow.holds Try.pinned (OpenSpec.upto fnPastOnceSpec)

/-- 'laws.FnPastFold', WHERE WHAT IT READS IS OF BULK AT MOST 1048576: true; the input reads as it did. -/
def fnPastFoldUptoRow : OpenClaim := { program := "ytpjkcmmmpgncmaa", sum := "696233af3f16de785a336554145cca1f403792de56014859dfa5e1947974656f", func := "loop.example/engrosser/laws.FnPastFold", spec := "fnPastFold", inPlace := ["internal/bytealg.abigen_runtime_cmpstring", "slices.overlaps[loop.example/engrosser/impl.Ver]"], unfollowed := true, recurses := true, apart := false, narrowed := true }
def FnPastFoldUptoSaid : Prop := fnPastFoldUptoRow.holds Try.pinned (OpenSpec.upto fnPastFoldSpec)

end Rows
end Go.Proofs.Ytpjkcmmmpgncmaa
