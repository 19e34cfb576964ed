/-
  No cell of these rows narrows 'for every input' (looked for: loops, veiled, ifaces, maps, wideKeys, modest, calm, conditions, laid).
  DERIVED. THE GIVEN ROWS OF THIS SEAT. 12 by the template 'for every input the law returns true; each argument reads behind the call as it read before'; 0 by the template 'total and deterministic' (their statements: YtfmpohhaimgnfaaTotals.lean).
  GIVEN WITH THE SEED: the statements are not yours to turn. If you find one false, say at which input.
  Laid BY PROGRAM, IN A SANDBOX (cutbox-rows.mjs): the forced cells as the released guide's own fill.sh prints them over the translation 9020344287dc635e… (all of the seat's roots in one cut). By AI agents, Wed Nov 11 2026. No macro, syntax, notation, axiom, sorry.
-/
import Derived.Test.YtfmpohhaimgnfaaChecked
import GoSem.Claim
import GoSem.ClaimJoined
import GoSem.ClaimMapViews
import Derived.JoinedTies
import Derived.KernelRfl
namespace Go.Proofs.Ytfmpohhaimgnfaa
/- THE CELL 'sum', in the pinned program and in every row, IS THE sha256 OF THE DUMP (.gsa) THAT YtfmpohhaimgnfaaProg.lean LOADS. Nothing in Lean hashes anything: it is a label: what it is worth is what the hold of that sum in a sandbox is worth. -/
noncomputable def Try.pinned : Pinned := { name := "ytfmpohhaimgnfaa", sum := "9020344287dc635e7cc3eba2212aa7738923bccb3769101e69cfc05ea281abec", checked := Try.checked }
namespace Rows
def none {H : Type} : Left H := { results := [], args := [] }

/-- 'laws.FnVersTwo': WHATEVER THE INPUT: true; the input reads as it did. -/
def fnVersTwoSpec : ChangeSpec := { name := "fnVersTwo", fn := fun _ => fun
  | [d1, d2] => { results := [.lit (.bool true)], args := [d1, d2] }
  | _ => none }
def fnVersTwoRow : OpenClaim := { program := "ytfmpohhaimgnfaa", sum := "9020344287dc635e7cc3eba2212aa7738923bccb3769101e69cfc05ea281abec", func := "loop.example/engrosser/laws.FnVersTwo", spec := "fnVersTwo", inPlace := ["slices.overlaps[loop.example/engrosser/impl.Ver]"], unfollowed := true, recurses := true, apart := false }
def FnVersTwoSaid : Prop := fnVersTwoRow.holds Try.pinned (OpenSpec.ofChange fnVersTwoSpec)

/-- ITS FALSE NEIGHBOUR: 'it returns false'. Refute it at one input. -/
def fnVersTwoWrong : ChangeSpec := { name := "fnVersTwo", fn := fun _ => fun
  | [d1, d2] => { results := [.lit (.bool false)], args := [d1, d2] }
  | _ => none }
def FnVersTwoWrongFalsely : Prop := fnVersTwoRow.holds Try.pinned (OpenSpec.ofChange fnVersTwoWrong)

/-- 'laws.FnVersNone': WHATEVER THE INPUT: true; the input reads as it did. -/
def fnVersNoneSpec : ChangeSpec := { name := "fnVersNone", fn := fun _ => fun
  | [d] => { results := [.lit (.bool true)], args := [d] }
  | _ => none }
def fnVersNoneRow : OpenClaim := { program := "ytfmpohhaimgnfaa", sum := "9020344287dc635e7cc3eba2212aa7738923bccb3769101e69cfc05ea281abec", func := "loop.example/engrosser/laws.FnVersNone", spec := "fnVersNone", inPlace := ["slices.overlaps[loop.example/engrosser/impl.Ver]"], unfollowed := true, recurses := true, apart := false }
def FnVersNoneSaid : Prop := fnVersNoneRow.holds Try.pinned (OpenSpec.ofChange fnVersNoneSpec)

/-- ITS FALSE NEIGHBOUR: 'it returns false'. Refute it at one input. -/
def fnVersNoneWrong : ChangeSpec := { name := "fnVersNone", fn := fun _ => fun
  | [d] => { results := [.lit (.bool false)], args := [d] }
  | _ => none }
def FnVersNoneWrongFalsely : Prop := fnVersNoneRow.holds Try.pinned (OpenSpec.ofChange fnVersNoneWrong)

/-- 'laws.FnPastCut': WHATEVER THE INPUT: true; the input reads as it did. -/
def fnPastCutSpec : ChangeSpec := { name := "fnPastCut", fn := fun _ => fun
  | [d1, d2] => { results := [.lit (.bool true)], args := [d1, d2] }
  | _ => none }
def fnPastCutRow : OpenClaim := { program := "ytfmpohhaimgnfaa", sum := "9020344287dc635e7cc3eba2212aa7738923bccb3769101e69cfc05ea281abec", func := "loop.example/engrosser/laws.FnPastCut", spec := "fnPastCut", inPlace := ["slices.overlaps[loop.example/engrosser/impl.Ver]"], unfollowed := true, recurses := true, apart := false }
def FnPastCutSaid : Prop := fnPastCutRow.holds Try.pinned (OpenSpec.ofChange fnPastCutSpec)

/-- ITS FALSE NEIGHBOUR: 'it returns false'. Refute it at one input. -/
def fnPastCutWrong : ChangeSpec := { name := "fnPastCut", fn := fun _ => fun
  | [d1, d2] => { results := [.lit (.bool false)], args := [d1, d2] }
  | _ => none }
def FnPastCutWrongFalsely : Prop := fnPastCutRow.holds Try.pinned (OpenSpec.ofChange fnPastCutWrong)

/-- 'laws.FnVersBent': WHATEVER THE INPUT: true; the input reads as it did. -/
def fnVersBentSpec : ChangeSpec := { name := "fnVersBent", fn := fun _ => fun
  | [d] => { results := [.lit (.bool true)], args := [d] }
  | _ => none }
def fnVersBentRow : OpenClaim := { program := "ytfmpohhaimgnfaa", sum := "9020344287dc635e7cc3eba2212aa7738923bccb3769101e69cfc05ea281abec", func := "loop.example/engrosser/laws.FnVersBent", spec := "fnVersBent", inPlace := ["slices.overlaps[loop.example/engrosser/impl.Ver]"], unfollowed := true, recurses := true, apart := false }
def FnVersBentSaid : Prop := fnVersBentRow.holds Try.pinned (OpenSpec.ofChange fnVersBentSpec)

/-- ITS FALSE NEIGHBOUR: 'it returns false'. Refute it at one input. -/
def fnVersBentWrong : ChangeSpec := { name := "fnVersBent", fn := fun _ => fun
  | [d] => { results := [.lit (.bool false)], args := [d] }
  | _ => none }
def FnVersBentWrongFalsely : Prop := fnVersBentRow.holds Try.pinned (OpenSpec.ofChange fnVersBentWrong)

/-- 'laws.FnExactPastSince': WHATEVER THE INPUT: true; the input reads as it did. -/
def fnExactPastSinceSpec : ChangeSpec := { name := "fnExactPastSince", fn := fun _ => fun
  | [d1, d2, d3] => { results := [.lit (.bool true)], args := [d1, d2, d3] }
  | _ => none }
def fnExactPastSinceRow : OpenClaim := { program := "ytfmpohhaimgnfaa", sum := "9020344287dc635e7cc3eba2212aa7738923bccb3769101e69cfc05ea281abec", func := "loop.example/engrosser/laws.FnExactPastSince", spec := "fnExactPastSince", unfollowed := true, recurses := true, apart := false }
def FnExactPastSinceSaid : Prop := fnExactPastSinceRow.holds Try.pinned (OpenSpec.ofChange fnExactPastSinceSpec)

/-- ITS FALSE NEIGHBOUR: 'it returns false'. Refute it at one input. -/
def fnExactPastSinceWrong : ChangeSpec := { name := "fnExactPastSince", fn := fun _ => fun
  | [d1, d2, d3] => { results := [.lit (.bool false)], args := [d1, d2, d3] }
  | _ => none }
def FnExactPastSinceWrongFalsely : Prop := fnExactPastSinceRow.holds Try.pinned (OpenSpec.ofChange fnExactPastSinceWrong)

/-- 'laws.FnVersWrite': WHATEVER THE INPUT: true; the input reads as it did. -/
def fnVersWriteSpec : ChangeSpec := { name := "fnVersWrite", fn := fun _ => fun
  | [d] => { results := [.lit (.bool true)], args := [d] }
  | _ => none }
def fnVersWriteRow : OpenClaim := { program := "ytfmpohhaimgnfaa", sum := "9020344287dc635e7cc3eba2212aa7738923bccb3769101e69cfc05ea281abec", func := "loop.example/engrosser/laws.FnVersWrite", spec := "fnVersWrite", inPlace := ["slices.overlaps[loop.example/engrosser/impl.Ver]", "internal/bytealg.abigen_runtime_cmpstring"], unfollowed := true, recurses := true, apart := false }
def FnVersWriteSaid : Prop := fnVersWriteRow.holds Try.pinned (OpenSpec.ofChange fnVersWriteSpec)

/-- ITS FALSE NEIGHBOUR: 'it returns false'. Refute it at one input. -/
def fnVersWriteWrong : ChangeSpec := { name := "fnVersWrite", fn := fun _ => fun
  | [d] => { results := [.lit (.bool false)], args := [d] }
  | _ => none }
def FnVersWriteWrongFalsely : Prop := fnVersWriteRow.holds Try.pinned (OpenSpec.ofChange fnVersWriteWrong)

/-- 'laws.FnExactPastFold': WHATEVER THE INPUT: true; the input reads as it did. -/
def fnExactPastFoldSpec : ChangeSpec := { name := "fnExactPastFold", fn := fun _ => fun
  | [d] => { results := [.lit (.bool true)], args := [d] }
  | _ => none }
def fnExactPastFoldRow : OpenClaim := { program := "ytfmpohhaimgnfaa", sum := "9020344287dc635e7cc3eba2212aa7738923bccb3769101e69cfc05ea281abec", func := "loop.example/engrosser/laws.FnExactPastFold", spec := "fnExactPastFold", inPlace := ["slices.overlaps[loop.example/engrosser/impl.Ver]"], unfollowed := true, recurses := true, apart := false }
def FnExactPastFoldSaid : Prop := fnExactPastFoldRow.holds Try.pinned (OpenSpec.ofChange fnExactPastFoldSpec)

/-- ITS FALSE NEIGHBOUR: 'it returns false'. Refute it at one input. -/
def fnExactPastFoldWrong : ChangeSpec := { name := "fnExactPastFold", fn := fun _ => fun
  | [d] => { results := [.lit (.bool false)], args := [d] }
  | _ => none }
def FnExactPastFoldWrongFalsely : Prop := fnExactPastFoldRow.holds Try.pinned (OpenSpec.ofChange fnExactPastFoldWrong)

/-- 'laws.FnExactVersDo': WHATEVER THE INPUT: true; the input reads as it did. -/
def fnExactVersDoSpec : ChangeSpec := { name := "fnExactVersDo", fn := fun _ => fun
  | [d1, d2] => { results := [.lit (.bool true)], args := [d1, d2] }
  | _ => none }
def fnExactVersDoRow : OpenClaim := { program := "ytfmpohhaimgnfaa", sum := "9020344287dc635e7cc3eba2212aa7738923bccb3769101e69cfc05ea281abec", func := "loop.example/engrosser/laws.FnExactVersDo", spec := "fnExactVersDo", inPlace := ["slices.overlaps[loop.example/engrosser/impl.Ver]"], unfollowed := true, recurses := true, apart := false }
def FnExactVersDoSaid : Prop := fnExactVersDoRow.holds Try.pinned (OpenSpec.ofChange fnExactVersDoSpec)

/-- ITS FALSE NEIGHBOUR: 'it returns false'. Refute it at one input. -/
def fnExactVersDoWrong : ChangeSpec := { name := "fnExactVersDo", fn := fun _ => fun
  | [d1, d2] => { results := [.lit (.bool false)], args := [d1, d2] }
  | _ => none }
def FnExactVersDoWrongFalsely : Prop := fnExactVersDoRow.holds Try.pinned (OpenSpec.ofChange fnExactVersDoWrong)

/-- 'laws.FnPastLast': WHATEVER THE INPUT: true; the input reads as it did. -/
def fnPastLastSpec : ChangeSpec := { name := "fnPastLast", fn := fun _ => fun
  | [d] => { results := [.lit (.bool true)], args := [d] }
  | _ => none }
def fnPastLastRow : OpenClaim := { program := "ytfmpohhaimgnfaa", sum := "9020344287dc635e7cc3eba2212aa7738923bccb3769101e69cfc05ea281abec", func := "loop.example/engrosser/laws.FnPastLast", spec := "fnPastLast", inPlace := ["slices.overlaps[loop.example/engrosser/impl.Ver]", "internal/bytealg.abigen_runtime_cmpstring"], unfollowed := true, recurses := true, apart := false }
def FnPastLastSaid : Prop := fnPastLastRow.holds Try.pinned (OpenSpec.ofChange fnPastLastSpec)

/-- ITS FALSE NEIGHBOUR: 'it returns false'. Refute it at one input. -/
def fnPastLastWrong : ChangeSpec := { name := "fnPastLast", fn := fun _ => fun
  | [d] => { results := [.lit (.bool false)], args := [d] }
  | _ => none }
def FnPastLastWrongFalsely : Prop := fnPastLastRow.holds Try.pinned (OpenSpec.ofChange fnPastLastWrong)

/-- 'laws.FnVersDo': WHATEVER THE INPUT: true; the input reads as it did. -/
def fnVersDoSpec : ChangeSpec := { name := "fnVersDo", fn := fun _ => fun
  | [d] => { results := [.lit (.bool true)], args := [d] }
  | _ => none }
def fnVersDoRow : OpenClaim := { program := "ytfmpohhaimgnfaa", sum := "9020344287dc635e7cc3eba2212aa7738923bccb3769101e69cfc05ea281abec", func := "loop.example/engrosser/laws.FnVersDo", spec := "fnVersDo", inPlace := ["slices.overlaps[loop.example/engrosser/impl.Ver]", "internal/bytealg.abigen_runtime_cmpstring"], unfollowed := true, recurses := true, apart := false }
def FnVersDoSaid : Prop := fnVersDoRow.holds Try.pinned (OpenSpec.ofChange fnVersDoSpec)

/-- ITS FALSE NEIGHBOUR: 'it returns false'. Refute it at one input. -/
def fnVersDoWrong : ChangeSpec := { name := "fnVersDo", fn := fun _ => fun
  | [d] => { results := [.lit (.bool false)], args := [d] }
  | _ => none }
def FnVersDoWrongFalsely : Prop := fnVersDoRow.holds Try.pinned (OpenSpec.ofChange fnVersDoWrong)

/-- 'laws.FnExactPastAt': WHATEVER THE INPUT: true; the input reads as it did. -/
def fnExactPastAtSpec : ChangeSpec := { name := "fnExactPastAt", fn := fun _ => fun
  | [d1, d2] => { results := [.lit (.bool true)], args := [d1, d2] }
  | _ => none }
def fnExactPastAtRow : OpenClaim := { program := "ytfmpohhaimgnfaa", sum := "9020344287dc635e7cc3eba2212aa7738923bccb3769101e69cfc05ea281abec", func := "loop.example/engrosser/laws.FnExactPastAt", spec := "fnExactPastAt", unfollowed := true, recurses := true, apart := false }
def FnExactPastAtSaid : Prop := fnExactPastAtRow.holds Try.pinned (OpenSpec.ofChange fnExactPastAtSpec)

/-- ITS FALSE NEIGHBOUR: 'it returns false'. Refute it at one input. -/
def fnExactPastAtWrong : ChangeSpec := { name := "fnExactPastAt", fn := fun _ => fun
  | [d1, d2] => { results := [.lit (.bool false)], args := [d1, d2] }
  | _ => none }
def FnExactPastAtWrongFalsely : Prop := fnExactPastAtRow.holds Try.pinned (OpenSpec.ofChange fnExactPastAtWrong)

/-- 'laws.FnExactPastAll': WHATEVER THE INPUT: true; the input reads as it did. -/
def fnExactPastAllSpec : ChangeSpec := { name := "fnExactPastAll", fn := fun _ => fun
  | [d] => { results := [.lit (.bool true)], args := [d] }
  | _ => none }
def fnExactPastAllRow : OpenClaim := { program := "ytfmpohhaimgnfaa", sum := "9020344287dc635e7cc3eba2212aa7738923bccb3769101e69cfc05ea281abec", func := "loop.example/engrosser/laws.FnExactPastAll", spec := "fnExactPastAll", unfollowed := true, recurses := true, apart := false }
def FnExactPastAllSaid : Prop := fnExactPastAllRow.holds Try.pinned (OpenSpec.ofChange fnExactPastAllSpec)

/-- ITS FALSE NEIGHBOUR: 'it returns false'. Refute it at one input. -/
def fnExactPastAllWrong : ChangeSpec := { name := "fnExactPastAll", fn := fun _ => fun
  | [d] => { results := [.lit (.bool false)], args := [d] }
  | _ => none }
def FnExactPastAllWrongFalsely : Prop := fnExactPastAllRow.holds Try.pinned (OpenSpec.ofChange fnExactPastAllWrong)

/- THE SECOND FORM. 'bulk': how many values and letters a reading holds, each counted each time it is reached (what is shared counts as often as it is met; a slice's spare places count too). A statement '..UptoSaid' is the law's where the arguments, and the package variables that the reading takes, are together of bulk at most 1048576: NARROWER than '..Said'. Prove '..Said' where nothing that the law and all that it calls make is longer than what came in: it says more and counts as full. Else prove '..UptoSaid'. A law counts once. -/
mutual
def uptoBulk {H : Type} : DataW H → Nat
  | .lit (.string bytes) => bytes.length + 1
  | .lit _ => 1
  | .nil => 1
  | .ptr d => uptoBulk d + 1
  | .slice elems spare => uptoBulkAll elems + uptoBulkAll spare + 1
  | .agg parts => uptoBulkAll parts + 1
  | .iface _ d => uptoBulk d + 1
  | .map entries => uptoBulkEntries entries + 1
  | .held _ => 1
def uptoBulkAll {H : Type} : List (DataW H) → Nat
  | [] => 0
  | d :: r => uptoBulk d + uptoBulkAll r
def uptoBulkEntries {H : Type} : List (Lit × DataW H) → Nat
  | [] => 0
  | x :: r => uptoBulkEntry x + uptoBulkEntries r
def uptoBulkEntry {H : Type} : Lit × DataW H → Nat
  | (.string bytes, d) => bytes.length + uptoBulk d + 1
  | (_, d) => uptoBulk d + 1
 end
def uptoSmall : (H : Type) → List (DataW H) → Bool := fun _ ds => decide (uptoBulkAll ds ≤ 1048576)
def OpenSpec.upto (s : _root_.Go.ChangeSpec) : _root_.Go.OpenSpec := { _root_.Go.OpenSpec.ofChange s with cond := some uptoSmall }

/-- 'laws.FnVersTwo', WHERE WHAT IT READS IS OF BULK AT MOST 1048576: true; the input reads as it did. -/
def fnVersTwoUptoRow : OpenClaim := { program := "ytfmpohhaimgnfaa", sum := "9020344287dc635e7cc3eba2212aa7738923bccb3769101e69cfc05ea281abec", func := "loop.example/engrosser/laws.FnVersTwo", spec := "fnVersTwo", inPlace := ["slices.overlaps[loop.example/engrosser/impl.Ver]"], unfollowed := true, recurses := true, apart := false, narrowed := true }
def FnVersTwoUptoSaid : Prop := fnVersTwoUptoRow.holds Try.pinned (OpenSpec.upto fnVersTwoSpec)

/-- 'laws.FnVersNone', WHERE WHAT IT READS IS OF BULK AT MOST 1048576: true; the input reads as it did. -/
def fnVersNoneUptoRow : OpenClaim := { program := "ytfmpohhaimgnfaa", sum := "9020344287dc635e7cc3eba2212aa7738923bccb3769101e69cfc05ea281abec", func := "loop.example/engrosser/laws.FnVersNone", spec := "fnVersNone", inPlace := ["slices.overlaps[loop.example/engrosser/impl.Ver]"], unfollowed := true, recurses := true, apart := false, narrowed := true }
def FnVersNoneUptoSaid : Prop := fnVersNoneUptoRow.holds Try.pinned (OpenSpec.upto fnVersNoneSpec)

/-- 'laws.FnPastCut', WHERE WHAT IT READS IS OF BULK AT MOST 1048576: true; the input reads as it did. -/
def fnPastCutUptoRow : OpenClaim := { program := "ytfmpohhaimgnfaa", sum := "9020344287dc635e7cc3eba2212aa7738923bccb3769101e69cfc05ea281abec", func := "loop.example/engrosser/laws.FnPastCut", spec := "fnPastCut", inPlace := ["slices.overlaps[loop.example/engrosser/impl.Ver]"], unfollowed := true, recurses := true, apart := false, narrowed := true }
def FnPastCutUptoSaid : Prop := fnPastCutUptoRow.holds Try.pinned (OpenSpec.upto fnPastCutSpec)

/-- 'laws.FnVersBent', WHERE WHAT IT READS IS OF BULK AT MOST 1048576: true; the input reads as it did. -/
def fnVersBentUptoRow : OpenClaim := { program := "ytfmpohhaimgnfaa", sum := "9020344287dc635e7cc3eba2212aa7738923bccb3769101e69cfc05ea281abec", func := "loop.example/engrosser/laws.FnVersBent", spec := "fnVersBent", inPlace := ["slices.overlaps[loop.example/engrosser/impl.Ver]"], unfollowed := true, recurses := true, apart := false, narrowed := true }
def FnVersBentUptoSaid : Prop := fnVersBentUptoRow.holds Try.pinned (OpenSpec.upto fnVersBentSpec)

/-- 'laws.FnExactPastSince', WHERE WHAT IT READS IS OF BULK AT MOST 1048576: true; the input reads as it did. -/
def fnExactPastSinceUptoRow : OpenClaim := { program := "ytfmpohhaimgnfaa", sum := "9020344287dc635e7cc3eba2212aa7738923bccb3769101e69cfc05ea281abec", func := "loop.example/engrosser/laws.FnExactPastSince", spec := "fnExactPastSince", unfollowed := true, recurses := true, apart := false, narrowed := true }
def FnExactPastSinceUptoSaid : Prop := fnExactPastSinceUptoRow.holds Try.pinned (OpenSpec.upto fnExactPastSinceSpec)

/-- 'laws.FnVersWrite', WHERE WHAT IT READS IS OF BULK AT MOST 1048576: true; the input reads as it did. -/
def fnVersWriteUptoRow : OpenClaim := { program := "ytfmpohhaimgnfaa", sum := "9020344287dc635e7cc3eba2212aa7738923bccb3769101e69cfc05ea281abec", func := "loop.example/engrosser/laws.FnVersWrite", spec := "fnVersWrite", inPlace := ["slices.overlaps[loop.example/engrosser/impl.Ver]", "internal/bytealg.abigen_runtime_cmpstring"], unfollowed := true, recurses := true, apart := false, narrowed := true }
def FnVersWriteUptoSaid : Prop := fnVersWriteUptoRow.holds Try.pinned (OpenSpec.upto fnVersWriteSpec)

/-- 'laws.FnExactPastFold', WHERE WHAT IT READS IS OF BULK AT MOST 1048576: true; the input reads as it did. -/
def fnExactPastFoldUptoRow : OpenClaim := { program := "ytfmpohhaimgnfaa", sum := "9020344287dc635e7cc3eba2212aa7738923bccb3769101e69cfc05ea281abec", func := "loop.example/engrosser/laws.FnExactPastFold", spec := "fnExactPastFold", inPlace := ["slices.overlaps[loop.example/engrosser/impl.Ver]"], unfollowed := true, recurses := true, apart := false, narrowed := true }
def FnExactPastFoldUptoSaid : Prop := fnExactPastFoldUptoRow.holds Try.pinned (OpenSpec.upto fnExactPastFoldSpec)

/-- 'laws.FnExactVersDo', WHERE WHAT IT READS IS OF BULK AT MOST 1048576: true; the input reads as it did. -/
def fnExactVersDoUptoRow : OpenClaim := { program := "ytfmpohhaimgnfaa", sum := "9020344287dc635e7cc3eba2212aa7738923bccb3769101e69cfc05ea281abec", func := "loop.example/engrosser/laws.FnExactVersDo", spec := "fnExactVersDo", inPlace := ["slices.overlaps[loop.example/engrosser/impl.Ver]"], unfollowed := true, recurses := true, apart := false, narrowed := true }
def FnExactVersDoUptoSaid : Prop := fnExactVersDoUptoRow.holds Try.pinned (OpenSpec.upto fnExactVersDoSpec)

/-- 'laws.FnPastLast', WHERE WHAT IT READS IS OF BULK AT MOST 1048576: true; the input reads as it did. -/
def fnPastLastUptoRow : OpenClaim := { program := "ytfmpohhaimgnfaa", sum := "9020344287dc635e7cc3eba2212aa7738923bccb3769101e69cfc05ea281abec", func := "loop.example/engrosser/laws.FnPastLast", spec := "fnPastLast", inPlace := ["slices.overlaps[loop.example/engrosser/impl.Ver]", "internal/bytealg.abigen_runtime_cmpstring"], unfollowed := true, recurses := true, apart := false, narrowed := true }
def FnPastLastUptoSaid : Prop := fnPastLastUptoRow.holds Try.pinned (OpenSpec.upto fnPastLastSpec)

/-- 'laws.FnVersDo', WHERE WHAT IT READS IS OF BULK AT MOST 1048576: true; the input reads as it did. -/
def fnVersDoUptoRow : OpenClaim := { program := "ytfmpohhaimgnfaa", sum := "9020344287dc635e7cc3eba2212aa7738923bccb3769101e69cfc05ea281abec", func := "loop.example/engrosser/laws.FnVersDo", spec := "fnVersDo", inPlace := ["slices.overlaps[loop.example/engrosser/impl.Ver]", "internal/bytealg.abigen_runtime_cmpstring"], unfollowed := true, recurses := true, apart := false, narrowed := true }
def FnVersDoUptoSaid : Prop := fnVersDoUptoRow.holds Try.pinned (OpenSpec.upto fnVersDoSpec)

/-- 'laws.FnExactPastAt', WHERE WHAT IT READS IS OF BULK AT MOST 1048576: true; the input reads as it did. -/
def fnExactPastAtUptoRow : OpenClaim := { program := "ytfmpohhaimgnfaa", sum := "9020344287dc635e7cc3eba2212aa7738923bccb3769101e69cfc05ea281abec", func := "loop.example/engrosser/laws.FnExactPastAt", spec := "fnExactPastAt", unfollowed := true, recurses := true, apart := false, narrowed := true }
def FnExactPastAtUptoSaid : Prop := fnExactPastAtUptoRow.holds Try.pinned (OpenSpec.upto fnExactPastAtSpec)

/-- 'laws.FnExactPastAll', WHERE WHAT IT READS IS OF BULK AT MOST 1048576: true; the input reads as it did. -/
def fnExactPastAllUptoRow : OpenClaim := { program := "ytfmpohhaimgnfaa", sum := "9020344287dc635e7cc3eba2212aa7738923bccb3769101e69cfc05ea281abec", func := "loop.example/engrosser/laws.FnExactPastAll", spec := "fnExactPastAll", unfollowed := true, recurses := true, apart := false, narrowed := true }
def FnExactPastAllUptoSaid : Prop := fnExactPastAllUptoRow.holds Try.pinned (OpenSpec.upto fnExactPastAllSpec)

end Rows
end Go.Proofs.Ytfmpohhaimgnfaa
