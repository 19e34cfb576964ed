/- What every card of this seat wants of the one listed variable: its cell holds a pointer to the sentinel; a start that meets the condition. -/
import Derived.Test.YtannpeedfakhkaaDoorRows
import Derived.Test.YtannpeedfakhkaaDoorLib
import Derived.LaidMore
import Derived.OpenShut
import Derived.ShutString
import Derived.ChangeOld
import Derived.OpenVars
import Derived.Stop.Joined
import Derived.Stop.LaidErr
namespace Go.Proofs.YtannpeedfakhkaaDoor
open Go.ChangeShapes Go.WideShapes Go.ChangeAt Go.RowKit
abbrev errName : String := "loop.example/engrosser/impl.errMalformed"
abbrev laidE : List (String × DataW Unit) := [("loop.example/engrosser/impl.errMalformed", Rows.laid_loop_example_engrosser_impl_errMalformed)]
theorem own0 : ownKnob Tryd.prog.godebug = none := by kernel_rfl
theorem laidOut0 : laidOutB Tryd.prog = true := by kernel_rfl
theorem gErr : Tryd.prog.globalNamed "loop.example/engrosser/impl.errMalformed" = some 0 := by kernel_rfl
theorem gErrT : (Tryd.prog.globals[0]?).map (·.type) = some 46 := by kernel_rfl
theorem rowErr : ∀ u, Tryd.prog.typeName? 3 u = some "*errors.errorString" → u = 93 := fun u h => typeName_ptr_named (nm := "errors.errorString") (by kernel_rfl) (by kernel_rfl) (by decide) u h
theorem door_met (os : Os) (args : Array Value) : laidMetH Tryd.prog laidE ((World.doorLaid Tryd.prog 400 os).forCall (fun _ _ => 0) ⟨#[], args, []⟩).memory :=
  laidMetH_of_parts3 (fuel := 8) (laidMet_of_run' 8 (by kernel_rfl) (by kernel_rfl)) (by kernel_rfl) (by kernel_rfl)
theorem err_cell {W : World} (h : laidMetH Tryd.prog laidE W) : ∃ a : Addr, W.cell? ⟨0, 0, none⟩ = some (.iface 93 (.pointer (some a))) ∧ 0 < W.heap.size := by
  rw [MakeChecks.laidMetH_plain _ _ _ (by kernel_rfl)] at h
  obtain ⟨a, s, hv, _, _, _⟩ := laid_sentinel h gErr gErrT Tryd.underlying46 rowErr Tryd.underlying93 Tryd.underlying118 rfl rfl Tryd.underlying9 (by kernel_rfl) (by kernel_rfl)
  have hc := World.var?_cell gErr hv 0
  refine ⟨a, by simpa using hc, ?_⟩
  rcases Nat.eq_zero_or_pos W.heap.size with h0 | h0
  · have : W.heap = #[] := by simpa using h0
    simp [World.cell?, this] at hc
  · exact h0
theorem varsOk : varsRowed Tryd.prog ["loop.example/engrosser/impl.errMalformed"] = true := by kernel_rfl
end Go.Proofs.YtannpeedfakhkaaDoor
