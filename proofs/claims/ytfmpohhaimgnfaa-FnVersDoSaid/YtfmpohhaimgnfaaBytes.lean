/- An argument that is a slice of bytes reads as a list. -/
import Derived.Test.YtfmpohhaimgnfaaDraw
import Derived.OpenShut
import Derived.ShutString
import Derived.ChangeOld
namespace Go.Proofs.Ytfmpohhaimgnfaa
open Go.ChangeShapes Go.WideShapes Go.ChangeAt Go.RowKit
theorem cellsU8 : Try.prog.cellsOf 5 = 1 := by kernel_rfl
set_option maxRecDepth 100000 in
theorem open_bytes {H : Type} {enc : TypeId × Value → H} {w : World} {base base2 : Nat} {spare : Nat → Bool} {held : Bool} {v : Value} {d : DataW H} {p : List MemPlace}
    (hval : Value.okWide Try.prog w .any base 22 v) (h : DataW.Trod enc Try.prog w base2 spare held 22 v d p) :
    ∃ (A : Option Addr) (bs : List UInt8) (c : Nat), v = .slice A bs.length c ∧ (bs.length ≤ c ∧ c ≤ maxLen) ∧ Sl encU 1 w A bs := by
  obtain ⟨fuel, hf⟩ := h
  obtain ⟨a0, len, cap, rfl⟩ := okWide_slice Try.underlying22 hval
  rcases open_ints Try.underlying22 Try.underlying5 cellsU8 hf with ⟨hcs, hx⟩ | ⟨a, len', cap', zs, hcs, _, hl, hm, hz, hx, hcell, hwz⟩
  · simp [Value.cells] at hcs
    obtain ⟨rfl, rfl, rfl⟩ := hcs
    exact ⟨none, [], 0, rfl, ⟨Nat.le_refl _, Nat.zero_le _⟩, Sl.nil _ _ _ _⟩
  · simp [Value.cells] at hcs
    obtain ⟨rfl, rfl, rfl⟩ := hcs
    have hlz : len ≤ zs.length := by rw [hz]; split <;> omega
    obtain ⟨l, hll, _, hS⟩ := Sl.of_cells (enc := encU) (k := 1) (n := len) (w := w) (a := a) (Good := fun _ : UInt8 => True) (by omega) (fun _ => rfl) (fun i hil => by
      have hc := hcell i (by omega)
      have hb := range_u8 hwz i
      rw [List.getD_eq_getElem?_getD] at hc
      refine ⟨UInt8.ofNat (zs[i]?.getD 0).toNat, trivial, fun j hj => ?_⟩
      obtain rfl : j = 0 := by omega
      simp only [Nat.mul_one, Nat.add_zero]
      rw [hc]
      simp [encU]; omega)
    subst hll
    exact ⟨some a, l, cap, rfl, ⟨hl, hm⟩, hS⟩
end Go.Proofs.Ytfmpohhaimgnfaa
