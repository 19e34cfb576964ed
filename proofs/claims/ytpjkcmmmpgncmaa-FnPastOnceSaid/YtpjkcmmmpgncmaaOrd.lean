/- Plain words: the order of texts by their bytes. -/
import Derived.Test.YtpjkcmmmpgncmaaLib
namespace Go.Proofs.Ytpjkcmmmpgncmaa
open Go.RowKit
theorem bl_irrefl : ∀ l : List UInt8, Op.bytesLess l l = false
  | [] => rfl
  | a :: l => by
    unfold Op.bytesLess
    rw [bl_irrefl l]; simp
theorem bl_nil (l : List UInt8) : Op.bytesLess l [] = false := by cases l <;> rfl
theorem bl_cons (a b : UInt8) (l r : List UInt8) : Op.bytesLess (a :: l) (b :: r) = true ↔ a.toNat < b.toNat ∨ (a = b ∧ Op.bytesLess l r = true) := by
  rw [Op.bytesLess]
  simp [UInt8.lt_iff_toNat_lt]
theorem bl_trans : ∀ {a b c : List UInt8}, Op.bytesLess a b = true → Op.bytesLess b c = true → Op.bytesLess a c = true
  | _, _, [], _, h => by rw [bl_nil] at h; cases h
  | _, [], _ :: _, h, _ => by rw [bl_nil] at h; cases h
  | [], _ :: _, _ :: _, _, _ => rfl
  | a :: l, b :: r, c :: s, h, h2 => by
    rw [bl_cons] at h h2 ⊢
    rcases h with h | ⟨rfl, h⟩
    · rcases h2 with h2 | ⟨rfl, h2⟩
      · left; omega
      · left; exact h
    · rcases h2 with h2 | ⟨rfl, h2⟩
      · left; exact h2
      · right; exact ⟨rfl, bl_trans h h2⟩
theorem bl_tri : ∀ (a b : List UInt8), Op.bytesLess a b = false → Op.bytesLess b a = false → a = b
  | [], [], _, _ => rfl
  | [], _ :: _, h, _ => by rw [Op.bytesLess] at h; cases h
  | _ :: _, [], _, h => by rw [Op.bytesLess] at h; cases h
  | a :: l, b :: r, h, h2 => by
    have h1 := fun e => (Bool.eq_false_iff.1 h) ((bl_cons a b l r).2 e)
    have h3 := fun e => (Bool.eq_false_iff.1 h2) ((bl_cons b a r l).2 e)
    have hab : a = b := by
      apply UInt8.toNat_inj.1
      have e1 : ¬ a.toNat < b.toNat := fun e => h1 (.inl e)
      have e2 : ¬ b.toNat < a.toNat := fun e => h3 (.inl e)
      omega
    subst hab
    rw [bl_tri l r (Bool.eq_false_iff.2 (fun e => h1 (.inr ⟨rfl, e⟩))) (Bool.eq_false_iff.2 (fun e => h3 (.inr ⟨rfl, e⟩)))]
theorem bl_asym {a b : List UInt8} (h : Op.bytesLess a b = true) : Op.bytesLess b a = false := by
  rw [Bool.eq_false_iff]; intro h2
  have := bl_trans h h2
  rw [bl_irrefl] at this; cases this
/-- the order of texts -/
def kLt (a b : ByteArray) : Prop := Op.bytesLess a.toList b.toList = true
theorem kLt_irrefl (a : ByteArray) : ¬ kLt a a := by unfold kLt; rw [bl_irrefl]; simp
theorem kLt_trans {a b c : ByteArray} (h : kLt a b) (h2 : kLt b c) : kLt a c := bl_trans h h2
theorem kLt_tri {a b : ByteArray} (h : ¬ kLt a b) (h2 : ¬ kLt b a) : a = b := (bytes_eq_iff _ _).1 (bl_tri _ _ (by simpa [kLt] using h) (by simpa [kLt] using h2))
theorem kLt_asym {a b : ByteArray} (h : kLt a b) : ¬ kLt b a := by unfold kLt; rw [bl_asym h]; simp
theorem kLe_lt {a b c : ByteArray} (h : ¬ kLt b a) (h2 : kLt b c) : kLt a c := by
  by_cases e : kLt a b
  · exact kLt_trans e h2
  · rw [kLt_tri e h]; exact h2
theorem kLt_le {a b c : ByteArray} (h : kLt a b) (h2 : ¬ kLt c b) : kLt a c := by
  by_cases e : kLt b c
  · exact kLt_trans h e
  · rw [kLt_tri h2 e]; exact h
instance (a b : ByteArray) : Decidable (kLt a b) := by unfold kLt; exact inferInstance
end Go.Proofs.Ytpjkcmmmpgncmaa
