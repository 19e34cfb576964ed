import Derived.Test.YtpjkcmmmpgncmaaRows
import Derived.BigGuardPart
import Derived.Test.YtpjkcmmmpgncmaaM01
/- Small contracts of the letters' chapter: which bytes may stand where. -/
namespace Go.Proofs.Ytpjkcmmmpgncmaa
open Go.RowKit
def digB (c : Int) : Bool := decide (48 ≤ c ∧ c ≤ 57)
def sgnB (c : Int) : Bool := decide ((65 ≤ c ∧ c ≤ 90) ∨ (48 ≤ c ∧ c ≤ 57))
def bodB (c : Int) : Bool := decide (32 ≤ c ∧ c ≤ 126)
def digV (c : Int) : Int := if 48 ≤ c ∧ c ≤ 57 then c - 48 else -1
theorem digB_yes {c : Int} (h : digB c = true) : 48 ≤ c ∧ c ≤ 57 := by unfold digB at h; simpa using h
theorem digB_no {c : Int} (h : digB c = false) : c < 48 ∨ 57 < c := by unfold digB at h; simp at h; omega
theorem digV_yes {c : Int} (h : digB c = true) : digV c = c - 48 := by unfold digV; rw [if_pos (digB_yes h)]
theorem digV_no {c : Int} (h : digB c = false) : digV c = -1 := by unfold digV; rw [if_neg (by have := digB_no h; omega)]
set_option maxHeartbeats 400000 in
theorem specBody_any (c : Int) (w : World) (h0 : 0 ≤ c) (h1 : c ≤ 255) :
    Calls Try.prog 162 #[.int .u8 c] w fun e w' => e = .returned (.bool (bodB c)) ∧ w = w' := by
  by_cases a : 32 ≤ c <;> by_cases b : c ≤ 126
  all_goals
    go_enter Try.func162, Try.ntmps162
    go_wp2
    go_ret
    exact ⟨ret_bool (by unfold bodB; simp <;> omega), rfl⟩
set_option maxHeartbeats 400000 in
theorem specSign_any (c : Int) (w : World) (h0 : 0 ≤ c) (h1 : c ≤ 255) :
    Calls Try.prog 161 #[.int .u8 c] w fun e w' => e = .returned (.bool (sgnB c)) ∧ w = w' := by
  by_cases a : 65 ≤ c <;> by_cases b : c ≤ 90 <;> by_cases a2 : 48 ≤ c <;> by_cases b2 : c ≤ 57
  all_goals first
    | (exfalso; omega)
    | (go_enter Try.func161, Try.ntmps161
       go_wp2
       go_ret
       exact ⟨ret_bool (by unfold sgnB; simp <;> omega), rfl⟩)
set_option maxHeartbeats 400000 in
theorem specDigit_any (c : Int) (w : World) (h0 : 0 ≤ c) (h1 : c ≤ 255) :
    Calls Try.prog 219 #[.int .u8 c] w fun e w' => e = .returned (.int .i64 (digV c)) ∧ w = w' := by
  by_cases a : c < 48 <;> by_cases b : 57 < c
  all_goals first
    | (exfalso; omega)
    | (go_enter Try.func219, Try.ntmps219
       go_wp2
       go_ret
       exact ⟨ret_int (by unfold digV; split <;> omega), rfl⟩)
end Go.Proofs.Ytpjkcmmmpgncmaa
/- Plain words: the order of texts by their bytes. -/
namespace Go.Proofs.Ytpjkcmmmpgncmaa
open Go.RowKit
theorem bl_irrefl : ∀ l : List UInt8, Op.bytesLess l l = false
  | [] => rfl
  | a :: l => by
    unfold Op.bytesLess
    rw [bl_irrefl l]; simp
theorem bl_nil (l : List UInt8) : Op.bytesLess l [] = false := by cases l <;> rfl
theorem bl_cons (a b : UInt8) (l r : List UInt8) : Op.bytesLess (a :: l) (b :: r) = true ↔ a.toNat < b.toNat ∨ (a = b ∧ Op.bytesLess l r = true) := by
  rw [Op.bytesLess]
  simp [UInt8.lt_iff_toNat_lt]
theorem bl_trans : ∀ {a b c : List UInt8}, Op.bytesLess a b = true → Op.bytesLess b c = true → Op.bytesLess a c = true
  | _, _, [], _, h => by rw [bl_nil] at h; cases h
  | _, [], _ :: _, h, _ => by rw [bl_nil] at h; cases h
  | [], _ :: _, _ :: _, _, _ => rfl
  | a :: l, b :: r, c :: s, h, h2 => by
    rw [bl_cons] at h h2 ⊢
    rcases h with h | ⟨rfl, h⟩
    · rcases h2 with h2 | ⟨rfl, h2⟩
      · left; omega
      · left; exact h
    · rcases h2 with h2 | ⟨rfl, h2⟩
      · left; exact h2
      · right; exact ⟨rfl, bl_trans h h2⟩
theorem bl_tri : ∀ (a b : List UInt8), Op.bytesLess a b = false → Op.bytesLess b a = false → a = b
  | [], [], _, _ => rfl
  | [], _ :: _, h, _ => by rw [Op.bytesLess] at h; cases h
  | _ :: _, [], _, h => by rw [Op.bytesLess] at h; cases h
  | a :: l, b :: r, h, h2 => by
    have h1 := fun e => (Bool.eq_false_iff.1 h) ((bl_cons a b l r).2 e)
    have h3 := fun e => (Bool.eq_false_iff.1 h2) ((bl_cons b a r l).2 e)
    have hab : a = b := by
      apply UInt8.toNat_inj.1
      have e1 : ¬ a.toNat < b.toNat := fun e => h1 (.inl e)
      have e2 : ¬ b.toNat < a.toNat := fun e => h3 (.inl e)
      omega
    subst hab
    rw [bl_tri l r (Bool.eq_false_iff.2 (fun e => h1 (.inr ⟨rfl, e⟩))) (Bool.eq_false_iff.2 (fun e => h3 (.inr ⟨rfl, e⟩)))]
theorem bl_asym {a b : List UInt8} (h : Op.bytesLess a b = true) : Op.bytesLess b a = false := by
  rw [Bool.eq_false_iff]; intro h2
  have := bl_trans h h2
  rw [bl_irrefl] at this; cases this
/-- the order of texts -/
def kLt (a b : ByteArray) : Prop := Op.bytesLess a.toList b.toList = true
theorem kLt_irrefl (a : ByteArray) : ¬ kLt a a := by unfold kLt; rw [bl_irrefl]; simp
theorem kLt_trans {a b c : ByteArray} (h : kLt a b) (h2 : kLt b c) : kLt a c := bl_trans h h2
theorem kLt_tri {a b : ByteArray} (h : ¬ kLt a b) (h2 : ¬ kLt b a) : a = b := (bytes_eq_iff _ _).1 (bl_tri _ _ (by simpa [kLt] using h) (by simpa [kLt] using h2))
theorem kLt_asym {a b : ByteArray} (h : kLt a b) : ¬ kLt b a := by unfold kLt; rw [bl_asym h]; simp
instance (a b : ByteArray) : Decidable (kLt a b) := by unfold kLt; exact inferInstance
end Go.Proofs.Ytpjkcmmmpgncmaa
