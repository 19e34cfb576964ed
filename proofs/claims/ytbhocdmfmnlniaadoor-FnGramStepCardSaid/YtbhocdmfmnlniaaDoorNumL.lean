/- Plain words: numerals of at most 17 digits in their one form: that the library's reader and writer agree on a text is that it is such a numeral. -/
import Derived.Test.YtbhocdmfmnlniaaDoorLib
import Derived.Lib.ItoaNum
import Derived.Lib.AtoiTie
import Derived.Lib.ParseIntBTie
import Derived.Lib.AtoiBound
namespace Go.Proofs.YtbhocdmfmnlniaaDoor
open Go.RowKit
def digL (l : List UInt8) : Bool := l.all (fun c => decide (48 ≤ c.toNat ∧ c.toNat ≤ 57))
def magOk (neg : Bool) (l : List UInt8) : Bool := decide (l ≠ []) && decide (l.length ≤ 17) && !((l.head? == some 48) && (decide (1 < l.length) || neg)) && digL l
def negL (l : List UInt8) : Bool := l.head? == some 45
def numL (l : List UInt8) : Bool := if negL l then magOk true l.tail else magOk false l
theorem dig_ofNat {d : Nat} (h : d < 10) : (UInt8.ofNat (48 + d)).toNat = 48 + d := by
  simp [UInt8.toNat_ofNat']; omega
theorem dig_back {c : UInt8} (h : 48 ≤ c.toNat ∧ c.toNat ≤ 57) : UInt8.ofNat (48 + (c.toNat - 48)) = c := by
  apply UInt8.toNat_inj.1
  rw [dig_ofNat (by omega)]; omega
theorem decDigits_dig (u : Nat) : digL (Lib.decDigits u) = true := by
  induction u using Nat.strongRecOn with
  | _ u ih =>
    rw [Lib.decDigits]
    by_cases h : u < 10
    · rw [dif_pos h]; simp only [digL, List.all_cons, List.all_nil, Bool.and_true, decide_eq_true_eq]; rw [dig_ofNat h]; omega
    · rw [dif_neg h]
      have := ih (u / 10) (by omega)
      unfold digL at this ⊢
      rw [List.all_append, this]
      simp only [List.all_cons, List.all_nil, Bool.and_true, Bool.true_and, decide_eq_true_eq]
      rw [dig_ofNat (by omega)]; omega
theorem decDigits_ne (u : Nat) : Lib.decDigits u ≠ [] := by
  rw [Lib.decDigits]
  split <;> simp
theorem decDigits_head (u : Nat) (h : 0 < u) : (Lib.decDigits u).head? ≠ some 48 := by
  induction u using Nat.strongRecOn with
  | _ u ih =>
    rw [Lib.decDigits]
    by_cases h10 : u < 10
    · rw [dif_pos h10]
      intro e
      simp only [List.head?_cons, Option.some.injEq] at e
      have := congrArg UInt8.toNat e
      rw [dig_ofNat h10] at this
      simp at this; omega
    · rw [dif_neg h10]
      have h1 := ih (u / 10) (by omega) (by omega)
      have h2 := decDigits_ne (u / 10)
      generalize Lib.decDigits (u / 10) = l at *
      cases l with
      | nil => exact absurd rfl h2
      | cons a t => simpa using h1
theorem decFrom_app : ∀ (a b : List UInt8) (acc m : Nat), Lib.decFrom acc a = some m → Lib.decFrom acc (a ++ b) = Lib.decFrom m b
  | [], b, acc, m, h => by simp only [Lib.decFrom, Option.some.injEq] at h; subst h; rfl
  | c :: t, b, acc, m, h => by
    simp only [Lib.decFrom, List.cons_append] at h ⊢
    cases hc : Lib.digitVal c with
    | none => rw [hc] at h; cases h
    | some d => rw [hc] at h; exact decFrom_app t b _ m h
theorem digL_cons {c : UInt8} {l : List UInt8} : digL (c :: l) = true ↔ (48 ≤ c.toNat ∧ c.toNat ≤ 57) ∧ digL l = true := by simp [digL]
theorem decFrom_dig : ∀ (l : List UInt8) (acc : Nat), digL l = true → ∃ m, Lib.decFrom acc l = some m ∧ acc ≤ m
  | [], acc, _ => ⟨acc, rfl, Nat.le_refl _⟩
  | c :: t, acc, h => by
    obtain ⟨hc, ht⟩ := digL_cons.1 h
    obtain ⟨m, hm, hle⟩ := decFrom_dig t (acc * 10 + (c.toNat - 48)) ht
    exact ⟨m, by simp only [Lib.decFrom, Lib.digitVal, if_pos hc]; exact hm, by omega⟩
/-- digits with no zero ahead are the numeral of what they spell -/
theorem canon : ∀ (n : Nat) (l : List UInt8), l.length = n → l ≠ [] → digL l = true → (l.head? ≠ some 48 ∨ l.length = 1) → ∃ m, Lib.decFrom 0 l = some m ∧ Lib.decDigits m = l ∧ (l.head? ≠ some 48 → 0 < m) := by
  intro n
  induction n with
  | zero => intro l h hne; exact absurd (List.eq_nil_of_length_eq_zero h) hne
  | succ n ih =>
    intro l h hne hd hh
    obtain ⟨t, c, rfl⟩ : ∃ t c, l = t ++ [c] := ⟨l.dropLast, l.getLast hne, (List.dropLast_concat_getLast hne).symm⟩
    have hd2 : digL t = true ∧ (48 ≤ c.toNat ∧ c.toNat ≤ 57) := by
      unfold digL at hd ⊢; rw [List.all_append, Bool.and_eq_true] at hd; simpa using hd
    simp only [List.length_append, List.length_cons, List.length_nil] at h hh
    have hcn : ∀ a, Lib.decFrom a [c] = some (a * 10 + (c.toNat - 48)) := fun a => by simp only [Lib.decFrom, Lib.digitVal, if_pos hd2.2]
    by_cases ht : t = []
    · subst ht
      refine ⟨c.toNat - 48, by rw [List.nil_append, hcn]; simp, ?_, fun h48 => ?_⟩
      · rw [Lib.decDigits_one (by omega), dig_back hd2.2]; rfl
      · simp at h48
        rcases Nat.lt_or_ge 48 c.toNat with h' | h'
        · omega
        · exact absurd (UInt8.toNat_inj.1 (by simp; omega)) h48
    · have hh2 : t.head? ≠ some 48 := by
        rcases hh with hh | hh
        · cases t with
          | nil => exact absurd rfl ht
          | cons a r => simpa using hh
        · have : 0 < t.length := List.length_pos_iff.2 ht
          omega
      obtain ⟨m, hm, hdm, hpos⟩ := ih t (by omega) ht hd2.1 (.inl hh2)
      have hp := hpos hh2
      refine ⟨m * 10 + (c.toNat - 48), by rw [decFrom_app t [c] 0 m hm, hcn], ?_, fun _ => by omega⟩
      rw [Lib.decDigits, dif_neg (by omega), show (m * 10 + (c.toNat - 48)) / 10 = m by omega, show (m * 10 + (c.toNat - 48)) % 10 = c.toNat - 48 by omega, hdm, dig_back hd2.2]
theorem magOk_iff {neg : Bool} {l : List UInt8} : magOk neg l = true ↔ l ≠ [] ∧ l.length ≤ 17 ∧ (l.head? = some 48 → l.length ≤ 1 ∧ neg = false) ∧ digL l = true := by
  unfold magOk
  by_cases h : l.head? = some 48
  · have hb : (l.head? == some 48) = true := by simp [h]
    rw [hb]; cases neg <;> simp [h, and_assoc]
  · have hb : (l.head? == some 48) = false := by simpa using h
    rw [hb]; simp [h, and_assoc]
theorem magOk_dec {u : Nat} (hl : (Lib.decDigits u).length ≤ 17) (neg : Bool) (hn : neg = true → 0 < u) : magOk neg (Lib.decDigits u) = true := by
  refine magOk_iff.2 ⟨decDigits_ne u, hl, fun h => ?_, decDigits_dig u⟩
  have h0 : u = 0 := by
    rcases Nat.eq_zero_or_pos u with h0 | h0
    · exact h0
    · exact absurd h (decDigits_head u h0)
  subst h0
  refine ⟨by rw [Lib.decDigits_one (by decide)]; simp, by cases neg; · rfl
                                                          · exact absurd (hn rfl) (by decide)⟩
theorem negL_iff {l : List UInt8} : negL l = true ↔ ∃ r, l = 45 :: r := by
  unfold negL
  cases l with
  | nil => simp
  | cons a r => simp
theorem dec_notNeg (u : Nat) : negL (Lib.decDigits u) = false := by
  rw [Bool.eq_false_iff]
  intro h
  obtain ⟨r, hr⟩ := negL_iff.1 h
  have := decDigits_dig u
  rw [hr] at this
  have := (digL_cons.1 this).1
  simp at this
/-- what the program asks of a numeral is what the reference asks -/
theorem num_iff (l : List UInt8) : ((if negL l then l.tail else l).length ≤ 17 ∧ ∃ v, Lib.parseIntB 64 l = .ok v ∧ Lib.itoa v = l) ↔ numL l = true := by
  constructor
  · rintro ⟨hl, v, _, rfl⟩
    unfold numL
    by_cases hv : v < 0
    · have he : Lib.itoa v = 45 :: Lib.decDigits v.natAbs := by unfold Lib.itoa; rw [if_pos hv]
      have hn : negL (Lib.itoa v) = true := negL_iff.2 ⟨_, he⟩
      rw [if_pos hn] at hl ⊢
      rw [he] at hl ⊢
      exact magOk_dec hl true (fun _ => by omega)
    · have he : Lib.itoa v = Lib.decDigits v.toNat := by unfold Lib.itoa; rw [if_neg hv]
      have hn : negL (Lib.itoa v) = false := by rw [he]; exact dec_notNeg _
      rw [if_neg (by rw [hn]; decide)] at hl ⊢
      rw [he] at hl ⊢
      exact magOk_dec hl false (fun h => by cases h)
  · intro h
    unfold numL at h
    by_cases hn : negL l = true
    · rw [if_pos hn] at h ⊢
      obtain ⟨r, rfl⟩ := negL_iff.1 hn
      simp only [List.tail_cons] at h ⊢
      obtain ⟨h1, h2, h3, h4⟩ := magOk_iff.1 h
      have hh : r.head? ≠ some 48 := fun e => by have := (h3 e).2; cases this
      obtain ⟨m, hm, hd, hp⟩ := canon _ r rfl h1 h4 (.inl hh)
      refine ⟨h2, -(m : Int), ?_, ?_⟩
      · rw [Lib.parseIntB_64, Lib.atoiAll_short _ (by simp; omega)]
        have : Lib.atoi (45 :: r) = some (-(m : Int)) := by
          unfold Lib.atoi Lib.decNat
          cases r with
          | nil => exact absurd rfl h1
          | cons a t => simp [hm]
        rw [this]; rfl
      · have hp' := hp hh
        unfold Lib.itoa
        rw [if_pos (by omega)]
        have : (-(m : Int)).natAbs = m := by omega
        rw [this, hd]
    · rw [if_neg hn] at h ⊢
      obtain ⟨h1, h2, h3, h4⟩ := magOk_iff.1 h
      obtain ⟨m, hm, hd, _⟩ := canon _ l rfl h1 h4 (by
        by_cases e : l.head? = some 48
        · right
          have := (h3 e).1
          have := List.length_pos_iff.2 h1
          omega
        · exact .inl e)
      refine ⟨h2, (m : Int), ?_, ?_⟩
      · rw [Lib.parseIntB_64, Lib.atoiAll_short _ (by omega)]
        have : Lib.atoi l = some (m : Int) := by
          cases l with
          | nil => exact absurd rfl h1
          | cons a t =>
            have ha := (digL_cons.1 h4).1
            have e1 : (a == 45) = false := by
              rw [beq_eq_false_iff_ne]; rintro rfl; simp at ha
            have e2 : (a == 43) = false := by
              rw [beq_eq_false_iff_ne]; rintro rfl; simp at ha
            unfold Lib.atoi Lib.decNat
            simp [e1, e2, hm]
        rw [this]; rfl
      · unfold Lib.itoa
        rw [if_neg (by omega)]
        simp [hd]
end Go.Proofs.YtbhocdmfmnlniaaDoor
