/- LetterAll's answer in three words, program and reference; what the laws of letters share. -/
import Derived.Test.YtannpeedfakhkaaDoorLtrX
import Derived.Test.YtannpeedfakhkaaDoorLtrJ
import Derived.Test.YtannpeedfakhkaaDoorLtrV
import Derived.Test.YtannpeedfakhkaaDoorWp
import Derived.Test.YtannpeedfakhkaaDoorBytes
import Derived.Test.YtannpeedfakhkaaDoorDoor
namespace Go.Proofs.YtannpeedfakhkaaDoor
open Go.RowKit
def AL (s : ByteArray) : List Let := if s.size ≤ 400 then allL s else []
def AR (s : ByteArray) : ByteArray := if s.size ≤ 400 then allR s else bEmpty
def AC (s : ByteArray) : Nat := if s.size ≤ 400 then allC s else 2
theorem AL_eq {s : ByteArray} (h : s.size ≤ 400) : AL s = allL s ∧ AR s = allR s ∧ AC s = allC s := by
  unfold AL AR AC; rw [if_pos h, if_pos h, if_pos h]; exact ⟨rfl, rfl, rfl⟩
theorem AL_over {s : ByteArray} (h : ¬ s.size ≤ 400) : AL s = [] ∧ AR s = bEmpty ∧ AC s = 2 := by
  unfold AL AR AC; rw [if_neg h, if_neg h, if_neg h]; exact ⟨rfl, rfl, rfl⟩
theorem allF_len : ∀ (f : Nat) (s : ByteArray), (allF f s).1.length ≤ f
  | 0, _ => by simp [allF]
  | f + 1, s => by
    have := allF_len f (s.extract (takeN s) s.size)
    rw [allF]; split
    · simp
    · split
      · simp
      · simp; omega
theorem AL_le (s : ByteArray) : (AL s).length ≤ 400 := by
  unfold AL; split
  · have := allF_len s.size s
    unfold allL; omega
  · simp
def FitL (l : List Let) : Prop := ∀ x ∈ l, x.1.size ≤ maxLen ∧ x.2.size ≤ maxLen
theorem ok_fit {l : List Let} (h : okAll l = true) : FitL l := fun x hx => by
  unfold okAll at h
  have := letB_sz (List.all_eq_true.1 h x hx)
  unfold maxLen; omega
theorem lens_fit {l : List Let} (h : LensOk l) : FitL l := fun x hx => by
  have := h x hx
  unfold maxLen; omega
theorem AL_ok (s : ByteArray) : okAll (AL s) = true := by
  unfold AL; split
  · exact all_ok s
  · rfl
def AllP (L : List Let) (R : ByteArray) (C : Nat) (w : World) (e : Ending) (w' : World) : Prop :=
  ∃ v, e = .returned (.tuple #[v, .string R, .int .i64 C]) ∧ w'.ownsRow w.heap.size 23 2 v L.length (L.flatMap encLet) ∧ Below w.heap.size w w'
theorem post_A {s : ByteArray} {w w' : World} {e : Ending} (h : allPost2 s w e w') : AllP (AL s) (AR s) (AC s) w e w' := by
  unfold allPost2 at h
  by_cases h4 : s.size ≤ 400
  · rw [if_pos h4] at h
    unfold AllP AL AR AC
    rw [if_pos h4, if_pos h4, if_pos h4]; exact h
  · rw [if_neg h4] at h
    unfold AllP AL AR AC
    rw [if_neg h4, if_neg h4, if_neg h4]; exact h
theorem all_impl (s : ByteArray) (a : Addr) (w : World) (hs : s.size ≤ 1073741824) (h0 : 0 < w.heap.size) (hE : w.cell? ⟨0, 0, none⟩ = some (.iface 93 (.pointer (some a)))) :
    Calls Tryd.prog 16 #[.string s] w (AllP (AL s) (AR s) (AC s) w) := (implAll_any s a w hs h0 hE).mono fun _ _ h => post_A h
theorem all_spec (s : ByteArray) (w : World) (hs : s.size ≤ 1073741824) :
    Calls Tryd.prog 15 #[.string s] w (AllP (AL s) (AR s) (AC s) w) := (specAll_any s w hs).mono fun _ _ h => post_A h
theorem wp_same (A A2 : Option Addr) (l : List Let) (c c2 : Nat) (w : World) (hn : l.length ≤ 1048576) (hR : Sl encLet 2 w A l) (hR2 : Sl encLet 2 w A2 l) :
    Calls Tryd.prog 31 #[.slice A l.length c, .slice A2 l.length c2] w fun e w' => e = .returned (.bool true) ∧ Below w.heap.size w w' :=
  (wpLetters_any A A2 l l c c2 w (by unfold maxLen; omega) (by unfold maxLen; omega) hR hR2).mono fun e w' ⟨h, hb⟩ => ⟨by rw [h, eqB_yes rfl], hb⟩
theorem txtS_ok {l : List Let} (h : okAll l = true) : txtS l = tx l := by unfold txtS tx; rw [if_pos h]
theorem cell0 {w w' : World} {v : Value} (h0 : 0 < w.heap.size) (hE : w.cell? ⟨0, 0, none⟩ = some v) (hb : Below w.heap.size w w') : w'.cell? ⟨0, 0, none⟩ = some v := (hb.cell (p := ⟨0, 0, none⟩) h0).trans hE
theorem nonempty_of {s : ByteArray} (h : 0 < s.size) : (!s.toList.isEmpty) = true := by
  rw [ByteArray.toList_eq]
  have : s.data.toList ≠ [] := fun h' => by
    have h2 : s.data.toList.length = 0 := by rw [h']; rfl
    simp at h2
    have : s.size = 0 := by rw [h2]; rfl
    omega
  simpa using this
end Go.Proofs.YtannpeedfakhkaaDoor
