/- The reference's rows and steps. -/
import Derived.Test.YtbhocdmfmnlniaaDoorGrmC
import Derived.Test.YtbhocdmfmnlniaaDoorGrmE
import Derived.Test.YtbhocdmfmnlniaaDoorGrmF
import Derived.Test.YtbhocdmfmnlniaaDoorLtrL
namespace Go.Proofs.YtbhocdmfmnlniaaDoor
open Go.RowKit
theorem numL_space {l : List UInt8} (h : (32 : UInt8) ∈ l) : numL l = false := by
  rw [Bool.eq_false_iff]
  intro hm
  have hd : ∀ m : List UInt8, digL m = true → (32 : UInt8) ∉ m := fun m hm h32 => by
    have := List.all_eq_true.1 hm 32 h32
    simp at this
  unfold numL at hm
  by_cases hn : negL l = true
  · rw [if_pos hn] at hm
    obtain ⟨r, rfl⟩ := negL_iff.1 hn
    have := (magOk_iff.1 hm).2.2.2
    simp only [List.tail_cons] at this
    rcases List.mem_cons.1 h with e | e
    · exact absurd e (by decide)
    · exact hd r this e
  · rw [if_neg hn] at hm
    exact hd l (magOk_iff.1 hm).2.2.2 h
set_option maxHeartbeats 2000000 in
theorem l9Row_any (s : ByteArray) (w : World) (hs : s.size ≤ 1048576) :
    Calls Tryd.prog 31 #[.string s] w fun e w' => e = .returned (.bool (rowG s)) ∧ Below w.heap.size w w' := by
  have hge := Lib.indexByte_ge s.data.toList 32
  have hP := fun W => pieces_any s W hs
  by_cases h2 : (pieces 32 s.data.toList).length = 2
  · have hidx : ¬ Lib.indexByte s.data.toList 32 < 0 := fun h => by have := pieces_miss h; omega
    obtain ⟨i, hi⟩ : ∃ i : Nat, Lib.indexByte s.data.toList 32 = (i : Int) := ⟨(Lib.indexByte s.data.toList 32).toNat, by omega⟩
    have hnm := (pieces_two hi).1 h2
    have hp := pieces_are hi hnm
    have hit : (Lib.indexByte s.data.toList 32).toNat = i := by omega
    have he : (⟨(s.data.toList.take i).toArray⟩ : ByteArray) = s.extract 0 i := by rw [Lib.extract_eq]; simp
    have hR : rowG s = (keyB ⟨(s.data.toList.take i).toArray⟩ && numL (s.data.toList.drop (i + 1))) := by unfold rowG; rw [if_neg hidx, hit, he]
    have hsz1 : (⟨(s.data.toList.take i).toArray⟩ : ByteArray).size ≤ maxLen := by rw [he, ByteArray.size_extract]; unfold maxLen; omega
    have hsz2 : (⟨(s.data.toList.drop (i + 1)).toArray⟩ : ByteArray).size ≤ 1073741824 := by
      have e2 : (⟨(s.data.toList.drop (i + 1)).toArray⟩ : ByteArray).size = (s.data.toList.drop (i + 1)).length := List.size_toArray
      have e3 : s.data.toList.length = s.size := by rw [Array.length_toList]; rfl
      rw [e2, List.length_drop]; omega
    rw [hp] at hP
    have HR := Lib.hid hR
    have HP := Lib.hid hP
    have hNum := fun W => l11Num_any ⟨(s.data.toList.drop (i + 1)).toArray⟩ W hsz2
    have hKey := fun W => specKeyOk_any ⟨(s.data.toList.take i).toArray⟩ W hsz1
    have hdl : (⟨(s.data.toList.drop (i + 1)).toArray⟩ : ByteArray).data.toList = s.data.toList.drop (i + 1) := rfl
    rw [hdl] at hNum
    have HPr : ∀ W, Calls Tryd.prog 44 #[.string s, .int .u8 32] W fun e w' => ∃ b o c, e = .returned (.slice (some ⟨b, o, none⟩) 2 c) ∧ w'.cell? ⟨b, o, none⟩ = some (.string ⟨(s.data.toList.take i).toArray⟩) ∧ w'.cell? ⟨b, o + 1, none⟩ = some (.string ⟨(s.data.toList.drop (i + 1)).toArray⟩) ∧ Below W.heap.size W w' := fun W => (HP.out W).mono fun e w' h => by
      obtain ⟨v, rfl, hown, hb⟩ := h
      obtain ⟨A, c, rfl, _, _, hS⟩ := Sl.of_own encP_len hown
      obtain ⟨b, o, rfl, _, hc⟩ := hS (by simp)
      exact ⟨b, o, c, rfl, by simpa [encP] using hc 0 0 _ rfl (by omega), by simpa [encP] using hc 1 0 _ rfl (by omega), hb⟩
    generalize (⟨(s.data.toList.drop (i + 1)).toArray⟩ : ByteArray) = n at *
    generalize (⟨(s.data.toList.take i).toArray⟩ : ByteArray) = k at *
    generalize numL (s.data.toList.drop (i + 1)) = nb at *
    generalize keyB k = kb at *
    clear hP hp h2 hge hidx hi hnm hit he hR hsz1 hsz2 hdl HP
    cases nb
    · go_enter Tryd.func31, Tryd.ntmps31
      go_wp2_with (first
        | (go_at_call 44; refine (HPr _).mono ?_; rintro e w1 ⟨b, o, c, rfl, c0, c1, hb⟩)
        | (go_at_call 45; refine (hNum _).mono ?_; rintro e w2 ⟨⟨m, rfl⟩, rfl⟩))
      go_ret
      exact ⟨ret_bool (by rw [HR.out]; simp), hb⟩
    · go_enter Tryd.func31, Tryd.ntmps31
      go_wp2_with (first
        | (go_at_call 44; refine (HPr _).mono ?_; rintro e w1 ⟨b, o, c, rfl, c0, c1, hb⟩)
        | (go_at_call 45; refine (hNum _).mono ?_; rintro e w2 ⟨⟨m, rfl⟩, rfl⟩)
        | (go_at_call 46; refine (hKey _).mono ?_; rintro e w3 ⟨rfl, rfl⟩))
      go_ret
      exact ⟨ret_bool (by rw [HR.out]; simp), hb⟩
  · have hR : rowG s = false := by
      unfold rowG
      by_cases hidx : Lib.indexByte s.data.toList 32 < 0
      · rw [if_pos hidx]
      · rw [if_neg hidx]
        obtain ⟨i, hi⟩ : ∃ i : Nat, Lib.indexByte s.data.toList 32 = (i : Int) := ⟨(Lib.indexByte s.data.toList 32).toNat, by omega⟩
        have hit : (Lib.indexByte s.data.toList 32).toNat = i := by omega
        have hm : (32 : UInt8) ∈ s.data.toList.drop (i + 1) := Classical.byContradiction fun hn => h2 ((pieces_two hi).2 hn)
        rw [hit, numL_space hm]; simp
    have hn2 : (((pieces 32 s.data.toList).length : Int) != 2) = true := by simp; omega
    have HR := Lib.hid hR
    have HPr : ∀ W, Calls Tryd.prog 44 #[.string s, .int .u8 32] W fun e w' => ∃ A c, e = .returned (.slice A (pieces 32 s.data.toList).length c) ∧ Below W.heap.size W w' := fun W => (hP W).mono fun e w' h => by
      obtain ⟨v, rfl, hown, hb⟩ := h
      obtain ⟨A, c, rfl, _, _, _⟩ := Sl.of_own encP_len hown
      exact ⟨A, c, rfl, hb⟩
    generalize (pieces 32 s.data.toList).length = n at *
    clear hP hge h2 hR
    go_enter Tryd.func31, Tryd.ntmps31
    go_wp2_with (go_at_call 44; refine (HPr _).mono ?_; rintro e w1 ⟨A, c, rfl, hb⟩)
    go_ret
    exact ⟨ret_bool HR.out.symm, hb⟩
/-- a letter's step, its state one of the four -/
def stepS (st : Int) (x : Let) : Int := if st = 0 then idleS x else if st = 1 then rowsS x else 3
end Go.Proofs.YtbhocdmfmnlniaaDoor
