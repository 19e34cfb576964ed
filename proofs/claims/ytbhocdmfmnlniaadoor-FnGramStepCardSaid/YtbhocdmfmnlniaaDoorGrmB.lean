/- The program's grammar: what a row's letter holds, what a failure's word is, how it stands behind a letter. -/
import Derived.Test.YtbhocdmfmnlniaaDoorGrmA
import Derived.Test.YtbhocdmfmnlniaaDoorLtrQ
import Derived.Test.YtbhocdmfmnlniaaDoorLetD
namespace Go.Proofs.YtbhocdmfmnlniaaDoor
open Go.RowKit
/-- a key, a space, a numeral -/
def rowG (b : ByteArray) : Bool := if Lib.indexByte b.data.toList 32 < 0 then false else keyB (b.extract 0 (Lib.indexByte b.data.toList 32).toNat) && numL (b.data.toList.drop ((Lib.indexByte b.data.toList 32).toNat + 1))
def codeN (k : Nat) : ByteArray := match k with
  | 0 => wFine | 1 => wForm | 2 => wLate | 3 => wFull | 4 => wNone | 5 => wBad | 6 => wOver | _ => ⟨#[]⟩
def failW (b : ByteArray) : Bool := (codeN 1).toList == b.toList || (codeN 2).toList == b.toList || (codeN 3).toList == b.toList || (codeN 4).toList == b.toList || (codeN 5).toList == b.toList || (codeN 6).toList == b.toList
theorem failW_yes {b : ByteArray} {k : Nat} (h1 : 1 ≤ k) (h6 : k ≤ 6) (h : ((codeN k).toList == b.toList) = true) : failW b = true := by
  unfold failW
  match k, h1, h6 with
  | 1, _, _ => rw [h]; rfl
  | 2, _, _ => rw [h]; simp
  | 3, _, _ => rw [h]; simp
  | 4, _, _ => rw [h]; simp
  | 5, _, _ => rw [h]; simp
  | 6, _, _ => rw [h]; simp
theorem failW_no {b : ByteArray} (h : ∀ k, 1 ≤ k → k < 7 → ((codeN k).toList == b.toList) = false) : failW b = false := by
  unfold failW
  rw [h 1 (by omega) (by omega), h 2 (by omega) (by omega), h 3 (by omega) (by omega), h 4 (by omega) (by omega), h 5 (by omega) (by omega), h 6 (by omega) (by omega)]; rfl
theorem ext_drop (s : ByteArray) (i : Nat) : (s.extract i s.size).data.toList = s.data.toList.drop i := by
  have h := Lib.extract_eq s i s.size
  rw [h]
  simp only
  exact List.take_of_length_le (by rw [List.length_drop]; exact Nat.le_refl _)
set_option maxHeartbeats 800000 in
theorem rowBody_any (s : ByteArray) (w : World) (hs : s.size ≤ 1073741824) (hV : Env w) :
    Calls Tryd.prog 49 #[.string s] w fun e w' => e = .returned (.bool (rowG s)) ∧ Below w.heap.size w w' := by
  have hge := Lib.indexByte_ge s.data.toList 32
  by_cases h : Lib.indexByte s.data.toList 32 < 0
  · have HC := Lib.hid (cutV_no h)
    have HR := Lib.hid (show rowG s = false by unfold rowG; rw [if_pos h])
    clear h hge
    go_enter Tryd.func49, Tryd.ntmps49
    go_wp2_with (go_at_call 54; refine (cut_any s _ hs).mono ?_; rintro e w' ⟨rfl, hb⟩; rw [HC.out])
    go_ret
    exact ⟨ret_bool HR.out.symm, hb⟩
  · obtain ⟨i, hi⟩ : ∃ i : Nat, Lib.indexByte s.data.toList 32 = (i : Int) := ⟨(Lib.indexByte s.data.toList 32).toNat, by omega⟩
    have HC := Lib.hid (cutV_at hi)
    have hit : (Lib.indexByte s.data.toList 32).toNat = i := by omega
    have hsz1 : (s.extract 0 i).size ≤ maxLen := by rw [ByteArray.size_extract]; unfold maxLen; omega
    have hsz2 : (s.extract (i + 1) s.size).size ≤ 1073741824 := by rw [ByteArray.size_extract]; omega
    have hnum := ext_drop s (i + 1)
    have HR := Lib.hid (show rowG s = (keyB (s.extract 0 i) && numL ((s.extract (i + 1) s.size).data.toList)) by unfold rowG; rw [if_neg h, hit, hnum])
    generalize s.extract 0 i = k at *
    generalize s.extract (i + 1) s.size = n at *
    clear h hge hi hit hnum
    cases hk : keyB k
    · rw [hk] at HR
      go_enter Tryd.func49, Tryd.ntmps49
      go_wp2_with (first
        | (go_at_call 54; refine (cut_any s _ hs).mono ?_; rintro e w' ⟨rfl, hb⟩; rw [HC.out])
        | (go_at_call 55; refine (implKeyOk_any _ _ hsz1).mono ?_; rintro e w' ⟨rfl, rfl⟩; rw [hk]))
      go_ret
      exact ⟨ret_bool (by rw [HR.out]; rfl), hb⟩
    · rw [hk] at HR
      go_enter Tryd.func49, Tryd.ntmps49
      go_wp2_with (first
        | (go_at_call 54; refine (cut_any s _ hs).mono ?_; rintro e w' ⟨rfl, hb⟩; rw [HC.out])
        | (go_at_call 55; refine (implKeyOk_any _ _ hsz1).mono ?_; rintro e w'' ⟨rfl, rfl⟩; rw [hk])
        | (go_at_call 56; refine (readNum_any _ _ hsz2 (hV.below hb)).mono ?_; rintro e w'' ⟨⟨m, rfl⟩, hb2⟩))
      go_ret
      exact ⟨ret_bool (by rw [HR.out]; rfl), bthen hb hb2⟩
set_option maxRecDepth 100000 in
set_option maxHeartbeats 1000000 in
theorem failure_any (s : ByteArray) (w : World) (hV : Env w) :
    Calls Tryd.prog 48 #[.string s] w fun e w' => e = .returned (.bool (failW s)) ∧ w = w' := by
  have c0 : w.cell? ⟨0, 0, none⟩ = some (.string (codeN 0)) := hV.cell 0
  have c1 : w.cell? ⟨0, 1, none⟩ = some (.string (codeN 1)) := hV.cell 1
  have c2 : w.cell? ⟨0, 2, none⟩ = some (.string (codeN 2)) := hV.cell 2
  have c3 : w.cell? ⟨0, 3, none⟩ = some (.string (codeN 3)) := hV.cell 3
  have c4 : w.cell? ⟨0, 4, none⟩ = some (.string (codeN 4)) := hV.cell 4
  have c5 : w.cell? ⟨0, 5, none⟩ = some (.string (codeN 5)) := hV.cell 5
  have c6 : w.cell? ⟨0, 6, none⟩ = some (.string (codeN 6)) := hV.cell 6
  clear hV
  go_enter Tryd.func48, Tryd.ntmps48
  go_wp2
  go_loop [6] (fun i => ∃ k : Nat, k ≤ 7 ∧ i = .int .i64 k ∧ ∀ j, 1 ≤ j → j < k → ((codeN j).toList == s.toList) = false) (fun i => 7 - (intOf i).toNat)
  case atStart => exact ⟨0, by omega, rfl, fun j h h2 => by omega⟩
  case round =>
    obtain ⟨k, hk, rfl, hall⟩ := hrel
    have HA := Lib.hid hall
    clear hall c0 c1 c2 c3 c4 c5 c6
    rcases (show k = 0 ∨ k = 1 ∨ k = 2 ∨ k = 3 ∨ k = 4 ∨ k = 5 ∨ k = 6 ∨ k = 7 by omega) with rfl | rfl | rfl | rfl | rfl | rfl | rfl | rfl
    · have i0 : ∀ w, (Instr.index 68 (.agg #[.string (codeN 0), .string (codeN 1), .string (codeN 2), .string (codeN 3), .string (codeN 4), .string (codeN 5), .string (codeN 6)]) (.int .i64 0)).run Tryd.prog w = .ok (.string (codeN 0)) w := fun _ => by kernel_rfl
      go_wp2
      go_round
      case rel => exact ⟨1, by omega, by go_num, fun j h1 h2 => absurd h2 (by omega)⟩
      case measure => simp [intOf]
    · have i1 : ∀ w, (Instr.index 68 (.agg #[.string (codeN 0), .string (codeN 1), .string (codeN 2), .string (codeN 3), .string (codeN 4), .string (codeN 5), .string (codeN 6)]) (.int .i64 1)).run Tryd.prog w = .ok (.string (codeN 1)) w := fun _ => by kernel_rfl
      cases hc : ((codeN 1).toList == s.toList)
      · go_wp2
        go_round
        case rel => exact ⟨2, by omega, by go_num, fun j h1 h2 => by
          by_cases e : j < 1
          · exact HA.out j h1 e
          · obtain rfl : j = 1 := by omega
            exact hc⟩
        case measure => simp [intOf]
      · go_wp2
        go_ret
        exact ⟨ret_bool (failW_yes (k := 1) (by omega) (by omega) hc).symm, rfl⟩
    · have i2 : ∀ w, (Instr.index 68 (.agg #[.string (codeN 0), .string (codeN 1), .string (codeN 2), .string (codeN 3), .string (codeN 4), .string (codeN 5), .string (codeN 6)]) (.int .i64 2)).run Tryd.prog w = .ok (.string (codeN 2)) w := fun _ => by kernel_rfl
      cases hc : ((codeN 2).toList == s.toList)
      · go_wp2
        go_round
        case rel => exact ⟨3, by omega, by go_num, fun j h1 h2 => by
          by_cases e : j < 2
          · exact HA.out j h1 e
          · obtain rfl : j = 2 := by omega
            exact hc⟩
        case measure => simp [intOf]
      · go_wp2
        go_ret
        exact ⟨ret_bool (failW_yes (k := 2) (by omega) (by omega) hc).symm, rfl⟩
    · have i3 : ∀ w, (Instr.index 68 (.agg #[.string (codeN 0), .string (codeN 1), .string (codeN 2), .string (codeN 3), .string (codeN 4), .string (codeN 5), .string (codeN 6)]) (.int .i64 3)).run Tryd.prog w = .ok (.string (codeN 3)) w := fun _ => by kernel_rfl
      cases hc : ((codeN 3).toList == s.toList)
      · go_wp2
        go_round
        case rel => exact ⟨4, by omega, by go_num, fun j h1 h2 => by
          by_cases e : j < 3
          · exact HA.out j h1 e
          · obtain rfl : j = 3 := by omega
            exact hc⟩
        case measure => simp [intOf]
      · go_wp2
        go_ret
        exact ⟨ret_bool (failW_yes (k := 3) (by omega) (by omega) hc).symm, rfl⟩
    · have i4 : ∀ w, (Instr.index 68 (.agg #[.string (codeN 0), .string (codeN 1), .string (codeN 2), .string (codeN 3), .string (codeN 4), .string (codeN 5), .string (codeN 6)]) (.int .i64 4)).run Tryd.prog w = .ok (.string (codeN 4)) w := fun _ => by kernel_rfl
      cases hc : ((codeN 4).toList == s.toList)
      · go_wp2
        go_round
        case rel => exact ⟨5, by omega, by go_num, fun j h1 h2 => by
          by_cases e : j < 4
          · exact HA.out j h1 e
          · obtain rfl : j = 4 := by omega
            exact hc⟩
        case measure => simp [intOf]
      · go_wp2
        go_ret
        exact ⟨ret_bool (failW_yes (k := 4) (by omega) (by omega) hc).symm, rfl⟩
    · have i5 : ∀ w, (Instr.index 68 (.agg #[.string (codeN 0), .string (codeN 1), .string (codeN 2), .string (codeN 3), .string (codeN 4), .string (codeN 5), .string (codeN 6)]) (.int .i64 5)).run Tryd.prog w = .ok (.string (codeN 5)) w := fun _ => by kernel_rfl
      cases hc : ((codeN 5).toList == s.toList)
      · go_wp2
        go_round
        case rel => exact ⟨6, by omega, by go_num, fun j h1 h2 => by
          by_cases e : j < 5
          · exact HA.out j h1 e
          · obtain rfl : j = 5 := by omega
            exact hc⟩
        case measure => simp [intOf]
      · go_wp2
        go_ret
        exact ⟨ret_bool (failW_yes (k := 5) (by omega) (by omega) hc).symm, rfl⟩
    · have i6 : ∀ w, (Instr.index 68 (.agg #[.string (codeN 0), .string (codeN 1), .string (codeN 2), .string (codeN 3), .string (codeN 4), .string (codeN 5), .string (codeN 6)]) (.int .i64 6)).run Tryd.prog w = .ok (.string (codeN 6)) w := fun _ => by kernel_rfl
      cases hc : ((codeN 6).toList == s.toList)
      · go_wp2
        go_round
        case rel => exact ⟨7, by omega, by go_num, fun j h1 h2 => by
          by_cases e : j < 6
          · exact HA.out j h1 e
          · obtain rfl : j = 6 := by omega
            exact hc⟩
        case measure => simp [intOf]
      · go_wp2
        go_ret
        exact ⟨ret_bool (failW_yes (k := 6) (by omega) (by omega) hc).symm, rfl⟩
    · go_wp2
      go_ret
      exact ⟨ret_bool (failW_no (fun j h1 h2 => HA.out j h1 h2)).symm, rfl⟩
/-- rows being told: the state behind a letter -/
def rowsS (x : Let) : Int := if (x.1.toList == [82] && rowG x.2) = true then 1 else if (x.1.toList == [67] && x.2.toList == (codeN 0).toList) = true then 0 else 3
/-- nothing begun: the state behind a letter -/
def idleS (x : Let) : Int :=
  if rowsS x = 3 then
    if (x.1.toList == [69]) = true then (if failW x.2 = true then 0 else 3)
    else if (x.1.toList == [49]) = true then (if (x.2.toList == []) = true then 0 else 3)
    else if (x.1.toList == [90]) = true then (if (x.2.toList == [105]) = true ∨ (x.2.toList == [116]) = true ∨ (x.2.toList == [101]) = true then 0 else 3)
    else if (x.1.toList == [66]) = true then (if (x.2.toList == []) = true then 2 else 3)
    else 3
  else rowsS x
theorem rowsS_cases (x : Let) : rowsS x = 0 ∨ rowsS x = 1 ∨ rowsS x = 3 := by
  unfold rowsS
  split
  · exact .inr (.inl rfl)
  · split
    · exact .inl rfl
    · exact .inr (.inr rfl)
set_option maxHeartbeats 1000000 in
theorem inRows_any (x : Let) (w : World) (hs : x.2.size ≤ 1073741824) (hV : Env w) :
    Calls Tryd.prog 37 #[.agg #[.string x.1, .string x.2]] w fun e w' => e = .returned (.int .i64 (rowsS x)) ∧ Below w.heap.size w w' := by
  obtain ⟨x1, x2⟩ := x
  simp only at hs ⊢
  have hb0 := (Below.refl w.heap.size w).alloc (Nat.le_refl _) (.cells #[.string x1, .string x2] 26)
  have hX := Blk.new w 26 #[.string x1, .string x2]
  have hV0 := hV.below hb0
  have c0 : (w.alloc (.cells #[.string x1, .string x2] 26)).cell? ⟨0, 0, none⟩ = some (.string (codeN 0)) := hV0.cell 0
  cases hr : (x1.toList == [82])
  · have HR := Lib.hid (show rowsS (x1, x2) = if (x1.toList == [67] && x2.toList == (codeN 0).toList) = true then 1 - 1 else 3 by unfold rowsS; simp [hr])
    clear hV hV0 hX
    go_enter Tryd.func37, Tryd.ntmps37
    go_wp2
    all_goals
      go_ret
      exact ⟨ret_int (by rw [HR.out]; simp_all), hb0⟩
  · have HV := Lib.hid hV0
    have HX := Lib.hid hX
    clear hV hV0 hX
    cases hg : rowG x2
    · have HR := Lib.hid (show rowsS (x1, x2) = if (x1.toList == [67] && x2.toList == (codeN 0).toList) = true then 1 - 1 else 3 by unfold rowsS; simp [hr, hg])
      clear c0
      go_enter Tryd.func37, Tryd.ntmps37
      go_wp2_with (go_at_call 49; refine (rowBody_any _ _ hs HV.out).mono ?_; rintro e w' ⟨rfl, hb⟩; rw [hg]; have hX1 := HX.out.kept hb; have c0 : w'.cell? ⟨0, 0, none⟩ = some (.string (codeN 0)) := (HV.out.below hb).cell 0; have x0 := hX1.at_ (i := 0) (by simp); have x1' := hX1.at_ (i := 1) (by simp))
      all_goals
        go_ret
        exact ⟨ret_int (by rw [HR.out]; simp_all), hb0.trans (hb.mono (by simp))⟩
    · have HR := Lib.hid (show rowsS (x1, x2) = 1 by unfold rowsS; simp [hr, hg])
      clear c0
      go_enter Tryd.func37, Tryd.ntmps37
      go_wp2_with (go_at_call 49; refine (rowBody_any _ _ hs HV.out).mono ?_; rintro e w' ⟨rfl, hb⟩; rw [hg])
      go_ret
      exact ⟨ret_int (by rw [HR.out]), hb0.trans (hb.mono (by simp))⟩
end Go.Proofs.YtbhocdmfmnlniaaDoor
