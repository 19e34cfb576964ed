/- The program's LetterText; the reference's LettersText. -/
import Derived.Test.YtannpeedfakhkaaDoorLtrT
namespace Go.Proofs.YtannpeedfakhkaaDoor
open Go.RowKit
theorem txtS_one (x : Let) : txtS [x] = ltText x := by
  unfold txtS ltText okAll txts
  by_cases h : letB x = true
  · simp [h, lrow]
    apply ByteArray.ext
    simp
  · simp [h]
set_option maxRecDepth 100000 in
set_option maxHeartbeats 1000000 in
theorem implText_any (x : Let) (w : World) (h1 : x.1.size ≤ maxLen) (h2 : x.2.size ≤ maxLen) :
    Calls Tryd.prog 25 #[.agg #[.string x.1, .string x.2]] w fun e w' => e = .returned (.string (ltText x)) ∧ Below w.heap.size w w' := by
  have hB := Blk.new w 23 #[.string x.1, .string x.2]
  have hb := (Below.refl w.heap.size w).alloc (Nat.le_refl _) (.cells #[.string x.1, .string x.2] 23)
  go_enter Tryd.func25, Tryd.ntmps25
  go_wp2_with fail
  obtain ⟨A, c, hv, _, _, hS⟩ := Sl.of_own (l := [x]) encLet_len (own_of_blk (base := 0) (n := 1) (k := 2) (Blk.new (w.alloc (.cells #[.string x.1, .string x.2] 23)) 23 #[.string x.1, .string x.2]) (Nat.zero_le _) (by simp [maxLen]) (by simp) (by simp [encLet]))
  simp at hv
  obtain ⟨rfl, rfl⟩ := hv
  have hb2 := hb.alloc (by simp) (.cells #[.string x.1, .string x.2] 23)
  refine (implTexts_any _ [x] 1 _ (by simp) hS (by intro y hy; simp at hy; subst hy; exact ⟨h1, h2⟩)).mono ?_
  rintro e w1 ⟨rfl, hb1⟩
  rw [txtS_one]
  have hb3 := hb2.trans (hb1.mono (by simp; omega))
  clear hS hB
  go_wp2
  go_ret
  exact ⟨rfl, hb3⟩
theorem txtS_out (l : List Let) (h : okAll l = true) : txtS l = ⟨(txts l).toArray⟩ := by unfold txtS; rw [if_pos h]
theorem txtB_step {l : List Let} {k : Nat} (h : k < l.length) : (⟨(txts (l.take (k + 1))).toArray⟩ : ByteArray) = ⟨(txts (l.take k)).toArray⟩ ++ lrow l[k] := by
  rw [txts_step h]
  apply ByteArray.ext
  simp
set_option maxRecDepth 100000 in
set_option maxHeartbeats 1000000 in
theorem specTexts_any (A : Option Addr) (l : List Let) (c : Nat) (w : World) (hn : l.length ≤ 1048576) (hR : Sl encLet 2 w A l) (hf : ∀ x ∈ l, x.1.size ≤ maxLen ∧ x.2.size ≤ maxLen) :
    Calls Tryd.prog 23 #[.slice A l.length c] w fun e w' => e = .returned (.string (txtS l)) ∧ Below w.heap.size w w' := by
  have HF := Lib.hid hf
  clear hf
  go_enter Tryd.func23, Tryd.ntmps23
  go_wp2
  go_loopw [3, 4] (fun a i wr => ∃ (t : ByteArray) (k : Nat), a = .string t ∧ i = .int .i64 k ∧ k ≤ l.length ∧ okAll (l.take k) = true ∧ t = ⟨(txts (l.take k)).toArray⟩ ∧ t.size ≤ 43 * k ∧ Below w.heap.size w wr) (fun _ i _ => l.length - (intOf i).toNat)
  case atStart => exact ⟨_, 0, rfl, rfl, by omega, rfl, rfl, Nat.le_refl _, Below.refl _ _⟩
  case round =>
    obtain ⟨t, k, rfl, rfl, hk, hok, ht, hsz, hb⟩ := hrel
    have HOK := Lib.hid hok
    have HT := Lib.hid ht
    clear hok ht
    have hsw := hb.size
    by_cases hlt : k < l.length
    · obtain ⟨b, o, rfl, hbl, c0, c1⟩ := Sl.at2 (hR.below hb) hlt
      have hx := HF.out _ (List.getElem_mem hlt)
      have HS1 := Lib.hid (txtB_step hlt)
      have HS2 := Lib.hid (okAll_step hlt)
      have HNO := Lib.hid (okAll_no hlt)
      generalize l[k] = x at *
      clear hR
      go_wp2_with fail
      refine (specOk_any x _ hx.1 hx.2).mono ?_
      rintro e w1 ⟨rfl, hb1⟩
      have d0 := (hb1.cell (p := ⟨b, o + k * 2, none⟩) hbl).trans c0
      have d1 := (hb1.cell (p := ⟨b, o + k * 2 + 1, none⟩) hbl).trans c1
      have hb01 := bthen hb hb1
      by_cases hL : letB x = true
      · have hok2 : okAll (l.take (k + 1)) = true := by rw [HS2.out, HOK.out, hL]; rfl
        have HOK2 := Lib.hid hok2
        have HX := Lib.hid (show ltText x = lrow x by unfold ltText; rw [if_pos hL]; rfl)
        have hts := ltText_size x
        rw [hL]
        clear hL hok2 hb1 c0 c1 hb
        go_wp2_with fail
        refine (specText_any x _ hx.1 hx.2).mono ?_
        rintro e w2 ⟨rfl, hb2⟩
        have hb02 := bthen hb01 hb2
        generalize hy : ltText x = y at *
        have HY := Lib.hid hy
        clear hy d0 d1 hb2 hb01
        go_wp2
        go_roundw
        case rel => exact ⟨t ++ y, k + 1, rfl, by go_num, by omega, HOK2.out, by rw [HS1.out, ← HT.out, ← HX.out], by rw [ByteArray.size_append]; omega, hb02⟩
        case measure => simp [intOf]; omega
      · have hL' : letB x = false := by simpa using hL
        have HE := Lib.hid (show txtS l = bEmpty by unfold txtS; rw [if_neg (by rw [HNO.out hL']; simp)])
        rw [hL']
        clear hL hL' hb1 c0 c1
        go_wp2
        go_ret
        exact ⟨ret_str HE.out.symm, hb01⟩
    · obtain rfl : k = l.length := by omega
      have hok := HOK.out
      have ht := HT.out
      rw [List.take_length] at hok ht
      have HE := Lib.hid (show txtS l = t by rw [ht]; exact txtS_out l hok)
      clear hok ht
      go_wp2
      go_ret
      exact ⟨ret_str HE.out.symm, hb⟩
end Go.Proofs.YtannpeedfakhkaaDoor
