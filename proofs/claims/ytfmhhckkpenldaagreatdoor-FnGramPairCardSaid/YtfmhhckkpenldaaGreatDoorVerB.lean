import Derived.Lib.SmallJoins
import Derived.Test.YtfmhhckkpenldaaGreatDoorM04
/- When a store is right; the reference's rows of a time and its VersOk. -/
namespace Go.Proofs.YtfmhhckkpenldaaGreatDoor
open Go.RowKit
theorem infoRow : (Tryz.prog.info? 83).map (fun i => (i.zero, i.size, i.bytes)) = some (some (.agg #[.string ⟨#[]⟩, .int .i64 0]), 2, 24) := by kernel_rfl
set_option maxHeartbeats 1000000 in
theorem l2At_any (A : Option Addr) (l : List Ver) (c : Nat) (now t : Int) (w : World) (hn : l.length ≤ 1048576) (hR : Sl encVer 4 w A l) :
    Calls Tryz.prog 24 #[.agg #[.int .i64 now, .slice A l.length c], .int .i64 t] w fun e w' => ∃ v, e = .returned v ∧ w'.ownsRow w.heap.size 83 2 v (atL l t).length ((atL l t).flatMap encRow) ∧ Below w.heap.size w w' := by
  obtain ⟨i0, hi, hz0, hz1, hz2⟩ := info_parts infoRow
  have HI := Lib.hid (⟨hi, hz0, hz1, hz2⟩ : _ ∧ _ ∧ _ ∧ _)
  clear hi hz0 hz1 hz2
  have hB0 := Blk.new (w.alloc (.cells #[.int .i64 now, .slice A l.length c] 36)) 83 #[]
  rw [World.size_alloc] at hB0
  have H0 := Lib.hid (own_of_blk (base := w.heap.size + 1) (n := 0) (k := 2) (xs := []) hB0 (Nat.le_refl _) (Nat.zero_le _) rfl rfl)
  clear hB0
  go_enter Tryz.func24, Tryz.ntmps24
  go_wp2
  go_loopw [5, 6] (fun v i wr => ∃ k : Nat, k ≤ l.length ∧ i = .int .i64 k ∧ Blk wr w.heap.size 36 #[.int .i64 now, .slice A l.length c] ∧ wr.ownsRow (w.heap.size + 1) 83 2 v (atL (l.take k) t).length ((atL (l.take k) t).flatMap encRow) ∧ Below w.heap.size w wr) (fun _ i _ => l.length - (intOf i).toNat)
  case atStart => exact ⟨0, by omega, rfl, (Blk.new _ _ _).alloc _, H0.out, ((Below.refl _ _).alloc (Nat.le_refl _) _).alloc (by simp) _⟩
  case round =>
    obtain ⟨k, hk, rfl, hB, hown, hb⟩ := hrel
    have x1 : wr.cell? ⟨w.heap.size, 1, none⟩ = some (.slice A l.length c) := hB.cell 1
    have hbs := hb.size
    have hBl := hB.lt
    by_cases hlt : k < l.length
    · obtain ⟨b, o, rfl, hbl, c0, c1, c2, c3⟩ := Sl.at4 (hR.below hb) hlt
      have hle := atL_le (l.take k) t
      have hle2 : (l.take k).length ≤ k := List.length_take_le _ _
      by_cases hv : visB l[k] t = true
      · have HL := Lib.hid (atL_take_yes hlt hv)
        have hv' := hv
        unfold visB at hv'
        simp only [Bool.and_eq_true, Bool.or_eq_true, decide_eq_true_eq] at hv'
        generalize l[k] = x at *
        obtain ⟨kk, n, fr, to⟩ := x
        simp only at c0 c1 c2 c3 hv'
        have hown1 := ((hown.alloc (.cells #[.string kk, .int .i64 n, .int .i64 fr, .int .i64 to] 81)).alloc (.cells #[.string kk, .int .i64 n] 83))
        have hnew := new_cells (wr.alloc (.cells #[.string kk, .int .i64 n, .int .i64 fr, .int .i64 to] 81)) [.string kk, .int .i64 n] 83
        rw [World.size_alloc] at hnew
        have hlt5 := Lib.hid hown.lt
        generalize hL : (atL (l.take k) t) = L at *
        have HLL := Lib.hid hL
        have hle3 : L.length ≤ k := by omega
        have HBa := Lib.hid ((hB.alloc (.cells #[.string kk, .int .i64 n, .int .i64 fr, .int .i64 to] 81)).alloc (.cells #[.string kk, .int .i64 n] 83))
        have hba := (hb.alloc hbs (.cells #[.string kk, .int .i64 n, .int .i64 fr, .int .i64 to] 81)).alloc (by simp; omega) (.cells #[.string kk, .int .i64 n] 83)
        obtain ⟨hv1, hv2⟩ := hv'
        clear hL hv hR hle
        rcases hv2 with hv2 | hv2
        · subst hv2
          go_wp2_with (at_builtin; refine wpList_append_own _ rfl (.tmp 36) (.tmp 42) 63 rfl (w.heap.size + 1) 83 i0 _ 2 24 Tryz.underlying63 HI.out.1 HI.out.2.1 HI.out.2.2.1 HI.out.2.2.2 rfl (by decide) u5 L.length (L.flatMap encRow) rfl hown1 ⟨wr.heap.size + 1, 0, none⟩ 1 1 [.string kk, .int .i64 n] rfl rfl hnew (by simp [Value.oneCell']) (by unfold maxLen; omega) (by omega) (by simp; omega) ?_; intro v' w2 hown2 hgrow _)
          go_roundw
          case rel => exact ⟨k + 1, by omega, by go_num, HBa.out.grown hgrow (fun e => by have := (hlt5.out _ e.symm).1; omega), by rw [HL.out]; simpa [encRow] using hown2, below_own hba hgrow (by simp; omega) (fun g hg => by have := (hlt5.out g hg).1; omega)⟩
          case measure => simp [intOf]; omega
        · by_cases hto : to = 0
          · subst hto
            go_wp2_with (at_builtin; refine wpList_append_own _ rfl (.tmp 36) (.tmp 42) 63 rfl (w.heap.size + 1) 83 i0 _ 2 24 Tryz.underlying63 HI.out.1 HI.out.2.1 HI.out.2.2.1 HI.out.2.2.2 rfl (by decide) u5 L.length (L.flatMap encRow) rfl hown1 ⟨wr.heap.size + 1, 0, none⟩ 1 1 [.string kk, .int .i64 n] rfl rfl hnew (by simp [Value.oneCell']) (by unfold maxLen; omega) (by omega) (by simp; omega) ?_; intro v' w2 hown2 hgrow _)
            go_roundw
            case rel => exact ⟨k + 1, by omega, by go_num, HBa.out.grown hgrow (fun e => by have := (hlt5.out _ e.symm).1; omega), by rw [HL.out]; simpa [encRow] using hown2, below_own hba hgrow (by simp; omega) (fun g hg => by have := (hlt5.out g hg).1; omega)⟩
            case measure => simp [intOf]; omega
          · have hto' : (to == 0) = false := by simpa using hto
            go_wp2_with (at_builtin; refine wpList_append_own _ rfl (.tmp 36) (.tmp 42) 63 rfl (w.heap.size + 1) 83 i0 _ 2 24 Tryz.underlying63 HI.out.1 HI.out.2.1 HI.out.2.2.1 HI.out.2.2.2 rfl (by decide) u5 L.length (L.flatMap encRow) rfl hown1 ⟨wr.heap.size + 1, 0, none⟩ 1 1 [.string kk, .int .i64 n] rfl rfl hnew (by simp [Value.oneCell']) (by unfold maxLen; omega) (by omega) (by simp; omega) ?_; intro v' w2 hown2 hgrow _)
            go_roundw
            case rel => exact ⟨k + 1, by omega, by go_num, HBa.out.grown hgrow (fun e => by have := (hlt5.out _ e.symm).1; omega), by rw [HL.out]; simpa [encRow] using hown2, below_own hba hgrow (by simp; omega) (fun g hg => by have := (hlt5.out g hg).1; omega)⟩
            case measure => simp [intOf]; omega
      · have hvf : visB l[k] t = false := by simpa using hv
        have HL := Lib.hid (atL_take_no hlt hvf)
        have hv' := hvf
        unfold visB at hv'
        generalize l[k] = x at *
        obtain ⟨kk, n, fr, to⟩ := x
        simp only at c0 c1 c2 c3 hv'
        have HO := Lib.hid (hown.alloc (.cells #[.string kk, .int .i64 n, .int .i64 fr, .int .i64 to] 81))
        have HBa := Lib.hid (hB.alloc (.cells #[.string kk, .int .i64 n, .int .i64 fr, .int .i64 to] 81))
        have hba := hb.alloc hbs (.cells #[.string kk, .int .i64 n, .int .i64 fr, .int .i64 to] 81)
        clear hv hvf hown hR
        by_cases hfr : fr ≤ t
        · have d1 : decide (fr ≤ t) = true := by simpa using hfr
          have h2 : to ≠ 0 ∧ to ≤ t := by simp [hfr] at hv'; exact hv'
          have d2 : (to == 0) = false := by simpa using h2.1
          have d3 : decide (t < to) = false := by simp; exact h2.2
          clear hv' h2
          go_wp2
          go_roundw
          case rel => exact ⟨k + 1, by omega, by go_num, HBa.out, by rw [HL.out]; exact HO.out, hba⟩
          case measure => simp [intOf]; omega
        · have d1 : decide (fr ≤ t) = false := by simpa using hfr
          clear hv'
          go_wp2
          go_roundw
          case rel => exact ⟨k + 1, by omega, by go_num, HBa.out, by rw [HL.out]; exact HO.out, hba⟩
          case measure => simp [intOf]; omega
    · obtain rfl : k = l.length := by omega
      rw [List.take_length] at hown
      go_wp2
      go_ret
      exact ⟨u5, rfl, Go.Joins.ownsRow_le hown (by omega), hb⟩
end Go.Proofs.YtfmhhckkpenldaaGreatDoor
