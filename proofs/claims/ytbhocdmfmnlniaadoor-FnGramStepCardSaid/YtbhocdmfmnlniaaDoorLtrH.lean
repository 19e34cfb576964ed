/- The walk of the reference's LetterTake. -/
import Derived.Test.YtbhocdmfmnlniaaDoorLtrG
namespace Go.Proofs.YtbhocdmfmnlniaaDoor
open Go.RowKit
theorem spec_mem {w w1 : World} {o : Array Value} {t : TypeId} (hb : Below (w.alloc (.cells o t)).heap.size (w.alloc (.cells o t)) w1) :
    Blk w1 w.heap.size t o ∧ Below w.heap.size w w1 :=
  ⟨(Blk.new w t o).below hb (by simp), ((Below.refl _ _).alloc (Nat.le_refl _) _).trans (hb.mono (by simp))⟩
set_option maxHeartbeats 1000000 in
theorem specTake_any (s : ByteArray) (w : World) (hs : s.size ≤ 4611686018427387904) :
    Calls Tryd.prog 27 #[.string s] w (TakePost s w) := by
  have main : ∀ w1 : World, Below (w.alloc (.cells #[.string ⟨#[]⟩, .string ⟨#[]⟩] 26)).heap.size (w.alloc (.cells #[.string ⟨#[]⟩, .string ⟨#[]⟩] 26)) w1 →
      Blk w1 w.heap.size 26 #[.string ⟨#[]⟩, .string ⟨#[]⟩] ∧ Below w.heap.size w w1 ∧ w1.frozen? ⟨w.heap.size, 0, none⟩ = false ∧ w1.frozen? ⟨w.heap.size, 1, none⟩ = false ∧
      w1.cell? ⟨w.heap.size, 0, none⟩ = some (.string ⟨#[]⟩) ∧ w1.cell? ⟨w.heap.size, 1, none⟩ = some (.string ⟨#[]⟩) := fun w1 hb => by
    obtain ⟨hB, hbw⟩ := spec_mem hb
    exact ⟨hB, hbw, hB.frozen 0, hB.frozen 1, hB.cell 0, hB.cell 1⟩
  rcases headC_cases s with hc | hc | hc
  · obtain ⟨hs3, hok3, hn, hn0, hn1⟩ := head_fine s hc
    have HC := Lib.hid (⟨hn, hc⟩ : _ ∧ _)
    have HO := Lib.hid hok3
    clear hc hn hok3
    go_enter Tryd.func27, Tryd.ntmps27
    go_wp2_with fail
    refine (head_any s _ hs).mono ?_
    rintro e w1 ⟨rfl, hb1⟩
    obtain ⟨hB, hbw, z0, z1, y0, y1⟩ := main w1 hb1
    clear main hb1
    rw [HC.out.1, HC.out.2]
    have HB := Lib.hid hB
    clear hB
    obtain ⟨n, hnn⟩ : ∃ n : Nat, szAt s 3 = n := ⟨(szAt s 3).toNat, by omega⟩
    have HN := Lib.hid hnn
    rw [hnn] at hn0 hn1 ⊢
    clear hnn
    go_wp2
    go_loop [7] (fun i => ∃ k : Nat, 3 ≤ k ∧ k ≤ s.size ∧ k ≤ 3 + n ∧ i = .int .i64 k ∧ ∀ j, j < k → okAt s j = true) (fun i => s.size - (intOf i).toNat)
    case atStart => exact ⟨3, by omega, hs3, by omega, rfl, HO.out⟩
    case round =>
      obtain ⟨k, hk3, hks, hkn, rfl, hok⟩ := hrel
      have HK := Lib.hid hok
      clear hok
      by_cases l1 : k < s.size
      · by_cases l2 : (k : Int) < 3 + n
        · have l2' : decide ((k : Int) < 3 + (n : Int)) = true := by simpa using l2
          go_wp2_with fail
          rw [byt_eq s k l1]
          refine (specBody_any _ _ (byt_lo _ _) (byt_hi _ _)).mono ?_
          rintro e w2 ⟨rfl, rfl⟩
          by_cases hb : bodB (byt s k) = true
          · have HH := Lib.hid hb
            rw [hb]
            clear hb
            go_wp2
            go_round
            case rel => exact ⟨k + 1, by omega, by omega, by omega, by go_num, fun j hj => by
              by_cases h : j < k
              · exact HK.out j h
              · obtain rfl : j = k := by omega
                rw [okAt_body s j hk3]; exact HH.out⟩
            case measure => simp [intOf]; omega
          · have hb' : bodB (byt s k) = false := by simpa using hb
            rw [hb']
            have HH := Lib.hid (take_bad (meas_bad s k l1 HK.out (fun j hj h => by rw [HN.out] at h; omega) (by rw [okAt_body s k hk3]; exact hb')))
            clear hb hb'
            go_wp2
            obtain ⟨q0, q1⟩ := HB.out.two (.string ⟨#[]⟩) (.string ⟨#[]⟩)
            refine bodyPost_ret (v := .tuple #[.agg #[.string ⟨#[]⟩, .string ⟨#[]⟩], .int .i64 0, .int .i64 2]) (by simp [results, Tryd.results27, go_sem, q0, q1]) rfl ⟨by rw [HH.out.1, HH.out.2.1, HH.out.2.2]; rfl, ?_⟩
            exact (hbw.setCell (by simp) _).setCell (by simp) _
        · have l2' : decide ((k : Int) < 3 + (n : Int)) = false := by simpa using l2
          have HH := Lib.hid (take_fine (n := 3 + n) (meas_fine s (k - 1) (by omega) (fun j hj => HK.out j (by omega)) (by omega) (by rw [HN.out]; omega) |>.trans (by rw [show k - 1 + 1 = 3 + n by omega])) (by omega))
          have hle : 3 + n ≤ s.size := by omega
          obtain rfl : k = 3 + n := by omega
          clear l2
          go_wp2
          go_region
          go_wp2
          obtain ⟨q0, q1⟩ := HB.out.two (.string (s.extract 0 1)) (.string (s.extract 3 (3 + n)))
          refine bodyPost_ret (v := .tuple #[.agg #[.string (s.extract 0 1), .string (s.extract 3 (3 + n))], .int .i64 ((3 + n : Nat) : Int), .int .i64 0]) (by simp [results, Tryd.results27, go_sem, q0, q1]) rfl ⟨by rw [HH.out.1, HH.out.2.1, HH.out.2.2]; rfl, ?_⟩
          exact ((hbw.setCell (by simp) _).setCell (by simp) _).drew
      · obtain rfl : k = s.size := by omega
        by_cases l2 : (s.size : Int) < 3 + n
        · have l2' : decide ((s.size : Int) < 3 + (n : Int)) = true := by simpa using l2
          have HH := Lib.hid (take_wait (meas_wait s HK.out (fun j hj h => by rw [HN.out] at h; omega)))
          go_wp2
          obtain ⟨q0, q1⟩ := HB.out.two (.string ⟨#[]⟩) (.string ⟨#[]⟩)
          refine bodyPost_ret (v := .tuple #[.agg #[.string ⟨#[]⟩, .string ⟨#[]⟩], .int .i64 0, .int .i64 1]) (by simp [results, Tryd.results27, go_sem, q0, q1]) rfl ⟨by rw [HH.out.1, HH.out.2.1, HH.out.2.2]; rfl, ?_⟩
          exact (hbw.setCell (by simp) _).setCell (by simp) _
        · have l2' : decide ((s.size : Int) < 3 + (n : Int)) = false := by simpa using l2
          have HH := Lib.hid (take_fine (n := 3 + n) (meas_fine s (s.size - 1) (by omega) (fun j hj => HK.out j (by omega)) (by omega) (by rw [HN.out]; omega) |>.trans (by rw [show s.size - 1 + 1 = 3 + n by omega])) (by omega))
          have hle : 3 + n ≤ s.size := by omega
          go_wp2
          go_region
          go_wp2
          obtain ⟨q0, q1⟩ := HB.out.two (.string (s.extract 0 1)) (.string (s.extract 3 (3 + n)))
          refine bodyPost_ret (v := .tuple #[.agg #[.string (s.extract 0 1), .string (s.extract 3 (3 + n))], .int .i64 ((3 + n : Nat) : Int), .int .i64 0]) (by simp [results, Tryd.results27, go_sem, q0, q1]) rfl ⟨by rw [HH.out.1, HH.out.2.1, HH.out.2.2]; rfl, ?_⟩
          exact ((hbw.setCell (by simp) _).setCell (by simp) _).drew
  · have HL := Lib.hid (head_wait s hc)
    have HC := Lib.hid hc
    clear hc
    go_enter Tryd.func27, Tryd.ntmps27
    go_wp2_with fail
    refine (head_any s _ hs).mono ?_
    rintro e w1 ⟨rfl, hb1⟩
    obtain ⟨hB, hbw, z0, z1, y0, y1⟩ := main w1 hb1
    clear main hb1
    rw [HC.out]
    have HB := Lib.hid hB
    clear hB
    go_wp2
    obtain ⟨q0, q1⟩ := HB.out.two (.string ⟨#[]⟩) (.string ⟨#[]⟩)
    refine bodyPost_ret (v := .tuple #[.agg #[.string ⟨#[]⟩, .string ⟨#[]⟩], .int .i64 0, .int .i64 1]) (by simp [results, Tryd.results27, go_sem, q0, q1]) rfl ⟨by rw [HL.out.1, HL.out.2.1, HL.out.2.2]; rfl, ?_⟩
    exact (hbw.setCell (by simp) _).setCell (by simp) _
  · have HL := Lib.hid (head_bad s hc)
    have HC := Lib.hid hc
    clear hc
    go_enter Tryd.func27, Tryd.ntmps27
    go_wp2_with fail
    refine (head_any s _ hs).mono ?_
    rintro e w1 ⟨rfl, hb1⟩
    obtain ⟨hB, hbw, z0, z1, y0, y1⟩ := main w1 hb1
    clear main hb1
    rw [HC.out]
    have HB := Lib.hid hB
    clear hB
    go_wp2
    obtain ⟨q0, q1⟩ := HB.out.two (.string ⟨#[]⟩) (.string ⟨#[]⟩)
    refine bodyPost_ret (v := .tuple #[.agg #[.string ⟨#[]⟩, .string ⟨#[]⟩], .int .i64 0, .int .i64 2]) (by simp [results, Tryd.results27, go_sem, q0, q1]) rfl ⟨by rw [HL.out.1, HL.out.2.1, HL.out.2.2]; rfl, ?_⟩
    exact (hbw.setCell (by simp) _).setCell (by simp) _
end Go.Proofs.YtbhocdmfmnlniaaDoor
