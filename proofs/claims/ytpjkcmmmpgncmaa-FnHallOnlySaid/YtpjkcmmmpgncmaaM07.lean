import Derived.Test.YtpjkcmmmpgncmaaLtrF
/- The reference's LetterTake returns what the program's does: the plain law of 'meas', then the walk. -/
namespace Go.Proofs.Ytpjkcmmmpgncmaa
open Go.RowKit
theorem szAt_ge (s : ByteArray) (i : Nat) (h : 3 ≤ i) : szAt s i = szAt s 3 := by
  unfold szAt; rw [if_neg (by omega), if_neg (by omega), if_neg (by omega), if_neg (by omega)]
theorem full_no (s : ByteArray) (i : Nat) (h : ¬ (3 ≤ i ∧ (i : Int) = 3 + szAt s 3)) : fullB i (szAt s i) = false := by
  unfold fullB
  by_cases h3 : 3 ≤ i
  · rw [szAt_ge s i h3]; simpa using h
  · simp; omega
theorem full_yes (s : ByteArray) (i : Nat) (h3 : 3 ≤ i) (h : (i : Int) = 3 + szAt s 3) : fullB i (szAt s i) = true := by
  unfold fullB; rw [szAt_ge s i h3]; simp; omega
theorem meas_run (s : ByteArray) : ∀ i, i ≤ s.size → (∀ j, j < i → okAt s j = true) → (∀ j, j < i → ¬ (3 ≤ j + 1 ∧ ((j + 1 : Nat) : Int) = 3 + szAt s 3)) → meas s = measFrom s (s.size - i) i
  | 0, _, _, _ => rfl
  | i + 1, hi, hok, hf => by
    rw [meas_run s i (by omega) (fun j hj => hok j (by omega)) (fun j hj => hf j (by omega))]
    rw [show s.size - i = (s.size - (i + 1)) + 1 by omega]
    show (if okAt s i = false then (0, true) else if fullB (i + 1) (szAt s (i + 1)) = true then (i + 1, false) else measFrom s (s.size - (i + 1)) (i + 1)) = _
    rw [if_neg (by rw [hok i (by omega)]; decide), if_neg (by rw [full_no s (i + 1) (hf i (by omega))]; decide)]
theorem meas_bad (s : ByteArray) (i : Nat) (hi : i < s.size) (hok : ∀ j, j < i → okAt s j = true) (hf : ∀ j, j < i → ¬ (3 ≤ j + 1 ∧ ((j + 1 : Nat) : Int) = 3 + szAt s 3)) (hb : okAt s i = false) : meas s = (0, true) := by
  rw [meas_run s i (by omega) hok hf, show s.size - i = (s.size - (i + 1)) + 1 by omega]
  show (if okAt s i = false then (0, true) else _) = _
  rw [if_pos hb]
theorem meas_wait (s : ByteArray) (hok : ∀ j, j < s.size → okAt s j = true) (hf : ∀ j, j < s.size → ¬ (3 ≤ j + 1 ∧ ((j + 1 : Nat) : Int) = 3 + szAt s 3)) : meas s = (0, false) := by
  rw [meas_run s s.size (Nat.le_refl _) hok hf, Nat.sub_self]; rfl
theorem meas_fine (s : ByteArray) (i : Nat) (hi : i < s.size) (hok : ∀ j, j ≤ i → okAt s j = true) (h3 : 3 ≤ i + 1) (he : ((i + 1 : Nat) : Int) = 3 + szAt s 3) : meas s = (i + 1, false) := by
  rw [meas_run s i (by omega) (fun j hj => hok j (by omega)) (fun j hj h => by omega), show s.size - i = (s.size - (i + 1)) + 1 by omega]
  show (if okAt s i = false then (0, true) else if fullB (i + 1) (szAt s (i + 1)) = true then (i + 1, false) else _) = _
  rw [if_neg (by rw [hok i (Nat.le_refl _)]; decide), if_pos (full_yes s (i + 1) h3 he)]
theorem take_bad {s : ByteArray} (h : meas s = (0, true)) : takeC s = 2 ∧ takeN s = 0 ∧ takeL s = (bEmpty, bEmpty) := by
  have h1 : takeC s = 2 := by simp [takeC, h]
  exact ⟨h1, by simp [takeN, h], by simp [takeL, h1]⟩
theorem take_wait {s : ByteArray} (h : meas s = (0, false)) : takeC s = 1 ∧ takeN s = 0 ∧ takeL s = (bEmpty, bEmpty) := by
  have h1 : takeC s = 1 := by simp [takeC, h]
  exact ⟨h1, by simp [takeN, h], by simp [takeL, h1]⟩
theorem take_fine {s : ByteArray} {n : Nat} (h : meas s = (n, false)) (hn : n ≠ 0) : takeC s = 0 ∧ takeN s = n ∧ takeL s = (s.extract 0 1, s.extract 3 n) := by
  have h1 : takeC s = 0 := by simp [takeC, h, hn]
  have h2 : takeN s = n := by simp [takeN, h]
  exact ⟨h1, h2, by simp [takeL, h1, h2]⟩
theorem okAt_body (s : ByteArray) (i : Nat) (h : 3 ≤ i) : okAt s i = bodB (byt s i) := by
  unfold okAt fitB; rw [if_neg (by omega), if_neg (by omega), if_neg (by omega)]
/-- the head's verdict and the letter's -/
theorem head_bad (s : ByteArray) (h : headC s = 2) : takeC s = 2 ∧ takeN s = 0 ∧ takeL s = (bEmpty, bEmpty) := by
  apply take_bad
  have nf : ∀ i : Nat, i ≤ 2 → ∀ j, j < i → ¬ (3 ≤ j + 1 ∧ ((j + 1 : Nat) : Int) = 3 + szAt s 3) := fun i hi j hj h => by omega
  by_cases h0 : 0 < s.size ∧ okAt s 0 = false
  · exact meas_bad s 0 h0.1 (fun j hj => by omega) (nf 0 (by omega)) h0.2
  · by_cases h1 : 1 < s.size ∧ okAt s 1 = false
    · refine meas_bad s 1 h1.1 (fun j hj => ?_) (nf 1 (by omega)) h1.2
      match j, hj with
      | 0, _ => simpa using fun e => h0 ⟨by omega, e⟩
    · by_cases h2 : 2 < s.size ∧ okAt s 2 = false
      · refine meas_bad s 2 h2.1 (fun j hj => ?_) (nf 2 (by omega)) h2.2
        match j, hj with
        | 0, _ => simpa using fun e => h0 ⟨by omega, e⟩
        | 1, _ => simpa using fun e => h1 ⟨by omega, e⟩
      · unfold headC at h
        rw [if_neg (by rintro (h | h | h) <;> contradiction)] at h
        split at h <;> omega
theorem head_ok (s : ByteArray) (h : headC s ≠ 2) : ∀ j, j < 3 → j < s.size → okAt s j = true := by
  unfold headC at h
  by_cases hc : (0 < s.size ∧ okAt s 0 = false) ∨ (1 < s.size ∧ okAt s 1 = false) ∨ (2 < s.size ∧ okAt s 2 = false)
  · rw [if_pos hc] at h; exact absurd rfl h
  · intro j hj hs
    match j, hj with
    | 0, _ => simpa using fun e => hc (.inl ⟨hs, e⟩)
    | 1, _ => simpa using fun e => hc (.inr (.inl ⟨hs, e⟩))
    | 2, _ => simpa using fun e => hc (.inr (.inr ⟨hs, e⟩))
theorem head_wait (s : ByteArray) (h : headC s = 1) : takeC s = 1 ∧ takeN s = 0 ∧ takeL s = (bEmpty, bEmpty) := by
  have ho := head_ok s (by omega)
  have hs : s.size < 3 := by
    unfold headC at h
    split at h
    · omega
    · split at h <;> omega
  exact take_wait (meas_wait s (fun j hj => ho j (by omega) hj) (fun j hj h => by omega))
theorem head_fine (s : ByteArray) (h : headC s = 0) : 3 ≤ s.size ∧ (∀ j, j < 3 → okAt s j = true) ∧ headN s = szAt s 3 ∧ 0 ≤ szAt s 3 ∧ szAt s 3 ≤ 40 := by
  have ho := head_ok s (by omega)
  have hs : 3 ≤ s.size := by
    unfold headC at h
    split at h
    · omega
    · split at h <;> omega
  have h0 := ho 0 (by omega) (by omega)
  have h1 := ho 1 (by omega) (by omega)
  have h2 := ho 2 (by omega) (by omega)
  refine ⟨hs, fun j hj => ho j hj (by omega), by unfold headN; rw [if_pos ⟨hs, h0, h1, h2⟩], ?_⟩
  rw [szAt_3]
  rw [okAt_1] at h1; rw [okAt_2] at h2
  simp at h1 h2
  have := digB_yes h1.1
  have := digB_yes h2.1
  omega
theorem headC_cases (s : ByteArray) : headC s = 0 ∨ headC s = 1 ∨ headC s = 2 := by
  unfold headC
  split
  · simp
  · split <;> simp
end Go.Proofs.Ytpjkcmmmpgncmaa
/- The walk of the reference's LetterTake. -/
namespace Go.Proofs.Ytpjkcmmmpgncmaa
open Go.RowKit
theorem spec_mem {w w1 : World} {o : Array Value} {t : TypeId} (hb : Below (w.alloc (.cells o t)).heap.size (w.alloc (.cells o t)) w1) :
    Blk w1 w.heap.size t o ∧ Below w.heap.size w w1 :=
  ⟨(Blk.new w t o).below hb (by simp), ((Below.refl _ _).alloc (Nat.le_refl _) _).trans (hb.mono (by simp))⟩
set_option maxHeartbeats 1000000 in
theorem specTake_any (s : ByteArray) (w : World) (hs : s.size ≤ 4611686018427387904) :
    Calls Try.prog 165 #[.string s] w (TakePost s w) := by
  have main : ∀ w1 : World, Below (w.alloc (.cells #[.string ⟨#[]⟩, .string ⟨#[]⟩] 94)).heap.size (w.alloc (.cells #[.string ⟨#[]⟩, .string ⟨#[]⟩] 94)) w1 →
      Blk w1 w.heap.size 94 #[.string ⟨#[]⟩, .string ⟨#[]⟩] ∧ Below w.heap.size w w1 ∧ w1.frozen? ⟨w.heap.size, 0, none⟩ = false ∧ w1.frozen? ⟨w.heap.size, 1, none⟩ = false ∧
      w1.cell? ⟨w.heap.size, 0, none⟩ = some (.string ⟨#[]⟩) ∧ w1.cell? ⟨w.heap.size, 1, none⟩ = some (.string ⟨#[]⟩) := fun w1 hb => by
    obtain ⟨hB, hbw⟩ := spec_mem hb
    exact ⟨hB, hbw, hB.frozen 0, hB.frozen 1, hB.cell 0, hB.cell 1⟩
  rcases headC_cases s with hc | hc | hc
  · obtain ⟨hs3, hok3, hn, hn0, hn1⟩ := head_fine s hc
    have HC := Lib.hid (⟨hn, hc⟩ : _ ∧ _)
    have HO := Lib.hid hok3
    clear hc hn hok3
    go_enter Try.func165, Try.ntmps165
    go_wp2_with fail
    refine (head_any s _ hs).mono ?_
    rintro e w1 ⟨rfl, hb1⟩
    obtain ⟨hB, hbw, z0, z1, y0, y1⟩ := main w1 hb1
    clear main hb1
    rw [HC.out.1, HC.out.2]
    have HB := Lib.hid hB
    clear hB
    obtain ⟨n, hnn⟩ : ∃ n : Nat, szAt s 3 = n := ⟨(szAt s 3).toNat, by omega⟩
    have HN := Lib.hid hnn
    rw [hnn] at hn0 hn1 ⊢
    clear hnn
    go_wp2
    go_loop [7] (fun i => ∃ k : Nat, 3 ≤ k ∧ k ≤ s.size ∧ k ≤ 3 + n ∧ i = .int .i64 k ∧ ∀ j, j < k → okAt s j = true) (fun i => s.size - (intOf i).toNat)
    case atStart => exact ⟨3, by omega, hs3, by omega, rfl, HO.out⟩
    case round =>
      obtain ⟨k, hk3, hks, hkn, rfl, hok⟩ := hrel
      have HK := Lib.hid hok
      clear hok
      by_cases l1 : k < s.size
      · by_cases l2 : (k : Int) < 3 + n
        · have l2' : decide ((k : Int) < 3 + (n : Int)) = true := by simpa using l2
          go_wp2_with fail
          rw [byt_eq s k l1]
          refine (specBody_any _ _ (byt_lo _ _) (byt_hi _ _)).mono ?_
          rintro e w2 ⟨rfl, rfl⟩
          by_cases hb : bodB (byt s k) = true
          · have HH := Lib.hid hb
            rw [hb]
            clear hb
            go_wp2
            go_round
            case rel => exact ⟨k + 1, by omega, by omega, by omega, by go_num, fun j hj => by
              by_cases h : j < k
              · exact HK.out j h
              · obtain rfl : j = k := by omega
                rw [okAt_body s j hk3]; exact HH.out⟩
            case measure => simp [intOf]; omega
          · have hb' : bodB (byt s k) = false := by simpa using hb
            rw [hb']
            have HH := Lib.hid (take_bad (meas_bad s k l1 HK.out (fun j hj h => by rw [HN.out] at h; omega) (by rw [okAt_body s k hk3]; exact hb')))
            clear hb hb'
            go_wp2
            obtain ⟨q0, q1⟩ := HB.out.two (.string ⟨#[]⟩) (.string ⟨#[]⟩)
            refine bodyPost_ret (v := .tuple #[.agg #[.string ⟨#[]⟩, .string ⟨#[]⟩], .int .i64 0, .int .i64 2]) (by simp [results, Try.results165, go_sem, q0, q1]) rfl ⟨by rw [HH.out.1, HH.out.2.1, HH.out.2.2]; rfl, ?_⟩
            exact (hbw.setCell (by simp) _).setCell (by simp) _
        · have l2' : decide ((k : Int) < 3 + (n : Int)) = false := by simpa using l2
          have HH := Lib.hid (take_fine (n := 3 + n) (meas_fine s (k - 1) (by omega) (fun j hj => HK.out j (by omega)) (by omega) (by rw [HN.out]; omega) |>.trans (by rw [show k - 1 + 1 = 3 + n by omega])) (by omega))
          have hle : 3 + n ≤ s.size := by omega
          obtain rfl : k = 3 + n := by omega
          clear l2
          go_wp2
          go_region
          go_wp2
          obtain ⟨q0, q1⟩ := HB.out.two (.string (s.extract 0 1)) (.string (s.extract 3 (3 + n)))
          refine bodyPost_ret (v := .tuple #[.agg #[.string (s.extract 0 1), .string (s.extract 3 (3 + n))], .int .i64 ((3 + n : Nat) : Int), .int .i64 0]) (by simp [results, Try.results165, go_sem, q0, q1]) rfl ⟨by rw [HH.out.1, HH.out.2.1, HH.out.2.2]; rfl, ?_⟩
          exact ((hbw.setCell (by simp) _).setCell (by simp) _).drew
      · obtain rfl : k = s.size := by omega
        by_cases l2 : (s.size : Int) < 3 + n
        · have l2' : decide ((s.size : Int) < 3 + (n : Int)) = true := by simpa using l2
          have HH := Lib.hid (take_wait (meas_wait s HK.out (fun j hj h => by rw [HN.out] at h; omega)))
          go_wp2
          obtain ⟨q0, q1⟩ := HB.out.two (.string ⟨#[]⟩) (.string ⟨#[]⟩)
          refine bodyPost_ret (v := .tuple #[.agg #[.string ⟨#[]⟩, .string ⟨#[]⟩], .int .i64 0, .int .i64 1]) (by simp [results, Try.results165, go_sem, q0, q1]) rfl ⟨by rw [HH.out.1, HH.out.2.1, HH.out.2.2]; rfl, ?_⟩
          exact (hbw.setCell (by simp) _).setCell (by simp) _
        · have l2' : decide ((s.size : Int) < 3 + (n : Int)) = false := by simpa using l2
          have HH := Lib.hid (take_fine (n := 3 + n) (meas_fine s (s.size - 1) (by omega) (fun j hj => HK.out j (by omega)) (by omega) (by rw [HN.out]; omega) |>.trans (by rw [show s.size - 1 + 1 = 3 + n by omega])) (by omega))
          have hle : 3 + n ≤ s.size := by omega
          go_wp2
          go_region
          go_wp2
          obtain ⟨q0, q1⟩ := HB.out.two (.string (s.extract 0 1)) (.string (s.extract 3 (3 + n)))
          refine bodyPost_ret (v := .tuple #[.agg #[.string (s.extract 0 1), .string (s.extract 3 (3 + n))], .int .i64 ((3 + n : Nat) : Int), .int .i64 0]) (by simp [results, Try.results165, go_sem, q0, q1]) rfl ⟨by rw [HH.out.1, HH.out.2.1, HH.out.2.2]; rfl, ?_⟩
          exact ((hbw.setCell (by simp) _).setCell (by simp) _).drew
  · have HL := Lib.hid (head_wait s hc)
    have HC := Lib.hid hc
    clear hc
    go_enter Try.func165, Try.ntmps165
    go_wp2_with fail
    refine (head_any s _ hs).mono ?_
    rintro e w1 ⟨rfl, hb1⟩
    obtain ⟨hB, hbw, z0, z1, y0, y1⟩ := main w1 hb1
    clear main hb1
    rw [HC.out]
    have HB := Lib.hid hB
    clear hB
    go_wp2
    obtain ⟨q0, q1⟩ := HB.out.two (.string ⟨#[]⟩) (.string ⟨#[]⟩)
    refine bodyPost_ret (v := .tuple #[.agg #[.string ⟨#[]⟩, .string ⟨#[]⟩], .int .i64 0, .int .i64 1]) (by simp [results, Try.results165, go_sem, q0, q1]) rfl ⟨by rw [HL.out.1, HL.out.2.1, HL.out.2.2]; rfl, ?_⟩
    exact (hbw.setCell (by simp) _).setCell (by simp) _
  · have HL := Lib.hid (head_bad s hc)
    have HC := Lib.hid hc
    clear hc
    go_enter Try.func165, Try.ntmps165
    go_wp2_with fail
    refine (head_any s _ hs).mono ?_
    rintro e w1 ⟨rfl, hb1⟩
    obtain ⟨hB, hbw, z0, z1, y0, y1⟩ := main w1 hb1
    clear main hb1
    rw [HC.out]
    have HB := Lib.hid hB
    clear hB
    go_wp2
    obtain ⟨q0, q1⟩ := HB.out.two (.string ⟨#[]⟩) (.string ⟨#[]⟩)
    refine bodyPost_ret (v := .tuple #[.agg #[.string ⟨#[]⟩, .string ⟨#[]⟩], .int .i64 0, .int .i64 2]) (by simp [results, Try.results165, go_sem, q0, q1]) rfl ⟨by rw [HL.out.1, HL.out.2.1, HL.out.2.2]; rfl, ?_⟩
    exact (hbw.setCell (by simp) _).setCell (by simp) _
end Go.Proofs.Ytpjkcmmmpgncmaa
