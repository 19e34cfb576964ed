/- The reference's pieces of a text. -/
import Derived.Test.YtbhocdmfmnlniaaDoorGrmB
namespace Go.Proofs.YtbhocdmfmnlniaaDoor
open Go.RowKit
def encP (x : List UInt8) : List Value := [.string ⟨x.toArray⟩]
theorem encP_len (x : List UInt8) : (encP x).length = 1 := rfl
theorem infoStr : (Tryd.prog.info? 9).map (fun i => (i.zero, i.size, i.bytes)) = some (some (.string ⟨#[]⟩), 1, 16) := by kernel_rfl
/-- the piece that is over at k -/
theorem piece_at (s : ByteArray) (k : Nat) (hk : k ≤ s.size) : s.extract (k - (cutSt 32 (s.data.toList.take k)).2.length) k = ⟨((cutSt 32 (s.data.toList.take k)).2).toArray⟩ := by
  have ht := cutSt_tail 32 (s.data.toList.take k)
  have hlen : (s.data.toList.take k).length = k := by
    rw [List.length_take]
    have : s.data.toList.length = s.size := by rw [Array.length_toList]; rfl
    omega
  rw [hlen] at ht
  rw [Lib.extract_eq]
  congr 2
  rw [← List.drop_take]
  exact ht.2.symm
theorem kget (s : ByteArray) (k : Nat) (h : k < s.size) (h2 : k < s.data.toList.length) : s.data.toList[k] = s[k] := by
  simp [Array.getElem_toList]; rfl
set_option maxRecDepth 100000 in
set_option maxHeartbeats 2000000 in
theorem pieces_any (s : ByteArray) (w : World) (hs : s.size ≤ 1048576) :
    Calls Tryd.prog 44 #[.string s, .int .u8 32] w fun e w' => ∃ v, e = .returned v ∧ w'.ownsRow w.heap.size 9 1 v (pieces 32 s.data.toList).length ((pieces 32 s.data.toList).flatMap encP) ∧ Below w.heap.size w w' := by
  obtain ⟨i0, hi, hz0, hz1, hz2⟩ := info_parts infoStr
  have HI := Lib.hid (⟨hi, hz0, hz1, hz2⟩ : _ ∧ _ ∧ _ ∧ _)
  clear hi hz0 hz1 hz2
  have hll : s.data.toList.length = s.size := by rw [Array.length_toList]; rfl
  go_enter Tryd.func44, Tryd.ntmps44
  go_wp2
  go_loopw [5, 6, 7] (fun v f i wr => ∃ (k : Nat) (D : List (List UInt8)), k ≤ s.size + 1 ∧ i = .int .i64 k ∧ (k ≤ s.size → f = .int .i64 ((k - (cutSt 32 (s.data.toList.take k)).2.length : Nat) : Int) ∧ D = (cutSt 32 (s.data.toList.take k)).1) ∧ (k = s.size + 1 → ∃ m : Int, f = .int .i64 m ∧ D = pieces 32 s.data.toList) ∧ D.length ≤ k ∧ wr.ownsRow w.heap.size 9 1 v D.length (D.flatMap encP) ∧ Below w.heap.size w wr) (fun _ _ i _ => s.size + 1 - (intOf i).toNat)
  case atStart =>
    refine ⟨0, [], by omega, rfl, fun _ => ⟨rfl, rfl⟩, fun h => by omega, by simp, ?_, (Below.refl _ _).alloc (Nat.le_refl _) _⟩
    exact own_of_blk (base := w.heap.size) (n := 0) (k := 1) (xs := []) (Blk.new w 9 #[]) (Nat.le_refl _) (Nat.zero_le _) rfl rfl
  case round =>
    obtain ⟨k, D, hk, rfl, hle, hge, hDl, hown, hb⟩ := hrel
    by_cases hks : k ≤ s.size
    · obtain ⟨rfl, hD⟩ := hle hks
      have HP := Lib.hid (piece_at s k hks)
      have hcl := (cutSt_tail 32 (s.data.toList.take k)).1
      rw [List.length_take, hll] at hcl
      have hf1 : k - (cutSt 32 (s.data.toList.take k)).2.length ≤ k := by omega
      generalize hfd : k - (cutSt 32 (s.data.toList.take k)).2.length = fr at *
      have HF := Lib.hid hfd
      have HD := Lib.hid hD
      clear hfd hle hge hD hcl
      by_cases hke : k = s.size
      · have e1 : ((k : Int) == (s.size : Int)) = true := by rw [hke]; simp
        have HDP := Lib.hid (show pieces 32 s.data.toList = D ++ [(cutSt 32 (s.data.toList.take k)).2] by
          rw [HD.out, hke, List.take_of_length_le (by omega)]; rfl)
        have hcut := HDP
        have HKE := Lib.hid hke
        clear hke
        have hown1 : (wr.alloc (.cells #[.string (s.extract fr k)] 9)).ownsRow w.heap.size 9 1 u5 D.length (D.flatMap encP) := own_kept hown ((Below.refl _ _).alloc (Nat.le_refl _) _)
        have hnew := new_cells wr [.string (s.extract fr k)] 9
        have hbs := hb.size
        have b1 : (fr : Int) ≤ k := by omega
        have b2 : (k : Int) ≤ s.size := by omega
        have HC := Lib.hid hcut
        clear hcut
        go_wp2_with (at_builtin; refine wpList_append_own _ rfl (.tmp 26) (.tmp 31) 62 rfl w.heap.size 9 i0 _ 1 16 Tryd.underlying62 HI.out.1 HI.out.2.1 HI.out.2.2.1 HI.out.2.2.2 rfl (by decide) u5 D.length (D.flatMap encP) rfl hown1 ⟨wr.heap.size, 0, none⟩ 1 1 [.string (s.extract fr k)] rfl rfl hnew (by simp [Value.oneCell']) (by unfold maxLen; omega) (by omega) (by simp; omega) ?_; intro v' w2 hown2 hgrow _)
        have hb2 := (hb.alloc hbs (.cells #[.string (s.extract fr k)] 9)).grown hgrow (by simp; omega) (fun j hj => (hown.lt j hj).1)
        have hown3 : w2.ownsRow w.heap.size 9 1 v' (D ++ [(cutSt 32 (s.data.toList.take k)).2]).length ((D ++ [(cutSt 32 (s.data.toList.take k)).2]).flatMap encP) := by
          rw [HP.out] at hown2
          simpa [List.flatMap_append, encP] using hown2
        go_roundw
        case rel =>
          have hke := HKE.out
          exact ⟨k + 1, D ++ [(cutSt 32 (s.data.toList.take k)).2], by omega, by go_num, fun h => by have := HKE.out; omega, fun _ => ⟨_, rfl, HDP.out.symm⟩, by simp; omega, hown3, hb2⟩
        case measure => simp [intOf]; omega
      · have hlt : k < s.size := by omega
        have e1 : ((k : Int) == (s.size : Int)) = false := beq_eq_false_iff_ne.2 (by omega)
        have hkt := cutSt_take 32 s.data.toList k (by omega)
        rw [kget s k hlt (by omega)] at hkt
        cases hc : ((((s[k]'hlt).toNat : Nat) : Int) == 32)
        · rw [if_neg (by
            intro e
            rw [e] at hc
            simp at hc)] at hkt
          have HK := Lib.hid hkt
          clear hkt
          go_wp2
          go_roundw
          case rel =>
            have hf := HF.out
            exact ⟨k + 1, D, by omega, by go_num, fun _ => ⟨by rw [HK.out]; simp; omega, by rw [HK.out]; exact HD.out⟩, fun h => by omega, by omega, hown, hb⟩
          case measure => simp [intOf]; omega
        · rw [if_pos (by
            have := beq_iff_eq.1 hc
            apply UInt8.toNat_inj.1
            simp; omega)] at hkt
          have hcut := hkt
          clear hkt
          have hown1 : (wr.alloc (.cells #[.string (s.extract fr k)] 9)).ownsRow w.heap.size 9 1 u5 D.length (D.flatMap encP) := own_kept hown ((Below.refl _ _).alloc (Nat.le_refl _) _)
          have hnew := new_cells wr [.string (s.extract fr k)] 9
          have hbs := hb.size
          have b1 : (fr : Int) ≤ k := by omega
          have b2 : (k : Int) ≤ s.size := by omega
          have HC := Lib.hid hcut
          clear hcut
          go_wp2_with (at_builtin; refine wpList_append_own _ rfl (.tmp 26) (.tmp 31) 62 rfl w.heap.size 9 i0 _ 1 16 Tryd.underlying62 HI.out.1 HI.out.2.1 HI.out.2.2.1 HI.out.2.2.2 rfl (by decide) u5 D.length (D.flatMap encP) rfl hown1 ⟨wr.heap.size, 0, none⟩ 1 1 [.string (s.extract fr k)] rfl rfl hnew (by simp [Value.oneCell']) (by unfold maxLen; omega) (by omega) (by simp; omega) ?_; intro v' w2 hown2 hgrow _)
          have hb2 := (hb.alloc hbs (.cells #[.string (s.extract fr k)] 9)).grown hgrow (by simp; omega) (fun j hj => (hown.lt j hj).1)
          have hown3 : w2.ownsRow w.heap.size 9 1 v' (D ++ [(cutSt 32 (s.data.toList.take k)).2]).length ((D ++ [(cutSt 32 (s.data.toList.take k)).2]).flatMap encP) := by
            rw [HP.out] at hown2
            simpa [List.flatMap_append, encP] using hown2
          go_roundw
          case rel =>
            exact ⟨k + 1, D ++ [(cutSt 32 (s.data.toList.take k)).2], by omega, by go_num, fun _ => ⟨by rw [HC.out]; simp, by rw [HC.out, HD.out]⟩, fun h => by omega, by simp; omega, hown3, hb2⟩
          case measure => simp [intOf]; omega
    · obtain rfl : k = s.size + 1 := by omega
      obtain ⟨m, rfl, rfl⟩ := hge rfl
      clear hle hge
      go_wp2
      go_ret
      exact ⟨_, rfl, hown, hb⟩
end Go.Proofs.YtbhocdmfmnlniaaDoor
