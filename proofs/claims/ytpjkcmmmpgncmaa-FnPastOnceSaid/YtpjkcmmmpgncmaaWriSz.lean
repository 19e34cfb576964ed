/- The laws' helpers on rows of writes: their size, their copies. -/
import Derived.Test.YtpjkcmmmpgncmaaRows
import Derived.Test.YtpjkcmmmpgncmaaWriD
namespace Go.Proofs.Ytpjkcmmmpgncmaa
open Go.RowKit
set_option maxHeartbeats 400000 in
theorem szWrite_any (x : Wri) (left : Int) (w : World) (hs : x.1.size ≤ maxLen) (h0 : 0 ≤ left) (h1 : left ≤ 1048576) :
    Calls Try.prog 196 #[.agg #[.string x.1, .int .i64 x.2.1, .bool x.2.2], .int .i64 left] w fun e w' => e = .returned (.int .i64 (sz x.1.size left)) ∧ Below w.heap.size w w' := by
  unfold maxLen at hs
  go_enter Try.func196, Try.ntmps196
  go_wp2
  all_goals
    go_ret
    exact ⟨ret_int (by unfold sz; split <;> omega), (Below.refl _ _).alloc (Nat.le_refl _) _⟩

set_option maxHeartbeats 400000 in
theorem szWriteS_any (A : Option Addr) (l : List Wri) (c : Nat) (left : Int) (w : World) (hn : FitsW l) (hR : Sl encWri 3 w A l) (h0 : 0 ≤ left) (h1 : left ≤ 1048576) :
    Calls Try.prog 169 #[.slice A l.length c, .int .i64 left] w fun e w' => e = .returned (.int .i64 (sz (l.length + wsz l) left)) ∧ Below w.heap.size w w' := by
  obtain ⟨hn, hf⟩ := hn
  unfold maxLen at hn
  by_cases hlt : left < l.length
  · go_enter Try.func169, Try.ntmps169
    go_wp2
    go_ret
    exact ⟨ret_int (sz_no (by omega)).symm, Below.refl _ _⟩
  · go_enter Try.func169, Try.ntmps169
    go_wp2
    go_loopw [1, 5] (fun t i wr => ∃ k : Nat, k ≤ l.length ∧ i = .int .i64 k ∧ ((l.length + wsz (l.take k) : Nat) : Int) ≤ left ∧ t = .int .i64 (left - (l.length + wsz (l.take k) : Nat)) ∧ Below w.heap.size w wr) (fun _ i _ => l.length - (intOf i).toNat)
    case atStart => exact ⟨0, by omega, rfl, by simp [wsz]; omega, by simp [wsz], Below.refl _ _⟩
    case round =>
      obtain ⟨k, hk, rfl, hle, rfl, hb⟩ := hrel
      by_cases hlt2 : k < l.length
      · obtain ⟨b, o, rfl, hbl, c0, c1, c2⟩ := Sl.at3 (hR.below hb) hlt2
        have hm := wsz_take l k hlt2
        have hsz := hf l[k] (by simp)
        generalize l[k] = x at *
        have HM := Lib.hid hm
        clear hm hR hf
        go_wp2_with (go_at_call 196; refine (szWrite_any x _ _ hsz (by omega) (by omega)).mono ?_; rintro e w' ⟨rfl, hb2⟩)
        · have hneg : left - (l.length + wsz (l.take k)) < (x.1.size : Nat) := sz_neg (by assumption)
          have := wsz_le l (k+1)
          have hm := HM.out
          go_ret
          exact ⟨ret_int (by rw [sz_no (t := l.length + wsz l) (by omega)]), bthen hb hb2⟩
        · have hpos : (x.1.size : Nat) ≤ left - (l.length + wsz (l.take k)) := sz_pos (by assumption)
          have hm := HM.out
          go_roundw
          case rel =>
            rw [sz_yes (by omega)]
            exact ⟨k+1, by omega, by go_num, by omega, vint (by omega), bthen hb hb2⟩
          case measure => simp [intOf]; omega
      · obtain rfl : k = l.length := by omega
        rw [List.take_length] at hle
        go_wp2
        go_ret
        exact ⟨ret_int (by rw [sz_yes (by omega), List.take_length]), hb⟩

set_option maxHeartbeats 400000 in
theorem toWrite_any (x : Wri) (w : World)  :
    Calls Try.prog 197 #[.agg #[.string x.1, .int .i64 x.2.1, .bool x.2.2]] w fun e w' => e = .returned (.agg #[.string x.1, .int .i64 x.2.1, .bool x.2.2]) ∧ Below w.heap.size w w' := by
  go_enter Try.func197, Try.ntmps197
  go_wp2
  exact bodyPost_ret (v := .agg #[.string x.1, .int .i64 x.2.1, .bool x.2.2]) (by simp [results, Try.results197, go_sem]) rfl ⟨rfl, (((Below.refl _ _).alloc (Nat.le_refl _) _).alloc (by simp) _).alloc (by simp; omega) _⟩

theorem infoWri : (Try.prog.info? 46).map (fun i => (i.zero, i.size, i.bytes)) = some (some (.agg #[.string ⟨#[]⟩, .int .i64 0, .bool false]), 3, 32) := by kernel_rfl
set_option maxHeartbeats 400000 in
theorem toWriteS_any (A : Option Addr) (l : List Wri) (c : Nat) (w : World) (hn : l.length ≤ 1048576) (hR : Sl encWri 3 w A l) :
    Calls Try.prog 171 #[.slice A l.length c] w fun e w' => ∃ v, e = .returned v ∧ w'.ownsRow w.heap.size 46 3 v l.length (l.flatMap encWri) ∧ Below w.heap.size w w' := by
  obtain ⟨i0, hi, hz0, hz1, hz2⟩ := info_parts infoWri
  have hmk := fun W => run_make_rowN (P := Try.prog) 41 46 i0 _ Try.underlying41 hi hz0 .i64 .i64 l.length l.length (Nat.le_refl _) (by rw [hz2]; omega) (by omega) W
  rw [hz1] at hmk
  go_enter Try.func171, Try.ntmps171
  go_wp2
  go_loopw [4] (fun i wr => ∃ (k : Nat) (cs : Array Value), k ≤ l.length ∧ i = .int .i64 k ∧ Blk wr w.heap.size 46 cs ∧ cs.size = l.length * 3 ∧ Rws encWri 3 cs l k ∧ Below w.heap.size w wr) (fun i _ => l.length - (intOf i).toNat)
  case atStart => exact ⟨0, _, by omega, rfl, Blk.new _ _ _, by simp [size_madeCells], Rws.zero, (Below.refl _ _).alloc (Nat.le_refl _) _⟩
  case round =>
    obtain ⟨k, cs, hk, rfl, hB, hsz, hcs, hb⟩ := hrel
    have HS := Lib.hid hsz
    clear hsz
    by_cases hlt : k < l.length
    · obtain ⟨b, o, rfl, hbl, c0, c1, c2⟩ := Sl.at3 (hR.below hb) hlt
      have hlt' := hB.lt
      have HX : Hid (l[k]? = some l[k]) := List.getElem?_eq_getElem hlt
      have HC := Lib.hid hcs
      generalize l[k] = x at *
      clear hR hcs
      have hs0 : k * 3 < cs.size := by rw [HS.out]; omega
      have hs1 : k * 3 + 1 < cs.size := by rw [HS.out]; omega
      have hs2 : k * 3 + 2 < cs.size := by rw [HS.out]; omega
      go_wp2_with (go_at_call 197; refine (toWrite_any _ _).mono ?_; rintro e w' ⟨rfl, hb2⟩; have hB2 := hB.below hb2 hlt'; have z0 := hB2.frozen (k * 3); have z1 := hB2.frozen (k * 3 + 1); have z2 := hB2.frozen (k * 3 + 2); have y0 := hB2.at_ hs0; have y1 := hB2.at_ hs1; have y2 := hB2.at_ hs2)
      go_roundw
      case rel => exact ⟨k + 1, _, by omega, by go_num, ((hB2.set_ _ _).set_ _ _).set_ _ _, by simp [HS.out], HC.out.step3 HX.out HS.out rfl, (((bthen hb hb2).setCell (Nat.le_refl _) _).setCell (Nat.le_refl _) _).setCell (Nat.le_refl _) _⟩
      case measure => simp [intOf]; omega
    · obtain rfl : k = l.length := by omega
      go_wp2
      go_ret
      exact ⟨_, rfl, own_of_blk hB (Nat.le_refl _) (by unfold maxLen; omega) HS.out (Rws.done encWri_len HS.out hcs), hb⟩
end Go.Proofs.Ytpjkcmmmpgncmaa
