/- The laws' helpers on lists of letters: their size, their copies. -/
import Derived.Test.YtbhocdmfmnlniaaDoorRows
import Derived.Test.YtbhocdmfmnlniaaDoorLetD
namespace Go.Proofs.YtbhocdmfmnlniaaDoor
open Go.RowKit
def lsz (l : List Let) : Nat := (l.map fun x => x.1.size + x.2.size).sum
theorem lsz_take (l : List Let) (k : Nat) (h : k < l.length) : lsz (l.take (k+1)) = lsz (l.take k) + (l[k].1.size + l[k].2.size) := by
  unfold lsz; rw [List.take_succ_eq_append_getElem h, List.map_append, List.sum_append]; simp
theorem lsz_le (l : List Let) (k : Nat) : lsz (l.take k) ≤ lsz l := by
  have e : lsz l = lsz (l.take k) + lsz (l.drop k) := by
    unfold lsz; rw [← List.sum_append, ← List.map_append, List.take_append_drop]
  omega

set_option maxHeartbeats 400000 in
theorem szLetter_any (x : Let) (left : Int) (w : World) (hs : x.1.size ≤ maxLen) (hb : x.2.size ≤ maxLen) (h0 : 0 ≤ left) (h1 : left ≤ 1048576) :
    Calls Tryd.prog 7 #[.agg #[.string x.1, .string x.2], .int .i64 left] w fun e w' => e = .returned (.int .i64 (sz (x.1.size + x.2.size) left)) ∧ Below w.heap.size w w' := by
  unfold maxLen at hs hb
  go_enter Tryd.func7, Tryd.ntmps7
  go_wp2
  all_goals
    go_ret
    exact ⟨ret_int (by unfold sz; split <;> omega), (Below.refl _ _).alloc (Nat.le_refl _) _⟩

set_option maxHeartbeats 400000 in
theorem szLetterS_any (A : Option Addr) (l : List Let) (c : Nat) (left : Int) (w : World) (hn : FitsL l) (hR : Sl encLet 2 w A l) (h0 : 0 ≤ left) (h1 : left ≤ 1048576) :
    Calls Tryd.prog 11 #[.slice A l.length c, .int .i64 left] w fun e w' => e = .returned (.int .i64 (sz (l.length + lsz l) left)) ∧ Below w.heap.size w w' := by
  obtain ⟨hn, hf⟩ := hn
  unfold maxLen at hn
  by_cases hlt : left < l.length
  · go_enter Tryd.func11, Tryd.ntmps11
    go_wp2
    go_ret
    exact ⟨ret_int (sz_no (by omega)).symm, Below.refl _ _⟩
  · go_enter Tryd.func11, Tryd.ntmps11
    go_wp2
    go_loopw [1, 5] (fun t i wr => ∃ k : Nat, k ≤ l.length ∧ i = .int .i64 k ∧ ((l.length + lsz (l.take k) : Nat) : Int) ≤ left ∧ t = .int .i64 (left - (l.length + lsz (l.take k) : Nat)) ∧ Below w.heap.size w wr) (fun _ i _ => l.length - (intOf i).toNat)
    case atStart => exact ⟨0, by omega, rfl, by simp [lsz]; omega, by simp [lsz], Below.refl _ _⟩
    case round =>
      obtain ⟨k, hk, rfl, hle, rfl, hb⟩ := hrel
      by_cases hlt2 : k < l.length
      · obtain ⟨b, o, rfl, hbl, c0, c1⟩ := Sl.at2 (hR.below hb) hlt2
        have hm := lsz_take l k hlt2
        obtain ⟨hsz, hsz1⟩ := hf l[k] (by simp)
        generalize l[k] = x at *
        have HM := Lib.hid hm
        clear hm hR hf
        go_wp2_with (go_at_call 7; refine (szLetter_any x _ _ hsz hsz1 (by omega) (by omega)).mono ?_; rintro e w' ⟨rfl, hb2⟩)
        · have hneg : left - (l.length + lsz (l.take k)) < (x.1.size + x.2.size : Nat) := sz_neg (by assumption)
          have := lsz_le l (k+1)
          have hm := HM.out
          go_ret
          exact ⟨ret_int (by rw [sz_no (t := l.length + lsz l) (by omega)]), bthen hb hb2⟩
        · have hpos : (x.1.size + x.2.size : Nat) ≤ left - (l.length + lsz (l.take k)) := sz_pos (by assumption)
          have hm := HM.out
          go_roundw
          case rel =>
            rw [sz_yes (by omega)]
            exact ⟨k+1, by omega, by go_num, by omega, vint (by omega), bthen hb hb2⟩
          case measure => simp [intOf]; omega
      · obtain rfl : k = l.length := by omega
        rw [List.take_length] at hle
        go_wp2
        go_ret
        exact ⟨ret_int (by rw [sz_yes (by omega), List.take_length]), hb⟩

set_option maxHeartbeats 400000 in
theorem toLetter_any (x : Let) (w : World)  :
    Calls Tryd.prog 9 #[.agg #[.string x.1, .string x.2]] w fun e w' => e = .returned (.agg #[.string x.1, .string x.2]) ∧ Below w.heap.size w w' := by
  go_enter Tryd.func9, Tryd.ntmps9
  go_wp2
  exact bodyPost_ret (v := .agg #[.string x.1, .string x.2]) (by simp [results, Tryd.results9, go_sem]) rfl ⟨rfl, (((Below.refl _ _).alloc (Nat.le_refl _) _).alloc (by simp) _).alloc (by simp; omega) _⟩

theorem infoLet : (Tryd.prog.info? 26).map (fun i => (i.zero, i.size, i.bytes)) = some (some (.agg #[.string ⟨#[]⟩, .string ⟨#[]⟩]), 2, 32) := by kernel_rfl
set_option maxHeartbeats 400000 in
theorem toLetterS_any (A : Option Addr) (l : List Let) (c : Nat) (w : World) (hn : l.length ≤ 1048576) (hR : Sl encLet 2 w A l) :
    Calls Tryd.prog 13 #[.slice A l.length c] w fun e w' => ∃ v, e = .returned v ∧ w'.ownsRow w.heap.size 26 2 v l.length (l.flatMap encLet) ∧ Below w.heap.size w w' := by
  obtain ⟨i0, hi, hz0, hz1, hz2⟩ := info_parts infoLet
  have hmk := fun W => run_make_rowN (P := Tryd.prog) 32 26 i0 _ Tryd.underlying32 hi hz0 .i64 .i64 l.length l.length (Nat.le_refl _) (by rw [hz2]; omega) (by omega) W
  rw [hz1] at hmk
  go_enter Tryd.func13, Tryd.ntmps13
  go_wp2
  go_loopw [4] (fun i wr => ∃ (k : Nat) (cs : Array Value), k ≤ l.length ∧ i = .int .i64 k ∧ Blk wr w.heap.size 26 cs ∧ cs.size = l.length * 2 ∧ Rws encLet 2 cs l k ∧ Below w.heap.size w wr) (fun i _ => l.length - (intOf i).toNat)
  case atStart => exact ⟨0, _, by omega, rfl, Blk.new _ _ _, by simp [size_madeCells], Rws.zero, (Below.refl _ _).alloc (Nat.le_refl _) _⟩
  case round =>
    obtain ⟨k, cs, hk, rfl, hB, hsz, hcs, hb⟩ := hrel
    have HS := Lib.hid hsz
    clear hsz
    by_cases hlt : k < l.length
    · obtain ⟨b, o, rfl, hbl, c0, c1⟩ := Sl.at2 (hR.below hb) hlt
      have hlt' := hB.lt
      have HX : Hid (l[k]? = some l[k]) := List.getElem?_eq_getElem hlt
      have HC := Lib.hid hcs
      generalize l[k] = x at *
      clear hR hcs
      have hs0 : k * 2 < cs.size := by rw [HS.out]; omega
      have hs1 : k * 2 + 1 < cs.size := by rw [HS.out]; omega
      go_wp2_with (go_at_call 9; refine (toLetter_any _ _).mono ?_; rintro e w' ⟨rfl, hb2⟩; have hB2 := hB.below hb2 hlt'; have z0 := hB2.frozen (k * 2); have z1 := hB2.frozen (k * 2 + 1); have y0 := hB2.at_ hs0; have y1 := hB2.at_ hs1)
      go_roundw
      case rel => exact ⟨k + 1, _, by omega, by go_num, (hB2.set_ _ _).set_ _ _, by simp [HS.out], HC.out.step2 HX.out HS.out rfl, ((bthen hb hb2).setCell (Nat.le_refl _) _).setCell (Nat.le_refl _) _⟩
      case measure => simp [intOf]; omega
    · obtain rfl : k = l.length := by omega
      go_wp2
      go_ret
      exact ⟨_, rfl, own_of_blk hB (Nat.le_refl _) (by unfold maxLen; omega) HS.out (Rws.done encLet_len HS.out hcs), hb⟩

end Go.Proofs.YtbhocdmfmnlniaaDoor
