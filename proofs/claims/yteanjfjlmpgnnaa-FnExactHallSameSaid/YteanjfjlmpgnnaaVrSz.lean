/- The laws' helpers on stores: their size, their copies. -/
import Derived.Test.YteanjfjlmpgnnaaRows
import Derived.Test.YteanjfjlmpgnnaaVerC
import Derived.Test.YteanjfjlmpgnnaaLetD
import Derived.Test.YteanjfjlmpgnnaaClone
namespace Go.Proofs.Yteanjfjlmpgnnaa
open Go.RowKit
def vsz (l : List Ver) : Nat := (l.map fun x => x.1.size).sum
theorem vsz_take (l : List Ver) (k : Nat) (h : k < l.length) : vsz (l.take (k+1)) = vsz (l.take k) + l[k].1.size := by
  unfold vsz; rw [List.take_succ_eq_append_getElem h, List.map_append, List.sum_append]; simp
theorem vsz_le (l : List Ver) (k : Nat) : vsz (l.take k) ≤ vsz l := by
  have e : vsz l = vsz (l.take k) + vsz (l.drop k) := by
    unfold vsz; rw [← List.sum_append, ← List.map_append, List.take_append_drop]
  omega
set_option maxHeartbeats 400000 in
theorem szVer_any (x : Ver) (left : Int) (w : World) (hs : x.1.size ≤ maxLen) (h0 : 0 ≤ left) (h1 : left ≤ 1048576) :
    Calls Try.prog 127 #[.agg #[.string x.1, .int .i64 x.2.1, .int .i64 x.2.2.1, .int .i64 x.2.2.2], .int .i64 left] w fun e w' => e = .returned (.int .i64 (sz x.1.size left)) ∧ Below w.heap.size w w' := by
  unfold maxLen at hs
  go_enter Try.func127, Try.ntmps127
  go_wp2
  all_goals
    go_ret
    exact ⟨ret_int (by unfold sz; split <;> omega), (Below.refl _ _).alloc (Nat.le_refl _) _⟩

set_option maxHeartbeats 400000 in
theorem szVerS_any (A : Option Addr) (l : List Ver) (c : Nat) (left : Int) (w : World) (hn : FitsV l) (hR : Sl encVer 4 w A l) (h0 : 0 ≤ left) (h1 : left ≤ 1048576) :
    Calls Try.prog 77 #[.slice A l.length c, .int .i64 left] w fun e w' => e = .returned (.int .i64 (sz (l.length + vsz l) left)) ∧ Below w.heap.size w w' := by
  obtain ⟨hn, hf⟩ := hn
  unfold maxLen at hn
  by_cases hlt : left < l.length
  · go_enter Try.func77, Try.ntmps77
    go_wp2
    go_ret
    exact ⟨ret_int (sz_no (by omega)).symm, Below.refl _ _⟩
  · go_enter Try.func77, Try.ntmps77
    go_wp2
    go_loopw [1, 5] (fun t i wr => ∃ k : Nat, k ≤ l.length ∧ i = .int .i64 k ∧ ((l.length + vsz (l.take k) : Nat) : Int) ≤ left ∧ t = .int .i64 (left - (l.length + vsz (l.take k) : Nat)) ∧ Below w.heap.size w wr) (fun _ i _ => l.length - (intOf i).toNat)
    case atStart => exact ⟨0, by omega, rfl, by simp [vsz]; omega, by simp [vsz], Below.refl _ _⟩
    case round =>
      obtain ⟨k, hk, rfl, hle, rfl, hb⟩ := hrel
      by_cases hlt2 : k < l.length
      · obtain ⟨b, o, rfl, hbl, c0, c1, c2, c3⟩ := Sl.at4 (hR.below hb) hlt2
        have hm := vsz_take l k hlt2
        have hsz := hf l[k] (by simp)
        generalize l[k] = x at *
        have HM := Lib.hid hm
        clear hm hR hf
        go_wp2_with (go_at_call 127; refine (szVer_any x _ _ hsz (by omega) (by omega)).mono ?_; rintro e w' ⟨rfl, hb2⟩)
        · have hneg : left - (l.length + vsz (l.take k)) < (x.1.size : Nat) := sz_neg (by assumption)
          have := vsz_le l (k+1)
          have hm := HM.out
          go_ret
          exact ⟨ret_int (by rw [sz_no (t := l.length + vsz l) (by omega)]), bthen hb hb2⟩
        · have hpos : (x.1.size : Nat) ≤ left - (l.length + vsz (l.take k)) := sz_pos (by assumption)
          have hm := HM.out
          go_roundw
          case rel =>
            rw [sz_yes (by omega)]
            exact ⟨k+1, by omega, by go_num, by omega, vint (by omega), bthen hb hb2⟩
          case measure => simp [intOf]; omega
      · obtain rfl : k = l.length := by omega
        rw [List.take_length] at hle
        go_wp2
        go_ret
        exact ⟨ret_int (by rw [sz_yes (by omega), List.take_length]), hb⟩

set_option maxHeartbeats 400000 in
theorem toVer_any (x : Ver) (w : World)  :
    Calls Try.prog 128 #[.agg #[.string x.1, .int .i64 x.2.1, .int .i64 x.2.2.1, .int .i64 x.2.2.2]] w fun e w' => e = .returned (.agg #[.string x.1, .int .i64 x.2.1, .int .i64 x.2.2.1, .int .i64 x.2.2.2]) ∧ Below w.heap.size w w' := by
  go_enter Try.func128, Try.ntmps128
  go_wp2
  exact bodyPost_ret (v := .agg #[.string x.1, .int .i64 x.2.1, .int .i64 x.2.2.1, .int .i64 x.2.2.2]) (by simp [results, Try.results128, go_sem]) rfl ⟨rfl, (((Below.refl _ _).alloc (Nat.le_refl _) _).alloc (by simp) _).alloc (by simp; omega) _⟩

set_option maxHeartbeats 400000 in
theorem toVerS_any (A : Option Addr) (l : List Ver) (c : Nat) (w : World) (hn : l.length ≤ 1048576) (hR : Sl encVer 4 w A l) :
    Calls Try.prog 78 #[.slice A l.length c] w fun e w' => ∃ v, e = .returned v ∧ w'.ownsRow w.heap.size 92 4 v l.length (l.flatMap encVer) ∧ Below w.heap.size w w' := by
  obtain ⟨i0, hi, hz0, hz1, hz2⟩ := info_parts infoVer
  have hmk := fun W => run_make_rowN (P := Try.prog) 30 92 i0 _ Try.underlying30 hi hz0 .i64 .i64 l.length l.length (Nat.le_refl _) (by rw [hz2]; omega) (by omega) W
  rw [hz1] at hmk
  go_enter Try.func78, Try.ntmps78
  go_wp2
  go_loopw [4] (fun i wr => ∃ (k : Nat) (cs : Array Value), k ≤ l.length ∧ i = .int .i64 k ∧ Blk wr w.heap.size 92 cs ∧ cs.size = l.length * 4 ∧ Rws encVer 4 cs l k ∧ Below w.heap.size w wr) (fun i _ => l.length - (intOf i).toNat)
  case atStart => exact ⟨0, _, by omega, rfl, Blk.new _ _ _, by simp [size_madeCells], Rws.zero, (Below.refl _ _).alloc (Nat.le_refl _) _⟩
  case round =>
    obtain ⟨k, cs, hk, rfl, hB, hsz, hcs, hb⟩ := hrel
    have HS := Lib.hid hsz
    clear hsz
    by_cases hlt : k < l.length
    · obtain ⟨b, o, rfl, hbl, c0, c1, c2, c3⟩ := Sl.at4 (hR.below hb) hlt
      have hlt' := hB.lt
      have HX : Hid (l[k]? = some l[k]) := List.getElem?_eq_getElem hlt
      have HC := Lib.hid hcs
      generalize l[k] = x at *
      clear hR hcs
      have hs0 : k * 4 < cs.size := by rw [HS.out]; omega
      have hs1 : k * 4 + 1 < cs.size := by rw [HS.out]; omega
      have hs2 : k * 4 + 2 < cs.size := by rw [HS.out]; omega
      have hs3 : k * 4 + 3 < cs.size := by rw [HS.out]; omega
      go_wp2_with (go_at_call 128; refine (toVer_any _ _).mono ?_; rintro e w' ⟨rfl, hb2⟩; have hB2 := hB.below hb2 hlt'; have z0 := hB2.frozen (k * 4); have z1 := hB2.frozen (k * 4 + 1); have z2 := hB2.frozen (k * 4 + 2); have z3 := hB2.frozen (k * 4 + 3); have y0 := hB2.at_ hs0; have y1 := hB2.at_ hs1; have y2 := hB2.at_ hs2; have y3 := hB2.at_ hs3)
      go_roundw
      case rel => exact ⟨k + 1, _, by omega, by go_num, (((hB2.set_ _ _).set_ _ _).set_ _ _).set_ _ _, by simp [HS.out], HC.out.step4 HX.out HS.out rfl, ((((bthen hb hb2).setCell (Nat.le_refl _) _).setCell (Nat.le_refl _) _).setCell (Nat.le_refl _) _).setCell (Nat.le_refl _) _⟩
      case measure => simp [intOf]; omega
    · obtain rfl : k = l.length := by omega
      go_wp2
      go_ret
      exact ⟨_, rfl, own_of_blk hB (Nat.le_refl _) (by unfold maxLen; omega) HS.out (Rws.done encVer_len HS.out hcs), hb⟩
set_option maxHeartbeats 400000 in
theorem szVers_any (A : Option Addr) (l : List Ver) (c : Nat) (now left : Int) (w : World) (hn : FitsV l) (hR : Sl encVer 4 w A l) (h0 : 0 ≤ left) (h1 : left ≤ 1048576) :
    Calls Try.prog 39 #[.agg #[.int .i64 now, .slice A l.length c], .int .i64 left] w fun e w' => e = .returned (.int .i64 (sz (l.length + vsz l) left)) ∧ Below w.heap.size w w' := by
  have hb0 := (Below.refl w.heap.size w).alloc (Nat.le_refl _) (.cells #[.int .i64 now, .slice A l.length c] 24)
  have HC := Lib.hid (szVerS_any A l c left _ hn (hR.below hb0) h0 h1)
  clear hR
  generalize hq : sz (l.length + vsz l) left = q at *
  have hq2 : 0 ≤ q ∨ q = -1 := by rw [← hq]; unfold sz; split <;> omega
  clear hq
  go_enter Try.func39, Try.ntmps39
  go_wp2_with fail
  refine HC.out.mono ?_
  rintro e w1 ⟨rfl, hb1⟩
  rcases hq2 with hq2 | rfl
  · have d : decide (q < 0) = false := decide_eq_false (by omega)
    go_wp2
    go_ret
    exact ⟨rfl, bthen hb0 hb1⟩
  · go_wp2
    go_ret
    exact ⟨rfl, bthen hb0 hb1⟩
set_option maxHeartbeats 400000 in
theorem toVers_any (A : Option Addr) (l : List Ver) (c : Nat) (now : Int) (w : World) (hn : l.length ≤ 1048576) (hR : Sl encVer 4 w A l) :
    Calls Try.prog 40 #[.agg #[.int .i64 now, .slice A l.length c]] w fun e w' => ∃ v, e = .returned (.agg #[.int .i64 now, v]) ∧ OwnV w' w.heap.size v l ∧ Below w.heap.size w w' := by
  have hb0 := (((Below.refl w.heap.size w).alloc (Nat.le_refl _) (.cells #[.int .i64 now, .slice A l.length c] 24)).alloc (by simp) (.cells #[.int .i64 0, .slice none 0 0] 32)).alloc (by simp; omega) (.cells #[.int .i64 now, .slice none 0 0] 32)
  have hB1 := ((Blk.new w 24 #[.int .i64 now, .slice A l.length c]).alloc (.cells #[.int .i64 0, .slice none 0 0] 32)).alloc (.cells #[.int .i64 now, .slice none 0 0] 32)
  have hB2 := (Blk.new (w.alloc (.cells #[.int .i64 now, .slice A l.length c] 24)) 32 #[.int .i64 0, .slice none 0 0]).alloc (.cells #[.int .i64 now, .slice none 0 0] 32)
  have hB3 := Blk.new ((w.alloc (.cells #[.int .i64 now, .slice A l.length c] 24)).alloc (.cells #[.int .i64 0, .slice none 0 0] 32)) 32 #[.int .i64 now, .slice none 0 0]
  have hsz : (((w.alloc (.cells #[.int .i64 now, .slice A l.length c] 24)).alloc (.cells #[.int .i64 0, .slice none 0 0] 32)).alloc (.cells #[.int .i64 now, .slice none 0 0] 32)).heap.size = w.heap.size + 3 := by simp
  simp only [World.size_alloc] at hB2 hB3
  go_enter Try.func40, Try.ntmps40
  go_wp2_with fail
  generalize ((w.alloc (.cells #[.int .i64 now, .slice A l.length c] 24)).alloc (.cells #[.int .i64 0, .slice none 0 0] 32)).alloc (.cells #[.int .i64 now, .slice none 0 0] 32) = w0 at *
  refine (toVerS_any A l c w0 hn (hR.below hb0)).mono ?_
  rintro e w1 ⟨v, rfl, hown, hb1⟩
  obtain ⟨A', c', rfl, _, _, hS⟩ := OwnV.sl hown
  have hbb := hb0.trans (hb1.mono (by omega))
  have hC2 := hB2.kept hb1
  have hC3 := hB3.kept hb1
  have x0 : w1.cell? ⟨w.heap.size + 1, 0, none⟩ = some (.int .i64 0) := hC2.cell 0
  have x1 : w1.cell? ⟨w.heap.size + 1, 1, none⟩ = some (.slice none 0 0) := hC2.cell 1
  have y1 : w1.cell? ⟨w.heap.size + 1 + 1, 1, none⟩ = some (.slice none 0 0) := hC3.cell 1
  have z0 := hC2.frozen 0
  have z1 := hC2.frozen 1
  have z2 := hC3.frozen 1
  have hC3' := hC3.set_ 1 (.slice A' l.length c')
  have y2 : (w1.setCell ⟨w.heap.size + 1 + 1, 1, none⟩ (.slice A' l.length c')).cell? ⟨w.heap.size + 1 + 1, 0, none⟩ = some (.int .i64 now) := hC3'.cell 0
  have y3 : (w1.setCell ⟨w.heap.size + 1 + 1, 1, none⟩ (.slice A' l.length c')).cell? ⟨w.heap.size + 1 + 1, 1, none⟩ = some (.slice A' l.length c') := hC3'.cell 1
  have hC2' := hC2.far (p := ⟨w.heap.size + 1 + 1, 1, none⟩) (by simp) (.slice A' l.length c')
  have x0' : (w1.setCell ⟨w.heap.size + 1 + 1, 1, none⟩ (.slice A' l.length c')).cell? ⟨w.heap.size + 1, 0, none⟩ = some (.int .i64 0) := hC2'.cell 0
  have x1' : (w1.setCell ⟨w.heap.size + 1 + 1, 1, none⟩ (.slice A' l.length c')).cell? ⟨w.heap.size + 1, 1, none⟩ = some (.slice none 0 0) := hC2'.cell 1
  have z0' := hC2'.frozen 0
  have z1' := hC2'.frozen 1
  have HOW2 := Lib.hid (show OwnV _ _ _ _ from own_set (own_set (own_set hown (p := ⟨w.heap.size + 1 + 1, 1, none⟩) (by simp; omega) (.slice A' l.length c')) (p := ⟨w.heap.size + 1, 0, none⟩) (by simp; omega) (.int .i64 now)) (p := ⟨w.heap.size + 1, 1, none⟩) (by simp; omega) (.slice A' l.length c'))
  obtain ⟨q0, q1⟩ := hC2'.two (.int .i64 now) (.slice A' l.length c')
  have hbf := ((hbb.setCell (p := ⟨w.heap.size + 1 + 1, 1, none⟩) (by simp; omega) (.slice A' l.length c')).setCell (p := ⟨w.heap.size + 1, 0, none⟩) (by simp) (.int .i64 now)).setCell (p := ⟨w.heap.size + 1, 1, none⟩) (by simp) (.slice A' l.length c')
  clear hS hown hC2 hC3 hC3' hC2'
  go_wp2
  exact bodyPost_ret (v := .agg #[.int .i64 now, .slice A' l.length c']) (by simp [results, Try.results40, go_sem, q0, q1]) rfl ⟨_, rfl, OwnV.le HOW2.out (by omega), hbf⟩
end Go.Proofs.Yteanjfjlmpgnnaa
