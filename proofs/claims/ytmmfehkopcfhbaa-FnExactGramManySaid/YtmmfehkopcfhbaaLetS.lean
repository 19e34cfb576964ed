/- Contracts of the laws' own helpers on lists of letters: their size, their copies, their equality. -/
import Derived.Test.YtmmfehkopcfhbaaRows
import Derived.Test.YtmmfehkopcfhbaaLib
namespace Go.Proofs.Ytmmfehkopcfhbaa
open Go.RowKit
abbrev Let : Type := ByteArray × ByteArray
def encLet (x : Let) : List Value := [.string x.1, .string x.2]
abbrev vLet (x : Let) : Value := .agg #[.string x.1, .string x.2]
theorem encLet_len (x : Let) : (encLet x).length = 2 := rfl
def sz (tot : Nat) (left : Int) : Int := if (tot : Int) ≤ left then left - tot else -1
theorem sz_neg {t : Nat} {a : Int} (h : sz t a < 0) : a < t := by unfold sz at h; split at h <;> omega
theorem sz_pos {t : Nat} {a : Int} (h : 0 ≤ sz t a) : (t : Int) ≤ a := by unfold sz at h; split at h <;> omega
theorem sz_no {t : Nat} {a : Int} (h : a < t) : sz t a = -1 := by unfold sz; rw [if_neg (by omega)]
theorem sz_yes {t : Nat} {a : Int} (h : (t : Int) ≤ a) : sz t a = a - t := by unfold sz; rw [if_pos h]
def lsz (l : List Let) : Nat := (l.map fun x => x.1.size + x.2.size).sum
theorem lsz_take (l : List Let) (k : Nat) (h : k < l.length) : lsz (l.take (k+1)) = lsz (l.take k) + (l[k].1.size + l[k].2.size) := by
  unfold lsz; rw [List.take_succ_eq_append_getElem h, List.map_append, List.sum_append]; simp
theorem lsz_le (l : List Let) (k : Nat) : lsz (l.take k) ≤ lsz l := by
  have e : lsz l = lsz (l.take k) + lsz (l.drop k) := by
    unfold lsz; rw [← List.sum_append, ← List.map_append, List.take_append_drop]
  omega
def FitsL (l : List Let) : Prop := l.length ≤ maxLen ∧ ∀ x ∈ l, x.1.size ≤ maxLen ∧ x.2.size ≤ maxLen

set_option maxHeartbeats 400000 in
theorem szLetter_any (x : Let) (left : Int) (w : World) (hs : x.1.size ≤ maxLen) (hb : x.2.size ≤ maxLen) (h0 : 0 ≤ left) (h1 : left ≤ 1048576) :
    Calls Try.prog 16 #[.agg #[.string x.1, .string x.2], .int .i64 left] w fun e w' => e = .returned (.int .i64 (sz (x.1.size + x.2.size) left)) ∧ Below w.heap.size w w' := by
  unfold maxLen at hs hb
  go_enter Try.func16, Try.ntmps16
  go_wp2
  all_goals
    go_ret
    exact ⟨ret_int (by unfold sz; split <;> omega), (Below.refl _ _).alloc (Nat.le_refl _) _⟩

set_option maxHeartbeats 400000 in
theorem szLetterS_any (A : Option Addr) (l : List Let) (c : Nat) (left : Int) (w : World) (hn : FitsL l) (hR : Sl encLet 2 w A l) (h0 : 0 ≤ left) (h1 : left ≤ 1048576) :
    Calls Try.prog 5 #[.slice A l.length c, .int .i64 left] w fun e w' => e = .returned (.int .i64 (sz (l.length + lsz l) left)) ∧ Below w.heap.size w w' := by
  obtain ⟨hn, hf⟩ := hn
  unfold maxLen at hn
  by_cases hlt : left < l.length
  · go_enter Try.func5, Try.ntmps5
    go_wp2
    go_ret
    exact ⟨ret_int (sz_no (by omega)).symm, Below.refl _ _⟩
  · go_enter Try.func5, Try.ntmps5
    go_wp2
    go_loopw [1, 5] (fun t i wr => ∃ k : Nat, k ≤ l.length ∧ i = .int .i64 k ∧ ((l.length + lsz (l.take k) : Nat) : Int) ≤ left ∧ t = .int .i64 (left - (l.length + lsz (l.take k) : Nat)) ∧ Below w.heap.size w wr) (fun _ i _ => l.length - (intOf i).toNat)
    case atStart => exact ⟨0, by omega, rfl, by simp [lsz]; omega, by simp [lsz], Below.refl _ _⟩
    case round =>
      obtain ⟨k, hk, rfl, hle, rfl, hb⟩ := hrel
      by_cases hlt2 : k < l.length
      · obtain ⟨b, o, rfl, hbl, c0, c1⟩ := Sl.at2 (hR.below hb) hlt2
        have hm := lsz_take l k hlt2
        obtain ⟨hsz, hsz1⟩ := hf l[k] (by simp)
        generalize l[k] = x at *
        have HM := Lib.hid hm
        clear hm hR hf
        go_wp2_with (go_at_call 16; refine (szLetter_any x _ _ hsz hsz1 (by omega) (by omega)).mono ?_; rintro e w' ⟨rfl, hb2⟩)
        · have hneg : left - (l.length + lsz (l.take k)) < (x.1.size + x.2.size : Nat) := sz_neg (by assumption)
          have := lsz_le l (k+1)
          have hm := HM.out
          go_ret
          exact ⟨ret_int (by rw [sz_no (t := l.length + lsz l) (by omega)]), bthen hb hb2⟩
        · have hpos : (x.1.size + x.2.size : Nat) ≤ left - (l.length + lsz (l.take k)) := sz_pos (by assumption)
          have hm := HM.out
          go_roundw
          case rel =>
            rw [sz_yes (by omega)]
            exact ⟨k+1, by omega, by go_num, by omega, vint (by omega), bthen hb hb2⟩
          case measure => simp [intOf]; omega
      · obtain rfl : k = l.length := by omega
        rw [List.take_length] at hle
        go_wp2
        go_ret
        exact ⟨ret_int (by rw [sz_yes (by omega), List.take_length]), hb⟩

set_option maxHeartbeats 400000 in
theorem toLetter_any (x : Let) (w : World)  :
    Calls Try.prog 17 #[.agg #[.string x.1, .string x.2]] w fun e w' => e = .returned (.agg #[.string x.1, .string x.2]) ∧ Below w.heap.size w w' := by
  go_enter Try.func17, Try.ntmps17
  go_wp2
  exact bodyPost_ret (v := .agg #[.string x.1, .string x.2]) (by simp [results, Try.results17, go_sem]) rfl ⟨rfl, (((Below.refl _ _).alloc (Nat.le_refl _) _).alloc (by simp) _).alloc (by simp; omega) _⟩

theorem infoLet : (Try.prog.info? 44).map (fun i => (i.zero, i.size, i.bytes)) = some (some (.agg #[.string ⟨#[]⟩, .string ⟨#[]⟩]), 2, 32) := by kernel_rfl
set_option maxHeartbeats 400000 in
theorem toLetterS_any (A : Option Addr) (l : List Let) (c : Nat) (w : World) (hn : l.length ≤ 1048576) (hR : Sl encLet 2 w A l) :
    Calls Try.prog 7 #[.slice A l.length c] w fun e w' => ∃ v, e = .returned v ∧ w'.ownsRow w.heap.size 44 2 v l.length (l.flatMap encLet) ∧ Below w.heap.size w w' := by
  obtain ⟨i0, hi, hz0, hz1, hz2⟩ := info_parts infoLet
  have hmk := fun W => run_make_rowN (P := Try.prog) 26 44 i0 _ Try.underlying26 hi hz0 .i64 .i64 l.length l.length (Nat.le_refl _) (by rw [hz2]; omega) (by omega) W
  rw [hz1] at hmk
  go_enter Try.func7, Try.ntmps7
  go_wp2
  go_loopw [4] (fun i wr => ∃ (k : Nat) (cs : Array Value), k ≤ l.length ∧ i = .int .i64 k ∧ Blk wr w.heap.size 44 cs ∧ cs.size = l.length * 2 ∧ Rws encLet 2 cs l k ∧ Below w.heap.size w wr) (fun i _ => l.length - (intOf i).toNat)
  case atStart => exact ⟨0, _, by omega, rfl, Blk.new _ _ _, by simp [size_madeCells], Rws.zero, (Below.refl _ _).alloc (Nat.le_refl _) _⟩
  case round =>
    obtain ⟨k, cs, hk, rfl, hB, hsz, hcs, hb⟩ := hrel
    have HS := Lib.hid hsz
    clear hsz
    by_cases hlt : k < l.length
    · obtain ⟨b, o, rfl, hbl, c0, c1⟩ := Sl.at2 (hR.below hb) hlt
      have hlt' := hB.lt
      have HX : Hid (l[k]? = some l[k]) := List.getElem?_eq_getElem hlt
      have HC := Lib.hid hcs
      generalize l[k] = x at *
      clear hR hcs
      have hs0 : k * 2 < cs.size := by rw [HS.out]; omega
      have hs1 : k * 2 + 1 < cs.size := by rw [HS.out]; omega
      go_wp2_with (go_at_call 17; refine (toLetter_any _ _).mono ?_; rintro e w' ⟨rfl, hb2⟩; have hB2 := hB.below hb2 hlt'; have z0 := hB2.frozen (k * 2); have z1 := hB2.frozen (k * 2 + 1); have y0 := hB2.at_ hs0; have y1 := hB2.at_ hs1)
      go_roundw
      case rel => exact ⟨k + 1, _, by omega, by go_num, (hB2.set_ _ _).set_ _ _, by simp [HS.out], HC.out.step2 HX.out HS.out rfl, ((bthen hb hb2).setCell (Nat.le_refl _) _).setCell (Nat.le_refl _) _⟩
      case measure => simp [intOf]; omega
    · obtain rfl : k = l.length := by omega
      go_wp2
      go_ret
      exact ⟨_, rfl, own_of_blk hB (Nat.le_refl _) (by unfold maxLen; omega) HS.out (Rws.done encLet_len HS.out hcs), hb⟩

set_option maxHeartbeats 400000 in
theorem eqLetter_any (x y : Let) (w : World)  :
    Calls Try.prog 18 #[.agg #[.string x.1, .string x.2], .agg #[.string y.1, .string y.2]] w fun e w' => e = .returned (.bool (eqB x y)) ∧ Below w.heap.size w w' := by
  have hbl : Below w.heap.size w ((w.alloc (.cells #[.string x.1, .string x.2] 44)).alloc (.cells #[.string y.1, .string y.2] 44)) := ((Below.refl _ _).alloc (Nat.le_refl _) _).alloc (by simp) _
  go_enter Try.func18, Try.ntmps18
  go_wp2
  all_goals
    go_ret
    refine ⟨ret_bool ?_, hbl⟩
    simp_all [eqB, bytes_beq, Prod.ext_iff]

theorem list_ne_at {α : Type} {l l2 : List α} {k : Nat} (h : k < l.length) (h2 : k < l2.length) (hne : l[k] ≠ l2[k]) : l ≠ l2 := by
  rintro rfl; exact hne rfl
set_option maxHeartbeats 400000 in
theorem eqLetterS_any (A A2 : Option Addr) (l l2 : List Let) (c c2 : Nat) (w : World) (hn : l.length ≤ maxLen) (hn2 : l2.length ≤ maxLen) (hR : Sl encLet 2 w A l) (hR2 : Sl encLet 2 w A2 l2) :
    Calls Try.prog 9 #[.slice A l.length c, .slice A2 l2.length c2] w fun e w' => e = .returned (.bool (eqB l l2)) ∧ Below w.heap.size w w' := by
  unfold maxLen at hn hn2
  by_cases hlt : l.length = l2.length
  · have hlb : (((l.length : Int) != (l2.length : Int)) = false) := by simp [hlt]
    have HL := Lib.hid hlt
    clear hlt
    go_enter Try.func9, Try.ntmps9
    go_wp2
    go_loopw [5] (fun i wr => ∃ k : Nat, k ≤ l.length ∧ i = .int .i64 k ∧ l.take k = l2.take k ∧ Below w.heap.size w wr) (fun i _ => l.length - (intOf i).toNat)
    case atStart => exact ⟨0, by omega, rfl, rfl, Below.refl _ _⟩
    case round =>
      obtain ⟨k, hk, rfl, he, hb⟩ := hrel
      have HE := Lib.hid he
      clear he
      by_cases hlt2 : k < l.length
      · have h2 : k < l2.length := HL.out ▸ hlt2
        obtain ⟨b, o, rfl, hbl, c0, c1⟩ := Sl.at2 (hR.below hb) hlt2
        obtain ⟨b2, o2, rfl, hbl2, d0, d1⟩ := Sl.at2 (hR2.below hb) h2
        generalize hx : l[k] = x at *
        generalize hy : l2[k] = y at *
        have HX := Lib.hid hx
        have HY := Lib.hid hy
        clear hx hy hR hR2
        go_wp2_with fail
        refine wp_region_below (by kernel_rfl) (by kernel_rfl) ?_
        iterate 10 (refine wpQuiet_step (fun K hK => ?_); go_simp; apply Exists.intro; refine ⟨fun W hW => ?_, hK _ ?_⟩; (first | rfl | (go_at_call 18; exact quiet_call hW (Nat.le_refl _) (eqLetter_any x y _)) | (have e0 := (hW.cell (p := ⟨b, o + k * 2, none⟩) hbl).trans c0; have e1 := (hW.cell (p := ⟨b, o + k * 2 + 1, none⟩) hbl).trans c1; have f0 := (hW.cell (p := ⟨b2, o2 + k * 2, none⟩) hbl2).trans d0; have f1 := (hW.cell (p := ⟨b2, o2 + k * 2 + 1, none⟩) hbl2).trans d1; go_simp; rfl)); clear hK K)
        refine wpQuiet_nil ?_
        intro W hW
        have hb' := bthen hb hW
        go_wp2
        · have hxy := eqB_ne (x := x) (y := y) (by assumption)
          go_ret
          exact ⟨ret_bool (eqB_no (list_ne_at hlt2 h2 (by rw [HX.out, HY.out]; exact hxy))).symm, hb'⟩
        · have HXY := Lib.hid (eqB_eq (x := x) (y := y) (by assumption))
          go_roundw
          case rel => exact ⟨k+1, by omega, by go_num, by rw [List.take_succ_eq_append_getElem hlt2, List.take_succ_eq_append_getElem h2, HE.out, HX.out, HY.out, HXY.out], hb'⟩
          case measure => simp [intOf]; omega
      · obtain rfl : k = l.length := by omega
        go_wp2
        go_ret
        exact ⟨ret_bool (eqB_yes (by rw [← List.take_length (l := l), HE.out, HL.out, List.take_length])).symm, hb⟩
  · have hlb : (((l.length : Int) != (l2.length : Int)) = true) := by simp; omega
    have HL := Lib.hid hlt
    clear hlt
    go_enter Try.func9, Try.ntmps9
    go_wp2
    go_ret
    exact ⟨ret_bool (eqB_no (by rintro rfl; exact HL.out rfl)).symm, Below.refl _ _⟩
end Go.Proofs.Ytmmfehkopcfhbaa
