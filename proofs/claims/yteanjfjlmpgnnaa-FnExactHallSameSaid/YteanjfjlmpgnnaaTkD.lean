/- Those who talk: what they hold, plain; how it lies in memory; their size. -/
import Derived.Test.YteanjfjlmpgnnaaRows
import Derived.Test.YteanjfjlmpgnnaaWriSz
import Derived.Test.YteanjfjlmpgnnaaWriEq
import Derived.Test.YteanjfjlmpgnnaaLibB
namespace Go.Proofs.Yteanjfjlmpgnnaa
open Go.RowKit
section
variable {α : Type} {enc : α → List Value} {k : Nat} {w w' : World} {A : Option Addr} {l : List α}
theorem Sl.at5 {f g p q r : α → Value} (h : Sl (fun x => [f x, g x, p x, q x, r x]) 5 w A l) {i : Nat} (hi : i < l.length) :
    ∃ b o, A = some ⟨b, o, none⟩ ∧ b < w.heap.size ∧ w.cell? ⟨b, o + i * 5, none⟩ = some (f l[i]) ∧ w.cell? ⟨b, o + i * 5 + 1, none⟩ = some (g l[i]) ∧ w.cell? ⟨b, o + i * 5 + 2, none⟩ = some (p l[i]) ∧
      w.cell? ⟨b, o + i * 5 + 3, none⟩ = some (q l[i]) ∧ w.cell? ⟨b, o + i * 5 + 4, none⟩ = some (r l[i]) := by
  obtain ⟨b, o, rfl, hB, hc⟩ := h (by omega)
  exact ⟨b, o, rfl, hB, hc i 0 _ (List.getElem?_eq_getElem hi) (by omega), hc i 1 _ (List.getElem?_eq_getElem hi) (by omega), hc i 2 _ (List.getElem?_eq_getElem hi) (by omega), hc i 3 _ (List.getElem?_eq_getElem hi) (by omega), hc i 4 _ (List.getElem?_eq_getElem hi) (by omega)⟩
theorem Sl.at8 {f0 f1 f2 f3 f4 f5 f6 f7 : α → Value} (h : Sl (fun x => [f0 x, f1 x, f2 x, f3 x, f4 x, f5 x, f6 x, f7 x]) 8 w A l) {i : Nat} (hi : i < l.length) :
    ∃ b o, A = some ⟨b, o, none⟩ ∧ b < w.heap.size ∧ w.cell? ⟨b, o + i * 8, none⟩ = some (f0 l[i]) ∧ w.cell? ⟨b, o + i * 8 + 1, none⟩ = some (f1 l[i]) ∧ w.cell? ⟨b, o + i * 8 + 2, none⟩ = some (f2 l[i]) ∧
      w.cell? ⟨b, o + i * 8 + 3, none⟩ = some (f3 l[i]) ∧ w.cell? ⟨b, o + i * 8 + 4, none⟩ = some (f4 l[i]) ∧ w.cell? ⟨b, o + i * 8 + 5, none⟩ = some (f5 l[i]) ∧ w.cell? ⟨b, o + i * 8 + 6, none⟩ = some (f6 l[i]) ∧ w.cell? ⟨b, o + i * 8 + 7, none⟩ = some (f7 l[i]) := by
  obtain ⟨b, o, rfl, hB, hc⟩ := h (by omega)
  exact ⟨b, o, rfl, hB, hc i 0 _ (List.getElem?_eq_getElem hi) (by omega), hc i 1 _ (List.getElem?_eq_getElem hi) (by omega), hc i 2 _ (List.getElem?_eq_getElem hi) (by omega), hc i 3 _ (List.getElem?_eq_getElem hi) (by omega), hc i 4 _ (List.getElem?_eq_getElem hi) (by omega), hc i 5 _ (List.getElem?_eq_getElem hi) (by omega), hc i 6 _ (List.getElem?_eq_getElem hi) (by omega), hc i 7 _ (List.getElem?_eq_getElem hi) (by omega)⟩
end
/-- what one may ask: its kind, its keys, its number -/
abbrev AskV : Type := Int × ByteArray × ByteArray × Int
/-- what one may ask by a name -/
abbrev Nm : Type := ByteArray × AskV
def encNm (x : Nm) : List Value := [.string x.1, .int .i64 x.2.1, .string x.2.2.1, .string x.2.2.2.1, .int .i64 x.2.2.2.2]
theorem encNm_len (x : Nm) : (encNm x).length = 5 := rfl
def FitsN (l : List Nm) : Prop := l.length ≤ maxLen ∧ ∀ x ∈ l, x.1.size ≤ maxLen ∧ x.2.2.1.size ≤ maxLen ∧ x.2.2.2.1.size ≤ maxLen
def nsz (l : List Nm) : Nat := (l.map (fun x => x.1.size + (x.2.2.1.size + x.2.2.2.1.size))).sum
theorem nsz_take (l : List Nm) (k : Nat) (h : k < l.length) : nsz (l.take (k + 1)) = nsz (l.take k) + (l[k].1.size + (l[k].2.2.1.size + l[k].2.2.2.1.size)) := by
  unfold nsz; rw [List.take_succ_eq_append_getElem h, List.map_append, List.sum_append]; simp
theorem nsz_le (l : List Nm) (k : Nat) : nsz (l.take k) ≤ nsz l := by
  unfold nsz
  conv => rhs; rw [← List.take_append_drop k l, List.map_append, List.sum_append]
  omega
set_option maxRecDepth 100000 in
set_option maxHeartbeats 1000000 in
theorem szAsk_any (x : AskV) (left : Int) (w : World) (hs : x.2.1.size ≤ maxLen) (hs2 : x.2.2.1.size ≤ maxLen) (h0 : 0 ≤ left) (h1 : left ≤ 1048576) :
    Calls Try.prog 181 #[.agg #[.int .i64 x.1, .string x.2.1, .string x.2.2.1, .int .i64 x.2.2.2], .int .i64 left] w fun e w' => e = .returned (.int .i64 (sz (x.2.1.size + x.2.2.1.size) left)) ∧ Below w.heap.size w w' := by
  obtain ⟨k, a, b, n⟩ := x
  simp only at hs hs2 ⊢
  unfold maxLen at hs hs2
  go_enter Try.func181, Try.ntmps181
  go_wp2
  all_goals
    go_ret
    exact ⟨ret_int (by unfold sz; split <;> omega), (Below.refl _ _).alloc (Nat.le_refl _) _⟩
set_option maxRecDepth 100000 in
set_option maxHeartbeats 1000000 in
theorem szNamed_any (x : Nm) (left : Int) (w : World) (hs : x.1.size ≤ maxLen) (hs2 : x.2.2.1.size ≤ maxLen) (hs3 : x.2.2.2.1.size ≤ maxLen) (h0 : 0 ≤ left) (h1 : left ≤ 1048576) :
    Calls Try.prog 157 #[.agg #[.string x.1, .int .i64 x.2.1, .string x.2.2.1, .string x.2.2.2.1, .int .i64 x.2.2.2.2], .int .i64 left] w fun e w' => e = .returned (.int .i64 (sz (x.1.size + (x.2.2.1.size + x.2.2.2.1.size)) left)) ∧ Below w.heap.size w w' := by
  obtain ⟨nm, k, a, b, n⟩ := x
  simp only at hs hs2 hs3 ⊢
  have hb0 := (Below.refl w.heap.size w).alloc (Nat.le_refl _) (.cells #[.string nm, .int .i64 k, .string a, .string b, .int .i64 n] 211)
  have HQ := Lib.hid (fun W l h h' => szAsk_any (k, a, b, n) l W hs2 hs3 h h')
  unfold maxLen at hs hs2 hs3
  by_cases hlt : left < nm.size
  · go_enter Try.func157, Try.ntmps157
    go_wp2
    go_ret
    exact ⟨ret_int (sz_no (by omega)).symm, hb0⟩
  · have HC := Lib.hid (HQ.out (w.alloc (.cells #[.string nm, .int .i64 k, .string a, .string b, .int .i64 n] 211)) (left - nm.size) (by omega) (by omega))
    generalize hq : sz (a.size + b.size) (left - nm.size) = q at *
    have HE := Lib.hid (show q = sz (nm.size + (a.size + b.size)) left from by rw [← hq]; unfold sz; split <;> split <;> omega)
    have hq2 : 0 ≤ q ∨ q = -1 := by rw [← hq]; unfold sz; split <;> omega
    clear hq HQ
    go_enter Try.func157, Try.ntmps157
    go_wp2_with fail
    refine HC.out.mono ?_
    rintro e w1 ⟨rfl, hb1⟩
    rcases hq2 with hq2 | rfl
    · have d : decide (q < 0) = false := decide_eq_false (by omega)
      go_wp2
      go_ret
      exact ⟨ret_int HE.out, bthen hb0 hb1⟩
    · go_wp2
      go_ret
      exact ⟨ret_int HE.out, bthen hb0 hb1⟩
set_option maxRecDepth 100000 in
set_option maxHeartbeats 1000000 in
theorem szNamedS_any (A : Option Addr) (l : List Nm) (c : Nat) (left : Int) (w : World) (hn : FitsN l) (hR : Sl encNm 5 w A l) (h0 : 0 ≤ left) (h1 : left ≤ 1048576) :
    Calls Try.prog 133 #[.slice A l.length c, .int .i64 left] w fun e w' => e = .returned (.int .i64 (sz (l.length + nsz l) left)) ∧ Below w.heap.size w w' := by
  obtain ⟨hn, hf⟩ := hn
  unfold maxLen at hn
  by_cases hlt : left < l.length
  · go_enter Try.func133, Try.ntmps133
    go_wp2
    go_ret
    exact ⟨ret_int (sz_no (by omega)).symm, Below.refl _ _⟩
  · go_enter Try.func133, Try.ntmps133
    go_wp2
    go_loopw [1, 5] (fun t i wr => ∃ k : Nat, k ≤ l.length ∧ i = .int .i64 k ∧ ((l.length + nsz (l.take k) : Nat) : Int) ≤ left ∧ t = .int .i64 (left - (l.length + nsz (l.take k) : Nat)) ∧ Below w.heap.size w wr) (fun _ i _ => l.length - (intOf i).toNat)
    case atStart => exact ⟨0, by omega, rfl, by simp [nsz]; omega, by simp [nsz], Below.refl _ _⟩
    case round =>
      obtain ⟨k, hk, rfl, hle, rfl, hb⟩ := hrel
      by_cases hlt2 : k < l.length
      · obtain ⟨b, o, rfl, hbl, c0, c1, c2, c3, c4⟩ := Sl.at5 (hR.below hb) hlt2
        have hm := nsz_take l k hlt2
        have hsz := hf l[k] (by simp)
        generalize l[k] = x at *
        have HM := Lib.hid hm
        clear hm hR hf
        obtain ⟨xn, xk, xa, xb, xm⟩ := x
        simp only at c0 c1 c2 c3 c4 hsz
        go_wp2_with (go_at_call 157; refine (szNamed_any (xn, xk, xa, xb, xm) _ _ hsz.1 hsz.2.1 hsz.2.2 (by omega) (by omega)).mono ?_; rintro e w' ⟨rfl, hb2⟩)
        · have hneg : left - (l.length + nsz (l.take k)) < (xn.size + (xa.size + xb.size) : Nat) := sz_neg (by assumption)
          have := nsz_le l (k+1)
          have hm := HM.out
          go_ret
          exact ⟨ret_int (by rw [sz_no (t := l.length + nsz l) (by omega)]), bthen hb hb2⟩
        · have hpos : (xn.size + (xa.size + xb.size) : Nat) ≤ left - (l.length + nsz (l.take k)) := sz_pos (by assumption)
          have hm := HM.out
          go_roundw
          case rel =>
            rw [sz_yes (by omega)]
            exact ⟨k+1, by omega, by go_num, by omega, vint (by omega), bthen hb hb2⟩
          case measure => simp [intOf]; omega
      · obtain rfl : k = l.length := by omega
        rw [List.take_length] at hle
        go_wp2
        go_ret
        exact ⟨ret_int (by rw [sz_yes (by omega), List.take_length]), hb⟩
end Go.Proofs.Yteanjfjlmpgnnaa
