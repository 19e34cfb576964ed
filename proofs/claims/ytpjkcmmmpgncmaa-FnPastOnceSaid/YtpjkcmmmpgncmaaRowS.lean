/- The program's RowsGet: rows in order, a binary search with strings.Compare. The program's RowsGet: the binary search. -/
import Derived.Test.YtpjkcmmmpgncmaaOrd
import Derived.Test.YtpjkcmmmpgncmaaWrtOk
import Derived.Test.YtpjkcmmmpgncmaaVerP
import Derived.Test.YtpjkcmmmpgncmaaImplAt
import Derived.Lib.Bytealg
import Derived.Lib.Strings
import Derived.Lib.Slices
import Derived.Lib.Walk
namespace Go.Proofs.Ytpjkcmmmpgncmaa
open Go.RowKit
set_option maxHeartbeats 1000000 in
set_option maxRecDepth 100000 in
theorem bytealgCompare_any (a b : ByteArray) (w : World) :
    Calls Try.prog 144 #[.string a, .string b] w fun e w' => e = .returned (.int .i64 (Lib.compareBytes a.data.toList b.data.toList)) ∧ w' = w := by
  go_enter Try.func144, Try.ntmps144
  go_wp2
  rw [run_callFunc_extern Try.func168 (by kernel_rfl) (by kernel_rfl) (by kernel_rfl) (e := Extern.BytealgCompare.compare) (by kernel_rfl), Lib.run_compareString]
  simp only [Result.andThen]
  rw [Oper.upon_value]
  go_wp2
  go_ret
  exact ⟨rfl, rfl⟩
theorem stringsCompare_any (a b : ByteArray) (w : World) :
    Calls Try.prog 115 #[.string a, .string b] w fun e w' => e = .returned (.int .i64 (Lib.compareBytes a.data.toList b.data.toList)) ∧ w' = w := by
  go_enter Try.func115, Try.ntmps115
  go_wp2_with (go_at_call 144; refine (bytealgCompare_any _ _ _).mono ?_; rintro e w' ⟨rfl, rfl⟩)
  go_ret
  exact ⟨rfl, rfl⟩
theorem cmpB_lt : ∀ (a b : List UInt8), Lib.compareBytes a b < 0 ↔ Op.bytesLess a b = true
  | [], [] => by simp [Lib.compareBytes, bl_nil]
  | [], b :: bs => by simp [Lib.compareBytes, Op.bytesLess]
  | a :: ar, [] => by simp [Lib.compareBytes, bl_nil]
  | a :: ar, b :: br => by
    rw [bl_cons]
    unfold Lib.compareBytes
    have ih := cmpB_lt ar br
    by_cases h1 : a < b
    · rw [if_pos h1]
      have : a.toNat < b.toNat := h1
      simp [this]
    · rw [if_neg h1]
      have h1' : ¬ a.toNat < b.toNat := h1
      by_cases h2 : b < a
      · rw [if_pos h2]
        have h3 : b.toNat < a.toNat := h2
        have h4 : a ≠ b := fun e => by subst e; omega
        simp [h1', h4]
      · rw [if_neg h2]
        have h2' : ¬ b.toNat < a.toNat := h2
        have h4 : a = b := UInt8.toNat_inj.1 (by omega)
        rw [ih]
        simp [h4]
theorem cmpB_eq : ∀ (a b : List UInt8), Lib.compareBytes a b = 0 ↔ a = b
  | [], [] => by simp [Lib.compareBytes]
  | [], b :: bs => by simp [Lib.compareBytes]
  | a :: ar, [] => by simp [Lib.compareBytes]
  | a :: ar, b :: br => by
    unfold Lib.compareBytes
    have ih := cmpB_eq ar br
    by_cases h1 : a < b
    · rw [if_pos h1]
      have : a.toNat < b.toNat := h1
      have h4 : a ≠ b := fun e => by subst e; omega
      simp [h4]
    · rw [if_neg h1]
      have h1' : ¬ a.toNat < b.toNat := h1
      by_cases h2 : b < a
      · rw [if_pos h2]
        have h3 : b.toNat < a.toNat := h2
        have h4 : a ≠ b := fun e => by subst e; omega
        simp [h4]
      · rw [if_neg h2]
        have h2' : ¬ b.toNat < a.toNat := h2
        have h4 : a = b := UInt8.toNat_inj.1 (by omega)
        rw [ih]
        simp [h4]
def rowB (x : Row) : Bool := keyB x.1 && numB x.2
theorem rowKey_any (x : Row) (w : World) :
    Calls Try.prog 69 #[.agg #[.string x.1, .int .i64 x.2]] w fun e w' => e = .returned (.string x.1) ∧ Below w.heap.size w w' := by
  have hbw : ∀ o, Below w.heap.size w (w.alloc o) := fun o => (Below.refl _ _).alloc (Nat.le_refl _) _
  go_enter Try.func69, Try.ntmps69
  go_wp2
  go_ret
  exact ⟨rfl, hbw _⟩
def ascRP (l : List Row) (k : Nat) : Prop := ∀ (i : Nat) (x y : Row), i + 1 < k → l[i]? = some x → l[i + 1]? = some y → ltB x.1 y.1 = true
open Classical in
noncomputable def ascR (l : List Row) : Bool := decide (ascRP l l.length)
theorem ascR_yes {l : List Row} (h : ascRP l l.length) : ascR l = true := by unfold ascR; simpa using h
theorem ascR_no {l : List Row} (h : ¬ ascRP l l.length) : ascR l = false := by unfold ascR; simpa using h
theorem Sl.at2R {w : World} {A : Option Addr} {l : List Row} (h : Sl encRow 2 w A l) {i : Nat} (hi : i < l.length) : ∃ b o, A = some ⟨b, o, none⟩ ∧ b < w.heap.size ∧ w.cell? ⟨b, o + i * 2, none⟩ = some (.string l[i].1) ∧ w.cell? ⟨b, o + i * 2 + 1, none⟩ = some (.int .i64 l[i].2) := by
  obtain ⟨b, o, e, hb, hc⟩ := h (by omega)
  exact ⟨b, o, e, hb, hc i 0 l[i] (List.getElem?_eq_getElem hi) (by decide), hc i 1 l[i] (List.getElem?_eq_getElem hi) (by decide)⟩
set_option maxHeartbeats 1000000 in
theorem ascendingR_any (A : Option Addr) (l : List Row) (c : Nat) (w : World) (hn : l.length ≤ 1048576) (hR : Sl encRow 2 w A l) :
    Calls Try.prog 112 #[.slice A l.length c, .func (.func 69) #[] #[]] w fun e w' => e = .returned (.bool (ascR l)) ∧ Below w.heap.size w w' := by
  go_enter Try.func112, Try.ntmps112
  go_wp2
  go_loopw [5] (fun i wr => ∃ k : Nat, 1 ≤ k ∧ (k ≤ l.length ∨ k = 1) ∧ i = .int .i64 k ∧ ascRP l k ∧ Below w.heap.size w wr) (fun i _ => l.length - (intOf i).toNat)
  case atStart => exact ⟨1, by omega, .inr rfl, rfl, fun i x y h => absurd h (by omega), Below.refl _ _⟩
  case round =>
    obtain ⟨k, hk1, hk, rfl, hasc, hb⟩ := hrel
    have HA := Lib.hid hasc
    clear hasc
    by_cases hlt : k < l.length
    · obtain ⟨m, rfl⟩ : ∃ m, k = m + 1 := ⟨k - 1, by omega⟩
      obtain ⟨b, o, rfl, hbl, c0, c1⟩ := Sl.at2R (hR.below hb) (show m < l.length by omega)
      obtain ⟨b', o', e', _, d0, d1⟩ := Sl.at2R (hR.below hb) hlt
      simp at e'
      obtain ⟨rfl, rfl⟩ := e'
      have HX := Lib.hid (List.getElem?_eq_getElem (show m < l.length by omega))
      have HY := Lib.hid (List.getElem?_eq_getElem hlt)
      generalize l[m] = x at *
      generalize l[m + 1] = y at *
      have e0 : ((m + 1 : Nat) : Int) - 1 = (m : Int) := by omega
      have e0' : (m : Int) + 1 - 1 = (m : Int) := by omega
      have hml : (m : Int) < l.length := by omega
      have hml2 : (m : Int) + 1 < l.length := by omega
      have hml3 : (0 : Int) ≤ (m : Int) + 1 := by omega
      have hwm : IntKind.i64.wrap (m : Int) = (m : Int) := by rw [IntKind.wrap_i64]; omega
      cases hq : ltB x.1 y.1
      · have hge : (!(Op.bytesLess x.1.toList y.1.toList)) = true := by rw [show Op.bytesLess x.1.toList y.1.toList = false from hq]; rfl
        go_wp2_with fail
        refine wp_region_below (by kernel_rfl) (by kernel_rfl) ?_
        iterate 14 (refine wpQuiet_step (fun K hK => ?_); go_simp; first | (apply Exists.intro; refine ⟨fun W hW => ?_, hK _ ?_⟩; (first | rfl | (go_at_call 69; exact quiet_call hW (Nat.le_refl _) (rowKey_any _ _)) | (have e0 := (hW.cell (p := ⟨b, o + m * 2, none⟩) hbl).trans c0; have e1 := (hW.cell (p := ⟨b, o + m * 2 + 1, none⟩) hbl).trans c1; have f0 := (hW.cell (p := ⟨b, o + (m + 1) * 2, none⟩) hbl).trans d0; have f1 := (hW.cell (p := ⟨b, o + (m + 1) * 2 + 1, none⟩) hbl).trans d1; go_simp; rfl)); clear hK K) | (refine hK _ ?_; clear hK K))
        refine wpQuiet_nil ?_
        intro W hW
        have hb' := bthen hb hW
        go_wp2
        go_ret
        exact ⟨ret_bool (ascR_no (fun h => by have := h m x y (by omega) HX.out HY.out; rw [hq] at this; cases this)).symm, hb'⟩
      · have hge : (!(Op.bytesLess x.1.toList y.1.toList)) = false := by rw [show Op.bytesLess x.1.toList y.1.toList = true from hq]; rfl
        go_wp2_with fail
        refine wp_region_below (by kernel_rfl) (by kernel_rfl) ?_
        iterate 14 (refine wpQuiet_step (fun K hK => ?_); go_simp; first | (apply Exists.intro; refine ⟨fun W hW => ?_, hK _ ?_⟩; (first | rfl | (go_at_call 69; exact quiet_call hW (Nat.le_refl _) (rowKey_any _ _)) | (have e0 := (hW.cell (p := ⟨b, o + m * 2, none⟩) hbl).trans c0; have e1 := (hW.cell (p := ⟨b, o + m * 2 + 1, none⟩) hbl).trans c1; have f0 := (hW.cell (p := ⟨b, o + (m + 1) * 2, none⟩) hbl).trans d0; have f1 := (hW.cell (p := ⟨b, o + (m + 1) * 2 + 1, none⟩) hbl).trans d1; go_simp; rfl)); clear hK K) | (refine hK _ ?_; clear hK K))
        refine wpQuiet_nil ?_
        intro W hW
        have hb' := bthen hb hW
        go_wp2
        go_roundw
        case rel => exact ⟨m + 1 + 1, by omega, .inl (by omega), by go_num, fun i x' y' h h1 h2 => by
          by_cases him : i + 1 < m + 1
          · exact HA.out i x' y' him h1 h2
          · obtain rfl : i = m := by omega
            rw [HX.out] at h1; rw [HY.out] at h2
            injection h1 with h1; injection h2 with h2
            subst h1; subst h2; exact hq, hb'⟩
        case measure => simp [intOf]; omega
    · go_wp2
      go_ret
      exact ⟨ret_bool (ascR_yes (fun i x y h => HA.out i x y (by omega))).symm, hb⟩
open Classical in
noncomputable def rowsB (l : List Row) : Bool := decide (l.length ≤ 10 ∧ (∀ x ∈ l, rowB x = true) ∧ ascR l = true)
set_option maxRecDepth 100000 in
set_option maxHeartbeats 2000000 in
theorem implRowsOk_any (A : Option Addr) (l : List Row) (c : Nat) (w : World) (hf : ∀ x ∈ l, x.1.size ≤ maxLen) (hn : l.length ≤ 1048576) (hR : Sl encRow 2 w A l) :
    Calls Try.prog 67 #[.slice A l.length c] w fun e w' => e = .returned (.bool (rowsB l)) ∧ Below w.heap.size w w' := by
  go_enter Try.func67, Try.ntmps67
  by_cases h10 : 10 < l.length
  · have d0 : decide ((10 : Int) < (l.length : Int)) = true := decide_eq_true (by omega)
    have HNO := Lib.hid (show rowsB l = false by unfold rowsB; simp; omega)
    go_wp2
    go_ret
    exact ⟨ret_bool HNO.out.symm, Below.refl _ _⟩
  have d0 : decide ((10 : Int) < (l.length : Int)) = false := decide_eq_false (by omega)
  have h10' : l.length ≤ 10 := by omega
  have HF := Lib.hid hf
  have HRA := Lib.hid hR
  clear h10 hf hR
  go_wp2
  go_loopw [10] (fun i wr => ∃ k : Nat, k ≤ l.length ∧ i = .int .i64 k ∧ Hid (∀ (j : Nat) (x : Row), j < k → l[j]? = some x → rowB x = true) ∧ Below w.heap.size w wr) (fun i _ => l.length - (intOf i).toNat)
  case atStart => exact ⟨0, by omega, rfl, fun j x h => absurd h (by omega), Below.refl _ _⟩
  case round =>
    obtain ⟨k, hk, rfl, HK, hb⟩ := hrel
    by_cases hlt : k < l.length
    · obtain ⟨b, o, rfl, hbl, c0, c1⟩ := Sl.at2R (HRA.out.below hb) hlt
      have hx := HF.out _ (List.getElem_mem hlt)
      have HX := Lib.hid (List.getElem?_eq_getElem hlt)
      have HM := Lib.hid (List.getElem_mem hlt)
      generalize l[k] = x at *
      obtain ⟨xk, xn⟩ := x
      simp only at c0 c1 hx
      have hki : (k : Int) < (l.length : Int) := by omega
      have hba := (Below.refl wr.heap.size wr).alloc (Nat.le_refl _) (.cells #[.string xk, .int .i64 xn] 111)
      have hB4 := Blk.new wr 111 #[.string xk, .int .i64 xn]
      have hbw := bthen hb hba
      have f0 : (wr.alloc (.cells #[.string xk, .int .i64 xn] 111)).cell? ⟨wr.heap.size, 0, none⟩ = some (.string xk) := hB4.cell 0
      have f1 : (wr.alloc (.cells #[.string xk, .int .i64 xn] 111)).cell? ⟨wr.heap.size, 1, none⟩ = some (.int .i64 xn) := hB4.cell 1
      have HNO := Lib.hid (show rowB (xk, xn) = false → rowsB l = false from fun h => by
        unfold rowsB
        rw [decide_eq_false_iff_not]
        intro h2
        have := h2.2.1 _ HM.out
        rw [h] at this; cases this)
      have HRB := Lib.hid (show rowB (xk, xn) = (keyB xk && numB xn) from rfl)
      cases hkb : keyB xk
      · rw [hkb] at HRB
        have HN2 := Lib.hid (HNO.out HRB.out)
        go_wp2_with (go_at_call 110; refine (implKeyOk_any _ _ hx).mono ?_; rintro e w' ⟨rfl, rfl⟩; rw [hkb])
        go_ret
        exact ⟨ret_bool HN2.out.symm, hbw⟩
      · cases hnb : numB xn
        · rw [hkb, hnb] at HRB
          have HN2 := Lib.hid (HNO.out HRB.out)
          go_wp2_with (first
            | (go_at_call 110; refine (implKeyOk_any _ _ hx).mono ?_; rintro e w' ⟨rfl, rfl⟩; rw [hkb])
            | (go_at_call 111; refine (implNumOk_any _ _).mono ?_; rintro e w' ⟨rfl, rfl⟩; rw [hnb]))
          go_ret
          exact ⟨ret_bool HN2.out.symm, hbw⟩
        · rw [hkb, hnb] at HRB
          have HK2 := Lib.hid (show ∀ (j : Nat) (x : Row), j < k + 1 → l[j]? = some x → rowB x = true from fun j x hj hx => by
            by_cases hjk : j < k
            · exact HK.out j x hjk hx
            · obtain rfl : j = k := by omega
              rw [HX.out] at hx; injection hx with hx; subst hx; exact HRB.out)
          go_wp2_with (first
            | (go_at_call 110; refine (implKeyOk_any _ _ hx).mono ?_; rintro e w' ⟨rfl, rfl⟩; rw [hkb])
            | (go_at_call 111; refine (implNumOk_any _ _).mono ?_; rintro e w' ⟨rfl, rfl⟩; rw [hnb]))
          go_roundw
          case rel => exact ⟨k + 1, by omega, by go_num, HK2.out, hbw⟩
          case measure => simp [intOf]; omega
    · obtain rfl : k = l.length := by omega
      have HE := Lib.hid (show rowsB l = ascR l by
        unfold rowsB
        rw [Bool.eq_iff_iff, decide_eq_true_eq]
        exact ⟨fun h => h.2.2, fun h => ⟨h10', fun x hx => by
          obtain ⟨j, hj⟩ := List.getElem?_of_mem hx
          exact HK.out j x (List.getElem?_eq_some_iff.1 hj).1 hj, h⟩⟩)
      have HAS := Lib.hid (ascendingR_any A l c wr hn (HRA.out.below hb))
      go_wp2_with fail
      refine HAS.out.mono ?_
      rintro e w2 ⟨rfl, hb2⟩
      have hbe := bthen hb hb2
      go_wp2
      go_ret
      exact ⟨ret_bool HE.out.symm, hbe⟩
end Go.Proofs.Ytpjkcmmmpgncmaa
namespace Go.Proofs.Ytpjkcmmmpgncmaa
open Go.RowKit
theorem rows_asc {l : List Row} (h : ascR l = true) : ∀ (j i : Nat) (x y : Row), i < j → l[i]? = some x → l[j]? = some y → kLt x.1 y.1 := by
  have h2 : ascRP l l.length := by unfold ascR at h; simpa using h
  intro j
  induction j with
  | zero => intro i x y hij; omega
  | succ j ih =>
    intro i x y hij hx hy
    have hjl : j + 1 < l.length := (List.getElem?_eq_some_iff.1 hy).1
    have hz := List.getElem?_eq_getElem (show j < l.length by omega)
    have h3 : kLt l[j].1 y.1 := h2 j _ y hjl hz hy
    by_cases e : i = j
    · subst e; rw [hz] at hx; injection hx with hx; subst hx; exact h3
    · exact kLt_trans (ih i x _ (by omega) hx hz) h3
def cmpI (x : Row) (key : ByteArray) : Int := Lib.compareBytes x.1.data.toList key.data.toList
theorem data_toList (a : ByteArray) : a.toList = a.data.toList := ByteArray.toList_eq a
theorem cmpI_lt (x : Row) (key : ByteArray) : cmpI x key < 0 ↔ kLt x.1 key := by
  unfold cmpI kLt; rw [cmpB_lt, data_toList, data_toList]
theorem cmpI_eq (x : Row) (key : ByteArray) : cmpI x key = 0 ↔ x.1 = key := by
  unfold cmpI; rw [cmpB_eq, ← bytes_eq_iff, data_toList, data_toList]
set_option maxHeartbeats 1000000 in
theorem placeC_any (x : Row) (key : ByteArray) (g : Nat) (w : World) (hB : Blk w g 112 #[.func (.func 69) #[] #[]]) :
    Calls Try.prog 114 #[.agg #[.string x.1, .int .i64 x.2], .string key, .pointer (some ⟨g, 0, none⟩)] w fun e w' => e = .returned (.int .i64 (cmpI x key)) ∧ Below w.heap.size w w' := by
  have hb0 := (Below.refl w.heap.size w).alloc (Nat.le_refl _) (.cells #[.string x.1, .int .i64 x.2] 111)
  have hX := Blk.new w 111 #[.string x.1, .int .i64 x.2]
  have hB1 := hB.kept hb0
  have r0 : (w.alloc (.cells #[.string x.1, .int .i64 x.2] 111)).cell? ⟨w.heap.size, 0, none⟩ = some (.string x.1) := hX.cell 0
  have r1 : (w.alloc (.cells #[.string x.1, .int .i64 x.2] 111)).cell? ⟨w.heap.size, 1, none⟩ = some (.int .i64 x.2) := hX.cell 1
  have g0 : (w.alloc (.cells #[.string x.1, .int .i64 x.2] 111)).cell? ⟨g, 0, none⟩ = some (.func (.func 69) #[] #[]) := hB1.cell 0
  go_enter Try.func114, Try.ntmps114
  go_wp2_with (first
    | (go_at_call 69; refine (rowKey_any x _).mono ?_; rintro e w' ⟨rfl, hb1⟩)
    | (go_at_call 115; refine (stringsCompare_any _ _ _).mono ?_; rintro e w' ⟨rfl, rfl⟩))
  go_ret
  exact ⟨rfl, bthen hb0 hb1⟩
/-- where a key is in rows in order -/
def AtR (key : ByteArray) (l : List Row) (k : Nat) : Prop := k ≤ l.length ∧ (∀ i x, i < k → l[i]? = some x → kLt x.1 key) ∧ ∀ i x, k ≤ i → l[i]? = some x → ¬ kLt x.1 key
def Found (key : ByteArray) (l : List Row) (k : Nat) : Prop := ∃ x, l[k]? = some x ∧ x.1 = key
set_option maxRecDepth 100000 in
set_option maxHeartbeats 3000000 in
theorem bsearch_any (A : Option Addr) (l : List Row) (c g : Nat) (key : ByteArray) (w : World) (hn : l.length ≤ 1048576) (ha : ascR l = true) (hR : Sl encRow 2 w A l) (hB : Blk w g 112 #[.func (.func 69) #[] #[]]) :
    Calls Try.prog 113 #[.slice A l.length c, .string key, .func (.func 114) #[] #[.pointer (some ⟨g, 0, none⟩)]] w fun e w' => ∃ (k : Nat) (b : Bool), e = .returned (.tuple #[.int .i64 k, .bool b]) ∧ AtR key l k ∧ ((b = true → Found key l k) ∧ (b = false → ¬ Found key l k)) ∧ Below w.heap.size w w' := by
  have HO := Lib.hid (rows_asc ha)
  have HRA := Lib.hid hR
  have HB := Lib.hid hB
  clear ha hR hB
  go_enter Try.func113, Try.ntmps113
  go_wp2
  go_loopg [9, 10] l.length (fun kx s5 s6 wr => ∃ (lo hi : Nat), s5 = .int .i64 lo ∧ s6 = .int .i64 hi ∧ lo ≤ hi ∧ hi ≤ l.length ∧ hi - lo ≤ kx ∧ Below w.heap.size w wr ∧
    Hid ((∀ i x, i < lo → l[i]? = some x → kLt x.1 key) ∧ (∀ i x, hi ≤ i → l[i]? = some x → ¬ kLt x.1 key)))
  case atStart => exact ⟨0, l.length, rfl, rfl, Nat.zero_le _, Nat.le_refl _, by omega, Below.refl _ _, Lib.hid ⟨fun i x h => absurd h (by omega), fun i x h h2 => absurd (List.getElem?_eq_some_iff.1 h2).1 (by omega)⟩⟩
  case round =>
    obtain ⟨lo, hi, rfl, rfl, hlh, hin, hg, hb, I⟩ := hrel
    by_cases hlt : lo < hi
    · have hh : (lo + hi) / 2 < l.length := by omega
      obtain ⟨b, o, rfl, hbl, c0, c1⟩ := Sl.at2R (HRA.out.below hb) hh
      have HX := Lib.hid (List.getElem?_eq_getElem hh)
      generalize l[(lo + hi) / 2] = x at *
      obtain ⟨xk, xn⟩ := x
      simp only at c0 c1
      have hdi : (((lo + hi) / 2 : Nat) : Int) = ((lo : Int) + (hi : Int)) / 2 := by omega
      have hdn : (((lo : Int) + (hi : Int)) / 2).toNat = (lo + hi) / 2 := by omega
      have hd0 : (0 : Int) ≤ ((lo : Int) + (hi : Int)) / 2 := by omega
      have hd1 : ((lo : Int) + (hi : Int)) / 2 < (l.length : Int) := by omega
      have HDI := Lib.hid hdi
      clear hdi
      have HC := Lib.hid (placeC_any (xk, xn) key g wr (HB.out.kept hb))
      have HCL := Lib.hid (cmpI_lt (xk, xn) key)
      generalize cmpI (xk, xn) key = cv at *
      by_cases hp : cv < 0
      · have hkl := HCL.out.1 hp
        have HP := Lib.hid (show ∀ i y, i < (lo + hi) / 2 + 1 → l[i]? = some y → kLt y.1 key from fun i y hi2 hy => by
          by_cases e : i = (lo + hi) / 2
          · rw [e, HX.out] at hy; injection hy with hy; subst hy; exact hkl
          · exact kLt_trans (HO.out _ i y _ (by omega) hy HX.out) hkl)
        have d0 : decide (cv < 0) = true := decide_eq_true hp
        clear hp hkl
        go_wp2_with fail
        refine HC.out.mono ?_
        rintro e w' ⟨rfl, hb2⟩
        go_wp2
        go_roundg (hi - ((lo + hi) / 2 + 1))
        case measure => omega
        case rel => exact ⟨(lo + hi) / 2 + 1, hi, by rw [show ((lo : Int) + (hi : Int)) / 2 + 1 = (((lo + hi) / 2 + 1 : Nat) : Int) by omega], rfl, by omega, hin, Nat.le_refl _, bthen hb hb2, Lib.hid ⟨HP.out, I.out.2⟩⟩
      · have hkl : ¬ kLt xk key := fun h => hp (HCL.out.2 h)
        have HP := Lib.hid (show ∀ i y, (lo + hi) / 2 ≤ i → l[i]? = some y → ¬ kLt y.1 key from fun i y hi2 hy hk => by
          by_cases e : i = (lo + hi) / 2
          · rw [e, HX.out] at hy; injection hy with hy; subst hy; exact hkl hk
          · exact hkl (kLt_trans (HO.out _ _ _ y (by omega) HX.out hy) hk))
        have d0 : decide (cv < 0) = false := decide_eq_false hp
        clear hp hkl
        go_wp2_with fail
        refine HC.out.mono ?_
        rintro e w' ⟨rfl, hb2⟩
        go_wp2
        go_roundg ((lo + hi) / 2 - lo)
        case measure => omega
        case rel => exact ⟨lo, (lo + hi) / 2, rfl, by rw [show ((lo : Int) + (hi : Int)) / 2 = (((lo + hi) / 2 : Nat) : Int) by omega], by omega, by omega, Nat.le_refl _, bthen hb hb2, Lib.hid ⟨I.out.1, HP.out⟩⟩
    · obtain rfl : hi = lo := by omega
      have HAT := Lib.hid (show AtR key l hi from ⟨hin, I.out.1, I.out.2⟩)
      by_cases hhl : hi < l.length
      · obtain ⟨b, o, rfl, hbl, c0, c1⟩ := Sl.at2R (HRA.out.below hb) hhl
        have HX := Lib.hid (List.getElem?_eq_getElem hhl)
        generalize l[hi] = x at *
        obtain ⟨xk, xn⟩ := x
        simp only at c0 c1
        have hki : (hi : Int) < (l.length : Int) := by omega
        have hki0 : (0 : Int) ≤ (hi : Int) := by omega
        have HC := Lib.hid (placeC_any (xk, xn) key g wr (HB.out.kept hb))
        have HCE := Lib.hid (cmpI_eq (xk, xn) key)
        generalize cmpI (xk, xn) key = cv at *
        by_cases hp : cv = 0
        · have HRES := Lib.hid (show Found key l hi from ⟨(xk, xn), HX.out, HCE.out.1 hp⟩)
          have d0 : (cv == 0) = true := beq_iff_eq.2 hp
          have d1 : decide (cv = 0) = true := decide_eq_true hp
          clear hp
          go_wp2_with fail
          refine HC.out.mono ?_
          rintro e w' ⟨rfl, hb2⟩
          have hbe := bthen hb hb2
          go_wp2
          go_ret2
          exact ⟨hi, true, rfl, HAT.out, ⟨(fun _ => HRES.out), (fun h => by cases h)⟩, hbe⟩
        · have HRES := Lib.hid (show ¬ Found key l hi from fun hF => by
            obtain ⟨x, h1, h2⟩ := hF
            rw [HX.out] at h1
            injection h1 with h1
            subst h1
            exact absurd (HCE.out.2 h2) hp)
          have d0 : (cv == 0) = false := beq_eq_false_iff_ne.2 hp
          have d1 : decide (cv = 0) = false := decide_eq_false hp
          clear hp
          go_wp2_with fail
          refine HC.out.mono ?_
          rintro e w' ⟨rfl, hb2⟩
          have hbe := bthen hb hb2
          go_wp2
          go_ret2
          exact ⟨hi, false, rfl, HAT.out, ⟨(fun h => by cases h), (fun _ => HRES.out)⟩, hbe⟩
      · have HRES := Lib.hid (show ¬ Found key l hi from fun hF => by
          obtain ⟨x, h1, _⟩ := hF
          have := (List.getElem?_eq_some_iff.1 h1).1
          omega)
        have d0 : decide ((hi : Int) < (l.length : Int)) = false := decide_eq_false (by omega)
        have d1 : decide (hi < l.length) = false := decide_eq_false hhl
        go_wp2
        go_ret2
        exact ⟨hi, false, rfl, HAT.out, ⟨(fun h => by cases h), (fun _ => HRES.out)⟩, hb⟩
set_option maxRecDepth 100000 in
theorem place_any (A : Option Addr) (l : List Row) (c : Nat) (key : ByteArray) (w : World) (hn : l.length ≤ 1048576) (ha : ascR l = true) (hR : Sl encRow 2 w A l) :
    Calls Try.prog 68 #[.slice A l.length c, .string key, .func (.func 69) #[] #[]] w fun e w' => ∃ (k : Nat) (b : Bool), e = .returned (.tuple #[.int .i64 k, .bool b]) ∧ AtR key l k ∧ ((b = true → Found key l k) ∧ (b = false → ¬ Found key l k)) ∧ Below w.heap.size w w' := by
  have hb0 := (Below.refl w.heap.size w).alloc (Nat.le_refl _) (.cells #[.func (.func 69) #[] #[]] 112)
  have HBS := Lib.hid (bsearch_any A l c w.heap.size key _ hn ha (hR.below hb0) (Blk.new w 112 #[.func (.func 69) #[] #[]]))
  clear hR ha
  go_enter Try.func68, Try.ntmps68
  go_wp2_with fail
  refine HBS.out.mono ?_
  rintro e w1 ⟨k, b, rfl, hk, hbf, hb1⟩
  have HK := Lib.hid (⟨hk, hbf⟩ : _ ∧ _)
  have hbe := bthen hb0 hb1
  clear hk hbf hb1 HBS
  go_wp2
  go_ret2
  exact ⟨k, b, rfl, HK.out.1, HK.out.2, hbe⟩
open Classical in
/-- the number under a key in rows in order -/
noncomputable def getR (l : List Row) (key : ByteArray) : Int × Bool := if rowsB l = true then (match l.find? (fun x => decide (x.1 = key)) with | some x => (x.2, true) | none => (0, false)) else (0, false)
theorem getR_bad {l : List Row} {key : ByteArray} (h : rowsB l = false) : getR l key = (0, false) := by unfold getR; rw [if_neg (by rw [h]; simp)]
theorem rowsB_asc {l : List Row} (h : rowsB l = true) : ascR l = true := by
  unfold rowsB at h; rw [decide_eq_true_eq] at h; exact h.2.2
theorem getR_yes {l : List Row} {key : ByteArray} {k : Nat} {x : Row} (h : rowsB l = true) (hx : l[k]? = some x) (he : x.1 = key) : getR l key = (x.2, true) := by
  have hasc := rows_asc (rowsB_asc h)
  unfold getR
  rw [if_pos h]
  cases hf : l.find? (fun x => decide (x.1 = key)) with
  | none =>
    have := List.find?_eq_none.1 hf x (List.mem_of_getElem? hx)
    simp [he] at this
  | some y =>
    have h1 := List.find?_some hf
    simp only [decide_eq_true_eq] at h1
    obtain ⟨j, hj⟩ := List.getElem?_of_mem (List.mem_of_find?_eq_some hf)
    have : j = k := by
      rcases Nat.lt_trichotomy j k with e | e | e
      · exact absurd (show kLt key key by have := hasc k j y x e hj hx; rw [h1, he] at this; exact this) (kLt_irrefl _)
      · exact e
      · exact absurd (show kLt key key by have := hasc j k x y e hx hj; rw [h1, he] at this; exact this) (kLt_irrefl _)
    subst this
    rw [hx] at hj; injection hj with hj; subst hj; rfl
theorem getR_no {l : List Row} {key : ByteArray} {k : Nat} (h : rowsB l = true) (ha : AtR key l k) (hn : ¬ Found key l k) : getR l key = (0, false) := by
  unfold getR
  rw [if_pos h]
  cases hf : l.find? (fun x => decide (x.1 = key)) with
  | none => rfl
  | some y =>
    exfalso
    have h1 := List.find?_some hf
    simp only [decide_eq_true_eq] at h1
    obtain ⟨j, hj⟩ := List.getElem?_of_mem (List.mem_of_find?_eq_some hf)
    by_cases hjk : j < k
    · have := ha.2.1 j y hjk hj; rw [h1] at this; exact kLt_irrefl _ this
    · by_cases e : j = k
      · subst e; exact hn ⟨y, hj, h1⟩
      · have hkl : k < l.length := by have := (List.getElem?_eq_some_iff.1 hj).1; omega
        have hz := List.getElem?_eq_getElem hkl
        have h3 := rows_asc (rowsB_asc h) j k _ y (by omega) hz hj
        rw [h1] at h3
        exact ha.2.2 k _ (Nat.le_refl _) hz h3
set_option maxRecDepth 100000 in
set_option maxHeartbeats 1000000 in
theorem rowsGet_any (A : Option Addr) (l : List Row) (c : Nat) (key : ByteArray) (w : World) (hf : ∀ x ∈ l, x.1.size ≤ maxLen) (hn : l.length ≤ 1048576) (hR : Sl encRow 2 w A l) :
    Calls Try.prog 33 #[.slice A l.length c, .string key] w fun e w' => e = .returned (.tuple #[.int .i64 (getR l key).1, .bool (getR l key).2]) ∧ Below w.heap.size w w' := by
  have HOK := Lib.hid (implRowsOk_any A l c w hf hn hR)
  have HRA := Lib.hid hR
  clear hR
  go_enter Try.func33, Try.ntmps33
  go_wp2_with fail
  refine HOK.out.mono ?_
  rintro e w1 ⟨rfl, hb1⟩
  cases hv : rowsB l
  · have HG := Lib.hid (getR_bad hv (key := key))
    clear hv
    go_wp2
    go_ret2
    rw [HG.out]
    exact ⟨rfl, hb1⟩
  · have HV := Lib.hid hv
    have HP := Lib.hid (place_any A l c key w1 hn (rowsB_asc hv) (HRA.out.below hb1))
    clear hv
    go_wp2_with fail
    refine HP.out.mono ?_
    rintro e w2 ⟨k, b, rfl, hat, hbf, hb2⟩
    have hbe := bthen hb1 hb2
    cases b
    · have HG := Lib.hid (getR_no HV.out hat (hbf.2 rfl))
      clear hat hbf
      go_wp2
      go_ret2
      rw [HG.out]
      exact ⟨rfl, hbe⟩
    · obtain ⟨x, hx, he⟩ := hbf.1 rfl
      have HG := Lib.hid (getR_yes HV.out hx he)
      have hkl := (List.getElem?_eq_some_iff.1 hx).1
      obtain ⟨bb, o, rfl, hbl, c0, c1⟩ := Sl.at2R (HRA.out.below hbe) hkl
      rw [(List.getElem?_eq_some_iff.1 hx).2] at c0 c1
      have hki : (k : Int) < (l.length : Int) := by omega
      have hki0 : (0 : Int) ≤ (k : Int) := by omega
      clear hat hbf hx he c0
      go_wp2
      go_ret2
      rw [HG.out]
      exact ⟨rfl, hbe⟩
end Go.Proofs.Ytpjkcmmmpgncmaa
