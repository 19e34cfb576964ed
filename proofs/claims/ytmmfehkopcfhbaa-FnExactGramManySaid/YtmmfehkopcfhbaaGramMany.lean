/- The two GramMany: each counts the letters of the signs C, E and Z. -/
import Derived.Test.YtmmfehkopcfhbaaLetS
import Derived.Maps.Own
import Derived.Maps.OwnOps
import Derived.Maps.Views
namespace Go.Proofs.Ytmmfehkopcfhbaa
open Go.RowKit Go.Maps Go.WideMaps
def cntS (s : List UInt8) (l : List Let) : Nat := l.countP (fun x => x.1.toList == s)
theorem cntS_take (s : List UInt8) (l : List Let) (k : Nat) (h : k < l.length) : cntS s (l.take (k+1)) = cntS s (l.take k) + (if (l[k].1.toList == s) = true then 1 else 0) := by
  unfold cntS; rw [List.take_succ_eq_append_getElem h, List.countP_append, List.countP_singleton]
theorem cntS_le (s : List UInt8) (l : List Let) : cntS s l ≤ l.length := List.countP_le_length
theorem beq_other {a b c : List UInt8} (h : (a == b) = true) (hne : b ≠ c) : (a == c) = false := by
  rw [eq_of_beq h]; exact beq_eq_false_iff_ne.2 hne
set_option maxHeartbeats 400000 in
theorem specGramMany_any (A : Option Addr) (l : List Let) (c : Nat) (w : World) (hn : l.length ≤ 1048576) (hR : Sl encLet 2 w A l) :
    Calls Try.prog 6 #[.slice A l.length c] w fun e w' => e = .returned (.tuple #[.int .i64 (cntS [67] l), .int .i64 (cntS [69] l), .int .i64 (cntS [90] l)]) ∧ Below w.heap.size w w' := by
  go_enter Try.func6, Try.ntmps6
  go_wp2
  go_loopw [5, 6, 7, 8] (fun a b d i wr => ∃ k : Nat, k ≤ l.length ∧ i = .int .i64 k ∧ a = .int .i64 (cntS [67] (l.take k)) ∧ b = .int .i64 (cntS [69] (l.take k)) ∧ d = .int .i64 (cntS [90] (l.take k)) ∧ Below w.heap.size w wr) (fun _ _ _ i _ => l.length - (intOf i).toNat)
  case atStart => exact ⟨0, by omega, rfl, rfl, rfl, rfl, Below.refl _ _⟩
  case round =>
    obtain ⟨k, hk, rfl, rfl, rfl, rfl, hb⟩ := hrel
    have l1 := cntS_le [67] (l.take k)
    have l2 := cntS_le [69] (l.take k)
    have l3 := cntS_le [90] (l.take k)
    have l4 : (l.take k).length ≤ k := List.length_take_le _ _
    by_cases hlt : k < l.length
    · obtain ⟨b, o, rfl, hbl, c0, c1⟩ := Sl.at2 (hR.below hb) hlt
      have HM := Lib.hid (⟨cntS_take [67] l k hlt, cntS_take [69] l k hlt, cntS_take [90] l k hlt⟩ : _ ∧ _ ∧ _)
      generalize l[k] = x at *
      clear hR
      go_wp2
      · have h1 : (x.1.toList == [67]) = true := by assumption
        obtain ⟨e1, e2, e3⟩ := HM.out
        rw [h1] at e1; rw [beq_other h1 (by decide)] at e2 e3
        go_roundw
        case rel => exact ⟨k + 1, by omega, by go_num, vint (by rw [e1]; simp), vint (by rw [e2]; simp), vint (by rw [e3]; simp), hb⟩
        case measure => simp [intOf]; omega
      · have h1 : (x.1.toList == [67]) = false := by assumption
        have h2 : (x.1.toList == [69]) = true := by assumption
        obtain ⟨e1, e2, e3⟩ := HM.out
        rw [h1] at e1; rw [h2] at e2; rw [beq_other h2 (by decide)] at e3
        go_roundw
        case rel => exact ⟨k + 1, by omega, by go_num, vint (by rw [e1]; simp), vint (by rw [e2]; simp), vint (by rw [e3]; simp), hb⟩
        case measure => simp [intOf]; omega
      · have h1 : (x.1.toList == [67]) = false := by assumption
        have h2 : (x.1.toList == [69]) = false := by assumption
        have h3 : (x.1.toList == [90]) = true := by assumption
        obtain ⟨e1, e2, e3⟩ := HM.out
        rw [h1] at e1; rw [h2] at e2; rw [h3] at e3
        go_roundw
        case rel => exact ⟨k + 1, by omega, by go_num, vint (by rw [e1]; simp), vint (by rw [e2]; simp), vint (by rw [e3]; simp), hb⟩
        case measure => simp [intOf]; omega
      · have h1 : (x.1.toList == [67]) = false := by assumption
        have h2 : (x.1.toList == [69]) = false := by assumption
        have h3 : (x.1.toList == [90]) = false := by assumption
        obtain ⟨e1, e2, e3⟩ := HM.out
        rw [h1] at e1; rw [h2] at e2; rw [h3] at e3
        go_roundw
        case rel => exact ⟨k + 1, by omega, by go_num, vint (by rw [e1]; simp), vint (by rw [e2]; simp), vint (by rw [e3]; simp), hb⟩
        case measure => simp [intOf]; omega
    · obtain rfl : k = l.length := by omega
      go_wp2
      go_ret3
      exact ⟨by simp, hb⟩

/-! the program's: a map of counts -/
theorem keyStr : Keyed Try.prog 9 := string_keyed Try.underlying9
theorem zeroInt (w : World) : (zeroValue 3).run Try.prog w = .ok (.int .i64 0) w := by kernel_rfl
theorem own_below {w w' : World} {P : Program} {k : TypeId} {H : Type} {R : Value → Option (DataW H × List MemPlace)} {b n : Nat} {D : DataW H} (h : w.ownsMap P k R b n D) (hb : Below w.heap.size w w') : w'.ownsMap P k R b n D :=
  h.kept (row := none) ⟨hb.os, hb.tape, hb.output, hb.size, fun i hi _ => hb.block i hi⟩ (by simp)
abbrev vi (n : Int) : DataW Unit := .lit (.int .i64 n)
/-- the map D counts the letters of l by their signs -/
def Counts (D : DataW Unit) (l : List Let) : Prop := IsMap D ∧ ∀ s : List UInt8, D.atKey (.string s) (vi 0) = vi (cntS s l)
theorem Counts.none_ : Counts (.map []) [] := ⟨isMap_empty, fun _ => rfl⟩
theorem toList_data (s : ByteArray) : s.toList = s.data.toList := ByteArray.toList_eq _
theorem Counts.step {D : DataW Unit} {l : List Let} {k : Nat} (h : Counts D (l.take k)) (hk : k < l.length) {c : Int} (hat : D.atKey (.string l[k].1.data.toList) (vi 0) = vi c) :
    c = cntS l[k].1.toList (l.take k) ∧ Counts (D.put (.string l[k].1.data.toList) (vi (c + 1))) (l.take (k + 1)) := by
  have hc : c = cntS l[k].1.toList (l.take k) := by
    have := h.2 l[k].1.data.toList
    rw [hat] at this
    injection this with this; injection this with _ this
    rw [this, toList_data]
  refine ⟨hc, h.1.put _ _, fun s => ?_⟩
  rw [cntS_take s l k hk]
  by_cases hs : l[k].1.data.toList = s
  · subst hs
    rw [atKey_put_same h.1 (by first | trivial | exact ⟨_, rfl⟩ | simp [WideAt.IsKeyLit]), hc, toList_data]; simp
  · rw [atKey_put_other (by intro e; injection e with e; exact hs e.symm), h.2 s, if_neg (by rw [toList_data]; simpa using hs)]
    simp
set_option maxHeartbeats 800000 in
theorem implGramMany_any (A : Option Addr) (l : List Let) (c : Nat) (w : World) (hn : l.length ≤ 1048576) (hf : FitsL l) (hR : Sl encLet 2 w A l) :
    Calls Try.prog 8 #[.slice A l.length c] w fun e w' => e = .returned (.tuple #[.int .i64 (cntS [67] l), .int .i64 (cntS [69] l), .int .i64 (cntS [90] l)]) ∧ Below w.heap.size w w' := by
  have hmm := @run_makeMap Try.prog
  go_enter Try.func8, Try.ntmps8
  go_wp2
  go_loopw [11] (fun i wr => ∃ (k : Nat) (D : DataW Unit), k ≤ l.length ∧ i = .int .i64 k ∧ wr.ownsMap Try.prog 9 (plainElem Try.prog 3) w.heap.size k D ∧ Counts D (l.take k) ∧ Below w.heap.size w wr) (fun i _ => l.length - (intOf i).toNat)
  case atStart => exact ⟨0, _, by omega, rfl, World.ownsMap_made _ _ _ _, Counts.none_, (Below.refl _ _).alloc (Nat.le_refl _) _⟩
  case round =>
    obtain ⟨k, D, hk, rfl, hown, hC, hb⟩ := hrel
    by_cases hlt : k < l.length
    · obtain ⟨b, o, rfl, hbl, c0, c1⟩ := Sl.at2 (hR.below hb) hlt
      obtain ⟨hx1, hx2⟩ := hf.2 l[k] (by simp)
      have hkey : keyOf Try.prog 9 (.string l[k].1) = some (.string l[k].1.data.toList) := keyOf_string_mk Try.underlying9 hx1
      obtain ⟨c, hrun, hat, hwc⟩ := (hown.alloc (.cells #[.string l[k].1, .string l[k].2] 44)).lookup_int keyStr Try.underlying46 Try.underlying3 (zeroInt _) hkey
      obtain ⟨hcc, hC'⟩ := hC.step hlt hat
      have hle := cntS_le l[k].1.toList (l.take k)
      have hle2 : (l.take k).length ≤ k := List.length_take_le _ _
      have hc0 : 0 ≤ c := by omega
      have hc1 : c ≤ 1048576 := by omega
      have HC := Lib.hid hC'
      generalize l[k] = x at *
      clear hR hf hcc hat hC hC' hx1 hx2 hle hle2
      go_wp2_with (at_mapUpdate; refine wpList_mapUpdate_own _ rfl _ _ _ 46 rfl 9 3 keyStr Try.underlying46 _ w.heap.size k _ rfl (hown.alloc _) (by unfold maxLen; omega) _ _ _ rfl rfl hkey _ [] (plainElem_int Try.underlying3 (WalkArith.wf_i64 (by omega))) ?_; intro w1 hown1 hgrow1)
      go_roundw
      case rel => exact ⟨k + 1, _, by omega, by go_num, hown1, HC.out, (hb.alloc hb.size _).grown hgrow1 (by simp; have := hb.size; omega) (by intro j hj; cases hj; exact Nat.le_refl _)⟩
      case measure => simp [intOf]; omega
    · obtain rfl : k = l.length := by omega
      rw [List.take_length] at hC
      have hkey : ∀ n : UInt8, keyOf Try.prog 9 (.string ⟨#[n]⟩) = some (.string [n]) := fun n => keyOf_string_mk Try.underlying9 (by simp [maxLen, ByteArray.size])
      have hlk : ∀ W, Below wr.heap.size wr W → ∀ n : UInt8, (Instr.lookup 46 (.map (some w.heap.size)) (.string ⟨#[n]⟩) false).run Try.prog W = .ok (.int .i64 (cntS [n] l)) W := by
        intro W hW n
        obtain ⟨c, hrun, hat, _⟩ := (own_below hown hW).lookup_int keyStr Try.underlying46 Try.underlying3 (zeroInt _) (hkey n)
        have := hC.2 [n]
        rw [hat] at this
        injection this with this; injection this with _ this
        rw [hrun, this]
      have HK := Lib.hid hlk
      clear hlk hkey
      go_wp2
      refine wp_region_below (by kernel_rfl) (by kernel_rfl) ?_
      iterate 9 (refine wpQuiet_step (fun K hK => ?_); go_simp; apply Exists.intro; refine ⟨fun W hW => ?_, hK _ ?_⟩; (first | rfl | (have hlk := fun n => HK.out W hW n; go_simp; rfl)); clear hK K)
      refine wpQuiet_nil ?_
      intro W hW
      go_wp2
      go_ret3
      exact ⟨rfl, bthen hb hW⟩
end Go.Proofs.Ytmmfehkopcfhbaa
