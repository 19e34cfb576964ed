/- Where a write belongs in a store: sort.Search with the closure of the program's commit. -/
import Derived.Test.YtpjkcmmmpgncmaaComL
import Derived.Test.YtpjkcmmmpgncmaaVerC
namespace Go.Proofs.Ytpjkcmmmpgncmaa
open Go.RowKit
@[go_sem] theorem binOp_string_gtr_s (t : TypeId) (a b : ByteArray) : binOp .gtr t (.string a) (.string b) = pure (.bool !(Op.bytesLess a.toList b.toList || a.toList == b.toList)) := by simp [binOp, Op.stringOp]
theorem gtr_yes {a b : ByteArray} (h : kLt b a) : (!(Op.bytesLess a.toList b.toList || a.toList == b.toList)) = true := by
  have h1 := kLt_asym h
  have h2 : ¬ a.toList = b.toList := fun e => kLt_irrefl _ (show kLt b b by rw [← (bytes_eq_iff _ _).1 e.symm] at h; exact kLt_irrefl _ h |>.elim)
  unfold kLt at h1
  simp_all
theorem gtr_no {a b : ByteArray} (h : ¬ kLt b a) : (!(Op.bytesLess a.toList b.toList || a.toList == b.toList)) = false := by
  by_cases h1 : kLt a b
  · unfold kLt at h1; simp [h1]
  · have := kLt_tri h1 h
    simp [this]
set_option maxHeartbeats 1000000 in
theorem cmp_any (A : Option Addr) (l : List Ver) (c i g1 g2 : Nat) (now : Int) (x : Wri) (w : World) (hi : i < l.length) (hR : Sl encVer 4 w A l)
    (hV : Blk w g1 32 #[.int .i64 now, .slice A l.length c]) (hX : Blk w g2 46 #[.string x.1, .int .i64 x.2.1, .bool x.2.2]) :
    Calls Try.prog 102 #[.int .i64 i, .pointer (some ⟨g1, 0, none⟩), .pointer (some ⟨g2, 0, none⟩)] w fun e w' => e = .returned (.bool (decide (kLt x.1 l[i].1))) ∧ Below w.heap.size w w' := by
  obtain ⟨b, o, rfl, hbl, c0, _⟩ := Sl.at4 hR hi
  generalize l[i] = y at *
  have hil : (i : Int) < l.length := by omega
  have v1 : w.cell? ⟨g1, 1, none⟩ = some (.slice (some ⟨b, o, none⟩) l.length c) := hV.cell 1
  have x0 : w.cell? ⟨g2, 0, none⟩ = some (.string x.1) := hX.cell 0
  have l1 := hV.lt
  have l2 := hX.lt
  by_cases hq : kLt x.1 y.1
  · have hq' := gtr_yes hq
    have HD := Lib.hid (decide_eq_true hq)
    clear hR hV hX hq
    go_enter Try.func102, Try.ntmps102
    go_wp2
    refine wp_region_below (by kernel_rfl) (by kernel_rfl) ?_
    iterate 10 (refine wpQuiet_step (fun K hK => ?_); go_simp; first | (apply Exists.intro; refine ⟨fun W hW => ?_, hK _ ?_⟩; (first | rfl | (have e0 := (hW.cell (p := ⟨b, o + i * 4, none⟩) hbl).trans c0; have e1 := (hW.cell (p := ⟨g1, 1, none⟩) l1).trans v1; have e2 := (hW.cell (p := ⟨g2, 0, none⟩) l2).trans x0; go_simp; rfl)); clear hK K) | (refine hK _ ?_; clear hK K))
    refine wpQuiet_nil ?_
    intro W hW
    go_wp2
    go_ret
    exact ⟨ret_bool HD.out.symm, hW⟩
  · have hq' := gtr_no hq
    have HD := Lib.hid (decide_eq_false hq)
    clear hR hV hX hq
    go_enter Try.func102, Try.ntmps102
    go_wp2
    refine wp_region_below (by kernel_rfl) (by kernel_rfl) ?_
    iterate 10 (refine wpQuiet_step (fun K hK => ?_); go_simp; first | (apply Exists.intro; refine ⟨fun W hW => ?_, hK _ ?_⟩; (first | rfl | (have e0 := (hW.cell (p := ⟨b, o + i * 4, none⟩) hbl).trans c0; have e1 := (hW.cell (p := ⟨g1, 1, none⟩) l1).trans v1; have e2 := (hW.cell (p := ⟨g2, 0, none⟩) l2).trans x0; go_simp; rfl)); clear hK K) | (refine hK _ ?_; clear hK K))
    refine wpQuiet_nil ?_
    intro W hW
    go_wp2
    go_ret
    exact ⟨ret_bool HD.out.symm, hW⟩
/-- what stands at a place whose key is not greater stands for all ahead of it, and the other way round -/
theorem half_lo {key : ByteArray} {l : List Ver} (hO : Ordd l) {h : Nat} (hh : h < l.length) (hq : ¬ kLt key l[h].1) : ∀ i x, i < h + 1 → l[i]? = some x → ¬ kLt key x.1 := by
  intro i x hi hx
  by_cases e : i = h
  · subst e; rw [List.getElem?_eq_getElem hh] at hx; injection hx with hx; subst hx; exact hq
  · intro hk
    have := (hO i h x _ hx (List.getElem?_eq_getElem hh) (by omega)).1
    exact hq (kLt_le hk this)
theorem half_hi {key : ByteArray} {l : List Ver} (hO : Ordd l) {h : Nat} (hh : h < l.length) (hq : kLt key l[h].1) : ∀ i x, h ≤ i → l[i]? = some x → kLt key x.1 := by
  intro i x hi hx
  by_cases e : i = h
  · subst e; rw [List.getElem?_eq_getElem hh] at hx; injection hx with hx; subst hx; exact hq
  · have := (hO h i _ x (List.getElem?_eq_getElem hh) hx (by omega)).1
    exact kLt_le hq this
set_option maxHeartbeats 2000000 in
theorem search_any (A : Option Addr) (l : List Ver) (c g1 g2 : Nat) (now : Int) (x : Wri) (w : World) (hn : l.length ≤ 1048576) (hO : Ordd l) (hR : Sl encVer 4 w A l)
    (hV : Blk w g1 32 #[.int .i64 now, .slice A l.length c]) (hX : Blk w g2 46 #[.string x.1, .int .i64 x.2.1, .bool x.2.2]) :
    Calls Try.prog 101 #[.int .i64 l.length, .func (.func 102) #[] #[.pointer (some ⟨g1, 0, none⟩), .pointer (some ⟨g2, 0, none⟩)]] w fun e w' => ∃ k : Nat, e = .returned (.int .i64 k) ∧ Parts x.1 l k ∧ Below w.heap.size w w' := by
  have HO := Lib.hid hO
  clear hO
  go_enter Try.func101, Try.ntmps101
  go_wp2
  go_loopg [5, 6] l.length (fun kx s5 s6 wr => ∃ (lo hi : Nat), s5 = .int .i64 lo ∧ s6 = .int .i64 hi ∧ lo ≤ hi ∧ hi ≤ l.length ∧ hi - lo ≤ kx ∧ Below w.heap.size w wr ∧
    Hid ((∀ i y, i < lo → l[i]? = some y → ¬ kLt x.1 y.1) ∧ (∀ i y, hi ≤ i → l[i]? = some y → kLt x.1 y.1)))
  case atStart => exact ⟨0, l.length, rfl, rfl, Nat.zero_le _, Nat.le_refl _, by omega, Below.refl _ _, Lib.hid ⟨fun i y h => absurd h (by omega), fun i y h h2 => absurd (List.getElem?_eq_some_iff.1 h2).1 (by omega)⟩⟩
  case round =>
    obtain ⟨lo, hi, rfl, rfl, hlh, hin, hg, hb, I⟩ := hrel
    by_cases hlt : lo < hi
    · have hh : (lo + hi) / 2 < l.length := by omega
      have HC := Lib.hid (fun w0 (hb0 : Below w.heap.size w w0) => cmp_any A l c ((lo + hi) / 2) g1 g2 now x w0 hh (hR.below hb0) (hV.kept hb0) (hX.kept hb0))
      rw [show (((lo + hi) / 2 : Nat) : Int) = ((lo : Int) + (hi : Int)) / 2 by omega] at HC
      by_cases hp : kLt x.1 (l[(lo + hi) / 2]'hh).1
      · rw [decide_eq_true hp] at HC
        have HP := Lib.hid (half_hi HO.out hh hp)
        clear hp
        go_wp2_with fail
        refine (HC.out _ hb).mono ?_
        rintro e w' ⟨rfl, hb2⟩
        go_wp2
        go_roundg ((lo + hi) / 2 - lo)
        case measure => omega
        case rel => exact ⟨lo, (lo + hi) / 2, rfl, by rw [show ((lo : Int) + (hi : Int)) / 2 = (((lo + hi) / 2 : Nat) : Int) by omega], by omega, by omega, Nat.le_refl _, bthen hb hb2, Lib.hid ⟨I.out.1, HP.out⟩⟩
      · rw [decide_eq_false hp] at HC
        have HP := Lib.hid (half_lo HO.out hh hp)
        clear hp
        go_wp2_with fail
        refine (HC.out _ hb).mono ?_
        rintro e w' ⟨rfl, hb2⟩
        go_wp2
        go_roundg (hi - ((lo + hi) / 2 + 1))
        case measure => omega
        case rel => exact ⟨(lo + hi) / 2 + 1, hi, by rw [show ((lo : Int) + (hi : Int)) / 2 + 1 = (((lo + hi) / 2 + 1 : Nat) : Int) by omega], rfl, by omega, hin, Nat.le_refl _, bthen hb hb2, Lib.hid ⟨HP.out, I.out.2⟩⟩
    · obtain rfl : hi = lo := by omega
      go_wp2
      go_ret
      exact ⟨hi, rfl, ⟨hin, I.out.1, I.out.2⟩, hb⟩
end Go.Proofs.Ytpjkcmmmpgncmaa
