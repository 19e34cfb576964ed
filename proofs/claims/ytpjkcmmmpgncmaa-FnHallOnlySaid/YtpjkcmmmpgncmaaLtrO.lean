import Derived.Deep.RegionWith
import Derived.Test.YtpjkcmmmpgncmaaM20
/- Bytes, one in two torn; the draws of bytes. -/
namespace Go.Proofs.Ytpjkcmmmpgncmaa
open Go.RowKit
def TornPost (w0 w : World) (A : Option Addr) (bs : List UInt8) (c g p : Nat) (s : ByteArray) (e : Ending) (w' : World) : Prop :=
  ∃ (t : ByteArray) (q : Nat), e = .returned (.string t) ∧ t.size ≤ s.size + 6 ∧ q ≤ p + 4 ∧ Rd w0 w' A bs c g q ∧ w.grownBy w' (some g)
def inL : List ByteArray := [⟨#[48]⟩, ⟨#[57]⟩, ⟨#[81]⟩, ⟨#[120]⟩, ⟨#[10]⟩, ⟨#[32]⟩, ⟨#[53, 48]⟩]
def endL : List ByteArray := [⟨#[81]⟩, ⟨#[81, 48]⟩, ⟨#[81, 48, 53]⟩, ⟨#[81, 48, 53, 103, 101, 116]⟩, ⟨#[113]⟩, ⟨#[81, 53]⟩, ⟨#[81, 120]⟩, ⟨#[81, 52, 49]⟩]
theorem inL_le : ∀ x ∈ inL, x.size ≤ 6 := by decide
theorem endL_le : ∀ x ∈ endL, x.size ≤ 6 := by decide
theorem ext0 (s : ByteArray) (k : Nat) (h : k ≤ s.size) : (s.extract 0 k).size = k := by simp; omega
theorem ext1 (s : ByteArray) (k : Nat) : (s.extract k s.size).size = s.size - k := by simp
set_option maxRecDepth 100000 in
set_option maxHeartbeats 1000000 in
theorem torn_any (w0 : World) (A : Option Addr) (bs : List UInt8) (c g p : Nat) (s : ByteArray) (w : World) (hR : Rd w0 w A bs c g p) (hp : p < 900000) (hs : s.size ≤ 100000) :
    Calls Try.prog 139 #[.pointer (some ⟨g, 0, none⟩), .string s] w (TornPost w0 w A bs c g p s) := by
  by_cases h0 : s.size = 0
  · have h0' : ((s.size : Int) == 0) = true := by simp [h0]
    go_enter Try.func139, Try.ntmps139
    go_wp2
    go_ret
    exact ⟨s, p, rfl, by omega, by omega, hR, World.grownBy.refl _ _⟩
  · have h0' : ((s.size : Int) == 0) = false := by rw [beq_eq_false_iff_ne]; omega
    have hk1 : 1 ≤ s.size := by omega
    go_enter Try.func139, Try.ntmps139
    go_wp2_with fail
    refine (pick_any w0 A bs c g p 2 _ hR (by omega) (by omega)).mono ?_
    rintro e w1 ⟨j, hj, rfl, hR1, hG1⟩
    by_cases j0 : j = 0
    · subst j0
      go_wp2
      go_ret
      exact ⟨s, p + 1, rfl, by omega, by omega, hR1, hG1⟩
    · have j0' : ((j : Int) == 0) = false := by simp; omega
      clear j0
      go_wp2_with fail
      refine (pick_any w0 A bs c g (p + 1) s.size _ hR1 (by omega) (by omega)).mono ?_
      rintro e w2 ⟨k, hk, rfl, hR2, hG2⟩
      have hG02 := grown_trans hG1 hG2
      clear hR hR1 hG1 hG2
      go_wp2_with fail
      refine (pick_any w0 A bs c g (p + 1 + 1) 4 _ hR2 (by omega) (by omega)).mono ?_
      rintro e w3 ⟨u, hu, rfl, hR3, hG3⟩
      have hG03 := grown_trans hG02 hG3
      have hgl := hR3.1.lt
      clear hR2 hG02 hG3
      have e1 := ext0 s k (by omega)
      have hk4 : u = 0 ∨ u = 1 ∨ u = 2 ∨ u = 3 := by omega
      clear hu
      rcases hk4 with rfl | rfl | rfl | rfl
      · go_wp2
        go_ret
        exact ⟨s.extract 0 k, p + 1 + 1 + 1, rfl, by omega, by omega, hR3, hG03⟩
      · have e2 := ext1 s (k + 1)
        have e3 := IntWalk.i64_in ((k : Int) + 1) (by omega)
        have e4 : ¬ (9223372036854775807 < k + (s.size - (k + 1))) := by omega
        have e5 : k ≤ s.size := by omega
        have e6 : (0 : Int) ≤ (k : Int) + 1 := by omega
        have e7 : (k : Int) + 1 ≤ s.size := by omega
        go_wp2
        refine wp_region_below (by kernel_rfl) (by kernel_rfl) ?_
        iterate 9 (refine wpQuiet_step (fun K hK => ?_); go_simp; first | (apply Exists.intro; refine ⟨fun W hW => ?_, hK _ ?_⟩; (first | rfl | (skip; go_simp; rfl)); clear hK K) | (refine hK _ ?_; clear hK K))
        refine wpQuiet_nil ?_
        intro W hW
        have hR4 := hR3.below hW
        have hG04 := grown_trans hG03 (grown_below hW)
        go_wp2
        go_ret
        exact ⟨s.extract 0 k ++ s.extract (k + 1) s.size, p + 1 + 1 + 1, rfl, by rw [ByteArray.size_append, e1, e2]; omega, by omega, hR4, hG04⟩
      · have S1 := Sl.lit w3 9 inL #[.string ⟨#[48]⟩, .string ⟨#[57]⟩, .string ⟨#[81]⟩, .string ⟨#[120]⟩, .string ⟨#[10]⟩, .string ⟨#[32]⟩, .string ⟨#[53, 48]⟩] rfl
        have HC := Lib.hid (of_any w0 A bs c g (p + 1 + 1 + 1) (some ⟨w3.heap.size, 0, none⟩) inL 7 _ ((hR3.alloc _).below ((Below.refl _ _).drew)) (by omega) (by decide) (S1.below ((Below.refl _ _).drew)) (by intro b o h; simp at h; omega))
        have e2 := ext1 s k
        have e5 : k ≤ s.size := by omega
        have HR := Lib.hid hR3
        have HG := Lib.hid hG03
        clear S1 hR3 hG03
        go_wp2
        go_region_with (first
          | (go_at_call 106
             refine HC.out.mono ?_
             rintro e w4 ⟨x, hx, rfl, hR4, hG4⟩
             have hl := inL_le x hx
             have f1 : ¬ (9223372036854775807 < k + x.size) := by omega
             have f2 : ¬ (9223372036854775807 < k + x.size + (s.size - k)) := by omega))
        all_goals
          have hG04 := grown_trans (grown_trans (grown_alloc HG.out _) (grown_below ((Below.refl _ _).drew))) hG4
          go_wp2
          go_ret
          exact ⟨s.extract 0 k ++ x ++ s.extract k s.size, p + 1 + 1 + 1 + 1, rfl, by rw [ByteArray.size_append, ByteArray.size_append, e1, e2]; omega, by omega, hR4, hG04⟩
      · have S1 := Sl.lit w3 9 endL #[.string ⟨#[81]⟩, .string ⟨#[81, 48]⟩, .string ⟨#[81, 48, 53]⟩, .string ⟨#[81, 48, 53, 103, 101, 116]⟩, .string ⟨#[113]⟩, .string ⟨#[81, 53]⟩, .string ⟨#[81, 120]⟩, .string ⟨#[81, 52, 49]⟩] rfl
        go_wp2_with fail
        refine (of_any w0 A bs c g (p + 1 + 1 + 1) (some ⟨w3.heap.size, 0, none⟩) endL 8 _ (hR3.alloc _) (by omega) (by decide) S1 (by intro b o h; simp at h; omega)).mono ?_
        rintro e w4 ⟨x, hx, rfl, hR4, hG4⟩
        have hl := endL_le x hx
        have hG04 := grown_trans (grown_alloc hG03 _) hG4
        clear S1 hx hR3 hG03
        go_wp2
        go_ret
        exact ⟨s ++ x, p + 1 + 1 + 1 + 1, rfl, by rw [ByteArray.size_append]; omega, by omega, hR4, hG04⟩
end Go.Proofs.Ytpjkcmmmpgncmaa
