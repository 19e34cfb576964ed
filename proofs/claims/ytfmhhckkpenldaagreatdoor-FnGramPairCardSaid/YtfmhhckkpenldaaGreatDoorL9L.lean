import Derived.BigQuiet
import Derived.Test.YtfmhhckkpenldaaGreatDoorM26
import Derived.Test.YtfmhhckkpenldaaGreatDoorM12
/- The reference's l9Letter: a letter that one may be told is drawn. -/
namespace Go.Proofs.YtfmhhckkpenldaaGreatDoor
open Go.RowKit
def l9R : List ByteArray := [⟨#[97, 32, 49]⟩, ⟨#[122, 122, 32, 45, 57, 57, 57]⟩, ⟨#[98, 32, 48]⟩, ⟨#[97]⟩, ⟨#[97, 32, 48, 49]⟩, ⟨#[97, 98, 99, 32, 49]⟩]
theorem l9R_le : ∀ x ∈ l9R, x.size ≤ 7 := by decide
def l9C : List ByteArray := [⟨#[102, 105, 110, 101]⟩, ⟨#[102, 105, 110, 101]⟩, ⟨#[102, 105, 110, 101]⟩, ⟨#[102, 111, 114, 109]⟩]
theorem l9C_le : ∀ x ∈ l9C, x.size ≤ 4 := by decide
def l9E : List ByteArray := [⟨#[102, 111, 114, 109]⟩, ⟨#[108, 97, 116, 101]⟩, ⟨#[110, 111, 110, 101]⟩, ⟨#[98, 97, 100]⟩, ⟨#[111, 118, 101, 114]⟩, ⟨#[102, 117, 108, 108]⟩, ⟨#[102, 105, 110, 101]⟩, ⟨#[102, 108, 121]⟩]
theorem l9E_le : ∀ x ∈ l9E, x.size ≤ 4 := by decide
def l9Z : List ByteArray := [⟨#[105]⟩, ⟨#[116]⟩, ⟨#[101]⟩, ⟨#[105]⟩, ⟨#[120]⟩]
theorem l9Z_le : ∀ x ∈ l9Z, x.size ≤ 1 := by decide
def l9O : List ByteArray := [⟨#[]⟩, ⟨#[]⟩, ⟨#[]⟩, ⟨#[97]⟩]
theorem l9O_le : ∀ x ∈ l9O, x.size ≤ 1 := by decide

/-- a letter was drawn -/
def LetD (u0 w : World) (RA : Option Addr) (rb : List UInt8) (rc g p n : Nat) (e : Ending) (w' : World) : Prop :=
  ∃ (x : Let) (q : Nat), e = .returned (.agg #[.string x.1, .string x.2]) ∧ LetS x ∧ q ≤ p + n ∧ Rd u0 w' RA rb rc g q ∧ w.grownBy w' (some g)
theorem one_le (n : UInt8) : (⟨#[n]⟩ : ByteArray).size ≤ 1040000 := Nat.le_of_lt (by show 1 < 1040000; decide)
set_option maxRecDepth 100000 in
set_option maxHeartbeats 8000000 in
theorem l9Letter_any (u0 : World) (RA : Option Addr) (rb : List UInt8) (rc g p : Nat) (w : World) (hR : Rd u0 w RA rb rc g p) (hp : p < 900000) :
    Calls Tryz.prog 16 #[.pointer (some ⟨g, 0, none⟩)] w (LetD u0 w RA rb rc g p 6) := by
  have hbE := allocAll_below w [(31, #[.string ⟨#[]⟩, .string ⟨#[]⟩])]
  have H : Hid (SD u0 RA rb rc g p w [(w.heap.size, 31, #[.string ⟨#[]⟩, .string ⟨#[]⟩])] [] ((allocAll w [(31, #[.string ⟨#[]⟩, .string ⟨#[]⟩])]))) := Lib.hid (SD.start hR [(31, #[.string ⟨#[]⟩, .string ⟨#[]⟩])])
  clear hbE
  go_enter Tryz.func16, Tryz.ntmps16
  clear hR
  go_wp2_with fail
  change Calls _ _ _ (allocAll w [(31, #[.string ⟨#[]⟩, .string ⟨#[]⟩])]) _
  generalize (allocAll w [(31, #[.string ⟨#[]⟩, .string ⟨#[]⟩])]) = v0 at *
  refine (pick_any u0 RA rb rc g p 10 _ H.out.rd (by omega) (by omega)).mono ?_
  rintro e v1 ⟨k, hk, rfl, hR9, hG9⟩
  replace H := Lib.hid (H.out.draw hR9 hG9)
  clear hR9 hG9
  rcases (show k = 0 ∨ k = 1 ∨ k = 2 ∨ k = 3 ∨ k = 4 ∨ k = 5 ∨ k = 6 ∨ k = 7 ∨ k = 8 ∨ k = 9 by omega) with rfl | rfl | rfl | rfl | rfl | rfl | rfl | rfl | rfl | rfl
  · clear hk
    go_wp2_with fail
    have S9 := Sl.litS v1 9 l9R #[.string ⟨#[97, 32, 49]⟩, .string ⟨#[122, 122, 32, 45, 57, 57, 57]⟩, .string ⟨#[98, 32, 48]⟩, .string ⟨#[97]⟩, .string ⟨#[97, 32, 48, 49]⟩, .string ⟨#[97, 98, 99, 32, 49]⟩] rfl
    have hw9 := (Below.refl v1.heap.size v1).alloc (Nat.le_refl _) (.cells #[.string ⟨#[97, 32, 49]⟩, .string ⟨#[122, 122, 32, 45, 57, 57, 57]⟩, .string ⟨#[98, 32, 48]⟩, .string ⟨#[97]⟩, .string ⟨#[97, 32, 48, 49]⟩, .string ⟨#[97, 98, 99, 32, 49]⟩] 9)
    have hg9 := H.out.rd.1.lt
    have HW9 := Lib.hid (H.out.kept hw9)
    refine (of_any u0 RA rb rc g (p + 1) _ l9R 6 _ HW9.out.rd (by omega) (by decide) S9 (by intro b o h; simp at h; omega)).mono ?_
    rintro e v2 ⟨x, hx, rfl, hR9, hG9⟩
    replace H := Lib.hid (HW9.out.draw hR9 hG9)
    clear hR9 hG9 HW9 hw9 hg9 S9
    have HX := Lib.hid (l9R_le x hx)
    clear hx
    obtain ⟨x0_0, x0_1⟩ := Blk.q2 (H.out.blk 0 rfl)
    obtain ⟨z0_0, z0_1⟩ := Blk.z2 (H.out.blk 0 rfl)
    have HZ := Lib.hid (SD.setN (SD.setN (H.out) 0 0 (.string ⟨#[82]⟩) rfl) 0 1 (.string x) rfl)
    clear H
    go_wp2
    refine bodyPost_ret (v := .agg #[.string ⟨#[82]⟩, .string x]) ?_ rfl (⟨(⟨#[82]⟩, x), ((p + 1) + 1), rfl, ⟨one_le _, Nat.le_trans HX.out (by decide)⟩, by omega, HZ.out.rd, HZ.out.gr⟩)
    simp [results, Tryz.results16, go_sem, x0_0, x0_1]
  · clear hk
    go_wp2_with fail
    have S9 := Sl.litS v1 9 l9R #[.string ⟨#[97, 32, 49]⟩, .string ⟨#[122, 122, 32, 45, 57, 57, 57]⟩, .string ⟨#[98, 32, 48]⟩, .string ⟨#[97]⟩, .string ⟨#[97, 32, 48, 49]⟩, .string ⟨#[97, 98, 99, 32, 49]⟩] rfl
    have hw9 := (Below.refl v1.heap.size v1).alloc (Nat.le_refl _) (.cells #[.string ⟨#[97, 32, 49]⟩, .string ⟨#[122, 122, 32, 45, 57, 57, 57]⟩, .string ⟨#[98, 32, 48]⟩, .string ⟨#[97]⟩, .string ⟨#[97, 32, 48, 49]⟩, .string ⟨#[97, 98, 99, 32, 49]⟩] 9)
    have hg9 := H.out.rd.1.lt
    have HW9 := Lib.hid (H.out.kept hw9)
    refine (of_any u0 RA rb rc g (p + 1) _ l9R 6 _ HW9.out.rd (by omega) (by decide) S9 (by intro b o h; simp at h; omega)).mono ?_
    rintro e v3 ⟨x, hx, rfl, hR9, hG9⟩
    replace H := Lib.hid (HW9.out.draw hR9 hG9)
    clear hR9 hG9 HW9 hw9 hg9 S9
    have HX := Lib.hid (l9R_le x hx)
    clear hx
    obtain ⟨x0_0, x0_1⟩ := Blk.q2 (H.out.blk 0 rfl)
    obtain ⟨z0_0, z0_1⟩ := Blk.z2 (H.out.blk 0 rfl)
    have HZ := Lib.hid (SD.setN (SD.setN (H.out) 0 0 (.string ⟨#[82]⟩) rfl) 0 1 (.string x) rfl)
    clear H
    go_wp2
    refine bodyPost_ret (v := .agg #[.string ⟨#[82]⟩, .string x]) ?_ rfl (⟨(⟨#[82]⟩, x), ((p + 1) + 1), rfl, ⟨one_le _, Nat.le_trans HX.out (by decide)⟩, by omega, HZ.out.rd, HZ.out.gr⟩)
    simp [results, Tryz.results16, go_sem, x0_0, x0_1]
  · clear hk
    go_wp2_with fail
    have S9 := Sl.litS v1 9 l9C #[.string ⟨#[102, 105, 110, 101]⟩, .string ⟨#[102, 105, 110, 101]⟩, .string ⟨#[102, 105, 110, 101]⟩, .string ⟨#[102, 111, 114, 109]⟩] rfl
    have hw9 := (Below.refl v1.heap.size v1).alloc (Nat.le_refl _) (.cells #[.string ⟨#[102, 105, 110, 101]⟩, .string ⟨#[102, 105, 110, 101]⟩, .string ⟨#[102, 105, 110, 101]⟩, .string ⟨#[102, 111, 114, 109]⟩] 9)
    have hg9 := H.out.rd.1.lt
    have HW9 := Lib.hid (H.out.kept hw9)
    refine (of_any u0 RA rb rc g (p + 1) _ l9C 4 _ HW9.out.rd (by omega) (by decide) S9 (by intro b o h; simp at h; omega)).mono ?_
    rintro e v4 ⟨x, hx, rfl, hR9, hG9⟩
    replace H := Lib.hid (HW9.out.draw hR9 hG9)
    clear hR9 hG9 HW9 hw9 hg9 S9
    have HX := Lib.hid (l9C_le x hx)
    clear hx
    obtain ⟨x0_0, x0_1⟩ := Blk.q2 (H.out.blk 0 rfl)
    obtain ⟨z0_0, z0_1⟩ := Blk.z2 (H.out.blk 0 rfl)
    have HZ := Lib.hid (SD.setN (SD.setN (H.out) 0 0 (.string ⟨#[67]⟩) rfl) 0 1 (.string x) rfl)
    clear H
    go_wp2
    refine bodyPost_ret (v := .agg #[.string ⟨#[67]⟩, .string x]) ?_ rfl (⟨(⟨#[67]⟩, x), ((p + 1) + 1), rfl, ⟨one_le _, Nat.le_trans HX.out (by decide)⟩, by omega, HZ.out.rd, HZ.out.gr⟩)
    simp [results, Tryz.results16, go_sem, x0_0, x0_1]
  · clear hk
    go_wp2_with fail
    have S9 := Sl.litS v1 9 l9C #[.string ⟨#[102, 105, 110, 101]⟩, .string ⟨#[102, 105, 110, 101]⟩, .string ⟨#[102, 105, 110, 101]⟩, .string ⟨#[102, 111, 114, 109]⟩] rfl
    have hw9 := (Below.refl v1.heap.size v1).alloc (Nat.le_refl _) (.cells #[.string ⟨#[102, 105, 110, 101]⟩, .string ⟨#[102, 105, 110, 101]⟩, .string ⟨#[102, 105, 110, 101]⟩, .string ⟨#[102, 111, 114, 109]⟩] 9)
    have hg9 := H.out.rd.1.lt
    have HW9 := Lib.hid (H.out.kept hw9)
    refine (of_any u0 RA rb rc g (p + 1) _ l9C 4 _ HW9.out.rd (by omega) (by decide) S9 (by intro b o h; simp at h; omega)).mono ?_
    rintro e v5 ⟨x, hx, rfl, hR9, hG9⟩
    replace H := Lib.hid (HW9.out.draw hR9 hG9)
    clear hR9 hG9 HW9 hw9 hg9 S9
    have HX := Lib.hid (l9C_le x hx)
    clear hx
    obtain ⟨x0_0, x0_1⟩ := Blk.q2 (H.out.blk 0 rfl)
    obtain ⟨z0_0, z0_1⟩ := Blk.z2 (H.out.blk 0 rfl)
    have HZ := Lib.hid (SD.setN (SD.setN (H.out) 0 0 (.string ⟨#[67]⟩) rfl) 0 1 (.string x) rfl)
    clear H
    go_wp2
    refine bodyPost_ret (v := .agg #[.string ⟨#[67]⟩, .string x]) ?_ rfl (⟨(⟨#[67]⟩, x), ((p + 1) + 1), rfl, ⟨one_le _, Nat.le_trans HX.out (by decide)⟩, by omega, HZ.out.rd, HZ.out.gr⟩)
    simp [results, Tryz.results16, go_sem, x0_0, x0_1]
  · clear hk
    go_wp2_with fail
    have S9 := Sl.litS v1 9 l9C #[.string ⟨#[102, 105, 110, 101]⟩, .string ⟨#[102, 105, 110, 101]⟩, .string ⟨#[102, 105, 110, 101]⟩, .string ⟨#[102, 111, 114, 109]⟩] rfl
    have hw9 := (Below.refl v1.heap.size v1).alloc (Nat.le_refl _) (.cells #[.string ⟨#[102, 105, 110, 101]⟩, .string ⟨#[102, 105, 110, 101]⟩, .string ⟨#[102, 105, 110, 101]⟩, .string ⟨#[102, 111, 114, 109]⟩] 9)
    have hg9 := H.out.rd.1.lt
    have HW9 := Lib.hid (H.out.kept hw9)
    refine (of_any u0 RA rb rc g (p + 1) _ l9C 4 _ HW9.out.rd (by omega) (by decide) S9 (by intro b o h; simp at h; omega)).mono ?_
    rintro e v6 ⟨x, hx, rfl, hR9, hG9⟩
    replace H := Lib.hid (HW9.out.draw hR9 hG9)
    clear hR9 hG9 HW9 hw9 hg9 S9
    have HX := Lib.hid (l9C_le x hx)
    clear hx
    obtain ⟨x0_0, x0_1⟩ := Blk.q2 (H.out.blk 0 rfl)
    obtain ⟨z0_0, z0_1⟩ := Blk.z2 (H.out.blk 0 rfl)
    have HZ := Lib.hid (SD.setN (SD.setN (H.out) 0 0 (.string ⟨#[67]⟩) rfl) 0 1 (.string x) rfl)
    clear H
    go_wp2
    refine bodyPost_ret (v := .agg #[.string ⟨#[67]⟩, .string x]) ?_ rfl (⟨(⟨#[67]⟩, x), ((p + 1) + 1), rfl, ⟨one_le _, Nat.le_trans HX.out (by decide)⟩, by omega, HZ.out.rd, HZ.out.gr⟩)
    simp [results, Tryz.results16, go_sem, x0_0, x0_1]
  · clear hk
    go_wp2_with fail
    have S9 := Sl.litS v1 9 l9E #[.string ⟨#[102, 111, 114, 109]⟩, .string ⟨#[108, 97, 116, 101]⟩, .string ⟨#[110, 111, 110, 101]⟩, .string ⟨#[98, 97, 100]⟩, .string ⟨#[111, 118, 101, 114]⟩, .string ⟨#[102, 117, 108, 108]⟩, .string ⟨#[102, 105, 110, 101]⟩, .string ⟨#[102, 108, 121]⟩] rfl
    have hw9 := (Below.refl v1.heap.size v1).alloc (Nat.le_refl _) (.cells #[.string ⟨#[102, 111, 114, 109]⟩, .string ⟨#[108, 97, 116, 101]⟩, .string ⟨#[110, 111, 110, 101]⟩, .string ⟨#[98, 97, 100]⟩, .string ⟨#[111, 118, 101, 114]⟩, .string ⟨#[102, 117, 108, 108]⟩, .string ⟨#[102, 105, 110, 101]⟩, .string ⟨#[102, 108, 121]⟩] 9)
    have hg9 := H.out.rd.1.lt
    have HW9 := Lib.hid (H.out.kept hw9)
    refine (of_any u0 RA rb rc g (p + 1) _ l9E 8 _ HW9.out.rd (by omega) (by decide) S9 (by intro b o h; simp at h; omega)).mono ?_
    rintro e v7 ⟨x, hx, rfl, hR9, hG9⟩
    replace H := Lib.hid (HW9.out.draw hR9 hG9)
    clear hR9 hG9 HW9 hw9 hg9 S9
    have HX := Lib.hid (l9E_le x hx)
    clear hx
    obtain ⟨x0_0, x0_1⟩ := Blk.q2 (H.out.blk 0 rfl)
    obtain ⟨z0_0, z0_1⟩ := Blk.z2 (H.out.blk 0 rfl)
    have HZ := Lib.hid (SD.setN (SD.setN (H.out) 0 0 (.string ⟨#[69]⟩) rfl) 0 1 (.string x) rfl)
    clear H
    go_wp2
    refine bodyPost_ret (v := .agg #[.string ⟨#[69]⟩, .string x]) ?_ rfl (⟨(⟨#[69]⟩, x), ((p + 1) + 1), rfl, ⟨one_le _, Nat.le_trans HX.out (by decide)⟩, by omega, HZ.out.rd, HZ.out.gr⟩)
    simp [results, Tryz.results16, go_sem, x0_0, x0_1]
  · clear hk
    go_wp2_with fail
    have S9 := Sl.litS v1 9 l9Z #[.string ⟨#[105]⟩, .string ⟨#[116]⟩, .string ⟨#[101]⟩, .string ⟨#[105]⟩, .string ⟨#[120]⟩] rfl
    have hw9 := (Below.refl v1.heap.size v1).alloc (Nat.le_refl _) (.cells #[.string ⟨#[105]⟩, .string ⟨#[116]⟩, .string ⟨#[101]⟩, .string ⟨#[105]⟩, .string ⟨#[120]⟩] 9)
    have hg9 := H.out.rd.1.lt
    have HW9 := Lib.hid (H.out.kept hw9)
    refine (of_any u0 RA rb rc g (p + 1) _ l9Z 5 _ HW9.out.rd (by omega) (by decide) S9 (by intro b o h; simp at h; omega)).mono ?_
    rintro e v8 ⟨x, hx, rfl, hR9, hG9⟩
    replace H := Lib.hid (HW9.out.draw hR9 hG9)
    clear hR9 hG9 HW9 hw9 hg9 S9
    have HX := Lib.hid (l9Z_le x hx)
    clear hx
    obtain ⟨x0_0, x0_1⟩ := Blk.q2 (H.out.blk 0 rfl)
    obtain ⟨z0_0, z0_1⟩ := Blk.z2 (H.out.blk 0 rfl)
    have HZ := Lib.hid (SD.setN (SD.setN (H.out) 0 0 (.string ⟨#[90]⟩) rfl) 0 1 (.string x) rfl)
    clear H
    go_wp2
    refine bodyPost_ret (v := .agg #[.string ⟨#[90]⟩, .string x]) ?_ rfl (⟨(⟨#[90]⟩, x), ((p + 1) + 1), rfl, ⟨one_le _, Nat.le_trans HX.out (by decide)⟩, by omega, HZ.out.rd, HZ.out.gr⟩)
    simp [results, Tryz.results16, go_sem, x0_0, x0_1]
  · clear hk
    go_wp2_with fail
    have S9 := Sl.litS v1 9 l9Z #[.string ⟨#[105]⟩, .string ⟨#[116]⟩, .string ⟨#[101]⟩, .string ⟨#[105]⟩, .string ⟨#[120]⟩] rfl
    have hw9 := (Below.refl v1.heap.size v1).alloc (Nat.le_refl _) (.cells #[.string ⟨#[105]⟩, .string ⟨#[116]⟩, .string ⟨#[101]⟩, .string ⟨#[105]⟩, .string ⟨#[120]⟩] 9)
    have hg9 := H.out.rd.1.lt
    have HW9 := Lib.hid (H.out.kept hw9)
    refine (of_any u0 RA rb rc g (p + 1) _ l9Z 5 _ HW9.out.rd (by omega) (by decide) S9 (by intro b o h; simp at h; omega)).mono ?_
    rintro e v9 ⟨x, hx, rfl, hR9, hG9⟩
    replace H := Lib.hid (HW9.out.draw hR9 hG9)
    clear hR9 hG9 HW9 hw9 hg9 S9
    have HX := Lib.hid (l9Z_le x hx)
    clear hx
    obtain ⟨x0_0, x0_1⟩ := Blk.q2 (H.out.blk 0 rfl)
    obtain ⟨z0_0, z0_1⟩ := Blk.z2 (H.out.blk 0 rfl)
    have HZ := Lib.hid (SD.setN (SD.setN (H.out) 0 0 (.string ⟨#[90]⟩) rfl) 0 1 (.string x) rfl)
    clear H
    go_wp2
    refine bodyPost_ret (v := .agg #[.string ⟨#[90]⟩, .string x]) ?_ rfl (⟨(⟨#[90]⟩, x), ((p + 1) + 1), rfl, ⟨one_le _, Nat.le_trans HX.out (by decide)⟩, by omega, HZ.out.rd, HZ.out.gr⟩)
    simp [results, Tryz.results16, go_sem, x0_0, x0_1]
  · clear hk
    go_wp2_with fail
    have S9 := Sl.litS v1 9 l9O #[.string ⟨#[]⟩, .string ⟨#[]⟩, .string ⟨#[]⟩, .string ⟨#[97]⟩] rfl
    have hw9 := (Below.refl v1.heap.size v1).alloc (Nat.le_refl _) (.cells #[.string ⟨#[]⟩, .string ⟨#[]⟩, .string ⟨#[]⟩, .string ⟨#[97]⟩] 9)
    have hg9 := H.out.rd.1.lt
    have HW9 := Lib.hid (H.out.kept hw9)
    refine (of_any u0 RA rb rc g (p + 1) _ l9O 4 _ HW9.out.rd (by omega) (by decide) S9 (by intro b o h; simp at h; omega)).mono ?_
    rintro e v10 ⟨x, hx, rfl, hR9, hG9⟩
    replace H := Lib.hid (HW9.out.draw hR9 hG9)
    clear hR9 hG9 HW9 hw9 hg9 S9
    have HX := Lib.hid (l9O_le x hx)
    clear hx
    obtain ⟨x0_0, x0_1⟩ := Blk.q2 (H.out.blk 0 rfl)
    obtain ⟨z0_0, z0_1⟩ := Blk.z2 (H.out.blk 0 rfl)
    have HZ := Lib.hid (SD.setN (SD.setN (H.out) 0 0 (.string ⟨#[49]⟩) rfl) 0 1 (.string x) rfl)
    clear H
    go_wp2
    refine bodyPost_ret (v := .agg #[.string ⟨#[49]⟩, .string x]) ?_ rfl (⟨(⟨#[49]⟩, x), ((p + 1) + 1), rfl, ⟨one_le _, Nat.le_trans HX.out (by decide)⟩, by omega, HZ.out.rd, HZ.out.gr⟩)
    simp [results, Tryz.results16, go_sem, x0_0, x0_1]
  · clear hk
    go_wp2_with fail
    refine (pick_any u0 RA rb rc g (p + 1) 3 _ H.out.rd (by omega) (by omega)).mono ?_
    rintro e v11 ⟨j, hj, rfl, hR9, hG9⟩
    replace H := Lib.hid (H.out.draw hR9 hG9)
    clear hR9 hG9
    rcases (show j = 0 ∨ j = 1 ∨ j = 2 by omega) with rfl | rfl | rfl
    · clear hj
      go_wp2_with fail
      refine (letter_any u0 RA rb rc g ((p + 1) + 1) _ H.out.rd (by omega)).mono ?_
      rintro e w2 ⟨x, q, rfl, hx1, hx2, hq, hR9, hG9⟩
      obtain ⟨xs, xb⟩ := x
      simp only at hx1 hx2
      have HX := Lib.hid (⟨hx1, hx2⟩ : _ ∧ _)
      replace H := Lib.hid (H.out.draw hR9 hG9)
      clear hR9 hG9 hx1 hx2
      obtain ⟨x0_0, x0_1⟩ := Blk.q2 (H.out.blk 0 rfl)
      obtain ⟨z0_0, z0_1⟩ := Blk.z2 (H.out.blk 0 rfl)
      have HZ := Lib.hid (SD.setN (SD.setN (H.out) 0 0 (.string xs) rfl) 0 1 (.string xb) rfl)
      clear H
      go_wp2
      refine bodyPost_ret (v := .agg #[.string xs, .string xb]) ?_ rfl (⟨(xs, xb), q, rfl, ⟨Nat.le_trans HX.out.1 (by decide), Nat.le_trans HX.out.2 (by decide)⟩, by omega, HZ.out.rd, HZ.out.gr⟩)
      simp [results, Tryz.results16, go_sem, x0_0, x0_1]
    · clear hj
      obtain ⟨x0_0, x0_1⟩ := Blk.q2 (H.out.blk 0 rfl)
      obtain ⟨z0_0, z0_1⟩ := Blk.z2 (H.out.blk 0 rfl)
      have HZ := Lib.hid (SD.setN (SD.setN (H.out) 0 0 (.string ⟨#[66]⟩) rfl) 0 1 (.string ⟨#[]⟩) rfl)
      clear H
      go_wp2
      refine bodyPost_ret (v := .agg #[.string ⟨#[66]⟩, .string ⟨#[]⟩]) ?_ rfl (⟨(⟨#[66]⟩, ⟨#[]⟩), ((p + 1) + 1), rfl, ⟨one_le _, Nat.zero_le _⟩, by omega, HZ.out.rd, HZ.out.gr⟩)
      simp [results, Tryz.results16, go_sem, x0_0, x0_1]
    · clear hj
      obtain ⟨x0_0, x0_1⟩ := Blk.q2 (H.out.blk 0 rfl)
      obtain ⟨z0_0, z0_1⟩ := Blk.z2 (H.out.blk 0 rfl)
      have HZ := Lib.hid (SD.setN (SD.setN (H.out) 0 0 (.string ⟨#[66]⟩) rfl) 0 1 (.string ⟨#[]⟩) rfl)
      clear H
      go_wp2
      refine bodyPost_ret (v := .agg #[.string ⟨#[66]⟩, .string ⟨#[]⟩]) ?_ rfl (⟨(⟨#[66]⟩, ⟨#[]⟩), ((p + 1) + 1), rfl, ⟨one_le _, Nat.zero_le _⟩, by omega, HZ.out.rd, HZ.out.gr⟩)
      simp [results, Tryz.results16, go_sem, x0_0, x0_1]
end Go.Proofs.YtfmhhckkpenldaaGreatDoor
