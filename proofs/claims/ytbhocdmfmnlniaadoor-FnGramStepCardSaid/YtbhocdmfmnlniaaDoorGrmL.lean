/- Drawing a letter that one may be told, and a state. -/
import Derived.Test.YtbhocdmfmnlniaaDoorLtrM
import Derived.Test.YtbhocdmfmnlniaaDoorBytes
namespace Go.Proofs.YtbhocdmfmnlniaaDoor
open Go.RowKit
def rowL : List ByteArray := [⟨#[97, 32, 49]⟩, ⟨#[122, 122, 32, 45, 57, 57, 57]⟩, ⟨#[98, 32, 48]⟩, ⟨#[97]⟩, ⟨#[97, 32, 48, 49]⟩, ⟨#[97, 98, 99, 32, 49]⟩]
theorem rowL_le : ∀ x ∈ rowL, x.size ≤ 20 := by decide
def finL : List ByteArray := [⟨#[102, 105, 110, 101]⟩, ⟨#[102, 105, 110, 101]⟩, ⟨#[102, 105, 110, 101]⟩, ⟨#[102, 111, 114, 109]⟩]
theorem finL_le : ∀ x ∈ finL, x.size ≤ 20 := by decide
def errL : List ByteArray := [⟨#[102, 111, 114, 109]⟩, ⟨#[108, 97, 116, 101]⟩, ⟨#[110, 111, 110, 101]⟩, ⟨#[98, 97, 100]⟩, ⟨#[111, 118, 101, 114]⟩, ⟨#[102, 117, 108, 108]⟩, ⟨#[102, 105, 110, 101]⟩, ⟨#[102, 108, 121]⟩]
theorem errL_le : ∀ x ∈ errL, x.size ≤ 20 := by decide
def rdyL : List ByteArray := [⟨#[105]⟩, ⟨#[116]⟩, ⟨#[101]⟩, ⟨#[105]⟩, ⟨#[120]⟩]
theorem rdyL_le : ∀ x ∈ rdyL, x.size ≤ 20 := by decide
def oneL : List ByteArray := [⟨#[]⟩, ⟨#[]⟩, ⟨#[]⟩, ⟨#[97]⟩]
theorem oneL_le : ∀ x ∈ oneL, x.size ≤ 20 := by decide
def stL : List Int := [0, 0, 0, 1, 1, 2, 3, -1, 4]
set_option maxRecDepth 100000 in
set_option maxHeartbeats 2000000 in
theorem told_any (w0 : World) (A : Option Addr) (bs : List UInt8) (c g p : Nat) (w : World) (hR : Rd w0 w A bs c g p) (hp : p < 900000) :
    Calls Tryd.prog 26 #[.pointer (some ⟨g, 0, none⟩)] w (DrawPost w0 w A bs c g p 6) := by
  have hgl := hR.1.lt
  have hg0 : w0.heap.size ≤ g := hR.2.2.1
  have hR1 := hR.alloc (.cells #[.string ⟨#[]⟩, .string ⟨#[]⟩] 26)
  have hB := Blk.new w 26 #[.string ⟨#[]⟩, .string ⟨#[]⟩]
  have hG : w.grownBy (w.alloc (.cells #[.string ⟨#[]⟩, .string ⟨#[]⟩] 26)) (some g) := grown_alloc (World.grownBy.refl w (some g)) _
  have hs1 : (w.alloc (.cells #[.string ⟨#[]⟩, .string ⟨#[]⟩] 26)).heap.size = w.heap.size + 1 := by simp
  go_enter Tryd.func26, Tryd.ntmps26
  go_wp2_with fail
  generalize w.alloc (.cells #[.string ⟨#[]⟩, .string ⟨#[]⟩] 26) = w1 at *
  refine (pick_any w0 A bs c g p 10 _ hR1 (by omega) (by omega)).mono ?_
  rintro e w2 ⟨k, hk, rfl, hR2, hG2⟩
  have hB2 := hB.grown hG2 (by simp; omega)
  have hG02 := grown_trans hG hG2
  have hs2 := hG2.size
  rw [hs1] at hs2
  clear hB hG hG2 hR1 hR
  have hk10 : k = 0 ∨ k = 1 ∨ k = 2 ∨ k = 3 ∨ k = 4 ∨ k = 5 ∨ k = 6 ∨ k = 7 ∨ k = 8 ∨ k = 9 := by omega
  clear hk
  rcases hk10 with rfl | rfl | rfl | rfl | rfl | rfl | rfl | rfl | rfl | rfl
  · go_wp2_with fail
    have S := Sl.lit w2 9 rowL #[.string ⟨#[97, 32, 49]⟩, .string ⟨#[122, 122, 32, 45, 57, 57, 57]⟩, .string ⟨#[98, 32, 48]⟩, .string ⟨#[97]⟩, .string ⟨#[97, 32, 48, 49]⟩, .string ⟨#[97, 98, 99, 32, 49]⟩] rfl
    refine (of_any w0 A bs c g (p + 1) (some ⟨w2.heap.size, 0, none⟩) rowL 6 _ (hR2.alloc _) (by omega) (by decide) S (by intro b o h; simp at h; omega)).mono ?_
    rintro e w3 ⟨x, hx, rfl, hR3, hG3⟩
    have hl := rowL_le x hx
    have hB3 := (hB2.alloc _).grown hG3 (by simp; omega)
    have hG03 := grown_trans (grown_alloc hG02 _) hG3
    have hs3 := hG3.size
    rw [World.size_alloc] at hs3
    have y0 := hB3.frozen 0
    have y1 := hB3.frozen 1
    have b0 : w3.cell? ⟨w.heap.size, 0, none⟩ = some (.string ⟨#[]⟩) := hB3.cell 0
    have b1 : w3.cell? ⟨w.heap.size, 1, none⟩ = some (.string ⟨#[]⟩) := hB3.cell 1
    have HB3 := Lib.hid hB3
    clear hB2 hG02 hG3 S hx hR2 hB3
    go_wp2
    obtain ⟨q0, q1⟩ := HB3.out.two (.string ⟨#[82]⟩) (.string x)
    refine bodyPost_ret (v := .agg #[.string ⟨#[82]⟩, .string x]) (by simp [results, Tryd.results26, go_sem, q0, q1]) rfl ⟨(⟨#[82]⟩, x), p + 1 + 1, rfl, (show (⟨#[82]⟩ : ByteArray).size ≤ 2 by decide), by simp only; omega, by omega, (hR3.far (by simp; omega) (by simp; omega) _).far (by simp; omega) (by simp; omega) _, grown_far (grown_far hG03 (by simp) _) (by simp) _⟩
  · go_wp2_with fail
    have S := Sl.lit w2 9 rowL #[.string ⟨#[97, 32, 49]⟩, .string ⟨#[122, 122, 32, 45, 57, 57, 57]⟩, .string ⟨#[98, 32, 48]⟩, .string ⟨#[97]⟩, .string ⟨#[97, 32, 48, 49]⟩, .string ⟨#[97, 98, 99, 32, 49]⟩] rfl
    refine (of_any w0 A bs c g (p + 1) (some ⟨w2.heap.size, 0, none⟩) rowL 6 _ (hR2.alloc _) (by omega) (by decide) S (by intro b o h; simp at h; omega)).mono ?_
    rintro e w3 ⟨x, hx, rfl, hR3, hG3⟩
    have hl := rowL_le x hx
    have hB3 := (hB2.alloc _).grown hG3 (by simp; omega)
    have hG03 := grown_trans (grown_alloc hG02 _) hG3
    have hs3 := hG3.size
    rw [World.size_alloc] at hs3
    have y0 := hB3.frozen 0
    have y1 := hB3.frozen 1
    have b0 : w3.cell? ⟨w.heap.size, 0, none⟩ = some (.string ⟨#[]⟩) := hB3.cell 0
    have b1 : w3.cell? ⟨w.heap.size, 1, none⟩ = some (.string ⟨#[]⟩) := hB3.cell 1
    have HB3 := Lib.hid hB3
    clear hB2 hG02 hG3 S hx hR2 hB3
    go_wp2
    obtain ⟨q0, q1⟩ := HB3.out.two (.string ⟨#[82]⟩) (.string x)
    refine bodyPost_ret (v := .agg #[.string ⟨#[82]⟩, .string x]) (by simp [results, Tryd.results26, go_sem, q0, q1]) rfl ⟨(⟨#[82]⟩, x), p + 1 + 1, rfl, (show (⟨#[82]⟩ : ByteArray).size ≤ 2 by decide), by simp only; omega, by omega, (hR3.far (by simp; omega) (by simp; omega) _).far (by simp; omega) (by simp; omega) _, grown_far (grown_far hG03 (by simp) _) (by simp) _⟩
  · go_wp2_with fail
    have S := Sl.lit w2 9 finL #[.string ⟨#[102, 105, 110, 101]⟩, .string ⟨#[102, 105, 110, 101]⟩, .string ⟨#[102, 105, 110, 101]⟩, .string ⟨#[102, 111, 114, 109]⟩] rfl
    refine (of_any w0 A bs c g (p + 1) (some ⟨w2.heap.size, 0, none⟩) finL 4 _ (hR2.alloc _) (by omega) (by decide) S (by intro b o h; simp at h; omega)).mono ?_
    rintro e w3 ⟨x, hx, rfl, hR3, hG3⟩
    have hl := finL_le x hx
    have hB3 := (hB2.alloc _).grown hG3 (by simp; omega)
    have hG03 := grown_trans (grown_alloc hG02 _) hG3
    have hs3 := hG3.size
    rw [World.size_alloc] at hs3
    have y0 := hB3.frozen 0
    have y1 := hB3.frozen 1
    have b0 : w3.cell? ⟨w.heap.size, 0, none⟩ = some (.string ⟨#[]⟩) := hB3.cell 0
    have b1 : w3.cell? ⟨w.heap.size, 1, none⟩ = some (.string ⟨#[]⟩) := hB3.cell 1
    have HB3 := Lib.hid hB3
    clear hB2 hG02 hG3 S hx hR2 hB3
    go_wp2
    obtain ⟨q0, q1⟩ := HB3.out.two (.string ⟨#[67]⟩) (.string x)
    refine bodyPost_ret (v := .agg #[.string ⟨#[67]⟩, .string x]) (by simp [results, Tryd.results26, go_sem, q0, q1]) rfl ⟨(⟨#[67]⟩, x), p + 1 + 1, rfl, (show (⟨#[67]⟩ : ByteArray).size ≤ 2 by decide), by simp only; omega, by omega, (hR3.far (by simp; omega) (by simp; omega) _).far (by simp; omega) (by simp; omega) _, grown_far (grown_far hG03 (by simp) _) (by simp) _⟩
  · go_wp2_with fail
    have S := Sl.lit w2 9 finL #[.string ⟨#[102, 105, 110, 101]⟩, .string ⟨#[102, 105, 110, 101]⟩, .string ⟨#[102, 105, 110, 101]⟩, .string ⟨#[102, 111, 114, 109]⟩] rfl
    refine (of_any w0 A bs c g (p + 1) (some ⟨w2.heap.size, 0, none⟩) finL 4 _ (hR2.alloc _) (by omega) (by decide) S (by intro b o h; simp at h; omega)).mono ?_
    rintro e w3 ⟨x, hx, rfl, hR3, hG3⟩
    have hl := finL_le x hx
    have hB3 := (hB2.alloc _).grown hG3 (by simp; omega)
    have hG03 := grown_trans (grown_alloc hG02 _) hG3
    have hs3 := hG3.size
    rw [World.size_alloc] at hs3
    have y0 := hB3.frozen 0
    have y1 := hB3.frozen 1
    have b0 : w3.cell? ⟨w.heap.size, 0, none⟩ = some (.string ⟨#[]⟩) := hB3.cell 0
    have b1 : w3.cell? ⟨w.heap.size, 1, none⟩ = some (.string ⟨#[]⟩) := hB3.cell 1
    have HB3 := Lib.hid hB3
    clear hB2 hG02 hG3 S hx hR2 hB3
    go_wp2
    obtain ⟨q0, q1⟩ := HB3.out.two (.string ⟨#[67]⟩) (.string x)
    refine bodyPost_ret (v := .agg #[.string ⟨#[67]⟩, .string x]) (by simp [results, Tryd.results26, go_sem, q0, q1]) rfl ⟨(⟨#[67]⟩, x), p + 1 + 1, rfl, (show (⟨#[67]⟩ : ByteArray).size ≤ 2 by decide), by simp only; omega, by omega, (hR3.far (by simp; omega) (by simp; omega) _).far (by simp; omega) (by simp; omega) _, grown_far (grown_far hG03 (by simp) _) (by simp) _⟩
  · go_wp2_with fail
    have S := Sl.lit w2 9 finL #[.string ⟨#[102, 105, 110, 101]⟩, .string ⟨#[102, 105, 110, 101]⟩, .string ⟨#[102, 105, 110, 101]⟩, .string ⟨#[102, 111, 114, 109]⟩] rfl
    refine (of_any w0 A bs c g (p + 1) (some ⟨w2.heap.size, 0, none⟩) finL 4 _ (hR2.alloc _) (by omega) (by decide) S (by intro b o h; simp at h; omega)).mono ?_
    rintro e w3 ⟨x, hx, rfl, hR3, hG3⟩
    have hl := finL_le x hx
    have hB3 := (hB2.alloc _).grown hG3 (by simp; omega)
    have hG03 := grown_trans (grown_alloc hG02 _) hG3
    have hs3 := hG3.size
    rw [World.size_alloc] at hs3
    have y0 := hB3.frozen 0
    have y1 := hB3.frozen 1
    have b0 : w3.cell? ⟨w.heap.size, 0, none⟩ = some (.string ⟨#[]⟩) := hB3.cell 0
    have b1 : w3.cell? ⟨w.heap.size, 1, none⟩ = some (.string ⟨#[]⟩) := hB3.cell 1
    have HB3 := Lib.hid hB3
    clear hB2 hG02 hG3 S hx hR2 hB3
    go_wp2
    obtain ⟨q0, q1⟩ := HB3.out.two (.string ⟨#[67]⟩) (.string x)
    refine bodyPost_ret (v := .agg #[.string ⟨#[67]⟩, .string x]) (by simp [results, Tryd.results26, go_sem, q0, q1]) rfl ⟨(⟨#[67]⟩, x), p + 1 + 1, rfl, (show (⟨#[67]⟩ : ByteArray).size ≤ 2 by decide), by simp only; omega, by omega, (hR3.far (by simp; omega) (by simp; omega) _).far (by simp; omega) (by simp; omega) _, grown_far (grown_far hG03 (by simp) _) (by simp) _⟩
  · go_wp2_with fail
    have S := Sl.lit w2 9 errL #[.string ⟨#[102, 111, 114, 109]⟩, .string ⟨#[108, 97, 116, 101]⟩, .string ⟨#[110, 111, 110, 101]⟩, .string ⟨#[98, 97, 100]⟩, .string ⟨#[111, 118, 101, 114]⟩, .string ⟨#[102, 117, 108, 108]⟩, .string ⟨#[102, 105, 110, 101]⟩, .string ⟨#[102, 108, 121]⟩] rfl
    refine (of_any w0 A bs c g (p + 1) (some ⟨w2.heap.size, 0, none⟩) errL 8 _ (hR2.alloc _) (by omega) (by decide) S (by intro b o h; simp at h; omega)).mono ?_
    rintro e w3 ⟨x, hx, rfl, hR3, hG3⟩
    have hl := errL_le x hx
    have hB3 := (hB2.alloc _).grown hG3 (by simp; omega)
    have hG03 := grown_trans (grown_alloc hG02 _) hG3
    have hs3 := hG3.size
    rw [World.size_alloc] at hs3
    have y0 := hB3.frozen 0
    have y1 := hB3.frozen 1
    have b0 : w3.cell? ⟨w.heap.size, 0, none⟩ = some (.string ⟨#[]⟩) := hB3.cell 0
    have b1 : w3.cell? ⟨w.heap.size, 1, none⟩ = some (.string ⟨#[]⟩) := hB3.cell 1
    have HB3 := Lib.hid hB3
    clear hB2 hG02 hG3 S hx hR2 hB3
    go_wp2
    obtain ⟨q0, q1⟩ := HB3.out.two (.string ⟨#[69]⟩) (.string x)
    refine bodyPost_ret (v := .agg #[.string ⟨#[69]⟩, .string x]) (by simp [results, Tryd.results26, go_sem, q0, q1]) rfl ⟨(⟨#[69]⟩, x), p + 1 + 1, rfl, (show (⟨#[69]⟩ : ByteArray).size ≤ 2 by decide), by simp only; omega, by omega, (hR3.far (by simp; omega) (by simp; omega) _).far (by simp; omega) (by simp; omega) _, grown_far (grown_far hG03 (by simp) _) (by simp) _⟩
  · go_wp2_with fail
    have S := Sl.lit w2 9 rdyL #[.string ⟨#[105]⟩, .string ⟨#[116]⟩, .string ⟨#[101]⟩, .string ⟨#[105]⟩, .string ⟨#[120]⟩] rfl
    refine (of_any w0 A bs c g (p + 1) (some ⟨w2.heap.size, 0, none⟩) rdyL 5 _ (hR2.alloc _) (by omega) (by decide) S (by intro b o h; simp at h; omega)).mono ?_
    rintro e w3 ⟨x, hx, rfl, hR3, hG3⟩
    have hl := rdyL_le x hx
    have hB3 := (hB2.alloc _).grown hG3 (by simp; omega)
    have hG03 := grown_trans (grown_alloc hG02 _) hG3
    have hs3 := hG3.size
    rw [World.size_alloc] at hs3
    have y0 := hB3.frozen 0
    have y1 := hB3.frozen 1
    have b0 : w3.cell? ⟨w.heap.size, 0, none⟩ = some (.string ⟨#[]⟩) := hB3.cell 0
    have b1 : w3.cell? ⟨w.heap.size, 1, none⟩ = some (.string ⟨#[]⟩) := hB3.cell 1
    have HB3 := Lib.hid hB3
    clear hB2 hG02 hG3 S hx hR2 hB3
    go_wp2
    obtain ⟨q0, q1⟩ := HB3.out.two (.string ⟨#[90]⟩) (.string x)
    refine bodyPost_ret (v := .agg #[.string ⟨#[90]⟩, .string x]) (by simp [results, Tryd.results26, go_sem, q0, q1]) rfl ⟨(⟨#[90]⟩, x), p + 1 + 1, rfl, (show (⟨#[90]⟩ : ByteArray).size ≤ 2 by decide), by simp only; omega, by omega, (hR3.far (by simp; omega) (by simp; omega) _).far (by simp; omega) (by simp; omega) _, grown_far (grown_far hG03 (by simp) _) (by simp) _⟩
  · go_wp2_with fail
    have S := Sl.lit w2 9 rdyL #[.string ⟨#[105]⟩, .string ⟨#[116]⟩, .string ⟨#[101]⟩, .string ⟨#[105]⟩, .string ⟨#[120]⟩] rfl
    refine (of_any w0 A bs c g (p + 1) (some ⟨w2.heap.size, 0, none⟩) rdyL 5 _ (hR2.alloc _) (by omega) (by decide) S (by intro b o h; simp at h; omega)).mono ?_
    rintro e w3 ⟨x, hx, rfl, hR3, hG3⟩
    have hl := rdyL_le x hx
    have hB3 := (hB2.alloc _).grown hG3 (by simp; omega)
    have hG03 := grown_trans (grown_alloc hG02 _) hG3
    have hs3 := hG3.size
    rw [World.size_alloc] at hs3
    have y0 := hB3.frozen 0
    have y1 := hB3.frozen 1
    have b0 : w3.cell? ⟨w.heap.size, 0, none⟩ = some (.string ⟨#[]⟩) := hB3.cell 0
    have b1 : w3.cell? ⟨w.heap.size, 1, none⟩ = some (.string ⟨#[]⟩) := hB3.cell 1
    have HB3 := Lib.hid hB3
    clear hB2 hG02 hG3 S hx hR2 hB3
    go_wp2
    obtain ⟨q0, q1⟩ := HB3.out.two (.string ⟨#[90]⟩) (.string x)
    refine bodyPost_ret (v := .agg #[.string ⟨#[90]⟩, .string x]) (by simp [results, Tryd.results26, go_sem, q0, q1]) rfl ⟨(⟨#[90]⟩, x), p + 1 + 1, rfl, (show (⟨#[90]⟩ : ByteArray).size ≤ 2 by decide), by simp only; omega, by omega, (hR3.far (by simp; omega) (by simp; omega) _).far (by simp; omega) (by simp; omega) _, grown_far (grown_far hG03 (by simp) _) (by simp) _⟩
  · go_wp2_with fail
    have S := Sl.lit w2 9 oneL #[.string ⟨#[]⟩, .string ⟨#[]⟩, .string ⟨#[]⟩, .string ⟨#[97]⟩] rfl
    refine (of_any w0 A bs c g (p + 1) (some ⟨w2.heap.size, 0, none⟩) oneL 4 _ (hR2.alloc _) (by omega) (by decide) S (by intro b o h; simp at h; omega)).mono ?_
    rintro e w3 ⟨x, hx, rfl, hR3, hG3⟩
    have hl := oneL_le x hx
    have hB3 := (hB2.alloc _).grown hG3 (by simp; omega)
    have hG03 := grown_trans (grown_alloc hG02 _) hG3
    have hs3 := hG3.size
    rw [World.size_alloc] at hs3
    have y0 := hB3.frozen 0
    have y1 := hB3.frozen 1
    have b0 : w3.cell? ⟨w.heap.size, 0, none⟩ = some (.string ⟨#[]⟩) := hB3.cell 0
    have b1 : w3.cell? ⟨w.heap.size, 1, none⟩ = some (.string ⟨#[]⟩) := hB3.cell 1
    have HB3 := Lib.hid hB3
    clear hB2 hG02 hG3 S hx hR2 hB3
    go_wp2
    obtain ⟨q0, q1⟩ := HB3.out.two (.string ⟨#[49]⟩) (.string x)
    refine bodyPost_ret (v := .agg #[.string ⟨#[49]⟩, .string x]) (by simp [results, Tryd.results26, go_sem, q0, q1]) rfl ⟨(⟨#[49]⟩, x), p + 1 + 1, rfl, (show (⟨#[49]⟩ : ByteArray).size ≤ 2 by decide), by simp only; omega, by omega, (hR3.far (by simp; omega) (by simp; omega) _).far (by simp; omega) (by simp; omega) _, grown_far (grown_far hG03 (by simp) _) (by simp) _⟩
  · go_wp2_with fail
    refine (pick_any w0 A bs c g (p + 1) 3 _ hR2 (by omega) (by omega)).mono ?_
    rintro e w3 ⟨k2, hk2, rfl, hR3, hG3⟩
    have hB3 := hB2.grown hG3 (by simp; omega)
    have hG03 := grown_trans hG02 hG3
    have hs3 := hG3.size
    clear hB2 hG02 hG3 hR2
    by_cases h0 : k2 = 0
    · have h0' : ((k2 : Int) == 0) = true := by simp [h0]
      clear h0
      go_wp2_with fail
      refine (letter_any w0 A bs c g (p + 1 + 1) w3 hR3 (by omega)).mono ?_
      rintro e w4 ⟨x, q, rfl, hx1, hx2, hq, hR4, hG4⟩
      have hB4 := hB3.grown hG4 (by simp; omega)
      have hG04 := grown_trans hG03 hG4
      have hs4 := hG4.size
      have y0 := hB4.frozen 0
      have y1 := hB4.frozen 1
      have b0 : w4.cell? ⟨w.heap.size, 0, none⟩ = some (.string ⟨#[]⟩) := hB4.cell 0
      have b1 : w4.cell? ⟨w.heap.size, 1, none⟩ = some (.string ⟨#[]⟩) := hB4.cell 1
      have HB4 := Lib.hid hB4
      clear hB3 hG03 hG4 hR3 hB4
      go_wp2
      obtain ⟨q0, q1⟩ := HB4.out.two (.string x.1) (.string x.2)
      refine bodyPost_ret (v := .agg #[.string x.1, .string x.2]) (by simp [results, Tryd.results26, go_sem, q0, q1]) rfl ⟨x, q, rfl, hx1, hx2, by omega, (hR4.far (by simp; omega) (by simp; omega) _).far (by simp; omega) (by simp; omega) _, grown_far (grown_far hG04 (by simp) _) (by simp) _⟩
    · have h0' : ((k2 : Int) == 0) = false := by simp; omega
      have y0 := hB3.frozen 0
      have y1 := hB3.frozen 1
      have b0 : w3.cell? ⟨w.heap.size, 0, none⟩ = some (.string ⟨#[]⟩) := hB3.cell 0
      have b1 : w3.cell? ⟨w.heap.size, 1, none⟩ = some (.string ⟨#[]⟩) := hB3.cell 1
      have HB3 := Lib.hid hB3
      clear h0 hB3
      go_wp2
      obtain ⟨q0, q1⟩ := HB3.out.two (.string ⟨#[66]⟩) (.string ⟨#[]⟩)
      refine bodyPost_ret (v := .agg #[.string ⟨#[66]⟩, .string ⟨#[]⟩]) (by simp [results, Tryd.results26, go_sem, q0, q1]) rfl ⟨(⟨#[66]⟩, ⟨#[]⟩), p + 1 + 1, rfl, by decide, by decide, by omega, (hR3.far (by simp; omega) (by simp; omega) _).far (by simp; omega) (by simp; omega) _, grown_far (grown_far hG03 (by simp) _) (by simp) _⟩
end Go.Proofs.YtbhocdmfmnlniaaDoor
