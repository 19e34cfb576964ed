import Derived.BigQuiet
import Derived.Test.YtpjkcmmmpgncmaaL9L
import Derived.Test.YtpjkcmmmpgncmaaAskD
/- The reference's l6Draw: a letter to one who talks is drawn. -/
namespace Go.Proofs.Ytpjkcmmmpgncmaa
open Go.RowKit
def l6N : List ByteArray := [⟨#[97]⟩, ⟨#[98]⟩, ⟨#[99]⟩, ⟨#[100]⟩]
theorem l6N_le : ∀ x ∈ l6N, x.size ≤ 1 := by decide
def l6S : List ByteArray := [⟨#[81]⟩, ⟨#[80]⟩, ⟨#[69]⟩, ⟨#[83]⟩, ⟨#[81]⟩, ⟨#[83]⟩]
theorem l6S_le : ∀ x ∈ l6S, x.size ≤ 1 := by decide
def l6B : List ByteArray := [⟨#[]⟩, ⟨#[102, 108, 121]⟩, ⟨#[97]⟩, ⟨#[97, 98, 32, 103, 101, 116, 32, 97]⟩, ⟨#[97, 32, 32, 103, 101, 116, 32, 97]⟩, ⟨#[122, 122]⟩]
theorem l6B_le : ∀ x ∈ l6B, x.size ≤ 8 := by decide
def l6X : List ByteArray := [⟨#[88]⟩, ⟨#[65]⟩, ⟨#[48]⟩, ⟨#[88]⟩]
theorem l6X_le : ∀ x ∈ l6X, x.size ≤ 1 := by decide

set_option maxRecDepth 100000 in
set_option maxHeartbeats 16000000 in
theorem l6Draw_any (u0 : World) (RA : Option Addr) (rb : List UInt8) (rc g p : Nat) (A2 : Option Addr) (rows : List Row) (c2 : Nat) (A3 : Option Addr) (ns : List Nm) (c3 : Nat) (w : World) (hR : Rd u0 w RA rb rc g p) (hp : p < 700000) (hl : rows.length ≤ 1000) (hk : ∀ x ∈ rows, x.1.size ≤ maxLen) (hS : Sl encRow 2 w A2 rows) (hne2 : ∀ b o, A2 = some ⟨b, o, none⟩ → b ≠ g ∧ b < w.heap.size) (hN : NK w A3 ns) :
    Calls Try.prog 135 #[.pointer (some ⟨g, 0, none⟩), .slice A2 rows.length c2, .slice A3 ns.length c3] w (LetD u0 w RA rb rc g p 60) := by
  have HK := Lib.hid hk
  have HNN := Lib.hid hN.2.1
  have hn4 : ns.length ≤ 4 := hN.2.2
  have hbE := allocAll_below w [(94, #[.string ⟨#[]⟩, .string ⟨#[]⟩])]
  have H : Hid (SD u0 RA rb rc g p w [(w.heap.size, 94, #[.string ⟨#[]⟩, .string ⟨#[]⟩])] [fun W => NK W A3 ns] ((allocAll w [(94, #[.string ⟨#[]⟩, .string ⟨#[]⟩])]))) := Lib.hid (SD.add (SD.start hR [(94, #[.string ⟨#[]⟩, .string ⟨#[]⟩])]) _ NK.c (NK.c _ _ (Kp.below hbE) hN))
  clear hbE
  go_enter Try.func135, Try.ntmps135
  have HS2 := Lib.hid (hS.below (allocAll_below w [(94, #[.string ⟨#[]⟩, .string ⟨#[]⟩])]))
  have HNE2 := Lib.hid (show ∀ b o, A2 = some ⟨b, o, none⟩ → b ≠ g ∧ b < (allocAll w [(94, #[.string ⟨#[]⟩, .string ⟨#[]⟩])]).heap.size from fun b o e => ⟨(hne2 b o e).1, Nat.lt_of_lt_of_le (hne2 b o e).2 (allocAll_below w [(94, #[.string ⟨#[]⟩, .string ⟨#[]⟩])]).size⟩)
  clear hR hk hS hne2 hN
  go_wp2_with fail
  change Calls _ _ _ (allocAll w [(94, #[.string ⟨#[]⟩, .string ⟨#[]⟩])]) _
  generalize (allocAll w [(94, #[.string ⟨#[]⟩, .string ⟨#[]⟩])]) = v0 at *
  refine (l4Ask_any u0 RA rb rc g p A2 rows c2 _ H.out.rd (by omega) hl HK.out HS2.out HNE2.out).mono ?_
  rintro e v1 ⟨x, q1, rfl, hxB, hq1, hR9, hG9⟩
  obtain ⟨ak, aa, ab, an⟩ := x
  obtain ⟨hxa, hxb⟩ := hxB
  simp only at hxa hxb
  replace H := Lib.hid (H.out.draw hR9 hG9)
  clear hR9 hG9 HS2 HNE2 HK
  go_wp2_with fail
  refine (specAskText_any (ak, aa, ab, an) _ hxa hxb).mono ?_
  rintro e v2 ⟨s, rfl, hs, -, hb2⟩
  replace H := Lib.hid (H.out.kept hb2)
  clear hb2 hxa hxb
  have HSZ := Lib.hid hs
  clear hs
  go_wp2_with fail
  have S9 := Sl.litS v2 9 l6N #[.string ⟨#[97]⟩, .string ⟨#[98]⟩, .string ⟨#[99]⟩, .string ⟨#[100]⟩] rfl
  have hw9 := (Below.refl v2.heap.size v2).alloc (Nat.le_refl _) (.cells #[.string ⟨#[97]⟩, .string ⟨#[98]⟩, .string ⟨#[99]⟩, .string ⟨#[100]⟩] 9)
  have hg9 := H.out.rd.1.lt
  have HW9 := Lib.hid (H.out.kept hw9)
  refine (of_any u0 RA rb rc g q1 _ l6N 4 _ HW9.out.rd (by omega) (by decide) S9 (by intro b o h; simp at h; omega)).mono ?_
  rintro e v1 ⟨x, hx, rfl, hR9, hG9⟩
  replace H := Lib.hid (HW9.out.draw hR9 hG9)
  clear hR9 hG9 HW9 hw9 hg9 S9
  have HX0 := l6N_le x hx
  clear hx
  have HX := Lib.hid (show x.size ≤ 10 by omega)
  clear HX0
  by_cases hn0 : ns.length = 0
  case pos =>
    have d0 : decide ((0 : Int) < (ns.length : Int)) = false := decide_eq_false (by omega)
    have d1 : ¬ (0 : Int) < (ns.length : Int) := by omega
    go_wp2_with fail
    refine (pick_any u0 RA rb rc g (q1 + 1) 16 _ H.out.rd (by omega) (by omega)).mono ?_
    rintro e v2 ⟨k, hk, rfl, hR9, hG9⟩
    replace H := Lib.hid (H.out.draw hR9 hG9)
    clear hR9 hG9
    rcases (show k = 0 ∨ k = 1 ∨ k = 2 ∨ k = 3 ∨ k = 4 ∨ k = 5 ∨ k = 6 ∨ k = 7 ∨ k = 8 ∨ k = 9 ∨ k = 10 ∨ k = 11 ∨ k = 12 ∨ k = 13 ∨ k = 14 ∨ k = 15 by omega) with rfl | rfl | rfl | rfl | rfl | rfl | rfl | rfl | rfl | rfl | rfl | rfl | rfl | rfl | rfl | rfl
    · clear hk
      obtain ⟨x0_0, x0_1⟩ := Blk.q2 (H.out.blk 0 rfl)
      obtain ⟨z0_0, z0_1⟩ := Blk.z2 (H.out.blk 0 rfl)
      have HZ := Lib.hid (SD.setN (SD.setN (H.out) 0 0 (.string ⟨#[81]⟩) rfl) 0 1 (.string s) rfl)
      clear H
      go_wp2
      refine bodyPost_ret (v := .agg #[.string ⟨#[81]⟩, .string s]) ?_ rfl (⟨(⟨#[81]⟩, s), ((q1 + 1) + 1), rfl, ⟨one_le _, Nat.le_trans HSZ.out (by decide)⟩, by omega, HZ.out.rd, HZ.out.gr⟩)
      simp [results, Try.results135, go_sem, x0_0, x0_1]
    · clear hk
      obtain ⟨x0_0, x0_1⟩ := Blk.q2 (H.out.blk 0 rfl)
      obtain ⟨z0_0, z0_1⟩ := Blk.z2 (H.out.blk 0 rfl)
      have HZ := Lib.hid (SD.setN (SD.setN (H.out) 0 0 (.string ⟨#[81]⟩) rfl) 0 1 (.string s) rfl)
      clear H
      go_wp2
      refine bodyPost_ret (v := .agg #[.string ⟨#[81]⟩, .string s]) ?_ rfl (⟨(⟨#[81]⟩, s), ((q1 + 1) + 1), rfl, ⟨one_le _, Nat.le_trans HSZ.out (by decide)⟩, by omega, HZ.out.rd, HZ.out.gr⟩)
      simp [results, Try.results135, go_sem, x0_0, x0_1]
    · clear hk
      obtain ⟨x0_0, x0_1⟩ := Blk.q2 (H.out.blk 0 rfl)
      obtain ⟨z0_0, z0_1⟩ := Blk.z2 (H.out.blk 0 rfl)
      have HZ := Lib.hid (SD.setN (SD.setN (H.out) 0 0 (.string ⟨#[81]⟩) rfl) 0 1 (.string s) rfl)
      clear H
      go_wp2
      refine bodyPost_ret (v := .agg #[.string ⟨#[81]⟩, .string s]) ?_ rfl (⟨(⟨#[81]⟩, s), ((q1 + 1) + 1), rfl, ⟨one_le _, Nat.le_trans HSZ.out (by decide)⟩, by omega, HZ.out.rd, HZ.out.gr⟩)
      simp [results, Try.results135, go_sem, x0_0, x0_1]
    · clear hk
      obtain ⟨x0_0, x0_1⟩ := Blk.q2 (H.out.blk 0 rfl)
      obtain ⟨z0_0, z0_1⟩ := Blk.z2 (H.out.blk 0 rfl)
      have HZ := Lib.hid (SD.setN (SD.setN (H.out) 0 0 (.string ⟨#[81]⟩) rfl) 0 1 (.string s) rfl)
      clear H
      go_wp2
      refine bodyPost_ret (v := .agg #[.string ⟨#[81]⟩, .string s]) ?_ rfl (⟨(⟨#[81]⟩, s), ((q1 + 1) + 1), rfl, ⟨one_le _, Nat.le_trans HSZ.out (by decide)⟩, by omega, HZ.out.rd, HZ.out.gr⟩)
      simp [results, Try.results135, go_sem, x0_0, x0_1]
    · clear hk
      obtain ⟨x0_0, x0_1⟩ := Blk.q2 (H.out.blk 0 rfl)
      obtain ⟨z0_0, z0_1⟩ := Blk.z2 (H.out.blk 0 rfl)
      have HZ := Lib.hid (SD.setN (SD.setN (H.out) 0 0 (.string ⟨#[81]⟩) rfl) 0 1 (.string s) rfl)
      clear H
      go_wp2
      refine bodyPost_ret (v := .agg #[.string ⟨#[81]⟩, .string s]) ?_ rfl (⟨(⟨#[81]⟩, s), ((q1 + 1) + 1), rfl, ⟨one_le _, Nat.le_trans HSZ.out (by decide)⟩, by omega, HZ.out.rd, HZ.out.gr⟩)
      simp [results, Try.results135, go_sem, x0_0, x0_1]
    · clear hk
      have hsz : (x ++ (⟨#[32]⟩ : ByteArray)).size = x.size + 1 := by rw [ByteArray.size_append]; rfl
      have hks : ¬ 9223372036854775807 < x.size + 1 := by have := HX.out; omega
      have hc2 : ¬ 9223372036854775807 < x.size + 1 + s.size := by have := HX.out; have := HSZ.out; omega
      have hc3 : ¬ 9223372036854775807 < (x ++ (⟨#[32]⟩ : ByteArray)).size + s.size := by rw [hsz]; exact hc2
      obtain ⟨bd, hbd⟩ : ∃ bd, bd = x ++ (⟨#[32]⟩ : ByteArray) ++ s := ⟨_, rfl⟩
      have hbr : x ++ (⟨#[32]⟩ : ByteArray) ++ s = bd := hbd.symm
      have HBD := Lib.hid (show bd.size ≤ 1040000 by rw [hbd, ByteArray.size_append, hsz]; have := HX.out; have := HSZ.out; omega)
      clear hsz hbd
      obtain ⟨x0_0, x0_1⟩ := Blk.q2 (H.out.blk 0 rfl)
      obtain ⟨z0_0, z0_1⟩ := Blk.z2 (H.out.blk 0 rfl)
      have HZ := Lib.hid (SD.setN (SD.setN (H.out) 0 0 (.string ⟨#[80]⟩) rfl) 0 1 (.string bd) rfl)
      clear H
      go_wp2
      refine bodyPost_ret (v := .agg #[.string ⟨#[80]⟩, .string bd]) ?_ rfl (⟨(⟨#[80]⟩, bd), ((q1 + 1) + 1), rfl, ⟨one_le _, HBD.out⟩, by omega, HZ.out.rd, HZ.out.gr⟩)
      simp [results, Try.results135, go_sem, x0_0, x0_1]
    · clear hk
      have hsz : (x ++ (⟨#[32]⟩ : ByteArray)).size = x.size + 1 := by rw [ByteArray.size_append]; rfl
      have hks : ¬ 9223372036854775807 < x.size + 1 := by have := HX.out; omega
      have hc2 : ¬ 9223372036854775807 < x.size + 1 + s.size := by have := HX.out; have := HSZ.out; omega
      have hc3 : ¬ 9223372036854775807 < (x ++ (⟨#[32]⟩ : ByteArray)).size + s.size := by rw [hsz]; exact hc2
      obtain ⟨bd, hbd⟩ : ∃ bd, bd = x ++ (⟨#[32]⟩ : ByteArray) ++ s := ⟨_, rfl⟩
      have hbr : x ++ (⟨#[32]⟩ : ByteArray) ++ s = bd := hbd.symm
      have HBD := Lib.hid (show bd.size ≤ 1040000 by rw [hbd, ByteArray.size_append, hsz]; have := HX.out; have := HSZ.out; omega)
      clear hsz hbd
      obtain ⟨x0_0, x0_1⟩ := Blk.q2 (H.out.blk 0 rfl)
      obtain ⟨z0_0, z0_1⟩ := Blk.z2 (H.out.blk 0 rfl)
      have HZ := Lib.hid (SD.setN (SD.setN (H.out) 0 0 (.string ⟨#[80]⟩) rfl) 0 1 (.string bd) rfl)
      clear H
      go_wp2
      refine bodyPost_ret (v := .agg #[.string ⟨#[80]⟩, .string bd]) ?_ rfl (⟨(⟨#[80]⟩, bd), ((q1 + 1) + 1), rfl, ⟨one_le _, HBD.out⟩, by omega, HZ.out.rd, HZ.out.gr⟩)
      simp [results, Try.results135, go_sem, x0_0, x0_1]
    · clear hk
      have hsz : (x ++ (⟨#[32]⟩ : ByteArray)).size = x.size + 1 := by rw [ByteArray.size_append]; rfl
      have hks : ¬ 9223372036854775807 < x.size + 1 := by have := HX.out; omega
      have hc2 : ¬ 9223372036854775807 < x.size + 1 + s.size := by have := HX.out; have := HSZ.out; omega
      have hc3 : ¬ 9223372036854775807 < (x ++ (⟨#[32]⟩ : ByteArray)).size + s.size := by rw [hsz]; exact hc2
      obtain ⟨bd, hbd⟩ : ∃ bd, bd = x ++ (⟨#[32]⟩ : ByteArray) ++ s := ⟨_, rfl⟩
      have hbr : x ++ (⟨#[32]⟩ : ByteArray) ++ s = bd := hbd.symm
      have HBD := Lib.hid (show bd.size ≤ 1040000 by rw [hbd, ByteArray.size_append, hsz]; have := HX.out; have := HSZ.out; omega)
      clear hsz hbd
      obtain ⟨x0_0, x0_1⟩ := Blk.q2 (H.out.blk 0 rfl)
      obtain ⟨z0_0, z0_1⟩ := Blk.z2 (H.out.blk 0 rfl)
      have HZ := Lib.hid (SD.setN (SD.setN (H.out) 0 0 (.string ⟨#[80]⟩) rfl) 0 1 (.string bd) rfl)
      clear H
      go_wp2
      refine bodyPost_ret (v := .agg #[.string ⟨#[80]⟩, .string bd]) ?_ rfl (⟨(⟨#[80]⟩, bd), ((q1 + 1) + 1), rfl, ⟨one_le _, HBD.out⟩, by omega, HZ.out.rd, HZ.out.gr⟩)
      simp [results, Try.results135, go_sem, x0_0, x0_1]
    · clear hk
      obtain ⟨x0_0, x0_1⟩ := Blk.q2 (H.out.blk 0 rfl)
      obtain ⟨z0_0, z0_1⟩ := Blk.z2 (H.out.blk 0 rfl)
      have HZ := Lib.hid (SD.setN (SD.setN (H.out) 0 0 (.string ⟨#[69]⟩) rfl) 0 1 (.string x) rfl)
      clear H
      go_wp2
      refine bodyPost_ret (v := .agg #[.string ⟨#[69]⟩, .string x]) ?_ rfl (⟨(⟨#[69]⟩, x), ((q1 + 1) + 1), rfl, ⟨one_le _, Nat.le_trans HX.out (by decide)⟩, by omega, HZ.out.rd, HZ.out.gr⟩)
      simp [results, Try.results135, go_sem, x0_0, x0_1]
    · clear hk
      obtain ⟨x0_0, x0_1⟩ := Blk.q2 (H.out.blk 0 rfl)
      obtain ⟨z0_0, z0_1⟩ := Blk.z2 (H.out.blk 0 rfl)
      have HZ := Lib.hid (SD.setN (SD.setN (H.out) 0 0 (.string ⟨#[69]⟩) rfl) 0 1 (.string x) rfl)
      clear H
      go_wp2
      refine bodyPost_ret (v := .agg #[.string ⟨#[69]⟩, .string x]) ?_ rfl (⟨(⟨#[69]⟩, x), ((q1 + 1) + 1), rfl, ⟨one_le _, Nat.le_trans HX.out (by decide)⟩, by omega, HZ.out.rd, HZ.out.gr⟩)
      simp [results, Try.results135, go_sem, x0_0, x0_1]
    · clear hk
      obtain ⟨x0_0, x0_1⟩ := Blk.q2 (H.out.blk 0 rfl)
      obtain ⟨z0_0, z0_1⟩ := Blk.z2 (H.out.blk 0 rfl)
      have HZ := Lib.hid (SD.setN (SD.setN (H.out) 0 0 (.string ⟨#[69]⟩) rfl) 0 1 (.string x) rfl)
      clear H
      go_wp2
      refine bodyPost_ret (v := .agg #[.string ⟨#[69]⟩, .string x]) ?_ rfl (⟨(⟨#[69]⟩, x), ((q1 + 1) + 1), rfl, ⟨one_le _, Nat.le_trans HX.out (by decide)⟩, by omega, HZ.out.rd, HZ.out.gr⟩)
      simp [results, Try.results135, go_sem, x0_0, x0_1]
    · clear hk
      obtain ⟨x0_0, x0_1⟩ := Blk.q2 (H.out.blk 0 rfl)
      obtain ⟨z0_0, z0_1⟩ := Blk.z2 (H.out.blk 0 rfl)
      have HZ := Lib.hid (SD.setN (SD.setN (H.out) 0 0 (.string ⟨#[69]⟩) rfl) 0 1 (.string x) rfl)
      clear H
      go_wp2
      refine bodyPost_ret (v := .agg #[.string ⟨#[69]⟩, .string x]) ?_ rfl (⟨(⟨#[69]⟩, x), ((q1 + 1) + 1), rfl, ⟨one_le _, Nat.le_trans HX.out (by decide)⟩, by omega, HZ.out.rd, HZ.out.gr⟩)
      simp [results, Try.results135, go_sem, x0_0, x0_1]
    · clear hk
      obtain ⟨x0_0, x0_1⟩ := Blk.q2 (H.out.blk 0 rfl)
      obtain ⟨z0_0, z0_1⟩ := Blk.z2 (H.out.blk 0 rfl)
      have HZ := Lib.hid (SD.setN (SD.setN (H.out) 0 0 (.string ⟨#[83]⟩) rfl) 0 1 (.string ⟨#[]⟩) rfl)
      clear H
      go_wp2
      refine bodyPost_ret (v := .agg #[.string ⟨#[83]⟩, .string ⟨#[]⟩]) ?_ rfl (⟨(⟨#[83]⟩, ⟨#[]⟩), ((q1 + 1) + 1), rfl, ⟨one_le _, Nat.zero_le _⟩, by omega, HZ.out.rd, HZ.out.gr⟩)
      simp [results, Try.results135, go_sem, x0_0, x0_1]
    · clear hk
      obtain ⟨x0_0, x0_1⟩ := Blk.q2 (H.out.blk 0 rfl)
      obtain ⟨z0_0, z0_1⟩ := Blk.z2 (H.out.blk 0 rfl)
      have HZ := Lib.hid (SD.setN (SD.setN (H.out) 0 0 (.string ⟨#[83]⟩) rfl) 0 1 (.string ⟨#[]⟩) rfl)
      clear H
      go_wp2
      refine bodyPost_ret (v := .agg #[.string ⟨#[83]⟩, .string ⟨#[]⟩]) ?_ rfl (⟨(⟨#[83]⟩, ⟨#[]⟩), ((q1 + 1) + 1), rfl, ⟨one_le _, Nat.zero_le _⟩, by omega, HZ.out.rd, HZ.out.gr⟩)
      simp [results, Try.results135, go_sem, x0_0, x0_1]
    · clear hk
      go_wp2_with fail
      have S9 := Sl.litS v2 9 l6S #[.string ⟨#[81]⟩, .string ⟨#[80]⟩, .string ⟨#[69]⟩, .string ⟨#[83]⟩, .string ⟨#[81]⟩, .string ⟨#[83]⟩] rfl
      have hw9 := (Below.refl v2.heap.size v2).alloc (Nat.le_refl _) (.cells #[.string ⟨#[81]⟩, .string ⟨#[80]⟩, .string ⟨#[69]⟩, .string ⟨#[83]⟩, .string ⟨#[81]⟩, .string ⟨#[83]⟩] 9)
      have hg9 := H.out.rd.1.lt
      have HW9 := Lib.hid (H.out.kept hw9)
      refine (of_any u0 RA rb rc g ((q1 + 1) + 1) _ l6S 6 _ HW9.out.rd (by omega) (by decide) S9 (by intro b o h; simp at h; omega)).mono ?_
      rintro e v3 ⟨y, hy, rfl, hR9, hG9⟩
      replace H := Lib.hid (HW9.out.draw hR9 hG9)
      clear hR9 hG9 HW9 hw9 hg9 S9
      have HY := Lib.hid (l6S_le y hy)
      clear hy
      go_wp2_with fail
      have S9 := Sl.litS v3 9 l6B #[.string ⟨#[]⟩, .string ⟨#[102, 108, 121]⟩, .string ⟨#[97]⟩, .string ⟨#[97, 98, 32, 103, 101, 116, 32, 97]⟩, .string ⟨#[97, 32, 32, 103, 101, 116, 32, 97]⟩, .string ⟨#[122, 122]⟩] rfl
      have hw9 := (Below.refl v3.heap.size v3).alloc (Nat.le_refl _) (.cells #[.string ⟨#[]⟩, .string ⟨#[102, 108, 121]⟩, .string ⟨#[97]⟩, .string ⟨#[97, 98, 32, 103, 101, 116, 32, 97]⟩, .string ⟨#[97, 32, 32, 103, 101, 116, 32, 97]⟩, .string ⟨#[122, 122]⟩] 9)
      have hg9 := H.out.rd.1.lt
      have HW9 := Lib.hid (H.out.kept hw9)
      refine (of_any u0 RA rb rc g (((q1 + 1) + 1) + 1) _ l6B 6 _ HW9.out.rd (by omega) (by decide) S9 (by intro b o h; simp at h; omega)).mono ?_
      rintro e v4 ⟨z, hz, rfl, hR9, hG9⟩
      replace H := Lib.hid (HW9.out.draw hR9 hG9)
      clear hR9 hG9 HW9 hw9 hg9 S9
      have HZZ := Lib.hid (l6B_le z hz)
      clear hz
      obtain ⟨x0_0, x0_1⟩ := Blk.q2 (H.out.blk 0 rfl)
      obtain ⟨z0_0, z0_1⟩ := Blk.z2 (H.out.blk 0 rfl)
      have HZ := Lib.hid (SD.setN (SD.setN (H.out) 0 0 (.string y) rfl) 0 1 (.string z) rfl)
      clear H
      go_wp2
      refine bodyPost_ret (v := .agg #[.string y, .string z]) ?_ rfl (⟨(y, z), ((((q1 + 1) + 1) + 1) + 1), rfl, ⟨Nat.le_trans HY.out (by decide), Nat.le_trans HZZ.out (by decide)⟩, by omega, HZ.out.rd, HZ.out.gr⟩)
      simp [results, Try.results135, go_sem, x0_0, x0_1]
    · clear hk
      go_wp2_with fail
      refine (pick_any u0 RA rb rc g ((q1 + 1) + 1) 4 _ H.out.rd (by omega) (by omega)).mono ?_
      rintro e v5 ⟨m, hm, rfl, hR9, hG9⟩
      replace H := Lib.hid (H.out.draw hR9 hG9)
      clear hR9 hG9
      rcases (show m = 0 ∨ m = 1 ∨ m = 2 ∨ m = 3 by omega) with rfl | rfl | rfl | rfl
      · clear hm
        go_wp2_with fail
        have S9 := Sl.litS v5 9 l6X #[.string ⟨#[88]⟩, .string ⟨#[65]⟩, .string ⟨#[48]⟩, .string ⟨#[88]⟩] rfl
        have hw9 := (Below.refl v5.heap.size v5).alloc (Nat.le_refl _) (.cells #[.string ⟨#[88]⟩, .string ⟨#[65]⟩, .string ⟨#[48]⟩, .string ⟨#[88]⟩] 9)
        have hg9 := H.out.rd.1.lt
        have HW9 := Lib.hid (H.out.kept hw9)
        refine (of_any u0 RA rb rc g (((q1 + 1) + 1) + 1) _ l6X 4 _ HW9.out.rd (by omega) (by decide) S9 (by intro b o h; simp at h; omega)).mono ?_
        rintro e v6 ⟨y, hy, rfl, hR9, hG9⟩
        replace H := Lib.hid (HW9.out.draw hR9 hG9)
        clear hR9 hG9 HW9 hw9 hg9 S9
        have HY := Lib.hid (l6X_le y hy)
        clear hy
        obtain ⟨x0_0, x0_1⟩ := Blk.q2 (H.out.blk 0 rfl)
        obtain ⟨z0_0, z0_1⟩ := Blk.z2 (H.out.blk 0 rfl)
        have HZ := Lib.hid (SD.setN (SD.setN (H.out) 0 0 (.string y) rfl) 0 1 (.string ⟨#[]⟩) rfl)
        clear H
        go_wp2
        refine bodyPost_ret (v := .agg #[.string y, .string ⟨#[]⟩]) ?_ rfl (⟨(y, ⟨#[]⟩), ((((q1 + 1) + 1) + 1) + 1), rfl, ⟨Nat.le_trans HY.out (by decide), Nat.zero_le _⟩, by omega, HZ.out.rd, HZ.out.gr⟩)
        simp [results, Try.results135, go_sem, x0_0, x0_1]
      · clear hm
        obtain ⟨x0_0, x0_1⟩ := Blk.q2 (H.out.blk 0 rfl)
        obtain ⟨z0_0, z0_1⟩ := Blk.z2 (H.out.blk 0 rfl)
        have HZ := Lib.hid (SD.setN (SD.setN (H.out) 0 0 (.string ⟨#[83]⟩) rfl) 0 1 (.string ⟨#[]⟩) rfl)
        clear H
        go_wp2
        refine bodyPost_ret (v := .agg #[.string ⟨#[83]⟩, .string ⟨#[]⟩]) ?_ rfl (⟨(⟨#[83]⟩, ⟨#[]⟩), (((q1 + 1) + 1) + 1), rfl, ⟨one_le _, Nat.zero_le _⟩, by omega, HZ.out.rd, HZ.out.gr⟩)
        simp [results, Try.results135, go_sem, x0_0, x0_1]
      · clear hm
        obtain ⟨x0_0, x0_1⟩ := Blk.q2 (H.out.blk 0 rfl)
        obtain ⟨z0_0, z0_1⟩ := Blk.z2 (H.out.blk 0 rfl)
        have HZ := Lib.hid (SD.setN (SD.setN (H.out) 0 0 (.string ⟨#[83]⟩) rfl) 0 1 (.string ⟨#[]⟩) rfl)
        clear H
        go_wp2
        refine bodyPost_ret (v := .agg #[.string ⟨#[83]⟩, .string ⟨#[]⟩]) ?_ rfl (⟨(⟨#[83]⟩, ⟨#[]⟩), (((q1 + 1) + 1) + 1), rfl, ⟨one_le _, Nat.zero_le _⟩, by omega, HZ.out.rd, HZ.out.gr⟩)
        simp [results, Try.results135, go_sem, x0_0, x0_1]
      · clear hm
        obtain ⟨x0_0, x0_1⟩ := Blk.q2 (H.out.blk 0 rfl)
        obtain ⟨z0_0, z0_1⟩ := Blk.z2 (H.out.blk 0 rfl)
        have HZ := Lib.hid (SD.setN (SD.setN (H.out) 0 0 (.string ⟨#[83]⟩) rfl) 0 1 (.string ⟨#[]⟩) rfl)
        clear H
        go_wp2
        refine bodyPost_ret (v := .agg #[.string ⟨#[83]⟩, .string ⟨#[]⟩]) ?_ rfl (⟨(⟨#[83]⟩, ⟨#[]⟩), (((q1 + 1) + 1) + 1), rfl, ⟨one_le _, Nat.zero_le _⟩, by omega, HZ.out.rd, HZ.out.gr⟩)
        simp [results, Try.results135, go_sem, x0_0, x0_1]
  have d0 : decide ((0 : Int) < (ns.length : Int)) = true := decide_eq_true (by omega)
  have d1 : (0 : Int) < (ns.length : Int) := by omega
  have d0n : decide (0 < ns.length) = true := decide_eq_true (by omega)
  have d1n : 0 < ns.length := by omega
  go_wp2_with fail
  refine (pick_any u0 RA rb rc g (q1 + 1) 3 _ H.out.rd (by omega) (by omega)).mono ?_
  rintro e v7 ⟨j, hj, rfl, hR9, hG9⟩
  replace H := Lib.hid (H.out.draw hR9 hG9)
  clear hR9 hG9
  by_cases hj0 : j = 0
  case pos =>
    subst hj0
    clear hj
    go_wp2_with fail
    refine (pick_any u0 RA rb rc g ((q1 + 1) + 1) 16 _ H.out.rd (by omega) (by omega)).mono ?_
    rintro e v8 ⟨k, hk, rfl, hR9, hG9⟩
    replace H := Lib.hid (H.out.draw hR9 hG9)
    clear hR9 hG9
    rcases (show k = 0 ∨ k = 1 ∨ k = 2 ∨ k = 3 ∨ k = 4 ∨ k = 5 ∨ k = 6 ∨ k = 7 ∨ k = 8 ∨ k = 9 ∨ k = 10 ∨ k = 11 ∨ k = 12 ∨ k = 13 ∨ k = 14 ∨ k = 15 by omega) with rfl | rfl | rfl | rfl | rfl | rfl | rfl | rfl | rfl | rfl | rfl | rfl | rfl | rfl | rfl | rfl
    · clear hk
      obtain ⟨x0_0, x0_1⟩ := Blk.q2 (H.out.blk 0 rfl)
      obtain ⟨z0_0, z0_1⟩ := Blk.z2 (H.out.blk 0 rfl)
      have HZ := Lib.hid (SD.setN (SD.setN (H.out) 0 0 (.string ⟨#[81]⟩) rfl) 0 1 (.string s) rfl)
      clear H
      go_wp2
      refine bodyPost_ret (v := .agg #[.string ⟨#[81]⟩, .string s]) ?_ rfl (⟨(⟨#[81]⟩, s), (((q1 + 1) + 1) + 1), rfl, ⟨one_le _, Nat.le_trans HSZ.out (by decide)⟩, by omega, HZ.out.rd, HZ.out.gr⟩)
      simp [results, Try.results135, go_sem, x0_0, x0_1]
    · clear hk
      obtain ⟨x0_0, x0_1⟩ := Blk.q2 (H.out.blk 0 rfl)
      obtain ⟨z0_0, z0_1⟩ := Blk.z2 (H.out.blk 0 rfl)
      have HZ := Lib.hid (SD.setN (SD.setN (H.out) 0 0 (.string ⟨#[81]⟩) rfl) 0 1 (.string s) rfl)
      clear H
      go_wp2
      refine bodyPost_ret (v := .agg #[.string ⟨#[81]⟩, .string s]) ?_ rfl (⟨(⟨#[81]⟩, s), (((q1 + 1) + 1) + 1), rfl, ⟨one_le _, Nat.le_trans HSZ.out (by decide)⟩, by omega, HZ.out.rd, HZ.out.gr⟩)
      simp [results, Try.results135, go_sem, x0_0, x0_1]
    · clear hk
      obtain ⟨x0_0, x0_1⟩ := Blk.q2 (H.out.blk 0 rfl)
      obtain ⟨z0_0, z0_1⟩ := Blk.z2 (H.out.blk 0 rfl)
      have HZ := Lib.hid (SD.setN (SD.setN (H.out) 0 0 (.string ⟨#[81]⟩) rfl) 0 1 (.string s) rfl)
      clear H
      go_wp2
      refine bodyPost_ret (v := .agg #[.string ⟨#[81]⟩, .string s]) ?_ rfl (⟨(⟨#[81]⟩, s), (((q1 + 1) + 1) + 1), rfl, ⟨one_le _, Nat.le_trans HSZ.out (by decide)⟩, by omega, HZ.out.rd, HZ.out.gr⟩)
      simp [results, Try.results135, go_sem, x0_0, x0_1]
    · clear hk
      obtain ⟨x0_0, x0_1⟩ := Blk.q2 (H.out.blk 0 rfl)
      obtain ⟨z0_0, z0_1⟩ := Blk.z2 (H.out.blk 0 rfl)
      have HZ := Lib.hid (SD.setN (SD.setN (H.out) 0 0 (.string ⟨#[81]⟩) rfl) 0 1 (.string s) rfl)
      clear H
      go_wp2
      refine bodyPost_ret (v := .agg #[.string ⟨#[81]⟩, .string s]) ?_ rfl (⟨(⟨#[81]⟩, s), (((q1 + 1) + 1) + 1), rfl, ⟨one_le _, Nat.le_trans HSZ.out (by decide)⟩, by omega, HZ.out.rd, HZ.out.gr⟩)
      simp [results, Try.results135, go_sem, x0_0, x0_1]
    · clear hk
      obtain ⟨x0_0, x0_1⟩ := Blk.q2 (H.out.blk 0 rfl)
      obtain ⟨z0_0, z0_1⟩ := Blk.z2 (H.out.blk 0 rfl)
      have HZ := Lib.hid (SD.setN (SD.setN (H.out) 0 0 (.string ⟨#[81]⟩) rfl) 0 1 (.string s) rfl)
      clear H
      go_wp2
      refine bodyPost_ret (v := .agg #[.string ⟨#[81]⟩, .string s]) ?_ rfl (⟨(⟨#[81]⟩, s), (((q1 + 1) + 1) + 1), rfl, ⟨one_le _, Nat.le_trans HSZ.out (by decide)⟩, by omega, HZ.out.rd, HZ.out.gr⟩)
      simp [results, Try.results135, go_sem, x0_0, x0_1]
    · clear hk
      have hsz : (x ++ (⟨#[32]⟩ : ByteArray)).size = x.size + 1 := by rw [ByteArray.size_append]; rfl
      have hks : ¬ 9223372036854775807 < x.size + 1 := by have := HX.out; omega
      have hc2 : ¬ 9223372036854775807 < x.size + 1 + s.size := by have := HX.out; have := HSZ.out; omega
      have hc3 : ¬ 9223372036854775807 < (x ++ (⟨#[32]⟩ : ByteArray)).size + s.size := by rw [hsz]; exact hc2
      obtain ⟨bd, hbd⟩ : ∃ bd, bd = x ++ (⟨#[32]⟩ : ByteArray) ++ s := ⟨_, rfl⟩
      have hbr : x ++ (⟨#[32]⟩ : ByteArray) ++ s = bd := hbd.symm
      have HBD := Lib.hid (show bd.size ≤ 1040000 by rw [hbd, ByteArray.size_append, hsz]; have := HX.out; have := HSZ.out; omega)
      clear hsz hbd
      obtain ⟨x0_0, x0_1⟩ := Blk.q2 (H.out.blk 0 rfl)
      obtain ⟨z0_0, z0_1⟩ := Blk.z2 (H.out.blk 0 rfl)
      have HZ := Lib.hid (SD.setN (SD.setN (H.out) 0 0 (.string ⟨#[80]⟩) rfl) 0 1 (.string bd) rfl)
      clear H
      go_wp2
      refine bodyPost_ret (v := .agg #[.string ⟨#[80]⟩, .string bd]) ?_ rfl (⟨(⟨#[80]⟩, bd), (((q1 + 1) + 1) + 1), rfl, ⟨one_le _, HBD.out⟩, by omega, HZ.out.rd, HZ.out.gr⟩)
      simp [results, Try.results135, go_sem, x0_0, x0_1]
    · clear hk
      have hsz : (x ++ (⟨#[32]⟩ : ByteArray)).size = x.size + 1 := by rw [ByteArray.size_append]; rfl
      have hks : ¬ 9223372036854775807 < x.size + 1 := by have := HX.out; omega
      have hc2 : ¬ 9223372036854775807 < x.size + 1 + s.size := by have := HX.out; have := HSZ.out; omega
      have hc3 : ¬ 9223372036854775807 < (x ++ (⟨#[32]⟩ : ByteArray)).size + s.size := by rw [hsz]; exact hc2
      obtain ⟨bd, hbd⟩ : ∃ bd, bd = x ++ (⟨#[32]⟩ : ByteArray) ++ s := ⟨_, rfl⟩
      have hbr : x ++ (⟨#[32]⟩ : ByteArray) ++ s = bd := hbd.symm
      have HBD := Lib.hid (show bd.size ≤ 1040000 by rw [hbd, ByteArray.size_append, hsz]; have := HX.out; have := HSZ.out; omega)
      clear hsz hbd
      obtain ⟨x0_0, x0_1⟩ := Blk.q2 (H.out.blk 0 rfl)
      obtain ⟨z0_0, z0_1⟩ := Blk.z2 (H.out.blk 0 rfl)
      have HZ := Lib.hid (SD.setN (SD.setN (H.out) 0 0 (.string ⟨#[80]⟩) rfl) 0 1 (.string bd) rfl)
      clear H
      go_wp2
      refine bodyPost_ret (v := .agg #[.string ⟨#[80]⟩, .string bd]) ?_ rfl (⟨(⟨#[80]⟩, bd), (((q1 + 1) + 1) + 1), rfl, ⟨one_le _, HBD.out⟩, by omega, HZ.out.rd, HZ.out.gr⟩)
      simp [results, Try.results135, go_sem, x0_0, x0_1]
    · clear hk
      have hsz : (x ++ (⟨#[32]⟩ : ByteArray)).size = x.size + 1 := by rw [ByteArray.size_append]; rfl
      have hks : ¬ 9223372036854775807 < x.size + 1 := by have := HX.out; omega
      have hc2 : ¬ 9223372036854775807 < x.size + 1 + s.size := by have := HX.out; have := HSZ.out; omega
      have hc3 : ¬ 9223372036854775807 < (x ++ (⟨#[32]⟩ : ByteArray)).size + s.size := by rw [hsz]; exact hc2
      obtain ⟨bd, hbd⟩ : ∃ bd, bd = x ++ (⟨#[32]⟩ : ByteArray) ++ s := ⟨_, rfl⟩
      have hbr : x ++ (⟨#[32]⟩ : ByteArray) ++ s = bd := hbd.symm
      have HBD := Lib.hid (show bd.size ≤ 1040000 by rw [hbd, ByteArray.size_append, hsz]; have := HX.out; have := HSZ.out; omega)
      clear hsz hbd
      obtain ⟨x0_0, x0_1⟩ := Blk.q2 (H.out.blk 0 rfl)
      obtain ⟨z0_0, z0_1⟩ := Blk.z2 (H.out.blk 0 rfl)
      have HZ := Lib.hid (SD.setN (SD.setN (H.out) 0 0 (.string ⟨#[80]⟩) rfl) 0 1 (.string bd) rfl)
      clear H
      go_wp2
      refine bodyPost_ret (v := .agg #[.string ⟨#[80]⟩, .string bd]) ?_ rfl (⟨(⟨#[80]⟩, bd), (((q1 + 1) + 1) + 1), rfl, ⟨one_le _, HBD.out⟩, by omega, HZ.out.rd, HZ.out.gr⟩)
      simp [results, Try.results135, go_sem, x0_0, x0_1]
    · clear hk
      obtain ⟨x0_0, x0_1⟩ := Blk.q2 (H.out.blk 0 rfl)
      obtain ⟨z0_0, z0_1⟩ := Blk.z2 (H.out.blk 0 rfl)
      have HZ := Lib.hid (SD.setN (SD.setN (H.out) 0 0 (.string ⟨#[69]⟩) rfl) 0 1 (.string x) rfl)
      clear H
      go_wp2
      refine bodyPost_ret (v := .agg #[.string ⟨#[69]⟩, .string x]) ?_ rfl (⟨(⟨#[69]⟩, x), (((q1 + 1) + 1) + 1), rfl, ⟨one_le _, Nat.le_trans HX.out (by decide)⟩, by omega, HZ.out.rd, HZ.out.gr⟩)
      simp [results, Try.results135, go_sem, x0_0, x0_1]
    · clear hk
      obtain ⟨x0_0, x0_1⟩ := Blk.q2 (H.out.blk 0 rfl)
      obtain ⟨z0_0, z0_1⟩ := Blk.z2 (H.out.blk 0 rfl)
      have HZ := Lib.hid (SD.setN (SD.setN (H.out) 0 0 (.string ⟨#[69]⟩) rfl) 0 1 (.string x) rfl)
      clear H
      go_wp2
      refine bodyPost_ret (v := .agg #[.string ⟨#[69]⟩, .string x]) ?_ rfl (⟨(⟨#[69]⟩, x), (((q1 + 1) + 1) + 1), rfl, ⟨one_le _, Nat.le_trans HX.out (by decide)⟩, by omega, HZ.out.rd, HZ.out.gr⟩)
      simp [results, Try.results135, go_sem, x0_0, x0_1]
    · clear hk
      obtain ⟨x0_0, x0_1⟩ := Blk.q2 (H.out.blk 0 rfl)
      obtain ⟨z0_0, z0_1⟩ := Blk.z2 (H.out.blk 0 rfl)
      have HZ := Lib.hid (SD.setN (SD.setN (H.out) 0 0 (.string ⟨#[69]⟩) rfl) 0 1 (.string x) rfl)
      clear H
      go_wp2
      refine bodyPost_ret (v := .agg #[.string ⟨#[69]⟩, .string x]) ?_ rfl (⟨(⟨#[69]⟩, x), (((q1 + 1) + 1) + 1), rfl, ⟨one_le _, Nat.le_trans HX.out (by decide)⟩, by omega, HZ.out.rd, HZ.out.gr⟩)
      simp [results, Try.results135, go_sem, x0_0, x0_1]
    · clear hk
      obtain ⟨x0_0, x0_1⟩ := Blk.q2 (H.out.blk 0 rfl)
      obtain ⟨z0_0, z0_1⟩ := Blk.z2 (H.out.blk 0 rfl)
      have HZ := Lib.hid (SD.setN (SD.setN (H.out) 0 0 (.string ⟨#[69]⟩) rfl) 0 1 (.string x) rfl)
      clear H
      go_wp2
      refine bodyPost_ret (v := .agg #[.string ⟨#[69]⟩, .string x]) ?_ rfl (⟨(⟨#[69]⟩, x), (((q1 + 1) + 1) + 1), rfl, ⟨one_le _, Nat.le_trans HX.out (by decide)⟩, by omega, HZ.out.rd, HZ.out.gr⟩)
      simp [results, Try.results135, go_sem, x0_0, x0_1]
    · clear hk
      obtain ⟨x0_0, x0_1⟩ := Blk.q2 (H.out.blk 0 rfl)
      obtain ⟨z0_0, z0_1⟩ := Blk.z2 (H.out.blk 0 rfl)
      have HZ := Lib.hid (SD.setN (SD.setN (H.out) 0 0 (.string ⟨#[83]⟩) rfl) 0 1 (.string ⟨#[]⟩) rfl)
      clear H
      go_wp2
      refine bodyPost_ret (v := .agg #[.string ⟨#[83]⟩, .string ⟨#[]⟩]) ?_ rfl (⟨(⟨#[83]⟩, ⟨#[]⟩), (((q1 + 1) + 1) + 1), rfl, ⟨one_le _, Nat.zero_le _⟩, by omega, HZ.out.rd, HZ.out.gr⟩)
      simp [results, Try.results135, go_sem, x0_0, x0_1]
    · clear hk
      obtain ⟨x0_0, x0_1⟩ := Blk.q2 (H.out.blk 0 rfl)
      obtain ⟨z0_0, z0_1⟩ := Blk.z2 (H.out.blk 0 rfl)
      have HZ := Lib.hid (SD.setN (SD.setN (H.out) 0 0 (.string ⟨#[83]⟩) rfl) 0 1 (.string ⟨#[]⟩) rfl)
      clear H
      go_wp2
      refine bodyPost_ret (v := .agg #[.string ⟨#[83]⟩, .string ⟨#[]⟩]) ?_ rfl (⟨(⟨#[83]⟩, ⟨#[]⟩), (((q1 + 1) + 1) + 1), rfl, ⟨one_le _, Nat.zero_le _⟩, by omega, HZ.out.rd, HZ.out.gr⟩)
      simp [results, Try.results135, go_sem, x0_0, x0_1]
    · clear hk
      go_wp2_with fail
      have S9 := Sl.litS v8 9 l6S #[.string ⟨#[81]⟩, .string ⟨#[80]⟩, .string ⟨#[69]⟩, .string ⟨#[83]⟩, .string ⟨#[81]⟩, .string ⟨#[83]⟩] rfl
      have hw9 := (Below.refl v8.heap.size v8).alloc (Nat.le_refl _) (.cells #[.string ⟨#[81]⟩, .string ⟨#[80]⟩, .string ⟨#[69]⟩, .string ⟨#[83]⟩, .string ⟨#[81]⟩, .string ⟨#[83]⟩] 9)
      have hg9 := H.out.rd.1.lt
      have HW9 := Lib.hid (H.out.kept hw9)
      refine (of_any u0 RA rb rc g (((q1 + 1) + 1) + 1) _ l6S 6 _ HW9.out.rd (by omega) (by decide) S9 (by intro b o h; simp at h; omega)).mono ?_
      rintro e v9 ⟨y, hy, rfl, hR9, hG9⟩
      replace H := Lib.hid (HW9.out.draw hR9 hG9)
      clear hR9 hG9 HW9 hw9 hg9 S9
      have HY := Lib.hid (l6S_le y hy)
      clear hy
      go_wp2_with fail
      have S9 := Sl.litS v9 9 l6B #[.string ⟨#[]⟩, .string ⟨#[102, 108, 121]⟩, .string ⟨#[97]⟩, .string ⟨#[97, 98, 32, 103, 101, 116, 32, 97]⟩, .string ⟨#[97, 32, 32, 103, 101, 116, 32, 97]⟩, .string ⟨#[122, 122]⟩] rfl
      have hw9 := (Below.refl v9.heap.size v9).alloc (Nat.le_refl _) (.cells #[.string ⟨#[]⟩, .string ⟨#[102, 108, 121]⟩, .string ⟨#[97]⟩, .string ⟨#[97, 98, 32, 103, 101, 116, 32, 97]⟩, .string ⟨#[97, 32, 32, 103, 101, 116, 32, 97]⟩, .string ⟨#[122, 122]⟩] 9)
      have hg9 := H.out.rd.1.lt
      have HW9 := Lib.hid (H.out.kept hw9)
      refine (of_any u0 RA rb rc g ((((q1 + 1) + 1) + 1) + 1) _ l6B 6 _ HW9.out.rd (by omega) (by decide) S9 (by intro b o h; simp at h; omega)).mono ?_
      rintro e v10 ⟨z, hz, rfl, hR9, hG9⟩
      replace H := Lib.hid (HW9.out.draw hR9 hG9)
      clear hR9 hG9 HW9 hw9 hg9 S9
      have HZZ := Lib.hid (l6B_le z hz)
      clear hz
      obtain ⟨x0_0, x0_1⟩ := Blk.q2 (H.out.blk 0 rfl)
      obtain ⟨z0_0, z0_1⟩ := Blk.z2 (H.out.blk 0 rfl)
      have HZ := Lib.hid (SD.setN (SD.setN (H.out) 0 0 (.string y) rfl) 0 1 (.string z) rfl)
      clear H
      go_wp2
      refine bodyPost_ret (v := .agg #[.string y, .string z]) ?_ rfl (⟨(y, z), (((((q1 + 1) + 1) + 1) + 1) + 1), rfl, ⟨Nat.le_trans HY.out (by decide), Nat.le_trans HZZ.out (by decide)⟩, by omega, HZ.out.rd, HZ.out.gr⟩)
      simp [results, Try.results135, go_sem, x0_0, x0_1]
    · clear hk
      go_wp2_with fail
      refine (pick_any u0 RA rb rc g (((q1 + 1) + 1) + 1) 4 _ H.out.rd (by omega) (by omega)).mono ?_
      rintro e v11 ⟨m, hm, rfl, hR9, hG9⟩
      replace H := Lib.hid (H.out.draw hR9 hG9)
      clear hR9 hG9
      rcases (show m = 0 ∨ m = 1 ∨ m = 2 ∨ m = 3 by omega) with rfl | rfl | rfl | rfl
      · clear hm
        go_wp2_with fail
        have S9 := Sl.litS v11 9 l6X #[.string ⟨#[88]⟩, .string ⟨#[65]⟩, .string ⟨#[48]⟩, .string ⟨#[88]⟩] rfl
        have hw9 := (Below.refl v11.heap.size v11).alloc (Nat.le_refl _) (.cells #[.string ⟨#[88]⟩, .string ⟨#[65]⟩, .string ⟨#[48]⟩, .string ⟨#[88]⟩] 9)
        have hg9 := H.out.rd.1.lt
        have HW9 := Lib.hid (H.out.kept hw9)
        refine (of_any u0 RA rb rc g ((((q1 + 1) + 1) + 1) + 1) _ l6X 4 _ HW9.out.rd (by omega) (by decide) S9 (by intro b o h; simp at h; omega)).mono ?_
        rintro e v12 ⟨y, hy, rfl, hR9, hG9⟩
        replace H := Lib.hid (HW9.out.draw hR9 hG9)
        clear hR9 hG9 HW9 hw9 hg9 S9
        have HY := Lib.hid (l6X_le y hy)
        clear hy
        obtain ⟨x0_0, x0_1⟩ := Blk.q2 (H.out.blk 0 rfl)
        obtain ⟨z0_0, z0_1⟩ := Blk.z2 (H.out.blk 0 rfl)
        have HZ := Lib.hid (SD.setN (SD.setN (H.out) 0 0 (.string y) rfl) 0 1 (.string ⟨#[]⟩) rfl)
        clear H
        go_wp2
        refine bodyPost_ret (v := .agg #[.string y, .string ⟨#[]⟩]) ?_ rfl (⟨(y, ⟨#[]⟩), (((((q1 + 1) + 1) + 1) + 1) + 1), rfl, ⟨Nat.le_trans HY.out (by decide), Nat.zero_le _⟩, by omega, HZ.out.rd, HZ.out.gr⟩)
        simp [results, Try.results135, go_sem, x0_0, x0_1]
      · clear hm
        obtain ⟨x0_0, x0_1⟩ := Blk.q2 (H.out.blk 0 rfl)
        obtain ⟨z0_0, z0_1⟩ := Blk.z2 (H.out.blk 0 rfl)
        have HZ := Lib.hid (SD.setN (SD.setN (H.out) 0 0 (.string ⟨#[83]⟩) rfl) 0 1 (.string ⟨#[]⟩) rfl)
        clear H
        go_wp2
        refine bodyPost_ret (v := .agg #[.string ⟨#[83]⟩, .string ⟨#[]⟩]) ?_ rfl (⟨(⟨#[83]⟩, ⟨#[]⟩), ((((q1 + 1) + 1) + 1) + 1), rfl, ⟨one_le _, Nat.zero_le _⟩, by omega, HZ.out.rd, HZ.out.gr⟩)
        simp [results, Try.results135, go_sem, x0_0, x0_1]
      · clear hm
        obtain ⟨x0_0, x0_1⟩ := Blk.q2 (H.out.blk 0 rfl)
        obtain ⟨z0_0, z0_1⟩ := Blk.z2 (H.out.blk 0 rfl)
        have HZ := Lib.hid (SD.setN (SD.setN (H.out) 0 0 (.string ⟨#[83]⟩) rfl) 0 1 (.string ⟨#[]⟩) rfl)
        clear H
        go_wp2
        refine bodyPost_ret (v := .agg #[.string ⟨#[83]⟩, .string ⟨#[]⟩]) ?_ rfl (⟨(⟨#[83]⟩, ⟨#[]⟩), ((((q1 + 1) + 1) + 1) + 1), rfl, ⟨one_le _, Nat.zero_le _⟩, by omega, HZ.out.rd, HZ.out.gr⟩)
        simp [results, Try.results135, go_sem, x0_0, x0_1]
      · clear hm
        obtain ⟨x0_0, x0_1⟩ := Blk.q2 (H.out.blk 0 rfl)
        obtain ⟨z0_0, z0_1⟩ := Blk.z2 (H.out.blk 0 rfl)
        have HZ := Lib.hid (SD.setN (SD.setN (H.out) 0 0 (.string ⟨#[83]⟩) rfl) 0 1 (.string ⟨#[]⟩) rfl)
        clear H
        go_wp2
        refine bodyPost_ret (v := .agg #[.string ⟨#[83]⟩, .string ⟨#[]⟩]) ?_ rfl (⟨(⟨#[83]⟩, ⟨#[]⟩), ((((q1 + 1) + 1) + 1) + 1), rfl, ⟨one_le _, Nat.zero_le _⟩, by omega, HZ.out.rd, HZ.out.gr⟩)
        simp [results, Try.results135, go_sem, x0_0, x0_1]
  have d2 : decide ((0 : Int) < (j : Int)) = true := decide_eq_true (by omega)
  have d3 : (0 : Int) < (j : Int) := by omega
  go_wp2_with fail
  refine (pick_any u0 RA rb rc g ((q1 + 1) + 1) ns.length _ H.out.rd (by omega) (by omega)).mono ?_
  rintro e v13 ⟨i, hi, rfl, hR9, hG9⟩
  replace H := Lib.hid (H.out.draw hR9 hG9)
  clear hR9 hG9
  have hii : (i : Int) < (ns.length : Int) := by omega
  have hii0 : (0 : Int) ≤ (i : Int) := by omega
  obtain ⟨b, o, hAe, hbl, hcs⟩ := (H.out.get 0 rfl).sl (by omega)
  subst hAe
  have c0 : v13.cell? ⟨b, o + i * 5, none⟩ = some (.string ns[i].1) := hcs i 0 ns[i] (List.getElem?_eq_getElem hi) (by decide)
  have HX1 := Lib.hid (HNN.out ns[i] (List.getElem_mem hi)).1
  clear hcs
  generalize ns[i] = n1 at *
  obtain ⟨nm, n2⟩ := n1
  simp only at c0 HX1
  go_wp2_with fail
  refine (pick_any u0 RA rb rc g (((q1 + 1) + 1) + 1) 16 _ H.out.rd (by omega) (by omega)).mono ?_
  rintro e v14 ⟨k, hk, rfl, hR9, hG9⟩
  replace H := Lib.hid (H.out.draw hR9 hG9)
  clear hR9 hG9
  rcases (show k = 0 ∨ k = 1 ∨ k = 2 ∨ k = 3 ∨ k = 4 ∨ k = 5 ∨ k = 6 ∨ k = 7 ∨ k = 8 ∨ k = 9 ∨ k = 10 ∨ k = 11 ∨ k = 12 ∨ k = 13 ∨ k = 14 ∨ k = 15 by omega) with rfl | rfl | rfl | rfl | rfl | rfl | rfl | rfl | rfl | rfl | rfl | rfl | rfl | rfl | rfl | rfl
  · clear hk
    obtain ⟨x0_0, x0_1⟩ := Blk.q2 (H.out.blk 0 rfl)
    obtain ⟨z0_0, z0_1⟩ := Blk.z2 (H.out.blk 0 rfl)
    have HZ := Lib.hid (SD.setN (SD.setN (H.out) 0 0 (.string ⟨#[81]⟩) rfl) 0 1 (.string s) rfl)
    clear H
    go_wp2
    refine bodyPost_ret (v := .agg #[.string ⟨#[81]⟩, .string s]) ?_ rfl (⟨(⟨#[81]⟩, s), ((((q1 + 1) + 1) + 1) + 1), rfl, ⟨one_le _, Nat.le_trans HSZ.out (by decide)⟩, by omega, HZ.out.rd, HZ.out.gr⟩)
    simp [results, Try.results135, go_sem, x0_0, x0_1]
  · clear hk
    obtain ⟨x0_0, x0_1⟩ := Blk.q2 (H.out.blk 0 rfl)
    obtain ⟨z0_0, z0_1⟩ := Blk.z2 (H.out.blk 0 rfl)
    have HZ := Lib.hid (SD.setN (SD.setN (H.out) 0 0 (.string ⟨#[81]⟩) rfl) 0 1 (.string s) rfl)
    clear H
    go_wp2
    refine bodyPost_ret (v := .agg #[.string ⟨#[81]⟩, .string s]) ?_ rfl (⟨(⟨#[81]⟩, s), ((((q1 + 1) + 1) + 1) + 1), rfl, ⟨one_le _, Nat.le_trans HSZ.out (by decide)⟩, by omega, HZ.out.rd, HZ.out.gr⟩)
    simp [results, Try.results135, go_sem, x0_0, x0_1]
  · clear hk
    obtain ⟨x0_0, x0_1⟩ := Blk.q2 (H.out.blk 0 rfl)
    obtain ⟨z0_0, z0_1⟩ := Blk.z2 (H.out.blk 0 rfl)
    have HZ := Lib.hid (SD.setN (SD.setN (H.out) 0 0 (.string ⟨#[81]⟩) rfl) 0 1 (.string s) rfl)
    clear H
    go_wp2
    refine bodyPost_ret (v := .agg #[.string ⟨#[81]⟩, .string s]) ?_ rfl (⟨(⟨#[81]⟩, s), ((((q1 + 1) + 1) + 1) + 1), rfl, ⟨one_le _, Nat.le_trans HSZ.out (by decide)⟩, by omega, HZ.out.rd, HZ.out.gr⟩)
    simp [results, Try.results135, go_sem, x0_0, x0_1]
  · clear hk
    obtain ⟨x0_0, x0_1⟩ := Blk.q2 (H.out.blk 0 rfl)
    obtain ⟨z0_0, z0_1⟩ := Blk.z2 (H.out.blk 0 rfl)
    have HZ := Lib.hid (SD.setN (SD.setN (H.out) 0 0 (.string ⟨#[81]⟩) rfl) 0 1 (.string s) rfl)
    clear H
    go_wp2
    refine bodyPost_ret (v := .agg #[.string ⟨#[81]⟩, .string s]) ?_ rfl (⟨(⟨#[81]⟩, s), ((((q1 + 1) + 1) + 1) + 1), rfl, ⟨one_le _, Nat.le_trans HSZ.out (by decide)⟩, by omega, HZ.out.rd, HZ.out.gr⟩)
    simp [results, Try.results135, go_sem, x0_0, x0_1]
  · clear hk
    obtain ⟨x0_0, x0_1⟩ := Blk.q2 (H.out.blk 0 rfl)
    obtain ⟨z0_0, z0_1⟩ := Blk.z2 (H.out.blk 0 rfl)
    have HZ := Lib.hid (SD.setN (SD.setN (H.out) 0 0 (.string ⟨#[81]⟩) rfl) 0 1 (.string s) rfl)
    clear H
    go_wp2
    refine bodyPost_ret (v := .agg #[.string ⟨#[81]⟩, .string s]) ?_ rfl (⟨(⟨#[81]⟩, s), ((((q1 + 1) + 1) + 1) + 1), rfl, ⟨one_le _, Nat.le_trans HSZ.out (by decide)⟩, by omega, HZ.out.rd, HZ.out.gr⟩)
    simp [results, Try.results135, go_sem, x0_0, x0_1]
  · clear hk
    have hsz : (nm ++ (⟨#[32]⟩ : ByteArray)).size = nm.size + 1 := by rw [ByteArray.size_append]; rfl
    have hks : ¬ 9223372036854775807 < nm.size + 1 := by have := HX1.out; omega
    have hc2 : ¬ 9223372036854775807 < nm.size + 1 + s.size := by have := HX1.out; have := HSZ.out; omega
    have hc3 : ¬ 9223372036854775807 < (nm ++ (⟨#[32]⟩ : ByteArray)).size + s.size := by rw [hsz]; exact hc2
    obtain ⟨bd, hbd⟩ : ∃ bd, bd = nm ++ (⟨#[32]⟩ : ByteArray) ++ s := ⟨_, rfl⟩
    have hbr : nm ++ (⟨#[32]⟩ : ByteArray) ++ s = bd := hbd.symm
    have HBD := Lib.hid (show bd.size ≤ 1040000 by rw [hbd, ByteArray.size_append, hsz]; have := HX1.out; have := HSZ.out; omega)
    clear hsz hbd
    obtain ⟨x0_0, x0_1⟩ := Blk.q2 (H.out.blk 0 rfl)
    obtain ⟨z0_0, z0_1⟩ := Blk.z2 (H.out.blk 0 rfl)
    have HZ := Lib.hid (SD.setN (SD.setN (H.out) 0 0 (.string ⟨#[80]⟩) rfl) 0 1 (.string bd) rfl)
    clear H
    go_wp2
    refine bodyPost_ret (v := .agg #[.string ⟨#[80]⟩, .string bd]) ?_ rfl (⟨(⟨#[80]⟩, bd), ((((q1 + 1) + 1) + 1) + 1), rfl, ⟨one_le _, HBD.out⟩, by omega, HZ.out.rd, HZ.out.gr⟩)
    simp [results, Try.results135, go_sem, x0_0, x0_1]
  · clear hk
    have hsz : (nm ++ (⟨#[32]⟩ : ByteArray)).size = nm.size + 1 := by rw [ByteArray.size_append]; rfl
    have hks : ¬ 9223372036854775807 < nm.size + 1 := by have := HX1.out; omega
    have hc2 : ¬ 9223372036854775807 < nm.size + 1 + s.size := by have := HX1.out; have := HSZ.out; omega
    have hc3 : ¬ 9223372036854775807 < (nm ++ (⟨#[32]⟩ : ByteArray)).size + s.size := by rw [hsz]; exact hc2
    obtain ⟨bd, hbd⟩ : ∃ bd, bd = nm ++ (⟨#[32]⟩ : ByteArray) ++ s := ⟨_, rfl⟩
    have hbr : nm ++ (⟨#[32]⟩ : ByteArray) ++ s = bd := hbd.symm
    have HBD := Lib.hid (show bd.size ≤ 1040000 by rw [hbd, ByteArray.size_append, hsz]; have := HX1.out; have := HSZ.out; omega)
    clear hsz hbd
    obtain ⟨x0_0, x0_1⟩ := Blk.q2 (H.out.blk 0 rfl)
    obtain ⟨z0_0, z0_1⟩ := Blk.z2 (H.out.blk 0 rfl)
    have HZ := Lib.hid (SD.setN (SD.setN (H.out) 0 0 (.string ⟨#[80]⟩) rfl) 0 1 (.string bd) rfl)
    clear H
    go_wp2
    refine bodyPost_ret (v := .agg #[.string ⟨#[80]⟩, .string bd]) ?_ rfl (⟨(⟨#[80]⟩, bd), ((((q1 + 1) + 1) + 1) + 1), rfl, ⟨one_le _, HBD.out⟩, by omega, HZ.out.rd, HZ.out.gr⟩)
    simp [results, Try.results135, go_sem, x0_0, x0_1]
  · clear hk
    have hsz : (nm ++ (⟨#[32]⟩ : ByteArray)).size = nm.size + 1 := by rw [ByteArray.size_append]; rfl
    have hks : ¬ 9223372036854775807 < nm.size + 1 := by have := HX1.out; omega
    have hc2 : ¬ 9223372036854775807 < nm.size + 1 + s.size := by have := HX1.out; have := HSZ.out; omega
    have hc3 : ¬ 9223372036854775807 < (nm ++ (⟨#[32]⟩ : ByteArray)).size + s.size := by rw [hsz]; exact hc2
    obtain ⟨bd, hbd⟩ : ∃ bd, bd = nm ++ (⟨#[32]⟩ : ByteArray) ++ s := ⟨_, rfl⟩
    have hbr : nm ++ (⟨#[32]⟩ : ByteArray) ++ s = bd := hbd.symm
    have HBD := Lib.hid (show bd.size ≤ 1040000 by rw [hbd, ByteArray.size_append, hsz]; have := HX1.out; have := HSZ.out; omega)
    clear hsz hbd
    obtain ⟨x0_0, x0_1⟩ := Blk.q2 (H.out.blk 0 rfl)
    obtain ⟨z0_0, z0_1⟩ := Blk.z2 (H.out.blk 0 rfl)
    have HZ := Lib.hid (SD.setN (SD.setN (H.out) 0 0 (.string ⟨#[80]⟩) rfl) 0 1 (.string bd) rfl)
    clear H
    go_wp2
    refine bodyPost_ret (v := .agg #[.string ⟨#[80]⟩, .string bd]) ?_ rfl (⟨(⟨#[80]⟩, bd), ((((q1 + 1) + 1) + 1) + 1), rfl, ⟨one_le _, HBD.out⟩, by omega, HZ.out.rd, HZ.out.gr⟩)
    simp [results, Try.results135, go_sem, x0_0, x0_1]
  · clear hk
    obtain ⟨x0_0, x0_1⟩ := Blk.q2 (H.out.blk 0 rfl)
    obtain ⟨z0_0, z0_1⟩ := Blk.z2 (H.out.blk 0 rfl)
    have HZ := Lib.hid (SD.setN (SD.setN (H.out) 0 0 (.string ⟨#[69]⟩) rfl) 0 1 (.string nm) rfl)
    clear H
    go_wp2
    refine bodyPost_ret (v := .agg #[.string ⟨#[69]⟩, .string nm]) ?_ rfl (⟨(⟨#[69]⟩, nm), ((((q1 + 1) + 1) + 1) + 1), rfl, ⟨one_le _, Nat.le_trans HX1.out (by decide)⟩, by omega, HZ.out.rd, HZ.out.gr⟩)
    simp [results, Try.results135, go_sem, x0_0, x0_1]
  · clear hk
    obtain ⟨x0_0, x0_1⟩ := Blk.q2 (H.out.blk 0 rfl)
    obtain ⟨z0_0, z0_1⟩ := Blk.z2 (H.out.blk 0 rfl)
    have HZ := Lib.hid (SD.setN (SD.setN (H.out) 0 0 (.string ⟨#[69]⟩) rfl) 0 1 (.string nm) rfl)
    clear H
    go_wp2
    refine bodyPost_ret (v := .agg #[.string ⟨#[69]⟩, .string nm]) ?_ rfl (⟨(⟨#[69]⟩, nm), ((((q1 + 1) + 1) + 1) + 1), rfl, ⟨one_le _, Nat.le_trans HX1.out (by decide)⟩, by omega, HZ.out.rd, HZ.out.gr⟩)
    simp [results, Try.results135, go_sem, x0_0, x0_1]
  · clear hk
    obtain ⟨x0_0, x0_1⟩ := Blk.q2 (H.out.blk 0 rfl)
    obtain ⟨z0_0, z0_1⟩ := Blk.z2 (H.out.blk 0 rfl)
    have HZ := Lib.hid (SD.setN (SD.setN (H.out) 0 0 (.string ⟨#[69]⟩) rfl) 0 1 (.string nm) rfl)
    clear H
    go_wp2
    refine bodyPost_ret (v := .agg #[.string ⟨#[69]⟩, .string nm]) ?_ rfl (⟨(⟨#[69]⟩, nm), ((((q1 + 1) + 1) + 1) + 1), rfl, ⟨one_le _, Nat.le_trans HX1.out (by decide)⟩, by omega, HZ.out.rd, HZ.out.gr⟩)
    simp [results, Try.results135, go_sem, x0_0, x0_1]
  · clear hk
    obtain ⟨x0_0, x0_1⟩ := Blk.q2 (H.out.blk 0 rfl)
    obtain ⟨z0_0, z0_1⟩ := Blk.z2 (H.out.blk 0 rfl)
    have HZ := Lib.hid (SD.setN (SD.setN (H.out) 0 0 (.string ⟨#[69]⟩) rfl) 0 1 (.string nm) rfl)
    clear H
    go_wp2
    refine bodyPost_ret (v := .agg #[.string ⟨#[69]⟩, .string nm]) ?_ rfl (⟨(⟨#[69]⟩, nm), ((((q1 + 1) + 1) + 1) + 1), rfl, ⟨one_le _, Nat.le_trans HX1.out (by decide)⟩, by omega, HZ.out.rd, HZ.out.gr⟩)
    simp [results, Try.results135, go_sem, x0_0, x0_1]
  · clear hk
    obtain ⟨x0_0, x0_1⟩ := Blk.q2 (H.out.blk 0 rfl)
    obtain ⟨z0_0, z0_1⟩ := Blk.z2 (H.out.blk 0 rfl)
    have HZ := Lib.hid (SD.setN (SD.setN (H.out) 0 0 (.string ⟨#[83]⟩) rfl) 0 1 (.string ⟨#[]⟩) rfl)
    clear H
    go_wp2
    refine bodyPost_ret (v := .agg #[.string ⟨#[83]⟩, .string ⟨#[]⟩]) ?_ rfl (⟨(⟨#[83]⟩, ⟨#[]⟩), ((((q1 + 1) + 1) + 1) + 1), rfl, ⟨one_le _, Nat.zero_le _⟩, by omega, HZ.out.rd, HZ.out.gr⟩)
    simp [results, Try.results135, go_sem, x0_0, x0_1]
  · clear hk
    obtain ⟨x0_0, x0_1⟩ := Blk.q2 (H.out.blk 0 rfl)
    obtain ⟨z0_0, z0_1⟩ := Blk.z2 (H.out.blk 0 rfl)
    have HZ := Lib.hid (SD.setN (SD.setN (H.out) 0 0 (.string ⟨#[83]⟩) rfl) 0 1 (.string ⟨#[]⟩) rfl)
    clear H
    go_wp2
    refine bodyPost_ret (v := .agg #[.string ⟨#[83]⟩, .string ⟨#[]⟩]) ?_ rfl (⟨(⟨#[83]⟩, ⟨#[]⟩), ((((q1 + 1) + 1) + 1) + 1), rfl, ⟨one_le _, Nat.zero_le _⟩, by omega, HZ.out.rd, HZ.out.gr⟩)
    simp [results, Try.results135, go_sem, x0_0, x0_1]
  · clear hk
    go_wp2_with fail
    have S9 := Sl.litS v14 9 l6S #[.string ⟨#[81]⟩, .string ⟨#[80]⟩, .string ⟨#[69]⟩, .string ⟨#[83]⟩, .string ⟨#[81]⟩, .string ⟨#[83]⟩] rfl
    have hw9 := (Below.refl v14.heap.size v14).alloc (Nat.le_refl _) (.cells #[.string ⟨#[81]⟩, .string ⟨#[80]⟩, .string ⟨#[69]⟩, .string ⟨#[83]⟩, .string ⟨#[81]⟩, .string ⟨#[83]⟩] 9)
    have hg9 := H.out.rd.1.lt
    have HW9 := Lib.hid (H.out.kept hw9)
    refine (of_any u0 RA rb rc g ((((q1 + 1) + 1) + 1) + 1) _ l6S 6 _ HW9.out.rd (by omega) (by decide) S9 (by intro b o h; simp at h; omega)).mono ?_
    rintro e v15 ⟨y, hy, rfl, hR9, hG9⟩
    replace H := Lib.hid (HW9.out.draw hR9 hG9)
    clear hR9 hG9 HW9 hw9 hg9 S9
    have HY := Lib.hid (l6S_le y hy)
    clear hy
    go_wp2_with fail
    have S9 := Sl.litS v15 9 l6B #[.string ⟨#[]⟩, .string ⟨#[102, 108, 121]⟩, .string ⟨#[97]⟩, .string ⟨#[97, 98, 32, 103, 101, 116, 32, 97]⟩, .string ⟨#[97, 32, 32, 103, 101, 116, 32, 97]⟩, .string ⟨#[122, 122]⟩] rfl
    have hw9 := (Below.refl v15.heap.size v15).alloc (Nat.le_refl _) (.cells #[.string ⟨#[]⟩, .string ⟨#[102, 108, 121]⟩, .string ⟨#[97]⟩, .string ⟨#[97, 98, 32, 103, 101, 116, 32, 97]⟩, .string ⟨#[97, 32, 32, 103, 101, 116, 32, 97]⟩, .string ⟨#[122, 122]⟩] 9)
    have hg9 := H.out.rd.1.lt
    have HW9 := Lib.hid (H.out.kept hw9)
    refine (of_any u0 RA rb rc g (((((q1 + 1) + 1) + 1) + 1) + 1) _ l6B 6 _ HW9.out.rd (by omega) (by decide) S9 (by intro b o h; simp at h; omega)).mono ?_
    rintro e v16 ⟨z, hz, rfl, hR9, hG9⟩
    replace H := Lib.hid (HW9.out.draw hR9 hG9)
    clear hR9 hG9 HW9 hw9 hg9 S9
    have HZZ := Lib.hid (l6B_le z hz)
    clear hz
    obtain ⟨x0_0, x0_1⟩ := Blk.q2 (H.out.blk 0 rfl)
    obtain ⟨z0_0, z0_1⟩ := Blk.z2 (H.out.blk 0 rfl)
    have HZ := Lib.hid (SD.setN (SD.setN (H.out) 0 0 (.string y) rfl) 0 1 (.string z) rfl)
    clear H
    go_wp2
    refine bodyPost_ret (v := .agg #[.string y, .string z]) ?_ rfl (⟨(y, z), ((((((q1 + 1) + 1) + 1) + 1) + 1) + 1), rfl, ⟨Nat.le_trans HY.out (by decide), Nat.le_trans HZZ.out (by decide)⟩, by omega, HZ.out.rd, HZ.out.gr⟩)
    simp [results, Try.results135, go_sem, x0_0, x0_1]
  · clear hk
    go_wp2_with fail
    refine (pick_any u0 RA rb rc g ((((q1 + 1) + 1) + 1) + 1) 4 _ H.out.rd (by omega) (by omega)).mono ?_
    rintro e v17 ⟨m, hm, rfl, hR9, hG9⟩
    replace H := Lib.hid (H.out.draw hR9 hG9)
    clear hR9 hG9
    rcases (show m = 0 ∨ m = 1 ∨ m = 2 ∨ m = 3 by omega) with rfl | rfl | rfl | rfl
    · clear hm
      go_wp2_with fail
      have S9 := Sl.litS v17 9 l6X #[.string ⟨#[88]⟩, .string ⟨#[65]⟩, .string ⟨#[48]⟩, .string ⟨#[88]⟩] rfl
      have hw9 := (Below.refl v17.heap.size v17).alloc (Nat.le_refl _) (.cells #[.string ⟨#[88]⟩, .string ⟨#[65]⟩, .string ⟨#[48]⟩, .string ⟨#[88]⟩] 9)
      have hg9 := H.out.rd.1.lt
      have HW9 := Lib.hid (H.out.kept hw9)
      refine (of_any u0 RA rb rc g (((((q1 + 1) + 1) + 1) + 1) + 1) _ l6X 4 _ HW9.out.rd (by omega) (by decide) S9 (by intro b o h; simp at h; omega)).mono ?_
      rintro e v18 ⟨y, hy, rfl, hR9, hG9⟩
      replace H := Lib.hid (HW9.out.draw hR9 hG9)
      clear hR9 hG9 HW9 hw9 hg9 S9
      have HY := Lib.hid (l6X_le y hy)
      clear hy
      obtain ⟨x0_0, x0_1⟩ := Blk.q2 (H.out.blk 0 rfl)
      obtain ⟨z0_0, z0_1⟩ := Blk.z2 (H.out.blk 0 rfl)
      have HZ := Lib.hid (SD.setN (SD.setN (H.out) 0 0 (.string y) rfl) 0 1 (.string ⟨#[]⟩) rfl)
      clear H
      go_wp2
      refine bodyPost_ret (v := .agg #[.string y, .string ⟨#[]⟩]) ?_ rfl (⟨(y, ⟨#[]⟩), ((((((q1 + 1) + 1) + 1) + 1) + 1) + 1), rfl, ⟨Nat.le_trans HY.out (by decide), Nat.zero_le _⟩, by omega, HZ.out.rd, HZ.out.gr⟩)
      simp [results, Try.results135, go_sem, x0_0, x0_1]
    · clear hm
      obtain ⟨x0_0, x0_1⟩ := Blk.q2 (H.out.blk 0 rfl)
      obtain ⟨z0_0, z0_1⟩ := Blk.z2 (H.out.blk 0 rfl)
      have HZ := Lib.hid (SD.setN (SD.setN (H.out) 0 0 (.string ⟨#[83]⟩) rfl) 0 1 (.string ⟨#[]⟩) rfl)
      clear H
      go_wp2
      refine bodyPost_ret (v := .agg #[.string ⟨#[83]⟩, .string ⟨#[]⟩]) ?_ rfl (⟨(⟨#[83]⟩, ⟨#[]⟩), (((((q1 + 1) + 1) + 1) + 1) + 1), rfl, ⟨one_le _, Nat.zero_le _⟩, by omega, HZ.out.rd, HZ.out.gr⟩)
      simp [results, Try.results135, go_sem, x0_0, x0_1]
    · clear hm
      obtain ⟨x0_0, x0_1⟩ := Blk.q2 (H.out.blk 0 rfl)
      obtain ⟨z0_0, z0_1⟩ := Blk.z2 (H.out.blk 0 rfl)
      have HZ := Lib.hid (SD.setN (SD.setN (H.out) 0 0 (.string ⟨#[83]⟩) rfl) 0 1 (.string ⟨#[]⟩) rfl)
      clear H
      go_wp2
      refine bodyPost_ret (v := .agg #[.string ⟨#[83]⟩, .string ⟨#[]⟩]) ?_ rfl (⟨(⟨#[83]⟩, ⟨#[]⟩), (((((q1 + 1) + 1) + 1) + 1) + 1), rfl, ⟨one_le _, Nat.zero_le _⟩, by omega, HZ.out.rd, HZ.out.gr⟩)
      simp [results, Try.results135, go_sem, x0_0, x0_1]
    · clear hm
      obtain ⟨x0_0, x0_1⟩ := Blk.q2 (H.out.blk 0 rfl)
      obtain ⟨z0_0, z0_1⟩ := Blk.z2 (H.out.blk 0 rfl)
      have HZ := Lib.hid (SD.setN (SD.setN (H.out) 0 0 (.string ⟨#[83]⟩) rfl) 0 1 (.string ⟨#[]⟩) rfl)
      clear H
      go_wp2
      refine bodyPost_ret (v := .agg #[.string ⟨#[83]⟩, .string ⟨#[]⟩]) ?_ rfl (⟨(⟨#[83]⟩, ⟨#[]⟩), (((((q1 + 1) + 1) + 1) + 1) + 1), rfl, ⟨one_le _, Nat.zero_le _⟩, by omega, HZ.out.rd, HZ.out.gr⟩)
      simp [results, Try.results135, go_sem, x0_0, x0_1]
end Go.Proofs.Ytpjkcmmmpgncmaa
