/- The program's decoder: what feeding one byte does, and when a letter is complete. -/
import Derived.Test.YtbhocdmfmnlniaaDoorLtrA
namespace Go.Proofs.YtbhocdmfmnlniaaDoor
open Go.RowKit
/-- does the byte c fit, 'seen' bytes having come and 'size' being what the digits told -/
def fitB (seen : Nat) (size c : Int) : Bool :=
  if seen = 0 then sgnB c else if seen = 1 then digB c && decide ((size + (c - 48)) * 10 ≤ 40) else if seen = 2 then digB c && decide (size + (c - 48) ≤ 40) else bodB c
def nsz (seen : Nat) (size c : Int) : Int := if seen = 1 then (size + (c - 48)) * 10 else if seen = 2 then size + (c - 48) else size
abbrev dcd (seen : Nat) (size : Int) : Array Value := #[.int .i64 seen, .int .i64 size]
set_option maxHeartbeats 400000 in
theorem feed_yes (g seen : Nat) (size c : Int) (w : World) (h0 : 0 ≤ c) (h1 : c ≤ 255) (hs0 : 0 ≤ size) (hs1 : size ≤ 1000) (hsn : seen ≤ 4611686018427387904) (hB : Blk w g 80 (dcd seen size)) (hf : fitB seen size c = true) :
    Calls Tryd.prog 57 #[.pointer (some ⟨g, 0, none⟩), .int .u8 c] w fun e w' => e = .returned .nilIface ∧ Blk w' g 80 (dcd (seen + 1) (nsz seen size c)) ∧ ∀ B, B ≤ g → Below B w w' := by
  have hc0 : w.cell? ⟨g, 0, none⟩ = some (.int .i64 seen) := hB.cell 0
  have hc1 : w.cell? ⟨g, 1, none⟩ = some (.int .i64 size) := hB.cell 1
  have hz0 := hB.frozen 0
  have hz1 := hB.frozen 1
  by_cases s0 : seen = 0
  · subst s0
    have hf' : sgnB c = true := by simpa [fitB] using hf
    clear hf
    go_enter Tryd.func57, Tryd.ntmps57
    go_wp2_with (go_at_call 34; refine (signOk_any c _ h0 h1).mono ?_; rintro e w' ⟨rfl, rfl⟩)
    go_ret
    refine ⟨rfl, ?_, fun B hB' => (Below.refl _ _).setCell hB' _⟩
    simpa [nsz, dcd] using hB.set_ 0 (.int .i64 1)
  by_cases s1 : seen = 1
  · subst s1
    have hd : digB c = true := by simp [fitB] at hf; exact hf.1
    have hle : (size + (c - 48)) * 10 ≤ 40 := by simp [fitB] at hf; exact hf.2
    obtain ⟨hd0, hd1⟩ := digB_yes hd
    clear hf
    go_enter Tryd.func57, Tryd.ntmps57
    go_wp2_with (go_at_call 47; refine (digitOk_any c _ h0 h1).mono ?_; rintro e w' ⟨rfl, rfl⟩)
    go_ret
    refine ⟨rfl, ?_, fun B hB' => (((Below.refl _ _).setCell hB' _).setCell hB' _).setCell hB' _⟩
    simpa [nsz, dcd] using ((hB.set_ 1 (.int .i64 (size + (c - 48)))).set_ 1 (.int .i64 ((size + (c - 48)) * 10))).set_ 0 (.int .i64 (1 + 1))
  by_cases s2 : seen = 2
  · subst s2
    have hd : digB c = true := by simp [fitB] at hf; exact hf.1
    have hle : size + (c - 48) ≤ 40 := by simp [fitB] at hf; exact hf.2
    obtain ⟨hd0, hd1⟩ := digB_yes hd
    clear hf
    go_enter Tryd.func57, Tryd.ntmps57
    go_wp2_with (go_at_call 47; refine (digitOk_any c _ h0 h1).mono ?_; rintro e w' ⟨rfl, rfl⟩)
    go_ret
    refine ⟨rfl, ?_, fun B hB' => ((Below.refl _ _).setCell hB' _).setCell hB' _⟩
    simpa [nsz, dcd] using (hB.set_ 1 (.int .i64 (size + (c - 48)))).set_ 0 (.int .i64 (2 + 1))
  · have hf' : bodB c = true := by simpa [fitB, s0, s1, s2] using hf
    have hn : nsz seen size c = size := by simp [nsz, s1, s2]
    have e0 : (((seen : Int) == 0) = false) := by simpa using s0
    have e1 : (((seen : Int) == 1) = false) := by simpa using (fun h : (seen : Int) = 1 => s1 (by omega))
    have e2 : (((seen : Int) == 2) = false) := by simpa using (fun h : (seen : Int) = 2 => s2 (by omega))
    have HN := Lib.hid hn
    clear hf hn s0 s1 s2
    go_enter Tryd.func57, Tryd.ntmps57
    go_wp2_with (go_at_call 35; refine (bodyByteOk_any c _ h0 h1).mono ?_; rintro e w' ⟨rfl, rfl⟩)
    go_ret
    refine ⟨rfl, ?_, fun B hB' => (Below.refl _ _).setCell hB' _⟩
    rw [HN.out]
    simpa [dcd] using hB.set_ 0 (.int .i64 ((seen : Int) + 1))
set_option maxHeartbeats 400000 in
theorem feed_no (g seen : Nat) (size c : Int) (E : Value) (w : World) (h0 : 0 ≤ c) (h1 : c ≤ 255) (hs0 : 0 ≤ size) (hs1 : size ≤ 1000) (hE : w.cell? ⟨1, 0, none⟩ = some E) (hB : Blk w g 80 (dcd seen size)) (hf : fitB seen size c = false) :
    Calls Tryd.prog 57 #[.pointer (some ⟨g, 0, none⟩), .int .u8 c] w fun e w' => e = .returned E ∧ ∀ B, B ≤ g → Below B w w' := by
  have hc0 : w.cell? ⟨g, 0, none⟩ = some (.int .i64 seen) := hB.cell 0
  have hc1 : w.cell? ⟨g, 1, none⟩ = some (.int .i64 size) := hB.cell 1
  have hz0 := hB.frozen 0
  have hz1 := hB.frozen 1
  by_cases s0 : seen = 0
  · subst s0
    have hf' : sgnB c = false := by simpa [fitB] using hf
    clear hf
    go_enter Tryd.func57, Tryd.ntmps57
    go_wp2_with (go_at_call 34; refine (signOk_any c _ h0 h1).mono ?_; rintro e w' ⟨rfl, rfl⟩)
    go_ret
    exact ⟨rfl, fun B hB' => Below.refl _ _⟩
  by_cases s1 : seen = 1
  · subst s1
    by_cases hd : digB c = true
    · have hle : decide ((size + (c - 48)) * 10 ≤ 40) = false := by simp [fitB, hd] at hf; simp; omega
      obtain ⟨hd0, hd1⟩ := digB_yes hd
      clear hf
      go_enter Tryd.func57, Tryd.ntmps57
      go_wp2_with (go_at_call 47; refine (digitOk_any c _ h0 h1).mono ?_; rintro e w' ⟨rfl, rfl⟩)
      go_ret
      exact ⟨rfl, fun B hB' => ((Below.refl _ _).setCell hB' _).setCell hB' _⟩
    · have hd' : digB c = false := by simpa using hd
      clear hf hd
      go_enter Tryd.func57, Tryd.ntmps57
      go_wp2_with (go_at_call 47; refine (digitOk_any c _ h0 h1).mono ?_; rintro e w' ⟨rfl, rfl⟩)
      go_ret
      exact ⟨rfl, fun B hB' => Below.refl _ _⟩
  by_cases s2 : seen = 2
  · subst s2
    by_cases hd : digB c = true
    · have hle : decide (size + (c - 48) ≤ 40) = false := by simp [fitB, hd] at hf; simp; omega
      obtain ⟨hd0, hd1⟩ := digB_yes hd
      clear hf
      go_enter Tryd.func57, Tryd.ntmps57
      go_wp2_with (go_at_call 47; refine (digitOk_any c _ h0 h1).mono ?_; rintro e w' ⟨rfl, rfl⟩)
      go_ret
      exact ⟨rfl, fun B hB' => (Below.refl _ _).setCell hB' _⟩
    · have hd' : digB c = false := by simpa using hd
      clear hf hd
      go_enter Tryd.func57, Tryd.ntmps57
      go_wp2_with (go_at_call 47; refine (digitOk_any c _ h0 h1).mono ?_; rintro e w' ⟨rfl, rfl⟩)
      go_ret
      exact ⟨rfl, fun B hB' => Below.refl _ _⟩
  · have hf' : bodB c = false := by simpa [fitB, s0, s1, s2] using hf
    have e0 : (((seen : Int) == 0) = false) := by simpa using s0
    have e1 : (((seen : Int) == 1) = false) := by simpa using (fun h : (seen : Int) = 1 => s1 (by omega))
    have e2 : (((seen : Int) == 2) = false) := by simpa using (fun h : (seen : Int) = 2 => s2 (by omega))
    clear hf s0 s1 s2
    go_enter Tryd.func57, Tryd.ntmps57
    go_wp2_with (go_at_call 35; refine (bodyByteOk_any c _ h0 h1).mono ?_; rintro e w' ⟨rfl, rfl⟩)
    go_ret
    exact ⟨rfl, fun B hB' => Below.refl _ _⟩

/-- is the letter complete -/
def fullB (seen : Nat) (size : Int) : Bool := decide (3 ≤ seen ∧ (seen : Int) = 3 + size)
set_option maxHeartbeats 400000 in
theorem done_any (g seen : Nat) (size : Int) (w : World) (hs0 : 0 ≤ size) (hs1 : size ≤ 1000) (hsn : seen ≤ 4611686018427387904) (hB : Blk w g 80 (dcd seen size)) :
    Calls Tryd.prog 58 #[.pointer (some ⟨g, 0, none⟩)] w fun e w' => e = .returned (.bool (fullB seen size)) ∧ ∃ n, w' = w.drewN n := by
  have hc0 : w.cell? ⟨g, 0, none⟩ = some (.int .i64 seen) := hB.cell 0
  have hc1 : w.cell? ⟨g, 1, none⟩ = some (.int .i64 size) := hB.cell 1
  by_cases h3 : 3 ≤ (seen : Int)
  · have h3' : decide (3 ≤ (seen : Int)) = true := by simpa using h3
    by_cases he : (seen : Int) = 3 + size
    · have he' : (((seen : Int) == 3 + size) = true) := by simpa using he
      have HF := Lib.hid (show fullB seen size = true by unfold fullB; simp; omega)
      clear he
      go_enter Tryd.func58, Tryd.ntmps58
      go_wp2
      go_quiet (fail)
      go_wp2
      go_ret
      exact ⟨by rw [HF.out]; rfl, _, rfl⟩
    · have he' : (((seen : Int) == 3 + size) = false) := by simpa using he
      have HF := Lib.hid (show fullB seen size = false by unfold fullB; simp; omega)
      clear he
      go_enter Tryd.func58, Tryd.ntmps58
      go_wp2
      go_quiet (fail)
      go_wp2
      go_ret
      exact ⟨by rw [HF.out]; rfl, _, rfl⟩
  · have h3' : decide (3 ≤ (seen : Int)) = false := by simpa using h3
    have HF := Lib.hid (show fullB seen size = false by unfold fullB; simp; omega)
    go_enter Tryd.func58, Tryd.ntmps58
    go_wp2
    go_quiet (fail)
    go_wp2
    go_ret
    exact ⟨by rw [HF.out]; rfl, _, rfl⟩
end Go.Proofs.YtbhocdmfmnlniaaDoor
