/- Drawing letters. -/
import Derived.Test.YtannpeedfakhkaaDoorLtrM
import Derived.Test.YtannpeedfakhkaaDoorLtrI
namespace Go.Proofs.YtannpeedfakhkaaDoor
open Go.RowKit
theorem own_grown {w w' : World} {B g : Nat} {e : TypeId} {k n : Nat} {v : Value} {xs : List Value} (h : w.ownsRow B e k v n xs) (hg : w.grownBy w' (some g)) (hlt : g < B) : w'.ownsRow B e k v n xs := by
  refine h.kept hg ?_
  cases hv : v.ownBlock with
  | none => exact .inl rfl
  | some j => exact .inr (by have := (h.lt j hv).1; intro he; injection he; omega)
theorem grown_own {w w1 w2 : World} {r row : Option Nat} (h : w.grownBy w1 r) (h2 : w1.grownBy w2 row) (hr : ∀ j, row = some j → w.heap.size ≤ j) : w.grownBy w2 r :=
  ⟨h2.os.trans h.os, h2.tape.trans h.tape, h2.output.trans h.output, Nat.le_trans h.size h2.size, fun k hk hne => (h2.block k (Nat.lt_of_lt_of_le hk h.size) (fun he => by have := hr k he.symm; omega)).trans (h.block k hk hne)⟩
theorem Rd.grown {w0 w w' : World} {A : Option Addr} {bs : List UInt8} {c g q : Nat} {row : Option Nat} (h : Rd w0 w A bs c g q) (hg : w.grownBy w' row) (hr : ∀ j, row = some j → g < j) : Rd w0 w' A bs c g q :=
  ⟨h.1.grown hg (fun he => by have := hr g he.symm; omega), h.2.1.grown hg h.2.1.size (fun j hj => by have := hr j hj; have := h.2.2.1; omega), h.2.2⟩
def LensOk (l : List Let) : Prop := ∀ x ∈ l, x.1.size ≤ 2 ∧ x.2.size ≤ 900
theorem LensOk.add {l : List Let} (h : LensOk l) {x : Let} (h1 : x.1.size ≤ 2) (h2 : x.2.size ≤ 900) : LensOk (l ++ [x]) := by
  intro y hy
  rcases List.mem_append.1 hy with hy | hy
  · exact h y hy
  · simp at hy; subst hy; exact ⟨h1, h2⟩
def DrawsPost (w0 w : World) (A : Option Addr) (bs : List UInt8) (c g p : Nat) (e : Ending) (w' : World) : Prop :=
  ∃ (l : List Let) (v : Value) (q : Nat), e = .returned v ∧ l.length ≤ 9 ∧ LensOk l ∧ q ≤ p + 40 ∧ w'.ownsRow w.heap.size 23 2 v l.length (l.flatMap encLet) ∧ Rd w0 w' A bs c g q ∧ w.grownBy w' (some g)
def numL : List Int := [2, 3, 5, 1, 0, 9]
theorem numL_le : ∀ x ∈ numL, 0 ≤ x ∧ x ≤ 9 := by decide
set_option maxRecDepth 100000 in
set_option maxHeartbeats 1000000 in
theorem letters_any (w0 : World) (A : Option Addr) (bs : List UInt8) (c g p : Nat) (w : World) (hR : Rd w0 w A bs c g p) (hp : p < 900000) :
    Calls Tryd.prog 46 #[.pointer (some ⟨g, 0, none⟩)] w (DrawsPost w0 w A bs c g p) := by
  obtain ⟨i0, hi, hz0, hz1, hz2⟩ := info_parts infoLet
  have HI := Lib.hid (⟨hi, hz0, hz1, hz2⟩ : _ ∧ _ ∧ _ ∧ _)
  clear hi hz0 hz1 hz2
  have hgl := hR.1.lt
  have hg0 : w0.heap.size ≤ g := hR.2.2.1
  have hR1 := hR.alloc (.cells #[] 23)
  have hO1 := own_of_blk (base := w.heap.size) (n := 0) (k := 2) (Blk.new w 23 #[]) (Nat.le_refl _) (by simp [maxLen]) (by simp) rfl
  have hG : w.grownBy (w.alloc (.cells #[] 23)) (some g) := grown_alloc (World.grownBy.refl w (some g)) _
  have hs1 : (w.alloc (.cells #[] 23)).heap.size = w.heap.size + 1 := by simp
  go_enter Tryd.func46, Tryd.ntmps46
  go_wp2_with fail
  generalize w.alloc (.cells #[] 23) = w1 at *
  have S1 := Sl.litI w1 3 numL #[.int .i64 2, .int .i64 3, .int .i64 5, .int .i64 1, .int .i64 0, .int .i64 9] rfl
  rw [hs1] at S1
  refine (num_any w0 A bs c g p (some ⟨w.heap.size + 1, 0, none⟩) numL 6 _ (hR1.alloc _) (by omega) (by decide) S1 (by intro b o h; simp at h; omega)).mono ?_
  rintro e w2 ⟨m0, hm0, rfl, hR2, hG2⟩
  obtain ⟨hm1, hm2⟩ := numL_le m0 hm0
  have hO2 := own_grown (hO1.alloc _) hG2 hgl
  have hG02 := grown_trans (grown_alloc hG _) hG2
  clear hO1 hG hG2 S1 hm0 hR1 hR
  obtain ⟨m, rfl⟩ : ∃ m : Nat, m0 = m := ⟨m0.toNat, by omega⟩
  go_wp2
  go_loopw [3, 4] (fun v i wr => ∃ (l : List Let) (k q : Nat), i = .int .i64 k ∧ l.length + k ≤ 9 ∧ LensOk l ∧ q + 4 * k ≤ p + 40 ∧ wr.ownsRow w.heap.size 23 2 v l.length (l.flatMap encLet) ∧ Rd w0 wr A bs c g q ∧ w.grownBy wr (some g)) (fun _ i _ => (intOf i).toNat)
  case atStart => exact ⟨[], m, p + 1, rfl, by simp; omega, fun x hx => absurd hx (by simp), by omega, hO2, hR2, hG02⟩
  case round =>
    obtain ⟨l, k, q, rfl, hk, hL, hq, hown, hR, hG⟩ := hrel
    have HL := Lib.hid hL
    clear hL
    by_cases h0 : 0 < k
    · go_wp2_with fail
      refine (letter_any w0 A bs c g q wr hR (by omega)).mono ?_
      rintro e w3 ⟨x, q', rfl, hx1, hx2, hq', hR3, hG3⟩
      have hG03 := grown_trans hG hG3
      have hown3 := own_grown hown hG3 hgl
      have hown1 := hown3.alloc (.cells #[.string x.1, .string x.2] 23)
      have hnew := new_cells w3 [.string x.1, .string x.2] 23
      have hR4 := hR3.alloc (.cells #[.string x.1, .string x.2] 23)
      have hG04 := grown_alloc hG03 (.cells #[.string x.1, .string x.2] 23)
      have hlt := hown3.lt
      have hs3 := hG03.size
      clear hG3 hG hR hown hown3 hG03 hR3
      have HLT := Lib.hid hlt
      clear hlt
      go_wp2_with (at_builtin; refine wpList_append_own _ rfl (.tmp 13) (.tmp 16) 28 rfl w.heap.size 23 i0 _ 2 32 Tryd.underlying28 HI.out.1 HI.out.2.1 HI.out.2.2.1 HI.out.2.2.2 rfl (by decide) u3 l.length (l.flatMap encLet) rfl hown1 ⟨w3.heap.size, 0, none⟩ 1 1 [.string x.1, .string x.2] rfl rfl hnew (by simp [Value.oneCell']) (by unfold maxLen; omega) (by omega) (by simp; omega) ?_; intro v' w2 hown2 hgrow _)
      go_roundw
      case rel => exact ⟨l ++ [x], k - 1, q', by go_num, by simp; omega, HL.out.add hx1 hx2, by omega, by simpa [List.flatMap_append, encLet] using hown2, hR4.grown hgrow (fun j hj => by have := (HLT.out j hj).1; omega), grown_own hG04 hgrow (fun j hj => (HLT.out j hj).1)⟩
      case measure => simp [intOf]; omega
    · obtain rfl : k = 0 := by omega
      go_wp2
      go_ret
      exact ⟨l, u3, q, rfl, by omega, HL.out, by omega, hown, hR, hG⟩
end Go.Proofs.YtannpeedfakhkaaDoor
