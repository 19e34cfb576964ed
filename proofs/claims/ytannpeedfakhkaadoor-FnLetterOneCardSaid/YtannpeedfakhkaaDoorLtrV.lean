/- The draws of letters: one call each. -/
import Derived.Test.YtannpeedfakhkaaDoorLtrU
import Derived.Test.YtannpeedfakhkaaDoorLtrP
import Derived.Lib.SmallJoins
namespace Go.Proofs.YtannpeedfakhkaaDoor
open Go.RowKit
def OneLet (w : World) (e : Ending) (w' : World) : Prop := ∃ x : Let, e = .returned (.agg #[.string x.1, .string x.2]) ∧ x.1.size ≤ 2 ∧ x.2.size ≤ 900 ∧ Below w.heap.size w w'
def ManyLet (w : World) (e : Ending) (w' : World) : Prop := ∃ (l : List Let) (v : Value), e = .returned v ∧ l.length ≤ 9 ∧ LensOk l ∧ w'.ownsRow w.heap.size 23 2 v l.length (l.flatMap encLet) ∧ Below w.heap.size w w'
set_option maxRecDepth 100000 in
set_option maxHeartbeats 400000 in
theorem drawLetters_any (A : Option Addr) (bs : List UInt8) (c : Nat) (w : World) (hn : bs.length ≤ 1048576) (hc : bs.length ≤ c) (hm : c ≤ maxLen) (hS : Sl encU 1 w A bs) :
    Calls Tryd.prog 30 #[.slice A bs.length c] w (ManyLet w) := by
  go_enter Tryd.func30, Tryd.ntmps30
  go_wp2_with fail
  refine (open_any A bs c w hn hc hm hS).mono ?_
  rintro e w1 ⟨bs', c', g, rfl, hR1, hb1⟩
  clear hS
  go_wp2_with fail
  refine (letters_any w A bs' c' g 0 w1 hR1 (by omega)).mono ?_
  rintro e w2 ⟨l, v, q, rfl, hl9, hlens, hq, hown, hR2, hG2⟩
  have HO := Lib.hid (Go.Joins.ownsRow_le hown hb1.size)
  have HB := Lib.hid hR2.2.1
  have HL := Lib.hid hlens
  clear hown hR1 hG2 hlens hR2 hb1
  go_wp2
  go_ret
  exact ⟨l, v, rfl, hl9, HL.out, HO.out, HB.out⟩
set_option maxRecDepth 100000 in
set_option maxHeartbeats 400000 in
theorem drawOk_any (A : Option Addr) (bs : List UInt8) (c : Nat) (w : World) (hn : bs.length ≤ 1048576) (hc : bs.length ≤ c) (hm : c ≤ maxLen) (hS : Sl encU 1 w A bs) :
    Calls Tryd.prog 21 #[.slice A bs.length c] w (OneLet w) := by
  have hS1 := hS.below ((Below.refl w.heap.size w).alloc (Nat.le_refl _) (.cells #[.string ⟨#[]⟩, .string ⟨#[]⟩] 23))
  have hB := Blk.new w 23 #[.string ⟨#[]⟩, .string ⟨#[]⟩]
  have hb := (Below.refl w.heap.size w).alloc (Nat.le_refl _) (.cells #[.string ⟨#[]⟩, .string ⟨#[]⟩] 23)
  have hsz : (w.alloc (.cells #[.string ⟨#[]⟩, .string ⟨#[]⟩] 23)).heap.size = w.heap.size + 1 := by simp
  clear hS
  go_enter Tryd.func21, Tryd.ntmps21
  go_wp2_with fail
  generalize w.alloc (.cells #[.string ⟨#[]⟩, .string ⟨#[]⟩] 23) = w1 at *
  refine (open_any A bs c w1 hn hc hm hS1).mono ?_
  rintro e w2 ⟨bs', c', g, rfl, hR1, hb1⟩
  have hB2 := hB.kept hb1
  have hg := hR1.2.2.1
  clear hS1 hB
  go_wp2_with fail
  refine (letter_any w1 A bs' c' g 0 w2 hR1 (by omega)).mono ?_
  rintro e w3 ⟨x, q, rfl, hx1, hx2, hq, hR3, hG3⟩
  have hB3 := hB2.grown hG3 (by simp; omega)
  have hb3 := hb.trans (hR3.2.1.mono (by omega))
  have y0 := hB3.frozen 0
  have y1 := hB3.frozen 1
  have b0 : w3.cell? ⟨w.heap.size, 0, none⟩ = some (.string ⟨#[]⟩) := hB3.cell 0
  have b1 : w3.cell? ⟨w.heap.size, 1, none⟩ = some (.string ⟨#[]⟩) := hB3.cell 1
  have HB3 := Lib.hid hB3
  clear hB2 hB3 hR1 hR3 hG3 hb1
  go_wp2
  obtain ⟨q0, q1⟩ := HB3.out.two (.string x.1) (.string x.2)
  refine bodyPost_ret (v := .agg #[.string x.1, .string x.2]) (by simp [results, Tryd.results21, go_sem, q0, q1]) rfl ⟨x, rfl, hx1, hx2, (hb3.setCell (by simp) _).setCell (by simp) _⟩
set_option maxRecDepth 100000 in
set_option maxHeartbeats 400000 in
theorem drawText_any (A : Option Addr) (bs : List UInt8) (c : Nat) (w : World) (hn : bs.length ≤ 1048576) (hc : bs.length ≤ c) (hm : c ≤ maxLen) (hS : Sl encU 1 w A bs) :
    Calls Tryd.prog 26 #[.slice A bs.length c] w (OneLet w) := by
  have hS1 := hS.below ((Below.refl w.heap.size w).alloc (Nat.le_refl _) (.cells #[.string ⟨#[]⟩, .string ⟨#[]⟩] 23))
  have hB := Blk.new w 23 #[.string ⟨#[]⟩, .string ⟨#[]⟩]
  have hb := (Below.refl w.heap.size w).alloc (Nat.le_refl _) (.cells #[.string ⟨#[]⟩, .string ⟨#[]⟩] 23)
  have hsz : (w.alloc (.cells #[.string ⟨#[]⟩, .string ⟨#[]⟩] 23)).heap.size = w.heap.size + 1 := by simp
  clear hS
  go_enter Tryd.func26, Tryd.ntmps26
  go_wp2_with fail
  generalize w.alloc (.cells #[.string ⟨#[]⟩, .string ⟨#[]⟩] 23) = w1 at *
  refine (open_any A bs c w1 hn hc hm hS1).mono ?_
  rintro e w2 ⟨bs', c', g, rfl, hR1, hb1⟩
  have hB2 := hB.kept hb1
  have hg := hR1.2.2.1
  clear hS1 hB
  go_wp2_with fail
  refine (letter_any w1 A bs' c' g 0 w2 hR1 (by omega)).mono ?_
  rintro e w3 ⟨x, q, rfl, hx1, hx2, hq, hR3, hG3⟩
  have hB3 := hB2.grown hG3 (by simp; omega)
  have hb3 := hb.trans (hR3.2.1.mono (by omega))
  have y0 := hB3.frozen 0
  have y1 := hB3.frozen 1
  have b0 : w3.cell? ⟨w.heap.size, 0, none⟩ = some (.string ⟨#[]⟩) := hB3.cell 0
  have b1 : w3.cell? ⟨w.heap.size, 1, none⟩ = some (.string ⟨#[]⟩) := hB3.cell 1
  have HB3 := Lib.hid hB3
  clear hB2 hB3 hR1 hR3 hG3 hb1
  go_wp2
  obtain ⟨q0, q1⟩ := HB3.out.two (.string x.1) (.string x.2)
  refine bodyPost_ret (v := .agg #[.string x.1, .string x.2]) (by simp [results, Tryd.results26, go_sem, q0, q1]) rfl ⟨x, rfl, hx1, hx2, (hb3.setCell (by simp) _).setCell (by simp) _⟩
end Go.Proofs.YtannpeedfakhkaaDoor
