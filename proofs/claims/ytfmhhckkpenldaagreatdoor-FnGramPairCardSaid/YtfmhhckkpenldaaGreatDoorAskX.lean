import Derived.BigQuiet
import Derived.Test.YtfmhhckkpenldaaGreatDoorAskO
/- The reference's AskText: a short string. -/
namespace Go.Proofs.YtfmhhckkpenldaaGreatDoor
open Go.RowKit
/-- a string of some size -/
def TextPost (c : Nat) (w : World) (e : Ending) (w' : World) : Prop := ∃ s : ByteArray, e = .returned (.string s) ∧ s.size ≤ c ∧ Below w.heap.size w w'
/-- AskText: nothing, or of something that may be asked -/
def AskTextPost (x : AskV) (w : World) (e : Ending) (w' : World) : Prop := ∃ s : ByteArray, e = .returned (.string s) ∧ s.size ≤ 1000020 ∧ (s = ⟨#[]⟩ ∨ AskP x) ∧ Below w.heap.size w w'
theorem AskTextPost.no {x : AskV} {w w' : World} (h : Below w.heap.size w w') : AskTextPost x w (.returned (.string ⟨#[]⟩)) w' := ⟨_, rfl, by decide, .inl rfl, h⟩
theorem AskTextPost.yes {x : AskV} {s : ByteArray} {w w' : World} (h : Below w.heap.size w w') (hp : AskP x) (hs : s.size ≤ 1000020) : AskTextPost x w (.returned (.string s)) w' := ⟨_, rfl, hs, .inr hp, h⟩
theorem TextPost.mk {c : Nat} {s : ByteArray} {w w' : World} (h : Below w.heap.size w w') (hs : s.size ≤ c) : TextPost c w (.returned (.string s)) w' := ⟨_, rfl, hs, h⟩
set_option maxRecDepth 100000 in
set_option maxHeartbeats 4000000 in
theorem specAskText_any (x : AskV) (w : World) (ha : x.2.1.size ≤ maxLen) (hb : x.2.2.1.size ≤ maxLen) :
    Calls Tryz.prog 51 #[.agg #[.int .i64 x.1, .string x.2.1, .string x.2.2.1, .int .i64 x.2.2.2]] w (AskTextPost x w) := by
  obtain ⟨k, a, b, n⟩ := x
  simp only at ha hb ⊢
  have hb0 := (Below.refl w.heap.size w).alloc (Nat.le_refl _) (.cells #[.int .i64 k, .string a, .string b, .int .i64 n] 90)
  have HO := Lib.hid (specAskOk_any (k, a, b, n) (w.alloc (.cells #[.int .i64 k, .string a, .string b, .int .i64 n] 90)) ha hb)
  have hB := Blk.new w 90 #[.int .i64 k, .string a, .string b, .int .i64 n]
  clear ha hb
  go_enter Tryz.func51, Tryz.ntmps51
  go_wp2_with fail
  generalize w.alloc (.cells #[.int .i64 k, .string a, .string b, .int .i64 n] 90) = w0 at *
  refine HO.out.mono ?_
  rintro e w1 ⟨v, rfl, hp, hb1⟩
  have hB1 := hB.kept hb1
  have x0 : w1.cell? ⟨w.heap.size, 0, none⟩ = some (.int .i64 k) := hB1.cell 0
  have x1 : w1.cell? ⟨w.heap.size, 1, none⟩ = some (.string a) := hB1.cell 1
  have x2 : w1.cell? ⟨w.heap.size, 2, none⟩ = some (.string b) := hB1.cell 2
  have x3 : w1.cell? ⟨w.heap.size, 3, none⟩ = some (.int .i64 n) := hB1.cell 3
  have HB1 := Lib.hid (bthen hb0 hb1)
  clear HO hB hb0 hb1
  cases v
  · go_wp2
    go_ret
    exact AskTextPost.no HB1.out
  have HP := Lib.hid (hp rfl)
  obtain ⟨p1, p2, p3, p4, p5, p6⟩ := hp rfl
  simp only at p1 p2 p3 p4 p5 p6
  obtain ⟨m, rfl⟩ : ∃ m : Nat, k = (m : Int) := ⟨k.toNat, by omega⟩
  have hm : m ≤ 9 := by omega
  clear hp p1 p2
  go_wp2_with fail
  refine (l4Shape_any _ _).mono ?_
  rintro e w2 ⟨rfl, hb2⟩
  have hB2 := hB1.kept hb2
  have y0 : w2.cell? ⟨w.heap.size, 0, none⟩ = some (.int .i64 m) := hB2.cell 0
  have HB2 := Lib.hid (bthen HB1.out hb2)
  generalize shapeK (m : Int) = s at *
  obtain ⟨s1, s2, s3⟩ := s
  clear hB1 x0 x1 x2 x3 hb2
  go_wp2_with fail
  refine (l4Word_any m _ hm).mono ?_
  rintro e w3 ⟨t, rfl, ht, hb3⟩
  have hB3 := hB2.kept hb3
  have z1 : w3.cell? ⟨w.heap.size, 1, none⟩ = some (.string a) := hB3.cell 1
  have z2 : w3.cell? ⟨w.heap.size, 2, none⟩ = some (.string b) := hB3.cell 2
  have z3 : w3.cell? ⟨w.heap.size, 3, none⟩ = some (.int .i64 n) := hB3.cell 3
  have HB3 := Lib.hid (bthen HB2.out hb3)
  have HN := Lib.hid (decZ_any n w3 (by omega) (by omega))
  have hP : (⟨#[32]⟩ : ByteArray).size = 1 := rfl
  clear hB2 y0 hb3 hB3 p5 p6 HB1 HB2
  cases s1 <;> cases s2
  all_goals
    cases s3
    case false =>
      go_wp2
      all_goals try (exfalso; omega)
      go_ret
      exact AskTextPost.yes HB3.out HP.out (by (try simp only [ByteArray.size_append, hP]); omega)
    case true =>
      go_wp2_with fail
      all_goals try (exfalso; omega)
      refine HN.out.mono ?_
      rintro e w4 ⟨q, rfl, hq, hb4⟩
      go_wp2
      all_goals try (exfalso; omega)
      go_ret
      exact AskTextPost.yes (bthen HB3.out hb4) HP.out (by (try simp only [ByteArray.size_append, hP]); omega)
end Go.Proofs.YtfmhhckkpenldaaGreatDoor
