/- The program's writeLetter. -/
import Derived.Test.YtannpeedfakhkaaDoorLtrQ
import Derived.Test.YtannpeedfakhkaaDoorBuild
namespace Go.Proofs.YtannpeedfakhkaaDoor
open Go.RowKit
set_option maxRecDepth 100000 in
set_option maxHeartbeats 1000000 in
theorem writeLetter_any (B b : Nat) (bs : List Value) (x : Let) (w : World) (h : Lib.IsBuilder TB TU B b bs w) (hBw : B ≤ w.heap.size) (h1 : x.1.size = 1) (h2 : x.2.size ≤ 40) (hlen : bs.length + 100 ≤ 140737488355328) :
    Calls Tryd.prog 40 #[.pointer (some ⟨b, 0, none⟩), .agg #[.string x.1, .string x.2]] w fun e w' => e = .returned (.tuple #[]) ∧
      Lib.BuilderAt TB TU B b (.pointer (some ⟨b, 0, none⟩)) (bs ++ Lib.strCells x.1 ++ [.int .u8 (48 + (x.2.size : Int) / 10)] ++ [.int .u8 (48 + (x.2.size : Int) % 10)] ++ Lib.strCells x.2) w' ∧ Below B w w' ∧ Keeps b w w' := by
  obtain ⟨s, t⟩ := x
  simp only at h1 h2 ⊢
  have hA := is_alloc h (.cells #[.string s, .string t] 23)
  have hB := Blk.new w 23 #[.string s, .string t]
  have hb := (Below.refl B w).alloc hBw (.cells #[.string s, .string t] 23)
  have hsz : B ≤ (w.alloc (.cells #[.string s, .string t] 23)).heap.size := by simp; omega
  go_enter Tryd.func40, Tryd.ntmps40
  have hbne : w.heap.size ≠ b := by
    rcases h with h | h
    · have := h.lt; omega
    · have := h.lt; omega
  have hKA : Keeps b w (w.alloc (.cells #[.string s, .string t] 23)) := fun g t cs _ _ hb => hb.alloc _
  go_wp2_with fail
  refine (writeString_any B b bs s _ hA (by omega) hsz).mono ?_
  rintro e w1 ⟨rfl, hA1, hb1, hk1⟩
  have hB1 := hk1 _ _ _ hbne (by decide) hB
  have hb01 := hb.trans hb1
  have c1 : w1.cell? ⟨w.heap.size, 1, none⟩ = some (.string t) := hB1.cell 1
  have hs1 := hb01.size
  have hK1 : Keeps b w w1 := fun g t cs hg ht hb => hk1 g t cs hg ht (hKA g t cs hg ht hb)
  clear hA hB hb hsz hKA hb1 hk1 h
  have HA1 := Lib.hid hA1
  have HK1 := Lib.hid hK1
  clear hA1 hK1
  go_wp2_with fail
  refine (writeByte_any B b _ (48 + (t.size : Int) / 10) w1 (.inr HA1.out) (by simp [Lib.strCells_length]; omega) (by omega)).mono ?_
  rintro e w2 ⟨rfl, hA2, hb2, hk2⟩
  have hB2 := hk2 _ _ _ hbne (by decide) hB1
  have hb02 := hb01.trans hb2
  have c1 : w2.cell? ⟨w.heap.size, 1, none⟩ = some (.string t) := hB2.cell 1
  have hs2 := hb02.size
  have hK2 : Keeps b w w2 := fun g t cs hg ht hb => hk2 g t cs hg ht (HK1.out g t cs hg ht hb)
  have HA2 := Lib.hid hA2
  have HK2 := Lib.hid hK2
  clear hA2 hK2 hb2 hk2 hB1 hb01
  go_wp2_with fail
  refine (writeByte_any B b _ (48 + (t.size : Int) % 10) w2 (.inr HA2.out) (by simp [Lib.strCells_length]; omega) (by omega)).mono ?_
  rintro e w3 ⟨rfl, hA3, hb3, hk3⟩
  have hB3 := hk3 _ _ _ hbne (by decide) hB2
  have hb03 := hb02.trans hb3
  have c1 : w3.cell? ⟨w.heap.size, 1, none⟩ = some (.string t) := hB3.cell 1
  have hs3 := hb03.size
  have hK3 : Keeps b w w3 := fun g t cs hg ht hb => hk3 g t cs hg ht (HK2.out g t cs hg ht hb)
  have HA3 := Lib.hid hA3
  have HK3 := Lib.hid hK3
  clear hA3 hK3 hb3 hk3 hB2 hb02
  go_wp2_with fail
  refine (writeString_any B b _ t w3 (.inr HA3.out) (by simp [Lib.strCells_length]; omega) (by omega)).mono ?_
  rintro e w4 ⟨rfl, hA4, hb4, hk4⟩
  have hB4 := hk4 _ _ _ hbne (by decide) hB3
  have hb04 := hb03.trans hb4
  have c1 : w4.cell? ⟨w.heap.size, 1, none⟩ = some (.string t) := hB4.cell 1
  have hs4 := hb04.size
  have hK4 : Keeps b w w4 := fun g t cs hg ht hb => hk4 g t cs hg ht (HK3.out g t cs hg ht hb)
  have HA4 := Lib.hid hA4
  have HK4 := Lib.hid hK4
  clear hA4 hK4 hb4 hk4 hB3 hb03
  go_wp2
  go_end0
  exact ⟨rfl, HA4.out, hb04, HK4.out⟩
end Go.Proofs.YtannpeedfakhkaaDoor
