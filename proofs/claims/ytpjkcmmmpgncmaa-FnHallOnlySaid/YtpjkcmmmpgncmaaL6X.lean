import Derived.Test.YtpjkcmmmpgncmaaL6A
/- The reference's l6Fatal: one who is gone behind what is no letter, and what they are told (bounds). -/
namespace Go.Proofs.Ytpjkcmmmpgncmaa
open Go.RowKit
/-- how l6Fatal leaves -/
def FatalP (w : World) (e : Ending) (w' : World) : Prop := ∃ (A4 : Option Addr) (L : List Let) (c4 : Nat), e = .returned (.tuple #[.agg #[.bool false, .bool false, .int .i64 0, .slice none 0 0, .slice none 0 0, .bool false, .bool true, .string ⟨#[]⟩], .slice A4 L.length c4]) ∧ LK w' A4 L ∧ Below w.heap.size w w'
set_option maxRecDepth 100000 in
set_option maxHeartbeats 8000000 in
theorem l6Fatal_any (w : World) : Calls Try.prog 166 #[] w (FatalP w) := by
  have hbE := allocAll_below w [(81, #[.bool false, .bool false, .int .i64 0, .slice none 0 0, .slice none 0 0, .bool false, .bool false, .string ⟨#[]⟩])]
  have H : Hid (SP w [(w.heap.size, 81, #[.bool false, .bool false, .int .i64 0, .slice none 0 0, .slice none 0 0, .bool false, .bool false, .string ⟨#[]⟩])] [] ((allocAll w [(81, #[.bool false, .bool false, .int .i64 0, .slice none 0 0, .slice none 0 0, .bool false, .bool false, .string ⟨#[]⟩])]))) := Lib.hid (SP.start w [(81, #[.bool false, .bool false, .int .i64 0, .slice none 0 0, .slice none 0 0, .bool false, .bool false, .string ⟨#[]⟩])])
  clear hbE
  go_enter Try.func166, Try.ntmps166
  go_wp2_with fail
  change Calls _ _ _ (allocAll w [(81, #[.bool false, .bool false, .int .i64 0, .slice none 0 0, .slice none 0 0, .bool false, .bool false, .string ⟨#[]⟩])]) _
  generalize (allocAll w [(81, #[.bool false, .bool false, .int .i64 0, .slice none 0 0, .slice none 0 0, .bool false, .bool false, .string ⟨#[]⟩])]) = w0 at *
  refine (l6Leave_any _).mono ?_
  rintro e w1 ⟨rfl, hb1⟩
  replace H := Lib.hid (H.out.kept hb1)
  clear hb1
  go_upto_region 2 with fail
  have hg0 : w.heap.size < w1.heap.size := (H.out.blk 0 rfl).lt
  replace H : Hid (SP w [(w.heap.size, 81, #[.bool false, .bool false, .int .i64 0, .slice none 0 0, .slice none 0 0, .bool false, .bool false, .string ⟨#[]⟩]), (w1.heap.size, 81, #[.bool false, .bool false, .int .i64 0, .slice none 0 0, .slice none 0 0, .bool false, .bool true, .string ⟨#[]⟩]), (w1.heap.size + 1, 94, #[.string ⟨#[66]⟩, .string ⟨#[]⟩])] [] (((w1.alloc (.cells #[.bool false, .bool false, .int .i64 0, .slice none 0 0, .slice none 0 0, .bool false, .bool true, .string ⟨#[]⟩] 81)).alloc (.cells #[.string ⟨#[66]⟩, .string ⟨#[]⟩] 94)))) := Lib.hid (H.out.boxes [(81, #[.bool false, .bool false, .int .i64 0, .slice none 0 0, .slice none 0 0, .bool false, .bool true, .string ⟨#[]⟩]), (94, #[.string ⟨#[66]⟩, .string ⟨#[]⟩])])
  generalize (w1.alloc (.cells #[.bool false, .bool false, .int .i64 0, .slice none 0 0, .slice none 0 0, .bool false, .bool true, .string ⟨#[]⟩] 81)).alloc (.cells #[.string ⟨#[66]⟩, .string ⟨#[]⟩] 94) = w2 at *
  generalize w1.heap.size = g5 at *
  have H : Hid (SP w [(w.heap.size, 81, #[.bool false, .bool false, .int .i64 0, .slice none 0 0, .slice none 0 0, .bool false, .bool false, .string ⟨#[]⟩]), (g5, 81, #[.bool false, .bool false, .int .i64 0, .slice none 0 0, .slice none 0 0, .bool false, .bool true, .string ⟨#[]⟩]), (g5 + 1, 94, #[.string ⟨#[66]⟩, .string ⟨#[]⟩])] [] w2) := Lib.hid H.out
  have hB1_0 : ∀ W : World, Blk W (g5) 81 #[.bool false, .bool false, .int .i64 0, .slice none 0 0, .slice none 0 0, .bool false, .bool true, .string ⟨#[]⟩] → W.cell? ⟨g5, 0, none⟩ = some (.bool false) := fun W h => h.cell 0
  have hB1_1 : ∀ W : World, Blk W (g5) 81 #[.bool false, .bool false, .int .i64 0, .slice none 0 0, .slice none 0 0, .bool false, .bool true, .string ⟨#[]⟩] → W.cell? ⟨g5, 1, none⟩ = some (.bool false) := fun W h => h.cell 1
  have hB1_2 : ∀ W : World, Blk W (g5) 81 #[.bool false, .bool false, .int .i64 0, .slice none 0 0, .slice none 0 0, .bool false, .bool true, .string ⟨#[]⟩] → W.cell? ⟨g5, 2, none⟩ = some (.int .i64 0) := fun W h => h.cell 2
  have hB1_3 : ∀ W : World, Blk W (g5) 81 #[.bool false, .bool false, .int .i64 0, .slice none 0 0, .slice none 0 0, .bool false, .bool true, .string ⟨#[]⟩] → W.cell? ⟨g5, 3, none⟩ = some (.slice none 0 0) := fun W h => h.cell 3
  have hB1_4 : ∀ W : World, Blk W (g5) 81 #[.bool false, .bool false, .int .i64 0, .slice none 0 0, .slice none 0 0, .bool false, .bool true, .string ⟨#[]⟩] → W.cell? ⟨g5, 4, none⟩ = some (.slice none 0 0) := fun W h => h.cell 4
  have hB1_5 : ∀ W : World, Blk W (g5) 81 #[.bool false, .bool false, .int .i64 0, .slice none 0 0, .slice none 0 0, .bool false, .bool true, .string ⟨#[]⟩] → W.cell? ⟨g5, 5, none⟩ = some (.bool false) := fun W h => h.cell 5
  have hB1_6 : ∀ W : World, Blk W (g5) 81 #[.bool false, .bool false, .int .i64 0, .slice none 0 0, .slice none 0 0, .bool false, .bool true, .string ⟨#[]⟩] → W.cell? ⟨g5, 6, none⟩ = some (.bool true) := fun W h => h.cell 6
  have hB1_7 : ∀ W : World, Blk W (g5) 81 #[.bool false, .bool false, .int .i64 0, .slice none 0 0, .slice none 0 0, .bool false, .bool true, .string ⟨#[]⟩] → W.cell? ⟨g5, 7, none⟩ = some (.string ⟨#[]⟩) := fun W h => h.cell 7
  have hB2_0 : ∀ W : World, Blk W (g5 + 1) 94 #[.string ⟨#[66]⟩, .string ⟨#[]⟩] → W.cell? ⟨g5 + 1, 0, none⟩ = some (.string ⟨#[66]⟩) := fun W h => h.cell 0
  have hB2_1 : ∀ W : World, Blk W (g5 + 1) 94 #[.string ⟨#[66]⟩, .string ⟨#[]⟩] → W.cell? ⟨g5 + 1, 1, none⟩ = some (.string ⟨#[]⟩) := fun W h => h.cell 1
  have hb1 : Blk w2 (g5) 81 #[.bool false, .bool false, .int .i64 0, .slice none 0 0, .slice none 0 0, .bool false, .bool true, .string ⟨#[]⟩] := H.out.blk 1 rfl
  have hb2 : Blk w2 (g5 + 1) 94 #[.string ⟨#[66]⟩, .string ⟨#[]⟩] := H.out.blk 2 rfl
  have HCS := Lib.hid (code_size 1 (by decide))
  go_wp2_with fail
  replace H := Lib.hid (H.out.kept (kDB w2))
  go_region_held3 (fun W => Blk W (g5) 81 #[.bool false, .bool false, .int .i64 0, .slice none 0 0, .slice none 0 0, .bool false, .bool true, .string ⟨#[]⟩] ∧ Blk W (g5 + 1) 94 #[.string ⟨#[66]⟩, .string ⟨#[]⟩])
    ((refine ⟨?_, ?_⟩ <;> (repeat (first | (with_reducible assumption) | (with_reducible refine Blk.drew ?_) | (with_reducible refine Blk.alloc ?_ _) | (with_reducible refine Blk.far ?_ (by simp <;> omega) _)))))
    (first
      | (go_at_call 188
         refine (code_any 1 _ (by decide)).mono ?_
         rintro e wz ⟨rfl, hbz⟩
         generalize codeN 1 = sc at *
         replace H := Lib.hid (H.out.kept hbz)
         have hc1 : Blk wz (g5) 81 #[.bool false, .bool false, .int .i64 0, .slice none 0 0, .slice none 0 0, .bool false, .bool true, .string ⟨#[]⟩] := H.out.blk 1 rfl
         have hc2 : Blk wz (g5 + 1) 94 #[.string ⟨#[66]⟩, .string ⟨#[]⟩] := H.out.blk 2 rfl
         have hkk : wz.cell? ⟨w.heap.size, 0, none⟩ = some (.bool false) ∧ wz.cell? ⟨w.heap.size, 1, none⟩ = some (.bool false) ∧ wz.cell? ⟨w.heap.size, 2, none⟩ = some (.int .i64 0) ∧ wz.cell? ⟨w.heap.size, 3, none⟩ = some (.slice none 0 0) ∧ wz.cell? ⟨w.heap.size, 4, none⟩ = some (.slice none 0 0) ∧ wz.cell? ⟨w.heap.size, 5, none⟩ = some (.bool false) ∧ wz.cell? ⟨w.heap.size, 6, none⟩ = some (.bool false) ∧ wz.cell? ⟨w.heap.size, 7, none⟩ = some (.string ⟨#[]⟩) := ⟨(H.out.blk 0 rfl).cell 0, (H.out.blk 0 rfl).cell 1, (H.out.blk 0 rfl).cell 2, (H.out.blk 0 rfl).cell 3, (H.out.blk 0 rfl).cell 4, (H.out.blk 0 rfl).cell 5, (H.out.blk 0 rfl).cell 6, (H.out.blk 0 rfl).cell 7⟩
         have hfz := fun j => (H.out.blk 0 rfl).frozen j
         have hl0 := (H.out.blk 0 rfl).lt
         clear hbz)
      | fail)
  all_goals
    have hN1 := LK.two ((((((((wz.setCell ⟨w.heap.size, 0, none⟩ (.bool false)).setCell ⟨w.heap.size, 1, none⟩ (.bool false)).setCell ⟨w.heap.size, 2, none⟩ (.int .i64 0)).setCell ⟨w.heap.size, 3, none⟩ (.slice none 0 0)).setCell ⟨w.heap.size, 4, none⟩ (.slice none 0 0)).setCell ⟨w.heap.size, 5, none⟩ (.bool false)).setCell ⟨w.heap.size, 6, none⟩ (.bool true)).setCell ⟨w.heap.size, 7, none⟩ (.string ⟨#[]⟩)) (⟨#[69]⟩, sc) (⟨#[66]⟩, ⟨#[]⟩) ⟨sE, HCS.out⟩ ⟨sB, Nat.zero_le _⟩ wz.heap.size (by simp only [World.size_setCell])
    have hlk := kFF ((((((((wz.setCell ⟨w.heap.size, 0, none⟩ (.bool false)).setCell ⟨w.heap.size, 1, none⟩ (.bool false)).setCell ⟨w.heap.size, 2, none⟩ (.int .i64 0)).setCell ⟨w.heap.size, 3, none⟩ (.slice none 0 0)).setCell ⟨w.heap.size, 4, none⟩ (.slice none 0 0)).setCell ⟨w.heap.size, 5, none⟩ (.bool false)).setCell ⟨w.heap.size, 6, none⟩ (.bool true)).setCell ⟨w.heap.size, 7, none⟩ (.string ⟨#[]⟩)) (.cells #[.string ⟨#[69]⟩, .string sc, .string ⟨#[66]⟩, .string ⟨#[]⟩] 94)
    have HZ := Lib.hid (SP.add (SP.kept (SP.put8 H.out 0 (.bool false) (.bool false) (.int .i64 0) (.slice none 0 0) (.slice none 0 0) (.bool false) (.bool true) (.string ⟨#[]⟩) rfl (by decide)) hlk) (fun W => LK W (some ⟨wz.heap.size, 0, none⟩) [((⟨#[69]⟩, sc) : Let), (⟨#[66]⟩, ⟨#[]⟩)]) LK.c hN1)
    clear hlk hN1 hB1_0 hB1_1 hB1_2 hB1_3 hB1_4 hB1_5 hB1_6 hB1_7 hB2_0 hB2_1
    go_wp2
    refine bodyPost_ret (v := .tuple #[.agg #[.bool false, .bool false, .int .i64 0, .slice none 0 0, .slice none 0 0, .bool false, .bool true, .string ⟨#[]⟩], .slice (some ⟨wz.heap.size, 0, none⟩) 2 2]) ?_ rfl ⟨some ⟨wz.heap.size, 0, none⟩, [(⟨#[69]⟩, sc), (⟨#[66]⟩, ⟨#[]⟩)], 2, rfl, HZ.out.get 0 rfl, HZ.out.below⟩
    simp [results, Try.results166, go_sem, hl0, hkk]
end Go.Proofs.Ytpjkcmmmpgncmaa
