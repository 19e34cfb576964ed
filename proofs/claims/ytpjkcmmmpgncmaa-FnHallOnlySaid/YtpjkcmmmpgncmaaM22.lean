import Derived.Test.YtpjkcmmmpgncmaaRows
import Derived.Test.YtpjkcmmmpgncmaaM05
import Derived.Test.YtpjkcmmmpgncmaaM04
/- The laws' helpers on lists of letters: their size, their copies. -/
namespace Go.Proofs.Ytpjkcmmmpgncmaa
open Go.RowKit
theorem infoLet : (Try.prog.info? 94).map (fun i => (i.zero, i.size, i.bytes)) = some (some (.agg #[.string ⟨#[]⟩, .string ⟨#[]⟩]), 2, 32) := by kernel_rfl
end Go.Proofs.Ytpjkcmmmpgncmaa
/- The reference's l7New: nobody who talks, and nothing that stands. -/
namespace Go.Proofs.Ytpjkcmmmpgncmaa
open Go.RowKit
theorem infoTalk : (Try.prog.info? 81).map (fun i => (i.zero, i.size, i.bytes)) = some (some (.agg #[.bool false, .bool false, .int .i64 0, .slice none 0 0, .slice none 0 0, .bool false, .bool false, .string ⟨#[]⟩]), 8, 88) := by kernel_rfl
def goneT : Tk := ⟨false, false, 0, (none, 0, []), (none, 0, []), false, true, ⟨#[]⟩⟩
/-- a row of those who talk, one's own -/
def OwnT (w : World) (B : Nat) (v : Value) (l : List Tk) : Prop := w.ownsRow B 81 8 v l.length (l.flatMap encTk)
theorem ownT_app {w : World} {B : Nat} {v : Value} {L : List Tk} {x : Tk} (ho : w.ownsRow B 81 8 v (L.length + 1) (L.flatMap encTk ++ encTk x)) : OwnT w B v (L ++ [x]) := by
  unfold OwnT
  rw [List.length_append, List.flatMap_append]
  simpa using ho
theorem own_farS {W : World} {B k n g1 i : Nat} {e : TypeId} {v : Value} {xs : List Value} (h : W.ownsRow B e k v n xs) (hne : g1 < B) (u : Value) : (W.setCell ⟨g1, i, none⟩ u).ownsRow B e k v n xs := by
  refine ⟨h.1, ?_⟩
  rcases h.2 with h2 | ⟨g, cap, cur, hv, hg, hh, r⟩
  · exact .inl h2
  · exact .inr ⟨g, cap, cur, hv, hg, (heap_setCell_other W ⟨g1, i, none⟩ g u (by simp only; omega)).trans hh, r⟩
/-- how l7New leaves -/
def NewH (w : World) (e : Ending) (w' : World) : Prop := ∃ (gl : Nat) (AT : Option Addr) (cT : Nat), e = .returned (.agg #[.int .i64 0, .slice (some ⟨gl, 0, none⟩) 0 0, .slice AT 3 cT]) ∧ OwnT w' w.heap.size (.slice AT 3 cT) [goneT, goneT, goneT] ∧ Below w.heap.size w w'
set_option maxRecDepth 100000 in
set_option maxHeartbeats 4000000 in
theorem l7New_any (w : World) : Calls Try.prog 96 #[] w (NewH w) := by
  obtain ⟨i0, hi0, hz0, hz1, hz2⟩ := info_parts infoTalk
  have HI := Lib.hid (⟨hi0, hz0, hz1, hz2⟩ : _ ∧ _ ∧ _ ∧ _)
  clear hi0 hz0 hz1 hz2
  go_enter Try.func96, Try.ntmps96
  go_wp2
  go_loopw [2] (fun i wr => ∃ (k : Nat) (AT : Option Addr) (cT : Nat), k ≤ 3 ∧ i = .int .i64 k ∧ Hid (Blk wr (w.heap.size + 1 + 1) 35 #[.int .i64 0, .slice (some ⟨w.heap.size + 1, 0, none⟩) 0 0, .slice AT k cT]) ∧ Hid (Blk wr w.heap.size 35 #[.int .i64 0, .slice none 0 0, .slice none 0 0]) ∧ Hid (OwnT wr (w.heap.size + 1 + 1 + 1) (.slice AT k cT) (List.replicate k goneT)) ∧ Hid (Below w.heap.size w wr) ∧ w.heap.size + 1 + 1 + 1 ≤ wr.heap.size) (fun i _ => 3 - (intOf i).toNat)
  case atStart =>
    refine ⟨0, none, 0, by omega, rfl, ?_, ?_, ?_, ?_, by simp⟩
    · have h := Blk.new ((w.alloc (.cells #[.int .i64 0, .slice none 0 0, .slice none 0 0] 35)).alloc (.cells #[] 88)) 35 #[.int .i64 0, .slice (some ⟨w.heap.size + 1, 0, none⟩) 0 0, .slice none 0 0]
      rw [World.size_alloc, World.size_alloc] at h
      exact Lib.hid h
    · exact Lib.hid (((Blk.new w 35 #[.int .i64 0, .slice none 0 0, .slice none 0 0]).alloc _).alloc _)
    · exact Lib.hid ⟨by first | rfl | simp | decide, .inl ⟨rfl, rfl⟩⟩
    · exact Lib.hid ((((Below.refl w.heap.size w).alloc (Nat.le_refl _) _).alloc (by simp) _).alloc (by simp; omega) _)
  case round =>
    obtain ⟨k, AT, cT, hk, rfl, HB, HB0, HO, HBE, hwr⟩ := hrel
    have x0 := HB.out.cell 0
    have x1 := HB.out.cell 1
    have x2 := HB.out.cell 2
    simp only [List.getElem?_toArray, List.getElem?_cons_zero, List.getElem?_cons_succ] at x0 x1 x2
    have hlb := HB.out.lt
    by_cases hlt : k < 3
    · have hki : (k : Int) < 3 := by omega
      have hkd : decide ((k : Int) < 3) = true := decide_eq_true hki
      have hlen : (List.replicate k goneT).length = k := List.length_replicate
      have hownA := own_kept HO.out ((Below.refl wr.heap.size wr).alloc (Nat.le_refl _) (.cells #[.bool false, .bool false, .int .i64 0, .slice none 0 0, .slice none 0 0, .bool false, .bool true, .string ⟨#[]⟩] 81))
      rw [hlen] at hownA
      have hnewA := new_cells wr [.bool false, .bool false, .int .i64 0, .slice none 0 0, .slice none 0 0, .bool false, .bool true, .string ⟨#[]⟩] 81
      have hltA := hownA.lt
      go_wp2_with (first
        | (at_builtin; refine wpList_append_own _ rfl (.tmp 11) (.tmp 13) 33 rfl (w.heap.size + 1 + 1 + 1) 81 i0 _ 8 88 Try.underlying33 HI.out.1 HI.out.2.1 HI.out.2.2.1 HI.out.2.2.2 rfl (by decide) (.slice AT k cT) k ((List.replicate k goneT).flatMap encTk) rfl hownA ⟨wr.heap.size, 0, none⟩ 1 1 [.bool false, .bool false, .int .i64 0, .slice none 0 0, .slice none 0 0, .bool false, .bool true, .string ⟨#[]⟩] rfl rfl hnewA (by simp [Value.oneCell']) (by unfold maxLen; omega) (by omega) (by simp; omega) ?_; intro v8 w8 ho8 hg8 _; obtain ⟨M, hM, hMl, hoM⟩ : ∃ M : List Tk, M = List.replicate (k + 1) goneT ∧ M.length = k + 1 ∧ OwnT w8 (w.heap.size + 1 + 1 + 1) v8 M := ⟨_, rfl, List.length_replicate, by rw [List.replicate_succ']; exact ownT_app (x := goneT) (by rw [hlen]; exact ho8)⟩; obtain ⟨A8, c8, rfl, _, _, _⟩ := Sl.of_own encTk_len hoM; rw [hMl] at hoM; rw [hMl]; have HM := Lib.hid (hM ▸ hoM : OwnT w8 (w.heap.size + 1 + 1 + 1) (.slice A8 (k + 1) c8) (List.replicate (k + 1) goneT)); have HB8 := Lib.hid ((HB.out.alloc (.cells #[.bool false, .bool false, .int .i64 0, .slice none 0 0, .slice none 0 0, .bool false, .bool true, .string ⟨#[]⟩] 81)).grown hg8 (fun e => by have := (hltA _ e.symm).1; omega)); have HB08 := Lib.hid ((HB0.out.alloc (.cells #[.bool false, .bool false, .int .i64 0, .slice none 0 0, .slice none 0 0, .bool false, .bool true, .string ⟨#[]⟩] 81)).grown hg8 (fun e => by have := (hltA _ e.symm).1; omega)); have HE8 := Lib.hid (below_own (HBE.out.alloc (by omega) (.cells #[.bool false, .bool false, .int .i64 0, .slice none 0 0, .slice none 0 0, .bool false, .bool true, .string ⟨#[]⟩] 81)) hg8 (by simp; omega) (fun j hj => by have := (hltA j hj).1; omega)); have hw8 : w.heap.size + 1 + 1 + 1 ≤ w8.heap.size := Nat.le_trans hwr (Nat.le_trans (by simp) hg8.size); have x8 : w8.cell? ⟨w.heap.size + 1 + 1, 2, none⟩ = some (.slice AT k cT) := HB8.out.cell 2; have z8 := HB8.out.frozen 2; have hl8 := HB8.out.lt; clear ho8 hg8 hM hoM hownA hnewA hltA x0 x1 x2)
        | fail)
      go_roundw
      case rel => exact ⟨k + 1, A8, c8, by omega, by go_num, Lib.hid (HB8.out.set_ 2 _), Lib.hid (HB08.out.far (p := ⟨w.heap.size + 1 + 1, 2, none⟩) (by simp only; omega) _), Lib.hid (own_farS HM.out (by omega) _), Lib.hid (HE8.out.setCell (by simp only; omega) _), by simp only [World.size_setCell]; exact hw8⟩
      case measure => simp [intOf]; omega
    · obtain rfl : k = 3 := by omega
      have y0 := HB0.out.cell 0
      have y1 := HB0.out.cell 1
      have y2 := HB0.out.cell 2
      simp only [List.getElem?_toArray, List.getElem?_cons_zero, List.getElem?_cons_succ] at y0 y1 y2
      have z0 := fun j => HB0.out.frozen j
      have hl0 := HB0.out.lt
      have HOO := Lib.hid (Go.Joins.ownsRow_le (own_farS (g1 := w.heap.size) (i := 2) (own_farS (g1 := w.heap.size) (i := 1) (own_farS (g1 := w.heap.size) (i := 0) HO.out (by omega) (.int .i64 0)) (by omega) (.slice (some ⟨w.heap.size + 1, 0, none⟩) 0 0)) (by omega) (.slice AT 3 cT)) (show w.heap.size ≤ w.heap.size + 1 + 1 + 1 by omega))
      have HBB := Lib.hid (((HBE.out.setCell (p := ⟨w.heap.size, 0, none⟩) (Nat.le_refl _) (.int .i64 0)).setCell (p := ⟨w.heap.size, 1, none⟩) (Nat.le_refl _) (.slice (some ⟨w.heap.size + 1, 0, none⟩) 0 0)).setCell (p := ⟨w.heap.size, 2, none⟩) (Nat.le_refl _) (.slice AT 3 cT))
      go_wp2
      refine bodyPost_ret (v := .agg #[.int .i64 0, .slice (some ⟨w.heap.size + 1, 0, none⟩) 0 0, .slice AT 3 cT]) ?_ rfl ⟨_, AT, cT, rfl, HOO.out, HBB.out⟩
      simp [results, Try.results96, go_sem, y0, y1, y2]
end Go.Proofs.Ytpjkcmmmpgncmaa
