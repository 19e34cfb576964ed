/- The program's LettersText: the walk. -/
import Derived.Test.YtannpeedfakhkaaDoorLtrS
namespace Go.Proofs.YtannpeedfakhkaaDoor
open Go.RowKit
theorem at_kept {w w' : World} {B b : Nat} {q : Value} {bs : List Value} (h : Lib.BuilderAt TB TU B b q bs w) (hb : Below w.heap.size w w') : Lib.BuilderAt TB TU B b q bs w' := by
  obtain ⟨hB, v, hh, ho, hn⟩ := h
  exact ⟨hB, v, Blk.kept (t := TB) hh hb, own_kept ho hb, hn⟩
theorem is_kept {w w' : World} {B b : Nat} {bs : List Value} (h : Lib.IsBuilder TB TU B b bs w) (hb : Below w.heap.size w w') : Lib.IsBuilder TB TU B b bs w' := h.imp (fun x => at_kept x hb) (fun x => at_kept x hb)
def txtS (l : List Let) : ByteArray := if okAll l = true then ⟨(txts l).toArray⟩ else bEmpty
set_option maxRecDepth 100000 in
set_option maxHeartbeats 1000000 in
theorem implTexts_any (A : Option Addr) (l : List Let) (c : Nat) (w : World) (hn : l.length ≤ 1048576) (hR : Sl encLet 2 w A l) (hf : ∀ x ∈ l, x.1.size ≤ maxLen ∧ x.2.size ≤ maxLen) :
    Calls Tryd.prog 22 #[.slice A l.length c] w fun e w' => e = .returned (.string (txtS l)) ∧ Below w.heap.size w w' := by
  have HF := Lib.hid hf
  clear hf
  go_enter Tryd.func22, Tryd.ntmps22
  go_wp2
  go_loopw [8] (fun i wr => ∃ k : Nat, k ≤ l.length ∧ i = .int .i64 k ∧ okAll (l.take k) = true ∧ (txts (l.take k)).length ≤ 43 * k ∧ Lib.IsBuilder TB TU w.heap.size w.heap.size (Lib.byteCells (txts (l.take k))) wr ∧ Below w.heap.size w wr) (fun i _ => l.length - (intOf i).toNat)
  case atStart =>
    refine ⟨0, by omega, rfl, rfl, by simp [txts], .inl ⟨Nat.le_refl _, .slice none 0 0, Blk.new w TB #[.pointer none, .slice none 0 0], World.ownsRow_nil _ _ _ _, by simp [Value.ownBlock]⟩, (Below.refl _ _).alloc (Nat.le_refl _) _⟩
  case round =>
    obtain ⟨k, hk, rfl, hok, hlen, hI, hb⟩ := hrel
    have HOK := Lib.hid hok
    have HI := Lib.hid hI
    clear hok hI
    have hsw := hb.size
    by_cases hlt : k < l.length
    · obtain ⟨b, o, rfl, hbl, c0, c1⟩ := Sl.at2 (hR.below hb) hlt
      have hx := HF.out _ (List.getElem_mem hlt)
      have HS1 := Lib.hid (txts_step hlt)
      have HS2 := Lib.hid (okAll_step hlt)
      have HNO := Lib.hid (okAll_no hlt)
      generalize l[k] = x at *
      clear hR
      go_wp2_with fail
      refine (implOk_any x _ hx.1 hx.2).mono ?_
      rintro e w1 ⟨rfl, hb1⟩
      have hI1 := is_kept (is_alloc HI.out _) hb1
      have hB1 := (Blk.new wr 23 #[.string x.1, .string x.2]).kept hb1
      have d0 : w1.cell? ⟨wr.heap.size, 0, none⟩ = some (.string x.1) := hB1.cell 0
      have d1 : w1.cell? ⟨wr.heap.size, 1, none⟩ = some (.string x.2) := hB1.cell 1
      have hb01 := (hb.alloc hsw (.cells #[.string x.1, .string x.2] 23)).trans (hb1.mono (by simp; omega))
      have hs1 := hb01.size
      by_cases hL : letB x = true
      · obtain ⟨z1, z2⟩ := letB_sz hL
        have hrs := lrow_size hL
        have HC := Lib.hid (lrow_cells z2)
        have HI1 := Lib.hid hI1
        have hok2 : okAll (l.take (k + 1)) = true := by rw [HS2.out, HOK.out, hL]; rfl
        have HOK2 := Lib.hid hok2
        rw [hL]
        clear hL hok2 hI1 hB1 hb1 c0 c1
        go_wp2_with fail
        refine (writeLetter_any w.heap.size w.heap.size _ x w1 HI1.out hs1 z1 z2 (by rw [Lib.byteCells_length]; omega)).mono ?_
        rintro e w2 ⟨rfl, hA2, hb2, _⟩
        have hb02 := hb01.trans hb2
        have hlen2 : (txts (l.take (k + 1))).length ≤ 43 * (k + 1) := by rw [HS1.out, List.length_append]; omega
        have hI2 : Lib.IsBuilder TB TU w.heap.size w.heap.size (Lib.byteCells (txts (l.take (k + 1)))) w2 := by
          rw [HS1.out, Lib.byteCells_append, ← HC.out]
          exact .inr (by simpa using hA2)
        have HI2 := Lib.hid hI2
        clear hA2 hI2 hb2
        go_wp2
        go_roundw
        case rel => exact ⟨k + 1, by omega, by go_num, HOK2.out, hlen2, HI2.out, hb02⟩
        case measure => simp [intOf]; omega
      · have hL' : letB x = false := by simpa using hL
        have HE := Lib.hid (show txtS l = bEmpty by unfold txtS; rw [if_neg (by rw [HNO.out hL']; simp)])
        rw [hL']
        clear hL hL' hI1 hB1 hb1 c0 c1
        go_wp2
        go_ret
        exact ⟨ret_str HE.out.symm, hb01⟩
    · obtain rfl : k = l.length := by omega
      have hI := HI.out
      have hok := HOK.out
      rw [List.take_length] at hI hok
      have HE := Lib.hid (show txtS l = ⟨(txts l).toArray⟩ by unfold txtS; rw [if_pos hok])
      clear hok
      go_wp2_with fail
      refine (Tryd.Builder_String_any w.heap.size w.heap.size (txts l) _ hI hsw).mono ?_
      rintro e w1 ⟨rfl, hb1⟩
      have hb2 := hb.trans hb1
      go_wp2
      go_ret
      exact ⟨ret_str HE.out.symm, hb2⟩
end Go.Proofs.YtannpeedfakhkaaDoor
