/- The reference's PastAt: what was done at a time, if the store is right and the time is one. -/
import Derived.Test.YtfmpohhaimgnfaaL8AtF
import Derived.Test.YtfmpohhaimgnfaaWritesAt
namespace Go.Proofs.Ytfmpohhaimgnfaa
open Go.RowKit
set_option maxRecDepth 100000 in
set_option maxHeartbeats 1000000 in
theorem specPastAt_any (A : Option Addr) (l : List Ver) (c : Nat) (now t : Int) (w : World) (hf : FitsV l) (hn : l.length ≤ 1048576) (hS : Sl encVer 4 w A l) :
    Calls Try.prog 54 #[.agg #[.int .i64 now, .slice A l.length c], .int .i64 t] w fun e w' => ∃ v, e = .returned v ∧ OwnW w' w.heap.size v (pastL now l t) ∧ Below w.heap.size w w' := by
  have hb0 := (Below.refl w.heap.size w).alloc (Nat.le_refl _) (.cells #[.int .i64 now, .slice A l.length c] 25)
  have hB0 := Blk.new w 25 #[.int .i64 now, .slice A l.length c]
  have HV := Lib.hid (specVersOk_any A l c now _ hf hn (hS.below hb0))
  have HS := Lib.hid (hS.below hb0)
  have HF := Lib.hid hf
  clear hS hf
  go_enter Try.func54, Try.ntmps54
  go_wp2_with fail
  refine HV.out.mono ?_
  rintro e w1 ⟨rfl, hb1⟩
  have hb := bthen hb0 hb1
  have hB1 := hB0.kept hb1
  have r0 : w1.cell? ⟨w.heap.size, 0, none⟩ = some (.int .i64 now) := hB1.cell 0
  have r1 : w1.cell? ⟨w.heap.size, 1, none⟩ = some (.slice A l.length c) := hB1.cell 1
  have HS1 := Lib.hid (HS.out.below hb1)
  clear HV HS hB0 hB1 hb0 hb1
  have hba := hb.alloc hb.size (.cells #[] 61)
  have HOE := Lib.hid (show OwnW (w1.alloc (.cells #[] 61)) w.heap.size (.slice (some ⟨w1.heap.size, 0, none⟩) 0 0) [] from
    own_of_blk (base := w.heap.size) (n := 0) (k := 3) (xs := []) (Blk.new w1 61 #[]) hb.size (Nat.zero_le _) rfl rfl)
  cases hv : versB now l
  · have HP := Lib.hid (show pastL now l t = [] from if_neg (fun h => by rw [hv] at h; cases h.1))
    clear hv
    go_wp2
    go_ret
    exact ⟨_, rfl, by rw [HP.out]; exact HOE.out, hba⟩
  have HVV := Lib.hid hv
  clear hv
  by_cases h1 : t < 1
  · have HP := Lib.hid (show pastL now l t = [] from if_neg (fun h => by omega))
    have d0 : decide (t < 1) = true := decide_eq_true h1
    clear h1
    go_wp2
    go_ret
    exact ⟨_, rfl, by rw [HP.out]; exact HOE.out, hba⟩
  have d0 : decide (t < 1) = false := decide_eq_false h1
  by_cases h2 : now < t
  · have HP := Lib.hid (show pastL now l t = [] from if_neg (fun h => by omega))
    have d1 : decide (now < t) = true := decide_eq_true h2
    clear h1 h2
    go_wp2
    go_ret
    exact ⟨_, rfl, by rw [HP.out]; exact HOE.out, hba⟩
  have d1 : decide (now < t) = false := decide_eq_false h2
  have HP := Lib.hid (show pastL now l t = l8L l t from if_pos ⟨HVV.out, by omega, by omega⟩)
  have HW := Lib.hid (l8AtF_any A l c now t w1 HF.out (by have := (versB_out HVV.out).1.2.2; omega) HS1.out)
  clear h1 h2
  go_wp2_with fail
  refine HW.out.mono ?_
  rintro e w2 ⟨v, rfl, ho, _, _, hb2⟩
  have HO := Lib.hid (OwnW.leB ho hb.size)
  have hbe := bthen hb hb2
  clear ho hb2 HW
  go_wp2
  go_ret
  exact ⟨v, rfl, by rw [HP.out]; exact HO.out, hbe⟩
end Go.Proofs.Ytfmpohhaimgnfaa
