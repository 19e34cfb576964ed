import Derived.BigQuiet
import Derived.Test.YtfmhhckkpenldaaGreatDoorAskT
import Derived.Test.YtfmhhckkpenldaaGreatDoorVerS
/- The reference's AskOk: what it lets pass has short keys, a kind and a number within bounds. -/
namespace Go.Proofs.YtfmhhckkpenldaaGreatDoor
open Go.RowKit
/-- what is known of something that one may ask -/
def AskP (x : AskV) : Prop := 1 ≤ x.1 ∧ x.1 ≤ 9 ∧ x.2.1.size ≤ 2 ∧ x.2.2.1.size ≤ 2 ∧ -999 ≤ x.2.2.2 ∧ x.2.2.2 ≤ 999
/-- how AskOk leaves -/
def AskPost (x : AskV) (w : World) (e : Ending) (w' : World) : Prop := ∃ v : Bool, e = .returned (.bool v) ∧ (v = true → AskP x) ∧ Below w.heap.size w w'
theorem AskPost.no {x : AskV} {w w' : World} (h : Below w.heap.size w w') : AskPost x w (.returned (.bool false)) w' := ⟨_, rfl, fun h => by simp at h, h⟩
theorem AskPost.yes {x : AskV} {w w' : World} (hp : AskP x) (h : Below w.heap.size w w') : AskPost x w (.returned (.bool true)) w' := ⟨_, rfl, fun _ => hp, h⟩
theorem nil_size {a : ByteArray} (h : a.toList = []) : a.size ≤ 2 := by
  have h1 : a.data.toList = [] := by rw [← ByteArray.toList_eq]; exact h
  have h2 : a.data.toList.length = 0 := by rw [h1]; rfl
  have h3 : a.data.toList.length = a.size := by rw [Array.length_toList]; rfl
  omega
theorem numB_in {n : Int} (h : numB n = true) : -999 ≤ n ∧ n ≤ 999 := by unfold numB at h; simpa using h
set_option maxRecDepth 100000 in
set_option maxHeartbeats 4000000 in
theorem specAskOk_any (x : AskV) (w : World) (ha : x.2.1.size ≤ maxLen) (hb : x.2.2.1.size ≤ maxLen) :
    Calls Tryz.prog 71 #[.agg #[.int .i64 x.1, .string x.2.1, .string x.2.2.1, .int .i64 x.2.2.2]] w fun e w' => AskPost x w e w' := by
  obtain ⟨k, a, b, n⟩ := x
  simp only at ha hb ⊢
  have hb0 := (Below.refl w.heap.size w).alloc (Nat.le_refl _) (.cells #[.int .i64 k, .string a, .string b, .int .i64 n] 90)
  by_cases hk1 : k < 1
  · have d1 : decide (k < 1) = true := decide_eq_true hk1
    go_enter Tryz.func71, Tryz.ntmps71
    go_wp2
    go_ret
    exact AskPost.no hb0
  by_cases hk9 : 9 < k
  · have d1 : decide (k < 1) = false := decide_eq_false hk1
    have d2 : decide (9 < k) = true := decide_eq_true hk9
    go_enter Tryz.func71, Tryz.ntmps71
    go_wp2
    go_ret
    exact AskPost.no hb0
  have HK := Lib.hid (show 1 ≤ k ∧ k ≤ 9 from ⟨by omega, by omega⟩)
  have d1 : decide (k < 1) = false := decide_eq_false hk1
  have d2 : decide (9 < k) = false := decide_eq_false hk9
  have HC := Lib.hid (l4Shape_any k (w.alloc (.cells #[.int .i64 k, .string a, .string b, .int .i64 n] 90)))
  have hB := Blk.new w 90 #[.int .i64 k, .string a, .string b, .int .i64 n]
  generalize shapeK k = s at *
  obtain ⟨s1, s2, s3⟩ := s
  have HKA := Lib.hid (fun W => specKeyOk_any a W ha)
  have HKB := Lib.hid (fun W => specKeyOk_any b W hb)
  have HKN := Lib.hid (fun W => specNumOk_any n W)
  have HSA := Lib.hid (fun h : keyB a = true => keyB_size h)
  have HSB := Lib.hid (fun h : keyB b = true => keyB_size h)
  have HSN := Lib.hid (fun h : numB n = true => numB_in h)
  generalize keyB a = ka at *
  generalize keyB b = kb at *
  generalize numB n = nb at *
  clear hk1 hk9 ha hb
  go_enter Tryz.func71, Tryz.ntmps71
  go_wp2_with fail
  generalize w.alloc (.cells #[.int .i64 k, .string a, .string b, .int .i64 n] 90) = w0 at *
  refine HC.out.mono ?_
  rintro e w1 ⟨rfl, hb1⟩
  have hB1 := hB.kept hb1
  have x1 : w1.cell? ⟨w.heap.size, 1, none⟩ = some (.string a) := hB1.cell 1
  have x2 : w1.cell? ⟨w.heap.size, 2, none⟩ = some (.string b) := hB1.cell 2
  have x3 : w1.cell? ⟨w.heap.size, 3, none⟩ = some (.int .i64 n) := hB1.cell 3
  have HBE := Lib.hid (bthen hb0 hb1)
  clear HC hB hB1 hb0 hb1
  by_cases ea : a.toList = []
  · have da : (a.toList == []) = true := beq_iff_eq.2 ea
    cases s1
    case true =>
      go_wp2
      go_ret
      exact AskPost.no HBE.out
    have HA := Lib.hid (nil_size ea)
    by_cases eb : b.toList = []
    · have db : (b.toList == []) = true := beq_iff_eq.2 eb
      cases s2
      case true =>
        go_wp2
        go_ret
        exact AskPost.no HBE.out
      have HB := Lib.hid (nil_size eb)
      cases s3
      case true =>
        go_wp2_with fail
        refine (HKN.out _).mono ?_
        rintro e W ⟨rfl, rfl⟩
        cases nb
        · go_wp2
          all_goals
            go_ret
            exact AskPost.no HBE.out
        · have HN := Lib.hid (HSN.out rfl)
          go_wp2
          go_ret
          exact AskPost.yes ⟨HK.out.1, HK.out.2, HA.out, HB.out, HN.out.1, HN.out.2⟩ HBE.out
      by_cases e0 : n = 0
      · subst e0
        go_wp2
        go_ret
        exact AskPost.yes ⟨HK.out.1, HK.out.2, HA.out, HB.out, by simp, by simp⟩ HBE.out
      · have dn : (n == 0) = false := by simpa using e0
        go_wp2
        go_ret
        exact AskPost.no HBE.out
    · have db : (b.toList == []) = false := beq_eq_false_iff_ne.2 eb
      cases s2
      case false =>
        go_wp2
        go_ret
        exact AskPost.no HBE.out
      go_wp2_with fail
      refine (HKB.out _).mono ?_
      rintro e W ⟨rfl, rfl⟩
      cases kb
      case false =>
        go_wp2
        go_ret
        exact AskPost.no HBE.out
      have HB := Lib.hid (HSB.out rfl)
      cases s3
      case true =>
        go_wp2_with fail
        refine (HKN.out _).mono ?_
        rintro e W ⟨rfl, rfl⟩
        cases nb
        · go_wp2
          all_goals
            go_ret
            exact AskPost.no HBE.out
        · have HN := Lib.hid (HSN.out rfl)
          go_wp2
          go_ret
          exact AskPost.yes ⟨HK.out.1, HK.out.2, HA.out, HB.out, HN.out.1, HN.out.2⟩ HBE.out
      by_cases e0 : n = 0
      · subst e0
        go_wp2
        go_ret
        exact AskPost.yes ⟨HK.out.1, HK.out.2, HA.out, HB.out, by simp, by simp⟩ HBE.out
      · have dn : (n == 0) = false := by simpa using e0
        go_wp2
        go_ret
        exact AskPost.no HBE.out
  · have da : (a.toList == []) = false := beq_eq_false_iff_ne.2 ea
    cases s1
    case false =>
      go_wp2
      go_ret
      exact AskPost.no HBE.out
    go_wp2_with fail
    refine (HKA.out w1).mono ?_
    rintro e W ⟨rfl, rfl⟩
    cases ka
    case false =>
      go_wp2
      go_ret
      exact AskPost.no HBE.out
    have HA := Lib.hid (HSA.out rfl)
    by_cases eb : b.toList = []
    · have db : (b.toList == []) = true := beq_iff_eq.2 eb
      cases s2
      case true =>
        go_wp2
        go_ret
        exact AskPost.no HBE.out
      have HB := Lib.hid (nil_size eb)
      cases s3
      case true =>
        go_wp2_with fail
        refine (HKN.out _).mono ?_
        rintro e W ⟨rfl, rfl⟩
        cases nb
        · go_wp2
          all_goals
            go_ret
            exact AskPost.no HBE.out
        · have HN := Lib.hid (HSN.out rfl)
          go_wp2
          go_ret
          exact AskPost.yes ⟨HK.out.1, HK.out.2, HA.out, HB.out, HN.out.1, HN.out.2⟩ HBE.out
      by_cases e0 : n = 0
      · subst e0
        go_wp2
        go_ret
        exact AskPost.yes ⟨HK.out.1, HK.out.2, HA.out, HB.out, by simp, by simp⟩ HBE.out
      · have dn : (n == 0) = false := by simpa using e0
        go_wp2
        go_ret
        exact AskPost.no HBE.out
    · have db : (b.toList == []) = false := beq_eq_false_iff_ne.2 eb
      cases s2
      case false =>
        go_wp2
        go_ret
        exact AskPost.no HBE.out
      go_wp2_with fail
      refine (HKB.out _).mono ?_
      rintro e W ⟨rfl, rfl⟩
      cases kb
      case false =>
        go_wp2
        go_ret
        exact AskPost.no HBE.out
      have HB := Lib.hid (HSB.out rfl)
      cases s3
      case true =>
        go_wp2_with fail
        refine (HKN.out _).mono ?_
        rintro e W ⟨rfl, rfl⟩
        cases nb
        · go_wp2
          all_goals
            go_ret
            exact AskPost.no HBE.out
        · have HN := Lib.hid (HSN.out rfl)
          go_wp2
          go_ret
          exact AskPost.yes ⟨HK.out.1, HK.out.2, HA.out, HB.out, HN.out.1, HN.out.2⟩ HBE.out
      by_cases e0 : n = 0
      · subst e0
        go_wp2
        go_ret
        exact AskPost.yes ⟨HK.out.1, HK.out.2, HA.out, HB.out, by simp, by simp⟩ HBE.out
      · have dn : (n == 0) = false := by simpa using e0
        go_wp2
        go_ret
        exact AskPost.no HBE.out
end Go.Proofs.YtfmhhckkpenldaaGreatDoor
