/- Two stores, or two rows of rows, that read as the same lists are told to be one. -/
import Derived.Test.YtfmpohhaimgnfaaImplAt
import Derived.Test.YtfmpohhaimgnfaaFoldP
namespace Go.Proofs.Ytfmpohhaimgnfaa
open Go.RowKit
set_option maxRecDepth 100000 in
set_option maxHeartbeats 1000000 in
theorem equal_same (A A2 : Option Addr) (l : List Ver) (c c2 : Nat) (w : World) (hn : l.length ≤ 1048576) (hS : Sl encVer 4 w A l) (hS2 : Sl encVer 4 w A2 l) :
    Calls Try.prog 72 #[.slice A l.length c, .slice A2 l.length c2] w fun e w' => e = .returned (.bool true) ∧ Below w.heap.size w w' := by
  go_enter Try.func72, Try.ntmps72
  go_wp2
  go_loopw [13] (fun i wr => ∃ k : Nat, k ≤ l.length ∧ i = .int .i64 k ∧ Below w.heap.size w wr) (fun i _ => l.length - (intOf i).toNat)
  case atStart => exact ⟨0, by omega, rfl, Below.refl _ _⟩
  case round =>
    obtain ⟨k, hk, rfl, hb⟩ := hrel
    by_cases hlt : k < l.length
    · obtain ⟨b, o, rfl, hbl, c0, c1, c2', c3⟩ := Sl.at4 (hS.below hb) hlt
      obtain ⟨b2, o2, rfl, hbl2, d0, d1, d2, d3⟩ := Sl.at4 (hS2.below hb) hlt
      generalize l[k] = x at *
      obtain ⟨xk, xn, xf, xt⟩ := x
      simp only at c0 c1 c2' c3 d0 d1 d2 d3
      have hki : (k : Int) < (l.length : Int) := by omega
      clear hS hS2
      go_wp2_with fail
      refine wp_region_below (by kernel_rfl) (by kernel_rfl) ?_
      iterate 9 (refine wpQuiet_step (fun K hK => ?_); go_simp; first | (apply Exists.intro; refine ⟨fun W hW => ?_, hK _ ?_⟩; (first | rfl | (have e0 := (hW.cell (p := ⟨b, o + k * 4, none⟩) hbl).trans c0; have e1 := (hW.cell (p := ⟨b, o + k * 4 + 1, none⟩) hbl).trans c1; have e2 := (hW.cell (p := ⟨b, o + k * 4 + 2, none⟩) hbl).trans c2'; have e3 := (hW.cell (p := ⟨b, o + k * 4 + 3, none⟩) hbl).trans c3; have f0 := (hW.cell (p := ⟨b2, o2 + k * 4, none⟩) hbl2).trans d0; have f1 := (hW.cell (p := ⟨b2, o2 + k * 4 + 1, none⟩) hbl2).trans d1; have f2 := (hW.cell (p := ⟨b2, o2 + k * 4 + 2, none⟩) hbl2).trans d2; have f3 := (hW.cell (p := ⟨b2, o2 + k * 4 + 3, none⟩) hbl2).trans d3; go_simp; rfl)); clear hK K) | (refine hK _ ?_; clear hK K))
      refine wpQuiet_nil ?_
      intro W hW
      have hb' := bthen hb hW
      go_wp2
      go_roundw
      case rel => exact ⟨k + 1, by omega, by go_num, hb'⟩
      case measure => simp [intOf]; omega
    · obtain rfl : k = l.length := by omega
      go_wp2
      go_ret
      exact ⟨rfl, hb⟩
set_option maxRecDepth 100000 in
set_option maxHeartbeats 1000000 in
theorem implSame_same (A A2 : Option Addr) (l : List Ver) (c c2 : Nat) (now : Int) (w : World) (hn : l.length ≤ 1048576) (hS : Sl encVer 4 w A l) (hS2 : Sl encVer 4 w A2 l) :
    Calls Try.prog 21 #[.agg #[.int .i64 now, .slice A l.length c], .agg #[.int .i64 now, .slice A2 l.length c2]] w fun e w' => e = .returned (.bool true) ∧ Below w.heap.size w w' := by
  have hb0 := ((Below.refl w.heap.size w).alloc (Nat.le_refl _) (.cells #[.int .i64 now, .slice A l.length c] 25)).alloc (by simp) (.cells #[.int .i64 now, .slice A2 l.length c2] 25)
  have HE := Lib.hid (equal_same A A2 l c c2 _ hn (hS.below hb0) (hS2.below hb0))
  clear hS hS2
  go_enter Try.func21, Try.ntmps21
  go_wp2_with fail
  refine HE.out.mono ?_
  rintro e w1 ⟨rfl, hb1⟩
  have hb := bthen hb0 hb1
  go_wp2
  go_ret
  exact ⟨rfl, hb⟩
set_option maxRecDepth 100000 in
set_option maxHeartbeats 1000000 in
theorem wpRows_same (A A2 : Option Addr) (l : List Row) (c c2 : Nat) (w : World) (hn : l.length ≤ 1048576) (hS : Sl encRow 2 w A l) (hS2 : Sl encRow 2 w A2 l) :
    Calls Try.prog 18 #[.slice A l.length c, .slice A2 l.length c2] w fun e w' => e = .returned (.bool true) ∧ Below w.heap.size w w' := by
  go_enter Try.func18, Try.ntmps18
  go_wp2
  go_loopw [5] (fun i wr => ∃ k : Nat, k ≤ l.length ∧ i = .int .i64 k ∧ Below w.heap.size w wr) (fun i _ => l.length - (intOf i).toNat)
  case atStart => exact ⟨0, by omega, rfl, Below.refl _ _⟩
  case round =>
    obtain ⟨k, hk, rfl, hb⟩ := hrel
    by_cases hlt : k < l.length
    · obtain ⟨b, o, rfl, hbl, hc⟩ := (hS.below hb) (by omega)
      obtain ⟨b2, o2, rfl, hbl2, hd⟩ := (hS2.below hb) (by omega)
      have c0 := hc k 0 _ (List.getElem?_eq_getElem hlt) (by decide)
      have c1 := hc k 1 _ (List.getElem?_eq_getElem hlt) (by decide)
      have d0 := hd k 0 _ (List.getElem?_eq_getElem hlt) (by decide)
      have d1 := hd k 1 _ (List.getElem?_eq_getElem hlt) (by decide)
      generalize l[k] = x at *
      obtain ⟨xk, xn⟩ := x
      simp only [encRow, List.getElem?_cons_zero, List.getElem?_cons_succ, Nat.add_zero] at c0 c1 d0 d1
      have hki : (k : Int) < (l.length : Int) := by omega
      clear hS hS2 hc hd
      go_wp2_with fail
      refine wp_region_below (by kernel_rfl) (by kernel_rfl) ?_
      iterate 9 (refine wpQuiet_step (fun K hK => ?_); go_simp; first | (apply Exists.intro; refine ⟨fun W hW => ?_, hK _ ?_⟩; (first | rfl | (have e0 := (hW.cell (p := ⟨b, o + k * 2, none⟩) hbl).trans c0; have e1 := (hW.cell (p := ⟨b, o + k * 2 + 1, none⟩) hbl).trans c1; have f0 := (hW.cell (p := ⟨b2, o2 + k * 2, none⟩) hbl2).trans d0; have f1 := (hW.cell (p := ⟨b2, o2 + k * 2 + 1, none⟩) hbl2).trans d1; go_simp; rfl)); clear hK K) | (refine hK _ ?_; clear hK K))
      refine wpQuiet_nil ?_
      intro W hW
      have hb' := bthen hb hW
      go_wp2
      go_roundw
      case rel => exact ⟨k + 1, by omega, by go_num, hb'⟩
      case measure => simp [intOf]; omega
    · obtain rfl : k = l.length := by omega
      go_wp2
      go_ret
      exact ⟨rfl, hb⟩
set_option maxRecDepth 100000 in
set_option maxHeartbeats 1000000 in
/-- the last time of a key in a store that is not right -/
theorem implLast_bad (A : Option Addr) (l : List Ver) (c : Nat) (now : Int) (key : ByteArray) (w : World) (hf : FitsV l) (hn : l.length ≤ 1048576) (hS : Sl encVer 4 w A l) (hv : versB now l = false) :
    Calls Try.prog 28 #[.agg #[.int .i64 now, .slice A l.length c], .string key] w fun e w' => e = .returned (.int .i64 0) ∧ Below w.heap.size w w' := by
  have hb0 := (Below.refl w.heap.size w).alloc (Nat.le_refl _) (.cells #[.int .i64 now, .slice A l.length c] 25)
  have HV := Lib.hid (implVersOk_any A l c now _ hf hn (hS.below hb0))
  rw [hv] at HV
  clear hS hv
  go_enter Try.func28, Try.ntmps28
  go_wp2_with fail
  refine HV.out.mono ?_
  rintro e w1 ⟨rfl, hb1⟩
  have hb := bthen hb0 hb1
  go_wp2
  go_ret
  exact ⟨rfl, hb⟩
set_option maxRecDepth 100000 in
set_option maxHeartbeats 1000000 in
/-- trimming a store that is not right -/
theorem implTrim_bad (A : Option Addr) (l : List Ver) (c : Nat) (now t : Int) (w : World) (hf : FitsV l) (hn : l.length ≤ 1048576) (hS : Sl encVer 4 w A l) (hv : versB now l = false) :
    Calls Try.prog 29 #[.agg #[.int .i64 now, .slice A l.length c], .int .i64 t] w fun e w' => e = .returned (.agg #[.int .i64 0, .slice none 0 0]) ∧ Below w.heap.size w w' := by
  have hb0 := (((Below.refl w.heap.size w).alloc (Nat.le_refl _) (.cells #[.int .i64 now, .slice A l.length c] 25)).alloc (by simp) (.cells #[.int .i64 t] 3)).alloc (by simp; omega) (.cells #[.int .i64 0, .slice none 0 0] 25)
  have hB := Blk.new ((w.alloc (.cells #[.int .i64 now, .slice A l.length c] 25)).alloc (.cells #[.int .i64 t] 3)) 25 #[.int .i64 0, .slice none 0 0]
  rw [World.size_alloc, World.size_alloc] at hB
  have HV := Lib.hid (implVersOk_any A l c now _ hf hn (hS.below hb0))
  rw [hv] at HV
  clear hS hv
  go_enter Try.func29, Try.ntmps29
  go_wp2_with fail
  refine HV.out.mono ?_
  rintro e w1 ⟨rfl, hb1⟩
  have hb := bthen hb0 hb1
  have hB1 := hB.kept hb1
  have z0 := hB1.frozen 0
  have z1 := hB1.frozen 1
  have x0 : w1.cell? ⟨w.heap.size + 2, 0, none⟩ = some (.int .i64 0) := hB1.cell 0
  have x1 : w1.cell? ⟨w.heap.size + 2, 1, none⟩ = some (.slice none 0 0) := hB1.cell 1
  obtain ⟨q0, q1⟩ := hB1.two (.int .i64 0) (.slice none 0 0)
  clear hB hB1 hb0 hb1 HV
  go_wp2
  refine bodyPost_ret (v := .agg #[.int .i64 0, .slice none 0 0]) (by simp [results, Try.results29, go_sem, q0, q1]) rfl ⟨rfl, (hb.setCell (by simp; omega) _).setCell (by simp; omega) _⟩
end Go.Proofs.Ytfmpohhaimgnfaa
