import Derived.BigQuiet
import Derived.Test.YtpjkcmmmpgncmaaM11
import Derived.Test.YtpjkcmmmpgncmaaM06
/- The reference's l3Put: one thing more in its place (bounds). -/
namespace Go.Proofs.Ytpjkcmmmpgncmaa
open Go.RowKit

def AllW (L : List Wri) : Prop := ∀ y ∈ L, y.1.size ≤ maxLen
/-- what stands while the new list is made -/
def PSW (w : World) (x : Wri) (v : Value) (L : List Wri) (W : World) : Prop :=
  OwnW W (w.heap.size + 1) v L ∧ Blk W w.heap.size 46 (#[.string x.1, .int .i64 x.2.1, .bool x.2.2]) ∧ Below w.heap.size w W ∧ (∀ y ∈ L, y.1.size ≤ maxLen) ∧ w.heap.size + 1 < W.heap.size
theorem PSW.below {w W W' : World} {x : Wri} {v : Value} {L : List Wri} (h : PSW w x v L W) (hb : Below W.heap.size W W') : PSW w x v L W' :=
  ⟨own_kept h.1 hb, h.2.1.kept hb, bthen h.2.2.1 hb, h.2.2.2.1, Nat.lt_of_lt_of_le h.2.2.2.2 hb.size⟩
theorem PSW.app {w W W' : World} {x : Wri} {v v' : Value} {L : List Wri} {z : Wri} (h : PSW w x v L W) (hz : z.1.size ≤ maxLen) (cs : Array Value)
    (ho : W'.ownsRow (w.heap.size + 1) 46 3 v' (L.length + 1) (L.flatMap encWri ++ encWri z)) (hg : (W.alloc (.cells cs 46)).grownBy W' v.ownBlock) : PSW w x v' (L ++ [z]) W' := by
  obtain ⟨h1, h2, h3, h5, h6⟩ := h
  have hb := (Below.refl W.heap.size W).alloc (Nat.le_refl _) (.cells cs 46)
  have hlt := h1.lt
  have hsz : W.heap.size ≤ (W.alloc (.cells cs 46)).heap.size := hb.size
  have hbw : Below w.heap.size w W' := below_own (bthen h3 hb) hg (by omega) (fun j hj => by have := (hlt j hj).1; omega)
  refine ⟨?_, (h2.kept hb).grown hg (fun e => by have := (hlt _ e.symm).1; omega), hbw, ?_, by have := hg.size; omega⟩
  · unfold OwnW
    rw [List.length_append, List.flatMap_append]
    simpa using ho
  · intro y hy
    rcases List.mem_append.1 hy with hy | hy
    · exact h5 y hy
    · simp at hy; subst hy; exact hz
theorem PSW.cells {w W : World} {x : Wri} {v : Value} {L l : List Wri} {b o k : Nat} {y : Wri} (h : PSW w x v L W) (hS : Sl encWri 3 w (some ⟨b, o, none⟩) l) (hy : l[k]? = some y) :
    W.cell? ⟨b, o + k * 3, none⟩ = some (.string y.1) ∧ W.cell? ⟨b, o + k * 3 + 1, none⟩ = some (.int .i64 y.2.1) ∧ W.cell? ⟨b, o + k * 3 + 2, none⟩ = some (.bool y.2.2) ∧ b < W.heap.size ∧ w.heap.size < W.heap.size ∧ W.cell? ⟨w.heap.size, 0, none⟩ = some (.string x.1) := by
  obtain ⟨b', o', e, hb, hc⟩ := (hS.below h.2.2.1) (by have := (List.getElem?_eq_some_iff.1 hy).1; omega)
  injection e with e
  injection e with e1 e2
  subst e1; subst e2
  exact ⟨hc k 0 y hy (by decide), hc k 1 y hy (by decide), hc k 2 y hy (by decide), hb, h.2.1.lt, h.2.1.cell 0⟩
set_option maxRecDepth 100000 in
set_option maxHeartbeats 8000000 in
theorem l3Put_any (A : Option Addr) (l : List Wri) (c : Nat) (x : Wri) (w : World) (hn : l.length ≤ 400) (hf : ∀ y ∈ l, y.1.size ≤ maxLen) (hx : x.1.size ≤ maxLen) (hS : Sl encWri 3 w A l) :
    Calls Try.prog 236 #[.slice A l.length c, .agg (#[.string x.1, .int .i64 x.2.1, .bool x.2.2])] w fun e w' => ∃ A' c' L, e = .returned (.slice A' L.length c') ∧ OwnW w' w.heap.size (.slice A' L.length c') L ∧ L.length ≤ l.length + 1 ∧ AllW L ∧ Below w.heap.size w w' := by
  obtain ⟨i0, hi, hz0, hz1, hz2⟩ := info_parts infoWri
  have HI := Lib.hid (⟨hi, hz0, hz1, hz2⟩ : _ ∧ _ ∧ _ ∧ _)
  clear hi hz0 hz1 hz2
  have HF := Lib.hid hf
  have HXF := Lib.hid hx
  have hB0 := Blk.new (w.alloc (.cells (#[.string x.1, .int .i64 x.2.1, .bool x.2.2]) 46)) 46 #[]
  rw [World.size_alloc] at hB0
  have H0 : Hid (PSW w x (.slice (some ⟨w.heap.size + 1, 0, none⟩) 0 0) [] ((w.alloc (.cells (#[.string x.1, .int .i64 x.2.1, .bool x.2.2]) 46)).alloc (.cells #[] 46))) := Lib.hid ⟨own_of_blk (base := w.heap.size + 1) (n := 0) (k := 3) (xs := []) hB0 (Nat.le_refl _) (Nat.zero_le _) rfl rfl, (Blk.new w 46 (#[.string x.1, .int .i64 x.2.1, .bool x.2.2])).alloc _, ((Below.refl w.heap.size w).alloc (Nat.le_refl _) _).alloc (by simp) _, fun y h => absurd h (by simp), by simp⟩
  obtain ⟨xk, xn, xg⟩ := x
  clear hf hx hB0
  go_enter Try.func236, Try.ntmps236
  go_wp2
  go_loopw [5, 6, 7] (fun v dn i wr => ∃ (k : Nat) (L : List Wri) (AL : Option Addr) (cL : Nat) (d : Bool), k ≤ l.length ∧ i = .int .i64 k ∧ dn = .bool d ∧ v = .slice AL L.length cL ∧ Hid (L.length + (if d = true then 0 else 1) ≤ k + 1) ∧ Hid (PSW w (xk, xn, xg) v L wr)) (fun _ _ i _ => l.length - (intOf i).toNat)
  case atStart => exact ⟨0, [], _, _, false, by omega, rfl, rfl, rfl, Lib.hid (by simp), H0⟩
  case round =>
    clear H0
    obtain ⟨k, L, AL, cL, d, hk, rfl, rfl, rfl, HL, HP⟩ := hrel
    have hwl := HP.out.2.2.2.2
    by_cases hlt : k < l.length
    · obtain ⟨b, o, e, _⟩ := hS (by omega)
      subst e
      have HKY := Lib.hid (List.getElem?_eq_getElem hlt)
      have HY := Lib.hid (HF.out l[k] (List.getElem_mem hlt))
      generalize l[k] = y at *
      have hki : (k : Int) < (l.length : Int) := by omega
      have hki0 : (0 : Int) ≤ (k : Int) := by omega
      have HS := Lib.hid hS
      clear hS
      obtain ⟨yk, yn, yg⟩ := y
      cases d
      case true =>
        obtain ⟨c0, c1, c2, hbl, hxl, x0⟩ := HP.out.cells HS.out HKY.out
        simp only at c0 c1 c2 x0
        go_wp2_with fail
        refine wp_region_below (by kernel_rfl) (by kernel_rfl) ?_
        iterate 12 (first | go_big_quiet_skip | (refine wpQuiet_step (fun K hK => ?_); go_simp; first | (apply Exists.intro; refine ⟨fun W hW => ?_, hK _ ?_⟩; (first | rfl | (have y0x := (hW.cell (p := ⟨b, o + k * 3, none⟩) hbl).trans c0; have x0x := (hW.cell (p := ⟨w.heap.size, 0, none⟩) hxl).trans x0; go_simp; rfl)); clear hK K) | (refine hK _ ?_; clear hK K)))
        refine wpQuiet_nil ?_
        intro W hW
        have HP := Lib.hid (HP.out.below hW)
        clear hW c0 c1 c2 x0 hbl hxl
        generalize W = Wa at *
        obtain ⟨c0, c1, c2, hbl, hxl, x0⟩ := HP.out.cells HS.out HKY.out
        simp only at c0 c1 c2 x0
        cases heq : (yk.toList == xk.toList)
        case false =>
          go_wp2_with fail
          refine wp_region_below (by kernel_rfl) (by kernel_rfl) ?_
          iterate 8 (first | go_big_quiet_skip | (refine wpQuiet_step (fun K hK => ?_); go_simp; first | (apply Exists.intro; refine ⟨fun W hW => ?_, hK _ ?_⟩; (first | rfl | (have y0x := (hW.cell (p := ⟨b, o + k * 3, none⟩) hbl).trans c0; have x0x := (hW.cell (p := ⟨w.heap.size, 0, none⟩) hxl).trans x0; go_simp; rfl)); clear hK K) | (refine hK _ ?_; clear hK K)))
          refine wpQuiet_nil ?_
          intro W hW
          have HP := Lib.hid (HP.out.below hW)
          clear hW c0 c1 c2 x0 hbl hxl
          generalize W = Wb at *
          obtain ⟨c0, c1, c2, hbl, hxl, x0⟩ := HP.out.cells HS.out HKY.out
          simp only at c0 c1 c2 x0
          have hlen : L.length ≤ 1000 := by have := HL.out; (try split at this) <;> omega
          have hownA := HP.out.1.alloc (.cells #[.string yk, .int .i64 yn, .bool yg] 46)
          have hnewA := new_cells Wb [.string yk, .int .i64 yn, .bool yg] 46
          have hszA := HP.out.2.2.2.2
          have HPA := Lib.hid HP.out
          go_wp2_with (at_builtin; refine wpList_append_own _ rfl (.tmp 39) (.tmp 44) 41 rfl (w.heap.size + 1) 46 i0 _ 3 32 Try.underlying41 HI.out.1 HI.out.2.1 HI.out.2.2.1 HI.out.2.2.2 rfl (by decide) (.slice AL L.length cL) L.length (L.flatMap encWri) rfl hownA ⟨Wb.heap.size, 0, none⟩ 1 1 [.string yk, .int .i64 yn, .bool yg] rfl rfl hnewA (by simp [Value.oneCell']) (by unfold maxLen; omega) (by omega) (by simp; omega) ?_; intro v8 w8 ho8 hg8 _; obtain ⟨L8, hL8, hp8⟩ : ∃ M : List Wri, M.length = L.length + 1 ∧ PSW w (xk, xn, xg) v8 M w8 := ⟨_, List.length_append, PSW.app (z := (yk, yn, yg)) HPA.out HY.out _ ho8 hg8⟩; obtain ⟨A8, c8, rfl, _, _, _⟩ := hp8.1.sl; have HP := Lib.hid hp8; have HL8 := Lib.hid hL8; clear hownA hnewA hszA ho8 hg8 HPA hp8 hL8)
          go_roundw
          case rel => exact ⟨k + 1, L8, _, _, true, by omega, by go_num, rfl, rfl, Lib.hid (by have := HL.out; have := HL8.out; simp at *; omega), HP⟩
          case measure => simp [intOf]; omega
        case true =>
          go_wp2_with fail
          refine wp_region_below (by kernel_rfl) (by kernel_rfl) ?_
          iterate 8 (first | go_big_quiet_skip | (refine wpQuiet_step (fun K hK => ?_); go_simp; first | (apply Exists.intro; refine ⟨fun W hW => ?_, hK _ ?_⟩; (first | rfl | (have y0x := (hW.cell (p := ⟨b, o + k * 3, none⟩) hbl).trans c0; have x0x := (hW.cell (p := ⟨w.heap.size, 0, none⟩) hxl).trans x0; go_simp; rfl)); clear hK K) | (refine hK _ ?_; clear hK K)))
          refine wpQuiet_nil ?_
          intro W hW
          have HP := Lib.hid (HP.out.below hW)
          clear hW c0 c1 c2 x0 hbl hxl
          generalize W = Wb at *
          go_wp2
          go_roundw
          case rel => exact ⟨k + 1, L, _, _, true, by omega, by go_num, rfl, rfl, Lib.hid (by have := HL.out; simp at *; omega), HP⟩
          case measure => simp [intOf]; omega
      case false =>
        obtain ⟨c0, c1, c2, hbl, hxl, x0⟩ := HP.out.cells HS.out HKY.out
        simp only at c0 c1 c2 x0
        cases hab : ltB yk xk
        case true =>
          have hge : Op.bytesLess yk.toList xk.toList = true := hab
          clear hab
          go_wp2_with fail
          refine wp_region_below (by kernel_rfl) (by kernel_rfl) ?_
          iterate 12 (first | go_big_quiet_skip | (refine wpQuiet_step (fun K hK => ?_); go_simp; first | (apply Exists.intro; refine ⟨fun W hW => ?_, hK _ ?_⟩; (first | rfl | (have y0x := (hW.cell (p := ⟨b, o + k * 3, none⟩) hbl).trans c0; have x0x := (hW.cell (p := ⟨w.heap.size, 0, none⟩) hxl).trans x0; go_simp; rfl)); clear hK K) | (refine hK _ ?_; clear hK K)))
          refine wpQuiet_nil ?_
          intro W hW
          have HP := Lib.hid (HP.out.below hW)
          clear hW c0 c1 c2 x0 hbl hxl
          generalize W = Wa at *
          obtain ⟨c0, c1, c2, hbl, hxl, x0⟩ := HP.out.cells HS.out HKY.out
          simp only at c0 c1 c2 x0
          cases heq : (yk.toList == xk.toList)
          case false =>
            go_wp2_with fail
            refine wp_region_below (by kernel_rfl) (by kernel_rfl) ?_
            iterate 8 (first | go_big_quiet_skip | (refine wpQuiet_step (fun K hK => ?_); go_simp; first | (apply Exists.intro; refine ⟨fun W hW => ?_, hK _ ?_⟩; (first | rfl | (have y0x := (hW.cell (p := ⟨b, o + k * 3, none⟩) hbl).trans c0; have x0x := (hW.cell (p := ⟨w.heap.size, 0, none⟩) hxl).trans x0; go_simp; rfl)); clear hK K) | (refine hK _ ?_; clear hK K)))
            refine wpQuiet_nil ?_
            intro W hW
            have HP := Lib.hid (HP.out.below hW)
            clear hW c0 c1 c2 x0 hbl hxl
            generalize W = Wb at *
            obtain ⟨c0, c1, c2, hbl, hxl, x0⟩ := HP.out.cells HS.out HKY.out
            simp only at c0 c1 c2 x0
            have hlen : L.length ≤ 1000 := by have := HL.out; (try split at this) <;> omega
            have hownA := HP.out.1.alloc (.cells #[.string yk, .int .i64 yn, .bool yg] 46)
            have hnewA := new_cells Wb [.string yk, .int .i64 yn, .bool yg] 46
            have hszA := HP.out.2.2.2.2
            have HPA := Lib.hid HP.out
            go_wp2_with (at_builtin; refine wpList_append_own _ rfl (.tmp 39) (.tmp 44) 41 rfl (w.heap.size + 1) 46 i0 _ 3 32 Try.underlying41 HI.out.1 HI.out.2.1 HI.out.2.2.1 HI.out.2.2.2 rfl (by decide) (.slice AL L.length cL) L.length (L.flatMap encWri) rfl hownA ⟨Wb.heap.size, 0, none⟩ 1 1 [.string yk, .int .i64 yn, .bool yg] rfl rfl hnewA (by simp [Value.oneCell']) (by unfold maxLen; omega) (by omega) (by simp; omega) ?_; intro v8 w8 ho8 hg8 _; obtain ⟨L8, hL8, hp8⟩ : ∃ M : List Wri, M.length = L.length + 1 ∧ PSW w (xk, xn, xg) v8 M w8 := ⟨_, List.length_append, PSW.app (z := (yk, yn, yg)) HPA.out HY.out _ ho8 hg8⟩; obtain ⟨A8, c8, rfl, _, _, _⟩ := hp8.1.sl; have HP := Lib.hid hp8; have HL8 := Lib.hid hL8; clear hownA hnewA hszA ho8 hg8 HPA hp8 hL8)
            go_roundw
            case rel => exact ⟨k + 1, L8, _, _, false, by omega, by go_num, rfl, rfl, Lib.hid (by have := HL.out; have := HL8.out; simp at *; omega), HP⟩
            case measure => simp [intOf]; omega
          case true =>
            go_wp2_with fail
            refine wp_region_below (by kernel_rfl) (by kernel_rfl) ?_
            iterate 8 (first | go_big_quiet_skip | (refine wpQuiet_step (fun K hK => ?_); go_simp; first | (apply Exists.intro; refine ⟨fun W hW => ?_, hK _ ?_⟩; (first | rfl | (have y0x := (hW.cell (p := ⟨b, o + k * 3, none⟩) hbl).trans c0; have x0x := (hW.cell (p := ⟨w.heap.size, 0, none⟩) hxl).trans x0; go_simp; rfl)); clear hK K) | (refine hK _ ?_; clear hK K)))
            refine wpQuiet_nil ?_
            intro W hW
            have HP := Lib.hid (HP.out.below hW)
            clear hW c0 c1 c2 x0 hbl hxl
            generalize W = Wb at *
            go_wp2
            go_roundw
            case rel => exact ⟨k + 1, L, _, _, false, by omega, by go_num, rfl, rfl, Lib.hid (by have := HL.out; simp at *; omega), HP⟩
            case measure => simp [intOf]; omega
        case false =>
          have hge : Op.bytesLess yk.toList xk.toList = false := hab
          clear hab
          go_wp2_with fail
          refine wp_region_below (by kernel_rfl) (by kernel_rfl) ?_
          iterate 12 (first | go_big_quiet_skip | (refine wpQuiet_step (fun K hK => ?_); go_simp; first | (apply Exists.intro; refine ⟨fun W hW => ?_, hK _ ?_⟩; (first | rfl | (have y0x := (hW.cell (p := ⟨b, o + k * 3, none⟩) hbl).trans c0; have x0x := (hW.cell (p := ⟨w.heap.size, 0, none⟩) hxl).trans x0; go_simp; rfl)); clear hK K) | (refine hK _ ?_; clear hK K)))
          refine wpQuiet_nil ?_
          intro W hW
          have HP := Lib.hid (HP.out.below hW)
          clear hW c0 c1 c2 x0 hbl hxl
          generalize W = Wa at *
          have hlen : L.length ≤ 1000 := by have := HL.out; (try split at this) <;> omega
          have x0 : Wa.cell? ⟨w.heap.size, 0, none⟩ = some (.string xk) := HP.out.2.1.cell 0
          have x1 : Wa.cell? ⟨w.heap.size, 1, none⟩ = some (.int .i64 xn) := HP.out.2.1.cell 1
          have x2 : Wa.cell? ⟨w.heap.size, 2, none⟩ = some (.bool xg) := HP.out.2.1.cell 2
          have hxl := HP.out.2.1.lt
          have hownA := HP.out.1.alloc (.cells #[.string xk, .int .i64 xn, .bool xg] 46)
          have hnewA := new_cells Wa [.string xk, .int .i64 xn, .bool xg] 46
          have hszA := HP.out.2.2.2.2
          have HPA := Lib.hid HP.out
          go_wp2_with (at_builtin; refine wpList_append_own _ rfl (.tmp 27) (.tmp 29) 41 rfl (w.heap.size + 1) 46 i0 _ 3 32 Try.underlying41 HI.out.1 HI.out.2.1 HI.out.2.2.1 HI.out.2.2.2 rfl (by decide) (.slice AL L.length cL) L.length (L.flatMap encWri) rfl hownA ⟨Wa.heap.size, 0, none⟩ 1 1 [.string xk, .int .i64 xn, .bool xg] rfl rfl hnewA (by simp [Value.oneCell']) (by unfold maxLen; omega) (by omega) (by simp; omega) ?_; intro v7 w7 ho7 hg7 _; obtain ⟨L7, hL7, hp7⟩ : ∃ M : List Wri, M.length = L.length + 1 ∧ PSW w (xk, xn, xg) v7 M w7 := ⟨_, List.length_append, PSW.app (z := (xk, xn, xg)) HPA.out HXF.out _ ho7 hg7⟩; obtain ⟨A7, c7, rfl, _, _, _⟩ := hp7.1.sl; have HP := Lib.hid hp7; have HL7 := Lib.hid hL7; clear hownA hnewA hszA ho7 hg7 HPA hp7 hL7)
          have HL := Lib.hid (show L7.length ≤ k + 1 by have := HL.out; have := HL7.out; simp at *; omega)
          try clear hge
          clear x0 x1 x2 hxl
          obtain ⟨c0, c1, c2, hbl, hxl, x0⟩ := HP.out.cells HS.out HKY.out
          simp only at c0 c1 c2 x0
          cases heq : (yk.toList == xk.toList)
          case false =>
            go_wp2_with fail
            refine wp_region_below (by kernel_rfl) (by kernel_rfl) ?_
            iterate 8 (first | go_big_quiet_skip | (refine wpQuiet_step (fun K hK => ?_); go_simp; first | (apply Exists.intro; refine ⟨fun W hW => ?_, hK _ ?_⟩; (first | rfl | (have y0x := (hW.cell (p := ⟨b, o + k * 3, none⟩) hbl).trans c0; have x0x := (hW.cell (p := ⟨w.heap.size, 0, none⟩) hxl).trans x0; go_simp; rfl)); clear hK K) | (refine hK _ ?_; clear hK K)))
            refine wpQuiet_nil ?_
            intro W hW
            have HP := Lib.hid (HP.out.below hW)
            clear hW c0 c1 c2 x0 hbl hxl
            generalize W = Wb at *
            obtain ⟨c0, c1, c2, hbl, hxl, x0⟩ := HP.out.cells HS.out HKY.out
            simp only at c0 c1 c2 x0
            have hlen : L7.length ≤ 1000 := by have := HL.out; (try split at this) <;> omega
            have hownA := HP.out.1.alloc (.cells #[.string yk, .int .i64 yn, .bool yg] 46)
            have hnewA := new_cells Wb [.string yk, .int .i64 yn, .bool yg] 46
            have hszA := HP.out.2.2.2.2
            have HPA := Lib.hid HP.out
            go_wp2_with (at_builtin; refine wpList_append_own _ rfl (.tmp 39) (.tmp 44) 41 rfl (w.heap.size + 1) 46 i0 _ 3 32 Try.underlying41 HI.out.1 HI.out.2.1 HI.out.2.2.1 HI.out.2.2.2 rfl (by decide) (.slice A7 L7.length c7) L7.length (L7.flatMap encWri) rfl hownA ⟨Wb.heap.size, 0, none⟩ 1 1 [.string yk, .int .i64 yn, .bool yg] rfl rfl hnewA (by simp [Value.oneCell']) (by unfold maxLen; omega) (by omega) (by simp; omega) ?_; intro v8 w8 ho8 hg8 _; obtain ⟨L8, hL8, hp8⟩ : ∃ M : List Wri, M.length = L7.length + 1 ∧ PSW w (xk, xn, xg) v8 M w8 := ⟨_, List.length_append, PSW.app (z := (yk, yn, yg)) HPA.out HY.out _ ho8 hg8⟩; obtain ⟨A8, c8, rfl, _, _, _⟩ := hp8.1.sl; have HP := Lib.hid hp8; have HL8 := Lib.hid hL8; clear hownA hnewA hszA ho8 hg8 HPA hp8 hL8)
            go_roundw
            case rel => exact ⟨k + 1, L8, _, _, true, by omega, by go_num, rfl, rfl, Lib.hid (by have := HL.out; have := HL8.out; simp at *; omega), HP⟩
            case measure => simp [intOf]; omega
          case true =>
            go_wp2_with fail
            refine wp_region_below (by kernel_rfl) (by kernel_rfl) ?_
            iterate 8 (first | go_big_quiet_skip | (refine wpQuiet_step (fun K hK => ?_); go_simp; first | (apply Exists.intro; refine ⟨fun W hW => ?_, hK _ ?_⟩; (first | rfl | (have y0x := (hW.cell (p := ⟨b, o + k * 3, none⟩) hbl).trans c0; have x0x := (hW.cell (p := ⟨w.heap.size, 0, none⟩) hxl).trans x0; go_simp; rfl)); clear hK K) | (refine hK _ ?_; clear hK K)))
            refine wpQuiet_nil ?_
            intro W hW
            have HP := Lib.hid (HP.out.below hW)
            clear hW c0 c1 c2 x0 hbl hxl
            generalize W = Wb at *
            go_wp2
            go_roundw
            case rel => exact ⟨k + 1, L7, _, _, true, by omega, by go_num, rfl, rfl, Lib.hid (by have := HL.out; simp at *; omega), HP⟩
            case measure => simp [intOf]; omega
    · obtain rfl : k = l.length := by omega
      have hlen : L.length ≤ 1000 := by have := HL.out; split at this <;> omega
      cases d
      case true =>
        have HL := Lib.hid (show L.length ≤ l.length + 1 by have := HL.out; simp at this; omega)
        go_wp2
        go_ret
        exact ⟨_, _, L, rfl, HP.out.1.leB (by omega), HL.out, HP.out.2.2.2.1, HP.out.2.2.1⟩
      case false =>
        have HL := Lib.hid (show L.length ≤ l.length by have := HL.out; simp at this; omega)
        have x0 : wr.cell? ⟨w.heap.size, 0, none⟩ = some (.string xk) := HP.out.2.1.cell 0
        have x1 : wr.cell? ⟨w.heap.size, 1, none⟩ = some (.int .i64 xn) := HP.out.2.1.cell 1
        have x2 : wr.cell? ⟨w.heap.size, 2, none⟩ = some (.bool xg) := HP.out.2.1.cell 2
        have hxl := HP.out.2.1.lt
        have hownA := HP.out.1.alloc (.cells #[.string xk, .int .i64 xn, .bool xg] 46)
        have hnewA := new_cells wr [.string xk, .int .i64 xn, .bool xg] 46
        have hszA := HP.out.2.2.2.2
        have HPA := Lib.hid HP.out
        go_wp2_with (at_builtin; refine wpList_append_own _ rfl (.tmp 48) (.tmp 50) 41 rfl (w.heap.size + 1) 46 i0 _ 3 32 Try.underlying41 HI.out.1 HI.out.2.1 HI.out.2.2.1 HI.out.2.2.2 rfl (by decide) (.slice AL L.length cL) L.length (L.flatMap encWri) rfl hownA ⟨wr.heap.size, 0, none⟩ 1 1 [.string xk, .int .i64 xn, .bool xg] rfl rfl hnewA (by simp [Value.oneCell']) (by unfold maxLen; omega) (by omega) (by simp; omega) ?_; intro v7 w7 ho7 hg7 _; obtain ⟨L7, hL7, hp7⟩ : ∃ M : List Wri, M.length = L.length + 1 ∧ PSW w (xk, xn, xg) v7 M w7 := ⟨_, List.length_append, PSW.app (z := (xk, xn, xg)) HPA.out HXF.out _ ho7 hg7⟩; obtain ⟨A7, c7, rfl, _, _, _⟩ := hp7.1.sl; have HP := Lib.hid hp7; have HL7 := Lib.hid hL7; clear hownA hnewA hszA ho7 hg7 HPA hp7 hL7)
        go_ret
        exact ⟨_, _, _, rfl, HP.out.1.leB (by omega), by have := HL.out; have := HL7.out; omega, HP.out.2.2.2.1, HP.out.2.2.1⟩
end Go.Proofs.Ytpjkcmmmpgncmaa
/- The reference's l6Put: one thing more in its place (bounds). -/
namespace Go.Proofs.Ytpjkcmmmpgncmaa
open Go.RowKit
theorem infoNm : (Try.prog.info? 130).map (fun i => (i.zero, i.size, i.bytes)) = some (some (.agg #[.string ⟨#[]⟩, .int .i64 0, .string ⟨#[]⟩, .string ⟨#[]⟩, .int .i64 0]), 5, 64) := by kernel_rfl
def OwnN (w : World) (B : Nat) (v : Value) (l : List Nm) : Prop := w.ownsRow B 130 5 v l.length (l.flatMap encNm)
theorem OwnN.sl {w : World} {B : Nat} {v : Value} {l : List Nm} (h : OwnN w B v l) : ∃ A c, v = .slice A l.length c ∧ l.length ≤ c ∧ c ≤ maxLen ∧ Sl encNm 5 w A l := Sl.of_own encNm_len h
theorem OwnN.leB {w : World} {B B2 : Nat} {v : Value} {l : List Nm} (h : OwnN w B v l) (hb : B2 ≤ B) : OwnN w B2 v l := Go.Joins.ownsRow_le h hb
def AllN (L : List Nm) : Prop := ∀ y ∈ L, (y.1.size ≤ 10 ∧ y.2.2.1.size ≤ maxLen ∧ y.2.2.2.1.size ≤ maxLen)
/-- what stands while the new list is made -/
def PSN (w : World) (x : Nm) (v : Value) (L : List Nm) (W : World) : Prop :=
  OwnN W (w.heap.size + 1) v L ∧ Blk W w.heap.size 130 (#[.string x.1, .int .i64 x.2.1, .string x.2.2.1, .string x.2.2.2.1, .int .i64 x.2.2.2.2]) ∧ Below w.heap.size w W ∧ (∀ y ∈ L, (y.1.size ≤ 10 ∧ y.2.2.1.size ≤ maxLen ∧ y.2.2.2.1.size ≤ maxLen)) ∧ w.heap.size + 1 < W.heap.size
theorem PSN.below {w W W' : World} {x : Nm} {v : Value} {L : List Nm} (h : PSN w x v L W) (hb : Below W.heap.size W W') : PSN w x v L W' :=
  ⟨own_kept h.1 hb, h.2.1.kept hb, bthen h.2.2.1 hb, h.2.2.2.1, Nat.lt_of_lt_of_le h.2.2.2.2 hb.size⟩
theorem PSN.app {w W W' : World} {x : Nm} {v v' : Value} {L : List Nm} {z : Nm} (h : PSN w x v L W) (hz : (z.1.size ≤ 10 ∧ z.2.2.1.size ≤ maxLen ∧ z.2.2.2.1.size ≤ maxLen)) (cs : Array Value)
    (ho : W'.ownsRow (w.heap.size + 1) 130 5 v' (L.length + 1) (L.flatMap encNm ++ encNm z)) (hg : (W.alloc (.cells cs 130)).grownBy W' v.ownBlock) : PSN w x v' (L ++ [z]) W' := by
  obtain ⟨h1, h2, h3, h5, h6⟩ := h
  have hb := (Below.refl W.heap.size W).alloc (Nat.le_refl _) (.cells cs 130)
  have hlt := h1.lt
  have hsz : W.heap.size ≤ (W.alloc (.cells cs 130)).heap.size := hb.size
  have hbw : Below w.heap.size w W' := below_own (bthen h3 hb) hg (by omega) (fun j hj => by have := (hlt j hj).1; omega)
  refine ⟨?_, (h2.kept hb).grown hg (fun e => by have := (hlt _ e.symm).1; omega), hbw, ?_, by have := hg.size; omega⟩
  · unfold OwnN
    rw [List.length_append, List.flatMap_append]
    simpa using ho
  · intro y hy
    rcases List.mem_append.1 hy with hy | hy
    · exact h5 y hy
    · simp at hy; subst hy; exact hz
theorem PSN.cells {w W : World} {x : Nm} {v : Value} {L l : List Nm} {b o k : Nat} {y : Nm} (h : PSN w x v L W) (hS : Sl encNm 5 w (some ⟨b, o, none⟩) l) (hy : l[k]? = some y) :
    W.cell? ⟨b, o + k * 5, none⟩ = some (.string y.1) ∧ W.cell? ⟨b, o + k * 5 + 1, none⟩ = some (.int .i64 y.2.1) ∧ W.cell? ⟨b, o + k * 5 + 2, none⟩ = some (.string y.2.2.1) ∧ W.cell? ⟨b, o + k * 5 + 3, none⟩ = some (.string y.2.2.2.1) ∧ W.cell? ⟨b, o + k * 5 + 4, none⟩ = some (.int .i64 y.2.2.2.2) ∧ b < W.heap.size ∧ w.heap.size < W.heap.size ∧ W.cell? ⟨w.heap.size, 0, none⟩ = some (.string x.1) := by
  obtain ⟨b', o', e, hb, hc⟩ := (hS.below h.2.2.1) (by have := (List.getElem?_eq_some_iff.1 hy).1; omega)
  injection e with e
  injection e with e1 e2
  subst e1; subst e2
  exact ⟨hc k 0 y hy (by decide), hc k 1 y hy (by decide), hc k 2 y hy (by decide), hc k 3 y hy (by decide), hc k 4 y hy (by decide), hb, h.2.1.lt, h.2.1.cell 0⟩
set_option maxRecDepth 100000 in
set_option maxHeartbeats 8000000 in
theorem l6Put_any (A : Option Addr) (l : List Nm) (c : Nat) (x : Nm) (w : World) (hn : l.length ≤ 400) (hf : ∀ y ∈ l, (y.1.size ≤ 10 ∧ y.2.2.1.size ≤ maxLen ∧ y.2.2.2.1.size ≤ maxLen)) (hx : (x.1.size ≤ 10 ∧ x.2.2.1.size ≤ maxLen ∧ x.2.2.2.1.size ≤ maxLen)) (hS : Sl encNm 5 w A l) :
    Calls Try.prog 211 #[.slice A l.length c, .agg (#[.string x.1, .int .i64 x.2.1, .string x.2.2.1, .string x.2.2.2.1, .int .i64 x.2.2.2.2])] w fun e w' => ∃ A' c' L, e = .returned (.slice A' L.length c') ∧ OwnN w' w.heap.size (.slice A' L.length c') L ∧ L.length ≤ l.length + 1 ∧ AllN L ∧ Below w.heap.size w w' := by
  obtain ⟨i0, hi, hz0, hz1, hz2⟩ := info_parts infoNm
  have HI := Lib.hid (⟨hi, hz0, hz1, hz2⟩ : _ ∧ _ ∧ _ ∧ _)
  clear hi hz0 hz1 hz2
  have HF := Lib.hid hf
  have HXF := Lib.hid hx
  have hB0 := Blk.new (w.alloc (.cells (#[.string x.1, .int .i64 x.2.1, .string x.2.2.1, .string x.2.2.2.1, .int .i64 x.2.2.2.2]) 130)) 130 #[]
  rw [World.size_alloc] at hB0
  have H0 : Hid (PSN w x (.slice (some ⟨w.heap.size + 1, 0, none⟩) 0 0) [] ((w.alloc (.cells (#[.string x.1, .int .i64 x.2.1, .string x.2.2.1, .string x.2.2.2.1, .int .i64 x.2.2.2.2]) 130)).alloc (.cells #[] 130))) := Lib.hid ⟨own_of_blk (base := w.heap.size + 1) (n := 0) (k := 5) (xs := []) hB0 (Nat.le_refl _) (Nat.zero_le _) rfl rfl, (Blk.new w 130 (#[.string x.1, .int .i64 x.2.1, .string x.2.2.1, .string x.2.2.2.1, .int .i64 x.2.2.2.2])).alloc _, ((Below.refl w.heap.size w).alloc (Nat.le_refl _) _).alloc (by simp) _, fun y h => absurd h (by simp), by simp⟩
  obtain ⟨xs, xk, xa, xb, xn⟩ := x
  clear hf hx hB0
  go_enter Try.func211, Try.ntmps211
  go_wp2
  go_loopw [5, 6, 7] (fun v dn i wr => ∃ (k : Nat) (L : List Nm) (AL : Option Addr) (cL : Nat) (d : Bool), k ≤ l.length ∧ i = .int .i64 k ∧ dn = .bool d ∧ v = .slice AL L.length cL ∧ Hid (L.length + (if d = true then 0 else 1) ≤ k + 1) ∧ Hid (PSN w (xs, xk, xa, xb, xn) v L wr)) (fun _ _ i _ => l.length - (intOf i).toNat)
  case atStart => exact ⟨0, [], _, _, false, by omega, rfl, rfl, rfl, Lib.hid (by simp), H0⟩
  case round =>
    clear H0
    obtain ⟨k, L, AL, cL, d, hk, rfl, rfl, rfl, HL, HP⟩ := hrel
    have hwl := HP.out.2.2.2.2
    by_cases hlt : k < l.length
    · obtain ⟨b, o, e, _⟩ := hS (by omega)
      subst e
      have HKY := Lib.hid (List.getElem?_eq_getElem hlt)
      have HY := Lib.hid (HF.out l[k] (List.getElem_mem hlt))
      generalize l[k] = y at *
      have hki : (k : Int) < (l.length : Int) := by omega
      have hki0 : (0 : Int) ≤ (k : Int) := by omega
      have HS := Lib.hid hS
      clear hS
      obtain ⟨ys, yk, ya, yb, yn⟩ := y
      cases d
      case true =>
        obtain ⟨c0, c1, c2, c3, c4, hbl, hxl, x0⟩ := HP.out.cells HS.out HKY.out
        simp only at c0 c1 c2 c3 c4 x0
        go_wp2_with fail
        refine wp_region_below (by kernel_rfl) (by kernel_rfl) ?_
        iterate 12 (first | go_big_quiet_skip | (refine wpQuiet_step (fun K hK => ?_); go_simp; first | (apply Exists.intro; refine ⟨fun W hW => ?_, hK _ ?_⟩; (first | rfl | (have y0x := (hW.cell (p := ⟨b, o + k * 5, none⟩) hbl).trans c0; have x0x := (hW.cell (p := ⟨w.heap.size, 0, none⟩) hxl).trans x0; go_simp; rfl)); clear hK K) | (refine hK _ ?_; clear hK K)))
        refine wpQuiet_nil ?_
        intro W hW
        have HP := Lib.hid (HP.out.below hW)
        clear hW c0 c1 c2 c3 c4 x0 hbl hxl
        generalize W = Wa at *
        obtain ⟨c0, c1, c2, c3, c4, hbl, hxl, x0⟩ := HP.out.cells HS.out HKY.out
        simp only at c0 c1 c2 c3 c4 x0
        cases heq : (ys.toList == xs.toList)
        case false =>
          go_wp2_with fail
          refine wp_region_below (by kernel_rfl) (by kernel_rfl) ?_
          iterate 8 (first | go_big_quiet_skip | (refine wpQuiet_step (fun K hK => ?_); go_simp; first | (apply Exists.intro; refine ⟨fun W hW => ?_, hK _ ?_⟩; (first | rfl | (have y0x := (hW.cell (p := ⟨b, o + k * 5, none⟩) hbl).trans c0; have x0x := (hW.cell (p := ⟨w.heap.size, 0, none⟩) hxl).trans x0; go_simp; rfl)); clear hK K) | (refine hK _ ?_; clear hK K)))
          refine wpQuiet_nil ?_
          intro W hW
          have HP := Lib.hid (HP.out.below hW)
          clear hW c0 c1 c2 c3 c4 x0 hbl hxl
          generalize W = Wb at *
          obtain ⟨c0, c1, c2, c3, c4, hbl, hxl, x0⟩ := HP.out.cells HS.out HKY.out
          simp only at c0 c1 c2 c3 c4 x0
          have hlen : L.length ≤ 1000 := by have := HL.out; (try split at this) <;> omega
          have hownA := HP.out.1.alloc (.cells #[.string ys, .int .i64 yk, .string ya, .string yb, .int .i64 yn] 130)
          have hnewA := new_cells Wb [.string ys, .int .i64 yk, .string ya, .string yb, .int .i64 yn] 130
          have hszA := HP.out.2.2.2.2
          have HPA := Lib.hid HP.out
          go_wp2_with (at_builtin; refine wpList_append_own _ rfl (.tmp 39) (.tmp 44) 79 rfl (w.heap.size + 1) 130 i0 _ 5 64 Try.underlying79 HI.out.1 HI.out.2.1 HI.out.2.2.1 HI.out.2.2.2 rfl (by decide) (.slice AL L.length cL) L.length (L.flatMap encNm) rfl hownA ⟨Wb.heap.size, 0, none⟩ 1 1 [.string ys, .int .i64 yk, .string ya, .string yb, .int .i64 yn] rfl rfl hnewA (by simp [Value.oneCell']) (by unfold maxLen; omega) (by omega) (by simp; omega) ?_; intro v8 w8 ho8 hg8 _; obtain ⟨L8, hL8, hp8⟩ : ∃ M : List Nm, M.length = L.length + 1 ∧ PSN w (xs, xk, xa, xb, xn) v8 M w8 := ⟨_, List.length_append, PSN.app (z := (ys, yk, ya, yb, yn)) HPA.out HY.out _ ho8 hg8⟩; obtain ⟨A8, c8, rfl, _, _, _⟩ := hp8.1.sl; have HP := Lib.hid hp8; have HL8 := Lib.hid hL8; clear hownA hnewA hszA ho8 hg8 HPA hp8 hL8)
          go_roundw
          case rel => exact ⟨k + 1, L8, _, _, true, by omega, by go_num, rfl, rfl, Lib.hid (by have := HL.out; have := HL8.out; simp at *; omega), HP⟩
          case measure => simp [intOf]; omega
        case true =>
          go_wp2_with fail
          refine wp_region_below (by kernel_rfl) (by kernel_rfl) ?_
          iterate 8 (first | go_big_quiet_skip | (refine wpQuiet_step (fun K hK => ?_); go_simp; first | (apply Exists.intro; refine ⟨fun W hW => ?_, hK _ ?_⟩; (first | rfl | (have y0x := (hW.cell (p := ⟨b, o + k * 5, none⟩) hbl).trans c0; have x0x := (hW.cell (p := ⟨w.heap.size, 0, none⟩) hxl).trans x0; go_simp; rfl)); clear hK K) | (refine hK _ ?_; clear hK K)))
          refine wpQuiet_nil ?_
          intro W hW
          have HP := Lib.hid (HP.out.below hW)
          clear hW c0 c1 c2 c3 c4 x0 hbl hxl
          generalize W = Wb at *
          go_wp2
          go_roundw
          case rel => exact ⟨k + 1, L, _, _, true, by omega, by go_num, rfl, rfl, Lib.hid (by have := HL.out; simp at *; omega), HP⟩
          case measure => simp [intOf]; omega
      case false =>
        obtain ⟨c0, c1, c2, c3, c4, hbl, hxl, x0⟩ := HP.out.cells HS.out HKY.out
        simp only at c0 c1 c2 c3 c4 x0
        cases hab : ltB ys xs
        case true =>
          have hge : Op.bytesLess ys.toList xs.toList = true := hab
          clear hab
          go_wp2_with fail
          refine wp_region_below (by kernel_rfl) (by kernel_rfl) ?_
          iterate 12 (first | go_big_quiet_skip | (refine wpQuiet_step (fun K hK => ?_); go_simp; first | (apply Exists.intro; refine ⟨fun W hW => ?_, hK _ ?_⟩; (first | rfl | (have y0x := (hW.cell (p := ⟨b, o + k * 5, none⟩) hbl).trans c0; have x0x := (hW.cell (p := ⟨w.heap.size, 0, none⟩) hxl).trans x0; go_simp; rfl)); clear hK K) | (refine hK _ ?_; clear hK K)))
          refine wpQuiet_nil ?_
          intro W hW
          have HP := Lib.hid (HP.out.below hW)
          clear hW c0 c1 c2 c3 c4 x0 hbl hxl
          generalize W = Wa at *
          obtain ⟨c0, c1, c2, c3, c4, hbl, hxl, x0⟩ := HP.out.cells HS.out HKY.out
          simp only at c0 c1 c2 c3 c4 x0
          cases heq : (ys.toList == xs.toList)
          case false =>
            go_wp2_with fail
            refine wp_region_below (by kernel_rfl) (by kernel_rfl) ?_
            iterate 8 (first | go_big_quiet_skip | (refine wpQuiet_step (fun K hK => ?_); go_simp; first | (apply Exists.intro; refine ⟨fun W hW => ?_, hK _ ?_⟩; (first | rfl | (have y0x := (hW.cell (p := ⟨b, o + k * 5, none⟩) hbl).trans c0; have x0x := (hW.cell (p := ⟨w.heap.size, 0, none⟩) hxl).trans x0; go_simp; rfl)); clear hK K) | (refine hK _ ?_; clear hK K)))
            refine wpQuiet_nil ?_
            intro W hW
            have HP := Lib.hid (HP.out.below hW)
            clear hW c0 c1 c2 c3 c4 x0 hbl hxl
            generalize W = Wb at *
            obtain ⟨c0, c1, c2, c3, c4, hbl, hxl, x0⟩ := HP.out.cells HS.out HKY.out
            simp only at c0 c1 c2 c3 c4 x0
            have hlen : L.length ≤ 1000 := by have := HL.out; (try split at this) <;> omega
            have hownA := HP.out.1.alloc (.cells #[.string ys, .int .i64 yk, .string ya, .string yb, .int .i64 yn] 130)
            have hnewA := new_cells Wb [.string ys, .int .i64 yk, .string ya, .string yb, .int .i64 yn] 130
            have hszA := HP.out.2.2.2.2
            have HPA := Lib.hid HP.out
            go_wp2_with (at_builtin; refine wpList_append_own _ rfl (.tmp 39) (.tmp 44) 79 rfl (w.heap.size + 1) 130 i0 _ 5 64 Try.underlying79 HI.out.1 HI.out.2.1 HI.out.2.2.1 HI.out.2.2.2 rfl (by decide) (.slice AL L.length cL) L.length (L.flatMap encNm) rfl hownA ⟨Wb.heap.size, 0, none⟩ 1 1 [.string ys, .int .i64 yk, .string ya, .string yb, .int .i64 yn] rfl rfl hnewA (by simp [Value.oneCell']) (by unfold maxLen; omega) (by omega) (by simp; omega) ?_; intro v8 w8 ho8 hg8 _; obtain ⟨L8, hL8, hp8⟩ : ∃ M : List Nm, M.length = L.length + 1 ∧ PSN w (xs, xk, xa, xb, xn) v8 M w8 := ⟨_, List.length_append, PSN.app (z := (ys, yk, ya, yb, yn)) HPA.out HY.out _ ho8 hg8⟩; obtain ⟨A8, c8, rfl, _, _, _⟩ := hp8.1.sl; have HP := Lib.hid hp8; have HL8 := Lib.hid hL8; clear hownA hnewA hszA ho8 hg8 HPA hp8 hL8)
            go_roundw
            case rel => exact ⟨k + 1, L8, _, _, false, by omega, by go_num, rfl, rfl, Lib.hid (by have := HL.out; have := HL8.out; simp at *; omega), HP⟩
            case measure => simp [intOf]; omega
          case true =>
            go_wp2_with fail
            refine wp_region_below (by kernel_rfl) (by kernel_rfl) ?_
            iterate 8 (first | go_big_quiet_skip | (refine wpQuiet_step (fun K hK => ?_); go_simp; first | (apply Exists.intro; refine ⟨fun W hW => ?_, hK _ ?_⟩; (first | rfl | (have y0x := (hW.cell (p := ⟨b, o + k * 5, none⟩) hbl).trans c0; have x0x := (hW.cell (p := ⟨w.heap.size, 0, none⟩) hxl).trans x0; go_simp; rfl)); clear hK K) | (refine hK _ ?_; clear hK K)))
            refine wpQuiet_nil ?_
            intro W hW
            have HP := Lib.hid (HP.out.below hW)
            clear hW c0 c1 c2 c3 c4 x0 hbl hxl
            generalize W = Wb at *
            go_wp2
            go_roundw
            case rel => exact ⟨k + 1, L, _, _, false, by omega, by go_num, rfl, rfl, Lib.hid (by have := HL.out; simp at *; omega), HP⟩
            case measure => simp [intOf]; omega
        case false =>
          have hge : Op.bytesLess ys.toList xs.toList = false := hab
          clear hab
          go_wp2_with fail
          refine wp_region_below (by kernel_rfl) (by kernel_rfl) ?_
          iterate 12 (first | go_big_quiet_skip | (refine wpQuiet_step (fun K hK => ?_); go_simp; first | (apply Exists.intro; refine ⟨fun W hW => ?_, hK _ ?_⟩; (first | rfl | (have y0x := (hW.cell (p := ⟨b, o + k * 5, none⟩) hbl).trans c0; have x0x := (hW.cell (p := ⟨w.heap.size, 0, none⟩) hxl).trans x0; go_simp; rfl)); clear hK K) | (refine hK _ ?_; clear hK K)))
          refine wpQuiet_nil ?_
          intro W hW
          have HP := Lib.hid (HP.out.below hW)
          clear hW c0 c1 c2 c3 c4 x0 hbl hxl
          generalize W = Wa at *
          have hlen : L.length ≤ 1000 := by have := HL.out; (try split at this) <;> omega
          have x0 : Wa.cell? ⟨w.heap.size, 0, none⟩ = some (.string xs) := HP.out.2.1.cell 0
          have x1 : Wa.cell? ⟨w.heap.size, 1, none⟩ = some (.int .i64 xk) := HP.out.2.1.cell 1
          have x2 : Wa.cell? ⟨w.heap.size, 2, none⟩ = some (.string xa) := HP.out.2.1.cell 2
          have x3 : Wa.cell? ⟨w.heap.size, 3, none⟩ = some (.string xb) := HP.out.2.1.cell 3
          have x4 : Wa.cell? ⟨w.heap.size, 4, none⟩ = some (.int .i64 xn) := HP.out.2.1.cell 4
          have hxl := HP.out.2.1.lt
          have hownA := HP.out.1.alloc (.cells #[.string xs, .int .i64 xk, .string xa, .string xb, .int .i64 xn] 130)
          have hnewA := new_cells Wa [.string xs, .int .i64 xk, .string xa, .string xb, .int .i64 xn] 130
          have hszA := HP.out.2.2.2.2
          have HPA := Lib.hid HP.out
          go_wp2_with (at_builtin; refine wpList_append_own _ rfl (.tmp 27) (.tmp 29) 79 rfl (w.heap.size + 1) 130 i0 _ 5 64 Try.underlying79 HI.out.1 HI.out.2.1 HI.out.2.2.1 HI.out.2.2.2 rfl (by decide) (.slice AL L.length cL) L.length (L.flatMap encNm) rfl hownA ⟨Wa.heap.size, 0, none⟩ 1 1 [.string xs, .int .i64 xk, .string xa, .string xb, .int .i64 xn] rfl rfl hnewA (by simp [Value.oneCell']) (by unfold maxLen; omega) (by omega) (by simp; omega) ?_; intro v7 w7 ho7 hg7 _; obtain ⟨L7, hL7, hp7⟩ : ∃ M : List Nm, M.length = L.length + 1 ∧ PSN w (xs, xk, xa, xb, xn) v7 M w7 := ⟨_, List.length_append, PSN.app (z := (xs, xk, xa, xb, xn)) HPA.out HXF.out _ ho7 hg7⟩; obtain ⟨A7, c7, rfl, _, _, _⟩ := hp7.1.sl; have HP := Lib.hid hp7; have HL7 := Lib.hid hL7; clear hownA hnewA hszA ho7 hg7 HPA hp7 hL7)
          have HL := Lib.hid (show L7.length ≤ k + 1 by have := HL.out; have := HL7.out; simp at *; omega)
          try clear hge
          clear x0 x1 x2 x3 x4 hxl
          obtain ⟨c0, c1, c2, c3, c4, hbl, hxl, x0⟩ := HP.out.cells HS.out HKY.out
          simp only at c0 c1 c2 c3 c4 x0
          cases heq : (ys.toList == xs.toList)
          case false =>
            go_wp2_with fail
            refine wp_region_below (by kernel_rfl) (by kernel_rfl) ?_
            iterate 8 (first | go_big_quiet_skip | (refine wpQuiet_step (fun K hK => ?_); go_simp; first | (apply Exists.intro; refine ⟨fun W hW => ?_, hK _ ?_⟩; (first | rfl | (have y0x := (hW.cell (p := ⟨b, o + k * 5, none⟩) hbl).trans c0; have x0x := (hW.cell (p := ⟨w.heap.size, 0, none⟩) hxl).trans x0; go_simp; rfl)); clear hK K) | (refine hK _ ?_; clear hK K)))
            refine wpQuiet_nil ?_
            intro W hW
            have HP := Lib.hid (HP.out.below hW)
            clear hW c0 c1 c2 c3 c4 x0 hbl hxl
            generalize W = Wb at *
            obtain ⟨c0, c1, c2, c3, c4, hbl, hxl, x0⟩ := HP.out.cells HS.out HKY.out
            simp only at c0 c1 c2 c3 c4 x0
            have hlen : L7.length ≤ 1000 := by have := HL.out; (try split at this) <;> omega
            have hownA := HP.out.1.alloc (.cells #[.string ys, .int .i64 yk, .string ya, .string yb, .int .i64 yn] 130)
            have hnewA := new_cells Wb [.string ys, .int .i64 yk, .string ya, .string yb, .int .i64 yn] 130
            have hszA := HP.out.2.2.2.2
            have HPA := Lib.hid HP.out
            go_wp2_with (at_builtin; refine wpList_append_own _ rfl (.tmp 39) (.tmp 44) 79 rfl (w.heap.size + 1) 130 i0 _ 5 64 Try.underlying79 HI.out.1 HI.out.2.1 HI.out.2.2.1 HI.out.2.2.2 rfl (by decide) (.slice A7 L7.length c7) L7.length (L7.flatMap encNm) rfl hownA ⟨Wb.heap.size, 0, none⟩ 1 1 [.string ys, .int .i64 yk, .string ya, .string yb, .int .i64 yn] rfl rfl hnewA (by simp [Value.oneCell']) (by unfold maxLen; omega) (by omega) (by simp; omega) ?_; intro v8 w8 ho8 hg8 _; obtain ⟨L8, hL8, hp8⟩ : ∃ M : List Nm, M.length = L7.length + 1 ∧ PSN w (xs, xk, xa, xb, xn) v8 M w8 := ⟨_, List.length_append, PSN.app (z := (ys, yk, ya, yb, yn)) HPA.out HY.out _ ho8 hg8⟩; obtain ⟨A8, c8, rfl, _, _, _⟩ := hp8.1.sl; have HP := Lib.hid hp8; have HL8 := Lib.hid hL8; clear hownA hnewA hszA ho8 hg8 HPA hp8 hL8)
            go_roundw
            case rel => exact ⟨k + 1, L8, _, _, true, by omega, by go_num, rfl, rfl, Lib.hid (by have := HL.out; have := HL8.out; simp at *; omega), HP⟩
            case measure => simp [intOf]; omega
          case true =>
            go_wp2_with fail
            refine wp_region_below (by kernel_rfl) (by kernel_rfl) ?_
            iterate 8 (first | go_big_quiet_skip | (refine wpQuiet_step (fun K hK => ?_); go_simp; first | (apply Exists.intro; refine ⟨fun W hW => ?_, hK _ ?_⟩; (first | rfl | (have y0x := (hW.cell (p := ⟨b, o + k * 5, none⟩) hbl).trans c0; have x0x := (hW.cell (p := ⟨w.heap.size, 0, none⟩) hxl).trans x0; go_simp; rfl)); clear hK K) | (refine hK _ ?_; clear hK K)))
            refine wpQuiet_nil ?_
            intro W hW
            have HP := Lib.hid (HP.out.below hW)
            clear hW c0 c1 c2 c3 c4 x0 hbl hxl
            generalize W = Wb at *
            go_wp2
            go_roundw
            case rel => exact ⟨k + 1, L7, _, _, true, by omega, by go_num, rfl, rfl, Lib.hid (by have := HL.out; simp at *; omega), HP⟩
            case measure => simp [intOf]; omega
    · obtain rfl : k = l.length := by omega
      have hlen : L.length ≤ 1000 := by have := HL.out; split at this <;> omega
      cases d
      case true =>
        have HL := Lib.hid (show L.length ≤ l.length + 1 by have := HL.out; simp at this; omega)
        go_wp2
        go_ret
        exact ⟨_, _, L, rfl, HP.out.1.leB (by omega), HL.out, HP.out.2.2.2.1, HP.out.2.2.1⟩
      case false =>
        have HL := Lib.hid (show L.length ≤ l.length by have := HL.out; simp at this; omega)
        have x0 : wr.cell? ⟨w.heap.size, 0, none⟩ = some (.string xs) := HP.out.2.1.cell 0
        have x1 : wr.cell? ⟨w.heap.size, 1, none⟩ = some (.int .i64 xk) := HP.out.2.1.cell 1
        have x2 : wr.cell? ⟨w.heap.size, 2, none⟩ = some (.string xa) := HP.out.2.1.cell 2
        have x3 : wr.cell? ⟨w.heap.size, 3, none⟩ = some (.string xb) := HP.out.2.1.cell 3
        have x4 : wr.cell? ⟨w.heap.size, 4, none⟩ = some (.int .i64 xn) := HP.out.2.1.cell 4
        have hxl := HP.out.2.1.lt
        have hownA := HP.out.1.alloc (.cells #[.string xs, .int .i64 xk, .string xa, .string xb, .int .i64 xn] 130)
        have hnewA := new_cells wr [.string xs, .int .i64 xk, .string xa, .string xb, .int .i64 xn] 130
        have hszA := HP.out.2.2.2.2
        have HPA := Lib.hid HP.out
        go_wp2_with (at_builtin; refine wpList_append_own _ rfl (.tmp 48) (.tmp 50) 79 rfl (w.heap.size + 1) 130 i0 _ 5 64 Try.underlying79 HI.out.1 HI.out.2.1 HI.out.2.2.1 HI.out.2.2.2 rfl (by decide) (.slice AL L.length cL) L.length (L.flatMap encNm) rfl hownA ⟨wr.heap.size, 0, none⟩ 1 1 [.string xs, .int .i64 xk, .string xa, .string xb, .int .i64 xn] rfl rfl hnewA (by simp [Value.oneCell']) (by unfold maxLen; omega) (by omega) (by simp; omega) ?_; intro v7 w7 ho7 hg7 _; obtain ⟨L7, hL7, hp7⟩ : ∃ M : List Nm, M.length = L.length + 1 ∧ PSN w (xs, xk, xa, xb, xn) v7 M w7 := ⟨_, List.length_append, PSN.app (z := (xs, xk, xa, xb, xn)) HPA.out HXF.out _ ho7 hg7⟩; obtain ⟨A7, c7, rfl, _, _, _⟩ := hp7.1.sl; have HP := Lib.hid hp7; have HL7 := Lib.hid hL7; clear hownA hnewA hszA ho7 hg7 HPA hp7 hL7)
        go_ret
        exact ⟨_, _, _, rfl, HP.out.1.leB (by omega), by have := HL.out; have := HL7.out; omega, HP.out.2.2.2.1, HP.out.2.2.1⟩
end Go.Proofs.Ytpjkcmmmpgncmaa
