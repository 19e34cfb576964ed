import Derived.Test.YtpjkcmmmpgncmaaM31
import Derived.Test.YtpjkcmmmpgncmaaL6I
import Derived.Test.YtpjkcmmmpgncmaaLtrO
/- The reference's l7Ev: something that happens is drawn. -/
namespace Go.Proofs.Ytpjkcmmmpgncmaa
open Go.RowKit
def l7Na : List Int := [0, 4, 3, -1]
def l7Nb : List Int := [-1, 3, 9223372036854775807]
def l7Nc : List Int := [1, 2, 3, 1]
theorem l7Nc_le : ∀ x ∈ l7Nc, 1 ≤ x ∧ x ≤ 3 := by decide
def l7Sa : List ByteArray := [⟨#[]⟩, ⟨#[83, 48, 48]⟩]
def l7Sb : List ByteArray := [⟨#[103, 101, 116, 32, 97]⟩, ⟨#[48]⟩, ⟨#[53, 103, 101, 116, 32, 97]⟩]
theorem l7Sb_le : ∀ x ∈ l7Sb, x.size ≤ 6 := by decide

theorem TsOk.c {L : List Tk} : KpC (fun W => TsOk W L) := fun _ _ hk h => h.kp hk
/-- how l7Ev leaves -/
def EvD (u0 w : World) (RA : Option Addr) (rb : List UInt8) (rc g p n : Nat) (e : Ending) (w' : World) : Prop :=
  ∃ (kind who : Int) (bs : ByteArray) (q : Nat), e = .returned (.agg #[.int .i64 kind, .int .i64 who, .string bs]) ∧ q ≤ p + n ∧ Rd u0 w' RA rb rc g q ∧ w.grownBy w' (some g)
set_option maxRecDepth 100000 in
set_option maxHeartbeats 16000000 in
theorem l7Ev_any (u0 : World) (RA : Option Addr) (rb : List UInt8) (rc g p : Nat) (B : Nat) (now : Int) (A : Option Addr) (l : List Ver) (c b cT : Nat) (L : List Tk) (w : World) (hR : Rd u0 w RA rb rc g p) (hp : p < 500000) (hV : VK w now A l) (hO : OwnT w B (.slice (some ⟨b, 0, none⟩) 3 cT) L) (hL : L.length = 3) (hT : TsOk w L) :
    Calls Try.prog 97 #[.pointer (some ⟨g, 0, none⟩), .agg #[.int .i64 now, .slice A l.length c, .slice (some ⟨b, 0, none⟩) 3 cT]] w (EvD u0 w RA rb rc g p 700) := by
  obtain ⟨hbw, hbg, HRA⟩ : b < w.heap.size ∧ some g ≠ some b ∧ Hid (∀ (i : Nat) (hi : i < L.length), RdK w b (i * 8) L[i]) := by
    obtain ⟨b9, o9, cs9, e9, hB9, h9⟩ := SlK.of_own encTk_len (show w.ownsRow B 81 8 (.slice (some ⟨b, 0, none⟩) 3 cT) L.length (L.flatMap encTk) from hO) (by omega)
    injection e9 with e9
    injection e9 with e9 e10
    subst e9 e10
    refine ⟨hB9.lt, fun e => ?_, Lib.hid (fun i hi => RdK.of (fun j hj => ?_))⟩
    · injection e with e
      exact blk_ne (show Blk w g _ _ from hR.1) hB9 (by decide) e
    · have := h9 i j _ (List.getElem?_eq_getElem hi) hj
      rw [Nat.zero_add] at this
      exact (hB9.cell _).trans this
  have hbE := allocAll_below w [(35, #[.int .i64 now, .slice A l.length c, .slice (some ⟨b, 0, none⟩) 3 cT]), (58, #[.int .i64 0, .int .i64 0, .string ⟨#[]⟩])]
  have H : Hid (SD u0 RA rb rc g p w [(w.heap.size, 35, #[.int .i64 now, .slice A l.length c, .slice (some ⟨b, 0, none⟩) 3 cT]), (w.heap.size + 1, 58, #[.int .i64 0, .int .i64 0, .string ⟨#[]⟩])] [fun W => VK W now A l, fun W => TsOk W L] ((allocAll w [(35, #[.int .i64 now, .slice A l.length c, .slice (some ⟨b, 0, none⟩) 3 cT]), (58, #[.int .i64 0, .int .i64 0, .string ⟨#[]⟩])]))) := Lib.hid (SD.add (SD.add (SD.start hR [(35, #[.int .i64 now, .slice A l.length c, .slice (some ⟨b, 0, none⟩) 3 cT]), (58, #[.int .i64 0, .int .i64 0, .string ⟨#[]⟩])]) _ VK.c (VK.c _ _ (Kp.below hbE) hV)) _ TsOk.c (TsOk.c _ _ (Kp.below hbE) hT))
  clear hbE
  go_enter Try.func97, Try.ntmps97
  clear hV hT hO hR
  go_wp2_with fail
  change Calls _ _ _ (allocAll w [(35, #[.int .i64 now, .slice A l.length c, .slice (some ⟨b, 0, none⟩) 3 cT]), (58, #[.int .i64 0, .int .i64 0, .string ⟨#[]⟩])]) _
  generalize (allocAll w [(35, #[.int .i64 now, .slice A l.length c, .slice (some ⟨b, 0, none⟩) 3 cT]), (58, #[.int .i64 0, .int .i64 0, .string ⟨#[]⟩])]) = v0 at *
  refine (pick_any u0 RA rb rc g p 3 _ H.out.rd (by omega) (by omega)).mono ?_
  rintro e v1 ⟨k, hk, rfl, hR9, hG9⟩
  replace H := Lib.hid (H.out.draw hR9 hG9)
  clear hR9 hG9
  have hkL : k < L.length := by omega
  have HRK := Lib.hid (HRA.out k hkL)
  have HTI := Lib.hid (show L[k] ∈ L from List.getElem_mem hkL)
  generalize hty : L[k] = y at *
  clear hty HRA
  have hki : (k : Int) < 3 := by omega
  have hki0 : (0 : Int) ≤ (k : Int) := by omega
  go_upto_region 2 with fail
  go_cut [19] (fun v19 wx => ∃ (bv : Bool) (q1 : Nat), v19 = .bool bv ∧ q1 ≤ (p + 1) + 1 ∧ Hid (SD u0 RA rb rc g q1 w [(w.heap.size, 35, #[.int .i64 now, .slice A l.length c, .slice (some ⟨b, 0, none⟩) 3 cT]), (w.heap.size + 1, 58, #[.int .i64 0, .int .i64 0, .string ⟨#[]⟩])] [fun W => VK W now A l, fun W => TsOk W L] wx))
  case first =>
    cases hyg : y.gone
    case false =>
      obtain ⟨x0_0, x0_1, x0_2⟩ := Blk.q3 (H.out.blk 0 rfl)
      have r6 : v1.cell? ⟨b, k * 8 + 6, none⟩ = some (.bool y.gone) := (HRK.out.grown hbw H.out.gr hbg).2.2.2.2.2.2.1
      rw [hyg] at r6
      try go_wp2_with fail
      go_meet
      exact ⟨_, (p + 1), rfl, by omega, H⟩
    case true =>
      obtain ⟨x0_0, x0_1, x0_2⟩ := Blk.q3 (H.out.blk 0 rfl)
      have r6 : v1.cell? ⟨b, k * 8 + 6, none⟩ = some (.bool y.gone) := (HRK.out.grown hbw H.out.gr hbg).2.2.2.2.2.2.1
      rw [hyg] at r6
      go_wp2_with fail
      refine (pick_any u0 RA rb rc g (p + 1) 5 _ H.out.rd (by omega) (by omega)).mono ?_
      rintro e v2 ⟨k5, hk5, rfl, hR9, hG9⟩
      replace H := Lib.hid (H.out.draw hR9 hG9)
      clear x0_0 x0_1 x0_2 r6 hR9 hG9
      try go_wp2_with fail
      go_meet
      exact ⟨_, ((p + 1) + 1), rfl, by omega, H⟩
  case rest =>
    obtain ⟨bv, q1, rfl, hq1, HQ⟩ := hcut
    clear H
    have H := Lib.hid HQ.out
    clear HQ
    have H : Hid (SD u0 RA rb rc g q1 w [(w.heap.size, 35, #[.int .i64 now, .slice A l.length c, .slice (some ⟨b, 0, none⟩) 3 cT]), (w.heap.size + 1, 58, #[.int .i64 0, .int .i64 0, .string ⟨#[]⟩])] [fun W => VK W now A l, fun W => TsOk W L] wc) := Lib.hid H.out
    cases bv
    case true =>
      obtain ⟨x1_0, x1_1, x1_2⟩ := Blk.q3 (H.out.blk 1 rfl)
      obtain ⟨z1_0, z1_1, z1_2⟩ := Blk.z3 (H.out.blk 1 rfl)
      have l1 := (H.out.blk 1 rfl).lt
      have HZ := Lib.hid (SD.setN (SD.setN (SD.setN (H.out) 1 0 (.int .i64 3) rfl) 1 1 (.int .i64 k) rfl) 1 2 (.string ⟨#[]⟩) rfl)
      clear H
      go_wp2
      refine bodyPost_ret (v := .agg #[.int .i64 3, .int .i64 k, .string ⟨#[]⟩]) ?_ rfl (⟨3, k, ⟨#[]⟩, q1, rfl, by omega, HZ.out.rd, HZ.out.gr⟩)
      simp [results, Try.results97, go_sem, x1_0, x1_1, x1_2]
    case false =>
      go_wp2_with fail
      refine (pick_any u0 RA rb rc g q1 24 _ H.out.rd (by omega) (by omega)).mono ?_
      rintro e v3 ⟨k4, hk4, rfl, hR9, hG9⟩
      replace H := Lib.hid (H.out.draw hR9 hG9)
      clear hR9 hG9
      rcases (show k4 = 0 ∨ k4 = 1 ∨ k4 = 2 ∨ 2 < k4 by omega) with rfl | rfl | rfl | hk4
      case inl =>
        obtain ⟨x1_0, x1_1, x1_2⟩ := Blk.q3 (H.out.blk 1 rfl)
        obtain ⟨z1_0, z1_1, z1_2⟩ := Blk.z3 (H.out.blk 1 rfl)
        have l1 := (H.out.blk 1 rfl).lt
        have HZ := Lib.hid (SD.setN (SD.setN (SD.setN (H.out) 1 0 (.int .i64 2) rfl) 1 1 (.int .i64 k) rfl) 1 2 (.string ⟨#[]⟩) rfl)
        clear H
        go_wp2
        refine bodyPost_ret (v := .agg #[.int .i64 2, .int .i64 k, .string ⟨#[]⟩]) ?_ rfl (⟨2, k, ⟨#[]⟩, (q1 + 1), rfl, by omega, HZ.out.rd, HZ.out.gr⟩)
        simp [results, Try.results97, go_sem, x1_0, x1_1, x1_2]
      case inr.inl =>
        go_wp2_with fail
        have S9 := Sl.litN v3 3 l7Na #[.int .i64 0, .int .i64 4, .int .i64 3, .int .i64 (-1)] rfl
        have hw9 := (Below.refl v3.heap.size v3).alloc (Nat.le_refl _) (.cells #[.int .i64 0, .int .i64 4, .int .i64 3, .int .i64 (-1)] 3)
        have hg9 := H.out.rd.1.lt
        have HW9 := Lib.hid (H.out.kept hw9)
        refine (num_any u0 RA rb rc g (q1 + 1) _ l7Na 4 _ HW9.out.rd (by omega) (by decide) S9 (by intro b o h; simp at h; omega)).mono ?_
        rintro e v4 ⟨x, hx, rfl, hR9, hG9⟩
        replace H := Lib.hid (HW9.out.draw hR9 hG9)
        clear hR9 hG9 HW9 hw9 hg9 S9
        go_wp2_with fail
        have S9 := Sl.litS v4 9 l7Sa #[.string ⟨#[]⟩, .string ⟨#[83, 48, 48]⟩] rfl
        have hw9 := (Below.refl v4.heap.size v4).alloc (Nat.le_refl _) (.cells #[.string ⟨#[]⟩, .string ⟨#[83, 48, 48]⟩] 9)
        have hg9 := H.out.rd.1.lt
        have HW9 := Lib.hid (H.out.kept hw9)
        refine (of_any u0 RA rb rc g ((q1 + 1) + 1) _ l7Sa 2 _ HW9.out.rd (by omega) (by decide) S9 (by intro b o h; simp at h; omega)).mono ?_
        rintro e v5 ⟨s1, hs1, rfl, hR9, hG9⟩
        replace H := Lib.hid (HW9.out.draw hR9 hG9)
        clear hR9 hG9 HW9 hw9 hg9 S9
        obtain ⟨x1_0, x1_1, x1_2⟩ := Blk.q3 (H.out.blk 1 rfl)
        obtain ⟨z1_0, z1_1, z1_2⟩ := Blk.z3 (H.out.blk 1 rfl)
        have l1 := (H.out.blk 1 rfl).lt
        have HZ := Lib.hid (SD.setN (SD.setN (SD.setN (H.out) 1 0 (.int .i64 x) rfl) 1 1 (.int .i64 k) rfl) 1 2 (.string s1) rfl)
        clear H
        go_wp2
        refine bodyPost_ret (v := .agg #[.int .i64 x, .int .i64 k, .string s1]) ?_ rfl (⟨x, k, s1, (((q1 + 1) + 1) + 1), rfl, by omega, HZ.out.rd, HZ.out.gr⟩)
        simp [results, Try.results97, go_sem, x1_0, x1_1, x1_2]
      case inr.inr.inl =>
        go_wp2_with fail
        have S9 := Sl.litN v3 3 l7Nb #[.int .i64 (-1), .int .i64 3, .int .i64 9223372036854775807] rfl
        have hw9 := (Below.refl v3.heap.size v3).alloc (Nat.le_refl _) (.cells #[.int .i64 (-1), .int .i64 3, .int .i64 9223372036854775807] 3)
        have hg9 := H.out.rd.1.lt
        have HW9 := Lib.hid (H.out.kept hw9)
        refine (num_any u0 RA rb rc g (q1 + 1) _ l7Nb 3 _ HW9.out.rd (by omega) (by decide) S9 (by intro b o h; simp at h; omega)).mono ?_
        rintro e v6 ⟨x, hx, rfl, hR9, hG9⟩
        replace H := Lib.hid (HW9.out.draw hR9 hG9)
        clear hR9 hG9 HW9 hw9 hg9 S9
        obtain ⟨x1_0, x1_1, x1_2⟩ := Blk.q3 (H.out.blk 1 rfl)
        obtain ⟨z1_0, z1_1, z1_2⟩ := Blk.z3 (H.out.blk 1 rfl)
        have l1 := (H.out.blk 1 rfl).lt
        have HZ := Lib.hid (SD.setN (SD.setN (SD.setN (H.out) 1 0 (.int .i64 1) rfl) 1 1 (.int .i64 x) rfl) 1 2 (.string ⟨#[83, 48, 48]⟩) rfl)
        clear H
        go_wp2
        refine bodyPost_ret (v := .agg #[.int .i64 1, .int .i64 x, .string ⟨#[83, 48, 48]⟩]) ?_ rfl (⟨1, x, ⟨#[83, 48, 48]⟩, ((q1 + 1) + 1), rfl, by omega, HZ.out.rd, HZ.out.gr⟩)
        simp [results, Try.results97, go_sem, x1_0, x1_1, x1_2]
      case inr.inr.inr =>
        have hk40 : ((k4 : Int) == 0) = false := beq_eq_false_iff_ne.2 (by omega)
        have hk41 : ((k4 : Int) == 1) = false := beq_eq_false_iff_ne.2 (by omega)
        have hk42 : ((k4 : Int) == 2) = false := beq_eq_false_iff_ne.2 (by omega)
        go_upto_region 11 with fail
        clear hk40 hk41 hk42
        have c0_0 : ∀ W : World, Blk W w.heap.size 35 #[.int .i64 now, .slice A l.length c, .slice (some ⟨b, 0, none⟩) 3 cT] ∧ RdK W b (k * 8) y → W.cell? ⟨w.heap.size, 0, none⟩ = some (.int .i64 now) := fun W h => h.1.cell 0
        have c0_1 : ∀ W : World, Blk W w.heap.size 35 #[.int .i64 now, .slice A l.length c, .slice (some ⟨b, 0, none⟩) 3 cT] ∧ RdK W b (k * 8) y → W.cell? ⟨w.heap.size, 1, none⟩ = some (.slice A l.length c) := fun W h => h.1.cell 1
        have c0_2 : ∀ W : World, Blk W w.heap.size 35 #[.int .i64 now, .slice A l.length c, .slice (some ⟨b, 0, none⟩) 3 cT] ∧ RdK W b (k * 8) y → W.cell? ⟨w.heap.size, 2, none⟩ = some (.slice (some ⟨b, 0, none⟩) 3 cT) := fun W h => h.1.cell 2
        have c1_0 : ∀ W : World, Blk W w.heap.size 35 #[.int .i64 now, .slice A l.length c, .slice (some ⟨b, 0, none⟩) 3 cT] ∧ RdK W b (k * 8) y → W.cell? ⟨b, k * 8, none⟩ = some (.bool y.on) := fun W h => h.2.1
        have c1_1 : ∀ W : World, Blk W w.heap.size 35 #[.int .i64 now, .slice A l.length c, .slice (some ⟨b, 0, none⟩) 3 cT] ∧ RdK W b (k * 8) y → W.cell? ⟨b, k * 8 + 1, none⟩ = some (.bool y.bad) := fun W h => h.2.2.1
        have c1_2 : ∀ W : World, Blk W w.heap.size 35 #[.int .i64 now, .slice A l.length c, .slice (some ⟨b, 0, none⟩) 3 cT] ∧ RdK W b (k * 8) y → W.cell? ⟨b, k * 8 + 2, none⟩ = some (.int .i64 y.at_) := fun W h => h.2.2.2.1
        have c1_3 : ∀ W : World, Blk W w.heap.size 35 #[.int .i64 now, .slice A l.length c, .slice (some ⟨b, 0, none⟩) 3 cT] ∧ RdK W b (k * 8) y → W.cell? ⟨b, k * 8 + 3, none⟩ = some (.slice y.ws.1 y.ws.2.2.length y.ws.2.1) := fun W h => h.2.2.2.2.1
        have c1_4 : ∀ W : World, Blk W w.heap.size 35 #[.int .i64 now, .slice A l.length c, .slice (some ⟨b, 0, none⟩) 3 cT] ∧ RdK W b (k * 8) y → W.cell? ⟨b, k * 8 + 4, none⟩ = some (.slice y.ns.1 y.ns.2.2.length y.ns.2.1) := fun W h => h.2.2.2.2.2.1
        have c1_5 : ∀ W : World, Blk W w.heap.size 35 #[.int .i64 now, .slice A l.length c, .slice (some ⟨b, 0, none⟩) 3 cT] ∧ RdK W b (k * 8) y → W.cell? ⟨b, k * 8 + 5, none⟩ = some (.bool y.skip) := fun W h => h.2.2.2.2.2.2.1
        have c1_6 : ∀ W : World, Blk W w.heap.size 35 #[.int .i64 now, .slice A l.length c, .slice (some ⟨b, 0, none⟩) 3 cT] ∧ RdK W b (k * 8) y → W.cell? ⟨b, k * 8 + 6, none⟩ = some (.bool y.gone) := fun W h => h.2.2.2.2.2.2.2.1
        have c1_7 : ∀ W : World, Blk W w.heap.size 35 #[.int .i64 now, .slice A l.length c, .slice (some ⟨b, 0, none⟩) 3 cT] ∧ RdK W b (k * 8) y → W.cell? ⟨b, k * 8 + 7, none⟩ = some (.string y.inb) := fun W h => h.2.2.2.2.2.2.2.2
        have H0 := Lib.hid H.out
        replace H := Lib.hid (H.out.kept (kDB v3))
        have hS0 : Blk (World.drew v3) w.heap.size 35 #[.int .i64 now, .slice A l.length c, .slice (some ⟨b, 0, none⟩) 3 cT] ∧ RdK (World.drew v3) b (k * 8) y := ⟨H.out.blk 0 rfl, HRK.out.grown hbw H.out.gr hbg⟩
        have hgW : g < v3.heap.size := H0.out.rd.1.lt
        refine wp_region_M (fun W => Blk W w.heap.size 35 #[.int .i64 now, .slice A l.length c, .slice (some ⟨b, 0, none⟩) 3 cT] ∧ RdK W b (k * 8) y) 13 (by kernel_rfl) ((by (try dsimp only); (with_reducible assumption))) (fun hHeld => ?_)
        refine wpAnyM_takeP (i := 0) (v := ?_) rfl (by kernel_rfl) (by kernel_rfl) (by kernel_rfl) (by decide) (fun _ _ _ h => h) (Or.inl ⟨by rfl, ?_⟩) (by assumption) ?_
        rotate_left 1
        · (intro w; go_simp); all_goals (with_reducible rfl)
        try simp only [Act.put, List.getElem_toArray, List.getElem_cons_zero, List.setIfInBounds_toArray, List.set_cons_zero, List.set_cons_succ]
        refine wpAnyM_takeP (i := 1) (v := ?_) rfl (by kernel_rfl) (by kernel_rfl) (by kernel_rfl) (by decide) (fun _ _ _ h => h) (Or.inl ⟨by rfl, ?_⟩) (by assumption) ?_
        rotate_left 1
        · (intro w; go_simp); all_goals (with_reducible rfl)
        try simp only [Act.put, List.getElem_toArray, List.getElem_cons_zero, List.getElem_cons_succ, List.setIfInBounds_toArray, List.set_cons_zero, List.set_cons_succ]
        refine wpAnyM_take (i := 2) (v := ?_) rfl (by kernel_rfl) (by kernel_rfl) (by kernel_rfl) (by kernel_rfl) (by decide) (fun _ _ _ h => h) (Or.inl ⟨by rfl, ?_⟩) (by assumption) ?_
        rotate_left 1
        · (intro w hSw; (try dsimp only at hSw); go_simp); all_goals (with_reducible rfl)
        try simp only [Act.put, List.getElem_toArray, List.getElem_cons_zero, List.getElem_cons_succ, List.setIfInBounds_toArray, List.set_cons_zero, List.set_cons_succ]
        refine wpAnyM_takeP (i := 3) (v := ?_) rfl (by kernel_rfl) (by kernel_rfl) (by kernel_rfl) (by decide) (fun _ _ _ h => h) (Or.inl ⟨by rfl, ?_⟩) (by assumption) ?_
        rotate_left 1
        · (intro w; go_simp); all_goals (with_reducible rfl)
        try simp only [Act.put, List.getElem_toArray, List.getElem_cons_zero, List.getElem_cons_succ, List.setIfInBounds_toArray, List.set_cons_zero, List.set_cons_succ]
        refine wpAnyM_take (i := 4) (v := ?_) rfl (by kernel_rfl) (by kernel_rfl) (by kernel_rfl) (by kernel_rfl) (by decide) (fun _ _ _ h => h) (Or.inl ⟨by rfl, ?_⟩) (by assumption) ?_
        rotate_left 1
        · (intro w hSw; (try dsimp only at hSw); go_simp); all_goals (with_reducible rfl)
        try simp only [Act.put, List.getElem_toArray, List.getElem_cons_zero, List.getElem_cons_succ, List.setIfInBounds_toArray, List.set_cons_zero, List.set_cons_succ]
        refine wpAnyM_takeP (i := 5) (v := ?_) rfl (by kernel_rfl) (by kernel_rfl) (by kernel_rfl) (by decide) (fun _ _ _ h => h) (Or.inl ⟨by rfl, ?_⟩) (by assumption) ?_
        rotate_left 1
        · (intro w; go_simp); all_goals (with_reducible rfl)
        try simp only [Act.put, List.getElem_toArray, List.getElem_cons_zero, List.getElem_cons_succ, List.setIfInBounds_toArray, List.set_cons_zero, List.set_cons_succ]
        refine wpAnyM_takeP (i := 6) (v := ?_) rfl (by kernel_rfl) (by kernel_rfl) (by kernel_rfl) (by decide) (fun _ _ _ h => h) (Or.inl ⟨by rfl, ?_⟩) (by assumption) ?_
        rotate_left 1
        · (intro w; go_simp); all_goals (with_reducible rfl)
        try simp only [Act.put, List.getElem_toArray, List.getElem_cons_zero, List.getElem_cons_succ, List.setIfInBounds_toArray, List.set_cons_zero, List.set_cons_succ]
        refine wpAnyM_take (i := 7) (v := ?_) rfl (by kernel_rfl) (by kernel_rfl) (by kernel_rfl) (by kernel_rfl) (by decide) (fun _ _ _ h => h) (Or.inl ⟨by rfl, ?_⟩) (by assumption) ?_
        rotate_left 1
        · (intro w hSw; (try dsimp only at hSw); go_simp); all_goals (with_reducible rfl)
        try simp only [Act.put, List.getElem_toArray, List.getElem_cons_zero, List.getElem_cons_succ, List.setIfInBounds_toArray, List.set_cons_zero, List.set_cons_succ]
        refine wpAnyM_takeP (i := 8) (v := ?_) rfl (by kernel_rfl) (by kernel_rfl) (by kernel_rfl) (by decide) (fun _ _ _ h => h) (Or.inl ⟨by rfl, ?_⟩) (by assumption) ?_
        rotate_left 1
        · (intro w; go_simp); all_goals (with_reducible rfl)
        try simp only [Act.put, List.getElem_toArray, List.getElem_cons_zero, List.getElem_cons_succ, List.setIfInBounds_toArray, List.set_cons_zero, List.set_cons_succ]
        refine wpAnyM_step (i := 9) (by kernel_rfl) rfl (by decide) (fun K hK => ?_)
        go_simp
        have S9 := (Sl.litN v3 3 l7Nc #[.int .i64 1, .int .i64 2, .int .i64 3, .int .i64 1] rfl).below (kDB _)
        replace H := Lib.hid (H0.out.kept ((kFF v3 (.cells #[.int .i64 1, .int .i64 2, .int .i64 3, .int .i64 1] 3)).drew))
        have hS1 : Blk (World.drew (World.alloc v3 (.cells #[.int .i64 1, .int .i64 2, .int .i64 3, .int .i64 1] 3))) w.heap.size 35 #[.int .i64 now, .slice A l.length c, .slice (some ⟨b, 0, none⟩) 3 cT] ∧ RdK (World.drew (World.alloc v3 (.cells #[.int .i64 1, .int .i64 2, .int .i64 3, .int .i64 1] 3))) b (k * 8) y := ⟨H.out.blk 0 rfl, HRK.out.grown hbw H.out.gr hbg⟩
        clear H0
        refine hK.out _ _ ?_ (fun hHeld => ?_)
        · (try dsimp only); (with_reducible assumption)
        clear hK K
        try simp only [Act.put, List.getElem_toArray, List.getElem_cons_zero, List.getElem_cons_succ, List.setIfInBounds_toArray, List.set_cons_zero, List.set_cons_succ]
        refine wpAnyM_step (i := 10) (by kernel_rfl) rfl (by decide) (fun K hK => ?_)
        go_simp
        refine (num_any u0 RA rb rc g (q1 + 1) _ l7Nc 4 _ H.out.rd (by omega) (by decide) S9 (by intro b o h; simp at h; omega)).mono ?_
        rintro e v5 ⟨nx, hnx, rfl, hR9, hG9⟩
        obtain ⟨n, rfl, hn8⟩ : ∃ n : Nat, nx = (n : Int) ∧ n ≤ 8 := ⟨nx.toNat, by have := l7Nc_le nx hnx; omega, by have := l7Nc_le nx hnx; omega⟩
        replace H := Lib.hid (H.out.draw hR9 hG9)
        have hS2 : Blk v5 w.heap.size 35 #[.int .i64 now, .slice A l.length c, .slice (some ⟨b, 0, none⟩) 3 cT] ∧ RdK v5 b (k * 8) y := ⟨H.out.blk 0 rfl, HRK.out.grown hbw H.out.gr hbg⟩
        clear hR9 hG9 S9 hnx
        go_wp2_with fail
        refine hK.out _ _ ?_ (fun hHeld => ?_)
        · (try dsimp only); (with_reducible assumption)
        clear hK K
        try simp only [Act.put, List.getElem_toArray, List.getElem_cons_zero, List.getElem_cons_succ, List.setIfInBounds_toArray, List.set_cons_zero, List.set_cons_succ]
        refine wpAnyM_step (i := 11) (by kernel_rfl) rfl (by decide) (fun K hK => ?_)
        go_simp
        refine (l6List_any u0 RA rb rc g ((q1 + 1) + 1) now A l c y.on y.bad y.at_ y.ws.1 y.ws.2.2 y.ws.2.1 y.ns.1 y.ns.2.2 y.ns.2.1 y.skip y.gone y.inb n _ H.out.rd (by omega) (H.out.get 0 rfl) ((H.out.get 1 rfl) y HTI.out).1 ((H.out.get 1 rfl) y HTI.out).2.1 hn8).mono ?_
        rintro e v6 ⟨A4, LL, c4, q2, rfl, hLN, hc41, hc42, hq2, hR9, hG9⟩
        replace H := Lib.hid (SD.add (H.out.draw hR9 hG9) (fun W => LN W A4 LL 20) LN.c hLN)
        have hS3 : Blk v6 w.heap.size 35 #[.int .i64 now, .slice A l.length c, .slice (some ⟨b, 0, none⟩) 3 cT] ∧ RdK v6 b (k * 8) y := ⟨H.out.blk 0 rfl, HRK.out.grown hbw H.out.gr hbg⟩
        clear hR9 hG9 hLN
        go_wp2_with fail
        refine hK.out _ _ ?_ (fun hHeld => ?_)
        · (try dsimp only); (with_reducible assumption)
        clear hK K
        try simp only [Act.put, List.getElem_toArray, List.getElem_cons_zero, List.getElem_cons_succ, List.setIfInBounds_toArray, List.set_cons_zero, List.set_cons_succ]
        refine wpAnyM_step (i := 12) (by kernel_rfl) rfl (by decide) (fun K hK => ?_)
        go_simp
        have hLN4 := H.out.get 2 rfl
        have hLL20 : LL.length ≤ 20 := hLN4.2.2
        refine (textsB_any A4 LL c4 _ (by omega) hLN4.1.sl (fun x hx => ⟨Nat.le_trans (hLN4.2.1 x hx).1 (by decide), Nat.le_trans (hLN4.2.1 x hx).2 (by decide)⟩)).mono ?_
        rintro e v7 ⟨s, rfl, hs, hbz⟩
        have hs9 : s.size ≤ 900 := by omega
        replace H := Lib.hid (H.out.kept hbz)
        have hS4 : Blk v7 w.heap.size 35 #[.int .i64 now, .slice A l.length c, .slice (some ⟨b, 0, none⟩) 3 cT] ∧ RdK v7 b (k * 8) y := ⟨H.out.blk 0 rfl, HRK.out.grown hbw H.out.gr hbg⟩
        clear hbz hLN4 hs
        go_wp2_with fail
        refine hK.out _ _ ?_ (fun hHeld => ?_)
        · (try dsimp only); (with_reducible assumption)
        clear hK K
        try simp only [Act.put, List.getElem_toArray, List.getElem_cons_zero, List.getElem_cons_succ, List.setIfInBounds_toArray, List.set_cons_zero, List.set_cons_succ]
        refine wpAnyM_last (by kernel_rfl) rfl (fun K hK => ?_)
        go_simp
        refine hK.out _ _ ?_
        clear hK K
        try simp only [Act.put, List.getElem_toArray, List.getElem_cons_zero, List.getElem_cons_succ, List.setIfInBounds_toArray, List.set_cons_zero, List.set_cons_succ]
        refine wpAny_done (by kernel_rfl) ?_ _
        clear hS4
        have H : Hid (SD u0 RA rb rc g q2 w [(w.heap.size, 35, #[.int .i64 now, .slice A l.length c, .slice (some ⟨b, 0, none⟩) 3 cT]), (w.heap.size + 1, 58, #[.int .i64 0, .int .i64 0, .string ⟨#[]⟩])] [fun W => VK W now A l, fun W => TsOk W L, fun W => LN W A4 LL 20] v7) := Lib.hid H.out
        go_wp2_with fail
        refine (pick_any u0 RA rb rc g q2 6 _ H.out.rd (by omega) (by omega)).mono ?_
        rintro e v7 ⟨k6, hk6, rfl, hR9, hG9⟩
        replace H := Lib.hid (H.out.draw hR9 hG9)
        clear hR9 hG9
        go_upto_if 59 with fail
        go_cut [6] (fun v6 wx => ∃ (s3 : ByteArray) (q3 : Nat), v6 = .string s3 ∧ s3.size ≤ 906 ∧ q3 ≤ (q2 + 1) + 4 ∧ Hid (SD u0 RA rb rc g q3 w [(w.heap.size, 35, #[.int .i64 now, .slice A l.length c, .slice (some ⟨b, 0, none⟩) 3 cT]), (w.heap.size + 1, 58, #[.int .i64 0, .int .i64 0, .string ⟨#[]⟩])] [fun W => VK W now A l, fun W => TsOk W L, fun W => LN W A4 LL 20] wx))
        case first =>
          by_cases hk6 : k6 = 0
          case neg =>
            have hk6f : ((k6 : Int) == 0) = false := beq_eq_false_iff_ne.2 (by omega)
            try go_wp2_with fail
            go_meet
            exact ⟨s, (q2 + 1), rfl, by omega, by omega, H⟩
          case pos =>
            subst hk6
            go_wp2_with fail
            refine (torn_any u0 RA rb rc g ((q2 + 1)) s _ H.out.rd (by omega) (by omega)).mono ?_
            rintro e v8 ⟨s3, q3, rfl, hs3, hq3, hR9, hG9⟩
            replace H := Lib.hid (H.out.draw hR9 hG9)
            clear hR9 hG9
            try go_wp2_with fail
            go_meet
            exact ⟨s3, q3, rfl, by omega, by omega, H⟩
        case rest =>
          obtain ⟨s3, q3, rfl, hs3, hq3, HQ⟩ := hcut
          clear H
          have H := Lib.hid HQ.out
          clear HQ
          have H : Hid (SD u0 RA rb rc g q3 w [(w.heap.size, 35, #[.int .i64 now, .slice A l.length c, .slice (some ⟨b, 0, none⟩) 3 cT]), (w.heap.size + 1, 58, #[.int .i64 0, .int .i64 0, .string ⟨#[]⟩])] [fun W => VK W now A l, fun W => TsOk W L, fun W => LN W A4 LL 20] wc) := Lib.hid H.out
          go_upto_region 14 with fail
          go_cut [70] (fun v70 wx => ∃ (bv : Bool) (q4 : Nat), v70 = .bool bv ∧ (bv = true → 0 < s3.size) ∧ q4 ≤ q3 + 1 ∧ Hid (SD u0 RA rb rc g q4 w [(w.heap.size, 35, #[.int .i64 now, .slice A l.length c, .slice (some ⟨b, 0, none⟩) 3 cT]), (w.heap.size + 1, 58, #[.int .i64 0, .int .i64 0, .string ⟨#[]⟩])] [fun W => VK W now A l, fun W => TsOk W L, fun W => LN W A4 LL 20] wx))
          case first =>
            by_cases hs0 : 0 < s3.size
            case neg =>
              have hs0f : ¬ (0 : Int) < (s3.size : Int) := by omega
              have hs0d : decide ((0 : Int) < (s3.size : Int)) = false := decide_eq_false hs0f
              try go_wp2_with fail
              go_meet
              exact ⟨false, q3, rfl, (fun h => by cases h), by omega, H⟩
            case pos =>
              have hs0f : (0 : Int) < (s3.size : Int) := by omega
              have hs0d : decide ((0 : Int) < (s3.size : Int)) = true := decide_eq_true hs0f
              go_wp2_with fail
              refine (pick_any u0 RA rb rc g q3 5 _ H.out.rd (by omega) (by omega)).mono ?_
              rintro e v8 ⟨k7, hk7, rfl, hR9, hG9⟩
              replace H := Lib.hid (H.out.draw hR9 hG9)
              clear hR9 hG9
              try go_wp2_with fail
              go_meet
              exact ⟨_, q3 + 1, rfl, (fun _ => hs0), by omega, H⟩
          case rest =>
            obtain ⟨bv, q4, rfl, hbv, hq4, HQ⟩ := hcut
            clear H
            have H := Lib.hid HQ.out
            clear HQ
            have H : Hid (SD u0 RA rb rc g q4 w [(w.heap.size, 35, #[.int .i64 now, .slice A l.length c, .slice (some ⟨b, 0, none⟩) 3 cT]), (w.heap.size + 1, 58, #[.int .i64 0, .int .i64 0, .string ⟨#[]⟩])] [fun W => VK W now A l, fun W => TsOk W L, fun W => LN W A4 LL 20] wc) := Lib.hid H.out
            go_upto_if 70 with fail
            go_cut [6] (fun v6 wx => ∃ (s5 : ByteArray) (q5 : Nat), v6 = .string s5 ∧ s5.size ≤ 906 ∧ q5 ≤ q4 + 1 ∧ Hid (SD u0 RA rb rc g q5 w [(w.heap.size, 35, #[.int .i64 now, .slice A l.length c, .slice (some ⟨b, 0, none⟩) 3 cT]), (w.heap.size + 1, 58, #[.int .i64 0, .int .i64 0, .string ⟨#[]⟩])] [fun W => VK W now A l, fun W => TsOk W L, fun W => LN W A4 LL 20] wx))
            case first =>
              cases bv
              case false =>
                try go_wp2_with fail
                go_meet
                exact ⟨s3, q4, rfl, by omega, by omega, H⟩
              case true =>
                have hs0 := hbv rfl
                go_wp2_with fail
                refine (pick_any u0 RA rb rc g q4 s3.size _ H.out.rd (by omega) (by omega)).mono ?_
                rintro e v9 ⟨k8, hk8, rfl, hR9, hG9⟩
                replace H := Lib.hid (H.out.draw hR9 hG9)
                clear hR9 hG9
                have hk8a : (0 : Int) ≤ (k8 : Int) := by omega
                have hk8b : (k8 : Int) ≤ (s3.size : Int) := by omega
                have hk8c : (s3.extract 0 k8).size ≤ 906 := by rw [ByteArray.size_extract]; omega
                try go_wp2_with fail
                go_meet
                exact ⟨_, q4 + 1, rfl, hk8c, by omega, H⟩
            case rest =>
              obtain ⟨s5, q5, rfl, hs5, hq5, HQ⟩ := hcut
              clear H
              have H := Lib.hid HQ.out
              clear HQ
              have H : Hid (SD u0 RA rb rc g q5 w [(w.heap.size, 35, #[.int .i64 now, .slice A l.length c, .slice (some ⟨b, 0, none⟩) 3 cT]), (w.heap.size + 1, 58, #[.int .i64 0, .int .i64 0, .string ⟨#[]⟩])] [fun W => VK W now A l, fun W => TsOk W L, fun W => LN W A4 LL 20] wc) := Lib.hid H.out
              go_upto_region 16 with fail
              go_cut [89] (fun v89 wx => ∃ (bv : Bool) (q6 : Nat), v89 = .bool bv ∧ q6 ≤ q5 + 1 ∧ Hid (SD u0 RA rb rc g q6 w [(w.heap.size, 35, #[.int .i64 now, .slice A l.length c, .slice (some ⟨b, 0, none⟩) 3 cT]), (w.heap.size + 1, 58, #[.int .i64 0, .int .i64 0, .string ⟨#[]⟩])] [fun W => VK W now A l, fun W => TsOk W L, fun W => LN W A4 LL 20] wx))
              case first =>
                by_cases hi0 : 0 < y.inb.size
                case neg =>
                  have hi0f : ¬ (0 : Int) < (y.inb.size : Int) := by omega
                  have hi0d : decide ((0 : Int) < (y.inb.size : Int)) = false := decide_eq_false hi0f
                  obtain ⟨x0_0, x0_1, x0_2⟩ := Blk.q3 (H.out.blk 0 rfl)
                  have r7 : wc.cell? ⟨b, k * 8 + 7, none⟩ = some (.string y.inb) := (HRK.out.grown hbw H.out.gr hbg).2.2.2.2.2.2.2
                  try go_wp2_with fail
                  go_meet
                  exact ⟨false, q5, rfl, by omega, H⟩
                case pos =>
                  have hi0f : (0 : Int) < (y.inb.size : Int) := by omega
                  have hi0d : decide ((0 : Int) < (y.inb.size : Int)) = true := decide_eq_true hi0f
                  obtain ⟨x0_0, x0_1, x0_2⟩ := Blk.q3 (H.out.blk 0 rfl)
                  have r7 : wc.cell? ⟨b, k * 8 + 7, none⟩ = some (.string y.inb) := (HRK.out.grown hbw H.out.gr hbg).2.2.2.2.2.2.2
                  go_wp2_with fail
                  refine (pick_any u0 RA rb rc g q5 2 _ H.out.rd (by omega) (by omega)).mono ?_
                  rintro e v10 ⟨k9, hk9, rfl, hR9, hG9⟩
                  replace H := Lib.hid (H.out.draw hR9 hG9)
                  clear x0_0 x0_1 x0_2 r7 hR9 hG9
                  try go_wp2_with fail
                  go_meet
                  exact ⟨_, q5 + 1, rfl, by omega, H⟩
              case rest =>
                obtain ⟨bv, q6, rfl, hq6, HQ⟩ := hcut
                clear H
                have H := Lib.hid HQ.out
                clear HQ
                have H : Hid (SD u0 RA rb rc g q6 w [(w.heap.size, 35, #[.int .i64 now, .slice A l.length c, .slice (some ⟨b, 0, none⟩) 3 cT]), (w.heap.size + 1, 58, #[.int .i64 0, .int .i64 0, .string ⟨#[]⟩])] [fun W => VK W now A l, fun W => TsOk W L, fun W => LN W A4 LL 20] wc) := Lib.hid H.out
                cases bv
                case false =>
                  obtain ⟨x1_0, x1_1, x1_2⟩ := Blk.q3 (H.out.blk 1 rfl)
                  obtain ⟨z1_0, z1_1, z1_2⟩ := Blk.z3 (H.out.blk 1 rfl)
                  have l1 := (H.out.blk 1 rfl).lt
                  have HZ := Lib.hid (SD.setN (SD.setN (SD.setN (H.out) 1 0 (.int .i64 1) rfl) 1 1 (.int .i64 k) rfl) 1 2 (.string s5) rfl)
                  clear H
                  go_wp2
                  refine bodyPost_ret (v := .agg #[.int .i64 1, .int .i64 k, .string s5]) ?_ rfl (⟨1, k, s5, q6, rfl, by omega, HZ.out.rd, HZ.out.gr⟩)
                  simp [results, Try.results97, go_sem, x1_0, x1_1, x1_2]
                case true =>
                  go_wp2_with fail
                  have S9 := Sl.litS wc 9 l7Sb #[.string ⟨#[103, 101, 116, 32, 97]⟩, .string ⟨#[48]⟩, .string ⟨#[53, 103, 101, 116, 32, 97]⟩] rfl
                  have hw9 := (Below.refl wc.heap.size wc).alloc (Nat.le_refl _) (.cells #[.string ⟨#[103, 101, 116, 32, 97]⟩, .string ⟨#[48]⟩, .string ⟨#[53, 103, 101, 116, 32, 97]⟩] 9)
                  have hg9 := H.out.rd.1.lt
                  have HW9 := Lib.hid (H.out.kept hw9)
                  refine (of_any u0 RA rb rc g q6 _ l7Sb 3 _ HW9.out.rd (by omega) (by decide) S9 (by intro b o h; simp at h; omega)).mono ?_
                  rintro e v11 ⟨x, hx, rfl, hR9, hG9⟩
                  replace H := Lib.hid (HW9.out.draw hR9 hG9)
                  clear hR9 hG9 HW9 hw9 hg9 S9
                  have hxs := l7Sb_le x hx
                  have hcc : ¬ 9223372036854775807 < x.size + s5.size := by omega
                  obtain ⟨x1_0, x1_1, x1_2⟩ := Blk.q3 (H.out.blk 1 rfl)
                  obtain ⟨z1_0, z1_1, z1_2⟩ := Blk.z3 (H.out.blk 1 rfl)
                  have l1 := (H.out.blk 1 rfl).lt
                  have HZ := Lib.hid (SD.setN (SD.setN (SD.setN (H.out) 1 0 (.int .i64 1) rfl) 1 1 (.int .i64 k) rfl) 1 2 (.string (x ++ s5)) rfl)
                  clear H
                  go_wp2
                  refine bodyPost_ret (v := .agg #[.int .i64 1, .int .i64 k, .string (x ++ s5)]) ?_ rfl (⟨1, k, (x ++ s5), (q6 + 1), rfl, by omega, HZ.out.rd, HZ.out.gr⟩)
                  simp [results, Try.results97, go_sem, x1_0, x1_1, x1_2]
end Go.Proofs.Ytpjkcmmmpgncmaa
