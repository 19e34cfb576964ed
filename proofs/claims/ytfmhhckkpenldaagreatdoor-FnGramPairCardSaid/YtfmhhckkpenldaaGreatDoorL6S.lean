import Derived.Test.YtfmhhckkpenldaaGreatDoorM25
/- The reference's l6Some: a store, and one who talks, are drawn. -/
namespace Go.Proofs.YtfmhhckkpenldaaGreatDoor
open Go.RowKit
def l6In : List ByteArray := [⟨#[81]⟩, ⟨#[81, 48]⟩, ⟨#[81, 48, 53]⟩, ⟨#[81, 48, 53, 103, 101, 116]⟩, ⟨#[83, 48]⟩]
def l6Nu : List Int := [3, 5, 2, 0, 8]
theorem l6Nu_le : ∀ x ∈ l6Nu, 0 ≤ x ∧ x ≤ 8 := by decide

/-- how l6Some leaves -/
def SomeD (u0 w : World) (RA : Option Addr) (rb : List UInt8) (rc g p n : Nat) (e : Ending) (w' : World) : Prop :=
  ∃ (now : Int) (A : Option Addr) (l : List Ver) (c : Nat) (on bad : Bool) (t : Int) (A2 : Option Addr) (ws : List Wri) (c2 : Nat) (A3 : Option Addr) (ns : List Nm) (c3 : Nat) (skip gone : Bool) (inb : ByteArray) (q : Nat), e = .returned (.tuple #[.agg #[.int .i64 now, .slice A l.length c], .agg #[.bool on, .bool bad, .int .i64 t, .slice A2 ws.length c2, .slice A3 ns.length c3, .bool skip, .bool gone, .string inb]]) ∧ VK w' now A l ∧ WK w' A2 ws ∧ NK w' A3 ns ∧ q ≤ p + n ∧ Rd u0 w' RA rb rc g q ∧ w.grownBy w' (some g)
set_option maxRecDepth 100000 in
set_option maxHeartbeats 16000000 in
theorem l6Some_any (u0 : World) (RA : Option Addr) (rb : List UInt8) (rc g p : Nat) (w : World) (hR : Rd u0 w RA rb rc g p) (hp : p < 90000) :
    Calls Tryz.prog 12 #[.pointer (some ⟨g, 0, none⟩)] w (SomeD u0 w RA rb rc g p 4000) := by
  have hbE := allocAll_below w [(36, #[.int .i64 0, .slice none 0 0]), (44, #[.bool false, .bool false, .int .i64 0, .slice none 0 0, .slice none 0 0, .bool false, .bool false, .string ⟨#[]⟩])]
  have H : Hid (SD u0 RA rb rc g p w [(w.heap.size, 36, #[.int .i64 0, .slice none 0 0]), (w.heap.size + 1, 44, #[.bool false, .bool false, .int .i64 0, .slice none 0 0, .slice none 0 0, .bool false, .bool false, .string ⟨#[]⟩])] [] ((allocAll w [(36, #[.int .i64 0, .slice none 0 0]), (44, #[.bool false, .bool false, .int .i64 0, .slice none 0 0, .slice none 0 0, .bool false, .bool false, .string ⟨#[]⟩])]))) := Lib.hid (SD.start hR [(36, #[.int .i64 0, .slice none 0 0]), (44, #[.bool false, .bool false, .int .i64 0, .slice none 0 0, .slice none 0 0, .bool false, .bool false, .string ⟨#[]⟩])])
  clear hbE
  go_enter Tryz.func12, Tryz.ntmps12
  have HR0 := Lib.hid hR
  clear hR
  go_wp2_with fail
  change Calls _ _ _ (allocAll w [(36, #[.int .i64 0, .slice none 0 0]), (44, #[.bool false, .bool false, .int .i64 0, .slice none 0 0, .slice none 0 0, .bool false, .bool false, .string ⟨#[]⟩])]) _
  generalize (allocAll w [(36, #[.int .i64 0, .slice none 0 0]), (44, #[.bool false, .bool false, .int .i64 0, .slice none 0 0, .slice none 0 0, .bool false, .bool false, .string ⟨#[]⟩])]) = v0 at *
  refine (l2Some_any u0 RA rb rc g p _ H.out.rd (by omega)).mono ?_
  rintro e v1 ⟨now, l, v, q1, rfl, hov, hfv, hl60, hn0, hn40, hq1, hR9, hG9⟩
  obtain ⟨A, c, rfl, _, _, _⟩ := hov.sl
  have HVK := Lib.hid (VK.of hov hfv hl60 hn0 hn40)
  replace H := Lib.hid (H.out.draw hR9 hG9)
  clear hR9 hG9 hov hfv hl60 hn0 hn40
  have hw1 : w.heap.size + 1 < v1.heap.size := (H.out.blk 1 rfl).lt
  replace H := Lib.hid (SD.add (SD.add (SD.add H.out (fun W => VK W now A l) VK.c HVK.out) (fun W => WK W none []) WK.c (WK.nil _ _)) (fun W => NK W none []) NK.c (NK.nil _ _))
  clear HVK
  replace H := Lib.hid (SD.boxes H.out [(36, #[.int .i64 now, .slice A l.length c]), (44, #[.bool false, .bool false, .int .i64 0, .slice none 0 0, .slice none 0 0, .bool false, .bool false, .string ⟨#[]⟩])])
  go_upto_region 3 with fail
  change Code.wp _ _ _ _ (allocAll v1 [(36, #[.int .i64 now, .slice A l.length c]), (44, #[.bool false, .bool false, .int .i64 0, .slice none 0 0, .slice none 0 0, .bool false, .bool false, .string ⟨#[]⟩])])
  generalize allocAll v1 [(36, #[.int .i64 now, .slice A l.length c]), (44, #[.bool false, .bool false, .int .i64 0, .slice none 0 0, .slice none 0 0, .bool false, .bool false, .string ⟨#[]⟩])] = v2 at *
  generalize v1.heap.size = g2 at *
  have H : Hid (SD u0 RA rb rc g q1 w [(w.heap.size, 36, #[.int .i64 0, .slice none 0 0]), (w.heap.size + 1, 44, #[.bool false, .bool false, .int .i64 0, .slice none 0 0, .slice none 0 0, .bool false, .bool false, .string ⟨#[]⟩]), (g2, 36, #[.int .i64 now, .slice A l.length c]), (g2 + 1, 44, #[.bool false, .bool false, .int .i64 0, .slice none 0 0, .slice none 0 0, .bool false, .bool false, .string ⟨#[]⟩])] [fun W => VK W now A l, fun W => WK W none [], fun W => NK W none []] v2) := Lib.hid H.out
  go_cut [23] (fun v23 wx => ∃ (nowu : Int) (Au : Option Addr) (lu : List Ver) (cu : Nat) (onu badu : Bool) (tu : Int) (A2u : Option Addr) (wsu : List Wri) (c2u : Nat) (A3u : Option Addr) (nsu : List Nm) (c3u : Nat) (skipu goneu : Bool) (inbu : ByteArray) (q2 : Nat) (v9 : Value), v23 = v9 ∧ q2 ≤ q1 + 601 ∧ Hid (SD u0 RA rb rc g q2 w [(w.heap.size, 36, #[.int .i64 0, .slice none 0 0]), (w.heap.size + 1, 44, #[.bool false, .bool false, .int .i64 0, .slice none 0 0, .slice none 0 0, .bool false, .bool false, .string ⟨#[]⟩]), (g2, 36, #[.int .i64 nowu, .slice Au lu.length cu]), (g2 + 1, 44, #[.bool onu, .bool badu, .int .i64 tu, .slice A2u wsu.length c2u, .slice A3u nsu.length c3u, .bool skipu, .bool goneu, .string inbu])] [fun W => VK W nowu Au lu, fun W => WK W A2u wsu, fun W => NK W A3u nsu] wx))
  case first =>
    have hB2_0 : ∀ W : World, Blk W (g2) 36 #[.int .i64 now, .slice A l.length c] → W.cell? ⟨g2, 0, none⟩ = some (.int .i64 now) := fun W h => h.cell 0
    have hB2_1 : ∀ W : World, Blk W (g2) 36 #[.int .i64 now, .slice A l.length c] → W.cell? ⟨g2, 1, none⟩ = some (.slice A l.length c) := fun W h => h.cell 1
    have hB3_0 : ∀ W : World, Blk W (g2 + 1) 44 #[.bool false, .bool false, .int .i64 0, .slice none 0 0, .slice none 0 0, .bool false, .bool false, .string ⟨#[]⟩] → W.cell? ⟨g2 + 1, 0, none⟩ = some (.bool false) := fun W h => h.cell 0
    have hB3_1 : ∀ W : World, Blk W (g2 + 1) 44 #[.bool false, .bool false, .int .i64 0, .slice none 0 0, .slice none 0 0, .bool false, .bool false, .string ⟨#[]⟩] → W.cell? ⟨g2 + 1, 1, none⟩ = some (.bool false) := fun W h => h.cell 1
    have hB3_2 : ∀ W : World, Blk W (g2 + 1) 44 #[.bool false, .bool false, .int .i64 0, .slice none 0 0, .slice none 0 0, .bool false, .bool false, .string ⟨#[]⟩] → W.cell? ⟨g2 + 1, 2, none⟩ = some (.int .i64 0) := fun W h => h.cell 2
    have hB3_3 : ∀ W : World, Blk W (g2 + 1) 44 #[.bool false, .bool false, .int .i64 0, .slice none 0 0, .slice none 0 0, .bool false, .bool false, .string ⟨#[]⟩] → W.cell? ⟨g2 + 1, 3, none⟩ = some (.slice none 0 0) := fun W h => h.cell 3
    have hB3_4 : ∀ W : World, Blk W (g2 + 1) 44 #[.bool false, .bool false, .int .i64 0, .slice none 0 0, .slice none 0 0, .bool false, .bool false, .string ⟨#[]⟩] → W.cell? ⟨g2 + 1, 4, none⟩ = some (.slice none 0 0) := fun W h => h.cell 4
    have hB3_5 : ∀ W : World, Blk W (g2 + 1) 44 #[.bool false, .bool false, .int .i64 0, .slice none 0 0, .slice none 0 0, .bool false, .bool false, .string ⟨#[]⟩] → W.cell? ⟨g2 + 1, 5, none⟩ = some (.bool false) := fun W h => h.cell 5
    have hB3_6 : ∀ W : World, Blk W (g2 + 1) 44 #[.bool false, .bool false, .int .i64 0, .slice none 0 0, .slice none 0 0, .bool false, .bool false, .string ⟨#[]⟩] → W.cell? ⟨g2 + 1, 6, none⟩ = some (.bool false) := fun W h => h.cell 6
    have hB3_7 : ∀ W : World, Blk W (g2 + 1) 44 #[.bool false, .bool false, .int .i64 0, .slice none 0 0, .slice none 0 0, .bool false, .bool false, .string ⟨#[]⟩] → W.cell? ⟨g2 + 1, 7, none⟩ = some (.string ⟨#[]⟩) := fun W h => h.cell 7
    have hb2 : Blk v2 (g2) 36 #[.int .i64 now, .slice A l.length c] := H.out.blk 2 rfl
    have hb3 : Blk v2 (g2 + 1) 44 #[.bool false, .bool false, .int .i64 0, .slice none 0 0, .slice none 0 0, .bool false, .bool false, .string ⟨#[]⟩] := H.out.blk 3 rfl
    have hgw : g < w.heap.size := H.out.2.2.2.2
    try go_wp2_with fail
    replace H := Lib.hid (H.out.kept (kDB v2))
    refine wp_region_M (fun W => Blk W (g2) 36 #[.int .i64 now, .slice A l.length c] ∧ Blk W (g2 + 1) 44 #[.bool false, .bool false, .int .i64 0, .slice none 0 0, .slice none 0 0, .bool false, .bool false, .string ⟨#[]⟩]) 14 (by kernel_rfl) ((by (try dsimp only); (refine ⟨?_, ?_⟩ <;> (repeat (first | (with_reducible assumption) | (with_reducible refine Blk.drew ?_) | (with_reducible refine Blk.alloc ?_ _) | (with_reducible refine Blk.far ?_ (by simp <;> omega) _)))))) (fun hHeld => ?_)
    refine wpAnyM_take (i := 0) (v := ?_) rfl (by kernel_rfl) (by kernel_rfl) (by kernel_rfl) (by kernel_rfl) (by decide) (fun _ _ _ h => h) (Or.inl ⟨by rfl, ?_⟩) (by assumption) ?_
    rotate_left 1
    · (intro w hSw; (try dsimp only at hSw); go_simp); all_goals (with_reducible rfl)
    try simp only [Act.put, List.getElem_toArray, List.getElem_cons_zero, List.setIfInBounds_toArray, List.set_cons_zero, List.set_cons_succ]
    refine wpAnyM_take (i := 1) (v := ?_) rfl (by kernel_rfl) (by kernel_rfl) (by kernel_rfl) (by kernel_rfl) (by decide) (fun _ _ _ h => h) (Or.inl ⟨by rfl, ?_⟩) (by assumption) ?_
    rotate_left 1
    · (intro w hSw; (try dsimp only at hSw); go_simp); all_goals (with_reducible rfl)
    try simp only [Act.put, List.getElem_toArray, List.getElem_cons_zero, List.getElem_cons_succ, List.setIfInBounds_toArray, List.set_cons_zero, List.set_cons_succ]
    refine wpAnyM_takeP (i := 2) (v := ?_) rfl (by kernel_rfl) (by kernel_rfl) (by kernel_rfl) (by decide) (fun _ _ _ h => h) (Or.inl ⟨by rfl, ?_⟩) (by assumption) ?_
    rotate_left 1
    · (intro w; go_simp); all_goals (with_reducible rfl)
    try simp only [Act.put, List.getElem_toArray, List.getElem_cons_zero, List.getElem_cons_succ, List.setIfInBounds_toArray, List.set_cons_zero, List.set_cons_succ]
    refine wpAnyM_take (i := 3) (v := ?_) rfl (by kernel_rfl) (by kernel_rfl) (by kernel_rfl) (by kernel_rfl) (by decide) (fun _ _ _ h => h) (Or.inl ⟨by rfl, ?_⟩) (by assumption) ?_
    rotate_left 1
    · (intro w hSw; (try dsimp only at hSw); go_simp); all_goals (with_reducible rfl)
    try simp only [Act.put, List.getElem_toArray, List.getElem_cons_zero, List.getElem_cons_succ, List.setIfInBounds_toArray, List.set_cons_zero, List.set_cons_succ]
    refine wpAnyM_take (i := 4) (v := ?_) rfl (by kernel_rfl) (by kernel_rfl) (by kernel_rfl) (by kernel_rfl) (by decide) (fun _ _ _ h => h) (Or.inl ⟨by rfl, ?_⟩) (by assumption) ?_
    rotate_left 1
    · (intro w hSw; (try dsimp only at hSw); go_simp); all_goals (with_reducible rfl)
    try simp only [Act.put, List.getElem_toArray, List.getElem_cons_zero, List.getElem_cons_succ, List.setIfInBounds_toArray, List.set_cons_zero, List.set_cons_succ]
    refine wpAnyM_takeP (i := 5) (v := ?_) rfl (by kernel_rfl) (by kernel_rfl) (by kernel_rfl) (by decide) (fun _ _ _ h => h) (Or.inl ⟨by rfl, ?_⟩) (by assumption) ?_
    rotate_left 1
    · (intro w; go_simp); all_goals (with_reducible rfl)
    try simp only [Act.put, List.getElem_toArray, List.getElem_cons_zero, List.getElem_cons_succ, List.setIfInBounds_toArray, List.set_cons_zero, List.set_cons_succ]
    refine wpAnyM_step (i := 6) (by kernel_rfl) rfl (by decide) (fun K hK => ?_)
    go_simp
    refine hK.out _ _ ?_ (fun hHeld => ?_)
    · (try dsimp only); (refine ⟨?_, ?_⟩ <;> (repeat (first | (with_reducible assumption) | (with_reducible refine Blk.drew ?_) | (with_reducible refine Blk.alloc ?_ _) | (with_reducible refine Blk.far ?_ (by simp <;> omega) _))))
    clear hK K
    try simp only [Act.put, List.getElem_toArray, List.getElem_cons_zero, List.getElem_cons_succ, List.setIfInBounds_toArray, List.set_cons_zero, List.set_cons_succ]
    refine wpAnyM_step (i := 7) (by kernel_rfl) rfl (by decide) (fun K hK => ?_)
    go_simp
    have S9 := Sl.litN v2.drew 3 l6Nu #[.int .i64 3, .int .i64 5, .int .i64 2, .int .i64 0, .int .i64 8] rfl
    have hw9 := (Below.refl v2.drew.heap.size v2.drew).alloc (Nat.le_refl _) (.cells #[.int .i64 3, .int .i64 5, .int .i64 2, .int .i64 0, .int .i64 8] 3)
    have hg9 : g < v2.drew.heap.size := H.out.rd.1.lt
    have HW9 := Lib.hid (H.out.kept hw9)
    refine (num_any u0 RA rb rc g q1 _ l6Nu 5 _ HW9.out.rd (by omega) (by decide) S9 (by intro b o h; simp at h; have h8 : g < v2.heap.size := hg9; omega)).mono ?_
    rintro e v4 ⟨k, hk, rfl, hR9, hG9⟩
    have hk9 := l6Nu_le k hk
    obtain ⟨n, rfl⟩ : ∃ n : Nat, k = (n : Int) := ⟨k.toNat, by omega⟩
    have hn8 : n ≤ 8 := by omega
    replace H := Lib.hid (HW9.out.draw hR9 hG9)
    have hc2 : Blk v4 (g2) 36 #[.int .i64 now, .slice A l.length c] := H.out.blk 2 rfl
    have hc3 : Blk v4 (g2 + 1) 44 #[.bool false, .bool false, .int .i64 0, .slice none 0 0, .slice none 0 0, .bool false, .bool false, .string ⟨#[]⟩] := H.out.blk 3 rfl
    clear hR9 hG9 HW9 hw9 hg9 S9 hk hk9
    go_wp2_with fail
    refine hK.out _ _ ?_ (fun hHeld => ?_)
    · (try dsimp only); (refine ⟨?_, ?_⟩ <;> (repeat (first | (with_reducible assumption) | (with_reducible refine Blk.drew ?_) | (with_reducible refine Blk.alloc ?_ _) | (with_reducible refine Blk.far ?_ (by simp <;> omega) _))))
    clear hK K
    try simp only [Act.put, List.getElem_toArray, List.getElem_cons_zero, List.getElem_cons_succ, List.setIfInBounds_toArray, List.set_cons_zero, List.set_cons_succ]
    refine wpAnyM_step (i := 8) (by kernel_rfl) rfl (by decide) (fun K hK => ?_)
    go_simp
    refine (l6List_any u0 RA rb rc g (q1 + 1) now A l c false false 0 none [] 0 none [] 0 false false ⟨#[]⟩ n _ H.out.rd (by omega) (H.out.get 0 rfl) (H.out.get 1 rfl) (H.out.get 2 rfl) hn8).mono ?_
    rintro e v5 ⟨A4, L, c4, q2, rfl, hLN, _, _, hq2, hR9, hG9⟩
    replace H := Lib.hid (H.out.draw hR9 hG9)
    have HLN := Lib.hid hLN
    have hc2 : Blk v5 (g2) 36 #[.int .i64 now, .slice A l.length c] := H.out.blk 2 rfl
    have hc3 : Blk v5 (g2 + 1) 44 #[.bool false, .bool false, .int .i64 0, .slice none 0 0, .slice none 0 0, .bool false, .bool false, .string ⟨#[]⟩] := H.out.blk 3 rfl
    clear hR9 hG9 hLN
    go_wp2_with fail
    refine hK.out _ _ ?_ (fun hHeld => ?_)
    · (try dsimp only); (refine ⟨?_, ?_⟩ <;> (repeat (first | (with_reducible assumption) | (with_reducible refine Blk.drew ?_) | (with_reducible refine Blk.alloc ?_ _) | (with_reducible refine Blk.far ?_ (by simp <;> omega) _))))
    clear hK K
    try simp only [Act.put, List.getElem_toArray, List.getElem_cons_zero, List.getElem_cons_succ, List.setIfInBounds_toArray, List.set_cons_zero, List.set_cons_succ]
    refine wpAnyM_step (i := 9) (by kernel_rfl) rfl (by decide) (fun K hK => ?_)
    go_simp
    refine (l6All_any now A l c false false 0 none [] 0 none [] 0 false false ⟨#[]⟩ A4 L c4 _ (H.out.get 0 rfl) (H.out.get 1 rfl) (H.out.get 2 rfl) HLN.out.1.sl HLN.out.2.1 HLN.out.2.2).mono ?_
    rintro e v6 ⟨nowu, Au, lu, cu, onu, badu, tu, A2u, wsu, c2u, A3u, nsu, c3u, skipu, goneu, inbu, A5, L5, c5, rfl, hV2, hW2, hN2, _, _, _, hb6⟩
    replace H := Lib.hid (SD.add (SD.add (SD.add (H.out.kept hb6) (fun W => VK W nowu Au lu) VK.c hV2) (fun W => WK W A2u wsu) WK.c hW2) (fun W => NK W A3u nsu) NK.c hN2)
    have hc2 : Blk v6 (g2) 36 #[.int .i64 now, .slice A l.length c] := H.out.blk 2 rfl
    have hc3 : Blk v6 (g2 + 1) 44 #[.bool false, .bool false, .int .i64 0, .slice none 0 0, .slice none 0 0, .bool false, .bool false, .string ⟨#[]⟩] := H.out.blk 3 rfl
    have hf2 := fun j => (H.out.blk 2 rfl).frozen j
    have hf3 := fun j => (H.out.blk 3 rfl).frozen j
    have hl2 := (H.out.blk 2 rfl).lt
    have hl3 := (H.out.blk 3 rfl).lt
    have hkk : v6.cell? ⟨g2, 0, none⟩ = some (.int .i64 now) ∧ v6.cell? ⟨g2, 1, none⟩ = some (.slice A l.length c) ∧ v6.cell? ⟨g2 + 1, 0, none⟩ = some (.bool false) ∧ v6.cell? ⟨g2 + 1, 1, none⟩ = some (.bool false) ∧ v6.cell? ⟨g2 + 1, 2, none⟩ = some (.int .i64 0) ∧ v6.cell? ⟨g2 + 1, 3, none⟩ = some (.slice none 0 0) ∧ v6.cell? ⟨g2 + 1, 4, none⟩ = some (.slice none 0 0) ∧ v6.cell? ⟨g2 + 1, 5, none⟩ = some (.bool false) ∧ v6.cell? ⟨g2 + 1, 6, none⟩ = some (.bool false) ∧ v6.cell? ⟨g2 + 1, 7, none⟩ = some (.string ⟨#[]⟩) := ⟨(H.out.blk 2 rfl).cell 0, (H.out.blk 2 rfl).cell 1, (H.out.blk 3 rfl).cell 0, (H.out.blk 3 rfl).cell 1, (H.out.blk 3 rfl).cell 2, (H.out.blk 3 rfl).cell 3, (H.out.blk 3 rfl).cell 4, (H.out.blk 3 rfl).cell 5, (H.out.blk 3 rfl).cell 6, (H.out.blk 3 rfl).cell 7⟩
    clear hb6 hV2 hW2 hN2
    go_wp2_with fail
    refine hK.out _ _ ?_ (fun hHeld => ?_)
    · (try dsimp only); (refine ⟨?_, ?_⟩ <;> (repeat (first | (with_reducible assumption) | (with_reducible refine Blk.drew ?_) | (with_reducible refine Blk.alloc ?_ _) | (with_reducible refine Blk.far ?_ (by simp <;> omega) _))))
    clear hK K
    try simp only [Act.put, List.getElem_toArray, List.getElem_cons_zero, List.getElem_cons_succ, List.setIfInBounds_toArray, List.set_cons_zero, List.set_cons_succ]
    refine wpAnyM_takeP (i := 10) (v := ?_) rfl (by kernel_rfl) (by kernel_rfl) (by kernel_rfl) (by decide) (fun _ _ _ h => h) (Or.inl ⟨by rfl, ?_⟩) (by assumption) ?_
    rotate_left 1
    · (intro w; go_simp); all_goals (with_reducible rfl)
    try simp only [Act.put, List.getElem_toArray, List.getElem_cons_zero, List.getElem_cons_succ, List.setIfInBounds_toArray, List.set_cons_zero, List.set_cons_succ]
    refine wpAnyM_takeP (i := 11) (v := ?_) rfl (by kernel_rfl) (by kernel_rfl) (by kernel_rfl) (by decide) (fun _ _ _ h => h) (Or.inl ⟨by rfl, ?_⟩) (by assumption) ?_
    rotate_left 1
    · (intro w; go_simp); all_goals (with_reducible rfl)
    try simp only [Act.put, List.getElem_toArray, List.getElem_cons_zero, List.getElem_cons_succ, List.setIfInBounds_toArray, List.set_cons_zero, List.set_cons_succ]
    refine wpAnyM_takeP (i := 12) (v := ?_) rfl (by kernel_rfl) (by kernel_rfl) (by kernel_rfl) (by decide) (fun _ _ _ h => h) (Or.inl ⟨by rfl, ?_⟩) (by assumption) ?_
    rotate_left 1
    · (intro w; go_simp); all_goals (with_reducible rfl)
    try simp only [Act.put, List.getElem_toArray, List.getElem_cons_zero, List.getElem_cons_succ, List.setIfInBounds_toArray, List.set_cons_zero, List.set_cons_succ]
    refine wpAnyM_takeP (i := 13) (v := ?_) rfl (by kernel_rfl) (by kernel_rfl) (by kernel_rfl) (by decide) (fun _ _ _ h => h) (Or.inl ⟨by rfl, ?_⟩) (by assumption) ?_
    rotate_left 1
    · (intro w; go_simp); all_goals (with_reducible rfl)
    try simp only [Act.put, List.getElem_toArray, List.getElem_cons_zero, List.getElem_cons_succ, List.setIfInBounds_toArray, List.set_cons_zero, List.set_cons_succ]
    refine wpAnyM_last (by kernel_rfl) rfl (fun K hK => ?_)
    go_simp
    refine hK.out _ _ ?_
    clear hK K
    try simp only [Act.put, List.getElem_toArray, List.getElem_cons_zero, List.getElem_cons_succ, List.setIfInBounds_toArray, List.set_cons_zero, List.set_cons_succ]
    refine wpAny_step (i := 15) (by kernel_rfl) rfl (fun K hK => ?_)
    go_simp
    refine hK.out _ _ ?_
    clear hK K
    try simp only [Act.put, List.getElem_toArray, List.getElem_cons_zero, List.getElem_cons_succ, List.setIfInBounds_toArray, List.set_cons_zero, List.set_cons_succ]
    refine wpAny_done (by kernel_rfl) ?_ _
    have HZ := Lib.hid (SD.put8 (SD.put2 (H.out) 2 (.int .i64 nowu) (.slice Au lu.length cu) rfl (by decide)) 3 (.bool onu) (.bool badu) (.int .i64 tu) (.slice A2u wsu.length c2u) (.slice A3u nsu.length c3u) (.bool skipu) (.bool goneu) (.string inbu) rfl (by decide))
    try go_wp2_with fail
    go_meet
    exact ⟨nowu, Au, lu, cu, onu, badu, tu, A2u, wsu, c2u, A3u, nsu, c3u, skipu, goneu, inbu, q2, _, rfl, by omega, Lib.hid (SD.only HZ.out _ (List.forall_mem_cons.2 ⟨⟨VK.c, HZ.out.get 3 rfl⟩, List.forall_mem_cons.2 ⟨⟨WK.c, HZ.out.get 4 rfl⟩, List.forall_mem_cons.2 ⟨⟨NK.c, HZ.out.get 5 rfl⟩, fun P hP => absurd hP (by simp)⟩⟩⟩))⟩
  case rest =>
    obtain ⟨nowu, Au, lu, cu, onu, badu, tu, A2u, wsu, c2u, A3u, nsu, c3u, skipu, goneu, inbu, q2, v9, rfl, hq2, HQ⟩ := hcut
    clear H
    have H := Lib.hid HQ.out
    clear HQ
    have H : Hid (SD u0 RA rb rc g q2 w [(w.heap.size, 36, #[.int .i64 0, .slice none 0 0]), (w.heap.size + 1, 44, #[.bool false, .bool false, .int .i64 0, .slice none 0 0, .slice none 0 0, .bool false, .bool false, .string ⟨#[]⟩]), (g2, 36, #[.int .i64 nowu, .slice Au lu.length cu]), (g2 + 1, 44, #[.bool onu, .bool badu, .int .i64 tu, .slice A2u wsu.length c2u, .slice A3u nsu.length c3u, .bool skipu, .bool goneu, .string inbu])] [fun W => VK W nowu Au lu, fun W => WK W A2u wsu, fun W => NK W A3u nsu] wc) := Lib.hid H.out
    go_upto_region 4 with fail
    go_cut [31] (fun v31 wx => ∃ (b : Bool) (q3 : Nat), v31 = .bool b ∧ q3 ≤ q2 + 1 ∧ Hid (SD u0 RA rb rc g q3 w [(w.heap.size, 36, #[.int .i64 0, .slice none 0 0]), (w.heap.size + 1, 44, #[.bool false, .bool false, .int .i64 0, .slice none 0 0, .slice none 0 0, .bool false, .bool false, .string ⟨#[]⟩]), (g2, 36, #[.int .i64 nowu, .slice Au lu.length cu]), (g2 + 1, 44, #[.bool onu, .bool badu, .int .i64 tu, .slice A2u wsu.length c2u, .slice A3u nsu.length c3u, .bool skipu, .bool goneu, .string inbu])] [fun W => VK W nowu Au lu, fun W => WK W A2u wsu, fun W => NK W A3u nsu] wx))
    case first =>
      cases goneu
      case true =>
        obtain ⟨x3_0, x3_1, x3_2, x3_3, x3_4, x3_5, x3_6, x3_7⟩ := Blk.q8 (H.out.blk 3 rfl)
        try go_wp2_with fail
        go_meet
        exact ⟨_, q2, rfl, by omega, H⟩
      case false =>
        obtain ⟨x3_0, x3_1, x3_2, x3_3, x3_4, x3_5, x3_6, x3_7⟩ := Blk.q8 (H.out.blk 3 rfl)
        go_wp2_with fail
        refine (pick_any u0 RA rb rc g q2 4 _ H.out.rd (by omega) (by omega)).mono ?_
        rintro e v1 ⟨k, hk, rfl, hR9, hG9⟩
        replace H := Lib.hid (H.out.draw hR9 hG9)
        clear x3_0 x3_1 x3_2 x3_3 x3_4 x3_5 x3_6 x3_7 hR9 hG9
        try go_wp2_with fail
        go_meet
        exact ⟨_, q2 + 1, rfl, by omega, H⟩
    case rest =>
      obtain ⟨b, q3, rfl, hq3, HQ⟩ := hcut
      clear H
      have H := Lib.hid HQ.out
      clear HQ
      have H : Hid (SD u0 RA rb rc g q3 w [(w.heap.size, 36, #[.int .i64 0, .slice none 0 0]), (w.heap.size + 1, 44, #[.bool false, .bool false, .int .i64 0, .slice none 0 0, .slice none 0 0, .bool false, .bool false, .string ⟨#[]⟩]), (g2, 36, #[.int .i64 nowu, .slice Au lu.length cu]), (g2 + 1, 44, #[.bool onu, .bool badu, .int .i64 tu, .slice A2u wsu.length c2u, .slice A3u nsu.length c3u, .bool skipu, .bool goneu, .string inbu])] [fun W => VK W nowu Au lu, fun W => WK W A2u wsu, fun W => NK W A3u nsu] wc) := Lib.hid H.out
      go_upto_if 31 with fail
      go_cut [34] (fun v34 wx => ∃ (inb4 : ByteArray) (q4 : Nat) (v9 : Value), v34 = v9 ∧ q4 ≤ q3 + 1 ∧ Hid (SD u0 RA rb rc g q4 w [(w.heap.size, 36, #[.int .i64 0, .slice none 0 0]), (w.heap.size + 1, 44, #[.bool false, .bool false, .int .i64 0, .slice none 0 0, .slice none 0 0, .bool false, .bool false, .string ⟨#[]⟩]), (g2, 36, #[.int .i64 nowu, .slice Au lu.length cu]), (g2 + 1, 44, #[.bool onu, .bool badu, .int .i64 tu, .slice A2u wsu.length c2u, .slice A3u nsu.length c3u, .bool skipu, .bool goneu, .string inb4])] [fun W => VK W nowu Au lu, fun W => WK W A2u wsu, fun W => NK W A3u nsu] wx))
      case first =>
        cases b
        case false =>
          try go_wp2_with fail
          go_meet
          exact ⟨inbu, q3, _, rfl, by omega, H⟩
        case true =>
          go_wp2_with fail
          have S9 := Sl.litS wc 9 l6In #[.string ⟨#[81]⟩, .string ⟨#[81, 48]⟩, .string ⟨#[81, 48, 53]⟩, .string ⟨#[81, 48, 53, 103, 101, 116]⟩, .string ⟨#[83, 48]⟩] rfl
          have hw9 := (Below.refl wc.heap.size wc).alloc (Nat.le_refl _) (.cells #[.string ⟨#[81]⟩, .string ⟨#[81, 48]⟩, .string ⟨#[81, 48, 53]⟩, .string ⟨#[81, 48, 53, 103, 101, 116]⟩, .string ⟨#[83, 48]⟩] 9)
          have hg9 := H.out.rd.1.lt
          have HW9 := Lib.hid (H.out.kept hw9)
          refine (of_any u0 RA rb rc g q3 _ l6In 5 _ HW9.out.rd (by omega) (by decide) S9 (by intro b o h; simp at h; omega)).mono ?_
          rintro e v2 ⟨x, hx, rfl, hR9, hG9⟩
          replace H := Lib.hid (HW9.out.draw hR9 hG9)
          clear hR9 hG9 HW9 hw9 hg9 S9
          obtain ⟨x3_0, x3_1, x3_2, x3_3, x3_4, x3_5, x3_6, x3_7⟩ := Blk.q8 (H.out.blk 3 rfl)
          obtain ⟨z3_0, z3_1, z3_2, z3_3, z3_4, z3_5, z3_6, z3_7⟩ := Blk.z8 (H.out.blk 3 rfl)
          have l3 := (H.out.blk 3 rfl).lt
          have HZ := Lib.hid (SD.set H.out 3 7 (.string x) rfl (by decide))
          clear H
          try go_wp2_with fail
          go_meet
          exact ⟨x, q3 + 1, _, rfl, by omega, HZ⟩
      case rest =>
        obtain ⟨inb4, q4, v94, rfl, hq4, HQ⟩ := hcut
        clear H
        have H := Lib.hid HQ.out
        clear HQ
        have H : Hid (SD u0 RA rb rc g q4 w [(w.heap.size, 36, #[.int .i64 0, .slice none 0 0]), (w.heap.size + 1, 44, #[.bool false, .bool false, .int .i64 0, .slice none 0 0, .slice none 0 0, .bool false, .bool false, .string ⟨#[]⟩]), (g2, 36, #[.int .i64 nowu, .slice Au lu.length cu]), (g2 + 1, 44, #[.bool onu, .bool badu, .int .i64 tu, .slice A2u wsu.length c2u, .slice A3u nsu.length c3u, .bool skipu, .bool goneu, .string inb4])] [fun W => VK W nowu Au lu, fun W => WK W A2u wsu, fun W => NK W A3u nsu] wc) := Lib.hid H.out
        go_upto_region 6 with fail
        go_cut [38] (fun v38 wx => ∃ (b : Bool) (q5 : Nat), v38 = .bool b ∧ q5 ≤ q4 + 1 ∧ Hid (SD u0 RA rb rc g q5 w [(w.heap.size, 36, #[.int .i64 0, .slice none 0 0]), (w.heap.size + 1, 44, #[.bool false, .bool false, .int .i64 0, .slice none 0 0, .slice none 0 0, .bool false, .bool false, .string ⟨#[]⟩]), (g2, 36, #[.int .i64 nowu, .slice Au lu.length cu]), (g2 + 1, 44, #[.bool onu, .bool badu, .int .i64 tu, .slice A2u wsu.length c2u, .slice A3u nsu.length c3u, .bool skipu, .bool goneu, .string inb4])] [fun W => VK W nowu Au lu, fun W => WK W A2u wsu, fun W => NK W A3u nsu] wx))
        case first =>
          go_wp2_with fail
          refine (pick_any u0 RA rb rc g q4 3 _ H.out.rd (by omega) (by omega)).mono ?_
          rintro e v3 ⟨k, hk, rfl, hR9, hG9⟩
          replace H := Lib.hid (H.out.draw hR9 hG9)
          clear hR9 hG9
          try go_wp2_with fail
          go_meet
          exact ⟨_, q4 + 1, rfl, by omega, H⟩
        case rest =>
          obtain ⟨b, q5, rfl, hq5, HQ⟩ := hcut
          clear H
          have H := Lib.hid HQ.out
          clear HQ
          have H : Hid (SD u0 RA rb rc g q5 w [(w.heap.size, 36, #[.int .i64 0, .slice none 0 0]), (w.heap.size + 1, 44, #[.bool false, .bool false, .int .i64 0, .slice none 0 0, .slice none 0 0, .bool false, .bool false, .string ⟨#[]⟩]), (g2, 36, #[.int .i64 nowu, .slice Au lu.length cu]), (g2 + 1, 44, #[.bool onu, .bool badu, .int .i64 tu, .slice A2u wsu.length c2u, .slice A3u nsu.length c3u, .bool skipu, .bool goneu, .string inb4])] [fun W => VK W nowu Au lu, fun W => WK W A2u wsu, fun W => NK W A3u nsu] wc) := Lib.hid H.out
          go_upto_if 38 with fail
          go_cut [6] (fun v6 wx => ∃ (nowv : Int) (Av : Option Addr) (lv : List Ver) (cv : Nat) (q6 : Nat) (v9 : Value), v6 = v9 ∧ q6 ≤ q5 + 100 ∧ Hid (SD u0 RA rb rc g q6 w [(w.heap.size, 36, #[.int .i64 0, .slice none 0 0]), (w.heap.size + 1, 44, #[.bool false, .bool false, .int .i64 0, .slice none 0 0, .slice none 0 0, .bool false, .bool false, .string ⟨#[]⟩]), (g2, 36, #[.int .i64 nowv, .slice Av lv.length cv]), (g2 + 1, 44, #[.bool onu, .bool badu, .int .i64 tu, .slice A2u wsu.length c2u, .slice A3u nsu.length c3u, .bool skipu, .bool goneu, .string inb4])] [fun W => VK W nowv Av lv, fun W => WK W A2u wsu, fun W => NK W A3u nsu] wx))
          case first =>
            have hl60u : lu.length ≤ 60 := (H.out.get 0 rfl).2.2.1
            have hgw : g < w.heap.size := H.out.2.2.2.2
            cases b
            case false =>
              try go_wp2_with fail
              go_meet
              exact ⟨nowu, Au, lu, cu, q5, _, rfl, by omega, H⟩
            case true =>
              obtain ⟨x2_0, x2_1⟩ := Blk.q2 (H.out.blk 2 rfl)
              go_wp2_with fail
              refine (l2At_any Au lu cu nowu nowu _ (by omega) (VK.sl (H.out.get 0 rfl))).mono ?_
              rintro e wz ⟨v, rfl, hov, hbz⟩
              obtain ⟨rs, hrs⟩ : ∃ rs, rs = atL lu nowu := ⟨_, rfl⟩
              have HRF := Lib.hid (show rs.length ≤ 1000 ∧ (∀ x ∈ rs, x.1.size ≤ maxLen) from ⟨by rw [hrs]; have := atL_le lu nowu; omega, by rw [hrs]; exact atL_fits (H.out.get 0 rfl).2.1⟩)
              rw [← hrs] at hov
              have hoR : OwnR wz wc.heap.size v rs := hov
              obtain ⟨AR, cR, rfl, _, _, hsR⟩ := hoR.sl
              have HRS := Lib.hid hsR
              have hgr : g < wc.heap.size := Nat.lt_of_lt_of_le hgw H.out.gr.size
              have HNE : Hid (∀ b o, AR = some ⟨b, o, none⟩ → b ≠ g ∧ b < wz.heap.size) := Lib.hid (fun b o e => by have h9 := hoR.lt b (by rw [e]; rfl); omega)
              replace H := Lib.hid (H.out.kept hbz)
              clear x2_0 x2_1 hbz hov hoR hsR hrs
              go_wp2_with fail
              refine (l2Writes_any u0 RA rb rc g q5 AR rs cR _ H.out.rd (by omega) HRF.out.1 HRF.out.2 HRS.out HNE.out).mono ?_
              rintro e wy ⟨wl, v, q6, rfl, hwo, hfw, hw6, hq6, hR9, hG9⟩
              obtain ⟨AW, cW, rfl, _, _, hsW⟩ := hwo.sl
              have HFW := Lib.hid hfw
              have HWK := Lib.hid (WK.of hwo hfw (by omega))
              replace H := Lib.hid (H.out.draw hR9 hG9)
              clear hR9 hG9 hwo hfw hsW HRF HRS HNE
              replace H := Lib.hid (SD.add H.out (fun W => WK W AW wl) WK.c HWK.out)
              clear HWK
              go_wp2_with fail
              refine (specWritesOk_any AW wl cW _ HFW.out (by omega) (WK.sl (H.out.get 3 rfl))).mono ?_
              rintro e wx ⟨rfl, hbx⟩
              replace H := Lib.hid (H.out.kept hbx)
              clear hbx
              generalize wrsB 6 wl = ok at *
              cases ok
              case false =>
                try go_wp2_with fail
                go_meet
                exact ⟨nowu, Au, lu, cu, q6, _, rfl, by omega, Lib.hid (SD.only H.out _ (List.forall_mem_cons.2 ⟨⟨VK.c, H.out.get 0 rfl⟩, List.forall_mem_cons.2 ⟨⟨WK.c, H.out.get 1 rfl⟩, List.forall_mem_cons.2 ⟨⟨NK.c, H.out.get 2 rfl⟩, fun P hP => absurd hP (by simp)⟩⟩⟩))⟩
              case true =>
                obtain ⟨x2_0, x2_1⟩ := Blk.q2 (H.out.blk 2 rfl)
                have HB := Lib.hid (doR_ok (H.out.get 0 rfl).2.1 (H.out.get 0 rfl).2.2.1 (H.out.get 0 rfl).2.2.2.1 (H.out.get 0 rfl).2.2.2.2 HFW.out)
                have hnn : 0 ≤ nowu ∧ nowu ≤ 40 := ⟨(H.out.get 0 rfl).2.2.2.1, (H.out.get 0 rfl).2.2.2.2⟩
                go_wp2_with fail
                refine (l2Do_any Au AW lu wl cu cW nowu _ (by omega) (by omega) hnn.1 (by omega) (H.out.get 0 rfl).2.1 HFW.out (VK.sl (H.out.get 0 rfl)) (WK.sl (H.out.get 3 rfl))).mono ?_
                rintro e wt ⟨v, rfl, hov, hbt⟩
                obtain ⟨Av, cv, rfl, _, _, _⟩ := OwnV.sl hov
                have hVV : VK wt (doR nowu lu wl).1.1 Av (doR nowu lu wl).1.2 := VK.of hov HB.out.1 HB.out.2.1 HB.out.2.2.1 HB.out.2.2.2
                replace H : Hid (SD u0 RA rb rc g q6 w [(w.heap.size, 36, #[.int .i64 0, .slice none 0 0]), (w.heap.size + 1, 44, #[.bool false, .bool false, .int .i64 0, .slice none 0 0, .slice none 0 0, .bool false, .bool false, .string ⟨#[]⟩]), (g2, 36, #[.int .i64 nowu, .slice Au lu.length cu]), (g2 + 1, 44, #[.bool onu, .bool badu, .int .i64 tu, .slice A2u wsu.length c2u, .slice A3u nsu.length c3u, .bool skipu, .bool goneu, .string inb4])] [fun W => VK W nowu Au lu, fun W => WK W A2u wsu, fun W => NK W A3u nsu, fun W => WK W AW wl, fun W => VK W (doR nowu lu wl).1.1 Av (doR nowu lu wl).1.2] wt) := Lib.hid (SD.add (H.out.kept hbt) _ VK.c (hVV))
                clear x2_0 x2_1 hbt hVV hov
                generalize doR nowu lu wl = dr at *
                obtain ⟨⟨nowv, lv⟩, okv⟩ := dr
                simp only at *
                have H : Hid (SD u0 RA rb rc g q6 w [(w.heap.size, 36, #[.int .i64 0, .slice none 0 0]), (w.heap.size + 1, 44, #[.bool false, .bool false, .int .i64 0, .slice none 0 0, .slice none 0 0, .bool false, .bool false, .string ⟨#[]⟩]), (g2, 36, #[.int .i64 nowu, .slice Au lu.length cu]), (g2 + 1, 44, #[.bool onu, .bool badu, .int .i64 tu, .slice A2u wsu.length c2u, .slice A3u nsu.length c3u, .bool skipu, .bool goneu, .string inb4])] [fun W => VK W nowu Au lu, fun W => WK W A2u wsu, fun W => NK W A3u nsu, fun W => WK W AW wl, fun W => VK W nowv Av lv] wt) := Lib.hid H.out
                obtain ⟨x2_0, x2_1⟩ := Blk.q2 (H.out.blk 2 rfl)
                obtain ⟨z2_0, z2_1⟩ := Blk.z2 (H.out.blk 2 rfl)
                have l2 := (H.out.blk 2 rfl).lt
                have HZ := Lib.hid (SD.put2 H.out 2 (.int .i64 nowv) (.slice Av lv.length cv) rfl (by decide))
                try go_wp2_with fail
                go_meet
                exact ⟨nowv, Av, lv, cv, q6, _, rfl, by omega, Lib.hid (SD.only HZ.out _ (List.forall_mem_cons.2 ⟨⟨VK.c, HZ.out.get 4 rfl⟩, List.forall_mem_cons.2 ⟨⟨WK.c, HZ.out.get 1 rfl⟩, List.forall_mem_cons.2 ⟨⟨NK.c, HZ.out.get 2 rfl⟩, fun P hP => absurd hP (by simp)⟩⟩⟩))⟩
          case rest =>
            obtain ⟨nowv, Av, lv, cv, q6, v96, rfl, hq6, HQ⟩ := hcut
            clear H
            have H := Lib.hid HQ.out
            clear HQ
            have H : Hid (SD u0 RA rb rc g q6 w [(w.heap.size, 36, #[.int .i64 0, .slice none 0 0]), (w.heap.size + 1, 44, #[.bool false, .bool false, .int .i64 0, .slice none 0 0, .slice none 0 0, .bool false, .bool false, .string ⟨#[]⟩]), (g2, 36, #[.int .i64 nowv, .slice Av lv.length cv]), (g2 + 1, 44, #[.bool onu, .bool badu, .int .i64 tu, .slice A2u wsu.length c2u, .slice A3u nsu.length c3u, .bool skipu, .bool goneu, .string inb4])] [fun W => VK W nowv Av lv, fun W => WK W A2u wsu, fun W => NK W A3u nsu] wc) := Lib.hid H.out
            have hl60v : lv.length ≤ 60 := (H.out.get 0 rfl).2.2.1
            have hB2_0 : ∀ W : World, Blk W (g2) 36 #[.int .i64 nowv, .slice Av lv.length cv] → W.cell? ⟨g2, 0, none⟩ = some (.int .i64 nowv) := fun W h => h.cell 0
            have hB2_1 : ∀ W : World, Blk W (g2) 36 #[.int .i64 nowv, .slice Av lv.length cv] → W.cell? ⟨g2, 1, none⟩ = some (.slice Av lv.length cv) := fun W h => h.cell 1
            have hB3_0 : ∀ W : World, Blk W (g2 + 1) 44 #[.bool onu, .bool badu, .int .i64 tu, .slice A2u wsu.length c2u, .slice A3u nsu.length c3u, .bool skipu, .bool goneu, .string inb4] → W.cell? ⟨g2 + 1, 0, none⟩ = some (.bool onu) := fun W h => h.cell 0
            have hB3_1 : ∀ W : World, Blk W (g2 + 1) 44 #[.bool onu, .bool badu, .int .i64 tu, .slice A2u wsu.length c2u, .slice A3u nsu.length c3u, .bool skipu, .bool goneu, .string inb4] → W.cell? ⟨g2 + 1, 1, none⟩ = some (.bool badu) := fun W h => h.cell 1
            have hB3_2 : ∀ W : World, Blk W (g2 + 1) 44 #[.bool onu, .bool badu, .int .i64 tu, .slice A2u wsu.length c2u, .slice A3u nsu.length c3u, .bool skipu, .bool goneu, .string inb4] → W.cell? ⟨g2 + 1, 2, none⟩ = some (.int .i64 tu) := fun W h => h.cell 2
            have hB3_3 : ∀ W : World, Blk W (g2 + 1) 44 #[.bool onu, .bool badu, .int .i64 tu, .slice A2u wsu.length c2u, .slice A3u nsu.length c3u, .bool skipu, .bool goneu, .string inb4] → W.cell? ⟨g2 + 1, 3, none⟩ = some (.slice A2u wsu.length c2u) := fun W h => h.cell 3
            have hB3_4 : ∀ W : World, Blk W (g2 + 1) 44 #[.bool onu, .bool badu, .int .i64 tu, .slice A2u wsu.length c2u, .slice A3u nsu.length c3u, .bool skipu, .bool goneu, .string inb4] → W.cell? ⟨g2 + 1, 4, none⟩ = some (.slice A3u nsu.length c3u) := fun W h => h.cell 4
            have hB3_5 : ∀ W : World, Blk W (g2 + 1) 44 #[.bool onu, .bool badu, .int .i64 tu, .slice A2u wsu.length c2u, .slice A3u nsu.length c3u, .bool skipu, .bool goneu, .string inb4] → W.cell? ⟨g2 + 1, 5, none⟩ = some (.bool skipu) := fun W h => h.cell 5
            have hB3_6 : ∀ W : World, Blk W (g2 + 1) 44 #[.bool onu, .bool badu, .int .i64 tu, .slice A2u wsu.length c2u, .slice A3u nsu.length c3u, .bool skipu, .bool goneu, .string inb4] → W.cell? ⟨g2 + 1, 6, none⟩ = some (.bool goneu) := fun W h => h.cell 6
            have hB3_7 : ∀ W : World, Blk W (g2 + 1) 44 #[.bool onu, .bool badu, .int .i64 tu, .slice A2u wsu.length c2u, .slice A3u nsu.length c3u, .bool skipu, .bool goneu, .string inb4] → W.cell? ⟨g2 + 1, 7, none⟩ = some (.string inb4) := fun W h => h.cell 7
            have hb2 : Blk wc (g2) 36 #[.int .i64 nowv, .slice Av lv.length cv] := H.out.blk 2 rfl
            have hb3 : Blk wc (g2 + 1) 44 #[.bool onu, .bool badu, .int .i64 tu, .slice A2u wsu.length c2u, .slice A3u nsu.length c3u, .bool skipu, .bool goneu, .string inb4] := H.out.blk 3 rfl
            go_wp2_with fail
            replace H := Lib.hid (H.out.kept (kDB wc))
            have hgg : w.heap.size + 1 < g2 := by assumption
            go_region_held3 (fun W => Blk W (g2) 36 #[.int .i64 nowv, .slice Av lv.length cv] ∧ Blk W (g2 + 1) 44 #[.bool onu, .bool badu, .int .i64 tu, .slice A2u wsu.length c2u, .slice A3u nsu.length c3u, .bool skipu, .bool goneu, .string inb4])
              ((refine ⟨?_, ?_⟩ <;> (repeat (first | (with_reducible assumption) | (with_reducible refine Blk.drew ?_) | (with_reducible refine Blk.alloc ?_ _) | (with_reducible refine Blk.far ?_ (by simp <;> omega) _)))))
              (first
                | (go_at_call 27
                   refine (l2Copy_any Av lv cv nowv _ (by omega) (VK.sl (H.out.get 0 rfl))).mono ?_
                   rintro e wa ⟨v, rfl, hov, hba⟩
                   obtain ⟨A7, c7, rfl, _, _, _⟩ := hov.sl
                   have hV7 := VK.of hov (H.out.get 0 rfl).2.1 (H.out.get 0 rfl).2.2.1 (H.out.get 0 rfl).2.2.2.1 (H.out.get 0 rfl).2.2.2.2
                   replace H := Lib.hid (SD.add (H.out.kept hba) (fun W => VK W nowv A7 lv) VK.c hV7)
                   have hc2 : Blk wa (g2) 36 #[.int .i64 nowv, .slice Av lv.length cv] := H.out.blk 2 rfl
                   have hc3 : Blk wa (g2 + 1) 44 #[.bool onu, .bool badu, .int .i64 tu, .slice A2u wsu.length c2u, .slice A3u nsu.length c3u, .bool skipu, .bool goneu, .string inb4] := H.out.blk 3 rfl
                   clear hov hba hV7)
                | (go_at_call 28
                   refine (l6Copy_any onu badu tu A2u wsu c2u A3u nsu c3u skipu goneu inb4 _ (H.out.get 1 rfl) (H.out.get 2 rfl)).mono ?_
                   rintro e wb ⟨A6, c6, A63, c63, rfl, hW6, hN6, hbb⟩
                   replace H := Lib.hid (SD.add (SD.add (H.out.kept hbb) (fun W => WK W A6 wsu) WK.c hW6) (fun W => NK W A63 nsu) NK.c hN6)
                   have hc2 : Blk wb (g2) 36 #[.int .i64 nowv, .slice Av lv.length cv] := H.out.blk 2 rfl
                   have hc3 : Blk wb (g2 + 1) 44 #[.bool onu, .bool badu, .int .i64 tu, .slice A2u wsu.length c2u, .slice A3u nsu.length c3u, .bool skipu, .bool goneu, .string inb4] := H.out.blk 3 rfl
                   have hkk : wb.cell? ⟨w.heap.size, 0, none⟩ = some (.int .i64 0) ∧ wb.cell? ⟨w.heap.size, 1, none⟩ = some (.slice none 0 0) ∧ wb.cell? ⟨w.heap.size + 1, 0, none⟩ = some (.bool false) ∧ wb.cell? ⟨w.heap.size + 1, 1, none⟩ = some (.bool false) ∧ wb.cell? ⟨w.heap.size + 1, 2, none⟩ = some (.int .i64 0) ∧ wb.cell? ⟨w.heap.size + 1, 3, none⟩ = some (.slice none 0 0) ∧ wb.cell? ⟨w.heap.size + 1, 4, none⟩ = some (.slice none 0 0) ∧ wb.cell? ⟨w.heap.size + 1, 5, none⟩ = some (.bool false) ∧ wb.cell? ⟨w.heap.size + 1, 6, none⟩ = some (.bool false) ∧ wb.cell? ⟨w.heap.size + 1, 7, none⟩ = some (.string ⟨#[]⟩) := ⟨(H.out.blk 0 rfl).cell 0, (H.out.blk 0 rfl).cell 1, (H.out.blk 1 rfl).cell 0, (H.out.blk 1 rfl).cell 1, (H.out.blk 1 rfl).cell 2, (H.out.blk 1 rfl).cell 3, (H.out.blk 1 rfl).cell 4, (H.out.blk 1 rfl).cell 5, (H.out.blk 1 rfl).cell 6, (H.out.blk 1 rfl).cell 7⟩
                   have hf0 := fun j => (H.out.blk 0 rfl).frozen j
                   have hf1 := fun j => (H.out.blk 1 rfl).frozen j
                   have hl0 := (H.out.blk 0 rfl).lt
                   have hl1 := (H.out.blk 1 rfl).lt
                   clear hbb hW6 hN6))
            all_goals
              have HZ := Lib.hid (SD.put8 (SD.put2 (H.out) 0 (.int .i64 nowv) (.slice A7 lv.length c7) rfl (by decide)) 1 (.bool onu) (.bool badu) (.int .i64 tu) (.slice A6 wsu.length c6) (.slice A63 nsu.length c63) (.bool skipu) (.bool goneu) (.string inb4) rfl (by decide))
              clear hB2_0 hB2_1 hB3_0 hB3_1 hB3_2 hB3_3 hB3_4 hB3_5 hB3_6 hB3_7
              go_wp2
              refine bodyPost_ret (v := .tuple #[.agg #[.int .i64 nowv, .slice A7 lv.length c7], .agg #[.bool onu, .bool badu, .int .i64 tu, .slice A6 wsu.length c6, .slice A63 nsu.length c63, .bool skipu, .bool goneu, .string inb4]]) ?_ rfl ⟨nowv, A7, lv, c7, onu, badu, tu, A6, wsu, c6, A63, nsu, c63, skipu, goneu, inb4, q6, rfl, HZ.out.get 3 rfl, HZ.out.get 4 rfl, HZ.out.get 5 rfl, by omega, HZ.out.rd, HZ.out.gr⟩
              simp [results, Tryz.results12, go_sem, hkk]
end Go.Proofs.YtfmhhckkpenldaaGreatDoor
