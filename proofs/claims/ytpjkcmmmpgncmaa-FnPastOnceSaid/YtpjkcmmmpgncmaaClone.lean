/- A store in new memory, the program's way. -/
import Derived.Test.YtpjkcmmmpgncmaaVerC
import Derived.Lib.SliceRun
namespace Go.Proofs.Ytpjkcmmmpgncmaa
open Go.RowKit
theorem OwnV.le {w : World} {B B2 : Nat} {v : Value} {l : List Ver} (h : OwnV w B v l) (hB : B2 ≤ B) : OwnV w B2 v l := Go.Joins.ownsRow_le h hB
set_option maxRecDepth 100000 in
set_option maxHeartbeats 1000000 in
theorem cloneS_any (A : Option Addr) (l : List Ver) (c : Nat) (w : World) (hn : l.length ≤ 1048576) (hR : Sl encVer 4 w A l) :
    Calls Try.prog 141 #[.slice A l.length c] w fun e w' => ∃ v, e = .returned v ∧ OwnV w' w.heap.size v l ∧ Below w.heap.size w w' := by
  obtain ⟨i0, hi, hz0, hz1, hz2⟩ := info_parts infoVer
  have HI := Lib.hid (⟨hi, hz0, hz1, hz2⟩ : _ ∧ _ ∧ _ ∧ _)
  clear hi hz0 hz1 hz2
  have q23 := fun (w : World) (a : Option Addr) (n c : Nat) => Lib.run_eql_slice_nil (P := Try.prog) w 30 _ a n c 0 0 Try.underlying30
  rcases A with _ | ad
  · have hl : l = [] := by
      rcases Nat.eq_zero_or_pos l.length with h0 | h0
      · exact List.eq_nil_of_length_eq_zero h0
      · obtain ⟨b, o, he, _⟩ := hR h0; cases he
    subst hl
    go_enter Try.func141, Try.ntmps141
    go_wp2
    go_ret
    exact ⟨_, rfl, ⟨rfl, .inl ⟨rfl, rfl⟩⟩, Below.refl _ _⟩
  · have ho := (own_of_blk (base := w.heap.size) (n := 0) (k := 4) (xs := []) (Blk.new w 88 #[]) (Nat.le_refl _) (Nat.zero_le _) rfl rfl)
    have hb0 := (Below.refl w.heap.size w).alloc (Nat.le_refl _) (.cells #[] 88)
    have HO := Lib.hid ho
    have HS := Lib.hid (hR.below hb0)
    have HB := Lib.hid hb0
    have HBS := Lib.hid (show w.heap.size ≤ (w.alloc (.cells #[] 88)).heap.size by simp)
    have H63 := Lib.hid (show 0 + l.length ≤ maxLen by unfold maxLen; omega)
    have HBY := Lib.hid (show (0 + l.length) * 40 ≤ 140737488355328 by omega)
    clear ho hb0 hR
    go_enter Try.func141, Try.ntmps141
    go_wp2_with (at_builtin; refine wpList_append_sl (enc := encVer) rfl (.tmp 5) (.tmp 6) 30 rfl w.heap.size 88 i0 _ 4 40 Try.underlying30 HI.out.1 HI.out.2.1 HI.out.2.2.1 HI.out.2.2.2 rfl (by decide) (.slice (some ⟨w.heap.size, 0, none⟩) 0 0) 0 [] rfl HO.out encVer_len (some ad) l c rfl HS.out (encVer_one l) H63.out HBY.out HBS.out ?_; intro v' w' hown hgrow; have ho : OwnV w' w.heap.size v' l := ownV_of hown)
    go_ret
    exact ⟨_, rfl, ho, below_own HB.out hgrow HBS.out (fun k hk => by simp [Value.ownBlock] at hk; omega)⟩
set_option maxHeartbeats 1000000 in
theorem clone_any (A : Option Addr) (l : List Ver) (c : Nat) (now : Int) (w : World) (hn : l.length ≤ 1048576) (hR : Sl encVer 4 w A l) :
    Calls Try.prog 100 #[.agg #[.int .i64 now, .slice A l.length c]] w fun e w' => ∃ v, e = .returned (.agg #[.int .i64 now, v]) ∧ OwnV w' w.heap.size v l ∧ Below w.heap.size w w' := by
  have hb0 := ((Below.refl w.heap.size w).alloc (Nat.le_refl _) (.cells #[.int .i64 now, .slice A l.length c] 32)).alloc (by simp) (.cells #[.int .i64 0, .slice none 0 0] 32)
  have hB1 := (Blk.new w 32 #[.int .i64 now, .slice A l.length c]).alloc (.cells #[.int .i64 0, .slice none 0 0] 32)
  have hB2 := Blk.new (w.alloc (.cells #[.int .i64 now, .slice A l.length c] 32)) 32 #[.int .i64 0, .slice none 0 0]
  have hsz : ((w.alloc (.cells #[.int .i64 now, .slice A l.length c] 32)).alloc (.cells #[.int .i64 0, .slice none 0 0] 32)).heap.size = w.heap.size + 2 := by simp
  rw [World.size_alloc] at hB2
  go_enter Try.func100, Try.ntmps100
  go_wp2_with fail
  generalize (w.alloc (.cells #[.int .i64 now, .slice A l.length c] 32)).alloc (.cells #[.int .i64 0, .slice none 0 0] 32) = w0 at *
  have x0 : w0.cell? ⟨w.heap.size, 0, none⟩ = some (.int .i64 now) := hB1.cell 0
  have x1 : w0.cell? ⟨w.heap.size, 1, none⟩ = some (.slice A l.length c) := hB1.cell 1
  have hl1 : w.heap.size < w0.heap.size := by omega
  have hl2 : w.heap.size + 1 < w0.heap.size := by omega
  have HC := Lib.hid (show Calls Try.prog 141 #[.slice A l.length c] w0.drew _ from cloneS_any A l c w0.drew hn (hR.below hb0.drew))
  have HB0 := Lib.hid hb0
  have HB1 := Lib.hid (hB1.kept (Below.refl w0.heap.size w0).drew)
  have HB2 := Lib.hid (hB2.kept (Below.refl w0.heap.size w0).drew)
  clear hb0 hB1 hB2 hR
  go_region_with (go_at_call 141; refine HC.out.mono ?_; rintro e w' ⟨v, rfl, hown, hb⟩; obtain ⟨A', c', rfl, _, _, hS'⟩ := hown.sl; clear hS'; have hbb := HB0.out.drew.trans (hb.mono (show w.heap.size ≤ w0.drew.heap.size by simp; omega)); have hC1 := HB1.out.kept hb; have hC2 := HB2.out.kept hb; have y2 : w'.cell? ⟨w.heap.size, 0, none⟩ = some (.int .i64 now) := hC1.cell 0; have y3 : w'.cell? ⟨w.heap.size, 1, none⟩ = some (.slice A l.length c) := hC1.cell 1; have y0 : w'.cell? ⟨w.heap.size + 1, 0, none⟩ = some (.int .i64 0) := hC2.cell 0; have y1 : w'.cell? ⟨w.heap.size + 1, 1, none⟩ = some (.slice none 0 0) := hC2.cell 1; have z0 := hC2.frozen 0; have z1 := hC2.frozen 1; have HBB := Lib.hid hC2; have HOW := Lib.hid hown; clear hC1 hC2 hown)
  all_goals
    have HOW2 := Lib.hid (own_set (own_set HOW.out (p := ⟨w.heap.size + 1, 0, none⟩) (by simp; omega) (.int .i64 now)) (p := ⟨w.heap.size + 1, 1, none⟩) (by simp; omega) (.slice A' l.length c'))
    obtain ⟨q0, q1⟩ := HBB.out.two (.int .i64 now) (.slice A' l.length c')
    go_wp2
    refine bodyPost_ret (v := .agg #[.int .i64 now, .slice A' l.length c']) (by simp [results, Try.results100, go_sem, q0, q1]) rfl ⟨_, rfl, OwnV.le HOW2.out (by simp; omega), (hbb.setCell (by simp) _).setCell (by simp) _⟩
end Go.Proofs.Ytpjkcmmmpgncmaa
