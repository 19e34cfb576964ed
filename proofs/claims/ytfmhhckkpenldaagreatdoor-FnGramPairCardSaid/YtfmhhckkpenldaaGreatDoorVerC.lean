import Derived.Deep.RegionLaw
import Derived.Lib.SmallJoins
import Derived.Test.YtfmhhckkpenldaaGreatDoorM04
import Derived.Test.YtfmhhckkpenldaaGreatDoorM09
/- The reference's l2Copy: a store in new memory. -/
namespace Go.Proofs.YtfmhhckkpenldaaGreatDoor
open Go.RowKit
theorem infoVer : (Tryz.prog.info? 81).map (fun i => (i.zero, i.size, i.bytes)) = some (some (.agg #[.string ⟨#[]⟩, .int .i64 0, .int .i64 0, .int .i64 0]), 4, 40) := by kernel_rfl
theorem encVer_one (l : List Ver) : ∀ u ∈ l.flatMap encVer, u.oneCell' = true := by
  intro u hu
  obtain ⟨x, _, hx⟩ := List.mem_flatMap.1 hu
  simp [encVer] at hx
  rcases hx with rfl | rfl | rfl | rfl <;> rfl
/-- a store's slice in memory of one's own -/
def OwnV (w : World) (B : Nat) (v : Value) (l : List Ver) : Prop := w.ownsRow B 81 4 v l.length (l.flatMap encVer)
theorem OwnV.sl {w : World} {B : Nat} {v : Value} {l : List Ver} (h : OwnV w B v l) : ∃ A c, v = .slice A l.length c ∧ l.length ≤ c ∧ c ≤ maxLen ∧ Sl encVer 4 w A l := Sl.of_own encVer_len h
theorem own_set {w : World} {B n k : Nat} {e : TypeId} {v : Value} {xs : List Value} (h : w.ownsRow B e k v n xs) {p : Addr} (hp : p.block < B) (u : Value) : (w.setCell p u).ownsRow B e k v n xs := by
  refine h.kept (row := some p.block) ⟨rfl, rfl, rfl, by rw [World.size_setCell]; exact Nat.le_refl _, fun j _ hne => Below.heap_setCell w p u j (fun e => hne (by rw [e]))⟩ ?_
  cases hv : v.ownBlock with
  | none => exact .inl rfl
  | some j => exact .inr (by have := (h.lt j hv).1; intro he; injection he; omega)
theorem ownV_of {w : World} {B : Nat} {v : Value} {l : List Ver} (h : w.ownsRow B 81 4 v (0 + l.length) ([] ++ l.flatMap encVer)) : OwnV w B v l := by unfold OwnV; simpa using h
set_option maxRecDepth 100000 in
set_option maxHeartbeats 1000000 in
theorem l2Copy_any (A : Option Addr) (l : List Ver) (c : Nat) (now : Int) (w : World) (hn : l.length ≤ 1048576) (hR : Sl encVer 4 w A l) :
    Calls Tryz.prog 27 #[.agg #[.int .i64 now, .slice A l.length c]] w fun e w' => ∃ v, e = .returned (.agg #[.int .i64 now, v]) ∧ OwnV w' w.heap.size v l ∧ Below w.heap.size w w' := by
  obtain ⟨i0, hi, hz0, hz1, hz2⟩ := info_parts infoVer
  have HI := Lib.hid (⟨hi, hz0, hz1, hz2⟩ : _ ∧ _ ∧ _ ∧ _)
  clear hi hz0 hz1 hz2
  have hb0 := ((Below.refl w.heap.size w).alloc (Nat.le_refl _) (.cells #[.int .i64 now, .slice A l.length c] 36)).alloc (by simp) (.cells #[.int .i64 0, .slice none 0 0] 36)
  have hB1 := (Blk.new w 36 #[.int .i64 now, .slice A l.length c]).alloc (.cells #[.int .i64 0, .slice none 0 0] 36)
  have hB2 := Blk.new (w.alloc (.cells #[.int .i64 now, .slice A l.length c] 36)) 36 #[.int .i64 0, .slice none 0 0]
  have hsz : ((w.alloc (.cells #[.int .i64 now, .slice A l.length c] 36)).alloc (.cells #[.int .i64 0, .slice none 0 0] 36)).heap.size = w.heap.size + 2 := by simp
  rw [World.size_alloc] at hB2
  go_enter Tryz.func27, Tryz.ntmps27
  go_wp2_with fail
  generalize (w.alloc (.cells #[.int .i64 now, .slice A l.length c] 36)).alloc (.cells #[.int .i64 0, .slice none 0 0] 36) = w0 at *
  have x0 : w0.cell? ⟨w.heap.size, 0, none⟩ = some (.int .i64 now) := hB1.cell 0
  have x1 : w0.cell? ⟨w.heap.size, 1, none⟩ = some (.slice A l.length c) := hB1.cell 1
  have hbn := (Below.refl w0.heap.size w0).alloc (Nat.le_refl _) (.cells #[] 81)
  have ho := (own_of_blk (base := w0.heap.size) (n := 0) (k := 4) (xs := []) (Blk.new w0 81 #[]) (Nat.le_refl _) (Nat.zero_le _) rfl rfl)
  rw [hsz] at ho
  have HO := Lib.hid ho
  have HS := Lib.hid ((hR.below hb0).below hbn)
  have HB0 := Lib.hid hb0
  have HB2 := Lib.hid (hB2.kept hbn)
  have HB1 := Lib.hid (hB1.kept hbn)
  have HBn := Lib.hid hbn
  have hl1 : w.heap.size < w0.heap.size := by omega
  have hl2 : w.heap.size + 1 < w0.heap.size := by omega
  clear hb0 hB1 hB2 hbn hR ho
  have H63 := Lib.hid (show 0 + l.length ≤ maxLen by unfold maxLen; omega)
  have HBY := Lib.hid (show (0 + l.length) * 40 ≤ 140737488355328 by omega)
  have HBS := Lib.hid (show w.heap.size + 2 ≤ ((w0.alloc (.cells #[] 81)).drew).heap.size by simp; omega)
  have HO' := Lib.hid (show ((w0.alloc (.cells #[] 81)).drew).ownsRow (w.heap.size + 2) 81 4 (.slice (some ⟨w.heap.size + 2, 0, none⟩) 0 0) 0 [] from HO.out)
  have HS' := Lib.hid (show Sl encVer 4 ((w0.alloc (.cells #[] 81)).drew) A l from HS.out)
  have HB2' := Lib.hid (show Blk ((w0.alloc (.cells #[] 81)).drew) (w.heap.size + 1) 36 #[.int .i64 0, .slice none 0 0] from HB2.out)
  have HB1' := Lib.hid (show Blk ((w0.alloc (.cells #[] 81)).drew) w.heap.size 36 #[.int .i64 now, .slice A l.length c] from HB1.out)
  have HNE1 := Lib.hid (show some w.heap.size ≠ (Value.slice (some ⟨w.heap.size + 2, 0, none⟩) 0 0).ownBlock by simp [Value.ownBlock])
  have HNE := Lib.hid (show some (w.heap.size + 1) ≠ (Value.slice (some ⟨w.heap.size + 2, 0, none⟩) 0 0).ownBlock by simp [Value.ownBlock])
  go_region_law (refine step_append_sl (enc := encVer) rfl (.tmp 5) (.tmp 7) 34 rfl (w.heap.size + 2) 81 i0 (.agg #[.string ⟨#[]⟩, .int .i64 0, .int .i64 0, .int .i64 0]) 4 40 Tryz.underlying34 HI.out.1 HI.out.2.1 HI.out.2.2.1 HI.out.2.2.2 rfl (by decide) (.slice (some ⟨w.heap.size + 2, 0, none⟩) 0 0) 0 [] (by simp [Act.eval]) HO'.out encVer_len A l c (by simp [Act.eval]) HS'.out (encVer_one l) H63.out HBY.out HBS.out ?_; intro v' w' hown hgrow; have ho : OwnV w' (w.heap.size + 2) v' l := ownV_of hown; obtain ⟨A', c', rfl, _, _, hS'⟩ := ho.sl; have HOW := Lib.hid ho; have HG := Lib.hid hgrow; have hB := HB2'.out.grown hgrow HNE.out; have y2 : w'.cell? ⟨w.heap.size, 0, none⟩ = some (.int .i64 now) := (HB1'.out.grown hgrow HNE1.out).cell 0; have y0 : w'.cell? ⟨w.heap.size + 1, 0, none⟩ = some (.int .i64 0) := hB.cell 0; have y1 : w'.cell? ⟨w.heap.size + 1, 1, none⟩ = some (.slice none 0 0) := hB.cell 1; have z0 := hB.frozen 0; have z1 := hB.frozen 1; have HBB := Lib.hid hB; clear hown hgrow hS' ho hB)
  all_goals
    have hbf : Below w.heap.size w w' := by
      have h1 := HB0.out.trans (HBn.out.mono (by omega))
      have h2 := h1.drew
      exact below_own h2 HG.out (by simp; omega) (fun k hk => by simp [Value.ownBlock] at hk; omega)
    have HOW2 := Lib.hid (own_set (own_set HOW.out (p := ⟨w.heap.size + 1, 0, none⟩) (by simp) (.int .i64 now)) (p := ⟨w.heap.size + 1, 1, none⟩) (by simp) (.slice A' l.length c'))
    obtain ⟨q0, q1⟩ := HBB.out.two (.int .i64 now) (.slice A' l.length c')
    go_wp2
    refine bodyPost_ret (v := .agg #[.int .i64 now, .slice A' l.length c']) (by simp [results, Tryz.results27, go_sem, q0, q1]) rfl ⟨_, rfl, Go.Joins.ownsRow_le HOW2.out (by omega), (hbf.setCell (by simp) _).setCell (by simp) _⟩
end Go.Proofs.YtfmhhckkpenldaaGreatDoor
