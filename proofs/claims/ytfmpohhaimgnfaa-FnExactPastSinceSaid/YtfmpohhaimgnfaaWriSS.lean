/- The laws' helpers on rows of rows of writes: their size, their copies, their equality. -/
import Derived.Test.YtfmpohhaimgnfaaWriSz
import Derived.Test.YtfmpohhaimgnfaaWriEq
import Derived.Test.YtfmpohhaimgnfaaLibB
namespace Go.Proofs.Ytfmpohhaimgnfaa
open Go.RowKit
set_option maxHeartbeats 400000 in
theorem szWriteSS_any (A : Option Addr) (rs : List Wrow) (c : Nat) (left : Int) (w : World) (hn : FitsR rs) (hR : Sl2 w A rs) (h0 : 0 ≤ left) (h1 : left ≤ 1048576) :
    Calls Try.prog 30 #[.slice A rs.length c, .int .i64 left] w fun e w' => e = .returned (.int .i64 (sz (rs.length + rsz (cont rs)) left)) ∧ Below w.heap.size w w' := by
  obtain ⟨hn, hf⟩ := hn
  unfold maxLen at hn
  by_cases hlt : left < rs.length
  · go_enter Try.func30, Try.ntmps30
    go_wp2
    go_ret
    exact ⟨ret_int (sz_no (by omega)).symm, Below.refl _ _⟩
  · go_enter Try.func30, Try.ntmps30
    go_wp2
    go_loopw [1, 5] (fun t i wr => ∃ k : Nat, k ≤ rs.length ∧ i = .int .i64 k ∧ ((rs.length + rsz ((cont rs).take k) : Nat) : Int) ≤ left ∧ t = .int .i64 (left - (rs.length + rsz ((cont rs).take k) : Nat)) ∧ Below w.heap.size w wr) (fun _ i _ => rs.length - (intOf i).toNat)
    case atStart => exact ⟨0, by omega, rfl, by simp [rsz]; omega, by simp [rsz], Below.refl _ _⟩
    case round =>
      obtain ⟨k, hk, rfl, hle, rfl, hb⟩ := hrel
      by_cases hlt2 : k < rs.length
      · obtain ⟨b, o, rfl, hbl, c0, hS⟩ := (hR.below hb).at_ hlt2
        have hm := rsz_take (cont rs) k (by rw [cont_len]; exact hlt2)
        rw [cont_get rs k hlt2] at hm
        have hsz := hf rs[k] (by simp)
        generalize rs[k] = x at *
        obtain ⟨Ax, cx, lx⟩ := x
        simp only at c0 hS hm hsz
        have HM := Lib.hid hm
        clear hm hR hf
        go_wp2_with (go_at_call 44; refine (szWriteS_any Ax lx cx _ _ hsz hS (by omega) (by omega)).mono ?_; rintro e w' ⟨rfl, hb2⟩)
        · have hneg : left - (rs.length + rsz ((cont rs).take k)) < (lx.length + wsz lx : Nat) := sz_neg (by assumption)
          have := rsz_le (cont rs) (k+1)
          have hm := HM.out
          go_ret
          exact ⟨ret_int (by rw [sz_no (t := rs.length + rsz (cont rs)) (by omega)]), bthen hb hb2⟩
        · have hpos : (lx.length + wsz lx : Nat) ≤ left - (rs.length + rsz ((cont rs).take k)) := sz_pos (by assumption)
          have hm := HM.out
          go_roundw
          case rel =>
            rw [sz_yes (by omega)]
            exact ⟨k+1, by omega, by go_num, by omega, vint (by omega), bthen hb hb2⟩
          case measure => simp [intOf]; omega
      · obtain rfl : k = rs.length := by omega
        rw [← cont_len rs, List.take_length] at hle
        go_wp2
        go_ret
        exact ⟨ret_int (by rw [← cont_len rs, List.take_length]; rw [cont_len] at hle ⊢; rw [sz_yes (by omega)]), hb⟩

theorem infoRowS : (Try.prog.info? 26).map (fun i => (i.zero, i.size, i.bytes)) = some (some (.slice none 0 0), 1, 24) := by kernel_rfl
/-- a row of rows that the call owns: its block, what it holds -/
def OwnSS (w : World) (v : Value) (ls : List (List Wri)) : Prop :=
  ∃ (A : Option Addr) (c : Nat) (rs : List Wrow), v = .slice A rs.length c ∧ cont rs = ls ∧ rs.length ≤ c ∧ c ≤ maxLen ∧ Sl2 w A rs ∧ (∀ r ∈ rs, r.2.2.length ≤ r.2.1 ∧ r.2.1 ≤ maxLen)
theorem cells_take {cs : Array Value} {rs : List Wrow} {k n : Nat} {r : Wrow} {v : Value} (hs : cs.size = n) (hk : rs.length = k) (hlt : k < n) (h : ∀ (i : Nat) (x : Wrow), rs[i]? = some x → cs[i]? = (encWrow x)[0]?) (hv : encWrow r = [v]) :
    ∀ (i : Nat) (x : Wrow), (rs ++ [r])[i]? = some x → (cs.setIfInBounds k v)[i]? = (encWrow x)[0]? := by
  intro i x hx
  rw [Array.getElem?_setIfInBounds]
  by_cases hi : i < k
  · rw [if_neg (by omega)]
    exact h i x (by rw [List.getElem?_append_left (by omega)] at hx; exact hx)
  · have hi2 : i < (rs ++ [r]).length := (List.getElem?_eq_some_iff.1 hx).1
    simp at hi2
    obtain rfl : i = k := by omega
    rw [List.getElem?_append_right (by omega), hk, Nat.sub_self] at hx
    simp at hx; subst hx
    rw [if_pos rfl, if_pos (by omega), hv]; rfl
set_option maxHeartbeats 400000 in
theorem toWriteSS_any (A : Option Addr) (rs : List Wrow) (c : Nat) (w : World) (hn : rs.length ≤ 1048576) (hn2 : ∀ r ∈ rs, r.2.2.length ≤ 1048576) (hR : Sl2 w A rs) :
    Calls Try.prog 32 #[.slice A rs.length c] w fun e w' => ∃ v, e = .returned v ∧ OwnSS w' v (cont rs) ∧ Below w.heap.size w w' := by
  obtain ⟨i0, hi, hz0, hz1, hz2⟩ := info_parts infoRowS
  have hmk := fun W => run_make_rowN (P := Try.prog) 38 26 i0 _ Try.underlying38 hi hz0 .i64 .i64 rs.length rs.length (Nat.le_refl _) (by rw [hz2]; omega) (by omega) W
  rw [hz1] at hmk
  go_enter Try.func32, Try.ntmps32
  go_wp2
  go_loopw [4] (fun i wr => ∃ (k : Nat) (cs : Array Value) (qs : List Wrow), k ≤ rs.length ∧ i = .int .i64 k ∧ Blk wr w.heap.size 26 cs ∧ cs.size = rs.length ∧ qs.length = k ∧ (∀ (i : Nat) (x : Wrow), qs[i]? = some x → cs[i]? = (encWrow x)[0]?) ∧ cont qs = (cont rs).take k ∧ (∀ r ∈ qs, Sl encWri 3 wr r.1 r.2.2) ∧ (∀ r ∈ qs, r.2.2.length ≤ r.2.1 ∧ r.2.1 ≤ maxLen) ∧ (∀ r ∈ qs, ∀ a, r.1 = some a → w.heap.size < a.block) ∧ Below w.heap.size w wr) (fun i _ => rs.length - (intOf i).toNat)
  case atStart => exact ⟨0, _, [], by omega, rfl, Blk.new _ _ _, by simp [size_madeCells], rfl, by simp, by simp [cont], by simp, by simp, by simp, (Below.refl _ _).alloc (Nat.le_refl _) _⟩
  case round =>
    obtain ⟨k, cs, qs, hk, rfl, hB, hsz, hql, hcs, hqc, hqs, hqr, hqb, hb⟩ := hrel
    have HS := Lib.hid hsz
    have HC := Lib.hid (⟨hcs, hqc, hqs, hqr, hqb, hql⟩ : _ ∧ _ ∧ _ ∧ _ ∧ _ ∧ _)
    clear hsz hcs hqc hqs hqr hqb hql
    by_cases hlt : k < rs.length
    · obtain ⟨b, o, rfl, hbl, c0, hS⟩ := (hR.below hb).at_ hlt
      have hlt' := hB.lt
      have HX := Lib.hid (show (cont rs).take (k+1) = (cont rs).take k ++ [rs[k].2.2] by
        rw [List.take_succ_eq_append_getElem (by rw [cont_len]; exact hlt), cont_get rs k hlt])
      have hln := hn2 rs[k] (by simp)
      generalize rs[k] = x at *
      obtain ⟨Ax, cx, lx⟩ := x
      simp only at c0 hS hln
      clear hR hn2
      have hs0 : k < cs.size := by rw [HS.out]; omega
      go_wp2_with (go_at_call 46; refine (toWriteS_any Ax lx cx _ hln hS).mono ?_; rintro e w' ⟨v, rfl, ho, hb2⟩; obtain ⟨A2, c2, rfl, hl2, hm2, hR2⟩ := Sl.of_own encWri_len ho; have hB2 := hB.below hb2 hlt'; have z0 := hB2.frozen k; have y0 := hB2.at_ hs0)
      go_roundw
      case rel =>
        obtain ⟨hcs, hqc, hqs, hqr, hqb, hql⟩ := HC.out
        have hA2 : ∀ a, A2 = some a → w.heap.size < a.block := by
          rintro a rfl
          have := (ho.lt a.block rfl).1
          have := hb.size
          have := hB.lt
          omega
        have hset : ∀ r : Wrow, (∀ a, r.1 = some a → w.heap.size < a.block) → Sl encWri 3 w' r.1 r.2.2 → Sl encWri 3 (w'.setCell ⟨w.heap.size, k, none⟩ (.slice A2 lx.length c2)) r.1 r.2.2 := by
          intro r hr hs hl
          obtain ⟨b, o, e, hlt, hc⟩ := hs hl
          have := hr _ e
          simp at this
          exact ⟨b, o, e, by simpa using hlt, fun i j x hx hj => (World.cell?_of_block (a := ⟨b, o + i * 3 + j, none⟩) (Below.heap_setCell w' ⟨w.heap.size, k, none⟩ _ b (by simp; omega))).trans (hc i j x hx hj)⟩
        refine ⟨k + 1, _, qs ++ [(A2, c2, lx)], by omega, by go_num, hB2.set_ _ _, by simp [HS.out], by simp [hql], cells_take HS.out hql hlt hcs rfl, ?_, ?_, ?_, ?_, (bthen hb hb2).setCell (Nat.le_refl _) _⟩
        · rw [HX.out]; simp [cont] at hqc ⊢; rw [hqc]
        · intro r hr
          rw [List.mem_append] at hr
          rcases hr with hr | hr
          · exact hset r (hqb r hr) ((hqs r hr).below hb2)
          · simp at hr; subst hr; exact hset _ hA2 hR2
        · intro r hr
          rw [List.mem_append] at hr
          rcases hr with hr | hr
          · exact hqr r hr
          · simp at hr; subst hr; exact ⟨hl2, hm2⟩
        · intro r hr
          rw [List.mem_append] at hr
          rcases hr with hr | hr
          · exact hqb r hr
          · simp at hr; subst hr; exact hA2
      case measure => simp [intOf]; omega
    · obtain rfl : k = rs.length := by omega
      obtain ⟨hcs, hqc, hqs, hqr, hqb, hql⟩ := HC.out
      go_wp2
      go_ret
      refine ⟨.slice (some ⟨w.heap.size, 0, none⟩) rs.length rs.length, rfl, ⟨some ⟨w.heap.size, 0, none⟩, rs.length, qs, by rw [hql], ?_, by omega, by unfold maxLen; omega, ⟨fun _ => ⟨_, 0, rfl, hB.lt, fun i j x hx hj => ?_⟩, hqs⟩, hqr⟩, hb⟩
      · rw [hqc, ← cont_len rs, List.take_length]
      · obtain rfl : j = 0 := by omega
        rw [show 0 + i * 1 + 0 = i by omega, hB.cell]; exact hcs i x hx

set_option maxHeartbeats 400000 in
theorem eqWriteSS_any (A A2 : Option Addr) (l l2 : List Wrow) (c c2 : Nat) (w : World) (hn : FitsR l) (hn2 : FitsR l2) (hR : Sl2 w A l) (hR2 : Sl2 w A2 l2) (heq : cont l = cont l2) :
    Calls Try.prog 35 #[.slice A l.length c, .slice A2 l2.length c2] w fun e w' => e = .returned (.bool true) ∧ Below w.heap.size w w' := by
  have hn' := hn.1
  have hn2' := hn2.1
  unfold maxLen at hn' hn2'
  have hlt : l.length = l2.length := by rw [← cont_len l, heq, cont_len]
  have hlb : (((l.length : Int) != (l2.length : Int)) = false) := by simp [hlt]
  have HL := Lib.hid hlt
  have HQ := Lib.hid heq
  clear hlt heq
  go_enter Try.func35, Try.ntmps35
  go_wp2
  go_loopw [5] (fun i wr => ∃ k : Nat, k ≤ l.length ∧ i = .int .i64 k ∧ Below w.heap.size w wr) (fun i _ => l.length - (intOf i).toNat)
  case atStart => exact ⟨0, by omega, rfl, Below.refl _ _⟩
  case round =>
    obtain ⟨k, hk, rfl, hb⟩ := hrel
    by_cases hlt2 : k < l.length
    · have h2 : k < l2.length := HL.out ▸ hlt2
      obtain ⟨b, o, rfl, hbl, c0, s0⟩ := (hR.below hb).at_ hlt2
      obtain ⟨b2, o2, rfl, hbl2, d0, s2⟩ := (hR2.below hb).at_ h2
      have hf1 := hn.2 l[k] (by simp)
      have hf2 := hn2.2 l2[k] (by simp)
      have he : l[k].2.2 = l2[k].2.2 := by
        rw [← cont_get l k hlt2, ← cont_get l2 k h2]; simp [HQ.out]
      generalize hx : l[k] = x at *
      generalize hy : l2[k] = y at *
      obtain ⟨Ax, cx, lx⟩ := x
      obtain ⟨Ay, cy, ly⟩ := y
      simp only at c0 s0 d0 s2 hf1 hf2 he
      subst he
      have hf1' := hf1.1
      clear hx hy hR hR2 hn hn2 HQ hf1 hf2
      go_wp2_with fail
      refine wp_region_below (by kernel_rfl) (by kernel_rfl) ?_
      iterate 10 (refine wpQuiet_step (fun K hK => ?_); go_simp; first | (apply Exists.intro; refine ⟨fun W hW => ?_, hK _ ?_⟩; (first | rfl | (go_at_call 47; exact quiet_call hW (Nat.le_refl _) (eqWriteS_any Ax Ay lx lx cx cy _ hf1' hf1' (s0.below hW) (s2.below hW))) | (have e0 := (hW.cell (p := ⟨b, o + k, none⟩) hbl).trans c0; have f0 := (hW.cell (p := ⟨b2, o2 + k, none⟩) hbl2).trans d0; go_simp; rfl)); clear hK K) | (refine hK _ ?_; clear hK K))
      refine wpQuiet_nil ?_
      intro W hW
      have hb' := bthen hb hW
      rw [eqB_yes rfl]
      go_wp2
      go_roundw
      case rel => exact ⟨k+1, by omega, by go_num, hb'⟩
      case measure => simp [intOf]; omega
    · obtain rfl : k = l.length := by omega
      go_wp2
      go_ret
      exact ⟨rfl, hb⟩
end Go.Proofs.Ytfmpohhaimgnfaa
