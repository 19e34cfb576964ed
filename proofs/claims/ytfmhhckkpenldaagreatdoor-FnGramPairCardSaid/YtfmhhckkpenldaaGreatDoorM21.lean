import Derived.Deep.RegionLaw
import Derived.Test.YtfmhhckkpenldaaGreatDoorM14
import Derived.Test.YtfmhhckkpenldaaGreatDoorM15
import Derived.Test.YtfmhhckkpenldaaGreatDoorM10
import Derived.BigQuiet
/- The reference on rows: a number is put under a key, a key is taken away. -/
namespace Go.Proofs.YtfmhhckkpenldaaGreatDoor
open Go.RowKit
theorem kA (W : World) (o : Obj) : Below W.heap.size W (W.alloc o) := (Below.refl _ _).alloc (Nat.le_refl _) _
theorem kD (W : World) : Below W.heap.size W W.drew := (Below.refl _ _).drew
def cutN (K : ByteArray) (l : List Row) : List Row := if hasN K l = true then l.take (findN K l) ++ l.drop (findN K l + 1) else l
def putN (K : ByteArray) (n : Int) (l : List Row) : List Row := if hasN K l = true then l.set (findN K l) (K, n) else (l.take (findN K l) ++ [(K, n)]) ++ l.drop (findN K l)
theorem cutN_len (K : ByteArray) (l : List Row) : (cutN K l).length ≤ l.length := by unfold cutN; split <;> simp <;> omega
theorem putN_len (K : ByteArray) (n : Int) (l : List Row) : (putN K n l).length ≤ l.length + 1 := by unfold putN; split <;> simp <;> omega
theorem cutN_size {K : ByteArray} {l : List Row} (h : ∀ x ∈ l, x.1.size ≤ maxLen) : ∀ x ∈ cutN K l, x.1.size ≤ maxLen := by
  unfold cutN
  intro x hx
  split at hx
  · rcases List.mem_append.1 hx with hx | hx
    · exact h x (List.mem_of_mem_take hx)
    · exact h x (List.mem_of_mem_drop hx)
  · exact h x hx
theorem putN_size {K : ByteArray} {n : Int} {l : List Row} (h : ∀ x ∈ l, x.1.size ≤ maxLen) (hK : K.size ≤ maxLen) : ∀ x ∈ putN K n l, x.1.size ≤ maxLen := by
  unfold putN
  intro x hx
  split at hx
  · rcases List.mem_or_eq_of_mem_set hx with hx | rfl
    · exact h x hx
    · exact hK
  · simp only [List.mem_append, List.mem_singleton] at hx
    rcases hx with (hx | rfl) | hx
    · exact h x (List.mem_of_mem_take hx)
    · exact hK
    · exact h x (List.mem_of_mem_drop hx)
theorem set_flatR (K : ByteArray) (n m : Int) : ∀ (l : List Row) (k : Nat), l[k]? = some (K, m) → (l.flatMap encRow).set (k * 2 + 1) (.int .i64 n) = (l.set k (K, n)).flatMap encRow
  | [], _, h => by simp at h
  | x :: l, 0, h => by
    simp at h
    subst h
    simp [encRow]
  | x :: l, k + 1, h => by
    have ih := set_flatR K n m l k (by simpa using h)
    rw [List.set_cons_succ, List.flatMap_cons, List.flatMap_cons, ← ih, show (k + 1) * 2 + 1 = (k * 2 + 1) + 2 by omega]
    simp [encRow]
theorem ownR_some {w : World} {B : Nat} {v : Value} {l : List Row} (h : OwnR w B v l) (hl : 0 < l.length) : ∃ g c, v = .slice (some ⟨g, 0, none⟩) l.length c := by
  rcases h.2 with ⟨rfl, h2⟩ | ⟨g, cap, cur, rfl, h2⟩
  · omega
  · exact ⟨g, cap, rfl⟩
theorem ownR_at {w : World} {B g n c k : Nat} {l : List Row} {x : Row} (h : OwnR w B (.slice (some ⟨g, 0, none⟩) n c) l) (hx : l[k]? = some x) : w.cell? ⟨g, k * 2 + 1, none⟩ = some (.int .i64 x.2) := by
  obtain ⟨b, o, e, hb, hc⟩ := h.reads (by have := (List.getElem?_eq_some_iff.1 hx).1; omega)
  simp at e
  obtain ⟨rfl, rfl⟩ := e
  have := hc k 1 x hx (by decide)
  rw [Nat.zero_add] at this
  exact this
set_option maxRecDepth 100000 in
set_option maxHeartbeats 4000000 in
theorem l1Cut_any (B : Nat) (A : Option Addr) (l : List Row) (c : Nat) (K : ByteArray) (w : World) (hn : l.length ≤ 1000) (ho : OwnR w B (.slice A l.length c) l) :
    Calls Tryz.prog 105 #[.slice A l.length c, .string K] w fun e w' => ∃ A' c', e = .returned (.slice A' (cutN K l).length c') ∧ OwnR w' w.heap.size (.slice A' (cutN K l).length c') (cutN K l) ∧ Below w.heap.size w w' := by
  obtain ⟨i0, hi, hz0, hz1, hz2⟩ := info_parts infoRow
  have HI := Lib.hid (⟨hi, hz0, hz1, hz2⟩ : _ ∧ _ ∧ _ ∧ _)
  clear hi hz0 hz1 hz2
  go_enter Tryz.func105, Tryz.ntmps105
  go_wp2_with fail
  refine (l1Find_any A l c K w (by omega) ho.reads).mono ?_
  rintro e w1 ⟨rfl, hb1⟩
  have ho1 : OwnR w1 B (.slice A l.length c) l := own_kept ho hb1
  cases hf : hasN K l
  · have HE := Lib.hid (show cutN K l = l by unfold cutN; rw [if_neg (by rw [hf]; simp)])
    have HC := Lib.hid (l1Copy_any A l c w1 (by omega) ho1.reads)
    have HB := Lib.hid hb1
    clear ho ho1 hb1
    go_wp2_with fail
    refine HC.out.mono ?_
    rintro e w2 ⟨A', c', rfl, ho2, hb2⟩
    go_wp2
    go_ret
    rw [HE.out]
    exact ⟨A', c', rfl, ho2.le HB.out.size, bthen HB.out hb2⟩
  · obtain ⟨x, hx, _⟩ := findN_lt hf
    have hk : findN K l < l.length := (List.getElem?_eq_some_iff.1 hx).1
    have HE := Lib.hid (show cutN K l = l.take (findN K l) ++ l.drop (findN K l + 1) by unfold cutN; rw [if_pos hf])
    generalize hkk : findN K l = k at *
    obtain ⟨A2, hlo, hS2⟩ := ownR_lo ho1 (k := k + 1) (by omega)
    have hhi := fun W => ownR_hi ho1 (k := k) (by omega) W
    have hln : (l.take k).length = k := by rw [List.length_take]; omega
    have hdn : (l.drop (k + 1)).length = l.length - (k + 1) := List.length_drop
    have HC : Hid (∀ W, Below w1.heap.size w1 W → Calls Tryz.prog 123 #[.slice A k c] W fun e w' => ∃ A' c', e = .returned (.slice A' k c') ∧ OwnR w' W.heap.size (.slice A' k c') (l.take k) ∧ Below W.heap.size W w') := Lib.hid (fun W hW => by
      have := l1Copy_any A (l.take k) c W (by omega) ((ho1.reads.take k).below hW)
      rw [hln] at this
      exact this)
    have HB := Lib.hid hb1
    have HS2 := Lib.hid hS2
    have HDN := Lib.hid hdn.symm
    have HLN := Lib.hid hln
    have H63 := Lib.hid (show k + (l.drop (k + 1)).length ≤ maxLen by rw [hdn]; unfold maxLen; omega)
    have HBY := Lib.hid (show (k + (l.drop (k + 1)).length) * 24 ≤ 140737488355328 by rw [hdn]; omega)
    clear ho ho1 hb1 hx hf hS2 hdn hln
    have hk1 : IntKind.i64.wrap ((k : Int) + 1) = ((k + 1 : Nat) : Int) := by rw [IntKind.wrap_i64]; omega
    go_wp2_with fail
    go_region_law (first
      | (refine step_append_slB (enc := encRow) rfl (.tmp 20) (.tmp 24) 63 rfl w1.heap.size 83 i0 (.agg #[.string ⟨#[]⟩, .int .i64 0]) 2 24 Tryz.underlying63 HI.out.1 HI.out.2.1 HI.out.2.2.1 HI.out.2.2.2 rfl (by decide) (.slice A3 k c3) k ((l.take k).flatMap encRow) (by simp [Act.eval]) HO3.out encRow_len A2 (l.drop (k + 1)) (l.length - (k + 1)) (c - (k + 1)) HDN.out (by simp [Act.eval]) (HS2.out.below HB3.out) (encRow_one _) H63.out HBY.out HB3.out.size ?_
         intro v4 w4 hown4 hgr4 _
         have hb4 := Lib.hid (below_own HB3.out hgr4 HB3.out.size (fun j hj => (HO3.out.lt j hj).1))
         obtain ⟨N, hN, ho4⟩ : ∃ N, N = l.take k ++ l.drop (k + 1) ∧ OwnR w4 w1.heap.size v4 N := ⟨_, rfl, ownR_app (by rw [HLN.out]; exact hown4)⟩
         obtain ⟨A4, c4, rfl, _, _, _⟩ := ho4.sl
         have HN := Lib.hid hN
         have HO4 := Lib.hid ho4
         clear hown4 hgr4 ho4 hN)
      | (go_simp
         go_at_call 123
         refine (HC.out _ (kD _)).mono ?_
         rintro e w3 ⟨A3, c3, rfl, ho3, hb3⟩
         have HB3 : Hid (Below w1.heap.size w1 w3) := Lib.hid (bthen (kD _) hb3)
         have HO3 : Hid (w3.ownsRow w1.heap.size 83 2 (.slice A3 k c3) k ((l.take k).flatMap encRow)) := Lib.hid (by have := ho3; unfold OwnR at this; rw [HLN.out] at this; exact this)
         clear ho3 hb3))
    all_goals
      go_wp2
      go_ret
      rw [HE.out, ← HN.out]
      exact ⟨_, _, rfl, HO4.out.le HB.out.size, bthen HB.out hb4.out⟩
set_option maxRecDepth 100000 in
set_option maxHeartbeats 4000000 in
theorem l1Put_any (B : Nat) (A : Option Addr) (l : List Row) (c : Nat) (K : ByteArray) (n : Int) (w : World) (hn : l.length ≤ 1000) (ho : OwnR w B (.slice A l.length c) l) :
    Calls Tryz.prog 106 #[.slice A l.length c, .string K, .int .i64 n] w fun e w' => ∃ A' c', e = .returned (.slice A' (putN K n l).length c') ∧ OwnR w' w.heap.size (.slice A' (putN K n l).length c') (putN K n l) ∧ Below w.heap.size w w' := by
  obtain ⟨i0, hi, hz0, hz1, hz2⟩ := info_parts infoRow
  have HI := Lib.hid (⟨hi, hz0, hz1, hz2⟩ : _ ∧ _ ∧ _ ∧ _)
  clear hi hz0 hz1 hz2
  go_enter Tryz.func106, Tryz.ntmps106
  go_wp2_with fail
  refine (l1Find_any A l c K w (by omega) ho.reads).mono ?_
  rintro e w1 ⟨rfl, hb1⟩
  have ho1 : OwnR w1 B (.slice A l.length c) l := own_kept ho hb1
  have HC := Lib.hid (l1Copy_any A l c w1 (by omega) ho1.reads)
  have HB := Lib.hid hb1
  have HO1 := Lib.hid ho1
  clear ho ho1 hb1
  cases hf : hasN K l
  · have HE := Lib.hid (show putN K n l = (l.take (findN K l) ++ [(K, n)]) ++ l.drop (findN K l) by unfold putN; rw [if_neg (by rw [hf]; simp)])
    have hk : findN K l ≤ l.length := findN_le K l
    generalize findN K l = k at *
    go_wp2_with fail
    refine HC.out.mono ?_
    rintro e w2 ⟨Au, cu, rfl, _, hb2⟩
    have ho2 : OwnR w2 B (.slice A l.length c) l := own_kept HO1.out hb2
    obtain ⟨A2, hlo, hS2⟩ := ownR_lo ho2 (k := k) (by omega)
    have hhi := fun W => ownR_hi ho2 (k := k) (by omega) W
    have hln : (l.take k).length = k := by rw [List.length_take]; omega
    have hdn : (l.drop k).length = l.length - k := List.length_drop
    have HC2 : Hid (∀ W, Below w2.heap.size w2 W → Calls Tryz.prog 123 #[.slice A k c] W fun e w' => ∃ A' c', e = .returned (.slice A' k c') ∧ OwnR w' W.heap.size (.slice A' k c') (l.take k) ∧ Below W.heap.size W w') := Lib.hid (fun W hW => by
      have := l1Copy_any A (l.take k) c W (by omega) ((ho2.reads.take k).below hW)
      rw [hln] at this
      exact this)
    have HB2 := Lib.hid (bthen HB.out hb2)
    have HS2 := Lib.hid hS2
    have HDN := Lib.hid hdn.symm
    have HLN := Lib.hid hln
    have HBS := Lib.hid hb2.size
    have G63 := Lib.hid (show k + [((K, n) : Row)].length ≤ maxLen by unfold maxLen; simp; omega)
    have GBY := Lib.hid (show (k + [((K, n) : Row)].length) * 24 ≤ 140737488355328 by simp; omega)
    have H63 := Lib.hid (show k + 1 + (l.drop k).length ≤ maxLen by rw [hdn]; unfold maxLen; omega)
    have HBY := Lib.hid (show (k + 1 + (l.drop k).length) * 24 ≤ 140737488355328 by rw [hdn]; omega)
    clear HC hf hS2 hdn hln hb2 ho2 HO1
    go_wp2_with fail
    go_region_law (first
      | (refine step_append_slB (enc := encRow) rfl (.tmp 33) (.tmp 36) 63 rfl w2.heap.size 83 i0 (.agg #[.string ⟨#[]⟩, .int .i64 0]) 2 24 Tryz.underlying63 HI.out.1 HI.out.2.1 HI.out.2.2.1 HI.out.2.2.2 rfl (by decide) v4 (k + 1) ((l.take k ++ [((K, n) : Row)]).flatMap encRow) (by simp [Act.eval]) HO4.out encRow_len A2 (l.drop k) (l.length - k) (c - k) HDN.out (by simp [Act.eval]) (HS2.out.below HB4.out) (encRow_one _) H63.out HBY.out HB4.out.size ?_
         intro v5 w5 hown5 hgr5 _
         have hb5 := Lib.hid (below_own HB4.out hgr5 HB4.out.size (fun j hj => (HO4.out.lt j hj).1))
         obtain ⟨N, hN, ho5⟩ : ∃ N, N = (l.take k ++ [((K, n) : Row)]) ++ l.drop k ∧ OwnR w5 w2.heap.size v5 N := ⟨_, rfl, ownR_app (by rw [List.length_append, HLN.out]; exact hown5)⟩
         obtain ⟨A5, c5, rfl, _, _, _⟩ := ho5.sl
         have HN := Lib.hid hN
         have HO5 := Lib.hid ho5
         clear hown5 hgr5 ho5 hN)
      | (refine step_append_slB (enc := encRow) rfl (.tmp 28) (.tmp 32) 63 rfl w2.heap.size 83 i0 (.agg #[.string ⟨#[]⟩, .int .i64 0]) 2 24 Tryz.underlying63 HI.out.1 HI.out.2.1 HI.out.2.2.1 HI.out.2.2.2 rfl (by decide) (.slice A3 k c3) k ((l.take k).flatMap encRow) (by simp [Act.eval]) HO3.out encRow_len (some ⟨w2.heap.size, 0, none⟩) [((K, n) : Row)] 1 1 rfl (by simp [Act.eval]) HX3.out (encRow_one _) G63.out GBY.out HB3.out.size ?_
         intro v4 w4 hown4 hgr4 _
         have HB4 : Hid (Below w2.heap.size w2 w4) := Lib.hid (by first | exact below_own HB3.out hgr4 HB3.out.size (fun j hj => (HO3.out.lt j hj).1) | exact below_own (HB3.out.alloc HB3.out.size _) hgr4 HB3.out.size (fun j hj => (HO3.out.lt j hj).1))
         have HO4 : Hid (w4.ownsRow w2.heap.size 83 2 v4 (k + 1) ((l.take k ++ [((K, n) : Row)]).flatMap encRow)) := Lib.hid (by rw [List.flatMap_append]; exact hown4)
         clear hown4 hgr4)
      | (refine step_append_slB (enc := encRow) rfl (.tmp 28) (.tmp 32) 63 rfl w2.heap.size 83 i0 (.agg #[.string ⟨#[]⟩, .int .i64 0]) 2 24 Tryz.underlying63 HI.out.1 HI.out.2.1 HI.out.2.2.1 HI.out.2.2.2 rfl (by decide) (.slice A3 k c3) k ((l.take k).flatMap encRow) (by simp [Act.eval]) (HO3.out.alloc _) encRow_len (some ⟨w3.heap.size, 0, none⟩) [((K, n) : Row)] 1 1 rfl (by simp [Act.eval]) (slr_one (x := (K, n)) (Blk.new w3 _ _)) (encRow_one _) G63.out GBY.out (by have := HB3.out.size; simp; omega) ?_
         intro v4 w4 hown4 hgr4 _
         have HB4 : Hid (Below w2.heap.size w2 w4) := Lib.hid (below_own (HB3.out.alloc HB3.out.size _) hgr4 (by have := HB3.out.size; simp; omega) (fun j hj => (HO3.out.lt j hj).1))
         have HO4 : Hid (w4.ownsRow w2.heap.size 83 2 v4 (k + 1) ((l.take k ++ [((K, n) : Row)]).flatMap encRow)) := Lib.hid (by rw [List.flatMap_append]; exact hown4)
         clear hown4 hgr4)
      | (go_simp
         go_at_call 123
         refine (HC2.out _ (kD w2)).mono ?_
         rintro e w3 ⟨A3, c3, rfl, ho3, hb3⟩
         have HB3 : Hid (Below w2.heap.size w2 w3) := Lib.hid (bthen (kD w2) hb3)
         have HO3 : Hid (w3.ownsRow w2.heap.size 83 2 (.slice A3 k c3) k ((l.take k).flatMap encRow)) := Lib.hid (by have := ho3; unfold OwnR at this; rw [HLN.out] at this; exact this)
         clear ho3 hb3)
      | (go_simp
         go_at_call 123
         refine (HC2.out _ (bthen (kD w2) (kA w2.drew _))).mono ?_
         rintro e w3 ⟨A3, c3, rfl, ho3, hb3⟩
         have HX3 : Hid (Sl encRow 2 w3 (some ⟨w2.heap.size, 0, none⟩) [((K, n) : Row)]) := Lib.hid ((slr_one (x := (K, n)) (Blk.new w2.drew 83 #[.string K, .int .i64 n])).below hb3)
         have HB3 : Hid (Below w2.heap.size w2 w3) := Lib.hid (bthen (bthen (kD w2) (kA w2.drew _)) hb3)
         have HO3 : Hid (w3.ownsRow w2.heap.size 83 2 (.slice A3 k c3) k ((l.take k).flatMap encRow)) := Lib.hid (by have := ho3.le (B2 := w2.heap.size) (kA w2.drew _).size; unfold OwnR at this; rw [HLN.out] at this; exact this)
         clear ho3 hb3))
    all_goals
      go_wp2
      go_ret
      rw [HE.out, ← HN.out]
      exact ⟨_, _, rfl, HO5.out.le HB2.out.size, bthen HB2.out hb5.out⟩
  · obtain ⟨x, hx, hxk⟩ := findN_lt hf
    have hk : findN K l < l.length := (List.getElem?_eq_some_iff.1 hx).1
    have HE := Lib.hid (show putN K n l = l.set (findN K l) (K, n) by unfold putN; rw [if_pos hf])
    have HX := Lib.hid (show x.1 = K ∧ l[findN K l]? = some x from ⟨hxk, hx⟩)
    generalize findN K l = k at *
    clear hx hf hxk HO1
    go_wp2_with fail
    refine HC.out.mono ?_
    rintro e w2 ⟨A2, c2, rfl, ho2, hb2⟩
    obtain ⟨g, c', e2⟩ := ownR_some ho2 (by omega)
    injection e2 with e1 e2 e3
    subst e1
    subst e3
    have x0 : w2.cell? ⟨g, k * 2 + 1, none⟩ = some (.int .i64 x.2) := ownR_at ho2 HX.out.2
    have z0 : w2.frozen? ⟨g, k * 2 + 1, none⟩ = false := World.ownsRow.frozenAt ho2 (k * 2 + 1)
    have HB2 := Lib.hid (bthen HB.out hb2)
    have HST := Lib.hid (World.ownsRow.stored ho2 (k * 2 + 1) (.int .i64 n))
    have hgl := (ho2.lt g rfl)
    clear HC hb2 ho2
    go_wp2
    go_ret
    have hl : (l.set k (K, n)).length = l.length := List.length_set
    have ho3 : OwnR (w2.setCell ⟨g, k * 2 + 1, none⟩ (.int .i64 n)) w1.heap.size (.slice (some ⟨g, 0, none⟩) l.length c2) (l.set k (K, n)) := by
      have h3 := HST.out.1
      rw [set_flatR K n x.2 l k (by rw [HX.out.2, ← HX.out.1])] at h3
      unfold OwnR
      rw [hl]
      exact h3
    rw [HE.out, hl]
    exact ⟨_, _, rfl, ho3.le HB.out.size, HB2.out.setCell (by have := HB.out.size; simp; omega) _⟩
end Go.Proofs.YtfmhhckkpenldaaGreatDoor
/- The reference's l3Rows: rows with what one did. -/
namespace Go.Proofs.YtfmhhckkpenldaaGreatDoor
open Go.RowKit
def stepR (rs : List Row) (x : Wri) : List Row := if x.2.2 = true then cutN x.1 rs else putN x.1 x.2.1 rs
def rowsN (rs : List Row) (ws : List Wri) : List Row := ws.foldl stepR rs
theorem rowsN_take {rs : List Row} {ws : List Wri} {k : Nat} (hk : k < ws.length) : rowsN rs (ws.take (k + 1)) = stepR (rowsN rs (ws.take k)) ws[k] := by
  unfold rowsN; rw [List.take_succ_eq_append_getElem hk, List.foldl_append]; rfl
theorem stepR_len (rs : List Row) (x : Wri) : (stepR rs x).length ≤ rs.length + 1 := by
  unfold stepR
  have h1 := cutN_len x.1 rs
  have h2 := putN_len x.1 x.2.1 rs
  split <;> omega
theorem rowsN_len : ∀ (ws : List Wri) (rs : List Row), (rowsN rs ws).length ≤ rs.length + ws.length
  | [], rs => by simp [rowsN]
  | x :: ws, rs => by
    have h := rowsN_len ws (stepR rs x)
    have h2 := stepR_len rs x
    have e : rowsN rs (x :: ws) = rowsN (stepR rs x) ws := rfl
    rw [e, List.length_cons]; omega
theorem rowsN_size : ∀ (ws : List Wri) (rs : List Row), (∀ x ∈ rs, x.1.size ≤ maxLen) → (∀ x ∈ ws, x.1.size ≤ maxLen) → ∀ x ∈ rowsN rs ws, x.1.size ≤ maxLen
  | [], rs, h, _ => h
  | y :: ws, rs, h, hw => by
    refine rowsN_size ws (stepR rs y) ?_ (fun x hx => hw x (List.mem_cons_of_mem _ hx))
    unfold stepR
    split
    · exact cutN_size h
    · exact putN_size h (hw y List.mem_cons_self)
set_option maxRecDepth 100000 in
set_option maxHeartbeats 4000000 in
theorem l3Rows_any (B : Nat) (A : Option Addr) (rs : List Row) (c : Nat) (A2 : Option Addr) (ws : List Wri) (c2 : Nat) (w : World) (hr : rs.length ≤ 500) (hw : ws.length ≤ 400) (ho : OwnR w B (.slice A rs.length c) rs) (hS : Sl encWri 3 w A2 ws) :
    Calls Tryz.prog 93 #[.slice A rs.length c, .slice A2 ws.length c2] w fun e w' => ∃ A' c' B', e = .returned (.slice A' (rowsN rs ws).length c') ∧ OwnR w' B' (.slice A' (rowsN rs ws).length c') (rowsN rs ws) ∧ Below w.heap.size w w' := by
  have HO := Lib.hid ho
  have HB := Lib.hid (Below.refl w.heap.size w)
  clear ho
  go_enter Tryz.func93, Tryz.ntmps93
  go_wp2
  go_loopw [0, 5] (fun r i wr => ∃ (k : Nat) (A' : Option Addr) (c' B' : Nat), k ≤ ws.length ∧ i = .int .i64 k ∧ r = .slice A' (rowsN rs (ws.take k)).length c' ∧ Hid (OwnR wr B' (.slice A' (rowsN rs (ws.take k)).length c') (rowsN rs (ws.take k))) ∧ Hid (Below w.heap.size w wr)) (fun _ i _ => ws.length - (intOf i).toNat)
  case atStart => exact ⟨0, A, c, B, by omega, rfl, rfl, HO, HB⟩
  case round =>
    clear HO HB
    obtain ⟨k, A', c', B', hk, rfl, rfl, HO, HB⟩ := hrel
    by_cases hlt : k < ws.length
    · obtain ⟨b2, o2, rfl, hbl2, c0, c1, c2⟩ := Sl.at3 (hS.below HB.out) hlt
      have HT := Lib.hid (rowsN_take (rs := rs) hlt)
      have hL : (rowsN rs (ws.take k)).length ≤ 1000 := by have := rowsN_len (ws.take k) rs; rw [List.length_take] at this; omega
      generalize rowsN rs (ws.take k) = L at *
      generalize ws[k] = x at *
      obtain ⟨kk, n, gn⟩ := x
      simp only at c0 c1 c2
      clear hS
      cases gn
      · have HC := Lib.hid (l1Put_any B' A' L c' kk n wr.drew hL (own_kept HO.out (kD wr)))
        have HE := Lib.hid (show stepR L (kk, n, false) = putN kk n L from rfl)
        clear HO
        go_wp2_with fail
        go_region_with (go_at_call 106; refine HC.out.mono ?_; rintro e w4 ⟨A4, c4, rfl, ho4, hb4⟩; have HO4 := Lib.hid ho4; have HB4 := Lib.hid (bthen HB.out (bthen (kD wr) hb4)); clear ho4 hb4)
        all_goals
          go_wp2
          go_roundw
          case rel => exact ⟨k + 1, A4, c4, _, by omega, by go_num, by rw [HT.out, HE.out], by rw [HT.out, HE.out]; exact HO4.out, HB4.out⟩
          case measure => simp [intOf]; omega
      · have HC := Lib.hid (l1Cut_any B' A' L c' kk wr hL HO.out)
        have HE := Lib.hid (show stepR L (kk, n, true) = cutN kk L from rfl)
        clear HO
        go_wp2_with fail
        refine HC.out.mono ?_
        rintro e w4 ⟨A4, c4, rfl, ho4, hb4⟩
        have HO4 := Lib.hid ho4
        have HB4 := Lib.hid (bthen HB.out hb4)
        clear ho4 hb4
        go_wp2
        go_roundw
        case rel => exact ⟨k + 1, A4, c4, _, by omega, by go_num, by rw [HT.out, HE.out], by rw [HT.out, HE.out]; exact HO4.out, HB4.out⟩
        case measure => simp [intOf]; omega
    · obtain rfl : k = ws.length := by omega
      rw [List.take_length] at *
      go_wp2
      go_ret
      exact ⟨_, _, _, rfl, HO.out, HB.out⟩
end Go.Proofs.YtfmhhckkpenldaaGreatDoor
