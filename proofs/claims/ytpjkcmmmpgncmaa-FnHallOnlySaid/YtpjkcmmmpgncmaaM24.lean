import Derived.Deep.RegionLaw
import Derived.Test.YtpjkcmmmpgncmaaM16
import Derived.Test.YtpjkcmmmpgncmaaM14
import Derived.Test.YtpjkcmmmpgncmaaM13
import Derived.Test.YtpjkcmmmpgncmaaM12
import Derived.Test.YtpjkcmmmpgncmaaM03
import Derived.Test.YtpjkcmmmpgncmaaM21
/- The reference on rows: a number is put under a key, a key is taken away. -/
namespace Go.Proofs.Ytpjkcmmmpgncmaa
open Go.RowKit
theorem kA (W : World) (o : Obj) : Below W.heap.size W (W.alloc o) := (Below.refl _ _).alloc (Nat.le_refl _) _
theorem kD (W : World) : Below W.heap.size W W.drew := (Below.refl _ _).drew
def cutN (K : ByteArray) (l : List Row) : List Row := if hasN K l = true then l.take (findN K l) ++ l.drop (findN K l + 1) else l
def putN (K : ByteArray) (n : Int) (l : List Row) : List Row := if hasN K l = true then l.set (findN K l) (K, n) else (l.take (findN K l) ++ [(K, n)]) ++ l.drop (findN K l)
theorem cutN_len (K : ByteArray) (l : List Row) : (cutN K l).length ≤ l.length := by unfold cutN; split <;> simp <;> omega
theorem putN_len (K : ByteArray) (n : Int) (l : List Row) : (putN K n l).length ≤ l.length + 1 := by unfold putN; split <;> simp <;> omega
theorem cutN_size {K : ByteArray} {l : List Row} (h : ∀ x ∈ l, x.1.size ≤ maxLen) : ∀ x ∈ cutN K l, x.1.size ≤ maxLen := by
  unfold cutN
  intro x hx
  split at hx
  · rcases List.mem_append.1 hx with hx | hx
    · exact h x (List.mem_of_mem_take hx)
    · exact h x (List.mem_of_mem_drop hx)
  · exact h x hx
theorem putN_size {K : ByteArray} {n : Int} {l : List Row} (h : ∀ x ∈ l, x.1.size ≤ maxLen) (hK : K.size ≤ maxLen) : ∀ x ∈ putN K n l, x.1.size ≤ maxLen := by
  unfold putN
  intro x hx
  split at hx
  · rcases List.mem_or_eq_of_mem_set hx with hx | rfl
    · exact h x hx
    · exact hK
  · simp only [List.mem_append, List.mem_singleton] at hx
    rcases hx with (hx | rfl) | hx
    · exact h x (List.mem_of_mem_take hx)
    · exact hK
    · exact h x (List.mem_of_mem_drop hx)
theorem set_flatR (K : ByteArray) (n m : Int) : ∀ (l : List Row) (k : Nat), l[k]? = some (K, m) → (l.flatMap encRow).set (k * 2 + 1) (.int .i64 n) = (l.set k (K, n)).flatMap encRow
  | [], _, h => by simp at h
  | x :: l, 0, h => by
    simp at h
    subst h
    simp [encRow]
  | x :: l, k + 1, h => by
    have ih := set_flatR K n m l k (by simpa using h)
    rw [List.set_cons_succ, List.flatMap_cons, List.flatMap_cons, ← ih, show (k + 1) * 2 + 1 = (k * 2 + 1) + 2 by omega]
    simp [encRow]
theorem ownR_some {w : World} {B : Nat} {v : Value} {l : List Row} (h : OwnR w B v l) (hl : 0 < l.length) : ∃ g c, v = .slice (some ⟨g, 0, none⟩) l.length c := by
  rcases h.2 with ⟨rfl, h2⟩ | ⟨g, cap, cur, rfl, h2⟩
  · omega
  · exact ⟨g, cap, rfl⟩
theorem ownR_at {w : World} {B g n c k : Nat} {l : List Row} {x : Row} (h : OwnR w B (.slice (some ⟨g, 0, none⟩) n c) l) (hx : l[k]? = some x) : w.cell? ⟨g, k * 2 + 1, none⟩ = some (.int .i64 x.2) := by
  obtain ⟨b, o, e, hb, hc⟩ := h.reads (by have := (List.getElem?_eq_some_iff.1 hx).1; omega)
  simp at e
  obtain ⟨rfl, rfl⟩ := e
  have := hc k 1 x hx (by decide)
  rw [Nat.zero_add] at this
  exact this
set_option maxRecDepth 100000 in
set_option maxHeartbeats 4000000 in
theorem l1Cut_any (B : Nat) (A : Option Addr) (l : List Row) (c : Nat) (K : ByteArray) (w : World) (hn : l.length ≤ 1000) (ho : OwnR w B (.slice A l.length c) l) :
    Calls Try.prog 238 #[.slice A l.length c, .string K] w fun e w' => ∃ A' c', e = .returned (.slice A' (cutN K l).length c') ∧ OwnR w' w.heap.size (.slice A' (cutN K l).length c') (cutN K l) ∧ Below w.heap.size w w' := by
  obtain ⟨i0, hi, hz0, hz1, hz2⟩ := info_parts infoRow
  have HI := Lib.hid (⟨hi, hz0, hz1, hz2⟩ : _ ∧ _ ∧ _ ∧ _)
  clear hi hz0 hz1 hz2
  go_enter Try.func238, Try.ntmps238
  go_wp2_with fail
  refine (l1Find_any A l c K w (by omega) ho.reads).mono ?_
  rintro e w1 ⟨rfl, hb1⟩
  have ho1 : OwnR w1 B (.slice A l.length c) l := own_kept ho hb1
  cases hf : hasN K l
  · have HE := Lib.hid (show cutN K l = l by unfold cutN; rw [if_neg (by rw [hf]; simp)])
    have HC := Lib.hid (l1Copy_any A l c w1 (by omega) ho1.reads)
    have HB := Lib.hid hb1
    clear ho ho1 hb1
    go_wp2_with fail
    refine HC.out.mono ?_
    rintro e w2 ⟨A', c', rfl, ho2, hb2⟩
    go_wp2
    go_ret
    rw [HE.out]
    exact ⟨A', c', rfl, ho2.le HB.out.size, bthen HB.out hb2⟩
  · obtain ⟨x, hx, _⟩ := findN_lt hf
    have hk : findN K l < l.length := (List.getElem?_eq_some_iff.1 hx).1
    have HE := Lib.hid (show cutN K l = l.take (findN K l) ++ l.drop (findN K l + 1) by unfold cutN; rw [if_pos hf])
    generalize hkk : findN K l = k at *
    obtain ⟨A2, hlo, hS2⟩ := ownR_lo ho1 (k := k + 1) (by omega)
    have hhi := fun W => ownR_hi ho1 (k := k) (by omega) W
    have hln : (l.take k).length = k := by rw [List.length_take]; omega
    have hdn : (l.drop (k + 1)).length = l.length - (k + 1) := List.length_drop
    have HC : Hid (∀ W, Below w1.heap.size w1 W → Calls Try.prog 241 #[.slice A k c] W fun e w' => ∃ A' c', e = .returned (.slice A' k c') ∧ OwnR w' W.heap.size (.slice A' k c') (l.take k) ∧ Below W.heap.size W w') := Lib.hid (fun W hW => by
      have := l1Copy_any A (l.take k) c W (by omega) ((ho1.reads.take k).below hW)
      rw [hln] at this
      exact this)
    have HB := Lib.hid hb1
    have HS2 := Lib.hid hS2
    have HDN := Lib.hid hdn.symm
    have HLN := Lib.hid hln
    have H63 := Lib.hid (show k + (l.drop (k + 1)).length ≤ maxLen by rw [hdn]; unfold maxLen; omega)
    have HBY := Lib.hid (show (k + (l.drop (k + 1)).length) * 24 ≤ 140737488355328 by rw [hdn]; omega)
    clear ho ho1 hb1 hx hf hS2 hdn hln
    have hk1 : IntKind.i64.wrap ((k : Int) + 1) = ((k + 1 : Nat) : Int) := by rw [IntKind.wrap_i64]; omega
    go_wp2_with fail
    go_region_law (first
      | (refine step_append_slB (enc := encRow) rfl (.tmp 20) (.tmp 24) 68 rfl w1.heap.size 111 i0 (.agg #[.string ⟨#[]⟩, .int .i64 0]) 2 24 Try.underlying68 HI.out.1 HI.out.2.1 HI.out.2.2.1 HI.out.2.2.2 rfl (by decide) (.slice A3 k c3) k ((l.take k).flatMap encRow) (by simp [Act.eval]) HO3.out encRow_len A2 (l.drop (k + 1)) (l.length - (k + 1)) (c - (k + 1)) HDN.out (by simp [Act.eval]) (HS2.out.below HB3.out) (encRow_one _) H63.out HBY.out HB3.out.size ?_
         intro v4 w4 hown4 hgr4 _
         have hb4 := Lib.hid (below_own HB3.out hgr4 HB3.out.size (fun j hj => (HO3.out.lt j hj).1))
         obtain ⟨N, hN, ho4⟩ : ∃ N, N = l.take k ++ l.drop (k + 1) ∧ OwnR w4 w1.heap.size v4 N := ⟨_, rfl, ownR_app (by rw [HLN.out]; exact hown4)⟩
         obtain ⟨A4, c4, rfl, _, _, _⟩ := ho4.sl
         have HN := Lib.hid hN
         have HO4 := Lib.hid ho4
         clear hown4 hgr4 ho4 hN)
      | (go_simp
         go_at_call 241
         refine (HC.out _ (kD _)).mono ?_
         rintro e w3 ⟨A3, c3, rfl, ho3, hb3⟩
         have HB3 : Hid (Below w1.heap.size w1 w3) := Lib.hid (bthen (kD _) hb3)
         have HO3 : Hid (w3.ownsRow w1.heap.size 111 2 (.slice A3 k c3) k ((l.take k).flatMap encRow)) := Lib.hid (by have := ho3; unfold OwnR at this; rw [HLN.out] at this; exact this)
         clear ho3 hb3))
    all_goals
      go_wp2
      go_ret
      rw [HE.out, ← HN.out]
      exact ⟨_, _, rfl, HO4.out.le HB.out.size, bthen HB.out hb4.out⟩
set_option maxRecDepth 100000 in
set_option maxHeartbeats 4000000 in
theorem l1Put_any (B : Nat) (A : Option Addr) (l : List Row) (c : Nat) (K : ByteArray) (n : Int) (w : World) (hn : l.length ≤ 1000) (ho : OwnR w B (.slice A l.length c) l) :
    Calls Try.prog 239 #[.slice A l.length c, .string K, .int .i64 n] w fun e w' => ∃ A' c', e = .returned (.slice A' (putN K n l).length c') ∧ OwnR w' w.heap.size (.slice A' (putN K n l).length c') (putN K n l) ∧ Below w.heap.size w w' := by
  obtain ⟨i0, hi, hz0, hz1, hz2⟩ := info_parts infoRow
  have HI := Lib.hid (⟨hi, hz0, hz1, hz2⟩ : _ ∧ _ ∧ _ ∧ _)
  clear hi hz0 hz1 hz2
  go_enter Try.func239, Try.ntmps239
  go_wp2_with fail
  refine (l1Find_any A l c K w (by omega) ho.reads).mono ?_
  rintro e w1 ⟨rfl, hb1⟩
  have ho1 : OwnR w1 B (.slice A l.length c) l := own_kept ho hb1
  have HC := Lib.hid (l1Copy_any A l c w1 (by omega) ho1.reads)
  have HB := Lib.hid hb1
  have HO1 := Lib.hid ho1
  clear ho ho1 hb1
  cases hf : hasN K l
  · have HE := Lib.hid (show putN K n l = (l.take (findN K l) ++ [(K, n)]) ++ l.drop (findN K l) by unfold putN; rw [if_neg (by rw [hf]; simp)])
    have hk : findN K l ≤ l.length := findN_le K l
    generalize findN K l = k at *
    go_wp2_with fail
    refine HC.out.mono ?_
    rintro e w2 ⟨Au, cu, rfl, _, hb2⟩
    have ho2 : OwnR w2 B (.slice A l.length c) l := own_kept HO1.out hb2
    obtain ⟨A2, hlo, hS2⟩ := ownR_lo ho2 (k := k) (by omega)
    have hhi := fun W => ownR_hi ho2 (k := k) (by omega) W
    have hln : (l.take k).length = k := by rw [List.length_take]; omega
    have hdn : (l.drop k).length = l.length - k := List.length_drop
    have HC2 : Hid (∀ W, Below w2.heap.size w2 W → Calls Try.prog 241 #[.slice A k c] W fun e w' => ∃ A' c', e = .returned (.slice A' k c') ∧ OwnR w' W.heap.size (.slice A' k c') (l.take k) ∧ Below W.heap.size W w') := Lib.hid (fun W hW => by
      have := l1Copy_any A (l.take k) c W (by omega) ((ho2.reads.take k).below hW)
      rw [hln] at this
      exact this)
    have HB2 := Lib.hid (bthen HB.out hb2)
    have HS2 := Lib.hid hS2
    have HDN := Lib.hid hdn.symm
    have HLN := Lib.hid hln
    have HBS := Lib.hid hb2.size
    have G63 := Lib.hid (show k + [((K, n) : Row)].length ≤ maxLen by unfold maxLen; simp; omega)
    have GBY := Lib.hid (show (k + [((K, n) : Row)].length) * 24 ≤ 140737488355328 by simp; omega)
    have H63 := Lib.hid (show k + 1 + (l.drop k).length ≤ maxLen by rw [hdn]; unfold maxLen; omega)
    have HBY := Lib.hid (show (k + 1 + (l.drop k).length) * 24 ≤ 140737488355328 by rw [hdn]; omega)
    clear HC hf hS2 hdn hln hb2 ho2 HO1
    go_wp2_with fail
    go_region_law (first
      | (refine step_append_slB (enc := encRow) rfl (.tmp 33) (.tmp 36) 68 rfl w2.heap.size 111 i0 (.agg #[.string ⟨#[]⟩, .int .i64 0]) 2 24 Try.underlying68 HI.out.1 HI.out.2.1 HI.out.2.2.1 HI.out.2.2.2 rfl (by decide) v4 (k + 1) ((l.take k ++ [((K, n) : Row)]).flatMap encRow) (by simp [Act.eval]) HO4.out encRow_len A2 (l.drop k) (l.length - k) (c - k) HDN.out (by simp [Act.eval]) (HS2.out.below HB4.out) (encRow_one _) H63.out HBY.out HB4.out.size ?_
         intro v5 w5 hown5 hgr5 _
         have hb5 := Lib.hid (below_own HB4.out hgr5 HB4.out.size (fun j hj => (HO4.out.lt j hj).1))
         obtain ⟨N, hN, ho5⟩ : ∃ N, N = (l.take k ++ [((K, n) : Row)]) ++ l.drop k ∧ OwnR w5 w2.heap.size v5 N := ⟨_, rfl, ownR_app (by rw [List.length_append, HLN.out]; exact hown5)⟩
         obtain ⟨A5, c5, rfl, _, _, _⟩ := ho5.sl
         have HN := Lib.hid hN
         have HO5 := Lib.hid ho5
         clear hown5 hgr5 ho5 hN)
      | (refine step_append_slB (enc := encRow) rfl (.tmp 28) (.tmp 32) 68 rfl w2.heap.size 111 i0 (.agg #[.string ⟨#[]⟩, .int .i64 0]) 2 24 Try.underlying68 HI.out.1 HI.out.2.1 HI.out.2.2.1 HI.out.2.2.2 rfl (by decide) (.slice A3 k c3) k ((l.take k).flatMap encRow) (by simp [Act.eval]) HO3.out encRow_len (some ⟨w2.heap.size, 0, none⟩) [((K, n) : Row)] 1 1 rfl (by simp [Act.eval]) HX3.out (encRow_one _) G63.out GBY.out HB3.out.size ?_
         intro v4 w4 hown4 hgr4 _
         have HB4 : Hid (Below w2.heap.size w2 w4) := Lib.hid (by first | exact below_own HB3.out hgr4 HB3.out.size (fun j hj => (HO3.out.lt j hj).1) | exact below_own (HB3.out.alloc HB3.out.size _) hgr4 HB3.out.size (fun j hj => (HO3.out.lt j hj).1))
         have HO4 : Hid (w4.ownsRow w2.heap.size 111 2 v4 (k + 1) ((l.take k ++ [((K, n) : Row)]).flatMap encRow)) := Lib.hid (by rw [List.flatMap_append]; exact hown4)
         clear hown4 hgr4)
      | (refine step_append_slB (enc := encRow) rfl (.tmp 28) (.tmp 32) 68 rfl w2.heap.size 111 i0 (.agg #[.string ⟨#[]⟩, .int .i64 0]) 2 24 Try.underlying68 HI.out.1 HI.out.2.1 HI.out.2.2.1 HI.out.2.2.2 rfl (by decide) (.slice A3 k c3) k ((l.take k).flatMap encRow) (by simp [Act.eval]) (HO3.out.alloc _) encRow_len (some ⟨w3.heap.size, 0, none⟩) [((K, n) : Row)] 1 1 rfl (by simp [Act.eval]) (slr_one (x := (K, n)) (Blk.new w3 _ _)) (encRow_one _) G63.out GBY.out (by have := HB3.out.size; simp; omega) ?_
         intro v4 w4 hown4 hgr4 _
         have HB4 : Hid (Below w2.heap.size w2 w4) := Lib.hid (below_own (HB3.out.alloc HB3.out.size _) hgr4 (by have := HB3.out.size; simp; omega) (fun j hj => (HO3.out.lt j hj).1))
         have HO4 : Hid (w4.ownsRow w2.heap.size 111 2 v4 (k + 1) ((l.take k ++ [((K, n) : Row)]).flatMap encRow)) := Lib.hid (by rw [List.flatMap_append]; exact hown4)
         clear hown4 hgr4)
      | (go_simp
         go_at_call 241
         refine (HC2.out _ (kD w2)).mono ?_
         rintro e w3 ⟨A3, c3, rfl, ho3, hb3⟩
         have HB3 : Hid (Below w2.heap.size w2 w3) := Lib.hid (bthen (kD w2) hb3)
         have HO3 : Hid (w3.ownsRow w2.heap.size 111 2 (.slice A3 k c3) k ((l.take k).flatMap encRow)) := Lib.hid (by have := ho3; unfold OwnR at this; rw [HLN.out] at this; exact this)
         clear ho3 hb3)
      | (go_simp
         go_at_call 241
         refine (HC2.out _ (bthen (kD w2) (kA w2.drew _))).mono ?_
         rintro e w3 ⟨A3, c3, rfl, ho3, hb3⟩
         have HX3 : Hid (Sl encRow 2 w3 (some ⟨w2.heap.size, 0, none⟩) [((K, n) : Row)]) := Lib.hid ((slr_one (x := (K, n)) (Blk.new w2.drew 111 #[.string K, .int .i64 n])).below hb3)
         have HB3 : Hid (Below w2.heap.size w2 w3) := Lib.hid (bthen (bthen (kD w2) (kA w2.drew _)) hb3)
         have HO3 : Hid (w3.ownsRow w2.heap.size 111 2 (.slice A3 k c3) k ((l.take k).flatMap encRow)) := Lib.hid (by have := ho3.le (B2 := w2.heap.size) (kA w2.drew _).size; unfold OwnR at this; rw [HLN.out] at this; exact this)
         clear ho3 hb3))
    all_goals
      go_wp2
      go_ret
      rw [HE.out, ← HN.out]
      exact ⟨_, _, rfl, HO5.out.le HB2.out.size, bthen HB2.out hb5.out⟩
  · obtain ⟨x, hx, hxk⟩ := findN_lt hf
    have hk : findN K l < l.length := (List.getElem?_eq_some_iff.1 hx).1
    have HE := Lib.hid (show putN K n l = l.set (findN K l) (K, n) by unfold putN; rw [if_pos hf])
    have HX := Lib.hid (show x.1 = K ∧ l[findN K l]? = some x from ⟨hxk, hx⟩)
    generalize findN K l = k at *
    clear hx hf hxk HO1
    go_wp2_with fail
    refine HC.out.mono ?_
    rintro e w2 ⟨A2, c2, rfl, ho2, hb2⟩
    obtain ⟨g, c', e2⟩ := ownR_some ho2 (by omega)
    injection e2 with e1 e2 e3
    subst e1
    subst e3
    have x0 : w2.cell? ⟨g, k * 2 + 1, none⟩ = some (.int .i64 x.2) := ownR_at ho2 HX.out.2
    have z0 : w2.frozen? ⟨g, k * 2 + 1, none⟩ = false := World.ownsRow.frozenAt ho2 (k * 2 + 1)
    have HB2 := Lib.hid (bthen HB.out hb2)
    have HST := Lib.hid (World.ownsRow.stored ho2 (k * 2 + 1) (.int .i64 n))
    have hgl := (ho2.lt g rfl)
    clear HC hb2 ho2
    go_wp2
    go_ret
    have hl : (l.set k (K, n)).length = l.length := List.length_set
    have ho3 : OwnR (w2.setCell ⟨g, k * 2 + 1, none⟩ (.int .i64 n)) w1.heap.size (.slice (some ⟨g, 0, none⟩) l.length c2) (l.set k (K, n)) := by
      have h3 := HST.out.1
      rw [set_flatR K n x.2 l k (by rw [HX.out.2, ← HX.out.1])] at h3
      unfold OwnR
      rw [hl]
      exact h3
    rw [HE.out, hl]
    exact ⟨_, _, rfl, ho3.le HB.out.size, HB2.out.setCell (by have := HB.out.size; simp; omega) _⟩
end Go.Proofs.Ytpjkcmmmpgncmaa
/- The reference's l2Do and VersDo. -/
namespace Go.Proofs.Ytpjkcmmmpgncmaa
open Go.RowKit
/-- what the reference's l2Do answers -/
noncomputable def doR (now : Int) (l : List Ver) (ws : List Wri) : (Int × List Ver) × Bool :=
  if versB (now + 1) (doS (now + 1) l ws) = true then ((now + 1, doS (now + 1) l ws), true) else ((now, l), false)
set_option maxRecDepth 100000 in
set_option maxHeartbeats 1000000 in
theorem l2Do_any (A A2 : Option Addr) (l : List Ver) (ws : List Wri) (c c2 : Nat) (now : Int) (w : World) (hl : l.length ≤ 400) (hws : ws.length ≤ 400) (hn0 : 0 ≤ now) (hn1 : now ≤ 1000) (hf : FitsV l) (hf2 : FitsW ws) (hR : Sl encVer 4 w A l) (hR2 : Sl encWri 3 w A2 ws) :
    Calls Try.prog 63 #[.agg #[.int .i64 now, .slice A l.length c], .slice A2 ws.length c2] w (DoPost w (doR now l ws)) := by
  have hb0 := ((Below.refl w.heap.size w).alloc (Nat.le_refl _) (.cells #[.int .i64 now, .slice A l.length c] 32)).alloc (by simp) (.cells #[.int .i64 0, .slice none 0 0] 32)
  have hB1 := (Blk.new w 32 #[.int .i64 now, .slice A l.length c]).alloc (.cells #[.int .i64 0, .slice none 0 0] 32)
  have hB2 := Blk.new (w.alloc (.cells #[.int .i64 now, .slice A l.length c] 32)) 32 #[.int .i64 0, .slice none 0 0]
  have hsz : ((w.alloc (.cells #[.int .i64 now, .slice A l.length c] 32)).alloc (.cells #[.int .i64 0, .slice none 0 0] 32)).heap.size = w.heap.size + 2 := by simp
  rw [World.size_alloc] at hB2
  have hn3 : IntKind.i64.wrap (now + 1) = now + 1 := by rw [IntKind.wrap_i64]; omega
  have HDL := Lib.hid (fun k => doS_len (now + 1) (ws.take k) l)
  have HFT := Lib.hid (show FitsV (doS (now + 1) l ws) from ⟨Nat.le_trans (doS_len (now + 1) ws l) (by unfold maxLen; omega), doS_fits ws l hf.2 hf2.2⟩)
  go_enter Try.func63, Try.ntmps63
  go_wp2_with fail
  generalize (w.alloc (.cells #[.int .i64 now, .slice A l.length c] 32)).alloc (.cells #[.int .i64 0, .slice none 0 0] 32) = w0 at *
  refine (l2Copy_any A l c now w0 (by omega) (hR.below hb0)).mono ?_
  rintro e w1 ⟨v0, rfl, hown0, hb1⟩
  obtain ⟨A0, c0, rfl, _, _, hS0⟩ := hown0.sl
  clear hS0
  have hs1 := hb1.size
  have hB3 := Blk.new w1 32 #[.int .i64 now, .slice A0 l.length c0]
  have hown1 : OwnV (w1.alloc (.cells #[.int .i64 now, .slice A0 l.length c0] 32)) (w.heap.size + 2) (.slice A0 l.length c0) l := hsz ▸ hown0.alloc _
  have hb2 := (hb0.trans (hb1.mono (by omega))).alloc (by omega) (.cells #[.int .i64 now, .slice A0 l.length c0] 32)
  have hB2' := (hB2.kept hb1).alloc (.cells #[.int .i64 now, .slice A0 l.length c0] 32)
  have hB1' := (hB1.kept hb1).alloc (.cells #[.int .i64 now, .slice A0 l.length c0] 32)
  have hs2 : (w1.alloc (.cells #[.int .i64 now, .slice A0 l.length c0] 32)).heap.size = w1.heap.size + 1 := by simp
  have r0 : (w1.alloc (.cells #[.int .i64 now, .slice A0 l.length c0] 32)).cell? ⟨w1.heap.size, 0, none⟩ = some (.int .i64 now) := hB3.cell 0
  have r1 := hB3.frozen 0
  have r2 : (w1.alloc (.cells #[.int .i64 now, .slice A0 l.length c0] 32)).cell? ⟨w.heap.size, 0, none⟩ = some (.int .i64 now) := hB1'.cell 0
  generalize hW2 : w1.alloc (.cells #[.int .i64 now, .slice A0 l.length c0] 32) = w2 at *
  clear hB1 hB2 hown0 hb1
  have HCM := Lib.hid (show Cm w (w.heap.size + 2) w1.heap.size (now + 1) l (w2.setCell ⟨w1.heap.size, 0, none⟩ (.int .i64 (now + 1))) from ⟨.slice A0 l.length c0, ownsRow_setCell_other hown1 (Ne.symm (own_ne hown1 hB3)) _, hB3.set_ 0 _, hb2.setCell (by simp; omega) _⟩)
  have HB4 := Lib.hid (hB2'.far (p := ⟨w1.heap.size, 0, none⟩) (by simp; omega) (.int .i64 (now + 1)))
  have HB1 := Lib.hid (hB1'.far (p := ⟨w1.heap.size, 0, none⟩) (by simp; omega) (.int .i64 (now + 1)))
  go_wp2
  clear hW2 hB3 hown1 hb2 hB2' hB1' hs2 r0 r1 r2
  have hg5 : w.heap.size + 2 ≤ w1.heap.size := by omega
  generalize w1.heap.size = g5 at *
  generalize w2.setCell ⟨g5, 0, none⟩ (.int .i64 (now + 1)) = w3 at *
  go_loopw [7] (fun i wr => ∃ k : Nat, k ≤ ws.length ∧ i = .int .i64 k ∧ Hid (Cm w (w.heap.size + 2) g5 (now + 1) (doS (now + 1) l (ws.take k)) wr) ∧ Hid (Blk wr (w.heap.size + 1) 32 #[.int .i64 0, .slice none 0 0]) ∧ Hid (Blk wr w.heap.size 32 #[.int .i64 now, .slice A l.length c])) (fun i _ => ws.length - (intOf i).toNat)
  case atStart => exact ⟨0, by omega, rfl, by rw [List.take_zero]; exact HCM.out, HB4.out, HB1.out⟩
  case round =>
    obtain ⟨k, hk, rfl, HI, H4, H1⟩ := hrel
    obtain ⟨v, hown, hb5, hbw⟩ := HI.out
    clear HI HCM HB4 HB1
    by_cases hlt : k < ws.length
    · obtain ⟨b2, o2, rfl, hbl2, c0, c1, c2⟩ := Sl.at3 (hR2.below hbw) hlt
      have HD := Lib.hid (doS_take (now := now + 1) (l := l) hlt)
      have hL : (doS (now + 1) l (ws.take k)).length ≤ 800 := by have := HDL.out k; rw [List.length_take] at this; omega
      generalize doS (now + 1) l (ws.take k) = L at *
      generalize ws[k] = x at *
      obtain ⟨kk, n, gn⟩ := x
      simp only at c0 c1 c2
      obtain ⟨A', c', rfl, hLc, hcm, hS⟩ := hown.sl
      clear hS
      have y0 : wr.cell? ⟨g5, 0, none⟩ = some (.int .i64 (now + 1)) := hb5.cell 0
      have y1 : wr.cell? ⟨g5, 1, none⟩ = some (.slice A' L.length c') := hb5.cell 1
      have hki : (k : Int) < (ws.length : Int) := by omega
      have hbd := (Below.refl wr.heap.size wr).drew
      have HC := Lib.hid (l2Write_any (w.heap.size + 2) A' c' L (kk, n, gn) (now + 1) wr.drew (by have := hown.lt; have := hbw.size; have := hb5.lt; show w.heap.size + 2 ≤ wr.heap.size; omega) (by omega) (own_kept hown hbd))
      have HB5 := Lib.hid (hb5.drew)
      have H4d := Lib.hid (H4.out.drew)
      have H1d := Lib.hid (H1.out.drew)
      have HNE := Lib.hid (own_ne hown hb5)
      have HNE4 := Lib.hid (own_ne hown H4.out)
      have HNE1 := Lib.hid (own_ne hown H1.out)
      have HLT := Lib.hid hown.lt
      have HBW := Lib.hid hbw.drew
      have hg5l := hb5.lt
      clear hown hb5 hbw H4 H1 hR hR2 hbd
      go_wp2_with fail
      go_region_with (go_at_call 108; refine HC.out.mono ?_; rintro e w4 ⟨v4, rfl, hown4, hg4⟩; obtain ⟨A4, c4, rfl, _, _, hS4⟩ := hown4.sl; clear hS4; have hb54 := HB5.out.grown hg4 HNE.out; have z1 := hb54.frozen 1; have z2 : w4.cell? ⟨g5, 1, none⟩ = some (.slice A' L.length c') := hb54.cell 1; have HB54 := Lib.hid hb54; have H44 := Lib.hid (H4d.out.grown hg4 HNE4.out); have H14 := Lib.hid (H1d.out.grown hg4 HNE1.out); have HB4 := Lib.hid (below_own HBW.out hg4 (by have := HBW.out.size; exact this) (fun j hj => by have := (HLT.out j hj).1; omega)); have HO4 := Lib.hid hown4; clear hown4 hb54 hg4)
      all_goals
        have HCM2 := Lib.hid (show Cm w (w.heap.size + 2) g5 (now + 1) (writeS (now + 1) L (kk, n, gn)) (w4.setCell ⟨g5, 1, none⟩ (.slice A4 (writeS (now + 1) L (kk, n, gn)).length c4)) from ⟨_, ownsRow_setCell_other HO4.out (Ne.symm (own_ne HO4.out HB54.out)) _, HB54.out.set_ 1 _, HB4.out.setCell (by simp; omega) _⟩)
        have H42 := Lib.hid (H44.out.far (p := ⟨g5, 1, none⟩) (by simp; omega) (.slice A4 (writeS (now + 1) L (kk, n, gn)).length c4))
        have H12 := Lib.hid (H14.out.far (p := ⟨g5, 1, none⟩) (by simp; omega) (.slice A4 (writeS (now + 1) L (kk, n, gn)).length c4))
        generalize w4.setCell ⟨g5, 1, none⟩ (.slice A4 (writeS (now + 1) L (kk, n, gn)).length c4) = w6 at *
        clear z1 z2
        go_wp2
        go_roundw
        case rel => exact ⟨k + 1, by omega, by go_num, by rw [HD.out]; exact HCM2.out, H42.out, H12.out⟩
        case measure => simp [intOf]; omega
    · obtain rfl : k = ws.length := by omega
      rw [List.take_length] at *
      obtain ⟨A', c', rfl, _, _, hS⟩ := hown.sl
      have HDR := Lib.hid (show doR now l ws = if versB (now + 1) (doS (now + 1) l ws) = true then ((now + 1, doS (now + 1) l ws), true) else ((now, l), false) from rfl)
      have HVO := Lib.hid (specVersOk_any A' (doS (now + 1) l ws) c' (now + 1) wr HFT.out (by have := doS_len (now + 1) ws l; omega) hS)
      have y0 : wr.cell? ⟨g5, 0, none⟩ = some (.int .i64 (now + 1)) := hb5.cell 0
      have y1 : wr.cell? ⟨g5, 1, none⟩ = some (.slice A' (doS (now + 1) l ws).length c') := hb5.cell 1
      have HOW := Lib.hid hown
      have HB5 := Lib.hid hb5
      have HBW := Lib.hid hbw
      have HR := Lib.hid hR
      clear hown hb5 hbw hS hR hR2
      generalize doS (now + 1) l ws = L at *
      go_wp2_with fail
      refine HVO.out.mono ?_
      rintro e w5 ⟨rfl, hb5⟩
      have hB5 := HB5.out.kept hb5
      have hB4 := H4.out.kept hb5
      have hB1 := H1.out.kept hb5
      have hbw5 := HBW.out.trans (hb5.mono HBW.out.size)
      have hown5 : OwnV w5 (w.heap.size + 2) (.slice A' L.length c') L := own_kept HOW.out hb5
      clear HB5 H4 H1 HBW HOW y0 y1 hb5 HVO
      cases hq : versB (now + 1) L
      · have HDR2 := Lib.hid (show doR now l ws = ((now, l), false) by rw [HDR.out, if_neg (by rw [hq]; simp)])
        have r0 : w5.cell? ⟨w.heap.size, 0, none⟩ = some (.int .i64 now) := hB1.cell 0
        have r1 : w5.cell? ⟨w.heap.size, 1, none⟩ = some (.slice A l.length c) := hB1.cell 1
        have HC := Lib.hid (l2Copy_any A l c now w5 (by omega) (HR.out.below hbw5))
        have HB := Lib.hid hB4
        have HBW := Lib.hid hbw5
        clear hB4 hB5 hB1 hbw5 hown5
        go_wp2_with fail
        refine HC.out.mono ?_
        rintro e w6 ⟨v, rfl, hown, hb3⟩
        obtain ⟨A6, c6, rfl, _, _, hS⟩ := hown.sl
        have hB3 := HB.out.kept hb3
        have hbw3 := HBW.out.trans (hb3.mono HBW.out.size)
        have hsz5 := HBW.out.size
        have hlt4 := HB.out.lt
        have z0 := hB3.frozen 0
        have z1 := hB3.frozen 1
        have x0 : w6.cell? ⟨w.heap.size + 1, 0, none⟩ = some (.int .i64 0) := hB3.cell 0
        have x1 : w6.cell? ⟨w.heap.size + 1, 1, none⟩ = some (.slice none 0 0) := hB3.cell 1
        have HOW := Lib.hid (own_set (own_set hown (p := ⟨w.heap.size + 1, 0, none⟩) (by simp; omega) (.int .i64 now)) (p := ⟨w.heap.size + 1, 1, none⟩) (by simp; omega) (.slice A6 l.length c6))
        obtain ⟨q0, q1⟩ := hB3.two (.int .i64 now) (.slice A6 l.length c6)
        clear hS hown
        go_wp2
        rw [HDR2.out]
        refine bodyPost_ret (v := .tuple #[.agg #[.int .i64 now, .slice A6 l.length c6], .bool false]) (by simp [results, Try.results63, go_sem, q0, q1]) rfl ⟨_, rfl, OwnV.le HOW.out (by omega), (hbw3.setCell (by simp) _).setCell (by simp) _⟩
      · have HDR2 := Lib.hid (show doR now l ws = ((now + 1, L), true) by rw [HDR.out, if_pos hq])
        have r0 : w5.cell? ⟨g5, 0, none⟩ = some (.int .i64 (now + 1)) := hB5.cell 0
        have r1 : w5.cell? ⟨g5, 1, none⟩ = some (.slice A' L.length c') := hB5.cell 1
        have z0 := hB4.frozen 0
        have z1 := hB4.frozen 1
        have x0 : w5.cell? ⟨w.heap.size + 1, 0, none⟩ = some (.int .i64 0) := hB4.cell 0
        have x1 : w5.cell? ⟨w.heap.size + 1, 1, none⟩ = some (.slice none 0 0) := hB4.cell 1
        have HOW := Lib.hid (own_set (own_set hown5 (p := ⟨w.heap.size + 1, 0, none⟩) (by simp) (.int .i64 (now + 1))) (p := ⟨w.heap.size + 1, 1, none⟩) (by simp) (.slice A' L.length c'))
        obtain ⟨q0, q1⟩ := hB4.two (.int .i64 (now + 1)) (.slice A' L.length c')
        clear hown5 hB5 hB4 hB1
        go_wp2
        rw [HDR2.out]
        refine bodyPost_ret (v := .tuple #[.agg #[.int .i64 (now + 1), .slice A' L.length c'], .bool true]) (by simp [results, Try.results63, go_sem, q0, q1]) rfl ⟨_, rfl, OwnV.le HOW.out (by omega), (hbw5.setCell (by simp) _).setCell (by simp) _⟩
end Go.Proofs.Ytpjkcmmmpgncmaa
