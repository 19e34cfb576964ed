/- FnVersDo: the past never changes; the rows now are the rows before with what is done to them. For all codes. No condition. -/
import Derived.Test.YtfmpohhaimgnfaaDrawV
import Derived.Test.YtfmpohhaimgnfaaSame
import Derived.Test.YtfmpohhaimgnfaaRowC
import Derived.Test.YtfmpohhaimgnfaaBytes
import Derived.Deep.RegionHeld3
import Derived.BigQuiet
namespace Go.Proofs.Ytfmpohhaimgnfaa
open Go.RowKit Go.ChangeShapes Go.WideShapes Go.ChangeAt Go.Deep
def cutS (R : List Row) (w : Wri) : List Row := if w.2.2 = true then cutR R w.1 else R
def putS (R : List Row) (w : Wri) : List Row := if w.2.2 = true then R else putR R w.1 w.2.1
def cutsL (R : List Row) (ws : List Wri) : List Row := ws.foldl cutS R
def putsL (R : List Row) (ws : List Wri) : List Row := ws.foldl putS R
theorem cutsL_take {R : List Row} {ws : List Wri} {k : Nat} (h : k < ws.length) : cutsL R (ws.take (k + 1)) = cutS (cutsL R (ws.take k)) ws[k] := by
  unfold cutsL; rw [List.take_succ_eq_append_getElem h, List.foldl_append]; rfl
theorem putsL_take {R : List Row} {ws : List Wri} {k : Nat} (h : k < ws.length) : putsL R (ws.take (k + 1)) = putS (putsL R (ws.take k)) ws[k] := by
  unfold putsL; rw [List.take_succ_eq_append_getElem h, List.foldl_append]; rfl
theorem rowsB_iff {R : List Row} : rowsB R = true ↔ R.length ≤ 10 ∧ (∀ x ∈ R, rowB x = true) ∧ AscR R := by
  constructor
  · intro h
    refine ⟨?_, ?_, ascP_of h⟩
    · unfold rowsB at h; rw [decide_eq_true_eq] at h; exact h.1
    · unfold rowsB at h; rw [decide_eq_true_eq] at h; exact h.2.1
  · rintro ⟨h1, h2, h3⟩
    unfold rowsB
    rw [decide_eq_true_eq]
    exact ⟨h1, h2, ascR_of h3⟩
theorem rowsB_cut {R : List Row} (h : rowsB R = true) (K : ByteArray) : rowsB (cutR R K) = true := by
  obtain ⟨h1, h2, h3⟩ := rowsB_iff.1 h
  exact rowsB_iff.2 ⟨Nat.le_trans (List.length_filter_le _ _) h1, fun x hx => h2 x (List.mem_filter.1 hx).1, asc_cut h3 K⟩
theorem rowsB_cutS {R : List Row} (h : rowsB R = true) (w : Wri) : rowsB (cutS R w) = true := by
  unfold cutS; split
  · exact rowsB_cut h _
  · exact h
theorem rowsB_cuts {R : List Row} (h : rowsB R = true) (ws : List Wri) : rowsB (cutsL R ws) = true := by
  unfold cutsL
  induction ws generalizing R with
  | nil => exact h
  | cons w ws ih => exact ih (rowsB_cutS h w)
theorem rowsB_fits {R : List Row} (h : rowsB R = true) : ∀ x ∈ R, x.1.size ≤ maxLen := fun x hx => by
  have h2 := (rowsB_iff.1 h).2.1 x hx
  unfold rowB keyB at h2
  simp only [Bool.and_eq_true, decide_eq_true_eq] at h2
  unfold maxLen
  omega
theorem look_cuts (K : ByteArray) : ∀ (ws : List Wri) (R : List Row), lookR (cutsL R ws) K = if (ws.any (fun w => w.2.2 && decide (w.1 = K))) = true then none else lookR R K
  | [], R => by simp [cutsL]
  | w :: ws, R => by
    have ih := look_cuts K ws (cutS R w)
    have e : cutsL R (w :: ws) = cutsL (cutS R w) ws := rfl
    rw [e, ih, List.any_cons]
    cases h1 : ws.any (fun w => w.2.2 && decide (w.1 = K))
    · rw [Bool.or_false, if_neg (by simp)]
      unfold cutS
      cases h2 : w.2.2
      · simp
      · rw [if_pos rfl, look_cut]; simp
    · simp
def putO (K : ByteArray) (o : Option Int) (ws : List Wri) : Option Int := ws.foldl (fun o w => if w.2.2 = false ∧ w.1 = K then some w.2.1 else o) o
theorem look_puts (K : ByteArray) : ∀ (ws : List Wri) (R : List Row), lookR (putsL R ws) K = putO K (lookR R K) ws
  | [], R => rfl
  | w :: ws, R => by
    have ih := look_puts K ws (putS R w)
    have e : putsL R (w :: ws) = putsL (putS R w) ws := rfl
    rw [e, ih]
    unfold putO
    rw [List.foldl_cons]
    congr 1
    unfold putS
    cases h2 : w.2.2
    · rw [if_neg (by simp), look_put]; simp
    · simp
theorem putO_some {K : ByteArray} : ∀ (ws : List Wri) {o : Option Int}, o.isSome = true → (putO K o ws).isSome = true
  | [], _, h => h
  | w :: ws, o, h => by
    unfold putO
    rw [List.foldl_cons]
    refine putO_some ws ?_
    split
    · rfl
    · exact h
theorem putO_mem {K : ByteArray} : ∀ {ws : List Wri} {w : Wri} {o : Option Int}, w ∈ ws → w.2.2 = false → w.1 = K → (putO K o ws).isSome = true
  | v :: ws, w, o, h, h1, h2 => by
    unfold putO
    rw [List.foldl_cons]
    rcases List.mem_cons.1 h with rfl | h
    · rw [if_pos ⟨h1, h2⟩]; exact putO_some ws rfl
    · exact putO_mem h h1 h2
theorem putO_none {K : ByteArray} : ∀ {ws : List Wri} {o : Option Int}, (∀ w ∈ ws, w.1 ≠ K) → putO K o ws = o
  | [], _, _ => rfl
  | w :: ws, o, h => by
    unfold putO
    rw [List.foldl_cons, if_neg (fun e => h w (by simp) e.2)]
    exact putO_none (fun x hx => h x (by simp [hx]))
theorem any_none {K : ByteArray} {ws : List Wri} (h : ∀ w ∈ ws, w.1 ≠ K) : (ws.any (fun w => w.2.2 && decide (w.1 = K))) = false := by
  rw [List.any_eq_false]
  intro w hw
  simp [h w hw]
theorem upd_put (K : ByteArray) : ∀ (ws : List Wri) (o : Option Wri), ws.Pairwise (fun a b => kLt a.1 b.1) → valO (upd K o ws) = putO K (if (ws.any (fun w => w.2.2 && decide (w.1 = K))) = true then none else valO o) ws
  | [], o, _ => by simp [upd, putO]
  | w :: ws, o, h => by
    obtain ⟨h1, h2⟩ := List.pairwise_cons.1 h
    have eu : upd K o (w :: ws) = upd K (if w.1 = K then some w else o) ws := rfl
    have ep : ∀ p, putO K p (w :: ws) = putO K (if w.2.2 = false ∧ w.1 = K then some w.2.1 else p) ws := fun p => rfl
    rw [eu, ep, List.any_cons]
    by_cases e : w.1 = K
    · have hn : ∀ x ∈ ws, x.1 ≠ K := fun x hx h3 => by have := h1 x hx; rw [e, h3] at this; exact kLt_irrefl _ this
      rw [if_pos e, upd_none_of hn, putO_none hn, any_none hn]
      cases hg : w.2.2
      · simp [e, valO, hg]
      · simp [e, valO, hg]
    · rw [if_neg e, if_neg (fun h => e h.2), upd_put K ws o h2]
      have e3 : decide (w.1 = K) = false := by simpa using e
      rw [e3, Bool.and_false, Bool.false_or]
/-- what the rows under construction are -/
def Good (F R : List Row) : Prop := AscR R ∧ ∀ x ∈ R, rowB x = true ∧ ∃ y ∈ F, y.1 = x.1
theorem Good.ok {F R : List Row} (h : Good F R) (hF : rowsB F = true) : rowsB R = true := by
  obtain ⟨h1, _, h3⟩ := rowsB_iff.1 hF
  exact rowsB_iff.2 ⟨Nat.le_trans (asc_le F R h.1 h3 (fun x hx => (h.2 x hx).2)) h1, fun x hx => (h.2 x hx).1, h.1⟩
theorem Good.put {F R : List Row} (h : Good F R) {k : ByteArray} {n : Int} (hb : rowB (k, n) = true) (hF : ∃ y ∈ F, y.1 = k) : Good F (putR R k n) := by
  refine ⟨asc_put h.1 k n, fun x hx => ?_⟩
  unfold putR at hx
  simp only [List.mem_append, List.mem_filter, List.mem_singleton] at hx
  rcases hx with (⟨hx, _⟩ | rfl) | ⟨hx, _⟩
  · exact h.2 x hx
  · exact ⟨hb, hF⟩
  · exact h.2 x hx
theorem look_key {R : List Row} {K : ByteArray} (h : (lookR R K).isSome = true) : ∃ y ∈ R, y.1 = K := by
  unfold lookR at h
  rw [Option.isSome_map, List.find?_isSome] at h
  obtain ⟨y, h1, h2⟩ := h
  exact ⟨y, h1, by simpa using h2⟩
theorem key_look {R : List Row} {x : Row} (hx : x ∈ R) : (lookR R x.1).isSome = true := by
  unfold lookR
  rw [Option.isSome_map, List.find?_isSome]
  exact ⟨x, hx, by simp⟩
theorem doV_wrs {now nw : Int} {l L : List Ver} {ws : List Wri} (h : doV now l ws = ((nw, L), true)) : wrsB 6 ws = true := by
  unfold doV at h
  split at h
  · split at h
    · assumption
    · simp at h
  · simp at h
theorem doV_no {now nw : Int} {l L : List Ver} {ws : List Wri} (h : doV now l ws = ((nw, L), false)) : (versB now l = true ∧ nw = now ∧ L = l) ∨ (versB now l = false ∧ nw = 0 ∧ L = []) := by
  unfold doV at h
  split at h
  · rename_i h1
    split at h
    · split at h
      · simp at h
      · simp only [Prod.mk.injEq, and_true] at h
        exact .inl ⟨h1, h.1.symm, h.2.symm⟩
    · simp only [Prod.mk.injEq, and_true] at h
      exact .inl ⟨h1, h.1.symm, h.2.symm⟩
  · rename_i h1
    simp only [Prod.mk.injEq, and_true] at h
    exact .inr ⟨by simpa using h1, h.1.symm, h.2.symm⟩
theorem wrs_pair {ws : List Wri} {m : Nat} (h : wrsB m ws = true) : ws.Pairwise (fun a b => kLt a.1 b.1) := by
  have h3 : ∀ (i : Nat) (x y : Wri), ws[i]? = some x → ws[i + 1]? = some y → ltB x.1 y.1 = true := by
    unfold wrsB at h; simp only [decide_eq_true_eq] at h; exact h.2.2
  have h4 : ∀ (j i : Nat) (x y : Wri), i < j → ws[i]? = some x → ws[j]? = some y → kLt x.1 y.1 := by
    intro j
    induction j with
    | zero => intro i x y hij; omega
    | succ j ih =>
      intro i x y hij hx hy
      by_cases e : i = j
      · subst e; exact h3 i x y hx hy
      · have hj : j < ws.length := by have := (List.getElem?_eq_some_iff.1 hy).1; omega
        exact kLt_trans (ih i x _ (by omega) hx (List.getElem?_eq_getElem hj)) (h3 j _ y (List.getElem?_eq_getElem hj) hy)
  rw [List.pairwise_iff_getElem]
  intro i j hi hj hij
  exact h4 j i _ _ hij (List.getElem?_eq_getElem hi) (List.getElem?_eq_getElem hj)
/-- all that the law wants of what is done -/
theorem do_rows {now nw : Int} {l L : List Ver} {ws : List Wri} (h : doV now l ws = ((nw, L), true)) :
    rowsB (atL L nw) = true ∧ (∀ k, k ≤ ws.length → Good (atL L nw) (putsL (cutsL (atL l now) ws) (ws.take k))) ∧ putsL (cutsL (atL l now) ws) ws = atL L nw := by
  obtain ⟨e1, e2, hv1, hv2⟩ := doV_ok h
  have hw := doV_wrs h
  have hp := wrs_pair hw
  have hn0 := (versB_out hv1).1.1
  subst e1
  rw [← e2] at hv2
  have hF := rowsB_at hv2 (t := now + 1) (by omega) (Int.le_refl _)
  have hR := rowsB_at hv1 (t := now) hn0 (Int.le_refl _)
  have hlook : ∀ K, lookR (atL L (now + 1)) K = putO K (if (ws.any (fun w => w.2.2 && decide (w.1 = K))) = true then none else lookR (atL l now) K) ws := fun K => by
    have h1 : lookR (atL L (now + 1)) K = valAt K (now + 1) L := (valAt_at K _ L).symm
    have h2 : lookR (atL l now) K = valAt K (now + 1) l := by rw [valAt_at, atL_next hv1]; rfl
    have h3 : valAt K (now + 1) l = valO ((valAt K (now + 1) l).map (fun n => (K, n, false))) := by cases valAt K (now + 1) l <;> rfl
    rw [h1, e2, valAt_do (by omega) ws l _ (opV_next hv1) h3, upd_put K ws _ hp, h2, ← h3]
  have hC := rowsB_cuts hR ws
  have hgood : ∀ k, k ≤ ws.length → Good (atL L (now + 1)) (putsL (cutsL (atL l now) ws) (ws.take k)) := by
    intro k
    induction k with
    | zero =>
      intro _
      refine ⟨(rowsB_iff.1 hC).2.2, fun x hx => ⟨(rowsB_iff.1 hC).2.1 x hx, look_key ?_⟩⟩
      have hx2 : x ∈ cutsL (atL l now) ws := hx
      have h1 := key_look hx2
      rw [look_cuts] at h1
      rw [hlook]
      exact putO_some ws h1
    | succ k ih =>
      intro hk
      have hlt : k < ws.length := hk
      rw [putsL_take hlt]
      have h1 := ih (by omega)
      unfold putS
      cases hg : ws[k].2.2
      · rw [if_neg (by simp)]
        have hm := List.getElem_mem hlt
        refine h1.put ?_ (look_key ?_)
        · have := (wrsB_iff.1 hw).2.1 _ hm
          unfold wriB at this
          unfold rowB
          simp only [Bool.and_eq_true] at this ⊢
          exact this.1
        · rw [hlook]
          exact putO_mem hm hg rfl
      · rw [if_pos rfl]; exact h1
  refine ⟨hF, hgood, look_ext ?_ (rowsB_iff.1 hF).2.2 (fun K => ?_)⟩
  · have := (hgood ws.length (Nat.le_refl _)).1
    rwa [List.take_length] at this
  · rw [look_puts, look_cuts, hlook]
/-- a store in a box of the law's own -/
def BX (w : World) (g : Nat) (now : Int) (A : Option Addr) (l : List Ver) (c : Nat) (W : World) : Prop := Blk W g 25 #[.int .i64 now, .slice A l.length c] ∧ OwnV W w.heap.size (.slice A l.length c) l
theorem BX.below {w : World} {g : Nat} {now : Int} {A : Option Addr} {l : List Ver} {c : Nat} {W W' : World} (h : BX w g now A l c W) (hb : Below W.heap.size W W') : BX w g now A l c W' := ⟨h.1.kept hb, own_kept h.2 hb⟩
def VO (w : World) (g : Nat) (now : Int) (A : Option Addr) (l : List Ver) (c : Nat) (g' : Nat) (nw : Int) (A' : Option Addr) (L : List Ver) (c' : Nat) (v : Value) (ws : List Wri) (W : World) : Prop := BX w g now A l c W ∧ BX w g' nw A' L c' W ∧ OwnW W w.heap.size v ws ∧ Below w.heap.size w W
theorem VO.below {w : World} {g : Nat} {now : Int} {A : Option Addr} {l : List Ver} {c : Nat} {g' : Nat} {nw : Int} {A' : Option Addr} {L : List Ver} {c' : Nat} {v : Value} {ws : List Wri} {W W' : World} (h : VO w g now A l c g' nw A' L c' v ws W) (hb : Below W.heap.size W W') : VO w g now A l c g' nw A' L c' v ws W' := ⟨h.1.below hb, h.2.1.below hb, h.2.2.1.below hb, bthen h.2.2.2 hb⟩
set_option maxRecDepth 100000 in
set_option maxHeartbeats 6000000 in
theorem lawVersDo (A : Option Addr) (bs : List UInt8) (c : Nat) (w : World) (hc : bs.length ≤ c) (hm : c ≤ maxLen) (hS : Sl encU 1 w A bs) :
    Calls Try.prog 12 #[.slice A bs.length c] w fun e w' => e = .returned (.bool true) ∧ Below w.heap.size w w' := by
  go_enter Try.func12, Try.ntmps12
  by_cases hbig : 1048576 < bs.length
  · have d0 : decide ((1048576 : Int) < (bs.length : Int)) = true := decide_eq_true (by omega)
    go_wp2
    go_ret
    exact ⟨rfl, Below.refl _ _⟩
  have d0 : decide ((1048576 : Int) < (bs.length : Int)) = false := decide_eq_false (by omega)
  have HD := Lib.hid (drawDo_any A bs c w (by omega) hc hm hS)
  clear hS hbig
  go_wp2_with fail
  refine HD.out.mono ?_
  rintro e w1 ⟨now, l, v, v2, ws, rfl, ho, hw1, hf, hfw, hl, hwl, hn0, hn1, hb1⟩
  obtain ⟨A2, c2, rfl, _, _, hS2⟩ := ho.sl
  obtain ⟨Aw, cw, rfl, _, _, hSw⟩ := hw1.sl
  have hbn := (Below.refl w1.heap.size w1).alloc (Nat.le_refl _) (.cells #[.int .i64 now, .slice A2 l.length c2] 25)
  have HB5 := Lib.hid (show BX w w1.heap.size now A2 l c2 (w1.alloc (.cells #[.int .i64 now, .slice A2 l.length c2] 25)) from ⟨Blk.new w1 25 _, own_kept ho hbn⟩)
  have HWS := Lib.hid (hw1.below hbn)
  have hbw := bthen hb1 hbn
  have HF := Lib.hid hf
  have HFW := Lib.hid hfw
  clear hbn hb1 ho hS2 hSw hw1 hf hfw HD d0
  have HLEN := Lib.hid (doV_len now l ws)
  generalize hdv : doV now l ws = R at *
  have HR := Lib.hid hdv
  obtain ⟨⟨nw, L⟩, ok⟩ := R
  have hLl : L.length ≤ 67 := by have := HLEN.out; simp only at this; omega
  clear hdv HLEN
  have r0 : (w1.alloc (.cells #[.int .i64 now, .slice A2 l.length c2] 25)).cell? ⟨w1.heap.size, 0, none⟩ = some (.int .i64 now) := HB5.out.1.cell 0
  have r1 : (w1.alloc (.cells #[.int .i64 now, .slice A2 l.length c2] 25)).cell? ⟨w1.heap.size, 1, none⟩ = some (.slice A2 l.length c2) := HB5.out.1.cell 1
  have HC := Lib.hid (implVersDo_any A2 Aw l ws c2 cw now (w1.alloc (.cells #[.int .i64 now, .slice A2 l.length c2] 25)) HF.out (by omega) HFW.out (by omega) HB5.out.2.reads2 HWS.out.reads)
  rw [HR.out] at HC
  go_wp2_with fail
  generalize w1.alloc (.cells #[.int .i64 now, .slice A2 l.length c2] 25) = w2 at *
  have hg5 := HB5.out.1.lt
  generalize w1.heap.size = g5 at *
  refine HC.out.mono ?_
  rintro e w5 ⟨v5, rfl, ho5, hb5⟩
  simp only at ho5 ⊢
  obtain ⟨A9, c9, rfl, _, _, hS9⟩ := ho5.sl
  have hbn := (Below.refl w5.heap.size w5).alloc (Nat.le_refl _) (.cells #[.int .i64 nw, .slice A9 L.length c9] 25)
  have hb56 := bthen hb5 hbn
  have HB9 := Lib.hid (show BX w w5.heap.size nw A9 L c9 (w5.alloc (.cells #[.int .i64 nw, .slice A9 L.length c9] 25)) from ⟨Blk.new w5 25 _, OwnV.le (own_kept ho5 hbn : OwnV _ w2.heap.size _ _) hbw.size⟩)
  have HB5 := Lib.hid (HB5.out.below hb56)
  have HWS := Lib.hid (HWS.out.below hb56)
  have hbw6 := bthen hbw hb56
  clear HC hbn hb5 hb56 ho5 hS9 r0 r1 hbw
  have r0 : (w5.alloc (.cells #[.int .i64 nw, .slice A9 L.length c9] 25)).cell? ⟨g5, 0, none⟩ = some (.int .i64 now) := HB5.out.1.cell 0
  have r1 : (w5.alloc (.cells #[.int .i64 nw, .slice A9 L.length c9] 25)).cell? ⟨g5, 1, none⟩ = some (.slice A2 l.length c2) := HB5.out.1.cell 1
  have HC := Lib.hid (specVersDo_any A2 Aw l ws c2 cw now (w5.alloc (.cells #[.int .i64 nw, .slice A9 L.length c9] 25)) HF.out (by omega) HFW.out (by omega) HB5.out.2.reads2 HWS.out.reads)
  rw [HR.out] at HC
  go_wp2_with fail
  generalize w5.alloc (.cells #[.int .i64 nw, .slice A9 L.length c9] 25) = w6 at *
  have hg9 := HB9.out.1.lt
  generalize w5.heap.size = g9 at *
  refine HC.out.mono ?_
  rintro e w7 ⟨v7, rfl, ho7, hb7⟩
  simp only at ho7 ⊢
  obtain ⟨A11, c11, rfl, _, _, hS11⟩ := ho7.sl
  have hbn := (Below.refl w7.heap.size w7).alloc (Nat.le_refl _) (.cells #[.int .i64 nw, .slice A11 L.length c11] 25)
  have hb78 := bthen hb7 hbn
  have HB11 := Lib.hid (show BX w w7.heap.size nw A11 L c11 (w7.alloc (.cells #[.int .i64 nw, .slice A11 L.length c11] 25)) from ⟨Blk.new w7 25 _, OwnV.le (own_kept ho7 hbn : OwnV _ w6.heap.size _ _) hbw6.size⟩)
  have HI := Lib.hid (show VO w g5 now A2 l c2 g9 nw A9 L c9 (.slice Aw ws.length cw) ws (w7.alloc (.cells #[.int .i64 nw, .slice A11 L.length c11] 25)) from ⟨HB5.out.below hb78, HB9.out.below hb78, HWS.out.below hb78, bthen hbw6 hb78⟩)
  clear HC hbn hb7 hb78 ho7 hS11 r0 r1 hbw6 HB5 HB9 HWS
  have s0 : (w7.alloc (.cells #[.int .i64 nw, .slice A11 L.length c11] 25)).cell? ⟨g5, 0, none⟩ = some (.int .i64 now) := HI.out.1.1.cell 0
  have s1 : (w7.alloc (.cells #[.int .i64 nw, .slice A11 L.length c11] 25)).cell? ⟨g5, 1, none⟩ = some (.slice A2 l.length c2) := HI.out.1.1.cell 1
  have s2 : (w7.alloc (.cells #[.int .i64 nw, .slice A11 L.length c11] 25)).cell? ⟨g9, 0, none⟩ = some (.int .i64 nw) := HI.out.2.1.1.cell 0
  have s3 : (w7.alloc (.cells #[.int .i64 nw, .slice A11 L.length c11] 25)).cell? ⟨g9, 1, none⟩ = some (.slice A9 L.length c9) := HI.out.2.1.1.cell 1
  have s4 : (w7.alloc (.cells #[.int .i64 nw, .slice A11 L.length c11] 25)).cell? ⟨w7.heap.size, 0, none⟩ = some (.int .i64 nw) := HB11.out.1.cell 0
  have s5 : (w7.alloc (.cells #[.int .i64 nw, .slice A11 L.length c11] 25)).cell? ⟨w7.heap.size, 1, none⟩ = some (.slice A11 L.length c11) := HB11.out.1.cell 1
  have hl11 : w7.heap.size < (w7.alloc (.cells #[.int .i64 nw, .slice A11 L.length c11] 25)).heap.size := HB11.out.1.lt
  have hl5 : g5 < (w7.alloc (.cells #[.int .i64 nw, .slice A11 L.length c11] 25)).heap.size := HI.out.1.1.lt
  have hl9 : g9 < (w7.alloc (.cells #[.int .i64 nw, .slice A11 L.length c11] 25)).heap.size := HI.out.2.1.1.lt
  cases ok
  all_goals
    go_wp2_with fail
    generalize w7.alloc (.cells #[.int .i64 nw, .slice A11 L.length c11] 25) = w8 at *
    generalize w7.heap.size = g11 at *
    refine wp_region_below (by kernel_rfl) (by kernel_rfl) ?_
    iterate 16 (refine wpQuiet_step (fun K hK => ?_); go_simp; first | (apply Exists.intro; refine ⟨fun W hW => ?_, hK _ ?_⟩; (first | rfl | (go_at_call 21; exact quiet_call hW (Nat.le_refl _) (implSame_same A9 A11 L c9 c11 nw _ (by omega) (HI.out.2.1.2.reads2.below hW) (HB11.out.2.reads2.below hW))) | (go_at_call 26; exact quiet_call hW (Nat.le_refl _) (implVersOk_any A2 l c2 now _ HF.out (by omega) (HI.out.1.2.reads2.below hW))) | (go_at_call 27; exact quiet_call hW (Nat.le_refl _) (specVersOk_any A2 l c2 now _ HF.out (by omega) (HI.out.1.2.reads2.below hW))) | (have e0 := (hW.cell (p := ⟨g5, 0, none⟩) hl5).trans s0; have e1 := (hW.cell (p := ⟨g5, 1, none⟩) hl5).trans s1; have e2 := (hW.cell (p := ⟨g9, 0, none⟩) hl9).trans s2; have e3 := (hW.cell (p := ⟨g9, 1, none⟩) hl9).trans s3; have e4 := (hW.cell (p := ⟨g11, 0, none⟩) hl11).trans s4; have e5 := (hW.cell (p := ⟨g11, 1, none⟩) hl11).trans s5; go_simp; rfl)); clear hK K) | (refine hK _ ?_; clear hK K))
    refine wpQuiet_nil ?_
    intro W hW
    have HI := Lib.hid (HI.out.below hW)
    clear s0 s1 s2 s3 s4 s5 hl5 hl9 hl11 HB11 hW hg5 hg9
  · have s0 : W.cell? ⟨g5, 0, none⟩ = some (.int .i64 now) := HI.out.1.1.cell 0
    have s1 : W.cell? ⟨g5, 1, none⟩ = some (.slice A2 l.length c2) := HI.out.1.1.cell 1
    have HC := Lib.hid (specVersOk_any A2 l c2 now W HF.out (by omega) HI.out.1.2.reads2)
    rcases doV_no HR.out with ⟨hv, e1, e2⟩ | ⟨hv, e1, e2⟩
    · rw [hv] at HC
      subst e1; subst e2
      clear hv HR
      go_wp2_with fail
      refine HC.out.mono ?_
      rintro e w9 ⟨rfl, hb9⟩
      have HI := Lib.hid (HI.out.below hb9)
      clear HC hb9 s0 s1
      have s0 : w9.cell? ⟨g5, 0, none⟩ = some (.int .i64 nw) := HI.out.1.1.cell 0
      have s1 : w9.cell? ⟨g5, 1, none⟩ = some (.slice A2 L.length c2) := HI.out.1.1.cell 1
      have s2 : w9.cell? ⟨g9, 0, none⟩ = some (.int .i64 nw) := HI.out.2.1.1.cell 0
      have s3 : w9.cell? ⟨g9, 1, none⟩ = some (.slice A9 L.length c9) := HI.out.2.1.1.cell 1
      have HSA := Lib.hid (implSame_same A9 A2 L c9 c2 nw w9 (by omega) HI.out.2.1.2.reads2 HI.out.1.2.reads2)
      go_wp2_with fail
      refine HSA.out.mono ?_
      rintro e w10 ⟨rfl, hb10⟩
      have hend := bthen HI.out.2.2.2 hb10
      go_wp2
      go_ret
      exact ⟨rfl, hend⟩
    · rw [hv] at HC
      have HV := Lib.hid hv
      subst e1; subst e2
      clear hv HR
      go_wp2_with fail
      refine HC.out.mono ?_
      rintro e w9 ⟨rfl, hb9⟩
      have HI := Lib.hid (HI.out.below hb9)
      clear HC hb9 s0 s1
      have s0 : w9.cell? ⟨g5, 0, none⟩ = some (.int .i64 now) := HI.out.1.1.cell 0
      have s1 : w9.cell? ⟨g5, 1, none⟩ = some (.slice A2 l.length c2) := HI.out.1.1.cell 1
      have HC := Lib.hid (specVersOk_any A2 l c2 now w9 HF.out (by omega) HI.out.1.2.reads2)
      rw [HV.out] at HC
      go_wp2_with fail
      refine HC.out.mono ?_
      rintro e w10 ⟨rfl, hb10⟩
      have HI := Lib.hid (HI.out.below hb10)
      clear HC hb10 s0 s1
      have s2 : w10.cell? ⟨g9, 0, none⟩ = some (.int .i64 0) := HI.out.2.1.1.cell 0
      have s3 : w10.cell? ⟨g9, 1, none⟩ = some (.slice A9 0 c9) := HI.out.2.1.1.cell 1
      have HSA : Hid (Calls Try.prog 21 #[.agg #[.int .i64 0, .slice A9 0 c9], .agg #[.int .i64 0, .slice none 0 0]] w10 _) := Lib.hid (implSame_same A9 none [] c9 0 0 w10 (by simp) (Sl.nil _ _ _ _) (Sl.nil _ _ _ _))
      go_wp2_with fail
      refine HSA.out.mono ?_
      rintro e w11 ⟨rfl, hb11⟩
      have hend := bthen HI.out.2.2.2 hb11
      go_wp2
      go_ret
      exact ⟨rfl, hend⟩
  · obtain ⟨e1, e2, hv1, hv2⟩ := doV_ok HR.out
    have HDR := Lib.hid (do_rows HR.out)
    have HGO := Lib.hid (doV_wrs HR.out)
    have HFL := Lib.hid (show FitsV L from ⟨by unfold maxLen; omega, by rw [e2]; exact doS_fits ws l HF.out.2 HFW.out.2⟩)
    have HAT := Lib.hid (show ∀ t, t ≤ now → atL L t = atL l t from fun t ht => by rw [e2]; exact atL_do (by omega) ws l)
    rw [← e2, ← e1] at hv2
    have HV1 := Lib.hid hv1
    have HV2 := Lib.hid hv2
    have hn40 := (versB_out hv1).1.1
    have HNW := Lib.hid e1
    have hn41 := (versB_out hv2).1.2.1
    clear e1 e2 hv1 hv2 HR
    go_wp2
    go_loopg [9] (now + 1).toNat (fun kx s9 W => ∃ t : Int, 0 ≤ t ∧ t ≤ now + 1 ∧ kx = (now + 1 - t).toNat ∧ s9 = .int .i64 t ∧ Hid (VO w g5 now A2 l c2 g9 nw A9 L c9 (.slice Aw ws.length cw) ws W))
    case atStart => exact ⟨0, Int.le_refl _, by omega, by omega, rfl, HI⟩
    case round =>
      clear HI
      obtain ⟨t, ht0, ht1, hg, rfl, HI⟩ := hrel
      have s0 : wr.cell? ⟨g5, 0, none⟩ = some (.int .i64 now) := HI.out.1.1.cell 0
      have s1 : wr.cell? ⟨g5, 1, none⟩ = some (.slice A2 l.length c2) := HI.out.1.1.cell 1
      have s2 : wr.cell? ⟨g9, 0, none⟩ = some (.int .i64 nw) := HI.out.2.1.1.cell 0
      have s3 : wr.cell? ⟨g9, 1, none⟩ = some (.slice A9 L.length c9) := HI.out.2.1.1.cell 1
      by_cases hlt : t ≤ now
      · have dt : decide (t ≤ now) = true := decide_eq_true hlt
        have HRX := Lib.hid (show rowsA nw L t = atL l t from by rw [rowsA_yes HV2.out ht0 (by have := HNW.out; omega), HAT.out t hlt])
        have HRY := Lib.hid (rowsA_yes HV1.out ht0 hlt)
        have hal := atL_le l t
        generalize atL l t = R at *
        have HI := Lib.hid (HI.out.below (Below.refl wr.heap.size wr).drew)
        go_wp2_with fail
        go_region_held3 (fun W => W.cell? ⟨g5, 0, none⟩ = some (.int .i64 now) ∧ W.cell? ⟨g5, 1, none⟩ = some (.slice A2 l.length c2) ∧ W.cell? ⟨g9, 0, none⟩ = some (.int .i64 nw) ∧ W.cell? ⟨g9, 1, none⟩ = some (.slice A9 L.length c9))
          (first | assumption | go_keep)
          (first
            | (go_at_call 18
               refine (wpRows_same AX AY R cX cY _ (by omega) HX.out.reads HY.out.reads).mono ?_
               rintro e wk ⟨rfl, hbk⟩
               have HI := Lib.hid (HI.out.below hbk)
               have hkk : wk.cell? ⟨g5, 0, none⟩ = some (.int .i64 now) ∧ wk.cell? ⟨g5, 1, none⟩ = some (.slice A2 l.length c2) ∧ wk.cell? ⟨g9, 0, none⟩ = some (.int .i64 nw) ∧ wk.cell? ⟨g9, 1, none⟩ = some (.slice A9 L.length c9) := ⟨HI.out.1.1.cell 0, HI.out.1.1.cell 1, HI.out.2.1.1.cell 0, HI.out.2.1.1.cell 1⟩
               clear hbk)
            | (go_at_call 19
               refine (implAt_any _ _ _ _ _ _ ?_ ?_ ?_).mono ?_
               (first | exact HFL.out | exact HF.out)
               omega
               (first | exact HI.out.2.1.2.reads2 | exact HI.out.1.2.reads2)
               rintro e wk ⟨vk, rfl, hok, hbk⟩
               first
                 | (rw [HRX.out] at hok
                    obtain ⟨AX, cX, rfl, _, _, hSX⟩ := hok.sl
                    have HX := Lib.hid hok
                    try have HY := Lib.hid (HY.out.below hbk)
                    clear hSX)
                 | (rw [HRY.out] at hok
                    obtain ⟨AY, cY, rfl, _, _, hSY⟩ := hok.sl
                    have HY := Lib.hid hok
                    try have HX := Lib.hid (HX.out.below hbk)
                    clear hSY)
               have HI := Lib.hid (HI.out.below hbk)
               have hkk : wk.cell? ⟨g5, 0, none⟩ = some (.int .i64 now) ∧ wk.cell? ⟨g5, 1, none⟩ = some (.slice A2 l.length c2) ∧ wk.cell? ⟨g9, 0, none⟩ = some (.int .i64 nw) ∧ wk.cell? ⟨g9, 1, none⟩ = some (.slice A9 L.length c9) := ⟨HI.out.1.1.cell 0, HI.out.1.1.cell 1, HI.out.2.1.1.cell 0, HI.out.2.1.1.cell 1⟩
               clear hok hbk))
        all_goals
          go_wp2
          go_roundg (now + 1 - (t + 1)).toNat
          case measure => omega
          case rel => exact ⟨t + 1, by omega, by omega, rfl, by go_num, HI⟩
      · have dt : decide (t ≤ now) = false := decide_eq_false hlt
        clear hg hlt ht0 ht1
        have hsz9 := HI.out.2.2.2.size
        have HC := Lib.hid (implAt_any A2 l c2 now now wr HF.out (by omega) HI.out.1.2.reads2)
        rw [rowsA_yes HV1.out hn40 (Int.le_refl _)] at HC
        have HR0 := Lib.hid (rowsB_at HV1.out hn40 (Int.le_refl now))
        generalize atL l now = R0 at *
        go_wp2_with fail
        refine HC.out.mono ?_
        rintro e w9 ⟨v9, rfl, ho9, hb9⟩
        obtain ⟨A10, c10, rfl, _, _, hS10⟩ := ho9.sl
        have HI := Lib.hid (HI.out.below hb9)
        have HOR := Lib.hid (ho9.le hsz9)
        clear HC hb9 ho9 hS10 s0 s1 s2 s3 dt
        go_wp2
        go_loopg [10, 11] ws.length (fun kx s10 s11 W => ∃ (j : Nat) (A10 : Option Addr) (R : List Row) (c10 : Nat), j ≤ ws.length ∧ kx = ws.length - j ∧ s10 = .slice A10 R.length c10 ∧ s11 = .int .i64 j ∧ Hid (R = cutsL R0 (ws.take j)) ∧ Hid (VO w g5 now A2 l c2 g9 nw A9 L c9 (.slice Aw ws.length cw) ws W) ∧ Hid (OwnR W w.heap.size (.slice A10 R.length c10) R))
        case atStart => exact ⟨0, A10, R0, c10, Nat.zero_le _, rfl, rfl, rfl, Lib.hid rfl, HI, HOR⟩
        case round =>
          clear HI HOR
          rename_i W9
          obtain ⟨j, A10, R, c10, hj, hg, rfl, rfl, HRJ, HI, HOR⟩ := hrel
          by_cases hlj : j < ws.length
          · have HT := Lib.hid (cutsL_take (R := R0) hlj)
            obtain ⟨b3, o3, e3, hbl3, d0, d1, d2⟩ := Sl.at3 HI.out.2.2.1.reads hlj
            have HRB := Lib.hid (show rowsB R = true from by rw [HRJ.out]; exact rowsB_cuts HR0.out _)
            rw [← HRJ.out] at HT
            generalize ws[j] = y at *
            obtain ⟨yk, yn, yg⟩ := y
            simp only at d0 d1 d2
            subst e3
            have hji : (j : Int) < (ws.length : Int) := by omega
            have hji0 : (0 : Int) ≤ (j : Int) := by omega
            cases yg
            · have HT2 : Hid (R = cutsL R0 (ws.take (j + 1))) := Lib.hid (by rw [HT.out]; rfl)
              clear HT
              go_wp2
              go_roundg (ws.length - (j + 1))
              case measure => omega
              case rel => exact ⟨j + 1, A10, R, c10, by omega, by omega, rfl, by go_num, HT2, HI, HOR⟩
            · have HT2 : Hid (cutR R yk = cutsL R0 (ws.take (j + 1))) := Lib.hid (by rw [HT.out]; rfl)
              clear HT
              have HC := Lib.hid (rowsCut_any w.heap.size A10 R c10 yk wr HRB.out (rowsB_fits HRB.out) HOR.out)
              generalize cutR R yk = R2 at *
              go_wp2_with fail
              refine HC.out.mono ?_
              rintro e wa ⟨va, ba, rfl, hoa, hba⟩
              obtain ⟨Aa, ca, rfl, _, _, hSa⟩ := hoa.sl
              have HOA := Lib.hid (hoa.le HI.out.2.2.2.size)
              have HI := Lib.hid (HI.out.below hba)
              clear HC hoa hSa hba d0 d1 d2
              go_wp2
              go_roundg (ws.length - (j + 1))
              case measure => omega
              case rel => exact ⟨j + 1, Aa, R2, ca, by omega, by omega, rfl, by go_num, HT2, HI, HOA⟩
          · obtain rfl : j = ws.length := by omega
            rw [List.take_length] at HRJ
            rw [← HRJ.out] at HDR
            clear hg hlj hj
            go_wp2
            go_loopg [10, 12] ws.length (fun kx s10 s12 W => ∃ (j : Nat) (A10 : Option Addr) (Q : List Row) (c10 : Nat), j ≤ ws.length ∧ kx = ws.length - j ∧ s10 = .slice A10 Q.length c10 ∧ s12 = .int .i64 j ∧ Hid (Q = putsL R (ws.take j)) ∧ Hid (VO w g5 now A2 l c2 g9 nw A9 L c9 (.slice Aw ws.length cw) ws W) ∧ Hid (OwnR W w.heap.size (.slice A10 Q.length c10) Q))
            case atStart => exact ⟨0, A10, R, c10, Nat.zero_le _, rfl, rfl, rfl, Lib.hid rfl, HI, HOR⟩
            case round =>
              clear HI HOR
              obtain ⟨j, A12, Q, c12, hj, hg, rfl, rfl, HQJ, HI, HOR⟩ := hrel
              by_cases hlj : j < ws.length
              · have HT := Lib.hid (putsL_take (R := R) hlj)
                obtain ⟨b3, o3, e3, hbl3, d0, d1, d2⟩ := Sl.at3 HI.out.2.2.1.reads hlj
                have HQB := Lib.hid (show rowsB Q = true from by rw [HQJ.out]; exact (HDR.out.2.1 j hj).ok HDR.out.1)
                have HQN := Lib.hid (show rowsB (putsL R (ws.take (j + 1))) = true from (HDR.out.2.1 (j + 1) hlj).ok HDR.out.1)
                have HYK := Lib.hid (HFW.out.2 _ (List.getElem_mem hlj))
                rw [← HQJ.out] at HT
                generalize ws[j] = y at *
                obtain ⟨yk, yn, yg⟩ := y
                simp only at d0 d1 d2 HYK
                subst e3
                have hji : (j : Int) < (ws.length : Int) := by omega
                have hji0 : (0 : Int) ≤ (j : Int) := by omega
                cases yg
                · have HT2 : Hid (putR Q yk yn = putsL R (ws.take (j + 1))) := Lib.hid (by rw [HT.out]; rfl)
                  rw [← HT2.out] at HQN
                  clear HT
                  have HI2 := Lib.hid (HI.out.below (Below.refl wr.heap.size wr).drew)
                  have HOR2 := Lib.hid (show OwnR wr.drew w.heap.size (.slice A12 Q.length c12) Q from own_kept HOR.out (Below.refl wr.heap.size wr).drew)
                  have HC := Lib.hid (rowsPut_any w.heap.size A12 Q c12 yk yn wr.drew HQB.out HQN.out (rowsB_fits HQB.out) HYK.out HOR2.out)
                  generalize putR Q yk yn = R2 at *
                  go_wp2_with fail
                  go_region_with (go_at_call 53; refine HC.out.mono ?_; rintro e wa ⟨va, ba, rfl, hoa, hba⟩; obtain ⟨Aa, ca, rfl, _, _, hSa⟩ := hoa.sl; have HOA := Lib.hid (hoa.le HI2.out.2.2.2.size); have HI3 := Lib.hid (HI2.out.below hba); clear hoa hSa hba)
                  all_goals
                    go_wp2
                    go_roundg (ws.length - (j + 1))
                    case measure => omega
                    case rel => exact ⟨j + 1, Aa, R2, ca, by omega, by omega, rfl, by go_num, HT2, HI3, HOA⟩
                · have HT2 : Hid (Q = putsL R (ws.take (j + 1))) := Lib.hid (by rw [HT.out]; rfl)
                  clear HT
                  go_wp2
                  go_roundg (ws.length - (j + 1))
                  case measure => omega
                  case rel => exact ⟨j + 1, A12, Q, c12, by omega, by omega, rfl, by go_num, HT2, HI, HOR⟩
              · obtain rfl : j = ws.length := by omega
                rw [List.take_length] at HQJ
                have HQF := Lib.hid (HQJ.out.trans HDR.out.2.2)
                have hq10 := (rowsB_iff.1 HDR.out.1).1
                rw [← HQF.out] at hq10
                have s0 : wr.cell? ⟨g5, 0, none⟩ = some (.int .i64 now) := HI.out.1.1.cell 0
                have s1 : wr.cell? ⟨g5, 1, none⟩ = some (.slice A2 l.length c2) := HI.out.1.1.cell 1
                have s2 : wr.cell? ⟨g9, 0, none⟩ = some (.int .i64 nw) := HI.out.2.1.1.cell 0
                have s3 : wr.cell? ⟨g9, 1, none⟩ = some (.slice A9 L.length c9) := HI.out.2.1.1.cell 1
                have HC := Lib.hid (implVersOk_any A9 L c9 nw wr HFL.out (by omega) HI.out.2.1.2.reads2)
                rw [HV2.out] at HC
                have hwp : IntKind.i64.wrap (now + 1) = nw := by rw [HNW.out, IntKind.wrap_i64]; omega
                have hbq : ((nw == nw) : Bool) = true := by simp
                clear hg hlj hj
                go_wp2_with fail
                refine HC.out.mono ?_
                rintro e wa ⟨rfl, hba⟩
                have HI := Lib.hid (HI.out.below hba)
                have HOR := Lib.hid (show OwnR wa w.heap.size (.slice A12 Q.length c12) Q from own_kept HOR.out hba)
                clear HC hba s0 s1 s2 s3
                have s0 : wa.cell? ⟨g5, 0, none⟩ = some (.int .i64 now) := HI.out.1.1.cell 0
                have s1 : wa.cell? ⟨g5, 1, none⟩ = some (.slice A2 l.length c2) := HI.out.1.1.cell 1
                have s2 : wa.cell? ⟨g9, 0, none⟩ = some (.int .i64 nw) := HI.out.2.1.1.cell 0
                have s3 : wa.cell? ⟨g9, 1, none⟩ = some (.slice A9 L.length c9) := HI.out.2.1.1.cell 1
                have HC := Lib.hid (implAt_any A9 L c9 nw nw wa HFL.out (by omega) HI.out.2.1.2.reads2)
                rw [rowsA_yes HV2.out (by have := HNW.out; omega) (Int.le_refl _), ← HQF.out] at HC
                go_wp2_with fail
                refine HC.out.mono ?_
                rintro e wb ⟨vb, rfl, hob, hbb⟩
                obtain ⟨Ab, cb, rfl, _, _, hSb⟩ := hob.sl
                have HI := Lib.hid (HI.out.below hbb)
                have HOR := Lib.hid (show OwnR wb w.heap.size (.slice A12 Q.length c12) Q from own_kept HOR.out hbb)
                have HC := Lib.hid (wpRows_same Ab A12 Q cb c12 wb (by omega) hSb HOR.out.reads)
                clear hob hSb hbb s0 s1 s2 s3
                go_wp2_with fail
                refine HC.out.mono ?_
                rintro e wd ⟨rfl, hbd⟩
                have hend := bthen HI.out.2.2.2 hbd
                go_wp2
                go_ret
                exact ⟨rfl, hend⟩
theorem own0 : ownKnob Try.prog.godebug = none := by kernel_rfl
theorem laidOut0 : laidOutB Try.prog = true := by kernel_rfl
set_option maxRecDepth 100000 in
theorem versDo_lifted (os : Os) (started : os.Started) (H : Type) (enc : TypeId × Value → H) :
    ReturnsInHanded {} Try.checked os 12 .any (Rows.fnVersDoSpec.pre6 enc Try.prog Try.f12 Rows.fnVersDoRow.domain false) (Rows.fnVersDoSpec.post enc Try.prog Try.f12 false true false false) := by
  refine returnsInHanded_of_change (C := Try.checked) own0 started (by kernel_rfl) Try.func12
    (ChangeSpec.witness6 (enc := enc) (C := Try.checked) false ⟨#[], #[.slice none 0 0], []⟩ 8 (by kernel_rfl) (by kernel_rfl) (by kernel_rfl) (by kernel_rfl)) ?_
  intro W base args ds gs before hval0 hW hcnd _
  have hval : ∀ (j : Nat) t v, Try.f12.params[j]? = some t → args[j]? = some v → Value.okWide Try.prog W .any base t v := hval0
  have hW' := hW
  obtain ⟨p, q, hA0, hV, rfl, hfz, hnd⟩ := hW
  have hA : DataW.TrodAll enc Try.prog W 0 (fun _ => true) true Try.f12.params.toList args.toList ds p := hA0
  rw [Try.params12] at hA hval
  obtain ⟨v0, vs0, d0, ds0, p0, q0, hargs, rfl, rfl, h0, r0⟩ := trodAll_cons hA
  obtain ⟨rfl, rfl, rfl⟩ := trodAll_nil r0
  obtain rfl : args = #[v0] := by cases args; simp_all
  obtain ⟨rfl, rfl⟩ := trodVars_none hV
  have k0 := h0
  have lt0 : ∀ x ∈ p0, x.block < W.heap.size := by obtain ⟨m, hm⟩ := k0; exact DataW.trod_lt m _ _ _ hm
  obtain ⟨A0, bs0, c0, rfl, hb0, hR0⟩ := open_bytes (hval 0 22 v0 rfl rfl) h0
  clear hA0 hval0
  refine (lawVersDo A0 bs0 c0 W hb0.1 hb0.2 hR0).mono fun e W' ⟨he, bel⟩ => ?_
  subst he
  exact ⟨_, rfl, _, _, _, [], _, [], hW', trodAll_mk1 (shut_bool Try.underlying4 _), (trodAll_cons_mk (Below.trod laidOut0 (by kernel_rfl) (of_decide_eq_true (by kernel_rfl)) k0 bel lt0) trodAll_mk0), rfl, bel.frame _, fun h => by cases h⟩
theorem versDo_holds : Rows.FnVersDoSaid :=
  OpenClaim.holds_of_wide 12 Try.f12 rfl rfl rfl rfl rfl rfl rfl ⟨rfl, rfl, rfl, rfl, rfl⟩ rfl rfl rfl rfl rfl (by kernel_rfl) Try.func12 (by kernel_rfl)
    (of_decide_eq_true (by kernel_rfl)) (by unfold Func.isWrapper; first | (rw [if_pos (by decide +kernel)]; kernel_rfl) | (rw [if_neg (by decide +kernel)]; exact ⟨rfl, rfl⟩))
    (fun os started H enc _ => versDo_lifted os started H enc)
#print axioms versDo_holds

end Go.Proofs.Ytfmpohhaimgnfaa
