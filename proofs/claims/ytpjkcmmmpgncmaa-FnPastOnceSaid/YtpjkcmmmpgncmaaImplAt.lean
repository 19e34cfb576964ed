/- The program's VersAt. -/
import Derived.Test.YtpjkcmmmpgncmaaVerOk
import Derived.Test.YtpjkcmmmpgncmaaVerB
import Derived.Test.YtpjkcmmmpgncmaaKp
import Derived.Test.YtpjkcmmmpgncmaaL2W
import Derived.Lib.SmallJoins
namespace Go.Proofs.Ytpjkcmmmpgncmaa
open Go.RowKit Go.Shelf
attribute [local go_sem] Oper.semAt_some
theorem atL_visL (l : List Ver) (t : Int) : atL l t = (visL l t).map rowOf := rfl
open Classical in
/-- the rows of a time of a store, none where it is not right -/
noncomputable def rowsA (now : Int) (l : List Ver) (t : Int) : List Row := if versB now l = true ∧ 0 ≤ t ∧ t ≤ now then atL l t else []
theorem rowsA_yes {now : Int} {l : List Ver} {t : Int} (h : versB now l = true) (h1 : 0 ≤ t) (h2 : t ≤ now) : rowsA now l t = atL l t := if_pos ⟨h, h1, h2⟩
theorem rowsA_no {now : Int} {l : List Ver} {t : Int} (h : ¬ (versB now l = true ∧ 0 ≤ t ∧ t ≤ now)) : rowsA now l t = [] := if_neg h
def OwnR (w : World) (B : Nat) (v : Value) (R : List Row) : Prop := w.ownsRow B 111 2 v R.length (R.flatMap encRow)
/-- the rows so far, in the loop's box -/
def JA (W1 : World) (gb : Nat) (pre : List Ver) (W2 : World) : Prop := W1.grownBy W2 (some gb) ∧ ∃ (A' : Option Addr) (c' : Nat), Blk W2 gb 68 #[.slice A' (pre.map rowOf).length c'] ∧ OwnR W2 W1.heap.size (.slice A' (pre.map rowOf).length c') (pre.map rowOf)
theorem encRow_one (l : List Row) : ∀ u ∈ l.flatMap encRow, u.oneCell' = true := by
  intro u hu
  obtain ⟨x, _, hx⟩ := List.mem_flatMap.1 hu
  simp [encRow] at hx
  rcases hx with rfl | rfl <;> rfl
theorem slr_one {w : World} {g : Nat} {x : Row} (h : Blk w g 111 #[.string x.1, .int .i64 x.2]) : Sl encRow 2 w (some ⟨g, 0, none⟩) [x] := by
  intro _
  refine ⟨g, 0, rfl, h.lt, fun i j y hy hj => ?_⟩
  obtain ⟨rfl, rfl⟩ : i = 0 ∧ y = x := by
    cases i with
    | zero => simp at hy; exact ⟨rfl, hy.symm⟩
    | succ i => simp at hy
  simp only [Nat.zero_mul, Nat.zero_add]
  rw [h.cell]
  match j, hj with
  | 0, _ => rfl
  | 1, _ => rfl
theorem ownR_app {w : World} {B : Nat} {v : Value} {l m : List Row} (h : w.ownsRow B 111 2 v (l.length + m.length) (l.flatMap encRow ++ m.flatMap encRow)) : OwnR w B v (l ++ m) := by
  unfold OwnR; rw [List.length_append, List.flatMap_append]; exact h
theorem OwnR.sl {w : World} {B : Nat} {v : Value} {l : List Row} (h : OwnR w B v l) : ∃ A c, v = .slice A l.length c ∧ l.length ≤ c ∧ c ≤ maxLen ∧ Sl encRow 2 w A l := Sl.of_own encRow_len h
theorem own_cells {W : World} {B k n : Nat} {e : TypeId} {v : Value} {xs : List Value} (h : W.ownsRow B e k v n xs) : ∀ (j : Nat) (o : Obj), v.ownBlock = some j → W.heap[j]? = some o → o.isCells = true := by
  intro j o hj ho
  rcases h.2 with ⟨rfl, _⟩ | ⟨g, cap, cur, rfl, _, hh, _⟩
  · simp [Value.ownBlock] at hj
  · simp [Value.ownBlock] at hj
    subst hj
    rw [hh] at ho
    injection ho with ho
    subst ho
    rfl
/-- a function's leaving where one mark stands among its deferred calls -/
theorem leaves_one {P : Program} {F : Fence} {n : Nat} {fn : Func} {tmps : Array Value} {R : Ending → World → Prop} {v : Value} {D : Nat} {w : World} (hD : w.heap[D]? = some (.deferred (some [])))
    (hres : ∀ o, (results fn tmps).run P (w.putObj D o) = .ok v (w.putObj D o) ∧ R (.returned v) (w.putObj D o)) : LeavesInM F n P fn tmps R ([D].map mkD) .returning w :=
  ⟨by simp, .inl ⟨D, _, rfl, run_takeDeferred hD, ⟨v, hres _⟩⟩⟩
theorem own_notrow {W W' : World} {B k n : Nat} {e : TypeId} {v : Value} {xs : List Value} {row : Option Nat} (h : W.ownsRow B e k v n xs) (hg : W.grownBy W' row) (hr : ∀ r, row = some r → ∃ o : Obj, W.heap[r]? = some o ∧ o.isCells = false) : W'.ownsRow B e k v n xs := by
  refine h.kept hg ?_
  rcases h.2 with ⟨rfl, _⟩ | ⟨g, cap, cur, rfl, _, hh, _⟩
  · exact .inl rfl
  · refine .inr (fun e => ?_)
    obtain ⟨o, ho, hc⟩ := hr g e.symm
    rw [hh] at ho
    injection ho with ho
    subst ho
    cases hc
theorem own_ja {W1 : World} {gb : Nat} (hgb : gb < W1.heap.size) : OwnFrom W1.heap.size (JA W1 gb) := by
  intro s W W' row ⟨h1, A', c', h2, h3⟩ hg hr
  refine ⟨⟨hg.os.trans h1.os, hg.tape.trans h1.tape, hg.output.trans h1.output, Nat.le_trans h1.size hg.size, fun k hk hk2 => (hg.block k (Nat.lt_of_lt_of_le hk h1.size) (fun e => by have := (hr k e.symm).1; omega)).trans (h1.block k hk hk2)⟩, A', c', h2.grown hg (fun e => by have := (hr gb e.symm).1; omega), own_notrow h3 hg (fun r e => (hr r e).2)⟩
set_option maxRecDepth 100000 in
set_option maxHeartbeats 4000000 in
theorem implAt_in (A : Option Addr) (vs : List Ver) (c : Nat) (now t : Int) (w : World) (hn : FitsV vs) (hlen : vs.length ≤ 1048576) (hS : Sl encVer 4 w A vs) :
    CallsIn Fence.wide 5 Try.prog 34 #[.agg #[.int .i64 now, .slice A vs.length c], .int .i64 t] w fun e w' => ∃ v, e = .returned v ∧ w'.ownsRow w.heap.size 111 2 v (rowsA now vs t).length ((rowsA now vs t).flatMap encRow) ∧ Below w.heap.size w w' := by
  have hb0 : Below w.heap.size w (w.alloc (.cells #[.int .i64 now, .slice A vs.length c] 32)) := (Below.refl _ _).alloc (Nat.le_refl _) _
  have hB0 := Blk.new w 32 #[.int .i64 now, .slice A vs.length c]
  have HVO := Lib.hid (implVersOk_any A vs c now _ hn hlen (hS.below hb0))
  refine callsIn_of_wp_marks Try.func34 rfl trivial ?_ rfl
  simp only [Try.ntmps34, List.size_toArray, List.length_cons, List.length_nil, Nat.reduceAdd, Nat.reduceSub, Array.replicate_succ, Array.replicate_zero, List.push_toArray, List.append_toArray, List.nil_append, List.cons_append]
  gi_wp2_with fail
  refine ⟨trivial, callsIn_wide.2 (HVO.out.mono ?_)⟩
  rintro e w1 ⟨rfl, hb1⟩
  have hbw := bthen hb0 hb1
  have hB1 := hB0.kept hb1
  have r0 : w1.cell? ⟨w.heap.size, 0, none⟩ = some (.int .i64 now) := hB1.cell 0
  have r1 : w1.cell? ⟨w.heap.size, 1, none⟩ = some (.slice A vs.length c) := hB1.cell 1
  clear HVO hb1 hB0 hb0
  cases hv : versB now vs
  · have HR := Lib.hid (rowsA_no (now := now) (l := vs) (t := t) (fun h => by rw [hv] at h; cases h.1))
    clear hv
    gi_wp2
    refine rI (results_tmp rfl _ _ _) ?_
    exact ⟨_, rfl, by rw [HR.out]; exact ⟨rfl, .inl ⟨rfl, rfl⟩⟩, hbw⟩
  · by_cases h1 : t < 0
    · have HR := Lib.hid (rowsA_no (now := now) (l := vs) (t := t) (fun h => by omega))
      have d1 : decide (t < 0) = true := decide_eq_true h1
      clear hv h1
      gi_wp2
      refine rI (results_tmp rfl _ _ _) ?_
      exact ⟨_, rfl, by rw [HR.out]; exact ⟨rfl, .inl ⟨rfl, rfl⟩⟩, hbw⟩
    · have d1 : decide (t < 0) = false := decide_eq_false h1
      by_cases h2 : now < t
      · have HR := Lib.hid (rowsA_no (now := now) (l := vs) (t := t) (fun h => by omega))
        have d2 : decide (now < t) = true := decide_eq_true h2
        clear hv h2
        gi_wp2
        refine rI (results_tmp rfl _ _ _) ?_
        exact ⟨_, rfl, by rw [HR.out]; exact ⟨rfl, .inl ⟨rfl, rfl⟩⟩, hbw⟩
      · have d2 : decide (now < t) = false := decide_eq_false h2
        have HR := Lib.hid (rowsA_yes hv (by omega) (by omega) (t := t))
        have hl60 := (versB_out hv).1.2.2
        have hba := (Below.refl w1.heap.size w1).alloc (Nat.le_refl _) (.cells #[.slice none 0 0] 68)
        have hBb := Blk.new w1 68 #[.slice none 0 0]
        have hlt1 := hB1.lt
        clear hv h1 h2
        gi_wp2_with fail
        refine ⟨trivial, (snap_in _ A vs.length c now t _).mono ?_⟩
        rintro e W1 ⟨rfl, rfl⟩
        have hv1 := Blk.new (w1.alloc (.cells #[.slice none 0 0] 68)) 32 #[.int .i64 now, .slice A vs.length c]
        have ht2 := Blk.new ((w1.alloc (.cells #[.slice none 0 0] 68)).alloc (.cells #[.int .i64 now, .slice A vs.length c] 32)) 3 #[.int .i64 t]
        rw [World.size_alloc] at hv1
        rw [World.size_alloc, World.size_alloc] at ht2
        have hv2 := hv1.alloc (.cells #[.int .i64 t] 3)
        have hBb3 := (hBb.alloc (.cells #[.int .i64 now, .slice A vs.length c] 32)).alloc (.cells #[.int .i64 t] 3)
        have hba3 := (hba.alloc (by simp) (.cells #[.int .i64 now, .slice A vs.length c] 32)).alloc (by simp; omega) (.cells #[.int .i64 t] 3)
        have HZ := Lib.hid (show (((w1.alloc (.cells #[.slice none 0 0] 68)).alloc (.cells #[.int .i64 now, .slice A vs.length c] 32)).alloc (.cells #[.int .i64 t] 3)).heap.size = w1.heap.size + 3 by simp)
        gi_wp2
        have HB1 := Lib.hid (hB1.kept hba3)
        have HBW := Lib.hid (bthen hbw hba3)
        clear r0 r1 hv1 hba hBb hba3
        generalize (((w1.alloc (.cells #[.slice none 0 0] 68)).alloc (.cells #[.int .i64 now, .slice A vs.length c] 32)).alloc (.cells #[.int .i64 t] 3)) = W1 at *
        have hgw : w.heap.size < w1.heap.size := hlt1
        generalize w1.heap.size = gb at *
        have hgb : gb < W1.heap.size := by have := HZ.out; omega
        have HO0 := Lib.hid (show OwnR W1 W1.heap.size (.slice none 0 0) [] from ⟨rfl, .inl ⟨rfl, rfl⟩⟩)
        obtain ⟨i0, hi, hz0, hz1, hz2⟩ := info_parts infoRow
        have HI := Lib.hid (⟨hi, hz0, hz1, hz2⟩ : _ ∧ _ ∧ _ ∧ _)
        clear hi hz0 hz1 hz2
        refine wpIn_rangeFunc_ownH (F := Fence.wide) rfl (by decide) (gf := 116) (lb := #[.pointer (some ⟨gb + 1, 0, none⟩), .pointer (some ⟨gb + 1 + 1, 0, none⟩)]) rfl trivial (enters_of Try.func116 (by kernel_rfl) rfl)
          (snap_stops 4 (by decide) (gb + 1) (gb + 1 + 1) gb c A vs now t w W1 hlen hS (by omega) hgb HBW.out hv2 ht2 (by omega)) KpB.trans (fun _ _ _ o' hl _ _ _ => KpB.put hl o') (Below.refl _ _) (fun _ => rfl)
          (JA W1 gb) (fun _ _ _ => False) (own_ja hgb) (fun _ _ _ _ _ hs _ _ => hs) ⟨World.grownBy.refl _ _, none, 0, hBb3, HO0.out⟩
          (fun x a' W => ∃ gx, a' = { tmps := #[.agg #[.int .i64 now, .slice A vs.length c], .int .i64 t, .pointer (some ⟨w.heap.size, 0, none⟩), undef, .slice none 0 0, .pointer (some ⟨gb, 0, none⟩), .pointer (some ⟨gx, 0, none⟩), .agg #[.int .i64 now, .slice A vs.length c], .bool true, .bool false, .bool false, .int .i64 t, .bool false, .bool false, .bool false, .int .i64 t, .pointer (some ⟨w.heap.size, 0, none⟩), .int .i64 now, .bool false, .bool false, .agg #[.int .i64 now, .slice A vs.length c], .int .i64 t, .func (.func 116) #[] #[.pointer (some ⟨gb + 1, 0, none⟩), .pointer (some ⟨gb + 1 + 1, 0, none⟩)], .agg #[.string x.1, .int .i64 x.2.1, .int .i64 x.2.2.1, .int .i64 x.2.2.2], undef, undef, undef, undef, undef, undef, undef, undef, undef], defers := [] } ∧ Hid (Blk W gx 88 #[.string x.1, .int .i64 x.2.1, .int .i64 x.2.2.1, .int .i64 x.2.2.2])) ?hAx ?assign ?body ?done ?stop
        case hAx =>
          rintro x a' _ W W' row ⟨gx, e, hB⟩ hg hr
          refine ⟨gx, e, Lib.hid (hB.out.grown hg (fun e2 => ?_))⟩
          obtain ⟨o, ho, hc⟩ := (hr gx e2.symm).2
          have hb := hB.out
          unfold Blk at hb
          rw [hb] at ho
          injection ho with ho
          subst ho
          cases hc
        case assign =>
          intro l pre x W2 K hI hK
          have hsz := hI.1.size
          have hba := (Below.refl W2.heap.size W2).alloc (Nat.le_refl _) (.cells #[.string x.1, .int .i64 x.2.1, .int .i64 x.2.2.1, .int .i64 x.2.2.2] 88)
          gi_wp2
          exact hK _ _ ((KeepsOthers.alloc _ _).from _) (KpB.of_below hba hsz) (own_ja hgb pre W2 _ none hI (grown_none hba) (fun r e => by cases e)) ⟨_, rfl, Lib.hid (Blk.new W2 88 _)⟩
        case body =>
          rintro l pre x a' W2 _ _ hI ⟨gx, rfl, hX⟩ hlp
          obtain ⟨hg, A', c', hBb, hown⟩ := hI
          have hsz := hg.size
          have hpl : (pre.map rowOf).length ≤ 60 := by rw [List.length_map]; omega
          have HPM := Lib.hid (show (pre ++ [x]).map rowOf = pre.map rowOf ++ [rowOf x] by simp)
          have HG := Lib.hid hg
          generalize pre.map rowOf = R at *
          obtain ⟨xk, xn, xf, xt⟩ := x
          have hxl := hX.out.lt
          have b0 : W2.cell? ⟨gb, 0, none⟩ = some (.slice A' R.length c') := hBb.cell 0
          have x0 : W2.cell? ⟨gx, 0, none⟩ = some (.string xk) := hX.out.cell 0
          have x1 : W2.cell? ⟨gx, 1, none⟩ = some (.int .i64 xn) := hX.out.cell 1
          have hba := (Below.refl W2.heap.size W2).alloc (Nat.le_refl _) (.cells #[.string xk, .int .i64 xn] 111)
          have HOW := Lib.hid (show OwnR (W2.alloc (.cells #[.string xk, .int .i64 xn] 111)) W1.heap.size (.slice A' R.length c') R from own_kept hown hba)
          have HXS := Lib.hid (slr_one (x := (xk, xn)) (Blk.new W2 111 #[.string xk, .int .i64 xn]))
          have HBb := Lib.hid (hBb.kept hba)
          have HBA := Lib.hid hba
          have hgb2 : gb < W2.heap.size := by omega
          clear hown hba hg hBb hX
          gi_wp2_with (refine wpListIn_append_own _ rfl (.tmp 24) (.tmp 30) 68 rfl W1.heap.size 111 i0 _ 2 24 Try.underlying68 HI.out.1 HI.out.2.1 HI.out.2.2.1 HI.out.2.2.2 rfl (by decide) (.slice A' R.length c') R.length (R.flatMap encRow) rfl HOW.out ⟨W2.heap.size, 0, none⟩ 1 1 ([((xk, xn) : Row)].flatMap encRow) rfl rfl (Sl.cells encRow_len HXS.out) (encRow_one _) (by unfold maxLen; omega) (by omega) (by simp; omega) ?_; intro v' w' hown' hgrow _; obtain ⟨R2, hR2, ho⟩ : ∃ R2, R2 = R ++ [((xk, xn) : Row)] ∧ OwnR w' W1.heap.size v' R2 := ⟨_, rfl, ownR_app hown'⟩; have HR2 := Lib.hid hR2; obtain ⟨A2, c2, rfl, _, _, hS2⟩ := ho.sl; have HO2 := Lib.hid ho; have HGR := Lib.hid hgrow; have HB2 := Lib.hid (HBb.out.grown hgrow (fun e => by have := (HOW.out.lt gb e.symm).1; omega)); have z0 := HB2.out.frozen 0; have b1 : w'.cell? ⟨gb, 0, none⟩ = some (.slice A' R.length c') := HB2.out.cell 0; clear hown' hgrow ho hS2 hR2)
          refine ⟨((KeepsOthers.alloc _ _).trans ((KeepsOthers.of_grownBy HGR.out (own_cells HOW.out)).trans (KeepsOthers.setCell _ _ _))).from _, ⟨?_, fun k hk hne => ?_⟩, ⟨?_, A2, c2, ?_, ?_⟩⟩
          · have h1 := HGR.out.size
            rw [World.size_setCell]
            rw [World.size_alloc] at h1
            omega
          · rw [Below.heap_setCell w' ⟨gb, 0, none⟩ _ k (by simpa using hne), HGR.out.block k (by rw [World.size_alloc]; omega) (fun e => by have := (HOW.out.lt k e.symm).1; omega), Below.heap_alloc W2 _ k (by omega)]
          · have h3 : W1.grownBy w' (some gb) := by
              have h2 : W1.grownBy (W2.alloc (.cells #[.string xk, .int .i64 xn] 111)) (some gb) := gtrans HG.out (gbelow HBA.out)
              have h4 := HGR.out
              exact ⟨h4.os.trans h2.os, h4.tape.trans h2.tape, h4.output.trans h2.output, Nat.le_trans h2.size h4.size, fun k hk hne => (h4.block k (Nat.lt_of_lt_of_le hk h2.size) (fun e => by have := (HOW.out.lt k e.symm).1; omega)).trans (h2.block k hk hne)⟩
            exact grown_setS h3 rfl _
          · rw [HPM.out, show R ++ [rowOf (xk, xn, xf, xt)] = R2 from HR2.out.symm]
            exact HB2.out.set_ 0 _
          · rw [HPM.out, show R ++ [rowOf (xk, xn, xf, xt)] = R2 from HR2.out.symm]
            exact ownsRow_setCell_other HO2.out (fun e => by have := (HO2.out.lt gb e).1; omega) _
        case done =>
          rintro D ys W2 hD rfl ⟨hg, A', c', hBb, hown⟩ hK
          have b0 : W2.cell? ⟨gb, 0, none⟩ = some (.slice A' ((visL vs t).map rowOf).length c') := hBb.cell 0
          have HBW2 := Lib.hid (HBW.out.grown hg (by omega) (fun j hj => by injection hj; omega))
          have HOW := Lib.hid hown
          have HK := Lib.hid hK
          have hgs := hg.size
          have hws := HBW.out.size
          rw [← atL_visL] at b0 HOW
          generalize atL vs t = R at *
          clear hg hBb hown hK
          gi_wp2
          refine leaves_one HK.out (fun o => ⟨results_tmp rfl _ _ _, ?_⟩)
          refine ⟨_, rfl, ?_, HBW2.out.trans (below_put W2 o (by omega))⟩
          rw [HR.out]
          exact Go.Joins.ownsRow_le (own_notrow HOW.out (grownBy_putObj' W2 D o) (fun r e => by cases e; exact ⟨_, HK.out, rfl⟩)) (by omega)
        case stop =>
          rintro D cc pre W2 _ _ h _
          exact h.elim
theorem implAt_any (A : Option Addr) (vs : List Ver) (c : Nat) (now t : Int) (w : World) (hn : FitsV vs) (hlen : vs.length ≤ 1048576) (hS : Sl encVer 4 w A vs) :
    Calls Try.prog 34 #[.agg #[.int .i64 now, .slice A vs.length c], .int .i64 t] w fun e w' => ∃ v, e = .returned v ∧ OwnR w' w.heap.size v (rowsA now vs t) ∧ Below w.heap.size w w' :=
  callsIn_wide.1 (implAt_in A vs c now t w hn hlen hS)
end Go.Proofs.Ytpjkcmmmpgncmaa
