/- slices.Backward at rows of writes: its function value hands a row's writes to a loop's body, the last first. The program's PastLast. -/
import Derived.Test.YtfmpohhaimgnfaaPastS
import Derived.Test.YtfmpohhaimgnfaaKp
namespace Go.Proofs.Ytfmpohhaimgnfaa
open Go.RowKit Go.Shelf
attribute [local go_sem] Oper.semAt_some
abbrev argB (x : Wri × Nat) : Array Value := #[.int .i64 x.2, wriA x.1]
set_option maxRecDepth 100000 in
set_option maxHeartbeats 2000000 in
theorem back1_in (n : Nat) (hn : 1 ≤ n) (l Bs N0 c : Nat) (A : Option Addr) (xs : List Wri) (w0 : World) (hlen : xs.length ≤ 1048576) (J Jx : List (Wri × Nat) → World → Prop) (W : World)
    (hY : ∀ pre x W1, J pre W1 → pre.length < xs.length → YieldAt Fence.wide (n - 1) Try.prog l (argB x) W1 fun e W' =>
      (e = .returned (.bool true) ∧ J (pre ++ [x]) W' ∧ Below N0 W1 W') ∨ (e = .returned (.bool false) ∧ Jx (pre ++ [x]) W'))
    (hS : Sl encWri 3 w0 A xs) (hw0 : w0.heap.size ≤ N0) (hbb : Below w0.heap.size w0 W) (hN : N0 ≤ W.heap.size) (hv1 : W.cell? ⟨Bs, 0, none⟩ = some (.slice A xs.length c)) (hBs : Bs < N0) (h0 : J [] W) :
    CallsIn Fence.wide n Try.prog 135 #[.func (.yield l) #[] #[], .pointer (some ⟨Bs, 0, none⟩)] W fun e W' => (∃ v, e = .returned v) ∧
      ((∃ ys, ys = backTo xs 0 ∧ J ys W') ∨ (∃ pre, (∃ k, pre = backTo xs k) ∧ Jx pre W')) := by
  refine callsIn_of_wp Try.func135 rfl trivial ?_ rfl
  simp only [Try.ntmps135, List.size_toArray, List.length_cons, List.length_nil, Nat.reduceAdd, Nat.reduceSub, Array.replicate_succ, Array.replicate_zero, List.push_toArray, List.append_toArray, List.nil_append, List.cons_append]
  gi_wp2
  gi_loopw [3] (fun i wr => ∃ k : Nat, k ≤ xs.length ∧ i = .int .i64 ((k : Int) - 1) ∧ J (backTo xs k) wr ∧ Below N0 W wr)
    (fun i _ => (intOf i + 1).toNat)
  case atStart => exact ⟨xs.length, Nat.le_refl _, rfl, by rw [backTo_top]; exact h0, Below.refl _ _⟩
  case round =>
    obtain ⟨k, hk, rfl, hJs, hnx⟩ := hrel
    have hsl : wr.cell? ⟨Bs, 0, none⟩ = some (.slice A xs.length c) := (hnx.cell (by simpa using hBs)).trans hv1
    have hsz := hnx.size
    rcases Nat.eq_zero_or_pos k with hk0 | hk0
    · subst hk0
      gi_wp2
      go_end0
      exact ⟨⟨_, rfl⟩, .inl ⟨_, rfl, hJs⟩⟩
    · obtain ⟨m, rfl⟩ : ∃ m, k = m + 1 := ⟨k - 1, by omega⟩
      have hlt : m < xs.length := by omega
      obtain ⟨b, o, rfl, hbl, c0, c1, c2⟩ := Sl.at3 (hS.mono (Nat.le_refl _) (hbb.trans (hnx.mono hw0))) hlt
      have HB := Lib.hid (backTo_step xs m hlt)
      have hlb := backTo_len xs (m + 1)
      obtain ⟨fn, tmps, assign, body, hy, hR⟩ := hY _ (xs[m], m) wr hJs (by omega)
      generalize xs[m] = x at *
      dsimp only [argB] at hy
      have e0 : ((m + 1 : Nat) : Int) - 1 = (m : Int) := by omega
      rw [e0]
      gi_wp2
      refine hR.mono ?_
      rintro e W3 (⟨rfl, hJ3, hk3⟩ | ⟨rfl, hJx3⟩)
      · gi_wp2
        go_roundw
        case rel => exact ⟨m, by omega, by go_num, by rw [HB.out]; exact hJ3, hnx.trans hk3⟩
        case measure => simp [intOf]
      · gi_wp2
        refine bodyPost_ret (results_none rfl _ _ _) rfl ?_
        exact ⟨⟨_, rfl⟩, .inr ⟨_, ⟨m, HB.out.symm⟩, hJx3⟩⟩
set_option maxHeartbeats 1000000 in
theorem back_in (n : Nat) (A : Option Addr) (m c : Nat) (w : World) :
    CallsIn Fence.wide n Try.prog 100 #[.slice A m c] w fun e w' => e = .returned (.func (.func 135) #[] #[.pointer (some ⟨w.heap.size, 0, none⟩)]) ∧
      w' = w.alloc (.cells #[.slice A m c] 26) := by
  refine callsIn_of_wp Try.func100 rfl trivial ?_ rfl
  simp only [Try.ntmps100, List.size_toArray, List.length_cons, List.length_nil, Nat.reduceAdd, Nat.reduceSub, Array.replicate_succ, Array.replicate_zero, List.push_toArray, List.append_toArray, List.nil_append, List.cons_append]
  gi_wp2
  go_ret
  exact ⟨rfl, rfl⟩
theorem back_stops (n : Nat) (hn : 1 ≤ n) (Bs c : Nat) (A : Option Addr) (xs : List Wri) (w0 w : World) (hlen : xs.length ≤ 1048576)
    (hS : Sl encWri 3 w0 A xs) (hw0 : w0.heap.size ≤ w.heap.size) (hbb : Below w0.heap.size w0 w) (hv : Blk w Bs 26 #[.slice A xs.length c]) :
    SeqStopsK Fence.wide n Try.prog 135 #[.pointer (some ⟨Bs, 0, none⟩)] argB (Below w.heap.size) (fun ys => ys = backTo xs 0) (fun pre => ∃ k, pre = backTo xs k) xs.length w := fun l J Jx W hW _ _ hY h0 =>
  back1_in n hn l Bs w.heap.size c A xs w0 hlen J Jx W hY hS hw0 (hbb.trans (hW.mono hw0)) hW.size ((hv.kept hW).cell 0) hv.lt h0
end Go.Proofs.Ytfmpohhaimgnfaa
namespace Go.Proofs.Ytfmpohhaimgnfaa
open Go.RowKit Go.Shelf
attribute [local go_sem] Oper.semAt_some
/-- what a round that returns leaves behind: its two results in their blocks, all else as it lay -/
def RetAt (W1 : World) (R : Nat) (x : Wri) (W : World) : Prop :=
  W.os = W1.os ∧ W.tape = W1.tape ∧ W.output = W1.output ∧ W1.heap.size ≤ W.heap.size ∧ (∀ k, k < W1.heap.size → k ≠ R → k ≠ R + 1 → W.heap[k]? = W1.heap[k]?) ∧ Blk W R 61 (wriC x) ∧ Blk W (R + 1) 4 #[.bool true]
theorem RetAt.own {β : Type} {W1 : World} {R : Nat} {x : Wri} (hR : R + 1 < W1.heap.size) : OwnFrom W1.heap.size (fun (_ : β) W => RetAt W1 R x W) := by
  rintro s W W' row ⟨h1, h2, h3, h4, h5, h6, h7⟩ hg hr
  have hne : ∀ k, k < W1.heap.size → some k ≠ row := fun k hk e => by have := (hr k e.symm).1; omega
  exact ⟨hg.os.trans h1, hg.tape.trans h2, hg.output.trans h3, Nat.le_trans h4 hg.size, fun k hk n1 n2 => (hg.block k (by omega) (hne k hk)).trans (h5 k hk n1 n2), h6.grown hg (hne R (by omega)), h7.grown hg (hne (R + 1) hR)⟩
theorem RetAt.below {W1 W : World} {R B : Nat} {x : Wri} (h : RetAt W1 R x W) (hB : B ≤ R) (hR : R + 1 < W1.heap.size) : Below B W1 W := ⟨h.1, h.2.1, h.2.2.1, h.2.2.2.1, fun k hk => h.2.2.2.2.1 k (by omega) (by omega) (by omega)⟩
theorem MarksAt.set {B : Nat} {Ds : List Nat} {W : World} (h : MarksAt B Ds W) {p : Addr} (hp : p.block < B) (u : Value) : MarksAt B Ds (W.setCell p u) :=
  ⟨h.1, fun D hD => ⟨(h.2 D hD).1, (Below.heap_setCell W p u D (by have := (h.2 D hD).1; omega)).trans (h.2 D hD).2⟩⟩
theorem MarksAt.ret {B R : Nat} {Ds : List Nat} {W1 W : World} {x : Wri} (h : MarksAt B Ds W1) (hr : RetAt W1 R x W) (hR : R + 1 < B) : MarksAt B Ds W :=
  ⟨h.1, fun D hD => ⟨(h.2 D hD).1, (hr.2.2.2.2.1 D (h.lt hD) (by have := (h.2 D hD).1; omega) (by have := (h.2 D hD).1; omega)).trans (h.2 D hD).2⟩⟩
set_option maxRecDepth 100000 in
set_option maxHeartbeats 4000000 in
theorem implPastLast_in (A : Option Addr) (rs : List Wrow) (c : Nat) (key : ByteArray) (t : Int) (w : World) (hn : rs.length ≤ 1048576) (hn2 : ∀ r ∈ rs, r.2.2.length ≤ 1048576) (hR : Sl2 w A rs) :
    CallsIn Fence.wide 5 Try.prog 50 #[.slice A rs.length c, .string key, .int .i64 t] w fun e w' => e = lastOut (lastAt key rs t) ∧ Below w.heap.size w w' := by
  have hb0 : Below w.heap.size w (((w.alloc (.cells #[.string key] 9)).alloc (.cells #[.string ⟨#[]⟩, .int .i64 0, .bool false] 61)).alloc (.cells #[.bool false] 4)) := (((Below.refl _ _).alloc (Nat.le_refl _) _).alloc (by simp) _).alloc (by simp; omega) _
  have hK0 := ((Blk.new w 9 #[.string key]).alloc (.cells #[.string ⟨#[]⟩, .int .i64 0, .bool false] 61)).alloc (.cells #[.bool false] 4)
  have hR0 := (Blk.new (w.alloc (.cells #[.string key] 9)) 61 #[.string ⟨#[]⟩, .int .i64 0, .bool false]).alloc (.cells #[.bool false] 4)
  have hO0 := Blk.new ((w.alloc (.cells #[.string key] 9)).alloc (.cells #[.string ⟨#[]⟩, .int .i64 0, .bool false] 61)) 4 #[.bool false]
  simp only [World.size_alloc] at hR0 hO0
  have hlt0 : lastAt key rs t = lastW key ((cont rs).take (min rs.length t.toNat)) := by
    unfold lastAt
    congr 1
    by_cases h : t.toNat ≤ rs.length
    · rw [Nat.min_eq_right h]
    · rw [Nat.min_eq_left (by omega), List.take_of_length_le (by rw [cont_len]; omega), List.take_of_length_le (by rw [cont_len]; omega)]
  have HLT := Lib.hid hlt0
  clear hlt0
  refine callsIn_of_wp_marks Try.func50 rfl trivial ?_ rfl
  simp only [Try.ntmps50, List.size_toArray, List.length_cons, List.length_nil, Nat.reduceAdd, Nat.reduceSub, Array.replicate_succ, Array.replicate_zero, List.push_toArray, List.append_toArray, List.nil_append, List.cons_append]
  gi_wp2
  all_goals
    refine wpIn_loop (fun a' W => ∃ (u1 u2 u3 u5 u8 u9 u10 u11 u12 u13 u14 u15 u16 u17 u18 u19 u20 u21 u22 u23 u24 u25 u26 u27 u28 u29 u30 u31 u32 u33 : Value) (ds : List Deferred), (∃ (k : Nat) (Ds : List Nat), u8 = .int .i64 ((k : Int) - 1) ∧ ds = Ds.map mkD ∧ k ≤ rs.length ∧ lastAt key rs t = lastW key ((cont rs).take k) ∧ Blk W w.heap.size 9 #[.string key] ∧ Blk W (w.heap.size + 1) 61 #[.string ⟨#[]⟩, .int .i64 0, .bool false] ∧ Blk W (w.heap.size + 1 + 1) 4 #[.bool false] ∧ Below w.heap.size w W ∧ MarksAt (w.heap.size + 3) Ds W) ∧
      a' = { tmps := #[.slice A rs.length c, u1, u2, u3, .pointer (some ⟨w.heap.size, 0, none⟩), u5, .pointer (some ⟨w.heap.size + 1, 0, none⟩), .pointer (some ⟨w.heap.size + 1 + 1, 0, none⟩), u8, u9, u10, u11, u12, u13, u14, u15, u16, u17, u18, u19, u20, u21, u22, u23, u24, u25, u26, u27, u28, u29, u30, u31, u32, u33], defers := ds }) (fun a' _ => (intOf (a'.tmps.getD 8 undef) + 1).toNat) ?_ ?_
    · (repeat apply Exists.intro)
      refine ⟨?_, rfl⟩
      exact ⟨min rs.length t.toNat, [], vint (by omega), rfl, by omega, HLT.out, hK0, hR0, hO0, hb0, MarksAt.nil _ _⟩
    · clear hb0 hK0 hR0 hO0 HLT
      intro _ W hinv
      (obtain ⟨u1, hinv⟩ := hinv; obtain ⟨u2, hinv⟩ := hinv; obtain ⟨u3, hinv⟩ := hinv; obtain ⟨u5, hinv⟩ := hinv; obtain ⟨u8, hinv⟩ := hinv; obtain ⟨u9, hinv⟩ := hinv; obtain ⟨u10, hinv⟩ := hinv; obtain ⟨u11, hinv⟩ := hinv; obtain ⟨u12, hinv⟩ := hinv; obtain ⟨u13, hinv⟩ := hinv; obtain ⟨u14, hinv⟩ := hinv; obtain ⟨u15, hinv⟩ := hinv; obtain ⟨u16, hinv⟩ := hinv; obtain ⟨u17, hinv⟩ := hinv; obtain ⟨u18, hinv⟩ := hinv; obtain ⟨u19, hinv⟩ := hinv; obtain ⟨u20, hinv⟩ := hinv; obtain ⟨u21, hinv⟩ := hinv; obtain ⟨u22, hinv⟩ := hinv; obtain ⟨u23, hinv⟩ := hinv; obtain ⟨u24, hinv⟩ := hinv; obtain ⟨u25, hinv⟩ := hinv; obtain ⟨u26, hinv⟩ := hinv; obtain ⟨u27, hinv⟩ := hinv; obtain ⟨u28, hinv⟩ := hinv; obtain ⟨u29, hinv⟩ := hinv; obtain ⟨u30, hinv⟩ := hinv; obtain ⟨u31, hinv⟩ := hinv; obtain ⟨u32, hinv⟩ := hinv; obtain ⟨u33, hinv⟩ := hinv)
      obtain ⟨ds, ⟨k, Ds, rfl, rfl, hk, hto, hK, hRb, hO, hb, hM⟩, ha⟩ := hinv
      subst ha
      have HTO := Lib.hid hto
      clear hto
      dsimp only
      have hbs := hb.size
      rcases Nat.eq_zero_or_pos k with hk0 | hk0
      · subst hk0
        have x0 := hRb.at_ (i := 0) (by simp)
        have x1 := hRb.at_ (i := 1) (by simp)
        have x2 := hRb.at_ (i := 2) (by simp)
        have z0 := hRb.frozen 0
        have z1 := hRb.frozen 1
        have z2 := hRb.frozen 2
        have o0 := hO.at_ (i := 0) (by simp)
        have oz := hO.frozen 0
        gi_wp2
        refine MarksAt.leaves (v := .tuple #[wriA (wOf none), .bool false]) Ds _ ((((hM.set (p := ⟨w.heap.size + 1, 0, none⟩) (show w.heap.size + 1 < w.heap.size + 3 by omega) _).set (p := ⟨w.heap.size + 1, 1, none⟩) (show w.heap.size + 1 < w.heap.size + 3 by omega) _).set (p := ⟨w.heap.size + 1, 2, none⟩) (show w.heap.size + 1 < w.heap.size + 3 by omega) _).set (p := ⟨w.heap.size + 1 + 1, 0, none⟩) (show w.heap.size + 1 + 1 < w.heap.size + 3 by omega) _) (fun w' hbw' => ⟨?_, ?_⟩)
        · have hq := (((hRb.three (.string ⟨#[]⟩) (.int .i64 0) (.bool false)).far (p := ⟨w.heap.size + 1 + 1, 0, none⟩) (by simp) (.bool false))).below hbw' (by omega)
          have hq2 := ((((hO.far (p := ⟨w.heap.size + 1, 0, none⟩) (by simp) (.string ⟨#[]⟩)).far (p := ⟨w.heap.size + 1, 1, none⟩) (by simp) (.int .i64 0)).far (p := ⟨w.heap.size + 1, 2, none⟩) (by simp) (.bool false)).set_ 0 (.bool false)).below hbw' (by omega)
          have q0 := hq.at_ (i := 0) (by simp)
          have q1 := hq.at_ (i := 1) (by simp)
          have q2 := hq.at_ (i := 2) (by simp)
          have q3 := hq2.at_ (i := 0) (by simp)
          simp at q0 q1 q2 q3
          simp [results, Try.results50, go_sem, q0, q1, q2, q3, wOf]
        · exact ⟨by rw [HTO.out]; rfl, ((((hb.setCell (p := ⟨w.heap.size + 1, 0, none⟩) (Nat.le_succ _) _).setCell (p := ⟨w.heap.size + 1, 1, none⟩) (Nat.le_succ _) _).setCell (p := ⟨w.heap.size + 1, 2, none⟩) (Nat.le_succ _) _).setCell (p := ⟨w.heap.size + 1 + 1, 0, none⟩) (Nat.le_add_right _ 2) _).trans (hbw'.mono (by omega))⟩
      · obtain ⟨m, rfl⟩ : ∃ m, k = m + 1 := ⟨k - 1, by omega⟩
        have hlt : m < rs.length := by omega
        (try (exfalso; omega))
        all_goals
          have e0 : ((m + 1 : Nat) : Int) - 1 = (m : Int) := by omega
          rw [e0]
          obtain ⟨b, o, rfl, hbl, c0, hS⟩ := (hR.below hb).at_ hlt
          have hln := hn2 rs[m] (by simp)
          have HL := Lib.hid (lastW_take (key := key) (ll := cont rs) (k := m) (by rw [cont_len]; exact hlt))
          rw [cont_get rs m hlt] at HL
          generalize rs[m] = x at *
          obtain ⟨Ax, cx, lx⟩ := x
          simp only at c0 hS hln HL
          have hba := (Below.refl W.heap.size W).alloc (Nat.le_refl _) (.cells #[.slice Ax lx.length cx] 26)
          have hs1 := Blk.new W 26 #[.slice Ax lx.length cx]
          have hK1 := hK.kept hba
          have hR1 := hRb.kept hba
          have hO1 := hO.kept hba
          have hM1 := hM.kept hba
          have hRlt := hO.lt
          have hz1 : (W.alloc (.cells #[.slice Ax lx.length cx] 26)).heap.size = W.heap.size + 1 := by simp
          gi_wp2_with fail
          refine ⟨trivial, (back_in _ Ax lx.length cx _).mono ?_⟩
          rintro e W1 ⟨rfl, rfl⟩
          gi_wp2
          have hb1 := hb.trans (hba.mono hbs)
          generalize W.alloc (.cells #[.slice Ax lx.length cx] 26) = W1 at *
          have HH := Lib.hid (⟨hK1, hR1, hO1, hM1, hb1⟩ : _ ∧ _ ∧ _ ∧ _ ∧ _)
          clear hK hRb hO hM hK1 hR1 hO1 hM1 hb1 hR
          refine wpIn_rangeFunc_ownH (F := Fence.wide) rfl (by decide) (gf := 135) (lb := #[.pointer (some ⟨W.heap.size, 0, none⟩)]) rfl trivial (enters_of Try.func135 (by kernel_rfl) rfl)
            (back_stops 4 (by decide) W.heap.size cx Ax lx W W1 hln hS (by omega) hba hs1) belowK_t (belowK_b (Nat.le_refl _)) (Below.refl _ _) (fun _ => rfl)
            (fun pre W2 => (∀ y ∈ pre, y.1.1 ≠ key) ∧ Below W1.heap.size W1 W2) (fun cc pre W2 => (cc = .ret ∧ ∃ q y, pre = q ++ [y] ∧ (∀ z ∈ q, z.1.1 ≠ key) ∧ y.1.1 = key) ∧ ∃ y q, pre = q ++ [y] ∧ RetAt W1 (w.heap.size + 1) y.1 W2)
            (OwnFrom.and (ownFrom_pure _ _) (ownFrom_below (Nat.le_refl _) (Nat.le_refl _)))
            (fun cc => OwnFrom.and (ownFrom_pure _ _) (by
              rintro s X Y row ⟨y, q, e, hr⟩ hg hrow
              exact ⟨y, q, e, RetAt.own (β := Unit) (by omega) () X Y row hr hg hrow⟩))
            ⟨by simp, Below.refl _ _⟩
            (fun y a' W2 => ∃ Bx, W1.heap.size ≤ Bx ∧ Blk W2 Bx 61 (wriC y.1) ∧ a' = { tmps := #[.slice (some ⟨b, o, none⟩) rs.length c, u1, u2, u3, .pointer (some ⟨w.heap.size, 0, none⟩), u5, .pointer (some ⟨w.heap.size + 1, 0, none⟩), .pointer (some ⟨w.heap.size + 1 + 1, 0, none⟩), .int .i64 m, u9, .pointer (some ⟨Bx, 0, none⟩), u11, u12, u13, u14, u15, u16, .int .i64 m, .bool true, u19, u20, .slice (some ⟨b, o, none⟩) rs.length c, .int .i64 m, .pointer (some ⟨b, o + m, none⟩), .slice Ax lx.length cx, .func (.func 135) #[] #[.pointer (some ⟨W.heap.size, 0, none⟩)], .int .i64 y.2, wriA y.1, u28, u29, u30, u31, u32, u33], defers := [] })
            (fun y a' _ X Y row hs hg hr => by
              obtain ⟨Bx, e1, e2, e3⟩ := hs
              exact ⟨Bx, e1, e2.grown hg (fun e' => by obtain ⟨o, ho, hc⟩ := (hr Bx e'.symm).2; rw [show X.heap[Bx]? = _ from e2] at ho; cases ho; cases hc), e3⟩)
            ?assign ?body ?done ?stop
          case assign =>
            rintro l pre y W2 K ⟨hp, hb2⟩ hK2
            have hsz2 := hb2.size
            gi_wp2
            exact hK2 _ _ ((KeepsOthers.alloc _ _).from _) ((Below.refl _ W2).alloc hsz2 _) ⟨hp, hb2.alloc hsz2 _⟩ ⟨W2.heap.size, hsz2, Blk.new _ _ _, rfl⟩
          case body =>
            rintro l pre y a' W2 hl hr ⟨hp, hb2⟩ ⟨Bx, hBx, hX, rfl⟩ hlp
            obtain ⟨hK1, hR1, hO1, hM1, hb1⟩ := HH.out
            have hK3 := hK1.below hb2 (by omega)
            have hR3 := hR1.below hb2 (by omega)
            have hO3 := hO1.below hb2 (by omega)
            have k0 := hK3.at_ (i := 0) (by simp)
            have e0 := hX.at_ (i := 0) (by simp)
            have e1 := hX.at_ (i := 1) (by simp)
            have e2 := hX.at_ (i := 2) (by simp)
            have x0 := hR3.at_ (i := 0) (by simp)
            have x1 := hR3.at_ (i := 1) (by simp)
            have x2 := hR3.at_ (i := 2) (by simp)
            have z0 := hR3.frozen 0
            have z1 := hR3.frozen 1
            have z2 := hR3.frozen 2
            have o0 := hO3.at_ (i := 0) (by simp)
            have oz := hO3.frozen 0
            have hsz2 := hb2.size
            have HB := Lib.hid (⟨hR3, hO3, hb2⟩ : _ ∧ _ ∧ _)
            clear hK3 hR3 hO3 hK1 hR1 hO1 hM1 hb1 hb2 hX
            by_cases hy : y.1.1 = key
            · have hyb : (y.1.1.toList == key.toList) = true := by rw [bytes_beq]; simpa using hy
              have HY := Lib.hid hy
              clear hy
              gi_wp2
              obtain ⟨hR3, hO3, hb2⟩ := HB.out
              refine ⟨((((KeepsOthers.setCell _ _ _).trans (KeepsOthers.setCell _ _ _)).trans (KeepsOthers.setCell _ _ _)).trans (KeepsOthers.setCell _ _ _)).from _, ⟨rfl, pre, y, rfl, hp, HY.out⟩, y, pre, rfl, hb2.os, hb2.tape, hb2.output, by simpa using hsz2, fun k hk n1 n2 => ?_, (hR3.three _ _ _).far (by simp) _, ?_⟩
              · exact ((Below.heap_setCell _ _ _ k n2).trans ((Below.heap_setCell _ _ _ k n1).trans ((Below.heap_setCell _ _ _ k n1).trans (Below.heap_setCell _ _ _ k n1)))).trans (hb2.block k hk)
              · exact (((hO3.far (by simp) _).far (by simp) _).far (by simp) _).set_ 0 (.bool true)
            · have hyb : (y.1.1.toList == key.toList) = false := by rw [bytes_beq]; simpa using hy
              have HY := Lib.hid hy
              clear hy
              gi_wp2
              refine ⟨KeepsFrom.refl _ _, Below.refl _ _, fun z hz => ?_, HB.out.2.2⟩
              rw [List.mem_append] at hz
              rcases hz with hz | hz
              · exact hp z hz
              · simp at hz; subst hz; exact HY.out
          case done =>
            rintro D ys W2 hD rfl ⟨hp, hb2⟩ hK2
            obtain ⟨hK1, hR1, hO1, hM1, hb1⟩ := HH.out
            have hM2 : MarksAt (w.heap.size + 3) (D :: Ds) W2 := MarksAt.cons (hM1.kept hb2) hK2 (by omega) (fun D' hD' => by have := hM1.lt hD'; omega)
            have HT : Hid (lastAt key rs t = lastW key ((cont rs).take m)) := by
              refine Lib.hid ?_
              rw [HTO.out, HL.out, upd_back hp]
            have HZ := Lib.hid (⟨hK1.kept hb2, hR1.kept hb2, hO1.kept hb2, hM2, bthen hb1 hb2⟩ : _ ∧ _ ∧ _ ∧ _ ∧ _)
            clear hK1 hR1 hO1 hM1 hM2 hb1 hb2 hK2
            gi_wp2
            obtain ⟨g1, g2, g3, g4, g5⟩ := HZ.out
            refine ⟨?_, ?_⟩
            · (repeat apply Exists.intro)
              refine ⟨?_, rfl⟩
              exact ⟨m, D :: Ds, by go_num, rfl, by omega, HT.out, g1, g2, g3, g5, g4⟩
            · simp [intOf]
          case stop =>
            rintro D cc pre W2 hD ⟨kk, hkk⟩ ⟨⟨rfl, q, y, e1, hq, hy⟩, y', q', e2, hret⟩ hK2
            obtain ⟨hK1, hR1, hO1, hM1, hb1⟩ := HH.out
            have he : y' = y := by
              have := e1.symm.trans e2
              have h2 := congrArg List.getLast? this
              simp at h2; exact h2.symm
            subst he
            have HT := Lib.hid (show lastAt key rs t = some y'.1 by rw [HTO.out, HL.out]; exact upd_back_hit (e1.symm.trans hkk) hq hy)
            have hM2 : MarksAt (w.heap.size + 3) (D :: Ds) W2 := MarksAt.cons (hM1.ret hret (by omega)) hK2 (by omega) (fun D' hD' => by have := hM1.lt hD'; omega)
            have HM2 := Lib.hid hM2
            have hbw := hb1.trans (hret.below (B := w.heap.size) (by omega) (by omega))
            gi_wp2
            refine MarksAt.leaves (v := .tuple #[wriA y'.1, .bool true]) (D :: Ds) _ HM2.out (fun w' hbw' => ⟨?_, ?_⟩)
            · have hq := hret.2.2.2.2.2.1.below hbw' (by omega)
              have hq2 := hret.2.2.2.2.2.2.below hbw' (by omega)
              have q0 := hq.at_ (i := 0) (by simp)
              have q1 := hq.at_ (i := 1) (by simp)
              have q2 := hq.at_ (i := 2) (by simp)
              have q3 := hq2.at_ (i := 0) (by simp)
              simp at q0 q1 q2 q3
              simp [results, Try.results50, go_sem, q0, q1, q2, q3]
            · exact ⟨by rw [HT.out]; rfl, hbw.trans (hbw'.mono (by omega))⟩
theorem implPastLast_any (A : Option Addr) (rs : List Wrow) (c : Nat) (key : ByteArray) (t : Int) (w : World) (hn : rs.length ≤ 1048576) (hn2 : ∀ r ∈ rs, r.2.2.length ≤ 1048576) (hR : Sl2 w A rs) :
    Calls Try.prog 50 #[.slice A rs.length c, .string key, .int .i64 t] w fun e w' => e = lastOut (lastAt key rs t) ∧ Below w.heap.size w w' :=
  callsIn_wide.1 (implPastLast_in A rs c key t w hn hn2 hR)
end Go.Proofs.Ytfmpohhaimgnfaa
