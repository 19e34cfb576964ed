import Derived.Test.YtpjkcmmmpgncmaaM02
import Derived.Test.YtpjkcmmmpgncmaaL6A
import Derived.Test.YtpjkcmmmpgncmaaM22
import Derived.Test.YtpjkcmmmpgncmaaM05
/- The bundle while things are drawn, beside a row of letters of one's own and a letter's box. -/
namespace Go.Proofs.Ytpjkcmmmpgncmaa
open Go.RowKit
theorem kpT_set {W : World} {g1 i : Nat} {cs : Array Value} (h : Blk W g1 94 cs) (u : Value) : KpT W (W.setCell ⟨g1, i, none⟩ u) :=
  ⟨by rw [World.size_setCell]; exact Nat.le_refl _, fun _ _ _ hb _ hn => hb.far (p := ⟨g1, i, none⟩) (blk_ne hb h hn) u⟩
theorem own_farL {W : World} {B k n g1 i : Nat} {e : TypeId} {v : Value} {xs : List Value} (h : W.ownsRow B e k v n xs) (hne : ∀ j, v.ownBlock = some j → j ≠ g1) (u : Value) : (W.setCell ⟨g1, i, none⟩ u).ownsRow B e k v n xs := by
  refine ⟨h.1, ?_⟩
  rcases h.2 with h2 | ⟨g, cap, cur, hv, hg, hh, r⟩
  · exact .inl h2
  · refine .inr ⟨g, cap, cur, hv, hg, ?_, r⟩
    have := hne g (by rw [hv]; rfl)
    exact (heap_setCell_other W ⟨g1, i, none⟩ g u this).trans hh
section
variable {w0 w W W' : World} {A : Option Addr} {bs : List UInt8} {c g q : Nat} {L : List (Nat × TypeId × Array Value)} {Ps : List (World → Prop)}
theorem SD.drop {b : Nat × TypeId × Array Value} (h : SD w0 A bs c g q w (L ++ [b]) Ps W) : SD w0 A bs c g q w L Ps W :=
  ⟨⟨fun x hx => h.1.1 x (List.mem_append.2 (.inl hx)), by have := h.1.2; rw [List.map_append, List.nodup_append] at this; exact this.1⟩, h.2⟩
theorem SD.only (h : SD w0 A bs c g q w L Ps W) (Qs : List (World → Prop)) (hq : ∀ P ∈ Qs, KpC P ∧ P W) : SD w0 A bs c g q w L Qs W := ⟨h.1, hq, h.2.2⟩
theorem SD.grownX (h : SD w0 A bs c g q w L Ps W) {B n : Nat} {v : Value} {xs : List Value} (ho : W.ownsRow B 94 2 v n xs) (hg : W.grownBy W' v.ownBlock) (hB : ∀ b ∈ L, ∀ j, v.ownBlock = some j → b.1 ≠ j) (hw : w.heap.size ≤ B) (hP : ∀ P ∈ Ps, KL P) : SD w0 A bs c g q w L Ps W' :=
  ⟨⟨fun b hm => ⟨(h.1.1 b hm).1, (h.1.1 b hm).2.grown hg (fun e => hB b hm _ e.symm rfl)⟩, h.1.2⟩, fun P hm => ⟨(h.2.1 P hm).1, hP P hm _ _ (kpT_own ho hg) (h.2.1 P hm).2⟩, h.rd.own hg (fun j hj => by have := own_ge ho hj; have := h.2.2.2.2; omega), gr_own h.gr hg (fun j hj => by have := own_ge ho hj; omega), h.2.2.2.2⟩
/-- a box that was made behind the world of the bundle -/
theorem SD.addBox (h : SD w0 A bs c g q w L Ps W) {b : Nat} {t : TypeId} {cs : Array Value} (hB : Blk W b t cs) (hg : w.heap.size ≤ b) (hn : ∀ x ∈ L, x.1 ≠ b) : SD w0 A bs c g q w (L ++ [(b, t, cs)]) Ps W := by
  refine ⟨⟨fun x hm => ?_, ?_⟩, h.2⟩
  · rcases List.mem_append.1 hm with hm | hm
    · exact h.1.1 x hm
    · simp at hm; subst hm; exact ⟨hg, hB⟩
  · rw [List.map_append, List.nodup_append]
    refine ⟨h.1.2, by simp, fun x hx y hy => ?_⟩
    simp at hy; subst hy
    obtain ⟨b', hm, rfl⟩ := List.mem_map.1 hx
    exact hn b' hm
theorem SD.setL (h : SD w0 A bs c g q w L Ps W) {g1 i : Nat} {u : Value} (hge : w.heap.size ≤ g1) (hn : ∀ b ∈ L, b.1 ≠ g1) (hP : ∀ P ∈ Ps, P (W.setCell ⟨g1, i, none⟩ u)) : SD w0 A bs c g q w L Ps (W.setCell ⟨g1, i, none⟩ u) := by
  have h1 := h.2.2.2.2
  have h2 := h.rd.2.2.1
  exact ⟨⟨fun b hm => ⟨(h.1.1 b hm).1, (h.1.1 b hm).2.far (p := ⟨g1, i, none⟩) (hn b hm) u⟩, h.1.2⟩, fun P hm => ⟨(h.2.1 P hm).1, hP P hm⟩, h.rd.farS (p := ⟨g1, i, none⟩) (by simp only; omega) (by simp only; omega) u, gr_far h.gr (p := ⟨g1, i, none⟩) hge u, h.2.2.2.2⟩
/-- a letter is laid into a box that was made before -/
theorem SD.letBox {now : Int} {A1 A2 A3 : Option Addr} {l : List Ver} {ws : List Wri} {ns : List Nm} {B : Nat} {v : Value} {LO : List Let} {g1 : Nat} {a0 a1 : Value} (h : SD w0 A bs c g q w L [fun W => VK W now A1 l, fun W => WK W A2 ws, fun W => NK W A3 ns, fun W => OwnL W B v LO] W)
    (hB : Blk W g1 94 #[a0, a1]) (hge : w.heap.size ≤ g1) (hn : ∀ b ∈ L, b.1 ≠ g1) (ho : ∀ j, v.ownBlock = some j → j ≠ g1) (u0 u1 : Value) :
    SD w0 A bs c g q w (L ++ [(g1, 94, #[u0, u1])]) [fun W => VK W now A1 l, fun W => WK W A2 ws, fun W => NK W A3 ns, fun W => OwnL W B v LO] ((W.setCell ⟨g1, 0, none⟩ u0).setCell ⟨g1, 1, none⟩ u1) := by
  have hB1 := hB.set_ 0 u0
  have step : ∀ (X : World) (i : Nat) (u : Value) (ds : Array Value), SD w0 A bs c g q w L [fun W => VK W now A1 l, fun W => WK W A2 ws, fun W => NK W A3 ns, fun W => OwnL W B v LO] X → Blk X g1 94 ds → SD w0 A bs c g q w L [fun W => VK W now A1 l, fun W => WK W A2 ws, fun W => NK W A3 ns, fun W => OwnL W B v LO] (X.setCell ⟨g1, i, none⟩ u) := fun X i u ds hX hd => by
    refine hX.setL hge hn ?_
    refine List.forall_mem_cons.2 ⟨VK.l _ _ (kpT_set hd u) (hX.get 0 rfl), List.forall_mem_cons.2 ⟨WK.l _ _ (kpT_set hd u) (hX.get 1 rfl), List.forall_mem_cons.2 ⟨NK.l _ _ (kpT_set hd u) (hX.get 2 rfl), List.forall_mem_cons.2 ⟨own_farL (hX.get 3 rfl) ho u, fun P hP => absurd hP (by simp)⟩⟩⟩⟩
  have h2 := step _ 1 u1 _ (step W 0 u0 _ h hB) hB1
  exact h2.addBox (hB1.set_ 1 u1) hge hn
end
end Go.Proofs.Ytpjkcmmmpgncmaa
/- The two HallOnly: what happens to one alone. -/
namespace Go.Proofs.Ytpjkcmmmpgncmaa
open Go.RowKit
/-- something that happens: its kind, who, bytes -/
abbrev EvV := Int × Int × ByteArray
theorem kFE (W : World) (o : Obj) : Below W.heap.size W (W.alloc o) := (Below.refl _ _).alloc (Nat.le_refl _) _
def encEv (x : EvV) : List Value := [.int .i64 x.1, .int .i64 x.2.1, .string x.2.2]
theorem encEv_len (x : EvV) : (encEv x).length = 3 := rfl
theorem infoEv : (Try.prog.info? 58).map (fun i => (i.zero, i.size, i.bytes)) = some (some (.agg #[.int .i64 0, .int .i64 0, .string ⟨#[]⟩]), 3, 32) := by kernel_rfl
def onlyE (l : List EvV) (who : Int) : List EvV := l.filter (fun x => x.2.1 == who)
theorem only_le (l : List EvV) (who : Int) : (onlyE l who).length ≤ l.length := List.length_filter_le _ _
theorem only_yes {l : List EvV} {k : Nat} {who : Int} {y : EvV} (h : l[k]? = some y) (hq : (y.2.1 == who) = true) : onlyE (l.take (k + 1)) who = onlyE (l.take k) who ++ [y] := by
  obtain ⟨hl, he⟩ := List.getElem?_eq_some_iff.1 h
  unfold onlyE
  rw [List.take_succ_eq_append_getElem hl, List.filter_append, he, List.filter_cons, if_pos hq]
  rfl
theorem only_no {l : List EvV} {k : Nat} {who : Int} {y : EvV} (h : l[k]? = some y) (hq : ¬ (y.2.1 == who) = true) : onlyE (l.take (k + 1)) who = onlyE (l.take k) who := by
  obtain ⟨hl, he⟩ := List.getElem?_eq_some_iff.1 h
  unfold onlyE
  rw [List.take_succ_eq_append_getElem hl, List.filter_append, he, List.filter_cons, if_neg hq]
  simp
def OwnE (w : World) (B : Nat) (v : Value) (l : List EvV) : Prop := w.ownsRow B 58 3 v l.length (l.flatMap encEv)
theorem own_noneE (w : World) (B : Nat) : OwnE w B (.slice none 0 0) [] := ⟨by first | rfl | simp | decide, .inl ⟨rfl, rfl⟩⟩
theorem ownE_nil (W : World) (a B : Nat) (ha : a = W.heap.size) (hB : B ≤ W.heap.size) : OwnE (W.alloc (.cells #[] 58)) B (.slice (some ⟨a, 0, none⟩) 0 0) [] := by
  subst ha
  exact Go.Joins.ownsRow_le (own_of_blk (base := W.heap.size) (n := 0) (k := 3) (xs := []) (Blk.new W _ #[]) (Nat.le_refl _) (Nat.zero_le _) rfl rfl) hB
theorem ownE_app {w : World} {B : Nat} {v : Value} {L : List EvV} {y : EvV} (ho : w.ownsRow B 58 3 v (L.length + 1) (L.flatMap encEv ++ [.int .i64 y.1, .int .i64 y.2.1, .string y.2.2])) : OwnE w B v (L ++ [y]) := by
  unfold OwnE
  rw [List.length_append, List.flatMap_append]
  simpa [encEv] using ho
def OnlyP (w : World) (l : List EvV) (who : Int) (e : Ending) (w' : World) : Prop := ∃ v, e = .returned v ∧ OwnE w' w.heap.size v (onlyE l who) ∧ Below w.heap.size w w'
set_option maxRecDepth 100000 in
set_option maxHeartbeats 4000000 in
theorem specOnly_any (A : Option Addr) (l : List EvV) (c : Nat) (who : Int) (w : World) (hl : l.length ≤ 1048576) (hR : Sl encEv 3 w A l) :
    Calls Try.prog 26 #[.slice A l.length c, .int .i64 who] w (OnlyP w l who) := by
  obtain ⟨i0, hi0, hz0, hz1, hz2⟩ := info_parts infoEv
  have HI := Lib.hid (⟨hi0, hz0, hz1, hz2⟩ : _ ∧ _ ∧ _ ∧ _)
  clear hi0 hz0 hz1 hz2
  go_enter Try.func26, Try.ntmps26
  go_wp2
  go_loopw [5, 6] (fun v i wr => ∃ (k : Nat) (R : List EvV) (AL : Option Addr) (cL : Nat), k ≤ l.length ∧ i = .int .i64 k ∧ v = .slice AL R.length cL ∧ R = onlyE (l.take k) who ∧ OwnE wr w.heap.size (.slice AL R.length cL) R ∧ Below w.heap.size w wr) (fun _ i _ => l.length - (intOf i).toNat)
  case atStart => exact ⟨0, [], _, 0, by omega, rfl, rfl, rfl, ownE_nil w w.heap.size w.heap.size rfl (Nat.le_refl _), kFE w _⟩
  case round =>
    obtain ⟨k, R, AL, cL, hk, rfl, rfl, hR9, hown, hb⟩ := hrel
    have hbs := hb.size
    by_cases hlt : k < l.length
    · obtain ⟨b, o, rfl, hbl, c0, c1, c2⟩ := Sl.at3 (hR.below hb) hlt
      have hke := List.getElem?_eq_getElem hlt
      have hle := only_le (l.take k) who
      rw [← hR9] at hle
      have HR9 := Lib.hid hR9
      clear hR9
      have hle2 : (l.take k).length ≤ k := List.length_take_le _ _
      have hki : (k : Int) < (l.length : Int) := by omega
      have hki0 : (0 : Int) ≤ (k : Int) := by omega

      generalize l[k] = y at *
      obtain ⟨yk, yw, yb⟩ := y
      simp only at c0 c1 c2
      have hbx := Below.refl wr.heap.size wr
      by_cases hqe : yw = who
      · subst hqe
        have hq : (yw == yw) = true := by simp
        have hownA := own_kept hown (bthen hbx (kFE wr (.cells #[.int .i64 yk, .int .i64 yw, .string yb] 58)))
        have hltA := hown.lt
        have hnewA := new_cells wr [.int .i64 yk, .int .i64 yw, .string yb] 58
        skip
        have hbA := kFE wr (.cells #[.int .i64 yk, .int .i64 yw, .string yb] 58)
        go_wp2_with (first
          | (at_builtin; refine wpList_append_own _ rfl (.tmp 21) (.tmp 26) 53 rfl w.heap.size 58 i0 _ 3 32 Try.underlying53 HI.out.1 HI.out.2.1 HI.out.2.2.1 HI.out.2.2.2 rfl (by decide) (.slice AL R.length cL) R.length (R.flatMap encEv) rfl hownA ⟨wr.heap.size, 0, none⟩ 1 1 [.int .i64 yk, .int .i64 yw, .string yb] rfl rfl hnewA (by simp [Value.oneCell']) (by unfold maxLen; omega) (by omega) (by simp; omega) ?_; intro v8 w8 ho8 hg8 _; obtain ⟨M, hM, hoM⟩ : ∃ M : List EvV, M = onlyE (l.take (k + 1)) yw ∧ OwnE w8 w.heap.size v8 M := ⟨R ++ [(yk, yw, yb)], by rw [only_yes (who := yw) hke hq, HR9.out], ownE_app ho8⟩; have HO8 := Lib.hid hoM; obtain ⟨A8, c8, rfl, _, _, _⟩ := Sl.of_own encEv_len hoM; have HM := Lib.hid hM; clear hM hoM; have HB8 := Lib.hid (below_own (bthen (bthen hb hbx) hbA) hg8 (by simp; omega) (fun j hj => (hltA j hj).1)); clear ho8 hg8 hownA hnewA)
          | fail)
        go_roundw
        case rel => exact ⟨k + 1, M, A8, c8, by omega, by go_num, rfl, HM.out, HO8.out, HB8.out⟩
        case measure => simp [intOf]; omega
      · have hqf : (yw == who) = false := by simpa using hqe
        have HM := Lib.hid ((only_no (who := who) hke (by simpa using hqe)).trans HR9.out.symm)
        have HO8 : Hid (OwnE wr w.heap.size (.slice AL R.length cL) R) := Lib.hid (own_kept hown hbx)
        have HB8 := Lib.hid (bthen hb hbx)
        go_wp2
        go_roundw
        case rel => exact ⟨k + 1, R, AL, cL, by omega, by go_num, rfl, HM.out.symm, HO8.out, HB8.out⟩
        case measure => simp [intOf]; omega
    · obtain rfl : k = l.length := by omega
      rw [List.take_length] at hR9
      have HOW := Lib.hid (hR9 ▸ hown : OwnE wr w.heap.size (.slice AL R.length cL) (onlyE l who))
      go_wp2
      go_ret
      exact ⟨_, rfl, HOW.out, hb⟩
set_option maxRecDepth 100000 in
set_option maxHeartbeats 4000000 in
theorem implOnly_any (A : Option Addr) (l : List EvV) (c : Nat) (who : Int) (w : World) (hl : l.length ≤ 1048576) (hR : Sl encEv 3 w A l) :
    Calls Try.prog 25 #[.slice A l.length c, .int .i64 who] w (OnlyP w l who) := by
  obtain ⟨i0, hi0, hz0, hz1, hz2⟩ := info_parts infoEv
  have HI := Lib.hid (⟨hi0, hz0, hz1, hz2⟩ : _ ∧ _ ∧ _ ∧ _)
  clear hi0 hz0 hz1 hz2
  go_enter Try.func25, Try.ntmps25
  go_wp2
  go_loopw [5, 10] (fun v i wr => ∃ (k : Nat) (R : List EvV) (AL : Option Addr) (cL : Nat), k ≤ l.length ∧ i = .int .i64 k ∧ v = .slice AL R.length cL ∧ R = onlyE (l.take k) who ∧ OwnE wr w.heap.size (.slice AL R.length cL) R ∧ Below w.heap.size w wr) (fun _ i _ => l.length - (intOf i).toNat)
  case atStart => exact ⟨0, [], none, 0, by omega, rfl, rfl, rfl, own_noneE w w.heap.size, Below.refl _ _⟩
  case round =>
    obtain ⟨k, R, AL, cL, hk, rfl, rfl, hR9, hown, hb⟩ := hrel
    have hbs := hb.size
    by_cases hlt : k < l.length
    · obtain ⟨b, o, rfl, hbl, c0, c1, c2⟩ := Sl.at3 (hR.below hb) hlt
      have hke := List.getElem?_eq_getElem hlt
      have hle := only_le (l.take k) who
      rw [← hR9] at hle
      have HR9 := Lib.hid hR9
      clear hR9
      have hle2 : (l.take k).length ≤ k := List.length_take_le _ _
      have hki : (k : Int) < (l.length : Int) := by omega
      have hki0 : (0 : Int) ≤ (k : Int) := by omega

      generalize l[k] = y at *
      obtain ⟨yk, yw, yb⟩ := y
      simp only at c0 c1 c2
      have hbx := kFE wr (.cells #[.int .i64 yk, .int .i64 yw, .string yb] 58)
      by_cases hqe : yw = who
      · subst hqe
        have hq : (yw == yw) = true := by simp
        have hownA := own_kept hown (bthen hbx (kFE (wr.alloc (.cells #[.int .i64 yk, .int .i64 yw, .string yb] 58)) (.cells #[.int .i64 yk, .int .i64 yw, .string yb] 58)))
        have hltA := hown.lt
        have hnewA := new_cells (wr.alloc (.cells #[.int .i64 yk, .int .i64 yw, .string yb] 58)) [.int .i64 yk, .int .i64 yw, .string yb] 58
        rw [World.size_alloc] at hnewA
        have hbA := kFE (wr.alloc (.cells #[.int .i64 yk, .int .i64 yw, .string yb] 58)) (.cells #[.int .i64 yk, .int .i64 yw, .string yb] 58)
        go_wp2_with (first
          | (at_builtin; refine wpList_append_own _ rfl (.tmp 18) (.tmp 20) 53 rfl w.heap.size 58 i0 _ 3 32 Try.underlying53 HI.out.1 HI.out.2.1 HI.out.2.2.1 HI.out.2.2.2 rfl (by decide) (.slice AL R.length cL) R.length (R.flatMap encEv) rfl hownA ⟨wr.heap.size + 1, 0, none⟩ 1 1 [.int .i64 yk, .int .i64 yw, .string yb] rfl rfl hnewA (by simp [Value.oneCell']) (by unfold maxLen; omega) (by omega) (by simp; omega) ?_; intro v8 w8 ho8 hg8 _; obtain ⟨M, hM, hoM⟩ : ∃ M : List EvV, M = onlyE (l.take (k + 1)) yw ∧ OwnE w8 w.heap.size v8 M := ⟨R ++ [(yk, yw, yb)], by rw [only_yes (who := yw) hke hq, HR9.out], ownE_app ho8⟩; have HO8 := Lib.hid hoM; obtain ⟨A8, c8, rfl, _, _, _⟩ := Sl.of_own encEv_len hoM; have HM := Lib.hid hM; clear hM hoM; have HB8 := Lib.hid (below_own (bthen (bthen hb hbx) hbA) hg8 (by simp; omega) (fun j hj => (hltA j hj).1)); clear ho8 hg8 hownA hnewA)
          | fail)
        go_roundw
        case rel => exact ⟨k + 1, M, A8, c8, by omega, by go_num, rfl, HM.out, HO8.out, HB8.out⟩
        case measure => simp [intOf]; omega
      · have hqf : (yw == who) = false := by simpa using hqe
        have HM := Lib.hid ((only_no (who := who) hke (by simpa using hqe)).trans HR9.out.symm)
        have HO8 : Hid (OwnE (wr.alloc (.cells #[.int .i64 yk, .int .i64 yw, .string yb] 58)) w.heap.size (.slice AL R.length cL) R) := Lib.hid (own_kept hown hbx)
        have HB8 := Lib.hid (bthen hb hbx)
        go_wp2
        go_roundw
        case rel => exact ⟨k + 1, R, AL, cL, by omega, by go_num, rfl, HM.out.symm, HO8.out, HB8.out⟩
        case measure => simp [intOf]; omega
    · obtain rfl : k = l.length := by omega
      rw [List.take_length] at hR9
      have HOW := Lib.hid (hR9 ▸ hown : OwnE wr w.heap.size (.slice AL R.length cL) (onlyE l who))
      go_wp2
      go_ret
      exact ⟨_, rfl, HOW.out, hb⟩
end Go.Proofs.Ytpjkcmmmpgncmaa
