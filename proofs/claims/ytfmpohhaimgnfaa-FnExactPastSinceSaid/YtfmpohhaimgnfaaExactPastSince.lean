/- FnExactPastSince: for every history and all times the program's PastSince returns what the reference's returns, in memory of its own, and leaves its argument as it was. No condition. -/
import Derived.Test.YtfmpohhaimgnfaaSnd
import Derived.Test.YtfmpohhaimgnfaaWriSO
import Derived.Test.YtfmpohhaimgnfaaOpenR
import Derived.Deep.RegionWith
namespace Go.Proofs.Ytfmpohhaimgnfaa
open Go.RowKit Go.ChangeShapes Go.WideShapes Go.ChangeAt Go.Deep
def mkS (k j : Nat) : List ByteArray := (List.range j).map (fun i => mt (k + i))
theorem mkS_len (k j : Nat) : (mkS k j).length = j := by simp [mkS]
theorem mkS_succ (k j : Nat) : mkS k (j + 1) = mkS k j ++ [mt (k + j)] := by simp [mkS, List.range_succ]
theorem mkS_get (k : Nat) {n j : Nat} (h : j < (mkS k n).length) : (mkS k n)[j] = mt (k + j) := by simp [mkS]
/-- the list after j rounds of the marking -/
def midS (k : Nat) (l : List ByteArray) (j : Nat) : List Value := (mkS k j ++ l.drop j).flatMap encS
theorem midS_zero (k : Nat) (l : List ByteArray) : midS k l 0 = l.flatMap encS := by simp [midS, mkS]
theorem midS_all (k : Nat) (l : List ByteArray) : midS k l l.length = (mkS k l.length).flatMap encS := by simp [midS]
theorem midS_step (k : Nat) (l : List ByteArray) {j : Nat} (h : j < l.length) : (midS k l j).set j (.string (mt (k + j))) = midS k l (j + 1) := by
  have hl : ((mkS k j).flatMap encS).length = j := by rw [flat_len encS_len, mkS_len, Nat.mul_one]
  have hd := List.drop_eq_getElem_cons h
  unfold midS
  rw [mkS_succ, hd]
  generalize l[j] = x
  generalize l.drop (j + 1) = r
  rw [List.flatMap_append, List.flatMap_append, List.flatMap_append]
  rw [List.set_append_right _ _ (by omega), hl]
  simp [encS]
set_option maxRecDepth 100000 in
set_option maxHeartbeats 1000000 in
theorem markS_some (B g c : Nat) (l : List ByteArray) (k : Nat) (w : World) (hk : k + l.length < 4611686018427387904) (hn : l.length ≤ 1073741824)
    (hown : OwnS w B (.slice (some ⟨g, 0, none⟩) l.length c) l) :
    Calls Try.prog 37 #[.slice (some ⟨g, 0, none⟩) l.length c, .int .i64 k] w fun e w' => e = .returned (.int .i64 (k + l.length : Nat)) ∧ w'.ownsRow B 9 1 (.slice (some ⟨g, 0, none⟩) l.length c) l.length ((mkS k l.length).flatMap encS) ∧ w.grownBy w' (some g) := by
  have hBg := (hown.lt g rfl).1
  unfold OwnS at hown
  rw [← midS_zero k] at hown
  go_enter Try.func37, Try.ntmps37
  go_wp2
  go_loopw [1, 5] (fun a b wr => ∃ j : Nat, j ≤ l.length ∧ a = .int .i64 (k + j : Nat) ∧ b = .int .i64 j ∧ wr.ownsRow B 9 1 (.slice (some ⟨g, 0, none⟩) l.length c) l.length (midS k l j) ∧ w.grownBy wr (some g)) (fun _ b _ => l.length - (intOf b).toNat)
  case atStart => exact ⟨0, by omega, rfl, rfl, hown, World.grownBy.refl _ _⟩
  case round =>
    obtain ⟨j, hj, rfl, rfl, ho, hb⟩ := hrel
    by_cases hlt : j < l.length
    · have HS := Lib.hid (midS_step k l hlt)
      go_wp2_with fail
      refine (markText_any (k + j) wr (by omega)).mono ?_
      rintro e w1 ⟨rfl, hb1⟩
      have ho1 := own_kept ho hb1
      obtain ⟨u0, hc0⟩ := ownW_has ho1 (i := j) (by omega)
      have hf0 := ho1.frozenAt j
      have ho2 := (ho1.stored j (.string (mt (k + j)))).1
      rw [HS.out] at ho2
      have hb2 := gtrans (gtrans hb (gbelow hb1)) (ho1.stored j (.string (mt (k + j)))).2
      have HO := Lib.hid ho2
      have HB := Lib.hid hb2
      clear ho1 ho2 hb2
      go_wp2
      go_roundw
      case rel => exact ⟨j + 1, by omega, vint (by omega), by go_num, HO.out, HB.out⟩
      case measure => simp [intOf]; omega
    · obtain rfl : j = l.length := by omega
      go_wp2
      rw [midS_all] at ho
      go_ret
      exact ⟨rfl, ho, hb⟩
set_option maxRecDepth 100000 in
theorem markS_none (c k : Nat) (w : World) :
    Calls Try.prog 37 #[.slice none 0 c, .int .i64 k] w fun e w' => e = .returned (.int .i64 k) ∧ w' = w := by
  go_enter Try.func37, Try.ntmps37
  go_wp2
  go_loopw [1, 5] (fun a b wr => a = .int .i64 k ∧ b = .int .i64 0 ∧ wr = w) (fun _ _ _ => 0)
  case atStart => exact ⟨rfl, rfl, rfl⟩
  case round =>
    obtain ⟨rfl, rfl, rfl⟩ := hrel
    go_wp2
    go_ret
    exact ⟨rfl, rfl⟩
theorem markS_any (B : Nat) (A : Option Addr) (c : Nat) (l : List ByteArray) (k : Nat) (w : World) (hk : k + l.length < 4611686018427387904) (hn : l.length ≤ 1073741824)
    (hown : OwnS w B (.slice A l.length c) l) :
    Calls Try.prog 37 #[.slice A l.length c, .int .i64 k] w fun e w' => e = .returned (.int .i64 (k + l.length : Nat)) ∧ Sl encS 1 w' A (mkS k l.length) ∧ w.grownBy w' (Value.slice A l.length c).ownBlock := by
  rcases Go.Joins.ownsRow_forms hown with ⟨he, h0⟩ | ⟨g, cap, he⟩
  · obtain rfl := List.eq_nil_of_length_eq_zero h0
    simp at he
    obtain ⟨rfl, rfl⟩ := he
    refine (markS_none 0 k w).mono ?_
    rintro e w' ⟨rfl, rfl⟩
    exact ⟨rfl, Sl.nil _ _ _ _, World.grownBy.refl _ _⟩
  · simp at he
    obtain ⟨rfl, rfl⟩ := he
    refine (markS_some B g c l k w hk hn hown).mono ?_
    rintro e w' ⟨rfl, ho, hb⟩
    have ho' : w'.ownsRow B 9 1 (.slice (some ⟨g, 0, none⟩) (mkS k l.length).length c) (mkS k l.length).length ((mkS k l.length).flatMap encS) := by rw [mkS_len]; exact ho
    obtain ⟨A, c', hv, _, _, hR⟩ := Sl.of_own encS_len ho'
    simp at hv
    obtain ⟨rfl, rfl⟩ := hv
    exact ⟨rfl, hR, hb⟩
set_option maxRecDepth 100000 in
set_option maxHeartbeats 1000000 in
theorem heldS_any (A : Option Addr) (c n k : Nat) (w : World) (hk : k + n < 4611686018427387904) (hn : n ≤ 1073741824) (hR : Sl encS 1 w A (mkS k n)) :
    Calls Try.prog 38 #[.slice A n c, .int .i64 k] w fun e w' => e = .returned (.int .i64 (k + n : Nat)) ∧ Below w.heap.size w w' := by
  go_enter Try.func38, Try.ntmps38
  go_wp2
  go_loopw [1, 5] (fun a b wr => ∃ j : Nat, j ≤ n ∧ a = .int .i64 (k + j : Nat) ∧ b = .int .i64 j ∧ Below w.heap.size w wr) (fun _ b _ => n - (intOf b).toNat)
  case atStart => exact ⟨0, by omega, rfl, rfl, Below.refl _ _⟩
  case round =>
    obtain ⟨j, hj, rfl, rfl, hb⟩ := hrel
    by_cases hlt : j < n
    · have hlt' : j < (mkS k n).length := by rw [mkS_len]; exact hlt
      obtain ⟨b, o, rfl, hbl, c0⟩ := Sl.at1 (f := fun x : ByteArray => Value.string x) (hR.below hb) hlt'
      rw [mkS_get k hlt'] at c0
      clear hR
      go_wp2_with fail
      refine wp_region_below (by kernel_rfl) (by kernel_rfl) ?_
      iterate 7 (refine wpQuiet_step (fun K hK => ?_); go_simp; first | (apply Exists.intro; refine ⟨fun W hW => ?_, hK _ ?_⟩; (first | rfl | (go_at_call 87; exact quiet_call hW (Nat.le_refl _) (markText_any (k + j) _ (by omega))) | (have e0 := (hW.cell (p := ⟨b, o + j, none⟩) hbl).trans c0; go_simp; rfl)); clear hK K) | (refine hK _ ?_; clear hK K))
      refine wpQuiet_nil ?_
      intro W hW
      have hb1 := bthen hb hW
      clear hb hW c0 hbl
      go_wp2
      go_roundw
      case rel => exact ⟨j + 1, by omega, vint (by omega), by go_num, hb1⟩
      case measure => simp [intOf]; omega
    · obtain rfl : j = n := by omega
      go_wp2
      go_ret
      exact ⟨rfl, hb⟩
set_option maxRecDepth 100000 in
set_option maxHeartbeats 1000000 in
theorem eqS_same (A A2 : Option Addr) (l : List ByteArray) (c c2 : Nat) (w : World) (hn : l.length ≤ 1073741824) (hS : Sl encS 1 w A l) (hS2 : Sl encS 1 w A2 l) :
    Calls Try.prog 34 #[.slice A l.length c, .slice A2 l.length c2] w fun e w' => e = .returned (.bool true) ∧ Below w.heap.size w w' := by
  go_enter Try.func34, Try.ntmps34
  go_wp2
  go_loopw [5] (fun i wr => ∃ k : Nat, k ≤ l.length ∧ i = .int .i64 k ∧ Below w.heap.size w wr) (fun i _ => l.length - (intOf i).toNat)
  case atStart => exact ⟨0, by omega, rfl, Below.refl _ _⟩
  case round =>
    obtain ⟨k, hk, rfl, hb⟩ := hrel
    by_cases hlt : k < l.length
    · obtain ⟨b, o, rfl, hbl, c0⟩ := Sl.at1 (f := fun x : ByteArray => Value.string x) (hS.below hb) hlt
      obtain ⟨b2, o2, rfl, hbl2, d0⟩ := Sl.at1 (f := fun x : ByteArray => Value.string x) (hS2.below hb) hlt
      generalize l[k] = x at *
      have hki : (k : Int) < (l.length : Int) := by omega
      clear hS hS2
      go_wp2_with fail
      refine wp_region_below (by kernel_rfl) (by kernel_rfl) ?_
      iterate 9 (refine wpQuiet_step (fun K hK => ?_); go_simp; first | (apply Exists.intro; refine ⟨fun W hW => ?_, hK _ ?_⟩; (first | rfl | (have e0 := (hW.cell (p := ⟨b, o + k, none⟩) hbl).trans c0; have f0 := (hW.cell (p := ⟨b2, o2 + k, none⟩) hbl2).trans d0; go_simp; rfl)); clear hK K) | (refine hK _ ?_; clear hK K))
      refine wpQuiet_nil ?_
      intro W hW
      have hb' := bthen hb hW
      go_wp2
      go_roundw
      case rel => exact ⟨k + 1, by omega, by go_num, hb'⟩
      case measure => simp [intOf]; omega
    · obtain rfl : k = l.length := by omega
      go_wp2
      go_ret
      exact ⟨rfl, hb⟩
theorem rsz_mem2 {l : List (List Wri)} {x : List Wri} (h : x ∈ l) : x.length ≤ rsz l := by
  unfold rsz
  induction l with
  | nil => cases h
  | cons y l ih =>
    rw [List.map_cons, List.sum_cons]
    rcases List.mem_cons.1 h with rfl | h
    · omega
    · have := ih h; omega
theorem fits_same2 {rs qs : List Wrow} (h : FitsR rs) (he : cont qs = cont rs) : FitsR qs := by
  refine ⟨by rw [← cont_len qs, he, cont_len]; exact h.1, fun r hr => ?_⟩
  have : r.2.2 ∈ cont qs := List.mem_map.2 ⟨r, hr, rfl⟩
  rw [he] at this
  obtain ⟨r2, h2, e⟩ := List.mem_map.1 this
  rw [← e]; exact h.2 r2 h2
theorem row_short2 {rs qs : List Wrow} (h : (rs.length + rsz (cont rs) : Nat) ≤ 1048576) (he : cont qs = cont rs) : qs.length ≤ 1048576 ∧ ∀ r ∈ qs, r.2.2.length ≤ 1048576 := by
  refine ⟨by rw [← cont_len qs, he, cont_len]; omega, fun r hr => ?_⟩
  have : r.2.2 ∈ cont qs := List.mem_map.2 ⟨r, hr, rfl⟩
  rw [he] at this
  have := rsz_mem2 this
  omega
theorem lens_rsz : ∀ qs : List Wrow, lens qs ≤ rsz (cont qs) := by
  intro qs
  induction qs with
  | nil => exact Nat.zero_le _
  | cons r qs ih =>
    unfold lens rsz cont at *
    simp only [List.map_cons, List.sum_cons]
    omega
theorem lensC_cont (rs : List Wrow) : lensC (cont rs) = lens rs := by unfold lensC lens cont; rw [List.map_map]; rfl
theorem own_farN {w w' : World} {B k : Nat} {e : TypeId} {v v2 : Value} {n : Nat} {xs : List Value} (h : w.ownsRow B e k v n xs) (hg : w.grownBy w' v2.ownBlock) (hd : ∀ j, v.ownBlock = some j → v2.ownBlock = some j → False) : w'.ownsRow B e k v n xs := by
  refine h.kept hg ?_
  cases hv : v.ownBlock with
  | none => exact .inl rfl
  | some j => exact .inr (fun e => hd j hv e.symm)
theorem OwnRs.below {w w' : World} {B : Nat} {rs : List Wrow} (h : OwnRs w B rs) (hb : Below w.heap.size w w') : OwnRs w' B rs := fun r hr => by
  obtain ⟨xs, hx⟩ := h r hr
  exact ⟨xs, own_kept hx hb⟩
/-- what stands while the law runs: the reference's answer, the copy handed in, the program's answer -/
def SD (w : World) (b8 b4 b9 : Nat) (AS AG : Option Addr) (P : List ByteArray) (qs : List Wrow) (cS cG : Nat) (W : World) : Prop :=
  Below w.heap.size w W ∧ OwnS W b4 (.slice AS P.length cS) P ∧ (Sl2 W (some ⟨b8, 0, none⟩) qs ∧ OwnRs W (b8 + 1) qs) ∧ OwnS W b9 (.slice AG P.length cG) P ∧ b9 ≤ W.heap.size
theorem SD.below {w : World} {b8 b4 b9 : Nat} {AS AG : Option Addr} {P : List ByteArray} {qs : List Wrow} {cS cG : Nat} {W W' : World} (h : SD w b8 b4 b9 AS AG P qs cS cG W) (hb : Below W.heap.size W W') : SD w b8 b4 b9 AS AG P qs cS cG W' := by
  obtain ⟨h1, h2, ⟨h3, h4⟩, h5, h6⟩ := h
  exact ⟨bthen h1 hb, own_kept h2 hb, ⟨h3.below hb, h4.below hb⟩, own_kept h5 hb, Nat.le_trans h6 hb.size⟩
/-- what stands when the copy handed in is marked -/
def SF (w : World) (b4 b9 : Nat) (AS AG : Option Addr) (P : List ByteArray) (cS cG : Nat) (W : World) : Prop :=
  Below w.heap.size w W ∧ OwnS W b4 (.slice AS P.length cS) P ∧ OwnS W b9 (.slice AG P.length cG) P ∧ b9 ≤ W.heap.size
theorem SF.below {w : World} {b4 b9 : Nat} {AS AG : Option Addr} {P : List ByteArray} {cS cG : Nat} {W W' : World} (h : SF w b4 b9 AS AG P cS cG W) (hb : Below W.heap.size W W') : SF w b4 b9 AS AG P cS cG W' := ⟨bthen h.1 hb, own_kept h.2.1 hb, own_kept h.2.2.1 hb, Nat.le_trans h.2.2.2 hb.size⟩
theorem SD.mark {w : World} {b8 b4 b9 N : Nat} {AS AG : Option Addr} {P : List ByteArray} {qs : List Wrow} {cS cG : Nat} {W W' : World} (h : SD w b8 b4 b9 AS AG P qs cS cG W) (hm : MK (b8 + 1) N W W') (hw : w.heap.size ≤ b8) (hS : ∀ j, (Value.slice AS P.length cS).ownBlock = some j → j < b8) (h9 : N ≤ b9) : SF w b4 b9 AS AG P cS cG W' := by
  obtain ⟨h1, h3, _, h7, h8⟩ := h
  exact ⟨hm.below h1 (by omega) h1.size, hm.own h3 (fun j hj => .inl (by have := hS j hj; omega)), hm.own h7 (fun j hj => .inr (by have := (h7.lt j hj).1; omega)), Nat.le_trans h8 hm.2.2.2.1⟩
/-- what stands when the program's answer is marked -/
def SE (w : World) (b4 : Nat) (AS AG : Option Addr) (P M : List ByteArray) (cS : Nat) (W : World) : Prop :=
  Below w.heap.size w W ∧ OwnS W b4 (.slice AS P.length cS) P ∧ Sl encS 1 W AG M
theorem SE.below {w : World} {b4 : Nat} {AS AG : Option Addr} {P M : List ByteArray} {cS : Nat} {W W' : World} (h : SE w b4 AS AG P M cS W) (hb : Below W.heap.size W W') : SE w b4 AS AG P M cS W' := ⟨bthen h.1 hb, own_kept h.2.1 hb, h.2.2.below hb⟩
theorem SF.markG {w : World} {b4 b9 : Nat} {AS AG : Option Addr} {P M : List ByteArray} {cS cG : Nat} {W W' : World} (h : SF w b4 b9 AS AG P cS cG W)
    (hg : W.grownBy W' (Value.slice AG P.length cG).ownBlock) (hM : Sl encS 1 W' AG M) (hw : w.heap.size ≤ b9) (hS : ∀ j, (Value.slice AS P.length cS).ownBlock = some j → j < b9) : SE w b4 AS AG P M cS W' := by
  obtain ⟨h1, h4, h9, _⟩ := h
  refine ⟨below_own h1 hg h1.size (fun j hj => by have := (h9.lt j hj).1; omega), own_farN h4 hg (fun j e1 e2 => ?_), hM⟩
  have := hS j e1; have := (h9.lt j e2).1; omega
set_option maxRecDepth 100000 in
set_option maxHeartbeats 4000000 in
theorem lawPastSince (A : Option Addr) (rs : List Wrow) (c : Nat) (f t : Int) (w : World) (hf : FitsR rs) (hR : Sl2 w A rs) :
    Calls Try.prog 7 #[.slice A rs.length c, .int .i64 f, .int .i64 t] w fun e w' => e = .returned (.bool true) ∧ Below w.heap.size w w' := by
  by_cases hsz : ¬ ((rs.length + rsz (cont rs) : Nat) : Int) ≤ 1048576
  · have HZ := Lib.hid (sz_no (t := rs.length + rsz (cont rs)) (a := 1048576) (by omega))
    go_enter Try.func7, Try.ntmps7
    go_wp2_with fail
    refine (szWriteSS_any A rs c _ _ hf hR (by omega) (by omega)).mono ?_
    rintro e w1 ⟨rfl, hb1⟩
    rw [HZ.out]
    go_wp2
    go_ret
    exact ⟨rfl, hb1⟩
  have hsz := Decidable.not_not.1 hsz
  have HZ := Lib.hid (sz_yes hsz)
  have HSH := Lib.hid (fun (qs : List Wrow) (he : cont qs = cont rs) => row_short2 (rs := rs) (qs := qs) (by omega) he)
  have HLN := Lib.hid (fun (qs : List Wrow) (he : cont qs = cont rs) => show lens qs ≤ 1048576 by have := lens_rsz qs; rw [he] at this; omega)
  have HFS := Lib.hid (fun (qs : List Wrow) (he : cont qs = cont rs) => fits_same2 (qs := qs) hf he)
  have HLC := Lib.hid (fun (qs : List Wrow) (he : cont qs = cont rs) => show lensC (cont qs) ≤ 1048576 by rw [lensC_cont]; exact HLN.out qs he)
  have hP1 : (addsL [] (selC f t (cont rs))).length ≤ 1048576 := by
    have h1 := adds_len (M := selC f t (cont rs)) (out := [])
    have h2 := selC_len (f := f) (t := t) (cs := cont rs) (cont rs).length (Nat.le_refl _)
    rw [List.take_length] at h2
    have h3 := HLC.out rs rfl
    simp at h1
    omega
  have hd : decide ((1048576 : Int) - ((rs.length : Int) + (rsz (cont rs) : Int)) < 0) = false := by simp; omega
  have HSZ := Lib.hid (szWriteSS_any A rs c 1048576 w hf hR (by omega) (by omega))
  have HRA := Lib.hid hR
  have hrl := (HSH.out rs rfl).1
  have HRW := Lib.hid (HSH.out rs rfl).2
  clear hsz hR hf
  generalize hgo : addsL [] (selC f t (cont rs)) = P at *
  have HGO := Lib.hid hgo
  clear hgo
  go_enter Try.func7, Try.ntmps7
  go_wp2_with fail
  refine HSZ.out.mono ?_
  rintro e w1 ⟨rfl, hb1⟩
  rw [HZ.out]
  clear HZ HSZ
  have HTO := Lib.hid (toWriteSS_own A rs c w1 hrl HRW.out (HRA.out.below hb1))
  go_wp2_with fail
  clear hd
  refine HTO.out.mono ?_
  rintro e w4 ⟨qa, rfl, q1, q2, q3, q4, _, q5, hb4⟩
  have hb04 := bthen hb1 hb4
  have HC := Lib.hid (specSince_any (some ⟨w1.heap.size, 0, none⟩) qa rs.length f t w4 (HSH.out qa q2).1 (HLC.out qa q2) (HSH.out qa q2).2 q3)
  rw [q2, HGO.out] at HC
  clear HTO q1 q2 q3 q4 hb1 hb4
  go_wp2_with fail
  refine HC.out.mono ?_
  rintro e w6 ⟨v, rfl, hown, hb5⟩
  obtain ⟨AS, cS, rfl, _, _, hSS⟩ := hown.sl
  have hb06 := bthen hb04 hb5
  have hz5 := hb5.size
  have hz4 := hb04.size
  have HTO := Lib.hid (toWriteSS_own A rs c w6 hrl HRW.out (HRA.out.below hb06))
  clear hSS hb04 hb5 HC
  go_wp2_with fail
  have HLS := Lib.hid (show ∀ j, (Value.slice AS P.length cS).ownBlock = some j → j < w6.heap.size from fun j hj => (hown.lt j hj).2)
  refine HTO.out.mono ?_
  rintro e w9 ⟨qs, rfl, q1, q2, q3, q4, q5, hlt9, hb9⟩
  have hz9 := hb9.size
  have hb09 := bthen hb06 hb9
  have hPS9 : OwnS w9 w4.heap.size (.slice AS P.length cS) P := own_kept hown hb9
  have HQ := Lib.hid (⟨q1, q2⟩ : _ ∧ _)
  have HLQ := Lib.hid (show ∀ r ∈ qs, ∀ j, (Value.slice r.1 r.2.2.length r.2.1).ownBlock = some j → j < w9.heap.size from fun r hr j hj => by obtain ⟨xs, hx⟩ := q5 r hr; exact (hx.lt j hj).2)
  have HC := Lib.hid (implSince_any (some ⟨w6.heap.size, 0, none⟩) qs rs.length f t w9 (HSH.out qs q2).1 (HLC.out qs q2) (HSH.out qs q2).2 (fun r hr x hx => ((HFS.out qs q2).2 r hr).2 x hx) q3)
  rw [q2, HGO.out] at HC
  clear HTO q1 q2 hown hb06 hb9
  go_wp2_with fail
  refine HC.out.mono ?_
  rintro e w11 ⟨vg, rfl, hog, hb10⟩
  obtain ⟨AG, cG, rfl, _, _, hSG⟩ := hog.sl
  have hz10 := hb10.size
  have HPD := Lib.hid (show SD w w6.heap.size w4.heap.size w9.heap.size AS AG P qs cS cG w11 from ⟨bthen hb09 hb10, own_kept hPS9 hb10, ⟨q3.below hb10, OwnRs.below q5 hb10⟩, hog, hb10.size⟩)
  have HN := Lib.hid (show w.heap.size ≤ w4.heap.size ∧ w4.heap.size ≤ w6.heap.size ∧ w6.heap.size < w9.heap.size ∧ w9.heap.size ≤ w11.heap.size from ⟨hz4, hz5, hlt9, hz10⟩)
  clear hb09 hPS9 hog hSG hb10 HC q3 q4 q5
  have HE := Lib.hid (eqS_same AG AS P cG cS w11 (by omega) HPD.out.2.2.2.1.reads HPD.out.2.1.reads)
  go_wp2_with fail
  refine HE.out.mono ?_
  rintro e w12 ⟨rfl, hb12⟩
  have HPD2 := Lib.hid (HPD.out.below hb12)
  clear HE HPD hb12
  have HTO := Lib.hid (toWriteSS_own A rs c w12 hrl HRW.out (HRA.out.below HPD2.out.1))
  go_wp2_with fail
  refine HTO.out.mono ?_
  rintro e w13 ⟨qb, rfl, q1, q2, q3, _, _, _, hb13⟩
  have HPD3 := Lib.hid (HPD2.out.below hb13)
  have HE := Lib.hid (eqWriteSS_any (some ⟨w6.heap.size, 0, none⟩) (some ⟨w12.heap.size, 0, none⟩) qs qb rs.length rs.length w13 (HFS.out qs HQ.out.2) (HFS.out qb q2) HPD3.out.2.2.1.1 q3 (HQ.out.2.trans q2.symm))
  clear HTO HPD2 q1 q2 q3 hb13
  go_wp2_with fail
  refine HE.out.mono ?_
  rintro e w14 ⟨rfl, hb14⟩
  have HPD4 := Lib.hid (HPD3.out.below hb14)
  clear HE HPD3 hb14
  have HMK := Lib.hid (markWriteSS_any w6.heap.size (w6.heap.size + 1) w9.heap.size rs.length qs 1 w14 (by omega) (by have := HPD4.out.2.2.2.2; have := HN.out; omega) (by have := HLN.out qs HQ.out.2; omega) (by have := HLN.out qs HQ.out.2; omega) (by have := (HSH.out qs HQ.out.2).1; omega) HPD4.out.2.2.1.1.1 HPD4.out.2.2.1.2 HLQ.out)
  go_wp2_with fail
  refine HMK.out.mono ?_
  rintro e w18 ⟨rfl, hm18⟩
  have HPF := Lib.hid (HPD4.out.mark hm18 (by have := HN.out; omega) HLS.out (Nat.le_refl _))
  clear HMK HPD4 hm18
  generalize hkk2 : 1 + 3 * lens qs = kk2 at *
  have hd3 : decide (((kk2 : Nat) : Int) < 0) = false := decide_eq_false (by omega)
  have HE := Lib.hid (eqS_same AG AS P cG cS w18 (by omega) HPF.out.2.2.1.reads HPF.out.2.1.reads)
  clear hkk2
  go_wp2_with fail
  refine HE.out.mono ?_
  rintro e w19 ⟨rfl, hb19⟩
  have HPF2 := Lib.hid (HPF.out.below hb19)
  clear HE HPF hb19
  have HMG := Lib.hid (markS_any w9.heap.size AG cG P 1 w19 (by omega) (by omega) HPF2.out.2.2.1)
  go_wp2_with fail
  refine HMG.out.mono ?_
  rintro e w20 ⟨rfl, hM, hg20⟩
  have HPE := Lib.hid (HPF2.out.markG hg20 hM (by have := HN.out; omega) (fun j hj => by have := HLS.out j hj; have := HN.out; omega))
  clear hM hg20 HMG HPF2
  have HH := Lib.hid (fun W (hW : Sl encS 1 W AG (mkS 1 P.length)) => heldS_any AG cG P.length 1 W (by omega) (by omega) hW)
  generalize hmm : 1 + P.length = mm at *
  have hd4 : decide (((mm : Nat) : Int) < 0) = false := decide_eq_false (by omega)
  clear hmm
  go_wp2_with fail
  refine (HH.out w20 HPE.out.2.2).mono ?_
  rintro e w21 ⟨rfl, hb21⟩
  have HPE2 := Lib.hid (HPE.out.below hb21)
  clear HPE hb21
  have HTO := Lib.hid (toWriteSS_own A rs c w21 hrl HRW.out (HRA.out.below HPE2.out.1))
  go_wp2_with fail
  refine HTO.out.mono ?_
  rintro e w23 ⟨qd, rfl, q1, q2, q3, _, _, _, hb23⟩
  have HPE4 := Lib.hid (HPE2.out.below hb23)
  have HC7 := Lib.hid (implSince_any (some ⟨w21.heap.size, 0, none⟩) qd rs.length f t w23 (HSH.out qd q2).1 (HLC.out qd q2) (HSH.out qd q2).2 (fun r hr x hx => ((HFS.out qd q2).2 r hr).2 x hx) q3)
  rw [q2, HGO.out] at HC7
  clear HTO HPE2 hb23 q1 q2 q3
  go_wp2_with fail
  refine HC7.out.mono ?_
  rintro e w25 ⟨vh, rfl, hoh, hb24⟩
  obtain ⟨AH, cH, rfl, _, _, hSH⟩ := hoh.sl
  have HPE5 := Lib.hid (HPE4.out.below hb24)
  have HE2 := Lib.hid (eqS_same AH AS P cH cS w25 (by omega) hSH HPE5.out.2.1.reads)
  clear HC7 HPE4 hb24 hoh hSH
  go_wp2_with fail
  refine HE2.out.mono ?_
  rintro e w26 ⟨rfl, hb26⟩
  have HPE6 := Lib.hid (HPE5.out.below hb26)
  clear HE2 HPE5 hb26
  go_wp2_with fail
  refine (HH.out w26 HPE6.out.2.2).mono ?_
  rintro e w27 ⟨rfl, hb27⟩
  have hend := bthen HPE6.out.1 hb27
  go_wp2
  go_ret
  exact ⟨rfl, hend⟩
theorem own0 : ownKnob Try.prog.godebug = none := by kernel_rfl
theorem laidOut0 : laidOutB Try.prog = true := by kernel_rfl
set_option maxRecDepth 100000 in
theorem exactPastSince_lifted (os : Os) (started : os.Started) (H : Type) (enc : TypeId × Value → H) :
    ReturnsInHanded {} Try.checked os 7 .any (Rows.fnExactPastSinceSpec.pre6 enc Try.prog Try.f7 Rows.fnExactPastSinceRow.domain false) (Rows.fnExactPastSinceSpec.post enc Try.prog Try.f7 false true false false) := by
  refine returnsInHanded_of_change (C := Try.checked) own0 started (by kernel_rfl) Try.func7
    (ChangeSpec.witness6 (enc := enc) (C := Try.checked) false ⟨#[], #[.slice none 0 0, .int .i64 0, .int .i64 0], []⟩ 8 (by kernel_rfl) (by kernel_rfl) (by kernel_rfl) (by kernel_rfl)) ?_
  intro W base args ds gs before hval0 hW hcnd _
  have hval : ∀ (j : Nat) t v, Try.f7.params[j]? = some t → args[j]? = some v → Value.okWide Try.prog W .any base t v := hval0
  have hW' := hW
  obtain ⟨p, q, hA0, hV, rfl, hfz, hnd⟩ := hW
  have hA : DataW.TrodAll enc Try.prog W 0 (fun _ => true) true Try.f7.params.toList args.toList ds p := hA0
  rw [Try.params7] at hA hval
  obtain ⟨v0, vs0, d0, ds0, p0, q0, hargs, rfl, rfl, h0, r0⟩ := trodAll_cons hA
  obtain ⟨v1, vs1, d1, ds1, p1, q1, rfl, rfl, rfl, h1, r1⟩ := trodAll_cons r0
  obtain ⟨v2, vs2, d2, ds2, p2, q2, rfl, rfl, rfl, h2, r2⟩ := trodAll_cons r1
  obtain ⟨rfl, rfl, rfl⟩ := trodAll_nil r2
  obtain rfl : args = #[v0, v1, v2] := by cases args; simp_all
  obtain ⟨rfl, rfl⟩ := trodVars_none hV
  have k0 := h0
  have k1 := h1
  have k2 := h2
  have lt0 : ∀ x ∈ p0, x.block < W.heap.size := by obtain ⟨m, hm⟩ := k0; exact DataW.trod_lt m _ _ _ hm
  have lt1 : ∀ x ∈ p1, x.block < W.heap.size := by obtain ⟨m, hm⟩ := k1; exact DataW.trod_lt m _ _ _ hm
  have lt2 : ∀ x ∈ p2, x.block < W.heap.size := by obtain ⟨m, hm⟩ := k2; exact DataW.trod_lt m _ _ _ hm
  obtain ⟨A, rs, c, rfl, hf, hR⟩ := open_rows (hval 0 46 v0 rfl rfl) h0
  obtain ⟨f, rfl, rfl, rfl, hfi⟩ := open_int Try.underlying3 (hval 1 3 v1 rfl rfl) h1
  obtain ⟨t, rfl, rfl, rfl, ht⟩ := open_int Try.underlying3 (hval 2 3 v2 rfl rfl) h2
  clear hA0 hval0
  refine (lawPastSince A rs c f t W hf hR).mono fun e W' ⟨he, bel⟩ => ?_
  subst he
  exact ⟨_, rfl, _, _, _, [], _, [], hW', trodAll_mk1 (shut_bool Try.underlying4 _), (trodAll_cons_mk (Below.trod laidOut0 (by kernel_rfl) (of_decide_eq_true (by kernel_rfl)) k0 bel lt0) (trodAll_cons_mk (Below.trod laidOut0 (by kernel_rfl) (of_decide_eq_true (by kernel_rfl)) k1 bel lt1) (trodAll_cons_mk (Below.trod laidOut0 (by kernel_rfl) (of_decide_eq_true (by kernel_rfl)) k2 bel lt2) trodAll_mk0))), rfl, bel.frame _, fun h => by cases h⟩

theorem exactPastSince_holds : Rows.FnExactPastSinceSaid :=
  OpenClaim.holds_of_wide 7 Try.f7 rfl rfl rfl rfl rfl rfl rfl ⟨rfl, rfl, rfl, rfl, rfl⟩ rfl rfl rfl rfl rfl (by kernel_rfl) Try.func7 (by kernel_rfl)
    (of_decide_eq_true (by kernel_rfl)) (by unfold Func.isWrapper; first | (rw [if_pos (by decide +kernel)]; kernel_rfl) | (rw [if_neg (by decide +kernel)]; exact ⟨rfl, rfl⟩))
    (fun os started H enc _ => exactPastSince_lifted os started H enc)
#print axioms exactPastSince_holds
end Go.Proofs.Ytfmpohhaimgnfaa
