/- The program's RowsCut and RowsPut: rows without a key; rows with a number under a key. -/
import Derived.Test.YtfmpohhaimgnfaaRowS
import Derived.Test.YtfmpohhaimgnfaaAppB
import Derived.Test.YtfmpohhaimgnfaaPlainV
import Derived.Test.YtfmpohhaimgnfaaDrawB
import Derived.Lib.AppendZeros
import Derived.Deep.RegionWith
import Derived.Lib.SliceRun
import Derived.Lib.Walk
namespace Go.Proofs.Ytfmpohhaimgnfaa
open Go.RowKit
theorem OwnR.le {w : World} {B B2 : Nat} {v : Value} {l : List Row} (h : OwnR w B v l) (hB : B2 ≤ B) : OwnR w B2 v l := Go.Joins.ownsRow_le h hB
set_option maxRecDepth 100000 in
set_option maxHeartbeats 1000000 in
/-- slices.Grow of nothing -/
theorem growR_nil (n : Nat) (w : World) (hn : n ≤ 1048576) :
    Calls Try.prog 136 #[.slice none 0 0, .int .i64 n] w fun e w' => ∃ v, e = .returned v ∧ OwnR w' w.heap.size v [] ∧ Below w.heap.size w w' := by
  obtain ⟨i0, hi, hz0, hz1, hz2⟩ := info_parts infoRow
  rcases Nat.eq_zero_or_pos n with rfl | h0
  · go_enter Try.func136, Try.ntmps136
    go_wp2
    go_ret
    exact ⟨_, rfl, ⟨rfl, .inl ⟨rfl, rfl⟩⟩, Below.refl _ _⟩
  · have hrz := fun ty => Lib.run_append_nil_zeros (P := Try.prog) w 32 3 ty 96 i0 _ .i64 .i64 Try.underlying32 Try.underlying3 hi hz0 n h0 (by rw [hz1]; decide) (by omega) (by rw [hz2]; omega)
    have hge := grownCap_ge w n 0 96
    have hle := grownCap_le_maxLen w n 0 96 (by unfold maxLen; omega)
    generalize grownCap w n 0 96 = G at *
    have hG63 : G ≤ 9223372036854775807 := by unfold maxLen at hle; omega
    have hd : decide ((0 : Int) < (n : Int)) = true := decide_eq_true (by omega)
    go_enter Try.func136, Try.ntmps136
    go_wp2_with (at_builtin; refine Lib.wpList_append_run _ rfl _ _ _ _ rfl _ _ rfl rfl _ _ (hrz _) ?_)
    go_ret
    have hbd := (Below.refl w.heap.size w).drew
    refine ⟨_, rfl, ⟨rfl, .inr ⟨w.heap.size, G, _, rfl, Nat.le_refl _, Blk.new w.drew _ _, Nat.zero_le _, hle, ?_, by simp⟩⟩, hbd.alloc (by simp) _⟩
    simp [Builtin.zeroCells]
    omega
abbrev Rrow : Type := Option Addr × Nat × List Row
def encRrow (x : Rrow) : List Value := [.slice x.1 x.2.2.length x.2.1]
theorem encRrow_len (x : Rrow) : (encRrow x).length = 1 := rfl
def lenR (ps : List Rrow) : Nat := (ps.map (fun r => r.2.2.length)).sum
theorem lenR_take (ps : List Rrow) (k : Nat) (h : k < ps.length) : lenR (ps.take (k + 1)) = lenR (ps.take k) + ps[k].2.2.length := by
  unfold lenR; rw [List.take_succ_eq_append_getElem h, List.map_append, List.sum_append]; simp
theorem lenR_le (ps : List Rrow) (k : Nat) : lenR (ps.take k) ≤ lenR ps := by
  have e : lenR ps = lenR (ps.take k) + lenR (ps.drop k) := by
    unfold lenR; rw [← List.sum_append, ← List.map_append, List.take_append_drop]
  omega
def allR (ps : List Rrow) : List Row := ps.flatMap (·.2.2)
theorem allR_len (ps : List Rrow) : (allR ps).length = lenR ps := by
  unfold allR lenR; rw [List.length_flatMap]
theorem allR_take {ps : List Rrow} {k : Nat} (h : k < ps.length) : allR (ps.take (k + 1)) = allR (ps.take k) ++ ps[k].2.2 := by
  unfold allR; rw [List.take_succ_eq_append_getElem h, List.flatMap_append]; simp
set_option maxRecDepth 100000 in
set_option maxHeartbeats 2000000 in
theorem concatR_any (A : Option Addr) (ps : List Rrow) (c : Nat) (w : World) (hl : lenR ps ≤ 1000) (hn : ps.length ≤ 1000) (hS : Sl encRrow 1 w A ps) (hP : ∀ r ∈ ps, Sl encRow 2 w r.1 r.2.2) :
    Calls Try.prog 102 #[.slice A ps.length c] w fun e w' => ∃ v, e = .returned v ∧ OwnR w' w.heap.size v (allR ps) ∧ Below w.heap.size w w' := by
  obtain ⟨i0, hi, hz0, hz1, hz2⟩ := info_parts infoRow
  have HI := Lib.hid (⟨hi, hz0, hz1, hz2⟩ : _ ∧ _ ∧ _ ∧ _)
  have HP := Lib.hid hP
  have HS := Lib.hid hS
  clear hi hz0 hz1 hz2 hP hS
  go_enter Try.func102, Try.ntmps102
  go_wp2
  go_loopw [3, 11] (fun s i wr => ∃ k : Nat, k ≤ ps.length ∧ s = .int .i64 (lenR (ps.take k) : Nat) ∧ i = .int .i64 k ∧ wr = w) (fun _ i _ => ps.length - (intOf i).toNat)
  case atStart => exact ⟨0, Nat.zero_le _, rfl, rfl, rfl⟩
  case round =>
    obtain ⟨k, hk, rfl, rfl, rfl⟩ := hrel
    by_cases hlt : k < ps.length
    · obtain ⟨b, o, rfl, hbl, c0⟩ := Sl.at1 (f := fun r : Rrow => .slice r.1 r.2.2.length r.2.1) HS.out hlt
      have hle := lenR_le ps (k + 1)
      have HL := Lib.hid (lenR_take ps k hlt)
      rw [HL.out] at hle
      generalize lenR (ps.take k) = s at *
      generalize ps[k] = r at *
      obtain ⟨Ar, cr, lr⟩ := r
      simp only at c0 hle
      have hki : (k : Int) < (ps.length : Int) := by omega
      go_wp2
      go_roundw
      case rel => exact ⟨k + 1, by omega, by rw [HL.out]; simp, by go_num, by first | rfl | trivial⟩
      case measure => simp [intOf]; omega
    · obtain rfl : k = ps.length := by omega
      rw [List.take_length]
      have hd : decide (((lenR ps : Nat) : Int) < 0) = false := decide_eq_false (by omega)
      have HG := Lib.hid (growR_nil (lenR ps) wr (by omega))
      go_wp2_with fail
      refine HG.out.mono ?_
      rintro e w1 ⟨v1, rfl, ho1, hb1⟩
      obtain ⟨A1, c1, rfl, _, _, hS1⟩ := ho1.sl
      have HO1 := Lib.hid ho1
      clear ho1 hS1 HG
      go_wp2
      go_loopg [6, 27] ps.length (fun kx v i W => ∃ (k : Nat) (A5 : Option Addr) (m : List Row) (c5 : Nat), k ≤ ps.length ∧ kx = ps.length - k ∧ v = .slice A5 m.length c5 ∧ i = .int .i64 k ∧ Hid (m = allR (ps.take k)) ∧ Hid (OwnR W wr.heap.size (.slice A5 m.length c5) m ∧ Below wr.heap.size wr W))
      case atStart => exact ⟨0, A1, [], c1, Nat.zero_le _, rfl, rfl, rfl, Lib.hid rfl, Lib.hid ⟨HO1.out, hb1⟩⟩
      case round =>
        clear HO1 hb1
        rename_i W
        obtain ⟨k, A5, m, c5, hk, hg, rfl, rfl, HM, HO⟩ := hrel
        by_cases hlt : k < ps.length
        · obtain ⟨b, o, rfl, hbl, c0⟩ := Sl.at1 (f := fun r : Rrow => .slice r.1 r.2.2.length r.2.1) (HS.out.below HO.out.2) hlt
          have HPS := Lib.hid ((HP.out _ (List.getElem_mem hlt)).below HO.out.2)
          have hle := lenR_le ps (k + 1)
          rw [lenR_take ps k hlt] at hle
          have HMT := Lib.hid (allR_take hlt)
          have hml : m.length = lenR (ps.take k) := by rw [HM.out, allR_len]
          rw [← hml] at hle
          generalize ps[k] = r at *
          obtain ⟨Ar, cr, lr⟩ := r
          simp only at c0 hle HPS HMT
          have hki : (k : Int) < (ps.length : Int) := by omega
          have hki0 : (0 : Int) ≤ (k : Int) := by omega
          have H63 := Lib.hid (show m.length + lr.length ≤ maxLen by unfold maxLen; omega)
          have HBY := Lib.hid (show (m.length + lr.length) * 24 ≤ 140737488355328 by omega)
          have HBS := Lib.hid HO.out.2.size
          clear hml hle
          go_wp2_with (at_builtin; refine wpList_append_slM (enc := encRow) rfl (.tmp 31) (.tmp 32) 32 rfl _ 96 i0 _ 2 24 Try.underlying32 HI.out.1 HI.out.2.1 HI.out.2.2.1 HI.out.2.2.2 rfl (by decide) (.slice A5 m.length c5) m.length (m.flatMap encRow) rfl HO.out.1 encRow_len Ar lr lr.length cr rfl (by first | rfl | simp [Act.eval]) HPS.out (encRow_one _) H63.out HBY.out HBS.out ?_; intro v' w4 hown hgr _; obtain ⟨m2, hm2, ho⟩ : ∃ m2, m2 = m ++ lr ∧ OwnR w4 _ v' m2 := ⟨_, rfl, ownR_app hown⟩; obtain ⟨A6, c6, rfl, _, _, hS6⟩ := ho.sl; have HOB := Lib.hid (⟨ho, below_own HO.out.2 hgr HO.out.2.size (fun j hj => (HO.out.1.lt j hj).1)⟩ : _ ∧ _); have HM2 := Lib.hid (show m2 = allR (ps.take (k + 1)) from (by rw [hm2, HM.out, HMT.out])); clear hown hgr ho hm2 hS6)
          go_roundg (ps.length - (k + 1))
          case measure => omega
          case rel => exact ⟨k + 1, A6, m2, c6, by omega, by omega, rfl, by go_num, HM2, HOB⟩
        · obtain rfl : k = ps.length := by omega
          have HMT : Hid (m = allR ps) := Lib.hid (by rw [HM.out, List.take_length])
          go_wp2
          go_ret
          exact ⟨_, rfl, by rw [← HMT.out]; exact HO.out.1, HO.out.2⟩
theorem mem_takeI {α : Type} {l : List α} {k : Nat} {x : α} (h : x ∈ l.take k) : ∃ i, i < k ∧ l[i]? = some x := by
  obtain ⟨i, hi⟩ := List.getElem?_of_mem h
  rw [List.getElem?_take] at hi
  split at hi
  · exact ⟨i, by assumption, hi⟩
  · cases hi
theorem mem_dropI {α : Type} {l : List α} {k : Nat} {x : α} (h : x ∈ l.drop k) : ∃ i, k ≤ i ∧ l[i]? = some x := by
  obtain ⟨i, hi⟩ := List.getElem?_of_mem h
  rw [List.getElem?_drop] at hi
  exact ⟨k + i, by omega, hi⟩
def cutR (R : List Row) (K : ByteArray) : List Row := R.filter (fun x => !decide (x.1 = K))
def putR (R : List Row) (K : ByteArray) (n : Int) : List Row := R.filter (fun x => decide (kLt x.1 K)) ++ [(K, n)] ++ R.filter (fun x => decide (kLt K x.1))
theorem filter_yes {α : Type} {p : α → Bool} {l : List α} (h : ∀ x ∈ l, p x = true) : l.filter p = l := List.filter_eq_self.2 h
theorem filter_no {α : Type} {p : α → Bool} {l : List α} (h : ∀ x ∈ l, p x = false) : l.filter p = [] := List.filter_eq_nil_iff.2 (fun x hx => by rw [h x hx]; simp)
section
variable {R : List Row} {K : ByteArray} {k : Nat}
theorem atR_lo (h : AtR K R k) : ∀ x ∈ R.take k, kLt x.1 K := fun x hx => by
  obtain ⟨i, h1, h2⟩ := mem_takeI hx
  exact h.2.1 i x h1 h2
theorem atR_hi (ha : ascR R = true) (hf : Found K R k) : ∀ x ∈ R.drop (k + 1), kLt K x.1 := fun x hx => by
  obtain ⟨i, h1, h2⟩ := mem_dropI hx
  obtain ⟨y, h3, rfl⟩ := hf
  exact rows_asc ha i k y x (by omega) h3 h2
theorem atR_hi' (ha : ascR R = true) (h : AtR K R k) (hf : ¬ Found K R k) : ∀ x ∈ R.drop k, kLt K x.1 := fun x hx => by
  obtain ⟨i, h1, h2⟩ := mem_dropI hx
  have h3 := h.2.2 i x h1 h2
  by_cases h4 : kLt K x.1
  · exact h4
  · exfalso
    have h5 := kLt_tri h3 h4
    by_cases h6 : i = k
    · subst h6; exact hf ⟨x, h2, h5⟩
    · have hkl : k < R.length := by have := (List.getElem?_eq_some_iff.1 h2).1; omega
      have hz := List.getElem?_eq_getElem hkl
      have h7 := rows_asc ha i k _ x (by omega) hz h2
      rw [h5] at h7
      exact h.2.2 k _ (Nat.le_refl _) hz h7
theorem found_cons (hf : Found K R k) : ∃ x : Row, R.drop k = x :: R.drop (k + 1) ∧ x.1 = K := by
  obtain ⟨x, h1, h2⟩ := hf
  obtain ⟨h3, h4⟩ := List.getElem?_eq_some_iff.1 h1
  exact ⟨x, by rw [List.drop_eq_getElem_cons h3, h4], h2⟩
theorem kne_lt {a b : ByteArray} (h : kLt a b) : a ≠ b := fun e => by subst e; exact kLt_irrefl _ h
theorem cut_found (ha : ascR R = true) (h : AtR K R k) (hf : Found K R k) : R.take k ++ R.drop (k + 1) = cutR R K := by
  obtain ⟨x, h1, h2⟩ := found_cons hf
  have e : cutR R K = cutR (R.take k ++ R.drop k) K := by rw [List.take_append_drop]
  rw [e, h1]
  unfold cutR
  rw [List.filter_append, filter_yes (fun x hx => by simp [kne_lt (atR_lo h x hx)]), List.filter_cons_of_neg (by simp [h2]), filter_yes (fun x hx => by simp [Ne.symm (kne_lt (atR_hi ha hf x hx))])]
theorem cut_not (ha : ascR R = true) (h : AtR K R k) (hf : ¬ Found K R k) : R = cutR R K := by
  have e : cutR R K = cutR (R.take k ++ R.drop k) K := by rw [List.take_append_drop]
  rw [e]
  unfold cutR
  rw [List.filter_append, filter_yes (fun x hx => by simp [kne_lt (atR_lo h x hx)]), filter_yes (fun x hx => by simp [Ne.symm (kne_lt (atR_hi' ha h hf x hx))]), List.take_append_drop]
theorem put_lo (h : AtR K R k) : R.filter (fun x => decide (kLt x.1 K)) = R.take k := by
  have e : R.filter (fun x => decide (kLt x.1 K)) = (R.take k ++ R.drop k).filter (fun x => decide (kLt x.1 K)) := by rw [List.take_append_drop]
  rw [e, List.filter_append, filter_yes (fun x hx => by simp [atR_lo h x hx]), filter_no (fun x hx => ?_), List.append_nil]
  obtain ⟨i, h1, h2⟩ := mem_dropI hx
  simp [h.2.2 i x h1 h2]
theorem put_hi (ha : ascR R = true) (h : AtR K R k) (hf : Found K R k) : R.filter (fun x => decide (kLt K x.1)) = R.drop (k + 1) := by
  obtain ⟨x, h1, h2⟩ := found_cons hf
  have e : R.filter (fun x => decide (kLt K x.1)) = (R.take k ++ R.drop k).filter (fun x => decide (kLt K x.1)) := by rw [List.take_append_drop]
  rw [e, h1, List.filter_append, filter_no (fun x hx => by simp [kLt_asym (atR_lo h x hx)]), List.filter_cons_of_neg (by rw [h2]; simp [kLt_irrefl]), filter_yes (fun x hx => by simp [atR_hi ha hf x hx]), List.nil_append]
theorem put_hi' (ha : ascR R = true) (h : AtR K R k) (hf : ¬ Found K R k) : R.filter (fun x => decide (kLt K x.1)) = R.drop k := by
  have e : R.filter (fun x => decide (kLt K x.1)) = (R.take k ++ R.drop k).filter (fun x => decide (kLt K x.1)) := by rw [List.take_append_drop]
  rw [e, List.filter_append, filter_no (fun x hx => by simp [kLt_asym (atR_lo h x hx)]), filter_yes (fun x hx => by simp [atR_hi' ha h hf x hx]), List.nil_append]
end
theorem Sl.drop2 {w : World} {b o : Nat} {l : List Row} (h : Sl encRow 2 w (some ⟨b, o, none⟩) l) (k : Nat) : Sl encRow 2 w (some ⟨b, o + k * 2, none⟩) (l.drop k) := by
  intro hl
  rw [List.length_drop] at hl
  obtain ⟨b', o', he, hb, hc⟩ := h (by omega)
  simp at he
  obtain ⟨rfl, rfl⟩ := he
  refine ⟨b, o + k * 2, rfl, hb, fun i j x hx hj => ?_⟩
  rw [List.getElem?_drop] at hx
  rw [show o + k * 2 + i * 2 + j = o + (k + i) * 2 + j by omega]
  exact hc (k + i) j x hx hj
theorem Sl.nilR {w : World} {A : Option Addr} {l : List Row} (h : l.length = 0) : Sl encRow 2 w A l := fun h2 => by omega
set_option maxRecDepth 100000 in
set_option maxHeartbeats 1000000 in
theorem cloneR_any (A : Option Addr) (l : List Row) (c : Nat) (w : World) (hn : l.length ≤ 1048576) (hR : Sl encRow 2 w A l) :
    Calls Try.prog 101 #[.slice A l.length c] w fun e w' => ∃ v, e = .returned v ∧ OwnR w' w.heap.size v l ∧ Below w.heap.size w w' := by
  obtain ⟨i0, hi, hz0, hz1, hz2⟩ := info_parts infoRow
  have HI := Lib.hid (⟨hi, hz0, hz1, hz2⟩ : _ ∧ _ ∧ _ ∧ _)
  clear hi hz0 hz1 hz2
  have q23 := fun (w : World) (a : Option Addr) (n c : Nat) => Lib.run_eql_slice_nil (P := Try.prog) w 32 _ a n c 0 0 Try.underlying32
  rcases A with _ | ad
  · have hl : l = [] := by
      rcases Nat.eq_zero_or_pos l.length with h0 | h0
      · exact List.eq_nil_of_length_eq_zero h0
      · obtain ⟨b, o, he, _⟩ := hR h0; cases he
    subst hl
    go_enter Try.func101, Try.ntmps101
    go_wp2
    go_ret
    exact ⟨_, rfl, ⟨rfl, .inl ⟨rfl, rfl⟩⟩, Below.refl _ _⟩
  · have ho := (own_of_blk (base := w.heap.size) (n := 0) (k := 2) (xs := []) (Blk.new w 96 #[]) (Nat.le_refl _) (Nat.zero_le _) rfl rfl)
    have hb0 := (Below.refl w.heap.size w).alloc (Nat.le_refl _) (.cells #[] 96)
    have HO := Lib.hid ho
    have HS := Lib.hid (hR.below hb0)
    have HB := Lib.hid hb0
    have HBS := Lib.hid (show w.heap.size ≤ (w.alloc (.cells #[] 96)).heap.size by simp)
    have H63 := Lib.hid (show 0 + l.length ≤ maxLen by unfold maxLen; omega)
    have HBY := Lib.hid (show (0 + l.length) * 24 ≤ 140737488355328 by omega)
    clear ho hb0 hR
    go_enter Try.func101, Try.ntmps101
    go_wp2_with (at_builtin; refine wpList_append_slM (enc := encRow) rfl (.tmp 5) (.tmp 6) 32 rfl w.heap.size 96 i0 _ 2 24 Try.underlying32 HI.out.1 HI.out.2.1 HI.out.2.2.1 HI.out.2.2.2 rfl (by decide) (.slice (some ⟨w.heap.size, 0, none⟩) 0 0) 0 [] rfl HO.out encRow_len (some ad) l l.length c rfl (by first | rfl | simp [Act.eval]) HS.out (encRow_one l) H63.out HBY.out HBS.out ?_; intro v' w' hown hgrow _; have ho : OwnR w' w.heap.size v' l := (by have := ownR_app (l := []) (m := l) hown; simpa using this))
    go_ret
    exact ⟨_, rfl, ho, below_own HB.out hgrow HBS.out (fun k hk => by simp [Value.ownBlock] at hk; omega)⟩
theorem sl_hi {P : Program} (w : World) (t e : TypeId) (hu : P.underlying t = some (.slice e)) (i : TypeInfo) (hi : P.info? e = some i) (b o n c k : Nat) (hk : k ≤ c) :
    (Instr.sliceAt t (.slice (some ⟨b, o, none⟩) n c) none (some (.int .i64 (k : Int))) none).run P w = .ok (.slice (some ⟨b, o, none⟩) k c) w := by
  have h1 : (k : Int) ≤ (c : Int) := by omega
  have h0 : (0 : Int) ≤ (k : Int) := by omega
  have hz : (Go.sizeOf e).run P w = .ok i.size w := by simp [Go.sizeOf, typeInfo, hi]
  simp [Instr.sliceAt, Instr.slice, run_underlying hu, Instr.sliceBounds, run_sliceBound, h1, hz, Result.andThen, Addr.add]
theorem sl_lo {P : Program} (w : World) (t e : TypeId) (hu : P.underlying t = some (.slice e)) (i : TypeInfo) (hi : P.info? e = some i) (b o n c k : Nat) (l : Int) (hl : l = (k : Int)) (hk : k ≤ n) :
    (Instr.sliceAt t (.slice (some ⟨b, o, none⟩) n c) (some (.int .i64 l)) none none).run P w = .ok (.slice (if c = k then some ⟨b, o, none⟩ else some ⟨b, o + k * i.size, none⟩) (n - k) (c - k)) w := by
  subst hl
  have h1 : (k : Int) ≤ (n : Int) := by omega
  have h0 : (0 : Int) ≤ (k : Int) := by omega
  have hz : (Go.sizeOf e).run P w = .ok i.size w := by simp [Go.sizeOf, typeInfo, hi]
  simp [Instr.sliceAt, Instr.slice, run_underlying hu, Instr.sliceBounds, run_sliceBound, h1, hz, Result.andThen, Addr.add]
  by_cases h2 : k * i.size = 0
  · rw [if_pos h2, h2, Nat.add_zero]
  · rw [if_neg h2]
theorem rforms {w : World} {B c : Nat} {A : Option Addr} {R : List Row} (h : OwnR w B (.slice A R.length c) R) : (A = none ∧ R = [] ∧ c = 0) ∨ ∃ g, A = some ⟨g, 0, none⟩ ∧ R.length ≤ c ∧ c ≤ maxLen ∧ g < w.heap.size := by
  rcases h.2 with ⟨e, h0⟩ | ⟨g, cap, cur, e, _, hh, hn, hm, _⟩
  · injection e with e1 e2 e3
    exact .inl ⟨e1, List.eq_nil_of_length_eq_zero h0, e3⟩
  · injection e with e1 e2 e3
    subst e3
    exact .inr ⟨g, e1, hn, hm, by
      rcases Nat.lt_or_ge g w.heap.size with hlt | hge
      · exact hlt
      · rw [Array.getElem?_eq_none hge] at hh; cases hh⟩
theorem slp_two {w : World} {g : Nat} {r s : Rrow} (h : Blk w g 32 #[.slice r.1 r.2.2.length r.2.1, .slice s.1 s.2.2.length s.2.1]) : Sl encRrow 1 w (some ⟨g, 0, none⟩) [r, s] := by
  intro _
  refine ⟨g, 0, rfl, h.lt, fun i j y hy hj => ?_⟩
  obtain rfl : j = 0 := by omega
  match i with
  | 0 => simp at hy; subst hy; simp only [Nat.zero_mul, Nat.zero_add]; rw [h.cell]; rfl
  | 1 => simp at hy; subst hy; simp only [Nat.one_mul, Nat.zero_add, Nat.add_zero]; rw [h.cell]; rfl
  | i + 2 => simp at hy
set_option maxRecDepth 100000 in
set_option maxHeartbeats 1000000 in
theorem rowsCut_any (B : Nat) (A : Option Addr) (R : List Row) (c : Nat) (K : ByteArray) (w : World) (hr : rowsB R = true) (hf : ∀ x ∈ R, x.1.size ≤ maxLen) (ho : OwnR w B (.slice A R.length c) R) :
    Calls Try.prog 52 #[.slice A R.length c, .string K] w fun e w' => ∃ (v : Value) (b : Bool), e = .returned (.tuple #[v, .bool b]) ∧ OwnR w' w.heap.size v (cutR R K) ∧ Below w.heap.size w w' := by
  have hl10 : R.length ≤ 10 := by unfold rowsB at hr; rw [decide_eq_true_eq] at hr; exact hr.1
  have HOK := Lib.hid (implRowsOk_any A R c w hf (by omega) ho.reads)
  have HA := Lib.hid (rowsB_asc hr)
  have HRB := Lib.hid hr
  have HO := Lib.hid ho
  clear ho hr hf
  go_enter Try.func52, Try.ntmps52
  go_wp2_with fail
  refine HOK.out.mono ?_
  rintro e w1 ⟨rfl, hb1⟩
  rw [HRB.out]
  have HP := Lib.hid (place_any A R c K w1 (by omega) HA.out (HO.out.reads.below hb1))
  go_wp2_with fail
  refine HP.out.mono ?_
  rintro e w2 ⟨k, b, rfl, hat, hbf, hb2⟩
  have hbe := bthen hb1 hb2
  have HS2 := Lib.hid (HO.out.reads.below hbe)
  have hz2 := hbe.size
  cases b
  · have HC := Lib.hid (cut_not HA.out hat (hbf.2 rfl))
    have HCL := Lib.hid (cloneR_any A R c w2 (by omega) HS2.out)
    clear hat hbf hb1 hb2
    go_wp2_with fail
    refine HCL.out.mono ?_
    rintro e w3 ⟨v, rfl, hov, hb3⟩
    have hbb := bthen hbe hb3
    have HV := Lib.hid (hov.le hz2)
    clear hov hb3
    go_wp2
    go_ret2
    exact ⟨v, false, rfl, by rw [← HC.out]; exact HV.out, hbb⟩
  · have hfd := hbf.1 rfl
    have HC := Lib.hid (cut_found HA.out hat hfd)
    have hkl : k < R.length := by obtain ⟨x, h1, _⟩ := hfd; exact (List.getElem?_eq_some_iff.1 h1).1
    obtain ⟨T, hT⟩ : ∃ T, T = R.take k := ⟨_, rfl⟩
    obtain ⟨D, hD⟩ : ∃ D, D = R.drop (k + 1) := ⟨_, rfl⟩
    have hTl : T.length = k := by rw [hT, List.length_take]; omega
    have hDl : D.length = R.length - (k + 1) := by rw [hD, List.length_drop]
    have hTD : T.length + (D.length + 0) ≤ 1000 := by omega
    rcases rforms HO.out with ⟨_, h0, _⟩ | ⟨g, rfl, hc1, hc2, hgw⟩
    · subst h0; simp at hkl
    have hml : c ≤ 9223372036854775807 := hc2
    clear hat hbf hfd hb1 hb2 hc2
    have HST := Lib.hid (show Sl encRow 2 w2 (some ⟨g, 0, none⟩) T from by rw [hT]; exact HS2.out.take k)
    have HSD := Lib.hid (show Sl encRow 2 w2 (some ⟨g, (k + 1) * 2, none⟩) D from by rw [hD]; have := HS2.out.drop2 (k + 1); rwa [Nat.zero_add] at this)
    have HTD := Lib.hid (show cutR R K = allR [(some ⟨g, 0, none⟩, c, T), (none, 0, D)] from by rw [hT, hD, ← HC.out]; simp [allR])
    clear hT hD HC HS2
    have HCA := fun (A2 : Option Addr) (c2 : Nat) (hSD : Sl encRow 2 w2 A2 D) => Lib.hid (concatR_any (some ⟨w2.heap.size, 0, none⟩) [(some ⟨g, 0, none⟩, c, T), (A2, c2, D)] 2 ((w2.alloc (.cells #[.slice (some ⟨g, 0, none⟩) T.length c, .slice A2 D.length c2] 32)).drew) hTD (by simp)
      ((slp_two (r := (some ⟨g, 0, none⟩, c, T)) (s := (A2, c2, D)) (Blk.new w2 32 _)).below (Below.refl _ _).drew)
      (fun r hr => by
        have hba := ((Below.refl w2.heap.size w2).alloc (Nat.le_refl _) (.cells #[.slice (some ⟨g, 0, none⟩) T.length c, .slice A2 D.length c2] 32)).drew
        simp only [List.mem_cons, List.not_mem_nil, or_false] at hr
        rcases hr with rfl | rfl
        · exact HST.out.below hba
        · exact hSD.below hba))
    have HBA := Lib.hid (fun A2 c2 => ((Below.refl w2.heap.size w2).alloc (Nat.le_refl _) (.cells #[.slice (some ⟨g, 0, none⟩) T.length c, .slice A2 D.length c2] 32)).drew)
    have HALL := Lib.hid (fun (A2 : Option Addr) (c2 : Nat) => show allR [(some ⟨g, 0, none⟩, c, T), (A2, c2, D)] = allR [(some ⟨g, 0, none⟩, c, T), (none, 0, D)] from rfl)
    obtain ⟨i0, hi, hz0, hz1, hz2'⟩ := info_parts infoRow
    have hs1 := fun W => sl_hi W 32 96 Try.underlying32 i0 hi g 0 R.length c k (by omega)
    have hs2 := fun W => sl_lo W 32 96 Try.underlying32 i0 hi g 0 R.length c (k + 1) ((k : Int) + 1) (by omega) (by omega)
    rw [hz1] at hs2
    have hwm : IntKind.i64.wrap ((k : Int) + 1) = (k : Int) + 1 := by rw [IntKind.wrap_i64]; omega
    obtain ⟨A2, hA2⟩ : ∃ A2, A2 = (if c = k + 1 then some (⟨g, 0, none⟩ : Addr) else some ⟨g, 0 + (k + 1) * 2, none⟩) := ⟨_, rfl⟩
    rw [← hA2] at hs2
    have hSD : Sl encRow 2 w2 A2 D := by
      rw [hA2]
      by_cases hkc : c = k + 1
      · rw [if_pos hkc]; exact Sl.nilR (by omega)
      · rw [if_neg hkc, Nat.zero_add]; exact HSD.out
    have HC := HCA A2 (c - (k + 1)) hSD
    have HB := Lib.hid (HBA.out A2 (c - (k + 1)))
    rw [HALL.out, ← HTD.out, hDl, hTl] at HC
    rw [hDl, hTl] at HB
    clear HSD HCA HBA HALL HTD hTD hTl hDl hA2 hSD hi hz0 hz1 hz2' hkl hc1 hml hl10 HOK HP HO
    generalize R.length - (k + 1) = n2 at *
    generalize c - (k + 1) = c2 at *
    go_wp2_with fail
    go_region_with (go_at_call 102; refine HC.out.mono ?_; rintro e w3 ⟨v, rfl, hov, hb3⟩; have HV := Lib.hid (hov.le (Nat.le_trans hz2 HB.out.size)); have hbb := bthen hbe (bthen HB.out hb3); clear hov hb3)
    all_goals
      go_wp2
      go_ret2
      exact ⟨v, true, rfl, HV.out, hbb⟩
theorem ownR_hi {w : World} {B c k : Nat} {A : Option Addr} {R : List Row} (h : OwnR w B (.slice A R.length c) R) (hk : k ≤ R.length) (W : World) :
    (Instr.sliceAt 32 (.slice A R.length c) none (some (.int .i64 (k : Int))) none).run Try.prog W = .ok (.slice A k c) W := by
  obtain ⟨i0, hi, hz0, hz1, hz2⟩ := info_parts infoRow
  rcases rforms h with ⟨rfl, rfl, rfl⟩ | ⟨g, rfl, hc1, _⟩
  · obtain rfl : k = 0 := by simpa using hk
    have hz : (Go.sizeOf 96).run Try.prog W = .ok i0.size W := by simp [Go.sizeOf, typeInfo, hi]
    simp [Instr.sliceAt, Instr.slice, run_underlying Try.underlying32, Instr.sliceBounds, run_sliceBound, hz, Result.andThen]
  · exact sl_hi W 32 96 Try.underlying32 i0 hi g 0 R.length c k (by omega)
theorem ownR_lo {w : World} {B c k : Nat} {A : Option Addr} {R : List Row} (h : OwnR w B (.slice A R.length c) R) (hk : k ≤ R.length) :
    ∃ A2, (∀ (W : World) (l : Int), l = (k : Int) → (Instr.sliceAt 32 (.slice A R.length c) (some (.int .i64 l)) none none).run Try.prog W = .ok (.slice A2 (R.length - k) (c - k)) W) ∧ Sl encRow 2 w A2 (R.drop k) := by
  obtain ⟨i0, hi, hz0, hz1, hz2⟩ := info_parts infoRow
  rcases rforms h with ⟨rfl, rfl, rfl⟩ | ⟨g, rfl, hc1, _⟩
  · obtain rfl : k = 0 := by simpa using hk
    refine ⟨none, fun W l hl => ?_, Sl.nilR (by simp)⟩
    subst hl
    have hz : (Go.sizeOf 96).run Try.prog W = .ok i0.size W := by simp [Go.sizeOf, typeInfo, hi]
    simp [Instr.sliceAt, Instr.slice, run_underlying Try.underlying32, Instr.sliceBounds, run_sliceBound, hz, Result.andThen]
  · refine ⟨_, fun W l hl => sl_lo W 32 96 Try.underlying32 i0 hi g 0 R.length c k l hl hk, ?_⟩
    rw [hz1]
    by_cases hkc : c = k
    · rw [if_pos hkc]; exact Sl.nilR (by rw [List.length_drop]; omega)
    · rw [if_neg hkc]
      have := (OwnR.reads h).drop2 k
      exact this
/-- what stands while a new row is made -/
def RP (w : World) (K : ByteArray) (n : Int) (v : Value) (m : List Row) (W : World) : Prop :=
  Blk W w.heap.size 96 #[.string K, .int .i64 n] ∧ OwnR W (w.heap.size + 1) v m ∧ Below w.heap.size w W
theorem RP.below {w : World} {K : ByteArray} {n : Int} {v : Value} {m : List Row} {W W' : World} (h : RP w K n v m W) (hb : Below W.heap.size W W') : RP w K n v m W' := ⟨h.1.kept hb, own_kept h.2.1 hb, bthen h.2.2 hb⟩
theorem RP.app {w : World} {K : ByteArray} {n : Int} {v v' : Value} {m m2 : List Row} {W W' : World} (h : RP w K n v m W) (hg : W.grownBy W' v.ownBlock) (ho : OwnR W' (w.heap.size + 1) v' m2) : RP w K n v' m2 W' := by
  obtain ⟨h1, h2, h3⟩ := h
  exact ⟨h1.grown hg (fun e => by have := (h2.lt _ e.symm).1; omega), ho, below_own h3 hg h3.size (fun j hj => by have := (h2.lt j hj).1; omega)⟩
set_option maxRecDepth 100000 in
set_option maxHeartbeats 3000000 in
theorem stored_any (B : Nat) (A : Option Addr) (R : List Row) (c : Nat) (K : ByteArray) (n : Int) (w : World) (hl : R.length ≤ 1000) (ha : ascR R = true) (ho : OwnR w B (.slice A R.length c) R) :
    Calls Try.prog 103 #[.slice A R.length c, .agg #[.string K, .int .i64 n], .func (.func 90) #[] #[]] w fun e w' => ∃ (v : Value), e = .returned v ∧ OwnR w' w.heap.size v (putR R K n) ∧ Below w.heap.size w w' := by
  obtain ⟨i0, hi, hz0, hz1, hz2⟩ := info_parts infoRow
  have HI := Lib.hid (⟨hi, hz0, hz1, hz2⟩ : _ ∧ _ ∧ _ ∧ _)
  clear hi hz0 hz1 hz2
  have HA := Lib.hid ha
  have HO := Lib.hid ho
  clear ha ho
  have hb0 := (Below.refl w.heap.size w).alloc (Nat.le_refl _) (.cells #[.string K, .int .i64 n] 96)
  have hB0 := Blk.new w 96 #[.string K, .int .i64 n]
  have r0 : (w.alloc (.cells #[.string K, .int .i64 n] 96)).cell? ⟨w.heap.size, 0, none⟩ = some (.string K) := hB0.cell 0
  have r1 : (w.alloc (.cells #[.string K, .int .i64 n] 96)).cell? ⟨w.heap.size, 1, none⟩ = some (.int .i64 n) := hB0.cell 1
  have HK := Lib.hid (rowKey_any (K, n) (w.alloc (.cells #[.string K, .int .i64 n] 96)))
  go_enter Try.func103, Try.ntmps103
  go_wp2_with fail
  refine HK.out.mono ?_
  rintro e w1 ⟨rfl, hb1⟩
  have hbw := bthen hb0 hb1
  have hB1 := hB0.kept hb1
  have HP := Lib.hid (place_any A R c K w1 (by omega) HA.out (HO.out.reads.below hbw))
  clear HK hb0 hb1 hB0 r0 r1
  go_wp2_with fail
  refine HP.out.mono ?_
  rintro e w2 ⟨k, b, rfl, hat, hbf, hb2⟩
  have hbw2 := bthen hbw hb2
  have hB2 := hB1.kept hb2
  have hkl := hat.1
  have hs1 := ownR_hi HO.out hkl
  have HT := Lib.hid (HO.out.reads.take k)
  have hTl : (R.take k).length = k := by rw [List.length_take]; omega
  have HPL := Lib.hid (put_lo hat)
  clear hbw hb2 hB1 HP
  obtain ⟨kk, hkk, hkk2⟩ : ∃ kk, kk = (if b = true then k + 1 else k) ∧ (kk ≤ R.length ∧ putR R K n = R.take k ++ [(K, n)] ++ R.drop kk) := by
    cases b
    · exact ⟨k, rfl, hkl, by unfold putR; rw [HPL.out, put_hi' HA.out hat (hbf.2 rfl)]⟩
    · have hfd := hbf.1 rfl
      obtain ⟨x, h1, _⟩ := hfd
      exact ⟨k + 1, rfl, (List.getElem?_eq_some_iff.1 h1).1, by unfold putR; rw [HPL.out, put_hi HA.out hat (hbf.1 rfl)]⟩
  obtain ⟨A2, hs2, hSD⟩ := ownR_lo HO.out hkk2.1
  have HPR := Lib.hid hkk2.2
  have HSD := Lib.hid hSD
  have HS2 := Lib.hid hs2
  have hDl : (R.drop kk).length = R.length - kk := by rw [List.length_drop]
  have hkk1 := hkk2.1
  clear hat hbf hkk2 hSD hs2 HPL
  generalize R.take k = T at *
  generalize R.drop kk = D at *
  have HTL := Lib.hid hTl
  have HDL := Lib.hid hDl
  have HKK := Lib.hid hkk
  have hT1000 : T.length ≤ 1000 := by omega
  have hD1000 : D.length ≤ 1000 := by omega
  clear hTl hDl
  have e1 : ((R.length + 1 : Nat) : Int) = (R.length : Int) + 1 := by omega
  have H63 := Lib.hid (show ([] : List Row).length + T.length ≤ maxLen by unfold maxLen; simp; omega)
  have HBY := Lib.hid (show (([] : List Row).length + T.length) * 24 ≤ 140737488355328 by simp; omega)
  have H64 := Lib.hid (show T.length + [((K, n) : Row)].length ≤ maxLen by unfold maxLen; simp; omega)
  have HBY2 := Lib.hid (show (T.length + [((K, n) : Row)].length) * 24 ≤ 140737488355328 by simp; omega)
  have H65 := Lib.hid (show (T ++ [((K, n) : Row)]).length + D.length ≤ maxLen by unfold maxLen; simp; omega)
  have HBY3 := Lib.hid (show ((T ++ [((K, n) : Row)]).length + D.length) * 24 ≤ 140737488355328 by simp; omega)
  clear HA HKK hT1000 hD1000 hkl
  cases b
  · simp only [Bool.false_eq_true, if_false] at hkk
    subst hkk
    have hs2 := fun W => HS2.out W (kk : Int) rfl
    clear HS2 hkk1
    go_wp2_with (first
      | (at_make; refine wpList_make_own _ rfl _ _ 32 rfl (w.heap.size + 1) 96 i0 _ 2 Try.underlying32 HI.out.1 HI.out.2.1 HI.out.2.2.1 .i64 .i64 ((R.length : Int) + 1) (R.length + 1) rfl rfl e1.symm (by rw [HI.out.2.2.2]; omega) (by unfold maxLen; omega) hB2.lt ?_; intro w3 hown0 hgrow0; have HRP := Lib.hid (show RP w K n (.slice (some ⟨w2.heap.size, 0, none⟩) 0 (R.length + 1)) [] w3 from ⟨hB2.grown hgrow0 (by simp), hown0, below_own hbw2 hgrow0 hbw2.size (fun j hj => by cases hj)⟩); clear hown0 hgrow0; have HTS := Lib.hid (HT.out.below HRP.out.2.2); have HBS := Lib.hid (show w.heap.size + 1 ≤ w3.heap.size from HRP.out.1.lt))
      | (at_builtin; refine wpList_append_slM (enc := encRow) rfl (.tmp 23) (.tmp 26) 32 rfl (w.heap.size + 1) 96 i0 _ 2 24 Try.underlying32 HI.out.1 HI.out.2.1 HI.out.2.2.1 HI.out.2.2.2 rfl (by decide) (.slice (some ⟨w2.heap.size, 0, none⟩) 0 (R.length + 1)) ([] : List Row).length (([] : List Row).flatMap encRow) rfl HRP.out.2.1 encRow_len A T kk c HTL.out.symm (by first | rfl | simp [Act.eval]) HTS.out (encRow_one _) H63.out HBY.out HBS.out ?_; intro v4 w4 hown hgr _; obtain ⟨m4, hm2, ho2⟩ : ∃ m2, m2 = ([] : List Row) ++ T ∧ OwnR w4 (w.heap.size + 1) v4 m2 := ⟨_, rfl, ownR_app hown⟩; obtain ⟨A4, c4, rfl, _, _, hS5⟩ := ho2.sl; have HRP4 := Lib.hid (HRP.out.app hgr ho2); have HM4 := Lib.hid (show m4 = T from (by rw [hm2]; rfl)); have HC0 : w4.cell? ⟨w.heap.size, 0, none⟩ = some (.string K) := HRP4.out.1.cell 0; have HC1 : w4.cell? ⟨w.heap.size, 1, none⟩ = some (.int .i64 n) := HRP4.out.1.cell 1; have HBA := Lib.hid ((Below.refl w4.heap.size w4).alloc (Nat.le_refl _) (.cells #[.string K, .int .i64 n] 96)); have HRP4b := Lib.hid (HRP4.out.below HBA.out); have HX4 := Lib.hid (slr_one (x := (K, n)) (Blk.new w4 96 #[.string K, .int .i64 n])); have H634 := Lib.hid (show m4.length + [((K, n) : Row)].length ≤ maxLen from (by rw [HM4.out]; exact H64.out)); have HBY4 := Lib.hid (show (m4.length + [((K, n) : Row)].length) * 24 ≤ 140737488355328 from (by rw [HM4.out]; exact HBY2.out)); have HBS4 := Lib.hid (show w.heap.size + 1 ≤ (w4.alloc (.cells #[.string K, .int .i64 n] 96)).heap.size from HRP4b.out.1.lt); clear HRP HTS HBS; clear hS5 hown hgr hm2 ho2)
      | (at_builtin; refine wpList_append_slM (enc := encRow) rfl (.tmp 28) (.tmp 30) 32 rfl (w.heap.size + 1) 96 i0 _ 2 24 Try.underlying32 HI.out.1 HI.out.2.1 HI.out.2.2.1 HI.out.2.2.2 rfl (by decide) (.slice A4 m4.length c4) m4.length (m4.flatMap encRow) rfl HRP4b.out.2.1 encRow_len (some ⟨w4.heap.size, 0, none⟩) [((K, n) : Row)] 1 1 rfl (by first | rfl | simp [Act.eval]) HX4.out (encRow_one _) H634.out HBY4.out HBS4.out ?_; intro v5 w5 hown hgr _; obtain ⟨m5, hm2, ho2⟩ : ∃ m2, m2 = m4 ++ [((K, n) : Row)] ∧ OwnR w5 (w.heap.size + 1) v5 m2 := ⟨_, rfl, ownR_app hown⟩; obtain ⟨A5, c5, rfl, _, _, hS5⟩ := ho2.sl; have HRP5 := Lib.hid (HRP4b.out.app hgr ho2); have HM5 := Lib.hid (show m5 = T ++ [(K, n)] from (by rw [hm2, HM4.out])); have HDS := Lib.hid (HSD.out.below HRP5.out.2.2); have H635 := Lib.hid (show m5.length + D.length ≤ maxLen from (by rw [HM5.out]; exact H65.out)); have HBY5 := Lib.hid (show (m5.length + D.length) * 24 ≤ 140737488355328 from (by rw [HM5.out]; exact HBY3.out)); have HBS5 := Lib.hid (show w.heap.size + 1 ≤ w5.heap.size from HRP5.out.1.lt); clear HRP4 HRP4b HBA HX4 HC0 HC1 HM4 H634 HBY4 HBS4; clear hS5 hown hgr hm2 ho2)
      | (at_builtin; refine wpList_append_slM (enc := encRow) rfl (.tmp 35) (.tmp 38) 32 rfl (w.heap.size + 1) 96 i0 _ 2 24 Try.underlying32 HI.out.1 HI.out.2.1 HI.out.2.2.1 HI.out.2.2.2 rfl (by decide) (.slice A5 m5.length c5) m5.length (m5.flatMap encRow) rfl HRP5.out.2.1 encRow_len A2 D (R.length - kk) (c - kk) HDL.out.symm (by first | rfl | simp [Act.eval]) HDS.out (encRow_one _) H635.out HBY5.out HBS5.out ?_; intro v6 w6 hown hgr _; obtain ⟨m6, hm2, ho2⟩ : ∃ m2, m2 = m5 ++ D ∧ OwnR w6 (w.heap.size + 1) v6 m2 := ⟨_, rfl, ownR_app hown⟩; obtain ⟨A6, c6, rfl, _, _, hS5⟩ := ho2.sl; have HRP6 := Lib.hid (HRP5.out.app hgr ho2); have HM6 := Lib.hid (show m6 = putR R K n from (by rw [hm2, HM5.out, HPR.out])); clear HRP5; clear hS5 hown hgr hm2 ho2))
    go_ret
    exact ⟨_, rfl, by rw [← HM6.out]; exact OwnR.le HRP6.out.2.1 (by omega), HRP6.out.2.2⟩
  · simp only [if_true] at hkk
    subst hkk
    have hs2 := fun W => HS2.out W ((k : Int) + 1) (by omega)
    have hwm : IntKind.i64.wrap ((k : Int) + 1) = (k : Int) + 1 := by rw [IntKind.wrap_i64]; omega
    have hwm2 : wrap64 ((k : Int) + 1) = (k : Int) + 1 := by unfold wrap64; omega
    clear HS2 hkk1
    go_wp2_with (first
      | (at_make; refine wpList_make_own _ rfl _ _ 32 rfl (w.heap.size + 1) 96 i0 _ 2 Try.underlying32 HI.out.1 HI.out.2.1 HI.out.2.2.1 .i64 .i64 ((R.length : Int) + 1) (R.length + 1) rfl rfl e1.symm (by rw [HI.out.2.2.2]; omega) (by unfold maxLen; omega) hB2.lt ?_; intro w3 hown0 hgrow0; have HRP := Lib.hid (show RP w K n (.slice (some ⟨w2.heap.size, 0, none⟩) 0 (R.length + 1)) [] w3 from ⟨hB2.grown hgrow0 (by simp), hown0, below_own hbw2 hgrow0 hbw2.size (fun j hj => by cases hj)⟩); clear hown0 hgrow0; have HTS := Lib.hid (HT.out.below HRP.out.2.2); have HBS := Lib.hid (show w.heap.size + 1 ≤ w3.heap.size from HRP.out.1.lt))
      | (at_builtin; refine wpList_append_slM (enc := encRow) rfl (.tmp 23) (.tmp 26) 32 rfl (w.heap.size + 1) 96 i0 _ 2 24 Try.underlying32 HI.out.1 HI.out.2.1 HI.out.2.2.1 HI.out.2.2.2 rfl (by decide) (.slice (some ⟨w2.heap.size, 0, none⟩) 0 (R.length + 1)) ([] : List Row).length (([] : List Row).flatMap encRow) rfl HRP.out.2.1 encRow_len A T k c HTL.out.symm (by first | rfl | simp [Act.eval]) HTS.out (encRow_one _) H63.out HBY.out HBS.out ?_; intro v4 w4 hown hgr _; obtain ⟨m4, hm2, ho2⟩ : ∃ m2, m2 = ([] : List Row) ++ T ∧ OwnR w4 (w.heap.size + 1) v4 m2 := ⟨_, rfl, ownR_app hown⟩; obtain ⟨A4, c4, rfl, _, _, hS5⟩ := ho2.sl; have HRP4 := Lib.hid (HRP.out.app hgr ho2); have HM4 := Lib.hid (show m4 = T from (by rw [hm2]; rfl)); have HC0 : w4.cell? ⟨w.heap.size, 0, none⟩ = some (.string K) := HRP4.out.1.cell 0; have HC1 : w4.cell? ⟨w.heap.size, 1, none⟩ = some (.int .i64 n) := HRP4.out.1.cell 1; have HBA := Lib.hid ((Below.refl w4.heap.size w4).alloc (Nat.le_refl _) (.cells #[.string K, .int .i64 n] 96)); have HRP4b := Lib.hid (HRP4.out.below HBA.out); have HX4 := Lib.hid (slr_one (x := (K, n)) (Blk.new w4 96 #[.string K, .int .i64 n])); have H634 := Lib.hid (show m4.length + [((K, n) : Row)].length ≤ maxLen from (by rw [HM4.out]; exact H64.out)); have HBY4 := Lib.hid (show (m4.length + [((K, n) : Row)].length) * 24 ≤ 140737488355328 from (by rw [HM4.out]; exact HBY2.out)); have HBS4 := Lib.hid (show w.heap.size + 1 ≤ (w4.alloc (.cells #[.string K, .int .i64 n] 96)).heap.size from HRP4b.out.1.lt); clear HRP HTS HBS; clear hS5 hown hgr hm2 ho2)
      | (at_builtin; refine wpList_append_slM (enc := encRow) rfl (.tmp 28) (.tmp 30) 32 rfl (w.heap.size + 1) 96 i0 _ 2 24 Try.underlying32 HI.out.1 HI.out.2.1 HI.out.2.2.1 HI.out.2.2.2 rfl (by decide) (.slice A4 m4.length c4) m4.length (m4.flatMap encRow) rfl HRP4b.out.2.1 encRow_len (some ⟨w4.heap.size, 0, none⟩) [((K, n) : Row)] 1 1 rfl (by first | rfl | simp [Act.eval]) HX4.out (encRow_one _) H634.out HBY4.out HBS4.out ?_; intro v5 w5 hown hgr _; obtain ⟨m5, hm2, ho2⟩ : ∃ m2, m2 = m4 ++ [((K, n) : Row)] ∧ OwnR w5 (w.heap.size + 1) v5 m2 := ⟨_, rfl, ownR_app hown⟩; obtain ⟨A5, c5, rfl, _, _, hS5⟩ := ho2.sl; have HRP5 := Lib.hid (HRP4b.out.app hgr ho2); have HM5 := Lib.hid (show m5 = T ++ [(K, n)] from (by rw [hm2, HM4.out])); have HDS := Lib.hid (HSD.out.below HRP5.out.2.2); have H635 := Lib.hid (show m5.length + D.length ≤ maxLen from (by rw [HM5.out]; exact H65.out)); have HBY5 := Lib.hid (show (m5.length + D.length) * 24 ≤ 140737488355328 from (by rw [HM5.out]; exact HBY3.out)); have HBS5 := Lib.hid (show w.heap.size + 1 ≤ w5.heap.size from HRP5.out.1.lt); clear HRP4 HRP4b HBA HX4 HC0 HC1 HM4 H634 HBY4 HBS4; clear hS5 hown hgr hm2 ho2)
      | (at_builtin; refine wpList_append_slM (enc := encRow) rfl (.tmp 35) (.tmp 38) 32 rfl (w.heap.size + 1) 96 i0 _ 2 24 Try.underlying32 HI.out.1 HI.out.2.1 HI.out.2.2.1 HI.out.2.2.2 rfl (by decide) (.slice A5 m5.length c5) m5.length (m5.flatMap encRow) rfl HRP5.out.2.1 encRow_len A2 D (R.length - (k + 1)) (c - (k + 1)) HDL.out.symm (by first | rfl | simp [Act.eval]) HDS.out (encRow_one _) H635.out HBY5.out HBS5.out ?_; intro v6 w6 hown hgr _; obtain ⟨m6, hm2, ho2⟩ : ∃ m2, m2 = m5 ++ D ∧ OwnR w6 (w.heap.size + 1) v6 m2 := ⟨_, rfl, ownR_app hown⟩; obtain ⟨A6, c6, rfl, _, _, hS5⟩ := ho2.sl; have HRP6 := Lib.hid (HRP5.out.app hgr ho2); have HM6 := Lib.hid (show m6 = putR R K n from (by rw [hm2, HM5.out, HPR.out])); clear HRP5; clear hS5 hown hgr hm2 ho2))
    go_ret
    exact ⟨_, rfl, by rw [← HM6.out]; exact OwnR.le HRP6.out.2.1 (by omega), HRP6.out.2.2⟩
set_option maxRecDepth 100000 in
set_option maxHeartbeats 1000000 in
theorem rowsPut_any (B : Nat) (A : Option Addr) (R : List Row) (c : Nat) (K : ByteArray) (n : Int) (w : World) (hr : rowsB R = true) (hr2 : rowsB (putR R K n) = true) (hf : ∀ x ∈ R, x.1.size ≤ maxLen) (hK : K.size ≤ maxLen) (ho : OwnR w B (.slice A R.length c) R) :
    Calls Try.prog 53 #[.slice A R.length c, .string K, .int .i64 n] w fun e w' => ∃ (v : Value) (b : Bool), e = .returned (.tuple #[v, .bool b]) ∧ OwnR w' w.heap.size v (putR R K n) ∧ Below w.heap.size w w' := by
  have hl10 : R.length ≤ 10 := by unfold rowsB at hr; rw [decide_eq_true_eq] at hr; exact hr.1
  have hl11 : (putR R K n).length ≤ 10 := by unfold rowsB at hr2; rw [decide_eq_true_eq] at hr2; exact hr2.1
  have HOK := Lib.hid (implRowsOk_any A R c w hf (by omega) ho.reads)
  have HA := Lib.hid (rowsB_asc hr)
  have HRB := Lib.hid hr
  have HRB2 := Lib.hid hr2
  have HO := Lib.hid ho
  have HF2 := Lib.hid (show ∀ x ∈ putR R K n, x.1.size ≤ maxLen from fun x hx => by
    unfold putR at hx
    simp only [List.mem_append, List.mem_filter, List.mem_singleton] at hx
    rcases hx with (⟨h, _⟩ | rfl) | ⟨h, _⟩
    · exact hf x h
    · exact hK
    · exact hf x h)
  clear ho hr hr2 hf hK
  go_enter Try.func53, Try.ntmps53
  go_wp2_with fail
  refine HOK.out.mono ?_
  rintro e w1 ⟨rfl, hb1⟩
  rw [HRB.out]
  have HP := Lib.hid (stored_any B A R c K n w1 (by omega) HA.out (own_kept HO.out hb1))
  clear HOK
  go_wp2_with fail
  refine HP.out.mono ?_
  rintro e w2 ⟨v, rfl, ho2, hb2⟩
  obtain ⟨A2, c2, rfl, _, _, hS2⟩ := ho2.sl
  have hbe := bthen hb1 hb2
  have HO2 := Lib.hid (ho2.le hb1.size)
  have HOK := Lib.hid (implRowsOk_any A2 (putR R K n) c2 w2 HF2.out (by omega) hS2)
  clear ho2 hS2 HP hb1 hb2
  generalize hQ : putR R K n = Q at *
  have HQ := Lib.hid hQ
  clear hQ
  go_wp2_with fail
  refine HOK.out.mono ?_
  rintro e w3 ⟨rfl, hb3⟩
  rw [HRB2.out]
  have hbb := bthen hbe hb3
  have HV := Lib.hid (show OwnR w3 w.heap.size (.slice A2 Q.length c2) Q from own_kept HO2.out hb3)
  go_wp2
  go_ret2
  exact ⟨_, true, rfl, by rw [HQ.out]; exact HV.out, hbb⟩
/-- the number under a key, if there is one -/
def lookR (R : List Row) (K : ByteArray) : Option Int := (R.find? (fun x => decide (x.1 = K))).map (·.2)
def AscR (R : List Row) : Prop := R.Pairwise (fun a b => kLt a.1 b.1)
theorem ascP_of {R : List Row} (h : rowsB R = true) : AscR R := by
  have h2 := rows_asc (rowsB_asc h)
  unfold AscR
  rw [List.pairwise_iff_getElem]
  intro i j hi hj hij
  exact h2 j i _ _ hij (List.getElem?_eq_getElem hi) (List.getElem?_eq_getElem hj)
theorem look_mem {R : List Row} (h : AscR R) {x : Row} : x ∈ R ↔ lookR R x.1 = some x.2 := by
  unfold lookR
  induction R with
  | nil => simp
  | cons y r ih =>
    obtain ⟨h1, h2⟩ := List.pairwise_cons.1 h
    by_cases e : y.1 = x.1
    · rw [List.find?_cons_of_pos (by simp [e])]
      simp only [Option.map_some, Option.some.injEq]
      constructor
      · intro hx
        rcases List.mem_cons.1 hx with rfl | hx
        · rfl
        · exact absurd (h1 x hx) (by rw [e]; exact kLt_irrefl _)
      · intro he
        exact List.mem_cons.2 (.inl (Prod.ext e.symm he.symm))
    · rw [List.find?_cons_of_neg (by simp [e]), ← ih h2, List.mem_cons]
      constructor
      · rintro (rfl | hx)
        · exact absurd rfl e
        · exact hx
      · exact .inr
theorem look_ext {R S : List Row} (h : AscR R) (h2 : AscR S) (he : ∀ K, lookR R K = lookR S K) : R = S :=
  asc_ext (R := fun a b : Row => kLt a.1 b.1) (fun a => kLt_irrefl _) (fun a b hab => kLt_asym hab) R S h h2 (fun x => by rw [look_mem h, look_mem h2, he])
theorem asc_cut {R : List Row} (h : AscR R) (K : ByteArray) : AscR (cutR R K) := List.Pairwise.filter _ h
theorem look_cut (R : List Row) (k K : ByteArray) : lookR (cutR R k) K = if k = K then none else lookR R K := by
  unfold lookR cutR
  induction R with
  | nil => simp
  | cons y r ih =>
    by_cases h1 : y.1 = k
    · rw [List.filter_cons_of_neg (by simp [h1]), ih]
      by_cases h2 : k = K
      · rw [if_pos h2, if_pos h2]
      · rw [if_neg h2, if_neg h2, List.find?_cons_of_neg (by simp [h1, h2])]
    · rw [List.filter_cons_of_pos (by simp [h1])]
      by_cases h2 : y.1 = K
      · have h3 : k ≠ K := fun e => h1 (by rw [e, h2])
        rw [if_neg h3, List.find?_cons_of_pos (by simp [h2]), List.find?_cons_of_pos (by simp [h2])]
      · rw [List.find?_cons_of_neg (by simp [h2]), List.find?_cons_of_neg (by simp [h2]), ih]
theorem asc_put {R : List Row} (h : AscR R) (K : ByteArray) (n : Int) : AscR (putR R K n) := by
  unfold AscR putR
  refine List.pairwise_append.2 ⟨List.pairwise_append.2 ⟨List.Pairwise.filter _ h, List.pairwise_singleton _ _, ?_⟩, List.Pairwise.filter _ h, ?_⟩
  · intro a ha b hb
    simp only [List.mem_filter, decide_eq_true_eq] at ha
    simp only [List.mem_singleton] at hb
    subst hb; exact ha.2
  · intro a ha b hb
    simp only [List.mem_append, List.mem_filter, decide_eq_true_eq, List.mem_singleton] at ha hb
    rcases ha with ⟨_, ha⟩ | rfl
    · exact kLt_trans ha hb.2
    · exact hb.2
theorem look_filter (R : List Row) (p : Row → Bool) (K : ByteArray) (hp : ∀ x : Row, x.1 = K → p x = true) : lookR (R.filter p) K = lookR R K := by
  unfold lookR
  induction R with
  | nil => simp
  | cons y r ih =>
    by_cases h2 : y.1 = K
    · rw [List.filter_cons_of_pos (hp y h2), List.find?_cons_of_pos (by simp [h2]), List.find?_cons_of_pos (by simp [h2])]
    · rw [List.find?_cons_of_neg (by simp [h2])]
      by_cases h1 : p y = true
      · rw [List.filter_cons_of_pos h1, List.find?_cons_of_neg (by simp [h2]), ih]
      · rw [List.filter_cons_of_neg h1, ih]
theorem look_none (R : List Row) (p : Row → Bool) (K : ByteArray) (hp : ∀ x : Row, x.1 = K → p x = false) : lookR (R.filter p) K = none := by
  unfold lookR
  rw [Option.map_eq_none_iff, List.find?_eq_none]
  intro x hx
  have := (List.mem_filter.1 hx).2
  intro e
  rw [hp x (by simpa using e)] at this
  cases this
theorem look_app (a b : List Row) (K : ByteArray) : lookR (a ++ b) K = (lookR a K).or (lookR b K) := by
  unfold lookR
  rw [List.find?_append]
  cases a.find? (fun x => decide (x.1 = K)) <;> simp
theorem look_put (R : List Row) (k : ByteArray) (n : Int) (K : ByteArray) : lookR (putR R k n) K = if k = K then some n else lookR R K := by
  unfold putR
  rw [look_app, look_app]
  by_cases h : k = K
  · subst h
    rw [if_pos rfl, look_none R _ k (fun x hx => by rw [hx]; simp [kLt_irrefl])]
    simp [lookR]
  · rw [if_neg h]
    have h1 : lookR [(k, n)] K = none := by unfold lookR; simp [h]
    rw [h1]
    by_cases h2 : kLt K k
    · rw [look_filter R _ K (fun x hx => by rw [hx]; simp [h2]), look_none R _ K (fun x hx => by rw [hx]; simp [kLt_asym h2])]
      simp
    · have h3 : kLt k K := by
        by_cases h4 : kLt k K
        · exact h4
        · exact absurd (kLt_tri h4 h2) h
      rw [look_none R _ K (fun x hx => by rw [hx]; simp [kLt_asym h3]), look_filter R _ K (fun x hx => by rw [hx]; simp [h3])]
      simp
/-- rows whose keys are among another's are no more than these -/
theorem asc_le : ∀ (b a : List Row), AscR a → AscR b → (∀ x ∈ a, ∃ y ∈ b, y.1 = x.1) → a.length ≤ b.length
  | [], a, _, _, h => by
    cases a with
    | nil => simp
    | cons x r => obtain ⟨y, hy, _⟩ := h x (by simp); simp at hy
  | y :: b, [], _, _, _ => by simp
  | y :: b, x :: a, ha, hb, h => by
    obtain ⟨ha1, ha2⟩ := List.pairwise_cons.1 ha
    obtain ⟨hb1, hb2⟩ := List.pairwise_cons.1 hb
    have hyx : y.1 = x.1 ∨ kLt y.1 x.1 := by
      obtain ⟨z, hz, e⟩ := h x (by simp)
      rcases List.mem_cons.1 hz with rfl | hz
      · exact .inl e
      · exact .inr (by rw [← e]; exact hb1 z hz)
    have := asc_le b a ha2 hb2 (fun u hu => by
      obtain ⟨z, hz, e⟩ := h u (by simp [hu])
      rcases List.mem_cons.1 hz with rfl | hz
      · have h3 := ha1 u hu
        rw [← e] at h3
        rcases hyx with h4 | h4
        · rw [h4] at h3; exact absurd h3 (kLt_irrefl _)
        · exact absurd (kLt_trans h3 h4) (kLt_irrefl _)
      · exact ⟨z, hz, e⟩)
    simp only [List.length_cons]
    omega
end Go.Proofs.Ytfmpohhaimgnfaa
