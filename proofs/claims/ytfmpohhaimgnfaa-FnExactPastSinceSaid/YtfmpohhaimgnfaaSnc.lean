/- The reference's l8Add and PastSince: keys in order, each once. -/
import Derived.Test.YtfmpohhaimgnfaaWritesAt
import Derived.Test.YtfmpohhaimgnfaaRowC
import Derived.Test.YtfmpohhaimgnfaaWriSS
namespace Go.Proofs.Ytfmpohhaimgnfaa
open Go.RowKit
theorem infoStr : (Try.prog.info? 9).map (fun i => (i.zero, i.size, i.bytes)) = some (some (.string ⟨#[]⟩), 1, 16) := by kernel_rfl
def encS (k : ByteArray) : List Value := [.string k]
theorem encS_len (k : ByteArray) : (encS k).length = 1 := rfl
theorem encS_one (l : List ByteArray) : ∀ u ∈ l.flatMap encS, u.oneCell' = true := by
  intro u hu
  obtain ⟨x, _, hx⟩ := List.mem_flatMap.1 hu
  simp [encS] at hx
  subst hx; rfl
def AscS (l : List ByteArray) : Prop := l.Pairwise kLt
open Classical in
noncomputable def addS (out : List ByteArray) (K : ByteArray) : List ByteArray := if K ∈ out then out else out.filter (fun x => decide (kLt x K)) ++ [K] ++ out.filter (fun x => decide (kLt K x))
noncomputable def addsL (out : List ByteArray) (M : List Wri) : List ByteArray := M.foldl (fun o w => addS o w.1) out
theorem addsL_app (out : List ByteArray) (a b : List Wri) : addsL out (a ++ b) = addsL (addsL out a) b := by unfold addsL; rw [List.foldl_append]
theorem asc_add {out : List ByteArray} (h : AscS out) (K : ByteArray) : AscS (addS out K) := by
  unfold addS
  split
  · exact h
  · refine List.pairwise_append.2 ⟨List.pairwise_append.2 ⟨List.Pairwise.filter _ h, List.pairwise_singleton _ _, ?_⟩, List.Pairwise.filter _ h, ?_⟩
    · intro a ha b hb
      simp only [List.mem_filter, decide_eq_true_eq] at ha
      simp only [List.mem_singleton] at hb
      subst hb; exact ha.2
    · intro a ha b hb
      simp only [List.mem_append, List.mem_filter, decide_eq_true_eq, List.mem_singleton] at ha hb
      rcases ha with ⟨_, ha⟩ | rfl
      · exact kLt_trans ha hb.2
      · exact hb.2
theorem mem_add {out : List ByteArray} {K k : ByteArray} : k ∈ addS out K ↔ k = K ∨ k ∈ out := by
  unfold addS
  split
  · rename_i h
    constructor
    · exact .inr
    · rintro (rfl | h2)
      · exact h
      · exact h2
  · simp only [List.mem_append, List.mem_filter, decide_eq_true_eq, List.mem_singleton]
    constructor
    · rintro ((⟨h, _⟩ | rfl) | ⟨h, _⟩)
      · exact .inr h
      · exact .inl rfl
      · exact .inr h
    · rintro (rfl | h)
      · exact .inl (.inr rfl)
      · by_cases h1 : kLt k K
        · exact .inl (.inl ⟨h, h1⟩)
        · by_cases h2 : kLt K k
          · exact .inr ⟨h, h2⟩
          · exact .inl (.inr (kLt_tri h1 h2))
theorem asc_adds {M : List Wri} : ∀ {out : List ByteArray}, AscS out → AscS (addsL out M) := by
  induction M with
  | nil => intro out h; exact h
  | cons w M ih => intro out h; exact ih (asc_add h w.1)
theorem mem_adds {M : List Wri} {k : ByteArray} : ∀ {out : List ByteArray}, k ∈ addsL out M ↔ k ∈ out ∨ ∃ w ∈ M, w.1 = k := by
  induction M with
  | nil => intro out; simp [addsL]
  | cons w M ih =>
    intro out
    have e : addsL out (w :: M) = addsL (addS out w.1) M := rfl
    rw [e, ih, mem_add]
    simp only [List.mem_cons, exists_eq_or_imp]
    constructor
    · rintro ((rfl | h) | h)
      · exact .inr (.inl rfl)
      · exact .inl h
      · exact .inr (.inr h)
    · rintro (h | rfl | h)
      · exact .inl (.inr h)
      · exact .inl (.inl rfl)
      · exact .inr h
theorem filt2_len (K : ByteArray) : ∀ (l : List ByteArray), (l.filter (fun x => decide (kLt x K))).length + (l.filter (fun x => decide (kLt K x))).length ≤ l.length
  | [] => by simp
  | x :: l => by
    have ih := filt2_len K l
    by_cases h1 : kLt x K
    · have h2 := kLt_asym h1
      rw [List.filter_cons_of_pos (by simpa using h1), List.filter_cons_of_neg (by simpa using h2)]
      simp only [List.length_cons]; omega
    · rw [List.filter_cons_of_neg (by simpa using h1)]
      by_cases h2 : kLt K x
      · rw [List.filter_cons_of_pos (by simpa using h2)]; simp only [List.length_cons]; omega
      · rw [List.filter_cons_of_neg (by simpa using h2)]; simp only [List.length_cons]; omega
theorem add_len (out : List ByteArray) (K : ByteArray) : (addS out K).length ≤ out.length + 1 := by
  unfold addS
  split
  · omega
  · have := filt2_len K out
    simp only [List.length_append, List.length_cons, List.length_nil]
    omega
theorem adds_len {M : List Wri} : ∀ {out : List ByteArray}, (addsL out M).length ≤ out.length + M.length := by
  induction M with
  | nil => intro out; simp [addsL]
  | cons w M ih =>
    intro out
    have e : addsL out (w :: M) = addsL (addS out w.1) M := rfl
    rw [e, List.length_cons]
    have := ih (out := addS out w.1)
    have := add_len out w.1
    omega
section
variable {l : List ByteArray} {K : ByteArray} {k : Nat}
theorem asc_at (h : AscS l) {i j : Nat} {x y : ByteArray} (hij : i < j) (hx : l[i]? = some x) (hy : l[j]? = some y) : kLt x y := by
  obtain ⟨h1, rfl⟩ := List.getElem?_eq_some_iff.1 hx
  obtain ⟨h2, rfl⟩ := List.getElem?_eq_some_iff.1 hy
  exact (List.pairwise_iff_getElem.1 h) i j h1 h2 hij
theorem add_at (ha : AscS l) (h1 : ∀ (i : Nat) (x : ByteArray), i < k → l[i]? = some x → kLt x K) (h2 : ∀ x, l[k]? = some x → kLt K x) : addS l K = l.take k ++ [K] ++ l.drop k := by
  have hlo : ∀ x ∈ l.take k, kLt x K := fun x hx => by obtain ⟨i, h3, h4⟩ := mem_takeI hx; exact h1 i x h3 h4
  have hhi : ∀ x ∈ l.drop k, kLt K x := fun x hx => by
    obtain ⟨i, h3, h4⟩ := mem_dropI hx
    by_cases e : i = k
    · subst e; exact h2 x h4
    · have hkl : k < l.length := by have := (List.getElem?_eq_some_iff.1 h4).1; omega
      have hz := List.getElem?_eq_getElem hkl
      exact kLt_trans (h2 _ hz) (asc_at ha (show k < i by omega) hz h4)
  have hnm : K ∉ l := fun h => by
    rw [← List.take_append_drop k l, List.mem_append] at h
    rcases h with h | h
    · exact kLt_irrefl _ (hlo K h)
    · exact kLt_irrefl _ (hhi K h)
  unfold addS
  rw [if_neg hnm]
  have e1 : l.filter (fun x => decide (kLt x K)) = (l.take k ++ l.drop k).filter (fun x => decide (kLt x K)) := by rw [List.take_append_drop]
  have e2 : l.filter (fun x => decide (kLt K x)) = (l.take k ++ l.drop k).filter (fun x => decide (kLt K x)) := by rw [List.take_append_drop]
  rw [e1, e2, List.filter_append, List.filter_append, filter_yes (fun x hx => by simpa using hlo x hx), filter_no (fun x hx => by simpa using kLt_asym (hhi x hx)), filter_no (fun x hx => by simpa using kLt_asym (hlo x hx)), filter_yes (fun x hx => by simpa using hhi x hx), List.append_nil, List.nil_append]
end
def OwnS (w : World) (B : Nat) (v : Value) (l : List ByteArray) : Prop := w.ownsRow B 9 1 v l.length (l.flatMap encS)
theorem OwnS.sl {w : World} {B : Nat} {v : Value} {l : List ByteArray} (h : OwnS w B v l) : ∃ A c, v = .slice A l.length c ∧ l.length ≤ c ∧ c ≤ maxLen ∧ Sl encS 1 w A l := Sl.of_own encS_len h
theorem OwnS.reads {w : World} {B c n : Nat} {A : Option Addr} {l : List ByteArray} (h : OwnS w B (.slice A n c) l) : Sl encS 1 w A l := by
  obtain ⟨a1, a2, a3, _, _, a4⟩ := h.sl
  injection a3 with b1 b2 b3
  subst b1; exact a4
theorem OwnS.le {w : World} {B B2 : Nat} {v : Value} {l : List ByteArray} (h : OwnS w B v l) (hb : B2 ≤ B) : OwnS w B2 v l := Go.Joins.ownsRow_le h hb
theorem ownS_app {w : World} {B : Nat} {v : Value} {l m : List ByteArray} (h : w.ownsRow B 9 1 v (l.length + m.length) (l.flatMap encS ++ m.flatMap encS)) : OwnS w B v (l ++ m) := by
  unfold OwnS; rw [List.length_append, List.flatMap_append]; exact h
theorem sls_one {w : World} {g : Nat} {x : ByteArray} (h : Blk w g 9 #[.string x]) : Sl encS 1 w (some ⟨g, 0, none⟩) [x] := by
  intro _
  refine ⟨g, 0, rfl, h.lt, fun i j y hy hj => ?_⟩
  obtain ⟨rfl, rfl⟩ : i = 0 ∧ y = x := by
    cases i with
    | zero => simp at hy; exact ⟨rfl, hy.symm⟩
    | succ i => simp at hy
  obtain rfl : j = 0 := by omega
  simp only [Nat.zero_mul, Nat.zero_add]
  rw [h.cell]; rfl
theorem sforms {w : World} {B c : Nat} {A : Option Addr} {R : List ByteArray} (h : OwnS w B (.slice A R.length c) R) : (A = none ∧ R = [] ∧ c = 0) ∨ ∃ g, A = some ⟨g, 0, none⟩ ∧ R.length ≤ c := by
  rcases h.2 with ⟨e, h0⟩ | ⟨g, cap, cur, e, _, hh, hn, hm, _⟩
  · injection e with e1 e2 e3
    exact .inl ⟨e1, List.eq_nil_of_length_eq_zero h0, e3⟩
  · injection e with e1 e2 e3
    subst e3
    exact .inr ⟨g, e1, hn⟩
theorem Sl.drop1 {w : World} {b o : Nat} {l : List ByteArray} (h : Sl encS 1 w (some ⟨b, o, none⟩) l) (k : Nat) : Sl encS 1 w (some ⟨b, o + k * 1, none⟩) (l.drop k) := by
  intro hl
  rw [List.length_drop] at hl
  obtain ⟨b', o', he, hb, hc⟩ := h (by omega)
  simp at he
  obtain ⟨rfl, rfl⟩ := he
  refine ⟨b, o + k * 1, rfl, hb, fun i j x hx hj => ?_⟩
  rw [List.getElem?_drop] at hx
  rw [show o + k * 1 + i * 1 + j = o + (k + i) * 1 + j by omega]
  exact hc (k + i) j x hx hj
theorem Sl.nilS {w : World} {A : Option Addr} {l : List ByteArray} (h : l.length = 0) : Sl encS 1 w A l := fun h2 => by omega
theorem ownS_hi {w : World} {B c k : Nat} {A : Option Addr} {R : List ByteArray} (h : OwnS w B (.slice A R.length c) R) (hk : k ≤ R.length) (W : World) :
    (Instr.sliceAt 48 (.slice A R.length c) none (some (.int .i64 (k : Int))) none).run Try.prog W = .ok (.slice A k c) W := by
  obtain ⟨i0, hi, hz0, hz1, hz2⟩ := info_parts infoStr
  rcases sforms h with ⟨rfl, rfl, rfl⟩ | ⟨g, rfl, hc1⟩
  · obtain rfl : k = 0 := by simpa using hk
    have hz : (Go.sizeOf 9).run Try.prog W = .ok i0.size W := by simp [Go.sizeOf, typeInfo, hi]
    simp [Instr.sliceAt, Instr.slice, run_underlying Try.underlying48, Instr.sliceBounds, run_sliceBound, hz, Result.andThen]
  · exact sl_hi W 48 9 Try.underlying48 i0 hi g 0 R.length c k (by omega)
theorem ownS_lo {w : World} {B c k : Nat} {A : Option Addr} {R : List ByteArray} (h : OwnS w B (.slice A R.length c) R) (hk : k ≤ R.length) :
    ∃ A2, (∀ (W : World) (l : Int), l = (k : Int) → (Instr.sliceAt 48 (.slice A R.length c) (some (.int .i64 l)) none none).run Try.prog W = .ok (.slice A2 (R.length - k) (c - k)) W) ∧ Sl encS 1 w A2 (R.drop k) := by
  obtain ⟨i0, hi, hz0, hz1, hz2⟩ := info_parts infoStr
  rcases sforms h with ⟨rfl, rfl, rfl⟩ | ⟨g, rfl, hc1⟩
  · obtain rfl : k = 0 := by simpa using hk
    refine ⟨none, fun W l hl => ?_, Sl.nilS (by simp)⟩
    subst hl
    have hz : (Go.sizeOf 9).run Try.prog W = .ok i0.size W := by simp [Go.sizeOf, typeInfo, hi]
    simp [Instr.sliceAt, Instr.slice, run_underlying Try.underlying48, Instr.sliceBounds, run_sliceBound, hz, Result.andThen]
  · refine ⟨_, fun W l hl => sl_lo W 48 9 Try.underlying48 i0 hi g 0 R.length c k l hl hk, ?_⟩
    rw [hz1]
    by_cases hkc : c = k
    · rw [if_pos hkc]; exact Sl.nilS (by rw [List.length_drop]; omega)
    · rw [if_neg hkc]
      have := (OwnS.reads h).drop1 k
      exact this
/-- what stands while a key is put in: the part behind it, the new row -/
def LS (w : World) (N : Nat) (AD : Option Addr) (cD : Nat) (D : List ByteArray) (v : Value) (m : List ByteArray) (W : World) : Prop :=
  OwnS W w.heap.size (.slice AD D.length cD) D ∧ (∀ j, (Value.slice AD D.length cD).ownBlock = some j → j < N) ∧ OwnS W N v m ∧ Below w.heap.size w W ∧ w.heap.size ≤ N ∧ N ≤ W.heap.size
theorem LS.start {w W : World} {AD : Option Addr} {cD : Nat} {D : List ByteArray} (h : OwnS W w.heap.size (.slice AD D.length cD) D) (hb : Below w.heap.size w W) : LS w W.heap.size AD cD D (.slice (some ⟨W.heap.size, 0, none⟩) 0 0) [] (W.alloc (.cells #[] 9)) := by
  have hba := (Below.refl W.heap.size W).alloc (Nat.le_refl _) (.cells #[] 9)
  exact ⟨own_kept h hba, fun j hj => (h.lt j hj).2, own_of_blk (Blk.new W 9 #[]) (Nat.le_refl _) (Nat.zero_le _) rfl rfl, bthen hb hba, hb.size, by simp⟩
theorem LS.below {w : World} {N : Nat} {AD : Option Addr} {cD : Nat} {D : List ByteArray} {v : Value} {m : List ByteArray} {W W' : World} (h : LS w N AD cD D v m W) (hb : Below W.heap.size W W') : LS w N AD cD D v m W' :=
  ⟨own_kept h.1 hb, h.2.1, own_kept h.2.2.1 hb, bthen h.2.2.2.1 hb, h.2.2.2.2.1, Nat.le_trans h.2.2.2.2.2 hb.size⟩
theorem LS.app {w : World} {N : Nat} {AD : Option Addr} {cD : Nat} {D : List ByteArray} {v v' : Value} {m m2 : List ByteArray} {W W' : World} (h : LS w N AD cD D v m W) (hg : W.grownBy W' v.ownBlock) (ho : OwnS W' N v' m2) : LS w N AD cD D v' m2 W' := by
  obtain ⟨h1, h2, h3, h4, h5, h6⟩ := h
  exact ⟨own_farW h1 hg (fun j e1 e2 => by have := h2 j e1; have := (h3.lt j e2).1; omega), h2, ho, below_own h4 hg h4.size (fun j hj => by have := (h3.lt j hj).1; omega), h5, Nat.le_trans h6 hg.size⟩
set_option maxRecDepth 100000 in
set_option maxHeartbeats 3000000 in
theorem l8Add_any (B : Nat) (A : Option Addr) (l : List ByteArray) (c : Nat) (key : ByteArray) (w : World) (hB : B ≤ w.heap.size) (hl : l.length ≤ 1048576) (ha : AscS l) (ho : OwnS w B (.slice A l.length c) l) :
    Calls Try.prog 84 #[.slice A l.length c, .string key] w fun e w' => ∃ v, e = .returned v ∧ OwnS w' B v (addS l key) ∧ Below w.heap.size w w' := by
  obtain ⟨i0, hi, hz0, hz1, hz2⟩ := info_parts infoStr
  have HI := Lib.hid (⟨hi, hz0, hz1, hz2⟩ : _ ∧ _ ∧ _ ∧ _)
  have HA := Lib.hid ha
  have HO := Lib.hid ho
  clear hi hz0 hz1 hz2 ha ho
  go_enter Try.func84, Try.ntmps84
  go_wp2
  go_loopw [5] (fun i wr => ∃ k : Nat, k ≤ l.length ∧ i = .int .i64 k ∧ Hid (∀ (j : Nat) (x : ByteArray), j < k → l[j]? = some x → kLt x key) ∧ Below w.heap.size w wr) (fun i _ => l.length - (intOf i).toNat)
  case atStart => exact ⟨0, Nat.zero_le _, rfl, Lib.hid (fun j x h => absurd h (by omega)), Below.refl _ _⟩
  case round =>
    obtain ⟨k, hk, rfl, HK, hb⟩ := hrel
    by_cases hlt : k < l.length
    · obtain ⟨b, o, e2, hbl, c0⟩ := Sl.at1 (f := fun x : ByteArray => Value.string x) (HO.out.reads.below hb) hlt
      have HX := Lib.hid (List.getElem?_eq_getElem hlt)
      generalize l[k] = x at *
      have hki : (k : Int) < (l.length : Int) := by omega
      have hki0 : (0 : Int) ≤ (k : Int) := by omega
      by_cases hq : kLt x key
      · have d0 : Op.bytesLess x.toList key.toList = true := hq
        have HK2 := Lib.hid (show ∀ (j : Nat) (y : ByteArray), j < k + 1 → l[j]? = some y → kLt y key from fun j y h1 h2 => by
          by_cases e : j = k
          · subst e; rw [HX.out] at h2; injection h2 with h2; subst h2; exact hq
          · exact HK.out j y (by omega) h2)
        clear hq
        subst e2
        go_wp2
        go_roundw
        case rel => exact ⟨k + 1, by omega, by go_num, HK2, hb⟩
        case measure => simp [intOf]; omega
      · have d0 : Op.bytesLess x.toList key.toList = false := by cases h : Op.bytesLess x.toList key.toList; rfl; exact absurd h hq
        by_cases he : x = key
        · have d1 : (x.toList == key.toList) = true := by rw [bytes_beq]; simpa using he
          have HAD := Lib.hid (show addS l key = l from by unfold addS; rw [if_pos (by rw [← he]; exact List.mem_of_getElem? HX.out)])
          have HOW := Lib.hid (show OwnS wr B (.slice A l.length c) l from own_kept HO.out (hb.mono (Nat.le_refl _)))
          clear he hq
          subst e2
          go_wp2
          go_ret
          exact ⟨_, rfl, by rw [HAD.out]; exact HOW.out, hb⟩
        · have d1 : (x.toList == key.toList) = false := by rw [bytes_beq]; simpa using he
          have HADD := Lib.hid (add_at HA.out HK.out (fun y hy => by
            rw [HX.out] at hy; injection hy with hy; subst hy
            by_cases h5 : kLt key x
            · exact h5
            · exact absurd (kLt_tri hq h5) he))
          clear he hq
          subst e2
          have hs1 := ownS_hi HO.out hk
          have HTL := Lib.hid (show (l.take k).length = k by rw [List.length_take]; omega)
          have HDL := Lib.hid (show (l.drop k).length = l.length - k by rw [List.length_drop])
          have HST := Lib.hid (HO.out.reads.take k)
          obtain ⟨AX, hs2', hSX⟩ := ownS_lo HO.out hk
          have hs2 := fun W => hs2' W (k : Int) rfl
          have hbA := (Below.refl wr.heap.size wr).alloc (Nat.le_refl _) (.cells #[] 9)
          have HB1 := Lib.hid (bthen hb hbA)
          have HSD := Lib.hid (hSX.below HB1.out)
          have HE1 := Lib.hid (show OwnS (wr.alloc (.cells #[] 9)) w.heap.size (.slice (some ⟨wr.heap.size, 0, none⟩) 0 0) [] from own_of_blk (Blk.new wr 9 #[]) hb.size (Nat.zero_le _) rfl rfl)
          have hwsz := hb.size
          clear hs2' hSX hbA
          generalize l.take k = T at *
          generalize l.drop k = D at *
          have hTk := HTL.out
          have hDk := HDL.out
          have H631 := Lib.hid (show ([] : List ByteArray).length + D.length ≤ maxLen by unfold maxLen; simp; omega)
          have HBY1 := Lib.hid (show (([] : List ByteArray).length + D.length) * 16 ≤ 140737488355328 by simp; omega)
          have HBS1 := Lib.hid HB1.out.size
          have H6T := Lib.hid (show ([] : List ByteArray).length + T.length ≤ maxLen by unfold maxLen; simp; omega)
          have HBYT := Lib.hid (show (([] : List ByteArray).length + T.length) * 16 ≤ 140737488355328 by simp; omega)
          have H6T1 := Lib.hid (show T.length + [key].length ≤ maxLen by unfold maxLen; simp; omega)
          have HBYT1 := Lib.hid (show (T.length + [key].length) * 16 ≤ 140737488355328 by simp; omega)
          have H6A := Lib.hid (show (T ++ [key]).length + D.length ≤ maxLen by unfold maxLen; simp; omega)
          have HBYA := Lib.hid (show ((T ++ [key]).length + D.length) * 16 ≤ 140737488355328 by simp; omega)
          clear hTk hDk
          go_wp2_with (first
            | (at_builtin; refine wpList_append_slM (enc := encS) rfl (.tmp 34) (.tmp 37) 48 rfl w.heap.size 9 i0 _ 1 16 Try.underlying48 HI.out.1 HI.out.2.1 HI.out.2.2.1 HI.out.2.2.2 rfl (by decide) (.slice (some ⟨wr.heap.size, 0, none⟩) 0 0) ([] : List ByteArray).length (([] : List ByteArray).flatMap encS) rfl HE1.out encS_len AX D (l.length - k) (c - k) HDL.out.symm (by first | rfl | simp [Act.eval]) HSD.out (encS_one _) H631.out HBY1.out HBS1.out ?_; intro v1 w1 hown hgr _; obtain ⟨m1, hm2, ho2⟩ : ∃ mm, mm = ([] : List ByteArray) ++ D ∧ OwnS w1 w.heap.size v1 mm := ⟨_, rfl, ownS_app (l := ([] : List ByteArray)) (m := D) hown⟩; obtain ⟨A1, c1, rfl, _, _, hS5⟩ := ho2.sl; have HM1 := Lib.hid (show m1 = D from (by rw [hm2]; rfl)); have hb1 := below_own HB1.out hgr HB1.out.size (fun j hj => by simp [Value.ownBlock] at hj; omega); have HL1 := Lib.hid (show LS w w1.heap.size A1 c1 m1 (.slice (some ⟨w1.heap.size, 0, none⟩) 0 0) [] (w1.alloc (.cells #[] 9)) from LS.start ho2 hb1); have HS1 := Lib.hid (HST.out.below HL1.out.2.2.2.1); have H632 := Lib.hid (show ([] : List ByteArray).length + T.length ≤ maxLen from H6T.out); have HBY2 := Lib.hid (show (([] : List ByteArray).length + T.length) * 16 ≤ 140737488355328 from HBYT.out); have HBS2 := Lib.hid (show w1.heap.size ≤ (w1.alloc (.cells #[] 9)).heap.size from (by simp)); clear hb1; clear hS5 hown hgr hm2 ho2)
            | (at_builtin; refine wpList_append_slM (enc := encS) rfl (.tmp 39) (.tmp 42) 48 rfl w1.heap.size 9 i0 _ 1 16 Try.underlying48 HI.out.1 HI.out.2.1 HI.out.2.2.1 HI.out.2.2.2 rfl (by decide) (.slice (some ⟨w1.heap.size, 0, none⟩) 0 0) ([] : List ByteArray).length (([] : List ByteArray).flatMap encS) rfl HL1.out.2.2.1 encS_len (some ⟨b, o, none⟩) T k c HTL.out.symm (by first | rfl | simp [Act.eval]) HS1.out (encS_one _) H632.out HBY2.out HBS2.out ?_; intro v2 w2 hown hgr _; obtain ⟨m2, hm2, ho2⟩ : ∃ mm, mm = ([] : List ByteArray) ++ T ∧ OwnS w2 w1.heap.size v2 mm := ⟨_, rfl, ownS_app (l := ([] : List ByteArray)) (m := T) hown⟩; obtain ⟨A2, c2, rfl, _, _, hS5⟩ := ho2.sl; have HL2 := Lib.hid (HL1.out.app hgr ho2); have HM2 := Lib.hid (show m2 = T from (by rw [hm2]; rfl)); have hb2 := (Below.refl w2.heap.size w2).alloc (Nat.le_refl _) (.cells #[.string key] 9); have HL3 := Lib.hid (HL2.out.below hb2); have HX2 := Lib.hid (sls_one (Blk.new w2 9 #[.string key])); have H633 := Lib.hid (show m2.length + [key].length ≤ maxLen from (by rw [HM2.out]; exact H6T1.out)); have HBY3 := Lib.hid (show (m2.length + [key].length) * 16 ≤ 140737488355328 from (by rw [HM2.out]; exact HBYT1.out)); have HBS3 := Lib.hid (show w1.heap.size ≤ (w2.alloc (.cells #[.string key] 9)).heap.size from (by have := HL3.out.2.2.2.2.2; exact this)); clear hb2 HL1 HS1 HL2; clear hS5 hown hgr hm2 ho2)
            | (at_builtin; refine wpList_append_slM (enc := encS) rfl (.tmp 43) (.tmp 45) 48 rfl w1.heap.size 9 i0 _ 1 16 Try.underlying48 HI.out.1 HI.out.2.1 HI.out.2.2.1 HI.out.2.2.2 rfl (by decide) (.slice A2 m2.length c2) m2.length (m2.flatMap encS) rfl HL3.out.2.2.1 encS_len (some ⟨w2.heap.size, 0, none⟩) [key] 1 1 rfl (by first | rfl | simp [Act.eval]) HX2.out (encS_one _) H633.out HBY3.out HBS3.out ?_; intro v3 w3 hown hgr _; obtain ⟨m3, hm2, ho2⟩ : ∃ mm, mm = m2 ++ [key] ∧ OwnS w3 w1.heap.size v3 mm := ⟨_, rfl, ownS_app (l := m2) (m := [key]) hown⟩; obtain ⟨A3, c3, rfl, _, _, hS5⟩ := ho2.sl; have HL4 := Lib.hid (HL3.out.app hgr ho2); have HM3 := Lib.hid (show m3 = T ++ [key] from (by rw [hm2, HM2.out])); have H634 := Lib.hid (show m3.length + m1.length ≤ maxLen from (by rw [HM3.out, HM1.out]; exact H6A.out)); have HBY4 := Lib.hid (show (m3.length + m1.length) * 16 ≤ 140737488355328 from (by rw [HM3.out, HM1.out]; exact HBYA.out)); have HBS4 := Lib.hid (show w1.heap.size ≤ w3.heap.size from HL4.out.2.2.2.2.2); have HSD4 := Lib.hid (show Sl encS 1 w3 A1 m1 from HL4.out.1.reads); clear HL3 HX2; clear hS5 hown hgr hm2 ho2)
            | (at_builtin; refine wpList_append_slM (enc := encS) rfl (.tmp 46) (.tmp 47) 48 rfl w1.heap.size 9 i0 _ 1 16 Try.underlying48 HI.out.1 HI.out.2.1 HI.out.2.2.1 HI.out.2.2.2 rfl (by decide) (.slice A3 m3.length c3) m3.length (m3.flatMap encS) rfl HL4.out.2.2.1 encS_len A1 m1 m1.length c1 rfl (by first | rfl | simp [Act.eval]) HSD4.out (encS_one _) H634.out HBY4.out HBS4.out ?_; intro v4 w4 hown hgr _; obtain ⟨m4, hm2, ho2⟩ : ∃ mm, mm = m3 ++ m1 ∧ OwnS w4 w1.heap.size v4 mm := ⟨_, rfl, ownS_app (l := m3) (m := m1) hown⟩; obtain ⟨A4, c4, rfl, _, _, hS5⟩ := ho2.sl; have HL5 := Lib.hid (HL4.out.app hgr ho2); have HM4 := Lib.hid (show m4 = addS l key from (by rw [hm2, HM3.out, HM1.out, HADD.out])); clear HL4; clear hS5 hown hgr hm2 ho2))
          go_ret
          exact ⟨_, rfl, by rw [← HM4.out]; exact OwnS.le HL5.out.2.2.1 (by have := HL5.out.2.2.2.2.1; omega), HL5.out.2.2.2.1⟩
    · obtain rfl : k = l.length := by omega
      have HADD := Lib.hid (add_at (k := l.length) HA.out HK.out (fun y hy => by rw [List.getElem?_eq_none (Nat.le_refl _)] at hy; cases hy))
      have hs1 := ownS_hi HO.out hk
      have HTL := Lib.hid (show (l.take l.length).length = l.length by rw [List.length_take]; omega)
      have HDL := Lib.hid (show (l.drop l.length).length = l.length - l.length by rw [List.length_drop])
      have HST := Lib.hid (HO.out.reads.take l.length)
      obtain ⟨AX, hs2', hSX⟩ := ownS_lo HO.out hk
      have hs2 := fun W => hs2' W (l.length : Int) rfl
      have hbA := (Below.refl wr.heap.size wr).alloc (Nat.le_refl _) (.cells #[] 9)
      have HB1 := Lib.hid (bthen hb hbA)
      have HSD := Lib.hid (hSX.below HB1.out)
      have HE1 := Lib.hid (show OwnS (wr.alloc (.cells #[] 9)) w.heap.size (.slice (some ⟨wr.heap.size, 0, none⟩) 0 0) [] from own_of_blk (Blk.new wr 9 #[]) hb.size (Nat.zero_le _) rfl rfl)
      have hwsz := hb.size
      clear hs2' hSX hbA
      generalize l.take l.length = T at *
      generalize l.drop l.length = D at *
      have hTk := HTL.out
      have hDk := HDL.out
      have H631 := Lib.hid (show ([] : List ByteArray).length + D.length ≤ maxLen by unfold maxLen; simp; omega)
      have HBY1 := Lib.hid (show (([] : List ByteArray).length + D.length) * 16 ≤ 140737488355328 by simp; omega)
      have HBS1 := Lib.hid HB1.out.size
      have H6T := Lib.hid (show ([] : List ByteArray).length + T.length ≤ maxLen by unfold maxLen; simp; omega)
      have HBYT := Lib.hid (show (([] : List ByteArray).length + T.length) * 16 ≤ 140737488355328 by simp; omega)
      have H6T1 := Lib.hid (show T.length + [key].length ≤ maxLen by unfold maxLen; simp; omega)
      have HBYT1 := Lib.hid (show (T.length + [key].length) * 16 ≤ 140737488355328 by simp; omega)
      have H6A := Lib.hid (show (T ++ [key]).length + D.length ≤ maxLen by unfold maxLen; simp; omega)
      have HBYA := Lib.hid (show ((T ++ [key]).length + D.length) * 16 ≤ 140737488355328 by simp; omega)
      clear hTk hDk
      go_wp2_with (first
        | (at_builtin; refine wpList_append_slM (enc := encS) rfl (.tmp 34) (.tmp 37) 48 rfl w.heap.size 9 i0 _ 1 16 Try.underlying48 HI.out.1 HI.out.2.1 HI.out.2.2.1 HI.out.2.2.2 rfl (by decide) (.slice (some ⟨wr.heap.size, 0, none⟩) 0 0) ([] : List ByteArray).length (([] : List ByteArray).flatMap encS) rfl HE1.out encS_len AX D (l.length - l.length) (c - l.length) HDL.out.symm (by first | rfl | simp [Act.eval]) HSD.out (encS_one _) H631.out HBY1.out HBS1.out ?_; intro v1 w1 hown hgr _; obtain ⟨m1, hm2, ho2⟩ : ∃ mm, mm = ([] : List ByteArray) ++ D ∧ OwnS w1 w.heap.size v1 mm := ⟨_, rfl, ownS_app (l := ([] : List ByteArray)) (m := D) hown⟩; obtain ⟨A1, c1, rfl, _, _, hS5⟩ := ho2.sl; have HM1 := Lib.hid (show m1 = D from (by rw [hm2]; rfl)); have hb1 := below_own HB1.out hgr HB1.out.size (fun j hj => by simp [Value.ownBlock] at hj; omega); have HL1 := Lib.hid (show LS w w1.heap.size A1 c1 m1 (.slice (some ⟨w1.heap.size, 0, none⟩) 0 0) [] (w1.alloc (.cells #[] 9)) from LS.start ho2 hb1); have HS1 := Lib.hid (HST.out.below HL1.out.2.2.2.1); have H632 := Lib.hid (show ([] : List ByteArray).length + T.length ≤ maxLen from H6T.out); have HBY2 := Lib.hid (show (([] : List ByteArray).length + T.length) * 16 ≤ 140737488355328 from HBYT.out); have HBS2 := Lib.hid (show w1.heap.size ≤ (w1.alloc (.cells #[] 9)).heap.size from (by simp)); clear hb1; clear hS5 hown hgr hm2 ho2)
        | (at_builtin; refine wpList_append_slM (enc := encS) rfl (.tmp 39) (.tmp 42) 48 rfl w1.heap.size 9 i0 _ 1 16 Try.underlying48 HI.out.1 HI.out.2.1 HI.out.2.2.1 HI.out.2.2.2 rfl (by decide) (.slice (some ⟨w1.heap.size, 0, none⟩) 0 0) ([] : List ByteArray).length (([] : List ByteArray).flatMap encS) rfl HL1.out.2.2.1 encS_len A T l.length c HTL.out.symm (by first | rfl | simp [Act.eval]) HS1.out (encS_one _) H632.out HBY2.out HBS2.out ?_; intro v2 w2 hown hgr _; obtain ⟨m2, hm2, ho2⟩ : ∃ mm, mm = ([] : List ByteArray) ++ T ∧ OwnS w2 w1.heap.size v2 mm := ⟨_, rfl, ownS_app (l := ([] : List ByteArray)) (m := T) hown⟩; obtain ⟨A2, c2, rfl, _, _, hS5⟩ := ho2.sl; have HL2 := Lib.hid (HL1.out.app hgr ho2); have HM2 := Lib.hid (show m2 = T from (by rw [hm2]; rfl)); have hb2 := (Below.refl w2.heap.size w2).alloc (Nat.le_refl _) (.cells #[.string key] 9); have HL3 := Lib.hid (HL2.out.below hb2); have HX2 := Lib.hid (sls_one (Blk.new w2 9 #[.string key])); have H633 := Lib.hid (show m2.length + [key].length ≤ maxLen from (by rw [HM2.out]; exact H6T1.out)); have HBY3 := Lib.hid (show (m2.length + [key].length) * 16 ≤ 140737488355328 from (by rw [HM2.out]; exact HBYT1.out)); have HBS3 := Lib.hid (show w1.heap.size ≤ (w2.alloc (.cells #[.string key] 9)).heap.size from (by have := HL3.out.2.2.2.2.2; exact this)); clear hb2 HL1 HS1 HL2; clear hS5 hown hgr hm2 ho2)
        | (at_builtin; refine wpList_append_slM (enc := encS) rfl (.tmp 43) (.tmp 45) 48 rfl w1.heap.size 9 i0 _ 1 16 Try.underlying48 HI.out.1 HI.out.2.1 HI.out.2.2.1 HI.out.2.2.2 rfl (by decide) (.slice A2 m2.length c2) m2.length (m2.flatMap encS) rfl HL3.out.2.2.1 encS_len (some ⟨w2.heap.size, 0, none⟩) [key] 1 1 rfl (by first | rfl | simp [Act.eval]) HX2.out (encS_one _) H633.out HBY3.out HBS3.out ?_; intro v3 w3 hown hgr _; obtain ⟨m3, hm2, ho2⟩ : ∃ mm, mm = m2 ++ [key] ∧ OwnS w3 w1.heap.size v3 mm := ⟨_, rfl, ownS_app (l := m2) (m := [key]) hown⟩; obtain ⟨A3, c3, rfl, _, _, hS5⟩ := ho2.sl; have HL4 := Lib.hid (HL3.out.app hgr ho2); have HM3 := Lib.hid (show m3 = T ++ [key] from (by rw [hm2, HM2.out])); have H634 := Lib.hid (show m3.length + m1.length ≤ maxLen from (by rw [HM3.out, HM1.out]; exact H6A.out)); have HBY4 := Lib.hid (show (m3.length + m1.length) * 16 ≤ 140737488355328 from (by rw [HM3.out, HM1.out]; exact HBYA.out)); have HBS4 := Lib.hid (show w1.heap.size ≤ w3.heap.size from HL4.out.2.2.2.2.2); have HSD4 := Lib.hid (show Sl encS 1 w3 A1 m1 from HL4.out.1.reads); clear HL3 HX2; clear hS5 hown hgr hm2 ho2)
        | (at_builtin; refine wpList_append_slM (enc := encS) rfl (.tmp 46) (.tmp 47) 48 rfl w1.heap.size 9 i0 _ 1 16 Try.underlying48 HI.out.1 HI.out.2.1 HI.out.2.2.1 HI.out.2.2.2 rfl (by decide) (.slice A3 m3.length c3) m3.length (m3.flatMap encS) rfl HL4.out.2.2.1 encS_len A1 m1 m1.length c1 rfl (by first | rfl | simp [Act.eval]) HSD4.out (encS_one _) H634.out HBY4.out HBS4.out ?_; intro v4 w4 hown hgr _; obtain ⟨m4, hm2, ho2⟩ : ∃ mm, mm = m3 ++ m1 ∧ OwnS w4 w1.heap.size v4 mm := ⟨_, rfl, ownS_app (l := m3) (m := m1) hown⟩; obtain ⟨A4, c4, rfl, _, _, hS5⟩ := ho2.sl; have HL5 := Lib.hid (HL4.out.app hgr ho2); have HM4 := Lib.hid (show m4 = addS l key from (by rw [hm2, HM3.out, HM1.out, HADD.out])); clear HL4; clear hS5 hown hgr hm2 ho2))
      go_ret
      exact ⟨_, rfl, by rw [← HM4.out]; exact OwnS.le HL5.out.2.2.1 (by have := HL5.out.2.2.2.2.1; omega), HL5.out.2.2.2.1⟩
end Go.Proofs.Ytfmpohhaimgnfaa
