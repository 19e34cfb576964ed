/- The reference's PastAt: what was done at a time, if the store is right and the time is one. What is done once more leaves what was done: plain words. What was done at a time, told from the store that it left: plain words. What the laws of the past hold while they run: a store in a box, and lists of what was done. The program's PastFold. Two stores, or two rows of rows, that read as the same lists are told to be one. An argument that is a slice of bytes reads as a list. The program's VersLast at any store. -/
import Derived.Test.YtpjkcmmmpgncmaaPAll
import Derived.Test.YtpjkcmmmpgncmaaWritesAt
import Derived.Test.YtpjkcmmmpgncmaaRowC
import Derived.Test.YtpjkcmmmpgncmaaFoldP
import Derived.Test.YtpjkcmmmpgncmaaImplAt
import Derived.Test.YtpjkcmmmpgncmaaDraw
import Derived.OpenShut
import Derived.ShutString
import Derived.ChangeOld
import Derived.Test.YtpjkcmmmpgncmaaPlainV
namespace Go.Proofs.Ytpjkcmmmpgncmaa
open Go.RowKit
set_option maxRecDepth 100000 in
set_option maxHeartbeats 1000000 in
theorem specPastAt_any (A : Option Addr) (l : List Ver) (c : Nat) (now t : Int) (w : World) (hf : FitsV l) (hn : l.length ≤ 1048576) (hS : Sl encVer 4 w A l) :
    Calls Try.prog 18 #[.agg #[.int .i64 now, .slice A l.length c], .int .i64 t] w fun e w' => ∃ v, e = .returned v ∧ OwnW w' w.heap.size v (pastL now l t) ∧ Below w.heap.size w w' := by
  have hb0 := (Below.refl w.heap.size w).alloc (Nat.le_refl _) (.cells #[.int .i64 now, .slice A l.length c] 32)
  have hB0 := Blk.new w 32 #[.int .i64 now, .slice A l.length c]
  have HV := Lib.hid (specVersOk_any A l c now _ hf hn (hS.below hb0))
  have HS := Lib.hid (hS.below hb0)
  have HF := Lib.hid hf
  clear hS hf
  go_enter Try.func18, Try.ntmps18
  go_wp2_with fail
  refine HV.out.mono ?_
  rintro e w1 ⟨rfl, hb1⟩
  have hb := bthen hb0 hb1
  have hB1 := hB0.kept hb1
  have r0 : w1.cell? ⟨w.heap.size, 0, none⟩ = some (.int .i64 now) := hB1.cell 0
  have r1 : w1.cell? ⟨w.heap.size, 1, none⟩ = some (.slice A l.length c) := hB1.cell 1
  have HS1 := Lib.hid (HS.out.below hb1)
  clear HV HS hB0 hB1 hb0 hb1
  have hba := hb.alloc hb.size (.cells #[] 46)
  have HOE := Lib.hid (show OwnW (w1.alloc (.cells #[] 46)) w.heap.size (.slice (some ⟨w1.heap.size, 0, none⟩) 0 0) [] from
    own_of_blk (base := w.heap.size) (n := 0) (k := 3) (xs := []) (Blk.new w1 46 #[]) hb.size (Nat.zero_le _) rfl rfl)
  cases hv : versB now l
  · have HP := Lib.hid (show pastL now l t = [] from if_neg (fun h => by rw [hv] at h; cases h.1))
    clear hv
    go_wp2
    go_ret
    exact ⟨_, rfl, by rw [HP.out]; exact HOE.out, hba⟩
  have HVV := Lib.hid hv
  clear hv
  by_cases h1 : t < 1
  · have HP := Lib.hid (show pastL now l t = [] from if_neg (fun h => by omega))
    have d0 : decide (t < 1) = true := decide_eq_true h1
    clear h1
    go_wp2
    go_ret
    exact ⟨_, rfl, by rw [HP.out]; exact HOE.out, hba⟩
  have d0 : decide (t < 1) = false := decide_eq_false h1
  by_cases h2 : now < t
  · have HP := Lib.hid (show pastL now l t = [] from if_neg (fun h => by omega))
    have d1 : decide (now < t) = true := decide_eq_true h2
    clear h1 h2
    go_wp2
    go_ret
    exact ⟨_, rfl, by rw [HP.out]; exact HOE.out, hba⟩
  have d1 : decide (now < t) = false := decide_eq_false h2
  have HP := Lib.hid (show pastL now l t = l8L l t from if_pos ⟨HVV.out, by omega, by omega⟩)
  have HW := Lib.hid (l8AtF_any A l c now t w1 HF.out (by have := (versB_out HVV.out).1.2.2; omega) HS1.out)
  clear h1 h2
  go_wp2_with fail
  refine HW.out.mono ?_
  rintro e w2 ⟨v, rfl, ho, _, _, hb2⟩
  have HO := Lib.hid (OwnW.leB ho hb.size)
  have hbe := bthen hb hb2
  clear ho hb2 HW
  go_wp2
  go_ret
  exact ⟨v, rfl, by rw [HP.out]; exact HO.out, hbe⟩
end Go.Proofs.Ytpjkcmmmpgncmaa
namespace Go.Proofs.Ytpjkcmmmpgncmaa
open Go.RowKit
theorem upd_mem {K : ByteArray} : ∀ {M : List Wri} {o : Option Wri} {w : Wri}, M.Pairwise (fun a b => kLt a.1 b.1) → w ∈ M → w.1 = K → upd K o M = some w
  | v :: M, o, w, h, hw, he => by
    obtain ⟨h1, h2⟩ := List.pairwise_cons.1 h
    have eu : upd K o (v :: M) = upd K (if v.1 = K then some v else o) M := rfl
    rcases List.mem_cons.1 hw with rfl | hw
    · rw [eu, if_pos he, upd_none_of (fun x hx e => by have := h1 x hx; rw [he, e] at this; exact kLt_irrefl _ this)]
    · rw [eu]; exact upd_mem h2 hw he
theorem val_mem {now : Int} {l : List Ver} (h : versB now l = true) {t : Int} {K : ByteArray} {n : Int} : valAt K t l = some n ↔ ∃ x ∈ l, visB x t = true ∧ x.1 = K ∧ x.2.1 = n := by
  have ha : AscR (atL l t) := atL_pairwise (versB_out h) t
  have e : valAt K t l = lookR (atL l t) K := valAt_at K t l
  rw [e]
  have hm := look_mem ha (x := (K, n))
  rw [← hm]
  unfold atL
  simp only [List.mem_map, List.mem_filter]
  constructor
  · rintro ⟨x, ⟨h1, h2⟩, h3⟩
    injection h3 with h4 h5
    exact ⟨x, h1, h2, h4, h5⟩
  · rintro ⟨x, h1, h2, rfl, rfl⟩
    exact ⟨x, ⟨h1, h2⟩, rfl⟩
theorem val_none {now : Int} {l : List Ver} (h : versB now l = true) {t : Int} {K : ByteArray} (hn : ∀ x ∈ l, visB x t = true → x.1 ≠ K) : valAt K t l = none := by
  cases hv : valAt K t l with
  | none => rfl
  | some n =>
    obtain ⟨x, h1, h2, h3, _⟩ := (val_mem h).1 hv
    exact absurd h3 (hn x h1 h2)
/-- what stands at a time is what stood ahead of it, and what was done -/
theorem valAt_l8 {K : ByteArray} {now : Int} {l : List Ver} (h : versB now l = true) {t : Int} (ht : 1 ≤ t) {o : Option Wri} (ho : valAt K (t - 1) l = valO o) : valAt K t l = valO (upd K o (l8L l t)) := by
  have hP := versB_out h
  have hasc := l8L_asc hP t
  have hv : ∀ x ∈ l, 1 ≤ x.2.2.1 ∧ (x.2.2.2 = 0 ∨ x.2.2.1 < x.2.2.2) := fun x hx => by have := verB_iff.1 (versP_mem hP hx); omega
  by_cases h1 : ∃ x ∈ l, x.1 = K ∧ x.2.2.1 = t
  · obtain ⟨x, hx, hk, hft⟩ := h1
    have hw : (x.1, x.2.1, false) ∈ l8L l t := l8L_mem.2 (.inl ⟨x, hx, hft, rfl⟩)
    rw [upd_mem hasc hw hk]
    have hvx := hv x hx
    exact (val_mem h).2 ⟨x, hx, visB_iff.2 ⟨by omega, by omega⟩, hk, rfl⟩
  · by_cases h2 : ∃ x ∈ l, x.1 = K ∧ x.2.2.2 = t
    · obtain ⟨x, hx, hk, hto⟩ := h2
      have hb : begB l x.1 t = false := by
        cases hb : begB l x.1 t with
        | false => rfl
        | true =>
          obtain ⟨y, hy, h3, h4⟩ := begB_iff.1 hb
          exact absurd ⟨y, hy, h3.trans hk, h4⟩ h1
      have hw : (x.1, 0, true) ∈ l8L l t := l8L_mem.2 (.inr ⟨x, hx, hto, hb, rfl⟩)
      rw [upd_mem hasc hw hk]
      refine val_none h (fun y hy hvy hky => ?_)
      have hy1 := visB_iff.1 hvy
      have hfy : y.2.2.1 ≠ t := fun e => h1 ⟨y, hy, hky, e⟩
      have hvx := hv x hx
      have hxy : x.1 = y.1 := hk.trans hky.symm
      obtain ⟨i, hi⟩ := List.getElem?_of_mem hx
      obtain ⟨j, hj⟩ := List.getElem?_of_mem hy
      rcases Nat.lt_trichotomy i j with e | e | e
      · rcases vers_pairs hP j i x y e hi hj with h5 | ⟨_, h6, h7⟩
        · rw [hxy] at h5; exact kLt_irrefl _ h5
        · omega
      · subst e; rw [hi] at hj; injection hj with hj; subst hj; omega
      · rcases vers_pairs hP i j y x e hj hi with h5 | ⟨_, h6, h7⟩
        · rw [hxy] at h5; exact kLt_irrefl _ h5
        · omega
    · have hn : ∀ w ∈ l8L l t, w.1 ≠ K := fun w hw e => by
        rcases l8L_mem.1 hw with ⟨x, hx, h3, rfl⟩ | ⟨x, hx, h3, _, rfl⟩
        · exact h1 ⟨x, hx, e, h3⟩
        · exact h2 ⟨x, hx, e, h3⟩
      rw [upd_none_of hn, ← ho]
      unfold valAt keyV
      rw [List.filter_filter, List.filter_filter]
      congr 2
      refine List.filter_congr (fun x hx => ?_)
      by_cases e : x.1 = K
      · have hf : x.2.2.1 ≠ t := fun e2 => h1 ⟨x, hx, e, e2⟩
        have hto : x.2.2.2 ≠ t := fun e2 => h2 ⟨x, hx, e, e2⟩
        have : visB x t = visB x (t - 1) := by
          rw [Bool.eq_iff_iff, visB_iff, visB_iff]
          omega
        rw [this]
      · simp [e]
theorem doneL_take (l : List Ver) {k m : Nat} (h : k ≤ m) : (doneL l m).take k = doneL l k := by
  unfold doneL
  rw [← List.map_take, List.take_range, Nat.min_eq_left h]
theorem valAt_done {K : ByteArray} {now : Int} {l : List Ver} (h : versB now l = true) : ∀ (k : Nat), valAt K (k : Int) l = valO (lastW K (doneL l k)) := by
  intro k
  induction k with
  | zero =>
    refine val_none h (fun x hx hvx _ => ?_)
    have := verB_iff.1 (versP_mem (versB_out h) hx)
    have := visB_iff.1 hvx
    omega
  | succ k ih =>
    have e : lastW K (doneL l (k + 1)) = upd K (lastW K (doneL l k)) (l8L l ((k : Int) + 1)) := by
      unfold lastW
      rw [doneL_succ, List.foldl_append]; rfl
    rw [e, show ((k + 1 : Nat) : Int) = (k : Int) + 1 by omega]
    exact valAt_l8 h (by omega) (by rw [show (k : Int) + 1 - 1 = (k : Int) by omega]; exact ih)
/-- done once more, one behind the other, it leaves the rows of each time -/
theorem replay {now n : Int} {l L : List Ver} (h : versB now l = true) (hg : goF 0 [] (doneL l now.toNat) = ((n, L), true)) : n = now ∧ versB n L = true ∧ ∀ t, 0 ≤ t → t ≤ now → atL L t = atL l t := by
  have hn0 := (versB_out h).1.1
  have hv0 : versB 0 [] = true := versB_yes ⟨⟨by omega, by omega, by simp⟩, fun i hi => absurd hi (by simp), fun i hi => absurd hi (by simp), fun t _ _ => by simp [atL]⟩
  obtain ⟨h1, h2, _⟩ := goF_late _ 0 n [] L hg hv0
  rw [doneL_len] at h1
  refine ⟨by omega, h2, fun t h3 h4 => ?_⟩
  refine look_ext (atL_pairwise (versB_out h2) t) (atL_pairwise (versB_out h) t) (fun K => ?_)
  have e1 : lookR (atL L t) K = valAt K t L := (valAt_at K t L).symm
  have e2 : lookR (atL l t) K = valAt K t l := (valAt_at K t l).symm
  have e3 := goF_last K _ 0 n [] L none hg hv0 rfl t h3 (by omega)
  rw [e1, e2, e3]
  have e4 := valAt_done (K := K) h t.toNat
  rw [show ((t.toNat : Nat) : Int) = t by omega] at e4
  rw [e4, show (t - 0).toNat = t.toNat by omega, doneL_take l (by omega)]
  rfl
end Go.Proofs.Ytpjkcmmmpgncmaa
namespace Go.Proofs.Ytpjkcmmmpgncmaa
open Go.RowKit
/-- a record that a commit may have closed -/
def shutV (T : Int) (ws : List Wri) (y : Ver) : Ver := if y.2.2.2 = 0 ∧ (ws.any (fun w => decide (w.1 = y.1))) = true then (y.1, y.2.1, y.2.2.1, T) else y
theorem shut_key (T : Int) (ws : List Wri) (y : Ver) : (shutV T ws y).1 = y.1 ∧ (shutV T ws y).2.1 = y.2.1 ∧ (shutV T ws y).2.2.1 = y.2.2.1 := by
  unfold shutV; split <;> exact ⟨rfl, rfl, rfl⟩
theorem any_key {ws : List Wri} {K : ByteArray} : (ws.any (fun w => decide (w.1 = K))) = true ↔ ∃ w ∈ ws, w.1 = K := by
  rw [List.any_eq_true]; simp
theorem ins_iff {l : List Ver} {k : Nat} {w : Wri} {T : Int} {x : Ver} : x ∈ insV l k w T ↔ x ∈ l ∨ (w.2.2 = false ∧ x = (w.1, w.2.1, T, 0)) := by
  refine ⟨ins_out, fun h => ?_⟩
  rcases h with h | ⟨h1, rfl⟩
  · exact ins_mem h
  · unfold insV
    rw [if_neg (by rw [h1]; simp)]
    exact List.mem_append_right _ List.mem_cons_self
theorem write_mem {l : List Ver} {w : Wri} {T : Int} {x : Ver} : x ∈ writeS T l w ↔ (∃ z ∈ l, x = closeV w.1 T z) ∨ (w.2.2 = false ∧ x = (w.1, w.2.1, T, 0)) := by
  unfold writeS closeL
  rw [ins_iff, List.mem_map]
  constructor
  · rintro (⟨z, hz, rfl⟩ | h)
    · exact .inl ⟨z, hz, rfl⟩
    · exact .inr h
  · rintro (⟨z, hz, rfl⟩ | h)
    · exact .inl ⟨z, hz, rfl⟩
    · exact .inr h
theorem shut_close {T : Int} (hT : T ≠ 0) (w : Wri) (ws : List Wri) (z : Ver) : shutV T ws (closeV w.1 T z) = shutV T (w :: ws) z := by
  unfold shutV closeV
  rw [List.any_cons]
  by_cases h0 : z.2.2.2 = 0
  · by_cases hk : z.1 = w.1
    · have e : decide (w.1 = z.1) = true := by simp [hk]
      simp [h0, hk, hT]
    · have e : decide (w.1 = z.1) = false := by simpa using fun e => hk e.symm
      have e2 : (if z.1 = w.1 ∧ z.2.2.2 = 0 then (z.1, z.2.1, z.2.2.1, T) else z) = z := if_neg (fun h => hk h.1)
      rw [e2, e, Bool.false_or]
  · simp [h0]
/-- the records that a commit leaves -/
theorem do_mem {T : Int} (hT : T ≠ 0) : ∀ (ws : List Wri) (l : List Ver) (x : Ver), ws.Pairwise (fun a b => kLt a.1 b.1) → (x ∈ doS T l ws ↔ (∃ y ∈ l, x = shutV T ws y) ∨ ∃ w ∈ ws, w.2.2 = false ∧ x = (w.1, w.2.1, T, 0))
  | [], l, x, _ => by
    have e : doS T l [] = l := rfl
    have e2 : ∀ y, shutV T [] y = y := fun y => by unfold shutV; simp
    rw [e]
    simp [e2]
  | w :: ws, l, x, h => by
    obtain ⟨h1, h2⟩ := List.pairwise_cons.1 h
    have e : doS T l (w :: ws) = doS T (writeS T l w) ws := rfl
    have hn : shutV T ws (w.1, w.2.1, T, 0) = (w.1, w.2.1, T, 0) := by
      unfold shutV
      rw [if_neg]
      rintro ⟨_, h3⟩
      obtain ⟨v, hv, he⟩ := any_key.1 h3
      have := h1 v hv
      simp only at he
      rw [he] at this
      exact kLt_irrefl _ this
    rw [e, do_mem hT ws _ x h2]
    constructor
    · rintro (⟨y, hy, rfl⟩ | ⟨v, hv, hg, rfl⟩)
      · rcases write_mem.1 hy with ⟨z, hz, rfl⟩ | ⟨hg, rfl⟩
        · exact .inl ⟨z, hz, shut_close hT w ws z⟩
        · exact .inr ⟨w, List.mem_cons_self, hg, hn⟩
      · exact .inr ⟨v, List.mem_cons_of_mem _ hv, hg, rfl⟩
    · rintro (⟨z, hz, rfl⟩ | ⟨v, hv, hg, rfl⟩)
      · exact .inl ⟨closeV w.1 T z, write_mem.2 (.inl ⟨z, hz, rfl⟩), (shut_close hT w ws z).symm⟩
      · rcases List.mem_cons.1 hv with rfl | hv
        · exact .inl ⟨(v.1, v.2.1, T, 0), write_mem.2 (.inr ⟨hg, rfl⟩), hn.symm⟩
        · exact .inr ⟨v, hv, hg, rfl⟩
def BegA (K : ByteArray) (n : Int) (l : List Ver) (t : Int) : Prop := ∃ x ∈ l, x.1 = K ∧ x.2.1 = n ∧ x.2.2.1 = t
def EndA (K : ByteArray) (l : List Ver) (t : Int) : Prop := ∃ x ∈ l, x.1 = K ∧ x.2.2.2 = t
theorem l8L_iff {l : List Ver} {t : Int} {w : Wri} : w ∈ l8L l t ↔ (w.2.2 = false ∧ BegA w.1 w.2.1 l t) ∨ (w.2.2 = true ∧ w.2.1 = 0 ∧ EndA w.1 l t ∧ ¬ ∃ m, BegA w.1 m l t) := by
  rw [l8L_mem]
  obtain ⟨K, n, g⟩ := w
  constructor
  · rintro (⟨x, hx, hf, he⟩ | ⟨x, hx, ht, hb, he⟩)
    · simp only [Prod.mk.injEq] at he
      exact .inl ⟨he.2.2, x, hx, he.1.symm, he.2.1.symm, hf⟩
    · simp only [Prod.mk.injEq] at he
      refine .inr ⟨he.2.2, he.2.1, ⟨x, hx, he.1.symm, ht⟩, ?_⟩
      rintro ⟨m, y, hy, hk, _, hf⟩
      have := begB_iff.2 ⟨y, hy, hk.trans he.1, hf⟩
      rw [hb] at this; simp at this
  · rintro (⟨hg, x, hx, hk, hn, hf⟩ | ⟨hg, hn, ⟨x, hx, hk, ht⟩, hb⟩)
    · simp only at hg hk hn
      subst hg; subst hk; subst hn
      exact .inl ⟨x, hx, hf, rfl⟩
    · simp only at hg hk hn hb
      subst hg; subst hk; subst hn
      refine .inr ⟨x, hx, ht, ?_, rfl⟩
      cases hh : begB l x.1 t with
      | false => rfl
      | true =>
        obtain ⟨y, hy, h1, h2⟩ := begB_iff.1 hh
        exact absurd ⟨y.2.1, y, hy, h1, rfl, h2⟩ hb
theorem begA_do {T t n : Int} {K : ByteArray} {l : List Ver} {ws : List Wri} (hT : T ≠ 0) (h : ws.Pairwise (fun a b => kLt a.1 b.1)) (ht : t ≠ T) : BegA K n (doS T l ws) t ↔ BegA K n l t := by
  constructor
  · rintro ⟨x, hx, h1, h2, h3⟩
    rcases (do_mem hT ws l x h).1 hx with ⟨y, hy, rfl⟩ | ⟨w, _, _, rfl⟩
    · obtain ⟨e1, e2, e3⟩ := shut_key T ws y
      exact ⟨y, hy, e1.symm.trans h1, e2.symm.trans h2, e3.symm.trans h3⟩
    · exact absurd h3.symm ht
  · rintro ⟨y, hy, h1, h2, h3⟩
    obtain ⟨e1, e2, e3⟩ := shut_key T ws y
    exact ⟨shutV T ws y, (do_mem hT ws l _ h).2 (.inl ⟨y, hy, rfl⟩), e1.trans h1, e2.trans h2, e3.trans h3⟩
theorem endA_do {T t : Int} {K : ByteArray} {l : List Ver} {ws : List Wri} (hT : T ≠ 0) (h : ws.Pairwise (fun a b => kLt a.1 b.1)) (ht : t ≠ T) (h0 : t ≠ 0) : EndA K (doS T l ws) t ↔ EndA K l t := by
  constructor
  · rintro ⟨x, hx, h1, h2⟩
    rcases (do_mem hT ws l x h).1 hx with ⟨y, hy, rfl⟩ | ⟨w, _, _, rfl⟩
    · refine ⟨y, hy, (shut_key T ws y).1.symm.trans h1, ?_⟩
      unfold shutV at h2
      split at h2
      · exact absurd h2.symm ht
      · exact h2
    · exact absurd h2.symm h0
  · rintro ⟨y, hy, h1, h2⟩
    refine ⟨shutV T ws y, (do_mem hT ws l _ h).2 (.inl ⟨y, hy, rfl⟩), (shut_key T ws y).1.trans h1, ?_⟩
    unfold shutV
    rw [if_neg (fun e => h0 (h2.symm.trans e.1))]
    exact h2
theorem l8_do_old {T t : Int} {l : List Ver} {ws : List Wri} (h : ws.Pairwise (fun a b => kLt a.1 b.1)) (h1 : 1 ≤ t) (h2 : t < T) (w : Wri) : w ∈ l8L (doS T l ws) t ↔ w ∈ l8L l t := by
  have e1 : ∀ n, BegA w.1 n (doS T l ws) t ↔ BegA w.1 n l t := fun n => begA_do (by omega) h (by omega)
  have e2 : EndA w.1 (doS T l ws) t ↔ EndA w.1 l t := endA_do (by omega) h (by omega) (by omega)
  rw [l8L_iff, l8L_iff, e1, e2]
  simp only [e1]
theorem begA_new {T n : Int} {K : ByteArray} {l : List Ver} {ws : List Wri} (hT : T ≠ 0) (h : ws.Pairwise (fun a b => kLt a.1 b.1)) (hl : ∀ x ∈ l, x.2.2.1 < T) : BegA K n (doS T l ws) T ↔ (K, n, false) ∈ ws := by
  constructor
  · rintro ⟨x, hx, h1, h2, h3⟩
    rcases (do_mem hT ws l x h).1 hx with ⟨y, hy, rfl⟩ | ⟨w, hw, hg, rfl⟩
    · have := hl y hy
      rw [(shut_key T ws y).2.2] at h3
      omega
    · obtain ⟨a, b, c⟩ := w
      simp only at h1 h2 hg
      subst h1; subst h2; subst hg
      exact hw
  · intro hw
    exact ⟨(K, n, T, 0), (do_mem hT ws l _ h).2 (.inr ⟨_, hw, rfl, rfl⟩), rfl, rfl, rfl⟩
theorem endA_new {T : Int} {K : ByteArray} {l : List Ver} {ws : List Wri} (hT : T ≠ 0) (h : ws.Pairwise (fun a b => kLt a.1 b.1)) (hl : ∀ x ∈ l, x.2.2.2 < T) : EndA K (doS T l ws) T ↔ (∃ w ∈ ws, w.1 = K) ∧ ∃ x ∈ l, x.1 = K ∧ x.2.2.2 = 0 := by
  constructor
  · rintro ⟨x, hx, h1, h2⟩
    rcases (do_mem hT ws l x h).1 hx with ⟨y, hy, rfl⟩ | ⟨w, hw, hg, rfl⟩
    · have h3 := hl y hy
      rw [(shut_key T ws y).1] at h1
      unfold shutV at h2
      split at h2
      · rename_i h4
        obtain ⟨w, hw, he⟩ := any_key.1 h4.2
        exact ⟨⟨w, hw, he.trans h1⟩, y, hy, h1, h4.1⟩
      · omega
    · exact absurd h2.symm hT
  · rintro ⟨⟨w, hw, he⟩, y, hy, h1, h2⟩
    refine ⟨shutV T ws y, (do_mem hT ws l _ h).2 (.inl ⟨y, hy, rfl⟩), (shut_key T ws y).1.trans h1, ?_⟩
    unfold shutV
    rw [if_pos ⟨h2, any_key.2 ⟨w, hw, he.trans h1.symm⟩⟩]
theorem pair_one {ws : List Wri} (h : ws.Pairwise (fun a b => kLt a.1 b.1)) {v w : Wri} (hv : v ∈ ws) (hw : w ∈ ws) (he : v.1 = w.1) : v = w := by
  induction ws with
  | nil => simp at hv
  | cons x ws ih =>
    obtain ⟨h1, h2⟩ := List.pairwise_cons.1 h
    rcases List.mem_cons.1 hv with e | hv1
    · rcases List.mem_cons.1 hw with e2 | hw1
      · rw [e, e2]
      · have := h1 w hw1; rw [← e, he] at this; exact absurd this (kLt_irrefl _)
    · rcases List.mem_cons.1 hw with e2 | hw1
      · have := h1 v hv1; rw [he, e2] at this; exact absurd this (kLt_irrefl _)
      · exact ih h2 hv1 hw1
/-- what a commit does at its time: all of it, but for what it takes away that was not there -/
theorem l8_do_new {now : Int} {l : List Ver} {ws : List Wri} {m : Nat} (hv : versB now l = true) (hw : wrsB m ws = true) (h : ws.Pairwise (fun a b => kLt a.1 b.1)) (w : Wri) :
    w ∈ l8L (doS (now + 1) l ws) (now + 1) ↔ w ∈ ws ∧ ¬ (w.2.2 = true ∧ valAt w.1 now l = none) := by
  have hn := (versB_out hv).1.1
  have hb : ∀ x ∈ l, x.2.2.1 < now + 1 ∧ x.2.2.2 < now + 1 := fun x hx => by have := verB_iff.1 (versP_mem (versB_out hv) hx); omega
  have e1 : ∀ n, BegA w.1 n (doS (now + 1) l ws) (now + 1) ↔ (w.1, n, false) ∈ ws := fun n => begA_new (by omega) h (fun x hx => (hb x hx).1)
  have e2 : EndA w.1 (doS (now + 1) l ws) (now + 1) ↔ (∃ v ∈ ws, v.1 = w.1) ∧ ∃ x ∈ l, x.1 = w.1 ∧ x.2.2.2 = 0 := endA_new (by omega) h (fun x hx => (hb x hx).2)
  have e3 : (valAt w.1 now l = none) ↔ ¬ ∃ x ∈ l, x.1 = w.1 ∧ x.2.2.2 = 0 := by
    rw [← had_iff hv]; cases valAt w.1 now l <;> simp
  rw [l8L_iff, e1, e2, e3]
  simp only [e1]
  obtain ⟨K, n, g⟩ := w
  cases g
  · simp
  · simp only [Bool.true_eq_false, false_and, true_and, false_or, Classical.not_not]
    constructor
    · rintro ⟨rfl, ⟨⟨v, hv1, hk⟩, hx⟩, hno⟩
      refine ⟨?_, hx⟩
      obtain ⟨a, b, c⟩ := v
      simp only at hk
      subst hk
      have hwr := (wrsB_iff.1 hw).2.1 _ hv1
      unfold wriB at hwr
      cases c
      · exact absurd ⟨b, hv1⟩ hno
      · simp at hwr
        rw [hwr.2] at hv1
        exact hv1
    · rintro ⟨hm, hx⟩
      have hwr := (wrsB_iff.1 hw).2.1 _ hm
      unfold wriB at hwr
      simp at hwr
      refine ⟨hwr.2, ⟨⟨_, hm, rfl⟩, hx⟩, ?_⟩
      rintro ⟨b, hb2⟩
      have := pair_one h hb2 hm rfl
      simp at this
theorem wrs_asc {ws : List Wri} {m : Nat} (h : wrsB m ws = true) : ws.Pairwise (fun a b => kLt a.1 b.1) := by
  have h3 : ∀ (i : Nat) (x y : Wri), ws[i]? = some x → ws[i + 1]? = some y → ltB x.1 y.1 = true := by
    unfold wrsB at h; simp only [decide_eq_true_eq] at h; exact h.2.2
  have h4 : ∀ (j i : Nat) (x y : Wri), i < j → ws[i]? = some x → ws[j]? = some y → kLt x.1 y.1 := by
    intro j
    induction j with
    | zero => intro i x y hij; omega
    | succ j ih =>
      intro i x y hij hx hy
      by_cases e : i = j
      · subst e; exact h3 i x y hx hy
      · have hj : j < ws.length := by have := (List.getElem?_eq_some_iff.1 hy).1; omega
        exact kLt_trans (ih i x _ (by omega) hx (List.getElem?_eq_getElem hj)) (h3 j _ y (List.getElem?_eq_getElem hj) hy)
  rw [List.pairwise_iff_getElem]
  intro i j hi hj hij
  exact h4 j i _ _ hij (List.getElem?_eq_getElem hi) (List.getElem?_eq_getElem hj)
theorem l8_goF : ∀ (rs : List (List Wri)) (now n : Int) (l L : List Ver), goF now l rs = ((n, L), true) → versB now l = true →
    (∀ t, 1 ≤ t → t ≤ now → ∀ w, w ∈ l8L L t ↔ w ∈ l8L l t) ∧ ∀ (i : Nat) (r : List Wri), rs[i]? = some r → wrsB 20 r = true ∧ ∀ w, w ∈ l8L L (now + i + 1) ↔ w ∈ r ∧ ¬ (w.2.2 = true ∧ valAt w.1 (now + i) L = none) := by
  intro rs
  induction rs with
  | nil =>
    intro now n l L h _
    rw [goF_nil] at h
    simp only [Prod.mk.injEq, and_true] at h
    obtain ⟨rfl, rfl⟩ := h
    exact ⟨fun t _ _ w => Iff.rfl, fun i r hr => by simp at hr⟩
  | cons r rs ih =>
    intro now n l L h hv
    have hn := (versB_out hv).1.1
    have hlate := (goF_late _ _ _ _ _ h hv).2.2
    unfold goF at h
    split at h
    · rename_i hw
      split at h
      · rename_i hv2
        obtain ⟨h1, h2⟩ := ih _ _ _ _ h hv2
        have ha := wrs_asc hw
        refine ⟨fun t ht1 ht2 w => ?_, fun i x hx => ?_⟩
        · rw [h1 t ht1 (by omega) w, l8_do_old ha ht1 (by omega) w]
        · cases i with
          | zero =>
            simp only [List.getElem?_cons_zero, Option.some.injEq] at hx
            subst hx
            refine ⟨hw, fun w => ?_⟩
            have e : now + ((0 : Nat) : Int) + 1 = now + 1 := by omega
            have e2 : now + ((0 : Nat) : Int) = now := by omega
            have e3 : valAt w.1 now L = valAt w.1 now l := by rw [valAt_at, valAt_at, hlate now (Int.le_refl _)]
            rw [e, e2, e3, h1 (now + 1) (by omega) (Int.le_refl _) w]
            exact l8_do_new hv hw ha w
          | succ i =>
            rw [List.getElem?_cons_succ] at hx
            have := h2 i x hx
            have e : now + ((i + 1 : Nat) : Int) = now + 1 + (i : Int) := by omega
            rw [e]
            exact this
      · simp at h
    · simp at h
def effB (R : List Row) (w : Wri) : Bool := !(w.2.2 && (lookR R w.1).isNone)
/-- what was done at a time is what the store tells of it -/
theorem once {n : Int} {L : List Ver} {rs : List (List Wri)} (h : goF 0 [] rs = ((n, L), true)) {i : Nat} {r : List Wri} (hr : rs[i]? = some r) :
    l8L L ((i : Int) + 1) = r.filter (effB (atL L i)) := by
  have hv0 : versB 0 [] = true := versB_yes ⟨⟨by omega, by omega, by simp⟩, fun i hi => absurd hi (by simp), fun i hi => absurd hi (by simp), fun t _ _ => by simp [atL]⟩
  obtain ⟨_, h2, _⟩ := goF_late _ 0 n [] L h hv0
  obtain ⟨h3, h4⟩ := (l8_goF rs 0 n [] L h hv0).2 i r hr
  refine asc_ext (R := fun a b : Wri => kLt a.1 b.1) (fun a => kLt_irrefl _) (fun a b h1 h2 => absurd (kLt_trans h1 h2) (kLt_irrefl _)) _ _ (l8L_asc (versB_out h2) _) (List.Pairwise.filter _ (wrs_asc h3)) (fun w => ?_)
  have h5 := h4 w
  rw [show (0 : Int) + (i : Int) + 1 = (i : Int) + 1 by omega, show (0 : Int) + (i : Int) = (i : Int) by omega, valAt_at] at h5
  rw [h5, List.mem_filter]
  have e : lookR (atL L i) w.1 = (((atL L i).find? (fun x => decide (x.1 = w.1))).map (fun x => x.2)) := rfl
  rw [← e]
  unfold effB
  cases w.2.2 <;> cases lookR (atL L i) w.1 <;> simp
end Go.Proofs.Ytpjkcmmmpgncmaa
namespace Go.Proofs.Ytpjkcmmmpgncmaa
open Go.RowKit
theorem pastN_len (now : Int) (l : List Ver) (t : Int) : (pastL now l t).length ≤ 2 * l.length := by
  unfold pastL
  split
  · have h1 : ∀ (m : List Ver), (m.flatMap (one8 l t)).length ≤ 2 * m.length := by
      intro m
      induction m with
      | nil => simp
      | cons x m ih =>
        rw [List.flatMap_cons, List.length_append, List.length_cons]
        have : (one8 l t x).length ≤ 2 := by unfold one8; split <;> split <;> simp
        omega
    exact h1 l
  · simp
theorem ownW_kept {W W' : World} {B : Nat} {v : Value} {ws : List Wri} (h : OwnW W B v ws) (hb : Below W.heap.size W W') : OwnW W' B v ws := own_kept h hb
/-- a store in a box of the law's own, and what was done at a time -/
def PN (w : World) (g : Nat) (now : Int) (A : Option Addr) (l : List Ver) (c : Nat) (A5 : Option Addr) (ws : List Wri) (c5 : Nat) (W : World) : Prop :=
  Blk W g 32 #[.int .i64 now, .slice A l.length c] ∧ Sl encVer 4 W A l ∧ Sl encWri 3 W A5 ws ∧ Below w.heap.size w W
theorem PN.below {w : World} {g : Nat} {now : Int} {A : Option Addr} {l : List Ver} {c : Nat} {A5 : Option Addr} {ws : List Wri} {c5 : Nat} {W W' : World} (h : PN w g now A l c A5 ws c5 W) (hb : Below W.heap.size W W') : PN w g now A l c A5 ws c5 W' := ⟨h.1.kept hb, h.2.1.below hb, h.2.2.1.below hb, bthen h.2.2.2 hb⟩
theorem QS.readsF {w : World} {B c : Nat} {A : Option Addr} {qs : List Wrow} (h : QS w B (.slice A qs.length c) qs) : Sl2 w A qs := by
  obtain ⟨A', c', e', _, _, hSv⟩ := Sl.of_own encWrow_len h.1
  injection e' with e1 e2 e3
  rw [e1]
  exact ⟨hSv, fun r hr => (h.2.1 r hr).reads⟩
theorem allF_len (now : Int) (l : List Ver) : (allD now l).length ≤ 40 := by
  cases hv : versB now l
  · rw [allD_no hv]; simp
  · have := (versB_out hv).1
    rw [allD_yes hv, doneL_len]; omega
theorem Sl2.look {W : World} {A : Option Addr} {qs : List Wrow} {k : Nat} {r : Wrow} (h : Sl2 W A qs) (hk : qs[k]? = some r) : ∃ b o, A = some ⟨b, o, none⟩ ∧ b < W.heap.size ∧ W.cell? ⟨b, o + k, none⟩ = some (.slice r.1 r.2.2.length r.2.1) ∧ Sl encWri 3 W r.1 r.2.2 := by
  obtain ⟨hlt, rfl⟩ := List.getElem?_eq_some_iff.1 hk
  exact h.at_ hlt
theorem Sl2.belowF {W W' : World} {A : Option Addr} {qs : List Wrow} (h : Sl2 W A qs) (hb : Below W.heap.size W W') : Sl2 W' A qs := ⟨h.1.below hb, fun r hr => (h.2 r hr).below hb⟩
/-- a store in a box, and its two lists of what was done -/
def PF (w : World) (g : Nat) (now : Int) (A : Option Addr) (l : List Ver) (c : Nat) (A4 : Option Addr) (qs : List Wrow) (A5 : Option Addr) (ps : List Wrow) (W : World) : Prop :=
  Blk W g 32 #[.int .i64 now, .slice A l.length c] ∧ Sl encVer 4 W A l ∧ Sl2 W A4 qs ∧ Sl2 W A5 ps ∧ Below w.heap.size w W
theorem PF.below {w : World} {g : Nat} {now : Int} {A : Option Addr} {l : List Ver} {c : Nat} {A4 : Option Addr} {qs : List Wrow} {A5 : Option Addr} {ps : List Wrow} {W W' : World} (h : PF w g now A l c A4 qs A5 ps W) (hb : Below W.heap.size W W') : PF w g now A l c A4 qs A5 ps W' := ⟨h.1.kept hb, h.2.1.below hb, h.2.2.1.belowF hb, h.2.2.2.1.belowF hb, bthen h.2.2.2.2 hb⟩
/-- the cell of a row of rows, where the address is known -/
theorem look_cell {W : World} {b o : Nat} {qs : List Wrow} {k : Nat} {r : Wrow} (h : Sl2 W (some ⟨b, o, none⟩) qs) (hk : qs[k]? = some r) : W.cell? ⟨b, o + k, none⟩ = some (.slice r.1 r.2.2.length r.2.1) := by
  obtain ⟨b', o', e, _, hc, _⟩ := h.look hk
  injection e with e
  injection e with e1 e2
  subst e1; subst e2
  exact hc
/-- a second store in a box -/
def PX (w : World) (g : Nat) (now : Int) (A : Option Addr) (l : List Ver) (c : Nat) (A4 : Option Addr) (qs : List Wrow) (A5 : Option Addr) (ps : List Wrow) (g2 : Nat) (A6 : Option Addr) (L : List Ver) (c6 : Nat) (W : World) : Prop :=
  PF w g now A l c A4 qs A5 ps W ∧ Blk W g2 32 #[.int .i64 now, .slice A6 L.length c6] ∧ Sl encVer 4 W A6 L
theorem PX.below {w : World} {g : Nat} {now : Int} {A : Option Addr} {l : List Ver} {c : Nat} {A4 : Option Addr} {qs : List Wrow} {A5 : Option Addr} {ps : List Wrow} {g2 : Nat} {A6 : Option Addr} {L : List Ver} {c6 : Nat} {W W' : World} (h : PX w g now A l c A4 qs A5 ps g2 A6 L c6 W) (hb : Below W.heap.size W W') : PX w g now A l c A4 qs A5 ps g2 A6 L c6 W' := ⟨h.1.below hb, h.2.1.kept hb, h.2.2.below hb⟩
theorem goF_fitsP : ∀ (rs : List (List Wri)) (now : Int) (l : List Ver), (∀ r ∈ rs, FitsW r) → FitsV l → l.length ≤ 60 → FitsV (goF now l rs).1.2 := by
  intro rs
  induction rs with
  | nil =>
    intro now l _ hf _
    rw [goF_nil]; exact hf
  | cons r rs ih =>
    intro now l hr hf hl
    cases h1 : wrsB 20 r
    · rw [goF_row h1]; exact ⟨Nat.zero_le _, fun x h => absurd h (by simp)⟩
    · cases h2 : versB (now + 1) (doS (now + 1) l r)
      · rw [goF_bad h1 h2]; exact ⟨Nat.zero_le _, fun x h => absurd h (by simp)⟩
      · rw [goF_on h1 h2]
        have h20 := (wrsB_iff.1 h1).1
        exact ih _ _ (fun s hs => hr s (by simp [hs])) (fits_do (now := now + 1) (by omega) (by omega) hf (hr r (by simp))).1 (versB_out h2).1.2.2
end Go.Proofs.Ytpjkcmmmpgncmaa
namespace Go.Proofs.Ytpjkcmmmpgncmaa
open Go.RowKit
set_option maxRecDepth 100000 in
set_option maxHeartbeats 2000000 in
theorem implPastFold_any (A : Option Addr) (rs : List Wrow) (c : Nat) (w : World) (hf : FitsR rs) (hn : rs.length ≤ 1048576) (hn2 : ∀ r ∈ rs, r.2.2.length ≤ 1048576) (hR : Sl2 w A rs) :
    Calls Try.prog 27 #[.slice A rs.length c] w (DoPost w (goF 0 [] (cont rs))) := by
  have hb0 := ((Below.refl w.heap.size w).alloc (Nat.le_refl _) (.cells #[.int .i64 0, .slice none 0 0] 32)).alloc (by simp) (.cells #[.int .i64 0, .slice none 0 0] 32)
  have hB2 := (Blk.new w 32 #[.int .i64 0, .slice none 0 0]).alloc (.cells #[.int .i64 0, .slice none 0 0] 32)
  have hB4 := Blk.new (w.alloc (.cells #[.int .i64 0, .slice none 0 0] 32)) 32 #[.int .i64 0, .slice none 0 0]
  rw [World.size_alloc] at hB4
  have HST := Lib.hid (show ∃ A c, PI w (w.heap.size + 1) rs 0 0 A [] c ((w.alloc (.cells #[.int .i64 0, .slice none 0 0] 32)).alloc (.cells #[.int .i64 0, .slice none 0 0] 32)) from ⟨none, 0, rfl, vers_start, hB4, hB2, ⟨rfl, .inl ⟨rfl, rfl⟩⟩, hb0, ⟨Nat.zero_le _, fun x h => absurd h (by simp)⟩⟩)
  clear hb0 hB2 hB4
  have HRA := Lib.hid hR
  have HF := Lib.hid hf
  have HN2 := Lib.hid hn2
  clear hR hf hn2
  go_enter Try.func27, Try.ntmps27
  go_wp2
  generalize (w.alloc (.cells #[.int .i64 0, .slice none 0 0] 32)).alloc (.cells #[.int .i64 0, .slice none 0 0] 32) = w0 at *
  go_loopw [9] (fun i wr => ∃ (k : Nat) (now : Int) (l : List Ver) (A' : Option Addr) (c' : Nat), k ≤ rs.length ∧ i = .int .i64 k ∧ Hid (PI w (w.heap.size + 1) rs k now A' l c' wr)) (fun i _ => rs.length - (intOf i).toNat)
  case atStart =>
    obtain ⟨A', c', h⟩ := HST.out
    exact ⟨0, 0, [], A', c', by omega, rfl, h⟩
  case round =>
    obtain ⟨k, now, l, A', c', hk, rfl, HI⟩ := hrel
    clear HST
    by_cases hlt : k < rs.length
    · obtain ⟨b, o, rfl, hbl, c0, hS⟩ := (HRA.out.below HI.out.2.2.2.2.2.1).at_ hlt
      have HG := Lib.hid (goK_step HI.out.1 hlt)
      have hx := HF.out.2 rs[k] (by simp)
      have hxl := HN2.out rs[k] (by simp)
      have hsz := HI.out.2.2.2.2.2.1.size
      generalize rs[k] = x at *
      obtain ⟨Ax, cx, lx⟩ := x
      simp only at c0 hS hx hxl HG
      have HUP := Lib.hid (upTo_any Ax lx cx 20 wr hx hxl hS)
      have HSX := Lib.hid hS
      have HX := Lib.hid hx
      clear hS hx hxl
      go_wp2_with fail
      refine HUP.out.mono ?_
      rintro e W0 ⟨rfl, hb1⟩
      have HI1 := Lib.hid (HI.out.below hb1)
      have HSX1 := Lib.hid (HSX.out.below hb1)
      have hs1 := hb1.size
      clear HUP HI HSX hb1 c0
      cases hw : wrsB 20 lx
      · have HR := Lib.hid (HG.out.trans (goF_row hw))
        clear hw
        have hB := HI1.out.2.2.2.1
        have z0 := hB.frozen 0
        have z1 := hB.frozen 1
        have x0 : W0.cell? ⟨w.heap.size, 0, none⟩ = some (.int .i64 0) := hB.cell 0
        have x1 : W0.cell? ⟨w.heap.size, 1, none⟩ = some (.slice none 0 0) := hB.cell 1
        obtain ⟨q0, q1⟩ := hB.two (.int .i64 0) (.slice none 0 0)
        have hbe := HI1.out.2.2.2.2.2.1
        go_wp2
        rw [HR.out]
        refine bodyPost_ret (v := .tuple #[.agg #[.int .i64 0, .slice none 0 0], .bool false]) (by simp [results, Try.results27, go_sem, q0, q1]) rfl ⟨_, rfl, ⟨rfl, .inl ⟨rfl, rfl⟩⟩, (hbe.setCell (by simp) _).setCell (by simp) _⟩
        
      · obtain ⟨⟨hn0, hn1, hl60⟩, _⟩ := versB_out HI1.out.2.1
        have h20 := (wrsB_iff.1 hw).1
        have HW := Lib.hid hw
        clear hw
        have HC := Lib.hid (commit_any A' Ax l lx c' cx now W0 (by omega) (by omega) hn0 (by omega) (ordd_of (versB_out HI1.out.2.1)) HI1.out.2.2.2.2.1.reads2 HSX1.out)
        obtain ⟨hFD, hLD⟩ := fits_do (now := now + 1) (by omega) (by omega) HI1.out.2.2.2.2.2.2 HX.out
        have HFD := Lib.hid hFD
        have r0 : W0.cell? ⟨w.heap.size + 1, 0, none⟩ = some (.int .i64 now) := HI1.out.2.2.1.cell 0
        have r1 : W0.cell? ⟨w.heap.size + 1, 1, none⟩ = some (.slice A' l.length c') := HI1.out.2.2.1.cell 1
        clear hFD
        generalize hdo : doS (now + 1) l lx = L at *
        have HDO := Lib.hid hdo
        clear hdo
        have hlt4 := HI1.out.2.2.1.lt
        go_wp2_with fail
        refine HC.out.mono ?_
        rintro e w2 ⟨v, rfl, hown2, hb2⟩
        obtain ⟨A2, c2, rfl, _, _, hS2⟩ := hown2.sl
        clear hS2 r0 r1 HC
        have hB4 := HI1.out.2.2.1.kept hb2
        have z0 := hB4.frozen 0
        have z1 := hB4.frozen 1
        have x0 : w2.cell? ⟨w.heap.size + 1, 0, none⟩ = some (.int .i64 now) := hB4.cell 0
        have x1 : w2.cell? ⟨w.heap.size + 1, 1, none⟩ = some (.slice A' l.length c') := hB4.cell 1
        obtain ⟨q0, q1⟩ := hB4.two (.int .i64 (now + 1)) (.slice A2 L.length c2)
        have hB43 : Blk ((w2.setCell ⟨w.heap.size + 1, 0, none⟩ (.int .i64 (now + 1))).setCell ⟨w.heap.size + 1, 1, none⟩ (.slice A2 L.length c2)) (w.heap.size + 1) 32 #[.int .i64 (now + 1), .slice A2 L.length c2] := (hB4.set_ 0 _).set_ 1 _
        have hB23 := (((HI1.out.2.2.2.1).kept hb2).far (p := ⟨w.heap.size + 1, 0, none⟩) (by simp) (.int .i64 (now + 1))).far (p := ⟨w.heap.size + 1, 1, none⟩) (by simp) (.slice A2 L.length c2)
        have hown3 := own_set (own_set hown2 (p := ⟨w.heap.size + 1, 0, none⟩) (by simp; omega) (.int .i64 (now + 1))) (p := ⟨w.heap.size + 1, 1, none⟩) (by simp; omega) (.slice A2 L.length c2)
        have hbe3 := ((bthen HI1.out.2.2.2.2.2.1 hb2).setCell (p := ⟨w.heap.size + 1, 0, none⟩) (by simp) (.int .i64 (now + 1))).setCell (p := ⟨w.heap.size + 1, 1, none⟩) (by simp) (.slice A2 L.length c2)
        have HVO := Lib.hid (implVersOk_any A2 L c2 (now + 1) _ HFD.out (by omega) (OwnV.reads2 hown3))
        have HB43 := Lib.hid hB43
        have HB23 := Lib.hid hB23
        have HOW3 := Lib.hid hown3
        have HBE3 := Lib.hid hbe3
        clear hB43 hB23 hown3 hbe3 hown2 hb2 hB4
        go_wp2_with fail
        generalize (w2.setCell ⟨w.heap.size + 1, 0, none⟩ (.int .i64 (now + 1))).setCell ⟨w.heap.size + 1, 1, none⟩ (.slice A2 L.length c2) = w3 at *
        refine HVO.out.mono ?_
        rintro e W0 ⟨rfl, hb4⟩
        have hB2 := HB23.out.kept hb4
        have hB4 := HB43.out.kept hb4
        have hown4 := own_kept HOW3.out hb4
        have hbe := bthen HBE3.out hb4
        clear HVO HB43 HB23 HOW3 HBE3 hb4 z0 z1 x0 x1 q0 q1
        cases hq : versB (now + 1) L
        · have HR := Lib.hid (HG.out.trans (goF_bad HW.out (by rw [HDO.out]; exact hq)))
          clear hq hB4 hown4
          have z0 := hB2.frozen 0
          have z1 := hB2.frozen 1
          have x0 : W0.cell? ⟨w.heap.size, 0, none⟩ = some (.int .i64 0) := hB2.cell 0
          have x1 : W0.cell? ⟨w.heap.size, 1, none⟩ = some (.slice none 0 0) := hB2.cell 1
          obtain ⟨q0, q1⟩ := hB2.two (.int .i64 0) (.slice none 0 0)
          have hbe := hbe
          go_wp2
          rw [HR.out]
          refine bodyPost_ret (v := .tuple #[.agg #[.int .i64 0, .slice none 0 0], .bool false]) (by simp [results, Try.results27, go_sem, q0, q1]) rfl ⟨_, rfl, ⟨rfl, .inl ⟨rfl, rfl⟩⟩, (hbe.setCell (by simp) _).setCell (by simp) _⟩
          
        · have HPI := Lib.hid (show PI w (w.heap.size + 1) rs (k + 1) (now + 1) A2 L c2 W0 from ⟨HG.out.trans ((goF_on HW.out (by rw [HDO.out]; exact hq)).trans (by rw [HDO.out])), hq, hB4, hB2, OwnV.le hown4 (by omega), hbe, HFD.out⟩)
          clear hq hB4 hB2 hown4 hbe
          go_wp2
          go_roundw
          case rel => exact ⟨k + 1, now + 1, L, A2, c2, by omega, by go_num, HPI.out⟩
          case measure => simp [intOf]; omega
    · obtain rfl : k = rs.length := by omega
      have HR := Lib.hid (goK_end HI.out.1)
      have hB2 := HI.out.2.2.2.1
      have z0 := hB2.frozen 0
      have z1 := hB2.frozen 1
      have x0 : wr.cell? ⟨w.heap.size, 0, none⟩ = some (.int .i64 0) := hB2.cell 0
      have x1 : wr.cell? ⟨w.heap.size, 1, none⟩ = some (.slice none 0 0) := hB2.cell 1
      have r0 : wr.cell? ⟨w.heap.size + 1, 0, none⟩ = some (.int .i64 now) := HI.out.2.2.1.cell 0
      have r1 : wr.cell? ⟨w.heap.size + 1, 1, none⟩ = some (.slice A' l.length c') := HI.out.2.2.1.cell 1
      obtain ⟨q0, q1⟩ := hB2.two (.int .i64 now) (.slice A' l.length c')
      have HOW := Lib.hid (own_setV HI.out.2.2.2.2.1 hB2 (.int .i64 now) (.slice A' l.length c'))
      have hbe := HI.out.2.2.2.2.2.1
      clear hB2
      go_wp2
      rw [HR.out]
      refine bodyPost_ret (v := .tuple #[.agg #[.int .i64 now, .slice A' l.length c'], .bool true]) (by simp [results, Try.results27, go_sem, q0, q1]) rfl ⟨_, rfl, HOW.out, (hbe.setCell (by simp) _).setCell (by simp) _⟩
end Go.Proofs.Ytpjkcmmmpgncmaa
namespace Go.Proofs.Ytpjkcmmmpgncmaa
open Go.RowKit
set_option maxRecDepth 100000 in
set_option maxHeartbeats 1000000 in
theorem equal_same (A A2 : Option Addr) (l : List Ver) (c c2 : Nat) (w : World) (hn : l.length ≤ 1048576) (hS : Sl encVer 4 w A l) (hS2 : Sl encVer 4 w A2 l) :
    Calls Try.prog 65 #[.slice A l.length c, .slice A2 l.length c2] w fun e w' => e = .returned (.bool true) ∧ Below w.heap.size w w' := by
  go_enter Try.func65, Try.ntmps65
  go_wp2
  go_loopw [13] (fun i wr => ∃ k : Nat, k ≤ l.length ∧ i = .int .i64 k ∧ Below w.heap.size w wr) (fun i _ => l.length - (intOf i).toNat)
  case atStart => exact ⟨0, by omega, rfl, Below.refl _ _⟩
  case round =>
    obtain ⟨k, hk, rfl, hb⟩ := hrel
    by_cases hlt : k < l.length
    · obtain ⟨b, o, rfl, hbl, c0, c1, c2', c3⟩ := Sl.at4 (hS.below hb) hlt
      obtain ⟨b2, o2, rfl, hbl2, d0, d1, d2, d3⟩ := Sl.at4 (hS2.below hb) hlt
      generalize l[k] = x at *
      obtain ⟨xk, xn, xf, xt⟩ := x
      simp only at c0 c1 c2' c3 d0 d1 d2 d3
      have hki : (k : Int) < (l.length : Int) := by omega
      clear hS hS2
      go_wp2_with fail
      refine wp_region_below (by kernel_rfl) (by kernel_rfl) ?_
      iterate 9 (refine wpQuiet_step (fun K hK => ?_); go_simp; first | (apply Exists.intro; refine ⟨fun W hW => ?_, hK _ ?_⟩; (first | rfl | (have e0 := (hW.cell (p := ⟨b, o + k * 4, none⟩) hbl).trans c0; have e1 := (hW.cell (p := ⟨b, o + k * 4 + 1, none⟩) hbl).trans c1; have e2 := (hW.cell (p := ⟨b, o + k * 4 + 2, none⟩) hbl).trans c2'; have e3 := (hW.cell (p := ⟨b, o + k * 4 + 3, none⟩) hbl).trans c3; have f0 := (hW.cell (p := ⟨b2, o2 + k * 4, none⟩) hbl2).trans d0; have f1 := (hW.cell (p := ⟨b2, o2 + k * 4 + 1, none⟩) hbl2).trans d1; have f2 := (hW.cell (p := ⟨b2, o2 + k * 4 + 2, none⟩) hbl2).trans d2; have f3 := (hW.cell (p := ⟨b2, o2 + k * 4 + 3, none⟩) hbl2).trans d3; go_simp; rfl)); clear hK K) | (refine hK _ ?_; clear hK K))
      refine wpQuiet_nil ?_
      intro W hW
      have hb' := bthen hb hW
      go_wp2
      go_roundw
      case rel => exact ⟨k + 1, by omega, by go_num, hb'⟩
      case measure => simp [intOf]; omega
    · obtain rfl : k = l.length := by omega
      go_wp2
      go_ret
      exact ⟨rfl, hb⟩
set_option maxRecDepth 100000 in
set_option maxHeartbeats 1000000 in
theorem implSame_same (A A2 : Option Addr) (l : List Ver) (c c2 : Nat) (now : Int) (w : World) (hn : l.length ≤ 1048576) (hS : Sl encVer 4 w A l) (hS2 : Sl encVer 4 w A2 l) :
    Calls Try.prog 31 #[.agg #[.int .i64 now, .slice A l.length c], .agg #[.int .i64 now, .slice A2 l.length c2]] w fun e w' => e = .returned (.bool true) ∧ Below w.heap.size w w' := by
  have hb0 := ((Below.refl w.heap.size w).alloc (Nat.le_refl _) (.cells #[.int .i64 now, .slice A l.length c] 32)).alloc (by simp) (.cells #[.int .i64 now, .slice A2 l.length c2] 32)
  have HE := Lib.hid (equal_same A A2 l c c2 _ hn (hS.below hb0) (hS2.below hb0))
  clear hS hS2
  go_enter Try.func31, Try.ntmps31
  go_wp2_with fail
  refine HE.out.mono ?_
  rintro e w1 ⟨rfl, hb1⟩
  have hb := bthen hb0 hb1
  go_wp2
  go_ret
  exact ⟨rfl, hb⟩
set_option maxRecDepth 100000 in
set_option maxHeartbeats 1000000 in
theorem wpRows_same (A A2 : Option Addr) (l : List Row) (c c2 : Nat) (w : World) (hn : l.length ≤ 1048576) (hS : Sl encRow 2 w A l) (hS2 : Sl encRow 2 w A2 l) :
    Calls Try.prog 37 #[.slice A l.length c, .slice A2 l.length c2] w fun e w' => e = .returned (.bool true) ∧ Below w.heap.size w w' := by
  go_enter Try.func37, Try.ntmps37
  go_wp2
  go_loopw [5] (fun i wr => ∃ k : Nat, k ≤ l.length ∧ i = .int .i64 k ∧ Below w.heap.size w wr) (fun i _ => l.length - (intOf i).toNat)
  case atStart => exact ⟨0, by omega, rfl, Below.refl _ _⟩
  case round =>
    obtain ⟨k, hk, rfl, hb⟩ := hrel
    by_cases hlt : k < l.length
    · obtain ⟨b, o, rfl, hbl, hc⟩ := (hS.below hb) (by omega)
      obtain ⟨b2, o2, rfl, hbl2, hd⟩ := (hS2.below hb) (by omega)
      have c0 := hc k 0 _ (List.getElem?_eq_getElem hlt) (by decide)
      have c1 := hc k 1 _ (List.getElem?_eq_getElem hlt) (by decide)
      have d0 := hd k 0 _ (List.getElem?_eq_getElem hlt) (by decide)
      have d1 := hd k 1 _ (List.getElem?_eq_getElem hlt) (by decide)
      generalize l[k] = x at *
      obtain ⟨xk, xn⟩ := x
      simp only [encRow, List.getElem?_cons_zero, List.getElem?_cons_succ, Nat.add_zero] at c0 c1 d0 d1
      have hki : (k : Int) < (l.length : Int) := by omega
      clear hS hS2 hc hd
      go_wp2_with fail
      refine wp_region_below (by kernel_rfl) (by kernel_rfl) ?_
      iterate 9 (refine wpQuiet_step (fun K hK => ?_); go_simp; first | (apply Exists.intro; refine ⟨fun W hW => ?_, hK _ ?_⟩; (first | rfl | (have e0 := (hW.cell (p := ⟨b, o + k * 2, none⟩) hbl).trans c0; have e1 := (hW.cell (p := ⟨b, o + k * 2 + 1, none⟩) hbl).trans c1; have f0 := (hW.cell (p := ⟨b2, o2 + k * 2, none⟩) hbl2).trans d0; have f1 := (hW.cell (p := ⟨b2, o2 + k * 2 + 1, none⟩) hbl2).trans d1; go_simp; rfl)); clear hK K) | (refine hK _ ?_; clear hK K))
      refine wpQuiet_nil ?_
      intro W hW
      have hb' := bthen hb hW
      go_wp2
      go_roundw
      case rel => exact ⟨k + 1, by omega, by go_num, hb'⟩
      case measure => simp [intOf]; omega
    · obtain rfl : k = l.length := by omega
      go_wp2
      go_ret
      exact ⟨rfl, hb⟩
set_option maxRecDepth 100000 in
set_option maxHeartbeats 1000000 in
/-- the last time of a key in a store that is not right -/
theorem implLast_bad (A : Option Addr) (l : List Ver) (c : Nat) (now : Int) (key : ByteArray) (w : World) (hf : FitsV l) (hn : l.length ≤ 1048576) (hS : Sl encVer 4 w A l) (hv : versB now l = false) :
    Calls Try.prog 20 #[.agg #[.int .i64 now, .slice A l.length c], .string key] w fun e w' => e = .returned (.int .i64 0) ∧ Below w.heap.size w w' := by
  have hb0 := (Below.refl w.heap.size w).alloc (Nat.le_refl _) (.cells #[.int .i64 now, .slice A l.length c] 32)
  have HV := Lib.hid (implVersOk_any A l c now _ hf hn (hS.below hb0))
  rw [hv] at HV
  clear hS hv
  go_enter Try.func20, Try.ntmps20
  go_wp2_with fail
  refine HV.out.mono ?_
  rintro e w1 ⟨rfl, hb1⟩
  have hb := bthen hb0 hb1
  go_wp2
  go_ret
  exact ⟨rfl, hb⟩
end Go.Proofs.Ytpjkcmmmpgncmaa
namespace Go.Proofs.Ytpjkcmmmpgncmaa
open Go.ChangeShapes Go.WideShapes Go.ChangeAt Go.RowKit
theorem cellsU8 : Try.prog.cellsOf 5 = 1 := by kernel_rfl
set_option maxRecDepth 100000 in
theorem open_bytes {H : Type} {enc : TypeId × Value → H} {w : World} {base base2 : Nat} {spare : Nat → Bool} {held : Bool} {v : Value} {d : DataW H} {p : List MemPlace}
    (hval : Value.okWide Try.prog w .any base 38 v) (h : DataW.Trod enc Try.prog w base2 spare held 38 v d p) :
    ∃ (A : Option Addr) (bs : List UInt8) (c : Nat), v = .slice A bs.length c ∧ (bs.length ≤ c ∧ c ≤ maxLen) ∧ Sl encU 1 w A bs := by
  obtain ⟨fuel, hf⟩ := h
  obtain ⟨a0, len, cap, rfl⟩ := okWide_slice Try.underlying38 hval
  rcases open_ints Try.underlying38 Try.underlying5 cellsU8 hf with ⟨hcs, hx⟩ | ⟨a, len', cap', zs, hcs, _, hl, hm, hz, hx, hcell, hwz⟩
  · simp [Value.cells] at hcs
    obtain ⟨rfl, rfl, rfl⟩ := hcs
    exact ⟨none, [], 0, rfl, ⟨Nat.le_refl _, Nat.zero_le _⟩, Sl.nil _ _ _ _⟩
  · simp [Value.cells] at hcs
    obtain ⟨rfl, rfl, rfl⟩ := hcs
    have hlz : len ≤ zs.length := by rw [hz]; split <;> omega
    obtain ⟨l, hll, _, hS⟩ := Sl.of_cells (enc := encU) (k := 1) (n := len) (w := w) (a := a) (Good := fun _ : UInt8 => True) (by omega) (fun _ => rfl) (fun i hil => by
      have hc := hcell i (by omega)
      have hb := range_u8 hwz i
      rw [List.getD_eq_getElem?_getD] at hc
      refine ⟨UInt8.ofNat (zs[i]?.getD 0).toNat, trivial, fun j hj => ?_⟩
      obtain rfl : j = 0 := by omega
      simp only [Nat.mul_one, Nat.add_zero]
      rw [hc]
      simp [encU]; omega)
    subst hll
    exact ⟨some a, l, cap, rfl, ⟨hl, hm⟩, hS⟩
end Go.Proofs.Ytpjkcmmmpgncmaa
namespace Go.Proofs.Ytpjkcmmmpgncmaa
open Go.RowKit
set_option maxRecDepth 100000 in
set_option maxHeartbeats 2000000 in
theorem implLast_good (A : Option Addr) (l : List Ver) (c : Nat) (now : Int) (key : ByteArray) (w : World) (hf : FitsV l) (hn : l.length ≤ 1048576) (hS : Sl encVer 4 w A l) (hv : versB now l = true) :
    Calls Try.prog 20 #[.agg #[.int .i64 now, .slice A l.length c], .string key] w fun e w' => e = .returned (.int .i64 (lastV key l)) ∧ Below w.heap.size w w' := by
  have hb0 := (Below.refl w.heap.size w).alloc (Nat.le_refl _) (.cells #[.int .i64 now, .slice A l.length c] 32)
  have HV := Lib.hid (implVersOk_any A l c now _ hf hn (hS.below hb0))
  rw [hv] at HV
  have hB0 := Blk.new w 32 #[.int .i64 now, .slice A l.length c]
  have HSA := Lib.hid (hS.below hb0)
  clear hS hv
  go_enter Try.func20, Try.ntmps20
  go_wp2_with fail
  refine HV.out.mono ?_
  rintro e w1 ⟨rfl, hb1⟩
  have hb := bthen hb0 hb1
  have hB1 := hB0.kept hb1
  have v0 : w1.cell? ⟨w.heap.size, 0, none⟩ = some (.int .i64 now) := hB1.cell 0
  have v1 : w1.cell? ⟨w.heap.size, 1, none⟩ = some (.slice A l.length c) := hB1.cell 1
  have HS := Lib.hid (HSA.out.below hb1)
  clear HSA HV hB0 hb1 hb0 hB1
  go_wp2
  go_loopg [5, 14] l.length (fun kx s5 s14 wr => ∃ k : Nat, k ≤ l.length ∧ kx = l.length - k ∧ s5 = .int .i64 (lastV key (l.take k)) ∧ s14 = .int .i64 k ∧ Below w1.heap.size w1 wr)
  case atStart => exact ⟨0, Nat.zero_le _, rfl, rfl, rfl, Below.refl _ _⟩
  case round =>
    obtain ⟨k, hk, hg, rfl, rfl, hbr⟩ := hrel
    by_cases hlt : k < l.length
    · have HT := Lib.hid (lastV_take (K := key) hlt)
      obtain ⟨b, o, rfl, hbl, c0, c1, c2, c3⟩ := Sl.at4 (HS.out.below hbr) hlt
      generalize l[k] = x at *
      generalize lastV key (l.take k) = m at *
      obtain ⟨xk, xn, xf, xt⟩ := x
      simp only at c0 c1 c2 c3
      have hki : (k : Int) < (l.length : Int) := by omega
      have hki0 : (0 : Int) ≤ (k : Int) := by omega
      by_cases he : xk = key
      · have HM := Lib.hid (show stepL key m (xk, xn, xf, xt) = max (max m xf) xt from if_pos he)
        rw [HM.out] at HT
        go_wp2
        all_goals
          have hb' := bthen hbr ((Below.refl wr.heap.size wr).alloc (Nat.le_refl _) (.cells #[.string key, .int .i64 xn, .int .i64 xf, .int .i64 xt] 88))
          go_roundg (l.length - (k + 1))
          case measure => omega
          case rel =>
            refine ⟨k + 1, by omega, by omega, ?_, by go_num, hb'⟩
            have h2 := HT.out
            first
              | (rename_i h; split at h <;> exact vint (by omega))
              | (rename_i h h1; split at h <;> exact vint (by omega))
              | exact vint (by omega)
              | (trace_state; fail)
      · have HM := Lib.hid (show stepL key m (xk, xn, xf, xt) = m from if_neg he)
        rw [HM.out] at HT
        have d0 : (xk.toList == key.toList) = false := by rw [beq_eq_false_iff_ne]; exact fun h => he ((bytes_eq_iff _ _).1 h)
        have hb' := bthen hbr ((Below.refl wr.heap.size wr).alloc (Nat.le_refl _) (.cells #[.string xk, .int .i64 xn, .int .i64 xf, .int .i64 xt] 88))
        go_wp2
        go_roundg (l.length - (k + 1))
        case measure => omega
        case rel => exact ⟨k + 1, by omega, by omega, vint HT.out.symm, by go_num, hb'⟩
    · obtain rfl : k = l.length := by omega
      rw [List.take_length]
      go_wp2
      go_ret
      exact ⟨rfl, bthen hb hbr⟩
theorem implLast_any (A : Option Addr) (l : List Ver) (c : Nat) (now : Int) (key : ByteArray) (w : World) (hf : FitsV l) (hn : l.length ≤ 1048576) (hS : Sl encVer 4 w A l) :
    Calls Try.prog 20 #[.agg #[.int .i64 now, .slice A l.length c], .string key] w fun e w' => e = .returned (.int .i64 (if versB now l = true then lastV key l else 0)) ∧ Below w.heap.size w w' := by
  cases hv : versB now l
  · simp only [Bool.false_eq_true, if_false]
    exact implLast_bad A l c now key w hf hn hS hv
  · simp only [if_true]
    exact implLast_good A l c now key w hf hn hS hv
end Go.Proofs.Ytpjkcmmmpgncmaa
