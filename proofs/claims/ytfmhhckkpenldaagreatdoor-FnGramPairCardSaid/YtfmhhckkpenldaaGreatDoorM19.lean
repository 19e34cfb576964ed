import Derived.Test.YtfmhhckkpenldaaGreatDoorM01
import Derived.Test.YtfmhhckkpenldaaGreatDoorRows
import Derived.RangeFuncNested
import Derived.RangeFuncBound
import Derived.RangeFuncCalls
import Derived.RangeFuncLeaves
import Derived.RangeFuncWrites
import Derived.RangeFuncBox
import Derived.Shelf.Abstract
import Derived.Shelf.RegionOpen
import Derived.WalkKit
import Derived.OwnWalkIn
import Derived.TacticsInMore
import Derived.LoopNIn
import Derived.LoopIn
import Derived.Lib.ItoaNum
import Derived.Lib.AtoiTie
import Derived.Lib.ParseIntBTie
import Derived.Lib.AtoiBound
/- What a letter is, as data. -/
namespace Go.Proofs.YtfmhhckkpenldaaGreatDoor
open Go.RowKit
abbrev Let : Type := ByteArray × ByteArray
def encLet (x : Let) : List Value := [.string x.1, .string x.2]
theorem encLet_len (x : Let) : (encLet x).length = 2 := rfl
end Go.Proofs.YtfmhhckkpenldaaGreatDoor
/- The laws' helpers on lists of letters: their size, their copies. -/
namespace Go.Proofs.YtfmhhckkpenldaaGreatDoor
open Go.RowKit
theorem infoLet : (Tryz.prog.info? 31).map (fun i => (i.zero, i.size, i.bytes)) = some (some (.agg #[.string ⟨#[]⟩, .string ⟨#[]⟩]), 2, 32) := by kernel_rfl
end Go.Proofs.YtfmhhckkpenldaaGreatDoor
/- Words for ranges over functions: what a round keeps, marks among the deferred calls, a function that leaves with marks. -/
namespace Go.Proofs.YtfmhhckkpenldaaGreatDoor
open Go.RowKit Go.Shelf
attribute [local go_sem] Oper.semAt_some
/-- below N0 nothing has turned but block bs -/
def KpB (N0 bs : Nat) (W W' : World) : Prop := W.heap.size ≤ W'.heap.size ∧ ∀ k, k < N0 → k ≠ bs → W'.heap[k]? = W.heap[k]?
section
variable {N0 bs : Nat} {W W1 W2 : World}
theorem KpB.refl (N0 bs : Nat) (W : World) : KpB N0 bs W W := ⟨Nat.le_refl _, fun _ _ _ => rfl⟩
theorem KpB.trans (h : KpB N0 bs W W1) (h2 : KpB N0 bs W1 W2) : KpB N0 bs W W2 := ⟨Nat.le_trans h.1 h2.1, fun k hk hne => (h2.2 k hk hne).trans (h.2 k hk hne)⟩
theorem KpB.put {l : Nat} (hN : N0 ≤ l) (o' : Obj) : KpB N0 bs W (W.putObj l o') := ⟨by simp, fun k hk _ => World.putObj_heap_other (by omega)⟩
theorem KpB.cell (h : KpB N0 bs W W1) {p : Addr} (hp : p.block < N0) (hne : p.block ≠ bs) : W1.cell? p = W.cell? p := World.cell?_of_block (h.2 p.block hp hne)
theorem KpB.sl {α : Type} {enc : α → List Value} {k : Nat} {A : Option Addr} {l : List α} {w : World} (h : KpB N0 bs W W1) (hS : Sl enc k w A l) (hw : w.heap.size ≤ bs) (hN : bs < N0) (hW : Below w.heap.size w W) : Sl enc k W1 A l := by
  intro hl
  obtain ⟨b, o, rfl, hlt, hc⟩ := hS hl
  refine ⟨b, o, rfl, by have := h.1; have := hW.size; omega, fun i j x hx hj => ?_⟩
  rw [h.cell (by simp; omega) (by simp; omega), hW.cell (by simp; omega)]
  exact hc i j x hx hj
end
abbrev mkD (D : Nat) : Deferred := { target := .collected D, args := #[] }
def MarksAt (B : Nat) (Ds : List Nat) (w : World) : Prop := Ds.Nodup ∧ ∀ D ∈ Ds, B ≤ D ∧ w.heap[D]? = some (.deferred (some []))
theorem below_put {B D : Nat} (w : World) (o : Obj) (h : B ≤ D) : Below B w (w.putObj D o) := ⟨rfl, rfl, rfl, by simp, fun k hk => World.putObj_heap_other (by omega)⟩
theorem MarksAt.leaves {P : Program} {F : Fence} {n : Nat} {fn : Func} {tmps : Array Value} {R : Ending → World → Prop} {B : Nat} {v : Value} : ∀ (Ds : List Nat) (w : World), MarksAt B Ds w →
    (∀ w', Below B w w' → (results fn tmps).run P w' = .ok v w' ∧ R (.returned v) w') → LeavesInM F n P fn tmps R (Ds.map mkD) .returning w
  | [], w, _, hres => ⟨v, hres w (Below.refl _ _)⟩
  | D :: Ds, w, h, hres => by
    have hD := h.2 D (by simp)
    have hnd := List.nodup_cons.1 h.1
    refine ⟨by simp, .inl ⟨D, _, rfl, run_takeDeferred hD.2, MarksAt.leaves Ds _ ⟨hnd.2, fun D' hD' => ?_⟩ (fun w' hb => hres w' ((below_put w _ hD.1).trans hb))⟩⟩
    have h2 := h.2 D' (by simp [hD'])
    have hne : D' ≠ D := fun e => hnd.1 (e ▸ hD')
    exact ⟨h2.1, (World.putObj_heap_other hne).trans h2.2⟩
theorem MarksAt.nil (B : Nat) (w : World) : MarksAt B [] w := ⟨List.nodup_nil, fun _ h => by cases h⟩
theorem MarksAt.lt {B D : Nat} {Ds : List Nat} {w : World} (h : MarksAt B Ds w) (hD : D ∈ Ds) : D < w.heap.size := (Array.getElem?_eq_some_iff.1 (h.2 D hD).2).1
theorem MarksAt.kept {B : Nat} {Ds : List Nat} {w w' : World} (h : MarksAt B Ds w) (hb : Below w.heap.size w w') : MarksAt B Ds w' :=
  ⟨h.1, fun D hD => ⟨(h.2 D hD).1, (hb.block D (h.lt hD)).trans (h.2 D hD).2⟩⟩
theorem MarksAt.grown {B : Nat} {Ds : List Nat} {w w' : World} {b : Nat} (h : MarksAt B Ds w) (hg : w.grownBy w' (some b)) (hb : ∀ D ∈ Ds, D ≠ b) : MarksAt B Ds w' :=
  ⟨h.1, fun D hD => ⟨(h.2 D hD).1, (hg.block D (h.lt hD) (fun e => hb D hD (by injection e))).trans (h.2 D hD).2⟩⟩
theorem MarksAt.cons {B D : Nat} {Ds : List Nat} {w : World} (h : MarksAt B Ds w) (hD : w.heap[D]? = some (.deferred (some []))) (hB : B ≤ D) (hne : ∀ D' ∈ Ds, D' ≠ D) : MarksAt B (D :: Ds) w :=
  ⟨List.nodup_cons.2 ⟨fun e => hne D e rfl, h.1⟩, fun D' hD' => by
    rcases List.mem_cons.1 hD' with rfl | e
    · exact ⟨hB, hD⟩
    · exact h.2 D' e⟩
end Go.Proofs.YtfmhhckkpenldaaGreatDoor
/- Plain words: numerals of at most 17 digits in their one form: that the library's reader and writer agree on a text is that it is such a numeral. -/
namespace Go.Proofs.YtfmhhckkpenldaaGreatDoor
open Go.RowKit
def digL (l : List UInt8) : Bool := l.all (fun c => decide (48 ≤ c.toNat ∧ c.toNat ≤ 57))
def magOk (neg : Bool) (l : List UInt8) : Bool := decide (l ≠ []) && decide (l.length ≤ 17) && !((l.head? == some 48) && (decide (1 < l.length) || neg)) && digL l
def negL (l : List UInt8) : Bool := l.head? == some 45
def numL (l : List UInt8) : Bool := if negL l then magOk true l.tail else magOk false l
theorem dig_ofNat {d : Nat} (h : d < 10) : (UInt8.ofNat (48 + d)).toNat = 48 + d := by
  simp [UInt8.toNat_ofNat']; omega
theorem dig_back {c : UInt8} (h : 48 ≤ c.toNat ∧ c.toNat ≤ 57) : UInt8.ofNat (48 + (c.toNat - 48)) = c := by
  apply UInt8.toNat_inj.1
  rw [dig_ofNat (by omega)]; omega
theorem decDigits_dig (u : Nat) : digL (Lib.decDigits u) = true := by
  induction u using Nat.strongRecOn with
  | _ u ih =>
    rw [Lib.decDigits]
    by_cases h : u < 10
    · rw [dif_pos h]; simp only [digL, List.all_cons, List.all_nil, Bool.and_true, decide_eq_true_eq]; rw [dig_ofNat h]; omega
    · rw [dif_neg h]
      have := ih (u / 10) (by omega)
      unfold digL at this ⊢
      rw [List.all_append, this]
      simp only [List.all_cons, List.all_nil, Bool.and_true, Bool.true_and, decide_eq_true_eq]
      rw [dig_ofNat (by omega)]; omega
theorem decDigits_ne (u : Nat) : Lib.decDigits u ≠ [] := by
  rw [Lib.decDigits]
  split <;> simp
theorem decDigits_head (u : Nat) (h : 0 < u) : (Lib.decDigits u).head? ≠ some 48 := by
  induction u using Nat.strongRecOn with
  | _ u ih =>
    rw [Lib.decDigits]
    by_cases h10 : u < 10
    · rw [dif_pos h10]
      intro e
      simp only [List.head?_cons, Option.some.injEq] at e
      have := congrArg UInt8.toNat e
      rw [dig_ofNat h10] at this
      simp at this; omega
    · rw [dif_neg h10]
      have h1 := ih (u / 10) (by omega) (by omega)
      have h2 := decDigits_ne (u / 10)
      generalize Lib.decDigits (u / 10) = l at *
      cases l with
      | nil => exact absurd rfl h2
      | cons a t => simpa using h1
theorem decFrom_app : ∀ (a b : List UInt8) (acc m : Nat), Lib.decFrom acc a = some m → Lib.decFrom acc (a ++ b) = Lib.decFrom m b
  | [], b, acc, m, h => by simp only [Lib.decFrom, Option.some.injEq] at h; subst h; rfl
  | c :: t, b, acc, m, h => by
    simp only [Lib.decFrom, List.cons_append] at h ⊢
    cases hc : Lib.digitVal c with
    | none => rw [hc] at h; cases h
    | some d => rw [hc] at h; exact decFrom_app t b _ m h
theorem digL_cons {c : UInt8} {l : List UInt8} : digL (c :: l) = true ↔ (48 ≤ c.toNat ∧ c.toNat ≤ 57) ∧ digL l = true := by simp [digL]
/-- digits with no zero ahead are the numeral of what they spell -/
theorem canon : ∀ (n : Nat) (l : List UInt8), l.length = n → l ≠ [] → digL l = true → (l.head? ≠ some 48 ∨ l.length = 1) → ∃ m, Lib.decFrom 0 l = some m ∧ Lib.decDigits m = l ∧ (l.head? ≠ some 48 → 0 < m) := by
  intro n
  induction n with
  | zero => intro l h hne; exact absurd (List.eq_nil_of_length_eq_zero h) hne
  | succ n ih =>
    intro l h hne hd hh
    obtain ⟨t, c, rfl⟩ : ∃ t c, l = t ++ [c] := ⟨l.dropLast, l.getLast hne, (List.dropLast_concat_getLast hne).symm⟩
    have hd2 : digL t = true ∧ (48 ≤ c.toNat ∧ c.toNat ≤ 57) := by
      unfold digL at hd ⊢; rw [List.all_append, Bool.and_eq_true] at hd; simpa using hd
    simp only [List.length_append, List.length_cons, List.length_nil] at h hh
    have hcn : ∀ a, Lib.decFrom a [c] = some (a * 10 + (c.toNat - 48)) := fun a => by simp only [Lib.decFrom, Lib.digitVal, if_pos hd2.2]
    by_cases ht : t = []
    · subst ht
      refine ⟨c.toNat - 48, by rw [List.nil_append, hcn]; simp, ?_, fun h48 => ?_⟩
      · rw [Lib.decDigits_one (by omega), dig_back hd2.2]; rfl
      · simp at h48
        rcases Nat.lt_or_ge 48 c.toNat with h' | h'
        · omega
        · exact absurd (UInt8.toNat_inj.1 (by simp; omega)) h48
    · have hh2 : t.head? ≠ some 48 := by
        rcases hh with hh | hh
        · cases t with
          | nil => exact absurd rfl ht
          | cons a r => simpa using hh
        · have : 0 < t.length := List.length_pos_iff.2 ht
          omega
      obtain ⟨m, hm, hdm, hpos⟩ := ih t (by omega) ht hd2.1 (.inl hh2)
      have hp := hpos hh2
      refine ⟨m * 10 + (c.toNat - 48), by rw [decFrom_app t [c] 0 m hm, hcn], ?_, fun _ => by omega⟩
      rw [Lib.decDigits, dif_neg (by omega), show (m * 10 + (c.toNat - 48)) / 10 = m by omega, show (m * 10 + (c.toNat - 48)) % 10 = c.toNat - 48 by omega, hdm, dig_back hd2.2]
theorem magOk_iff {neg : Bool} {l : List UInt8} : magOk neg l = true ↔ l ≠ [] ∧ l.length ≤ 17 ∧ (l.head? = some 48 → l.length ≤ 1 ∧ neg = false) ∧ digL l = true := by
  unfold magOk
  by_cases h : l.head? = some 48
  · have hb : (l.head? == some 48) = true := by simp [h]
    rw [hb]; cases neg <;> simp [h, and_assoc]
  · have hb : (l.head? == some 48) = false := by simpa using h
    rw [hb]; simp [h, and_assoc]
theorem magOk_dec {u : Nat} (hl : (Lib.decDigits u).length ≤ 17) (neg : Bool) (hn : neg = true → 0 < u) : magOk neg (Lib.decDigits u) = true := by
  refine magOk_iff.2 ⟨decDigits_ne u, hl, fun h => ?_, decDigits_dig u⟩
  have h0 : u = 0 := by
    rcases Nat.eq_zero_or_pos u with h0 | h0
    · exact h0
    · exact absurd h (decDigits_head u h0)
  subst h0
  refine ⟨by rw [Lib.decDigits_one (by decide)]; simp, by cases neg; · rfl
                                                          · exact absurd (hn rfl) (by decide)⟩
theorem negL_iff {l : List UInt8} : negL l = true ↔ ∃ r, l = 45 :: r := by
  unfold negL
  cases l with
  | nil => simp
  | cons a r => simp
theorem dec_notNeg (u : Nat) : negL (Lib.decDigits u) = false := by
  rw [Bool.eq_false_iff]
  intro h
  obtain ⟨r, hr⟩ := negL_iff.1 h
  have := decDigits_dig u
  rw [hr] at this
  have := (digL_cons.1 this).1
  simp at this
/-- what the program asks of a numeral is what the reference asks -/
theorem num_iff (l : List UInt8) : ((if negL l then l.tail else l).length ≤ 17 ∧ ∃ v, Lib.parseIntB 64 l = .ok v ∧ Lib.itoa v = l) ↔ numL l = true := by
  constructor
  · rintro ⟨hl, v, _, rfl⟩
    unfold numL
    by_cases hv : v < 0
    · have he : Lib.itoa v = 45 :: Lib.decDigits v.natAbs := by unfold Lib.itoa; rw [if_pos hv]
      have hn : negL (Lib.itoa v) = true := negL_iff.2 ⟨_, he⟩
      rw [if_pos hn] at hl ⊢
      rw [he] at hl ⊢
      exact magOk_dec hl true (fun _ => by omega)
    · have he : Lib.itoa v = Lib.decDigits v.toNat := by unfold Lib.itoa; rw [if_neg hv]
      have hn : negL (Lib.itoa v) = false := by rw [he]; exact dec_notNeg _
      rw [if_neg (by rw [hn]; decide)] at hl ⊢
      rw [he] at hl ⊢
      exact magOk_dec hl false (fun h => by cases h)
  · intro h
    unfold numL at h
    by_cases hn : negL l = true
    · rw [if_pos hn] at h ⊢
      obtain ⟨r, rfl⟩ := negL_iff.1 hn
      simp only [List.tail_cons] at h ⊢
      obtain ⟨h1, h2, h3, h4⟩ := magOk_iff.1 h
      have hh : r.head? ≠ some 48 := fun e => by have := (h3 e).2; cases this
      obtain ⟨m, hm, hd, hp⟩ := canon _ r rfl h1 h4 (.inl hh)
      refine ⟨h2, -(m : Int), ?_, ?_⟩
      · rw [Lib.parseIntB_64, Lib.atoiAll_short _ (by simp; omega)]
        have : Lib.atoi (45 :: r) = some (-(m : Int)) := by
          unfold Lib.atoi Lib.decNat
          cases r with
          | nil => exact absurd rfl h1
          | cons a t => simp [hm]
        rw [this]; rfl
      · have hp' := hp hh
        unfold Lib.itoa
        rw [if_pos (by omega)]
        have : (-(m : Int)).natAbs = m := by omega
        rw [this, hd]
    · rw [if_neg hn] at h ⊢
      obtain ⟨h1, h2, h3, h4⟩ := magOk_iff.1 h
      obtain ⟨m, hm, hd, _⟩ := canon _ l rfl h1 h4 (by
        by_cases e : l.head? = some 48
        · right
          have := (h3 e).1
          have := List.length_pos_iff.2 h1
          omega
        · exact .inl e)
      refine ⟨h2, (m : Int), ?_, ?_⟩
      · rw [Lib.parseIntB_64, Lib.atoiAll_short _ (by omega)]
        have : Lib.atoi l = some (m : Int) := by
          cases l with
          | nil => exact absurd rfl h1
          | cons a t =>
            have ha := (digL_cons.1 h4).1
            have e1 : (a == 45) = false := by
              rw [beq_eq_false_iff_ne]; rintro rfl; simp at ha
            have e2 : (a == 43) = false := by
              rw [beq_eq_false_iff_ne]; rintro rfl; simp at ha
            unfold Lib.atoi Lib.decNat
            simp [e1, e2, hm]
        rw [this]; rfl
      · unfold Lib.itoa
        rw [if_neg (by omega)]
        simp [hd]
end Go.Proofs.YtfmhhckkpenldaaGreatDoor
/- What a write is, as data; rows of writes, and rows of such rows. -/
namespace Go.Proofs.YtfmhhckkpenldaaGreatDoor
open Go.RowKit
abbrev Wri : Type := ByteArray × Int × Bool
def encWri (x : Wri) : List Value := [.string x.1, .int .i64 x.2.1, .bool x.2.2]
theorem encWri_len (x : Wri) : (encWri x).length = 3 := rfl
def FitsW (l : List Wri) : Prop := l.length ≤ maxLen ∧ ∀ x ∈ l, x.1.size ≤ maxLen
/-- a row of a row: where it lies, its room, what it holds -/
abbrev Wrow : Type := Option Addr × Nat × List Wri
def encWrow (r : Wrow) : List Value := [.slice r.1 r.2.2.length r.2.1]
def cont (rs : List Wrow) : List (List Wri) := rs.map (fun r => r.2.2)
/-- the rows rs lie at A in w -/
def Sl2 (w : World) (A : Option Addr) (rs : List Wrow) : Prop := Sl encWrow 1 w A rs ∧ ∀ r ∈ rs, Sl encWri 3 w r.1 r.2.2
theorem Sl2.below {w w' : World} {A : Option Addr} {rs : List Wrow} (h : Sl2 w A rs) (hb : Below w.heap.size w w') : Sl2 w' A rs := ⟨h.1.below hb, fun r hr => (h.2 r hr).below hb⟩
theorem Sl2.nil (w : World) (A : Option Addr) : Sl2 w A [] := ⟨Sl.nil _ _ _ _, fun r hr => absurd hr (by simp)⟩
theorem Sl2.at_ {w : World} {A : Option Addr} {rs : List Wrow} (h : Sl2 w A rs) {i : Nat} (hi : i < rs.length) :
    ∃ b o, A = some ⟨b, o, none⟩ ∧ b < w.heap.size ∧ w.cell? ⟨b, o + i, none⟩ = some (.slice rs[i].1 rs[i].2.2.length rs[i].2.1) ∧ Sl encWri 3 w rs[i].1 rs[i].2.2 := by
  obtain ⟨b, o, e, hb, hc⟩ := h.1.at1 (f := fun r : Wrow => .slice r.1 r.2.2.length r.2.1) hi
  exact ⟨b, o, e, hb, hc, h.2 _ (List.getElem_mem _)⟩
/-- the three cells of a block are stored: what is read afterwards, as the walk spells it -/
theorem Blk.three {w : World} {g : Nat} {t : TypeId} {a b c : Value} (h : Blk w g t #[a, b, c]) (u v x : Value) :
    Blk (((w.setCell ⟨g, 0, none⟩ u).setCell ⟨g, 1, none⟩ v).setCell ⟨g, 2, none⟩ x) g t #[u, v, x] := ((h.set_ 0 u).set_ 1 v).set_ 2 x
end Go.Proofs.YtfmhhckkpenldaaGreatDoor
/- Plain words: the order of texts by their bytes. -/
namespace Go.Proofs.YtfmhhckkpenldaaGreatDoor
open Go.RowKit
theorem bl_irrefl : ∀ l : List UInt8, Op.bytesLess l l = false
  | [] => rfl
  | a :: l => by
    unfold Op.bytesLess
    rw [bl_irrefl l]; simp
theorem bl_nil (l : List UInt8) : Op.bytesLess l [] = false := by cases l <;> rfl
theorem bl_cons (a b : UInt8) (l r : List UInt8) : Op.bytesLess (a :: l) (b :: r) = true ↔ a.toNat < b.toNat ∨ (a = b ∧ Op.bytesLess l r = true) := by
  rw [Op.bytesLess]
  simp [UInt8.lt_iff_toNat_lt]
theorem bl_trans : ∀ {a b c : List UInt8}, Op.bytesLess a b = true → Op.bytesLess b c = true → Op.bytesLess a c = true
  | _, _, [], _, h => by rw [bl_nil] at h; cases h
  | _, [], _ :: _, h, _ => by rw [bl_nil] at h; cases h
  | [], _ :: _, _ :: _, _, _ => rfl
  | a :: l, b :: r, c :: s, h, h2 => by
    rw [bl_cons] at h h2 ⊢
    rcases h with h | ⟨rfl, h⟩
    · rcases h2 with h2 | ⟨rfl, h2⟩
      · left; omega
      · left; exact h
    · rcases h2 with h2 | ⟨rfl, h2⟩
      · left; exact h2
      · right; exact ⟨rfl, bl_trans h h2⟩
theorem bl_tri : ∀ (a b : List UInt8), Op.bytesLess a b = false → Op.bytesLess b a = false → a = b
  | [], [], _, _ => rfl
  | [], _ :: _, h, _ => by rw [Op.bytesLess] at h; cases h
  | _ :: _, [], _, h => by rw [Op.bytesLess] at h; cases h
  | a :: l, b :: r, h, h2 => by
    have h1 := fun e => (Bool.eq_false_iff.1 h) ((bl_cons a b l r).2 e)
    have h3 := fun e => (Bool.eq_false_iff.1 h2) ((bl_cons b a r l).2 e)
    have hab : a = b := by
      apply UInt8.toNat_inj.1
      have e1 : ¬ a.toNat < b.toNat := fun e => h1 (.inl e)
      have e2 : ¬ b.toNat < a.toNat := fun e => h3 (.inl e)
      omega
    subst hab
    rw [bl_tri l r (Bool.eq_false_iff.2 (fun e => h1 (.inr ⟨rfl, e⟩))) (Bool.eq_false_iff.2 (fun e => h3 (.inr ⟨rfl, e⟩)))]
theorem bl_asym {a b : List UInt8} (h : Op.bytesLess a b = true) : Op.bytesLess b a = false := by
  rw [Bool.eq_false_iff]; intro h2
  have := bl_trans h h2
  rw [bl_irrefl] at this; cases this
/-- the order of texts -/
def kLt (a b : ByteArray) : Prop := Op.bytesLess a.toList b.toList = true
theorem kLt_irrefl (a : ByteArray) : ¬ kLt a a := by unfold kLt; rw [bl_irrefl]; simp
theorem kLt_trans {a b c : ByteArray} (h : kLt a b) (h2 : kLt b c) : kLt a c := bl_trans h h2
theorem kLt_tri {a b : ByteArray} (h : ¬ kLt a b) (h2 : ¬ kLt b a) : a = b := (bytes_eq_iff _ _).1 (bl_tri _ _ (by simpa [kLt] using h) (by simpa [kLt] using h2))
theorem kLt_asym {a b : ByteArray} (h : kLt a b) : ¬ kLt b a := by unfold kLt; rw [bl_asym h]; simp
instance (a b : ByteArray) : Decidable (kLt a b) := by unfold kLt; exact inferInstance
end Go.Proofs.YtfmhhckkpenldaaGreatDoor
