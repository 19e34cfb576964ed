import Derived.Test.YtpjkcmmmpgncmaaM15
import Derived.Test.YtpjkcmmmpgncmaaM20
import Derived.Test.YtpjkcmmmpgncmaaM04
import Derived.Test.YtpjkcmmmpgncmaaM05
import Derived.Lib.AppendZeros
import Derived.Deep.RegionWith
import Derived.Lib.SliceRun
import Derived.Lib.Walk
import Derived.Test.YtpjkcmmmpgncmaaM17
import Derived.Test.YtpjkcmmmpgncmaaM13
/- Drawing keys and numbers. -/
namespace Go.Proofs.Ytpjkcmmmpgncmaa
open Go.RowKit
theorem gr_trans {w w1 w2 : World} {r : Option Nat} (h : w.grownBy w1 r) (h2 : w1.grownBy w2 r) : w.grownBy w2 r :=
  ⟨h2.os.trans h.os, h2.tape.trans h.tape, h2.output.trans h.output, Nat.le_trans h.size h2.size, fun k hk hne => (h2.block k (Nat.lt_of_lt_of_le hk h.size) hne).trans (h.block k hk hne)⟩
theorem gr_below {w w1 : World} {r : Option Nat} (h : Below w.heap.size w w1) : w.grownBy w1 r := ⟨h.os, h.tape, h.output, h.size, fun k hk _ => h.block k hk⟩
theorem gr_alloc {w w1 : World} {r : Option Nat} (h : w.grownBy w1 r) (o : Obj) : w.grownBy (w1.alloc o) r := gr_trans h (gr_below ((Below.refl _ _).alloc (Nat.le_refl _) o))
theorem gr_far {w w1 : World} {r : Option Nat} (h : w.grownBy w1 r) {p : Addr} (hp : w.heap.size ≤ p.block) (u : Value) : w.grownBy (w1.setCell p u) r :=
  ⟨h.os, h.tape, h.output, by rw [World.size_setCell]; exact h.size, fun k hk hne => (heap_setCell_other w1 p k u (by omega)).trans (h.block k hk hne)⟩
/-- a row of the call's own may turn too: it lies in new memory -/
theorem gr_own {w w1 w2 : World} {r : Option Nat} {s : Option Nat} (h : w.grownBy w1 r) (h2 : w1.grownBy w2 s) (hs : ∀ j, s = some j → w.heap.size ≤ j) : w.grownBy w2 r :=
  ⟨h2.os.trans h.os, h2.tape.trans h.tape, h2.output.trans h.output, Nat.le_trans h.size h2.size, fun k hk hne => (h2.block k (Nat.lt_of_lt_of_le hk h.size) (fun e => by have := hs k e.symm; omega)).trans (h.block k hk hne)⟩
theorem Rd.farS {w0 w : World} {A : Option Addr} {bs : List UInt8} {c g q : Nat} (h : Rd w0 w A bs c g q) {p : Addr} (hp : g ≠ p.block) (hp0 : w0.heap.size ≤ p.block) (u : Value) : Rd w0 (w.setCell p u) A bs c g q :=
  ⟨h.1.far hp u, h.2.1.setCell hp0 u, h.2.2⟩
theorem Rd.own {w0 w w' : World} {A : Option Addr} {bs : List UInt8} {c g q : Nat} {s : Option Nat} (h : Rd w0 w A bs c g q) (hg : w.grownBy w' s) (hs : ∀ j, s = some j → g < j) : Rd w0 w' A bs c g q :=
  ⟨h.1.grown hg (fun e => by have := hs g e.symm; omega), ⟨hg.os.trans h.2.1.os, hg.tape.trans h.2.1.tape, hg.output.trans h.2.1.output, Nat.le_trans h.2.1.size hg.size, fun k hk => (hg.block k (Nat.lt_of_lt_of_le hk h.2.1.size) (fun e => by have := hs k e.symm; have := h.2.2.1; omega)).trans (h.2.1.block k hk)⟩, h.2.2⟩
theorem Sl.gr {α : Type} {enc : α → List Value} {k : Nat} {w w' : World} {A : Option Addr} {l : List α} {r : Option Nat} (h : Sl enc k w A l) (hg : w.grownBy w' r) (hne : ∀ b o, A = some ⟨b, o, none⟩ → some b ≠ r) : Sl enc k w' A l := by
  intro hl
  obtain ⟨b, o, e, hb, hc⟩ := h hl
  exact ⟨b, o, e, Nat.lt_of_lt_of_le hb hg.size, fun i j x hx hj => (World.cell?_of_block (a := ⟨b, o + i * k + j, none⟩) (hg.block b hb (hne b o e))).trans (hc i j x hx hj)⟩
theorem own_gr {w w' : World} {B g : Nat} {e : TypeId} {k n : Nat} {v : Value} {xs : List Value} (h : w.ownsRow B e k v n xs) (hg : w.grownBy w' (some g)) (hlt : g < B) : w'.ownsRow B e k v n xs := by
  refine h.kept hg ?_
  cases hv : v.ownBlock with
  | none => exact .inl rfl
  | some j => exact .inr (fun e => by injection e with e; have := (h.lt j hv).1; omega)
theorem Sl.litS (w : World) (t : TypeId) (l : List ByteArray) (cs : Array Value) (h : cs.toList = l.map Value.string) : Sl (fun x => [.string x]) 1 (w.alloc (.cells cs t)) (some ⟨w.heap.size, 0, none⟩) l := by
  intro hl
  refine ⟨w.heap.size, 0, rfl, by simp, fun i j x hx hj => ?_⟩
  obtain rfl : j = 0 := by omega
  have h0 := (Blk.new w t cs).cell i
  simp only [Nat.mul_one, Nat.add_zero, Nat.zero_add]
  rw [h0, ← Array.getElem?_toList, h, List.getElem?_map, hx]; rfl
theorem Sl.litN (w : World) (t : TypeId) (l : List Int) (cs : Array Value) (h : cs.toList = l.map (Value.int .i64)) : Sl (fun x => [.int .i64 x]) 1 (w.alloc (.cells cs t)) (some ⟨w.heap.size, 0, none⟩) l := by
  intro hl
  refine ⟨w.heap.size, 0, rfl, by simp, fun i j x hx hj => ?_⟩
  obtain rfl : j = 0 := by omega
  have h0 := (Blk.new w t cs).cell i
  simp only [Nat.mul_one, Nat.add_zero, Nat.zero_add]
  rw [h0, ← Array.getElem?_toList, h, List.getElem?_map, hx]; rfl
def keyBad : List ByteArray := [⟨#[]⟩, ⟨#[97, 98, 99]⟩, ⟨#[65]⟩, ⟨#[97, 49]⟩, ⟨#[32]⟩]
def keyGood : List ByteArray := [⟨#[97]⟩, ⟨#[98]⟩, ⟨#[99]⟩, ⟨#[100]⟩, ⟨#[97, 98]⟩, ⟨#[97, 99]⟩, ⟨#[98, 98]⟩, ⟨#[122]⟩, ⟨#[101]⟩, ⟨#[102]⟩, ⟨#[103]⟩, ⟨#[104]⟩]
theorem keyBad_le : ∀ x ∈ keyBad, x.size ≤ 3 := by decide
theorem keyGood_le : ∀ x ∈ keyGood, x.size ≤ 3 := by decide
set_option maxRecDepth 100000 in
set_option maxHeartbeats 600000 in
theorem l1Key_any (w0 : World) (A : Option Addr) (bs : List UInt8) (c g p : Nat) (w : World) (hR : Rd w0 w A bs c g p) (hp : p < 1000000) :
    Calls Try.prog 175 #[.pointer (some ⟨g, 0, none⟩)] w fun e w' => ∃ (x : ByteArray) (q : Nat), e = .returned (.string x) ∧ x.size ≤ 3 ∧ q ≤ p + 2 ∧ Rd w0 w' A bs c g q ∧ w.grownBy w' (some g) := by
  go_enter Try.func175, Try.ntmps175
  go_wp2_with fail
  refine (pick_any w0 A bs c g p 20 _ hR (by omega) (by omega)).mono ?_
  rintro e w1 ⟨j, hj, rfl, hR1, hG1⟩
  have hgl := hR1.1.lt
  by_cases j0 : j = 0
  · subst j0
    have S1 := Sl.litS w1 9 keyBad #[.string ⟨#[]⟩, .string ⟨#[97, 98, 99]⟩, .string ⟨#[65]⟩, .string ⟨#[97, 49]⟩, .string ⟨#[32]⟩] rfl
    go_wp2_with fail
    refine (of_any w0 A bs c g (p + 1) (some ⟨w1.heap.size, 0, none⟩) keyBad 5 _ (hR1.alloc _) (by omega) (by decide) S1 (by intro b o h; simp at h; omega)).mono ?_
    rintro e w4 ⟨x, hx, rfl, hR4, hG4⟩
    have hl := keyBad_le x hx
    have hG := gr_trans (gr_alloc hG1 _) hG4
    clear S1 hx hR1 hG1 hG4
    go_wp2
    go_ret
    exact ⟨x, p + 1 + 1, rfl, hl, by omega, hR4, hG⟩
  · have j0' : ((j : Int) == 0) = false := by simp; omega
    have j1' : decide ((j : Int) = 0) = false := by simp; omega
    clear j0
    have S1 := Sl.litS w1 9 keyGood #[.string ⟨#[97]⟩, .string ⟨#[98]⟩, .string ⟨#[99]⟩, .string ⟨#[100]⟩, .string ⟨#[97, 98]⟩, .string ⟨#[97, 99]⟩, .string ⟨#[98, 98]⟩, .string ⟨#[122]⟩, .string ⟨#[101]⟩, .string ⟨#[102]⟩, .string ⟨#[103]⟩, .string ⟨#[104]⟩] rfl
    go_wp2_with fail
    refine (of_any w0 A bs c g (p + 1) (some ⟨w1.heap.size, 0, none⟩) keyGood 12 _ (hR1.alloc _) (by omega) (by decide) S1 (by intro b o h; simp at h; omega)).mono ?_
    rintro e w4 ⟨x, hx, rfl, hR4, hG4⟩
    have hl := keyGood_le x hx
    have hG := gr_trans (gr_alloc hG1 _) hG4
    clear S1 hx hR1 hG1 hG4
    go_wp2
    go_ret
    exact ⟨x, p + 1 + 1, rfl, hl, by omega, hR4, hG⟩
def numBad : List Int := [1000, -1000, 9223372036854775807, -9223372036854775808]
def numGood : List Int := [0, 1, 2, 3, -1, -7, 40, 500, 999, -999]
set_option maxRecDepth 100000 in
set_option maxHeartbeats 600000 in
theorem l1Value_any (w0 : World) (A : Option Addr) (bs : List UInt8) (c g p : Nat) (w : World) (hR : Rd w0 w A bs c g p) (hp : p < 1000000) :
    Calls Try.prog 153 #[.pointer (some ⟨g, 0, none⟩)] w fun e w' => ∃ (n : Int) (q : Nat), e = .returned (.int .i64 n) ∧ q ≤ p + 2 ∧ Rd w0 w' A bs c g q ∧ w.grownBy w' (some g) := by
  go_enter Try.func153, Try.ntmps153
  go_wp2_with fail
  refine (pick_any w0 A bs c g p 20 _ hR (by omega) (by omega)).mono ?_
  rintro e w1 ⟨j, hj, rfl, hR1, hG1⟩
  have hgl := hR1.1.lt
  by_cases j0 : j = 0
  · subst j0
    have S1 := Sl.litN w1 3 numBad #[.int .i64 1000, .int .i64 (-1000), .int .i64 9223372036854775807, .int .i64 (-9223372036854775808)] rfl
    go_wp2_with fail
    refine (num_any w0 A bs c g (p + 1) (some ⟨w1.heap.size, 0, none⟩) numBad 4 _ (hR1.alloc _) (by omega) (by decide) S1 (by intro b o h; simp at h; omega)).mono ?_
    rintro e w4 ⟨x, hx, rfl, hR4, hG4⟩
    have hG := gr_trans (gr_alloc hG1 _) hG4
    clear S1 hx hR1 hG1 hG4
    go_wp2
    go_ret
    exact ⟨x, p + 1 + 1, rfl, by omega, hR4, hG⟩
  · have j0' : ((j : Int) == 0) = false := by simp; omega
    have j1' : decide ((j : Int) = 0) = false := by simp; omega
    clear j0
    have S1 := Sl.litN w1 3 numGood #[.int .i64 0, .int .i64 1, .int .i64 2, .int .i64 3, .int .i64 (-1), .int .i64 (-7), .int .i64 40, .int .i64 500, .int .i64 999, .int .i64 (-999)] rfl
    go_wp2_with fail
    refine (num_any w0 A bs c g (p + 1) (some ⟨w1.heap.size, 0, none⟩) numGood 10 _ (hR1.alloc _) (by omega) (by decide) S1 (by intro b o h; simp at h; omega)).mono ?_
    rintro e w4 ⟨x, hx, rfl, hR4, hG4⟩
    have hG := gr_trans (gr_alloc hG1 _) hG4
    clear S1 hx hR1 hG1 hG4
    go_wp2
    go_ret
    exact ⟨x, p + 1 + 1, rfl, by omega, hR4, hG⟩
theorem Sl.atR {w : World} {A : Option Addr} {l : List Row} (h : Sl encRow 2 w A l) {i : Nat} (hi : i < l.length) : ∃ b o, A = some ⟨b, o, none⟩ ∧ b < w.heap.size ∧ w.cell? ⟨b, o + i * 2, none⟩ = some (.string l[i].1) := by
  obtain ⟨b, o, e, hb, hc⟩ := h (by omega)
  exact ⟨b, o, e, hb, hc i 0 l[i] (List.getElem?_eq_getElem hi) (by decide)⟩
set_option maxRecDepth 100000 in
set_option maxHeartbeats 600000 in
theorem l1Near_any (w0 : World) (A : Option Addr) (bs : List UInt8) (c g p : Nat) (A2 : Option Addr) (l : List Row) (c2 : Nat) (w : World) (hR : Rd w0 w A bs c g p) (hp : p < 900000) (hl : l.length ≤ 1048576) (hk : ∀ x ∈ l, x.1.size ≤ maxLen) (hS : Sl encRow 2 w A2 l) (hne : ∀ b o, A2 = some ⟨b, o, none⟩ → b ≠ g) :
    Calls Try.prog 152 #[.pointer (some ⟨g, 0, none⟩), .slice A2 l.length c2] w fun e w' => ∃ (x : ByteArray) (q : Nat), e = .returned (.string x) ∧ x.size ≤ maxLen ∧ q ≤ p + 4 ∧ Rd w0 w' A bs c g q ∧ w.grownBy w' (some g) := by
  go_enter Try.func152, Try.ntmps152
  by_cases h0 : l.length = 0
  · rw [h0]
    clear hS
    go_wp2_with fail
    refine (l1Key_any w0 A bs c g p w hR (by omega)).mono ?_
    rintro e w1 ⟨x, q, rfl, hx, hq, hR1, hG1⟩
    go_wp2
    go_ret
    exact ⟨x, q, rfl, by unfold maxLen; omega, by omega, hR1, hG1⟩
  · have d0 : decide ((0 : Int) < (l.length : Int)) = true := decide_eq_true (by omega)
    have hli : (0 : Int) < (l.length : Int) := by omega
    have h1 : 1 ≤ l.length := by omega
    clear h0
    have HS := Lib.hid hS
    have HK := Lib.hid hk
    clear hS hk
    go_wp2_with fail
    refine (pick_any w0 A bs c g p 2 _ hR (by omega) (by omega)).mono ?_
    rintro e w1 ⟨j, hj, rfl, hR1, hG1⟩
    by_cases j0 : j = 0
    · subst j0
      go_wp2_with fail
      refine (pick_any w0 A bs c g (p + 1) l.length _ hR1 (by omega) ⟨h1, hl⟩).mono ?_
      rintro e w2 ⟨k, hk, rfl, hR2, hG2⟩
      have hG := gr_trans hG1 hG2
      obtain ⟨b, o, rfl, hbl, c0⟩ := (HS.out.gr hG (fun b o e h => hne b o e (by injection h))).atR hk
      have hx := HK.out l[k] (List.getElem_mem hk)
      generalize l[k] = x at *
      obtain ⟨x1, x2⟩ := x
      simp only at c0 hx
      clear hG1 hG2 hR1 hR
      go_wp2
      go_ret
      exact ⟨x1, p + 1 + 1, rfl, hx, by omega, hR2, hG⟩
    · have j0' : ((j : Int) == 0) = false := by simp; omega
      have j1' : decide ((j : Int) = 0) = false := by simp; omega
      clear j0
      go_wp2_with fail
      refine (l1Key_any w0 A bs c g (p + 1) w1 hR1 (by omega)).mono ?_
      rintro e w2 ⟨x, q, rfl, hx, hq, hR2, hG2⟩
      have hG := gr_trans hG1 hG2
      go_wp2
      go_ret
      exact ⟨x, q, rfl, by unfold maxLen; omega, by omega, hR2, hG⟩
end Go.Proofs.Ytpjkcmmmpgncmaa
/- The program's RowsCut and RowsPut: rows without a key; rows with a number under a key. -/
namespace Go.Proofs.Ytpjkcmmmpgncmaa
open Go.RowKit
theorem OwnR.le {w : World} {B B2 : Nat} {v : Value} {l : List Row} (h : OwnR w B v l) (hB : B2 ≤ B) : OwnR w B2 v l := Go.Joins.ownsRow_le h hB
section
variable {R : List Row} {K : ByteArray} {k : Nat}
end
theorem Sl.drop2 {w : World} {b o : Nat} {l : List Row} (h : Sl encRow 2 w (some ⟨b, o, none⟩) l) (k : Nat) : Sl encRow 2 w (some ⟨b, o + k * 2, none⟩) (l.drop k) := by
  intro hl
  rw [List.length_drop] at hl
  obtain ⟨b', o', he, hb, hc⟩ := h (by omega)
  simp at he
  obtain ⟨rfl, rfl⟩ := he
  refine ⟨b, o + k * 2, rfl, hb, fun i j x hx hj => ?_⟩
  rw [List.getElem?_drop] at hx
  rw [show o + k * 2 + i * 2 + j = o + (k + i) * 2 + j by omega]
  exact hc (k + i) j x hx hj
theorem Sl.nilR {w : World} {A : Option Addr} {l : List Row} (h : l.length = 0) : Sl encRow 2 w A l := fun h2 => by omega
theorem sl_hi {P : Program} (w : World) (t e : TypeId) (hu : P.underlying t = some (.slice e)) (i : TypeInfo) (hi : P.info? e = some i) (b o n c k : Nat) (hk : k ≤ c) :
    (Instr.sliceAt t (.slice (some ⟨b, o, none⟩) n c) none (some (.int .i64 (k : Int))) none).run P w = .ok (.slice (some ⟨b, o, none⟩) k c) w := by
  have h1 : (k : Int) ≤ (c : Int) := by omega
  have h0 : (0 : Int) ≤ (k : Int) := by omega
  have hz : (Go.sizeOf e).run P w = .ok i.size w := by simp [Go.sizeOf, typeInfo, hi]
  simp [Instr.sliceAt, Instr.slice, run_underlying hu, Instr.sliceBounds, run_sliceBound, h1, hz, Result.andThen, Addr.add]
theorem sl_lo {P : Program} (w : World) (t e : TypeId) (hu : P.underlying t = some (.slice e)) (i : TypeInfo) (hi : P.info? e = some i) (b o n c k : Nat) (l : Int) (hl : l = (k : Int)) (hk : k ≤ n) :
    (Instr.sliceAt t (.slice (some ⟨b, o, none⟩) n c) (some (.int .i64 l)) none none).run P w = .ok (.slice (if c = k then some ⟨b, o, none⟩ else some ⟨b, o + k * i.size, none⟩) (n - k) (c - k)) w := by
  subst hl
  have h1 : (k : Int) ≤ (n : Int) := by omega
  have h0 : (0 : Int) ≤ (k : Int) := by omega
  have hz : (Go.sizeOf e).run P w = .ok i.size w := by simp [Go.sizeOf, typeInfo, hi]
  simp [Instr.sliceAt, Instr.slice, run_underlying hu, Instr.sliceBounds, run_sliceBound, h1, hz, Result.andThen, Addr.add]
  by_cases h2 : k * i.size = 0
  · rw [if_pos h2, h2, Nat.add_zero]
  · rw [if_neg h2]
theorem rforms {w : World} {B c : Nat} {A : Option Addr} {R : List Row} (h : OwnR w B (.slice A R.length c) R) : (A = none ∧ R = [] ∧ c = 0) ∨ ∃ g, A = some ⟨g, 0, none⟩ ∧ R.length ≤ c ∧ c ≤ maxLen ∧ g < w.heap.size := by
  rcases h.2 with ⟨e, h0⟩ | ⟨g, cap, cur, e, _, hh, hn, hm, _⟩
  · injection e with e1 e2 e3
    exact .inl ⟨e1, List.eq_nil_of_length_eq_zero h0, e3⟩
  · injection e with e1 e2 e3
    subst e3
    exact .inr ⟨g, e1, hn, hm, by
      rcases Nat.lt_or_ge g w.heap.size with hlt | hge
      · exact hlt
      · rw [Array.getElem?_eq_none hge] at hh; cases hh⟩
theorem ownR_hi {w : World} {B c k : Nat} {A : Option Addr} {R : List Row} (h : OwnR w B (.slice A R.length c) R) (hk : k ≤ R.length) (W : World) :
    (Instr.sliceAt 68 (.slice A R.length c) none (some (.int .i64 (k : Int))) none).run Try.prog W = .ok (.slice A k c) W := by
  obtain ⟨i0, hi, hz0, hz1, hz2⟩ := info_parts infoRow
  rcases rforms h with ⟨rfl, rfl, rfl⟩ | ⟨g, rfl, hc1, _⟩
  · obtain rfl : k = 0 := by simpa using hk
    have hz : (Go.sizeOf 111).run Try.prog W = .ok i0.size W := by simp [Go.sizeOf, typeInfo, hi]
    simp [Instr.sliceAt, Instr.slice, run_underlying Try.underlying68, Instr.sliceBounds, run_sliceBound, hz, Result.andThen]
  · exact sl_hi W 68 111 Try.underlying68 i0 hi g 0 R.length c k (by omega)
theorem ownR_lo {w : World} {B c k : Nat} {A : Option Addr} {R : List Row} (h : OwnR w B (.slice A R.length c) R) (hk : k ≤ R.length) :
    ∃ A2, (∀ (W : World) (l : Int), l = (k : Int) → (Instr.sliceAt 68 (.slice A R.length c) (some (.int .i64 l)) none none).run Try.prog W = .ok (.slice A2 (R.length - k) (c - k)) W) ∧ Sl encRow 2 w A2 (R.drop k) := by
  obtain ⟨i0, hi, hz0, hz1, hz2⟩ := info_parts infoRow
  rcases rforms h with ⟨rfl, rfl, rfl⟩ | ⟨g, rfl, hc1, _⟩
  · obtain rfl : k = 0 := by simpa using hk
    refine ⟨none, fun W l hl => ?_, Sl.nilR (by simp)⟩
    subst hl
    have hz : (Go.sizeOf 111).run Try.prog W = .ok i0.size W := by simp [Go.sizeOf, typeInfo, hi]
    simp [Instr.sliceAt, Instr.slice, run_underlying Try.underlying68, Instr.sliceBounds, run_sliceBound, hz, Result.andThen]
  · refine ⟨_, fun W l hl => sl_lo W 68 111 Try.underlying68 i0 hi g 0 R.length c k l hl hk, ?_⟩
    rw [hz1]
    by_cases hkc : c = k
    · rw [if_pos hkc]; exact Sl.nilR (by rw [List.length_drop]; omega)
    · rw [if_neg hkc]
      have := (OwnR.reads h).drop2 k
      exact this
/-- what stands while a new row is made -/
def RP (w : World) (K : ByteArray) (n : Int) (v : Value) (m : List Row) (W : World) : Prop :=
  Blk W w.heap.size 111 #[.string K, .int .i64 n] ∧ OwnR W (w.heap.size + 1) v m ∧ Below w.heap.size w W
theorem RP.below {w : World} {K : ByteArray} {n : Int} {v : Value} {m : List Row} {W W' : World} (h : RP w K n v m W) (hb : Below W.heap.size W W') : RP w K n v m W' := ⟨h.1.kept hb, own_kept h.2.1 hb, bthen h.2.2 hb⟩
theorem RP.app {w : World} {K : ByteArray} {n : Int} {v v' : Value} {m m2 : List Row} {W W' : World} (h : RP w K n v m W) (hg : W.grownBy W' v.ownBlock) (ho : OwnR W' (w.heap.size + 1) v' m2) : RP w K n v' m2 W' := by
  obtain ⟨h1, h2, h3⟩ := h
  exact ⟨h1.grown hg (fun e => by have := (h2.lt _ e.symm).1; omega), ho, below_own h3 hg h3.size (fun j hj => by have := (h2.lt j hj).1; omega)⟩
def AscR (R : List Row) : Prop := R.Pairwise (fun a b => kLt a.1 b.1)
theorem ascP_of {R : List Row} (h : rowsB R = true) : AscR R := by
  have h2 := rows_asc (rowsB_asc h)
  unfold AscR
  rw [List.pairwise_iff_getElem]
  intro i j hi hj hij
  exact h2 j i _ _ hij (List.getElem?_eq_getElem hi) (List.getElem?_eq_getElem hj)
end Go.Proofs.Ytpjkcmmmpgncmaa
