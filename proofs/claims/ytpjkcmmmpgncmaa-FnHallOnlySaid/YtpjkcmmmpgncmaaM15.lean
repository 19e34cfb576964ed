import Derived.Test.YtpjkcmmmpgncmaaRows
import Derived.Test.YtpjkcmmmpgncmaaM01
import Derived.OpenShut
import Derived.ShutString
import Derived.ChangeOld
/- The drawing kit: l11Open, pick, of, num. -/
namespace Go.Proofs.Ytpjkcmmmpgncmaa
open Go.RowKit
abbrev encU (x : UInt8) : List Value := [.int .u8 (x.toNat : Int)]
/-- a reader of the code: its own block g, the place p; the code's bytes lie in old memory of w0 -/
def Rd (w0 w : World) (A : Option Addr) (bs : List UInt8) (c g p : Nat) : Prop :=
  Blk w g 155 #[.slice A bs.length c, .int .i64 p] ∧ Below w0.heap.size w0 w ∧ w0.heap.size ≤ g ∧ Sl encU 1 w0 A bs ∧ bs.length ≤ 2000
section
variable {w0 w w' : World} {A : Option Addr} {bs : List UInt8} {c g p : Nat}
theorem Rd.below (h : Rd w0 w A bs c g p) (hb : Below w.heap.size w w') : Rd w0 w' A bs c g p :=
  ⟨h.1.kept hb, h.2.1.trans (hb.mono h.2.1.size), h.2.2⟩
theorem Rd.alloc (h : Rd w0 w A bs c g p) (o : Obj) : Rd w0 (w.alloc o) A bs c g p := h.below ((Below.refl _ _).alloc (Nat.le_refl _) o)
theorem Rd.step (h : Rd w0 w A bs c g p) (q : Nat) : Rd w0 (w.setCell ⟨g, 1, none⟩ (.int .i64 q)) A bs c g q :=
  ⟨h.1.set_ 1 _, h.2.1.setCell h.2.2.1 _, h.2.2⟩
end
theorem bits_xor_small (a b : Nat) (ha : a < 1073741824) (hb : b < 1073741824) : bits .xor .i64 (a : Int) (b : Int) = ((a ^^^ b : Nat) : Int) := by
  have hx : a ^^^ b < 2 ^ 30 := Nat.xor_lt_two_pow (by omega) (by omega)
  have h1 : (BitVec.ofInt 64 (a : Int)).toNat = a := by
    rw [BitVec.ofInt_natCast, BitVec.toNat_ofNat]; exact Nat.mod_eq_of_lt (by omega)
  have h2 : (BitVec.ofInt 64 (b : Int)).toNat = b := by
    rw [BitVec.ofInt_natCast, BitVec.toNat_ofNat]; exact Nat.mod_eq_of_lt (by omega)
  show IntKind.i64.wrap ((BitVec.ofInt 64 (a : Int) ^^^ BitVec.ofInt 64 (b : Int)).toNat : Int) = _
  rw [BitVec.toNat_xor, h1, h2]
  exact IntWalk.i64_in _ (by omega)
theorem grown_set {w w' : World} {g i : Nat} {u : Value} (hb : Below (w.setCell ⟨g, i, none⟩ u).heap.size (w.setCell ⟨g, i, none⟩ u) w') : w.grownBy w' (some g) := by
  have hs := World.size_setCell w ⟨g, i, none⟩ u
  refine ⟨hb.os, hb.tape, hb.output, by have := hb.size; omega, fun k hk hne => ?_⟩
  rw [hb.block k (by omega)]
  exact heap_setCell_other w ⟨g, i, none⟩ k u (fun e => hne (by simp [e]))
set_option maxRecDepth 100000 in
set_option maxHeartbeats 1000000 in
theorem pick_any (w0 : World) (A : Option Addr) (bs : List UInt8) (c g p n : Nat) (w : World) (hR : Rd w0 w A bs c g p) (hp : p < 1048576) (hn : 1 ≤ n ∧ n ≤ 1048576) :
    Calls Try.prog 83 #[.pointer (some ⟨g, 0, none⟩), .int .i64 n] w fun e w' => ∃ k : Nat, k < n ∧ e = .returned (.int .i64 k) ∧ Rd w0 w' A bs c g (p + 1) ∧ w.grownBy w' (some g) := by
  have hR1 := hR.step (p + 1)
  have c0 : w.cell? ⟨g, 0, none⟩ = some (.slice A bs.length c) := hR.1.cell 0
  have c1 : w.cell? ⟨g, 1, none⟩ = some (.int .i64 p) := hR.1.cell 1
  have cf := hR.1.frozen 1
  have d0 : (w.setCell ⟨g, 1, none⟩ (.int .i64 ((p : Int) + 1))).cell? ⟨g, 0, none⟩ = some (.slice A bs.length c) := hR1.1.cell 0
  have d1 : (w.setCell ⟨g, 1, none⟩ (.int .i64 ((p : Int) + 1))).cell? ⟨g, 1, none⟩ = some (.int .i64 ((p : Int) + 1)) := hR1.1.cell 1
  have hgl : g < (w.setCell ⟨g, 1, none⟩ (.int .i64 ((p : Int) + 1))).heap.size := hR1.1.lt
  have hl := hR.2.2.2.2
  have hS : Sl encU 1 (w.setCell ⟨g, 1, none⟩ (.int .i64 ((p : Int) + 1))) A bs := hR1.2.2.2.1.below hR1.2.1
  have hn1 : decide ((n : Int) < 1) = false := by simp; omega
  have HRR := Lib.hid (show ∀ w', Below (w.setCell ⟨g, 1, none⟩ (.int .i64 (p + 1 : Nat))).heap.size (w.setCell ⟨g, 1, none⟩ (.int .i64 (p + 1 : Nat))) w' → Rd w0 w' A bs c g (p + 1) ∧ w.grownBy w' (some g) from fun w' hb => ⟨hR1.below hb, grown_set hb⟩)
  clear hR hR1
  by_cases h0 : bs.length = 0
  · rw [h0] at c0 d0
    clear hS
    go_enter Try.func83, Try.ntmps83
    go_wp2
    go_ret
    exact ⟨0, by omega, rfl, HRR.out _ (Below.refl _ _)⟩
  · have h0' : decide ((bs.length : Int) = 0) = false := by simpa using h0
    by_cases hp2 : p < bs.length
    · obtain ⟨b, o, rfl, hbl, e0⟩ := hS.at1 hp2
      generalize bs[p] = x at *
      have hx := x.toNat_lt
      generalize x.toNat = y at *
      clear hS
      go_enter Try.func83, Try.ntmps83
      go_wp2
      go_ret
      exact ⟨y % n, Nat.mod_lt _ (by omega), rfl, HRR.out _ (Below.refl _ _)⟩
    · have hp3 : decide ((p : Int) < bs.length) = false := by simp; omega
      have i1 : p % bs.length < bs.length := Nat.mod_lt _ (by omega)
      have i2 : (p * 7 + 3) % bs.length < bs.length := Nat.mod_lt _ (by omega)
      obtain ⟨b, o, rfl, hbl, e0⟩ := hS.at1 i1
      obtain ⟨b', o', hbo, _, e1⟩ := hS.at1 i2
      simp only [Option.some.injEq, Addr.mk.injEq, and_true] at hbo
      obtain ⟨rfl, rfl⟩ := hbo
      generalize bs[p % bs.length] = x at *
      generalize bs[(p * 7 + 3) % bs.length] = x2 at *
      have hx := x.toNat_lt
      have hx2 := x2.toNat_lt
      generalize x.toNat = y at *
      generalize x2.toNat = y2 at *
      clear hS
      go_enter Try.func83, Try.ntmps83
      go_wp2
      have HRR : Hid (∀ w', Below (w.setCell ⟨g, 1, none⟩ (.int .i64 ((p : Int) + 1))).heap.size (w.setCell ⟨g, 1, none⟩ (.int .i64 ((p : Int) + 1))) w' → Rd w0 w' (some ⟨b, o, none⟩) bs c g (p + 1) ∧ w.grownBy w' (some g)) := HRR
      generalize w.setCell ⟨g, 1, none⟩ (.int .i64 ((p : Int) + 1)) = W1 at *
      generalize bs.length = m at *
      have hm0 : 0 < m := by omega
      have k5 : (0 : Int) ≤ (p : Int) / (m : Int) := Int.ediv_nonneg (by omega) (by omega)
      have k6 : (p : Int) / (m : Int) ≤ p := Int.ediv_le_self _ (by omega)
      have t1 : (p : Int).tmod (m : Int) = (p : Int) % m := IntWalk.rem_in _ _ (by omega)
      have t3 : (p : Int).tdiv (m : Int) = (p : Int) / m := Int.tdiv_eq_ediv_of_nonneg (by omega)
      have j1 : ((p : Int) % (m : Int)).toNat = p % m := by rw [← Int.natCast_emod]; exact Int.toNat_natCast _
      have j2 : (((p : Int) * 7 + 3) % (m : Int)).toNat = (p * 7 + 3) % m := by
        rw [show (p : Int) * 7 + 3 = ((p * 7 + 3 : Nat) : Int) by omega, ← Int.natCast_emod]; exact Int.toNat_natCast _
      have t2 : ((p : Int) * 7 + 3).tmod (m : Int) = ((p : Int) * 7 + 3) % m := IntWalk.rem_in _ _ (by omega)
      have k1 : (0 : Int) ≤ (p : Int) % m := Int.emod_nonneg _ (by omega)
      have k2 : (p : Int) % m < m := Int.emod_lt_of_pos _ (by omega)
      have k3 : (0 : Int) ≤ ((p : Int) * 7 + 3) % m := Int.emod_nonneg _ (by omega)
      have k4 : ((p : Int) * 7 + 3) % m < m := Int.emod_lt_of_pos _ (by omega)
      have w1 := IntWalk.i64_in ((y : Int) * 131) (by omega)
      have w2 := IntWalk.i64_in ((y2 : Int) * 1117) (by omega)
      have w3 := IntWalk.i64_in ((p : Int) * 7) (by omega)
      have w4 := IntWalk.i64_in ((p : Int) * 7 + 3) (by omega)
      have w5 := IntWalk.i64_in ((p : Int) * 29) (by omega)
      have w6 := IntWalk.i64_in ((y : Int) * 131 + (y2 : Int) * 1117) (by omega)
      have w7 := IntWalk.i64_in ((y : Int) * 131 + (y2 : Int) * 1117 + (p : Int) * 29) (by omega)
      have w8 := IntWalk.i64_in ((p : Int) / (m : Int) * 53) (by omega)
      have w9 := IntWalk.i64_in ((y : Int) * 131 + (y2 : Int) * 1117 + (p : Int) * 29 + (p : Int) / (m : Int) * 53) (by omega)
      refine wp_region_below (by kernel_rfl) (by kernel_rfl) ?_
      iterate 46 (refine wpQuiet_step (fun K hK => ?_); go_simp; first | (apply Exists.intro; refine ⟨fun W hW => ?_, hK _ ?_⟩; (first | rfl | (have f0 := (hW.cell (p := ⟨g, 0, none⟩) hgl).trans d0; have f1 := (hW.cell (p := ⟨b, o + p % m, none⟩) hbl).trans e0; have f2 := (hW.cell (p := ⟨b, o + (p * 7 + 3) % m, none⟩) hbl).trans e1; go_simp; rfl)); clear hK K) | (refine hK _ ?_; clear hK K))
      refine wpQuiet_nil ?_
      intro W hW
      have w10 := IntWalk.i64_in (y : Int) (by omega)
      have w11 := IntWalk.i64_in (y2 : Int) (by omega)
      have w12 := IntWalk.i64_in ((p : Int) / (m : Int)) (by omega)
      simp only [w10, w11, w12, w1, w2, w6, w7, w8, w9]
      obtain ⟨Z, hZ, hZ1⟩ : ∃ Z : Nat, (y : Int) * 131 + (y2 : Int) * 1117 + (p : Int) * 29 + (p : Int) / (m : Int) * 53 = (Z : Int) ∧ Z < 1073741824 := ⟨((y : Int) * 131 + (y2 : Int) * 1117 + (p : Int) * 29 + (p : Int) / (m : Int) * 53).toNat, by omega, by omega⟩
      rw [hZ]
      clear hZ w1 w2 w3 w4 w5 w6 w7 w8 w9 w10 w11 w12 k1 k2 k3 k4 k5 k6 j1 j2 t1 t2 t3 e0 e1 d0 d1 c0 c1 i1 i2 hp3
      go_wp2
      have hxo : bits .xor .i64 (Z : Int) ((Z : Int) / 64) = ((Z ^^^ Z / 64 : Nat) : Int) := by
        rw [show (Z : Int) / 64 = ((Z / 64 : Nat) : Int) by omega]; exact bits_xor_small _ _ hZ1 (by omega)
      rw [hxo]
      have htm : (((Z ^^^ Z / 64 : Nat) : Int)).tmod (n : Int) = (((Z ^^^ Z / 64) % n : Nat) : Int) := by
        rw [IntWalk.rem_in _ _ (by omega), ← Int.natCast_emod]
      rw [htm]
      go_ret
      exact ⟨_, Nat.mod_lt _ (by omega), rfl, HRR.out _ hW⟩
end Go.Proofs.Ytpjkcmmmpgncmaa
/- The drawing kit: l11Open, of, num. -/
namespace Go.Proofs.Ytpjkcmmmpgncmaa
open Go.RowKit
theorem Sl.take {α : Type} {enc : α → List Value} {k : Nat} {w : World} {A : Option Addr} {l : List α} (h : Sl enc k w A l) (n : Nat) : Sl enc k w A (l.take n) := by
  intro hl
  have hl' : 0 < l.length := by rw [List.length_take] at hl; omega
  obtain ⟨b, o, rfl, hb, hc⟩ := h hl'
  refine ⟨b, o, rfl, hb, fun i j x hx hj => hc i j x ?_ hj⟩
  rw [List.getElem?_take] at hx
  split at hx
  · exact hx
  · cases hx
set_option maxRecDepth 100000 in
set_option maxHeartbeats 400000 in
theorem open_any (A : Option Addr) (bs : List UInt8) (c : Nat) (w : World) (hn : bs.length ≤ 1048576) (hc : bs.length ≤ c) (hm : c ≤ maxLen) (hS : Sl encU 1 w A bs) :
    Calls Try.prog 54 #[.slice A bs.length c] w fun e w' => ∃ bs' c' g, e = .returned (.pointer (some ⟨g, 0, none⟩)) ∧ Rd w w' A bs' c' g 0 ∧ Below w.heap.size w w' := by
  unfold maxLen at hm
  by_cases h2 : bs.length ≤ 2000
  · have h2' : decide (2000 < (bs.length : Int)) = false := by simp; omega
    go_enter Try.func54, Try.ntmps54
    go_wp2
    go_ret
    have hb := (Below.refl w.heap.size w).alloc (Nat.le_refl _) (.cells #[.slice A bs.length c, .int .i64 0] 155)
    exact ⟨bs, c, _, rfl, ⟨Blk.new _ _ _, hb, Nat.le_refl _, hS, h2⟩, hb⟩
  · have h2' : decide (2000 < (bs.length : Int)) = true := by simp; omega
    obtain ⟨b, o, rfl, hbl, e0⟩ := hS.at1 (i := 0) (by omega)
    have hl : (bs.take 2000).length = 2000 := by rw [List.length_take]; omega
    go_enter Try.func54, Try.ntmps54
    go_wp2
    go_ret
    have hb := (Below.refl w.heap.size w).alloc (Nat.le_refl _) (.cells #[.slice (some ⟨b, o, none⟩) (bs.take 2000).length c, .int .i64 0] 155)
    rw [hl] at hb
    exact ⟨bs.take 2000, c, _, rfl, ⟨by rw [hl]; exact Blk.new _ _ _, hb, Nat.le_refl _, hS.take 2000, by omega⟩, hb⟩
set_option maxHeartbeats 400000 in
theorem of_any (w0 : World) (A : Option Addr) (bs : List UInt8) (c g p : Nat) (A2 : Option Addr) (l : List ByteArray) (c2 : Nat) (w : World) (hR : Rd w0 w A bs c g p) (hp : p < 1048576) (hl : 1 ≤ l.length ∧ l.length ≤ 1048576)
    (hS : Sl (fun x => [.string x]) 1 w A2 l) (hne : ∀ b o, A2 = some ⟨b, o, none⟩ → b ≠ g) :
    Calls Try.prog 106 #[.pointer (some ⟨g, 0, none⟩), .slice A2 l.length c2] w fun e w' => ∃ x, x ∈ l ∧ e = .returned (.string x) ∧ Rd w0 w' A bs c g (p + 1) ∧ w.grownBy w' (some g) := by
  go_enter Try.func106, Try.ntmps106
  go_wp2_with fail
  refine (pick_any w0 A bs c g p l.length w hR hp hl).mono ?_
  rintro e w1 ⟨k, hk, rfl, hR1, hg1⟩
  obtain ⟨b, o, rfl, hbl, e0⟩ := hS.at1 hk
  have e1 := hg1.cell e0 (by simpa using hne b o rfl)
  have hx := List.getElem_mem hk
  generalize l[k] = x at *
  clear e0 hS hR
  go_wp2
  go_ret
  exact ⟨x, hx, rfl, hR1, hg1⟩
set_option maxHeartbeats 400000 in
theorem num_any (w0 : World) (A : Option Addr) (bs : List UInt8) (c g p : Nat) (A2 : Option Addr) (l : List Int) (c2 : Nat) (w : World) (hR : Rd w0 w A bs c g p) (hp : p < 1048576) (hl : 1 ≤ l.length ∧ l.length ≤ 1048576)
    (hS : Sl (fun x => [.int .i64 x]) 1 w A2 l) (hne : ∀ b o, A2 = some ⟨b, o, none⟩ → b ≠ g) :
    Calls Try.prog 56 #[.pointer (some ⟨g, 0, none⟩), .slice A2 l.length c2] w fun e w' => ∃ x, x ∈ l ∧ e = .returned (.int .i64 x) ∧ Rd w0 w' A bs c g (p + 1) ∧ w.grownBy w' (some g) := by
  go_enter Try.func56, Try.ntmps56
  go_wp2_with fail
  refine (pick_any w0 A bs c g p l.length w hR hp hl).mono ?_
  rintro e w1 ⟨k, hk, rfl, hR1, hg1⟩
  obtain ⟨b, o, rfl, hbl, e0⟩ := hS.at1 hk
  have e1 := hg1.cell e0 (by simpa using hne b o rfl)
  have hx := List.getElem_mem hk
  generalize l[k] = x at *
  clear e0 hS hR
  go_wp2
  go_ret
  exact ⟨x, hx, rfl, hR1, hg1⟩
end Go.Proofs.Ytpjkcmmmpgncmaa
/- An argument that is a slice of bytes reads as a list. -/
namespace Go.Proofs.Ytpjkcmmmpgncmaa
open Go.ChangeShapes Go.WideShapes Go.ChangeAt Go.RowKit
theorem cellsU8 : Try.prog.cellsOf 5 = 1 := by kernel_rfl
set_option maxRecDepth 100000 in
theorem open_bytes {H : Type} {enc : TypeId × Value → H} {w : World} {base base2 : Nat} {spare : Nat → Bool} {held : Bool} {v : Value} {d : DataW H} {p : List MemPlace}
    (hval : Value.okWide Try.prog w .any base 38 v) (h : DataW.Trod enc Try.prog w base2 spare held 38 v d p) :
    ∃ (A : Option Addr) (bs : List UInt8) (c : Nat), v = .slice A bs.length c ∧ (bs.length ≤ c ∧ c ≤ maxLen) ∧ Sl encU 1 w A bs := by
  obtain ⟨fuel, hf⟩ := h
  obtain ⟨a0, len, cap, rfl⟩ := okWide_slice Try.underlying38 hval
  rcases open_ints Try.underlying38 Try.underlying5 cellsU8 hf with ⟨hcs, hx⟩ | ⟨a, len', cap', zs, hcs, _, hl, hm, hz, hx, hcell, hwz⟩
  · simp [Value.cells] at hcs
    obtain ⟨rfl, rfl, rfl⟩ := hcs
    exact ⟨none, [], 0, rfl, ⟨Nat.le_refl _, Nat.zero_le _⟩, Sl.nil _ _ _ _⟩
  · simp [Value.cells] at hcs
    obtain ⟨rfl, rfl, rfl⟩ := hcs
    have hlz : len ≤ zs.length := by rw [hz]; split <;> omega
    obtain ⟨l, hll, _, hS⟩ := Sl.of_cells (enc := encU) (k := 1) (n := len) (w := w) (a := a) (Good := fun _ : UInt8 => True) (by omega) (fun _ => rfl) (fun i hil => by
      have hc := hcell i (by omega)
      have hb := range_u8 hwz i
      rw [List.getD_eq_getElem?_getD] at hc
      refine ⟨UInt8.ofNat (zs[i]?.getD 0).toNat, trivial, fun j hj => ?_⟩
      obtain rfl : j = 0 := by omega
      simp only [Nat.mul_one, Nat.add_zero]
      rw [hc]
      simp [encU]; omega)
    subst hll
    exact ⟨some a, l, cap, rfl, ⟨hl, hm⟩, hS⟩
end Go.Proofs.Ytpjkcmmmpgncmaa
