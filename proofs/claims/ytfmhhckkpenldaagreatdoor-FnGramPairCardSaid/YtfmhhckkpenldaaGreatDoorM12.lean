import Derived.Test.YtfmhhckkpenldaaGreatDoorDraw
import Derived.Test.YtfmhhckkpenldaaGreatDoorM03
/- The drawing kit: l11Open, of, num. -/
namespace Go.Proofs.YtfmhhckkpenldaaGreatDoor
open Go.RowKit
theorem Sl.take {α : Type} {enc : α → List Value} {k : Nat} {w : World} {A : Option Addr} {l : List α} (h : Sl enc k w A l) (n : Nat) : Sl enc k w A (l.take n) := by
  intro hl
  have hl' : 0 < l.length := by rw [List.length_take] at hl; omega
  obtain ⟨b, o, rfl, hb, hc⟩ := h hl'
  refine ⟨b, o, rfl, hb, fun i j x hx hj => hc i j x ?_ hj⟩
  rw [List.getElem?_take] at hx
  split at hx
  · exact hx
  · cases hx
set_option maxRecDepth 100000 in
set_option maxHeartbeats 400000 in
theorem open_any (A : Option Addr) (bs : List UInt8) (c : Nat) (w : World) (hn : bs.length ≤ 1048576) (hc : bs.length ≤ c) (hm : c ≤ maxLen) (hS : Sl encU 1 w A bs) :
    Calls Tryz.prog 8 #[.slice A bs.length c] w fun e w' => ∃ bs' c' g, e = .returned (.pointer (some ⟨g, 0, none⟩)) ∧ Rd w w' A bs' c' g 0 ∧ Below w.heap.size w w' := by
  unfold maxLen at hm
  by_cases h2 : bs.length ≤ 2000
  · have h2' : decide (2000 < (bs.length : Int)) = false := by simp; omega
    go_enter Tryz.func8, Tryz.ntmps8
    go_wp2
    go_ret
    have hb := (Below.refl w.heap.size w).alloc (Nat.le_refl _) (.cells #[.slice A bs.length c, .int .i64 0] 54)
    exact ⟨bs, c, _, rfl, ⟨Blk.new _ _ _, hb, Nat.le_refl _, hS, h2⟩, hb⟩
  · have h2' : decide (2000 < (bs.length : Int)) = true := by simp; omega
    obtain ⟨b, o, rfl, hbl, e0⟩ := hS.at1 (i := 0) (by omega)
    have hl : (bs.take 2000).length = 2000 := by rw [List.length_take]; omega
    go_enter Tryz.func8, Tryz.ntmps8
    go_wp2
    go_ret
    have hb := (Below.refl w.heap.size w).alloc (Nat.le_refl _) (.cells #[.slice (some ⟨b, o, none⟩) (bs.take 2000).length c, .int .i64 0] 54)
    rw [hl] at hb
    exact ⟨bs.take 2000, c, _, rfl, ⟨by rw [hl]; exact Blk.new _ _ _, hb, Nat.le_refl _, hS.take 2000, by omega⟩, hb⟩
set_option maxHeartbeats 400000 in
theorem of_any (w0 : World) (A : Option Addr) (bs : List UInt8) (c g p : Nat) (A2 : Option Addr) (l : List ByteArray) (c2 : Nat) (w : World) (hR : Rd w0 w A bs c g p) (hp : p < 1048576) (hl : 1 ≤ l.length ∧ l.length ≤ 1048576)
    (hS : Sl (fun x => [.string x]) 1 w A2 l) (hne : ∀ b o, A2 = some ⟨b, o, none⟩ → b ≠ g) :
    Calls Tryz.prog 22 #[.pointer (some ⟨g, 0, none⟩), .slice A2 l.length c2] w fun e w' => ∃ x, x ∈ l ∧ e = .returned (.string x) ∧ Rd w0 w' A bs c g (p + 1) ∧ w.grownBy w' (some g) := by
  go_enter Tryz.func22, Tryz.ntmps22
  go_wp2_with fail
  refine (pick_any w0 A bs c g p l.length w hR hp hl).mono ?_
  rintro e w1 ⟨k, hk, rfl, hR1, hg1⟩
  obtain ⟨b, o, rfl, hbl, e0⟩ := hS.at1 hk
  have e1 := hg1.cell e0 (by simpa using hne b o rfl)
  have hx := List.getElem_mem hk
  generalize l[k] = x at *
  clear e0 hS hR
  go_wp2
  go_ret
  exact ⟨x, hx, rfl, hR1, hg1⟩
set_option maxHeartbeats 400000 in
theorem num_any (w0 : World) (A : Option Addr) (bs : List UInt8) (c g p : Nat) (A2 : Option Addr) (l : List Int) (c2 : Nat) (w : World) (hR : Rd w0 w A bs c g p) (hp : p < 1048576) (hl : 1 ≤ l.length ∧ l.length ≤ 1048576)
    (hS : Sl (fun x => [.int .i64 x]) 1 w A2 l) (hne : ∀ b o, A2 = some ⟨b, o, none⟩ → b ≠ g) :
    Calls Tryz.prog 15 #[.pointer (some ⟨g, 0, none⟩), .slice A2 l.length c2] w fun e w' => ∃ x, x ∈ l ∧ e = .returned (.int .i64 x) ∧ Rd w0 w' A bs c g (p + 1) ∧ w.grownBy w' (some g) := by
  go_enter Tryz.func15, Tryz.ntmps15
  go_wp2_with fail
  refine (pick_any w0 A bs c g p l.length w hR hp hl).mono ?_
  rintro e w1 ⟨k, hk, rfl, hR1, hg1⟩
  obtain ⟨b, o, rfl, hbl, e0⟩ := hS.at1 hk
  have e1 := hg1.cell e0 (by simpa using hne b o rfl)
  have hx := List.getElem_mem hk
  generalize l[k] = x at *
  clear e0 hS hR
  go_wp2
  go_ret
  exact ⟨x, hx, rfl, hR1, hg1⟩
end Go.Proofs.YtfmhhckkpenldaaGreatDoor
/- The program's LetterOk. -/
namespace Go.Proofs.YtfmhhckkpenldaaGreatDoor
open Go.RowKit
set_option maxRecDepth 100000 in
set_option maxHeartbeats 1000000 in
theorem implOk_any (x : Let) (w : World) (h1 : x.1.size ≤ maxLen) (h2 : x.2.size ≤ maxLen) :
    Calls Tryz.prog 17 #[.agg #[.string x.1, .string x.2]] w fun e w' => e = .returned (.bool (letB x)) ∧ Below w.heap.size w w' := by
  obtain ⟨s, t⟩ := x
  simp only at h1 h2 ⊢
  unfold maxLen at h1 h2
  have hbw : Below w.heap.size w (w.alloc (.cells #[.string s, .string t] 31)) := (Below.refl _ _).alloc (Nat.le_refl _) _
  by_cases hs : s.size = 1
  · have hs' : ((s.size : Int) != 1) = false := by simp [hs]
    by_cases hg : sgnB (byt s 0) = true
    · by_cases ht : t.size ≤ 40
      · have HL := Lib.hid (show letB (s, t) = bodyOk t by unfold letB; simp [hs, hg, ht])
        have HG := Lib.hid hg
        have ht' : decide (40 < (t.size : Int)) = false := by simp; omega
        clear hg
        go_enter Tryz.func17, Tryz.ntmps17
        go_wp2_with fail
        rw [byt_eq s 0 (by omega)]
        refine (signOk_any _ _ (byt_lo _ _) (byt_hi _ _)).mono ?_
        rintro e w1 ⟨rfl, rfl⟩
        rw [HG.out]
        go_wp2
        go_loop [3] (fun i => ∃ k : Nat, k ≤ t.size ∧ i = .int .i64 k ∧ ∀ j, j < k → bodB (byt t j) = true) (fun i => t.size - (intOf i).toNat)
        case atStart => exact ⟨0, by omega, rfl, fun j hj => absurd hj (by omega)⟩
        case round =>
          obtain ⟨k, hk, rfl, hok⟩ := hrel
          have HK := Lib.hid hok
          clear hok
          by_cases hlt : k < t.size
          · go_wp2_with fail
            rw [byt_eq t k hlt]
            refine (bodyByteOk_any _ _ (byt_lo _ _) (byt_hi _ _)).mono ?_
            rintro e w2 ⟨rfl, rfl⟩
            by_cases hb : bodB (byt t k) = true
            · have HH := Lib.hid hb
              rw [hb]
              clear hb
              go_wp2
              go_round
              case rel => exact ⟨k + 1, by omega, by go_num, fun j hj => by
                by_cases h : j < k
                · exact HK.out j h
                · obtain rfl : j = k := by omega
                  exact HH.out⟩
              case measure => simp [intOf]; omega
            · have hb' : bodB (byt t k) = false := by simpa using hb
              have HH := Lib.hid hb'
              rw [hb']
              clear hb hb'
              go_wp2
              go_ret
              exact ⟨ret_bool (by rw [HL.out, bodyOk_no hlt HH.out]), hbw⟩
          · obtain rfl : k = t.size := by omega
            go_wp2
            go_ret
            exact ⟨ret_bool (by rw [HL.out, bodyOk_yes HK.out]), hbw⟩
      · have HL := Lib.hid (show letB (s, t) = false by unfold letB; simp [ht])
        have HG := Lib.hid hg
        have ht' : decide (40 < (t.size : Int)) = true := by simp; omega
        clear hg
        go_enter Tryz.func17, Tryz.ntmps17
        go_wp2_with fail
        rw [byt_eq s 0 (by omega)]
        refine (signOk_any _ _ (byt_lo _ _) (byt_hi _ _)).mono ?_
        rintro e w1 ⟨rfl, rfl⟩
        rw [HG.out]
        go_wp2
        go_ret
        exact ⟨ret_bool HL.out.symm, hbw⟩
    · have hg' : sgnB (byt s 0) = false := by simpa using hg
      have HL := Lib.hid (show letB (s, t) = false by unfold letB; simp [hg'])
      have HG := Lib.hid hg'
      clear hg hg'
      go_enter Tryz.func17, Tryz.ntmps17
      go_wp2_with fail
      rw [byt_eq s 0 (by omega)]
      refine (signOk_any _ _ (byt_lo _ _) (byt_hi _ _)).mono ?_
      rintro e w1 ⟨rfl, rfl⟩
      rw [HG.out]
      go_wp2
      go_ret
      exact ⟨ret_bool HL.out.symm, hbw⟩
  · have hs' : ((s.size : Int) != 1) = true := by simp; omega
    have HL := Lib.hid (show letB (s, t) = false by unfold letB; simp [hs])
    go_enter Tryz.func17, Tryz.ntmps17
    go_wp2
    go_ret
    exact ⟨ret_bool HL.out.symm, hbw⟩
end Go.Proofs.YtfmhhckkpenldaaGreatDoor
/- Drawing a letter. -/
namespace Go.Proofs.YtfmhhckkpenldaaGreatDoor
open Go.RowKit
theorem grown_trans {w w1 w2 : World} {r : Option Nat} (h : w.grownBy w1 r) (h2 : w1.grownBy w2 r) : w.grownBy w2 r :=
  ⟨h2.os.trans h.os, h2.tape.trans h.tape, h2.output.trans h.output, Nat.le_trans h.size h2.size, fun k hk hne => (h2.block k (Nat.lt_of_lt_of_le hk h.size) hne).trans (h.block k hk hne)⟩
theorem grown_below {w w1 : World} {r : Option Nat} (h : Below w.heap.size w w1) : w.grownBy w1 r := ⟨h.os, h.tape, h.output, h.size, fun k hk _ => h.block k hk⟩
theorem grown_alloc {w w1 : World} {r : Option Nat} (h : w.grownBy w1 r) (o : Obj) : w.grownBy (w1.alloc o) r := grown_trans h (grown_below ((Below.refl _ _).alloc (Nat.le_refl _) o))
theorem grown_far {w w1 : World} {r : Option Nat} (h : w.grownBy w1 r) {p : Addr} (hp : w.heap.size ≤ p.block) (u : Value) : w.grownBy (w1.setCell p u) r :=
  ⟨h.os, h.tape, h.output, by rw [World.size_setCell]; exact h.size, fun k hk hne => (heap_setCell_other w1 p k u (by omega)).trans (h.block k hk hne)⟩
theorem Rd.far {w0 w : World} {A : Option Addr} {bs : List UInt8} {c g q : Nat} (h : Rd w0 w A bs c g q) {p : Addr} (hp : g ≠ p.block) (hp0 : w0.heap.size ≤ p.block) (u : Value) : Rd w0 (w.setCell p u) A bs c g q :=
  ⟨h.1.far hp u, h.2.1.setCell hp0 u, h.2.2⟩
theorem Sl.lit (w : World) (t : TypeId) (l : List ByteArray) (cs : Array Value) (h : cs.toList = l.map Value.string) : Sl (fun x => [.string x]) 1 (w.alloc (.cells cs t)) (some ⟨w.heap.size, 0, none⟩) l := by
  intro hl
  refine ⟨w.heap.size, 0, rfl, by simp, fun i j x hx hj => ?_⟩
  obtain rfl : j = 0 := by omega
  have h0 := (Blk.new w t cs).cell i
  simp only [Nat.mul_one, Nat.add_zero, Nat.zero_add]
  rw [h0, ← Array.getElem?_toList, h, List.getElem?_map, hx]; rfl
def DrawPost (w0 w : World) (A : Option Addr) (bs : List UInt8) (c g p n : Nat) (e : Ending) (w' : World) : Prop :=
  ∃ (x : Let) (q : Nat), e = .returned (.agg #[.string x.1, .string x.2]) ∧ x.1.size ≤ 2 ∧ x.2.size ≤ 900 ∧ q ≤ p + n ∧ Rd w0 w' A bs c g q ∧ w.grownBy w' (some g)
def sgnL : List ByteArray := [⟨#[81]⟩, ⟨#[80]⟩, ⟨#[69]⟩, ⟨#[83]⟩, ⟨#[88]⟩, ⟨#[90]⟩, ⟨#[49]⟩]
def bodL : List ByteArray := [⟨#[]⟩, ⟨#[103, 101, 116, 32, 97]⟩, ⟨#[112, 117, 116, 32, 97, 98, 32, 45, 55]⟩, ⟨#[110, 32, 103, 101, 116, 32, 97]⟩, ⟨#[110]⟩, ⟨#[98, 101, 103, 105, 110]⟩, ⟨#[97, 108, 108, 32, 97, 32, 122, 122]⟩]
def badL : List ByteArray := [⟨#[]⟩, ⟨#[113]⟩, ⟨#[81, 81]⟩, ⟨#[32]⟩]
theorem badL_le : ∀ x ∈ badL, x.size ≤ 2 := by decide
theorem sgnL_le : ∀ x ∈ sgnL, x.size ≤ 2 := by decide
theorem bodL_le : ∀ x ∈ bodL, x.size ≤ 20 := by decide
set_option maxRecDepth 100000 in
set_option maxHeartbeats 1000000 in
theorem letter_any (w0 : World) (A : Option Addr) (bs : List UInt8) (c g p : Nat) (w : World) (hR : Rd w0 w A bs c g p) (hp : p < 1000000) :
    Calls Tryz.prog 31 #[.pointer (some ⟨g, 0, none⟩)] w (DrawPost w0 w A bs c g p 4) := by
  have hgl := hR.1.lt
  have hg0 : w0.heap.size ≤ g := hR.2.2.1
  have hR1 := hR.alloc (.cells #[.string ⟨#[]⟩, .string ⟨#[]⟩] 31)
  have hB := Blk.new w 31 #[.string ⟨#[]⟩, .string ⟨#[]⟩]
  have hG : w.grownBy (w.alloc (.cells #[.string ⟨#[]⟩, .string ⟨#[]⟩] 31)) (some g) := grown_alloc (World.grownBy.refl w (some g)) _
  have hs1 : (w.alloc (.cells #[.string ⟨#[]⟩, .string ⟨#[]⟩] 31)).heap.size = w.heap.size + 1 := by simp
  go_enter Tryz.func31, Tryz.ntmps31
  go_wp2_with fail
  generalize w.alloc (.cells #[.string ⟨#[]⟩, .string ⟨#[]⟩] 31) = w1 at *
  have S1 := Sl.lit w1 9 sgnL #[.string ⟨#[81]⟩, .string ⟨#[80]⟩, .string ⟨#[69]⟩, .string ⟨#[83]⟩, .string ⟨#[88]⟩, .string ⟨#[90]⟩, .string ⟨#[49]⟩] rfl
  rw [hs1] at S1
  refine (of_any w0 A bs c g p (some ⟨w.heap.size + 1, 0, none⟩) sgnL 7 _ (hR1.alloc _) (by omega) (by decide) S1 (by intro b o h; simp at h; omega)).mono ?_
  rintro e w2 ⟨x1, hx1, rfl, hR2, hG2⟩
  have hl1 := sgnL_le x1 hx1
  have hB2 := (hB.alloc _).grown hG2 (by simp; omega)
  have hG02 := grown_trans (grown_alloc hG _) hG2
  have hs2 := hG2.size
  rw [World.size_alloc, hs1] at hs2
  clear hB hG hG2 S1 hx1 hR1 hR
  go_wp2_with fail
  have S2 := Sl.lit w2 9 bodL #[.string ⟨#[]⟩, .string ⟨#[103, 101, 116, 32, 97]⟩, .string ⟨#[112, 117, 116, 32, 97, 98, 32, 45, 55]⟩, .string ⟨#[110, 32, 103, 101, 116, 32, 97]⟩, .string ⟨#[110]⟩, .string ⟨#[98, 101, 103, 105, 110]⟩, .string ⟨#[97, 108, 108, 32, 97, 32, 122, 122]⟩] rfl
  refine (of_any w0 A bs c g (p + 1) (some ⟨w2.heap.size, 0, none⟩) bodL 7 _ (hR2.alloc _) (by omega) (by decide) S2 (by intro b o h; simp at h; omega)).mono ?_
  rintro e w3 ⟨x2, hx2, rfl, hR3, hG3⟩
  have hl2 := bodL_le x2 hx2
  have hB3 := (hB2.alloc _).grown hG3 (by simp; omega)
  have hG03 := grown_trans (grown_alloc hG02 _) hG3
  have hs3 := hG3.size
  rw [World.size_alloc] at hs3
  clear hB2 hG02 hG3 S2 hx2 hR2
  go_wp2_with fail
  refine (pick_any w0 A bs c g (p + 1 + 1) 48 _ (hR3.alloc _) (by omega) (by omega)).mono ?_
  rintro e w4 ⟨k, hk, rfl, hR4, hG4⟩
  have hL4 := (Blk.new w3 31 #[.string x1, .string x2]).grown hG4 (by simp; omega)
  have hB4 := (hB3.alloc _).grown hG4 (by simp; omega)
  have hG04 := grown_trans (grown_alloc hG03 _) hG4
  have hs4 := hG4.size
  rw [World.size_alloc] at hs4
  have z0 := hL4.frozen 0
  have z1 := hL4.frozen 1
  have y0 := hB4.frozen 0
  have y1 := hB4.frozen 1
  have c0 : w4.cell? ⟨w3.heap.size, 0, none⟩ = some (.string x1) := hL4.cell 0
  have c1 : w4.cell? ⟨w3.heap.size, 1, none⟩ = some (.string x2) := hL4.cell 1
  have b0 : w4.cell? ⟨w.heap.size, 0, none⟩ = some (.string ⟨#[]⟩) := hB4.cell 0
  have b1 : w4.cell? ⟨w.heap.size, 1, none⟩ = some (.string ⟨#[]⟩) := hB4.cell 1
  have HB4 := Lib.hid hB4
  have HL4 := Lib.hid hL4
  clear hB3 hG03 hG4 hR3 hB4 hL4
  by_cases k4 : 4 ≤ k
  · have e0 : ((k : Int) == 0) = false := by simp; omega
    have e1 : ((k : Int) == 1) = false := by simp; omega
    have e2 : ((k : Int) == 2) = false := by simp; omega
    have e3 : ((k : Int) == 3) = false := by simp; omega
    go_wp2
    obtain ⟨q0, q1⟩ := HB4.out.two (.string x1) (.string x2)
    refine bodyPost_ret (v := .agg #[.string x1, .string x2]) (by simp [results, Tryz.results31, go_sem, q0, q1]) rfl ⟨(x1, x2), p + 1 + 1 + 1, rfl, hl1, by simp only; omega, by omega, (hR4.far (by simp; omega) (by simp; omega) _).far (by simp; omega) (by simp; omega) _, grown_far (grown_far hG04 (by simp) _) (by simp) _⟩
  · have hk4 : k = 0 ∨ k = 1 ∨ k = 2 ∨ k = 3 := by omega
    clear k4 hk
    rcases hk4 with rfl | rfl | rfl | rfl
    · clear c0 c1 b0 b1 z0 z1 y0 y1
      go_wp2_with fail
      have S5 := Sl.lit w4 9 badL #[.string ⟨#[]⟩, .string ⟨#[113]⟩, .string ⟨#[81, 81]⟩, .string ⟨#[32]⟩] rfl
      refine (of_any w0 A bs c g (p + 1 + 1 + 1) (some ⟨w4.heap.size, 0, none⟩) badL 4 _ (hR4.alloc _) (by omega) (by decide) S5 (by intro b o h; simp at h; omega)).mono ?_
      rintro e w5 ⟨x3, hx3, rfl, hR5, hG5⟩
      have hl3 := badL_le x3 hx3
      have hL5 := (HL4.out.alloc _).grown hG5 (by simp; omega)
      have hB5 := (HB4.out.alloc _).grown hG5 (by simp; omega)
      have hG05 := grown_trans (grown_alloc hG04 _) hG5
      have hs5 := hG5.size
      have z0 := hL5.frozen 0
      have z1 := hL5.frozen 1
      have y0 := hB5.frozen 0
      have y1 := hB5.frozen 1
      have c0 : w5.cell? ⟨w3.heap.size, 0, none⟩ = some (.string x1) := hL5.cell 0
      have c1 : w5.cell? ⟨w3.heap.size, 1, none⟩ = some (.string x2) := hL5.cell 1
      have b0 : w5.cell? ⟨w.heap.size, 0, none⟩ = some (.string ⟨#[]⟩) := hB5.cell 0
      have b1 : w5.cell? ⟨w.heap.size, 1, none⟩ = some (.string ⟨#[]⟩) := hB5.cell 1
      have HB5 := Lib.hid hB5
      clear hL5 hB5 hG5
      rw [World.size_alloc] at hs5
      clear S5 hx3 hR4
      go_wp2
      obtain ⟨q0, q1⟩ := (HB5.out.far (p := ⟨w3.heap.size, 0, none⟩) (by simp; omega) (.string x3)).two (.string x3) (.string x2)
      refine bodyPost_ret (v := .agg #[.string x3, .string x2]) (by simp [results, Tryz.results31, go_sem, q0, q1]) rfl ⟨(x3, x2), p + 1 + 1 + 1 + 1, rfl, hl3, by simp only; omega, by omega, ((hR5.far (by simp; omega) (by simp; omega) _).far (by simp; omega) (by simp; omega) _).far (by simp; omega) (by simp; omega) _, grown_far (grown_far (grown_far hG05 (by simp; omega) _) (by simp) _) (by simp) _⟩
    · have hcat : ¬ (9223372036854775807 < x2.size + 1) := by omega
      go_wp2
      obtain ⟨q0, q1⟩ := (HB4.out.far (p := ⟨w3.heap.size, 1, none⟩) (by simp; omega) (.string (x2 ++ ⟨#[10]⟩))).two (.string x1) (.string (x2 ++ ⟨#[10]⟩))
      refine bodyPost_ret (v := .agg #[.string x1, .string (x2 ++ ⟨#[10]⟩)]) (by simp [results, Tryz.results31, go_sem, q0, q1]) rfl ⟨(x1, (x2 ++ ⟨#[10]⟩)), p + 1 + 1 + 1, rfl, hl1, by rw [ByteArray.size_append]; show x2.size + 1 ≤ 900; omega, by omega, ((hR4.far (by simp; omega) (by simp; omega) _).far (by simp; omega) (by simp; omega) _).far (by simp; omega) (by simp; omega) _, grown_far (grown_far (grown_far hG04 (by simp; omega) _) (by simp) _) (by simp) _⟩
    · clear c0 c1 b0 b1 z0 z1 y0 y1
      go_wp2_with fail
      refine (pick_any w0 A bs c g (p + 1 + 1 + 1) 2 _ hR4 (by omega) (by omega)).mono ?_
      rintro e w5 ⟨kk, hkk, rfl, hR5, hG5⟩
      have hL5 := HL4.out.grown hG5 (by simp; omega)
      have hB5 := HB4.out.grown hG5 (by simp; omega)
      have hG05 := grown_trans hG04 hG5
      have hs5 := hG5.size
      have z0 := hL5.frozen 0
      have z1 := hL5.frozen 1
      have y0 := hB5.frozen 0
      have y1 := hB5.frozen 1
      have c0 : w5.cell? ⟨w3.heap.size, 0, none⟩ = some (.string x1) := hL5.cell 0
      have c1 : w5.cell? ⟨w3.heap.size, 1, none⟩ = some (.string x2) := hL5.cell 1
      have b0 : w5.cell? ⟨w.heap.size, 0, none⟩ = some (.string ⟨#[]⟩) := hB5.cell 0
      have b1 : w5.cell? ⟨w.heap.size, 1, none⟩ = some (.string ⟨#[]⟩) := hB5.cell 1
      have HB5 := Lib.hid hB5
      clear hL5 hB5 hG5
      clear hR4
      go_wp2_with fail
      refine (many_any ⟨#[120]⟩ (40 + kk) w5 (by decide) (by omega)).mono ?_
      rintro e w6 ⟨t, rfl, ht, rfl⟩
      go_wp2
      obtain ⟨q0, q1⟩ := (HB5.out.far (p := ⟨w3.heap.size, 1, none⟩) (by simp; omega) (.string t)).two (.string x1) (.string t)
      refine bodyPost_ret (v := .agg #[.string x1, .string t]) (by simp [results, Tryz.results31, go_sem, q0, q1]) rfl ⟨(x1, t), p + 1 + 1 + 1 + 1, rfl, hl1, by simp only; omega, by omega, ((hR5.far (by simp; omega) (by simp; omega) _).far (by simp; omega) (by simp; omega) _).far (by simp; omega) (by simp; omega) _, grown_far (grown_far (grown_far hG05 (by simp; omega) _) (by simp) _) (by simp) _⟩
    · have hcat : ¬ (9223372036854775807 < 1 + x2.size) := by omega
      go_wp2
      obtain ⟨q0, q1⟩ := (HB4.out.far (p := ⟨w3.heap.size, 1, none⟩) (by simp; omega) (.string (⟨#[127]⟩ ++ x2))).two (.string x1) (.string (⟨#[127]⟩ ++ x2))
      refine bodyPost_ret (v := .agg #[.string x1, .string (⟨#[127]⟩ ++ x2)]) (by simp [results, Tryz.results31, go_sem, q0, q1]) rfl ⟨(x1, (⟨#[127]⟩ ++ x2)), p + 1 + 1 + 1, rfl, hl1, by rw [ByteArray.size_append]; show 1 + x2.size ≤ 900; omega, by omega, ((hR4.far (by simp; omega) (by simp; omega) _).far (by simp; omega) (by simp; omega) _).far (by simp; omega) (by simp; omega) _, grown_far (grown_far (grown_far hG04 (by simp; omega) _) (by simp) _) (by simp) _⟩
end Go.Proofs.YtfmhhckkpenldaaGreatDoor
