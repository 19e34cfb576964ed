/- The draw of rows of writes, a key, and a time. FnPastLast: a row has what was done to its key last. For all codes. No condition. -/
import Derived.Test.YtfmpohhaimgnfaaL8Past
import Derived.Test.YtfmpohhaimgnfaaPastS
import Derived.Deep.RegionHeld3
import Derived.Test.YtfmpohhaimgnfaaPastI
import Derived.Test.YtfmpohhaimgnfaaPlainV
import Derived.Test.YtfmpohhaimgnfaaFoldI
import Derived.Test.YtfmpohhaimgnfaaSame
import Derived.Test.YtfmpohhaimgnfaaBytes
namespace Go.Proofs.Ytfmpohhaimgnfaa
open Go.RowKit
theorem cell_draw {w0 W W' : World} {A : Option Addr} {bs : List UInt8} {c g p p' : Nat} (hR : Rd w0 W A bs c g p) (hR' : Rd w0 W' A bs c g p') (hG : W.grownBy W' (some g)) {b m : Nat} {v : Value} (hb : b < W.heap.size) (h : W.cell? ⟨b, m, none⟩ = some v) (hv : ∀ i : Int, v ≠ .int .i64 i) : W'.cell? ⟨b, m, none⟩ = some v := by
  by_cases e : b = g
  · subst e
    rw [hR.1.cell m] at h
    rw [hR'.1.cell m]
    rcases m with _ | _ | m
    · exact h
    · exfalso
      injection h with h
      exact hv _ h.symm
    · simp at h
  · exact (World.cell?_of_block (a := ⟨b, m, none⟩) (hG.block b hb (by simpa using e))).trans h
theorem Sl2.draw {w0 W W' : World} {A : Option Addr} {bs : List UInt8} {c g p p' : Nat} {As : Option Addr} {qs : List Wrow} (h : Sl2 W As qs) (hR : Rd w0 W A bs c g p) (hR' : Rd w0 W' A bs c g p') (hG : W.grownBy W' (some g)) : Sl2 W' As qs := by
  refine ⟨fun hl => ?_, fun r hr hl => ?_⟩
  · obtain ⟨b, o, e, hb, hc⟩ := h.1 hl
    refine ⟨b, o, e, Nat.lt_of_lt_of_le hb hG.size, fun i j x hx hj => ?_⟩
    obtain rfl : j = 0 := by omega
    exact cell_draw hR hR' hG hb (hc i 0 x hx hj) (fun i h => by cases h)
  · obtain ⟨b, o, e, hb, hc⟩ := h.2 r hr hl
    have hne : b ≠ g := by
      intro e2
      subst e2
      have h1 := hc 0 0 _ (List.getElem?_eq_getElem hl) (by decide)
      rw [hR.1.cell] at h1
      generalize o + 0 * 3 + 0 = m at h1
      rcases m with _ | _ | m
      · have h2 : (Value.slice A bs.length c) = .string (r.2.2[0]).1 := by injection h1
        cases h2
      · have h2 : (Value.int .i64 (p : Int)) = .string (r.2.2[0]).1 := by injection h1
        cases h2
      · simp [encWri] at h1
    exact ⟨b, o, e, Nat.lt_of_lt_of_le hb hG.size, fun i j x hx hj => (World.cell?_of_block (a := ⟨b, o + i * 3 + j, none⟩) (hG.block b hb (by simpa using hne))).trans (hc i j x hx hj)⟩
def PLd (w0 : World) (A : Option Addr) (bs : List UInt8) (c g : Nat) (As : Option Addr) (qs : List Wrow) (cs p : Nat) (W : World) : Prop := RS W As qs cs ∧ Rd w0 W A bs c g p
theorem PLd.below {w0 : World} {A : Option Addr} {bs : List UInt8} {c g : Nat} {As : Option Addr} {qs : List Wrow} {cs p : Nat} {W W' : World} (h : PLd w0 A bs c g As qs cs p W) (hb : Below W.heap.size W W') : PLd w0 A bs c g As qs cs p W' := ⟨⟨⟨h.1.1.1.below hb, fun r hr => (h.1.1.2 r hr).below hb⟩, h.1.2⟩, h.2.below hb⟩
theorem PLd.draw {w0 : World} {A : Option Addr} {bs : List UInt8} {c g : Nat} {As : Option Addr} {qs : List Wrow} {cs p p' : Nat} {W W' : World} (h : PLd w0 A bs c g As qs cs p W) (hR : Rd w0 W' A bs c g p') (hG : W.grownBy W' (some g)) : PLd w0 A bs c g As qs cs p' W' := ⟨⟨h.1.1.draw h.2 hR hG, h.1.2⟩, hR⟩
def keysL : List ByteArray := [⟨#[97]⟩, ⟨#[98]⟩, ⟨#[99]⟩, ⟨#[100]⟩, ⟨#[97, 98]⟩, ⟨#[122, 122]⟩]
theorem keysL_le : ∀ x ∈ keysL, x.size ≤ 2 := by decide
set_option maxRecDepth 100000 in
set_option maxHeartbeats 3000000 in
theorem drawLast_any (A : Option Addr) (bs : List UInt8) (c : Nat) (w : World) (hn : bs.length ≤ 1048576) (hc : bs.length ≤ c) (hm : c ≤ maxLen) (hS : Sl encU 1 w A bs) :
    Calls Try.prog 49 #[.slice A bs.length c] w fun e w' => ∃ (qs : List Wrow) (A' : Option Addr) (c' : Nat) (key : ByteArray) (t : Int), e = .returned (.tuple #[.slice A' qs.length c', .string key, .int .i64 t]) ∧ RS w' A' qs c' ∧ qs.length ≤ 41 ∧ key.size ≤ 2 ∧ Below w.heap.size w w' := by
  go_enter Try.func49, Try.ntmps49
  go_wp2_with fail
  refine (open_any A bs c w hn hc hm hS).mono ?_
  rintro e w1 ⟨bs', c', g, rfl, hR1, hb1⟩
  go_wp2_with fail
  refine (l8Past_any w A bs' c' g 0 w1 hR1 (by omega)).mono ?_
  rintro e w2 ⟨qs, A3, c3, q, rfl, hq, hl, hq4, hR2, hG2⟩
  have HD := Lib.hid (show PLd w A bs' c' g A3 qs c3 q w2 from ⟨hq, hR2⟩)
  have HL := Lib.hid hl
  obtain ⟨m, hm⟩ : ∃ m, m = qs.length + 1 := ⟨_, rfl⟩
  have hm1 : 1 ≤ m ∧ m ≤ 1048576 := by omega
  have hwp : IntKind.i64.wrap ((qs.length : Int) + 1) = (m : Int) := by rw [IntKind.wrap_i64]; omega
  have r0 : w2.cell? ⟨g, 0, none⟩ = some (.slice A bs'.length c') := hR2.1.cell 0
  clear hq hR1 hR2 hG2 hb1 hS hm hl
  go_wp2_with fail
  have HDA := Lib.hid (HD.out.below ((Below.refl _ _).alloc (Nat.le_refl _) (.cells #[.string ⟨#[97]⟩, .string ⟨#[98]⟩, .string ⟨#[99]⟩, .string ⟨#[100]⟩, .string ⟨#[97, 98]⟩, .string ⟨#[122, 122]⟩] 9)))
  refine (of_any w A bs' c' g q (some ⟨_, 0, none⟩) keysL 6 _ HDA.out.2 (by omega) (by decide) (Sl.litS _ _ keysL _ rfl) (by intro b o h; have h1 : g < w2.heap.size := HD.out.2.1.lt; (have h2 : w2.heap.size = b := (by injection h with h; injection h)); omega)).mono ?_
  rintro e w3 ⟨x, hx, rfl, hRk, hGk⟩
  have HX := Lib.hid (keysL_le x hx)
  have HD := Lib.hid (HDA.out.draw hRk hGk)
  clear hRk hGk hx HDA
  go_wp2_with fail
  refine (pick_any w A bs' c' g _ m _ HD.out.2 (by omega) hm1).mono ?_
  rintro e w4 ⟨k1, _, rfl, hRk, hGk⟩
  have HD := Lib.hid (HD.out.draw hRk hGk)
  clear hRk hGk
  go_wp2_with fail
  refine (pick_any w A bs' c' g _ m _ HD.out.2 (by omega) hm1).mono ?_
  rintro e w5 ⟨k2, _, rfl, hRk, hGk⟩
  have HD := Lib.hid (HD.out.draw hRk hGk)
  clear hRk hGk
  go_wp2_with fail
  refine (num_any w A bs' c' g _ (some ⟨_, 0, none⟩) [_, _, _, _, _, _] 6 _ (HD.out.2.alloc _) (by omega) ⟨by simp, by simp⟩ (Sl.litN _ _ _ _ rfl) (by intro b o h; have := HD.out.2.1.lt; simp at h; omega)).mono ?_
  rintro e w6 ⟨t, _, rfl, hRk, hGk⟩
  have HD := Lib.hid ((HD.out.below ((Below.refl _ _).alloc (Nat.le_refl _) _)).draw hRk hGk)
  clear hRk hGk
  go_wp2
  go_ret3
  exact ⟨qs, A3, c3, x, t, rfl, HD.out.1, HL.out, HX.out, HD.out.2.2.1⟩
end Go.Proofs.Ytfmpohhaimgnfaa
namespace Go.Proofs.Ytfmpohhaimgnfaa
open Go.RowKit Go.ChangeShapes Go.WideShapes Go.ChangeAt Go.Deep
theorem RSl.below {W W' : World} {A : Option Addr} {qs : List Wrow} {c : Nat} (h : RS W A qs c) (hb : Below W.heap.size W W') : RS W' A qs c := ⟨⟨h.1.1.below hb, fun r hr => (h.1.2 r hr).below hb⟩, h.2⟩
theorem RSl.fits {W : World} {A : Option Addr} {qs : List Wrow} {c : Nat} (h : RS W A qs c) : FitsR qs := ⟨Nat.le_trans h.2.2.1 h.2.2.2, fun r hr => (h.2.1 r hr).1⟩
theorem RSl.fitsC {W : World} {A : Option Addr} {qs : List Wrow} {c : Nat} (h : RS W A qs c) : ∀ r ∈ cont qs, FitsW r := fun r hr => by
  obtain ⟨s, hs, rfl⟩ := List.mem_map.1 hr
  exact (h.2.1 s hs).1
theorem goF_fitsL : ∀ (rs : List (List Wri)) (now n : Int) (l L : List Ver) (b : Bool), goF now l rs = ((n, L), b) → FitsV l → l.length ≤ 60 → (∀ r ∈ rs, FitsW r) → FitsV L := by
  intro rs
  induction rs with
  | nil =>
    intro now n l L b h hf _ _
    rw [goF_nil] at h
    simp only [Prod.mk.injEq] at h
    obtain ⟨⟨_, rfl⟩, _⟩ := h
    exact hf
  | cons r rs ih =>
    intro now n l L b h hf hl hr
    cases h1 : wrsB 20 r
    · rw [goF_row h1] at h
      simp only [Prod.mk.injEq] at h
      obtain ⟨⟨_, rfl⟩, _⟩ := h
      exact ⟨Nat.zero_le _, fun x h => absurd h (by simp)⟩
    · cases h2 : versB (now + 1) (doS (now + 1) l r)
      · rw [goF_bad h1 h2] at h
        simp only [Prod.mk.injEq] at h
        obtain ⟨⟨_, rfl⟩, _⟩ := h
        exact ⟨Nat.zero_le _, fun x h => absurd h (by simp)⟩
      · rw [goF_on h1 h2] at h
        have h20 := (wrsB_iff.1 h1).1
        exact ih _ _ _ _ _ h (fits_do (now := now + 1) (by omega) (by omega) hf (hr r (by simp))).1 (versB_out h2).1.2.2 (fun s hs => hr s (by simp [hs]))
/-- what the law asks at its end -/
def EndL (o : Option Wri) (x : Int) (b : Bool) : Prop := b = (o.isSome && !(wOf o).2.2) ∧ (b = true → x = (wOf o).2.1)
theorem endL (o : Option Wri) : EndL o ((valO o).getD 0) (valO o).isSome := by
  unfold EndL valO wOf
  cases o with
  | none => simp
  | some w => obtain ⟨k, n, g⟩ := w; cases g <;> simp
set_option maxRecDepth 100000 in
set_option maxHeartbeats 6000000 in
theorem lawPastLast (A : Option Addr) (bs : List UInt8) (c : Nat) (w : World) (hc : bs.length ≤ c) (hm : c ≤ maxLen) (hS : Sl encU 1 w A bs) :
    Calls Try.prog 11 #[.slice A bs.length c] w fun e w' => e = .returned (.bool true) ∧ Below w.heap.size w w' := by
  go_enter Try.func11, Try.ntmps11
  by_cases hbig : 1048576 < bs.length
  · have d0 : decide ((1048576 : Int) < (bs.length : Int)) = true := decide_eq_true (by omega)
    go_wp2
    go_ret
    exact ⟨rfl, Below.refl _ _⟩
  have d0 : decide ((1048576 : Int) < (bs.length : Int)) = false := decide_eq_false (by omega)
  have HD := Lib.hid (drawLast_any A bs c w (by omega) hc hm hS)
  clear hS hbig
  go_wp2_with fail
  refine HD.out.mono ?_
  rintro e w1 ⟨qs, A5, c5, key, t, rfl, hRS, hql, hks, hb1⟩
  have HRS := Lib.hid hRS
  have HQ1 := Lib.hid (show ∀ r ∈ qs, r.2.2.length ≤ 1048576 from fun r hr => by have := (hRS.2.1 r hr).2.1; omega)
  clear HD hRS d0
  have HC1 := Lib.hid (implPastLast_any A5 qs c5 key t w1 (by omega) HQ1.out HRS.out.1)
  obtain ⟨o, ho⟩ : ∃ o, o = lastAt key qs t := ⟨_, rfl⟩
  rw [← ho] at HC1
  have HO := Lib.hid ho
  obtain ⟨y, hy⟩ : ∃ y, y = wOf o := ⟨_, rfl⟩
  obtain ⟨ob, hob⟩ : ∃ ob, ob = o.isSome := ⟨_, rfl⟩
  have HE := Lib.hid (⟨hy, hob⟩ : _ ∧ _)
  have hlo : lastOut o = .returned (.tuple #[.agg #[.string y.1, .int .i64 y.2.1, .bool y.2.2], .bool ob]) := by rw [hy, hob]; rfl
  obtain ⟨yk, yn, yg⟩ := y
  simp only at hlo
  have HLO := Lib.hid hlo
  clear ho hy hob hlo
  go_wp2_with fail
  refine HC1.out.mono ?_
  rintro e w2 ⟨he, hb2⟩
  rw [HLO.out] at he
  subst he
  clear HC1
  have hbn := (Below.refl w2.heap.size w2).alloc (Nat.le_refl _) (.cells #[.string yk, .int .i64 yn, .bool yg] 61)
  have hb23 := bthen hb2 hbn
  have HB6 := Lib.hid (Blk.new w2 61 #[.string yk, .int .i64 yn, .bool yg])
  have HRS := Lib.hid (RSl.below HRS.out hb23)
  have hbw3 := bthen hb1 hb23
  have HC2 := Lib.hid (specPastLast_any A5 qs c5 key t (w2.alloc (.cells #[.string yk, .int .i64 yn, .bool yg] 61)) (by omega) HQ1.out HRS.out.1)
  rw [← HO.out] at HC2
  clear hbn hb2 hb23 hb1
  go_wp2_with fail
  generalize w2.alloc (.cells #[.string yk, .int .i64 yn, .bool yg] 61) = w3 at *
  have hg6 := HB6.out.lt
  generalize w2.heap.size = g6 at *
  refine HC2.out.mono ?_
  rintro e w4 ⟨he, hb4⟩
  rw [HLO.out] at he
  subst he
  clear HC2
  have hbn := (Below.refl w4.heap.size w4).alloc (Nat.le_refl _) (.cells #[.string yk, .int .i64 yn, .bool yg] 61)
  have hb45 := bthen hb4 hbn
  have HB8 := Lib.hid (Blk.new w4 61 #[.string yk, .int .i64 yn, .bool yg])
  have HB6 := Lib.hid (HB6.out.kept hb45)
  have HRS := Lib.hid (RSl.below HRS.out hb45)
  have hbw5 := bthen hbw3 hb45
  clear hbn hb4 hb45 hbw3
  have hal : (w4.alloc (.cells #[.string yk, .int .i64 yn, .bool yg] 61)).cell? ⟨g6, 0, none⟩ = some (.string yk) := HB6.out.cell 0
  have ham : (w4.alloc (.cells #[.string yk, .int .i64 yn, .bool yg] 61)).cell? ⟨g6, 1, none⟩ = some (.int .i64 yn) := HB6.out.cell 1
  have han : (w4.alloc (.cells #[.string yk, .int .i64 yn, .bool yg] 61)).cell? ⟨g6, 2, none⟩ = some (.bool yg) := HB6.out.cell 2
  have hbl : (w4.alloc (.cells #[.string yk, .int .i64 yn, .bool yg] 61)).cell? ⟨w4.heap.size, 0, none⟩ = some (.string yk) := HB8.out.cell 0
  have hbm : (w4.alloc (.cells #[.string yk, .int .i64 yn, .bool yg] 61)).cell? ⟨w4.heap.size, 1, none⟩ = some (.int .i64 yn) := HB8.out.cell 1
  have hbn : (w4.alloc (.cells #[.string yk, .int .i64 yn, .bool yg] 61)).cell? ⟨w4.heap.size, 2, none⟩ = some (.bool yg) := HB8.out.cell 2
  have HFL := Lib.hid (goF_short (cont qs) 0 [] (by simp))
  generalize hgo : goF 0 [] (cont qs) = R at *
  have HR := Lib.hid hgo
  obtain ⟨⟨n, L⟩, ok⟩ := R
  have hL60 : L.length ≤ 60 := HFL.out
  clear hgo HFL
  generalize hw5 : w4.alloc (.cells #[.string yk, .int .i64 yn, .bool yg] 61) = w5 at *
  have HC := Lib.hid (implPastFold_any A5 qs c5 w5 (RSl.fits HRS.out) (by omega) HQ1.out HRS.out.1)
  rw [HR.out] at HC
  go_wp2_with fail
  refine HC.out.mono ?_
  rintro e w6 ⟨v6, rfl, ho6, hb6⟩
  simp only at ho6 ⊢
  obtain ⟨A6, c6, rfl, _, _, hS6⟩ := ho6.sl
  have hbn6 := (Below.refl w6.heap.size w6).alloc (Nat.le_refl _) (.cells #[.int .i64 n, .slice A6 L.length c6] 25)
  have hb67 := bthen hb6 hbn6
  have HB10 := Lib.hid (Blk.new w6 25 #[.int .i64 n, .slice A6 L.length c6])
  have HS10 := Lib.hid (hS6.below hbn6)
  have HB6 := Lib.hid (HB6.out.kept hb67)
  have hbw7 := bthen hbw5 hb67
  have hal : (w6.alloc (.cells #[.int .i64 n, .slice A6 L.length c6] 25)).cell? ⟨g6, 0, none⟩ = some (.string yk) := HB6.out.cell 0
  have ham : (w6.alloc (.cells #[.int .i64 n, .slice A6 L.length c6] 25)).cell? ⟨g6, 1, none⟩ = some (.int .i64 yn) := HB6.out.cell 1
  have han : (w6.alloc (.cells #[.int .i64 n, .slice A6 L.length c6] 25)).cell? ⟨g6, 2, none⟩ = some (.bool yg) := HB6.out.cell 2
  have hv0 : (w6.alloc (.cells #[.int .i64 n, .slice A6 L.length c6] 25)).cell? ⟨w6.heap.size, 0, none⟩ = some (.int .i64 n) := HB10.out.cell 0
  have hv1 : (w6.alloc (.cells #[.int .i64 n, .slice A6 L.length c6] 25)).cell? ⟨w6.heap.size, 1, none⟩ = some (.slice A6 L.length c6) := HB10.out.cell 1
  clear HC hb6 ho6 hS6 hbn6 hb67 hbw5 hbl hbm hbn
  cases ok
  case false =>
    go_wp2
    go_ret
    exact ⟨rfl, hbw7⟩
  by_cases ht0 : t < 0
  · have d0 : decide (t < (0 : Int)) = true := decide_eq_true ht0
    go_wp2
    go_ret
    exact ⟨rfl, hbw7⟩
  have d0 : decide (t < (0 : Int)) = false := decide_eq_false ht0
  by_cases htn : n < t
  · have d1 : decide (n < t) = true := decide_eq_true htn
    go_wp2
    go_ret
    exact ⟨rfl, hbw7⟩
  have d1 : decide (n < t) = false := decide_eq_false htn
  obtain ⟨hN1, hN2, _⟩ := goF_late _ 0 n [] L HR.out vers_start
  have HRX := Lib.hid (show rowsA n L t = atL L t from rowsA_yes hN2 (by omega) (by omega))
  have HG := Lib.hid (goF_getR key HR.out vers_start (t := t) (by omega) (by omega))
  have HFL := Lib.hid (goF_fitsL _ _ _ _ _ _ HR.out ⟨Nat.zero_le _, fun x h => absurd h (by simp)⟩ (by simp) (RSl.fitsC HRS.out))
  have hal' := atL_le L t
  have HFR := Lib.hid (atL_fits HFL.out (t := t))
  have HEE := Lib.hid (show EndL o ((valO (lastW key ((cont qs).take t.toNat))).getD 0) (valO (lastW key ((cont qs).take t.toNat))).isSome from by rw [HO.out]; exact endL _)
  generalize hRR : atL L t = RR at *
  obtain ⟨⟨x, b⟩, hxb⟩ : ∃ p : Int × Bool, p = getR RR key := ⟨_, rfl⟩
  have HXB := Lib.hid hxb
  have HEN := Lib.hid (show EndL o x b from by
    have h1 := HEE.out
    rw [← HXB.out] at HG
    have h2 := HG.out
    injection h2 with h2 h3
    rw [h2, h3]; exact h1)
  clear hN1 hN2 HG HEE hxb hRR ht0 htn
  have HAT := Lib.hid (implAt_any A6 L c6 n t (w6.alloc (.cells #[.int .i64 n, .slice A6 L.length c6] 25)) HFL.out (by omega) HS10.out)
  go_wp2_with fail
  refine HAT.out.mono ?_
  rintro e w8 ⟨v8, rfl, ho8, hb8⟩
  rw [HRX.out] at ho8
  obtain ⟨A8, c8, rfl, _, _, hS8⟩ := ho8.sl
  have HS8 := Lib.hid hS8
  clear ho8 hS8
  go_wp2_with fail
  refine (rowsGet_any A8 RR c8 key w8 HFR.out (by omega) HS8.out).mono ?_
  rintro e w9 ⟨he, hb9⟩
  rw [← HXB.out] at he
  subst he
  simp only
  have hb79 := bthen hb8 hb9
  have HB6 := Lib.hid (HB6.out.kept hb79)
  have hal : w9.cell? ⟨g6, 0, none⟩ = some (.string yk) := HB6.out.cell 0
  have ham : w9.cell? ⟨g6, 1, none⟩ = some (.int .i64 yn) := HB6.out.cell 1
  have han : w9.cell? ⟨g6, 2, none⟩ = some (.bool yg) := HB6.out.cell 2
  have hbw9 := bthen hbw7 hb79
  have he1 : b = (ob && !yg) := by
    have h1 := HEN.out.1
    rw [← HE.out.1, ← HE.out.2] at h1
    exact h1
  have he2 : b = true → x = yn := by
    have h1 := HEN.out.2
    rw [← HE.out.1] at h1
    exact h1
  clear HAT HFR HXB hb8 hb9 hb79 HEN HRX hv0 hv1 hbw7 d0 d1
  cases b
  · clear he2
    cases ob
    · clear he1
      go_wp2
      go_ret
      exact ⟨rfl, hbw9⟩
    · cases yg
      · simp at he1
      · clear he1
        go_wp2
        go_ret
        exact ⟨rfl, hbw9⟩
  · obtain rfl := he2 rfl
    clear he2
    cases ob
    · simp at he1
    · cases yg
      · clear he1
        go_wp2
        go_ret
        exact ⟨rfl, hbw9⟩
      · simp at he1
theorem own0 : ownKnob Try.prog.godebug = none := by kernel_rfl
theorem laidOut0 : laidOutB Try.prog = true := by kernel_rfl
set_option maxRecDepth 100000 in
theorem pastLast_lifted (os : Os) (started : os.Started) (H : Type) (enc : TypeId × Value → H) :
    ReturnsInHanded {} Try.checked os 11 .any (Rows.fnPastLastSpec.pre6 enc Try.prog Try.f11 Rows.fnPastLastRow.domain false) (Rows.fnPastLastSpec.post enc Try.prog Try.f11 false true false false) := by
  refine returnsInHanded_of_change (C := Try.checked) own0 started (by kernel_rfl) Try.func11
    (ChangeSpec.witness6 (enc := enc) (C := Try.checked) false ⟨#[], #[.slice none 0 0], []⟩ 8 (by kernel_rfl) (by kernel_rfl) (by kernel_rfl) (by kernel_rfl)) ?_
  intro W base args ds gs before hval0 hW hcnd _
  have hval : ∀ (j : Nat) t v, Try.f11.params[j]? = some t → args[j]? = some v → Value.okWide Try.prog W .any base t v := hval0
  have hW' := hW
  obtain ⟨p, q, hA0, hV, rfl, hfz, hnd⟩ := hW
  have hA : DataW.TrodAll enc Try.prog W 0 (fun _ => true) true Try.f11.params.toList args.toList ds p := hA0
  rw [Try.params11] at hA hval
  obtain ⟨v0, vs0, d0, ds0, p0, q0, hargs, rfl, rfl, h0, r0⟩ := trodAll_cons hA
  obtain ⟨rfl, rfl, rfl⟩ := trodAll_nil r0
  obtain rfl : args = #[v0] := by cases args; simp_all
  obtain ⟨rfl, rfl⟩ := trodVars_none hV
  have k0 := h0
  have lt0 : ∀ x ∈ p0, x.block < W.heap.size := by obtain ⟨m, hm⟩ := k0; exact DataW.trod_lt m _ _ _ hm
  obtain ⟨A0, bs0, c0, rfl, hb0, hR0⟩ := open_bytes (hval 0 22 v0 rfl rfl) h0
  clear hA0 hval0
  refine (lawPastLast A0 bs0 c0 W hb0.1 hb0.2 hR0).mono fun e W' ⟨he, bel⟩ => ?_
  subst he
  exact ⟨_, rfl, _, _, _, [], _, [], hW', trodAll_mk1 (shut_bool Try.underlying4 _), (trodAll_cons_mk (Below.trod laidOut0 (by kernel_rfl) (of_decide_eq_true (by kernel_rfl)) k0 bel lt0) trodAll_mk0), rfl, bel.frame _, fun h => by cases h⟩
theorem pastLast_holds : Rows.FnPastLastSaid :=
  OpenClaim.holds_of_wide 11 Try.f11 rfl rfl rfl rfl rfl rfl rfl ⟨rfl, rfl, rfl, rfl, rfl⟩ rfl rfl rfl rfl rfl (by kernel_rfl) Try.func11 (by kernel_rfl)
    (of_decide_eq_true (by kernel_rfl)) (by unfold Func.isWrapper; first | (rw [if_pos (by decide +kernel)]; kernel_rfl) | (rw [if_neg (by decide +kernel)]; exact ⟨rfl, rfl⟩))
    (fun os started H enc _ => pastLast_lifted os started H enc)
#print axioms pastLast_holds

end Go.Proofs.Ytfmpohhaimgnfaa
