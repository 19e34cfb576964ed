/- Those who talk: how they lie in memory; their size. -/
import Derived.Test.YteanjfjlmpgnnaaTkD
import Derived.Test.YteanjfjlmpgnnaaVrSz
namespace Go.Proofs.Yteanjfjlmpgnnaa
open Go.RowKit
abbrev Nrow : Type := Option Addr × Nat × List Nm
structure Tk where
  on : Bool
  bad : Bool
  at_ : Int
  ws : Wrow
  ns : Nrow
  skip : Bool
  gone : Bool
  inb : ByteArray
def encTk (t : Tk) : List Value := [.bool t.on, .bool t.bad, .int .i64 t.at_, .slice t.ws.1 t.ws.2.2.length t.ws.2.1, .slice t.ns.1 t.ns.2.2.length t.ns.2.1, .bool t.skip, .bool t.gone, .string t.inb]
theorem encTk_len (t : Tk) : (encTk t).length = 8 := rfl
/-- what one who talks holds, without the places -/
abbrev TkC : Type := Bool × Bool × Int × List Wri × List Nm × Bool × Bool × ByteArray
def tkC (t : Tk) : TkC := (t.on, t.bad, t.at_, t.ws.2.2, t.ns.2.2, t.skip, t.gone, t.inb)
def tkS (ts : List Tk) : List TkC := ts.map tkC
theorem tkS_len (ts : List Tk) : (tkS ts).length = ts.length := by simp [tkS]
def FitsT (t : Tk) : Prop := FitsW t.ws.2.2 ∧ FitsN t.ns.2.2 ∧ t.inb.size ≤ maxLen
def SlT (w : World) (A : Option Addr) (ts : List Tk) : Prop := Sl encTk 8 w A ts ∧ ∀ t ∈ ts, Sl encWri 3 w t.ws.1 t.ws.2.2 ∧ Sl encNm 5 w t.ns.1 t.ns.2.2
theorem SlT.below {w w' : World} {A : Option Addr} {ts : List Tk} (h : SlT w A ts) (hb : Below w.heap.size w w') : SlT w' A ts := ⟨h.1.below hb, fun t ht => ⟨(h.2 t ht).1.below hb, (h.2 t ht).2.below hb⟩⟩
def tsz (x : TkC) : Nat := (x.2.2.2.1.length + wsz x.2.2.2.1) + ((x.2.2.2.2.1.length + nsz x.2.2.2.2.1) + x.2.2.2.2.2.2.2.size)
def tssz (l : List TkC) : Nat := (l.map tsz).sum
theorem tssz_take (l : List TkC) (k : Nat) (h : k < l.length) : tssz (l.take (k + 1)) = tssz (l.take k) + tsz l[k] := by
  unfold tssz; rw [List.take_succ_eq_append_getElem h, List.map_append, List.sum_append]; simp
theorem tssz_le (l : List TkC) (k : Nat) : tssz (l.take k) ≤ tssz l := by
  unfold tssz
  conv => rhs; rw [← List.take_append_drop k l, List.map_append, List.sum_append]
  omega
theorem sz_two {a b : Nat} {left q : Int} (h : sz a left = q) (hq : 0 ≤ q) : sz b q = sz (a + b) left := by
  subst h
  unfold sz at *
  split at hq
  · split <;> split <;> omega
  · omega
theorem sz_neg1 {a b : Nat} {left : Int} (h : sz a left = -1) (h0 : 0 ≤ left) : sz (a + b) left = -1 := by
  unfold sz at *
  split at h
  · omega
  · rw [if_neg (by omega)]
theorem sz_range {a : Nat} {left : Int} (h1 : left ≤ 1048576) : (0 ≤ sz a left ∧ sz a left ≤ 1048576) ∨ sz a left = -1 := by
  unfold sz; split <;> omega
set_option maxRecDepth 100000 in
set_option maxHeartbeats 1000000 in
theorem szWork_any (A : Option Addr) (l : List Wri) (c : Nat) (at_ : Int) (left : Int) (w : World) (hn : FitsW l) (hR : Sl encWri 3 w A l) (h0 : 0 ≤ left) (h1 : left ≤ 1048576) :
    Calls Try.prog 156 #[.agg #[.int .i64 at_, .slice A l.length c], .int .i64 left] w fun e w' => e = .returned (.int .i64 (sz (l.length + wsz l) left)) ∧ Below w.heap.size w w' := by
  have hb0 := (Below.refl w.heap.size w).alloc (Nat.le_refl _) (.cells #[.int .i64 at_, .slice A l.length c] 127)
  have HC := Lib.hid (szWriteS_any A l c left _ hn (hR.below hb0) h0 h1)
  clear hR
  generalize hq : sz (l.length + wsz l) left = q at *
  have hq2 : 0 ≤ q ∨ q = -1 := by rw [← hq]; unfold sz; split <;> omega
  clear hq
  go_enter Try.func156, Try.ntmps156
  go_wp2_with fail
  refine HC.out.mono ?_
  rintro e w1 ⟨rfl, hb1⟩
  rcases hq2 with hq2 | rfl
  · have d : decide (q < 0) = false := decide_eq_false (by omega)
    go_wp2
    go_ret
    exact ⟨rfl, bthen hb0 hb1⟩
  · go_wp2
    go_ret
    exact ⟨rfl, bthen hb0 hb1⟩
set_option maxRecDepth 100000 in
set_option maxHeartbeats 1000000 in
theorem szSeat_any (A : Option Addr) (l : List Wri) (c : Nat) (on bad : Bool) (at_ : Int) (left : Int) (w : World) (hn : FitsW l) (hR : Sl encWri 3 w A l) (h0 : 0 ≤ left) (h1 : left ≤ 1048576) :
    Calls Try.prog 132 #[.agg #[.bool on, .bool bad, .int .i64 at_, .slice A l.length c], .int .i64 left] w fun e w' => e = .returned (.int .i64 (sz (l.length + wsz l) left)) ∧ Below w.heap.size w w' := by
  have hb0 := (Below.refl w.heap.size w).alloc (Nat.le_refl _) (.cells #[.bool on, .bool bad, .int .i64 at_, .slice A l.length c] 129)
  have HC := Lib.hid (szWork_any A l c at_ left _ hn (hR.below hb0) h0 h1)
  clear hR
  generalize hq : sz (l.length + wsz l) left = q at *
  have hq2 : 0 ≤ q ∨ q = -1 := by rw [← hq]; unfold sz; split <;> omega
  clear hq
  go_enter Try.func132, Try.ntmps132
  go_wp2_with fail
  refine HC.out.mono ?_
  rintro e w1 ⟨rfl, hb1⟩
  rcases hq2 with hq2 | rfl
  · have d : decide (q < 0) = false := decide_eq_false (by omega)
    go_wp2
    go_ret
    exact ⟨rfl, bthen hb0 hb1⟩
  · go_wp2
    go_ret
    exact ⟨rfl, bthen hb0 hb1⟩
set_option maxRecDepth 100000 in
set_option maxHeartbeats 1000000 in
theorem szTalk_any (t : Tk) (left : Int) (w : World) (hf : FitsT t) (hw : Sl encWri 3 w t.ws.1 t.ws.2.2) (hns : Sl encNm 5 w t.ns.1 t.ns.2.2) (h0 : 0 ≤ left) (h1 : left ≤ 1048576) :
    Calls Try.prog 84 #[.agg #[.bool t.on, .bool t.bad, .int .i64 t.at_, .slice t.ws.1 t.ws.2.2.length t.ws.2.1, .slice t.ns.1 t.ns.2.2.length t.ns.2.1, .bool t.skip, .bool t.gone, .string t.inb], .int .i64 left] w fun e w' => e = .returned (.int .i64 (sz (tsz (tkC t)) left)) ∧ Below w.heap.size w w' := by
  obtain ⟨on, bad, at_, ⟨Aw, cw, ws⟩, ⟨An, cn, ns⟩, skip, gone, inb⟩ := t
  obtain ⟨hf1, hf2, hf3⟩ := hf
  simp only at hf1 hf2 hf3 hw hns ⊢
  show Calls _ _ _ _ fun e w' => e = .returned (.int .i64 (sz ((ws.length + wsz ws) + ((ns.length + nsz ns) + inb.size)) left)) ∧ Below w.heap.size w w'
  have hb0 := (Below.refl w.heap.size w).alloc (Nat.le_refl _) (.cells #[.bool on, .bool bad, .int .i64 at_, .slice Aw ws.length cw, .slice An ns.length cn, .bool skip, .bool gone, .string inb] 132)
  have hB0 := Blk.new w 132 #[.bool on, .bool bad, .int .i64 at_, .slice Aw ws.length cw, .slice An ns.length cn, .bool skip, .bool gone, .string inb]
  have HC := Lib.hid (szSeat_any Aw ws cw on bad at_ left _ hf1 (hw.below hb0) h0 h1)
  have HN := Lib.hid (hns.below hb0)
  have HF := Lib.hid hf2
  have HR1 := Lib.hid (sz_range (a := ws.length + wsz ws) h1)
  generalize hq : sz (ws.length + wsz ws) left = q at *
  have HQ := Lib.hid hq
  unfold maxLen at hf3
  clear hw hns hq hf1 hf2
  go_enter Try.func84, Try.ntmps84
  go_wp2_with fail
  generalize w.alloc (.cells #[.bool on, .bool bad, .int .i64 at_, .slice Aw ws.length cw, .slice An ns.length cn, .bool skip, .bool gone, .string inb] 132) = w0 at *
  refine HC.out.mono ?_
  rintro e w1 ⟨rfl, hb1⟩
  have hB1 := hB0.kept hb1
  have hbw1 := bthen hb0 hb1
  have HN := Lib.hid (HN.out.below hb1)
  have r4 : w1.cell? ⟨w.heap.size, 4, none⟩ = some (.slice An ns.length cn) := hB1.cell 4
  clear HC hb1 hb0 hB0
  rcases HR1.out with ⟨hq0, hq1⟩ | rfl
  · have d : decide (q < 0) = false := decide_eq_false (by omega)
    have HC := Lib.hid (szNamedS_any An ns cn q w1 HF.out HN.out hq0 hq1)
    have HR2 := Lib.hid (sz_range (a := ns.length + nsz ns) hq1)
    have HE := Lib.hid (sz_two (b := ns.length + nsz ns) HQ.out hq0)
    generalize hp : sz (ns.length + nsz ns) q = p at *
    have HP := Lib.hid hp
    clear hp
    go_wp2_with fail
    refine HC.out.mono ?_
    rintro e w2 ⟨rfl, hb2⟩
    have hB2 := hB1.kept hb2
    have hbw2 := bthen hbw1 hb2
    have r7 : w2.cell? ⟨w.heap.size, 7, none⟩ = some (.string inb) := hB2.cell 7
    clear HC hb2 hbw1 hB1 r4 d
    rcases HR2.out with ⟨hp0, hp1⟩ | rfl
    · have d : decide (p < 0) = false := decide_eq_false (by omega)
      by_cases hlt : p < inb.size
      · go_wp2
        go_ret
        refine ⟨ret_int ?_, hbw2⟩
        have := HE.out
        unfold sz at *
        split at this
        · rw [if_neg (by omega)]
        · omega
      · go_wp2
        go_ret
        refine ⟨ret_int ?_, hbw2⟩
        have := HE.out
        unfold sz at *
        split at this
        · rw [if_pos (by omega)]; omega
        · omega
    · go_wp2
      go_ret
      refine ⟨ret_int ?_, hbw2⟩
      have := HE.out
      rw [← Nat.add_assoc]
      exact (sz_neg1 this.symm (by omega)).symm
  · go_wp2
    go_ret
    exact ⟨ret_int (sz_neg1 HQ.out (by omega)).symm, hbw1⟩
set_option maxRecDepth 100000 in
set_option maxHeartbeats 1000000 in
theorem szTalkS_any (A : Option Addr) (ts : List Tk) (c : Nat) (left : Int) (w : World) (hn : ts.length ≤ maxLen) (hf : ∀ t ∈ ts, FitsT t) (hR : SlT w A ts) (h0 : 0 ≤ left) (h1 : left ≤ 1048576) :
    Calls Try.prog 46 #[.slice A ts.length c, .int .i64 left] w fun e w' => e = .returned (.int .i64 (sz (ts.length + tssz (tkS ts)) left)) ∧ Below w.heap.size w w' := by
  unfold maxLen at hn
  by_cases hlt : left < ts.length
  · go_enter Try.func46, Try.ntmps46
    go_wp2
    go_ret
    exact ⟨ret_int (sz_no (by omega)).symm, Below.refl _ _⟩
  · go_enter Try.func46, Try.ntmps46
    go_wp2
    go_loopw [1, 5] (fun t i wr => ∃ k : Nat, k ≤ ts.length ∧ i = .int .i64 k ∧ ((ts.length + tssz ((tkS ts).take k) : Nat) : Int) ≤ left ∧ t = .int .i64 (left - (ts.length + tssz ((tkS ts).take k) : Nat)) ∧ Below w.heap.size w wr) (fun _ i _ => ts.length - (intOf i).toNat)
    case atStart => exact ⟨0, by omega, rfl, by simp [tssz]; omega, by simp [tssz], Below.refl _ _⟩
    case round =>
      obtain ⟨k, hk, rfl, hle, rfl, hb⟩ := hrel
      by_cases hlt2 : k < ts.length
      · have hRw := hR.below hb
        obtain ⟨b, o, rfl, hbl, c0, c1, c2, c3, c4, c5, c6, c7⟩ := Sl.at8 hRw.1 hlt2
        have hm := tssz_take (tkS ts) k (by rw [tkS_len]; exact hlt2)
        rw [show (tkS ts)[k]'(by rw [tkS_len]; exact hlt2) = tkC ts[k] by simp [tkS]] at hm
        have hsz := hf ts[k] (by simp)
        obtain ⟨hs1, hs2⟩ := hRw.2 ts[k] (by simp)
        generalize ts[k] = x at *
        have HM := Lib.hid hm
        have HSZ := Lib.hid hsz
        have HC := Lib.hid (szTalk_any x (left - (ts.length + tssz ((tkS ts).take k) : Nat)) wr hsz hs1 hs2 (by omega) (by omega))
        have HR := Lib.hid (sz_range (a := tsz (tkC x)) (left := left - (ts.length + tssz ((tkS ts).take k) : Nat)) (by omega))
        clear hm hR hf hRw hs1 hs2 hsz
        generalize hq : sz (tsz (tkC x)) (left - (ts.length + tssz ((tkS ts).take k) : Nat)) = q at *
        have HQ := Lib.hid hq
        clear hq
        go_wp2_with fail
        refine HC.out.mono ?_
        rintro e w' ⟨rfl, hb2⟩
        have hbw := bthen hb hb2
        have := tssz_le (tkS ts) (k+1)
        clear HC hb2 hb c0 c1 c2 c3 c4 c5 c6 c7
        rcases HR.out with ⟨hq0, hq1⟩ | rfl
        · have d : decide (q < 0) = false := decide_eq_false (by omega)
          have hqe : q = left - (ts.length + tssz ((tkS ts).take (k + 1)) : Nat) ∧ ((ts.length + tssz ((tkS ts).take (k + 1)) : Nat) : Int) ≤ left := by
            have h1 := HQ.out
            have h2 := HM.out
            unfold sz at h1
            split at h1 <;> omega
          obtain ⟨rfl, hle2⟩ := hqe
          go_wp2
          go_roundw
          case rel => exact ⟨k+1, by omega, by go_num, by omega, rfl, hbw⟩
          case measure => simp [intOf]; omega
        · go_wp2
          go_ret
          refine ⟨ret_int ?_, hbw⟩
          have h1 := HQ.out
          have h2 := HM.out
          unfold sz at h1 ⊢
          split at h1
          · omega
          · rw [if_neg (by omega)]
      · obtain rfl : k = ts.length := by omega
        rw [← tkS_len ts, List.take_length, tkS_len] at hle
        go_wp2
        go_ret
        exact ⟨ret_int (by rw [← tkS_len ts, List.take_length, tkS_len]; rw [sz_yes (by omega)]), hb⟩
set_option maxRecDepth 100000 in
set_option maxHeartbeats 1000000 in
theorem szHall_any (A : Option Addr) (l : List Ver) (c : Nat) (now : Int) (A2 : Option Addr) (ts : List Tk) (c2 : Nat) (left : Int) (w : World) (hf1 : FitsV l) (hR : Sl encVer 4 w A l) (hn : ts.length ≤ maxLen) (hf : ∀ t ∈ ts, FitsT t) (hT : SlT w A2 ts) (h0 : 0 ≤ left) (h1 : left ≤ 1048576) :
    Calls Try.prog 11 #[.agg #[.int .i64 now, .slice A l.length c, .slice A2 ts.length c2], .int .i64 left] w fun e w' => e = .returned (.int .i64 (sz ((l.length + vsz l) + (ts.length + tssz (tkS ts))) left)) ∧ Below w.heap.size w w' := by
  have hb0 := (Below.refl w.heap.size w).alloc (Nat.le_refl _) (.cells #[.int .i64 now, .slice A l.length c, .slice A2 ts.length c2] 27)
  have hB0 := Blk.new w 27 #[.int .i64 now, .slice A l.length c, .slice A2 ts.length c2]
  have HC := Lib.hid (szVers_any A l c now left _ hf1 (hR.below hb0) h0 h1)
  have HN := Lib.hid (hT.below hb0)
  have HF := Lib.hid hf
  have HR1 := Lib.hid (sz_range (a := l.length + vsz l) h1)
  generalize hq : sz (l.length + vsz l) left = q at *
  have HQ := Lib.hid hq
  clear hR hT hq hf1 hf
  go_enter Try.func11, Try.ntmps11
  go_wp2_with fail
  generalize w.alloc (.cells #[.int .i64 now, .slice A l.length c, .slice A2 ts.length c2] 27) = w0 at *
  refine HC.out.mono ?_
  rintro e w1 ⟨rfl, hb1⟩
  have hB1 := hB0.kept hb1
  have hbw1 := bthen hb0 hb1
  have HN := Lib.hid (HN.out.below hb1)
  have r2 : w1.cell? ⟨w.heap.size, 2, none⟩ = some (.slice A2 ts.length c2) := hB1.cell 2
  clear HC hb1 hb0 hB0
  rcases HR1.out with ⟨hq0, hq1⟩ | rfl
  · have d : decide (q < 0) = false := decide_eq_false (by omega)
    have HC := Lib.hid (szTalkS_any A2 ts c2 q w1 hn HF.out HN.out hq0 hq1)
    have HR2 := Lib.hid (sz_range (a := ts.length + tssz (tkS ts)) hq1)
    have HE := Lib.hid (sz_two (b := ts.length + tssz (tkS ts)) HQ.out hq0)
    generalize hp : sz (ts.length + tssz (tkS ts)) q = p at *
    clear hp
    go_wp2_with fail
    refine HC.out.mono ?_
    rintro e w2 ⟨rfl, hb2⟩
    have hbw2 := bthen hbw1 hb2
    clear HC hb2 hbw1 hB1 r2 d
    rcases HR2.out with ⟨hp0, hp1⟩ | rfl
    · have d : decide (p < 0) = false := decide_eq_false (by omega)
      go_wp2
      go_ret
      exact ⟨ret_int HE.out, hbw2⟩
    · go_wp2
      go_ret
      exact ⟨ret_int HE.out, hbw2⟩
  · go_wp2
    go_ret
    exact ⟨ret_int (sz_neg1 HQ.out (by omega)).symm, hbw1⟩
end Go.Proofs.Yteanjfjlmpgnnaa
