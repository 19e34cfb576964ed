import Derived.Deep.RegionLaw
import Derived.Lib.SmallJoins
import Derived.Test.YtpjkcmmmpgncmaaM20
import Derived.Test.YtpjkcmmmpgncmaaM05
import Derived.Lib.SliceRun
import Derived.Test.YtpjkcmmmpgncmaaRows
import Derived.Test.YtpjkcmmmpgncmaaM06
import Derived.BigQuiet
import Derived.Laws.IdiomStrings
import Derived.Laws.BytesString
import Derived.Test.YtpjkcmmmpgncmaaM01
/- The reference's l2Copy: a store in new memory. -/
namespace Go.Proofs.Ytpjkcmmmpgncmaa
open Go.RowKit
theorem infoVer : (Try.prog.info? 88).map (fun i => (i.zero, i.size, i.bytes)) = some (some (.agg #[.string ⟨#[]⟩, .int .i64 0, .int .i64 0, .int .i64 0]), 4, 40) := by kernel_rfl
theorem encVer_one (l : List Ver) : ∀ u ∈ l.flatMap encVer, u.oneCell' = true := by
  intro u hu
  obtain ⟨x, _, hx⟩ := List.mem_flatMap.1 hu
  simp [encVer] at hx
  rcases hx with rfl | rfl | rfl | rfl <;> rfl
/-- a store's slice in memory of one's own -/
def OwnV (w : World) (B : Nat) (v : Value) (l : List Ver) : Prop := w.ownsRow B 88 4 v l.length (l.flatMap encVer)
theorem OwnV.sl {w : World} {B : Nat} {v : Value} {l : List Ver} (h : OwnV w B v l) : ∃ A c, v = .slice A l.length c ∧ l.length ≤ c ∧ c ≤ maxLen ∧ Sl encVer 4 w A l := Sl.of_own encVer_len h
theorem own_set {w : World} {B n k : Nat} {e : TypeId} {v : Value} {xs : List Value} (h : w.ownsRow B e k v n xs) {p : Addr} (hp : p.block < B) (u : Value) : (w.setCell p u).ownsRow B e k v n xs := by
  refine h.kept (row := some p.block) ⟨rfl, rfl, rfl, by rw [World.size_setCell]; exact Nat.le_refl _, fun j _ hne => Below.heap_setCell w p u j (fun e => hne (by rw [e]))⟩ ?_
  cases hv : v.ownBlock with
  | none => exact .inl rfl
  | some j => exact .inr (by have := (h.lt j hv).1; intro he; injection he; omega)
theorem ownV_of {w : World} {B : Nat} {v : Value} {l : List Ver} (h : w.ownsRow B 88 4 v (0 + l.length) ([] ++ l.flatMap encVer)) : OwnV w B v l := by unfold OwnV; simpa using h
set_option maxRecDepth 100000 in
set_option maxHeartbeats 1000000 in
theorem l2Copy_any (A : Option Addr) (l : List Ver) (c : Nat) (now : Int) (w : World) (hn : l.length ≤ 1048576) (hR : Sl encVer 4 w A l) :
    Calls Try.prog 64 #[.agg #[.int .i64 now, .slice A l.length c]] w fun e w' => ∃ v, e = .returned (.agg #[.int .i64 now, v]) ∧ OwnV w' w.heap.size v l ∧ Below w.heap.size w w' := by
  obtain ⟨i0, hi, hz0, hz1, hz2⟩ := info_parts infoVer
  have HI := Lib.hid (⟨hi, hz0, hz1, hz2⟩ : _ ∧ _ ∧ _ ∧ _)
  clear hi hz0 hz1 hz2
  have hb0 := ((Below.refl w.heap.size w).alloc (Nat.le_refl _) (.cells #[.int .i64 now, .slice A l.length c] 32)).alloc (by simp) (.cells #[.int .i64 0, .slice none 0 0] 32)
  have hB1 := (Blk.new w 32 #[.int .i64 now, .slice A l.length c]).alloc (.cells #[.int .i64 0, .slice none 0 0] 32)
  have hB2 := Blk.new (w.alloc (.cells #[.int .i64 now, .slice A l.length c] 32)) 32 #[.int .i64 0, .slice none 0 0]
  have hsz : ((w.alloc (.cells #[.int .i64 now, .slice A l.length c] 32)).alloc (.cells #[.int .i64 0, .slice none 0 0] 32)).heap.size = w.heap.size + 2 := by simp
  rw [World.size_alloc] at hB2
  go_enter Try.func64, Try.ntmps64
  go_wp2_with fail
  generalize (w.alloc (.cells #[.int .i64 now, .slice A l.length c] 32)).alloc (.cells #[.int .i64 0, .slice none 0 0] 32) = w0 at *
  have x0 : w0.cell? ⟨w.heap.size, 0, none⟩ = some (.int .i64 now) := hB1.cell 0
  have x1 : w0.cell? ⟨w.heap.size, 1, none⟩ = some (.slice A l.length c) := hB1.cell 1
  have hbn := (Below.refl w0.heap.size w0).alloc (Nat.le_refl _) (.cells #[] 88)
  have ho := (own_of_blk (base := w0.heap.size) (n := 0) (k := 4) (xs := []) (Blk.new w0 88 #[]) (Nat.le_refl _) (Nat.zero_le _) rfl rfl)
  rw [hsz] at ho
  have HO := Lib.hid ho
  have HS := Lib.hid ((hR.below hb0).below hbn)
  have HB0 := Lib.hid hb0
  have HB2 := Lib.hid (hB2.kept hbn)
  have HB1 := Lib.hid (hB1.kept hbn)
  have HBn := Lib.hid hbn
  have hl1 : w.heap.size < w0.heap.size := by omega
  have hl2 : w.heap.size + 1 < w0.heap.size := by omega
  clear hb0 hB1 hB2 hbn hR ho
  have H63 := Lib.hid (show 0 + l.length ≤ maxLen by unfold maxLen; omega)
  have HBY := Lib.hid (show (0 + l.length) * 40 ≤ 140737488355328 by omega)
  have HBS := Lib.hid (show w.heap.size + 2 ≤ ((w0.alloc (.cells #[] 88)).drew).heap.size by simp; omega)
  have HO' := Lib.hid (show ((w0.alloc (.cells #[] 88)).drew).ownsRow (w.heap.size + 2) 88 4 (.slice (some ⟨w.heap.size + 2, 0, none⟩) 0 0) 0 [] from HO.out)
  have HS' := Lib.hid (show Sl encVer 4 ((w0.alloc (.cells #[] 88)).drew) A l from HS.out)
  have HB2' := Lib.hid (show Blk ((w0.alloc (.cells #[] 88)).drew) (w.heap.size + 1) 32 #[.int .i64 0, .slice none 0 0] from HB2.out)
  have HB1' := Lib.hid (show Blk ((w0.alloc (.cells #[] 88)).drew) w.heap.size 32 #[.int .i64 now, .slice A l.length c] from HB1.out)
  have HNE1 := Lib.hid (show some w.heap.size ≠ (Value.slice (some ⟨w.heap.size + 2, 0, none⟩) 0 0).ownBlock by simp [Value.ownBlock])
  have HNE := Lib.hid (show some (w.heap.size + 1) ≠ (Value.slice (some ⟨w.heap.size + 2, 0, none⟩) 0 0).ownBlock by simp [Value.ownBlock])
  go_region_law (refine step_append_sl (enc := encVer) rfl (.tmp 5) (.tmp 7) 30 rfl (w.heap.size + 2) 88 i0 (.agg #[.string ⟨#[]⟩, .int .i64 0, .int .i64 0, .int .i64 0]) 4 40 Try.underlying30 HI.out.1 HI.out.2.1 HI.out.2.2.1 HI.out.2.2.2 rfl (by decide) (.slice (some ⟨w.heap.size + 2, 0, none⟩) 0 0) 0 [] (by simp [Act.eval]) HO'.out encVer_len A l c (by simp [Act.eval]) HS'.out (encVer_one l) H63.out HBY.out HBS.out ?_; intro v' w' hown hgrow; have ho : OwnV w' (w.heap.size + 2) v' l := ownV_of hown; obtain ⟨A', c', rfl, _, _, hS'⟩ := ho.sl; have HOW := Lib.hid ho; have HG := Lib.hid hgrow; have hB := HB2'.out.grown hgrow HNE.out; have y2 : w'.cell? ⟨w.heap.size, 0, none⟩ = some (.int .i64 now) := (HB1'.out.grown hgrow HNE1.out).cell 0; have y0 : w'.cell? ⟨w.heap.size + 1, 0, none⟩ = some (.int .i64 0) := hB.cell 0; have y1 : w'.cell? ⟨w.heap.size + 1, 1, none⟩ = some (.slice none 0 0) := hB.cell 1; have z0 := hB.frozen 0; have z1 := hB.frozen 1; have HBB := Lib.hid hB; clear hown hgrow hS' ho hB)
  all_goals
    have hbf : Below w.heap.size w w' := by
      have h1 := HB0.out.trans (HBn.out.mono (by omega))
      have h2 := h1.drew
      exact below_own h2 HG.out (by simp; omega) (fun k hk => by simp [Value.ownBlock] at hk; omega)
    have HOW2 := Lib.hid (own_set (own_set HOW.out (p := ⟨w.heap.size + 1, 0, none⟩) (by simp) (.int .i64 now)) (p := ⟨w.heap.size + 1, 1, none⟩) (by simp) (.slice A' l.length c'))
    obtain ⟨q0, q1⟩ := HBB.out.two (.int .i64 now) (.slice A' l.length c')
    go_wp2
    refine bodyPost_ret (v := .agg #[.int .i64 now, .slice A' l.length c']) (by simp [results, Try.results64, go_sem, q0, q1]) rfl ⟨_, rfl, Go.Joins.ownsRow_le HOW2.out (by omega), (hbf.setCell (by simp) _).setCell (by simp) _⟩
end Go.Proofs.Ytpjkcmmmpgncmaa
/- A store in new memory, the program's way. -/
namespace Go.Proofs.Ytpjkcmmmpgncmaa
open Go.RowKit
theorem OwnV.le {w : World} {B B2 : Nat} {v : Value} {l : List Ver} (h : OwnV w B v l) (hB : B2 ≤ B) : OwnV w B2 v l := Go.Joins.ownsRow_le h hB
end Go.Proofs.Ytpjkcmmmpgncmaa
/- Those who talk: how they lie in memory; their size. -/
namespace Go.Proofs.Ytpjkcmmmpgncmaa
open Go.RowKit
abbrev Nrow : Type := Option Addr × Nat × List Nm
structure Tk where
  on : Bool
  bad : Bool
  at_ : Int
  ws : Wrow
  ns : Nrow
  skip : Bool
  gone : Bool
  inb : ByteArray
def encTk (t : Tk) : List Value := [.bool t.on, .bool t.bad, .int .i64 t.at_, .slice t.ws.1 t.ws.2.2.length t.ws.2.1, .slice t.ns.1 t.ns.2.2.length t.ns.2.1, .bool t.skip, .bool t.gone, .string t.inb]
theorem encTk_len (t : Tk) : (encTk t).length = 8 := rfl
def SlT (w : World) (A : Option Addr) (ts : List Tk) : Prop := Sl encTk 8 w A ts ∧ ∀ t ∈ ts, Sl encWri 3 w t.ws.1 t.ws.2.2 ∧ Sl encNm 5 w t.ns.1 t.ns.2.2
theorem SlT.below {w w' : World} {A : Option Addr} {ts : List Tk} (h : SlT w A ts) (hb : Below w.heap.size w w') : SlT w' A ts := ⟨h.1.below hb, fun t ht => ⟨(h.2 t ht).1.below hb, (h.2 t ht).2.below hb⟩⟩
end Go.Proofs.Ytpjkcmmmpgncmaa
/- The reference on what one asks: its shape, its word; names, the letters that tell how one stands. -/
namespace Go.Proofs.Ytpjkcmmmpgncmaa
open Go.RowKit
/-- whether what one asks has a key, a second one, and a number -/
def shapeK (k : Int) : Bool × Bool × Bool := if k = 1 ∨ k = 6 then (true, false, false) else if k = 2 ∨ k = 3 then (true, true, false) else if k = 4 ∨ k = 5 then (true, false, true) else (false, false, false)
set_option maxRecDepth 100000 in
set_option maxHeartbeats 2000000 in
theorem l4Shape_any (k : Int) (w : World) :
    Calls Try.prog 190 #[.int .i64 k] w fun e w' => e = .returned (.tuple #[.bool (shapeK k).1, .bool (shapeK k).2.1, .bool (shapeK k).2.2]) ∧ Below w.heap.size w w' := by
  by_cases h1 : k = 1
  · subst h1
    go_enter Try.func190, Try.ntmps190
    go_wp2
    go_ret3
    exact ⟨rfl, Below.refl _ _⟩
  by_cases h6 : k = 6
  · subst h6
    go_enter Try.func190, Try.ntmps190
    go_wp2
    go_ret3
    exact ⟨rfl, Below.refl _ _⟩
  by_cases h2 : k = 2
  · subst h2
    go_enter Try.func190, Try.ntmps190
    go_wp2
    go_ret3
    exact ⟨rfl, Below.refl _ _⟩
  by_cases h3 : k = 3
  · subst h3
    go_enter Try.func190, Try.ntmps190
    go_wp2
    go_ret3
    exact ⟨rfl, Below.refl _ _⟩
  by_cases h4 : k = 4
  · subst h4
    go_enter Try.func190, Try.ntmps190
    go_wp2
    go_ret3
    exact ⟨rfl, Below.refl _ _⟩
  by_cases h5 : k = 5
  · subst h5
    go_enter Try.func190, Try.ntmps190
    go_wp2
    go_ret3
    exact ⟨rfl, Below.refl _ _⟩
  have e : shapeK k = (false, false, false) := by unfold shapeK; rw [if_neg (by omega), if_neg (by omega), if_neg (by omega)]
  have HE := Lib.hid e
  have d1 : (k == 1) = false := by simpa using h1
  have d2 : (k == 2) = false := by simpa using h2
  have d3 : (k == 3) = false := by simpa using h3
  have d4 : (k == 4) = false := by simpa using h4
  have d5 : (k == 5) = false := by simpa using h5
  have d6 : (k == 6) = false := by simpa using h6
  clear e h1 h2 h3 h4 h5 h6
  go_enter Try.func190, Try.ntmps190
  go_wp2
  go_ret3
  exact ⟨by rw [HE.out]; rfl, Below.refl _ _⟩
set_option maxRecDepth 100000 in
set_option maxHeartbeats 2000000 in
theorem l4Word_any (k : Nat) (w : World) (hk : k ≤ 9) :
    Calls Try.prog 191 #[.int .i64 k] w fun e w' => ∃ s : ByteArray, e = .returned (.string s) ∧ s.size ≤ 5 ∧ Below w.heap.size w w' := by
  rcases (show k = 0 ∨ k = 1 ∨ k = 2 ∨ k = 3 ∨ k = 4 ∨ k = 5 ∨ k = 6 ∨ k = 7 ∨ k = 8 ∨ k = 9 by omega) with rfl | rfl | rfl | rfl | rfl | rfl | rfl | rfl | rfl | rfl
  all_goals
    go_enter Try.func191, Try.ntmps191
    go_wp2
    go_ret
    exact ⟨_, rfl, by decide, (Below.refl _ _).alloc (Nat.le_refl _) _⟩
set_option maxRecDepth 100000 in
set_option maxHeartbeats 2000000 in
theorem l6Leave_any (w : World) :
    Calls Try.prog 187 #[] w fun e w' => e = .returned (.tuple #[.agg #[.bool false, .bool false, .int .i64 0, .slice none 0 0, .slice none 0 0, .bool false, .bool true, .string ⟨#[]⟩], .agg #[.string ⟨#[66]⟩, .string ⟨#[]⟩]]) ∧ Below w.heap.size w w' := by
  go_enter Try.func187, Try.ntmps187
  go_wp2
  exact bodyPost_ret (v := .tuple #[.agg #[.bool false, .bool false, .int .i64 0, .slice none 0 0, .slice none 0 0, .bool false, .bool true, .string ⟨#[]⟩], .agg #[.string ⟨#[66]⟩, .string ⟨#[]⟩]]) (by simp [results, Try.results187, go_sem]) rfl ⟨rfl, ((Below.refl _ _).alloc (Nat.le_refl _) _).alloc (by simp) _⟩
set_option maxRecDepth 100000 in
set_option maxHeartbeats 2000000 in
theorem l4Wrong_any (on bad : Bool) (a : Int) (A : Option Addr) (n c : Nat) (w : World) :
    Calls Try.prog 186 #[.agg #[.bool on, .bool bad, .int .i64 a, .slice A n c]] w fun e w' => e = .returned (.agg #[.bool on, .bool on, .int .i64 a, .slice A n c]) ∧ Below w.heap.size w w' := by
  go_enter Try.func186, Try.ntmps186
  go_wp2
  exact bodyPost_ret (v := .agg #[.bool on, .bool on, .int .i64 a, .slice A n c]) (by simp [results, Try.results186, go_sem]) rfl ⟨rfl, ((Below.refl _ _).alloc (Nat.le_refl _) _).alloc (by simp) _⟩
set_option maxRecDepth 100000 in
set_option maxHeartbeats 2000000 in
theorem l6Ready_any (on bad : Bool) (a : Int) (Aw An : Option Addr) (nw cw nn cn : Nat) (skip gone : Bool) (inb : ByteArray) (w : World) :
    Calls Try.prog 180 #[.agg #[.bool on, .bool bad, .int .i64 a, .slice Aw nw cw, .slice An nn cn, .bool skip, .bool gone, .string inb]] w fun e w' => ∃ s : ByteArray, e = .returned (.agg #[.string ⟨#[90]⟩, .string s]) ∧ s.size = 1 ∧ Below w.heap.size w w' := by
  cases on <;> cases bad
  all_goals
    go_enter Try.func180, Try.ntmps180
    go_wp2
    exact bodyPost_ret (v := .agg #[.string ⟨#[90]⟩, .string _]) (by simp [results, Try.results180, go_sem]; rfl) rfl ⟨_, rfl, by rfl, ((Below.refl _ _).alloc (Nat.le_refl _) _).alloc (by simp) _⟩
set_option maxRecDepth 100000 in
set_option maxHeartbeats 2000000 in
theorem decN_any (n : Nat) (w : World) (hn : n ≤ 1000000) :
    Calls Try.prog 192 #[.int .i64 n] w fun e w' => ∃ s : ByteArray, e = .returned (.string s) ∧ s.size ≤ n + 1 ∧ Below w.heap.size w w' := by
  have g1 : decide ((n : Int) < -9223372036854775807) = false := by simp
  have g2 : decide ((n : Int) < 0) = false := by simp
  go_enter Try.func192, Try.ntmps192
  go_wp2
  go_loopw [0, 3] (fun a b wr => ∃ (m : Nat) (o : ByteArray), m ≤ n ∧ a = .int .i64 m ∧ b = .string o ∧ o.size + m ≤ n ∧ Below w.heap.size w wr) (fun a _ _ => (intOf a).toNat)
  case atStart => exact ⟨n, _, by omega, rfl, rfl, by show 0 + n ≤ n; omega, Below.refl _ _⟩
  case round =>
    obtain ⟨m, o, hm, rfl, rfl, hos, hb⟩ := hrel
    by_cases hp : 9 < m
    · have hcb := run_convert_bytes_back (P := Try.prog) (wr.alloc (.cells #[.int .u8 (48 + (m : Int) % 10)] 5)) 38 9 5 ⟨wr.heap.size, 0, none⟩ 1 [UInt8.ofNat (48 + m % 10)] Try.underlying38 Try.underlying5 Try.underlying9 (by
          intro j hj
          obtain rfl : j = 0 := by simp at hj; omega
          simp [Addr.add]; omega)
      simp only [List.length_cons, List.length_nil, Nat.zero_add] at hcb
      obtain ⟨d, hdd, hd1⟩ : ∃ d : ByteArray, d = ⟨[UInt8.ofNat (48 + m % 10)].toArray⟩ ∧ d.size = 1 := ⟨_, rfl, rfl⟩
      rw [← hdd] at hcb
      clear hdd
      have hb2 := hb.alloc hb.size (.cells #[.int .u8 (48 + (m : Int) % 10)] 5)
      go_wp2
      go_roundw
      case rel => exact ⟨m / 10, d ++ o, by omega, by go_num, rfl, by simp [hd1]; omega, hb2⟩
      case measure => simp [intOf]; omega
    · have hcb := run_convert_bytes_back (P := Try.prog) (wr.alloc (.cells #[.int .u8 (48 + (m : Int))] 5)) 38 9 5 ⟨wr.heap.size, 0, none⟩ 1 [UInt8.ofNat (48 + m)] Try.underlying38 Try.underlying5 Try.underlying9 (by
          intro j hj
          obtain rfl : j = 0 := by simp at hj; omega
          simp [Addr.add]; omega)
      simp only [List.length_cons, List.length_nil, Nat.zero_add] at hcb
      obtain ⟨d, hdd, hd1⟩ : ∃ d : ByteArray, d = ⟨[UInt8.ofNat (48 + m)].toArray⟩ ∧ d.size = 1 := ⟨_, rfl, rfl⟩
      rw [← hdd] at hcb
      clear hdd
      have h9 : decide (9 < (m : Int)) = false := by simp; omega
      have hb2 := hb.alloc hb.size (.cells #[.int .u8 (48 + (m : Int))] 5)
      go_wp2
      go_ret
      exact ⟨_, rfl, by simp [hd1]; omega, hb2⟩
set_option maxRecDepth 100000 in
set_option maxHeartbeats 2000000 in
theorem decZ_any (n : Int) (w : World) (h1 : -1000000 ≤ n) (h2 : n ≤ 1000000) :
    Calls Try.prog 192 #[.int .i64 n] w fun e w' => ∃ s : ByteArray, e = .returned (.string s) ∧ s.size ≤ 1000002 ∧ Below w.heap.size w w' := by
  by_cases hn : n < 0
  · obtain ⟨m, rfl⟩ : ∃ m : Nat, n = -(m : Int) := ⟨n.natAbs, by omega⟩
    have g1 : decide (-(m : Int) < -9223372036854775807) = false := by simp; omega
    have g2 : decide (-(m : Int) < 0) = true := by simp; omega
    have hmb : m ≤ 1000000 := by omega
    have q1 : decide ((9223372036854775807 : Int) < (m : Int)) = false := decide_eq_false (by omega)
    have q2 : 0 < m := by omega
    have q3 : decide (0 < m) = true := decide_eq_true q2
    have q4 : decide ((0 : Int) < (m : Int)) = true := decide_eq_true (by omega)
    have HC := Lib.hid (decN_any m w (by omega))
    have hwr : IntKind.i64.wrap (m : Int) = (m : Int) := IntWalk.i64_in _ (by omega)
    have hwr2 : IntKind.i64.wrap (-(-(m : Int))) = (m : Int) := by rw [Int.neg_neg]; exact hwr
    clear hn h1 h2
    go_enter Try.func192, Try.ntmps192
    go_wp2_with fail
    refine HC.out.mono ?_
    rintro e w1 ⟨s, rfl, hs, hb⟩
    have hs2 : s.size ≤ 1000001 := by omega
    go_wp2
    all_goals try (exfalso; omega)
    go_ret
    exact ⟨_, rfl, by rw [ByteArray.size_append]; show 1 + s.size ≤ _; omega, hb⟩
  · obtain ⟨m, rfl⟩ : ∃ m : Nat, n = (m : Int) := ⟨n.toNat, by omega⟩
    refine (decN_any m w (by omega)).mono ?_
    rintro e w1 ⟨s, rfl, hs, hb⟩
    exact ⟨s, rfl, by omega, hb⟩
end Go.Proofs.Ytpjkcmmmpgncmaa
