/- Numerals and cut texts: the program's readNum over the library's contracts, the library's Cut at one byte. -/
import Derived.Test.YtbhocdmfmnlniaaDoorKeyA
import Derived.Test.YtbhocdmfmnlniaaDoorNumL
import Derived.Test.YtbhocdmfmnlniaaDoorCutL
import Derived.Test.YtbhocdmfmnlniaaDoorShelf
import Derived.Lib.LaidTab
namespace Go.Proofs.YtbhocdmfmnlniaaDoor
open Go.RowKit
theorem gCw : Tryd.prog.globalNamed "loop.example/engrosser/impl.codeWords" = some 0 := by kernel_rfl
theorem gSy : Tryd.prog.globalNamed "strconv.ErrSyntax" = some 3 := by kernel_rfl
theorem gRg : Tryd.prog.globalNamed "strconv.ErrRange" = some 4 := by kernel_rfl
theorem gTb : Tryd.prog.globalNamed "internal/strconv.uint64pow10" = some 5 := by kernel_rfl
/-- the words of the codes, as texts -/
def wFine : ByteArray := ⟨#[102, 105, 110, 101]⟩
def wForm : ByteArray := ⟨#[102, 111, 114, 109]⟩
def wLate : ByteArray := ⟨#[108, 97, 116, 101]⟩
def wFull : ByteArray := ⟨#[102, 117, 108, 108]⟩
def wNone : ByteArray := ⟨#[110, 111, 110, 101]⟩
def wBad : ByteArray := ⟨#[98, 97, 100]⟩
def wOver : ByteArray := ⟨#[111, 118, 101, 114]⟩
def codeArr : Array Value := #[.string wFine, .string wForm, .string wLate, .string wFull, .string wNone, .string wBad, .string wOver]
/-- the variables that a walk reads, as they are laid -/
structure Env (w : World) : Prop where
  cw : w.var? Tryd.prog "loop.example/engrosser/impl.codeWords" = some codeArr
  sy : ∃ tp p, w.var? Tryd.prog "strconv.ErrSyntax" = some #[.iface tp p]
  rg : ∃ tp p, w.var? Tryd.prog "strconv.ErrRange" = some #[.iface tp p]
  tb : Lib.TabIs Tryd.prog w "internal/strconv.uint64pow10" .u64 Lib.pow10Tab
theorem var_lt {P : Program} {w : World} {n : String} {g : Nat} {cs : Array Value} (hg : P.globalNamed n = some g) (h : w.var? P n = some cs) (h0 : 0 < cs.size) : g < w.heap.size := by
  have hc := World.var?_cell hg h 0
  rw [Array.getElem?_eq_getElem h0] at hc
  exact World.block_lt_of_cell? _ _ hc
theorem Env.below {w w' : World} (h : Env w) (hb : Below w.heap.size w w') : Env w' := by
  obtain ⟨t1, p1, h1⟩ := h.sy
  obtain ⟨t2, p2, h2⟩ := h.rg
  exact ⟨var?_below hb gCw (var_lt gCw h.cw (by decide)) h.cw, ⟨t1, p1, var?_below hb gSy (var_lt gSy h1 (by simp)) h1⟩, ⟨t2, p2, var?_below hb gRg (var_lt gRg h2 (by simp)) h2⟩, var?_below hb gTb (var_lt gTb h.tb (by decide)) h.tb⟩
theorem Env.cell {w : World} (h : Env w) (i : Nat) : w.cell? ⟨0, i, none⟩ = codeArr[i]? := World.var?_cell gCw h.cw i
/-- what the library's Cut at a space gives -/
def cutV (s : ByteArray) : Value :=
  let i := Lib.indexByte s.data.toList 32
  if i < 0 then .tuple #[.string s, .string ⟨#[]⟩, .bool false] else .tuple #[.string (s.extract 0 i.toNat), .string (s.extract (i.toNat + 1) s.size), .bool true]
theorem cutV_no {s : ByteArray} (h : Lib.indexByte s.data.toList 32 < 0) : cutV s = .tuple #[.string s, .string ⟨#[]⟩, .bool false] := by unfold cutV; rw [if_pos h]
theorem cutV_at {s : ByteArray} {i : Nat} (h : Lib.indexByte s.data.toList 32 = (i : Int)) : cutV s = .tuple #[.string (s.extract 0 i), .string (s.extract (i + 1) s.size), .bool true] := by
  unfold cutV; rw [if_neg (by omega), h]; simp
set_option maxHeartbeats 400000 in
theorem slCut_any (s : ByteArray) (w : World) (hs : s.size ≤ 1073741824) :
    Calls Tryd.prog 61 #[.string s, .string ⟨#[32]⟩] w fun e w' => e = .returned (cutV s) ∧ Below w.heap.size w w' := by
  have hge := Lib.indexByte_ge s.data.toList 32
  by_cases h : Lib.indexByte s.data.toList 32 < 0
  · have e1 : Lib.indexByte s.data.toList 32 = -1 := by omega
    have HC := Lib.hid (cutV_no h)
    clear h hge
    go_enter Tryd.func61, Tryd.ntmps61
    go_wp2_with (go_at_call 65; refine (Tryd.stringslite_Index_one s 32 _).mono ?_; rintro e w' ⟨rfl, rfl⟩; rw [e1])
    go_ret3
    exact ⟨by rw [HC.out]; simp, Below.refl _ _⟩
  · obtain ⟨i, hi⟩ : ∃ i : Nat, Lib.indexByte s.data.toList 32 = (i : Int) := ⟨(Lib.indexByte s.data.toList 32).toNat, by omega⟩
    have hlt := (indexByte_at hi).1
    have hlt2 : i < s.size := hlt
    have HC := Lib.hid (cutV_at hi)
    go_enter Tryd.func61, Tryd.ntmps61
    go_wp2_with (go_at_call 65; refine (Tryd.stringslite_Index_one s 32 _).mono ?_; rintro e w' ⟨rfl, rfl⟩; rw [hi])
    clear h
    have b1 : (i : Int) ≤ s.size := by omega
    have b2 : (i : Int) + 1 ≤ s.size := by omega
    have hi1 : ((i : Int) + 1).toNat = i + 1 := by omega
    have hwr : IntKind.i64.wrap ((i : Int) + 1) = (i : Int) + 1 := by rw [IntKind.wrap_i64]; omega
    have b3 : (0 : Int) ≤ (i : Int) + 1 := by omega
    refine wp_region_below (by kernel_rfl) (by kernel_rfl) ?_
    iterate 12 (refine wpQuiet_step (fun K hK => ?_); go_simp; first | (apply Exists.intro; refine ⟨fun W hW => ?_, hK _ ?_⟩; (first | rfl | (skip; go_simp; rfl)); clear hK K) | (refine hK _ ?_; clear hK K))
    refine wpQuiet_nil ?_
    intro W hW
    go_wp2
    go_ret3
    exact ⟨by rw [HC.out]; simp, hW⟩
set_option maxHeartbeats 400000 in
theorem cut_any (s : ByteArray) (w : World) (hs : s.size ≤ 1073741824) :
    Calls Tryd.prog 54 #[.string s, .string ⟨#[32]⟩] w fun e w' => e = .returned (cutV s) ∧ Below w.heap.size w w' := by
  have hge := Lib.indexByte_ge s.data.toList 32
  by_cases h : Lib.indexByte s.data.toList 32 < 0
  · have HC := Lib.hid (cutV_no h)
    clear h hge
    go_enter Tryd.func54, Tryd.ntmps54
    go_wp2_with (go_at_call 61; refine (slCut_any s _ hs).mono ?_; rintro e w' ⟨rfl, hb⟩; rw [HC.out])
    go_ret3
    exact ⟨by rw [HC.out]; simp, hb⟩
  · obtain ⟨i, hi⟩ : ∃ i : Nat, Lib.indexByte s.data.toList 32 = (i : Int) := ⟨(Lib.indexByte s.data.toList 32).toNat, by omega⟩
    have HC := Lib.hid (cutV_at hi)
    clear h hge hi
    go_enter Tryd.func54, Tryd.ntmps54
    go_wp2_with (go_at_call 61; refine (slCut_any s _ hs).mono ?_; rintro e w' ⟨rfl, hb⟩; rw [HC.out])
    go_ret3
    exact ⟨by rw [HC.out]; simp, hb⟩
/-! readNum -/
theorem trim_minus (l : List UInt8) : Lib.trimPrefix l [45] = if negL l then l.tail else l := by
  unfold Lib.trimPrefix Lib.hasPrefix negL
  cases l with
  | nil => rfl
  | cons a r =>
    by_cases h : a = 45
    · subst h; simp
    · have h2 : ¬ (45 : UInt8) = a := fun e => h e.symm
      simp [h, h2, List.isPrefixOf]
theorem below_grown_n (B : Nat) (w : World) (q : Nat) (os : Array Obj) (hB : B ≤ w.heap.size) : Below B w (Go.Sort.grow (w.drewN q) os) :=
  ⟨rfl, rfl, rfl, by first | (simp [Go.Sort.grow]; done) | (simp [Go.Sort.grow]; omega), fun i hi => by
    show ((w.drewN q).heap ++ os)[i]? = _
    rw [Array.getElem?_append_left (by show i < w.heap.size; omega)]
    rfl⟩
theorem numL_parse {s : List UInt8} (hl : (Lib.trimPrefix s [45]).length ≤ 17) {v : Int} (hp : Lib.parseIntB 64 s = .ok v) : numL s = decide (Lib.itoa v = s) := by
  have hN := num_iff s
  rw [← trim_minus] at hN
  by_cases hi : Lib.itoa v = s
  · rw [decide_eq_true hi]; exact hN.1 ⟨hl, v, hp, hi⟩
  · rw [decide_eq_false hi, Bool.eq_false_iff]
    intro h
    obtain ⟨_, v', hp', hi'⟩ := hN.2 h
    rw [hp] at hp'; injection hp' with e; subst e
    exact hi hi'
theorem numL_bad {s : List UInt8} (h : ¬ (Lib.trimPrefix s [45]).length ≤ 17 ∨ ∀ v, Lib.parseIntB 64 s ≠ .ok v) : numL s = false := by
  have hN := num_iff s
  rw [← trim_minus] at hN
  rw [Bool.eq_false_iff]
  intro h2
  obtain ⟨g1, v, g2, _⟩ := hN.2 h2
  rcases h with h | h
  · exact h g1
  · exact h v g2
set_option maxHeartbeats 800000 in
theorem readNum_any (s : ByteArray) (w : World) (hs : s.size ≤ 1073741824) (hV : Env w) :
    Calls Tryd.prog 56 #[.string s] w fun e w' => (∃ n, e = .returned (.tuple #[.int .i64 n, .bool (numL s.data.toList)])) ∧ Below w.heap.size w w' := by
  have htl : (⟨(Lib.trimPrefix s.data.toList [45]).toArray⟩ : ByteArray).size = (Lib.trimPrefix s.data.toList [45]).length := by simp [ByteArray.size]
  by_cases hl : (Lib.trimPrefix s.data.toList [45]).length ≤ 17
  · have hd : decide (17 < (((⟨(Lib.trimPrefix s.data.toList [45]).toArray⟩ : ByteArray).size : Nat) : Int)) = false := by
      rw [htl]; simp; omega
    have HTP : ∀ W, Calls Tryd.prog 62 #[.string s, .string ⟨#[45]⟩] W fun e w' => e = .returned (.string ⟨(Lib.trimPrefix s.data.toList [45]).toArray⟩) ∧ w' = W := fun W => Tryd.strings_TrimPrefix s ⟨#[45]⟩ W
    generalize (⟨(Lib.trimPrefix s.data.toList [45]).toArray⟩ : ByteArray) = tp at *
    have HL := Lib.hid hl
    clear hl htl
    rcases hp : Lib.parseIntB 64 s.data.toList with v | _ | _
    ·
      have hvb := Lib.parseIntB_bounds hp
      have hv0 : -9223372036854775808 ≤ v := by have := hvb.1; simp at this; omega
      have hv1 : v ≤ 9223372036854775807 := by have := hvb.2; simp at this; omega
      have HT := Lib.hid (numL_parse HL.out hp)
      have HP : ∀ W, Calls Tryd.prog 63 #[.string s, .int .i64 10, .int .i64 64] W fun e w' => e = .returned (.tuple #[.int .i64 v, .nilIface]) ∧ Below W.heap.size W w' := fun W =>
        (Tryd.strconv_ParseInt_10_at64_ok s (by omega) v hp W).mono fun e w' h => ⟨h.1, by
          rcases h.2 with rfl | ⟨t, rfl⟩
          · exact Below.refl _ _
          · exact Lib.bytesWorld_below _ _ _⟩
      have he : ((⟨(Lib.itoa v).toArray⟩ : ByteArray).toList == s.toList) = decide (Lib.itoa v = s.data.toList) := by
        rw [bytes_beq]
        by_cases h : Lib.itoa v = s.data.toList
        · rw [decide_eq_true h, decide_eq_true]
          cases s; simp at h; simp [h]
        · rw [decide_eq_false h, decide_eq_false]
          intro h2; apply h; rw [← h2]
      have HF : ∀ W, Env W → Calls Tryd.prog 64 #[.int .i64 v, .int .i64 10] W fun e w' => e = .returned (.string ⟨(Lib.itoa v).toArray⟩) ∧ Below W.heap.size W w' := fun W hW =>
        (Tryd.strconv_FormatInt_10 v hv0 hv1 W hW.tb).mono fun e w' h => ⟨h.1, by obtain ⟨k, os, rfl⟩ := h.2; exact below_grown_n _ _ _ _ (Nat.le_refl _)⟩
      generalize (⟨(Lib.itoa v).toArray⟩ : ByteArray) = it at *
      have HV := Lib.hid hV
      clear hvb hp
      cases hi : decide (Lib.itoa v = s.data.toList) with
      | true =>
        rw [hi] at he
        have HT2 := Lib.hid (HT.out.trans hi)
        clear hi HT
        go_enter Tryd.func56, Tryd.ntmps56
        go_wp2_with (first
          | (go_at_call 62; refine (HTP _).mono ?_; rintro e w' ⟨rfl, rfl⟩)
          | (go_at_call 63; refine (HP _).mono ?_; rintro e w' ⟨rfl, hb⟩)
          | (go_at_call 64; refine (HF _ (HV.out.below hb)).mono ?_; rintro e w'' ⟨rfl, hb2⟩))
        go_ret2
        exact ⟨⟨v, by rw [HT2.out]; simp⟩, bthen hb hb2⟩
      | false =>
        rw [hi] at he
        have HT2 := Lib.hid (HT.out.trans hi)
        clear hi HT
        go_enter Tryd.func56, Tryd.ntmps56
        go_wp2_with (first
          | (go_at_call 62; refine (HTP _).mono ?_; rintro e w' ⟨rfl, rfl⟩)
          | (go_at_call 63; refine (HP _).mono ?_; rintro e w' ⟨rfl, hb⟩)
          | (go_at_call 64; refine (HF _ (HV.out.below hb)).mono ?_; rintro e w'' ⟨rfl, hb2⟩))
        go_ret2
        exact ⟨⟨0, by rw [HT2.out]; simp⟩, bthen hb hb2⟩
    ·
      have HT2 := Lib.hid (numL_bad (s := s.data.toList) (.inr (fun v e => by rw [hp] at e; cases e)))
      obtain ⟨tp1, p1, hv1⟩ := hV.sy
      have HP : Calls Tryd.prog 63 #[.string s, .int .i64 10, .int .i64 64] w fun e w' => (∃ n N T, e = .returned (.tuple #[.int .i64 n, .iface T (.pointer (some ⟨N, 0, none⟩))])) ∧ Below w.heap.size w w' :=
        (Tryd.strconv_ParseInt_10_at64_syntax_var s (by omega) hp tp1 p1 w hv1).mono fun e w' h => by obtain ⟨N, h1, _, _, h2⟩ := h; exact ⟨⟨_, N, _, h1⟩, h2⟩
      clear hp hv1 hV
      go_enter Tryd.func56, Tryd.ntmps56
      go_wp2_with (first
        | (go_at_call 62; refine (HTP _).mono ?_; rintro e w' ⟨rfl, rfl⟩)
        | (go_at_call 63; refine HP.mono ?_; rintro e w' ⟨⟨n, N, T, rfl⟩, hb⟩))
      go_ret2
      exact ⟨⟨0, by rw [HT2.out]; simp⟩, hb⟩
    ·
      have HT2 := Lib.hid (numL_bad (s := s.data.toList) (.inr (fun v e => by rw [hp] at e; cases e)))
      obtain ⟨tp1, p1, hv1⟩ := hV.rg
      have HP : Calls Tryd.prog 63 #[.string s, .int .i64 10, .int .i64 64] w fun e w' => (∃ n N T, e = .returned (.tuple #[.int .i64 n, .iface T (.pointer (some ⟨N, 0, none⟩))])) ∧ Below w.heap.size w w' :=
        (Tryd.strconv_ParseInt_10_at64_range_var s (by omega) hp tp1 p1 w hv1).mono fun e w' h => by obtain ⟨N, h1, _, _, h2⟩ := h; exact ⟨⟨_, N, _, h1⟩, h2⟩
      clear hp hv1 hV
      go_enter Tryd.func56, Tryd.ntmps56
      go_wp2_with (first
        | (go_at_call 62; refine (HTP _).mono ?_; rintro e w' ⟨rfl, rfl⟩)
        | (go_at_call 63; refine HP.mono ?_; rintro e w' ⟨⟨n, N, T, rfl⟩, hb⟩))
      go_ret2
      exact ⟨⟨0, by rw [HT2.out]; simp⟩, hb⟩
  · have HT2 := Lib.hid (numL_bad (s := s.data.toList) (.inl hl))
    have hd : decide (17 < (((⟨(Lib.trimPrefix s.data.toList [45]).toArray⟩ : ByteArray).size : Nat) : Int)) = true := by
      rw [htl]; simp; omega
    have HTP : ∀ W, Calls Tryd.prog 62 #[.string s, .string ⟨#[45]⟩] W fun e w' => e = .returned (.string ⟨(Lib.trimPrefix s.data.toList [45]).toArray⟩) ∧ w' = W := fun W => Tryd.strings_TrimPrefix s ⟨#[45]⟩ W
    generalize (⟨(Lib.trimPrefix s.data.toList [45]).toArray⟩ : ByteArray) = tp at *
    clear hl htl
    go_enter Tryd.func56, Tryd.ntmps56
    go_wp2_with (go_at_call 62; refine (HTP _).mono ?_; rintro e w' ⟨rfl, rfl⟩)
    go_ret2
    exact ⟨⟨0, by rw [HT2.out]; simp⟩, Below.refl _ _⟩
end Go.Proofs.YtbhocdmfmnlniaaDoor
