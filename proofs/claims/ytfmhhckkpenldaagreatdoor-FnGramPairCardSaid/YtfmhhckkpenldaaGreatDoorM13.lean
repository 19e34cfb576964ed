import Derived.Test.YtfmhhckkpenldaaGreatDoorRows
import Derived.Test.YtfmhhckkpenldaaGreatDoorM17
import Derived.Test.YtfmhhckkpenldaaGreatDoorM19
import Derived.Test.YtfmhhckkpenldaaGreatDoorM04
import Derived.LaidMore
import Derived.OpenShut
import Derived.ShutString
import Derived.ChangeOld
import Derived.OpenVars
import Derived.Stop.Joined
import Derived.Stop.LaidErr
import Derived.Test.YtfmhhckkpenldaaGreatDoorM09
import Derived.Test.YtfmhhckkpenldaaGreatDoorM12
/- Those who talk: what they hold, plain; how it lies in memory; their size. -/
namespace Go.Proofs.YtfmhhckkpenldaaGreatDoor
open Go.RowKit
section
variable {α : Type} {enc : α → List Value} {k : Nat} {w w' : World} {A : Option Addr} {l : List α}
theorem Sl.at5 {f g p q r : α → Value} (h : Sl (fun x => [f x, g x, p x, q x, r x]) 5 w A l) {i : Nat} (hi : i < l.length) :
    ∃ b o, A = some ⟨b, o, none⟩ ∧ b < w.heap.size ∧ w.cell? ⟨b, o + i * 5, none⟩ = some (f l[i]) ∧ w.cell? ⟨b, o + i * 5 + 1, none⟩ = some (g l[i]) ∧ w.cell? ⟨b, o + i * 5 + 2, none⟩ = some (p l[i]) ∧
      w.cell? ⟨b, o + i * 5 + 3, none⟩ = some (q l[i]) ∧ w.cell? ⟨b, o + i * 5 + 4, none⟩ = some (r l[i]) := by
  obtain ⟨b, o, rfl, hB, hc⟩ := h (by omega)
  exact ⟨b, o, rfl, hB, hc i 0 _ (List.getElem?_eq_getElem hi) (by omega), hc i 1 _ (List.getElem?_eq_getElem hi) (by omega), hc i 2 _ (List.getElem?_eq_getElem hi) (by omega), hc i 3 _ (List.getElem?_eq_getElem hi) (by omega), hc i 4 _ (List.getElem?_eq_getElem hi) (by omega)⟩
end
/-- what one may ask: its kind, its keys, its number -/
abbrev AskV : Type := Int × ByteArray × ByteArray × Int
/-- what one may ask by a name -/
abbrev Nm : Type := ByteArray × AskV
def encNm (x : Nm) : List Value := [.string x.1, .int .i64 x.2.1, .string x.2.2.1, .string x.2.2.2.1, .int .i64 x.2.2.2.2]
theorem encNm_len (x : Nm) : (encNm x).length = 5 := rfl
end Go.Proofs.YtfmhhckkpenldaaGreatDoor
/- What the cards of this seat want of the listed variables: the tables, the words, the two sentinels; a start that meets the condition. -/
namespace Go.Proofs.YtfmhhckkpenldaaGreatDoor
open Go.ChangeShapes Go.WideShapes Go.ChangeAt Go.RowKit
theorem own0 : ownKnob Tryz.prog.godebug = none := by kernel_rfl
theorem laidOut0 : laidOutB Tryz.prog = true := by kernel_rfl
theorem rowErr : ∀ u, Tryz.prog.typeName? 3 u = some "*errors.errorString" → u = 181 := fun u h => typeName_ptr_named (nm := "errors.errorString") (by kernel_rfl) (by kernel_rfl) (by decide) u h
abbrev laidG : List (String × DataW Unit) := [("math/bits.deBruijn32tab", Rows.laid_math_bits_deBruijn32tab), ("math/bits.deBruijn64tab", Rows.laid_math_bits_deBruijn64tab), ("internal/strconv.uint64pow10", Rows.laid_internal_strconv_uint64pow10), ("strconv.ErrRange", Rows.laid_strconv_ErrRange), ("strconv.ErrSyntax", Rows.laid_strconv_ErrSyntax), ("loop.example/engrosser/impl.codeWords", Rows.laid_loop_example_engrosser_impl_codeWords)]
/-- an array of texts that reads as these holds these, cell for cell -/
theorem cells_of_texts {H : Type} {enc : TypeId × Value → H} {P : Program} {w : World} {base : Nat} {sp : Nat → Bool} {held : Bool} {fuel : Nat} {t e : TypeId} {n : Nat} {cs : List Value} {zs : List (List UInt8)} {p : List MemPlace}
    (ht : P.underlying t = some (.array n e)) (he : P.underlying e = some .string) (hce : P.cellsOf e = 1) (hct : P.cellsOf t = n)
    (h : DataW.trod enc P w base sp held fuel t cs = some (.agg (zs.map fun z => .lit (.string z)), p)) : cs = zs.map fun z => Value.string ⟨z.toArray⟩ := by
  cases fuel with
  | zero => simp [DataW.trod] at h
  | succ fuel =>
    simp only [DataW.trod, ht, hce, hct, Nat.mul_one] at h
    split at h
    · rename_i hl
      obtain ⟨xs, hm, hx⟩ := Option.map_eq_some_iff.1 h
      have hxs : xs.map (·.1) = zs.map fun z => (DataW.lit (.string z) : DataW H) := by
        have := congrArg Prod.fst hx
        simpa using this
      have hxl : xs.length = n := by simpa using Lib.mapM_length hm
      have hzl : zs.length = n := by
        have := congrArg List.length hxs
        simp at this
        omega
      apply List.ext_getElem?
      intro i
      by_cases hi : i < n
      · obtain ⟨b, hb, hf⟩ := Lib.mapM_at hm i i (by simp [hi])
        obtain ⟨s, hc, hbs, _⟩ := DataW.trod_string he hf
        have h1 : cs[i]? = some (.string s) := by
          have := congrArg (·[0]?) hc
          simpa [List.getElem?_take, List.getElem?_drop] using this
        have h2 : (xs.map (·.1))[i]? = some b.1 := by simp [hb]
        rw [hxs] at h2
        simp only [List.getElem?_map, Option.map_eq_some_iff] at h2
        obtain ⟨z', hz', hzz⟩ := h2
        rw [hbs] at hzz
        simp at hzz
        rw [h1, List.getElem?_map, hz']
        simp only [Option.map_some, Option.some.injEq, Value.string.injEq]
        subst hzz
        rfl
      · rw [List.getElem?_eq_none (by omega), List.getElem?_eq_none (by simp; omega)]
    · cases h
theorem textsIs_of_head {P : Program} {W : World} {name : String} {zs : List (List UInt8)} {rest : List (String × DataW Unit)} {g : Nat} {t e : TypeId} {n : Nat}
    (hg : P.globalNamed name = some g) (hty : (P.globals[g]?).map (·.type) = some t) (ht : P.underlying t = some (.array n e)) (he : P.underlying e = some .string) (hce : P.cellsOf e = 1) (hct : P.cellsOf t = n)
    (h : laidMet P ((name, .agg (zs.map fun z => .lit (.string z))) :: rest) W) : W.var? P name = some (zs.map fun z => Value.string ⟨z.toArray⟩).toArray := by
  obtain ⟨ps, ⟨g', t', cs, fuel, p, q, hg', ht', hvar, hd, _, _⟩, _⟩ := h
  obtain rfl := Option.some.inj (hg.symm.trans hg')
  obtain rfl := Option.some.inj (hty.symm.trans ht')
  rw [hvar, ← cells_of_texts ht he hce hct hd]
theorem tCw : (Tryz.prog.globals[0]?).map (·.type) = some 95 := by kernel_rfl
theorem tSy : (Tryz.prog.globals[2]?).map (·.type) = some 129 := by kernel_rfl
theorem tRg : (Tryz.prog.globals[3]?).map (·.type) = some 129 := by kernel_rfl
theorem tTb : (Tryz.prog.globals[4]?).map (·.type) = some 177 := by kernel_rfl
theorem varsOk : varsRowed Tryz.prog ["loop.example/engrosser/impl.codeWords"] = true := by kernel_rfl
theorem env_of {W : World} (h : laidMetH Tryz.prog laidG W) : Env W := by
  rw [MakeChecks.laidMetH_plain _ _ _ (by kernel_rfl)] at h
  have hT := Lib.tabIs_of_head (k := .u64) (zs := Lib.pow10Tab) gTb tTb Tryz.underlying177 Tryz.underlying155 (by kernel_rfl) (by kernel_rfl) h.tail.tail
  obtain ⟨a1, s1, hv1, _, _, _⟩ := laid_sentinel h.tail.tail.tail gRg tRg Tryz.underlying129 rowErr Tryz.underlying181 Tryz.underlying183 rfl rfl Tryz.underlying9 (by kernel_rfl) (by kernel_rfl)
  obtain ⟨a2, s2, hv2, _, _, _⟩ := laid_sentinel h.tail.tail.tail.tail gSy tSy Tryz.underlying129 rowErr Tryz.underlying181 Tryz.underlying183 rfl rfl Tryz.underlying9 (by kernel_rfl) (by kernel_rfl)
  have hC := textsIs_of_head (zs := [[102, 105, 110, 101], [102, 111, 114, 109], [108, 97, 116, 101], [102, 117, 108, 108], [110, 111, 110, 101], [98, 97, 100], [111, 118, 101, 114]]) gCw tCw Tryz.underlying95 Tryz.underlying9 (by kernel_rfl) (by kernel_rfl) h.tail.tail.tail.tail.tail
  exact ⟨hC, ⟨_, _, hv2⟩, ⟨_, _, hv1⟩, hT⟩
theorem door_met (os : Os) (args : Array Value) : laidMetH Tryz.prog laidG ((World.doorLaid Tryz.prog 2000 os).forCall (fun _ _ => 0) ⟨#[], args, []⟩).memory :=
  laidMetH_of_parts3 (fuel := 8) (laidMet_of_run' 8 (by kernel_rfl) (by kernel_rfl)) (by kernel_rfl) (by kernel_rfl)
end Go.Proofs.YtfmhhckkpenldaaGreatDoor
/- The program's grammar: what a row's letter holds, what a failure's word is, how it stands behind a letter. -/
namespace Go.Proofs.YtfmhhckkpenldaaGreatDoor
open Go.RowKit
/-- a key, a space, a numeral -/
def rowG (b : ByteArray) : Bool := if Lib.indexByte b.data.toList 32 < 0 then false else keyB (b.extract 0 (Lib.indexByte b.data.toList 32).toNat) && numL (b.data.toList.drop ((Lib.indexByte b.data.toList 32).toNat + 1))
def codeN (k : Nat) : ByteArray := match k with
  | 0 => wFine | 1 => wForm | 2 => wLate | 3 => wFull | 4 => wNone | 5 => wBad | 6 => wOver | _ => ⟨#[]⟩
def failW (b : ByteArray) : Bool := (codeN 1).toList == b.toList || (codeN 2).toList == b.toList || (codeN 3).toList == b.toList || (codeN 4).toList == b.toList || (codeN 5).toList == b.toList || (codeN 6).toList == b.toList
theorem failW_yes {b : ByteArray} {k : Nat} (h1 : 1 ≤ k) (h6 : k ≤ 6) (h : ((codeN k).toList == b.toList) = true) : failW b = true := by
  unfold failW
  match k, h1, h6 with
  | 1, _, _ => rw [h]; rfl
  | 2, _, _ => rw [h]; simp
  | 3, _, _ => rw [h]; simp
  | 4, _, _ => rw [h]; simp
  | 5, _, _ => rw [h]; simp
  | 6, _, _ => rw [h]; simp
theorem failW_no {b : ByteArray} (h : ∀ k, 1 ≤ k → k < 7 → ((codeN k).toList == b.toList) = false) : failW b = false := by
  unfold failW
  rw [h 1 (by omega) (by omega), h 2 (by omega) (by omega), h 3 (by omega) (by omega), h 4 (by omega) (by omega), h 5 (by omega) (by omega), h 6 (by omega) (by omega)]; rfl
theorem ext_drop (s : ByteArray) (i : Nat) : (s.extract i s.size).data.toList = s.data.toList.drop i := by
  have h := Lib.extract_eq s i s.size
  rw [h]
  simp only
  exact List.take_of_length_le (by rw [List.length_drop]; exact Nat.le_refl _)
set_option maxHeartbeats 800000 in
theorem rowBody_any (s : ByteArray) (w : World) (hs : s.size ≤ 1073741824) (hV : Env w) :
    Calls Tryz.prog 56 #[.string s] w fun e w' => e = .returned (.bool (rowG s)) ∧ Below w.heap.size w w' := by
  have hge := Lib.indexByte_ge s.data.toList 32
  by_cases h : Lib.indexByte s.data.toList 32 < 0
  · have HC := Lib.hid (cutV_no h)
    have HR := Lib.hid (show rowG s = false by unfold rowG; rw [if_pos h])
    clear h hge
    go_enter Tryz.func56, Tryz.ntmps56
    go_wp2_with (go_at_call 75; refine (cut_any s _ hs).mono ?_; rintro e w' ⟨rfl, hb⟩; rw [HC.out])
    go_ret
    exact ⟨ret_bool HR.out.symm, hb⟩
  · obtain ⟨i, hi⟩ : ∃ i : Nat, Lib.indexByte s.data.toList 32 = (i : Int) := ⟨(Lib.indexByte s.data.toList 32).toNat, by omega⟩
    have HC := Lib.hid (cutV_at hi)
    have hit : (Lib.indexByte s.data.toList 32).toNat = i := by omega
    have hsz1 : (s.extract 0 i).size ≤ maxLen := by rw [ByteArray.size_extract]; unfold maxLen; omega
    have hsz2 : (s.extract (i + 1) s.size).size ≤ 1073741824 := by rw [ByteArray.size_extract]; omega
    have hnum := ext_drop s (i + 1)
    have HR := Lib.hid (show rowG s = (keyB (s.extract 0 i) && numL ((s.extract (i + 1) s.size).data.toList)) by unfold rowG; rw [if_neg h, hit, hnum])
    generalize s.extract 0 i = k at *
    generalize s.extract (i + 1) s.size = n at *
    clear h hge hi hit hnum
    cases hk : keyB k
    · rw [hk] at HR
      go_enter Tryz.func56, Tryz.ntmps56
      go_wp2_with (first
        | (go_at_call 75; refine (cut_any s _ hs).mono ?_; rintro e w' ⟨rfl, hb⟩; rw [HC.out])
        | (go_at_call 76; refine (implKeyOk_any _ _ hsz1).mono ?_; rintro e w' ⟨rfl, rfl⟩; rw [hk]))
      go_ret
      exact ⟨ret_bool (by rw [HR.out]; rfl), hb⟩
    · rw [hk] at HR
      go_enter Tryz.func56, Tryz.ntmps56
      go_wp2_with (first
        | (go_at_call 75; refine (cut_any s _ hs).mono ?_; rintro e w' ⟨rfl, hb⟩; rw [HC.out])
        | (go_at_call 76; refine (implKeyOk_any _ _ hsz1).mono ?_; rintro e w'' ⟨rfl, rfl⟩; rw [hk])
        | (go_at_call 77; refine (readNum_any _ _ hsz2 (hV.below hb)).mono ?_; rintro e w'' ⟨⟨m, rfl⟩, hb2⟩))
      go_ret
      exact ⟨ret_bool (by rw [HR.out]; rfl), bthen hb hb2⟩
set_option maxRecDepth 100000 in
set_option maxHeartbeats 1000000 in
theorem failure_any (s : ByteArray) (w : World) (hV : Env w) :
    Calls Tryz.prog 55 #[.string s] w fun e w' => e = .returned (.bool (failW s)) ∧ w = w' := by
  have c0 : w.cell? ⟨0, 0, none⟩ = some (.string (codeN 0)) := hV.cell 0
  have c1 : w.cell? ⟨0, 1, none⟩ = some (.string (codeN 1)) := hV.cell 1
  have c2 : w.cell? ⟨0, 2, none⟩ = some (.string (codeN 2)) := hV.cell 2
  have c3 : w.cell? ⟨0, 3, none⟩ = some (.string (codeN 3)) := hV.cell 3
  have c4 : w.cell? ⟨0, 4, none⟩ = some (.string (codeN 4)) := hV.cell 4
  have c5 : w.cell? ⟨0, 5, none⟩ = some (.string (codeN 5)) := hV.cell 5
  have c6 : w.cell? ⟨0, 6, none⟩ = some (.string (codeN 6)) := hV.cell 6
  clear hV
  go_enter Tryz.func55, Tryz.ntmps55
  go_wp2
  go_loop [6] (fun i => ∃ k : Nat, k ≤ 7 ∧ i = .int .i64 k ∧ ∀ j, 1 ≤ j → j < k → ((codeN j).toList == s.toList) = false) (fun i => 7 - (intOf i).toNat)
  case atStart => exact ⟨0, by omega, rfl, fun j h h2 => by omega⟩
  case round =>
    obtain ⟨k, hk, rfl, hall⟩ := hrel
    have HA := Lib.hid hall
    clear hall c0 c1 c2 c3 c4 c5 c6
    rcases (show k = 0 ∨ k = 1 ∨ k = 2 ∨ k = 3 ∨ k = 4 ∨ k = 5 ∨ k = 6 ∨ k = 7 by omega) with rfl | rfl | rfl | rfl | rfl | rfl | rfl | rfl
    · have i0 : ∀ w, (Instr.index 95 (.agg #[.string (codeN 0), .string (codeN 1), .string (codeN 2), .string (codeN 3), .string (codeN 4), .string (codeN 5), .string (codeN 6)]) (.int .i64 0)).run Tryz.prog w = .ok (.string (codeN 0)) w := fun _ => by kernel_rfl
      go_wp2
      go_round
      case rel => exact ⟨1, by omega, by go_num, fun j h1 h2 => absurd h2 (by omega)⟩
      case measure => simp [intOf]
    · have i1 : ∀ w, (Instr.index 95 (.agg #[.string (codeN 0), .string (codeN 1), .string (codeN 2), .string (codeN 3), .string (codeN 4), .string (codeN 5), .string (codeN 6)]) (.int .i64 1)).run Tryz.prog w = .ok (.string (codeN 1)) w := fun _ => by kernel_rfl
      cases hc : ((codeN 1).toList == s.toList)
      · go_wp2
        go_round
        case rel => exact ⟨2, by omega, by go_num, fun j h1 h2 => by
          by_cases e : j < 1
          · exact HA.out j h1 e
          · obtain rfl : j = 1 := by omega
            exact hc⟩
        case measure => simp [intOf]
      · go_wp2
        go_ret
        exact ⟨ret_bool (failW_yes (k := 1) (by omega) (by omega) hc).symm, rfl⟩
    · have i2 : ∀ w, (Instr.index 95 (.agg #[.string (codeN 0), .string (codeN 1), .string (codeN 2), .string (codeN 3), .string (codeN 4), .string (codeN 5), .string (codeN 6)]) (.int .i64 2)).run Tryz.prog w = .ok (.string (codeN 2)) w := fun _ => by kernel_rfl
      cases hc : ((codeN 2).toList == s.toList)
      · go_wp2
        go_round
        case rel => exact ⟨3, by omega, by go_num, fun j h1 h2 => by
          by_cases e : j < 2
          · exact HA.out j h1 e
          · obtain rfl : j = 2 := by omega
            exact hc⟩
        case measure => simp [intOf]
      · go_wp2
        go_ret
        exact ⟨ret_bool (failW_yes (k := 2) (by omega) (by omega) hc).symm, rfl⟩
    · have i3 : ∀ w, (Instr.index 95 (.agg #[.string (codeN 0), .string (codeN 1), .string (codeN 2), .string (codeN 3), .string (codeN 4), .string (codeN 5), .string (codeN 6)]) (.int .i64 3)).run Tryz.prog w = .ok (.string (codeN 3)) w := fun _ => by kernel_rfl
      cases hc : ((codeN 3).toList == s.toList)
      · go_wp2
        go_round
        case rel => exact ⟨4, by omega, by go_num, fun j h1 h2 => by
          by_cases e : j < 3
          · exact HA.out j h1 e
          · obtain rfl : j = 3 := by omega
            exact hc⟩
        case measure => simp [intOf]
      · go_wp2
        go_ret
        exact ⟨ret_bool (failW_yes (k := 3) (by omega) (by omega) hc).symm, rfl⟩
    · have i4 : ∀ w, (Instr.index 95 (.agg #[.string (codeN 0), .string (codeN 1), .string (codeN 2), .string (codeN 3), .string (codeN 4), .string (codeN 5), .string (codeN 6)]) (.int .i64 4)).run Tryz.prog w = .ok (.string (codeN 4)) w := fun _ => by kernel_rfl
      cases hc : ((codeN 4).toList == s.toList)
      · go_wp2
        go_round
        case rel => exact ⟨5, by omega, by go_num, fun j h1 h2 => by
          by_cases e : j < 4
          · exact HA.out j h1 e
          · obtain rfl : j = 4 := by omega
            exact hc⟩
        case measure => simp [intOf]
      · go_wp2
        go_ret
        exact ⟨ret_bool (failW_yes (k := 4) (by omega) (by omega) hc).symm, rfl⟩
    · have i5 : ∀ w, (Instr.index 95 (.agg #[.string (codeN 0), .string (codeN 1), .string (codeN 2), .string (codeN 3), .string (codeN 4), .string (codeN 5), .string (codeN 6)]) (.int .i64 5)).run Tryz.prog w = .ok (.string (codeN 5)) w := fun _ => by kernel_rfl
      cases hc : ((codeN 5).toList == s.toList)
      · go_wp2
        go_round
        case rel => exact ⟨6, by omega, by go_num, fun j h1 h2 => by
          by_cases e : j < 5
          · exact HA.out j h1 e
          · obtain rfl : j = 5 := by omega
            exact hc⟩
        case measure => simp [intOf]
      · go_wp2
        go_ret
        exact ⟨ret_bool (failW_yes (k := 5) (by omega) (by omega) hc).symm, rfl⟩
    · have i6 : ∀ w, (Instr.index 95 (.agg #[.string (codeN 0), .string (codeN 1), .string (codeN 2), .string (codeN 3), .string (codeN 4), .string (codeN 5), .string (codeN 6)]) (.int .i64 6)).run Tryz.prog w = .ok (.string (codeN 6)) w := fun _ => by kernel_rfl
      cases hc : ((codeN 6).toList == s.toList)
      · go_wp2
        go_round
        case rel => exact ⟨7, by omega, by go_num, fun j h1 h2 => by
          by_cases e : j < 6
          · exact HA.out j h1 e
          · obtain rfl : j = 6 := by omega
            exact hc⟩
        case measure => simp [intOf]
      · go_wp2
        go_ret
        exact ⟨ret_bool (failW_yes (k := 6) (by omega) (by omega) hc).symm, rfl⟩
    · go_wp2
      go_ret
      exact ⟨ret_bool (failW_no (fun j h1 h2 => HA.out j h1 h2)).symm, rfl⟩
/-- rows being told: the state behind a letter -/
def rowsS (x : Let) : Int := if (x.1.toList == [82] && rowG x.2) = true then 1 else if (x.1.toList == [67] && x.2.toList == (codeN 0).toList) = true then 0 else 3
/-- nothing begun: the state behind a letter -/
def idleS (x : Let) : Int :=
  if rowsS x = 3 then
    if (x.1.toList == [69]) = true then (if failW x.2 = true then 0 else 3)
    else if (x.1.toList == [49]) = true then (if (x.2.toList == []) = true then 0 else 3)
    else if (x.1.toList == [90]) = true then (if (x.2.toList == [105]) = true ∨ (x.2.toList == [116]) = true ∨ (x.2.toList == [101]) = true then 0 else 3)
    else if (x.1.toList == [66]) = true then (if (x.2.toList == []) = true then 2 else 3)
    else 3
  else rowsS x
theorem rowsS_cases (x : Let) : rowsS x = 0 ∨ rowsS x = 1 ∨ rowsS x = 3 := by
  unfold rowsS
  split
  · exact .inr (.inl rfl)
  · split
    · exact .inl rfl
    · exact .inr (.inr rfl)
set_option maxHeartbeats 1000000 in
theorem inRows_any (x : Let) (w : World) (hs : x.2.size ≤ 1073741824) (hV : Env w) :
    Calls Tryz.prog 35 #[.agg #[.string x.1, .string x.2]] w fun e w' => e = .returned (.int .i64 (rowsS x)) ∧ Below w.heap.size w w' := by
  obtain ⟨x1, x2⟩ := x
  simp only at hs ⊢
  have hb0 := (Below.refl w.heap.size w).alloc (Nat.le_refl _) (.cells #[.string x1, .string x2] 31)
  have hX := Blk.new w 31 #[.string x1, .string x2]
  have hV0 := hV.below hb0
  have c0 : (w.alloc (.cells #[.string x1, .string x2] 31)).cell? ⟨0, 0, none⟩ = some (.string (codeN 0)) := hV0.cell 0
  cases hr : (x1.toList == [82])
  · have HR := Lib.hid (show rowsS (x1, x2) = if (x1.toList == [67] && x2.toList == (codeN 0).toList) = true then 1 - 1 else 3 by unfold rowsS; simp [hr])
    clear hV hV0 hX
    go_enter Tryz.func35, Tryz.ntmps35
    go_wp2
    all_goals
      go_ret
      exact ⟨ret_int (by rw [HR.out]; simp_all), hb0⟩
  · have HV := Lib.hid hV0
    have HX := Lib.hid hX
    clear hV hV0 hX
    cases hg : rowG x2
    · have HR := Lib.hid (show rowsS (x1, x2) = if (x1.toList == [67] && x2.toList == (codeN 0).toList) = true then 1 - 1 else 3 by unfold rowsS; simp [hr, hg])
      clear c0
      go_enter Tryz.func35, Tryz.ntmps35
      go_wp2_with (go_at_call 56; refine (rowBody_any _ _ hs HV.out).mono ?_; rintro e w' ⟨rfl, hb⟩; rw [hg]; have hX1 := HX.out.kept hb; have c0 : w'.cell? ⟨0, 0, none⟩ = some (.string (codeN 0)) := (HV.out.below hb).cell 0; have x0 := hX1.at_ (i := 0) (by simp); have x1' := hX1.at_ (i := 1) (by simp))
      all_goals
        go_ret
        exact ⟨ret_int (by rw [HR.out]; simp_all), hb0.trans (hb.mono (by simp))⟩
    · have HR := Lib.hid (show rowsS (x1, x2) = 1 by unfold rowsS; simp [hr, hg])
      clear c0
      go_enter Tryz.func35, Tryz.ntmps35
      go_wp2_with (go_at_call 56; refine (rowBody_any _ _ hs HV.out).mono ?_; rintro e w' ⟨rfl, hb⟩; rw [hg])
      go_ret
      exact ⟨ret_int (by rw [HR.out]), hb0.trans (hb.mono (by simp))⟩
end Go.Proofs.YtfmhhckkpenldaaGreatDoor
