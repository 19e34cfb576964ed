import Derived.Deep.RegionHeld3
import Derived.BigQuiet
import Derived.Test.YtpjkcmmmpgncmaaM23
import Derived.Test.YtpjkcmmmpgncmaaSpcA
import Derived.Test.YtpjkcmmmpgncmaaM22
import Derived.Test.YtpjkcmmmpgncmaaL4R
/- The reference's l6Done: the letters of rows, and of how it ended (bounds). -/
namespace Go.Proofs.Ytpjkcmmmpgncmaa
open Go.RowKit
theorem Sl.cAt {α : Type} {enc : α → List Value} {k : Nat} {w : World} {b o : Nat} {l : List α} (h : Sl enc k w (some ⟨b, o, none⟩) l) {i : Nat} {x : α} (hx : l[i]? = some x) (j : Nat) (hj : j < k) : w.cell? ⟨b, o + i * k + j, none⟩ = (enc x)[j]? := by
  obtain ⟨b', o', e, _, hc⟩ := h (by have := (List.getElem?_eq_some_iff.1 hx).1; omega)
  injection e with e
  injection e with e1 e2
  subst e1; subst e2
  exact hc i j x hx hj
/-- a letter that a call may make -/
def LetS (x : Let) : Prop := x.1.size ≤ 1040000 ∧ x.2.size ≤ 1040000
def OwnL (w : World) (B : Nat) (v : Value) (l : List Let) : Prop := w.ownsRow B 94 2 v l.length (l.flatMap encLet)
theorem OwnL.sl {w : World} {B : Nat} {v : Value} {l : List Let} (h : OwnL w B v l) : ∃ A c, v = .slice A l.length c ∧ l.length ≤ c ∧ c ≤ maxLen ∧ Sl encLet 2 w A l := Sl.of_own (fun _ => rfl) h
theorem OwnL.reads {w : World} {B c n : Nat} {A : Option Addr} {l : List Let} (h : OwnL w B (.slice A n c) l) : Sl encLet 2 w A l := by
  obtain ⟨a1, a2, a3, _, _, a4⟩ := h.sl
  injection a3 with b1 b2 b3
  subst b1; exact a4
theorem OwnL.leB {w : World} {B B2 : Nat} {v : Value} {l : List Let} (h : OwnL w B v l) (hb : B2 ≤ B) : OwnL w B2 v l := Go.Joins.ownsRow_le h hb
def AllL (L : List Let) : Prop := ∀ x ∈ L, LetS x
theorem AllL.nil : AllL [] := fun x h => absurd h (by simp)
theorem AllL.snoc {L : List Let} {z : Let} (h : AllL L) (hz : LetS z) : AllL (L ++ [z]) := fun y hy => by
  rcases List.mem_append.1 hy with hy | hy
  · exact h y hy
  · simp at hy; subst hy; exact hz
theorem AllL.app {L M : List Let} (h : AllL L) (h2 : AllL M) : AllL (L ++ M) := fun y hy => by
  rcases List.mem_append.1 hy with hy | hy
  · exact h y hy
  · exact h2 y hy
/-- what stands while letters are gathered -/
def PL (w : World) (B : Nat) (v : Value) (L : List Let) (W : World) : Prop := OwnL W B v L ∧ Below w.heap.size w W ∧ AllL L ∧ w.heap.size ≤ B ∧ B < W.heap.size
theorem PL.below {w W W' : World} {B : Nat} {L : List Let} {v : Value} (h : PL w B v L W) (hb : Below W.heap.size W W') : PL w B v L W' := ⟨own_kept h.1 hb, bthen h.2.1 hb, h.2.2.1, h.2.2.2.1, Nat.lt_of_lt_of_le h.2.2.2.2 hb.size⟩
theorem PL.app {w W W' : World} {B : Nat} {L : List Let} {v v' : Value} {z : Let} (h : PL w B v L W) (hz : LetS z) (cs : Array Value)
    (ho : W'.ownsRow B 94 2 v' (L.length + 1) (L.flatMap encLet ++ encLet z)) (hg : (W.alloc (.cells cs 94)).grownBy W' v.ownBlock) : PL w B v' (L ++ [z]) W' := by
  obtain ⟨h1, h3, h5, h6, h7⟩ := h
  have hb := (Below.refl W.heap.size W).alloc (Nat.le_refl _) (.cells cs 94)
  have hlt := h1.lt
  have hsz : W.heap.size ≤ (W.alloc (.cells cs 94)).heap.size := hb.size
  refine ⟨?_, below_own (bthen h3 hb) hg (by omega) (fun j hj => by have := (hlt j hj).1; omega), h5.snoc hz, h6, by have := hg.size; omega⟩
  unfold OwnL
  rw [List.length_append, List.flatMap_append]
  simpa using ho
theorem code_size (c : Nat) (hc : c ≤ 6) : (codeN c).size ≤ 1040000 := by
  rcases (show c = 0 ∨ c = 1 ∨ c = 2 ∨ c = 3 ∨ c = 4 ∨ c = 5 ∨ c = 6 by omega) with rfl | rfl | rfl | rfl | rfl | rfl | rfl <;> decide
theorem sE : (⟨#[69]⟩ : ByteArray).size ≤ 1040000 := by decide
theorem sC : (⟨#[67]⟩ : ByteArray).size ≤ 1040000 := by decide
theorem sR : (⟨#[82]⟩ : ByteArray).size ≤ 1040000 := by decide
theorem sll_one {w : World} {g : Nat} {x : Let} (h : Blk w g 94 #[.string x.1, .string x.2]) : Sl encLet 2 w (some ⟨g, 0, none⟩) [x] := by
  intro _
  refine ⟨g, 0, rfl, h.lt, fun i j y hy hj => ?_⟩
  obtain ⟨rfl, rfl⟩ : i = 0 ∧ y = x := by
    cases i with
    | zero => simp at hy; exact ⟨rfl, hy.symm⟩
    | succ i => simp at hy
  simp only [Nat.zero_mul, Nat.zero_add]
  rw [h.cell]
  match j, hj with
  | 0, _ => rfl
  | 1, _ => rfl
theorem encLet_one (l : List Let) : ∀ u ∈ l.flatMap encLet, u.oneCell' = true := by
  intro u hu
  obtain ⟨x, _, hx⟩ := List.mem_flatMap.1 hu
  simp [encLet] at hx
  rcases hx with rfl | rfl <;> rfl
/-- how l6Done leaves -/
def DoneP (w : World) (n : Nat) (e : Ending) (w' : World) : Prop := ∃ (A' : Option Addr) (L : List Let) (c' : Nat), e = .returned (.slice A' L.length c') ∧ OwnL w' w.heap.size (.slice A' L.length c') L ∧ L.length ≤ n + 1 ∧ AllL L ∧ Below w.heap.size w w'
set_option maxRecDepth 100000 in
set_option maxHeartbeats 8000000 in
theorem l6Done_any (A : Option Addr) (rs : List Row) (cc : Nat) (c : Int) (w : World) (hn : rs.length ≤ 70) (hR : Sl encRow 2 w A rs) (hT : RowsT rs) (h0 : 0 ≤ c) (h6 : c ≤ 6) :
    Calls Try.prog 184 #[.slice A rs.length cc, .int .i64 c] w (DoneP w rs.length) := by
  obtain ⟨i0, hi0, hz0, hz1, hz2⟩ := info_parts infoLet
  have HI := Lib.hid (⟨hi0, hz0, hz1, hz2⟩ : _ ∧ _ ∧ _ ∧ _)
  clear hi0 hz0 hz1 hz2
  obtain ⟨k0, rfl⟩ : ∃ k0 : Nat, c = (k0 : Int) := ⟨c.toNat, by omega⟩
  have hk6 : k0 ≤ 6 := by omega
  have HP : Hid (PL w w.heap.size (.slice (some ⟨w.heap.size, 0, none⟩) 0 0) [] (w.alloc (.cells #[] 94))) := Lib.hid ⟨own_of_blk (base := w.heap.size) (n := 0) (k := 2) (xs := []) (Blk.new w _ #[]) (Nat.le_refl _) (Nat.zero_le _) rfl rfl, (Below.refl _ _).alloc (Nat.le_refl _) _, AllL.nil, Nat.le_refl _, by simp⟩
  have HT := Lib.hid hT
  clear hT h0 h6
  go_enter Try.func184, Try.ntmps184
  by_cases hk0 : k0 = 0
  case neg =>
    have hci : (((k0 : Nat) : Int) == 0) = false := beq_eq_false_iff_ne.2 (by omega)
    have hcj : ¬ ((k0 : Nat) : Int) = 0 := by omega
    go_wp2_with fail
    refine (code_any k0 _ hk6).mono ?_
    rintro e w1 ⟨rfl, hb1⟩
    replace HP := Lib.hid (HP.out.below hb1)
    have HCS := Lib.hid (code_size k0 hk6)
    generalize codeN k0 = s0 at *
    have hl0 : ([] : List Let).length ≤ 100 := by simp
    have hownA := HP.out.1.alloc (.cells #[.string ⟨#[69]⟩, .string s0] 94)
    have hnewA := new_cells w1 [.string ⟨#[69]⟩, .string s0] 94
    have hszA := HP.out.2.2.2.2
    have HPA := Lib.hid HP.out
    go_wp2_with (at_builtin; refine wpList_append_own _ rfl (.tmp 10) (.tmp 14) 49 rfl w.heap.size 94 i0 _ 2 32 Try.underlying49 HI.out.1 HI.out.2.1 HI.out.2.2.1 HI.out.2.2.2 rfl (by decide) (.slice (some ⟨w.heap.size, 0, none⟩) ([] : List Let).length 0) ([] : List Let).length (([] : List Let).flatMap encLet) rfl hownA ⟨w1.heap.size, 0, none⟩ 1 1 [.string ⟨#[69]⟩, .string s0] rfl rfl hnewA (by simp [Value.oneCell']) (by unfold maxLen; omega) (by omega) (by simp; omega) ?_; intro v8 w8 ho8 hg8 _; obtain ⟨L8, hL8, hp8⟩ : ∃ M : List Let, M.length = ([] : List Let).length + 1 ∧ PL w w.heap.size v8 M w8 := ⟨_, List.length_append, PL.app (z := (⟨#[69]⟩, s0)) HPA.out ⟨sE, HCS.out⟩ _ ho8 hg8⟩; obtain ⟨A8, c8, rfl, _, _, _⟩ := hp8.1.sl; have HP := Lib.hid hp8; have HL8 := Lib.hid hL8; clear hownA hnewA hszA ho8 hg8 HPA hp8 hL8)
    go_ret
    exact ⟨_, L8, _, rfl, HP.out.1, by have := HL8.out; simp at this; omega, HP.out.2.2.1, HP.out.2.1⟩
  subst hk0
  go_wp2
  go_loopw [5, 6] (fun v i wr => ∃ (k : Nat) (L : List Let) (AL : Option Addr) (cL : Nat), k ≤ rs.length ∧ i = .int .i64 k ∧ v = .slice AL L.length cL ∧ Hid (L.length ≤ k) ∧ Hid (PL w w.heap.size v L wr)) (fun _ i _ => rs.length - (intOf i).toNat)
  case atStart => exact ⟨0, [], _, _, by omega, rfl, rfl, Lib.hid (Nat.le_refl _), HP⟩
  case round =>
    clear HP
    obtain ⟨k, L, AL, cL, hk, rfl, rfl, HLk, HQ⟩ := hrel
    have HP := Lib.hid HQ.out
    clear HQ
    by_cases hlt : k < rs.length
    case pos =>
      obtain ⟨b, o, rfl, hbl, c0, c1⟩ := Sl.at2 (hR.below HP.out.2.1) hlt
      have hy := HT.out rs[k] (List.getElem_mem hlt)
      have HKY := Lib.hid (List.getElem?_eq_getElem hlt)
      have HR := Lib.hid hR
      generalize rs[k] = y at *
      obtain ⟨yk, yn⟩ := y
      simp only at c0 c1 hy
      have HY := Lib.hid hy
      clear hy
      have hki : (k : Int) < (rs.length : Int) := by omega
      have hki0 : (0 : Int) ≤ (k : Int) := by omega
      have hks : ¬ 9223372036854775807 < yk.size + 1 := by have := HY.out.1; omega
      have hl1000 : L.length ≤ 1000 := by have := HLk.out; omega
      go_wp2_with fail
      replace HP := Lib.hid (HP.out.below (kDB wr))
      go_region_held3 (fun W => W.cell? ⟨b, o + k * 2, none⟩ = some (.string yk) ∧ W.cell? ⟨b, o + k * 2 + 1, none⟩ = some (.int .i64 yn))
        (first | assumption | go_keep)
        (first
          | (go_at_call 192
             refine (decZ_any yn _ (by have := HY.out.2.1; omega) (by have := HY.out.2.2; omega)).mono ?_
             rintro e wk ⟨s4, rfl, hs4, hbk⟩
             replace HP := Lib.hid (HP.out.below hbk)
             have hkk : wk.cell? ⟨b, o + k * 2, none⟩ = some (.string yk) ∧ wk.cell? ⟨b, o + k * 2 + 1, none⟩ = some (.int .i64 yn) := ⟨(hbk.cell (p := ⟨b, o + k * 2, none⟩) hbl).trans c0, (hbk.cell (p := ⟨b, o + k * 2 + 1, none⟩) hbl).trans c1⟩
             obtain ⟨bd, hbd⟩ : ∃ bd, bd = yk ++ (⟨#[32]⟩ : ByteArray) ++ s4 := ⟨_, rfl⟩
             have hsz : (yk ++ (⟨#[32]⟩ : ByteArray)).size = yk.size + 1 := by rw [ByteArray.size_append]; rfl
             have hc2 : ¬ 9223372036854775807 < yk.size + 1 + s4.size := by have := HY.out.1; omega
             have hc3 : ¬ 9223372036854775807 < (yk ++ (⟨#[32]⟩ : ByteArray)).size + s4.size := by rw [hsz]; exact hc2
             have hbr : yk ++ (⟨#[32]⟩ : ByteArray) ++ s4 = bd := hbd.symm
             have HBD := Lib.hid (show bd.size ≤ 1040000 by rw [hbd, ByteArray.size_append, hsz]; have := HY.out.1; omega)
             clear hbk hs4 hsz hbd)
          | (refine step_append_slB (enc := encLet) rfl (.tmp 22) (.tmp 37) 49 rfl w.heap.size 94 i0 (.agg #[.string ⟨#[]⟩, .string ⟨#[]⟩]) 2 32 Try.underlying49 HI.out.1 HI.out.2.1 HI.out.2.2.1 HI.out.2.2.2 rfl (by decide) (.slice AL L.length cL) L.length (L.flatMap encLet) (by simp [Act.eval]) (HP.out.1.alloc _) encLet_len (some ⟨wk.heap.size, 0, none⟩) [((⟨#[82]⟩, bd) : Let)] 1 1 rfl (by simp [Act.eval]) (sll_one (x := (⟨#[82]⟩, bd)) (Blk.new wk _ _)) (encLet_one _) (by unfold maxLen; simp; omega) (by simp; omega) (by have := HP.out.2.2.2.2; simp; omega) ?_
             intro v8 w8 ho8 hg8 _
             obtain ⟨L8, hL8, hp8⟩ : ∃ M : List Let, M.length = L.length + 1 ∧ PL w w.heap.size v8 M w8 := ⟨_, List.length_append, PL.app (z := (⟨#[82]⟩, bd)) HP.out ⟨sR, HBD.out⟩ _ ho8 hg8⟩
             obtain ⟨A8, c8, rfl, _, _, _⟩ := hp8.1.sl
             replace HP := Lib.hid hp8
             have HL8 := Lib.hid hL8
             have hkk : w8.cell? ⟨b, o + k * 2, none⟩ = some (.string yk) ∧ w8.cell? ⟨b, o + k * 2 + 1, none⟩ = some (.int .i64 yn) := ⟨(HR.out.below HP.out.2.1).cAt HKY.out 0 (by decide), (HR.out.below HP.out.2.1).cAt HKY.out 1 (by decide)⟩
             clear ho8 hg8 hp8 hL8))
      all_goals
        go_wp2
        go_roundw
        case rel => first | exact ⟨k + 1, L8, _, _, by omega, by go_num, rfl, Lib.hid (by have := HL8.out; have := HLk.out; omega), HP⟩ | ((repeat apply Exists.intro); exact ⟨⟨k + 1, L8, _, _, by omega, by go_num, rfl, Lib.hid (by have := HL8.out; have := HLk.out; omega), HP⟩, rfl⟩)
        case measure => simp [intOf]; omega
    obtain rfl : k = rs.length := by omega
    go_wp2_with fail
    refine (code_any 0 _ (by decide)).mono ?_
    rintro e w1 ⟨rfl, hb1⟩
    replace HP := Lib.hid (HP.out.below hb1)
    have HCS := Lib.hid (code_size 0 (by decide))
    generalize codeN 0 = s0 at *
    have hl1000 : L.length ≤ 1000 := by have := HLk.out; omega
    have hownA := HP.out.1.alloc (.cells #[.string ⟨#[67]⟩, .string s0] 94)
    have hnewA := new_cells w1 [.string ⟨#[67]⟩, .string s0] 94
    have hszA := HP.out.2.2.2.2
    have HPA := Lib.hid HP.out
    go_wp2_with (at_builtin; refine wpList_append_own _ rfl (.tmp 39) (.tmp 43) 49 rfl w.heap.size 94 i0 _ 2 32 Try.underlying49 HI.out.1 HI.out.2.1 HI.out.2.2.1 HI.out.2.2.2 rfl (by decide) (.slice AL L.length cL) L.length (L.flatMap encLet) rfl hownA ⟨w1.heap.size, 0, none⟩ 1 1 [.string ⟨#[67]⟩, .string s0] rfl rfl hnewA (by simp [Value.oneCell']) (by unfold maxLen; omega) (by omega) (by simp; omega) ?_; intro v8 w8 ho8 hg8 _; obtain ⟨L8, hL8, hp8⟩ : ∃ M : List Let, M.length = L.length + 1 ∧ PL w w.heap.size v8 M w8 := ⟨_, List.length_append, PL.app (z := (⟨#[67]⟩, s0)) HPA.out ⟨sC, HCS.out⟩ _ ho8 hg8⟩; obtain ⟨A8, c8, rfl, _, _, _⟩ := hp8.1.sl; have HP := Lib.hid hp8; have HL8 := Lib.hid hL8; clear hownA hnewA hszA ho8 hg8 HPA hp8 hL8)
    go_ret
    exact ⟨_, L8, _, rfl, HP.out.1, by have := HL8.out; have := HLk.out; omega, HP.out.2.2.1, HP.out.2.1⟩
end Go.Proofs.Ytpjkcmmmpgncmaa
