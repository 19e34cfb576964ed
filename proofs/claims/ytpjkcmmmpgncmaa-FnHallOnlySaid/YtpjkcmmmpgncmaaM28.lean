import Derived.BigQuiet
import Derived.Test.YtpjkcmmmpgncmaaM24
import Derived.Test.YtpjkcmmmpgncmaaM10
/- The reference's l3Rows: rows with what one did. -/
namespace Go.Proofs.Ytpjkcmmmpgncmaa
open Go.RowKit
def stepR (rs : List Row) (x : Wri) : List Row := if x.2.2 = true then cutN x.1 rs else putN x.1 x.2.1 rs
def rowsN (rs : List Row) (ws : List Wri) : List Row := ws.foldl stepR rs
theorem rowsN_take {rs : List Row} {ws : List Wri} {k : Nat} (hk : k < ws.length) : rowsN rs (ws.take (k + 1)) = stepR (rowsN rs (ws.take k)) ws[k] := by
  unfold rowsN; rw [List.take_succ_eq_append_getElem hk, List.foldl_append]; rfl
theorem stepR_len (rs : List Row) (x : Wri) : (stepR rs x).length ≤ rs.length + 1 := by
  unfold stepR
  have h1 := cutN_len x.1 rs
  have h2 := putN_len x.1 x.2.1 rs
  split <;> omega
theorem rowsN_len : ∀ (ws : List Wri) (rs : List Row), (rowsN rs ws).length ≤ rs.length + ws.length
  | [], rs => by simp [rowsN]
  | x :: ws, rs => by
    have h := rowsN_len ws (stepR rs x)
    have h2 := stepR_len rs x
    have e : rowsN rs (x :: ws) = rowsN (stepR rs x) ws := rfl
    rw [e, List.length_cons]; omega
theorem rowsN_size : ∀ (ws : List Wri) (rs : List Row), (∀ x ∈ rs, x.1.size ≤ maxLen) → (∀ x ∈ ws, x.1.size ≤ maxLen) → ∀ x ∈ rowsN rs ws, x.1.size ≤ maxLen
  | [], rs, h, _ => h
  | y :: ws, rs, h, hw => by
    refine rowsN_size ws (stepR rs y) ?_ (fun x hx => hw x (List.mem_cons_of_mem _ hx))
    unfold stepR
    split
    · exact cutN_size h
    · exact putN_size h (hw y List.mem_cons_self)
set_option maxRecDepth 100000 in
set_option maxHeartbeats 4000000 in
theorem l3Rows_any (B : Nat) (A : Option Addr) (rs : List Row) (c : Nat) (A2 : Option Addr) (ws : List Wri) (c2 : Nat) (w : World) (hr : rs.length ≤ 500) (hw : ws.length ≤ 400) (ho : OwnR w B (.slice A rs.length c) rs) (hS : Sl encWri 3 w A2 ws) :
    Calls Try.prog 230 #[.slice A rs.length c, .slice A2 ws.length c2] w fun e w' => ∃ A' c' B', e = .returned (.slice A' (rowsN rs ws).length c') ∧ OwnR w' B' (.slice A' (rowsN rs ws).length c') (rowsN rs ws) ∧ Below w.heap.size w w' := by
  have HO := Lib.hid ho
  have HB := Lib.hid (Below.refl w.heap.size w)
  clear ho
  go_enter Try.func230, Try.ntmps230
  go_wp2
  go_loopw [0, 5] (fun r i wr => ∃ (k : Nat) (A' : Option Addr) (c' B' : Nat), k ≤ ws.length ∧ i = .int .i64 k ∧ r = .slice A' (rowsN rs (ws.take k)).length c' ∧ Hid (OwnR wr B' (.slice A' (rowsN rs (ws.take k)).length c') (rowsN rs (ws.take k))) ∧ Hid (Below w.heap.size w wr)) (fun _ i _ => ws.length - (intOf i).toNat)
  case atStart => exact ⟨0, A, c, B, by omega, rfl, rfl, HO, HB⟩
  case round =>
    clear HO HB
    obtain ⟨k, A', c', B', hk, rfl, rfl, HO, HB⟩ := hrel
    by_cases hlt : k < ws.length
    · obtain ⟨b2, o2, rfl, hbl2, c0, c1, c2⟩ := Sl.at3 (hS.below HB.out) hlt
      have HT := Lib.hid (rowsN_take (rs := rs) hlt)
      have hL : (rowsN rs (ws.take k)).length ≤ 1000 := by have := rowsN_len (ws.take k) rs; rw [List.length_take] at this; omega
      generalize rowsN rs (ws.take k) = L at *
      generalize ws[k] = x at *
      obtain ⟨kk, n, gn⟩ := x
      simp only at c0 c1 c2
      clear hS
      cases gn
      · have HC := Lib.hid (l1Put_any B' A' L c' kk n wr.drew hL (own_kept HO.out (kD wr)))
        have HE := Lib.hid (show stepR L (kk, n, false) = putN kk n L from rfl)
        clear HO
        go_wp2_with fail
        go_region_with (go_at_call 239; refine HC.out.mono ?_; rintro e w4 ⟨A4, c4, rfl, ho4, hb4⟩; have HO4 := Lib.hid ho4; have HB4 := Lib.hid (bthen HB.out (bthen (kD wr) hb4)); clear ho4 hb4)
        all_goals
          go_wp2
          go_roundw
          case rel => exact ⟨k + 1, A4, c4, _, by omega, by go_num, by rw [HT.out, HE.out], by rw [HT.out, HE.out]; exact HO4.out, HB4.out⟩
          case measure => simp [intOf]; omega
      · have HC := Lib.hid (l1Cut_any B' A' L c' kk wr hL HO.out)
        have HE := Lib.hid (show stepR L (kk, n, true) = cutN kk L from rfl)
        clear HO
        go_wp2_with fail
        refine HC.out.mono ?_
        rintro e w4 ⟨A4, c4, rfl, ho4, hb4⟩
        have HO4 := Lib.hid ho4
        have HB4 := Lib.hid (bthen HB.out hb4)
        clear ho4 hb4
        go_wp2
        go_roundw
        case rel => exact ⟨k + 1, A4, c4, _, by omega, by go_num, by rw [HT.out, HE.out], by rw [HT.out, HE.out]; exact HO4.out, HB4.out⟩
        case measure => simp [intOf]; omega
    · obtain rfl : k = ws.length := by omega
      rw [List.take_length] at *
      go_wp2
      go_ret
      exact ⟨_, _, _, rfl, HO.out, HB.out⟩
end Go.Proofs.Ytpjkcmmmpgncmaa
/- The reference's l6Find and l6Name: what may be asked by a name; what a name is (bounds). -/
namespace Go.Proofs.Ytpjkcmmmpgncmaa
open Go.RowKit
/-- how l6Find leaves -/
def FindP (w : World) (e : Ending) (w' : World) : Prop := ∃ (x : AskV) (b : Bool), e = .returned (.tuple #[.agg #[.int .i64 x.1, .string x.2.1, .string x.2.2.1, .int .i64 x.2.2.2], .bool b]) ∧ x.2.1.size ≤ maxLen ∧ x.2.2.1.size ≤ maxLen ∧ Below w.heap.size w w'
set_option maxRecDepth 100000 in
set_option maxHeartbeats 4000000 in
theorem l6Find_any (A : Option Addr) (ns : List Nm) (c : Nat) (s : ByteArray) (w : World) (hN : NK w A ns) :
    Calls Try.prog 185 #[.slice A ns.length c, .string s] w (FindP w) := by
  have HNN := Lib.hid hN.2
  have hn4 : ns.length ≤ 4 := hN.2.2
  have hbE := allocAll_below w [(128, #[.int .i64 0, .string ⟨#[]⟩, .string ⟨#[]⟩, .int .i64 0])]
  have H : Hid (SP w [(w.heap.size, 128, #[.int .i64 0, .string ⟨#[]⟩, .string ⟨#[]⟩, .int .i64 0])] [fun W => NK W A ns] ((allocAll w [(128, #[.int .i64 0, .string ⟨#[]⟩, .string ⟨#[]⟩, .int .i64 0])]))) := Lib.hid (SP.add (SP.start w [(128, #[.int .i64 0, .string ⟨#[]⟩, .string ⟨#[]⟩, .int .i64 0])]) _ NK.c (NK.c _ _ (Kp.below hbE) hN))
  clear hbE
  go_enter Try.func185, Try.ntmps185
  clear hN
  go_wp2
  go_loopw [6] (fun i wr => ∃ k : Nat, k ≤ ns.length ∧ i = .int .i64 k ∧ Hid (SP w [(w.heap.size, 128, #[.int .i64 0, .string ⟨#[]⟩, .string ⟨#[]⟩, .int .i64 0])] [fun W => NK W A ns] wr)) (fun i _ => ns.length - (intOf i).toNat)
  case atStart => exact ⟨0, by omega, rfl, H⟩
  case round =>
    clear H
    obtain ⟨k, hk, rfl, HQ⟩ := hrel
    have H := Lib.hid HQ.out
    clear HQ
    by_cases hlt : k < ns.length
    case pos =>
      obtain ⟨b, o, rfl, hbl, c0, c1, c2, c3, c4⟩ := Sl.at5 (NK.sl (H.out.get 0 rfl)) hlt
      have HY := Lib.hid (HNN.out.1 ns[k] (List.getElem_mem hlt))
      generalize ns[k] = y at *
      obtain ⟨ys, yk, ya, yb, yn⟩ := y
      simp only at c0 c1 c2 c3 c4 HY
      have hki : (k : Int) < (ns.length : Int) := by omega
      have hki0 : (0 : Int) ≤ (k : Int) := by omega
      cases hq : (ys.toList == s.toList)
      case false =>
        go_wp2
        go_roundw
        case rel => exact ⟨k + 1, by omega, by go_num, H⟩
        case measure => simp [intOf]; omega
      obtain ⟨x0_0, x0_1, x0_2, x0_3⟩ := Blk.q4 (H.out.blk 0 rfl)
      obtain ⟨z0_0, z0_1, z0_2, z0_3⟩ := Blk.z4 (H.out.blk 0 rfl)
      have HZ := Lib.hid (SP.set (SP.set (SP.set (SP.set (H.out) 0 0 (.int .i64 yk) rfl (by decide)) 0 1 (.string ya) rfl (by decide)) 0 2 (.string yb) rfl (by decide)) 0 3 (.int .i64 yn) rfl (by decide))
      clear H
      go_wp2
      refine bodyPost_ret (v := .tuple #[.agg #[.int .i64 yk, .string ya, .string yb, .int .i64 yn], .bool true]) ?_ rfl (⟨(yk, ya, yb, yn), true, rfl, HY.out.2.1, HY.out.2.2, HZ.out.below⟩)
      simp [results, Try.results185, go_sem, x0_0, x0_1, x0_2, x0_3]
    obtain rfl : k = ns.length := by omega
    obtain ⟨x0_0, x0_1, x0_2, x0_3⟩ := Blk.q4 (H.out.blk 0 rfl)
    obtain ⟨z0_0, z0_1, z0_2, z0_3⟩ := Blk.z4 (H.out.blk 0 rfl)
    have HZ := Lib.hid (SP.set (SP.set (SP.set (SP.set (H.out) 0 0 (.int .i64 0) rfl (by decide)) 0 1 (.string ⟨#[]⟩) rfl (by decide)) 0 2 (.string ⟨#[]⟩) rfl (by decide)) 0 3 (.int .i64 0) rfl (by decide))
    clear H
    go_wp2
    refine bodyPost_ret (v := .tuple #[.agg #[.int .i64 0, .string ⟨#[]⟩, .string ⟨#[]⟩, .int .i64 0], .bool false]) ?_ rfl (⟨(0, ⟨#[]⟩, ⟨#[]⟩, 0), false, rfl, Nat.zero_le _, Nat.zero_le _, HZ.out.below⟩)
    simp [results, Try.results185, go_sem, x0_0, x0_1, x0_2, x0_3]
def NameP (w : World) (e : Ending) (w' : World) : Prop := ∃ b : Bool, e = .returned (.bool b) ∧ w = w'
set_option maxRecDepth 100000 in
set_option maxHeartbeats 2000000 in
theorem l6Name_any (s : ByteArray) (w : World) : Calls Try.prog 210 #[.string s] w (NameP w) := by
  by_cases h1 : s.size = 1
  · have e1 : ((s.size : Int) == 1) = true := beq_iff_eq.2 (by omega)
    have e2 : (s.size : Int) = 1 := by omega
    have e3 : (0 : Int) < (s.size : Int) := by omega
    have e4 : 0 < s.size := by omega
    go_enter Try.func210, Try.ntmps210
    go_wp2
    all_goals
      go_ret
      exact ⟨_, rfl, rfl⟩
  · have e1 : ((s.size : Int) == 1) = false := beq_eq_false_iff_ne.2 (by omega)
    have e2 : ¬ (s.size : Int) = 1 := by omega
    go_enter Try.func210, Try.ntmps210
    go_wp2
    go_ret
    exact ⟨_, rfl, rfl⟩
end Go.Proofs.Ytpjkcmmmpgncmaa
