import Derived.BigQuiet
import Derived.Test.YtpjkcmmmpgncmaaM24
import Derived.Deep.RegionHeld3
import Derived.Test.YtpjkcmmmpgncmaaM25
/- The reference on rows: those between two keys, their sum (bounds). -/
namespace Go.Proofs.Ytpjkcmmmpgncmaa
open Go.RowKit
/-- rows with short keys and small numbers -/
def RowsT (l : List Row) : Prop := ∀ x ∈ l, x.1.size ≤ 2 ∧ -999000 ≤ x.2 ∧ x.2 ≤ 999000
theorem rowsB_T {l : List Row} (h : rowsB l = true) : ∀ x ∈ l, x.1.size ≤ 2 ∧ -999 ≤ x.2 ∧ x.2 ≤ 999 := by
  intro x hx
  have h1 : rowB x = true := (rowsB_iffT.1 h).2.1 x hx
  unfold rowB at h1
  simp only [Bool.and_eq_true] at h1
  refine ⟨keyB_size h1.1, ?_⟩
  have h2 := h1.2
  unfold numB at h2
  simp at h2
  exact h2
/-- what stands while rows are picked -/
def PRI (w : World) (l : List Row) (v : Value) (L : List Row) (W : World) : Prop := OwnR W w.heap.size v L ∧ Below w.heap.size w W ∧ (∀ x ∈ L, x ∈ l) ∧ w.heap.size < W.heap.size
theorem PRI.below {w W W' : World} {l L : List Row} {v : Value} (h : PRI w l v L W) (hb : Below W.heap.size W W') : PRI w l v L W' := ⟨own_kept h.1 hb, bthen h.2.1 hb, h.2.2.1, Nat.lt_of_lt_of_le h.2.2.2 hb.size⟩
theorem PRI.app {w W W' : World} {l L : List Row} {v v' : Value} {z : Row} (h : PRI w l v L W) (hz : z ∈ l) (cs : Array Value)
    (ho : W'.ownsRow w.heap.size 111 2 v' (L.length + 1) (L.flatMap encRow ++ encRow z)) (hg : (W.alloc (.cells cs 111)).grownBy W' v.ownBlock) : PRI w l v' (L ++ [z]) W' := by
  obtain ⟨h1, h3, h5, h6⟩ := h
  have hb := (Below.refl W.heap.size W).alloc (Nat.le_refl _) (.cells cs 111)
  have hlt := h1.lt
  have hsz : W.heap.size ≤ (W.alloc (.cells cs 111)).heap.size := hb.size
  refine ⟨?_, below_own (bthen h3 hb) hg (by omega) (fun j hj => (hlt j hj).1), ?_, by have := hg.size; omega⟩
  · unfold OwnR
    rw [List.length_append, List.flatMap_append]
    simpa using ho
  · intro y hy
    rcases List.mem_append.1 hy with hy | hy
    · exact h5 y hy
    · simp at hy; subst hy; exact hz
def InPost (w : World) (l : List Row) (e : Ending) (w' : World) : Prop := ∃ (A' : Option Addr) (L : List Row) (c' : Nat), e = .returned (.slice A' L.length c') ∧ OwnR w' w.heap.size (.slice A' L.length c') L ∧ L.length ≤ l.length ∧ (∀ x ∈ L, x ∈ l) ∧ (L = [] ∨ rowsB l = true) ∧ Below w.heap.size w w'
set_option maxRecDepth 100000 in
set_option maxHeartbeats 4000000 in
theorem rowsIn_any (A : Option Addr) (l : List Row) (c : Nat) (lo hi : ByteArray) (w : World) (hn : l.length ≤ 1000) (hf : ∀ x ∈ l, x.1.size ≤ maxLen) (hS : Sl encRow 2 w A l) :
    Calls Try.prog 231 #[.slice A l.length c, .string lo, .string hi] w (InPost w l) := by
  obtain ⟨i0, hi0, hz0, hz1, hz2⟩ := info_parts infoRow
  have HI := Lib.hid (⟨hi0, hz0, hz1, hz2⟩ : _ ∧ _ ∧ _ ∧ _)
  clear hi0 hz0 hz1 hz2
  have H0 : Hid (PRI w l (.slice (some ⟨w.heap.size, 0, none⟩) 0 0) [] (w.alloc (.cells #[] 111))) := Lib.hid ⟨own_of_blk (base := w.heap.size) (n := 0) (k := 2) (xs := []) (Blk.new w _ #[]) (Nat.le_refl _) (Nat.zero_le _) rfl rfl, kA w _, fun x h => absurd h (by simp), by simp⟩
  have HF := Lib.hid hf
  clear hf
  go_enter Try.func231, Try.ntmps231
  go_wp2
  go_loopw [7, 8] (fun v i wr => ∃ (k : Nat) (L : List Row) (AL : Option Addr) (cL : Nat), k ≤ l.length ∧ i = .int .i64 k ∧ v = .slice AL L.length cL ∧ L.length ≤ k ∧ Hid (k = 0 ∨ rowsB l = true) ∧ Hid (PRI w l v L wr)) (fun _ i _ => l.length - (intOf i).toNat)
  case atStart => exact ⟨0, [], _, _, by omega, rfl, rfl, by simp, Lib.hid (.inl rfl), H0⟩
  case round =>
    clear H0
    obtain ⟨k, L, AL, cL, hk, rfl, rfl, hLk, HK, HP⟩ := hrel
    by_cases hlt : k < l.length
    · have hki : (k : Int) < (l.length : Int) := by omega
      have hki0 : (0 : Int) ≤ (k : Int) := by omega
      go_wp2_with fail
      refine (specRowsOk_any A l c wr HF.out (by omega) (hS.below HP.out.2.1)).mono ?_
      rintro e w1 ⟨rfl, hb1⟩
      have HP := Lib.hid (HP.out.below hb1)
      clear hb1
      cases hr : rowsB l
      · have HE := Lib.hid (show L = [] from by
          rcases HK.out with h | h
          · exact List.eq_nil_of_length_eq_zero (by omega)
          · rw [hr] at h; cases h)
        go_wp2
        go_ret
        exact ⟨_, L, _, rfl, HP.out.1, by omega, HP.out.2.2.1, .inl HE.out, HP.out.2.1⟩
      have HR := Lib.hid hr
      obtain ⟨b, o, rfl, hbl, c0, c1⟩ := Sl.at2 (hS.below HP.out.2.1) hlt
      have HM := Lib.hid (List.getElem_mem hlt)
      have HS := Lib.hid hS
      clear hr hS
      generalize l[k] = x at *
      obtain ⟨xk, xn⟩ := x
      simp only at c0 c1
      cases h1 : Op.bytesLess xk.toList lo.toList
      case true =>
        go_wp2
        go_roundw
        case rel => exact ⟨k + 1, L, _, _, by omega, by go_num, rfl, by omega, Lib.hid (.inr HR.out), HP⟩
        case measure => simp [intOf]; omega
      cases h2 : Op.bytesLess xk.toList hi.toList
      case true =>
        have hownA := HP.out.1.alloc (.cells #[.string xk, .int .i64 xn] 111)
        have hnewA := new_cells w1 [.string xk, .int .i64 xn] 111
        have hszA := HP.out.2.2.2
        have HPA := Lib.hid HP.out
        go_wp2_with (at_builtin; refine wpList_append_own _ rfl (.tmp 36) (.tmp 41) 68 rfl w.heap.size 111 i0 _ 2 24 Try.underlying68 HI.out.1 HI.out.2.1 HI.out.2.2.1 HI.out.2.2.2 rfl (by decide) (.slice AL L.length cL) L.length (L.flatMap encRow) rfl hownA ⟨w1.heap.size, 0, none⟩ 1 1 [.string xk, .int .i64 xn] rfl rfl hnewA (by simp [Value.oneCell']) (by unfold maxLen; omega) (by omega) (by simp; omega) ?_; intro v8 w8 ho8 hg8 _; obtain ⟨L8, hL8, hp8⟩ : ∃ M : List Row, M.length = L.length + 1 ∧ PRI w l v8 M w8 := ⟨_, List.length_append, PRI.app (z := (xk, xn)) HPA.out HM.out _ ho8 hg8⟩; obtain ⟨A8, c8, rfl, _, _, _⟩ := hp8.1.sl; have HP := Lib.hid hp8; have HL8 := Lib.hid hL8; clear hownA hnewA hszA ho8 hg8 HPA hp8 hL8)
        go_roundw
        case rel => exact ⟨k + 1, L8, _, _, by omega, by go_num, rfl, by have := HL8.out; omega, Lib.hid (.inr HR.out), HP⟩
        case measure => simp [intOf]; omega
      cases h3 : (xk.toList == hi.toList)
      case true =>
        have hownA := HP.out.1.alloc (.cells #[.string xk, .int .i64 xn] 111)
        have hnewA := new_cells w1 [.string xk, .int .i64 xn] 111
        have hszA := HP.out.2.2.2
        have HPA := Lib.hid HP.out
        go_wp2_with (at_builtin; refine wpList_append_own _ rfl (.tmp 36) (.tmp 41) 68 rfl w.heap.size 111 i0 _ 2 24 Try.underlying68 HI.out.1 HI.out.2.1 HI.out.2.2.1 HI.out.2.2.2 rfl (by decide) (.slice AL L.length cL) L.length (L.flatMap encRow) rfl hownA ⟨w1.heap.size, 0, none⟩ 1 1 [.string xk, .int .i64 xn] rfl rfl hnewA (by simp [Value.oneCell']) (by unfold maxLen; omega) (by omega) (by simp; omega) ?_; intro v8 w8 ho8 hg8 _; obtain ⟨L8, hL8, hp8⟩ : ∃ M : List Row, M.length = L.length + 1 ∧ PRI w l v8 M w8 := ⟨_, List.length_append, PRI.app (z := (xk, xn)) HPA.out HM.out _ ho8 hg8⟩; obtain ⟨A8, c8, rfl, _, _, _⟩ := hp8.1.sl; have HP := Lib.hid hp8; have HL8 := Lib.hid hL8; clear hownA hnewA hszA ho8 hg8 HPA hp8 hL8)
        go_roundw
        case rel => exact ⟨k + 1, L8, _, _, by omega, by go_num, rfl, by have := HL8.out; omega, Lib.hid (.inr HR.out), HP⟩
        case measure => simp [intOf]; omega
      go_wp2
      go_roundw
      case rel => exact ⟨k + 1, L, _, _, by omega, by go_num, rfl, by omega, Lib.hid (.inr HR.out), HP⟩
      case measure => simp [intOf]; omega
    · obtain rfl : k = l.length := by omega
      go_wp2
      go_ret
      refine ⟨_, L, _, rfl, HP.out.1, hLk, HP.out.2.2.1, ?_, HP.out.2.1⟩
      rcases HK.out with h | h
      · exact .inl (List.eq_nil_of_length_eq_zero (by omega))
      · exact .inr h
def SumPost (w : World) (e : Ending) (w' : World) : Prop := ∃ n : Int, e = .returned (.int .i64 n) ∧ -999000 ≤ n ∧ n ≤ 999000 ∧ Below w.heap.size w w'
set_option maxRecDepth 100000 in
set_option maxHeartbeats 4000000 in
theorem rowsSum_any (A : Option Addr) (l : List Row) (c : Nat) (w : World) (hn : l.length ≤ 1000) (hf : ∀ x ∈ l, x.1.size ≤ maxLen) (hS : Sl encRow 2 w A l) :
    Calls Try.prog 232 #[.slice A l.length c] w (SumPost w) := by
  have HF := Lib.hid hf
  have H0 := Lib.hid (Below.refl w.heap.size w)
  clear hf
  go_enter Try.func232, Try.ntmps232
  go_wp2
  go_loopw [3, 4] (fun v i wr => ∃ (k : Nat) (n : Int), k ≤ l.length ∧ i = .int .i64 k ∧ v = .int .i64 n ∧ -(999 * (k : Int)) ≤ n ∧ n ≤ 999 * (k : Int) ∧ Hid (Below w.heap.size w wr)) (fun _ i _ => l.length - (intOf i).toNat)
  case atStart => exact ⟨0, 0, by omega, rfl, rfl, by omega, by omega, H0⟩
  case round =>
    clear H0
    obtain ⟨k, n, hk, rfl, rfl, hn1, hn2, HB⟩ := hrel
    by_cases hlt : k < l.length
    · have hki : (k : Int) < (l.length : Int) := by omega
      have hki0 : (0 : Int) ≤ (k : Int) := by omega
      go_wp2_with fail
      refine (specRowsOk_any A l c wr HF.out (by omega) (hS.below HB.out)).mono ?_
      rintro e w1 ⟨rfl, hb1⟩
      have HB := Lib.hid (bthen HB.out hb1)
      clear hb1
      cases hr : rowsB l
      · go_wp2
        go_ret
        exact ⟨n, rfl, by omega, by omega, HB.out⟩
      obtain ⟨b, o, rfl, hbl, c0, c1⟩ := Sl.at2 (hS.below HB.out) hlt
      have hT := rowsB_T hr l[k] (List.getElem_mem hlt)
      clear hr hS
      generalize l[k] = x at *
      obtain ⟨xk, xn⟩ := x
      simp only at c0 c1 hT
      obtain ⟨-, hT1, hT2⟩ := hT
      have hw : IntKind.i64.wrap (n + xn) = n + xn := by rw [IntKind.wrap_i64]; omega
      go_wp2
      go_roundw
      case rel => exact ⟨k + 1, n + xn, by omega, by go_num, by go_num, by omega, by omega, HB⟩
      case measure => simp [intOf]; omega
    · obtain rfl : k = l.length := by omega
      go_wp2
      go_ret
      exact ⟨n, rfl, by omega, by omega, HB.out⟩
end Go.Proofs.Ytpjkcmmmpgncmaa
/- The reference's l4Told: the rows that are told. -/
namespace Go.Proofs.Ytpjkcmmmpgncmaa
open Go.RowKit
theorem getR_small {l : List Row} {K : ByteArray} : -999 ≤ (getR l K).1 ∧ (getR l K).1 ≤ 999 := by
  unfold getR
  split
  · rename_i h
    cases hf : l.find? (fun x => decide (x.1 = K)) with
    | none => simp
    | some x => exact (rowsB_T h x (List.mem_of_find?_eq_some hf)).2
  · simp
theorem RK.rl {W : World} {A : Option Addr} {l : List Row} {c : Nat} (h : RK W A l c) : ∀ x ∈ l, x.1.size ≤ maxLen := h.2.1
theorem rowsT_nil : RowsT [] := fun x h => absurd h (by simp)
/-- how l4Told leaves -/
def ToldPost (w : World) (e : Ending) (w' : World) : Prop := ∃ (A' : Option Addr) (rs : List Row) (c' : Nat) (d : Int), e = .returned (.tuple #[.slice A' rs.length c', .int .i64 d]) ∧ RK w' A' rs c' ∧ rs.length ≤ 70 ∧ RowsT rs ∧ 0 ≤ d ∧ d ≤ 6 ∧ Below w.heap.size w w'
theorem rk_one (w : World) (k : ByteArray) (n : Int) (h : k.size ≤ maxLen) : RK (w.alloc (.cells #[.string k, .int .i64 n] 111)) (some ⟨w.heap.size, 0, none⟩) [(k, n)] 1 :=
  RK.of (B := w.heap.size) (own_of_blk (base := w.heap.size) (n := 1) (k := 2) (xs := [.string k, .int .i64 n]) (Blk.new w _ _) (Nat.le_refl _) (by decide) rfl rfl) (fun x hx => by simp at hx; subst hx; exact h)
theorem rk_none (w : World) : RK (w.alloc (.cells #[] 111)) (some ⟨w.heap.size, 0, none⟩) [] 0 :=
  RK.of (B := w.heap.size) (own_of_blk (base := w.heap.size) (n := 0) (k := 2) (xs := []) (Blk.new w _ #[]) (Nat.le_refl _) (Nat.zero_le _) rfl rfl) (fun x hx => by simp at hx)
theorem InPost.told {l : List Row} {L : List Row} (hL : ∀ x ∈ L, x ∈ l) (h : L = [] ∨ rowsB l = true) : RowsT L := by
  rcases h with rfl | h
  · exact rowsT_nil
  · intro x hx
    have := rowsB_T h x (hL x hx)
    exact ⟨this.1, by omega, by omega⟩
set_option maxRecDepth 100000 in
set_option maxHeartbeats 8000000 in
theorem l4Told_any (A : Option Addr) (l : List Row) (c : Nat) (x : AskV) (w : World) (hn : l.length ≤ 70) (hR : RK w A l c) (hx : x.2.1.size ≤ 2) :
    Calls Try.prog 218 #[.slice A l.length c, .agg #[.int .i64 x.1, .string x.2.1, .string x.2.2.1, .int .i64 x.2.2.2]] w (ToldPost w) := by
  obtain ⟨ak, aa, ab, an⟩ := x
  simp only at hx ⊢
  have HXS := Lib.hid hx
  have HXM := Lib.hid (show aa.size ≤ maxLen by unfold maxLen; omega)
  have HF := Lib.hid hR.2
  have hbE := allocAll_below w [(128, #[.int .i64 ak, .string aa, .string ab, .int .i64 an])]
  have H : Hid (SP w [(w.heap.size, 128, #[.int .i64 ak, .string aa, .string ab, .int .i64 an])] [fun W => RK W A l c] ((allocAll w [(128, #[.int .i64 ak, .string aa, .string ab, .int .i64 an])]))) := Lib.hid (SP.add (SP.start w [(128, #[.int .i64 ak, .string aa, .string ab, .int .i64 an])]) _ RK.c (RK.c _ _ (Kp.below hbE) hR))
  clear hbE
  go_enter Try.func218, Try.ntmps218
  clear hR hx
  obtain ⟨x0_0, x0_1, x0_2, x0_3⟩ := Blk.q4 (H.out.blk 0 rfl)
  by_cases h2 : ak = 2
  case pos =>
    subst h2
    go_wp2_with fail
    change Calls _ _ _ (allocAll w [(128, #[.int .i64 2, .string aa, .string ab, .int .i64 an])]) _
    generalize (allocAll w [(128, #[.int .i64 2, .string aa, .string ab, .int .i64 an])]) = w0 at *
    refine (rowsIn_any A l c aa ab w0 (by omega) HF.out.1 (RK.sl (H.out.get 0 rfl))).mono ?_
    rintro e w1 ⟨A1, L, c1, rfl, ho1, hl1, hm1, hr1, hb1⟩
    have hT := InPost.told hm1 hr1
    replace H : Hid (SP w [(w.heap.size, 128, #[.int .i64 2, .string aa, .string ab, .int .i64 an])] [fun W => RK W A l c, fun W => RK W A1 L c1] w1) := Lib.hid (SP.add (H.out.kept hb1) _ RK.c (RK.of ho1 (fun x hx => HF.out.1 x (hm1 x hx))))
    clear x0_0 x0_1 x0_2 x0_3 hb1
    go_wp2
    go_ret2
    exact ⟨_, L, _, 0, rfl, H.out.get 1 rfl, by omega, hT, by decide, by decide, H.out.below⟩
  by_cases h3 : ak = 3
  case pos =>
    subst h3
    clear h2
    go_wp2_with fail
    change Code.wp _ _ _ _ (allocAll w [(128, #[.int .i64 3, .string aa, .string ab, .int .i64 an])])
    generalize (allocAll w [(128, #[.int .i64 3, .string aa, .string ab, .int .i64 an])]) = w0 at *
    have H := Lib.hid (H.out.kept (kD w0))
    go_region_held3 (fun W => W.cell? ⟨w.heap.size, 1, none⟩ = some (.string aa) ∧ W.cell? ⟨w.heap.size, 2, none⟩ = some (.string ab))
      (first | assumption | go_keep)
      (first
        | (go_at_call 231
           refine (rowsIn_any A l c aa ab _ (by omega) HF.out.1 (RK.sl (H.out.get 0 rfl))).mono ?_
           rintro e wk ⟨A1, L, c1, rfl, ho1, hl1, hm1, hr1, hb1⟩
           have H := Lib.hid (SP.add (H.out.kept hb1) (fun W => RK W A1 L c1) RK.c (RK.of ho1 (fun x hx => HF.out.1 x (hm1 x hx))))
           have hkk : wk.cell? ⟨w.heap.size, 1, none⟩ = some (.string aa) ∧ wk.cell? ⟨w.heap.size, 2, none⟩ = some (.string ab) := ⟨(H.out.blk 0 rfl).cell 1, (H.out.blk 0 rfl).cell 2⟩
           clear ho1 hm1 hr1 hb1)
        | (go_at_call 232
           refine (rowsSum_any A1 L c1 _ (by omega) (RK.rl (H.out.get 1 rfl)) (RK.sl (H.out.get 1 rfl))).mono ?_
           rintro e wk ⟨n, rfl, hn1, hn2, hb1⟩
           have H := Lib.hid (H.out.kept hb1)
           have HN := Lib.hid (⟨hn1, hn2⟩ : _ ∧ _)
           have hkk : wk.cell? ⟨w.heap.size, 1, none⟩ = some (.string aa) ∧ wk.cell? ⟨w.heap.size, 2, none⟩ = some (.string ab) := ⟨(H.out.blk 0 rfl).cell 1, (H.out.blk 0 rfl).cell 2⟩
           clear hb1 hn1 hn2))
    all_goals
      go_wp2
      go_ret2
      exact ⟨_, [(aa, n)], 1, 0, rfl, rk_one wk aa n HXM.out, by simp, fun x hx => by simp at hx; subst hx; exact ⟨HXS.out, HN.out⟩, by decide, by decide, bthen H.out.below (kA wk _)⟩
  have e2 : (ak == 2) = false := beq_eq_false_iff_ne.2 h2
  have e3 : (ak == 3) = false := beq_eq_false_iff_ne.2 h3
  go_wp2_with fail
  change Calls _ _ _ (allocAll w [(128, #[.int .i64 ak, .string aa, .string ab, .int .i64 an])]) _
  generalize (allocAll w [(128, #[.int .i64 ak, .string aa, .string ab, .int .i64 an])]) = w0 at *
  refine (specRowsGet_any A l c aa w0 HF.out.1 (by omega) (RK.sl (H.out.get 0 rfl))).mono ?_
  rintro e w1 ⟨rfl, hb1⟩
  replace H := Lib.hid (H.out.kept hb1)
  clear x0_0 x0_1 x0_2 x0_3 hb1
  have HG := Lib.hid (getR_small (l := l) (K := aa))
  generalize getR l aa = gr at *
  obtain ⟨n, ok⟩ := gr
  simp only
  cases ok
  case false =>
    go_wp2
    go_ret2
    exact ⟨_, [], 0, 4, rfl, rk_none w1, by simp, rowsT_nil, by decide, by decide, bthen H.out.below (kA w1 _)⟩
  obtain ⟨x0_0, x0_1, x0_2, x0_3⟩ := Blk.q4 (H.out.blk 0 rfl)
  go_wp2
  go_ret2
  exact ⟨_, [(aa, n)], 1, 0, rfl, rk_one w1 aa n HXM.out, by simp, fun x hx => by simp at hx; subst hx; have := HG.out; exact ⟨HXS.out, by simp only at *; omega, by simp only at *; omega⟩, by decide, by decide, bthen H.out.below (kA w1 _)⟩
end Go.Proofs.Ytpjkcmmmpgncmaa
