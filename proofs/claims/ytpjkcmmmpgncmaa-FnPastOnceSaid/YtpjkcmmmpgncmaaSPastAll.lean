/- The reference's PastAll. -/
import Derived.Test.YtpjkcmmmpgncmaaL8At
import Derived.Test.YtpjkcmmmpgncmaaWriSS
import Derived.Test.YtpjkcmmmpgncmaaVerS
namespace Go.Proofs.Ytpjkcmmmpgncmaa
open Go.RowKit
theorem encWrow_one (l : List Wrow) : ∀ u ∈ l.flatMap encWrow, u.oneCell' = true := by
  intro u hu
  obtain ⟨x, _, hx⟩ := List.mem_flatMap.1 hu
  simp [encWrow] at hx
  subst hx; rfl
def Dist (qs : List Wrow) : Prop := qs.Pairwise (fun a b => ∀ x, (Value.slice a.1 a.2.2.length a.2.1).ownBlock = some x → (Value.slice b.1 b.2.2.length b.2.1).ownBlock ≠ some x)
/-- rows of writes in memory of one's own, each in a block of its own -/
def QS (W : World) (B : Nat) (v : Value) (qs : List Wrow) : Prop :=
  W.ownsRow B 41 1 v qs.length (qs.flatMap encWrow) ∧ (∀ r ∈ qs, OwnW W B (.slice r.1 r.2.2.length r.2.1) r.2.2) ∧ Dist qs ∧ (∀ r ∈ qs, FitsW r.2.2 ∧ r.2.2.length ≤ 120)
theorem QS.below {W W' : World} {B : Nat} {v : Value} {qs : List Wrow} (h : QS W B v qs) (hb : Below W.heap.size W W') : QS W' B v qs := ⟨own_kept h.1 hb, fun r hr => (h.2.1 r hr).below hb, h.2.2⟩
theorem QS.le {W : World} {B B2 : Nat} {v : Value} {qs : List Wrow} (h : QS W B v qs) (hb : B2 ≤ B) : QS W B2 v qs := ⟨Go.Joins.ownsRow_le h.1 hb, fun r hr => (h.2.1 r hr).leB hb, h.2.2⟩
theorem own_apart {W : World} {B B2 k k2 n n2 : Nat} {e e2 : TypeId} {v v2 : Value} {xs xs2 : List Value} (h : W.ownsRow B e k v n xs) (h2 : W.ownsRow B2 e2 k2 v2 n2 xs2) (hne : e ≠ e2) : ∀ j, v.ownBlock = some j → v2.ownBlock = some j → False := by
  intro j h3 h4
  rcases h.2 with ⟨rfl, _⟩ | ⟨g, cap, cur, rfl, _, hh, _⟩
  · simp [Value.ownBlock] at h3
  · rcases h2.2 with ⟨rfl, _⟩ | ⟨g2, cap2, cur2, rfl, _, hh2, _⟩
    · simp [Value.ownBlock] at h4
    · simp [Value.ownBlock] at h3 h4
      subst h3; subst h4
      rw [hh] at hh2
      simp at hh2
      exact hne hh2.2
theorem own_farW {w w' : World} {B k : Nat} {e : TypeId} {v v2 : Value} {n : Nat} {xs : List Value} (h : w.ownsRow B e k v n xs) (hg : w.grownBy w' v2.ownBlock) (hd : ∀ j, v.ownBlock = some j → v2.ownBlock = some j → False) : w'.ownsRow B e k v n xs := by
  refine h.kept hg ?_
  cases hv : v.ownBlock with
  | none => exact .inl rfl
  | some j => exact .inr (fun e => hd j hv e.symm)
theorem slq_one {w : World} {g : Nat} {r : Wrow} (h : Blk w g 41 #[.slice r.1 r.2.2.length r.2.1]) : Sl encWrow 1 w (some ⟨g, 0, none⟩) [r] := by
  intro _
  refine ⟨g, 0, rfl, h.lt, fun i j y hy hj => ?_⟩
  obtain ⟨rfl, rfl⟩ : i = 0 ∧ y = r := by
    cases i with
    | zero => simp at hy; exact ⟨rfl, hy.symm⟩
    | succ i => simp at hy
  obtain rfl : j = 0 := by omega
  simp only [Nat.zero_mul, Nat.zero_add]
  rw [h.cell]; rfl
/-- one row more behind it -/
theorem QS.app {W W' : World} {B N : Nat} {v v' : Value} {qs qs2 : List Wrow} {r : Wrow} (h : QS W B v qs) (hg : W.grownBy W' v.ownBlock) (ho : W'.ownsRow B 41 1 v' qs2.length (qs2.flatMap encWrow)) (hq : qs2 = qs ++ [r]) (hr : OwnW W N (.slice r.1 r.2.2.length r.2.1) r.2.2) (hB : B ≤ N) (hN : ∀ s ∈ qs, ∀ j, (Value.slice s.1 s.2.2.length s.2.1).ownBlock = some j → j < N) (hf : FitsW r.2.2 ∧ r.2.2.length ≤ 120) : QS W' B v' qs2 := by
  obtain ⟨h1, h2, h3, h4⟩ := h
  subst hq
  refine ⟨ho, fun s hs => ?_, List.pairwise_append.2 ⟨h3, List.pairwise_singleton _ _, fun a ha b hb x hx e => ?_⟩, fun s hs => ?_⟩
  · rcases List.mem_append.1 hs with hs | hs
    · exact own_farW (h2 s hs) hg (own_apart (h2 s hs) h1 (by decide))
    · simp at hs; subst hs
      exact own_farW (hr.leB hB) hg (own_apart (hr.leB hB) h1 (by decide))
  · simp at hb; subst hb
    have := hN a ha x hx
    have := (hr.lt x e).1
    omega
  · rcases List.mem_append.1 hs with hs | hs
    · exact h4 s hs
    · simp at hs; subst hs; exact hf
theorem ownQ_app {w : World} {B : Nat} {v : Value} {l m : List Wrow} (h : w.ownsRow B 41 1 v (l.length + m.length) (l.flatMap encWrow ++ m.flatMap encWrow)) : w.ownsRow B 41 1 v (l ++ m).length ((l ++ m).flatMap encWrow) := by
  rw [List.length_append, List.flatMap_append]; exact h
set_option maxRecDepth 100000 in
set_option maxHeartbeats 3000000 in
theorem specPastAll_any (A : Option Addr) (l : List Ver) (c : Nat) (now : Int) (w : World) (hf : FitsV l) (hl : l.length ≤ 60) (hn1 : now ≤ 40) (hS : Sl encVer 4 w A l) :
    Calls Try.prog 36 #[.agg #[.int .i64 now, .slice A l.length c]] w fun e w' => ∃ (qs : List Wrow) (A' : Option Addr) (c' : Nat), e = .returned (.slice A' qs.length c') ∧ QS w' w.heap.size (.slice A' qs.length c') qs ∧ qs.length ≤ 40 ∧ Below w.heap.size w w' := by
  obtain ⟨i0, hi, hz0, hz1, hz2⟩ := info_parts infoRowS
  have HI := Lib.hid (⟨hi, hz0, hz1, hz2⟩ : _ ∧ _ ∧ _ ∧ _)
  clear hi hz0 hz1 hz2
  have hb0 := ((Below.refl w.heap.size w).alloc (Nat.le_refl _) (.cells #[.int .i64 now, .slice A l.length c] 32)).alloc (by simp) (.cells #[] 41)
  have hB0 := (Blk.new w 32 #[.int .i64 now, .slice A l.length c]).alloc (.cells #[] 41)
  have hBe := Blk.new (w.alloc (.cells #[.int .i64 now, .slice A l.length c] 32)) 41 #[]
  rw [World.size_alloc] at hBe
  have ho := own_of_blk (base := w.heap.size + 1) (n := 0) (k := 1) (xs := []) hBe (by omega) (Nat.zero_le _) rfl rfl
  have HST := Lib.hid (show Blk ((w.alloc (.cells #[.int .i64 now, .slice A l.length c] 32)).alloc (.cells #[] 41)) w.heap.size 32 #[.int .i64 now, .slice A l.length c] ∧ QS ((w.alloc (.cells #[.int .i64 now, .slice A l.length c] 32)).alloc (.cells #[] 41)) (w.heap.size + 1) (.slice (some ⟨w.heap.size + 1, 0, none⟩) 0 0) [] ∧ Below w.heap.size w ((w.alloc (.cells #[.int .i64 now, .slice A l.length c] 32)).alloc (.cells #[] 41)) from ⟨hB0, ⟨ho, fun r h => absurd h (by simp), List.Pairwise.nil, fun r h => absurd h (by simp)⟩, hb0⟩)
  have HF := Lib.hid hf
  have HRA := Lib.hid hS
  clear hb0 hB0 hBe ho hf hS
  go_enter Try.func36, Try.ntmps36
  go_wp2
  generalize (w.alloc (.cells #[.int .i64 now, .slice A l.length c] 32)).alloc (.cells #[] 41) = w0 at *
  go_loopw [3, 4] (fun v i wr => ∃ (k : Nat) (A5 : Option Addr) (qs : List Wrow) (c5 : Nat), v = .slice A5 qs.length c5 ∧ i = .int .i64 ((k : Int) + 1) ∧ qs.length = k ∧ k ≤ 40 ∧ Hid (Blk wr w.heap.size 32 #[.int .i64 now, .slice A l.length c] ∧ QS wr (w.heap.size + 1) (.slice A5 qs.length c5) qs ∧ Below w.heap.size w wr)) (fun _ i _ => (now + 1 - intOf i).toNat)
  case atStart => exact ⟨0, _, [], 0, rfl, rfl, rfl, by omega, HST.out⟩
  case round =>
    clear HST
    obtain ⟨k, A5, qs, c5, rfl, rfl, hqk, hk40, HA⟩ := hrel
    have HQK := Lib.hid hqk
    have hq40 : qs.length ≤ 40 := by omega
    clear hqk
    have r0 : wr.cell? ⟨w.heap.size, 0, none⟩ = some (.int .i64 now) := HA.out.1.cell 0
    have r1 : wr.cell? ⟨w.heap.size, 1, none⟩ = some (.slice A l.length c) := HA.out.1.cell 1
    by_cases hle : (k : Int) + 1 ≤ now
    · have d0 : decide ((k : Int) + 1 ≤ now) = true := decide_eq_true hle
      have HVO := Lib.hid (specVersOk_any A l c now wr HF.out (by omega) (HRA.out.below HA.out.2.2))
      go_wp2_with fail
      refine HVO.out.mono ?_
      rintro e w1 ⟨rfl, hb1⟩
      have HA1 := Lib.hid (⟨HA.out.1.kept hb1, HA.out.2.1.below hb1, bthen HA.out.2.2 hb1⟩ : _ ∧ _ ∧ _)
      clear HVO HA hb1 r0 r1
      cases hv : versB now l
      · clear hv
        go_wp2
        go_ret
        exact ⟨qs, A5, c5, rfl, HA1.out.2.1.le (by omega), hq40, HA1.out.2.2⟩
      · clear hv
        have r0 : w1.cell? ⟨w.heap.size, 0, none⟩ = some (.int .i64 now) := HA1.out.1.cell 0
        have r1 : w1.cell? ⟨w.heap.size, 1, none⟩ = some (.slice A l.length c) := HA1.out.1.cell 1
        have HAT := Lib.hid (l8At_any A l c now ((k : Int) + 1) w1 HF.out (by omega) (HRA.out.below HA1.out.2.2))
        have HLT := Lib.hid (show ∀ s ∈ qs, ∀ j, (Value.slice s.1 s.2.2.length s.2.1).ownBlock = some j → j < w1.heap.size from fun s hs j hj => ((HA1.out.2.1.2.1 s hs).lt j hj).2)
        have hww := HA1.out.1.lt
        go_wp2_with fail
        refine HAT.out.mono ?_
        rintro e w2 ⟨ws, vr, rfl, how, hfw, hwl, hb2⟩
        obtain ⟨Ar, cr, rfl, _, _, hSr⟩ := how.sl
        have hbm := (Below.refl w2.heap.size w2).alloc (Nat.le_refl _) (.cells #[.slice Ar ws.length cr] 41)
        have hb23 := bthen hb2 hbm
        have HA3 := Lib.hid (⟨HA1.out.1.kept hb23, HA1.out.2.1.below hb23, bthen HA1.out.2.2 hb23⟩ : _ ∧ _ ∧ _)
        have HOR := Lib.hid (how.below hbm)
        have HXS := Lib.hid (slq_one (r := (Ar, cr, ws)) (Blk.new w2 41 #[.slice Ar ws.length cr]))
        have HFW := Lib.hid (⟨hfw, by omega⟩ : FitsW ws ∧ ws.length ≤ 120)
        have H63 := Lib.hid (show qs.length + [((Ar, cr, ws) : Wrow)].length ≤ maxLen by unfold maxLen; simp; omega)
        have HBY := Lib.hid (show (qs.length + [((Ar, cr, ws) : Wrow)].length) * 24 ≤ 140737488355328 by simp; omega)
        have HBS := Lib.hid (show w.heap.size + 1 ≤ (w2.alloc (.cells #[.slice Ar ws.length cr] 41)).heap.size by have := hb2.size; simp; omega)
        clear HAT HA1 how hfw hb2 hbm hb23 hSr r0 r1
        go_wp2_with (at_builtin; refine wpList_append_slM (enc := encWrow) rfl (.tmp 16) (.tmp 20) 62 rfl (w.heap.size + 1) 41 i0 _ 1 24 Try.underlying62 HI.out.1 HI.out.2.1 HI.out.2.2.1 HI.out.2.2.2 rfl (by decide) (.slice A5 qs.length c5) qs.length (qs.flatMap encWrow) rfl HA3.out.2.1.1 encWrow_len (some ⟨w2.heap.size, 0, none⟩) [((Ar, cr, ws) : Wrow)] 1 1 rfl (by first | rfl | simp [Act.eval]) HXS.out (encWrow_one _) H63.out HBY.out HBS.out ?_; intro v' w3 hown hgr _; obtain ⟨q2, hq2, ho⟩ : ∃ q2, q2 = qs ++ [((Ar, cr, ws) : Wrow)] ∧ w3.ownsRow (w.heap.size + 1) 41 1 v' q2.length (q2.flatMap encWrow) := ⟨_, rfl, ownQ_app hown⟩; have HQ := Lib.hid (HA3.out.2.1.app hgr ho hq2 HOR.out (by omega) HLT.out HFW.out); have HL2 := Lib.hid (show q2.length = k + 1 from (by rw [hq2, List.length_append, HQK.out]; rfl)); obtain ⟨A6, c6, rfl, _, _, hS6⟩ := Sl.of_own encWrow_len ho; have HB3 := Lib.hid (HA3.out.1.grown hgr (fun e => by have := (HA3.out.2.1.1.lt _ e.symm).1; omega)); have HBW := Lib.hid (below_own HA3.out.2.2 hgr HA3.out.2.2.size (fun j hj => by have := (HA3.out.2.1.1.lt j hj).1; omega)); clear hown hgr ho hq2 hS6)
        go_roundw
        case rel => exact ⟨k + 1, A6, q2, c6, rfl, by go_num, HL2.out, by omega, HB3.out, HQ.out, HBW.out⟩
        case measure => simp [intOf]; omega
    · have d0 : decide ((k : Int) + 1 ≤ now) = false := decide_eq_false hle
      go_wp2
      go_ret
      exact ⟨qs, A5, c5, rfl, HA.out.2.1.le (by omega), hq40, HA.out.2.2⟩
end Go.Proofs.Ytpjkcmmmpgncmaa
