import Derived.Deep.RegionHeld3
import Derived.Deep.RegionWith
import Derived.Deep.Cut
import Derived.Deep.DeepCutAuto
import Derived.BigQuiet
import Derived.Test.YtpjkcmmmpgncmaaM10
import Derived.Test.YtpjkcmmmpgncmaaSpcA
import Derived.Test.YtpjkcmmmpgncmaaM03
/- The reference's AskRead: a text is read as what may be asked (bounds). -/
namespace Go.Proofs.Ytpjkcmmmpgncmaa
open Go.RowKit
theorem kDB (W : World) : Below W.heap.size W W.drew := (Below.refl _ _).drew
theorem cutSt_le (c : UInt8) (l : List UInt8) : (∀ p ∈ (cutSt c l).1, p.length ≤ l.length) ∧ (cutSt c l).2.length ≤ l.length := by
  induction l using snoc_rec with
  | h0 => exact ⟨fun p h => absurd h (by simp [cutSt]), Nat.le_refl _⟩
  | h1 l x ih =>
    rw [cutSt_snoc]
    by_cases h : x = c
    · rw [if_pos h]
      refine ⟨fun p hp => ?_, by simp⟩
      simp only [List.mem_append, List.mem_singleton] at hp
      rcases hp with hp | rfl
      · have := ih.1 p hp; simp; omega
      · have := ih.2; simp; omega
    · rw [if_neg h]
      refine ⟨fun p hp => ?_, by have := ih.2; simp; omega⟩
      have := ih.1 p hp; simp; omega
theorem pieces_le {c : UInt8} {l : List UInt8} : ∀ p ∈ pieces c l, p.length ≤ l.length := by
  intro p hp
  unfold pieces at hp
  rcases List.mem_append.1 hp with hp | hp
  · exact (cutSt_le c l).1 p hp
  · simp at hp; subst hp; exact (cutSt_le c l).2
theorem pieces_pos {c : UInt8} {l : List UInt8} : 1 ≤ (pieces c l).length := by unfold pieces; simp
/-- pieces of a text -/
def PK (W : World) (A : Option Addr) (ps : List (List UInt8)) (n : Nat) : Prop := SlK encP 1 9 W A ps ∧ (∀ p ∈ ps, p.length ≤ n)
theorem PK.c {A : Option Addr} {ps : List (List UInt8)} {n : Nat} : KpC (fun W => PK W A ps n) := fun _ _ hk h => ⟨h.1.kp hk (by decide), h.2⟩
theorem PK.at_ {W : World} {A : Option Addr} {ps : List (List UInt8)} {n : Nat} (h : PK W A ps n) {i : Nat} (hi : i < ps.length) : ∃ (b o : Nat) (s : ByteArray), A = some ⟨b, o, none⟩ ∧ b < W.heap.size ∧ W.cell? ⟨b, o + i, none⟩ = some (.string s) ∧ s.size ≤ n := by
  obtain ⟨b, o, e, hb, hc⟩ := h.1.sl (by omega)
  have hx := List.getElem?_eq_getElem hi
  have h0 := hc i 0 _ hx (by decide)
  simp only [Nat.mul_one, Nat.add_zero] at h0
  refine ⟨b, o, ⟨(ps[i]).toArray⟩, e, hb, h0, ?_⟩
  have := h.2 ps[i] (List.getElem_mem hi)
  simpa [ByteArray.size] using this
/-- how AskRead leaves -/
def ReadPost (w : World) (e : Ending) (w' : World) : Prop := ∃ (x : AskV) (b : Bool), e = .returned (.tuple #[.agg #[.int .i64 x.1, .string x.2.1, .string x.2.2.1, .int .i64 x.2.2.2], .bool b]) ∧ x.2.1.size ≤ maxLen ∧ x.2.2.1.size ≤ maxLen ∧ Below w.heap.size w w'
set_option maxRecDepth 100000 in
set_option maxHeartbeats 16000000 in
theorem askRead_any (s : ByteArray) (w : World) (hs : s.size ≤ 1048576) : Calls Try.prog 182 #[.string s] w (ReadPost w) := by
  have hbE := allocAll_below w [(128, #[.int .i64 0, .string ⟨#[]⟩, .string ⟨#[]⟩, .int .i64 0])]
  have H : Hid (SP w [(w.heap.size, 128, #[.int .i64 0, .string ⟨#[]⟩, .string ⟨#[]⟩, .int .i64 0])] [] ((allocAll w [(128, #[.int .i64 0, .string ⟨#[]⟩, .string ⟨#[]⟩, .int .i64 0])]))) := Lib.hid (SP.start w [(128, #[.int .i64 0, .string ⟨#[]⟩, .string ⟨#[]⟩, .int .i64 0])])
  clear hbE
  go_enter Try.func182, Try.ntmps182
  go_wp2_with fail
  change Calls _ _ _ (allocAll w [(128, #[.int .i64 0, .string ⟨#[]⟩, .string ⟨#[]⟩, .int .i64 0])]) _
  generalize (allocAll w [(128, #[.int .i64 0, .string ⟨#[]⟩, .string ⟨#[]⟩, .int .i64 0])]) = w0 at *
  refine (pieces_any s w0 hs).mono ?_
  rintro e w1 ⟨v, rfl, ho1, hb1⟩
  have hps : ∀ p ∈ pieces 32 s.data.toList, p.length ≤ 1048576 := fun p hp => by have := pieces_le p hp; have := tl_len s; omega
  have hp1 := pieces_pos (c := 32) (l := s.data.toList)
  generalize pieces 32 s.data.toList = ps at *
  obtain ⟨AP, cP, rfl, _, _, _⟩ := Sl.of_own (enc := encP) (fun _ => rfl) ho1
  replace H : Hid (SP w [(w.heap.size, 128, #[.int .i64 0, .string ⟨#[]⟩, .string ⟨#[]⟩, .int .i64 0])] [fun W => PK W AP ps 1048576] w1) := Lib.hid (SP.add (H.out.kept hb1) _ PK.c (⟨SlK.of_own (fun _ => rfl) ho1, hps⟩))
  clear hb1 ho1 hps
  have H := Lib.hid (H.out.alloc 128 #[.int .i64 0, .string ⟨#[]⟩, .string ⟨#[]⟩, .int .i64 0])
  go_wp2
  generalize (w1.alloc (.cells #[.int .i64 0, .string ⟨#[]⟩, .string ⟨#[]⟩, .int .i64 0] 128)) = w2 at *
  have H : Hid (SP w [(w.heap.size, 128, #[.int .i64 0, .string ⟨#[]⟩, .string ⟨#[]⟩, .int .i64 0]), (w1.heap.size, 128, #[.int .i64 0, .string ⟨#[]⟩, .string ⟨#[]⟩, .int .i64 0])] [fun W => PK W AP ps 1048576] w2) := Lib.hid H.out
  generalize w1.heap.size = g1 at *
  go_loopw [6] (fun i wr => ∃ (k : Nat) (kd : Int), i = .int .i64 k ∧ 1 ≤ k ∧ k ≤ 10 ∧ Hid (SP w [(w.heap.size, 128, #[.int .i64 0, .string ⟨#[]⟩, .string ⟨#[]⟩, .int .i64 0]), (g1, 128, #[.int .i64 kd, .string ⟨#[]⟩, .string ⟨#[]⟩, .int .i64 0])] [fun W => PK W AP ps 1048576] wr)) (fun i _ => 10 - (intOf i).toNat)
  case atStart => exact ⟨1, 0, rfl, by omega, by omega, H⟩
  case round =>
    clear H
    obtain ⟨k, kd, rfl, hk1, hk10, HQ⟩ := hrel
    have H := Lib.hid HQ.out
    clear HQ
    by_cases hlt : k ≤ 9
    case pos =>
      have hki : (k : Int) ≤ 9 := by omega
      obtain ⟨b, o, p0, rfl, hbl, c0, hp0⟩ := PK.at_ (H.out.get 0 rfl) (show 0 < ps.length by omega)
      rw [Nat.add_zero] at c0
      have hpl : (0 : Int) < (ps.length : Int) := by omega
      go_wp2_with fail
      replace H := Lib.hid (H.out.kept (kDB wr))
      go_region_with (go_at_call 191; refine (l4Word_any k _ (by omega)).mono ?_; rintro e wk ⟨s4, rfl, hs4, hbk⟩; have c0k : wk.cell? ⟨b, o, none⟩ = some (.string p0) := (hbk.cell (p := ⟨b, o, none⟩) hbl).trans c0; replace H := Lib.hid (H.out.kept hbk); have HBL := Lib.hid (Nat.lt_of_lt_of_le hbl hbk.size); clear hbk)
      all_goals
        clear c0
        cases hq : (s4.toList == p0.toList)
        case false =>
          go_wp2
          go_roundw
          case rel => exact ⟨k + 1, kd, by go_num, by omega, by omega, H⟩
          case measure => simp [intOf]; omega
        obtain ⟨x1_0, x1_1, x1_2, x1_3⟩ := Blk.q4 (H.out.blk 1 rfl)
        obtain ⟨z1_0, z1_1, z1_2, z1_3⟩ := Blk.z4 (H.out.blk 1 rfl)
        have HZ := Lib.hid (SP.set H.out 1 0 (.int .i64 (k : Int)) rfl (by decide))
        go_wp2
        go_roundw
        case rel => exact ⟨k + 1, k, by go_num, by omega, by omega, HZ⟩
        case measure => simp [intOf]; omega
    have hki : ¬ (k : Int) ≤ 9 := by omega
    obtain ⟨x1_0, x1_1, x1_2, x1_3⟩ := Blk.q4 (H.out.blk 1 rfl)
    go_wp2_with fail
    refine (l4Shape_any kd _).mono ?_
    rintro e w3 ⟨rfl, hb3⟩
    replace H := Lib.hid (H.out.kept hb3)
    clear x1_0 x1_1 x1_2 x1_3 hb3
    generalize shapeK kd = s3 at *
    obtain ⟨s1, s2, s3⟩ := s3
    simp only
    go_upto_region 9 with fail
    go_cut [37] (fun vx wx => ∃ bv : Bool, vx = .bool bv ∧ (bv = true → 1 < ps.length) ∧ Hid (SP w [(w.heap.size, 128, #[.int .i64 0, .string ⟨#[]⟩, .string ⟨#[]⟩, .int .i64 0]), (g1, 128, #[.int .i64 kd, .string ⟨#[]⟩, .string ⟨#[]⟩, .int .i64 0])] [fun W => PK W AP ps 1048576] wx))
    case first =>
      by_cases hln : 1 < ps.length
      case pos =>
        have hli : (1 : Int) < (ps.length : Int) := by omega
        cases s1
        all_goals
          go_wp2
          go_meet
          exact ⟨_, rfl, fun _ => hln, H⟩
      have hli : ¬ (1 : Int) < (ps.length : Int) := by omega
      have hlj : decide ((1 : Int) < (ps.length : Int)) = false := decide_eq_false hli
      cases s1
      all_goals
        go_wp2
        go_meet
        exact ⟨false, by first | rfl | simp, fun h => absurd h (by simp), H⟩
    case rest =>
      obtain ⟨bv, rfl, hbv, HQ⟩ := hcut
      clear H
      have H := Lib.hid HQ.out
      clear HQ
      go_upto_if 37 with fail
      go_cut [] (fun wx => ∃ ka : ByteArray, ka.size ≤ maxLen ∧ Hid (SP w [(w.heap.size, 128, #[.int .i64 0, .string ⟨#[]⟩, .string ⟨#[]⟩, .int .i64 0]), (g1, 128, #[.int .i64 kd, .string ka, .string ⟨#[]⟩, .int .i64 0])] [fun W => PK W AP ps 1048576] wx))
      case first =>
        cases bv
        case false =>
          go_wp2
          go_meet
          exact ⟨_, Nat.zero_le _, H⟩
        have hln := hbv rfl
        have hli : (1 : Int) < (ps.length : Int) := by omega
        obtain ⟨b, o, p0, rfl, hbl, c0, hp0⟩ := PK.at_ (H.out.get 0 rfl) hln
        obtain ⟨x1_0, x1_1, x1_2, x1_3⟩ := Blk.q4 (H.out.blk 1 rfl)
        obtain ⟨z1_0, z1_1, z1_2, z1_3⟩ := Blk.z4 (H.out.blk 1 rfl)
        have HZ := Lib.hid (SP.set H.out 1 1 (.string p0) rfl (by decide))
        go_wp2
        go_meet
        exact ⟨p0, by unfold maxLen; omega, HZ⟩
      case rest =>
        obtain ⟨ka, hs1, HQ⟩ := hcut
        clear H
        have H := Lib.hid HQ.out
        clear HQ hbv
        go_upto_region 11 with fail
        go_cut [47] (fun vx wx => ∃ bv : Bool, vx = .bool bv ∧ (bv = true → 2 < ps.length) ∧ Hid (SP w [(w.heap.size, 128, #[.int .i64 0, .string ⟨#[]⟩, .string ⟨#[]⟩, .int .i64 0]), (g1, 128, #[.int .i64 kd, .string ka, .string ⟨#[]⟩, .int .i64 0])] [fun W => PK W AP ps 1048576] wx))
        case first =>
          by_cases hln : 2 < ps.length
          case pos =>
            have hli : (2 : Int) < (ps.length : Int) := by omega
            cases s2
            all_goals
              go_wp2
              go_meet
              exact ⟨_, rfl, fun _ => hln, H⟩
          have hli : ¬ (2 : Int) < (ps.length : Int) := by omega
          have hlj : decide ((2 : Int) < (ps.length : Int)) = false := decide_eq_false hli
          cases s2
          all_goals
            go_wp2
            go_meet
            exact ⟨false, by first | rfl | simp, fun h => absurd h (by simp), H⟩
        case rest =>
          obtain ⟨bv, rfl, hbv, HQ⟩ := hcut
          clear H
          have H := Lib.hid HQ.out
          clear HQ
          go_upto_if 47 with fail
          go_cut [] (fun wx => ∃ kb : ByteArray, kb.size ≤ maxLen ∧ Hid (SP w [(w.heap.size, 128, #[.int .i64 0, .string ⟨#[]⟩, .string ⟨#[]⟩, .int .i64 0]), (g1, 128, #[.int .i64 kd, .string ka, .string kb, .int .i64 0])] [fun W => PK W AP ps 1048576] wx))
          case first =>
            cases bv
            case false =>
              go_wp2
              go_meet
              exact ⟨_, Nat.zero_le _, H⟩
            have hln := hbv rfl
            have hli : (2 : Int) < (ps.length : Int) := by omega
            obtain ⟨b, o, p0, rfl, hbl, c0, hp0⟩ := PK.at_ (H.out.get 0 rfl) hln
            obtain ⟨x1_0, x1_1, x1_2, x1_3⟩ := Blk.q4 (H.out.blk 1 rfl)
            obtain ⟨z1_0, z1_1, z1_2, z1_3⟩ := Blk.z4 (H.out.blk 1 rfl)
            have HZ := Lib.hid (SP.set H.out 1 2 (.string p0) rfl (by decide))
            go_wp2
            go_meet
            exact ⟨p0, by unfold maxLen; omega, HZ⟩
          case rest =>
            obtain ⟨kb, hs2, HQ⟩ := hcut
            clear H
            have H := Lib.hid HQ.out
            clear HQ hbv
            go_upto_region 13 with fail
            go_cut [57] (fun vx wx => ∃ bv : Bool, vx = .bool bv ∧ (bv = true → 2 < ps.length) ∧ Hid (SP w [(w.heap.size, 128, #[.int .i64 0, .string ⟨#[]⟩, .string ⟨#[]⟩, .int .i64 0]), (g1, 128, #[.int .i64 kd, .string ka, .string kb, .int .i64 0])] [fun W => PK W AP ps 1048576] wx))
            case first =>
              by_cases hln : 2 < ps.length
              case pos =>
                have hli : (2 : Int) < (ps.length : Int) := by omega
                cases s3
                all_goals
                  go_wp2
                  go_meet
                  exact ⟨_, rfl, fun _ => hln, H⟩
              have hli : ¬ (2 : Int) < (ps.length : Int) := by omega
              have hlj : decide ((2 : Int) < (ps.length : Int)) = false := decide_eq_false hli
              cases s3
              all_goals
                go_wp2
                go_meet
                exact ⟨false, by first | rfl | simp, fun h => absurd h (by simp), H⟩
            case rest =>
              obtain ⟨bv, rfl, hbv, HQ⟩ := hcut
              clear H
              have H := Lib.hid HQ.out
              clear HQ
              go_upto_if 57 with fail
              go_cut [] (fun wx => ∃ kn : Int, Hid (SP w [(w.heap.size, 128, #[.int .i64 0, .string ⟨#[]⟩, .string ⟨#[]⟩, .int .i64 0]), (g1, 128, #[.int .i64 kd, .string ka, .string kb, .int .i64 kn])] [fun W => PK W AP ps 1048576] wx))
              case first =>
                cases bv
                case false =>
                  go_wp2
                  go_meet
                  exact ⟨_, H⟩
                have hln := hbv rfl
                have hli : (2 : Int) < (ps.length : Int) := by omega
                obtain ⟨b, o, p0, rfl, hbl, c0, hp0⟩ := PK.at_ (H.out.get 0 rfl) hln
                obtain ⟨x1_0, x1_1, x1_2, x1_3⟩ := Blk.q4 (H.out.blk 1 rfl)
                obtain ⟨z1_0, z1_1, z1_2, z1_3⟩ := Blk.z4 (H.out.blk 1 rfl)
                clear x1_0 x1_1 x1_2 x1_3 z1_0 z1_1 z1_2 z1_3
                go_wp2_with fail
                refine (l11Num_any p0 _ (by omega)).mono ?_
                rintro e wn ⟨⟨n, rfl⟩, rfl⟩
                obtain ⟨x1_0, x1_1, x1_2, x1_3⟩ := Blk.q4 (H.out.blk 1 rfl)
                obtain ⟨z1_0, z1_1, z1_2, z1_3⟩ := Blk.z4 (H.out.blk 1 rfl)
                have HZ := Lib.hid (SP.set H.out 1 3 (.int .i64 n) rfl (by decide))
                go_wp2
                go_meet
                exact ⟨n, HZ⟩
              case rest =>
                obtain ⟨kn, HQ⟩ := hcut
                clear H
                have H := Lib.hid HQ.out
                clear HQ hbv
                by_cases h0 : s.size = 0
                case pos =>
                  have hse : (s.toList == []) = true := by rw [beq_iff_eq, ByteArray.toList_eq]; exact List.eq_nil_of_length_eq_zero (by rw [tl_len]; exact h0)
                  obtain ⟨x0_0, x0_1, x0_2, x0_3⟩ := Blk.q4 (H.out.blk 0 rfl)
                  obtain ⟨z0_0, z0_1, z0_2, z0_3⟩ := Blk.z4 (H.out.blk 0 rfl)
                  have HZ := Lib.hid (SP.set (SP.set (SP.set (SP.set (H.out) 0 0 (.int .i64 0) rfl (by decide)) 0 1 (.string ⟨#[]⟩) rfl (by decide)) 0 2 (.string ⟨#[]⟩) rfl (by decide)) 0 3 (.int .i64 0) rfl (by decide))
                  clear H
                  go_wp2
                  refine bodyPost_ret (v := .tuple #[.agg #[.int .i64 0, .string ⟨#[]⟩, .string ⟨#[]⟩, .int .i64 0], .bool false]) ?_ rfl (⟨(0, ⟨#[]⟩, ⟨#[]⟩, 0), false, rfl, Nat.zero_le _, Nat.zero_le _, HZ.out.below⟩)
                  simp [results, Try.results182, go_sem, x0_0, x0_1, x0_2, x0_3]
                have hse : (s.toList == []) = false := by rw [beq_eq_false_iff_ne, ne_eq, ByteArray.toList_eq]; intro h; have := tl_len s; rw [h] at this; simp at this; omega
                obtain ⟨x1_0, x1_1, x1_2, x1_3⟩ := Blk.q4 (H.out.blk 1 rfl)
                go_wp2_with fail
                refine (specAskText_any (kd, ka, kb, kn) _ hs1 hs2).mono ?_
                rintro e w9 ⟨s9, rfl, hs9, -, hb9⟩
                replace H := Lib.hid (H.out.kept hb9)
                clear x1_0 x1_1 x1_2 x1_3 hb9
                cases hq : (s9.toList == s.toList)
                case false =>
                  obtain ⟨x0_0, x0_1, x0_2, x0_3⟩ := Blk.q4 (H.out.blk 0 rfl)
                  obtain ⟨z0_0, z0_1, z0_2, z0_3⟩ := Blk.z4 (H.out.blk 0 rfl)
                  have HZ := Lib.hid (SP.set (SP.set (SP.set (SP.set (H.out) 0 0 (.int .i64 0) rfl (by decide)) 0 1 (.string ⟨#[]⟩) rfl (by decide)) 0 2 (.string ⟨#[]⟩) rfl (by decide)) 0 3 (.int .i64 0) rfl (by decide))
                  clear H
                  go_wp2
                  refine bodyPost_ret (v := .tuple #[.agg #[.int .i64 0, .string ⟨#[]⟩, .string ⟨#[]⟩, .int .i64 0], .bool false]) ?_ rfl (⟨(0, ⟨#[]⟩, ⟨#[]⟩, 0), false, rfl, Nat.zero_le _, Nat.zero_le _, HZ.out.below⟩)
                  simp [results, Try.results182, go_sem, x0_0, x0_1, x0_2, x0_3]
                obtain ⟨x1_0, x1_1, x1_2, x1_3⟩ := Blk.q4 (H.out.blk 1 rfl)
                obtain ⟨x0_0, x0_1, x0_2, x0_3⟩ := Blk.q4 (H.out.blk 0 rfl)
                obtain ⟨z0_0, z0_1, z0_2, z0_3⟩ := Blk.z4 (H.out.blk 0 rfl)
                have HZ := Lib.hid (SP.set (SP.set (SP.set (SP.set (H.out) 0 0 (.int .i64 kd) rfl (by decide)) 0 1 (.string ka) rfl (by decide)) 0 2 (.string kb) rfl (by decide)) 0 3 (.int .i64 kn) rfl (by decide))
                clear H
                go_wp2
                refine bodyPost_ret (v := .tuple #[.agg #[.int .i64 kd, .string ka, .string kb, .int .i64 kn], .bool true]) ?_ rfl (⟨(kd, ka, kb, kn), true, rfl, hs1, hs2, HZ.out.below⟩)
                simp [results, Try.results182, go_sem, x0_0, x0_1, x0_2, x0_3]
end Go.Proofs.Ytpjkcmmmpgncmaa
