import Derived.Deep.RegionHeld3
import Derived.BigQuiet
import Derived.Test.YtpjkcmmmpgncmaaM10
import Derived.Test.YtpjkcmmmpgncmaaL3M
import Derived.Deep.RegionLaw
import Derived.Test.YtpjkcmmmpgncmaaM27
import Derived.Test.YtpjkcmmmpgncmaaM26
import Derived.Test.YtpjkcmmmpgncmaaM13
/- The reference on what one asks: what is done to a key, the rows that are told. -/
namespace Go.Proofs.Ytpjkcmmmpgncmaa
open Go.RowKit
/-- how l4Write leaves -/
def WritePost (w : World) (e : Ending) (w' : World) : Prop := ∃ (x : Wri) (d : Int), e = .returned (.tuple #[.agg #[.string x.1, .int .i64 x.2.1, .bool x.2.2], .int .i64 d]) ∧ x.1.size ≤ maxLen ∧ 0 ≤ d ∧ d ≤ 6 ∧ Below w.heap.size w w'
theorem RK.of_own {W : World} {B c : Nat} {A : Option Addr} {l : List Row} (h : OwnR W B (.slice A l.length c) l) (hf : ∀ x ∈ l, x.1.size ≤ maxLen) : RK W A l c := RK.of h hf
set_option maxRecDepth 100000 in
set_option maxHeartbeats 4000000 in
theorem l4Write_any (A : Option Addr) (l : List Row) (c : Nat) (x : AskV) (w : World) (hn : l.length ≤ 1000) (hR : RK w A l c) (hx : x.2.1.size ≤ maxLen) :
    Calls Try.prog 227 #[.slice A l.length c, .agg #[.int .i64 x.1, .string x.2.1, .string x.2.2.1, .int .i64 x.2.2.2]] w (WritePost w) := by
  obtain ⟨ak, aa, ab, an⟩ := x
  simp only at hx ⊢
  have HXS := Lib.hid hx
  have hbE := allocAll_below w [(128, #[.int .i64 ak, .string aa, .string ab, .int .i64 an]), (46, #[.string ⟨#[]⟩, .int .i64 0, .bool false])]
  have H : Hid (SP w [(w.heap.size, 128, #[.int .i64 ak, .string aa, .string ab, .int .i64 an]), (w.heap.size + 1, 46, #[.string ⟨#[]⟩, .int .i64 0, .bool false])] [fun W => RK W A l c] ((allocAll w [(128, #[.int .i64 ak, .string aa, .string ab, .int .i64 an]), (46, #[.string ⟨#[]⟩, .int .i64 0, .bool false])]))) := Lib.hid (SP.add (SP.start w [(128, #[.int .i64 ak, .string aa, .string ab, .int .i64 an]), (46, #[.string ⟨#[]⟩, .int .i64 0, .bool false])]) _ RK.c (RK.c _ _ (Kp.below hbE) hR))
  clear hbE
  go_enter Try.func227, Try.ntmps227
  clear hR hx
  go_wp2_with fail
  change Calls _ _ _ (allocAll w [(128, #[.int .i64 ak, .string aa, .string ab, .int .i64 an]), (46, #[.string ⟨#[]⟩, .int .i64 0, .bool false])]) _
  generalize (allocAll w [(128, #[.int .i64 ak, .string aa, .string ab, .int .i64 an]), (46, #[.string ⟨#[]⟩, .int .i64 0, .bool false])]) = w0 at *
  refine (specRowsGet_any A l c aa w0 (H.out.get 0 rfl).2.1 (by omega) (H.out.get 0 rfl).sl).mono ?_
  rintro e w1 ⟨rfl, hb1⟩
  replace H := Lib.hid (H.out.kept hb1)
  clear hb1
  generalize getR l aa = gr
  obtain ⟨n, ok⟩ := gr
  simp only
  obtain ⟨x0_0, x0_1, x0_2, x0_3⟩ := Blk.q4 (H.out.blk 0 rfl)
  obtain ⟨x1_0, x1_1, x1_2⟩ := Blk.q3 (H.out.blk 1 rfl)
  obtain ⟨z1_0, z1_1, z1_2⟩ := Blk.z3 (H.out.blk 1 rfl)
  go_wp2_with (go_at_call 105; refine (specNumOk_any _ _).mono ?_; rintro e w9 ⟨rfl, rfl⟩)
  all_goals
    first
    | (refine bodyPost_ret (v := .tuple #[.agg #[.string ⟨#[]⟩, .int .i64 0, .bool false], .int .i64 4]) ?_ rfl ⟨(⟨#[]⟩, 0, false), 4, rfl, Nat.zero_le _, by decide, by decide, (SP.setN (SP.setN (SP.setN (H.out) 1 0 (.string ⟨#[]⟩) rfl) 1 1 (.int .i64 0) rfl) 1 2 (.bool false) rfl).below⟩; (simp [results, Try.results227, go_sem, x1_0, x1_1, x1_2]; done))
    | (refine bodyPost_ret (v := .tuple #[.agg #[.string aa, .int .i64 0, .bool true], .int .i64 0]) ?_ rfl ⟨(aa, 0, true), 0, rfl, HXS.out, by decide, by decide, (SP.setN (SP.setN (SP.setN (H.out) 1 0 (.string aa) rfl) 1 1 (.int .i64 0) rfl) 1 2 (.bool true) rfl).below⟩; (simp [results, Try.results227, go_sem, x1_0, x1_1, x1_2]; done))
    | (refine bodyPost_ret (v := .tuple #[.agg #[.string ⟨#[]⟩, .int .i64 0, .bool false], .int .i64 6]) ?_ rfl ⟨(⟨#[]⟩, 0, false), 6, rfl, Nat.zero_le _, by decide, by decide, (SP.setN (SP.setN (SP.setN (H.out) 1 0 (.string ⟨#[]⟩) rfl) 1 1 (.int .i64 0) rfl) 1 2 (.bool false) rfl).below⟩; (simp [results, Try.results227, go_sem, x1_0, x1_1, x1_2]; done))
    | (refine bodyPost_ret (v := .tuple #[.agg #[.string aa, .int .i64 (wrap64 (n + an)), .bool false], .int .i64 0]) ?_ rfl ⟨(aa, (wrap64 (n + an)), false), 0, rfl, HXS.out, by decide, by decide, (SP.setN (SP.setN (SP.setN (H.out) 1 0 (.string aa) rfl) 1 1 (.int .i64 (wrap64 (n + an))) rfl) 1 2 (.bool false) rfl).below⟩; (simp [results, Try.results227, go_sem, x1_0, x1_1, x1_2]; done))
    | (refine bodyPost_ret (v := .tuple #[.agg #[.string aa, .int .i64 an, .bool false], .int .i64 0]) ?_ rfl ⟨(aa, an, false), 0, rfl, HXS.out, by decide, by decide, (SP.setN (SP.setN (SP.setN (H.out) 1 0 (.string aa) rfl) 1 1 (.int .i64 an) rfl) 1 2 (.bool false) rfl).below⟩; (simp [results, Try.results227, go_sem, x1_0, x1_1, x1_2]; done))
end Go.Proofs.Ytpjkcmmmpgncmaa
/- The reference's l4Copy and l6Copy: a seat, one who talks, in new memory. -/
namespace Go.Proofs.Ytpjkcmmmpgncmaa
open Go.RowKit
theorem kE (W : World) : Below W.heap.size W W.drew := (Below.refl _ _).drew
theorem kF (W : World) (o : Obj) : Below W.heap.size W (W.alloc o) := (Below.refl _ _).alloc (Nat.le_refl _) _
def SeatP (w : World) (on bad : Bool) (t : Int) (ws : List Wri) (e : Ending) (w' : World) : Prop := ∃ (A' : Option Addr) (c' : Nat), e = .returned (.agg #[.bool on, .bool bad, .int .i64 t, .slice A' ws.length c']) ∧ WK w' A' ws ∧ Below w.heap.size w w'
set_option maxRecDepth 100000 in
set_option maxHeartbeats 4000000 in
theorem l4Copy_any (on bad : Bool) (t : Int) (A2 : Option Addr) (ws : List Wri) (c2 : Nat) (w : World) (hW : WK w A2 ws) :
    Calls Try.prog 157 #[.agg #[.bool on, .bool bad, .int .i64 t, .slice A2 ws.length c2]] w (SeatP w on bad t ws) := by
  have hw8 : ws.length ≤ 8 := hW.2.2
  have HWF := Lib.hid hW.2
  have hbE := allocAll_below w [(78, #[.bool on, .bool bad, .int .i64 t, .slice A2 ws.length c2]), (78, #[.bool false, .bool false, .int .i64 0, .slice none 0 0])]
  have H : Hid (SP w [(w.heap.size, 78, #[.bool on, .bool bad, .int .i64 t, .slice A2 ws.length c2]), (w.heap.size + 1, 78, #[.bool false, .bool false, .int .i64 0, .slice none 0 0])] [fun W => WK W A2 ws] ((allocAll w [(78, #[.bool on, .bool bad, .int .i64 t, .slice A2 ws.length c2]), (78, #[.bool false, .bool false, .int .i64 0, .slice none 0 0])]))) := Lib.hid (SP.add (SP.start w [(78, #[.bool on, .bool bad, .int .i64 t, .slice A2 ws.length c2]), (78, #[.bool false, .bool false, .int .i64 0, .slice none 0 0])]) _ WK.c (WK.c _ _ (Kp.below hbE) hW))
  clear hbE
  go_enter Try.func157, Try.ntmps157
  clear hW
  obtain ⟨x0_0, x0_1, x0_2, x0_3⟩ := Blk.q4 (H.out.blk 0 rfl)
  obtain ⟨x1_0, x1_1, x1_2, x1_3⟩ := Blk.q4 (H.out.blk 1 rfl)
  have z1_0 := (H.out.blk 1 rfl).frozen 0
  have z1_1 := (H.out.blk 1 rfl).frozen 1
  have z1_2 := (H.out.blk 1 rfl).frozen 2
  have z1_3 := (H.out.blk 1 rfl).frozen 3
  go_wp2_with fail
  change Code.wp _ _ _ _ (allocAll w [(78, #[.bool on, .bool bad, .int .i64 t, .slice A2 ws.length c2]), (78, #[.bool false, .bool false, .int .i64 0, .slice none 0 0])])
  generalize (allocAll w [(78, #[.bool on, .bool bad, .int .i64 t, .slice A2 ws.length c2]), (78, #[.bool false, .bool false, .int .i64 0, .slice none 0 0])]) = w0 at *
  have l0 := (H.out.blk 0 rfl).lt
  have l1 := (H.out.blk 1 rfl).lt
  replace H := Lib.hid (H.out.kept (kE w0))
  go_region_held3 (fun W => W.cell? ⟨w.heap.size, 0, none⟩ = some (.bool on) ∧ W.cell? ⟨w.heap.size, 1, none⟩ = some (.bool bad) ∧ W.cell? ⟨w.heap.size, 2, none⟩ = some (.int .i64 t) ∧ W.cell? ⟨w.heap.size, 3, none⟩ = some (.slice A2 ws.length c2))
    (first | assumption | go_keep)
    (first
      | (go_at_call 179
         refine (l3Copy_any A2 ws c2 t _ (by omega) (WK.sl (H.out.get 0 rfl))).mono ?_
         rintro e wz ⟨vz, rfl, hoz, hbz⟩
         obtain ⟨Az, cz, rfl, _, _, _⟩ := hoz.sl
         replace H := Lib.hid (SP.add (H.out.kept hbz) (fun W => WK W Az ws) WK.c (WK.of hoz HWF.out.1 HWF.out.2))
         have hk0 : wz.cell? ⟨w.heap.size, 0, none⟩ = some (.bool on) ∧ wz.cell? ⟨w.heap.size, 1, none⟩ = some (.bool bad) ∧ wz.cell? ⟨w.heap.size, 2, none⟩ = some (.int .i64 t) ∧ wz.cell? ⟨w.heap.size, 3, none⟩ = some (.slice A2 ws.length c2) := ⟨(H.out.blk 0 rfl).cell 0, (H.out.blk 0 rfl).cell 1, (H.out.blk 0 rfl).cell 2, (H.out.blk 0 rfl).cell 3⟩
         have hkk : wz.cell? ⟨w.heap.size, 0, none⟩ = some (.bool on) ∧ wz.cell? ⟨w.heap.size, 1, none⟩ = some (.bool bad) ∧ wz.cell? ⟨w.heap.size, 2, none⟩ = some (.int .i64 t) ∧ wz.cell? ⟨w.heap.size, 3, none⟩ = some (.slice A2 ws.length c2) ∧ wz.cell? ⟨w.heap.size + 1, 0, none⟩ = some (.bool false) ∧ wz.cell? ⟨w.heap.size + 1, 1, none⟩ = some (.bool false) ∧ wz.cell? ⟨w.heap.size + 1, 2, none⟩ = some (.int .i64 0) ∧ wz.cell? ⟨w.heap.size + 1, 3, none⟩ = some (.slice none 0 0) := ⟨(H.out.blk 0 rfl).cell 0, (H.out.blk 0 rfl).cell 1, (H.out.blk 0 rfl).cell 2, (H.out.blk 0 rfl).cell 3, (H.out.blk 1 rfl).cell 0, (H.out.blk 1 rfl).cell 1, (H.out.blk 1 rfl).cell 2, (H.out.blk 1 rfl).cell 3⟩
         have hfz := fun j => (H.out.blk 1 rfl).frozen j
         clear hbz hoz))
  all_goals
    obtain ⟨x0_0, x0_1, x0_2, x0_3, x1_0, x1_1, x1_2, x1_3⟩ := hkk
    go_wp2
    first
    | (have HZ := Lib.hid (SP.set (SP.set (SP.set (SP.set (H.out) 1 0 (.bool on) rfl (by decide)) 1 1 (.bool bad) rfl (by decide)) 1 2 (.int .i64 t) rfl (by decide)) 1 3 (.slice Az ws.length cz) rfl (by decide)); refine bodyPost_ret (v := .agg #[.bool on, .bool bad, .int .i64 t, .slice Az ws.length cz]) ?_ rfl (⟨Az, cz, rfl, HZ.out.get 1 rfl, HZ.out.below⟩); (simp [results, Try.results157, go_sem, x1_0, x1_1, x1_2, x1_3]; done))
theorem blk8 {W : World} {a g : Nat} {t : TypeId} {cs : Array Value} (hB : Blk W a t cs) (h : a ≠ g) (u0 u1 u2 u3 u4 u5 u6 u7 : Value) : Blk ((((((((W.setCell ⟨g, 0, none⟩ u0).setCell ⟨g, 1, none⟩ u1).setCell ⟨g, 2, none⟩ u2).setCell ⟨g, 3, none⟩ u3).setCell ⟨g, 4, none⟩ u4).setCell ⟨g, 5, none⟩ u5).setCell ⟨g, 6, none⟩ u6).setCell ⟨g, 7, none⟩ u7) a t cs :=
  (((((((hB.far (p := ⟨g, 0, none⟩) h u0).far (p := ⟨g, 1, none⟩) h u1).far (p := ⟨g, 2, none⟩) h u2).far (p := ⟨g, 3, none⟩) h u3).far (p := ⟨g, 4, none⟩) h u4).far (p := ⟨g, 5, none⟩) h u5).far (p := ⟨g, 6, none⟩) h u6).far (p := ⟨g, 7, none⟩) h u7
theorem SlK.grown {α : Type} {enc : α → List Value} {k : Nat} {t t2 : TypeId} {w w' : World} {A : Option Addr} {l : List α} {e : Nat} {cs : Array Value} (h : SlK enc k t w A l) (hE : Blk w e t2 cs) (hg : w.grownBy w' (some e)) (hne : t ≠ t2) : SlK enc k t w' A l := fun hl => by
  obtain ⟨b, o, cs2, eA, hb, hc⟩ := h hl
  exact ⟨b, o, cs2, eA, hb.grown hg (fun e2 => by injection e2 with e2; exact blk_ne hb hE hne e2), hc⟩
theorem WK.grownN {W W' : World} {A : Option Addr} {ws : List Wri} {e n m : Nat} {cs : Array Value} (h : WK W A ws) (hE : Blk W e 130 cs) (hg : W.grownBy W' (Value.slice (some ⟨e, 0, none⟩) n m).ownBlock) : WK W' A ws := ⟨h.1.grown hE hg (by decide), h.2⟩
theorem encNm_one (l : List Nm) : ∀ u ∈ l.flatMap encNm, u.oneCell' = true := by
  intro u hu
  obtain ⟨x, _, hx⟩ := List.mem_flatMap.1 hu
  simp [encNm] at hx
  rcases hx with rfl | rfl | rfl | rfl | rfl <;> rfl
theorem ownN_of {w : World} {B : Nat} {v : Value} {l : List Nm} (h : w.ownsRow B 130 5 v (0 + l.length) ([] ++ l.flatMap encNm)) : OwnN w B v l := by unfold OwnN; simpa using h
theorem NK.of {W : World} {B c : Nat} {A : Option Addr} {l : List Nm} (h : OwnN W B (.slice A l.length c) l) (hf : ∀ x ∈ l, x.1.size ≤ 10 ∧ x.2.2.1.size ≤ maxLen ∧ x.2.2.2.1.size ≤ maxLen) (hl : l.length ≤ 4) : NK W A l := ⟨SlK.of_own encNm_len h, hf, hl⟩
/-- one who talks comes back -/
def TalkP (w : World) (on bad : Bool) (t : Int) (ws : List Wri) (ns : List Nm) (skip gone : Bool) (inb : ByteArray) (e : Ending) (w' : World) : Prop := ∃ (A' : Option Addr) (c' : Nat) (A3' : Option Addr) (c3' : Nat), e = .returned (.agg #[.bool on, .bool bad, .int .i64 t, .slice A' ws.length c', .slice A3' ns.length c3', .bool skip, .bool gone, .string inb]) ∧ WK w' A' ws ∧ NK w' A3' ns ∧ Below w.heap.size w w'
set_option maxRecDepth 100000 in
set_option maxHeartbeats 8000000 in
theorem l6Copy_any (on bad : Bool) (t : Int) (A2 : Option Addr) (ws : List Wri) (c2 : Nat) (A3 : Option Addr) (ns : List Nm) (c3 : Nat) (skip gone : Bool) (inb : ByteArray) (w : World) (hW : WK w A2 ws) (hN : NK w A3 ns) :
    Calls Try.prog 133 #[.agg #[.bool on, .bool bad, .int .i64 t, .slice A2 ws.length c2, .slice A3 ns.length c3, .bool skip, .bool gone, .string inb]] w (TalkP w on bad t ws ns skip gone inb) := by
  obtain ⟨i0, hi, hz0, hz1, hz2⟩ := info_parts infoNm
  have HI := Lib.hid (⟨hi, hz0, hz1, hz2⟩ : _ ∧ _ ∧ _ ∧ _)
  clear hi hz0 hz1 hz2
  have hw8 : ws.length ≤ 8 := hW.2.2
  have hn4 : ns.length ≤ 4 := hN.2.2
  have HNF := Lib.hid hN.2
  have H63 := Lib.hid (show 0 + ns.length ≤ maxLen by unfold maxLen; omega)
  have HBY := Lib.hid (show (0 + ns.length) * 64 ≤ 140737488355328 by omega)
  have hbE := allocAll_below w [(81, #[.bool on, .bool bad, .int .i64 t, .slice A2 ws.length c2, .slice A3 ns.length c3, .bool skip, .bool gone, .string inb]), (81, #[.bool false, .bool false, .int .i64 0, .slice none 0 0, .slice none 0 0, .bool false, .bool false, .string ⟨#[]⟩])]
  have H : Hid (SP w [(w.heap.size, 81, #[.bool on, .bool bad, .int .i64 t, .slice A2 ws.length c2, .slice A3 ns.length c3, .bool skip, .bool gone, .string inb]), (w.heap.size + 1, 81, #[.bool false, .bool false, .int .i64 0, .slice none 0 0, .slice none 0 0, .bool false, .bool false, .string ⟨#[]⟩])] [fun W => WK W A2 ws, fun W => NK W A3 ns] ((allocAll w [(81, #[.bool on, .bool bad, .int .i64 t, .slice A2 ws.length c2, .slice A3 ns.length c3, .bool skip, .bool gone, .string inb]), (81, #[.bool false, .bool false, .int .i64 0, .slice none 0 0, .slice none 0 0, .bool false, .bool false, .string ⟨#[]⟩])]))) := Lib.hid (SP.add (SP.add (SP.start w [(81, #[.bool on, .bool bad, .int .i64 t, .slice A2 ws.length c2, .slice A3 ns.length c3, .bool skip, .bool gone, .string inb]), (81, #[.bool false, .bool false, .int .i64 0, .slice none 0 0, .slice none 0 0, .bool false, .bool false, .string ⟨#[]⟩])]) _ WK.c (WK.c _ _ (Kp.below hbE) hW)) _ NK.c (NK.c _ _ (Kp.below hbE) hN))
  clear hbE
  go_enter Try.func133, Try.ntmps133
  clear hW hN
  obtain ⟨x0_0, x0_1, x0_2, x0_3, x0_4, x0_5, x0_6, x0_7⟩ := Blk.q8 (H.out.blk 0 rfl)
  obtain ⟨x1_0, x1_1, x1_2, x1_3, x1_4, x1_5, x1_6, x1_7⟩ := Blk.q8 (H.out.blk 1 rfl)
  have z1_0 := (H.out.blk 1 rfl).frozen 0
  have z1_1 := (H.out.blk 1 rfl).frozen 1
  have z1_2 := (H.out.blk 1 rfl).frozen 2
  have z1_3 := (H.out.blk 1 rfl).frozen 3
  have z1_4 := (H.out.blk 1 rfl).frozen 4
  have z1_5 := (H.out.blk 1 rfl).frozen 5
  have z1_6 := (H.out.blk 1 rfl).frozen 6
  have z1_7 := (H.out.blk 1 rfl).frozen 7
  go_wp2_with fail
  change Code.wp _ _ _ _ (allocAll w [(81, #[.bool on, .bool bad, .int .i64 t, .slice A2 ws.length c2, .slice A3 ns.length c3, .bool skip, .bool gone, .string inb]), (81, #[.bool false, .bool false, .int .i64 0, .slice none 0 0, .slice none 0 0, .bool false, .bool false, .string ⟨#[]⟩])])
  generalize (allocAll w [(81, #[.bool on, .bool bad, .int .i64 t, .slice A2 ws.length c2, .slice A3 ns.length c3, .bool skip, .bool gone, .string inb]), (81, #[.bool false, .bool false, .int .i64 0, .slice none 0 0, .slice none 0 0, .bool false, .bool false, .string ⟨#[]⟩])]) = w0 at *
  have l0 := (H.out.blk 0 rfl).lt
  have l1 := (H.out.blk 1 rfl).lt
  clear x0_0 x0_1 x0_2 x0_3 x0_4 x0_5 x0_6 x0_7
  have hB0 : ∀ W : World, Blk W w.heap.size 81 #[.bool on, .bool bad, .int .i64 t, .slice A2 ws.length c2, .slice A3 ns.length c3, .bool skip, .bool gone, .string inb] → W.cell? ⟨w.heap.size, 0, none⟩ = some (.bool on) := fun W h => h.cell 0
  have hB1 : ∀ W : World, Blk W w.heap.size 81 #[.bool on, .bool bad, .int .i64 t, .slice A2 ws.length c2, .slice A3 ns.length c3, .bool skip, .bool gone, .string inb] → W.cell? ⟨w.heap.size, 1, none⟩ = some (.bool bad) := fun W h => h.cell 1
  have hB2 : ∀ W : World, Blk W w.heap.size 81 #[.bool on, .bool bad, .int .i64 t, .slice A2 ws.length c2, .slice A3 ns.length c3, .bool skip, .bool gone, .string inb] → W.cell? ⟨w.heap.size, 2, none⟩ = some (.int .i64 t) := fun W h => h.cell 2
  have hB3 : ∀ W : World, Blk W w.heap.size 81 #[.bool on, .bool bad, .int .i64 t, .slice A2 ws.length c2, .slice A3 ns.length c3, .bool skip, .bool gone, .string inb] → W.cell? ⟨w.heap.size, 3, none⟩ = some (.slice A2 ws.length c2) := fun W h => h.cell 3
  have hB4 : ∀ W : World, Blk W w.heap.size 81 #[.bool on, .bool bad, .int .i64 t, .slice A2 ws.length c2, .slice A3 ns.length c3, .bool skip, .bool gone, .string inb] → W.cell? ⟨w.heap.size, 4, none⟩ = some (.slice A3 ns.length c3) := fun W h => h.cell 4
  have hB5 : ∀ W : World, Blk W w.heap.size 81 #[.bool on, .bool bad, .int .i64 t, .slice A2 ws.length c2, .slice A3 ns.length c3, .bool skip, .bool gone, .string inb] → W.cell? ⟨w.heap.size, 5, none⟩ = some (.bool skip) := fun W h => h.cell 5
  have hB6 : ∀ W : World, Blk W w.heap.size 81 #[.bool on, .bool bad, .int .i64 t, .slice A2 ws.length c2, .slice A3 ns.length c3, .bool skip, .bool gone, .string inb] → W.cell? ⟨w.heap.size, 6, none⟩ = some (.bool gone) := fun W h => h.cell 6
  have hB7 : ∀ W : World, Blk W w.heap.size 81 #[.bool on, .bool bad, .int .i64 t, .slice A2 ws.length c2, .slice A3 ns.length c3, .bool skip, .bool gone, .string inb] → W.cell? ⟨w.heap.size, 7, none⟩ = some (.string inb) := fun W h => h.cell 7
  have hb0 : Blk w0 w.heap.size 81 #[.bool on, .bool bad, .int .i64 t, .slice A2 ws.length c2, .slice A3 ns.length c3, .bool skip, .bool gone, .string inb] := H.out.blk 0 rfl
  have hbD : Blk w0.drew w.heap.size 81 #[.bool on, .bool bad, .int .i64 t, .slice A2 ws.length c2, .slice A3 ns.length c3, .bool skip, .bool gone, .string inb] := (H.out.kept (kE w0)).blk 0 rfl
  go_region_held3 (fun W => Blk W w.heap.size 81 #[.bool on, .bool bad, .int .i64 t, .slice A2 ws.length c2, .slice A3 ns.length c3, .bool skip, .bool gone, .string inb])
    (first | (with_reducible assumption) | (with_reducible refine Blk.alloc ?_ _; with_reducible assumption) | (with_reducible refine Blk.drew ?_; with_reducible refine Blk.alloc ?_ _; with_reducible assumption) | (with_reducible refine blk8 ?_ ?_ _ _ _ _ _ _ _ _; with_reducible assumption; simp))
    (first
      | (refine step_append_slB (enc := encNm) rfl (.tmp 6) (.tmp 8) 79 rfl w0.heap.size 130 i0 (.agg #[.string ⟨#[]⟩, .int .i64 0, .string ⟨#[]⟩, .string ⟨#[]⟩, .int .i64 0]) 5 64 Try.underlying79 HI.out.1 HI.out.2.1 HI.out.2.2.1 HI.out.2.2.2 rfl (by decide) (.slice (some ⟨w0.heap.size, 0, none⟩) 0 0) 0 [] (by simp [Act.eval]) (own_of_blk (base := w0.heap.size) (n := 0) (k := 5) (xs := []) HE.out (Nat.le_refl _) (Nat.zero_le _) rfl rfl) encNm_len A3 ns ns.length c3 rfl (by simp [Act.eval]) (NK.sl (SP.get (H.out.kept HB.out) 1 rfl)) (encNm_one _) H63.out HBY.out HB.out.size ?_
         intro va wa howna hgra _
         have hoN : OwnN wa w0.heap.size va ns := ownN_of howna
         obtain ⟨An, cn, rfl, _, _, _⟩ := hoN.sl
         have HO := Lib.hid hoN
         have HB := Lib.hid (below_own HB.out hgra HB.out.size (fun j hj => by simp [Value.ownBlock] at hj; omega))
         have HWZ : Hid (WK wa Az ws) := Lib.hid (HWZ.out.grownN HE.out hgra)
         try clear hkk hkr hfz hl0 hl1
         have HK := Lib.hid (H.out.kept HB.out)
         have hkk : Blk wa w.heap.size 81 #[.bool on, .bool bad, .int .i64 t, .slice A2 ws.length c2, .slice A3 ns.length c3, .bool skip, .bool gone, .string inb] := SP.blk HK.out 0 rfl
         have hl0 := (SP.blk HK.out 0 rfl).lt
         have hl1 := (SP.blk HK.out 1 rfl).lt
         have hkr : wa.cell? ⟨w.heap.size + 1, 0, none⟩ = some (.bool false) ∧ wa.cell? ⟨w.heap.size + 1, 1, none⟩ = some (.bool false) ∧ wa.cell? ⟨w.heap.size + 1, 2, none⟩ = some (.int .i64 0) ∧ wa.cell? ⟨w.heap.size + 1, 3, none⟩ = some (.slice none 0 0) ∧ wa.cell? ⟨w.heap.size + 1, 4, none⟩ = some (.slice none 0 0) ∧ wa.cell? ⟨w.heap.size + 1, 5, none⟩ = some (.bool false) ∧ wa.cell? ⟨w.heap.size + 1, 6, none⟩ = some (.bool false) ∧ wa.cell? ⟨w.heap.size + 1, 7, none⟩ = some (.string ⟨#[]⟩) := ⟨(SP.blk HK.out 1 rfl).cell 0, (SP.blk HK.out 1 rfl).cell 1, (SP.blk HK.out 1 rfl).cell 2, (SP.blk HK.out 1 rfl).cell 3, (SP.blk HK.out 1 rfl).cell 4, (SP.blk HK.out 1 rfl).cell 5, (SP.blk HK.out 1 rfl).cell 6, (SP.blk HK.out 1 rfl).cell 7⟩
         have hfz : ∀ j, wa.frozen? ⟨w.heap.size + 1, j, none⟩ = false := fun j => (SP.blk HK.out 1 rfl).frozen j
         clear HK
         clear hoN howna hgra)
      | (refine step_append_slB (enc := encNm) rfl (.tmp 6) (.tmp 8) 79 rfl w0.heap.size 130 i0 (.agg #[.string ⟨#[]⟩, .int .i64 0, .string ⟨#[]⟩, .string ⟨#[]⟩, .int .i64 0]) 5 64 Try.underlying79 HI.out.1 HI.out.2.1 HI.out.2.2.1 HI.out.2.2.2 rfl (by decide) (.slice (some ⟨wz.heap.size, 0, none⟩) 0 0) 0 [] (by simp [Act.eval]) (own_of_blk (base := w0.heap.size) (n := 0) (k := 5) (xs := []) (Blk.new wz 130 #[]) HB.out.size (Nat.zero_le _) rfl rfl) encNm_len A3 ns ns.length c3 rfl (by simp [Act.eval]) (NK.sl (SP.get (H.out.kept (bthen HB.out (kF wz (.cells #[] 130)))) 1 rfl)) (encNm_one _) H63.out HBY.out (bthen HB.out (kF wz (.cells #[] 130))).size ?_
         intro va wa howna hgra _
         have hoN : OwnN wa w0.heap.size va ns := ownN_of howna
         obtain ⟨An, cn, rfl, _, _, _⟩ := hoN.sl
         have HO := Lib.hid hoN
         have HLE := Lib.hid HB.out.size
         have HB := Lib.hid (below_own (bthen HB.out (kF wz (.cells #[] 130))) hgra (bthen HB.out (kF wz (.cells #[] 130))).size (fun j hj => by have := HLE.out; simp [Value.ownBlock] at hj; omega))
         have HWZ : Hid (WK wa Az ws) := Lib.hid ((HWZ.out.kp (Kp.below (kF wz (.cells #[] 130)))).grownN (Blk.new wz 130 #[]) hgra)
         try clear hkk hkr hfz hl0 hl1
         have HK := Lib.hid (H.out.kept HB.out)
         have hkk : Blk wa w.heap.size 81 #[.bool on, .bool bad, .int .i64 t, .slice A2 ws.length c2, .slice A3 ns.length c3, .bool skip, .bool gone, .string inb] := SP.blk HK.out 0 rfl
         have hl0 := (SP.blk HK.out 0 rfl).lt
         have hl1 := (SP.blk HK.out 1 rfl).lt
         have hkr : wa.cell? ⟨w.heap.size + 1, 0, none⟩ = some (.bool false) ∧ wa.cell? ⟨w.heap.size + 1, 1, none⟩ = some (.bool false) ∧ wa.cell? ⟨w.heap.size + 1, 2, none⟩ = some (.int .i64 0) ∧ wa.cell? ⟨w.heap.size + 1, 3, none⟩ = some (.slice none 0 0) ∧ wa.cell? ⟨w.heap.size + 1, 4, none⟩ = some (.slice none 0 0) ∧ wa.cell? ⟨w.heap.size + 1, 5, none⟩ = some (.bool false) ∧ wa.cell? ⟨w.heap.size + 1, 6, none⟩ = some (.bool false) ∧ wa.cell? ⟨w.heap.size + 1, 7, none⟩ = some (.string ⟨#[]⟩) := ⟨(SP.blk HK.out 1 rfl).cell 0, (SP.blk HK.out 1 rfl).cell 1, (SP.blk HK.out 1 rfl).cell 2, (SP.blk HK.out 1 rfl).cell 3, (SP.blk HK.out 1 rfl).cell 4, (SP.blk HK.out 1 rfl).cell 5, (SP.blk HK.out 1 rfl).cell 6, (SP.blk HK.out 1 rfl).cell 7⟩
         have hfz : ∀ j, wa.frozen? ⟨w.heap.size + 1, j, none⟩ = false := fun j => (SP.blk HK.out 1 rfl).frozen j
         clear HK
         clear hoN howna hgra)
      | (refine step_append_slB (enc := encNm) rfl (.tmp 6) (.tmp 8) 79 rfl w0.heap.size 130 i0 (.agg #[.string ⟨#[]⟩, .int .i64 0, .string ⟨#[]⟩, .string ⟨#[]⟩, .int .i64 0]) 5 64 Try.underlying79 HI.out.1 HI.out.2.1 HI.out.2.2.1 HI.out.2.2.2 rfl (by decide) (.slice (some ⟨w0.heap.size, 0, none⟩) 0 0) 0 [] (by simp [Act.eval]) (own_of_blk (base := w0.heap.size) (n := 0) (k := 5) (xs := []) (Blk.new w0 130 #[]).drew (Nat.le_refl _) (Nat.zero_le _) rfl rfl) encNm_len A3 ns ns.length c3 rfl (by simp [Act.eval]) (NK.sl (SP.get (H.out.kept (bthen (kF w0 (.cells #[] 130)) (kE _))) 1 rfl)) (encNm_one _) H63.out HBY.out (bthen (kF w0 (.cells #[] 130)) (kE _)).size ?_
         intro va wa howna hgra _
         have hoN : OwnN wa w0.heap.size va ns := ownN_of howna
         obtain ⟨An, cn, rfl, _, _, _⟩ := hoN.sl
         have HO := Lib.hid hoN
         have HB := Lib.hid (below_own (bthen (kF w0 (.cells #[] 130)) (kE _)) hgra (bthen (kF w0 (.cells #[] 130)) (kE _)).size (fun j hj => by simp [Value.ownBlock] at hj; omega))
         try clear hkk hkr hfz hl0 hl1
         have HK := Lib.hid (H.out.kept HB.out)
         have hkk : Blk wa w.heap.size 81 #[.bool on, .bool bad, .int .i64 t, .slice A2 ws.length c2, .slice A3 ns.length c3, .bool skip, .bool gone, .string inb] := SP.blk HK.out 0 rfl
         have hl0 := (SP.blk HK.out 0 rfl).lt
         have hl1 := (SP.blk HK.out 1 rfl).lt
         have hkr : wa.cell? ⟨w.heap.size + 1, 0, none⟩ = some (.bool false) ∧ wa.cell? ⟨w.heap.size + 1, 1, none⟩ = some (.bool false) ∧ wa.cell? ⟨w.heap.size + 1, 2, none⟩ = some (.int .i64 0) ∧ wa.cell? ⟨w.heap.size + 1, 3, none⟩ = some (.slice none 0 0) ∧ wa.cell? ⟨w.heap.size + 1, 4, none⟩ = some (.slice none 0 0) ∧ wa.cell? ⟨w.heap.size + 1, 5, none⟩ = some (.bool false) ∧ wa.cell? ⟨w.heap.size + 1, 6, none⟩ = some (.bool false) ∧ wa.cell? ⟨w.heap.size + 1, 7, none⟩ = some (.string ⟨#[]⟩) := ⟨(SP.blk HK.out 1 rfl).cell 0, (SP.blk HK.out 1 rfl).cell 1, (SP.blk HK.out 1 rfl).cell 2, (SP.blk HK.out 1 rfl).cell 3, (SP.blk HK.out 1 rfl).cell 4, (SP.blk HK.out 1 rfl).cell 5, (SP.blk HK.out 1 rfl).cell 6, (SP.blk HK.out 1 rfl).cell 7⟩
         have hfz : ∀ j, wa.frozen? ⟨w.heap.size + 1, j, none⟩ = false := fun j => (SP.blk HK.out 1 rfl).frozen j
         clear HK
         clear hoN howna hgra)
      | (go_at_call 157
         with_reducible show Calls _ _ _ (World.drew (World.alloc _ _)) _
         refine (l4Copy_any on bad t A2 ws c2 ((w0.alloc (.cells #[] 130)).drew) (SP.get (H.out.kept (bthen (kF w0 (.cells #[] 130)) (kE _))) 0 rfl)).mono ?_
         rintro e wz ⟨Az, cz, rfl, hwz, hbz⟩
         have HE : Hid (Blk wz w0.heap.size 130 #[]) := Lib.hid ((Blk.new w0 130 #[]).drew.kept hbz)
         have HB := Lib.hid (bthen (bthen (kF w0 (.cells #[] 130)) (kE _)) hbz)
         have HWZ := Lib.hid hwz
         try clear hkk hkr hfz hl0 hl1
         have HK := Lib.hid (H.out.kept HB.out)
         have hkk : Blk wz w.heap.size 81 #[.bool on, .bool bad, .int .i64 t, .slice A2 ws.length c2, .slice A3 ns.length c3, .bool skip, .bool gone, .string inb] := SP.blk HK.out 0 rfl
         have hl0 := (SP.blk HK.out 0 rfl).lt
         have hl1 := (SP.blk HK.out 1 rfl).lt
         have hkr : wz.cell? ⟨w.heap.size + 1, 0, none⟩ = some (.bool false) ∧ wz.cell? ⟨w.heap.size + 1, 1, none⟩ = some (.bool false) ∧ wz.cell? ⟨w.heap.size + 1, 2, none⟩ = some (.int .i64 0) ∧ wz.cell? ⟨w.heap.size + 1, 3, none⟩ = some (.slice none 0 0) ∧ wz.cell? ⟨w.heap.size + 1, 4, none⟩ = some (.slice none 0 0) ∧ wz.cell? ⟨w.heap.size + 1, 5, none⟩ = some (.bool false) ∧ wz.cell? ⟨w.heap.size + 1, 6, none⟩ = some (.bool false) ∧ wz.cell? ⟨w.heap.size + 1, 7, none⟩ = some (.string ⟨#[]⟩) := ⟨(SP.blk HK.out 1 rfl).cell 0, (SP.blk HK.out 1 rfl).cell 1, (SP.blk HK.out 1 rfl).cell 2, (SP.blk HK.out 1 rfl).cell 3, (SP.blk HK.out 1 rfl).cell 4, (SP.blk HK.out 1 rfl).cell 5, (SP.blk HK.out 1 rfl).cell 6, (SP.blk HK.out 1 rfl).cell 7⟩
         have hfz : ∀ j, wz.frozen? ⟨w.heap.size + 1, j, none⟩ = false := fun j => (SP.blk HK.out 1 rfl).frozen j
         clear HK
         clear hwz hbz)
      | (go_at_call 157
         with_reducible show Calls _ _ _ (World.drew _) _
         refine (l4Copy_any on bad t A2 ws c2 w0.drew (SP.get (H.out.kept (kE w0)) 0 rfl)).mono ?_
         rintro e wz ⟨Az, cz, rfl, hwz, hbz⟩
         have HB := Lib.hid (bthen (kE w0) hbz)
         have HWZ := Lib.hid hwz
         try clear hkk hkr hfz hl0 hl1
         have HK := Lib.hid (H.out.kept HB.out)
         have hkk : Blk wz w.heap.size 81 #[.bool on, .bool bad, .int .i64 t, .slice A2 ws.length c2, .slice A3 ns.length c3, .bool skip, .bool gone, .string inb] := SP.blk HK.out 0 rfl
         have hl0 := (SP.blk HK.out 0 rfl).lt
         have hl1 := (SP.blk HK.out 1 rfl).lt
         have hkr : wz.cell? ⟨w.heap.size + 1, 0, none⟩ = some (.bool false) ∧ wz.cell? ⟨w.heap.size + 1, 1, none⟩ = some (.bool false) ∧ wz.cell? ⟨w.heap.size + 1, 2, none⟩ = some (.int .i64 0) ∧ wz.cell? ⟨w.heap.size + 1, 3, none⟩ = some (.slice none 0 0) ∧ wz.cell? ⟨w.heap.size + 1, 4, none⟩ = some (.slice none 0 0) ∧ wz.cell? ⟨w.heap.size + 1, 5, none⟩ = some (.bool false) ∧ wz.cell? ⟨w.heap.size + 1, 6, none⟩ = some (.bool false) ∧ wz.cell? ⟨w.heap.size + 1, 7, none⟩ = some (.string ⟨#[]⟩) := ⟨(SP.blk HK.out 1 rfl).cell 0, (SP.blk HK.out 1 rfl).cell 1, (SP.blk HK.out 1 rfl).cell 2, (SP.blk HK.out 1 rfl).cell 3, (SP.blk HK.out 1 rfl).cell 4, (SP.blk HK.out 1 rfl).cell 5, (SP.blk HK.out 1 rfl).cell 6, (SP.blk HK.out 1 rfl).cell 7⟩
         have hfz : ∀ j, wz.frozen? ⟨w.heap.size + 1, j, none⟩ = false := fun j => (SP.blk HK.out 1 rfl).frozen j
         clear HK
         clear hwz hbz)
      | (go_at_call 157
         with_reducible show Calls _ _ _ wa _
         refine (l4Copy_any on bad t A2 ws c2 wa (SP.get (H.out.kept HB.out) 0 rfl)).mono ?_
         rintro e wz ⟨Az, cz, rfl, hwz, hbz⟩
         have HB := Lib.hid (bthen HB.out hbz)
         have HWZ := Lib.hid hwz
         have HO : Hid (OwnN wz w0.heap.size _ ns) := Lib.hid (own_kept HO.out hbz)
         try clear hkk hkr hfz hl0 hl1
         have HK := Lib.hid (H.out.kept HB.out)
         have hkk : Blk wz w.heap.size 81 #[.bool on, .bool bad, .int .i64 t, .slice A2 ws.length c2, .slice A3 ns.length c3, .bool skip, .bool gone, .string inb] := SP.blk HK.out 0 rfl
         have hl0 := (SP.blk HK.out 0 rfl).lt
         have hl1 := (SP.blk HK.out 1 rfl).lt
         have hkr : wz.cell? ⟨w.heap.size + 1, 0, none⟩ = some (.bool false) ∧ wz.cell? ⟨w.heap.size + 1, 1, none⟩ = some (.bool false) ∧ wz.cell? ⟨w.heap.size + 1, 2, none⟩ = some (.int .i64 0) ∧ wz.cell? ⟨w.heap.size + 1, 3, none⟩ = some (.slice none 0 0) ∧ wz.cell? ⟨w.heap.size + 1, 4, none⟩ = some (.slice none 0 0) ∧ wz.cell? ⟨w.heap.size + 1, 5, none⟩ = some (.bool false) ∧ wz.cell? ⟨w.heap.size + 1, 6, none⟩ = some (.bool false) ∧ wz.cell? ⟨w.heap.size + 1, 7, none⟩ = some (.string ⟨#[]⟩) := ⟨(SP.blk HK.out 1 rfl).cell 0, (SP.blk HK.out 1 rfl).cell 1, (SP.blk HK.out 1 rfl).cell 2, (SP.blk HK.out 1 rfl).cell 3, (SP.blk HK.out 1 rfl).cell 4, (SP.blk HK.out 1 rfl).cell 5, (SP.blk HK.out 1 rfl).cell 6, (SP.blk HK.out 1 rfl).cell 7⟩
         have hfz : ∀ j, wz.frozen? ⟨w.heap.size + 1, j, none⟩ = false := fun j => (SP.blk HK.out 1 rfl).frozen j
         clear HK
         clear hwz hbz))
  all_goals
    have HZ := Lib.hid (SP.set (SP.set (SP.set (SP.set (SP.set (SP.set (SP.set (SP.set ((SP.add (SP.add (H.out.kept HB.out) (fun W => WK W Az ws) WK.c HWZ.out) (fun W => NK W An ns) NK.c (NK.of HO.out HNF.out.1 HNF.out.2))) 1 0 (.bool on) rfl (by decide)) 1 1 (.bool bad) rfl (by decide)) 1 2 (.int .i64 t) rfl (by decide)) 1 3 (.slice Az ws.length cz) rfl (by decide)) 1 4 (.slice An ns.length cn) rfl (by decide)) 1 5 (.bool skip) rfl (by decide)) 1 6 (.bool gone) rfl (by decide)) 1 7 (.string inb) rfl (by decide))
    clear H HB HWZ HO hB0 hB1 hB2 hB3 hB4 hB5 hB6 hB7
    go_wp2
    refine bodyPost_ret (v := .agg #[.bool on, .bool bad, .int .i64 t, .slice Az ws.length cz, .slice An ns.length cn, .bool skip, .bool gone, .string inb]) ?_ rfl ⟨Az, cz, An, cn, rfl, HZ.out.get 2 rfl, HZ.out.get 3 rfl, HZ.out.below⟩
    simp [results, Try.results133, go_sem, hkr]
end Go.Proofs.Ytpjkcmmmpgncmaa
