import Derived.Deep.RegionHeld3
import Derived.Deep.RegionWith
import Derived.Deep.Cut
import Derived.Deep.DeepCutAuto
import Derived.BigQuiet
import Derived.Test.YtpjkcmmmpgncmaaL6P
import Derived.Test.YtpjkcmmmpgncmaaM30
import Derived.Test.YtpjkcmmmpgncmaaM02
/- The reference's l6Do: a letter is answered (bounds). -/
namespace Go.Proofs.Ytpjkcmmmpgncmaa
open Go.RowKit
theorem LK.oneG (W : World) (x : Let) (hx : LetS x) : LK (W.alloc (.cells #[.string x.1, .string x.2] 94)) (some ⟨W.heap.size, 0, none⟩) [x] :=
  LK.of (B := W.heap.size) (c := 1) (own_of_blk (base := W.heap.size) (n := 1) (k := 2) (xs := [.string x.1, .string x.2]) (Blk.new W _ _) (Nat.le_refl _) (by decide) rfl rfl) (fun y hy => by simp at hy; subst hy; exact hx) (by simp)
theorem LK.oneH (W : World) (x : Let) (hx : LetS x) (a : Nat) (ha : a = W.heap.size) : LK (W.alloc (.cells #[.string x.1, .string x.2] 94)) (some ⟨a, 0, none⟩) [x] := by subst ha; exact LK.oneG W x hx
theorem sB : (⟨#[66]⟩ : ByteArray).size ≤ 1040000 := by decide
theorem NK.nil (W : World) (A : Option Addr) : NK W A [] := ⟨SlK.nil _ _, fun y h => absurd h (by simp), by simp⟩
theorem sZ : (⟨#[90]⟩ : ByteArray).size ≤ 1040000 := by decide
theorem SP.allocA {w W : World} {L : List (Nat × TypeId × Array Value)} {Ps : List (World → Prop)} (h : SP w L Ps W) (a : Nat) (ha : a = W.heap.size) (t : TypeId) (cs : Array Value) : SP w (L ++ [(a, t, cs)]) Ps (W.alloc (.cells cs t)) := by subst ha; exact h.alloc t cs
theorem SP.addNew2 {w W W' : World} {L : List (Nat × TypeId × Array Value)} {Ps : List (World → Prop)} (h : SP w L Ps W) (hb : Below W.heap.size W W') {g1 g2 : Nat} {t1 t2 : TypeId} {cs1 cs2 : Array Value} (hB1 : Blk W' g1 t1 cs1) (hB2 : Blk W' g2 t2 cs2) (hg1 : W.heap.size ≤ g1) (hg2 : W.heap.size ≤ g2) (hne : g1 ≠ g2) : SP w (L ++ [(g1, t1, cs1), (g2, t2, cs2)]) Ps W' := by
  have h1 := h.addNew hb hB1 hg1
  rw [show L ++ [(g1, t1, cs1), (g2, t2, cs2)] = (L ++ [(g1, t1, cs1)]) ++ [(g2, t2, cs2)] by simp]
  refine ⟨⟨fun b hm => ?_, ?_, h1.1.2.2⟩, h1.2⟩
  · rcases List.mem_append.1 hm with hm | hm
    · exact h1.1.1 b hm
    · simp at hm; subst hm; exact ⟨Nat.le_trans h.1.2.2.size hg2, hB2⟩
  · rw [List.map_append, List.nodup_append]
    refine ⟨h1.1.2.1, by simp, fun x hx y hy => ?_⟩
    simp at hy; subst hy
    obtain ⟨b, hm, rfl⟩ := List.mem_map.1 hx
    rcases List.mem_append.1 hm with hm | hm
    · have := (h.1.1 b hm).2.lt
      omega
    · simp at hm; subst hm; exact hne
theorem Blk.newA (W : World) (a : Nat) (ha : a = W.heap.size) (t : TypeId) (cs : Array Value) : Blk (W.alloc (.cells cs t)) a t cs := by subst ha; exact Blk.new W t cs
theorem ownL_app {w : World} {B : Nat} {v : Value} {L : List Let} {z : Let} (ho : w.ownsRow B 94 2 v (L.length + 1) (L.flatMap encLet ++ [z].flatMap encLet)) : OwnL w B v (L ++ [z]) := by
  unfold OwnL
  rw [List.length_append, List.flatMap_append]
  simpa using ho
theorem LK.two (W : World) (x y : Let) (hx : LetS x) (hy : LetS y) (a : Nat) (ha : a = W.heap.size) : LK (W.alloc (.cells #[.string x.1, .string x.2, .string y.1, .string y.2] 94)) (some ⟨a, 0, none⟩) [x, y] := by
  subst ha
  exact LK.of (B := W.heap.size) (c := 2) (own_of_blk (base := W.heap.size) (n := 2) (k := 2) (xs := [.string x.1, .string x.2, .string y.1, .string y.2]) (Blk.new W _ _) (Nat.le_refl _) (by decide) rfl rfl) (fun z hz => by simp at hz; rcases hz with rfl | rfl <;> assumption) (by simp)
/-- how l6Do leaves: a store, one who talks, what is told -/
def DoL (m : Nat) (w : World) (e : Ending) (w' : World) : Prop :=
  ∃ (now' : Int) (A' : Option Addr) (l' : List Ver) (c' : Nat) (on' bad' : Bool) (t' : Int) (A2' : Option Addr) (ws' : List Wri) (c2' : Nat) (A3' : Option Addr) (ns' : List Nm) (c3' : Nat) (skip' gone' : Bool) (inb' : ByteArray) (A4 : Option Addr) (L : List Let) (c4 : Nat),
    e = .returned (.tuple #[.agg #[.int .i64 now', .slice A' l'.length c'], .agg #[.bool on', .bool bad', .int .i64 t', .slice A2' ws'.length c2', .slice A3' ns'.length c3', .bool skip', .bool gone', .string inb'], .slice A4 L.length c4]) ∧ VK w' now' A' l' ∧ WK w' A2' ws' ∧ NK w' A3' ns' ∧ LK w' A4 L ∧ Below w.heap.size w w' ∧ inb'.size ≤ m
set_option maxRecDepth 100000 in
set_option maxHeartbeats 16000000 in
theorem l6Do_any (A : Option Addr) (l : List Ver) (c : Nat) (now : Int) (on bad : Bool) (t : Int) (A2 : Option Addr) (ws : List Wri) (c2 : Nat) (A3 : Option Addr) (ns : List Nm) (c3 : Nat) (skip gone : Bool) (inb : ByteArray) (x : Let) (w : World) (hV : VK w now A l) (hW : WK w A2 ws) (hN : NK w A3 ns) (hx : x.2.size ≤ 1048576) :
    Calls Try.prog 158 #[.agg #[.int .i64 now, .slice A l.length c], .agg #[.bool on, .bool bad, .int .i64 t, .slice A2 ws.length c2, .slice A3 ns.length c3, .bool skip, .bool gone, .string inb], .agg #[.string x.1, .string x.2]] w (DoL inb.size w) := by
  obtain ⟨sg, bd⟩ := x
  simp only at hx ⊢
  have HXB := Lib.hid hx
  have hbE := allocAll_below w [(32, #[.int .i64 now, .slice A l.length c]), (81, #[.bool on, .bool bad, .int .i64 t, .slice A2 ws.length c2, .slice A3 ns.length c3, .bool skip, .bool gone, .string inb]), (94, #[.string sg, .string bd]), (32, #[.int .i64 0, .slice none 0 0]), (81, #[.bool false, .bool false, .int .i64 0, .slice none 0 0, .slice none 0 0, .bool false, .bool false, .string ⟨#[]⟩])]
  have H : Hid (SP w [(w.heap.size, 32, #[.int .i64 now, .slice A l.length c]), (w.heap.size + 1, 81, #[.bool on, .bool bad, .int .i64 t, .slice A2 ws.length c2, .slice A3 ns.length c3, .bool skip, .bool gone, .string inb]), (w.heap.size + 1 + 1, 94, #[.string sg, .string bd]), (w.heap.size + 1 + 1 + 1, 32, #[.int .i64 0, .slice none 0 0]), (w.heap.size + 1 + 1 + 1 + 1, 81, #[.bool false, .bool false, .int .i64 0, .slice none 0 0, .slice none 0 0, .bool false, .bool false, .string ⟨#[]⟩])] [fun W => VK W now A l, fun W => WK W A2 ws, fun W => NK W A3 ns] ((allocAll w [(32, #[.int .i64 now, .slice A l.length c]), (81, #[.bool on, .bool bad, .int .i64 t, .slice A2 ws.length c2, .slice A3 ns.length c3, .bool skip, .bool gone, .string inb]), (94, #[.string sg, .string bd]), (32, #[.int .i64 0, .slice none 0 0]), (81, #[.bool false, .bool false, .int .i64 0, .slice none 0 0, .slice none 0 0, .bool false, .bool false, .string ⟨#[]⟩])]))) := Lib.hid (SP.add (SP.add (SP.add (SP.start w [(32, #[.int .i64 now, .slice A l.length c]), (81, #[.bool on, .bool bad, .int .i64 t, .slice A2 ws.length c2, .slice A3 ns.length c3, .bool skip, .bool gone, .string inb]), (94, #[.string sg, .string bd]), (32, #[.int .i64 0, .slice none 0 0]), (81, #[.bool false, .bool false, .int .i64 0, .slice none 0 0, .slice none 0 0, .bool false, .bool false, .string ⟨#[]⟩])]) _ VK.c (VK.c _ _ (Kp.below hbE) hV)) _ WK.c (WK.c _ _ (Kp.below hbE) hW)) _ NK.c (NK.c _ _ (Kp.below hbE) hN))
  clear hbE
  go_enter Try.func158, Try.ntmps158
  clear hV hW hN hx
  go_upto_region 1 with fail
  change Code.wp _ _ _ _ (allocAll w [(32, #[.int .i64 now, .slice A l.length c]), (81, #[.bool on, .bool bad, .int .i64 t, .slice A2 ws.length c2, .slice A3 ns.length c3, .bool skip, .bool gone, .string inb]), (94, #[.string sg, .string bd]), (32, #[.int .i64 0, .slice none 0 0]), (81, #[.bool false, .bool false, .int .i64 0, .slice none 0 0, .slice none 0 0, .bool false, .bool false, .string ⟨#[]⟩])])
  generalize (allocAll w [(32, #[.int .i64 now, .slice A l.length c]), (81, #[.bool on, .bool bad, .int .i64 t, .slice A2 ws.length c2, .slice A3 ns.length c3, .bool skip, .bool gone, .string inb]), (94, #[.string sg, .string bd]), (32, #[.int .i64 0, .slice none 0 0]), (81, #[.bool false, .bool false, .int .i64 0, .slice none 0 0, .slice none 0 0, .bool false, .bool false, .string ⟨#[]⟩])]) = w0 at *
  obtain ⟨x2_0, x2_1⟩ := Blk.q2 (H.out.blk 2 rfl)
  cases hS : (sg.toList == [83])
  case true =>
    obtain ⟨x3_0, x3_1⟩ := Blk.q2 (H.out.blk 3 rfl)
    obtain ⟨x4_0, x4_1, x4_2, x4_3, x4_4, x4_5, x4_6, x4_7⟩ := Blk.q8 (H.out.blk 4 rfl)
    obtain ⟨z3_0, z3_1⟩ := Blk.z2 (H.out.blk 3 rfl)
    obtain ⟨z4_0, z4_1, z4_2, z4_3, z4_4, z4_5, z4_6, z4_7⟩ := Blk.z8 (H.out.blk 4 rfl)
    have l0 := (H.out.blk 0 rfl).lt
    have l1 := (H.out.blk 1 rfl).lt
    have l3 := (H.out.blk 3 rfl).lt
    have l4 := (H.out.blk 4 rfl).lt
    have hB0_0 : ∀ W : World, Blk W (w.heap.size) 32 #[.int .i64 now, .slice A l.length c] → W.cell? ⟨w.heap.size, 0, none⟩ = some (.int .i64 now) := fun W h => h.cell 0
    have hB0_1 : ∀ W : World, Blk W (w.heap.size) 32 #[.int .i64 now, .slice A l.length c] → W.cell? ⟨w.heap.size, 1, none⟩ = some (.slice A l.length c) := fun W h => h.cell 1
    have hB1_0 : ∀ W : World, Blk W (w.heap.size + 1) 81 #[.bool on, .bool bad, .int .i64 t, .slice A2 ws.length c2, .slice A3 ns.length c3, .bool skip, .bool gone, .string inb] → W.cell? ⟨w.heap.size + 1, 0, none⟩ = some (.bool on) := fun W h => h.cell 0
    have hB1_1 : ∀ W : World, Blk W (w.heap.size + 1) 81 #[.bool on, .bool bad, .int .i64 t, .slice A2 ws.length c2, .slice A3 ns.length c3, .bool skip, .bool gone, .string inb] → W.cell? ⟨w.heap.size + 1, 1, none⟩ = some (.bool bad) := fun W h => h.cell 1
    have hB1_2 : ∀ W : World, Blk W (w.heap.size + 1) 81 #[.bool on, .bool bad, .int .i64 t, .slice A2 ws.length c2, .slice A3 ns.length c3, .bool skip, .bool gone, .string inb] → W.cell? ⟨w.heap.size + 1, 2, none⟩ = some (.int .i64 t) := fun W h => h.cell 2
    have hB1_3 : ∀ W : World, Blk W (w.heap.size + 1) 81 #[.bool on, .bool bad, .int .i64 t, .slice A2 ws.length c2, .slice A3 ns.length c3, .bool skip, .bool gone, .string inb] → W.cell? ⟨w.heap.size + 1, 3, none⟩ = some (.slice A2 ws.length c2) := fun W h => h.cell 3
    have hB1_4 : ∀ W : World, Blk W (w.heap.size + 1) 81 #[.bool on, .bool bad, .int .i64 t, .slice A2 ws.length c2, .slice A3 ns.length c3, .bool skip, .bool gone, .string inb] → W.cell? ⟨w.heap.size + 1, 4, none⟩ = some (.slice A3 ns.length c3) := fun W h => h.cell 4
    have hB1_5 : ∀ W : World, Blk W (w.heap.size + 1) 81 #[.bool on, .bool bad, .int .i64 t, .slice A2 ws.length c2, .slice A3 ns.length c3, .bool skip, .bool gone, .string inb] → W.cell? ⟨w.heap.size + 1, 5, none⟩ = some (.bool skip) := fun W h => h.cell 5
    have hB1_6 : ∀ W : World, Blk W (w.heap.size + 1) 81 #[.bool on, .bool bad, .int .i64 t, .slice A2 ws.length c2, .slice A3 ns.length c3, .bool skip, .bool gone, .string inb] → W.cell? ⟨w.heap.size + 1, 6, none⟩ = some (.bool gone) := fun W h => h.cell 6
    have hB1_7 : ∀ W : World, Blk W (w.heap.size + 1) 81 #[.bool on, .bool bad, .int .i64 t, .slice A2 ws.length c2, .slice A3 ns.length c3, .bool skip, .bool gone, .string inb] → W.cell? ⟨w.heap.size + 1, 7, none⟩ = some (.string inb) := fun W h => h.cell 7
    have hb0 : Blk w0 (w.heap.size) 32 #[.int .i64 now, .slice A l.length c] := H.out.blk 0 rfl
    have hb1 : Blk w0 (w.heap.size + 1) 81 #[.bool on, .bool bad, .int .i64 t, .slice A2 ws.length c2, .slice A3 ns.length c3, .bool skip, .bool gone, .string inb] := H.out.blk 1 rfl
    go_wp2_with fail
    replace H := Lib.hid (H.out.kept (kDB w0))
    go_region_held3 (fun W => Blk W (w.heap.size) 32 #[.int .i64 now, .slice A l.length c] ∧ Blk W (w.heap.size + 1) 81 #[.bool on, .bool bad, .int .i64 t, .slice A2 ws.length c2, .slice A3 ns.length c3, .bool skip, .bool gone, .string inb])
      ((refine ⟨?_, ?_⟩ <;> (repeat (first | (with_reducible assumption) | (with_reducible refine Blk.drew ?_) | (with_reducible refine Blk.alloc ?_ _) | (with_reducible refine Blk.far ?_ (by simp <;> omega) _)))))
      (first
        | (go_at_call 180
           refine (l6Ready_any on bad t A2 A3 ws.length c2 ns.length c3 skip gone inb _).mono ?_
           rintro e wz ⟨sr, rfl, hsr, hbz⟩
           have HSR := Lib.hid hsr
           replace H := Lib.hid (H.out.kept hbz)
           have hc0 : Blk wz (w.heap.size) 32 #[.int .i64 now, .slice A l.length c] := H.out.blk 0 rfl
           have hc1 : Blk wz (w.heap.size + 1) 81 #[.bool on, .bool bad, .int .i64 t, .slice A2 ws.length c2, .slice A3 ns.length c3, .bool skip, .bool gone, .string inb] := H.out.blk 1 rfl
           have hkk : wz.cell? ⟨w.heap.size + 1 + 1 + 1, 0, none⟩ = some (.int .i64 0) ∧ wz.cell? ⟨w.heap.size + 1 + 1 + 1, 1, none⟩ = some (.slice none 0 0) ∧ wz.cell? ⟨w.heap.size + 1 + 1 + 1 + 1, 0, none⟩ = some (.bool false) ∧ wz.cell? ⟨w.heap.size + 1 + 1 + 1 + 1, 1, none⟩ = some (.bool false) ∧ wz.cell? ⟨w.heap.size + 1 + 1 + 1 + 1, 2, none⟩ = some (.int .i64 0) ∧ wz.cell? ⟨w.heap.size + 1 + 1 + 1 + 1, 3, none⟩ = some (.slice none 0 0) ∧ wz.cell? ⟨w.heap.size + 1 + 1 + 1 + 1, 4, none⟩ = some (.slice none 0 0) ∧ wz.cell? ⟨w.heap.size + 1 + 1 + 1 + 1, 5, none⟩ = some (.bool false) ∧ wz.cell? ⟨w.heap.size + 1 + 1 + 1 + 1, 6, none⟩ = some (.bool false) ∧ wz.cell? ⟨w.heap.size + 1 + 1 + 1 + 1, 7, none⟩ = some (.string ⟨#[]⟩) := ⟨(H.out.blk 3 rfl).cell 0, (H.out.blk 3 rfl).cell 1, (H.out.blk 4 rfl).cell 0, (H.out.blk 4 rfl).cell 1, (H.out.blk 4 rfl).cell 2, (H.out.blk 4 rfl).cell 3, (H.out.blk 4 rfl).cell 4, (H.out.blk 4 rfl).cell 5, (H.out.blk 4 rfl).cell 6, (H.out.blk 4 rfl).cell 7⟩
           have hfz := fun j => (H.out.blk 3 rfl).frozen j
           have hfz2 := fun j => (H.out.blk 4 rfl).frozen j
           have hl3 := (H.out.blk 3 rfl).lt
           have hl4 := (H.out.blk 4 rfl).lt
           have hl0 := (H.out.blk 0 rfl).lt
           have hl1 := (H.out.blk 1 rfl).lt
           clear hbz hsr))
    all_goals
      have hN1 := LK.oneH ((((((((((wz.setCell ⟨w.heap.size + 1 + 1 + 1, 0, none⟩ (.int .i64 now)).setCell ⟨w.heap.size + 1 + 1 + 1, 1, none⟩ (.slice A l.length c)).setCell ⟨w.heap.size + 1 + 1 + 1 + 1, 0, none⟩ (.bool on)).setCell ⟨w.heap.size + 1 + 1 + 1 + 1, 1, none⟩ (.bool bad)).setCell ⟨w.heap.size + 1 + 1 + 1 + 1, 2, none⟩ (.int .i64 t)).setCell ⟨w.heap.size + 1 + 1 + 1 + 1, 3, none⟩ (.slice A2 ws.length c2)).setCell ⟨w.heap.size + 1 + 1 + 1 + 1, 4, none⟩ (.slice A3 ns.length c3)).setCell ⟨w.heap.size + 1 + 1 + 1 + 1, 5, none⟩ (.bool skip)).setCell ⟨w.heap.size + 1 + 1 + 1 + 1, 6, none⟩ (.bool gone)).setCell ⟨w.heap.size + 1 + 1 + 1 + 1, 7, none⟩ (.string inb)) (⟨#[90]⟩, sr) ⟨sZ, by have := HSR.out; simp only; omega⟩ wz.heap.size (by simp only [World.size_setCell])
      have hlk := kFF ((((((((((wz.setCell ⟨w.heap.size + 1 + 1 + 1, 0, none⟩ (.int .i64 now)).setCell ⟨w.heap.size + 1 + 1 + 1, 1, none⟩ (.slice A l.length c)).setCell ⟨w.heap.size + 1 + 1 + 1 + 1, 0, none⟩ (.bool on)).setCell ⟨w.heap.size + 1 + 1 + 1 + 1, 1, none⟩ (.bool bad)).setCell ⟨w.heap.size + 1 + 1 + 1 + 1, 2, none⟩ (.int .i64 t)).setCell ⟨w.heap.size + 1 + 1 + 1 + 1, 3, none⟩ (.slice A2 ws.length c2)).setCell ⟨w.heap.size + 1 + 1 + 1 + 1, 4, none⟩ (.slice A3 ns.length c3)).setCell ⟨w.heap.size + 1 + 1 + 1 + 1, 5, none⟩ (.bool skip)).setCell ⟨w.heap.size + 1 + 1 + 1 + 1, 6, none⟩ (.bool gone)).setCell ⟨w.heap.size + 1 + 1 + 1 + 1, 7, none⟩ (.string inb)) (.cells #[.string ⟨#[90]⟩, .string sr] 94)
      have HZ := Lib.hid (SP.add (SP.kept (SP.set (SP.set (SP.set (SP.set (SP.set (SP.set (SP.set (SP.set (SP.set (SP.set (H.out) 3 0 (.int .i64 now) rfl (by decide)) 3 1 (.slice A l.length c) rfl (by decide)) 4 0 (.bool on) rfl (by decide)) 4 1 (.bool bad) rfl (by decide)) 4 2 (.int .i64 t) rfl (by decide)) 4 3 (.slice A2 ws.length c2) rfl (by decide)) 4 4 (.slice A3 ns.length c3) rfl (by decide)) 4 5 (.bool skip) rfl (by decide)) 4 6 (.bool gone) rfl (by decide)) 4 7 (.string inb) rfl (by decide)) hlk) (fun W => LK W (some ⟨wz.heap.size, 0, none⟩) [((⟨#[90]⟩, sr) : Let)]) LK.c hN1)
      clear hlk hN1 hB0_0 hB0_1 hB1_0 hB1_1 hB1_2 hB1_3 hB1_4 hB1_5 hB1_6 hB1_7
      go_wp2
      refine bodyPost_ret (v := .tuple #[.agg #[.int .i64 now, .slice A l.length c], .agg #[.bool on, .bool bad, .int .i64 t, .slice A2 ws.length c2, .slice A3 ns.length c3, .bool skip, .bool gone, .string inb], .slice (some ⟨wz.heap.size, 0, none⟩) 1 1]) ?_ rfl ⟨now, A, l, c, on, bad, t, A2, ws, c2, A3, ns, c3, skip, gone, inb, some ⟨wz.heap.size, 0, none⟩, [(⟨#[90]⟩, sr)], 1, rfl, HZ.out.get 0 rfl, HZ.out.get 1 rfl, HZ.out.get 2 rfl, HZ.out.get 3 rfl, HZ.out.below, Nat.le_refl _⟩
      simp [results, Try.results158, go_sem, hl3, hl4, hkk]
  cases hP : (sg.toList == [80])
  case true =>
    obtain ⟨x1_0, x1_1, x1_2, x1_3, x1_4, x1_5, x1_6, x1_7⟩ := Blk.q8 (H.out.blk 1 rfl)
    go_wp2_with fail
    refine (l6Prepare_any on bad t A2 ws c2 A3 ns c3 skip gone inb bd _ (H.out.get 1 rfl) (H.out.get 2 rfl) HXB.out).mono ?_
    rintro e w1 ⟨A5, n5, c5, sk5, A4, L, c4, rfl, hW5, hN5, hL5, hb1⟩
    replace H : Hid (SP w [(w.heap.size, 32, #[.int .i64 now, .slice A l.length c]), (w.heap.size + 1, 81, #[.bool on, .bool bad, .int .i64 t, .slice A2 ws.length c2, .slice A3 ns.length c3, .bool skip, .bool gone, .string inb]), (w.heap.size + 1 + 1, 94, #[.string sg, .string bd]), (w.heap.size + 1 + 1 + 1, 32, #[.int .i64 0, .slice none 0 0]), (w.heap.size + 1 + 1 + 1 + 1, 81, #[.bool false, .bool false, .int .i64 0, .slice none 0 0, .slice none 0 0, .bool false, .bool false, .string ⟨#[]⟩])] [fun W => VK W now A l, fun W => WK W A2 ws, fun W => NK W A3 ns, fun W => NK W A5 n5, fun W => LK W A4 L] w1) := Lib.hid (SP.add (SP.add (H.out.kept hb1) _ NK.c (hN5)) _ LK.c (hL5))
    clear x2_0 x2_1 x1_0 x1_1 x1_2 x1_3 x1_4 x1_5 x1_6 x1_7 hb1 hN5 hL5 hW5
    have hlt4 := (H.out.blk 4 rfl).lt
    have np3 : w1.heap.size ≠ w.heap.size + 1 + 1 + 1 := by omega
    have mp3 : w.heap.size + 1 + 1 + 1 ≠ w1.heap.size := by omega
    have np4 : w1.heap.size ≠ w.heap.size + 1 + 1 + 1 + 1 := by omega
    have mp4 : w.heap.size + 1 + 1 + 1 + 1 ≠ w1.heap.size := by omega
    have H := Lib.hid (H.out.alloc 81 #[.bool on, .bool bad, .int .i64 t, .slice A2 ws.length c2, .slice A5 n5.length c5, .bool sk5, .bool gone, .string inb])
    obtain ⟨x0_0, x0_1⟩ := Blk.q2 (H.out.blk 0 rfl)
    obtain ⟨x3_0, x3_1⟩ := Blk.q2 (H.out.blk 3 rfl)
    obtain ⟨x4_0, x4_1, x4_2, x4_3, x4_4, x4_5, x4_6, x4_7⟩ := Blk.q8 (H.out.blk 4 rfl)
    obtain ⟨z3_0, z3_1⟩ := Blk.z2 (H.out.blk 3 rfl)
    obtain ⟨z4_0, z4_1, z4_2, z4_3, z4_4, z4_5, z4_6, z4_7⟩ := Blk.z8 (H.out.blk 4 rfl)
    go_wp2_with fail
    go_region
    all_goals
      go_wp2
      first
      | (have HZ := Lib.hid (SP.kept (SP.set (SP.set (SP.set (SP.set (SP.set (SP.set (SP.set (SP.set (SP.set (SP.set (H.out) 3 0 (.int .i64 now) rfl (by decide)) 3 1 (.slice A l.length c) rfl (by decide)) 4 0 (.bool on) rfl (by decide)) 4 1 (.bool bad) rfl (by decide)) 4 2 (.int .i64 t) rfl (by decide)) 4 3 (.slice A2 ws.length c2) rfl (by decide)) 4 4 (.slice A5 n5.length c5) rfl (by decide)) 4 5 (.bool sk5) rfl (by decide)) 4 6 (.bool gone) rfl (by decide)) 4 7 (.string inb) rfl (by decide)) (kD _)); refine bodyPost_ret (v := .tuple #[.agg #[.int .i64 now, .slice A l.length c], .agg #[.bool on, .bool bad, .int .i64 t, .slice A2 ws.length c2, .slice A5 n5.length c5, .bool sk5, .bool gone, .string inb], .slice A4 L.length c4]) ?_ rfl (⟨now, A, l, c, on, bad, t, A2, ws, c2, A5, n5, c5, sk5, gone, inb, A4, L, c4, rfl, HZ.out.get 0 rfl, HZ.out.get 1 rfl, HZ.out.get 3 rfl, HZ.out.get 4 rfl, HZ.out.below, Nat.le_refl _⟩); (simp [results, Try.results158, go_sem, x3_0, x3_1, x4_0, x4_1, x4_2, x4_3, x4_4, x4_5, x4_6, x4_7]; done))
  cases hQ : (sg.toList == [81])
  case true =>
    go_wp2_with fail
    refine (askRead_any bd _ HXB.out).mono ?_
    rintro e w1 ⟨x, b1, rfl, hxa, hxb, hb1⟩
    obtain ⟨ak, aa, ab, an⟩ := x
    simp only at hxa hxb
    have HXA := Lib.hid (⟨hxa, hxb⟩ : _ ∧ _)
    replace H := Lib.hid (H.out.kept hb1)
    clear x2_0 x2_1 hb1 hxa hxb
    have H := Lib.hid (H.out.alloc 128 #[.int .i64 ak, .string aa, .string ab, .int .i64 an])
    obtain ⟨x0_0, x0_1⟩ := Blk.q2 (H.out.blk 0 rfl)
    obtain ⟨x1_0, x1_1, x1_2, x1_3, x1_4, x1_5, x1_6, x1_7⟩ := Blk.q8 (H.out.blk 1 rfl)
    obtain ⟨x5_0, x5_1, x5_2, x5_3⟩ := Blk.q4 (H.out.blk 5 rfl)
    go_wp2_with fail
    refine (l4Do_any A l c now on bad t A2 ws c2 (ak, aa, ab, an) _ (H.out.get 0 rfl) (H.out.get 1 rfl) HXA.out.1 HXA.out.2).mono ?_
    rintro e w2 ⟨nowu, Au, lu, cu, onu, badu, tu, A2u, wsu, c2u, A3u, rs, c3u, d, rfl, hV2, hW2, hR2, hlr, hT2, hd0, hd6, hb2⟩
    have HT2 := Lib.hid hT2
    replace H : Hid (SP w [(w.heap.size, 32, #[.int .i64 now, .slice A l.length c]), (w.heap.size + 1, 81, #[.bool on, .bool bad, .int .i64 t, .slice A2 ws.length c2, .slice A3 ns.length c3, .bool skip, .bool gone, .string inb]), (w.heap.size + 1 + 1, 94, #[.string sg, .string bd]), (w.heap.size + 1 + 1 + 1, 32, #[.int .i64 0, .slice none 0 0]), (w.heap.size + 1 + 1 + 1 + 1, 81, #[.bool false, .bool false, .int .i64 0, .slice none 0 0, .slice none 0 0, .bool false, .bool false, .string ⟨#[]⟩]), (w1.heap.size, 128, #[.int .i64 ak, .string aa, .string ab, .int .i64 an])] [fun W => VK W now A l, fun W => WK W A2 ws, fun W => NK W A3 ns, fun W => VK W nowu Au lu, fun W => WK W A2u wsu, fun W => RK W A3u rs c3u] w2) := Lib.hid (SP.add (SP.add (SP.add (H.out.kept hb2) _ VK.c (hV2)) _ WK.c (hW2)) _ RK.c (hR2))
    clear x0_0 x0_1 x1_0 x1_1 x1_2 x1_3 x1_4 x1_5 x1_6 x1_7 x5_0 x5_1 x5_2 x5_3 hb2 hV2 hW2 hR2 hT2
    obtain ⟨x1_0, x1_1, x1_2, x1_3, x1_4, x1_5, x1_6, x1_7⟩ := Blk.q8 (H.out.blk 1 rfl)
    obtain ⟨z1_0, z1_1, z1_2, z1_3, z1_4, z1_5, z1_6, z1_7⟩ := Blk.z8 (H.out.blk 1 rfl)
    have l0 := (H.out.blk 0 rfl).lt
    have l1 := (H.out.blk 1 rfl).lt
    have l3 := (H.out.blk 3 rfl).lt
    have l4 := (H.out.blk 4 rfl).lt
    go_upto_region 11 with fail
    have H := Lib.hid (SP.allocA (SP.allocA (SP.set (SP.set (SP.set (SP.set (H.out) 1 0 (.bool onu) rfl (by decide)) 1 1 (.bool badu) rfl (by decide)) 1 2 (.int .i64 tu) rfl (by decide)) 1 3 (.slice A2u wsu.length c2u) rfl (by decide)) w2.heap.size (by simp only [World.size_setCell]) 32 #[.int .i64 nowu, .slice Au lu.length cu]) (w2.heap.size + 1) (by simp only [World.size_setCell, World.size_alloc]) 78 #[.bool onu, .bool badu, .int .i64 tu, .slice A2u wsu.length c2u])
    have hg4 : w.heap.size + 1 + 1 + 1 + 1 < w2.heap.size := l4
    clear x1_0 x1_1 x1_2 x1_3 x1_4 x1_5 x1_6 x1_7 z1_0 z1_1 z1_2 z1_3 z1_4 z1_5 z1_6 z1_7 l0 l1 l3 l4
    generalize ((((((w2.setCell ⟨w.heap.size + 1, 0, none⟩ (.bool onu)).setCell ⟨w.heap.size + 1, 1, none⟩ (.bool badu)).setCell ⟨w.heap.size + 1, 2, none⟩ (.int .i64 tu)).setCell ⟨w.heap.size + 1, 3, none⟩ (.slice A2u wsu.length c2u)).alloc (.cells #[.int .i64 nowu, .slice Au lu.length cu] 32)).alloc (.cells #[.bool onu, .bool badu, .int .i64 tu, .slice A2u wsu.length c2u] 78)) = w3 at *
    have H : Hid (SP w [(w.heap.size, 32, #[.int .i64 now, .slice A l.length c]), (w.heap.size + 1, 81, #[.bool onu, .bool badu, .int .i64 tu, .slice A2u wsu.length c2u, .slice A3 ns.length c3, .bool skip, .bool gone, .string inb]), (w.heap.size + 1 + 1, 94, #[.string sg, .string bd]), (w.heap.size + 1 + 1 + 1, 32, #[.int .i64 0, .slice none 0 0]), (w.heap.size + 1 + 1 + 1 + 1, 81, #[.bool false, .bool false, .int .i64 0, .slice none 0 0, .slice none 0 0, .bool false, .bool false, .string ⟨#[]⟩]), (w1.heap.size, 128, #[.int .i64 ak, .string aa, .string ab, .int .i64 an]), (w2.heap.size, 32, #[.int .i64 nowu, .slice Au lu.length cu]), ((w2.heap.size + 1), 78, #[.bool onu, .bool badu, .int .i64 tu, .slice A2u wsu.length c2u])] [fun W => VK W now A l, fun W => WK W A2 ws, fun W => NK W A3 ns, fun W => VK W nowu Au lu, fun W => WK W A2u wsu, fun W => RK W A3u rs c3u] w3) := Lib.hid H.out
    have hlb : w2.heap.size + 1 < w3.heap.size := (H.out.blk 7 rfl).lt
    have HBX := Lib.hid (fun b hb => (H.out.1.1 b hb).2.lt : ∀ b ∈ [(w.heap.size, 32, #[.int .i64 now, .slice A l.length c]), (w.heap.size + 1, 81, #[.bool onu, .bool badu, .int .i64 tu, .slice A2u wsu.length c2u, .slice A3 ns.length c3, .bool skip, .bool gone, .string inb]), (w.heap.size + 1 + 1, 94, #[.string sg, .string bd]), (w.heap.size + 1 + 1 + 1, 32, #[.int .i64 0, .slice none 0 0]), (w.heap.size + 1 + 1 + 1 + 1, 81, #[.bool false, .bool false, .int .i64 0, .slice none 0 0, .slice none 0 0, .bool false, .bool false, .string ⟨#[]⟩]), (w1.heap.size, 128, #[.int .i64 ak, .string aa, .string ab, .int .i64 an]), (w2.heap.size, 32, #[.int .i64 nowu, .slice Au lu.length cu]), ((w2.heap.size + 1), 78, #[.bool onu, .bool badu, .int .i64 tu, .slice A2u wsu.length c2u])], b.1 < w3.heap.size)
    have HKL : Hid (∀ P ∈ [fun W => VK W now A l, fun W => WK W A2 ws, fun W => NK W A3 ns, fun W => VK W nowu Au lu, fun W => WK W A2u wsu, fun W => RK W A3u rs c3u], KL P) := Lib.hid (List.forall_mem_cons.2 ⟨VK.l, List.forall_mem_cons.2 ⟨WK.l, List.forall_mem_cons.2 ⟨NK.l, List.forall_mem_cons.2 ⟨VK.l, List.forall_mem_cons.2 ⟨WK.l, List.forall_mem_cons.2 ⟨RK.l, fun P hP => absurd hP (by simp)⟩⟩⟩⟩⟩⟩)
    have HW3 := Lib.hid H.out.below.size
    obtain ⟨i0, hi0, hz0, hz1, hz2⟩ := info_parts infoLet
    have HI := Lib.hid (⟨hi0, hz0, hz1, hz2⟩ : _ ∧ _ ∧ _ ∧ _)
    clear hi0 hz0 hz1 hz2
    have l0 := (H.out.blk 0 rfl).lt
    have l1 := (H.out.blk 1 rfl).lt
    have l2 := (H.out.blk 2 rfl).lt
    have l3 := (H.out.blk 3 rfl).lt
    have l4 := (H.out.blk 4 rfl).lt
    have hB1_0 : ∀ W : World, Blk W (w.heap.size + 1) 81 #[.bool onu, .bool badu, .int .i64 tu, .slice A2u wsu.length c2u, .slice A3 ns.length c3, .bool skip, .bool gone, .string inb] → W.cell? ⟨w.heap.size + 1, 0, none⟩ = some (.bool onu) := fun W h => h.cell 0
    have hB1_1 : ∀ W : World, Blk W (w.heap.size + 1) 81 #[.bool onu, .bool badu, .int .i64 tu, .slice A2u wsu.length c2u, .slice A3 ns.length c3, .bool skip, .bool gone, .string inb] → W.cell? ⟨w.heap.size + 1, 1, none⟩ = some (.bool badu) := fun W h => h.cell 1
    have hB1_2 : ∀ W : World, Blk W (w.heap.size + 1) 81 #[.bool onu, .bool badu, .int .i64 tu, .slice A2u wsu.length c2u, .slice A3 ns.length c3, .bool skip, .bool gone, .string inb] → W.cell? ⟨w.heap.size + 1, 2, none⟩ = some (.int .i64 tu) := fun W h => h.cell 2
    have hB1_3 : ∀ W : World, Blk W (w.heap.size + 1) 81 #[.bool onu, .bool badu, .int .i64 tu, .slice A2u wsu.length c2u, .slice A3 ns.length c3, .bool skip, .bool gone, .string inb] → W.cell? ⟨w.heap.size + 1, 3, none⟩ = some (.slice A2u wsu.length c2u) := fun W h => h.cell 3
    have hB1_4 : ∀ W : World, Blk W (w.heap.size + 1) 81 #[.bool onu, .bool badu, .int .i64 tu, .slice A2u wsu.length c2u, .slice A3 ns.length c3, .bool skip, .bool gone, .string inb] → W.cell? ⟨w.heap.size + 1, 4, none⟩ = some (.slice A3 ns.length c3) := fun W h => h.cell 4
    have hB1_5 : ∀ W : World, Blk W (w.heap.size + 1) 81 #[.bool onu, .bool badu, .int .i64 tu, .slice A2u wsu.length c2u, .slice A3 ns.length c3, .bool skip, .bool gone, .string inb] → W.cell? ⟨w.heap.size + 1, 5, none⟩ = some (.bool skip) := fun W h => h.cell 5
    have hB1_6 : ∀ W : World, Blk W (w.heap.size + 1) 81 #[.bool onu, .bool badu, .int .i64 tu, .slice A2u wsu.length c2u, .slice A3 ns.length c3, .bool skip, .bool gone, .string inb] → W.cell? ⟨w.heap.size + 1, 6, none⟩ = some (.bool gone) := fun W h => h.cell 6
    have hB1_7 : ∀ W : World, Blk W (w.heap.size + 1) 81 #[.bool onu, .bool badu, .int .i64 tu, .slice A2u wsu.length c2u, .slice A3 ns.length c3, .bool skip, .bool gone, .string inb] → W.cell? ⟨w.heap.size + 1, 7, none⟩ = some (.string inb) := fun W h => h.cell 7
    have hB6_0 : ∀ W : World, Blk W (w2.heap.size) 32 #[.int .i64 nowu, .slice Au lu.length cu] → W.cell? ⟨w2.heap.size, 0, none⟩ = some (.int .i64 nowu) := fun W h => h.cell 0
    have hB6_1 : ∀ W : World, Blk W (w2.heap.size) 32 #[.int .i64 nowu, .slice Au lu.length cu] → W.cell? ⟨w2.heap.size, 1, none⟩ = some (.slice Au lu.length cu) := fun W h => h.cell 1
    have hb1 : Blk w3 (w.heap.size + 1) 81 #[.bool onu, .bool badu, .int .i64 tu, .slice A2u wsu.length c2u, .slice A3 ns.length c3, .bool skip, .bool gone, .string inb] := H.out.blk 1 rfl
    have hb6 : Blk w3 (w2.heap.size) 32 #[.int .i64 nowu, .slice Au lu.length cu] := H.out.blk 6 rfl
    go_wp2_with fail
    replace H := Lib.hid (H.out.kept (kDB w3))
    have hw3 : w3.heap.size = w3.drew.heap.size := rfl
    go_region_held3 (fun W => Blk W (w.heap.size + 1) 81 #[.bool onu, .bool badu, .int .i64 tu, .slice A2u wsu.length c2u, .slice A3 ns.length c3, .bool skip, .bool gone, .string inb] ∧ Blk W (w2.heap.size) 32 #[.int .i64 nowu, .slice Au lu.length cu])
      ((refine ⟨?_, ?_⟩ <;> (repeat (first | (with_reducible assumption) | (with_reducible refine Blk.drew ?_) | (with_reducible refine Blk.alloc ?_ _) | (with_reducible refine Blk.far ?_ (by simp <;> omega) _)))))
      (first
        | (with_reducible show Calls _ _ _ (World.drew w3) _
           go_at_call 184
           refine (l6Done_any A3u rs c3u d _ hlr (RK.sl (H.out.get 5 rfl)) HT2.out hd0 hd6).mono ?_
           rintro e wz ⟨A4, L, c4, rfl, hoL, hlL, haL, hbz⟩
           have HO : Hid (OwnL wz w3.heap.size (.slice A4 L.length c4) L) := Lib.hid (OwnL.leB hoL (Nat.le_refl _))
           have HLL := Lib.hid (⟨hlL, haL⟩ : _ ∧ _)
           have hzS : w3.heap.size ≤ wz.heap.size := hbz.size
           replace H := Lib.hid (H.out.kept hbz)
           have hc1 : Blk wz (w.heap.size + 1) 81 #[.bool onu, .bool badu, .int .i64 tu, .slice A2u wsu.length c2u, .slice A3 ns.length c3, .bool skip, .bool gone, .string inb] := H.out.blk 1 rfl
           have hc6 : Blk wz (w2.heap.size) 32 #[.int .i64 nowu, .slice Au lu.length cu] := H.out.blk 6 rfl
           clear hoL hlL haL hbz)
        | (with_reducible show Calls _ _ _ wz _
           go_at_call 180
           refine (l6Ready_any onu badu tu A2u A3 wsu.length c2u ns.length c3 skip gone inb _).mono ?_
           rintro e wy ⟨sr, rfl, hsr, hby⟩
           have HSR := Lib.hid hsr
           have hyS : w3.heap.size ≤ wy.heap.size := Nat.le_trans hzS hby.size
           replace HO := Lib.hid (own_kept HO.out hby)
           replace H := Lib.hid (H.out.kept hby)
           have hc1 : Blk wy (w.heap.size + 1) 81 #[.bool onu, .bool badu, .int .i64 tu, .slice A2u wsu.length c2u, .slice A3 ns.length c3, .bool skip, .bool gone, .string inb] := H.out.blk 1 rfl
           have hc6 : Blk wy (w2.heap.size) 32 #[.int .i64 nowu, .slice Au lu.length cu] := H.out.blk 6 rfl
           clear hby hsr)
        | (refine step_append_slB (w := (wy.alloc (.cells #[.string ⟨#[90]⟩, .string sr] 94))) (enc := encLet) rfl (.tmp 70) (.tmp 73) 49 rfl w3.heap.size 94 i0 (.agg #[.string ⟨#[]⟩, .string ⟨#[]⟩]) 2 32 Try.underlying49 HI.out.1 HI.out.2.1 HI.out.2.2.1 HI.out.2.2.2 rfl (by decide) (.slice A4 L.length c4) L.length (L.flatMap encLet) (by simp [Act.eval]) (HO.out.alloc _) encLet_len (some ⟨wy.heap.size, 0, none⟩) [((⟨#[90]⟩, sr) : Let)] 1 1 rfl (by simp [Act.eval]) (sll_one (x := (⟨#[90]⟩, sr)) (Blk.new wy _ _)) (encLet_one _) (by have := HLL.out.1; unfold maxLen; simp; omega) (by have := HLL.out.1; simp; omega) (by rw [World.size_alloc]; omega) ?_
           intro v8 w8 ho8 hg8 _
           replace H := Lib.hid (SP.grownO (H.out.kept (kFF wy (.cells #[.string ⟨#[90]⟩, .string sr] 94))) (HO.out.alloc _) hg8 HBX.out HW3.out HKL.out)
           obtain ⟨M, hM, hA, hoM⟩ : ∃ M : List Let, M.length ≤ 100 ∧ AllL M ∧ OwnL w8 w3.heap.size v8 M := ⟨L ++ [(⟨#[90]⟩, sr)], by have := HLL.out.1; simp; omega, HLL.out.2.snoc ⟨sZ, by have := HSR.out; simp only; omega⟩, ownL_app ho8⟩
           obtain ⟨A8, c8, rfl, _, _, _⟩ := hoM.sl
           replace H := Lib.hid (SP.add H.out (fun W => LK W A8 M) LK.c (LK.of hoM hA hM))
           have hc1 : Blk w8 (w.heap.size + 1) 81 #[.bool onu, .bool badu, .int .i64 tu, .slice A2u wsu.length c2u, .slice A3 ns.length c3, .bool skip, .bool gone, .string inb] := H.out.blk 1 rfl
           have hc6 : Blk w8 (w2.heap.size) 32 #[.int .i64 nowu, .slice Au lu.length cu] := H.out.blk 6 rfl
           have hkk : w8.cell? ⟨w.heap.size + 1 + 1 + 1, 0, none⟩ = some (.int .i64 0) ∧ w8.cell? ⟨w.heap.size + 1 + 1 + 1, 1, none⟩ = some (.slice none 0 0) ∧ w8.cell? ⟨w.heap.size + 1 + 1 + 1 + 1, 0, none⟩ = some (.bool false) ∧ w8.cell? ⟨w.heap.size + 1 + 1 + 1 + 1, 1, none⟩ = some (.bool false) ∧ w8.cell? ⟨w.heap.size + 1 + 1 + 1 + 1, 2, none⟩ = some (.int .i64 0) ∧ w8.cell? ⟨w.heap.size + 1 + 1 + 1 + 1, 3, none⟩ = some (.slice none 0 0) ∧ w8.cell? ⟨w.heap.size + 1 + 1 + 1 + 1, 4, none⟩ = some (.slice none 0 0) ∧ w8.cell? ⟨w.heap.size + 1 + 1 + 1 + 1, 5, none⟩ = some (.bool false) ∧ w8.cell? ⟨w.heap.size + 1 + 1 + 1 + 1, 6, none⟩ = some (.bool false) ∧ w8.cell? ⟨w.heap.size + 1 + 1 + 1 + 1, 7, none⟩ = some (.string ⟨#[]⟩) := ⟨(H.out.blk 3 rfl).cell 0, (H.out.blk 3 rfl).cell 1, (H.out.blk 4 rfl).cell 0, (H.out.blk 4 rfl).cell 1, (H.out.blk 4 rfl).cell 2, (H.out.blk 4 rfl).cell 3, (H.out.blk 4 rfl).cell 4, (H.out.blk 4 rfl).cell 5, (H.out.blk 4 rfl).cell 6, (H.out.blk 4 rfl).cell 7⟩
           have hfz3 := fun j => (H.out.blk 3 rfl).frozen j
           have hl3 := (H.out.blk 3 rfl).lt
           have hfz4 := fun j => (H.out.blk 4 rfl).frozen j
           have hl4 := (H.out.blk 4 rfl).lt
           clear ho8 hg8 hM hA hoM))
    all_goals
      have HZ := Lib.hid (SP.set (SP.set (SP.set (SP.set (SP.set (SP.set (SP.set (SP.set (SP.set (SP.set (H.out) 3 0 (.int .i64 nowu) rfl (by decide)) 3 1 (.slice Au lu.length cu) rfl (by decide)) 4 0 (.bool onu) rfl (by decide)) 4 1 (.bool badu) rfl (by decide)) 4 2 (.int .i64 tu) rfl (by decide)) 4 3 (.slice A2u wsu.length c2u) rfl (by decide)) 4 4 (.slice A3 ns.length c3) rfl (by decide)) 4 5 (.bool skip) rfl (by decide)) 4 6 (.bool gone) rfl (by decide)) 4 7 (.string inb) rfl (by decide))
      clear hB1_0 hB1_1 hB1_2 hB1_3 hB1_4 hB1_5 hB1_6 hB1_7 hB6_0 hB6_1
      go_wp2
      refine bodyPost_ret (v := .tuple #[.agg #[.int .i64 nowu, .slice Au lu.length cu], .agg #[.bool onu, .bool badu, .int .i64 tu, .slice A2u wsu.length c2u, .slice A3 ns.length c3, .bool skip, .bool gone, .string inb], .slice A8 M.length c8]) ?_ rfl ⟨nowu, Au, lu, cu, onu, badu, tu, A2u, wsu, c2u, A3, ns, c3, skip, gone, inb, A8, M, c8, rfl, HZ.out.get 3 rfl, HZ.out.get 4 rfl, HZ.out.get 2 rfl, HZ.out.get 6 rfl, HZ.out.below, Nat.le_refl _⟩
      simp [results, Try.results158, go_sem, hkk]
  cases hE : (sg.toList == [69])
  case true =>
    obtain ⟨x1_0, x1_1, x1_2, x1_3, x1_4, x1_5, x1_6, x1_7⟩ := Blk.q8 (H.out.blk 1 rfl)
    go_wp2_with fail
    refine (l6Find_any A3 ns c3 bd _ (H.out.get 2 rfl)).mono ?_
    rintro e w1 ⟨x, b1, rfl, hxa, hxb, hb1⟩
    obtain ⟨ak, aa, ab, an⟩ := x
    simp only at hxa hxb
    have HXA := Lib.hid (⟨hxa, hxb⟩ : _ ∧ _)
    replace H := Lib.hid (H.out.kept hb1)
    clear x2_0 x2_1 x1_0 x1_1 x1_2 x1_3 x1_4 x1_5 x1_6 x1_7 hb1 hxa hxb
    have hg4 : w.heap.size + 1 + 1 + 1 + 1 < w1.heap.size := (H.out.blk 4 rfl).lt
    have H := Lib.hid (H.out.alloc 128 #[.int .i64 ak, .string aa, .string ab, .int .i64 an])
    go_upto_region 14 with fail
    have HS2 := Lib.hid (show (w1.alloc (.cells #[.int .i64 ak, .string aa, .string ab, .int .i64 an] 128)).heap.size = w1.heap.size + 1 from World.size_alloc _ _)
    generalize (w1.alloc (.cells #[.int .i64 ak, .string aa, .string ab, .int .i64 an] 128)) = w2 at *
    have H : Hid (SP w [(w.heap.size, 32, #[.int .i64 now, .slice A l.length c]), (w.heap.size + 1, 81, #[.bool on, .bool bad, .int .i64 t, .slice A2 ws.length c2, .slice A3 ns.length c3, .bool skip, .bool gone, .string inb]), (w.heap.size + 1 + 1, 94, #[.string sg, .string bd]), (w.heap.size + 1 + 1 + 1, 32, #[.int .i64 0, .slice none 0 0]), (w.heap.size + 1 + 1 + 1 + 1, 81, #[.bool false, .bool false, .int .i64 0, .slice none 0 0, .slice none 0 0, .bool false, .bool false, .string ⟨#[]⟩]), (w1.heap.size, 128, #[.int .i64 ak, .string aa, .string ab, .int .i64 an])] [fun W => VK W now A l, fun W => WK W A2 ws, fun W => NK W A3 ns] w2) := Lib.hid H.out
    go_cut [19, 20, 21, 22] (fun v19 v20 v21 v22 wx => ∃ (g19 g20 gs : Nat), v19 = .pointer (some ⟨g19, 0, none⟩) ∧ v20 = .pointer (some ⟨g20, 0, none⟩) ∧ v21 = .slice (some ⟨gs, 0, none⟩) 0 0 ∧ v22 = .int .i64 4 ∧ w1.heap.size < g19 ∧ w1.heap.size < g20 ∧ g19 ≠ g20 ∧ Hid (SP w [(w.heap.size, 32, #[.int .i64 now, .slice A l.length c]), (w.heap.size + 1, 81, #[.bool on, .bool bad, .int .i64 t, .slice A2 ws.length c2, .slice A3 ns.length c3, .bool skip, .bool gone, .string inb]), (w.heap.size + 1 + 1, 94, #[.string sg, .string bd]), (w.heap.size + 1 + 1 + 1, 32, #[.int .i64 0, .slice none 0 0]), (w.heap.size + 1 + 1 + 1 + 1, 81, #[.bool false, .bool false, .int .i64 0, .slice none 0 0, .slice none 0 0, .bool false, .bool false, .string ⟨#[]⟩]), (w1.heap.size, 128, #[.int .i64 ak, .string aa, .string ab, .int .i64 an]), (g19, 32, #[.int .i64 now, .slice A l.length c]), (g20, 78, #[.bool on, .bool bad, .int .i64 t, .slice A2 ws.length c2])] [fun W => VK W now A l, fun W => WK W A2 ws, fun W => NK W A3 ns] wx))
    case first =>
      have l0 := (H.out.blk 0 rfl).lt
      have l1 := (H.out.blk 1 rfl).lt
      have hB0_0 : ∀ W : World, Blk W (w.heap.size) 32 #[.int .i64 now, .slice A l.length c] → W.cell? ⟨w.heap.size, 0, none⟩ = some (.int .i64 now) := fun W h => h.cell 0
      have hB0_1 : ∀ W : World, Blk W (w.heap.size) 32 #[.int .i64 now, .slice A l.length c] → W.cell? ⟨w.heap.size, 1, none⟩ = some (.slice A l.length c) := fun W h => h.cell 1
      have hB1_0 : ∀ W : World, Blk W (w.heap.size + 1) 81 #[.bool on, .bool bad, .int .i64 t, .slice A2 ws.length c2, .slice A3 ns.length c3, .bool skip, .bool gone, .string inb] → W.cell? ⟨w.heap.size + 1, 0, none⟩ = some (.bool on) := fun W h => h.cell 0
      have hB1_1 : ∀ W : World, Blk W (w.heap.size + 1) 81 #[.bool on, .bool bad, .int .i64 t, .slice A2 ws.length c2, .slice A3 ns.length c3, .bool skip, .bool gone, .string inb] → W.cell? ⟨w.heap.size + 1, 1, none⟩ = some (.bool bad) := fun W h => h.cell 1
      have hB1_2 : ∀ W : World, Blk W (w.heap.size + 1) 81 #[.bool on, .bool bad, .int .i64 t, .slice A2 ws.length c2, .slice A3 ns.length c3, .bool skip, .bool gone, .string inb] → W.cell? ⟨w.heap.size + 1, 2, none⟩ = some (.int .i64 t) := fun W h => h.cell 2
      have hB1_3 : ∀ W : World, Blk W (w.heap.size + 1) 81 #[.bool on, .bool bad, .int .i64 t, .slice A2 ws.length c2, .slice A3 ns.length c3, .bool skip, .bool gone, .string inb] → W.cell? ⟨w.heap.size + 1, 3, none⟩ = some (.slice A2 ws.length c2) := fun W h => h.cell 3
      have hB1_4 : ∀ W : World, Blk W (w.heap.size + 1) 81 #[.bool on, .bool bad, .int .i64 t, .slice A2 ws.length c2, .slice A3 ns.length c3, .bool skip, .bool gone, .string inb] → W.cell? ⟨w.heap.size + 1, 4, none⟩ = some (.slice A3 ns.length c3) := fun W h => h.cell 4
      have hB1_5 : ∀ W : World, Blk W (w.heap.size + 1) 81 #[.bool on, .bool bad, .int .i64 t, .slice A2 ws.length c2, .slice A3 ns.length c3, .bool skip, .bool gone, .string inb] → W.cell? ⟨w.heap.size + 1, 5, none⟩ = some (.bool skip) := fun W h => h.cell 5
      have hB1_6 : ∀ W : World, Blk W (w.heap.size + 1) 81 #[.bool on, .bool bad, .int .i64 t, .slice A2 ws.length c2, .slice A3 ns.length c3, .bool skip, .bool gone, .string inb] → W.cell? ⟨w.heap.size + 1, 6, none⟩ = some (.bool gone) := fun W h => h.cell 6
      have hB1_7 : ∀ W : World, Blk W (w.heap.size + 1) 81 #[.bool on, .bool bad, .int .i64 t, .slice A2 ws.length c2, .slice A3 ns.length c3, .bool skip, .bool gone, .string inb] → W.cell? ⟨w.heap.size + 1, 7, none⟩ = some (.string inb) := fun W h => h.cell 7
      have hb0 : Blk w2 (w.heap.size) 32 #[.int .i64 now, .slice A l.length c] := H.out.blk 0 rfl
      have hb1 : Blk w2 (w.heap.size + 1) 81 #[.bool on, .bool bad, .int .i64 t, .slice A2 ws.length c2, .slice A3 ns.length c3, .bool skip, .bool gone, .string inb] := H.out.blk 1 rfl
      go_wp2_with fail
      have H2 := Lib.hid (H.out.kept (kDB w2))
      go_region_held3 (fun W => Blk W (w.heap.size) 32 #[.int .i64 now, .slice A l.length c] ∧ Blk W (w.heap.size + 1) 81 #[.bool on, .bool bad, .int .i64 t, .slice A2 ws.length c2, .slice A3 ns.length c3, .bool skip, .bool gone, .string inb])
        ((refine ⟨?_, ?_⟩ <;> (repeat (first | (with_reducible assumption) | (with_reducible refine Blk.drew ?_) | (with_reducible refine Blk.alloc ?_ _) | (with_reducible refine Blk.far ?_ (by simp <;> omega) _)))))
        (fail)
      all_goals
        have hs2 := HS2.out
        clear hB0_0 hB0_1 hB1_0 hB1_1 hB1_2 hB1_3 hB1_4 hB1_5 hB1_6 hB1_7
        try go_wp2_with fail
        go_meet
        first
        | (refine ⟨w2.heap.size + 1, w2.heap.size + 1 + 1, w2.heap.size, rfl, rfl, rfl, rfl, by omega, by omega, by omega, ?_⟩; exact Lib.hid (SP.addNew2 (W' := (((w2.alloc (.cells #[] 111)).alloc (.cells #[.int .i64 now, .slice A l.length c] 32)).alloc (.cells #[.bool on, .bool bad, .int .i64 t, .slice A2 ws.length c2] 78)).drew) H.out ((bthen (bthen (kFF w2 (.cells #[] 111)) (kFF (w2.alloc (.cells #[] 111)) (.cells #[.int .i64 now, .slice A l.length c] 32))) (kFF ((w2.alloc (.cells #[] 111)).alloc (.cells #[.int .i64 now, .slice A l.length c] 32)) (.cells #[.bool on, .bool bad, .int .i64 t, .slice A2 ws.length c2] 78))).drew) ((Blk.newA (w2.alloc (.cells #[] 111)) (w2.heap.size + 1) (by simp only [World.size_alloc]) _ _).alloc _) (Blk.newA ((w2.alloc (.cells #[] 111)).alloc (.cells #[.int .i64 now, .slice A l.length c] 32)) (w2.heap.size + 1 + 1) (by simp only [World.size_alloc]) _ _) (by omega) (by omega) (by omega)))
        | (refine ⟨w2.heap.size + 1 + 1, w2.heap.size + 1, w2.heap.size, rfl, rfl, rfl, rfl, by omega, by omega, by omega, ?_⟩; exact Lib.hid (SP.addNew2 (W' := (((w2.alloc (.cells #[] 111)).alloc (.cells #[.bool on, .bool bad, .int .i64 t, .slice A2 ws.length c2] 78)).alloc (.cells #[.int .i64 now, .slice A l.length c] 32)).drew) H.out ((bthen (bthen (kFF w2 (.cells #[] 111)) (kFF (w2.alloc (.cells #[] 111)) (.cells #[.bool on, .bool bad, .int .i64 t, .slice A2 ws.length c2] 78))) (kFF ((w2.alloc (.cells #[] 111)).alloc (.cells #[.bool on, .bool bad, .int .i64 t, .slice A2 ws.length c2] 78)) (.cells #[.int .i64 now, .slice A l.length c] 32))).drew) (Blk.newA ((w2.alloc (.cells #[] 111)).alloc (.cells #[.bool on, .bool bad, .int .i64 t, .slice A2 ws.length c2] 78)) (w2.heap.size + 1 + 1) (by simp only [World.size_alloc]) _ _) ((Blk.newA (w2.alloc (.cells #[] 111)) (w2.heap.size + 1) (by simp only [World.size_alloc]) _ _).alloc _) (by omega) (by omega) (by omega)))
        | (refine ⟨w2.heap.size, w2.heap.size + 1 + 1, w2.heap.size + 1, rfl, rfl, rfl, rfl, by omega, by omega, by omega, ?_⟩; exact Lib.hid (SP.addNew2 (W' := (((w2.alloc (.cells #[.int .i64 now, .slice A l.length c] 32)).alloc (.cells #[] 111)).alloc (.cells #[.bool on, .bool bad, .int .i64 t, .slice A2 ws.length c2] 78)).drew) H.out ((bthen (bthen (kFF w2 (.cells #[.int .i64 now, .slice A l.length c] 32)) (kFF (w2.alloc (.cells #[.int .i64 now, .slice A l.length c] 32)) (.cells #[] 111))) (kFF ((w2.alloc (.cells #[.int .i64 now, .slice A l.length c] 32)).alloc (.cells #[] 111)) (.cells #[.bool on, .bool bad, .int .i64 t, .slice A2 ws.length c2] 78))).drew) (((Blk.newA w2 (w2.heap.size) rfl _ _).alloc _).alloc _) (Blk.newA ((w2.alloc (.cells #[.int .i64 now, .slice A l.length c] 32)).alloc (.cells #[] 111)) (w2.heap.size + 1 + 1) (by simp only [World.size_alloc]) _ _) (by omega) (by omega) (by omega)))
        | (refine ⟨w2.heap.size, w2.heap.size + 1, w2.heap.size + 1 + 1, rfl, rfl, rfl, rfl, by omega, by omega, by omega, ?_⟩; exact Lib.hid (SP.addNew2 (W' := (((w2.alloc (.cells #[.int .i64 now, .slice A l.length c] 32)).alloc (.cells #[.bool on, .bool bad, .int .i64 t, .slice A2 ws.length c2] 78)).alloc (.cells #[] 111)).drew) H.out ((bthen (bthen (kFF w2 (.cells #[.int .i64 now, .slice A l.length c] 32)) (kFF (w2.alloc (.cells #[.int .i64 now, .slice A l.length c] 32)) (.cells #[.bool on, .bool bad, .int .i64 t, .slice A2 ws.length c2] 78))) (kFF ((w2.alloc (.cells #[.int .i64 now, .slice A l.length c] 32)).alloc (.cells #[.bool on, .bool bad, .int .i64 t, .slice A2 ws.length c2] 78)) (.cells #[] 111))).drew) (((Blk.newA w2 (w2.heap.size) rfl _ _).alloc _).alloc _) ((Blk.newA (w2.alloc (.cells #[.int .i64 now, .slice A l.length c] 32)) (w2.heap.size + 1) (by simp only [World.size_alloc]) _ _).alloc _) (by omega) (by omega) (by omega)))
        | (refine ⟨w2.heap.size + 1 + 1, w2.heap.size, w2.heap.size + 1, rfl, rfl, rfl, rfl, by omega, by omega, by omega, ?_⟩; exact Lib.hid (SP.addNew2 (W' := (((w2.alloc (.cells #[.bool on, .bool bad, .int .i64 t, .slice A2 ws.length c2] 78)).alloc (.cells #[] 111)).alloc (.cells #[.int .i64 now, .slice A l.length c] 32)).drew) H.out ((bthen (bthen (kFF w2 (.cells #[.bool on, .bool bad, .int .i64 t, .slice A2 ws.length c2] 78)) (kFF (w2.alloc (.cells #[.bool on, .bool bad, .int .i64 t, .slice A2 ws.length c2] 78)) (.cells #[] 111))) (kFF ((w2.alloc (.cells #[.bool on, .bool bad, .int .i64 t, .slice A2 ws.length c2] 78)).alloc (.cells #[] 111)) (.cells #[.int .i64 now, .slice A l.length c] 32))).drew) (Blk.newA ((w2.alloc (.cells #[.bool on, .bool bad, .int .i64 t, .slice A2 ws.length c2] 78)).alloc (.cells #[] 111)) (w2.heap.size + 1 + 1) (by simp only [World.size_alloc]) _ _) (((Blk.newA w2 (w2.heap.size) rfl _ _).alloc _).alloc _) (by omega) (by omega) (by omega)))
        | (refine ⟨w2.heap.size + 1, w2.heap.size, w2.heap.size + 1 + 1, rfl, rfl, rfl, rfl, by omega, by omega, by omega, ?_⟩; exact Lib.hid (SP.addNew2 (W' := (((w2.alloc (.cells #[.bool on, .bool bad, .int .i64 t, .slice A2 ws.length c2] 78)).alloc (.cells #[.int .i64 now, .slice A l.length c] 32)).alloc (.cells #[] 111)).drew) H.out ((bthen (bthen (kFF w2 (.cells #[.bool on, .bool bad, .int .i64 t, .slice A2 ws.length c2] 78)) (kFF (w2.alloc (.cells #[.bool on, .bool bad, .int .i64 t, .slice A2 ws.length c2] 78)) (.cells #[.int .i64 now, .slice A l.length c] 32))) (kFF ((w2.alloc (.cells #[.bool on, .bool bad, .int .i64 t, .slice A2 ws.length c2] 78)).alloc (.cells #[.int .i64 now, .slice A l.length c] 32)) (.cells #[] 111))).drew) ((Blk.newA (w2.alloc (.cells #[.bool on, .bool bad, .int .i64 t, .slice A2 ws.length c2] 78)) (w2.heap.size + 1) (by simp only [World.size_alloc]) _ _).alloc _) (((Blk.newA w2 (w2.heap.size) rfl _ _).alloc _).alloc _) (by omega) (by omega) (by omega)))
    case rest =>
      obtain ⟨g19, g20, gs, rfl, rfl, rfl, rfl, hg19, hg20, hgn, HQ⟩ := hcut
      clear H HS2
      have H := Lib.hid HQ.out
      clear HQ
      have H : Hid (SP w [(w.heap.size, 32, #[.int .i64 now, .slice A l.length c]), (w.heap.size + 1, 81, #[.bool on, .bool bad, .int .i64 t, .slice A2 ws.length c2, .slice A3 ns.length c3, .bool skip, .bool gone, .string inb]), (w.heap.size + 1 + 1, 94, #[.string sg, .string bd]), (w.heap.size + 1 + 1 + 1, 32, #[.int .i64 0, .slice none 0 0]), (w.heap.size + 1 + 1 + 1 + 1, 81, #[.bool false, .bool false, .int .i64 0, .slice none 0 0, .slice none 0 0, .bool false, .bool false, .string ⟨#[]⟩]), (w1.heap.size, 128, #[.int .i64 ak, .string aa, .string ab, .int .i64 an]), (g19, 32, #[.int .i64 now, .slice A l.length c]), (g20, 78, #[.bool on, .bool bad, .int .i64 t, .slice A2 ws.length c2])] [fun W => VK W now A l, fun W => WK W A2 ws, fun W => NK W A3 ns] wc) := Lib.hid H.out
      have np0 : g19 ≠ w.heap.size := by omega
      have mp0 : w.heap.size ≠ g19 := by omega
      have np1 : g19 ≠ w.heap.size + 1 := by omega
      have mp1 : w.heap.size + 1 ≠ g19 := by omega
      have np3 : g19 ≠ w.heap.size + 1 + 1 + 1 := by omega
      have mp3 : w.heap.size + 1 + 1 + 1 ≠ g19 := by omega
      have np4 : g19 ≠ w.heap.size + 1 + 1 + 1 + 1 := by omega
      have mp4 : w.heap.size + 1 + 1 + 1 + 1 ≠ g19 := by omega
      have nq0 : g20 ≠ w.heap.size := by omega
      have mq0 : w.heap.size ≠ g20 := by omega
      have nq1 : g20 ≠ w.heap.size + 1 := by omega
      have mq1 : w.heap.size + 1 ≠ g20 := by omega
      have nq3 : g20 ≠ w.heap.size + 1 + 1 + 1 := by omega
      have mq3 : w.heap.size + 1 + 1 + 1 ≠ g20 := by omega
      have nq4 : g20 ≠ w.heap.size + 1 + 1 + 1 + 1 := by omega
      have mq4 : w.heap.size + 1 + 1 + 1 + 1 ≠ g20 := by omega
      have hgn2 : g20 ≠ g19 := fun h => hgn h.symm
      cases b1
      case false =>
        obtain ⟨x7_0, x7_1, x7_2, x7_3⟩ := Blk.q4 (H.out.blk 7 rfl)
        obtain ⟨z7_0, z7_1, z7_2, z7_3⟩ := Blk.z4 (H.out.blk 7 rfl)
        have l7 := (H.out.blk 7 rfl).lt
        go_wp2_with fail
        refine (l4Wrong_any on bad t A2 ws.length c2 _).mono ?_
        rintro e w3 ⟨rfl, hb3⟩
        replace H := Lib.hid (H.out.kept hb3)
        clear x7_0 x7_1 x7_2 x7_3 z7_0 z7_1 z7_2 z7_3 l7 hb3
        obtain ⟨x7_0, x7_1, x7_2, x7_3⟩ := Blk.q4 (H.out.blk 7 rfl)
        obtain ⟨z7_0, z7_1, z7_2, z7_3⟩ := Blk.z4 (H.out.blk 7 rfl)
        have l7 := (H.out.blk 7 rfl).lt
        go_upto_region 18 with fail
        have H := Lib.hid (SP.set (SP.set (SP.set (SP.set (H.out) 7 0 (.bool on) rfl (by decide)) 7 1 (.bool on) rfl (by decide)) 7 2 (.int .i64 t) rfl (by decide)) 7 3 (.slice A2 ws.length c2) rfl (by decide))
        clear x7_0 x7_1 x7_2 x7_3 z7_0 z7_1 z7_2 z7_3 l7
        generalize ((((w3.setCell ⟨g20, 0, none⟩ (.bool on)).setCell ⟨g20, 1, none⟩ (.bool on)).setCell ⟨g20, 2, none⟩ (.int .i64 t)).setCell ⟨g20, 3, none⟩ (.slice A2 ws.length c2)) = w4 at *
        have H : Hid (SP w [(w.heap.size, 32, #[.int .i64 now, .slice A l.length c]), (w.heap.size + 1, 81, #[.bool on, .bool bad, .int .i64 t, .slice A2 ws.length c2, .slice A3 ns.length c3, .bool skip, .bool gone, .string inb]), (w.heap.size + 1 + 1, 94, #[.string sg, .string bd]), (w.heap.size + 1 + 1 + 1, 32, #[.int .i64 0, .slice none 0 0]), (w.heap.size + 1 + 1 + 1 + 1, 81, #[.bool false, .bool false, .int .i64 0, .slice none 0 0, .slice none 0 0, .bool false, .bool false, .string ⟨#[]⟩]), (w1.heap.size, 128, #[.int .i64 ak, .string aa, .string ab, .int .i64 an]), (g19, 32, #[.int .i64 now, .slice A l.length c]), (g20, 78, #[.bool on, .bool on, .int .i64 t, .slice A2 ws.length c2])] [fun W => VK W now A l, fun W => WK W A2 ws, fun W => NK W A3 ns] w4) := Lib.hid H.out
        obtain ⟨x1_0, x1_1, x1_2, x1_3, x1_4, x1_5, x1_6, x1_7⟩ := Blk.q8 (H.out.blk 1 rfl)
        obtain ⟨x7_0, x7_1, x7_2, x7_3⟩ := Blk.q4 (H.out.blk 7 rfl)
        obtain ⟨z1_0, z1_1, z1_2, z1_3, z1_4, z1_5, z1_6, z1_7⟩ := Blk.z8 (H.out.blk 1 rfl)
        have l0 := (H.out.blk 0 rfl).lt
        have l1 := (H.out.blk 1 rfl).lt
        have l3 := (H.out.blk 3 rfl).lt
        have l4 := (H.out.blk 4 rfl).lt
        have l6 := (H.out.blk 6 rfl).lt
        have l7 := (H.out.blk 7 rfl).lt
        go_upto_region 20 with fail
        have H := Lib.hid (SP.set (SP.set (SP.set (SP.set (SP.set (H.out) 1 0 (.bool on) rfl (by decide)) 1 1 (.bool on) rfl (by decide)) 1 2 (.int .i64 t) rfl (by decide)) 1 3 (.slice A2 ws.length c2) rfl (by decide)) 1 5 (.bool true) rfl (by decide))
        clear x1_0 x1_1 x1_2 x1_3 x1_4 x1_5 x1_6 x1_7 x7_0 x7_1 x7_2 x7_3 z1_0 z1_1 z1_2 z1_3 z1_4 z1_5 z1_6 z1_7 l0 l1 l3 l4 l6 l7
        generalize (((((w4.setCell ⟨w.heap.size + 1, 0, none⟩ (.bool on)).setCell ⟨w.heap.size + 1, 1, none⟩ (.bool on)).setCell ⟨w.heap.size + 1, 2, none⟩ (.int .i64 t)).setCell ⟨w.heap.size + 1, 3, none⟩ (.slice A2 ws.length c2)).setCell ⟨w.heap.size + 1, 5, none⟩ (.bool true)) = w5 at *
        have H : Hid (SP w [(w.heap.size, 32, #[.int .i64 now, .slice A l.length c]), (w.heap.size + 1, 81, #[.bool on, .bool on, .int .i64 t, .slice A2 ws.length c2, .slice A3 ns.length c3, .bool true, .bool gone, .string inb]), (w.heap.size + 1 + 1, 94, #[.string sg, .string bd]), (w.heap.size + 1 + 1 + 1, 32, #[.int .i64 0, .slice none 0 0]), (w.heap.size + 1 + 1 + 1 + 1, 81, #[.bool false, .bool false, .int .i64 0, .slice none 0 0, .slice none 0 0, .bool false, .bool false, .string ⟨#[]⟩]), (w1.heap.size, 128, #[.int .i64 ak, .string aa, .string ab, .int .i64 an]), (g19, 32, #[.int .i64 now, .slice A l.length c]), (g20, 78, #[.bool on, .bool on, .int .i64 t, .slice A2 ws.length c2])] [fun W => VK W now A l, fun W => WK W A2 ws, fun W => NK W A3 ns] w5) := Lib.hid H.out
        have l0 := (H.out.blk 0 rfl).lt
        have l1 := (H.out.blk 1 rfl).lt
        have l3 := (H.out.blk 3 rfl).lt
        have l4 := (H.out.blk 4 rfl).lt
        have l6 := (H.out.blk 6 rfl).lt
        have hB1_0 : ∀ W : World, Blk W (w.heap.size + 1) 81 #[.bool on, .bool on, .int .i64 t, .slice A2 ws.length c2, .slice A3 ns.length c3, .bool true, .bool gone, .string inb] → W.cell? ⟨w.heap.size + 1, 0, none⟩ = some (.bool on) := fun W h => h.cell 0
        have hB1_1 : ∀ W : World, Blk W (w.heap.size + 1) 81 #[.bool on, .bool on, .int .i64 t, .slice A2 ws.length c2, .slice A3 ns.length c3, .bool true, .bool gone, .string inb] → W.cell? ⟨w.heap.size + 1, 1, none⟩ = some (.bool on) := fun W h => h.cell 1
        have hB1_2 : ∀ W : World, Blk W (w.heap.size + 1) 81 #[.bool on, .bool on, .int .i64 t, .slice A2 ws.length c2, .slice A3 ns.length c3, .bool true, .bool gone, .string inb] → W.cell? ⟨w.heap.size + 1, 2, none⟩ = some (.int .i64 t) := fun W h => h.cell 2
        have hB1_3 : ∀ W : World, Blk W (w.heap.size + 1) 81 #[.bool on, .bool on, .int .i64 t, .slice A2 ws.length c2, .slice A3 ns.length c3, .bool true, .bool gone, .string inb] → W.cell? ⟨w.heap.size + 1, 3, none⟩ = some (.slice A2 ws.length c2) := fun W h => h.cell 3
        have hB1_4 : ∀ W : World, Blk W (w.heap.size + 1) 81 #[.bool on, .bool on, .int .i64 t, .slice A2 ws.length c2, .slice A3 ns.length c3, .bool true, .bool gone, .string inb] → W.cell? ⟨w.heap.size + 1, 4, none⟩ = some (.slice A3 ns.length c3) := fun W h => h.cell 4
        have hB1_5 : ∀ W : World, Blk W (w.heap.size + 1) 81 #[.bool on, .bool on, .int .i64 t, .slice A2 ws.length c2, .slice A3 ns.length c3, .bool true, .bool gone, .string inb] → W.cell? ⟨w.heap.size + 1, 5, none⟩ = some (.bool true) := fun W h => h.cell 5
        have hB1_6 : ∀ W : World, Blk W (w.heap.size + 1) 81 #[.bool on, .bool on, .int .i64 t, .slice A2 ws.length c2, .slice A3 ns.length c3, .bool true, .bool gone, .string inb] → W.cell? ⟨w.heap.size + 1, 6, none⟩ = some (.bool gone) := fun W h => h.cell 6
        have hB1_7 : ∀ W : World, Blk W (w.heap.size + 1) 81 #[.bool on, .bool on, .int .i64 t, .slice A2 ws.length c2, .slice A3 ns.length c3, .bool true, .bool gone, .string inb] → W.cell? ⟨w.heap.size + 1, 7, none⟩ = some (.string inb) := fun W h => h.cell 7
        have hB6_0 : ∀ W : World, Blk W (g19) 32 #[.int .i64 now, .slice A l.length c] → W.cell? ⟨g19, 0, none⟩ = some (.int .i64 now) := fun W h => h.cell 0
        have hB6_1 : ∀ W : World, Blk W (g19) 32 #[.int .i64 now, .slice A l.length c] → W.cell? ⟨g19, 1, none⟩ = some (.slice A l.length c) := fun W h => h.cell 1
        have hb1 : Blk w5 (w.heap.size + 1) 81 #[.bool on, .bool on, .int .i64 t, .slice A2 ws.length c2, .slice A3 ns.length c3, .bool true, .bool gone, .string inb] := H.out.blk 1 rfl
        have hb6 : Blk w5 (g19) 32 #[.int .i64 now, .slice A l.length c] := H.out.blk 6 rfl
        go_wp2_with fail
        replace H := Lib.hid (H.out.kept (kDB w5))
        go_region_held3 (fun W => Blk W (w.heap.size + 1) 81 #[.bool on, .bool on, .int .i64 t, .slice A2 ws.length c2, .slice A3 ns.length c3, .bool true, .bool gone, .string inb] ∧ Blk W (g19) 32 #[.int .i64 now, .slice A l.length c])
          ((refine ⟨?_, ?_⟩ <;> (repeat (first | (with_reducible assumption) | (with_reducible refine Blk.drew ?_) | (with_reducible refine Blk.alloc ?_ _) | (with_reducible refine Blk.far ?_ (by simp <;> omega) _)))))
          (first
            | (go_at_call 184
               refine (l6Done_any (some ⟨gs, 0, none⟩) [] 0 4 _ (by simp) (Sl.nil _ _ _ _) rowsT_nil (by decide) (by decide)).mono ?_
               rintro e wz ⟨A4, L, c4, rfl, hoL, hlL, haL, hbz⟩
               replace H := Lib.hid (SP.add (H.out.kept hbz) (fun W => LK W A4 L) LK.c (LK.of hoL haL (by first | omega | (simp at hlL; omega))))
               have hc1 : Blk wz (w.heap.size + 1) 81 #[.bool on, .bool on, .int .i64 t, .slice A2 ws.length c2, .slice A3 ns.length c3, .bool true, .bool gone, .string inb] := H.out.blk 1 rfl
               have hc6 : Blk wz (g19) 32 #[.int .i64 now, .slice A l.length c] := H.out.blk 6 rfl
               have hkk : wz.cell? ⟨w.heap.size + 1 + 1 + 1, 0, none⟩ = some (.int .i64 0) ∧ wz.cell? ⟨w.heap.size + 1 + 1 + 1, 1, none⟩ = some (.slice none 0 0) ∧ wz.cell? ⟨w.heap.size + 1 + 1 + 1 + 1, 0, none⟩ = some (.bool false) ∧ wz.cell? ⟨w.heap.size + 1 + 1 + 1 + 1, 1, none⟩ = some (.bool false) ∧ wz.cell? ⟨w.heap.size + 1 + 1 + 1 + 1, 2, none⟩ = some (.int .i64 0) ∧ wz.cell? ⟨w.heap.size + 1 + 1 + 1 + 1, 3, none⟩ = some (.slice none 0 0) ∧ wz.cell? ⟨w.heap.size + 1 + 1 + 1 + 1, 4, none⟩ = some (.slice none 0 0) ∧ wz.cell? ⟨w.heap.size + 1 + 1 + 1 + 1, 5, none⟩ = some (.bool false) ∧ wz.cell? ⟨w.heap.size + 1 + 1 + 1 + 1, 6, none⟩ = some (.bool false) ∧ wz.cell? ⟨w.heap.size + 1 + 1 + 1 + 1, 7, none⟩ = some (.string ⟨#[]⟩) := ⟨(H.out.blk 3 rfl).cell 0, (H.out.blk 3 rfl).cell 1, (H.out.blk 4 rfl).cell 0, (H.out.blk 4 rfl).cell 1, (H.out.blk 4 rfl).cell 2, (H.out.blk 4 rfl).cell 3, (H.out.blk 4 rfl).cell 4, (H.out.blk 4 rfl).cell 5, (H.out.blk 4 rfl).cell 6, (H.out.blk 4 rfl).cell 7⟩
               have hfz3 := fun j => (H.out.blk 3 rfl).frozen j
               have hfz4 := fun j => (H.out.blk 4 rfl).frozen j
               have hl3 := (H.out.blk 3 rfl).lt
               have hl4 := (H.out.blk 4 rfl).lt
               clear hoL hlL haL hbz))
        all_goals
          have HZ := Lib.hid (SP.set (SP.set (SP.set (SP.set (SP.set (SP.set (SP.set (SP.set (SP.set (SP.set (H.out) 3 0 (.int .i64 now) rfl (by decide)) 3 1 (.slice A l.length c) rfl (by decide)) 4 0 (.bool on) rfl (by decide)) 4 1 (.bool on) rfl (by decide)) 4 2 (.int .i64 t) rfl (by decide)) 4 3 (.slice A2 ws.length c2) rfl (by decide)) 4 4 (.slice A3 ns.length c3) rfl (by decide)) 4 5 (.bool true) rfl (by decide)) 4 6 (.bool gone) rfl (by decide)) 4 7 (.string inb) rfl (by decide))
          clear hB1_0 hB1_1 hB1_2 hB1_3 hB1_4 hB1_5 hB1_6 hB1_7 hB6_0 hB6_1
          go_wp2
          refine bodyPost_ret (v := .tuple #[.agg #[.int .i64 now, .slice A l.length c], .agg #[.bool on, .bool on, .int .i64 t, .slice A2 ws.length c2, .slice A3 ns.length c3, .bool true, .bool gone, .string inb], .slice A4 L.length c4]) ?_ rfl ⟨now, A, l, c, on, on, t, A2, ws, c2, A3, ns, c3, true, gone, inb, A4, L, c4, rfl, HZ.out.get 0 rfl, HZ.out.get 1 rfl, HZ.out.get 2 rfl, HZ.out.get 3 rfl, HZ.out.below, Nat.le_refl _⟩
          simp [results, Try.results158, go_sem, hkk]
      case true =>
        obtain ⟨x0_0, x0_1⟩ := Blk.q2 (H.out.blk 0 rfl)
        obtain ⟨x1_0, x1_1, x1_2, x1_3, x1_4, x1_5, x1_6, x1_7⟩ := Blk.q8 (H.out.blk 1 rfl)
        obtain ⟨x5_0, x5_1, x5_2, x5_3⟩ := Blk.q4 (H.out.blk 5 rfl)
        go_wp2_with fail
        refine (l4Do_any A l c now on bad t A2 ws c2 (ak, aa, ab, an) _ (H.out.get 0 rfl) (H.out.get 1 rfl) HXA.out.1 HXA.out.2).mono ?_
        rintro e w3 ⟨nowu, Au, lu, cu, onu, badu, tu, A2u, wsu, c2u, A3u, rs, c3u, d, rfl, hV2, hW2, hR2, hlr, hT2, hd0, hd6, hb3⟩
        have HT2 := Lib.hid hT2
        replace H : Hid (SP w [(w.heap.size, 32, #[.int .i64 now, .slice A l.length c]), (w.heap.size + 1, 81, #[.bool on, .bool bad, .int .i64 t, .slice A2 ws.length c2, .slice A3 ns.length c3, .bool skip, .bool gone, .string inb]), (w.heap.size + 1 + 1, 94, #[.string sg, .string bd]), (w.heap.size + 1 + 1 + 1, 32, #[.int .i64 0, .slice none 0 0]), (w.heap.size + 1 + 1 + 1 + 1, 81, #[.bool false, .bool false, .int .i64 0, .slice none 0 0, .slice none 0 0, .bool false, .bool false, .string ⟨#[]⟩]), (w1.heap.size, 128, #[.int .i64 ak, .string aa, .string ab, .int .i64 an]), (g19, 32, #[.int .i64 now, .slice A l.length c]), (g20, 78, #[.bool on, .bool bad, .int .i64 t, .slice A2 ws.length c2])] [fun W => VK W now A l, fun W => WK W A2 ws, fun W => NK W A3 ns, fun W => VK W nowu Au lu, fun W => WK W A2u wsu, fun W => RK W A3u rs c3u] w3) := Lib.hid (SP.add (SP.add (SP.add (H.out.kept hb3) _ VK.c (hV2)) _ WK.c (hW2)) _ RK.c (hR2))
        clear x0_0 x0_1 x1_0 x1_1 x1_2 x1_3 x1_4 x1_5 x1_6 x1_7 x5_0 x5_1 x5_2 x5_3 hb3 hV2 hW2 hR2 hT2
        obtain ⟨x6_0, x6_1⟩ := Blk.q2 (H.out.blk 6 rfl)
        obtain ⟨x7_0, x7_1, x7_2, x7_3⟩ := Blk.q4 (H.out.blk 7 rfl)
        obtain ⟨z6_0, z6_1⟩ := Blk.z2 (H.out.blk 6 rfl)
        obtain ⟨z7_0, z7_1, z7_2, z7_3⟩ := Blk.z4 (H.out.blk 7 rfl)
        have l6 := (H.out.blk 6 rfl).lt
        have l7 := (H.out.blk 7 rfl).lt
        go_upto_region 18 with fail
        have H := Lib.hid (SP.set (SP.set (SP.set (SP.set (SP.set (SP.set (H.out) 6 0 (.int .i64 nowu) rfl (by decide)) 6 1 (.slice Au lu.length cu) rfl (by decide)) 7 0 (.bool onu) rfl (by decide)) 7 1 (.bool badu) rfl (by decide)) 7 2 (.int .i64 tu) rfl (by decide)) 7 3 (.slice A2u wsu.length c2u) rfl (by decide))
        clear x6_0 x6_1 x7_0 x7_1 x7_2 x7_3 z6_0 z6_1 z7_0 z7_1 z7_2 z7_3 l6 l7
        generalize ((((((w3.setCell ⟨g19, 0, none⟩ (.int .i64 nowu)).setCell ⟨g19, 1, none⟩ (.slice Au lu.length cu)).setCell ⟨g20, 0, none⟩ (.bool onu)).setCell ⟨g20, 1, none⟩ (.bool badu)).setCell ⟨g20, 2, none⟩ (.int .i64 tu)).setCell ⟨g20, 3, none⟩ (.slice A2u wsu.length c2u)) = w4 at *
        have H : Hid (SP w [(w.heap.size, 32, #[.int .i64 now, .slice A l.length c]), (w.heap.size + 1, 81, #[.bool on, .bool bad, .int .i64 t, .slice A2 ws.length c2, .slice A3 ns.length c3, .bool skip, .bool gone, .string inb]), (w.heap.size + 1 + 1, 94, #[.string sg, .string bd]), (w.heap.size + 1 + 1 + 1, 32, #[.int .i64 0, .slice none 0 0]), (w.heap.size + 1 + 1 + 1 + 1, 81, #[.bool false, .bool false, .int .i64 0, .slice none 0 0, .slice none 0 0, .bool false, .bool false, .string ⟨#[]⟩]), (w1.heap.size, 128, #[.int .i64 ak, .string aa, .string ab, .int .i64 an]), (g19, 32, #[.int .i64 nowu, .slice Au lu.length cu]), (g20, 78, #[.bool onu, .bool badu, .int .i64 tu, .slice A2u wsu.length c2u])] [fun W => VK W now A l, fun W => WK W A2 ws, fun W => NK W A3 ns, fun W => VK W nowu Au lu, fun W => WK W A2u wsu, fun W => RK W A3u rs c3u] w4) := Lib.hid H.out
        by_cases hd : d = 0
        case pos =>
          subst hd
          obtain ⟨x1_0, x1_1, x1_2, x1_3, x1_4, x1_5, x1_6, x1_7⟩ := Blk.q8 (H.out.blk 1 rfl)
          obtain ⟨x7_0, x7_1, x7_2, x7_3⟩ := Blk.q4 (H.out.blk 7 rfl)
          obtain ⟨z1_0, z1_1, z1_2, z1_3, z1_4, z1_5, z1_6, z1_7⟩ := Blk.z8 (H.out.blk 1 rfl)
          have l0 := (H.out.blk 0 rfl).lt
          have l1 := (H.out.blk 1 rfl).lt
          have l3 := (H.out.blk 3 rfl).lt
          have l4 := (H.out.blk 4 rfl).lt
          have l6 := (H.out.blk 6 rfl).lt
          have l7 := (H.out.blk 7 rfl).lt
          go_upto_region 20 with fail
          have H := Lib.hid (SP.set (SP.set (SP.set (SP.set (SP.set (H.out) 1 0 (.bool onu) rfl (by decide)) 1 1 (.bool badu) rfl (by decide)) 1 2 (.int .i64 tu) rfl (by decide)) 1 3 (.slice A2u wsu.length c2u) rfl (by decide)) 1 5 (.bool false) rfl (by decide))
          clear x1_0 x1_1 x1_2 x1_3 x1_4 x1_5 x1_6 x1_7 x7_0 x7_1 x7_2 x7_3 z1_0 z1_1 z1_2 z1_3 z1_4 z1_5 z1_6 z1_7 l0 l1 l3 l4 l6 l7
          generalize (((((w4.setCell ⟨w.heap.size + 1, 0, none⟩ (.bool onu)).setCell ⟨w.heap.size + 1, 1, none⟩ (.bool badu)).setCell ⟨w.heap.size + 1, 2, none⟩ (.int .i64 tu)).setCell ⟨w.heap.size + 1, 3, none⟩ (.slice A2u wsu.length c2u)).setCell ⟨w.heap.size + 1, 5, none⟩ (.bool false)) = w5 at *
          have H : Hid (SP w [(w.heap.size, 32, #[.int .i64 now, .slice A l.length c]), (w.heap.size + 1, 81, #[.bool onu, .bool badu, .int .i64 tu, .slice A2u wsu.length c2u, .slice A3 ns.length c3, .bool false, .bool gone, .string inb]), (w.heap.size + 1 + 1, 94, #[.string sg, .string bd]), (w.heap.size + 1 + 1 + 1, 32, #[.int .i64 0, .slice none 0 0]), (w.heap.size + 1 + 1 + 1 + 1, 81, #[.bool false, .bool false, .int .i64 0, .slice none 0 0, .slice none 0 0, .bool false, .bool false, .string ⟨#[]⟩]), (w1.heap.size, 128, #[.int .i64 ak, .string aa, .string ab, .int .i64 an]), (g19, 32, #[.int .i64 nowu, .slice Au lu.length cu]), (g20, 78, #[.bool onu, .bool badu, .int .i64 tu, .slice A2u wsu.length c2u])] [fun W => VK W now A l, fun W => WK W A2 ws, fun W => NK W A3 ns, fun W => VK W nowu Au lu, fun W => WK W A2u wsu, fun W => RK W A3u rs c3u] w5) := Lib.hid H.out
          have l0 := (H.out.blk 0 rfl).lt
          have l1 := (H.out.blk 1 rfl).lt
          have l3 := (H.out.blk 3 rfl).lt
          have l4 := (H.out.blk 4 rfl).lt
          have l6 := (H.out.blk 6 rfl).lt
          have hB1_0 : ∀ W : World, Blk W (w.heap.size + 1) 81 #[.bool onu, .bool badu, .int .i64 tu, .slice A2u wsu.length c2u, .slice A3 ns.length c3, .bool false, .bool gone, .string inb] → W.cell? ⟨w.heap.size + 1, 0, none⟩ = some (.bool onu) := fun W h => h.cell 0
          have hB1_1 : ∀ W : World, Blk W (w.heap.size + 1) 81 #[.bool onu, .bool badu, .int .i64 tu, .slice A2u wsu.length c2u, .slice A3 ns.length c3, .bool false, .bool gone, .string inb] → W.cell? ⟨w.heap.size + 1, 1, none⟩ = some (.bool badu) := fun W h => h.cell 1
          have hB1_2 : ∀ W : World, Blk W (w.heap.size + 1) 81 #[.bool onu, .bool badu, .int .i64 tu, .slice A2u wsu.length c2u, .slice A3 ns.length c3, .bool false, .bool gone, .string inb] → W.cell? ⟨w.heap.size + 1, 2, none⟩ = some (.int .i64 tu) := fun W h => h.cell 2
          have hB1_3 : ∀ W : World, Blk W (w.heap.size + 1) 81 #[.bool onu, .bool badu, .int .i64 tu, .slice A2u wsu.length c2u, .slice A3 ns.length c3, .bool false, .bool gone, .string inb] → W.cell? ⟨w.heap.size + 1, 3, none⟩ = some (.slice A2u wsu.length c2u) := fun W h => h.cell 3
          have hB1_4 : ∀ W : World, Blk W (w.heap.size + 1) 81 #[.bool onu, .bool badu, .int .i64 tu, .slice A2u wsu.length c2u, .slice A3 ns.length c3, .bool false, .bool gone, .string inb] → W.cell? ⟨w.heap.size + 1, 4, none⟩ = some (.slice A3 ns.length c3) := fun W h => h.cell 4
          have hB1_5 : ∀ W : World, Blk W (w.heap.size + 1) 81 #[.bool onu, .bool badu, .int .i64 tu, .slice A2u wsu.length c2u, .slice A3 ns.length c3, .bool false, .bool gone, .string inb] → W.cell? ⟨w.heap.size + 1, 5, none⟩ = some (.bool false) := fun W h => h.cell 5
          have hB1_6 : ∀ W : World, Blk W (w.heap.size + 1) 81 #[.bool onu, .bool badu, .int .i64 tu, .slice A2u wsu.length c2u, .slice A3 ns.length c3, .bool false, .bool gone, .string inb] → W.cell? ⟨w.heap.size + 1, 6, none⟩ = some (.bool gone) := fun W h => h.cell 6
          have hB1_7 : ∀ W : World, Blk W (w.heap.size + 1) 81 #[.bool onu, .bool badu, .int .i64 tu, .slice A2u wsu.length c2u, .slice A3 ns.length c3, .bool false, .bool gone, .string inb] → W.cell? ⟨w.heap.size + 1, 7, none⟩ = some (.string inb) := fun W h => h.cell 7
          have hB6_0 : ∀ W : World, Blk W (g19) 32 #[.int .i64 nowu, .slice Au lu.length cu] → W.cell? ⟨g19, 0, none⟩ = some (.int .i64 nowu) := fun W h => h.cell 0
          have hB6_1 : ∀ W : World, Blk W (g19) 32 #[.int .i64 nowu, .slice Au lu.length cu] → W.cell? ⟨g19, 1, none⟩ = some (.slice Au lu.length cu) := fun W h => h.cell 1
          have hb1 : Blk w5 (w.heap.size + 1) 81 #[.bool onu, .bool badu, .int .i64 tu, .slice A2u wsu.length c2u, .slice A3 ns.length c3, .bool false, .bool gone, .string inb] := H.out.blk 1 rfl
          have hb6 : Blk w5 (g19) 32 #[.int .i64 nowu, .slice Au lu.length cu] := H.out.blk 6 rfl
          go_wp2_with fail
          replace H := Lib.hid (H.out.kept (kDB w5))
          go_region_held3 (fun W => Blk W (w.heap.size + 1) 81 #[.bool onu, .bool badu, .int .i64 tu, .slice A2u wsu.length c2u, .slice A3 ns.length c3, .bool false, .bool gone, .string inb] ∧ Blk W (g19) 32 #[.int .i64 nowu, .slice Au lu.length cu])
            ((refine ⟨?_, ?_⟩ <;> (repeat (first | (with_reducible assumption) | (with_reducible refine Blk.drew ?_) | (with_reducible refine Blk.alloc ?_ _) | (with_reducible refine Blk.far ?_ (by simp <;> omega) _)))))
            (first
              | (go_at_call 184
                 refine (l6Done_any A3u rs c3u 0 _ hlr (RK.sl (H.out.get 5 rfl)) HT2.out hd0 hd6).mono ?_
                 rintro e wz ⟨A4, L, c4, rfl, hoL, hlL, haL, hbz⟩
                 replace H := Lib.hid (SP.add (H.out.kept hbz) (fun W => LK W A4 L) LK.c (LK.of hoL haL (by first | omega | (simp at hlL; omega))))
                 have hc1 : Blk wz (w.heap.size + 1) 81 #[.bool onu, .bool badu, .int .i64 tu, .slice A2u wsu.length c2u, .slice A3 ns.length c3, .bool false, .bool gone, .string inb] := H.out.blk 1 rfl
                 have hc6 : Blk wz (g19) 32 #[.int .i64 nowu, .slice Au lu.length cu] := H.out.blk 6 rfl
                 have hkk : wz.cell? ⟨w.heap.size + 1 + 1 + 1, 0, none⟩ = some (.int .i64 0) ∧ wz.cell? ⟨w.heap.size + 1 + 1 + 1, 1, none⟩ = some (.slice none 0 0) ∧ wz.cell? ⟨w.heap.size + 1 + 1 + 1 + 1, 0, none⟩ = some (.bool false) ∧ wz.cell? ⟨w.heap.size + 1 + 1 + 1 + 1, 1, none⟩ = some (.bool false) ∧ wz.cell? ⟨w.heap.size + 1 + 1 + 1 + 1, 2, none⟩ = some (.int .i64 0) ∧ wz.cell? ⟨w.heap.size + 1 + 1 + 1 + 1, 3, none⟩ = some (.slice none 0 0) ∧ wz.cell? ⟨w.heap.size + 1 + 1 + 1 + 1, 4, none⟩ = some (.slice none 0 0) ∧ wz.cell? ⟨w.heap.size + 1 + 1 + 1 + 1, 5, none⟩ = some (.bool false) ∧ wz.cell? ⟨w.heap.size + 1 + 1 + 1 + 1, 6, none⟩ = some (.bool false) ∧ wz.cell? ⟨w.heap.size + 1 + 1 + 1 + 1, 7, none⟩ = some (.string ⟨#[]⟩) := ⟨(H.out.blk 3 rfl).cell 0, (H.out.blk 3 rfl).cell 1, (H.out.blk 4 rfl).cell 0, (H.out.blk 4 rfl).cell 1, (H.out.blk 4 rfl).cell 2, (H.out.blk 4 rfl).cell 3, (H.out.blk 4 rfl).cell 4, (H.out.blk 4 rfl).cell 5, (H.out.blk 4 rfl).cell 6, (H.out.blk 4 rfl).cell 7⟩
                 have hfz3 := fun j => (H.out.blk 3 rfl).frozen j
                 have hfz4 := fun j => (H.out.blk 4 rfl).frozen j
                 have hl3 := (H.out.blk 3 rfl).lt
                 have hl4 := (H.out.blk 4 rfl).lt
                 clear hoL hlL haL hbz))
          all_goals
            have HZ := Lib.hid (SP.set (SP.set (SP.set (SP.set (SP.set (SP.set (SP.set (SP.set (SP.set (SP.set (H.out) 3 0 (.int .i64 nowu) rfl (by decide)) 3 1 (.slice Au lu.length cu) rfl (by decide)) 4 0 (.bool onu) rfl (by decide)) 4 1 (.bool badu) rfl (by decide)) 4 2 (.int .i64 tu) rfl (by decide)) 4 3 (.slice A2u wsu.length c2u) rfl (by decide)) 4 4 (.slice A3 ns.length c3) rfl (by decide)) 4 5 (.bool false) rfl (by decide)) 4 6 (.bool gone) rfl (by decide)) 4 7 (.string inb) rfl (by decide))
            clear hB1_0 hB1_1 hB1_2 hB1_3 hB1_4 hB1_5 hB1_6 hB1_7 hB6_0 hB6_1
            go_wp2
            refine bodyPost_ret (v := .tuple #[.agg #[.int .i64 nowu, .slice Au lu.length cu], .agg #[.bool onu, .bool badu, .int .i64 tu, .slice A2u wsu.length c2u, .slice A3 ns.length c3, .bool false, .bool gone, .string inb], .slice A4 L.length c4]) ?_ rfl ⟨nowu, Au, lu, cu, onu, badu, tu, A2u, wsu, c2u, A3, ns, c3, false, gone, inb, A4, L, c4, rfl, HZ.out.get 3 rfl, HZ.out.get 4 rfl, HZ.out.get 2 rfl, HZ.out.get 6 rfl, HZ.out.below, Nat.le_refl _⟩
            simp [results, Try.results158, go_sem, hkk]
        have hdi : (d != 0) = true := by simp [bne, hd]
        have hdj : (d == 0) = false := beq_eq_false_iff_ne.2 hd
        obtain ⟨x1_0, x1_1, x1_2, x1_3, x1_4, x1_5, x1_6, x1_7⟩ := Blk.q8 (H.out.blk 1 rfl)
        obtain ⟨x7_0, x7_1, x7_2, x7_3⟩ := Blk.q4 (H.out.blk 7 rfl)
        obtain ⟨z1_0, z1_1, z1_2, z1_3, z1_4, z1_5, z1_6, z1_7⟩ := Blk.z8 (H.out.blk 1 rfl)
        have l0 := (H.out.blk 0 rfl).lt
        have l1 := (H.out.blk 1 rfl).lt
        have l3 := (H.out.blk 3 rfl).lt
        have l4 := (H.out.blk 4 rfl).lt
        have l6 := (H.out.blk 6 rfl).lt
        have l7 := (H.out.blk 7 rfl).lt
        go_upto_region 20 with fail
        have H := Lib.hid (SP.set (SP.set (SP.set (SP.set (SP.set (H.out) 1 0 (.bool onu) rfl (by decide)) 1 1 (.bool badu) rfl (by decide)) 1 2 (.int .i64 tu) rfl (by decide)) 1 3 (.slice A2u wsu.length c2u) rfl (by decide)) 1 5 (.bool true) rfl (by decide))
        clear x1_0 x1_1 x1_2 x1_3 x1_4 x1_5 x1_6 x1_7 x7_0 x7_1 x7_2 x7_3 z1_0 z1_1 z1_2 z1_3 z1_4 z1_5 z1_6 z1_7 l0 l1 l3 l4 l6 l7
        generalize (((((w4.setCell ⟨w.heap.size + 1, 0, none⟩ (.bool onu)).setCell ⟨w.heap.size + 1, 1, none⟩ (.bool badu)).setCell ⟨w.heap.size + 1, 2, none⟩ (.int .i64 tu)).setCell ⟨w.heap.size + 1, 3, none⟩ (.slice A2u wsu.length c2u)).setCell ⟨w.heap.size + 1, 5, none⟩ (.bool true)) = w5 at *
        have H : Hid (SP w [(w.heap.size, 32, #[.int .i64 now, .slice A l.length c]), (w.heap.size + 1, 81, #[.bool onu, .bool badu, .int .i64 tu, .slice A2u wsu.length c2u, .slice A3 ns.length c3, .bool true, .bool gone, .string inb]), (w.heap.size + 1 + 1, 94, #[.string sg, .string bd]), (w.heap.size + 1 + 1 + 1, 32, #[.int .i64 0, .slice none 0 0]), (w.heap.size + 1 + 1 + 1 + 1, 81, #[.bool false, .bool false, .int .i64 0, .slice none 0 0, .slice none 0 0, .bool false, .bool false, .string ⟨#[]⟩]), (w1.heap.size, 128, #[.int .i64 ak, .string aa, .string ab, .int .i64 an]), (g19, 32, #[.int .i64 nowu, .slice Au lu.length cu]), (g20, 78, #[.bool onu, .bool badu, .int .i64 tu, .slice A2u wsu.length c2u])] [fun W => VK W now A l, fun W => WK W A2 ws, fun W => NK W A3 ns, fun W => VK W nowu Au lu, fun W => WK W A2u wsu, fun W => RK W A3u rs c3u] w5) := Lib.hid H.out
        have l0 := (H.out.blk 0 rfl).lt
        have l1 := (H.out.blk 1 rfl).lt
        have l3 := (H.out.blk 3 rfl).lt
        have l4 := (H.out.blk 4 rfl).lt
        have l6 := (H.out.blk 6 rfl).lt
        have hB1_0 : ∀ W : World, Blk W (w.heap.size + 1) 81 #[.bool onu, .bool badu, .int .i64 tu, .slice A2u wsu.length c2u, .slice A3 ns.length c3, .bool true, .bool gone, .string inb] → W.cell? ⟨w.heap.size + 1, 0, none⟩ = some (.bool onu) := fun W h => h.cell 0
        have hB1_1 : ∀ W : World, Blk W (w.heap.size + 1) 81 #[.bool onu, .bool badu, .int .i64 tu, .slice A2u wsu.length c2u, .slice A3 ns.length c3, .bool true, .bool gone, .string inb] → W.cell? ⟨w.heap.size + 1, 1, none⟩ = some (.bool badu) := fun W h => h.cell 1
        have hB1_2 : ∀ W : World, Blk W (w.heap.size + 1) 81 #[.bool onu, .bool badu, .int .i64 tu, .slice A2u wsu.length c2u, .slice A3 ns.length c3, .bool true, .bool gone, .string inb] → W.cell? ⟨w.heap.size + 1, 2, none⟩ = some (.int .i64 tu) := fun W h => h.cell 2
        have hB1_3 : ∀ W : World, Blk W (w.heap.size + 1) 81 #[.bool onu, .bool badu, .int .i64 tu, .slice A2u wsu.length c2u, .slice A3 ns.length c3, .bool true, .bool gone, .string inb] → W.cell? ⟨w.heap.size + 1, 3, none⟩ = some (.slice A2u wsu.length c2u) := fun W h => h.cell 3
        have hB1_4 : ∀ W : World, Blk W (w.heap.size + 1) 81 #[.bool onu, .bool badu, .int .i64 tu, .slice A2u wsu.length c2u, .slice A3 ns.length c3, .bool true, .bool gone, .string inb] → W.cell? ⟨w.heap.size + 1, 4, none⟩ = some (.slice A3 ns.length c3) := fun W h => h.cell 4
        have hB1_5 : ∀ W : World, Blk W (w.heap.size + 1) 81 #[.bool onu, .bool badu, .int .i64 tu, .slice A2u wsu.length c2u, .slice A3 ns.length c3, .bool true, .bool gone, .string inb] → W.cell? ⟨w.heap.size + 1, 5, none⟩ = some (.bool true) := fun W h => h.cell 5
        have hB1_6 : ∀ W : World, Blk W (w.heap.size + 1) 81 #[.bool onu, .bool badu, .int .i64 tu, .slice A2u wsu.length c2u, .slice A3 ns.length c3, .bool true, .bool gone, .string inb] → W.cell? ⟨w.heap.size + 1, 6, none⟩ = some (.bool gone) := fun W h => h.cell 6
        have hB1_7 : ∀ W : World, Blk W (w.heap.size + 1) 81 #[.bool onu, .bool badu, .int .i64 tu, .slice A2u wsu.length c2u, .slice A3 ns.length c3, .bool true, .bool gone, .string inb] → W.cell? ⟨w.heap.size + 1, 7, none⟩ = some (.string inb) := fun W h => h.cell 7
        have hB6_0 : ∀ W : World, Blk W (g19) 32 #[.int .i64 nowu, .slice Au lu.length cu] → W.cell? ⟨g19, 0, none⟩ = some (.int .i64 nowu) := fun W h => h.cell 0
        have hB6_1 : ∀ W : World, Blk W (g19) 32 #[.int .i64 nowu, .slice Au lu.length cu] → W.cell? ⟨g19, 1, none⟩ = some (.slice Au lu.length cu) := fun W h => h.cell 1
        have hb1 : Blk w5 (w.heap.size + 1) 81 #[.bool onu, .bool badu, .int .i64 tu, .slice A2u wsu.length c2u, .slice A3 ns.length c3, .bool true, .bool gone, .string inb] := H.out.blk 1 rfl
        have hb6 : Blk w5 (g19) 32 #[.int .i64 nowu, .slice Au lu.length cu] := H.out.blk 6 rfl
        go_wp2_with fail
        replace H := Lib.hid (H.out.kept (kDB w5))
        go_region_held3 (fun W => Blk W (w.heap.size + 1) 81 #[.bool onu, .bool badu, .int .i64 tu, .slice A2u wsu.length c2u, .slice A3 ns.length c3, .bool true, .bool gone, .string inb] ∧ Blk W (g19) 32 #[.int .i64 nowu, .slice Au lu.length cu])
          ((refine ⟨?_, ?_⟩ <;> (repeat (first | (with_reducible assumption) | (with_reducible refine Blk.drew ?_) | (with_reducible refine Blk.alloc ?_ _) | (with_reducible refine Blk.far ?_ (by simp <;> omega) _)))))
          (first
            | (go_at_call 184
               refine (l6Done_any A3u rs c3u d _ hlr (RK.sl (H.out.get 5 rfl)) HT2.out hd0 hd6).mono ?_
               rintro e wz ⟨A4, L, c4, rfl, hoL, hlL, haL, hbz⟩
               replace H := Lib.hid (SP.add (H.out.kept hbz) (fun W => LK W A4 L) LK.c (LK.of hoL haL (by first | omega | (simp at hlL; omega))))
               have hc1 : Blk wz (w.heap.size + 1) 81 #[.bool onu, .bool badu, .int .i64 tu, .slice A2u wsu.length c2u, .slice A3 ns.length c3, .bool true, .bool gone, .string inb] := H.out.blk 1 rfl
               have hc6 : Blk wz (g19) 32 #[.int .i64 nowu, .slice Au lu.length cu] := H.out.blk 6 rfl
               have hkk : wz.cell? ⟨w.heap.size + 1 + 1 + 1, 0, none⟩ = some (.int .i64 0) ∧ wz.cell? ⟨w.heap.size + 1 + 1 + 1, 1, none⟩ = some (.slice none 0 0) ∧ wz.cell? ⟨w.heap.size + 1 + 1 + 1 + 1, 0, none⟩ = some (.bool false) ∧ wz.cell? ⟨w.heap.size + 1 + 1 + 1 + 1, 1, none⟩ = some (.bool false) ∧ wz.cell? ⟨w.heap.size + 1 + 1 + 1 + 1, 2, none⟩ = some (.int .i64 0) ∧ wz.cell? ⟨w.heap.size + 1 + 1 + 1 + 1, 3, none⟩ = some (.slice none 0 0) ∧ wz.cell? ⟨w.heap.size + 1 + 1 + 1 + 1, 4, none⟩ = some (.slice none 0 0) ∧ wz.cell? ⟨w.heap.size + 1 + 1 + 1 + 1, 5, none⟩ = some (.bool false) ∧ wz.cell? ⟨w.heap.size + 1 + 1 + 1 + 1, 6, none⟩ = some (.bool false) ∧ wz.cell? ⟨w.heap.size + 1 + 1 + 1 + 1, 7, none⟩ = some (.string ⟨#[]⟩) := ⟨(H.out.blk 3 rfl).cell 0, (H.out.blk 3 rfl).cell 1, (H.out.blk 4 rfl).cell 0, (H.out.blk 4 rfl).cell 1, (H.out.blk 4 rfl).cell 2, (H.out.blk 4 rfl).cell 3, (H.out.blk 4 rfl).cell 4, (H.out.blk 4 rfl).cell 5, (H.out.blk 4 rfl).cell 6, (H.out.blk 4 rfl).cell 7⟩
               have hfz3 := fun j => (H.out.blk 3 rfl).frozen j
               have hfz4 := fun j => (H.out.blk 4 rfl).frozen j
               have hl3 := (H.out.blk 3 rfl).lt
               have hl4 := (H.out.blk 4 rfl).lt
               clear hoL hlL haL hbz))
        all_goals
          have HZ := Lib.hid (SP.set (SP.set (SP.set (SP.set (SP.set (SP.set (SP.set (SP.set (SP.set (SP.set (H.out) 3 0 (.int .i64 nowu) rfl (by decide)) 3 1 (.slice Au lu.length cu) rfl (by decide)) 4 0 (.bool onu) rfl (by decide)) 4 1 (.bool badu) rfl (by decide)) 4 2 (.int .i64 tu) rfl (by decide)) 4 3 (.slice A2u wsu.length c2u) rfl (by decide)) 4 4 (.slice A3 ns.length c3) rfl (by decide)) 4 5 (.bool true) rfl (by decide)) 4 6 (.bool gone) rfl (by decide)) 4 7 (.string inb) rfl (by decide))
          clear hB1_0 hB1_1 hB1_2 hB1_3 hB1_4 hB1_5 hB1_6 hB1_7 hB6_0 hB6_1
          go_wp2
          refine bodyPost_ret (v := .tuple #[.agg #[.int .i64 nowu, .slice Au lu.length cu], .agg #[.bool onu, .bool badu, .int .i64 tu, .slice A2u wsu.length c2u, .slice A3 ns.length c3, .bool true, .bool gone, .string inb], .slice A4 L.length c4]) ?_ rfl ⟨nowu, Au, lu, cu, onu, badu, tu, A2u, wsu, c2u, A3, ns, c3, true, gone, inb, A4, L, c4, rfl, HZ.out.get 3 rfl, HZ.out.get 4 rfl, HZ.out.get 2 rfl, HZ.out.get 6 rfl, HZ.out.below, Nat.le_refl _⟩
          simp [results, Try.results158, go_sem, hkk]
  go_wp2_with fail
  refine (l6Leave_any _).mono ?_
  rintro e w1 ⟨rfl, hb1⟩
  replace H := Lib.hid (H.out.kept hb1)
  clear x2_0 x2_1 hb1
  obtain ⟨x2_0, x2_1⟩ := Blk.q2 (H.out.blk 2 rfl)
  have l0 := (H.out.blk 0 rfl).lt
  have l1 := (H.out.blk 1 rfl).lt
  have l2 := (H.out.blk 2 rfl).lt
  have l3 := (H.out.blk 3 rfl).lt
  have l4 := (H.out.blk 4 rfl).lt
  have hg5 := l4
  go_upto_region 22 with fail
  replace H : Hid (SP w [(w.heap.size, 32, #[.int .i64 now, .slice A l.length c]), (w.heap.size + 1, 81, #[.bool on, .bool bad, .int .i64 t, .slice A2 ws.length c2, .slice A3 ns.length c3, .bool skip, .bool gone, .string inb]), (w.heap.size + 1 + 1, 94, #[.string sg, .string bd]), (w.heap.size + 1 + 1 + 1, 32, #[.int .i64 0, .slice none 0 0]), (w.heap.size + 1 + 1 + 1 + 1, 81, #[.bool false, .bool false, .int .i64 0, .slice none 0 0, .slice none 0 0, .bool false, .bool false, .string ⟨#[]⟩]), (w1.heap.size, 81, #[.bool false, .bool false, .int .i64 0, .slice none 0 0, .slice none 0 0, .bool false, .bool true, .string ⟨#[]⟩]), (w1.heap.size + 1, 94, #[.string ⟨#[66]⟩, .string ⟨#[]⟩])] [fun W => VK W now A l, fun W => WK W A2 ws, fun W => NK W A3 ns] (((w1.alloc (.cells #[.bool false, .bool false, .int .i64 0, .slice none 0 0, .slice none 0 0, .bool false, .bool true, .string ⟨#[]⟩] 81)).alloc (.cells #[.string ⟨#[66]⟩, .string ⟨#[]⟩] 94)))) := Lib.hid (H.out.boxes [(81, #[.bool false, .bool false, .int .i64 0, .slice none 0 0, .slice none 0 0, .bool false, .bool true, .string ⟨#[]⟩]), (94, #[.string ⟨#[66]⟩, .string ⟨#[]⟩])])
  clear x2_0 x2_1 l0 l1 l2 l3 l4
  generalize (w1.alloc (.cells #[.bool false, .bool false, .int .i64 0, .slice none 0 0, .slice none 0 0, .bool false, .bool true, .string ⟨#[]⟩] 81)).alloc (.cells #[.string ⟨#[66]⟩, .string ⟨#[]⟩] 94) = w2 at *
  generalize w1.heap.size = g5 at *
  have np3 : g5 ≠ w.heap.size + 1 + 1 + 1 := by omega
  have mp3 : w.heap.size + 1 + 1 + 1 ≠ g5 := by omega
  have np4 : g5 ≠ w.heap.size + 1 + 1 + 1 + 1 := by omega
  have mp4 : w.heap.size + 1 + 1 + 1 + 1 ≠ g5 := by omega
  have nq3 : g5 + 1 ≠ w.heap.size + 1 + 1 + 1 := by omega
  have mq3 : w.heap.size + 1 + 1 + 1 ≠ g5 + 1 := by omega
  have nq4 : g5 + 1 ≠ w.heap.size + 1 + 1 + 1 + 1 := by omega
  have mq4 : w.heap.size + 1 + 1 + 1 + 1 ≠ g5 + 1 := by omega
  cases hX : (sg.toList == [88])
  case true =>
    obtain ⟨x0_0, x0_1⟩ := Blk.q2 (H.out.blk 0 rfl)
    obtain ⟨x1_0, x1_1, x1_2, x1_3, x1_4, x1_5, x1_6, x1_7⟩ := Blk.q8 (H.out.blk 1 rfl)
    obtain ⟨x2_0, x2_1⟩ := Blk.q2 (H.out.blk 2 rfl)
    obtain ⟨x3_0, x3_1⟩ := Blk.q2 (H.out.blk 3 rfl)
    obtain ⟨x4_0, x4_1, x4_2, x4_3, x4_4, x4_5, x4_6, x4_7⟩ := Blk.q8 (H.out.blk 4 rfl)
    obtain ⟨x5_0, x5_1, x5_2, x5_3, x5_4, x5_5, x5_6, x5_7⟩ := Blk.q8 (H.out.blk 5 rfl)
    obtain ⟨x6_0, x6_1⟩ := Blk.q2 (H.out.blk 6 rfl)
    obtain ⟨z3_0, z3_1⟩ := Blk.z2 (H.out.blk 3 rfl)
    obtain ⟨z4_0, z4_1, z4_2, z4_3, z4_4, z4_5, z4_6, z4_7⟩ := Blk.z8 (H.out.blk 4 rfl)
    have l0 := (H.out.blk 0 rfl).lt
    have l3 := (H.out.blk 3 rfl).lt
    have l4 := (H.out.blk 4 rfl).lt
    have l5 := (H.out.blk 5 rfl).lt
    have l6 := (H.out.blk 6 rfl).lt
    go_wp2_with fail
    go_region
    all_goals
      have hN1 := LK.oneH ((((((((((w2.setCell ⟨w.heap.size + 1 + 1 + 1, 0, none⟩ (.int .i64 now)).setCell ⟨w.heap.size + 1 + 1 + 1, 1, none⟩ (.slice A l.length c)).setCell ⟨w.heap.size + 1 + 1 + 1 + 1, 0, none⟩ (.bool false)).setCell ⟨w.heap.size + 1 + 1 + 1 + 1, 1, none⟩ (.bool false)).setCell ⟨w.heap.size + 1 + 1 + 1 + 1, 2, none⟩ (.int .i64 0)).setCell ⟨w.heap.size + 1 + 1 + 1 + 1, 3, none⟩ (.slice none 0 0)).setCell ⟨w.heap.size + 1 + 1 + 1 + 1, 4, none⟩ (.slice none 0 0)).setCell ⟨w.heap.size + 1 + 1 + 1 + 1, 5, none⟩ (.bool false)).setCell ⟨w.heap.size + 1 + 1 + 1 + 1, 6, none⟩ (.bool true)).setCell ⟨w.heap.size + 1 + 1 + 1 + 1, 7, none⟩ (.string ⟨#[]⟩)) (⟨#[66]⟩, ⟨#[]⟩) ⟨sB, Nat.zero_le _⟩ w2.heap.size (by simp only [World.size_setCell])
      have hlk := kFF ((((((((((w2.setCell ⟨w.heap.size + 1 + 1 + 1, 0, none⟩ (.int .i64 now)).setCell ⟨w.heap.size + 1 + 1 + 1, 1, none⟩ (.slice A l.length c)).setCell ⟨w.heap.size + 1 + 1 + 1 + 1, 0, none⟩ (.bool false)).setCell ⟨w.heap.size + 1 + 1 + 1 + 1, 1, none⟩ (.bool false)).setCell ⟨w.heap.size + 1 + 1 + 1 + 1, 2, none⟩ (.int .i64 0)).setCell ⟨w.heap.size + 1 + 1 + 1 + 1, 3, none⟩ (.slice none 0 0)).setCell ⟨w.heap.size + 1 + 1 + 1 + 1, 4, none⟩ (.slice none 0 0)).setCell ⟨w.heap.size + 1 + 1 + 1 + 1, 5, none⟩ (.bool false)).setCell ⟨w.heap.size + 1 + 1 + 1 + 1, 6, none⟩ (.bool true)).setCell ⟨w.heap.size + 1 + 1 + 1 + 1, 7, none⟩ (.string ⟨#[]⟩)) (.cells #[.string ⟨#[66]⟩, .string ⟨#[]⟩] 94)
      have HZ := Lib.hid (SP.kept (SP.add (SP.kept (SP.set (SP.set (SP.set (SP.set (SP.set (SP.set (SP.set (SP.set (SP.set (SP.set (H.out) 3 0 (.int .i64 now) rfl (by decide)) 3 1 (.slice A l.length c) rfl (by decide)) 4 0 (.bool false) rfl (by decide)) 4 1 (.bool false) rfl (by decide)) 4 2 (.int .i64 0) rfl (by decide)) 4 3 (.slice none 0 0) rfl (by decide)) 4 4 (.slice none 0 0) rfl (by decide)) 4 5 (.bool false) rfl (by decide)) 4 6 (.bool true) rfl (by decide)) 4 7 (.string ⟨#[]⟩) rfl (by decide)) hlk) (fun W => LK W (some ⟨w2.heap.size, 0, none⟩) [((⟨#[66]⟩, ⟨#[]⟩) : Let)]) LK.c hN1) (kDB _))
      clear hlk hN1
      go_wp2
      refine bodyPost_ret (v := .tuple #[.agg #[.int .i64 now, .slice A l.length c], .agg #[.bool false, .bool false, .int .i64 0, .slice none 0 0, .slice none 0 0, .bool false, .bool true, .string ⟨#[]⟩], .slice (some ⟨w2.heap.size, 0, none⟩) 1 1]) ?_ rfl ⟨now, A, l, c, false, false, 0, none, [], 0, none, [], 0, false, true, ⟨#[]⟩, some ⟨w2.heap.size, 0, none⟩, [(⟨#[66]⟩, ⟨#[]⟩)], 1, rfl, HZ.out.get 0 rfl, WK.nil _ _, NK.nil _ _, HZ.out.get 3 rfl, HZ.out.below, Nat.zero_le _⟩
      simp [results, Try.results158, go_sem, l3, l4, x3_0, x3_1, x4_0, x4_1, x4_2, x4_3, x4_4, x4_5, x4_6, x4_7]
  obtain ⟨x2_0, x2_1⟩ := Blk.q2 (H.out.blk 2 rfl)
  obtain ⟨x3_0, x3_1⟩ := Blk.q2 (H.out.blk 3 rfl)
  obtain ⟨x4_0, x4_1, x4_2, x4_3, x4_4, x4_5, x4_6, x4_7⟩ := Blk.q8 (H.out.blk 4 rfl)
  obtain ⟨z3_0, z3_1⟩ := Blk.z2 (H.out.blk 3 rfl)
  obtain ⟨z4_0, z4_1, z4_2, z4_3, z4_4, z4_5, z4_6, z4_7⟩ := Blk.z8 (H.out.blk 4 rfl)
  have l0 := (H.out.blk 0 rfl).lt
  have l3 := (H.out.blk 3 rfl).lt
  have l4 := (H.out.blk 4 rfl).lt
  have l5 := (H.out.blk 5 rfl).lt
  have l6 := (H.out.blk 6 rfl).lt
  have HCS := Lib.hid (code_size 1 (by decide))
  have hB0_0 : ∀ W : World, Blk W (w.heap.size) 32 #[.int .i64 now, .slice A l.length c] → W.cell? ⟨w.heap.size, 0, none⟩ = some (.int .i64 now) := fun W h => h.cell 0
  have hB0_1 : ∀ W : World, Blk W (w.heap.size) 32 #[.int .i64 now, .slice A l.length c] → W.cell? ⟨w.heap.size, 1, none⟩ = some (.slice A l.length c) := fun W h => h.cell 1
  have hB5_0 : ∀ W : World, Blk W (g5) 81 #[.bool false, .bool false, .int .i64 0, .slice none 0 0, .slice none 0 0, .bool false, .bool true, .string ⟨#[]⟩] → W.cell? ⟨g5, 0, none⟩ = some (.bool false) := fun W h => h.cell 0
  have hB5_1 : ∀ W : World, Blk W (g5) 81 #[.bool false, .bool false, .int .i64 0, .slice none 0 0, .slice none 0 0, .bool false, .bool true, .string ⟨#[]⟩] → W.cell? ⟨g5, 1, none⟩ = some (.bool false) := fun W h => h.cell 1
  have hB5_2 : ∀ W : World, Blk W (g5) 81 #[.bool false, .bool false, .int .i64 0, .slice none 0 0, .slice none 0 0, .bool false, .bool true, .string ⟨#[]⟩] → W.cell? ⟨g5, 2, none⟩ = some (.int .i64 0) := fun W h => h.cell 2
  have hB5_3 : ∀ W : World, Blk W (g5) 81 #[.bool false, .bool false, .int .i64 0, .slice none 0 0, .slice none 0 0, .bool false, .bool true, .string ⟨#[]⟩] → W.cell? ⟨g5, 3, none⟩ = some (.slice none 0 0) := fun W h => h.cell 3
  have hB5_4 : ∀ W : World, Blk W (g5) 81 #[.bool false, .bool false, .int .i64 0, .slice none 0 0, .slice none 0 0, .bool false, .bool true, .string ⟨#[]⟩] → W.cell? ⟨g5, 4, none⟩ = some (.slice none 0 0) := fun W h => h.cell 4
  have hB5_5 : ∀ W : World, Blk W (g5) 81 #[.bool false, .bool false, .int .i64 0, .slice none 0 0, .slice none 0 0, .bool false, .bool true, .string ⟨#[]⟩] → W.cell? ⟨g5, 5, none⟩ = some (.bool false) := fun W h => h.cell 5
  have hB5_6 : ∀ W : World, Blk W (g5) 81 #[.bool false, .bool false, .int .i64 0, .slice none 0 0, .slice none 0 0, .bool false, .bool true, .string ⟨#[]⟩] → W.cell? ⟨g5, 6, none⟩ = some (.bool true) := fun W h => h.cell 6
  have hB5_7 : ∀ W : World, Blk W (g5) 81 #[.bool false, .bool false, .int .i64 0, .slice none 0 0, .slice none 0 0, .bool false, .bool true, .string ⟨#[]⟩] → W.cell? ⟨g5, 7, none⟩ = some (.string ⟨#[]⟩) := fun W h => h.cell 7
  have hB6_0 : ∀ W : World, Blk W (g5 + 1) 94 #[.string ⟨#[66]⟩, .string ⟨#[]⟩] → W.cell? ⟨g5 + 1, 0, none⟩ = some (.string ⟨#[66]⟩) := fun W h => h.cell 0
  have hB6_1 : ∀ W : World, Blk W (g5 + 1) 94 #[.string ⟨#[66]⟩, .string ⟨#[]⟩] → W.cell? ⟨g5 + 1, 1, none⟩ = some (.string ⟨#[]⟩) := fun W h => h.cell 1
  have hb0 : Blk w2 (w.heap.size) 32 #[.int .i64 now, .slice A l.length c] := H.out.blk 0 rfl
  have hb5 : Blk w2 (g5) 81 #[.bool false, .bool false, .int .i64 0, .slice none 0 0, .slice none 0 0, .bool false, .bool true, .string ⟨#[]⟩] := H.out.blk 5 rfl
  have hb6 : Blk w2 (g5 + 1) 94 #[.string ⟨#[66]⟩, .string ⟨#[]⟩] := H.out.blk 6 rfl
  go_wp2_with fail
  replace H := Lib.hid (H.out.kept (kDB w2))
  go_region_held3 (fun W => Blk W (w.heap.size) 32 #[.int .i64 now, .slice A l.length c] ∧ Blk W (g5) 81 #[.bool false, .bool false, .int .i64 0, .slice none 0 0, .slice none 0 0, .bool false, .bool true, .string ⟨#[]⟩] ∧ Blk W (g5 + 1) 94 #[.string ⟨#[66]⟩, .string ⟨#[]⟩])
    ((refine ⟨?_, ?_, ?_⟩ <;> (repeat (first | (with_reducible assumption) | (with_reducible refine Blk.drew ?_) | (with_reducible refine Blk.alloc ?_ _) | (with_reducible refine Blk.far ?_ (by simp <;> omega) _)))))
    (first
      | (go_at_call 188
         refine (code_any 1 _ (by decide)).mono ?_
         rintro e wz ⟨rfl, hbz⟩
         generalize codeN 1 = sc at *
         replace H := Lib.hid (H.out.kept hbz)
         have hc0 : Blk wz (w.heap.size) 32 #[.int .i64 now, .slice A l.length c] := H.out.blk 0 rfl
         have hc5 : Blk wz (g5) 81 #[.bool false, .bool false, .int .i64 0, .slice none 0 0, .slice none 0 0, .bool false, .bool true, .string ⟨#[]⟩] := H.out.blk 5 rfl
         have hc6 : Blk wz (g5 + 1) 94 #[.string ⟨#[66]⟩, .string ⟨#[]⟩] := H.out.blk 6 rfl
         have hkk : wz.cell? ⟨w.heap.size + 1 + 1 + 1, 0, none⟩ = some (.int .i64 0) ∧ wz.cell? ⟨w.heap.size + 1 + 1 + 1, 1, none⟩ = some (.slice none 0 0) ∧ wz.cell? ⟨w.heap.size + 1 + 1 + 1 + 1, 0, none⟩ = some (.bool false) ∧ wz.cell? ⟨w.heap.size + 1 + 1 + 1 + 1, 1, none⟩ = some (.bool false) ∧ wz.cell? ⟨w.heap.size + 1 + 1 + 1 + 1, 2, none⟩ = some (.int .i64 0) ∧ wz.cell? ⟨w.heap.size + 1 + 1 + 1 + 1, 3, none⟩ = some (.slice none 0 0) ∧ wz.cell? ⟨w.heap.size + 1 + 1 + 1 + 1, 4, none⟩ = some (.slice none 0 0) ∧ wz.cell? ⟨w.heap.size + 1 + 1 + 1 + 1, 5, none⟩ = some (.bool false) ∧ wz.cell? ⟨w.heap.size + 1 + 1 + 1 + 1, 6, none⟩ = some (.bool false) ∧ wz.cell? ⟨w.heap.size + 1 + 1 + 1 + 1, 7, none⟩ = some (.string ⟨#[]⟩) := ⟨(H.out.blk 3 rfl).cell 0, (H.out.blk 3 rfl).cell 1, (H.out.blk 4 rfl).cell 0, (H.out.blk 4 rfl).cell 1, (H.out.blk 4 rfl).cell 2, (H.out.blk 4 rfl).cell 3, (H.out.blk 4 rfl).cell 4, (H.out.blk 4 rfl).cell 5, (H.out.blk 4 rfl).cell 6, (H.out.blk 4 rfl).cell 7⟩
         have hfz3 := fun j => (H.out.blk 3 rfl).frozen j
         have hfz4 := fun j => (H.out.blk 4 rfl).frozen j
         have hl3 := (H.out.blk 3 rfl).lt
         have hl4 := (H.out.blk 4 rfl).lt
         clear hbz))
  all_goals
    have hN1 := LK.two ((((((((((wz.setCell ⟨w.heap.size + 1 + 1 + 1, 0, none⟩ (.int .i64 now)).setCell ⟨w.heap.size + 1 + 1 + 1, 1, none⟩ (.slice A l.length c)).setCell ⟨w.heap.size + 1 + 1 + 1 + 1, 0, none⟩ (.bool false)).setCell ⟨w.heap.size + 1 + 1 + 1 + 1, 1, none⟩ (.bool false)).setCell ⟨w.heap.size + 1 + 1 + 1 + 1, 2, none⟩ (.int .i64 0)).setCell ⟨w.heap.size + 1 + 1 + 1 + 1, 3, none⟩ (.slice none 0 0)).setCell ⟨w.heap.size + 1 + 1 + 1 + 1, 4, none⟩ (.slice none 0 0)).setCell ⟨w.heap.size + 1 + 1 + 1 + 1, 5, none⟩ (.bool false)).setCell ⟨w.heap.size + 1 + 1 + 1 + 1, 6, none⟩ (.bool true)).setCell ⟨w.heap.size + 1 + 1 + 1 + 1, 7, none⟩ (.string ⟨#[]⟩)) (⟨#[69]⟩, sc) (⟨#[66]⟩, ⟨#[]⟩) ⟨sE, HCS.out⟩ ⟨sB, Nat.zero_le _⟩ wz.heap.size (by simp only [World.size_setCell])
    have hlk := kFF ((((((((((wz.setCell ⟨w.heap.size + 1 + 1 + 1, 0, none⟩ (.int .i64 now)).setCell ⟨w.heap.size + 1 + 1 + 1, 1, none⟩ (.slice A l.length c)).setCell ⟨w.heap.size + 1 + 1 + 1 + 1, 0, none⟩ (.bool false)).setCell ⟨w.heap.size + 1 + 1 + 1 + 1, 1, none⟩ (.bool false)).setCell ⟨w.heap.size + 1 + 1 + 1 + 1, 2, none⟩ (.int .i64 0)).setCell ⟨w.heap.size + 1 + 1 + 1 + 1, 3, none⟩ (.slice none 0 0)).setCell ⟨w.heap.size + 1 + 1 + 1 + 1, 4, none⟩ (.slice none 0 0)).setCell ⟨w.heap.size + 1 + 1 + 1 + 1, 5, none⟩ (.bool false)).setCell ⟨w.heap.size + 1 + 1 + 1 + 1, 6, none⟩ (.bool true)).setCell ⟨w.heap.size + 1 + 1 + 1 + 1, 7, none⟩ (.string ⟨#[]⟩)) (.cells #[.string ⟨#[69]⟩, .string sc, .string ⟨#[66]⟩, .string ⟨#[]⟩] 94)
    have HZ := Lib.hid (SP.add (SP.kept (SP.set (SP.set (SP.set (SP.set (SP.set (SP.set (SP.set (SP.set (SP.set (SP.set (H.out) 3 0 (.int .i64 now) rfl (by decide)) 3 1 (.slice A l.length c) rfl (by decide)) 4 0 (.bool false) rfl (by decide)) 4 1 (.bool false) rfl (by decide)) 4 2 (.int .i64 0) rfl (by decide)) 4 3 (.slice none 0 0) rfl (by decide)) 4 4 (.slice none 0 0) rfl (by decide)) 4 5 (.bool false) rfl (by decide)) 4 6 (.bool true) rfl (by decide)) 4 7 (.string ⟨#[]⟩) rfl (by decide)) hlk) (fun W => LK W (some ⟨wz.heap.size, 0, none⟩) [((⟨#[69]⟩, sc) : Let), (⟨#[66]⟩, ⟨#[]⟩)]) LK.c hN1)
    clear hlk hN1
    clear hB0_0 hB0_1 hB5_0 hB5_1 hB5_2 hB5_3 hB5_4 hB5_5 hB5_6 hB5_7 hB6_0 hB6_1
    go_wp2
    refine bodyPost_ret (v := .tuple #[.agg #[.int .i64 now, .slice A l.length c], .agg #[.bool false, .bool false, .int .i64 0, .slice none 0 0, .slice none 0 0, .bool false, .bool true, .string ⟨#[]⟩], .slice (some ⟨wz.heap.size, 0, none⟩) 2 2]) ?_ rfl ⟨now, A, l, c, false, false, 0, none, [], 0, none, [], 0, false, true, ⟨#[]⟩, some ⟨wz.heap.size, 0, none⟩, [(⟨#[69]⟩, sc), (⟨#[66]⟩, ⟨#[]⟩)], 2, rfl, HZ.out.get 0 rfl, WK.nil _ _, NK.nil _ _, HZ.out.get 3 rfl, HZ.out.below, Nat.zero_le _⟩
    simp [results, Try.results158, go_sem, hl3, hl4, hkk]
end Go.Proofs.Ytpjkcmmmpgncmaa
